/- The picture of an image with the tones of a palette: the reference and the program answer alike; no condition. -/
import Derived.Test.YtpphckfalgapdaaU3
import Derived.Test.YtpphckfalgapdaaU4
set_option linter.unusedVariables false
namespace Go.Proofs.Ytpphckfalgapdaa
open Go.BigFrame
open Go.RowKit Go.Arr
set_option maxHeartbeats 2000000 in
set_option maxRecDepth 100000 in
theorem cells_any (a b : Int) (f : Nat → Int) (ha : -128 ≤ a ∧ a ≤ 127) (hb : -128 ≤ b ∧ b ≤ 127) (w : World) :
    Calls Try.prog 38 #[.agg (pic 432 a b f)] w fun e w' => ∃ v, e = .returned v ∧ Row w' w.heap.size v (selN (cellN a b) 144) (fun j => (selG (cellN a b) 144 j : Int)) ∧ New w w' := by
  go_enter Try.func38, Try.ntmps38
  go_wp2_with (fail)
  go_loopw [3, 6] (fun v i wr => ∃ k : Nat, k ≤ 144 ∧ i = .int .i64 k ∧ Row wr (w.heap.size + 1) v (selN (cellN a b) k) (fun j => (selG (cellN a b) k j : Int)) ∧ Hid (obj wr w.heap.size = some (.cells (pic 432 a b f) 29)) ∧ New w wr ∧ w.heap.size + 1 ≤ wr.heap.size) (fun _ i _ => 144 - (intOf i).toNat)
  case atStart =>
    refine ⟨0, by omega, rfl, row_empty2 (by go_simp) (by omega), ?_, ?_, by simp⟩
    · show _ = _
      go_simp
    · exact ((New.refl w).alloc _).alloc _
  case round =>
    obtain ⟨k, hk, rfl, hrow, hp1, hn, hlw⟩ := hrel
    have hp := hp1.out
    by_cases hlt : k < 144
    · have hcc : isCellB ((k : Int) % 12) ((k : Int) / 12) a b = cellB k a b := cell_isCell k hlt a b
      cases hc : cellB k a b
      · have e1 : Hid (selN (cellN a b) (k + 1) = selN (cellN a b) k) := selN_f hc
        have e2 : Hid (selG (cellN a b) (k + 1) = selG (cellN a b) k) := selG_f hc
        rw [hc] at hcc
        clear hc
        go_wp2_with (go_at_call 60; refine (isCell_any _ _ _ _ ha hb _).mono ?_; rintro e w' ⟨rfl, rfl⟩; rw [hcc])
        go_roundw
        case rel => exact ⟨k + 1, by omega, by go_num, by rw [e1.out, e2.out]; exact hrow, hp1, hn, hlw⟩
        case measure => simp [intOf]; omega
      · have e1 : Hid (selN (cellN a b) (k + 1) = selN (cellN a b) k + 1) := selN_t hc
        have e2 : Hid (selG (cellN a b) (k + 1) = fun j => if j = selN (cellN a b) k then k else selG (cellN a b) k j) := selG_t hc
        have hle := selN_le (p := cellN a b) k
        rw [hc] at hcc
        clear hc
        go_wp2_with (first | (go_at_call 60; refine (isCell_any _ _ _ _ ha hb _).mono ?_; rintro e w' ⟨rfl, rfl⟩; rw [hcc]) | (at_builtin; refine wpList_app slInts rfl _ _ rfl (w.heap.size + 1) _ _ _ rfl (hrow.new ((New.refl _).alloc _)) ⟨wr.heap.size, 0, none⟩ 1 1 [.int .i64 k] rfl rfl (news_new _ _ _ _ _ rfl) (by simp [Value.oneCell']) (by omega) (by unfold maxLen; omega) (by omega) (by simp; omega) ?_))
        intro g1 cap1 w1 hown1 hg1 hat1 hlt1
        have hbk := hrow.block
        have hne1 : ∀ b, b < w.heap.size + 1 → some b ≠ u3.ownBlock := fun b hb e => by have := hbk b e.symm; omega
        have hn1 : New w w1 := grown_new (hn.alloc _) hg1 fun b hb => by have := hbk b hb; omega
        have hp' := hide ((grown_obj hg1 _ (by simp; omega) (hne1 _ (by omega))).trans ((obj_alloc_past _ _ _ (by omega)).trans hp))
        have hr1 := row_app2 hown1
        have hlw1 := grown_le hg1
        simp at hlw1
        clear hown1 hg1 hat1 hrow hp hn hp1
        go_wp2_with (fail)
        go_roundw
        case rel =>
          refine ⟨k + 1, by omega, by go_num, ?_, hp', hn1, by omega⟩
          rw [e1.out, e2.out]
          refine hr1.congr fun j hj => ?_
          unfold upd
          dsimp only
          by_cases e : j = selN (cellN a b) k
          · rw [if_pos e, if_pos e]
          · rw [if_neg e, if_neg e]
        case measure => simp [intOf]; omega
    · obtain rfl : k = 144 := by omega
      go_wp2_with (fail)
      go_ret
      exact ⟨_, rfl, hrow.lower (by omega), hn⟩
/-- one cell of the picture -/
def nearC (n : Nat) (fp fm : Nat → Int) (i : Nat) : Int := (nearK fp (fm (i * 3)) (fm (i * 3 + 1)) (fm (i * 3 + 2)) n).1 + 1
def stepP (n : Nat) (fp fm : Nat → Int) (q : Nat → Int) (i : Nat) : Nat → Int := upd q i (nearC n fp fm i)
def picS (n : Nat) (fp fm : Nat → Int) (a b : Int) : Nat → Nat → Int := recS (stepP n fp fm) (fun _ => 0) (cellN a b)
theorem nearC_b (n : Nat) (fp fm : Nat → Int) (i : Nat) (hn : n ≤ 15) : 0 ≤ nearC n fp fm i ∧ nearC n fp fm i ≤ 16 := by
  have := nearK_le fp (fm (i * 3)) (fm (i * 3 + 1)) (fm (i * 3 + 2)) n
  unfold nearC
  omega
def askOk (a b : Int) (fm : Nat → Int) (n : Nat) (fp : Nat → Int) : Bool := okImg a b fm && okPal n fp
set_option maxHeartbeats 1000000 in
theorem l02Asked_any (gm : Nat) (t0 : TypeId) (a b : Int) (fm : Nat → Int) (ha : -128 ≤ a ∧ a ≤ 127) (hb : -128 ≤ b ∧ b ≤ 127) (ad : Option Addr) (n c : Nat) (fp : Nat → Int) (hn : n ≤ 1048576) (W : World) (om : obj W gm = some (.cells (pic 432 a b fm) t0)) (hs : Sl W (.slice ad n c) n 3 .u8 fp) :
    Calls Try.prog 46 #[.pointer (some ⟨gm, 0, none⟩), .slice ad n c] W fun e w' => e = .returned (.int .i64 (if askOk a b fm n fp = true then 0 else 1)) ∧ New W w' := by
  unfold askOk
  cases h1 : okImg a b fm
  · go_enter Try.func46, Try.ntmps46
    go_wp2_with (fail)
    refine (l02Image_any _ t0 a b fm ha hb _ om).mono ?_
    rintro e w1 ⟨rfl, rfl⟩
    rw [h1]
    go_wp2_with (fail)
    go_ret
    exact ⟨rfl, New.refl _⟩
  cases h2 : okPal n fp
  all_goals
    go_enter Try.func46, Try.ntmps46
    go_wp2_with (fail)
    refine (l02Image_any _ t0 a b fm ha hb _ om).mono ?_
    rintro e w1 ⟨rfl, rfl⟩
    rw [h1]
    go_wp2_with (fail)
    refine (validPal_spec _ n _ fp hn _ hs).mono ?_
    rintro e w1 ⟨rfl, hn1⟩
    rw [h2]
    go_wp2_with (fail)
    go_ret
    exact ⟨rfl, hn1⟩
set_option maxHeartbeats 2000000 in
set_option maxRecDepth 100000 in
theorem l02Picture_any (gm : Nat) (t0 : TypeId) (a b : Int) (fm : Nat → Int) (ha : -128 ≤ a ∧ a ≤ 127) (hb : -128 ≤ b ∧ b ≤ 127) (hfm : ∀ i, 0 ≤ fm i ∧ fm i ≤ 255) (ad : Option Addr) (n c : Nat) (fp : Nat → Int) (hfp : ∀ i, 0 ≤ fp i ∧ fp i ≤ 255) (hp : 0 < n) (hn : n ≤ 15) (W : World) (om : obj W gm = some (.cells (pic 432 a b fm) t0)) (hs : Sl W (.slice ad n c) n 3 .u8 fp) :
    Calls Try.prog 48 #[.pointer (some ⟨gm, 0, none⟩), .slice ad n c] W fun e w' => e = .returned (.agg (pic 144 a b (picS n fp fm a b 144))) ∧ New W w' := by
  have qm := obj_lt om
  have qm2 : ∀ o : Obj, gm < (W.alloc o).heap.size := fun o => by simp; omega
  go_enter Try.func48, Try.ntmps48
  go_wp2_with (fail)
  go_region
  go_wp2_with (fail)
  go_loopw [6] (fun i wr => ∃ k : Nat, k ≤ 144 ∧ i = .int .i64 k ∧ Hid (obj wr (W.heap.size + 1) = some (.cells (pic 144 a b (picS n fp fm a b k)) 41)) ∧ Hid (obj wr W.heap.size = some (.cells (pic 144 0 0 fun _ => 0) 41)) ∧ New W wr) (fun i _ => 144 - (intOf i).toNat)
  case atStart =>
    refine ⟨0, by omega, rfl, ?_, ?_, ?_⟩
    · show _ = _
      go_simp
      rfl
    · show _ = _
      go_simp
    · exact (((New.refl W).alloc _).alloc _).drew
  case round =>
    obtain ⟨k, hk, rfl, ho1, hr1, hnw⟩ := hrel
    have ho := ho1.out
    have hr := hr1.out
    by_cases hlt : k < 144
    · have pm := (hnw.objs _ qm).trans om
      cases hc : cellB k a b
      · have hq : Hid (picS n fp fm a b (k + 1) = picS n fp fm a b k) := recS_f hc
        go_wp2_with (go_at_call 56; refine (l02Cell_any _ t0 a b fm _ ha hb _ pm).mono ?_; rintro e w' ⟨rfl, rfl⟩; rw [hc])
        go_roundw
        case rel => exact ⟨k + 1, by omega, by go_num, by rw [hq.out]; exact ho1, hr1, hnw⟩
        case measure => simp [intOf]; omega
      · have hq : Hid (picS n fp fm a b (k + 1) = upd (picS n fp fm a b k) k (nearC n fp fm k)) := recS_t hc
        have hx : (pic 432 a b fm).extract (2 + k * 3) (2 + k * 3 + 3) = #[.int .u8 (fm (k * 3)), .int .u8 (fm (k * 3 + 1)), .int .u8 (fm (k * 3 + 2))] := pic3 (by omega) rfl
        have l1 : 2 + k * 3 + 3 ≤ 434 := by omega
        have hle := nearK_le fp (fm (k * 3)) (fm (k * 3 + 1)) (fm (k * 3 + 2)) n
        have hv : Hid (((nearK fp (fm (k * 3)) (fm (k * 3 + 1)) (fm (k * 3 + 2)) n).1 : Int) + 1 = nearC n fp fm k) := rfl
        clear ho1 hr1
        go_wp2_with (go_at_call 56; refine (l02Cell_any _ t0 a b fm _ ha hb _ pm).mono ?_; rintro e w' ⟨rfl, rfl⟩; rw [hc])
        refine (l02Nearest_any ad n c fp _ _ _ (hfm _) (hfm _) (hfm _) hfp (by omega) hp _ (hs.new hnw)).mono ?_
        rintro e w1 ⟨rfl, hn1⟩
        have u1 := (hn1.objs _ (obj_lt ho)).trans ho
        have u2 := (hn1.objs _ (obj_lt hr)).trans hr
        go_wp2_with (fail)
        go_roundw
        case rel =>
          refine ⟨k + 1, by omega, by go_num, ?_, ?_, (hnw.trans hn1).setCell (by show W.heap.size ≤ W.heap.size + 1; omega) _⟩
          · show _ = _
            rw [obj_set_pic u1 _ k _ rfl, hv.out, hq.out]
          · show _ = _
            rw [obj_setCell_other _ _ _ _ _ (by omega), u2]
        case measure => simp [intOf]; omega
    · obtain rfl : k = 144 := by omega
      go_wp2_with (fail)
      refine ret_cell agg41 rfl rfl (c := pic 144 a b (picS n fp fm a b 144)) (t := 41) (fr := (0, 0)) (by rw [obj_setRow_same, hr]; simp only [Option.map_some, reCells_cells]) size_pic rfl ⟨rfl, hnw.setRow (by omega) _⟩
def pofA (a b : Int) (fm : Nat → Int) (n : Nat) (fp : Nat → Int) : Array Value := if askOk a b fm n fp = true then pic 144 a b (picS n fp fm a b 144) else pic 144 0 0 fun _ => 0
def pofC (a b : Int) (fm : Nat → Int) (n : Nat) (fp : Nat → Int) : Int := if askOk a b fm n fp = true then 0 else 1
theorem pof_t {a b : Int} {fm : Nat → Int} {n : Nat} {fp : Nat → Int} (h : askOk a b fm n fp = true) : pofA a b fm n fp = pic 144 a b (picS n fp fm a b 144) ∧ pofC a b fm n fp = 0 := ⟨if_pos h, if_pos h⟩
theorem pof_f {a b : Int} {fm : Nat → Int} {n : Nat} {fp : Nat → Int} (h : askOk a b fm n fp = false) : (pofA a b fm n fp = pic 144 0 0 fun _ => 0) ∧ pofC a b fm n fp = 1 := ⟨if_neg (by simp [h]), if_neg (by simp [h])⟩
theorem askOk_e {a b : Int} {fm : Nat → Int} {n : Nat} {fp : Nat → Int} (h : askOk a b fm n fp = true) : okImg a b fm = true ∧ okPal n fp = true := by
  unfold askOk at h
  exact Bool.and_eq_true _ _ ▸ h
theorem picT (n : Nat) (fp fm : Nat → Int) (a b : Int) : recT (stepP n fp fm) (fun _ => 0) (selG (cellN a b) 144) (selN (cellN a b) 144) = picS n fp fm a b 144 := rec_eq (Nat.le_refl _)
set_option maxHeartbeats 2000000 in
set_option maxRecDepth 100000 in
theorem pictureOf_impl (a b : Int) (fm : Nat → Int) (ha : -128 ≤ a ∧ a ≤ 127) (hb : -128 ≤ b ∧ b ≤ 127) (hfm : ∀ i, 0 ≤ fm i ∧ fm i ≤ 255) (ad : Option Addr) (n c : Nat) (fp : Nat → Int) (hfp : ∀ i, 0 ≤ fp i ∧ fp i ≤ 255) (hn : n ≤ 1048576) (hc : n ≤ c) (W : World) (hs : Sl W (.slice ad n c) n 3 .u8 fp) :
    Calls Try.prog 13 #[.agg (pic 432 a b fm), .slice ad n c] W fun e w' => e = .returned (.tuple #[.agg (pofA a b fm n fp), .int .i64 (pofC a b fm n fp)]) ∧ New W w' := by
  go_enter Try.func13, Try.ntmps13
  go_wp2_with (fail)
  generalize hw0 : ((W.alloc (Obj.cells (pic 432 a b fm) 29)).alloc (Obj.cells (pic 144 0 0 fun _ => 0) 41)) = w0
  have b1 : obj w0 W.heap.size = some (.cells (pic 432 a b fm) 29) := by subst hw0; go_simp
  have b2 : obj w0 (W.heap.size + 1) = some (.cells (pic 144 0 0 fun _ => 0) 41) := by subst hw0; go_simp
  have hn0 : New W w0 := by subst hw0; exact ((New.refl W).alloc _).alloc _
  have hs0 := hs.new hn0
  have hs2' := hide hs
  clear hw0 hs
  refine (validImage_impl a b fm ha hb _).mono ?_
  rintro e w1 ⟨rfl, hn1⟩
  have c1 := (hn1.objs _ (obj_lt b1)).trans b1
  have c2 := (hn1.objs _ (obj_lt b2)).trans b2
  have hs1 := hs0.new hn1
  have hN1 := hn0.trans hn1
  clear b1 b2 hs0 hn0 hn1
  cases h1 : okImg a b fm
  · have hok : Hid (askOk a b fm n fp = false) := by show _ = _; unfold askOk; rw [h1]; rfl
    clear h1
    go_wp2_with (fail)
    refine ret_cell_tmp agg41 rfl rfl (c := pic 144 0 0 fun _ => 0) (t := 41) (fr := (0, 0)) (by rw [obj_setRow_same, c2]; simp only [Option.map_some, reCells_cells]) size_pic rfl ⟨by rw [(pof_f hok.out).1, (pof_f hok.out).2]; rfl, hN1.setRow (by omega) _⟩
  go_wp2_with (fail)
  refine (validPal_impl _ n _ fp hn hc _ hs1).mono ?_
  rintro e w2 ⟨rfl, hn2⟩
  have d1 := (hn2.objs _ (obj_lt c1)).trans c1
  have d2 := (hn2.objs _ (obj_lt c2)).trans c2
  have hs2 := hs1.new hn2
  have hN2 := hN1.trans hn2
  clear c1 c2 hs1 hN1 hn2
  cases h2 : okPal n fp
  · have hok : Hid (askOk a b fm n fp = false) := by show _ = _; unfold askOk; rw [h2, Bool.and_false]
    clear h1 h2
    go_wp2_with (fail)
    refine ret_cell_tmp agg41 rfl rfl (c := pic 144 0 0 fun _ => 0) (t := 41) (fr := (0, 0)) (by rw [obj_setRow_same, d2]; simp only [Option.map_some, reCells_cells]) size_pic rfl ⟨by rw [(pof_f hok.out).1, (pof_f hok.out).2]; rfl, hN2.setRow (by omega) _⟩
  have hok : Hid (askOk a b fm n fp = true) := by show _ = _; unfold askOk; rw [h1, h2]; rfl
  have hp := okPal_pos h2
  clear h1 h2
  have r1 := obj_lt d1
  go_wp2_with (fail)
  generalize hw3 : w2.alloc (Obj.cells (pic 144 a b fun _ => 0) 41) = w3
  have t3 : obj w3 w2.heap.size = some (.cells (pic 144 a b fun _ => 0) 41) := by subst hw3; go_simp
  have hn3 : New w2 w3 := by subst hw3; exact (New.refl _).alloc _
  have hz3 : w3.heap.size = w2.heap.size + 1 := by subst hw3; simp
  have hWz := hN2.le
  clear hw3
  refine (cells_any a b fm ha hb _).mono ?_
  rintro e w4 ⟨v, rfl, hrow, hn4⟩
  obtain ⟨x, y, rfl, _⟩ := hrow.reads
  have hN4 := (hN2.trans hn3).trans hn4
  have f1 := (hn4.objs _ (by omega)).trans ((hn3.objs _ r1).trans d1)
  have f2 := (hn4.objs _ (by have := obj_lt d2; omega)).trans ((hn3.objs _ (obj_lt d2)).trans d2)
  have f3 := (hn4.objs _ (obj_lt t3)).trans t3
  have r2 := obj_lt d2
  have hle := selN_le (p := cellN a b) 144
  have hT := hide (picT n fp fm a b)
  have hz4 := hn4.le
  clear d1 d2 t3 hn3 hn4 hs2 hN2 r1
  have hsel := hide (selG_lt (p := cellN a b) 144)
  go_wp2_with (fail)
  generalize selN (cellN a b) 144 = N at hrow hle hT hsel ⊢
  go_loopw [28] (fun i wr => ∃ j : Nat, j ≤ N ∧ i = .int .i64 j ∧ Hid (obj wr w2.heap.size = some (.cells (pic 144 a b (recT (stepP n fp fm) (fun _ => 0) (selG (cellN a b) 144) j)) 41)) ∧ Hid (obj wr W.heap.size = some (.cells (pic 432 a b fm) 29)) ∧ Hid (obj wr (W.heap.size + 1) = some (.cells (pic 144 0 0 fun _ => 0) 41)) ∧ Row wr w3.heap.size (.slice x N y) N (fun j => (selG (cellN a b) 144 j : Int)) ∧ New W wr ∧ w3.heap.size ≤ wr.heap.size) (fun i _ => N - (intOf i).toNat)
  case atStart => exact ⟨0, by omega, rfl, f3, f1, f2, hrow, hN4, hz4⟩
  case round =>
    obtain ⟨j, hj, rfl, ho1, hm1, hr1, hrw, hnw, hlw⟩ := hrel
    have ho := ho1.out
    have hm := hm1.out
    have hr := hr1.out
    by_cases hlt : j < N
    · obtain ⟨hi1, hi2⟩ := hsel.out j hlt
      have hq : Hid (recT (stepP n fp fm) (fun _ => 0) (selG (cellN a b) 144) (j + 1) = upd (recT (stepP n fp fm) (fun _ => 0) (selG (cellN a b) 144) j) (selG (cellN a b) 144 j) (nearC n fp fm (selG (cellN a b) 144 j))) := rfl
      obtain ⟨gl, off, cur, t, fr, rfl, o1, hel⟩ := elInts hrw.sl (by omega)
      obtain ⟨l1, e1⟩ := hel j hlt
      try dsimp only at e1
      generalize selG (cellN a b) 144 j = i at hi1 hi2 hq e1
      have hx : (pic 432 a b fm).extract (2 + i * 3) (2 + i * 3 + 3) = #[.int .u8 (fm (i * 3)), .int .u8 (fm (i * 3 + 1)), .int .u8 (fm (i * 3 + 2))] := pic3 (by omega) rfl
      have lx : 2 + i * 3 + 3 ≤ 434 := by omega
      have hle2 := nearK_le fp (fm (i * 3)) (fm (i * 3 + 1)) (fm (i * 3 + 2)) n
      have hv : Hid (((nearK fp (fm (i * 3)) (fm (i * 3 + 1)) (fm (i * 3 + 2)) n).1 : Int) + 1 = nearC n fp fm i) := rfl
      have hbk := hrw.block
      clear ho1 hm1 hr1 hel
      go_wp2_with (fail)
      refine (nearest_any ad n c fp _ _ _ (hfm _) (hfm _) (hfm _) hfp (by omega) hp.1 _ (hs2'.out.new hnw)).mono ?_
      rintro e w5 ⟨rfl, hn5⟩
      have u1 := (hn5.objs _ (obj_lt ho)).trans ho
      have u2 := (hn5.objs _ (obj_lt hm)).trans hm
      have u3 := (hn5.objs _ (obj_lt hr)).trans hr
      have u4 := hrw.new hn5
      have hz5 := hn5.le
      go_wp2_with (fail)
      go_roundw
      case rel =>
        refine ⟨j + 1, by omega, by go_num, ?_, ?_, ?_, ?_, (hnw.trans hn5).setCell (by show W.heap.size ≤ w2.heap.size; omega) _, by rw [World.size_setCell]; omega⟩
        · show _ = _
          rw [obj_set_pic u1 _ i _ rfl, hv.out, hq.out]
        · show _ = _
          rw [obj_setCell_other _ _ _ _ _ (by omega), u2]
        · show _ = _
          rw [obj_setCell_other _ _ _ _ _ (by omega), u3]
        · exact u4.same fun b hb => obj_setCell_other _ _ _ _ _ (by have := hbk b hb; omega)
      case measure => simp [intOf]; omega
    · obtain rfl : j = N := by omega
      rw [hT.out] at ho
      go_wp2_with (fail)
      refine ret_cell_tmp agg41 rfl rfl (c := pic 144 a b (picS n fp fm a b 144)) (t := 41) (fr := (0, 0)) (by rw [obj_setRow_same, hr]; simp only [Option.map_some, reCells_cells]) size_pic rfl ⟨by rw [(pof_t hok.out).1, (pof_t hok.out).2]; rfl, hnw.setRow (by omega) _⟩
end Go.Proofs.Ytpphckfalgapdaa
/- Whether a palette has the colours of a picture: the reference and the program answer alike; no condition. -/
set_option linter.unusedVariables false
namespace Go.Proofs.Ytpphckfalgapdaa
open Go.BigFrame
open Go.RowKit Go.Arr
def hasC (n : Nat) (f : Nat → Int) : Bool := (List.range 144).all fun i => decide (f i ≤ n)
theorem hasC_t {n : Nat} {f : Nat → Int} (h : ∀ j, j < 144 → decide (f j ≤ n) = true) : hasC n f = true := List.all_eq_true.2 fun i hi => h i (by simpa using hi)
theorem hasC_f {n i : Nat} {f : Nat → Int} (hi : i < 144) (h : ¬ f i ≤ n) : hasC n f = false := List.all_eq_false.2 ⟨i, by simpa using hi, by simp [h]⟩
theorem hasC_e {n : Nat} {f : Nat → Int} (h : hasC n f = true) (i : Nat) (hi : i < 144) : f i ≤ n := of_decide_eq_true (List.all_eq_true.1 h i (by simpa using hi))
def hasV (a b : Int) (f : Nat → Int) (n : Nat) (fp : Nat → Int) : Int := if (okPic a b f && okPal n fp) = false then 1 else if hasC n f = false then 2 else 0
set_option maxHeartbeats 400000 in
theorem hasLit_any (x : Int) (hx : 0 ≤ x ∧ x ≤ 255) (ad : Option Addr) (n c bP : Nat) (w : World) (o1 : obj w bP = some (.cells #[.slice ad n c] 32)) :
    Calls Try.prog 70 #[.int .u8 x, .pointer (some ⟨bP, 0, none⟩)] w fun e w' => e = .returned (.bool (!decide (x ≤ n))) ∧ w = w' := by
  by_cases h : x ≤ n
  · go_enter Try.func70, Try.ntmps70
    go_wp2_with (fail)
    go_ret
    exact ⟨ret_b (by simp [h]), rfl⟩
  · go_enter Try.func70, Try.ntmps70
    go_wp2_with (fail)
    go_ret
    exact ⟨ret_b (by simp [h]), rfl⟩
set_option maxHeartbeats 1000000 in
set_option maxRecDepth 100000 in
theorem idxHas_any (a b : Int) (f : Nat → Int) (hf : ∀ i, 0 ≤ f i ∧ f i ≤ 255) (ad : Option Addr) (n c bP bQ : Nat) (t0 : TypeId) (W : World) (oq : obj W bQ = some (.cells (pic 144 a b f) t0)) (o1 : obj W bP = some (.cells #[.slice ad n c] 32)) :
    Calls Try.prog 84 #[.slice (some ⟨bQ, 2, none⟩) 144 144, .func (.func 70) #[] #[.pointer (some ⟨bP, 0, none⟩)]] W fun e w' => ∃ r : Int, e = .returned (.int .i64 r) ∧ -1 ≤ r ∧ (0 ≤ r ↔ hasC n f = false) ∧ W = w' := by
  go_enter Try.func84, Try.ntmps84
  go_wp2_with (fail)
  go_loop [8] (fun i => ∃ k : Nat, k ≤ 144 ∧ i = .int .i64 k ∧ Hid (∀ j, j < k → decide (f j ≤ n) = true)) (fun i => 144 - (intOf i).toNat)
  case atStart => exact ⟨0, by omega, rfl, fun j hj => absurd hj (by omega)⟩
  case round =>
    obtain ⟨k, hk, rfl, hal⟩ := hrel
    by_cases hlt : k < 144
    · by_cases hc : f k ≤ n
      · have hd := hide (decide_eq_true hc)
        go_wp2_with (go_at_call 70; refine (hasLit_any _ (hf _) ad n c bP _ o1).mono ?_; rintro e w1 ⟨rfl, rfl⟩; rw [hd.out])
        go_round
        case rel => exact ⟨k + 1, by omega, by go_num, all_succ (p := fun j => decide (f j ≤ n)) hal.out hd.out⟩
        case measure => simp [intOf]; omega
      · have hd := hide (decide_eq_false hc)
        have hh := hide (hasC_f hlt hc)
        go_wp2_with (go_at_call 70; refine (hasLit_any _ (hf _) ad n c bP _ o1).mono ?_; rintro e w1 ⟨rfl, rfl⟩; rw [hd.out])
        go_ret
        exact ⟨_, rfl, by omega, Iff.intro (fun _ => hh.out) (fun _ => by omega), rfl⟩
    · obtain rfl : k = 144 := by omega
      have hh := hide (hasC_t hal.out)
      clear hal
      go_wp2_with (fail)
      go_ret
      exact ⟨_, rfl, by omega, Iff.intro (fun h => absurd h (by omega)) (fun h => by rw [hh.out] at h; cases h), rfl⟩
set_option maxHeartbeats 400000 in
theorem anyHas_any (a b : Int) (f : Nat → Int) (hf : ∀ i, 0 ≤ f i ∧ f i ≤ 255) (ad : Option Addr) (n c bP bQ : Nat) (t0 : TypeId) (W : World) (oq : obj W bQ = some (.cells (pic 144 a b f) t0)) (o1 : obj W bP = some (.cells #[.slice ad n c] 32)) :
    Calls Try.prog 69 #[.slice (some ⟨bQ, 2, none⟩) 144 144, .func (.func 70) #[] #[.pointer (some ⟨bP, 0, none⟩)]] W fun e w' => e = .returned (.bool (!hasC n f)) ∧ W = w' := by
  go_enter Try.func69, Try.ntmps69
  go_wp2_with (fail)
  refine (idxHas_any a b f hf ad n c bP bQ t0 _ oq o1).mono ?_
  rintro e w1 ⟨r, rfl, hr, hiff, rfl⟩
  go_wp2_with (fail)
  go_ret
  exact ⟨rfl, rfl⟩
set_option maxHeartbeats 400000 in
theorem hasColours_any (a b : Int) (f : Nat → Int) (hf : ∀ i, 0 ≤ f i ∧ f i ≤ 255) (ad : Option Addr) (n c : Nat) (W : World) :
    Calls Try.prog 41 #[.agg (pic 144 a b f), .slice ad n c] W fun e w' => e = .returned (.bool (hasC n f)) ∧ New W w' := by
  go_enter Try.func41, Try.ntmps41
  go_wp2_with (fail)
  refine (anyHas_any a b f hf ad n c _ _ 41 _ (by go_simp) (by go_simp)).mono ?_
  rintro e w1 ⟨rfl, rfl⟩
  go_wp2_with (fail)
  go_ret
  exact ⟨ret_b (by simp), ((New.refl W).alloc _).alloc _⟩
end Go.Proofs.Ytpphckfalgapdaa
/- The cost of an image for a picture and a palette: the reference and the program answer alike; no condition. -/
set_option linter.unusedVariables false
namespace Go.Proofs.Ytpphckfalgapdaa
open Go.BigFrame
open Go.RowKit Go.Arr
def farI (fm f fp : Nat → Int) (i : Nat) : Int := far (fm (i * 3)) (fm (i * 3 + 1)) (fm (i * 3 + 2)) (fp (((f i).toNat - 1) * 3)) (fp (((f i).toNat - 1) * 3 + 1)) (fp (((f i).toNat - 1) * 3 + 2))
theorem far_b {a b c d e f : Int} (ha : 0 ≤ a ∧ a ≤ 255) (hb : 0 ≤ b ∧ b ≤ 255) (hc : 0 ≤ c ∧ c ≤ 255) (hd : 0 ≤ d ∧ d ≤ 255) (he : 0 ≤ e ∧ e ≤ 255) (hf : 0 ≤ f ∧ f ≤ 255) : 0 ≤ far a b c d e f ∧ far a b c d e f ≤ 1000000 := by
  have s1 := sq3 3 (a - d) (by omega) (by omega) (by omega)
  have s2 := sq3 6 (b - e) (by omega) (by omega) (by omega)
  have s3 := sq_le (c - f) (by omega) (by omega)
  unfold far
  omega
def costStep (fm f fp : Nat → Int) (s : Int) (i : Nat) : Int := if 0 < f i then s + farI fm f fp i else s
def costS (fm f fp : Nat → Int) : Nat → Int := recS (costStep fm f fp) 0 fun _ => true
theorem costS_t {fm f fp : Nat → Int} {k : Nat} (h : 0 < f k) : costS fm f fp (k + 1) = costS fm f fp k + farI fm f fp k := by
  unfold costS
  rw [recS_t rfl, costStep, if_pos h]
theorem costS_f {fm f fp : Nat → Int} {k : Nat} (h : ¬ 0 < f k) : costS fm f fp (k + 1) = costS fm f fp k := by
  unfold costS
  rw [recS_t rfl, costStep, if_neg h]
theorem costS_b {fm f fp : Nat → Int} (hm : ∀ i, 0 ≤ fm i ∧ fm i ≤ 255) (hp : ∀ i, 0 ≤ fp i ∧ fp i ≤ 255) (k : Nat) : 0 ≤ costS fm f fp k ∧ costS fm f fp k ≤ 1000000 * k := by
  induction k with
  | zero => simp [costS, recS]
  | succ k ih =>
    by_cases h : 0 < f k
    · rw [costS_t h]
      have := far_b (hm (k * 3)) (hm (k * 3 + 1)) (hm (k * 3 + 2)) (hp (((f k).toNat - 1) * 3)) (hp (((f k).toNat - 1) * 3 + 1)) (hp (((f k).toNat - 1) * 3 + 2))
      unfold farI
      omega
    · rw [costS_f h]; omega
/-- a loop over the cells alone comes to the same, where the others are bare -/
theorem cost_cells {fm f fp : Nat → Int} {p : Nat → Bool} (h : ∀ i, i < 144 → p i = false → f i = 0) (k : Nat) (hk : k ≤ 144) : recS (costStep fm f fp) 0 p k = costS fm f fp k := by
  induction k with
  | zero => rfl
  | succ k ih =>
    cases hp : p k
    · rw [recS_f hp, costS_f (by rw [h k (by omega) hp]; omega), ih (by omega)]
    · rw [recS_t hp, ih (by omega)]
      unfold costS
      rw [recS_t rfl]
theorem okPic_bare {a b : Int} {f : Nat → Int} (h : okPic a b f = true) (i : Nat) (hi : i < 144) (hc : cellN a b i = false) : f i = 0 := by
  unfold okPic at h
  rw [Bool.and_eq_true] at h
  have h1 := List.all_eq_true.1 h.2 i (by simpa using hi)
  unfold goodAt at h1
  rw [Bool.and_eq_true, Bool.or_eq_true] at h1
  rcases h1.2 with h2 | h2
  · unfold cellN at hc; rw [h2] at hc; cases hc
  · exact of_decide_eq_true h2
def costC (a b : Int) (fm : Nat → Int) (c d : Int) (f : Nat → Int) (n : Nat) (fp : Nat → Int) : Int := if okImg a b fm = false then 1 else if hasV c d f n fp = 1 then 1 else if a = c ∧ b = d then hasV c d f n fp else 4
def costV (a b : Int) (fm : Nat → Int) (c d : Int) (f : Nat → Int) (n : Nat) (fp : Nat → Int) : Int := if costC a b fm c d f n fp = 0 then costS fm f fp 144 else 0
theorem costV_0 {a b : Int} {fm : Nat → Int} {c d : Int} {f : Nat → Int} {n : Nat} {fp : Nat → Int} {k : Int} (h : costC a b fm c d f n fp = k) (hk : k ≠ 0) : costV a b fm c d f n fp = 0 := by unfold costV; rw [h]; exact if_neg hk
theorem costV_1 {a b : Int} {fm : Nat → Int} {c d : Int} {f : Nat → Int} {n : Nat} {fp : Nat → Int} (h : costC a b fm c d f n fp = 0) : costV a b fm c d f n fp = costS fm f fp 144 := by unfold costV; rw [h]; exact if_pos rfl
theorem hasV_cases (a b : Int) (f : Nat → Int) (n : Nat) (fp : Nat → Int) : (hasV a b f n fp = 1 ∧ (okPic a b f && okPal n fp) = false) ∨ (hasV a b f n fp = 2 ∧ (okPic a b f = true ∧ okPal n fp = true) ∧ hasC n f = false) ∨ (hasV a b f n fp = 0 ∧ (okPic a b f = true ∧ okPal n fp = true) ∧ hasC n f = true) := by
  unfold hasV
  cases h1 : okPic a b f <;> cases h2 : okPal n fp <;> cases h3 : hasC n f <;> simp
theorem costT_b {fm f fp : Nat → Int} (hm : ∀ i, 0 ≤ fm i ∧ fm i ≤ 255) (hp : ∀ i, 0 ≤ fp i ∧ fp i ≤ 255) (G : Nat → Nat) (j : Nat) : 0 ≤ recT (costStep fm f fp) 0 G j ∧ recT (costStep fm f fp) 0 G j ≤ 1000000 * j := by
  induction j with
  | zero => simp [recT]
  | succ j ih =>
    rw [recT]
    unfold costStep
    split
    · have := far_b (hm (G j * 3)) (hm (G j * 3 + 1)) (hm (G j * 3 + 2)) (hp (((f (G j)).toNat - 1) * 3)) (hp (((f (G j)).toNat - 1) * 3 + 1)) (hp (((f (G j)).toNat - 1) * 3 + 2))
      unfold farI
      have h1 : recT (fun s i => if 0 < f i then s + far (fm (i * 3)) (fm (i * 3 + 1)) (fm (i * 3 + 2)) (fp (((f i).toNat - 1) * 3)) (fp (((f i).toNat - 1) * 3 + 1)) (fp (((f i).toNat - 1) * 3 + 2)) else s) 0 G j = recT (costStep fm f fp) 0 G j := rfl
      rw [h1]
      omega
    · have h1 : recT (fun s i => if 0 < f i then s + farI fm f fp i else s) 0 G j = recT (costStep fm f fp) 0 G j := rfl
      rw [h1]
      omega
set_option maxHeartbeats 4000000 in
set_option maxRecDepth 100000 in
theorem costOf_impl (a b : Int) (fm : Nat → Int) (ha : -128 ≤ a ∧ a ≤ 127) (hb : -128 ≤ b ∧ b ≤ 127) (hfm : ∀ i, 0 ≤ fm i ∧ fm i ≤ 255) (c d : Int) (f : Nat → Int) (hc : -128 ≤ c ∧ c ≤ 127) (hd : -128 ≤ d ∧ d ≤ 127) (hf : ∀ i, 0 ≤ f i ∧ f i ≤ 255) (ad : Option Addr) (n cp : Nat) (fp : Nat → Int) (hfp : ∀ i, 0 ≤ fp i ∧ fp i ≤ 255) (hn : n ≤ 1048576) (hcp : n ≤ cp) (W : World) (hs : Sl W (.slice ad n cp) n 3 .u8 fp) :
    Calls Try.prog 14 #[.agg (pic 432 a b fm), .agg (pic 144 c d f), .slice ad n cp] W fun e w' => e = .returned (.tuple #[.int .i64 (costV a b fm c d f n fp), .int .i64 (costC a b fm c d f n fp)]) ∧ New W w' := by
  have hCd : Hid (costC a b fm c d f n fp = if okImg a b fm = false then 1 else if hasV c d f n fp = 1 then 1 else if a = c ∧ b = d then hasV c d f n fp else 4) := rfl
  have hs' := hide hs
  go_enter Try.func14, Try.ntmps14
  go_wp2_with (fail)
  generalize hw0 : ((W.alloc (Obj.cells (pic 432 a b fm) 29)).alloc (Obj.cells (pic 144 c d f) 41)) = w0
  have b1 : obj w0 W.heap.size = some (.cells (pic 432 a b fm) 29) := by subst hw0; go_simp
  have b2 : obj w0 (W.heap.size + 1) = some (.cells (pic 144 c d f) 41) := by subst hw0; go_simp
  have hN0 : New W w0 := by subst hw0; exact ((New.refl W).alloc _).alloc _
  clear hw0 hs
  refine (validImage_impl a b fm ha hb _).mono ?_
  rintro e w1 ⟨rfl, hn1⟩
  have c1 := (hn1.objs _ (obj_lt b1)).trans b1
  have c2 := (hn1.objs _ (obj_lt b2)).trans b2
  have hN1 := hN0.trans hn1
  clear b1 b2 hN0 hn1
  cases hok : okImg a b fm
  · have hC : Hid (costC a b fm c d f n fp = 1) := by show _ = _; rw [hCd.out, if_pos hok]
    clear hok
    go_wp2_with (fail)
    go_ret2
    exact ⟨by rw [costV_0 hC.out (by omega), hC.out]; rfl, hN1⟩
  have hCd2 : Hid (costC a b fm c d f n fp = if hasV c d f n fp = 1 then 1 else if a = c ∧ b = d then hasV c d f n fp else 4) := by show _ = _; rw [hCd.out, if_neg (by rw [hok]; simp)]
  clear hCd hok
  go_wp2_with (fail)
  refine (validPicture_impl c d f hc hd hf _).mono ?_
  rintro e w2 ⟨rfl, hn2⟩
  have d1 := (hn2.objs _ (obj_lt c1)).trans c1
  have d2 := (hn2.objs _ (obj_lt c2)).trans c2
  have hN2 := hN1.trans hn2
  clear c1 c2 hN1 hn2
  cases h1 : okPic c d f
  · have hC : Hid (costC a b fm c d f n fp = 1) := by show _ = _; rw [hCd2.out, if_pos]; unfold hasV; rw [h1]; exact if_pos rfl
    clear h1
    go_wp2_with (fail)
    go_ret2
    exact ⟨by rw [costV_0 hC.out (by omega), hC.out]; rfl, hN2⟩
  go_wp2_with (fail)
  refine (validPal_impl _ n _ fp hn hcp _ (hs'.out.new hN2)).mono ?_
  rintro e w3 ⟨rfl, hn3⟩
  have f1 := (hn3.objs _ (obj_lt d1)).trans d1
  have f2 := (hn3.objs _ (obj_lt d2)).trans d2
  have hN3 := hN2.trans hn3
  clear d1 d2 hN2 hn3
  cases h2 : okPal n fp
  · have hC : Hid (costC a b fm c d f n fp = 1) := by show _ = _; rw [hCd2.out, if_pos]; unfold hasV; rw [h2, Bool.and_false]; exact if_pos rfl
    clear h1 h2
    go_wp2_with (fail)
    go_ret2
    exact ⟨by rw [costV_0 hC.out (by omega), hC.out]; rfl, hN3⟩
  have hV : Hid (hasV c d f n fp = if hasC n f = false then 2 else 0) := by show _ = _; unfold hasV; rw [h1, h2]; exact if_neg (by simp)
  have hV1 : Hid (costC a b fm c d f n fp = if a = c ∧ b = d then (if hasC n f = false then 2 else 0) else 4) := by
    show _ = _
    rw [hCd2.out, hV.out, if_neg (by split <;> omega)]
  have hbare := hide (okPic_bare h1)
  have hp := okPal_pos h2
  clear hCd2 hV h1 h2
  by_cases e1 : a = c
  rotate_left
  · have hC : Hid (costC a b fm c d f n fp = 4) := by show _ = _; rw [hV1.out, if_neg (fun h => e1 h.1)]
    have m1 : (a != c) = true := by simp [e1]
    clear e1
    go_wp2_with (fail)
    go_ret2
    exact ⟨by rw [costV_0 hC.out (by omega), hC.out]; rfl, hN3⟩
  by_cases e2 : b = d
  rotate_left
  · have hC : Hid (costC a b fm c d f n fp = 4) := by show _ = _; rw [hV1.out, if_neg (fun h => e2 h.2)]
    have m1 : (a != c) = false := by simp [e1]
    have m2 : (b != d) = true := by simp [e2]
    clear e1 e2
    go_wp2_with (fail)
    go_ret2
    exact ⟨by rw [costV_0 hC.out (by omega), hC.out]; rfl, hN3⟩
  subst e1
  subst e2
  have m1 : (a != a) = false := by simp
  have m2 : (b != b) = false := by simp
  have hV2 : Hid (costC a b fm a b f n fp = if hasC n f = false then 2 else 0) := by show _ = _; rw [hV1.out]; exact if_pos ⟨rfl, rfl⟩
  clear hV1
  go_wp2_with (fail)
  refine (hasColours_any a b f hf _ n _ _).mono ?_
  rintro e w4 ⟨rfl, hn4⟩
  have g1 := (hn4.objs _ (obj_lt f1)).trans f1
  have g2 := (hn4.objs _ (obj_lt f2)).trans f2
  have hN4 := hN3.trans hn4
  clear f1 f2 hN3 hn4 m1 m2
  cases hh : hasC n f
  · have hC : Hid (costC a b fm a b f n fp = 2) := by show _ = _; rw [hV2.out, if_pos hh]
    clear hh
    go_wp2_with (fail)
    go_ret2
    exact ⟨by rw [costV_0 hC.out (by omega), hC.out]; rfl, hN4⟩
  have hC : Hid (costC a b fm a b f n fp = 0) := by show _ = _; rw [hV2.out, if_neg (by rw [hh]; simp)]
  have hhc := hide (hasC_e hh)
  clear hh hV2
  go_wp2_with (fail)
  refine (cells_any a b fm ha hb _).mono ?_
  rintro e w5 ⟨v, rfl, hrow, hn5⟩
  obtain ⟨x, y, rfl, _⟩ := hrow.reads
  have p1 := (hn5.objs _ (obj_lt g1)).trans g1
  have p2 := (hn5.objs _ (obj_lt g2)).trans g2
  have hN5 := hN4.trans hn5
  have hle := selN_le (p := cellN a b) 144
  have hT : Hid (recT (costStep fm f fp) 0 (selG (cellN a b) 144) (selN (cellN a b) 144) = costS fm f fp 144) := by
    show _ = _
    rw [rec_eq (Nat.le_refl _)]
    exact cost_cells hbare.out 144 (Nat.le_refl _)
  have hsel := hide (selG_lt (p := cellN a b) 144)
  have hsl := hrow.sl
  obtain ⟨gp, offp, curp, tp, frp, rfl, op, hel⟩ := elsPal (hs'.out.new hN5) hp.1
  have hel' := hide hel
  clear g1 g2 hN4 hn5 hrow hel hs'
  go_wp2_with (fail)
  generalize selN (cellN a b) 144 = N at hsl hle hT hsel ⊢
  go_loopw [47, 8] (fun i s wr => ∃ j : Nat, j ≤ N ∧ i = .int .i64 j ∧ s = .int .i64 (recT (costStep fm f fp) 0 (selG (cellN a b) 144) j) ∧ New w5 wr) (fun i _ _ => N - (intOf i).toNat)
  case atStart => exact ⟨0, by omega, rfl, rfl, New.refl _⟩
  case round =>
    obtain ⟨j, hj, rfl, rfl, hnw⟩ := hrel
    by_cases hlt : j < N
    · obtain ⟨hi1, hi2⟩ := hsel.out j hlt
      have hq : Hid (recT (costStep fm f fp) 0 (selG (cellN a b) 144) (j + 1) = costStep fm f fp (recT (costStep fm f fp) 0 (selG (cellN a b) 144) j) (selG (cellN a b) 144 j)) := rfl
      have hb1 := costT_b (f := f) hfm hfp (selG (cellN a b) 144) j
      obtain ⟨gl, off, cur, t, fr, rfl, o1, hel2⟩ := elInts (hsl.new hnw) (by omega)
      obtain ⟨l1, e1⟩ := hel2 j hlt
      try dsimp only at e1
      generalize selG (cellN a b) 144 j = i at hi1 hi2 hq e1
      have s1 := (hnw.objs _ (obj_lt p1)).trans p1
      have s2 := (hnw.objs _ (obj_lt p2)).trans p2
      have s3 := (hnw.objs _ (obj_lt op)).trans op
      have q1 := obj_lt s1
      have q2 := obj_lt s2
      have q3 := obj_lt s3
      have hfk := hf i
      clear hel2
      by_cases hpos : 0 < f i
      · have hle2 := hhc.out i hi1
        have ht : (f i).toNat - 1 < n := by omega
        obtain ⟨x2, l2⟩ := hel'.out _ ht
        have x1 : (pic 432 a b fm).extract (2 + i * 3) (2 + i * 3 + 3) = #[.int .u8 (fm (i * 3)), .int .u8 (fm (i * 3 + 1)), .int .u8 (fm (i * 3 + 2))] := pic3 (by omega) rfl
        have l3 : 2 + i * 3 + 3 ≤ 434 := by omega
        have hb2 := far_b (hfm (i * 3)) (hfm (i * 3 + 1)) (hfm (i * 3 + 2)) (hfp (((f i).toNat - 1) * 3)) (hfp (((f i).toNat - 1) * 3 + 1)) (hfp (((f i).toNat - 1) * 3 + 2))
        have hq2 : Hid (recT (costStep fm f fp) 0 (selG (cellN a b) 144) (j + 1) = recT (costStep fm f fp) 0 (selG (cellN a b) 144) j + far (fm (i * 3)) (fm (i * 3 + 1)) (fm (i * 3 + 2)) (fp (((f i).toNat - 1) * 3)) (fp (((f i).toNat - 1) * 3 + 1)) (fp (((f i).toNat - 1) * 3 + 2))) := by
          show _ = _
          rw [hq.out]
          exact if_pos hpos
        clear hle2 hq
        generalize recT (costStep fm f fp) 0 (selG (cellN a b) 144) j = S at hb1 hq2 ⊢
        go_wp2_with (fail)
        refine wp_region_new (by kernel_rfl) (by kernel_rfl) ?_
        repeat (go_big_quiet_step (first | fail | (go_at_call 42; with_reducible exact calls_new (far_impl _ _ _ (hfm _) (hfm _) (hfm _) _ _ _ (hfp _) (hfp _) (hfp _) _))))
        refine wpQuiet_nil ?_
        intro w1 hc1
        have hn1 := NewW.of hc1
        clear hc1
        have ho1 := hn1.objs
        have hz1 := hn1.le
        try simp at hz1
        go_wp2_with (fail)
        go_roundw
        case rel => exact ⟨j + 1, by omega, by go_num, by rw [hq2.out], hnw.trans hn1⟩
        case measure => simp [intOf]; omega
      · have hq2 : Hid (recT (costStep fm f fp) 0 (selG (cellN a b) 144) (j + 1) = recT (costStep fm f fp) 0 (selG (cellN a b) 144) j) := by
          show _ = _
          rw [hq.out]
          exact if_neg hpos
        clear hq
        go_wp2_with (fail)
        go_roundw
        case rel => exact ⟨j + 1, by omega, by go_num, by rw [hq2.out], hnw⟩
        case measure => simp [intOf]; omega
    · obtain rfl : j = N := by omega
      rw [hT.out]
      go_wp2_with (fail)
      go_ret2
      exact ⟨by rw [costV_1 hC.out, hC.out]; rfl, hN5.trans hnw⟩
end Go.Proofs.Ytpphckfalgapdaa
