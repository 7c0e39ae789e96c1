/- The picture of an image with the tones of a palette: the reference and the program answer alike; no condition. -/
import Derived.Test.YtphjhegaplochaaGreatDoorU6
import Derived.Test.YtphjhegaplochaaGreatDoorU4
set_option linter.unusedVariables false
namespace Go.Proofs.YtphjhegaplochaaGreatDoor
open Go.BigFrame
open Go.RowKit Go.Arr
set_option maxHeartbeats 2000000 in
set_option maxRecDepth 100000 in
theorem cells_any (a b : Int) (f : Nat → Int) (ha : -128 ≤ a ∧ a ≤ 127) (hb : -128 ≤ b ∧ b ≤ 127) (w : World) :
    Calls Tryz.prog 42 #[.agg (pic 432 a b f)] w fun e w' => ∃ v, e = .returned v ∧ Row w' w.heap.size v (selN (cellN a b) 144) (fun j => (selG (cellN a b) 144 j : Int)) ∧ New w w' := by
  go_enter Tryz.func42, Tryz.ntmps42
  go_wp2_with (fail)
  go_loopw [3, 6] (fun v i wr => ∃ k : Nat, k ≤ 144 ∧ i = .int .i64 k ∧ Row wr (w.heap.size + 1) v (selN (cellN a b) k) (fun j => (selG (cellN a b) k j : Int)) ∧ Hid (obj wr w.heap.size = some (.cells (pic 432 a b f) 29)) ∧ New w wr ∧ w.heap.size + 1 ≤ wr.heap.size) (fun _ i _ => 144 - (intOf i).toNat)
  case atStart =>
    refine ⟨0, by omega, rfl, row_empty2 (by go_simp) (by omega), ?_, ?_, by simp⟩
    · show _ = _
      go_simp
    · exact ((New.refl w).alloc _).alloc _
  case round =>
    obtain ⟨k, hk, rfl, hrow, hp1, hn, hlw⟩ := hrel
    have hp := hp1.out
    by_cases hlt : k < 144
    · have hcc : isCellB ((k : Int) % 12) ((k : Int) / 12) a b = cellB k a b := cell_isCell k hlt a b
      cases hc : cellB k a b
      · have e1 : Hid (selN (cellN a b) (k + 1) = selN (cellN a b) k) := selN_f hc
        have e2 : Hid (selG (cellN a b) (k + 1) = selG (cellN a b) k) := selG_f hc
        rw [hc] at hcc
        clear hc
        go_wp2_with (go_at_call 50; refine (isCell_any _ _ _ _ ha hb _).mono ?_; rintro e w' ⟨rfl, rfl⟩; rw [hcc])
        go_roundw
        case rel => exact ⟨k + 1, by omega, by go_num, by rw [e1.out, e2.out]; exact hrow, hp1, hn, hlw⟩
        case measure => simp [intOf]; omega
      · have e1 : Hid (selN (cellN a b) (k + 1) = selN (cellN a b) k + 1) := selN_t hc
        have e2 : Hid (selG (cellN a b) (k + 1) = fun j => if j = selN (cellN a b) k then k else selG (cellN a b) k j) := selG_t hc
        have hle := selN_le (p := cellN a b) k
        rw [hc] at hcc
        clear hc
        go_wp2_with (first | (go_at_call 50; refine (isCell_any _ _ _ _ ha hb _).mono ?_; rintro e w' ⟨rfl, rfl⟩; rw [hcc]) | (at_builtin; refine wpList_app slInts rfl _ _ rfl (w.heap.size + 1) _ _ _ rfl (hrow.new ((New.refl _).alloc _)) ⟨wr.heap.size, 0, none⟩ 1 1 [.int .i64 k] rfl rfl (news_new _ _ _ _ _ rfl) (by simp [Value.oneCell']) (by omega) (by unfold maxLen; omega) (by omega) (by simp; omega) ?_))
        intro g1 cap1 w1 hown1 hg1 hat1 hlt1
        have hbk := hrow.block
        have hne1 : ∀ b, b < w.heap.size + 1 → some b ≠ u3.ownBlock := fun b hb e => by have := hbk b e.symm; omega
        have hn1 : New w w1 := grown_new (hn.alloc _) hg1 fun b hb => by have := hbk b hb; omega
        have hp' := hide ((grown_obj hg1 _ (by simp; omega) (hne1 _ (by omega))).trans ((obj_alloc_past _ _ _ (by omega)).trans hp))
        have hr1 := row_app2 hown1
        have hlw1 := grown_le hg1
        simp at hlw1
        clear hown1 hg1 hat1 hrow hp hn hp1
        go_wp2_with (fail)
        go_roundw
        case rel =>
          refine ⟨k + 1, by omega, by go_num, ?_, hp', hn1, by omega⟩
          rw [e1.out, e2.out]
          refine hr1.congr fun j hj => ?_
          unfold upd
          dsimp only
          by_cases e : j = selN (cellN a b) k
          · rw [if_pos e, if_pos e]
          · rw [if_neg e, if_neg e]
        case measure => simp [intOf]; omega
    · obtain rfl : k = 144 := by omega
      go_wp2_with (fail)
      go_ret
      exact ⟨_, rfl, hrow.lower (by omega), hn⟩
/-- one cell of the picture -/
def nearC (n : Nat) (fp fm : Nat → Int) (i : Nat) : Int := (nearK fp (fm (i * 3)) (fm (i * 3 + 1)) (fm (i * 3 + 2)) n).1 + 1
def stepP (n : Nat) (fp fm : Nat → Int) (q : Nat → Int) (i : Nat) : Nat → Int := upd q i (nearC n fp fm i)
def picS (n : Nat) (fp fm : Nat → Int) (a b : Int) : Nat → Nat → Int := recS (stepP n fp fm) (fun _ => 0) (cellN a b)
theorem nearC_b (n : Nat) (fp fm : Nat → Int) (i : Nat) (hn : n ≤ 15) : 0 ≤ nearC n fp fm i ∧ nearC n fp fm i ≤ 16 := by
  have := nearK_le fp (fm (i * 3)) (fm (i * 3 + 1)) (fm (i * 3 + 2)) n
  unfold nearC
  omega
def askOk (a b : Int) (fm : Nat → Int) (n : Nat) (fp : Nat → Int) : Bool := okImg a b fm && okPal n fp
set_option maxHeartbeats 1000000 in
theorem l02Asked_any (gm : Nat) (t0 : TypeId) (a b : Int) (fm : Nat → Int) (ha : -128 ≤ a ∧ a ≤ 127) (hb : -128 ≤ b ∧ b ≤ 127) (ad : Option Addr) (n c : Nat) (fp : Nat → Int) (hn : n ≤ 1048576) (W : World) (om : obj W gm = some (.cells (pic 432 a b fm) t0)) (hs : Sl W (.slice ad n c) n 3 .u8 fp) :
    Calls Tryz.prog 44 #[.pointer (some ⟨gm, 0, none⟩), .slice ad n c] W fun e w' => e = .returned (.int .i64 (if askOk a b fm n fp = true then 0 else 1)) ∧ New W w' := by
  unfold askOk
  cases h1 : okImg a b fm
  · go_enter Tryz.func44, Tryz.ntmps44
    go_wp2_with (fail)
    refine (l02Image_any _ t0 a b fm ha hb _ om).mono ?_
    rintro e w1 ⟨rfl, rfl⟩
    rw [h1]
    go_wp2_with (fail)
    go_ret
    exact ⟨rfl, New.refl _⟩
  cases h2 : okPal n fp
  all_goals
    go_enter Tryz.func44, Tryz.ntmps44
    go_wp2_with (fail)
    refine (l02Image_any _ t0 a b fm ha hb _ om).mono ?_
    rintro e w1 ⟨rfl, rfl⟩
    rw [h1]
    go_wp2_with (fail)
    refine (validPal_spec _ n _ fp hn _ hs).mono ?_
    rintro e w1 ⟨rfl, hn1⟩
    rw [h2]
    go_wp2_with (fail)
    go_ret
    exact ⟨rfl, hn1⟩
set_option maxHeartbeats 2000000 in
set_option maxRecDepth 100000 in
theorem l02Picture_any (gm : Nat) (t0 : TypeId) (a b : Int) (fm : Nat → Int) (ha : -128 ≤ a ∧ a ≤ 127) (hb : -128 ≤ b ∧ b ≤ 127) (hfm : ∀ i, 0 ≤ fm i ∧ fm i ≤ 255) (ad : Option Addr) (n c : Nat) (fp : Nat → Int) (hfp : ∀ i, 0 ≤ fp i ∧ fp i ≤ 255) (hp : 0 < n) (hn : n ≤ 15) (W : World) (om : obj W gm = some (.cells (pic 432 a b fm) t0)) (hs : Sl W (.slice ad n c) n 3 .u8 fp) :
    Calls Tryz.prog 45 #[.pointer (some ⟨gm, 0, none⟩), .slice ad n c] W fun e w' => e = .returned (.agg (pic 144 a b (picS n fp fm a b 144))) ∧ New W w' := by
  have qm := obj_lt om
  have qm2 : ∀ o : Obj, gm < (W.alloc o).heap.size := fun o => by simp; omega
  go_enter Tryz.func45, Tryz.ntmps45
  go_wp2_with (fail)
  go_region
  go_wp2_with (fail)
  go_loopw [6] (fun i wr => ∃ k : Nat, k ≤ 144 ∧ i = .int .i64 k ∧ Hid (obj wr (W.heap.size + 1) = some (.cells (pic 144 a b (picS n fp fm a b k)) 39)) ∧ Hid (obj wr W.heap.size = some (.cells (pic 144 0 0 fun _ => 0) 39)) ∧ New W wr) (fun i _ => 144 - (intOf i).toNat)
  case atStart =>
    refine ⟨0, by omega, rfl, ?_, ?_, ?_⟩
    · show _ = _
      go_simp
      rfl
    · show _ = _
      go_simp
    · exact (((New.refl W).alloc _).alloc _).drew
  case round =>
    obtain ⟨k, hk, rfl, ho1, hr1, hnw⟩ := hrel
    have ho := ho1.out
    have hr := hr1.out
    by_cases hlt : k < 144
    · have pm := (hnw.objs _ qm).trans om
      cases hc : cellB k a b
      · have hq : Hid (picS n fp fm a b (k + 1) = picS n fp fm a b k) := recS_f hc
        go_wp2_with (go_at_call 52; refine (l02Cell_any _ t0 a b fm _ ha hb _ pm).mono ?_; rintro e w' ⟨rfl, rfl⟩; rw [hc])
        go_roundw
        case rel => exact ⟨k + 1, by omega, by go_num, by rw [hq.out]; exact ho1, hr1, hnw⟩
        case measure => simp [intOf]; omega
      · have hq : Hid (picS n fp fm a b (k + 1) = upd (picS n fp fm a b k) k (nearC n fp fm k)) := recS_t hc
        have hx : (pic 432 a b fm).extract (2 + k * 3) (2 + k * 3 + 3) = #[.int .u8 (fm (k * 3)), .int .u8 (fm (k * 3 + 1)), .int .u8 (fm (k * 3 + 2))] := pic3 (by omega) rfl
        have l1 : 2 + k * 3 + 3 ≤ 434 := by omega
        have hle := nearK_le fp (fm (k * 3)) (fm (k * 3 + 1)) (fm (k * 3 + 2)) n
        have hv : Hid (((nearK fp (fm (k * 3)) (fm (k * 3 + 1)) (fm (k * 3 + 2)) n).1 : Int) + 1 = nearC n fp fm k) := rfl
        clear ho1 hr1
        go_wp2_with (go_at_call 52; refine (l02Cell_any _ t0 a b fm _ ha hb _ pm).mono ?_; rintro e w' ⟨rfl, rfl⟩; rw [hc])
        refine (l02Nearest_any ad n c fp _ _ _ (hfm _) (hfm _) (hfm _) hfp (by omega) hp _ (hs.new hnw)).mono ?_
        rintro e w1 ⟨rfl, hn1⟩
        have u1 := (hn1.objs _ (obj_lt ho)).trans ho
        have u2 := (hn1.objs _ (obj_lt hr)).trans hr
        go_wp2_with (fail)
        go_roundw
        case rel =>
          refine ⟨k + 1, by omega, by go_num, ?_, ?_, (hnw.trans hn1).setCell (by show W.heap.size ≤ W.heap.size + 1; omega) _⟩
          · show _ = _
            rw [obj_set_pic u1 _ k _ rfl, hv.out, hq.out]
          · show _ = _
            rw [obj_setCell_other _ _ _ _ _ (by omega), u2]
        case measure => simp [intOf]; omega
    · obtain rfl : k = 144 := by omega
      go_wp2_with (fail)
      refine ret_cell agg39 rfl rfl (c := pic 144 a b (picS n fp fm a b 144)) (t := 39) (fr := (0, 0)) (by rw [obj_setRow_same, hr]; simp only [Option.map_some, reCells_cells]) size_pic rfl ⟨rfl, hnw.setRow (by omega) _⟩
def pofA (a b : Int) (fm : Nat → Int) (n : Nat) (fp : Nat → Int) : Array Value := if askOk a b fm n fp = true then pic 144 a b (picS n fp fm a b 144) else pic 144 0 0 fun _ => 0
def pofC (a b : Int) (fm : Nat → Int) (n : Nat) (fp : Nat → Int) : Int := if askOk a b fm n fp = true then 0 else 1
theorem pof_t {a b : Int} {fm : Nat → Int} {n : Nat} {fp : Nat → Int} (h : askOk a b fm n fp = true) : pofA a b fm n fp = pic 144 a b (picS n fp fm a b 144) ∧ pofC a b fm n fp = 0 := ⟨if_pos h, if_pos h⟩
theorem pof_f {a b : Int} {fm : Nat → Int} {n : Nat} {fp : Nat → Int} (h : askOk a b fm n fp = false) : (pofA a b fm n fp = pic 144 0 0 fun _ => 0) ∧ pofC a b fm n fp = 1 := ⟨if_neg (by simp [h]), if_neg (by simp [h])⟩
theorem askOk_e {a b : Int} {fm : Nat → Int} {n : Nat} {fp : Nat → Int} (h : askOk a b fm n fp = true) : okImg a b fm = true ∧ okPal n fp = true := by
  unfold askOk at h
  exact Bool.and_eq_true _ _ ▸ h
set_option maxHeartbeats 1000000 in
set_option maxRecDepth 100000 in
theorem pictureOf_spec (a b : Int) (fm : Nat → Int) (ha : -128 ≤ a ∧ a ≤ 127) (hb : -128 ≤ b ∧ b ≤ 127) (hfm : ∀ i, 0 ≤ fm i ∧ fm i ≤ 255) (ad : Option Addr) (n c : Nat) (fp : Nat → Int) (hfp : ∀ i, 0 ≤ fp i ∧ fp i ≤ 255) (hn : n ≤ 1048576) (W : World) (hs : Sl W (.slice ad n c) n 3 .u8 fp) :
    Calls Tryz.prog 10 #[.agg (pic 432 a b fm), .slice ad n c] W fun e w' => e = .returned (.tuple #[.agg (pofA a b fm n fp), .int .i64 (pofC a b fm n fp)]) ∧ New W w' := by
  cases hok : askOk a b fm n fp
  · rw [(pof_f hok).1, (pof_f hok).2]
    go_enter Tryz.func10, Tryz.ntmps10
    go_wp2_with (fail)
    generalize hw0 : ((W.alloc (Obj.cells (pic 432 a b fm) 29)).alloc (Obj.cells (pic 144 0 0 fun _ => 0) 39)) = w0
    have b1 : obj w0 W.heap.size = some (.cells (pic 432 a b fm) 29) := by subst hw0; go_simp
    have b2 : obj w0 (W.heap.size + 1) = some (.cells (pic 144 0 0 fun _ => 0) 39) := by subst hw0; go_simp
    have hn0 : New W w0 := by subst hw0; exact ((New.refl W).alloc _).alloc _
    have hs0 := hs.new hn0
    clear hw0 hs
    refine (l02Asked_any _ 29 a b fm ha hb ad n c fp hn _ b1 hs0).mono ?_
    rintro e w1 ⟨rfl, hn1⟩
    rw [hok]
    have c2 := (hn1.objs _ (obj_lt b2)).trans b2
    go_wp2_with (fail)
    refine ret_cell_tmp agg39 rfl rfl (c := pic 144 0 0 fun _ => 0) (t := 39) (fr := (0, 0)) (by rw [obj_setRow_same, c2]; simp only [Option.map_some, reCells_cells]) size_pic rfl ⟨rfl, (hn0.trans hn1).setRow (by omega) _⟩
  · rw [(pof_t hok).1, (pof_t hok).2]
    have hp := okPal_pos (askOk_e hok).2
    go_enter Tryz.func10, Tryz.ntmps10
    go_wp2_with (fail)
    generalize hw0 : ((W.alloc (Obj.cells (pic 432 a b fm) 29)).alloc (Obj.cells (pic 144 0 0 fun _ => 0) 39)) = w0
    have b1 : obj w0 W.heap.size = some (.cells (pic 432 a b fm) 29) := by subst hw0; go_simp
    have b2 : obj w0 (W.heap.size + 1) = some (.cells (pic 144 0 0 fun _ => 0) 39) := by subst hw0; go_simp
    have hn0 : New W w0 := by subst hw0; exact ((New.refl W).alloc _).alloc _
    have hs0 := hs.new hn0
    clear hw0 hs
    refine (l02Asked_any _ 29 a b fm ha hb ad n c fp hn _ b1 hs0).mono ?_
    rintro e w1 ⟨rfl, hn1⟩
    rw [hok]
    have c1 := (hn1.objs _ (obj_lt b1)).trans b1
    have c2 := (hn1.objs _ (obj_lt b2)).trans b2
    have hs1 := hs0.new hn1
    go_wp2_with (fail)
    refine (l02Picture_any _ 29 a b fm ha hb hfm ad n c fp hfp hp.1 hp.2 _ c1 hs1).mono ?_
    rintro e w2 ⟨rfl, hn2⟩
    have d2 := (hn2.objs _ (obj_lt c2)).trans c2
    go_wp2_with (fail)
    refine ret_cell_tmp agg39 rfl rfl (c := pic 144 a b (picS n fp fm a b 144)) (t := 39) (fr := (0, 0)) (by rw [obj_setRow_same, d2]; simp only [Option.map_some, reCells_cells]) size_pic rfl ⟨rfl, ((hn0.trans hn1).trans hn2).setRow (by omega) _⟩
theorem picT (n : Nat) (fp fm : Nat → Int) (a b : Int) : recT (stepP n fp fm) (fun _ => 0) (selG (cellN a b) 144) (selN (cellN a b) 144) = picS n fp fm a b 144 := rec_eq (Nat.le_refl _)
set_option maxHeartbeats 2000000 in
set_option maxRecDepth 100000 in
theorem pictureOf_impl (a b : Int) (fm : Nat → Int) (ha : -128 ≤ a ∧ a ≤ 127) (hb : -128 ≤ b ∧ b ≤ 127) (hfm : ∀ i, 0 ≤ fm i ∧ fm i ≤ 255) (ad : Option Addr) (n c : Nat) (fp : Nat → Int) (hfp : ∀ i, 0 ≤ fp i ∧ fp i ≤ 255) (hn : n ≤ 1048576) (hc : n ≤ c) (W : World) (hs : Sl W (.slice ad n c) n 3 .u8 fp) :
    Calls Tryz.prog 9 #[.agg (pic 432 a b fm), .slice ad n c] W fun e w' => e = .returned (.tuple #[.agg (pofA a b fm n fp), .int .i64 (pofC a b fm n fp)]) ∧ New W w' := by
  go_enter Tryz.func9, Tryz.ntmps9
  go_wp2_with (fail)
  generalize hw0 : ((W.alloc (Obj.cells (pic 432 a b fm) 29)).alloc (Obj.cells (pic 144 0 0 fun _ => 0) 39)) = w0
  have b1 : obj w0 W.heap.size = some (.cells (pic 432 a b fm) 29) := by subst hw0; go_simp
  have b2 : obj w0 (W.heap.size + 1) = some (.cells (pic 144 0 0 fun _ => 0) 39) := by subst hw0; go_simp
  have hn0 : New W w0 := by subst hw0; exact ((New.refl W).alloc _).alloc _
  have hs0 := hs.new hn0
  have hs2' := hide hs
  clear hw0 hs
  refine (validImage_impl a b fm ha hb _).mono ?_
  rintro e w1 ⟨rfl, hn1⟩
  have c1 := (hn1.objs _ (obj_lt b1)).trans b1
  have c2 := (hn1.objs _ (obj_lt b2)).trans b2
  have hs1 := hs0.new hn1
  have hN1 := hn0.trans hn1
  clear b1 b2 hs0 hn0 hn1
  cases h1 : okImg a b fm
  · have hok : Hid (askOk a b fm n fp = false) := by show _ = _; unfold askOk; rw [h1]; rfl
    clear h1
    go_wp2_with (fail)
    refine ret_cell_tmp agg39 rfl rfl (c := pic 144 0 0 fun _ => 0) (t := 39) (fr := (0, 0)) (by rw [obj_setRow_same, c2]; simp only [Option.map_some, reCells_cells]) size_pic rfl ⟨by rw [(pof_f hok.out).1, (pof_f hok.out).2]; rfl, hN1.setRow (by omega) _⟩
  go_wp2_with (fail)
  refine (validPal_impl _ n _ fp hn hc _ hs1).mono ?_
  rintro e w2 ⟨rfl, hn2⟩
  have d1 := (hn2.objs _ (obj_lt c1)).trans c1
  have d2 := (hn2.objs _ (obj_lt c2)).trans c2
  have hs2 := hs1.new hn2
  have hN2 := hN1.trans hn2
  clear c1 c2 hs1 hN1 hn2
  cases h2 : okPal n fp
  · have hok : Hid (askOk a b fm n fp = false) := by show _ = _; unfold askOk; rw [h2, Bool.and_false]
    clear h1 h2
    go_wp2_with (fail)
    refine ret_cell_tmp agg39 rfl rfl (c := pic 144 0 0 fun _ => 0) (t := 39) (fr := (0, 0)) (by rw [obj_setRow_same, d2]; simp only [Option.map_some, reCells_cells]) size_pic rfl ⟨by rw [(pof_f hok.out).1, (pof_f hok.out).2]; rfl, hN2.setRow (by omega) _⟩
  have hok : Hid (askOk a b fm n fp = true) := by show _ = _; unfold askOk; rw [h1, h2]; rfl
  have hp := okPal_pos h2
  clear h1 h2
  have r1 := obj_lt d1
  go_wp2_with (fail)
  generalize hw3 : w2.alloc (Obj.cells (pic 144 a b fun _ => 0) 39) = w3
  have t3 : obj w3 w2.heap.size = some (.cells (pic 144 a b fun _ => 0) 39) := by subst hw3; go_simp
  have hn3 : New w2 w3 := by subst hw3; exact (New.refl _).alloc _
  have hz3 : w3.heap.size = w2.heap.size + 1 := by subst hw3; simp
  have hWz := hN2.le
  clear hw3
  refine (cells_any a b fm ha hb _).mono ?_
  rintro e w4 ⟨v, rfl, hrow, hn4⟩
  obtain ⟨x, y, rfl, _⟩ := hrow.reads
  have hN4 := (hN2.trans hn3).trans hn4
  have f1 := (hn4.objs _ (by omega)).trans ((hn3.objs _ r1).trans d1)
  have f2 := (hn4.objs _ (by have := obj_lt d2; omega)).trans ((hn3.objs _ (obj_lt d2)).trans d2)
  have f3 := (hn4.objs _ (obj_lt t3)).trans t3
  have r2 := obj_lt d2
  have hle := selN_le (p := cellN a b) 144
  have hT := hide (picT n fp fm a b)
  have hz4 := hn4.le
  clear d1 d2 t3 hn3 hn4 hs2 hN2 r1
  have hsel := hide (selG_lt (p := cellN a b) 144)
  go_wp2_with (fail)
  generalize selN (cellN a b) 144 = N at hrow hle hT hsel ⊢
  go_loopw [28] (fun i wr => ∃ j : Nat, j ≤ N ∧ i = .int .i64 j ∧ Hid (obj wr w2.heap.size = some (.cells (pic 144 a b (recT (stepP n fp fm) (fun _ => 0) (selG (cellN a b) 144) j)) 39)) ∧ Hid (obj wr W.heap.size = some (.cells (pic 432 a b fm) 29)) ∧ Hid (obj wr (W.heap.size + 1) = some (.cells (pic 144 0 0 fun _ => 0) 39)) ∧ Row wr w3.heap.size (.slice x N y) N (fun j => (selG (cellN a b) 144 j : Int)) ∧ New W wr ∧ w3.heap.size ≤ wr.heap.size) (fun i _ => N - (intOf i).toNat)
  case atStart => exact ⟨0, by omega, rfl, f3, f1, f2, hrow, hN4, hz4⟩
  case round =>
    obtain ⟨j, hj, rfl, ho1, hm1, hr1, hrw, hnw, hlw⟩ := hrel
    have ho := ho1.out
    have hm := hm1.out
    have hr := hr1.out
    by_cases hlt : j < N
    · obtain ⟨hi1, hi2⟩ := hsel.out j hlt
      have hq : Hid (recT (stepP n fp fm) (fun _ => 0) (selG (cellN a b) 144) (j + 1) = upd (recT (stepP n fp fm) (fun _ => 0) (selG (cellN a b) 144) j) (selG (cellN a b) 144 j) (nearC n fp fm (selG (cellN a b) 144 j))) := rfl
      obtain ⟨gl, off, cur, t, fr, rfl, o1, hel⟩ := elInts hrw.sl (by omega)
      obtain ⟨l1, e1⟩ := hel j hlt
      try dsimp only at e1
      generalize selG (cellN a b) 144 j = i at hi1 hi2 hq e1
      have hx : (pic 432 a b fm).extract (2 + i * 3) (2 + i * 3 + 3) = #[.int .u8 (fm (i * 3)), .int .u8 (fm (i * 3 + 1)), .int .u8 (fm (i * 3 + 2))] := pic3 (by omega) rfl
      have lx : 2 + i * 3 + 3 ≤ 434 := by omega
      have hle2 := nearK_le fp (fm (i * 3)) (fm (i * 3 + 1)) (fm (i * 3 + 2)) n
      have hv : Hid (((nearK fp (fm (i * 3)) (fm (i * 3 + 1)) (fm (i * 3 + 2)) n).1 : Int) + 1 = nearC n fp fm i) := rfl
      have hbk := hrw.block
      clear ho1 hm1 hr1 hel
      go_wp2_with (fail)
      refine (nearest_any ad n c fp _ _ _ (hfm _) (hfm _) (hfm _) hfp (by omega) hp.1 _ (hs2'.out.new hnw)).mono ?_
      rintro e w5 ⟨rfl, hn5⟩
      have u1 := (hn5.objs _ (obj_lt ho)).trans ho
      have u2 := (hn5.objs _ (obj_lt hm)).trans hm
      have u3 := (hn5.objs _ (obj_lt hr)).trans hr
      have u4 := hrw.new hn5
      have hz5 := hn5.le
      go_wp2_with (fail)
      go_roundw
      case rel =>
        refine ⟨j + 1, by omega, by go_num, ?_, ?_, ?_, ?_, (hnw.trans hn5).setCell (by show W.heap.size ≤ w2.heap.size; omega) _, by rw [World.size_setCell]; omega⟩
        · show _ = _
          rw [obj_set_pic u1 _ i _ rfl, hv.out, hq.out]
        · show _ = _
          rw [obj_setCell_other _ _ _ _ _ (by omega), u2]
        · show _ = _
          rw [obj_setCell_other _ _ _ _ _ (by omega), u3]
        · exact u4.same fun b hb => obj_setCell_other _ _ _ _ _ (by have := hbk b hb; omega)
      case measure => simp [intOf]; omega
    · obtain rfl : j = N := by omega
      rw [hT.out] at ho
      go_wp2_with (fail)
      refine ret_cell_tmp agg39 rfl rfl (c := pic 144 a b (picS n fp fm a b 144)) (t := 39) (fr := (0, 0)) (by rw [obj_setRow_same, hr]; simp only [Option.map_some, reCells_cells]) size_pic rfl ⟨by rw [(pof_t hok.out).1, (pof_t hok.out).2]; rfl, hnw.setRow (by omega) _⟩
end Go.Proofs.YtphjhegaplochaaGreatDoor
/- Whether a palette has the colours of a picture: the reference and the program answer alike; no condition. -/
set_option linter.unusedVariables false
namespace Go.Proofs.YtphjhegaplochaaGreatDoor
open Go.BigFrame
open Go.RowKit Go.Arr
def hasC (n : Nat) (f : Nat → Int) : Bool := (List.range 144).all fun i => decide (f i ≤ n)
theorem hasC_t {n : Nat} {f : Nat → Int} (h : ∀ j, j < 144 → decide (f j ≤ n) = true) : hasC n f = true := List.all_eq_true.2 fun i hi => h i (by simpa using hi)
theorem hasC_f {n i : Nat} {f : Nat → Int} (hi : i < 144) (h : ¬ f i ≤ n) : hasC n f = false := List.all_eq_false.2 ⟨i, by simpa using hi, by simp [h]⟩
theorem hasC_e {n : Nat} {f : Nat → Int} (h : hasC n f = true) (i : Nat) (hi : i < 144) : f i ≤ n := of_decide_eq_true (List.all_eq_true.1 h i (by simpa using hi))
def hasV (a b : Int) (f : Nat → Int) (n : Nat) (fp : Nat → Int) : Int := if (okPic a b f && okPal n fp) = false then 1 else if hasC n f = false then 2 else 0
set_option maxHeartbeats 1000000 in
set_option maxRecDepth 100000 in
theorem l02Has_any (gq : Nat) (t0 : TypeId) (a b : Int) (f : Nat → Int) (ha : -128 ≤ a ∧ a ≤ 127) (hb : -128 ≤ b ∧ b ≤ 127) (hf : ∀ i, 0 ≤ f i ∧ f i ≤ 255) (ad : Option Addr) (n c : Nat) (fp : Nat → Int) (hn : n ≤ 1048576) (W : World) (oq : obj W gq = some (.cells (pic 144 a b f) t0)) (hs : Sl W (.slice ad n c) n 3 .u8 fp) :
    Calls Tryz.prog 47 #[.pointer (some ⟨gq, 0, none⟩), .slice ad n c] W fun e w' => e = .returned (.int .i64 (hasV a b f n fp)) ∧ New W w' := by
  cases h1 : okPic a b f
  · have hv : hasV a b f n fp = 1 := if_pos (by rw [h1]; rfl)
    rw [hv]
    clear hv
    go_enter Tryz.func47, Tryz.ntmps47
    go_wp2_with (fail)
    refine (l01Ok_any _ t0 a b f ha hb hf _ oq).mono ?_
    rintro e w1 ⟨rfl, rfl⟩
    rw [h1]
    go_wp2_with (fail)
    go_ret
    exact ⟨rfl, New.refl _⟩
  cases h2 : okPal n fp
  · have hv : hasV a b f n fp = 1 := if_pos (by rw [h2, Bool.and_false])
    rw [hv]
    clear hv
    go_enter Tryz.func47, Tryz.ntmps47
    go_wp2_with (fail)
    refine (l01Ok_any _ t0 a b f ha hb hf _ oq).mono ?_
    rintro e w1 ⟨rfl, rfl⟩
    rw [h1]
    go_wp2_with (fail)
    refine (validPal_spec _ n _ fp hn _ hs).mono ?_
    rintro e w1 ⟨rfl, hn1⟩
    rw [h2]
    go_wp2_with (fail)
    go_ret
    exact ⟨rfl, hn1⟩
  have hv : Hid (hasV a b f n fp = if hasC n f = false then 2 else 0) := by show _ = _; unfold hasV; rw [h1, h2]; exact if_neg (by simp)
  go_enter Tryz.func47, Tryz.ntmps47
  go_wp2_with (fail)
  refine (l01Ok_any _ t0 a b f ha hb hf _ oq).mono ?_
  rintro e w1 ⟨rfl, rfl⟩
  rw [h1]
  go_wp2_with (fail)
  refine (validPal_spec _ n _ fp hn _ hs).mono ?_
  rintro e w1 ⟨rfl, hn1⟩
  rw [h2]
  have o1 := (hn1.objs _ (obj_lt oq)).trans oq
  clear oq h1 h2
  go_wp2_with (fail)
  go_loop [5] (fun i => ∃ k : Nat, k ≤ 144 ∧ i = .int .i64 k ∧ Hid (∀ j, j < k → decide (f j ≤ n) = true)) (fun i => 144 - (intOf i).toNat)
  case atStart => exact ⟨0, by omega, rfl, fun j hj => absurd hj (by omega)⟩
  case round =>
    obtain ⟨k, hk, rfl, hal⟩ := hrel
    by_cases hlt : k < 144
    · have hfk := hf k
      by_cases hc : f k ≤ n
      · have hd : Hid (decide (f k ≤ n) = true) := decide_eq_true hc
        go_wp2_with (fail)
        go_round
        case rel => exact ⟨k + 1, by omega, by go_num, all_succ (p := fun j => decide (f j ≤ n)) hal.out hd.out⟩
        case measure => simp [intOf]; omega
      · have hd := hide (hasC_f hlt hc)
        go_wp2_with (fail)
        go_ret
        exact ⟨by rw [hv.out, if_pos hd.out]; rfl, hn1⟩
    · obtain rfl : k = 144 := by omega
      have hd := hide (hasC_t hal.out)
      clear hal
      go_wp2_with (fail)
      go_ret
      exact ⟨by rw [hv.out, if_neg (by rw [hd.out]; simp)]; rfl, hn1⟩
set_option maxHeartbeats 400000 in
theorem hasLit_any (x : Int) (hx : 0 ≤ x ∧ x ≤ 255) (ad : Option Addr) (n c bP : Nat) (w : World) (o1 : obj w bP = some (.cells #[.slice ad n c] 32)) :
    Calls Tryz.prog 89 #[.int .u8 x, .pointer (some ⟨bP, 0, none⟩)] w fun e w' => e = .returned (.bool (!decide (x ≤ n))) ∧ w = w' := by
  by_cases h : x ≤ n
  · go_enter Tryz.func89, Tryz.ntmps89
    go_wp2_with (fail)
    go_ret
    exact ⟨ret_b (by simp [h]), rfl⟩
  · go_enter Tryz.func89, Tryz.ntmps89
    go_wp2_with (fail)
    go_ret
    exact ⟨ret_b (by simp [h]), rfl⟩
set_option maxHeartbeats 1000000 in
set_option maxRecDepth 100000 in
theorem idxHas_any (a b : Int) (f : Nat → Int) (hf : ∀ i, 0 ≤ f i ∧ f i ≤ 255) (ad : Option Addr) (n c bP bQ : Nat) (t0 : TypeId) (W : World) (oq : obj W bQ = some (.cells (pic 144 a b f) t0)) (o1 : obj W bP = some (.cells #[.slice ad n c] 32)) :
    Calls Tryz.prog 107 #[.slice (some ⟨bQ, 2, none⟩) 144 144, .func (.func 89) #[] #[.pointer (some ⟨bP, 0, none⟩)]] W fun e w' => ∃ r : Int, e = .returned (.int .i64 r) ∧ -1 ≤ r ∧ (0 ≤ r ↔ hasC n f = false) ∧ W = w' := by
  go_enter Tryz.func107, Tryz.ntmps107
  go_wp2_with (fail)
  go_loop [8] (fun i => ∃ k : Nat, k ≤ 144 ∧ i = .int .i64 k ∧ Hid (∀ j, j < k → decide (f j ≤ n) = true)) (fun i => 144 - (intOf i).toNat)
  case atStart => exact ⟨0, by omega, rfl, fun j hj => absurd hj (by omega)⟩
  case round =>
    obtain ⟨k, hk, rfl, hal⟩ := hrel
    by_cases hlt : k < 144
    · by_cases hc : f k ≤ n
      · have hd := hide (decide_eq_true hc)
        go_wp2_with (go_at_call 89; refine (hasLit_any _ (hf _) ad n c bP _ o1).mono ?_; rintro e w1 ⟨rfl, rfl⟩; rw [hd.out])
        go_round
        case rel => exact ⟨k + 1, by omega, by go_num, all_succ (p := fun j => decide (f j ≤ n)) hal.out hd.out⟩
        case measure => simp [intOf]; omega
      · have hd := hide (decide_eq_false hc)
        have hh := hide (hasC_f hlt hc)
        go_wp2_with (go_at_call 89; refine (hasLit_any _ (hf _) ad n c bP _ o1).mono ?_; rintro e w1 ⟨rfl, rfl⟩; rw [hd.out])
        go_ret
        exact ⟨_, rfl, by omega, Iff.intro (fun _ => hh.out) (fun _ => by omega), rfl⟩
    · obtain rfl : k = 144 := by omega
      have hh := hide (hasC_t hal.out)
      clear hal
      go_wp2_with (fail)
      go_ret
      exact ⟨_, rfl, by omega, Iff.intro (fun h => absurd h (by omega)) (fun h => by rw [hh.out] at h; cases h), rfl⟩
set_option maxHeartbeats 400000 in
theorem anyHas_any (a b : Int) (f : Nat → Int) (hf : ∀ i, 0 ≤ f i ∧ f i ≤ 255) (ad : Option Addr) (n c bP bQ : Nat) (t0 : TypeId) (W : World) (oq : obj W bQ = some (.cells (pic 144 a b f) t0)) (o1 : obj W bP = some (.cells #[.slice ad n c] 32)) :
    Calls Tryz.prog 88 #[.slice (some ⟨bQ, 2, none⟩) 144 144, .func (.func 89) #[] #[.pointer (some ⟨bP, 0, none⟩)]] W fun e w' => e = .returned (.bool (!hasC n f)) ∧ W = w' := by
  go_enter Tryz.func88, Tryz.ntmps88
  go_wp2_with (fail)
  refine (idxHas_any a b f hf ad n c bP bQ t0 _ oq o1).mono ?_
  rintro e w1 ⟨r, rfl, hr, hiff, rfl⟩
  go_wp2_with (fail)
  go_ret
  exact ⟨rfl, rfl⟩
set_option maxHeartbeats 400000 in
theorem hasColours_any (a b : Int) (f : Nat → Int) (hf : ∀ i, 0 ≤ f i ∧ f i ≤ 255) (ad : Option Addr) (n c : Nat) (W : World) :
    Calls Tryz.prog 46 #[.agg (pic 144 a b f), .slice ad n c] W fun e w' => e = .returned (.bool (hasC n f)) ∧ New W w' := by
  go_enter Tryz.func46, Tryz.ntmps46
  go_wp2_with (fail)
  refine (anyHas_any a b f hf ad n c _ _ 39 _ (by go_simp) (by go_simp)).mono ?_
  rintro e w1 ⟨rfl, rfl⟩
  go_wp2_with (fail)
  go_ret
  exact ⟨ret_b (by simp), ((New.refl W).alloc _).alloc _⟩
end Go.Proofs.YtphjhegaplochaaGreatDoor
