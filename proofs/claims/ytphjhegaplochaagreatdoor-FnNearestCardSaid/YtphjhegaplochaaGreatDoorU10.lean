/- A picture from a stock of tones: what the program returns; no condition. -/
import Derived.Test.YtphjhegaplochaaGreatDoorU8
import Derived.Test.YtphjhegaplochaaGreatDoorU9
import Derived.Test.YtphjhegaplochaaGreatDoorU7
set_option linter.unusedVariables false
namespace Go.Proofs.YtphjhegaplochaaGreatDoor
open Go.BigFrame
open Go.RowKit Go.Arr
set_option maxHeartbeats 400000 in
theorem stLit_any (x : Int) (w : World) : Calls Tryz.prog 68 #[.int .i64 x] w fun e w' => e = .returned (.bool (!inB x 0 1000000)) ∧ w = w' := by
  go_enter Tryz.func68, Tryz.ntmps68
  go_wp2_with (go_at_call 61; refine (within_any _ _ _ _).mono ?_; rintro e w' ⟨rfl, rfl⟩)
  go_ret
  exact ⟨rfl, rfl⟩
set_option maxHeartbeats 1000000 in
set_option maxRecDepth 100000 in
theorem idxSt_any (ad : Option Addr) (n c : Nat) (z : Nat → Int) (hn : n ≤ 1048576) (W : World) (hs : Sl W (.slice ad n c) n 1 .i64 z) :
    Calls Tryz.prog 91 #[.slice ad n c, .func (.func 68) #[] #[]] W fun e w' => ∃ r : Int, e = .returned (.int .i64 r) ∧ -1 ≤ r ∧ (0 ≤ r ↔ inStock n z = false) ∧ W = w' := by
  go_enter Tryz.func91, Tryz.ntmps91
  go_wp2_with (fail)
  go_loop [8] (fun x => ∃ i : Nat, i ≤ n ∧ x = .int .i64 i ∧ Hid (∀ j, j < i → inB (z j) 0 1000000 = true)) (fun x => n - (intOf x).toNat)
  case atStart => exact ⟨0, by omega, rfl, fun j hj => absurd hj (by omega)⟩
  case round =>
    obtain ⟨i, hi, rfl, hal⟩ := hrel
    by_cases hlt : i < n
    · obtain ⟨g, off, cur, t, fr, rfl, og, hel⟩ := elInts hs (by omega)
      obtain ⟨l1, e1⟩ := hel i hlt
      clear hel hs
      cases hc : inB (z i) 0 1000000
      · have hb : Hid (inStock n z = false) := List.all_eq_false.2 ⟨i, by simpa using hlt, by simp [hc]⟩
        go_wp2_with (go_at_call 68; refine (stLit_any _ _).mono ?_; rintro e w1 ⟨rfl, rfl⟩; rw [hc])
        go_ret
        exact ⟨_, rfl, by omega, Iff.intro (fun _ => hb.out) (fun _ => by omega), rfl⟩
      · have hal' := hide (all_succ (p := fun j => inB (z j) 0 1000000) hal.out hc)
        go_wp2_with (go_at_call 68; refine (stLit_any _ _).mono ?_; rintro e w1 ⟨rfl, rfl⟩; rw [hc])
        go_round
        case rel => exact ⟨i + 1, by omega, by go_num, hal'⟩
        case measure => simp [intOf]; omega
    · obtain rfl : i = n := by omega
      have hb : Hid (inStock i z = true) := List.all_eq_true.2 fun j hj => hal.out j (by simpa using hj)
      clear hal
      go_wp2_with (fail)
      go_ret
      exact ⟨_, rfl, by omega, Iff.intro (fun h => absurd h (by omega)) (fun h => by rw [hb.out] at h; cases h), rfl⟩
set_option maxHeartbeats 400000 in
theorem hasSt_any (ad : Option Addr) (n c : Nat) (z : Nat → Int) (hn : n ≤ 1048576) (W : World) (hs : Sl W (.slice ad n c) n 1 .i64 z) :
    Calls Tryz.prog 67 #[.slice ad n c, .func (.func 68) #[] #[]] W fun e w' => e = .returned (.bool (!inStock n z)) ∧ W = w' := by
  go_enter Tryz.func67, Tryz.ntmps67
  go_wp2_with (fail)
  refine (idxSt_any ad n c z hn _ hs).mono ?_
  rintro e w1 ⟨r, rfl, hr, hiff, rfl⟩
  go_wp2_with (fail)
  go_ret
  exact ⟨rfl, rfl⟩
set_option maxHeartbeats 1000000 in
set_option maxRecDepth 100000 in
theorem clone_any (ad : Option Addr) (n c : Nat) (z : Nat → Int) (hp : 0 < n) (hn : n ≤ 1048576) (W : World) (hs : Sl W (.slice ad n c) n 1 .i64 z) :
    Calls Tryz.prog 69 #[.slice ad n c] W fun e w' => ∃ g cap, e = .returned (.slice (some ⟨g, 0, none⟩) n cap) ∧ Own w' g n z ∧ W.heap.size ≤ g ∧ New W w' := by
  obtain ⟨gs, offs, curs, ts, frs, rfl, o5, hel5⟩ := elInts hs hp
  have r5 := obj_lt o5
  have heq := fun w' : World => Lib.run_eql_slice_nil (P := Tryz.prog) w' 54 2 (some ⟨gs, offs, none⟩) n c 0 0 Tryz.underlying54
  go_enter Tryz.func69, Tryz.ntmps69
  go_wp2_with (at_builtin; refine wpList_app slInts rfl _ _ rfl W.heap.size (.slice (some ⟨W.heap.size, 0, none⟩) 0 0) 0 [] rfl (row_empty2 (f := z) (obj_alloc_at _ _ _ rfl) (Nat.le_refl _)) ⟨gs, offs, none⟩ n c (irow n .i64 z) rfl (by simp) (news_sl ((obj_alloc_past _ _ _ r5).trans o5) hel5) irow_one (by omega) (by unfold maxLen; omega) (by omega) (by simp) ?_)
  intro g1 cap1 w2 hown hg2 hat hlt2
  try simp only [Nat.zero_add, List.nil_append] at hown
  try simp only [Nat.zero_add]
  have hrow : Row w2 W.heap.size (.slice (some ⟨g1, 0, none⟩) n cap1) n z := hown
  obtain ⟨g2, cap2, he2, hg2b, hOwn⟩ := hrow.own hp
  simp only [Value.slice.injEq, Option.some.injEq, Addr.mk.injEq, and_true] at he2
  obtain ⟨rfl, _, rfl⟩ := he2
  have hn2 : New W w2 := grown_new ((New.refl W).alloc _) hg2 fun b hb => by simp [Value.ownBlock] at hb; omega
  clear hown hg2 hat hrow
  go_wp2_with (fail)
  go_ret
  exact ⟨g1, cap1, rfl, hOwn, hg2b, hn2⟩
def badB (s n : Nat) (st : Nat → Int) : Bool := !(decide (s = n) && inStock s st)
theorem badB_t {s n : Nat} {st : Nat → Int} (h : badB s n st = true) : ¬ s = n ∨ inStock s st = false := by
  unfold badB at h
  by_cases h1 : s = n <;> cases h2 : inStock s st <;> simp_all
theorem badB_f {s n : Nat} {st : Nat → Int} (h : badB s n st = false) : s = n ∧ inStock s st = true := by
  unfold badB at h
  by_cases h1 : s = n <;> cases h2 : inStock s st <;> simp_all
theorem fsT (fm fp : Nat → Int) (n : Nat) (st : Nat → Int) (a b : Int) : recT (stepF fm fp n) (some (fun _ => 0, st)) (selG (cellN a b) 144) (selN (cellN a b) 144) = fsS fm fp n st a b 144 := rec_eq (Nat.le_refl _)
set_option maxHeartbeats 8000000 in
set_option maxRecDepth 100000 in
theorem fromStock_impl (a b : Int) (fm : Nat → Int) (ha : -128 ≤ a ∧ a ≤ 127) (hb : -128 ≤ b ∧ b ≤ 127) (hfm : ∀ i, 0 ≤ fm i ∧ fm i ≤ 255) (ad : Option Addr) (n cp : Nat) (fp : Nat → Int) (hfp : ∀ i, 0 ≤ fp i ∧ fp i ≤ 255) (hn : n ≤ 1048576) (hcp : n ≤ cp) (sa : Option Addr) (s cs : Nat) (st : Nat → Int) (hsn : s ≤ 1048576) (W : World) (hs : Sl W (.slice ad n cp) n 3 .u8 fp) (ht : Sl W (.slice sa s cs) s 1 .i64 st) :
    Calls Tryz.prog 28 #[.agg (pic 432 a b fm), .slice ad n cp, .slice sa s cs] W fun e w' => e = .returned (.tuple #[.agg (fsA a b fm n fp s st), .int .i64 (fsC a b fm n fp s st)]) ∧ New W w' := by
  go_enter Tryz.func28, Tryz.ntmps28
  go_upto_region 1 with (fail)
  generalize hw0 : ((W.alloc (Obj.cells (pic 432 a b fm) 29)).alloc (Obj.cells (pic 144 0 0 fun _ => 0) 39)) = w0
  have b1 : obj w0 W.heap.size = some (.cells (pic 432 a b fm) 29) := by subst hw0; go_simp
  have b2 : obj w0 (W.heap.size + 1) = some (.cells (pic 144 0 0 fun _ => 0) 39) := by subst hw0; go_simp
  have hn0 : New W w0 := by subst hw0; exact ((New.refl W).alloc _).alloc _
  have hs0 := hs.new hn0
  have ht0 := ht.new hn0
  clear hw0 hs
  go_cut [8] (fun s0 wx => s0 = .bool (badB s n st) ∧ wx = w0)
  case first =>
    by_cases hsn2 : s = n
    · subst hsn2
      have m1 : ((s : Int) != (s : Int)) = false := by simp
      have hB : Hid (badB s s st = !inStock s st) := by show _ = _; simp [badB]
      go_wp2_with (fail)
      refine (hasSt_any sa s cs st hsn _ ht0).mono ?_
      rintro e w1 ⟨rfl, rfl⟩
      go_wp2_with (fail)
      go_meet
      exact ⟨by rw [hB.out], rfl⟩
    · have m1 : ((s : Int) != (n : Int)) = true := by simp; omega
      have hB : Hid (badB s n st = true) := by show _ = _; simp [badB, hsn2]
      clear hsn2
      go_wp2_with (fail)
      go_meet
      exact ⟨by rw [hB.out], rfl⟩
  case rest =>
  obtain ⟨rfl, rfl⟩ := hcut
  go_wp2_with (fail)
  refine (validImage_impl a b fm ha hb _).mono ?_
  rintro e w1 ⟨rfl, hn1⟩
  have c1 := (hn1.objs _ (obj_lt b1)).trans b1
  have c2 := (hn1.objs _ (obj_lt b2)).trans b2
  have hs1 := hs0.new hn1
  have ht1 := ht0.new hn1
  have hN1 := hn0.trans hn1
  clear b1 b2 hs0 hn0 hn1 ht0
  cases h1 : okImg a b fm
  · have hC : Hid (fsC a b fm n fp s st = 1) := fsC_1 (by unfold askOk; rw [h1]; rfl)
    clear h1
    go_wp2_with (fail)
    refine (codeOf_any _ _ _).mono ?_
    rintro e w9 ⟨rfl, rfl⟩
    simp only [codeB]
    go_wp2_with (fail)
    refine ret_cell_tmp agg39 rfl rfl (c := pic 144 0 0 fun _ => 0) (t := 39) (fr := (0, 0)) (by rw [obj_setRow_same, c2]; simp only [Option.map_some, reCells_cells]) size_pic rfl ⟨by rw [hC.out, fsA_z hC.out (by omega)]; rfl, hN1.setRow (by omega) _⟩
  go_wp2_with (fail)
  refine (validPal_impl _ n _ fp hn hcp _ hs1).mono ?_
  rintro e w2 ⟨rfl, hn2⟩
  have d1 := (hn2.objs _ (obj_lt c1)).trans c1
  have d2 := (hn2.objs _ (obj_lt c2)).trans c2
  have hs2 := hs1.new hn2
  have ht2 := ht1.new hn2
  have hN2 := hN1.trans hn2
  clear c1 c2 hs1 hN1 hn2 ht1
  cases h2 : okPal n fp
  · have hC : Hid (fsC a b fm n fp s st = 1) := fsC_1 (by unfold askOk; rw [h2, Bool.and_false])
    clear h1 h2
    go_wp2_with (fail)
    refine (codeOf_any _ _ _).mono ?_
    rintro e w9 ⟨rfl, rfl⟩
    simp only [codeB]
    go_wp2_with (fail)
    refine ret_cell_tmp agg39 rfl rfl (c := pic 144 0 0 fun _ => 0) (t := 39) (fr := (0, 0)) (by rw [obj_setRow_same, d2]; simp only [Option.map_some, reCells_cells]) size_pic rfl ⟨by rw [hC.out, fsA_z hC.out (by omega)]; rfl, hN2.setRow (by omega) _⟩
  have hok : Hid (askOk a b fm n fp = true) := by show _ = _; unfold askOk; rw [h1, h2]; rfl
  have hp := okPal_pos h2
  clear h1 h2
  cases hbd : badB s n st
  rotate_left
  · have hC : Hid (fsC a b fm n fp s st = 2) := fsC_2 hok.out (badB_t hbd)
    clear hbd
    go_wp2_with (fail)
    refine (codeOf_any _ _ _).mono ?_
    rintro e w9 ⟨rfl, rfl⟩
    simp only [codeB]
    go_wp2_with (fail)
    refine ret_cell_tmp agg39 rfl rfl (c := pic 144 0 0 fun _ => 0) (t := 39) (fr := (0, 0)) (by rw [obj_setRow_same, d2]; simp only [Option.map_some, reCells_cells]) size_pic rfl ⟨by rw [hC.out, fsA_z hC.out (by omega)]; rfl, hN2.setRow (by omega) _⟩
  obtain ⟨hsn2, hst⟩ := badB_f hbd
  subst hsn2
  have hst' := hide hst
  clear hst
  have r1 := obj_lt d1
  have r2 := obj_lt d2
  have hWl := hN2.le
  clear hbd
  go_wp2_with (fail)
  refine (codeOf_any _ _ _).mono ?_
  rintro e w9 ⟨rfl, rfl⟩
  simp only [codeB]
  go_wp2_with (fail)
  have hsz := hp.1
  go_cut [10, 11] (fun s0 s1 wx => ∃ q g cap : Nat, s0 = .pointer (some ⟨q, 0, none⟩) ∧ s1 = .slice (some ⟨g, 0, none⟩) s cap ∧ Hid (obj wx q = some (.cells (pic 144 a b fun _ => 0) 39)) ∧ Hid (Own wx g s st) ∧ New w2 wx ∧ w2.heap.size ≤ q ∧ q < wx.heap.size ∧ w2.heap.size ≤ g ∧ g < wx.heap.size ∧ g ≠ q)
  case first =>
    go_region_held3 (fun W' => obj W' W.heap.size = some (.cells (pic 432 a b fm) 29) ∧ obj W' (W.heap.size + 1) = some (.cells (pic 144 0 0 fun _ => 0) 39) ∧ New w2 W') (first | exact held_begin (by assumption) (by assumption) | exact held_new (by assumption) (by assumption) (by assumption) (by assumption) | exact held_new (by assumption) (by assumption) (by assumption) ((New.refl _).alloc _) | exact held_re (by assumption) (by assumption) (by assumption) (by assumption) _ | exact held_row (by assumption) (by assumption) (by assumption) (by first | assumption | (simp; done) | (simp; omega)) _) (first | (go_at_call 69; refine (clone_any sa s cs st hsz hsn _ (ht2.new (‹obj _ W.heap.size = some (.cells (pic 432 a b fm) 29) ∧ obj _ (W.heap.size + 1) = some (.cells (pic 144 0 0 fun _ => 0) 39) ∧ New w2 _›).2.2)).mono ?_; rintro e1 w1 ⟨g1, cap1, rfl, hown, hg1, hn1⟩; have hgl := hown.lt; have ho1 := hn1.objs; have kk1 := lt_new hn1; have hz1 := hn1.le; have hl1 : w2.heap.size ≤ w1.heap.size := (by (try simp at hz1); omega); (try (first | have hb1 := (hn1.objs _ (obj_lt hb1)).trans hb1 | have hb1 := obj_made hn1 | have hb1 := obj_made2 hn1)); (try simp only [World.size_drew] at hb1)))
    all_goals
      obtain ⟨_, _, hN⟩ := ‹obj _ W.heap.size = some (.cells (pic 432 a b fm) 29) ∧ obj _ (W.heap.size + 1) = some (.cells (pic 144 0 0 fun _ => 0) 39) ∧ New w2 _›
      go_wp2_with (fail)
      go_meet
      simp only [World.size_drew] at hg1
      have hg2 : w2.heap.size ≤ g1 := by (try simp at hg1); omega
      refine ⟨_, g1, _, rfl, rfl, ?_, ?_, hN, ?_, ?_, hg2, ?_, ?_⟩
      · show _ = _
        go_simp
      · first | exact hown.same (obj_alloc_past _ _ _ hgl) | exact hown.same (obj_setRow_other _ _ _ _ (by (try simp at hg1); omega))
      · first | omega | (simp; done) | (simp; omega)
      · first | (rw [size_setRow]; exact obj_lt hb1) | (simp; done) | (simp; omega)
      · first | (rw [size_setRow]; exact hgl) | (simp; omega)
      · (try simp at hg1); omega
  case rest =>
  obtain ⟨q, g, cap, rfl, rfl, hq1, hOw0, hn3, hlq, hql, hlg, hgl, hgq⟩ := hcut
  have t1 := (hn3.objs _ r1).trans d1
  have t2 := (hn3.objs _ r2).trans d2
  have hN3 := hN2.trans hn3
  obtain ⟨gp, offp, curp, tp, frp, rfl, o6, hel6⟩ := elsPal hs2 hp.1
  have t6 := (hn3.objs _ (obj_lt o6)).trans o6
  have r6 := obj_lt o6
  have hE6 := hide hel6
  clear hel6 d1 d2 hs2 ht2 hn3 o6
  go_wp2_with (fail)
  refine (cells_any a b fm ha hb _).mono ?_
  rintro e w4 ⟨v, rfl, hrow, hn4⟩
  obtain ⟨x, y, rfl, _⟩ := hrow.reads
  have hN4 := hN3.trans hn4
  have f1 := (hn4.objs _ (obj_lt t1)).trans t1
  have f2 := (hn4.objs _ (obj_lt t2)).trans t2
  have f6 := (hn4.objs _ (obj_lt t6)).trans t6
  have fq := (hn4.objs _ hql).trans hq1.out
  have hOw4 := hOw0.out.new hn4
  have hle := selN_le (p := cellN a b) 144
  have hT := hide (fsT fm fp s st a b)
  have hz4 := hn4.le
  clear t1 t2 t6 hn4 hN2 hN3
  have hsel := hide (selG_lt (p := cellN a b) 144)
  go_wp2_with (fail)
  generalize selN (cellN a b) 144 = N at hrow hle hT hsel ⊢
  go_loopw [51] (fun i wr => ∃ (j : Nat) (qf L : Nat → Int), j ≤ N ∧ i = .int .i64 j ∧ Hid (recT (stepF fm fp s) (some (fun _ => 0, st)) (selG (cellN a b) 144) j = some (qf, L)) ∧ Hid (Own wr g s L) ∧ Hid (obj wr q = some (.cells (pic 144 a b qf) 39)) ∧ Hid (∀ j, j < s → 0 ≤ L j ∧ L j ≤ 1000000) ∧ Hid (∀ b, b ≠ g → b ≠ q → b < w4.heap.size → obj wr b = obj w4 b) ∧ Row wr wc.heap.size (.slice x N y) N (fun j => (selG (cellN a b) 144 j : Int)) ∧ New W wr ∧ w4.heap.size ≤ wr.heap.size) (fun i _ => N - (intOf i).toNat)
  case atStart => exact ⟨0, fun _ => 0, st, by omega, rfl, rfl, hOw4, fq, inStock_e hst'.out, fun _ _ _ _ => rfl, hrow, hN4, Nat.le_refl _⟩
  case round =>
    obtain ⟨j, qf, L, hj, rfl, hfs, hOw, hq2, hLb, hot, hrw, hnw, hlw⟩ := hrel
    by_cases hlt : j < N
    · obtain ⟨hi1, hi2⟩ := hsel.out j hlt
      have hfs' : Hid (recT (stepF fm fp s) (some (fun _ => 0, st)) (selG (cellN a b) 144) (j + 1) = stepF fm fp s (some (qf, L)) (selG (cellN a b) 144 j)) := by show _ = _; rw [← hfs.out]; rfl
      obtain ⟨gl, offl, curl, tl, frl, rfl, ol, hel2⟩ := elInts hrw.sl (by omega)
      obtain ⟨ll, el⟩ := hel2 j hlt
      try dsimp only at el
      have hbk := hrw.block
      have hgl2 := hbk gl rfl
      generalize selG (cellN a b) 144 j = k at hi1 hi2 hfs' el
      have p1 := (hot.out W.heap.size (by omega) (by omega) (by omega)).trans f1
      have p2 := (hot.out (W.heap.size + 1) (by omega) (by omega) (by omega)).trans f2
      have p6 := (hot.out gp (by omega) (by omega) (by omega)).trans f6
      have x1 : (pic 432 a b fm).extract (2 + k * 3) (2 + k * 3 + 3) = #[.int .u8 (fm (k * 3)), .int .u8 (fm (k * 3 + 1)), .int .u8 (fm (k * 3 + 2))] := pic3 (by omega) rfl
      have l1 : 2 + k * 3 + 3 ≤ 434 := by omega
      clear hel2
      go_wp2_with (fail)
      go_loopw [57, 14, 15] (fun x y z wq => ∃ (c : Nat) (ls : Int), c ≤ s ∧ x = .int .i64 c ∧ y = .int .i64 (pick fm fp L k c) ∧ z = .int .i64 ls ∧ Hid (0 ≤ pick fm fp L k c → ls = farC fm fp k (pick fm fp L k c).toNat) ∧ New wr wq) (fun x _ _ _ => s - (intOf x).toNat)
      case atStart => exact ⟨0, 0, by omega, rfl, rfl, rfl, fun h => absurd h (by simp [pick]), New.refl _⟩
      case round =>
        obtain ⟨c, ls, hci, rfl, rfl, rfl, hls, hnq⟩ := hrel
        by_cases hlc : c < s
        · have v1 := (hnq.objs _ (obj_lt p1)).trans p1
          have v6 := (hnq.objs _ (obj_lt p6)).trans p6
          obtain ⟨cur, v3, hcs, hcc⟩ := hOw.out.new hnq
          obtain ⟨lc, ec⟩ := Array.getElem?_eq_some_iff.1 (hcc c hlc)
          obtain ⟨x2, l2⟩ := hE6.out c hlc
          have y1 := obj_lt v1
          have y6 := obj_lt v6
          have y3 := obj_lt v3
          have hpb := pick_b (fm := fm) (fp := fp) (L := L) (i := k) c
          clear p1 p6 p2 hcc
          by_cases h0 : 0 < L c
          · by_cases h1 : pick fm fp L k c < 0
            · have hq := hide (pick_t (fm := fm) (fp := fp) h0 (Or.inl h1))
              have hls2 : Hid (0 ≤ pick fm fp L k (c + 1) → farC fm fp k c = farC fm fp k (pick fm fp L k (c + 1)).toNat) := fun _ => by rw [hq.out, Int.toNat_natCast]
              clear hls hpb
              go_wp2_with (fail)
              refine wp_region_new (by kernel_rfl) (by kernel_rfl) ?_
              repeat (go_big_quiet_step (first | fail | (go_at_call 22; with_reducible exact calls_new (far_impl _ _ _ (hfp _) (hfp _) (hfp _) _ _ _ (hfm _) (hfm _) (hfm _) _))))
              refine wpQuiet_nil ?_
              intro w1 hc1
              have hn1 := NewW.of hc1
              clear hc1
              have ho1 := hn1.objs
              have hz1 := hn1.le
              try simp at hz1
              have v3b := (hn1.objs _ (by simp; omega)).trans ((obj_alloc_past _ _ _ y3).trans v3)
              have hnf := (hnq.alloc _).trans hn1
              clear hn1 ho1 v3 y3 v1 v6 y1 y6
              go_wp2_with (fail)
              go_roundw
              case rel => exact ⟨c + 1, _, by omega, by go_num, by rw [hq.out], rfl, hls2, hnf⟩
              case measure => simp [intOf]; omega
            · have hd1 : decide (pick fm fp L k c < 0) = false := decide_eq_false h1
              have hl2 := hls.out (by omega)
              by_cases h2 : farC fm fp k c < ls
              · have hq := hide (pick_t (fm := fm) (fp := fp) (i := k) h0 (Or.inr (by rw [← hl2]; exact h2)))
                have hls2 : Hid (0 ≤ pick fm fp L k (c + 1) → farC fm fp k c = farC fm fp k (pick fm fp L k (c + 1)).toNat) := fun _ => by rw [hq.out, Int.toNat_natCast]
                have h2' : far (fp (c * 3)) (fp (c * 3 + 1)) (fp (c * 3 + 2)) (fm (k * 3)) (fm (k * 3 + 1)) (fm (k * 3 + 2)) < ls := h2
                clear hls hpb h1 h2 hl2
                go_wp2_with (fail)
                refine wp_region_new (by kernel_rfl) (by kernel_rfl) ?_
                repeat (go_big_quiet_step (first | fail | (go_at_call 22; with_reducible exact calls_new (far_impl _ _ _ (hfp _) (hfp _) (hfp _) _ _ _ (hfm _) (hfm _) (hfm _) _))))
                refine wpQuiet_nil ?_
                intro w2 hc2
                have hn2 := NewW.of hc2
                clear hc2
                have ho2 := hn2.objs
                have hz2 := hn2.le
                try simp at hz2
                have v3b := (hn2.objs _ (by simp; omega)).trans ((obj_alloc_past _ _ _ y3).trans v3)
                have hnf := (hnq.alloc _).trans hn2
                clear hn2 ho2 v3 y3 v1 v6 y1 y6
                go_wp2_with (fail)
                go_roundw
                case rel => exact ⟨c + 1, _, by omega, by go_num, by rw [hq.out], rfl, hls2, hnf⟩
                case measure => simp [intOf]; omega
              · have hq := hide (pick_f (fm := fm) (fp := fp) (L := L) (i := k) (c := c) (fun h5 => h5.2.elim h1 (by rw [← hl2]; exact h2)))
                have hls2 : Hid (0 ≤ pick fm fp L k (c + 1) → ls = farC fm fp k (pick fm fp L k (c + 1)).toNat) := by show _ → _; rw [hq.out]; exact hls.out
                have h2' : ¬ far (fp (c * 3)) (fp (c * 3 + 1)) (fp (c * 3 + 2)) (fm (k * 3)) (fm (k * 3 + 1)) (fm (k * 3 + 2)) < ls := h2
                clear hls hpb h1 h2 hl2
                go_wp2_with (fail)
                refine wp_region_new (by kernel_rfl) (by kernel_rfl) ?_
                repeat (go_big_quiet_step (first | fail | (go_at_call 22; with_reducible exact calls_new (far_impl _ _ _ (hfp _) (hfp _) (hfp _) _ _ _ (hfm _) (hfm _) (hfm _) _))))
                refine wpQuiet_nil ?_
                intro w3 hc3
                have hn3 := NewW.of hc3
                clear hc3
                have ho3 := hn3.objs
                have hz3 := hn3.le
                try simp at hz3
                have v3b := (hn3.objs _ (by simp; omega)).trans ((obj_alloc_past _ _ _ y3).trans v3)
                have hnf := (hnq.alloc _).trans hn3
                clear hn3 ho3 v3 y3 v1 v6 y1 y6
                go_wp2_with (fail)
                go_roundw
                case rel => exact ⟨c + 1, _, by omega, by go_num, by rw [hq.out], rfl, hls2, hnf⟩
                case measure => simp [intOf]; omega
          · have hq := hide (pick_f (fm := fm) (fp := fp) (L := L) (i := k) (c := c) (fun h => h0 h.1))
            have hd0 : decide (0 < L c) = false := decide_eq_false h0
            have hls2 : Hid (0 ≤ pick fm fp L k (c + 1) → ls = farC fm fp k (pick fm fp L k (c + 1)).toNat) := by show _ → _; rw [hq.out]; exact hls.out
            clear hls hpb
            go_wp2_with (fail)
            refine wp_region_new (by kernel_rfl) (by kernel_rfl) ?_
            repeat (go_big_quiet_step (first | fail | (go_at_call 22; with_reducible exact calls_new (far_impl _ _ _ (hfp _) (hfp _) (hfp _) _ _ _ (hfm _) (hfm _) (hfm _) _))))
            refine wpQuiet_nil ?_
            intro w4 hc4
            have hn4 := NewW.of hc4
            clear hc4
            have ho4 := hn4.objs
            have hz4 := hn4.le
            try simp at hz4
            have v3b := (hn4.objs _ (by simp; omega)).trans ((obj_alloc_past _ _ _ y3).trans v3)
            have hnf := (hnq.alloc _).trans hn4
            clear hn4 ho4 v3 y3 v1 v6 y1 y6
            go_wp2_with (fail)
            go_roundw
            case rel => exact ⟨c + 1, _, by omega, by go_num, by rw [hq.out], rfl, hls2, hnf⟩
            case measure => simp [intOf]; omega
        · have hce : c = s := by omega
          rw [hce]
          have hpb := pick_b (fm := fm) (fp := fp) (L := L) (i := k) s
          have v2 := (hnq.objs _ (obj_lt p2)).trans p2
          have v5 := (hnq.objs _ (obj_lt hq2.out)).trans hq2.out
          have hzq := hnq.le
          by_cases hneg : pick fm fp L k s < 0
          · have hfn : Hid (fsS fm fp s st a b 144 = none) := by
              show _ = _
              have h1 : recT (stepF fm fp s) (some (fun _ => 0, st)) (selG (cellN a b) 144) (j + 1) = none := by rw [hfs'.out]; exact stepF_n hneg
              have h2 := recT_none h1 (N - (j + 1))
              rw [show j + 1 + (N - (j + 1)) = N by omega] at h2
              rw [← hT.out, h2]
            have hC := hide (fsC_6 (s := s) hok.out rfl hst'.out hfn.out)
            clear hpb hce v5
            go_wp2_with (fail)
            refine ret_cell_tmp agg39 rfl rfl (c := pic 144 0 0 fun _ => 0) (t := 39) (fr := (0, 0)) (by rw [obj_setRow_same, v2]; simp only [Option.map_some, reCells_cells]) size_pic rfl ⟨by rw [hC.out, fsA_z hC.out (by omega)]; rfl, (hnw.trans hnq).setRow (by omega) _⟩
          · obtain ⟨t, ht⟩ : ∃ t : Nat, pick fm fp L k s = t := ⟨(pick fm fp L k s).toNat, by omega⟩
            have hfs2 : Hid (recT (stepF fm fp s) (some (fun _ => 0, st)) (selG (cellN a b) 144) (j + 1) = some (upd qf k (t + 1), upd L t (L t - 1))) := by show _ = _; rw [hfs'.out]; exact stepF_s ht
            rw [ht, Int.toNat_natCast] at hpb
            have hti : t < s := by omega
            have hLt := hLb.out t hti
            have hLp := hpb.2.2 (by omega)
            obtain ⟨cur, v3, hcs, hcc⟩ := hOw.out.new hnq
            obtain ⟨lc, ec⟩ := Array.getElem?_eq_some_iff.1 (hcc t hti)
            have hOq := hOw.out.new hnq
            have hrq := hrw.new hnq
            have ltn : ¬ ((t : Int) < 0) := by omega
            have z1 : q ≠ g := fun h => hgq h.symm
            rw [ht]
            clear hpb hneg ht hce hcc
            go_wp2_with (fail)
            go_roundw
            case rel =>
              refine ⟨j + 1, upd qf k (t + 1), upd L t (L t - 1), by omega, by go_num, hfs2, ?_, ?_, ?_, ?_, ?_, ((hnw.trans hnq).setCell (by show W.heap.size ≤ g; omega) _).setCell (by show W.heap.size ≤ q; omega) _, by rw [World.size_setCell, World.size_setCell]; omega⟩
              · exact (hOq.set hti (L t - 1)).same (obj_setCell_other _ _ _ _ _ hgq)
              · show _ = _
                rw [obj_set_pic ((obj_setCell_other _ _ _ _ _ z1).trans v5) _ k _ rfl]
              · intro j hj
                unfold upd
                by_cases e : j = t
                · rw [if_pos e]; omega
                · rw [if_neg e]; exact hLb.out j hj
              · intro b h1 h2 h3
                rw [obj_setCell_other _ _ _ _ _ h2, obj_setCell_other _ _ _ _ _ h1, hnq.objs b (by omega), hot.out b h1 h2 h3]
              · refine hrq.same fun b hb => ?_
                have := hbk b hb
                rw [obj_setCell_other _ _ _ _ _ (by omega), obj_setCell_other _ _ _ _ _ (by omega)]
            case measure => simp [intOf]; omega
    · obtain rfl : j = N := by omega
      rw [hT.out] at hfs
      have hC := hide (fsC_0 (s := s) hok.out rfl hst'.out hfs.out)
      have u2 := (hot.out (W.heap.size + 1) (by omega) (by omega) (by omega)).trans f2
      have hqq := hq2.out
      go_wp2_with (fail)
      refine ret_cell_tmp agg39 rfl rfl (c := pic 144 a b qf) (t := 39) (fr := (0, 0)) (by rw [obj_setRow_same, u2]; simp only [Option.map_some, reCells_cells]) size_pic rfl ⟨by rw [hC.out, fsA_s hC.out hfs.out]; rfl, hnw.setRow (by omega) _⟩
end Go.Proofs.YtphjhegaplochaaGreatDoor
/- The cost of an image for some colours of a palette: the reference and the program answer alike; no condition. -/
set_option linter.unusedVariables false
namespace Go.Proofs.YtphjhegaplochaaGreatDoor
open Go.BigFrame
open Go.RowKit Go.Arr
theorem slTones : SlTy Tryz.prog 32 26 (.agg #[.int .u8 0, .int .u8 0, .int .u8 0]) 3 3 := ⟨Tryz.underlying32, by kernel_rfl, rfl, by omega⟩
theorem slTones2 : SlTy Tryz.prog 31 26 (.agg #[.int .u8 0, .int .u8 0, .int .u8 0]) 3 3 := ⟨Tryz.underlying31, by kernel_rfl, rfl, by omega⟩
/-- a row of tones of the call's own -/
def PRow (W : World) (base : Nat) (v : Value) (n : Nat) (f : Nat → Int) : Prop := W.ownsRow base 26 3 v n (irow (n * 3) .u8 f)
section
variable {W W' : World} {base : Nat} {v : Value} {n : Nat} {f f' : Nat → Int}
theorem PRow.new (h : PRow W base v n f) (hn : New W W') : PRow W' base v n f := own_new h hn
theorem PRow.lower {b : Nat} (h : PRow W base v n f) (hb : b ≤ base) : PRow W b v n f := own_lower h hb
theorem PRow.shape (h : PRow W base v n f) : (v = .slice none 0 0 ∧ n = 0) ∨ ∃ g cap cur, v = .slice (some ⟨g, 0, none⟩) n cap ∧ base ≤ g ∧ g < W.heap.size ∧ obj W g = some (.cells cur 26) ∧ n ≤ cap ∧ cap ≤ maxLen ∧ cur.size = cap * 3 ∧ ∀ j, j < n * 3 → cur[j]? = some (.int .u8 (f j)) := by
  obtain ⟨hl, h | ⟨g, cap, cur, h1, h2, h3, h4, h5, h6, h7⟩⟩ := h
  · exact .inl h
  · refine .inr ⟨g, cap, cur, h1, h2, obj_lt h3, h3, h4, h5, by omega, fun j hj => ?_⟩
    have h8 := congrArg (fun l => l[j]?) h7
    try dsimp only at h8
    rw [List.getElem?_take, if_pos hj, Array.getElem?_toList, get_irow j hj] at h8
    exact h8
theorem PRow.of {g cap : Nat} {cur : Array Value} (h : obj W g = some (.cells cur 26)) (hb : base ≤ g) (hn : n ≤ cap) (hc : cap ≤ maxLen) (hs : cur.size = cap * 3) (hf : ∀ j, j < n * 3 → cur[j]? = some (.int .u8 (f j))) : PRow W base (.slice (some ⟨g, 0, none⟩) n cap) n f := by
  refine ⟨by simp, .inr ⟨g, cap, cur, rfl, hb, h, hn, hc, by omega, ?_⟩⟩
  apply List.ext_getElem?
  intro j
  rw [List.getElem?_take]
  by_cases hj : j < n * 3
  · rw [if_pos hj, Array.getElem?_toList, get_irow j hj]; exact hf j hj
  · rw [if_neg hj, List.getElem?_eq_none (by simp; omega)]
theorem PRow.same (h : PRow W base v n f) (hs : ∀ b, v.ownBlock = some b → obj W' b = obj W b) : PRow W' base v n f := by
  rcases h.shape with ⟨rfl, rfl⟩ | ⟨g, cap, cur, rfl, hb, _, ho, h4, h5, h6, hc⟩
  · exact ⟨by simp, .inl ⟨rfl, rfl⟩⟩
  · exact PRow.of ((hs g rfl).trans ho) hb h4 h5 h6 hc
theorem PRow.block (h : PRow W base v n f) : ∀ b, v.ownBlock = some b → base ≤ b ∧ b < W.heap.size := by
  rcases h.shape with ⟨rfl, rfl⟩ | ⟨g, cap, cur, rfl, hb, hl, _⟩
  · intro b hb; simp [Value.ownBlock] at hb
  · intro b hb2; simp [Value.ownBlock] at hb2; omega
theorem PRow.sl (h : PRow W base v n f) : Sl W v n 3 .u8 f := by
  rcases h.shape with ⟨rfl, rfl⟩ | ⟨g, cap, cur, rfl, _, _, ho, _, _, _, hc⟩
  · exact ⟨none, 0, rfl, fun h => absurd h (by omega)⟩
  · exact Sl.of ho fun i hi => by rw [Nat.zero_add]; exact hc i (by omega)
theorem PRow.congr (h : PRow W base v n f) (hf : ∀ j, j < n * 3 → f j = f' j) : PRow W base v n f' := by
  unfold PRow at *
  rw [← irow_congr hf]
  exact h
theorem irow3_snoc {x y z : Int} (hx : f (n * 3) = x) (hy : f (n * 3 + 1) = y) (hz : f (n * 3 + 2) = z) : irow (n * 3) .u8 f ++ [.int .u8 x, .int .u8 y, .int .u8 z] = irow ((n + 1) * 3) .u8 f := by
  subst hx hy hz
  unfold irow
  rw [show (n + 1) * 3 = n * 3 + 1 + 1 + 1 by omega, List.range_succ, List.range_succ, List.range_succ]
  simp [List.map_append, List.append_assoc]
theorem prow_app {g cap : Nat} {x y z : Int} (h : W.ownsRow base 26 3 (.slice (some ⟨g, 0, none⟩) (n + 1) cap) (n + 1) (irow (n * 3) .u8 f ++ [.int .u8 x, .int .u8 y, .int .u8 z])) (hx : f (n * 3) = x) (hy : f (n * 3 + 1) = y) (hz : f (n * 3 + 2) = z) : PRow W base (.slice (some ⟨g, 0, none⟩) (n + 1) cap) (n + 1) f := by
  unfold PRow
  rw [← irow3_snoc hx hy hz]
  exact h
theorem prow_empty {g : Nat} (h : obj W g = some (.cells #[] 26)) (hb : base ≤ g) : PRow W base (.slice (some ⟨g, 0, none⟩) 0 0) 0 f :=
  PRow.of h hb (Nat.le_refl _) (by unfold maxLen; omega) rfl fun j hj => absurd hj (by omega)
end
/-- the tones of some colours -/
def subP (fp L : Nat → Int) : Nat → Int := fun j => fp (((L (j / 3)).toNat - 1) * 3 + j % 3)
theorem subP_0 (fp L : Nat → Int) (i : Nat) : subP fp L (i * 3) = fp (((L i).toNat - 1) * 3) := by
  unfold subP
  rw [show i * 3 / 3 = i by omega, show i * 3 % 3 = 0 by omega, Nat.add_zero]
theorem subP_1 (fp L : Nat → Int) (i : Nat) : subP fp L (i * 3 + 1) = fp (((L i).toNat - 1) * 3 + 1) := by
  unfold subP
  rw [show (i * 3 + 1) / 3 = i by omega, show (i * 3 + 1) % 3 = 1 by omega]
theorem subP_2 (fp L : Nat → Int) (i : Nat) : subP fp L (i * 3 + 2) = fp (((L i).toNat - 1) * 3 + 2) := by
  unfold subP
  rw [show (i * 3 + 2) / 3 = i by omega, show (i * 3 + 2) % 3 = 2 by omega]
theorem subP_congr {fp L L' : Nat → Int} {m : Nat} (h : ∀ j, j < m → L j = L' j) (j : Nat) (hj : j < m * 3) : subP fp L j = subP fp L' j := by
  unfold subP
  rw [h _ (by omega)]
theorem nearK_congr {f f' : Nat → Int} {x y z : Int} {k : Nat} (h : ∀ j, j < k * 3 → f j = f' j) (hk : 0 < k) : nearK f x y z k = nearK f' x y z k := by
  induction k with
  | zero => omega
  | succ k ih =>
    have h0 : ∀ i, i < k + 1 → farE f x y z i = farE f' x y z i := by
      intro i hi
      unfold farE
      rw [h _ (by omega), h _ (by omega), h _ (by omega)]
    unfold nearK
    by_cases hk : k = 0
    · subst hk
      simp [nearK, h0 0 (by omega)]
    · rw [ih (fun j hj => h j (by omega)) (by omega), h0 k (by omega)]
theorem nearK_b {f : Nat → Int} {x y z : Int} (hx : 0 ≤ x ∧ x ≤ 255) (hy : 0 ≤ y ∧ y ≤ 255) (hz : 0 ≤ z ∧ z ≤ 255) (hf : ∀ i, 0 ≤ f i ∧ f i ≤ 255) (k : Nat) : 0 ≤ (nearK f x y z k).2 ∧ (nearK f x y z k).2 ≤ 1000000 := by
  have hb : ∀ i, 0 ≤ farE f x y z i ∧ farE f x y z i ≤ 1000000 := fun i => far_b (hf _) (hf _) (hf _) hx hy hz
  induction k with
  | zero => exact hb 0
  | succ k ih =>
    unfold nearK
    split
    · exact hb k
    · exact ih
def farN (m : Nat) (fs fm : Nat → Int) (i : Nat) : Int := (nearK fs (fm (i * 3)) (fm (i * 3 + 1)) (fm (i * 3 + 2)) m).2
def cosStep (m : Nat) (fs fm : Nat → Int) (s : Int) (i : Nat) : Int := s + farN m fs fm i
def cosS (m : Nat) (fs fm : Nat → Int) (a b : Int) : Nat → Int := recS (cosStep m fs fm) 0 (cellN a b)
theorem farN_b {fs fm : Nat → Int} (hs : ∀ i, 0 ≤ fs i ∧ fs i ≤ 255) (hm : ∀ i, 0 ≤ fm i ∧ fm i ≤ 255) (m i : Nat) : 0 ≤ farN m fs fm i ∧ farN m fs fm i ≤ 1000000 := nearK_b (hm _) (hm _) (hm _) hs m
theorem cosS_b {fs fm : Nat → Int} (hs : ∀ i, 0 ≤ fs i ∧ fs i ≤ 255) (hm : ∀ i, 0 ≤ fm i ∧ fm i ≤ 255) (m : Nat) (a b : Int) (k : Nat) : 0 ≤ cosS m fs fm a b k ∧ cosS m fs fm a b k ≤ 1000000 * k := by
  induction k with
  | zero => simp [cosS, recS]
  | succ k ih =>
    have h := farN_b hs hm m k
    cases hc : cellN a b k
    · have e : cosS m fs fm a b (k + 1) = cosS m fs fm a b k := recS_f hc
      omega
    · have e : cosS m fs fm a b (k + 1) = cosS m fs fm a b k + farN m fs fm k := recS_t hc
      omega
theorem cosT_b {fs fm : Nat → Int} (hs : ∀ i, 0 ≤ fs i ∧ fs i ≤ 255) (hm : ∀ i, 0 ≤ fm i ∧ fm i ≤ 255) (m : Nat) (G : Nat → Nat) (j : Nat) : 0 ≤ recT (cosStep m fs fm) 0 G j ∧ recT (cosStep m fs fm) 0 G j ≤ 1000000 * j := by
  induction j with
  | zero => simp [recT]
  | succ j ih =>
    have h := farN_b hs hm m (G j)
    have e : recT (cosStep m fs fm) 0 G (j + 1) = recT (cosStep m fs fm) 0 G j + farN m fs fm (G j) := rfl
    omega
theorem cosS_congr {fs fs' fm : Nat → Int} {m : Nat} {a b : Int} (h : ∀ j, j < m * 3 → fs j = fs' j) (hm : 0 < m) (k : Nat) : cosS m fs fm a b k = cosS m fs' fm a b k := by
  induction k with
  | zero => rfl
  | succ k ih =>
    cases hc : cellN a b k
    · have e : cosS m fs fm a b (k + 1) = cosS m fs fm a b k := recS_f hc
      have e' : cosS m fs' fm a b (k + 1) = cosS m fs' fm a b k := recS_f hc
      rw [e, e', ih]
    · have e : cosS m fs fm a b (k + 1) = cosS m fs fm a b k + farN m fs fm k := recS_t hc
      have e' : cosS m fs' fm a b (k + 1) = cosS m fs' fm a b k + farN m fs' fm k := recS_t hc
      have e2 : farN m fs fm k = farN m fs' fm k := by unfold farN; rw [nearK_congr h hm]
      rw [e, e', ih, e2]
theorem cosTe (m : Nat) (fs fm : Nat → Int) (a b : Int) : recT (cosStep m fs fm) 0 (selG (cellN a b) 144) (selN (cellN a b) 144) = cosS m fs fm a b 144 := rec_eq (Nat.le_refl _)
end Go.Proofs.YtphjhegaplochaaGreatDoor
