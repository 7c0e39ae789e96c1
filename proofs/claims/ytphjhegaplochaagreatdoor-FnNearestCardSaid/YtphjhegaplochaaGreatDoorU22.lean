/- A picture from a stock of tones: what the reference returns; no condition. -/
import Derived.Test.YtphjhegaplochaaGreatDoorU8
import Derived.Test.YtphjhegaplochaaGreatDoorU14
set_option linter.unusedVariables false
namespace Go.Proofs.YtphjhegaplochaaGreatDoor
open Go.BigFrame
open Go.RowKit Go.Arr
set_option maxHeartbeats 8000000 in
set_option maxRecDepth 100000 in
theorem fromStock_spec (a b : Int) (fm : Nat → Int) (ha : -128 ≤ a ∧ a ≤ 127) (hb : -128 ≤ b ∧ b ≤ 127) (hfm : ∀ i, 0 ≤ fm i ∧ fm i ≤ 255) (ad : Option Addr) (n cp : Nat) (fp : Nat → Int) (hfp : ∀ i, 0 ≤ fp i ∧ fp i ≤ 255) (hn : n ≤ 1048576) (sa : Option Addr) (s cs : Nat) (st : Nat → Int) (hsn : s ≤ 1048576) (W : World) (hs : Sl W (.slice ad n cp) n 3 .u8 fp) (ht : Sl W (.slice sa s cs) s 1 .i64 st) :
    Calls Tryz.prog 31 #[.agg (pic 432 a b fm), .slice ad n cp, .slice sa s cs] W fun e w' => e = .returned (.tuple #[.agg (fsA a b fm n fp s st), .int .i64 (fsC a b fm n fp s st)]) ∧ New W w' := by
  go_enter Tryz.func31, Tryz.ntmps31
  go_wp2_with (fail)
  generalize hw0 : ((W.alloc (Obj.cells (pic 432 a b fm) 29)).alloc (Obj.cells (pic 144 0 0 fun _ => 0) 39)) = w0
  have b1 : obj w0 W.heap.size = some (.cells (pic 432 a b fm) 29) := by subst hw0; go_simp
  have b2 : obj w0 (W.heap.size + 1) = some (.cells (pic 144 0 0 fun _ => 0) 39) := by subst hw0; go_simp
  have hn0 : New W w0 := by subst hw0; exact ((New.refl W).alloc _).alloc _
  have hs0 := hs.new hn0
  clear hw0 hs
  refine (l02Asked_any _ 29 a b fm ha hb ad n cp fp hn _ b1 hs0).mono ?_
  rintro e w1 ⟨rfl, hn1⟩
  have c1 := (hn1.objs _ (obj_lt b1)).trans b1
  have c2 := (hn1.objs _ (obj_lt b2)).trans b2
  have hN1 := hn0.trans hn1
  have hs1 := hs0.new hn1
  have ht1 := ht.new hN1
  have r1 := obj_lt c1
  have r2 := obj_lt c2
  clear b1 b2 hn0 hn1 hs0 ht
  cases hok : askOk a b fm n fp
  · have hC := hide (fsC_1 (s := s) (st := st) hok)
    clear hok
    rw [if_neg (by simp)]
    go_wp2_with (fail)
    go_loop [9, 8] (fun x c => x = .int .i64 0 ∧ c = .int .i64 1) (fun _ _ => 0)
    case atStart => exact ⟨rfl, rfl⟩
    case round =>
      obtain ⟨rfl, rfl⟩ := hrel
      by_cases hz : 0 < s
      all_goals
        go_wp2_with (fail)
        refine ret_cell_tmp agg39 rfl rfl (c := pic 144 0 0 fun _ => 0) (t := 39) (fr := (0, 0)) (by rw [obj_setRow_same, c2]; simp only [Option.map_some, reCells_cells]) size_pic rfl ⟨by rw [hC.out, fsA_z hC.out (by omega)]; rfl, hN1.setRow (by omega) _⟩
  rw [if_pos rfl]
  by_cases hsn2 : s = n
  rotate_left
  · have hC := hide (fsC_2 (s := s) (st := st) hok (Or.inl hsn2))
    have m1 : ((s : Int) != (n : Int)) = true := by simp; omega
    clear hok hsn2
    go_wp2_with (fail)
    go_loop [9, 8] (fun x c => x = .int .i64 0 ∧ c = .int .i64 2) (fun _ _ => 0)
    case atStart => exact ⟨rfl, rfl⟩
    case round =>
      obtain ⟨rfl, rfl⟩ := hrel
      by_cases hz : 0 < s
      all_goals
        go_wp2_with (fail)
        refine ret_cell_tmp agg39 rfl rfl (c := pic 144 0 0 fun _ => 0) (t := 39) (fr := (0, 0)) (by rw [obj_setRow_same, c2]; simp only [Option.map_some, reCells_cells]) size_pic rfl ⟨by rw [hC.out, fsA_z hC.out (by omega)]; rfl, hN1.setRow (by omega) _⟩
  subst hsn2
  have m1 : ((s : Int) != (s : Int)) = false := by simp
  have hp := okPal_pos (askOk_e hok).2
  have hok' := hide hok
  clear hok
  obtain ⟨gs, offs, curs, ts, frs, rfl, o5, hel5⟩ := elInts ht1 hp.1
  obtain ⟨gp, offp, curp, tp, frp, rfl, o6, hel6⟩ := elsPal hs1 hp.1
  have r5 := obj_lt o5
  have r6 := obj_lt o6
  have hE5 := hide hel5
  have hE6 := hide hel6
  clear hel5 hel6 ht1 hs1
  go_wp2_with (fail)
  go_loop [9, 8] (fun x c => ∃ (i : Nat) (cd : Int), i ≤ s ∧ x = .int .i64 i ∧ c = .int .i64 cd ∧ ((cd = 0 ∧ Hid (∀ j, j < i → inB (st j) 0 1000000 = true)) ∨ (cd = 2 ∧ Hid (inStock s st = false)))) (fun x _ => s - (intOf x).toNat)
  case atStart => exact ⟨0, 0, by omega, rfl, rfl, Or.inl ⟨rfl, fun j hj => absurd hj (by omega)⟩⟩
  case round =>
    obtain ⟨i, cd, hi, rfl, rfl, ⟨rfl, hal⟩ | ⟨rfl, hbad⟩⟩ := hrel
    rotate_left
    · have hC := hide (fsC_2 (s := s) (st := st) hok'.out (Or.inr hbad.out))
      by_cases hlt : i < s
      all_goals
        go_wp2_with (fail)
        refine ret_cell_tmp agg39 rfl rfl (c := pic 144 0 0 fun _ => 0) (t := 39) (fr := (0, 0)) (by rw [obj_setRow_same, c2]; simp only [Option.map_some, reCells_cells]) size_pic rfl ⟨by rw [hC.out, fsA_z hC.out (by omega)]; rfl, hN1.setRow (by omega) _⟩
    by_cases hlt : i < s
    · obtain ⟨l1, e1⟩ := hE5.out i hlt
      cases hc : inB (st i) 0 1000000
      · have hbad : Hid (inStock s st = false) := List.all_eq_false.2 ⟨i, by simpa using hlt, by simp [hc]⟩
        go_wp2_with (go_at_call 56; refine (l00In_any _ _ _ _).mono ?_; rintro e w' ⟨rfl, rfl⟩; rw [hc])
        go_round
        case rel => exact ⟨i + 1, 2, by omega, by go_num, rfl, Or.inr ⟨rfl, hbad⟩⟩
        case measure => simp [intOf]; omega
      · have hal' := hide (all_succ (p := fun j => inB (st j) 0 1000000) hal.out hc)
        go_wp2_with (go_at_call 56; refine (l00In_any _ _ _ _).mono ?_; rintro e w' ⟨rfl, rfl⟩; rw [hc])
        go_round
        case rel => exact ⟨i + 1, 0, by omega, by go_num, rfl, Or.inl ⟨rfl, hal'⟩⟩
        case measure => simp [intOf]; omega
    obtain rfl : i = s := by omega
    have hst : Hid (inStock i st = true) := List.all_eq_true.2 fun j hj => hal.out j (by simpa using hj)
    have hWl := hN1.le
    clear hal m1
    go_wp2_with (at_builtin; refine wpList_app slInts rfl _ _ rfl w1.heap.size (.slice (some ⟨w1.heap.size, 0, none⟩) 0 0) 0 [] rfl (row_empty2 (f := st) (obj_alloc_at _ _ _ rfl) (Nat.le_refl _)) ⟨gs, offs, none⟩ i cs (irow i .i64 st) rfl (by simp) (news_sl ((obj_alloc_past _ _ _ r5).trans o5) hE5.out) irow_one (by omega) (by unfold maxLen; omega) (by omega) (by simp) ?_)
    intro g1 cap1 w2 hown hg2 hat hlt2
    try simp only [Nat.zero_add, List.nil_append] at hown
    try simp only [Nat.zero_add]
    have hrow : Row w2 w1.heap.size (.slice (some ⟨g1, 0, none⟩) i cap1) i st := hown
    obtain ⟨g2, cap2, he2, hg2b, hOwn⟩ := hrow.own hp.1
    simp only [Value.slice.injEq, Option.some.injEq, Addr.mk.injEq, and_true] at he2
    obtain ⟨rfl, _, rfl⟩ := he2
    have hn2 : New w1 w2 := grown_new ((New.refl w1).alloc _) hg2 fun b hb => by simp [Value.ownBlock] at hb; omega
    have d1 := (hn2.objs _ r1).trans c1
    have d2 := (hn2.objs _ r2).trans c2
    have d6 := (hn2.objs _ r6).trans o6
    have hN2 := hN1.trans hn2
    have hz2 := hn2.le
    have s1 := obj_lt d1
    clear hown hg2 hat hn2 hrow
    go_wp2_with (fail)
    generalize hw3 : w2.alloc (Obj.cells (pic 144 a b fun _ => 0) 39) = w3
    have t3 : obj w3 w2.heap.size = some (.cells (pic 144 a b fun _ => 0) 39) := by subst hw3; go_simp
    have hn3 : New w2 w3 := by subst hw3; exact (New.refl _).alloc _
    have f1 := (hn3.objs _ s1).trans d1
    have f2 := (hn3.objs _ (obj_lt d2)).trans d2
    have f6 := (hn3.objs _ (obj_lt d6)).trans d6
    have hOw3 := hOwn.new hn3
    have hN3 := hN2.trans hn3
    have hgl := hOwn.lt
    have hz3 : w3.heap.size = w2.heap.size + 1 := by subst hw3; simp
    have e6 := obj_lt d6
    have e2 := obj_lt d2
    clear hw3 hn3 d1 d2 d6 hOwn hN2 o5 o6 c1 c2
    have z1 : g1 ≠ w2.heap.size := by omega
    have z2 : w2.heap.size ≠ g1 := by omega
    go_loopw [12] (fun x wr => ∃ (k : Nat) (q L : Nat → Int), k ≤ 144 ∧ x = .int .i64 k ∧ Hid (fsS fm fp i st a b k = some (q, L)) ∧ Hid (Own wr g1 i L) ∧ Hid (obj wr w2.heap.size = some (.cells (pic 144 a b q) 39)) ∧ Hid (∀ j, j < i → 0 ≤ L j ∧ L j ≤ 1000000) ∧ Hid (∀ b, b ≠ g1 → b ≠ w2.heap.size → b < w3.heap.size → obj wr b = obj w3 b) ∧ New W wr ∧ w3.heap.size ≤ wr.heap.size) (fun x _ => 144 - (intOf x).toNat)
    case atStart => exact ⟨0, fun _ => 0, st, by omega, rfl, rfl, hOw3, t3, inStock_e hst.out, fun _ _ _ _ => rfl, hN3, Nat.le_refl _⟩
    case round =>
      obtain ⟨k, q, L, hk, rfl, hfs, hOw, hq1, hLb, hot, hnw, hlw⟩ := hrel
      by_cases hlt : k < 144
      · have p1 := (hot.out W.heap.size (by omega) (by omega) (by omega)).trans f1
        have p2 := (hot.out (W.heap.size + 1) (by omega) (by omega) (by omega)).trans f2
        have p6 := (hot.out gp (by omega) (by omega) (by omega)).trans f6
        cases hc : cellB k a b
        · have hfs' : Hid (fsS fm fp i st a b (k + 1) = some (q, L)) := (recS_f hc).trans hfs.out
          go_wp2_with (go_at_call 52; refine (l02Cell_any _ 29 a b fm _ ha hb _ p1).mono ?_; rintro e w' ⟨rfl, rfl⟩; rw [hc])
          go_roundw
          case rel => exact ⟨k + 1, q, L, by omega, by go_num, hfs', hOw, hq1, hLb, hot, hnw, hlw⟩
          case measure => simp [intOf]; omega
        · have hfs' : Hid (fsS fm fp i st a b (k + 1) = stepF fm fp i (some (q, L)) k) := by show _ = _; rw [← hfs.out]; exact recS_t hc
          have x1 : (pic 432 a b fm).extract (2 + k * 3) (2 + k * 3 + 3) = #[.int .u8 (fm (k * 3)), .int .u8 (fm (k * 3 + 1)), .int .u8 (fm (k * 3 + 2))] := pic3 (by omega) rfl
          have l1 : 2 + k * 3 + 3 ≤ 434 := by omega
          go_wp2_with (go_at_call 52; refine (l02Cell_any _ 29 a b fm _ ha hb _ p1).mono ?_; rintro e w' ⟨rfl, rfl⟩; rw [hc])
          go_loopw [14, 13] (fun x y wq => ∃ c : Nat, c ≤ i ∧ x = .int .i64 c ∧ y = .int .i64 (pick fm fp L k c) ∧ New wr wq) (fun x _ _ => i - (intOf x).toNat)
          case atStart => exact ⟨0, by omega, rfl, rfl, New.refl _⟩
          case round =>
            obtain ⟨c, hci, rfl, rfl, hnq⟩ := hrel
            by_cases hlc : c < i
            · have v1 := (hnq.objs _ (obj_lt p1)).trans p1
              have v6 := (hnq.objs _ (obj_lt p6)).trans p6
              obtain ⟨cur, v3, hcs, hcc⟩ := hOw.out.new hnq
              obtain ⟨lc, ec⟩ := Array.getElem?_eq_some_iff.1 (hcc c hlc)
              obtain ⟨x2, l2⟩ := hE6.out c hlc
              have y1 := obj_lt v1
              have y6 := obj_lt v6
              have y3 := obj_lt v3
              clear p1 p6 hcc
              by_cases h0 : 0 < L c
              · by_cases h1 : pick fm fp L k c < 0
                · have hq := hide (pick_t (fm := fm) (fp := fp) h0 (Or.inl h1))
                  go_wp2_with (fail)
                  refine wp_region_new (by kernel_rfl) (by kernel_rfl) ?_
                  repeat (go_big_quiet_step (first | fail | (go_at_call 49; with_reducible exact calls_new (far_spec0 _ _ _ (hfp _) (hfp _) (hfp _) _ _ _ (hfm _) (hfm _) (hfm _) _))))
                  refine wpQuiet_nil ?_
                  intro w1 hc1
                  have hn1 := NewW.of hc1
                  clear hc1
                  have ho1 := hn1.objs
                  have hz1 := hn1.le
                  try simp at hz1
                  go_wp2_with (fail)
                  go_roundw
                  case rel => exact ⟨c + 1, by omega, by go_num, by rw [hq.out], hnq.trans hn1⟩
                  case measure => simp [intOf]; omega
                · obtain ⟨t, ht⟩ : ∃ t : Nat, pick fm fp L k c = t := ⟨(pick fm fp L k c).toNat, by omega⟩
                  have htc : t < c := by have := (pick_b (fm := fm) (fp := fp) (L := L) (i := k) c).2.1; omega
                  obtain ⟨x3, l3⟩ := hE6.out t (by omega)
                  have hht := hide ht
                  rw [ht]
                  have hd1 : decide ((t : Int) < 0) = false := decide_eq_false (by omega)
                  by_cases h2 : farC fm fp k c < farC fm fp k t
                  · have hq := hide (pick_t (fm := fm) (fp := fp) (i := k) h0 (Or.inr (by rw [ht, Int.toNat_natCast]; exact h2)))
                    have h2' : far (fp (c * 3)) (fp (c * 3 + 1)) (fp (c * 3 + 2)) (fm (k * 3)) (fm (k * 3 + 1)) (fm (k * 3 + 2)) < far (fp (t * 3)) (fp (t * 3 + 1)) (fp (t * 3 + 2)) (fm (k * 3)) (fm (k * 3 + 1)) (fm (k * 3 + 2)) := h2
                    clear ht h1 h2
                    go_wp2_with (fail)
                    refine wp_region_new (by kernel_rfl) (by kernel_rfl) ?_
                    repeat (go_big_quiet_step (first | fail | (go_at_call 49; with_reducible exact calls_new (far_spec0 _ _ _ (hfp _) (hfp _) (hfp _) _ _ _ (hfm _) (hfm _) (hfm _) _))))
                    refine wpQuiet_nil ?_
                    intro w2 hc2
                    have hn2 := NewW.of hc2
                    clear hc2
                    have ho2 := hn2.objs
                    have hz2 := hn2.le
                    try simp at hz2
                    go_wp2_with (fail)
                    go_roundw
                    case rel => exact ⟨c + 1, by omega, by go_num, by rw [hq.out], hnq.trans hn2⟩
                    case measure => simp [intOf]; omega
                  · have hq := hide (pick_f (fm := fm) (fp := fp) (L := L) (i := k) (c := c) (by rw [ht, Int.toNat_natCast]; exact fun h5 => h5.2.elim (fun h6 => by omega) h2))
                    have h2' : ¬ far (fp (c * 3)) (fp (c * 3 + 1)) (fp (c * 3 + 2)) (fm (k * 3)) (fm (k * 3 + 1)) (fm (k * 3 + 2)) < far (fp (t * 3)) (fp (t * 3 + 1)) (fp (t * 3 + 2)) (fm (k * 3)) (fm (k * 3 + 1)) (fm (k * 3 + 2)) := h2
                    clear ht h1 h2
                    go_wp2_with (fail)
                    refine wp_region_new (by kernel_rfl) (by kernel_rfl) ?_
                    repeat (go_big_quiet_step (first | fail | (go_at_call 49; with_reducible exact calls_new (far_spec0 _ _ _ (hfp _) (hfp _) (hfp _) _ _ _ (hfm _) (hfm _) (hfm _) _))))
                    refine wpQuiet_nil ?_
                    intro w3 hc3
                    have hn3 := NewW.of hc3
                    clear hc3
                    have ho3 := hn3.objs
                    have hz3 := hn3.le
                    try simp at hz3
                    go_wp2_with (fail)
                    go_roundw
                    case rel => exact ⟨c + 1, by omega, by go_num, by rw [hq.out, hht.out], hnq.trans hn3⟩
                    case measure => simp [intOf]; omega
              · have hq := hide (pick_f (fm := fm) (fp := fp) (L := L) (i := k) (c := c) (fun h => h0 h.1))
                have hd0 : decide (0 < L c) = false := decide_eq_false h0
                go_wp2_with (fail)
                refine wp_region_new (by kernel_rfl) (by kernel_rfl) ?_
                repeat (go_big_quiet_step (first | fail | (go_at_call 49; with_reducible exact calls_new (far_spec0 _ _ _ (hfp _) (hfp _) (hfp _) _ _ _ (hfm _) (hfm _) (hfm _) _))))
                refine wpQuiet_nil ?_
                intro w4 hc4
                have hn4 := NewW.of hc4
                clear hc4
                have ho4 := hn4.objs
                have hz4 := hn4.le
                try simp at hz4
                go_wp2_with (fail)
                go_roundw
                case rel => exact ⟨c + 1, by omega, by go_num, by rw [hq.out], hnq.trans hn4⟩
                case measure => simp [intOf]; omega
            · have hce : c = i := by omega
              rw [hce]
              have hpb := pick_b (fm := fm) (fp := fp) (L := L) (i := k) i
              have v2 := (hnq.objs _ (obj_lt p2)).trans p2
              have v5 := (hnq.objs _ (obj_lt hq1.out)).trans hq1.out
              have hzq := hnq.le
              by_cases hneg : pick fm fp L k i < 0
              · have hfn : Hid (fsS fm fp i st a b 144 = none) := by
                  show _ = _
                  have h1 : fsS fm fp i st a b (k + 1) = none := by rw [hfs'.out]; exact stepF_n hneg
                  have h2 := recS_none h1 (144 - (k + 1))
                  rwa [show k + 1 + (144 - (k + 1)) = 144 by omega] at h2
                have hC := hide (fsC_6 (s := i) hok'.out rfl hst.out hfn.out)
                clear hpb hce v5
                go_wp2_with (fail)
                refine ret_cell_tmp agg39 rfl rfl (c := pic 144 0 0 fun _ => 0) (t := 39) (fr := (0, 0)) (by rw [obj_setRow_same, v2]; simp only [Option.map_some, reCells_cells]) size_pic rfl ⟨by rw [hC.out, fsA_z hC.out (by omega)]; rfl, (hnw.trans hnq).setRow (by omega) _⟩
              · obtain ⟨t, ht⟩ : ∃ t : Nat, pick fm fp L k i = t := ⟨(pick fm fp L k i).toNat, by omega⟩
                have hfs2 : Hid (fsS fm fp i st a b (k + 1) = some (upd q k (t + 1), upd L t (L t - 1))) := by show _ = _; rw [hfs'.out]; exact stepF_s ht
                rw [ht, Int.toNat_natCast] at hpb
                have hti : t < i := by omega
                have hLt := hLb.out t hti
                have hLp := hpb.2.2 (by omega)
                obtain ⟨cur, v3, hcs, hcc⟩ := hOw.out.new hnq
                obtain ⟨lc, ec⟩ := Array.getElem?_eq_some_iff.1 (hcc t hti)
                have hOq := hOw.out.new hnq
                have ltn : ¬ ((t : Int) < 0) := by omega
                rw [ht]
                clear hpb hneg ht hce hcc
                go_wp2_with (fail)
                go_roundw
                case rel =>
                  refine ⟨k + 1, upd q k (t + 1), upd L t (L t - 1), by omega, by go_num, hfs2, ?_, ?_, ?_, ?_, ((hnw.trans hnq).setCell (by show W.heap.size ≤ g1; omega) _).setCell (by show W.heap.size ≤ w2.heap.size; omega) _, by rw [World.size_setCell, World.size_setCell]; omega⟩
                  · exact (hOq.set hti (L t - 1)).same (obj_setCell_other _ _ _ _ _ z1)
                  · show _ = _
                    rw [obj_set_pic ((obj_setCell_other _ _ _ _ _ z2).trans v5) _ k _ rfl]
                  · intro j hj
                    unfold upd
                    by_cases e : j = t
                    · rw [if_pos e]; omega
                    · rw [if_neg e]; exact hLb.out j hj
                  · intro b h1 h2 h3
                    rw [obj_setCell_other _ _ _ _ _ h2, obj_setCell_other _ _ _ _ _ h1, hnq.objs b (by omega), hot.out b h1 h2 h3]
                case measure => simp [intOf]; omega
      · obtain rfl : k = 144 := by omega
        have hC := hide (fsC_0 (s := i) hok'.out rfl hst.out hfs.out)
        have u2 := (hot.out (W.heap.size + 1) (by omega) (by omega) (by omega)).trans f2
        have hq := hq1.out
        go_wp2_with (fail)
        refine ret_cell_tmp agg39 rfl rfl (c := pic 144 a b q) (t := 39) (fr := (0, 0)) (by rw [obj_setRow_same, u2]; simp only [Option.map_some, reCells_cells]) size_pic rfl ⟨by rw [hC.out, fsA_s hC.out hfs.out]; rfl, hnw.setRow (by omega) _⟩
end Go.Proofs.YtphjhegaplochaaGreatDoor
/- The image that is drawn is valid; no condition. -/
set_option linter.unusedVariables false
namespace Go.Proofs.YtphjhegaplochaaGreatDoor
open Go.BigFrame
open Go.RowKit Go.Arr
set_option maxHeartbeats 8000000 in
set_option maxRecDepth 100000 in
theorem l02Drawn_any (g : Nat) (ad : Option Addr) (n c A : Nat) (f : Nat → Int) (hA : A ≤ 500000) (hn : n ≤ 1000000) (hf : ∀ i, 0 ≤ f i ∧ f i ≤ 255) (W : World) (hs : Src W g ad n c f A) :
    Calls Tryz.prog 37 #[.pointer (some ⟨g, 0, none⟩)] W fun e w' => ∃ (a b : Int) (q : Nat → Int), e = .returned (.agg (pic 432 a b q)) ∧ (1 ≤ a ∧ a ≤ 5) ∧ (1 ≤ b ∧ b ≤ 4) ∧ GoodI a b q ∧ Src w' g ad n c f (A + 3000) ∧ W.grownBy w' (some g) := by
  have hgl := hs.lt
  have hadl : Hid (∀ a, ad = some a → a.block < W.heap.size ∨ n = 0) := fun a e => by
    subst e
    by_cases h0 : n = 0
    · exact Or.inr h0
    · obtain ⟨gq, offq, curq, tq, frq, he, oq, _⟩ := elBytes hs.2.1 (by omega)
      cases he
      exact Or.inl (obj_lt oq)
  have hf := hide hf
  go_enter Tryz.func37, Tryz.ntmps37
  go_wp2_with (fail)
  refine (pick_any g ad n c A f 5 (by omega) (by omega) hn hf.out _ (hs.new ((New.refl _).alloc _))).mono ?_
  rintro e w1 ⟨x, rfl, hx, hs1, hg1⟩
  go_wp2_with (fail)
  refine (pick_any g ad n c (A + 2) f 4 (by omega) (by omega) hn hf.out _ hs1).mono ?_
  rintro e w2 ⟨y, rfl, hy, hs2, hg2⟩
  obtain ⟨a, ha0, ha⟩ : ∃ a : Int, 1 + x = a ∧ 1 ≤ a ∧ a ≤ 5 := ⟨_, rfl, by omega, by omega⟩
  obtain ⟨b, hb0, hb⟩ : ∃ b : Int, 1 + y = b ∧ 1 ≤ b ∧ b ≤ 4 := ⟨_, rfl, by omega, by omega⟩
  go_wp2_with (fail)
  obtain ⟨P, hP⟩ : ∃ P, w2.heap.size = P := ⟨_, rfl⟩
  have hl1 := hg1.size
  have hl2 := hg2.size
  simp at hl1
  refine (palDrawn_any g ad n c (A + 2 + 2) f (by omega) hn hf.out _ (hs2.new ((New.refl _).alloc _))).mono ?_
  rintro e w3 ⟨gp, cp, m, p, rfl, hrow, hm, hokp, hpb, hs3, hg3⟩
  have hg3' : W.grownBy w3 (some g) := ((grown_over (grown_over (new_grown ((New.refl _).alloc _)) hg1 fun q hq => Or.inr (Option.some.inj hq).symm) hg2 fun q hq => Or.inr (Option.some.inj hq).symm).trans (new_grown ((New.refl _).alloc _))).trans hg3
  have hR : obj w3 W.heap.size = some (.cells (pic 432 0 0 fun _ => 0) 29) := (grown_step hg3 (by simp; omega) (by omega)).trans ((obj_alloc_past _ _ _ (by omega)).trans ((grown_step hg2 (by omega) (by omega)).trans ((grown_step hg1 (by simp) (by omega)).trans (obj_alloc_at _ _ _ rfl))))
  have hPo : obj w3 P = some (.cells (pic 432 a b fun _ => 0) 29) := (grown_step hg3 (by simp; omega) (by omega)).trans (obj_alloc_at _ _ _ hP.symm)
  have hPl := obj_lt hPo
  have hRl := obj_lt hR
  have hq0 : GoodI a b fun _ => 0 := ⟨fun j => ⟨Int.le_refl 0, by show (0 : Int) ≤ 255; omega⟩, fun i _ => ⟨rfl, rfl, rfl⟩⟩
  have hgpb := (hrow.block gp rfl).1
  simp at hgpb
  clear hs hs1 hs2 hg1 hg2 hg3 hokp
  go_wp2_with (fail)
  refine (one_any g ad n c (A + 2 + 2 + 50) f 2 (by omega) (by omega) hn hf.out _ hs3).mono ?_
  rintro e w4 ⟨wild, rfl, hs4, hg4⟩
  have hl4 := hg4.size
  have hrow4 := hrow.grown hg4 (by simp; omega)
  have hg4' := hg3'.trans hg4
  have hR4 := (grown_step hg4 hRl (by omega)).trans hR
  have hP4 := (grown_step hg4 hPl (by omega)).trans hPo
  obtain ⟨gq, offq, cuq, tq, frq, he, oq, hel⟩ := elsPal hrow4.sl (by omega)
  have he2 := Option.some.inj he
  simp only [Addr.mk.injEq, and_true] at he2
  obtain ⟨rfl, rfl⟩ := he2
  have hel := hide hel
  have hpb := hide hpb
  clear he hs3 hg3' hg4 hrow hrow4 hR hPo
  go_wp2_with (fail)
  go_loopw [6] (fun x wr => ∃ (i : Nat) (q : Nat → Int), i ≤ 144 ∧ x = .int .i64 i ∧ GoodI a b q ∧ Hid (obj wr P = some (.cells (pic 432 a b q) 29)) ∧ Hid (obj wr W.heap.size = some (.cells (pic 432 0 0 fun _ => 0) 29)) ∧ Hid (obj wr gp = some (.cells cuq tq frq)) ∧ Src wr g ad n c f (A + 60 + 10 * i) ∧ W.grownBy wr (some g)) (fun x _ => 144 - (intOf x).toNat)
  case atStart => exact ⟨0, fun _ => 0, by omega, rfl, hq0, hP4, hR4, oq, hs4.more (by omega), hg4'⟩
  case round =>
    clear hR4 hP4 hq0 hs4 hg4' oq
    obtain ⟨i, q, hi, rfl, hq, hPo, hR, hGo, hsr, hgr⟩ := hrel
    have p1 := hPo.out
    have l1 := obj_lt p1
    by_cases hlt : i < 144
    · cases hc : cellN a b i
      · have hc' : cellB (i : Int) a b = false := hc
        clear hc
        go_wp2_with (fail)
        refine (l02Cell_any P 29 a b q i (by omega) (by omega) _ p1).mono ?_
        rintro e w9 ⟨rfl, rfl⟩
        rw [hc']
        go_wp2_with (fail)
        go_roundw
        case rel => exact ⟨i + 1, q, by omega, by go_num, hq, hPo, hR, hGo, hsr.more (by omega), hgr⟩
        case measure => simp [intOf]; omega
      · have hc' : cellB (i : Int) a b = true := hc
        have hcH := hide hc
        clear hc
        go_wp2_with (fail)
        refine (l02Cell_any P 29 a b q i (by omega) (by omega) _ p1).mono ?_
        rintro e w9 ⟨rfl, rfl⟩
        rw [hc']
        go_wp2_with (fail)
        refine (pick_any g ad n c (A + 60 + 10 * i) f m (by omega) (by omega) hn hf.out _ hsr).mono ?_
        rintro e w5 ⟨y5, rfl, hy5, hs5, hg5⟩
        obtain ⟨k, rfl⟩ : ∃ t : Nat, y5 = t := ⟨y5.toNat, by omega⟩
        have hkm : k < m := by omega
        have p5 := (grown_step hg5 l1 (by omega)).trans p1
        have r5 := (grown_step hg5 (obj_lt hR.out) (by omega)).trans hR.out
        have u5 := (grown_step hg5 (obj_lt hGo.out) (by omega)).trans hGo.out
        have g5 := hgr.trans hg5
        have l5 := obj_lt p5
        have lu5 := obj_lt u5
        have lr5 := obj_lt r5
        obtain ⟨x2, l2⟩ := hel.out k hkm
        try simp only [Nat.zero_add] at x2 l2
        have hseg := fun (q : Nat → Int) (x y z : Int) => seg_put3 (a := a) (b := b) q i hlt x y z
        have l4 : 2 + i * 3 + 3 ≤ 434 := by omega
        have hq1 := hide (hq.put hcH.out (hpb.out (k * 3)) (hpb.out (k * 3 + 1)) (hpb.out (k * 3 + 2)))
        clear p1 hPo hR hGo hsr hgr hg5 l1 hy5
        cases wild
        · go_wp2_with (fail)
          go_roundw
          case rel =>
            refine ⟨i + 1, _, by omega, by go_num, hq1.out, ?_, ?_, ?_, (hs5.grown2 (setRow_grown (grown_refl _ _) _) (by omega) fun a' e => (hadl.out a' e).imp (fun h => by omega) id).more (by omega), ?_⟩
            · show _ = _
              rw [obj_setRow_same, p5]
              simp only [Option.map_some, reCells_cells]
            · show _ = _
              rw [obj_setRow_other _ _ _ _ (by omega)]
              exact r5
            · show _ = _
              rw [obj_setRow_other _ _ _ _ (by omega)]
              exact u5
            · exact grown_over g5 (setRow_grown (grown_refl _ (some P)) _) fun q hq => Or.inl (by have := Option.some.inj hq; omega)
          case measure => simp [intOf]; omega
        · go_wp2_with (fail)
          refine (l02Tone_any g ad n c (A + 60 + 10 * i + 2) f (by omega) hn hf.out _ (hs5.grown2 (setRow_grown (grown_refl _ _) _) (by omega) fun a' e => (hadl.out a' e).imp (fun h => by omega) id)).mono ?_
          rintro e w7 ⟨x, y, z, rfl, hb7, hs7, hg7⟩
          have h7 := hg7.size
          rw [size_setRow] at h7
          have p7 : obj w7 P = some (.cells (pic 432 a b (put3 q i (p (k * 3)) (p (k * 3 + 1)) (p (k * 3 + 2)))) 29) := (grown_step hg7 (by rw [size_setRow]; exact l5) (by omega)).trans ((obj_setRow_same _ _ _).trans (by rw [p5]; simp only [Option.map_some, reCells_cells]))
          have r7 := (grown_step hg7 (by rw [size_setRow]; exact lr5) (by omega)).trans ((obj_setRow_other _ _ _ _ (by omega)).trans r5)
          have u7 := (grown_step hg7 (by rw [size_setRow]; exact lu5) (by omega)).trans ((obj_setRow_other _ _ _ _ (by omega)).trans u5)
          have g7 := (grown_over g5 (setRow_grown (grown_refl _ (some P)) _) fun q hq => Or.inl (by have := Option.some.inj hq; omega)).trans hg7
          have l7 := obj_lt p7
          have hq2 := hide (hq1.out.put hcH.out hb7.1 hb7.2.1 hb7.2.2)
          clear hg7 hs5 g5 p5 r5 u5 x2 l2
          go_wp2_with (fail)
          go_roundw
          case rel =>
            refine ⟨i + 1, _, by omega, by go_num, hq2.out, ?_, ?_, ?_, (hs7.grown2 (setRow_grown (grown_refl _ _) _) (by omega) fun a' e => (hadl.out a' e).imp (fun h => by omega) id).more (by omega), ?_⟩
            · show _ = _
              rw [obj_setRow_same, p7]
              simp only [Option.map_some, reCells_cells]
            · show _ = _
              rw [obj_setRow_other _ _ _ _ (by omega)]
              exact r7
            · show _ = _
              rw [obj_setRow_other _ _ _ _ (by omega)]
              exact u7
            · exact grown_over g7 (setRow_grown (grown_refl _ (some P)) _) fun q hq => Or.inl (by have := Option.some.inj hq; omega)
          case measure => simp [intOf]; omega
    · obtain rfl : i = 144 := by omega
      have r1 := hR.out
      have lr := obj_lt r1
      clear hPo hR
      go_wp2_with (fail)
      refine ret_cell agg29 rfl rfl (c := pic 432 a b q) (t := 29) (fr := (0, 0)) (by rw [obj_setRow_same, r1]; simp only [Option.map_some, reCells_cells]) size_pic rfl ⟨a, b, q, rfl, ha, hb, hq, (hsr.grown2 (setRow_grown (grown_refl _ _) _) (by omega) fun a' e => (hadl.out a' e).imp (fun h => by omega) id).more (by omega), grown_over hgr (setRow_grown (grown_refl _ (some W.heap.size)) _) fun q hq => Or.inl (by have := Option.some.inj hq; omega)⟩
set_option maxHeartbeats 2000000 in
set_option maxRecDepth 100000 in
theorem a2Image_any (ad : Option Addr) (n c : Nat) (f : Nat → Int) (hn : n ≤ 1000000) (hf : ∀ i, 0 ≤ f i ∧ f i ≤ 255) (W : World) (hs : Sl W (.slice ad n c) n 1 .u8 f) (had : ∀ a, ad = some a → a.block < W.heap.size) :
    Calls Tryz.prog 5 #[.slice ad n c] W fun e w' => ∃ (a b : Int) (q : Nat → Int), e = .returned (.agg (pic 432 a b q)) ∧ (1 ≤ a ∧ a ≤ 5) ∧ (1 ≤ b ∧ b ≤ 4) ∧ GoodI a b q ∧ New W w' := by
  have had := hide had
  go_enter Tryz.func5, Tryz.ntmps5
  go_wp2_with (fail)
  refine (l00From_any ad n c f _ (hs.new ((New.refl _).alloc _)) fun a e => by have := had.out a e; simp; omega).mono ?_
  rintro e w1 ⟨rfl, hs1, hn1⟩
  have hz := hn1.le
  simp at hz
  have hR : obj w1 W.heap.size = some (.cells (pic 432 0 0 fun _ => 0) 29) := (hn1.objs _ (by simp)).trans (obj_alloc_at _ _ _ rfl)
  have hl := obj_lt hR
  have hsz : (W.alloc (Obj.cells (pic 432 0 0 fun _ => 0) 29)).heap.size = W.heap.size + 1 := by simp
  rw [hsz] at hs1
  clear hsz hs
  go_wp2_with (fail)
  refine (l02Drawn_any (W.heap.size + 1) ad n c 0 f (by omega) hn hf _ hs1).mono ?_
  rintro e w2 ⟨a, b, q, rfl, ha, hb, hq, hs2, hg2⟩
  have r2 := (grown_step hg2 hl (by simp)).trans hR
  have hN : New W w2 := grown_new (((New.refl _).alloc _).trans hn1) hg2 fun q hq => by simp at hq; omega
  have l2 := obj_lt r2
  go_wp2_with (fail)
  refine ret_cell agg29 rfl rfl (c := pic 432 a b q) (t := 29) (fr := (0, 0)) (by rw [obj_setRow_same, r2]; simp only [Option.map_some, reCells_cells]) size_pic rfl ⟨a, b, q, rfl, ha, hb, hq, hN.setRow (Nat.le_refl _) _⟩
set_option maxHeartbeats 2000000 in
set_option maxRecDepth 100000 in
theorem a2Palette_any (ad : Option Addr) (n c : Nat) (f : Nat → Int) (hn : n ≤ 1000000) (hf : ∀ i, 0 ≤ f i ∧ f i ≤ 255) (W : World) (hs : Sl W (.slice ad n c) n 1 .u8 f) (had : ∀ a, ad = some a → a.block < W.heap.size) :
    Calls Tryz.prog 6 #[.slice ad n c] W fun e w' => ∃ (go co m : Nat) (p : Nat → Int), e = .returned (.slice (some ⟨go, 0, none⟩) m co) ∧ PRow w' W.heap.size (.slice (some ⟨go, 0, none⟩) m co) m p ∧ (1 ≤ m ∧ m ≤ 5) ∧ okPal m p = true ∧ (∀ i, 0 ≤ p i ∧ p i ≤ 255) ∧ New W w' := by
  have had := hide had
  go_enter Tryz.func6, Tryz.ntmps6
  go_wp2_with (fail)
  refine (l00From_any ad n c f _ hs fun a e => by have := had.out a e; omega).mono ?_
  rintro e w1 ⟨rfl, hs1, hn1⟩
  have hz := hn1.le
  clear hs
  go_wp2_with (fail)
  refine (palDrawn_any W.heap.size ad n c 0 f (by omega) hn hf _ hs1).mono ?_
  rintro e w2 ⟨go, co, m, p, rfl, hrow, hm, hok, hpb, hs2, hg2⟩
  have hN : New W w2 := grown_new hn1 hg2 fun q hq => by simp at hq; omega
  have hrow2 := hrow.lower hz
  go_wp2_with (fail)
  go_ret
  exact ⟨go, co, m, p, rfl, hrow2, hm, hok, hpb, hN⟩
end Go.Proofs.YtphjhegaplochaaGreatDoor
