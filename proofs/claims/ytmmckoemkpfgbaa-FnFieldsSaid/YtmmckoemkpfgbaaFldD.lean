/- The field of a cell, by the program; no condition. -/
import Derived.Test.YtmmckoemkpfgbaaFldC
set_option linter.unusedVariables false
namespace Go.Proofs.Ytmmckoemkpfgbaa
open Go.BigFrame
open Go.RowKit Go.Arr
theorem QF_mem {Q : List Nat} {k i : Nat} (hi : i < Q.length) (h : QF Q i = (k : Int)) : inF Q k = true := by
  have h1 := QF_at hi
  unfold QF at h
  rw [show Q.getD i 0 = k by omega] at h1
  exact inF_t h1
theorem QF_not {Q : List Nat} {k : Nat} (h : ∀ j, j < Q.length → QF Q j ≠ (k : Int)) : inF Q k = false := by
  refine inF_f fun hk => ?_
  obtain ⟨j, hj, he⟩ := List.getElem_of_mem hk
  refine h j hj ?_
  unfold QF
  rw [List.getD_eq_getElem?_getD, List.getElem?_eq_getElem hj, he]
  rfl
theorem ne_step {L : Nat → Int} {k : Nat} {c : Int} (h : ∀ j, j < k → L j ≠ c) (hk : L k ≠ c) : ∀ j, j < k + 1 → L j ≠ c := fun j hj => by
  by_cases e : j = k
  · subst e; exact hk
  · exact h j (by omega)
set_option maxHeartbeats 1000000 in
theorem idxQ_any (la : Option Addr) (lc : Nat) (Q : List Nat) (k : Nat) (hm : Q.length ≤ 1048576) (W : World) (ht : Sl W (.slice la Q.length lc) Q.length 1 .i64 (QF Q)) :
    Calls Try.prog 54 #[.slice la Q.length lc, .int .i64 k] W fun e w' => ∃ r : Int, e = .returned (.int .i64 r) ∧ -1 ≤ r ∧ (0 ≤ r ↔ inF Q k = true) ∧ W = w' := by
  obtain ⟨m, hmm⟩ : ∃ m, m = Q.length := ⟨_, rfl⟩
  rw [← hmm] at ht hm ⊢
  go_enter Try.func54, Try.ntmps54
  go_wp2_with (fail)
  go_loop [8] (fun x => ∃ i : Nat, i ≤ m ∧ x = .int .i64 i ∧ Hid (∀ j, j < i → QF Q j ≠ (k : Int))) (fun x => m - (intOf x).toNat)
  case atStart => exact ⟨0, by omega, rfl, fun j hj => absurd hj (by omega)⟩
  case round =>
    obtain ⟨i, hi, rfl, hal⟩ := hrel
    by_cases hlt : i < m
    · obtain ⟨g, off, cur, t, fr, rfl, og, hel⟩ := elInts ht (by omega)
      obtain ⟨l1, e1⟩ := hel i hlt
      clear hel ht
      by_cases he : QF Q i = (k : Int)
      · have hh := hide (QF_mem (by omega) he)
        have hd : ((k : Int) == QF Q i) = true := by simp [he]
        clear he
        go_wp2_with (fail)
        go_ret
        exact ⟨_, rfl, by omega, Iff.intro (fun _ => hh.out) (fun _ => by omega), rfl⟩
      · have hal' := hide (ne_step hal.out he)
        have hd : ((k : Int) == QF Q i) = false := by simp; omega
        clear he
        go_wp2_with (fail)
        go_round
        case rel => exact ⟨i + 1, by omega, by go_num, hal'⟩
        case measure => simp [intOf]; omega
    · obtain rfl : i = m := by omega
      have hh := hide (QF_not (by rw [← hmm]; exact hal.out))
      clear hal
      go_wp2_with (fail)
      go_ret
      exact ⟨_, rfl, by omega, Iff.intro (fun h => absurd h (by omega)) (fun h => by rw [hh.out] at h; cases h), rfl⟩
set_option maxHeartbeats 1000000 in
theorem contQ_new {r : Bool} (la : Option Addr) (lc : Nat) (Q : List Nat) (k : Nat) (hm : Q.length ≤ 1048576) (hr : inF Q k = r) (W : World) (ht : Sl W (.slice la Q.length lc) Q.length 1 .i64 (QF Q)) :
    Calls Try.prog 49 #[.slice la Q.length lc, .int .i64 k] W fun e w' => e = .returned (.bool r) ∧ New W w' := by
  go_enter Try.func49, Try.ntmps49
  go_wp2_with (fail)
  refine (idxQ_any la lc Q k hm _ ht).mono ?_
  rintro e w1 ⟨q, rfl, hq, hiff, rfl⟩
  have hd : Hid (r = decide (0 ≤ q)) := by
    show _ = _
    rw [← hr]
    cases h : inF Q k
    · rw [h] at hiff; simp at hiff; simp; omega
    · rw [h] at hiff; simp at hiff; simp; omega
  clear hiff
  go_wp2_with (fail)
  go_ret
  exact ⟨by rw [hd.out]; rfl, New.refl _⟩
theorem range_QF (Q : List Nat) : (List.range Q.length).map (QF Q) = Q.map fun k : Nat => (k : Int) := by
  apply List.ext_getElem?
  intro j
  by_cases h : j < Q.length
  · simp [h, QF]
  · rw [List.getElem?_eq_none (by simp; omega), List.getElem?_eq_none (by simp; omega)]
theorem field_row {W : World} {B : Nat} {v : Value} {Q : List Nat} (hn : Q.Nodup) (hq : ∀ k ∈ Q, k < 144) (h : Row W B v Q.length (fun j => (((List.range Q.length).map (QF Q)).mergeSort fun x y => decide (x ≤ y)).getD j 0)) : Row W B v (selN (inF Q) 144) (fun j => (selG (inF Q) 144 j : Int)) := by
  have hs := sort_field hn hq
  have hl : Q.length = selN (inF Q) 144 := by simpa [selL] using congrArg List.length hs
  rw [range_QF, hs, hl] at h
  refine h.congr fun j hj => ?_
  simp [selL, hj]
set_option maxHeartbeats 8000000 in
set_option maxRecDepth 100000 in
theorem field_any (a b : Int) (f : Nat → Int) (ha : -128 ≤ a ∧ a ≤ 12) (hb : -128 ≤ b ∧ b ≤ 12) (hf : ∀ i, 0 ≤ f i ∧ f i ≤ 255) (c0 : Nat) (x y : Int) (hx : 0 ≤ x ∧ x ≤ 11) (hy : 0 ≤ y ∧ y ≤ 11) (hxy : x + 12 * y = c0) (hc : cellN a b c0 = true) (w : World) :
    Calls Try.prog 33 #[.agg (pic 144 a b f), .int .i64 x, .int .i64 y] w fun e w' => ∃ v, e = .returned v ∧ Row w' w.heap.size v (selN (inF (fldQ a b f c0)) 144) (fun j => (selG (inF (fldQ a b f c0)) 144 j : Int)) ∧ New w w' := by
  have hc144 := (cellN_e.1 hc).1
  have hxy' := hide hxy
  go_enter Try.func33, Try.ntmps33
  go_wp2_with (fail)
  clear hxy
  generalize hw0 : (w.alloc (Obj.cells (pic 144 a b f) 27)).alloc (Obj.cells #[Value.int IntKind.i64 (c0 : Int)] 2) = w0
  have b1 : obj w0 w.heap.size = some (.cells (pic 144 a b f) 27) := by subst hw0; go_simp
  have b3 : obj w0 (w.heap.size + 1) = some (.cells #[Value.int IntKind.i64 (c0 : Int)] 2) := by subst hw0; go_simp
  have hn0 : New w w0 := by subst hw0; exact ((New.refl w).alloc _).alloc _
  have hz0 : w0.heap.size = w.heap.size + 2 := by subst hw0; simp
  have hrow0 : Row w0 (w.heap.size + 1) (.slice (some ⟨w.heap.size + 1, 0, none⟩) 1 1) (bfs a b f c0 0).length (QF (bfs a b f c0 0)) := Row.of b3 (by omega) (Nat.le_refl _) (by unfold maxLen; omega) rfl (by
    intro j hj
    have hj0 : j = 0 := by omega
    subst hj0
    rfl)
  clear hw0 b3
  go_loopw [7, 8] (fun v x wr => ∃ i : Nat, i ≤ (bfs a b f c0 i).length ∧ x = .int .i64 i ∧ Row wr (w.heap.size + 1) v (bfs a b f c0 i).length (QF (bfs a b f c0 i)) ∧ Hid (obj wr w.heap.size = some (.cells (pic 144 a b f) 27)) ∧ New w wr ∧ w.heap.size + 2 ≤ wr.heap.size) (fun _ x _ => 144 - (intOf x).toNat)
  case atStart => exact ⟨0, by simp, rfl, hrow0, b1, hn0, by omega⟩
  case round =>
    obtain ⟨i, hi, rfl, hrow, hp1, hnw, hlw⟩ := hrel
    have hlen := bfs_len (f := f) ha.2 hb.2 hc i
    obtain ⟨x6, y6, rfl, _⟩ := hrow.reads
    by_cases hlt : i < (bfs a b f c0 i).length
    · have hst : Hid (bfs a b f c0 (i + 1) = addN f (f c0) (bfs a b f c0 i) (nbL a b ((bfs a b f c0 i).getD i 0))) := bfs_s hlt
      have hpre := hide (bfs_pre (a := a) (b := b) (f := f) (c0 := c0) i 1)
      have hin := hide (bfs_in (f := f) ha.2 hb.2 hc (i + 1))
      generalize hQ1 : bfs a b f c0 (i + 1) = Q1 at hst hpre hin
      have hQ1h := hide hQ1
      clear hQ1
      generalize bfs a b f c0 i = Q at hi hrow hlen hlt hst hpre
      have hcm := QF_at hlt
      obtain ⟨c, hgd⟩ : ∃ c, c = Q.getD i 0 := ⟨_, rfl⟩
      have hcQ : QF Q i = (c : Int) := by rw [hgd]; rfl
      rw [← hgd] at hst hcm
      obtain ⟨gq, offq, curq, tq, frq, rfl, oq, helq⟩ := elInts hrow.sl (by omega)
      obtain ⟨lq, eq⟩ := helq i hlt
      rw [hcQ] at eq
      have hgd' := hide hgd
      clear hgd
      have hcc := (hin.out c (hpre.out.subset hcm)).1
      have hfc := (hin.out c (hpre.out.subset hcm)).2
      have hc1 := (cellN_e.1 hcc).1
      have p1 := hp1.out
      have rp := obj_lt p1
      have rq := obj_lt oq
      have hml := nbL_len a b c
      have hnm : Hid (∀ k ∈ nbL a b c, k < 144) := fun k hk => (cellN_e.1 (nbL_cell ha.2 hb.2 hcc hk)).1
      have hfc' := hide hfc
      clear helq hcQ hfc
      go_wp2_with (fail)
      go_cut [30, 31, 32] (fun s0 s1 s2 wx => ∃ nx ny, s0 = .slice nx (nbL a b c).length ny ∧ s1 = .int .i64 ((nbL a b c).length : Int) ∧ s2 = .int .i64 0 ∧ Row wx wr.heap.size (.slice nx (nbL a b c).length ny) (nbL a b c).length (QF (nbL a b c)) ∧ New wr wx)
      case first =>
        go_region_held3 (fun W' => obj W' w.heap.size = some (.cells (pic 144 a b f) 27) ∧ obj W' gq = some (.cells curq tq frq) ∧ New wr W') (first | exact held_begin (by assumption) (by assumption) | exact held_new (by assumption) (by assumption) (by assumption) (by assumption)) (first | (go_at_call 34; refine (beside_any a b ha hb c hcc _).mono ?_; rintro e1 w1 ⟨v1, rfl, hrow1, hn1⟩; obtain ⟨nx, ny, rfl, _⟩ := hrow1.reads))
        all_goals
          obtain ⟨_, _, hN⟩ := ‹obj _ w.heap.size = some (.cells (pic 144 a b f) 27) ∧ obj _ gq = some (.cells curq tq frq) ∧ New wr _›
          go_wp2_with (fail)
          go_meet
          exact ⟨_, _, rfl, rfl, rfl, hrow1.lower (by simp), hN⟩
      case rest =>
      obtain ⟨nx, ny, rfl, rfl, rfl, hnrow, hn5⟩ := hcut
      have hnbk := hnrow.block
      have hqbk := hrow.block
      have hrow5 := hrow.new hn5
      have hp5 := hide ((hn5.objs _ rp).trans p1)
      have hN5 := hnw.trans hn5
      have hz5 := hn5.le
      obtain ⟨w5, hw5⟩ : ∃ w5, w5 = wc := ⟨_, rfl⟩
      rw [← hw5] at hnbk hz5
      have hsz5 : w5.heap.size = wc.heap.size := by rw [hw5]
      clear hcm hp1 hrow oq p1 rq hn5 hw5 lq eq
      go_wp2_with (fail)
      generalize nbL a b c = l at hst hnrow hnm hml hnbk ⊢
      obtain ⟨B, hB⟩ : ∃ B, B = wr.heap.size := ⟨_, rfl⟩
      rw [← hB] at hnrow hnbk hqbk hlw hz5
      have hNl : w.heap.size < B := by omega
      go_loopw [7, 32] (fun v x wq => ∃ j : Nat, j ≤ l.length ∧ x = .int .i64 j ∧ Row wq (w.heap.size + 1) v (addN f (f c0) Q (l.take j)).length (QF (addN f (f c0) Q (l.take j))) ∧ Hid (obj wq w.heap.size = some (.cells (pic 144 a b f) 27)) ∧ Row wq B (.slice nx l.length ny) l.length (QF l) ∧ (∀ b, v.ownBlock = some b → b < B ∨ w5.heap.size ≤ b) ∧ New w wq ∧ w5.heap.size ≤ wq.heap.size) (fun _ x _ => l.length - (intOf x).toNat)
      case atStart => exact ⟨0, by omega, rfl, hrow5, hp5, hnrow, fun b hb => Or.inl (hqbk b hb).2, hN5, by omega⟩
      case round =>
        obtain ⟨j, hj, rfl, hrq, hp1, hnr, hdis, hnq, hlq⟩ := hrel
        obtain ⟨x7, y7, rfl, _⟩ := hrq.reads
        by_cases hlj : j < l.length
        · have htk : Hid (addN f (f c0) Q (l.take (j + 1)) = addQ f (f c0) (addN f (f c0) Q (l.take j)) (l.getD j 0)) := addN_take hlj
          have hln := addN_len (f := f) (z := f c0) (l.take j) Q
          have hpq := addN_pre (f := f) (z := f c0) (l.take j) Q
          rw [List.length_take] at hln
          have hkm := hnm.out _ (QF_at hlj)
          have hkQ : QF l j = ((l.getD j 0 : Nat) : Int) := rfl
          obtain ⟨gn, offn, curn, tn, frn, rfl, on, heln⟩ := elInts hnr.sl (by omega)
          obtain ⟨ln, en⟩ := heln j hlj
          rw [hkQ] at en
          generalize hT : addN f (f c0) Q (l.take (j + 1)) = T1 at htk
          have hTh := hide hT
          clear hT
          generalize addN f (f c0) Q (l.take j) = Q' at hrq htk hln hpq hdis ⊢
          generalize l.getD j 0 = k at hkm htk en
          have hcQ' : QF Q' i = (c : Int) := by
            obtain ⟨t, ht⟩ := hpq
            rw [← ht, hgd'.out]
            unfold QF
            rw [List.getD_eq_getElem?_getD, List.getElem?_append_left hlt, List.getD_eq_getElem?_getD]
          have hpl := hpq.length_le
          obtain ⟨gq2, offq2, curq2, tq2, frq2, rfl, oq2, helq2⟩ := elInts hrq.sl (by omega)
          obtain ⟨lq2, eq2⟩ := helq2 i (by omega)
          rw [hcQ'] at eq2
          have p1 := hp1.out
          have q1 := obj_lt p1
          have q2 := obj_lt oq2
          have q3 := obj_lt on
          have hbn := hnr.block gn rfl
          have hbn2 := hnbk gn rfl
          have hbk := hrq.block
          clear heln hkQ helq2 hcQ' hpq
          by_cases hz : f k = f c0
          · have hbe : (f k == f c) = true := by rw [hfc'.out]; simp [hz]
            by_cases hm : k ∈ Q'
            · have hT2 : Hid (T1 = Q') := htk.out.trans (addQ_m hm)
              have hin : inF Q' k = true := inF_t hm
              clear hm htk hz
              go_upto_region 8 with (fail)
              go_wp2_with (fail)
              refine wp_region_new (by kernel_rfl) (by kernel_rfl) ?_
              repeat (go_big_quiet_step (first | fail | (go_at_call 49; with_reducible exact calls_new (contQ_new _ _ Q' k (by omega) hin _ (hrq.sl.new (NewW.is _))))))
              refine wpQuiet_nil ?_
              intro w1 hc1
              have hn1 := NewW.of hc1
              clear hc1
              have ho1 := hn1.objs
              have hz1 := hn1.le
              try simp at hz1
              go_wp2_with (fail)
              go_roundw
              case rel => exact ⟨j + 1, by omega, by go_num, by rw [hTh.out, hT2.out]; exact hrq.new hn1, hide ((hn1.objs _ q1).trans p1), hnr.new hn1, hdis, hnq.trans hn1, by have := hn1.le; omega⟩
              case measure => simp [intOf]; omega
            · have hT2 : Hid (T1 = Q' ++ [k]) := htk.out.trans (addQ_t hz hm)
              have hin : inF Q' k = false := inF_f hm
              clear hm htk hz
              go_upto_region 8 with (fail)
              go_wp2_with (fail)
              refine wp_region_new (by kernel_rfl) (by kernel_rfl) ?_
              repeat (go_big_quiet_step (first | fail | (go_at_call 49; with_reducible exact calls_new (contQ_new _ _ Q' k (by omega) hin _ (hrq.sl.new (NewW.is _))))))
              refine wpQuiet_nil ?_
              intro w2 hc2
              have hn2 := NewW.of hc2
              clear hc2
              have ho2 := hn2.objs
              have hz2 := hn2.le
              try simp at hz2
              have hr2 := hrq.new hn2
              have hz2 := hn2.le
              have hN2 := hnq.trans hn2
              go_wp2_with (at_builtin; refine wpList_app slInts rfl _ _ rfl (w.heap.size + 1) _ _ _ rfl (hr2.new ((New.refl _).alloc _)) ⟨w2.heap.size, 0, none⟩ 1 1 [.int .i64 (k : Int)] rfl rfl (news_new _ _ _ _ _ (by simp)) (by simp [Value.oneCell']) (by omega) (by unfold maxLen; omega) (by omega) (by simp; omega) ?_)
              intro g1 cap1 w3 hown1 hg1 hat1 hlt1
              have hn9 : New w w3 := grown_new (hN2.alloc _) hg1 fun b hb => by have := hbk b hb; omega
              have hr9 := qrow_app hown1
              have hne : ∀ b, b < w.heap.size + 1 → some b ≠ (Value.slice (some ⟨gq2, offq2, none⟩) Q'.length y7).ownBlock := fun b hb e => by have := hbk b e.symm; omega
              have hp9 : obj w3 w.heap.size = some (.cells (pic 144 a b f) 27) := (grown_obj hg1 _ (by simp; omega) (hne _ (by omega))).trans ((obj_alloc_past _ _ _ (by omega)).trans ((hn2.objs _ q1).trans p1))
              have hne2 : some gn ≠ (Value.slice (some ⟨gq2, offq2, none⟩) Q'.length y7).ownBlock := fun e => by have := hdis gn e.symm; omega
              have hnr9 : Row w3 B (.slice (some ⟨gn, offn, none⟩) l.length ny) l.length (QF l) := (hnr.new hn2).same fun b hb => by
                simp [Value.ownBlock] at hb
                subst hb
                exact (grown_obj hg1 _ (by simp; omega) hne2).trans (obj_alloc_past _ _ _ (by omega))
              have hz9 := grown_le hg1
              simp at hz9
              have hdis9 : ∀ b, (Value.slice (some ⟨g1, 0, none⟩) (Q' ++ [k]).length cap1).ownBlock = some b → b < B ∨ w5.heap.size ≤ b := by
                intro b hb
                simp [Value.ownBlock] at hb
                subst hb
                rcases hat1 with h | h
                · exact hdis g1 h
                · (try simp at h); omega
              clear hown1 hg1 hat1 hne hne2 hr2
              have hlen2 : Q'.length + 1 = (Q' ++ [k]).length := by simp
              try rw [hlen2]
              go_wp2_with (fail)
              go_roundw
              case rel => exact ⟨j + 1, by omega, by go_num, by rw [hTh.out, hT2.out]; exact hr9, hp9, hnr9, hdis9, hn9, by omega⟩
              case measure => simp [intOf]; omega
          · have hbe : (f k == f c) = false := by rw [hfc'.out]; simp [hz]
            have hT2 : Hid (T1 = Q') := htk.out.trans (addQ_c hz)
            have hin : inF Q' k = inF Q' k := rfl
            clear hz htk
            go_upto_region 8 with (fail)
            go_wp2_with (fail)
            refine wp_region_new (by kernel_rfl) (by kernel_rfl) ?_
            repeat (go_big_quiet_step (first | fail | (go_at_call 49; with_reducible exact calls_new (contQ_new _ _ Q' k (by omega) hin _ (hrq.sl.new (NewW.is _))))))
            refine wpQuiet_nil ?_
            intro w3 hc3
            have hn3 := NewW.of hc3
            clear hc3
            have ho3 := hn3.objs
            have hz3 := hn3.le
            try simp at hz3
            go_wp2_with (fail)
            go_roundw
            case rel => exact ⟨j + 1, by omega, by go_num, by rw [hTh.out, hT2.out]; exact hrq.new hn3, hide ((hn3.objs _ q1).trans p1), hnr.new hn3, hdis, hnq.trans hn3, by have := hn3.le; omega⟩
            case measure => simp [intOf]; omega
        · obtain rfl : j = l.length := by omega
          rw [List.take_length] at hrq hdis ⊢
          have hpl := hpre.out.length_le
          go_wp2_with (fail)
          go_roundw
          case rel => exact ⟨i + 1, by rw [hQ1h.out]; omega, by go_num, by rw [hQ1h.out, hst.out]; exact hrq, hp1, hnq, by omega⟩
          case measure => simp [intOf]; omega
    · have he : Hid (fldQ a b f c0 = bfs a b f c0 i) := fldQ_of (by omega) (by omega)
      have hnd := bfs_nodup (a := a) (b := b) (f := f) (c0 := c0) i
      have hlt144 : ∀ k ∈ bfs a b f c0 i, k < 144 := fun k hk => (cellN_e.1 (bfs_in (f := f) ha.2 hb.2 hc i k hk).1).1
      have hpos : 0 < (bfs a b f c0 i).length := by
        have h := (bfs_pre (a := a) (b := b) (f := f) (c0 := c0) 0 i).length_le
        rw [Nat.zero_add] at h
        simp [bfs] at h
        omega
      have hnd' := hide hnd
      have hl' := hide hlt144
      clear hnd hlt144
      generalize bfs a b f c0 i = Q at *
      rcases hrow.shape with ⟨_, h0⟩ | ⟨g, cap, cur, hv, hbg, hgl, _⟩
      · omega
      rw [hv] at hrow ⊢
      go_wp2_with (fail)
      refine (sortI_any (by omega) hrow).mono ?_
      rintro e w8 ⟨rfl, hr8, hg8⟩
      have hn8 : New w w8 := grown_new hnw hg8 fun b hb => by simp at hb; omega
      have hr9 := field_row hnd'.out hl'.out hr8
      have hl2 : Q.length = Q.length := rfl
      go_wp2_with (fail)
      go_ret
      exact ⟨_, rfl, by rw [he.out]; exact hr9.lower (by omega), hn8⟩
end Go.Proofs.Ytmmckoemkpfgbaa
