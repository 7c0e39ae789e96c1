/- The field of a cell, by the reference; no condition. -/
import Derived.Test.YtmmckoemkpfgbaaFldB
import Derived.Test.YtmmckoemkpfgbaaInts
set_option linter.unusedVariables false
namespace Go.Proofs.Ytmmckoemkpfgbaa
open Go.BigFrame
open Go.RowKit Go.Arr
theorem inF_t {Q : List Nat} {k : Nat} (h : k ∈ Q) : inF Q k = true := decide_eq_true h
theorem inF_f {Q : List Nat} {k : Nat} (h : ¬ k ∈ Q) : inF Q k = false := decide_eq_false h
theorem inF_snoc (Q : List Nat) (k : Nat) : updB (inF Q) k true = inF (Q ++ [k]) := by
  funext j
  unfold updB inF
  by_cases h : j = k
  · rw [if_pos h]; simp [h]
  · rw [if_neg h]; simp [h]
theorem inF_nil : (fun _ => false) = inF [] := by funext j; unfold inF; simp
theorem obj_set_brr {w : World} {g n : Nat} {p : Nat → Bool} {t : TypeId} {fr : Nat × Nat} (h : obj w g = some (.cells (brr n p) t fr)) (off i : Nat) (v : Bool) (ho : off = i) : obj (w.setCell ⟨g, off, none⟩ (.bool v)) g = some (.cells (brr n (updB p i v)) t fr) := by
  subst ho
  rw [obj_setCell_same, h]
  simp only [Option.map_some, reCell_cells, set_brr]
theorem addN_len {f : Nat → Int} {z : Int} (l : List Nat) : ∀ Q : List Nat, (addN f z Q l).length ≤ Q.length + l.length := by
  induction l with
  | nil => intro Q; exact Nat.le_refl _
  | cons x l ih =>
    intro Q
    have h1 := ih (addQ f z Q x)
    have h2 : (addQ f z Q x).length ≤ Q.length + 1 := by unfold addQ; split <;> simp
    show (addN f z (addQ f z Q x) l).length ≤ _
    rw [List.length_cons]
    omega
set_option maxHeartbeats 4000000 in
set_option maxRecDepth 100000 in
theorem l01Field_any (gm : Nat) (t0 : TypeId) (a b : Int) (f : Nat → Int) (ha : -128 ≤ a ∧ a ≤ 12) (hb : -128 ≤ b ∧ b ≤ 12) (hf : ∀ i, 0 ≤ f i ∧ f i ≤ 255) (c0 : Nat) (hc : cellN a b c0 = true) (w : World) (ho : obj w gm = some (.cells (pic 144 a b f) t0)) :
    Calls Try.prog 38 #[.pointer (some ⟨gm, 0, none⟩), .int .i64 c0] w fun e w' => e = .returned (.agg (brr 144 (inF (fldQ a b f c0)))) ∧ New w w' := by
  have r1 := obj_lt ho
  have hc144 := (cellN_e.1 hc).1
  go_enter Try.func38, Try.ntmps38
  go_wp2_with (fail)
  generalize hw0 : ((w.alloc (Obj.cells (brr 144 fun _ => false) 62)).alloc (Obj.cells (brr 144 (updB (fun _ => false) c0 true)) 62)).alloc (Obj.cells #[Value.int IntKind.i64 (c0 : Int)] 2) = w0
  have b1 : obj w0 w.heap.size = some (.cells (brr 144 fun _ => false) 62) := by subst hw0; go_simp
  have b2 : obj w0 (w.heap.size + 1) = some (.cells (brr 144 (inF [c0])) 62) := by
    have : updB (fun _ => false) c0 true = inF [c0] := by rw [inF_nil, inF_snoc]; rfl
    rw [← this]
    subst hw0
    go_simp
  have b3 : obj w0 (w.heap.size + 1 + 1) = some (.cells #[Value.int IntKind.i64 (c0 : Int)] 2) := by subst hw0; go_simp
  have hn0 : New w w0 := by subst hw0; exact (((New.refl w).alloc _).alloc _).alloc _
  have hz0 : w0.heap.size = w.heap.size + 3 := by subst hw0; simp
  have hrow0 : Row w0 (w.heap.size + 2) (.slice (some ⟨w.heap.size + 1 + 1, 0, none⟩) 1 1) (bfs a b f c0 0).length (QF (bfs a b f c0 0)) := Row.of b3 (by omega) (Nat.le_refl _) (by unfold maxLen; omega) rfl (by
    intro j hj
    have hj0 : j = 0 := by omega
    subst hj0
    rfl)
  clear hw0 b3
  go_loopw [6, 7] (fun v x wr => ∃ i : Nat, i ≤ (bfs a b f c0 i).length ∧ x = .int .i64 i ∧ Row wr (w.heap.size + 2) v (bfs a b f c0 i).length (QF (bfs a b f c0 i)) ∧ Hid (obj wr (w.heap.size + 1) = some (.cells (brr 144 (inF (bfs a b f c0 i))) 62)) ∧ Hid (obj wr w.heap.size = some (.cells (brr 144 fun _ => false) 62)) ∧ New w wr ∧ w.heap.size + 3 ≤ wr.heap.size) (fun _ x _ => 144 - (intOf x).toNat)
  case atStart => exact ⟨0, by simp, rfl, hrow0, b2, b1, hn0, by omega⟩
  case round =>
    obtain ⟨i, hi, rfl, hrow, hs1, hr1, hnw, hlw⟩ := hrel
    have hlen := bfs_len (f := f) ha.2 hb.2 hc i
    obtain ⟨x6, y6, rfl, _⟩ := hrow.reads
    by_cases hlt : i < (bfs a b f c0 i).length
    · have hst : Hid (bfs a b f c0 (i + 1) = addN f (f c0) (bfs a b f c0 i) (nbL a b ((bfs a b f c0 i).getD i 0))) := bfs_s hlt
      have hpre := hide (bfs_pre (a := a) (b := b) (f := f) (c0 := c0) i 1)
      have hin := hide (bfs_in (f := f) ha.2 hb.2 hc (i + 1))
      have hnd := hide (bfs_len (f := f) ha.2 hb.2 hc (i + 1))
      generalize hQ1 : bfs a b f c0 (i + 1) = Q1 at hst hpre hin hnd
      have hQ1h := hide hQ1
      clear hQ1
      generalize bfs a b f c0 i = Q at hi hrow hs1 hlen hlt hst hpre
      have hcm := QF_at hlt
      have hcQ : QF Q i = ((Q.getD i 0 : Nat) : Int) := rfl
      obtain ⟨gq, offq, curq, tq, frq, rfl, oq, helq⟩ := elInts hrow.sl (by omega)
      obtain ⟨lq, eq⟩ := helq i hlt
      rw [hcQ] at eq
      generalize Q.getD i 0 = c at hst hcm eq
      have hcc := (hin.out c (hpre.out.subset hcm)).1
      have hc1 := (cellN_e.1 hcc).1
      have p1 := (hnw.objs _ r1).trans ho
      clear helq hcQ
      go_wp2_with (fail)
      refine (l01Beside_any gm t0 a b f (by omega) (by omega) c hc1 _ p1).mono ?_
      rintro e w5 ⟨nv, rfl, hnrow, hn5⟩
      obtain ⟨nx, ny, rfl, _⟩ := hnrow.reads
      have hnbk := hnrow.block
      have hqbk := hrow.block
      have hrow5 := hrow.new hn5
      have hs5 := hide ((hn5.objs _ (by omega)).trans hs1.out)
      have hr5 := hide ((hn5.objs _ (by omega)).trans hr1.out)
      have hN5 := hnw.trans hn5
      have hz5 := hn5.le
      have hnm : ∀ k ∈ nbL a b c, k < 144 := fun k hk => (cellN_e.1 (nbL_cell ha.2 hb.2 hcc hk)).1
      have hnm' := hide hnm
      have hml := nbL_len a b c
      clear hnm hcm hs1 hr1 hrow oq
      go_wp2_with (fail)
      generalize nbL a b c = l at hst hnrow hnm' hml hnbk ⊢
      obtain ⟨B, hB⟩ : ∃ B, B = wr.heap.size := ⟨_, rfl⟩
      rw [← hB] at hnrow hnbk hqbk hlw hz5
      have hNl : w.heap.size ≤ B := by omega
      have hQ0 : addN f (f c0) Q (l.take 0) = Q := rfl
      go_loopw [6, 9] (fun v x wq => ∃ j : Nat, j ≤ l.length ∧ x = .int .i64 j ∧ Row wq (w.heap.size + 2) v (addN f (f c0) Q (l.take j)).length (QF (addN f (f c0) Q (l.take j))) ∧ Hid (obj wq (w.heap.size + 1) = some (.cells (brr 144 (inF (addN f (f c0) Q (l.take j)))) 62)) ∧ Hid (obj wq w.heap.size = some (.cells (brr 144 fun _ => false) 62)) ∧ Row wq B (.slice nx l.length ny) l.length (QF l) ∧ (∀ b, v.ownBlock = some b → b < B ∨ w5.heap.size ≤ b) ∧ New w wq ∧ w5.heap.size ≤ wq.heap.size) (fun _ x _ => l.length - (intOf x).toNat)
      case atStart => exact ⟨0, by omega, rfl, hrow5, hs5, hr5, hnrow, fun b hb => Or.inl (hqbk b hb).2, hN5, Nat.le_refl _⟩
      case round =>
        obtain ⟨j, hj, rfl, hrq, hs1, hr1, hnr, hdis, hnq, hlq⟩ := hrel
        obtain ⟨x7, y7, rfl, _⟩ := hrq.reads
        by_cases hlj : j < l.length
        · have htk : Hid (addN f (f c0) Q (l.take (j + 1)) = addQ f (f c0) (addN f (f c0) Q (l.take j)) (l.getD j 0)) := addN_take hlj
          have hln := addN_len (f := f) (z := f c0) (l.take j) Q
          rw [List.length_take] at hln
          have hkm := hnm'.out _ (QF_at hlj)
          have hkQ : QF l j = ((l.getD j 0 : Nat) : Int) := rfl
          obtain ⟨gn, offn, curn, tn, frn, rfl, on, heln⟩ := elInts hnr.sl (by omega)
          obtain ⟨ln, en⟩ := heln j hlj
          rw [hkQ] at en
          generalize hT : addN f (f c0) Q (l.take (j + 1)) = T1 at htk
          have hTh := hide hT
          clear hT
          generalize addN f (f c0) Q (l.take j) = Q' at hrq hs1 htk hln hdis ⊢
          generalize l.getD j 0 = k at hkm htk en
          have p1 := (hnq.objs _ r1).trans ho
          have q1 := obj_lt p1
          have hq := hs1.out
          have hr := hr1.out
          have q2 := obj_lt hq
          have q3 := obj_lt on
          have hbn := hnr.block gn rfl
          have hbn2 := hnbk gn rfl
          have z1 : gn ≠ w.heap.size + 1 := by omega
          clear heln hkQ
          by_cases hm : k ∈ Q'
          · have hT2 : Hid (T1 = Q') := htk.out.trans (addQ_m hm)
            have hin : inF Q' k = true := inF_t hm
            clear hm htk
            go_wp2_with (fail)
            go_quiet (fail)
            go_wp2_with (fail)
            go_roundw
            case rel => exact ⟨j + 1, by omega, by go_num, by rw [hTh.out, hT2.out]; exact hrq.new ((New.refl _).drewN _), by rw [hTh.out, hT2.out]; exact hs1, hr1, hnr.new ((New.refl _).drewN _), hdis, hnq.drewN _, hlq⟩
            case measure => simp [intOf]; omega
          · have hin : inF Q' k = false := inF_f hm
            by_cases hz : f k = f c0
            · have hT2 : Hid (T1 = Q' ++ [k]) := htk.out.trans (addQ_t hz hm)
              have hbe : (f k == f c0) = true := by simp [hz]
              clear hz hm htk
              have hbk := hrq.block
              go_wp2_with (fail)
              go_quiet (fail)
              have hrs : ∀ q : Nat, Row ((wr.drewN q).setCell ⟨w.heap.size + 1, k, none⟩ (.bool true)) (w.heap.size + 2) (.slice x7 Q'.length y7) Q'.length (QF Q') := fun q => (hrq.new ((New.refl _).drewN _)).same fun b hb => obj_setCell_other _ _ _ _ _ (by have := hbk b hb; omega)
              go_wp2_with (at_builtin; refine wpList_app slInts rfl _ _ rfl (w.heap.size + 2) _ _ _ rfl ((hrs _).new ((New.refl _).alloc _)) ⟨wr.heap.size, 0, none⟩ 1 1 [.int .i64 (k : Int)] rfl rfl (news_new _ _ _ _ _ (by simp)) (by simp [Value.oneCell']) (by omega) (by unfold maxLen; omega) (by omega) (by simp; omega) ?_)
              intro g1 cap1 w3 hown1 hg1 hat1 hlt1
              have hn9 : New w w3 := grown_new (((hnq.drewN _).setCell (by show w.heap.size ≤ w.heap.size + 1; omega) _).alloc _) hg1 fun b hb => by have := hbk b hb; omega
              have hr9 := qrow_app hown1
              have hne : ∀ b, b < w.heap.size + 2 → some b ≠ (Value.slice x7 Q'.length y7).ownBlock := fun b hb e => by have := hbk b e.symm; omega
              have hs9 : obj w3 (w.heap.size + 1) = some (.cells (brr 144 (inF (Q' ++ [k]))) 62) := by
                rw [← inF_snoc]
                exact (grown_obj hg1 _ (by simp; omega) (hne _ (by omega))).trans ((obj_alloc_past _ _ _ (by simp; omega)).trans (obj_set_brr hq k k true rfl))
              have hr10 : obj w3 w.heap.size = some (.cells (brr 144 fun _ => false) 62) := (grown_obj hg1 _ (by simp; omega) (hne _ (by omega))).trans ((obj_alloc_past _ _ _ (by simp; omega)).trans ((obj_setCell_other _ _ _ _ _ (by omega)).trans hr))
              have hne2 : some gn ≠ (Value.slice x7 Q'.length y7).ownBlock := fun e => by have := hdis gn e.symm; omega
              have hnr9 : Row w3 B (.slice (some ⟨gn, offn, none⟩) l.length ny) l.length (QF l) := hnr.same fun b hb => by
                simp [Value.ownBlock] at hb
                subst hb
                exact (grown_obj hg1 _ (by simp; omega) hne2).trans ((obj_alloc_past _ _ _ (by simp; omega)).trans (obj_setCell_other _ _ _ _ _ (by omega)))
              have hz9 := grown_le hg1
              simp at hz9
              have hdis9 : ∀ b, (Value.slice (some ⟨g1, 0, none⟩) (Q' ++ [k]).length cap1).ownBlock = some b → b < B ∨ w5.heap.size ≤ b := by
                intro b hb
                simp [Value.ownBlock] at hb
                subst hb
                rcases hat1 with h | h
                · exact hdis g1 h
                · (try simp at h); omega
              clear hown1 hg1 hat1 hrs hne hne2 hrq hnr hq hr hs1 hr1
              have hlen2 : Q'.length + 1 = (Q' ++ [k]).length := by simp
              try rw [hlen2]
              go_wp2_with (fail)
              go_roundw
              case rel => exact ⟨j + 1, by omega, by go_num, by rw [hTh.out, hT2.out]; exact hr9, by rw [hTh.out, hT2.out]; exact hs9, hr10, hnr9, hdis9, hn9, by omega⟩
              case measure => simp [intOf]; omega
            · have hT2 : Hid (T1 = Q') := htk.out.trans (addQ_c hz)
              have hbe : (f k == f c0) = false := by simp [hz]
              clear hz hm htk
              go_wp2_with (fail)
              go_quiet (fail)
              go_wp2_with (fail)
              go_roundw
              case rel => exact ⟨j + 1, by omega, by go_num, by rw [hTh.out, hT2.out]; exact hrq.new ((New.refl _).drewN _), by rw [hTh.out, hT2.out]; exact hs1, hr1, hnr.new ((New.refl _).drewN _), hdis, hnq.drewN _, hlq⟩
              case measure => simp [intOf]; omega
        · obtain rfl : j = l.length := by omega
          rw [List.take_length] at hrq hs1 hdis ⊢
          have hpl := hpre.out.length_le
          go_wp2_with (fail)
          go_roundw
          case rel => exact ⟨i + 1, by rw [hQ1h.out]; omega, by go_num, by rw [hQ1h.out, hst.out]; exact hrq, by rw [hQ1h.out, hst.out]; exact hs1, hr1, hnq, by omega⟩
          case measure => simp [intOf]; omega
    · have he : Hid (fldQ a b f c0 = bfs a b f c0 i) := fldQ_of (by omega) (by omega)
      have hq := hs1.out
      have hr := hr1.out
      go_wp2_with (fail)
      refine ret_cell agg62 rfl rfl (c := brr 144 (inF (bfs a b f c0 i))) (t := 62) (fr := (0, 0)) (by rw [obj_setRow_same, hr]; simp only [Option.map_some, reCells_cells]) size_brr rfl ⟨by rw [he.out], hnw.setRow (Nat.le_refl _) _⟩
end Go.Proofs.Ytmmckoemkpfgbaa
