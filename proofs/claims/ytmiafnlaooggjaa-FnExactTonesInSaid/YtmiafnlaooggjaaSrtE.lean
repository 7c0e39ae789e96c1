/- Palettes put in order of brightness: slices.SortFunc at a palette of the call's own; no condition. -/
import Derived.Test.YtmiafnlaooggjaaSrtB
import Derived.Test.YtmiafnlaooggjaaSrtD
set_option linter.unusedVariables false
namespace Go.Proofs.Ytmiafnlaooggjaa
open Go.BigFrame
open Go.RowKit Go.Arr
open Go.Sort (grow flatK size_flatK get_flatK HoldsK PermIn SortedIn pdq)
theorem perm_map_ex {α β : Type} {g : α → β} {A B : List β} (h : A.Perm B) : ∀ M : List α, A = M.map g → ∃ L : List α, L.Perm M ∧ B = L.map g := by
  induction h with
  | nil => intro M h; exact ⟨M, List.Perm.refl _, h⟩
  | cons x _ ih =>
    intro M h
    cases M with
    | nil => simp at h
    | cons m M =>
      simp only [List.map_cons, List.cons.injEq] at h
      obtain ⟨L, h1, h2⟩ := ih M h.2
      exact ⟨m :: L, h1.cons m, by rw [List.map_cons, ← h2, ← h.1]⟩
  | swap x y l =>
    intro M h
    cases M with
    | nil => simp at h
    | cons a M =>
      cases M with
      | nil => simp at h
      | cons b M =>
        simp only [List.map_cons, List.cons.injEq] at h
        exact ⟨b :: a :: M, List.Perm.swap a b M, by rw [List.map_cons, List.map_cons, ← h.1, ← h.2.1, ← h.2.2]⟩
  | trans _ _ ih1 ih2 =>
    intro M h
    obtain ⟨L1, h1, h2⟩ := ih1 M h
    obtain ⟨L2, h3, h4⟩ := ih2 L1 h2
    exact ⟨L2, h3.trans h1, h4⟩
def tnA (n : Nat) (f : Nat → Int) : Array Tn := ((List.range n).map (tnF f)).toArray
theorem size_tnA (n : Nat) (f : Nat → Int) : (tnA n f).size = n := by simp [tnA]
theorem get_tnA {n : Nat} (f : Nat → Int) {j : Nat} (h : j < n) : (tnA n f)[j]! = tnF f j := by simp [tnA, h]
theorem get_encT {f : Nat → Int} (hf : ∀ i, 0 ≤ f i ∧ f i ≤ 255) (i r : Nat) (hr : r < 3) : (encT (tnF f i))[r]! = .int .u8 (f (i * 3 + r)) := by
  have : r = 0 ∨ r = 1 ∨ r = 2 := by omega
  unfold encT
  rw [tnF_0 hf, tnF_1 hf, tnF_2 hf]
  rcases this with rfl | rfl | rfl <;> rfl
section
variable {W : World} {base g cap n : Nat} {f : Nat → Int}
theorem PRow.held (h : PRow W base (.slice (some ⟨g, 0, none⟩) n cap) n f) (hf : ∀ i, 0 ≤ f i ∧ f i ≤ 255) : HoldsK encT 3 W g 0 (tnA n f) := by
  rcases h.shape with ⟨h1, _⟩ | ⟨g', cap', cur, h1, h2, h3, h4, h5, h6, h7, h8⟩
  · cases h1
  · simp only [Value.slice.injEq, Option.some.injEq, Addr.mk.injEq, and_true, true_and] at h1
    obtain ⟨rfl, rfl⟩ := h1
    intro j hj
    rw [size_flatK, size_tnA] at hj
    rw [get_flatK _ _ _ _ (by rw [size_tnA]; exact hj), get_tnA f (by omega), get_encT hf _ _ (by omega), show j / 3 * 3 + j % 3 = j by omega]
    have ho : W.heap[g]? = some (.cells cur 40 (0, 0)) := h4
    refine ⟨?_, by simp [World.frozen?, ho]⟩
    have := h8 j hj
    simp [World.cell?, ho, this]
theorem heap_sortedK {m : Nat} {os : Array Obj} {cur : Array Value} {e : TypeId} {fr : Nat × Nat} (d : Array Tn) (hb : W.heap[g]? = some (.cells cur e fr)) :
    (Go.Proofs.sortWorldK encT 3 W g 0 m d os).heap[g]? = some (.cells (Go.Sort.putCells id 0 (flatK encT 3 d) cur) e fr) := by
  have hg : g < W.heap.size := (Array.getElem?_eq_some_iff.1 hb).1
  unfold Go.Proofs.sortWorldK Go.Sort.putRowK
  rw [Go.Sort.heap_grow_old _ _ (by simpa using hg)]
  simp [Go.Sort.putRow, Go.Sort.mapBlock, Go.Sort.ahead, Array.getElem?_modify, hb, Go.Sort.onCells]
theorem grownBy_sortedK {m : Nat} {os : Array Obj} (d : Array Tn) : W.grownBy (Go.Proofs.sortWorldK encT 3 W g 0 m d os) (some g) := by
  unfold Go.Proofs.sortWorldK Go.Sort.putRowK
  refine ⟨rfl, rfl, rfl, by simp, fun k hk hne => ?_⟩
  rw [Go.Sort.heap_grow_old _ _ (by simpa using hk)]
  have : g ≠ k := fun e => hne (by rw [e])
  simp [Go.Sort.putRow, Go.Sort.mapBlock, Go.Sort.ahead, Array.getElem?_modify, this]
theorem PRow.sorted {m : Nat} {os : Array Obj} {d : Array Tn} {L : List Nat} (h : PRow W base (.slice (some ⟨g, 0, none⟩) n cap) n f) (hf : ∀ i, 0 ≤ f i ∧ f i ≤ 255) (hL : L.length = n) (hd : d.toList = L.map (tnF f)) : PRow (Go.Proofs.sortWorldK encT 3 W g 0 m d os) base (.slice (some ⟨g, 0, none⟩) n cap) n (subP f (lsF L)) := by
  rcases h.shape with ⟨h1, _⟩ | ⟨g', cap', cur, h1, h2, h3, h4, h5, h6, h7, h8⟩
  · cases h1
  · simp only [Value.slice.injEq, Option.some.injEq, Addr.mk.injEq, and_true, true_and] at h1
    obtain ⟨rfl, rfl⟩ := h1
    have hsz : d.size = n := by rw [← Array.length_toList, hd, List.length_map, hL]
    refine PRow.of (heap_sortedK d h4) h2 h5 h6 (by simp [Go.Sort.putCells, h7]) fun j hj => ?_
    have hc : j < cur.size := by omega
    have hv : (flatK encT 3 d)[j]! = .int .u8 (subP f (lsF L) j) := by
      rw [get_flatK _ _ _ _ (by rw [hsz]; exact hj)]
      have e1 : d[j / 3]! = tnF f (L.getD (j / 3) 0) := by
        have l1 : j / 3 < d.size := by omega
        have l2 : j / 3 < L.length := by omega
        rw [getElem!_pos d (j / 3) l1, ← Array.getElem_toList, List.getElem_of_eq hd, List.getElem_map, List.getD_eq_getElem?_getD, List.getElem?_eq_getElem l2]
        rfl
      rw [e1, get_encT hf _ _ (by omega)]
      unfold subP lsF
      rw [show (((L.getD (j / 3) 0 : Nat) : Int) + 1).toNat - 1 = L.getD (j / 3) 0 by omega]
    simp [Go.Sort.putCells, hc, hsz, hj]
    rw [getElem!_pos _ _ (by rw [size_flatK, hsz]; exact hj)] at hv
    exact hv
end
theorem cmpLays_any (W : World) (g n : Nat) : Go.Proofs.CmpLays Try.prog 81 #[] encT 3 cmpT g 0 n W := by
  intro m os dk _ x y
  exact byBright_gr x y _
set_option maxHeartbeats 4000000 in
set_option maxRecDepth 100000 in
theorem sortFunc_any {base g cap n : Nat} {f : Nat → Int} (hf : ∀ i, 0 ≤ f i ∧ f i ≤ 255) (hn : n ≤ 1048576) (W : World) (h : PRow W base (.slice (some ⟨g, 0, none⟩) n cap) n f) :
    Calls Try.prog 80 #[.slice (some ⟨g, 0, none⟩) n cap, .func (.func 81) #[] #[]] W fun e w' => e = .returned (.tuple #[]) ∧ ∃ L : List Nat, L.Perm (List.range n) ∧ (L.Pairwise fun i j => ¬ tl (tnF f j) (tnF f i)) ∧ PRow w' base (.slice (some ⟨g, 0, none⟩) n cap) n (subP f (lsF L)) ∧ W.grownBy w' (some g) := by
  have hb := h.block g rfl
  have eg : ∀ args w, (callFunc 81 args).run Try.prog w = .ok (.enter 81 args) w := Go.Proofs.enters_of Try.func81 (by decide) rfl
  have hH := h.held hf
  have hp := AnyQ.pdqsortCmpFunc_all Try.sortF 3 (fun w => Try.isAgg40 w) (fun w => Try.sizeOf40 w) encT cmpT 81 #[] swo_tl g 0 cap (tnA n f) W eg (cmpLays_any W g _) ⟨fun _ => rfl, fun x v hv => by simp [encT] at hv; rcases hv with rfl | rfl | rfl <;> rfl, hH, hb.2⟩ ((tnA n f).size + 1) 0 (tnA n f).size (Lib.bitLen (tnA n f).size) (tnA n f) W (by omega) rfl (Go.Proofs.SWK.start hH) (Nat.zero_le _) (Nat.le_refl _) (by rw [size_tnA]; omega) (Nat.lt_of_le_of_lt (Lib.bitLen_le _ 62 (by omega) (by rw [size_tnA]; omega)) (by omega)) (Or.inl rfl)
  rw [size_tnA] at hp
  have hl : Calls Try.prog 107 #[.int .u64 (n : Int)] W fun e w' => e = .returned (.int .i64 (Lib.bitLen n : Nat)) ∧ w' = W := by
    have h := Any.bits_Len (Go.Proofs.SlLaysF0.n15.bits Try.bitsF) (n : Int) W (by omega) (by omega)
    rwa [Int.toNat_natCast] at h
  have wr : IntKind.u64.wrap (n : Int) = n := by simp [IntKind.wrap, IntKind.bits, IntKind.signed]; omega
  have hS := Go.Sort.pdq_sorts (ltOf cmpT) swo_tl (tnA n f) 0 n (Lib.bitLen n) true true (Nat.zero_le _) (by rw [size_tnA]; exact Nat.le_refl _) (Or.inl rfl)
  generalize pdq (ltOf cmpT) (tnA n f) 0 n (Lib.bitLen n) true true = D at hp hS
  change Calls Try.prog 106 #[.slice (some ⟨g, 0, none⟩) n cap, .int .i64 0, .int .i64 n, .int .i64 (Lib.bitLen n : Nat), .func (.func 81) #[] #[]] W _ at hp
  have hS := hide hS
  have h := hide h
  clear hH hb
  go_enter Try.func80, Try.ntmps80
  go_wp2_with (first | (go_at_call 107; refine hl.mono ?_; rintro e w' ⟨rfl, rfl⟩) | (go_at_call 106; refine hp.mono ?_; rintro e w' ⟨rfl, m0, os, rfl⟩))
  go_end0
  obtain ⟨⟨hs1, _, hs2⟩, hs3⟩ := hS.out
  rw [size_tnA] at hs1
  have hs2 : D.toList.Perm ((List.range n).map (tnF f)) := by
    have e1 : D.extract 0 n = D := by rw [← hs1]; exact Array.extract_size
    have e2 : (tnA n f).extract 0 n = tnA n f := by
      have := Array.extract_size (xs := tnA n f)
      rwa [size_tnA] at this
    rw [e1, e2] at hs2
    exact hs2
  obtain ⟨L, hL1, hL2⟩ := perm_map_ex hs2.symm _ rfl
  have hLl : L.length = n := by rw [hL1.length_eq, List.length_range]
  refine ⟨rfl, L, hL1, pw_getD.2 fun i j hij hj => ?_, h.out.sorted hf hLl hL2, grownBy_sortedK D⟩
  have h3 := hs3 i j (Nat.zero_le _) hij (by omega)
  have e1 : ∀ i, i < n → D[i]! = tnF f (L.getD i 0) := fun i hi => by
    have l1 : i < D.size := by omega
    have l2 : i < L.length := by omega
    rw [getElem!_pos D i l1, ← Array.getElem_toList, List.getElem_of_eq hL2, List.getElem_map, List.getD_eq_getElem?_getD, List.getElem?_eq_getElem l2]
    rfl
  rw [e1 i (by omega), e1 j (by omega)] at h3
  unfold ltOf at h3
  rw [decide_eq_false_iff_not, cmpT_neg] at h3
  exact h3
end Go.Proofs.Ytmiafnlaooggjaa
