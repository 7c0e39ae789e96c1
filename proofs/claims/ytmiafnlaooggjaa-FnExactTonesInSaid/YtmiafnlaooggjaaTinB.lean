/- The tones of an image: sorted and made single, they are the list; no condition. -/
import Derived.Test.YtmiafnlaooggjaaTinP
set_option linter.unusedVariables false
namespace Go.Proofs.Ytmiafnlaooggjaa
open Go.BigFrame
open Go.RowKit Go.Arr
/-- the cells' tones, one after the other -/
def ctF (a b : Int) (fm : Nat → Int) : Nat → Int := fun j => fm (selG (cellN a b) 144 (j / 3) * 3 + j % 3)
theorem tnF_ct (a b : Int) (fm : Nat → Int) (q : Nat) : tnF (ctF a b fm) q = tnF fm (selG (cellN a b) 144 q) := by
  unfold tnF ctF
  rw [show q * 3 / 3 = q by omega, show (q * 3 + 1) / 3 = q by omega, show (q * 3 + 2) / 3 = q by omega, show q * 3 % 3 = 0 by omega, show (q * 3 + 1) % 3 = 1 by omega, show (q * 3 + 2) % 3 = 2 by omega, Nat.add_zero]
theorem tnF_sub (f : Nat → Int) (L : List Nat) (i : Nat) : tnF (subP f (lsF L)) i = tnF f (L.getD i 0) := by
  unfold tnF
  rw [subL_0, subL_1, subL_2]
theorem kpP_ne {f : Nat → Int} (hf : ∀ i, 0 ≤ f i ∧ f i ≤ 255) {k : Nat} (hk : 1 ≤ k) : kpP f k = true ↔ tnF f k ≠ tnF f (k - 1) := by
  rw [kpP_k f hk, Bool.not_eq_true', ← Bool.not_eq_true, eq3_t]
  constructor
  · intro h e
    apply h
    rw [← tnF_0 hf, ← tnF_1 hf, ← tnF_2 hf, ← tnF_0 hf, ← tnF_1 hf, ← tnF_2 hf, e]
    exact ⟨rfl, rfl, rfl⟩
  · intro h e
    apply h
    unfold tnF
    rw [e.1, e.2.1, e.2.2]
theorem tin_bridge {a b : Int} {fm : Nat → Int} (hfm : ∀ i, 0 ≤ fm i ∧ fm i ≤ 255) {N : Nat} (hN : N = selN (cellN a b) 144) {L : List Nat} (h1 : L.Perm (List.range N)) (h2 : L.Pairwise fun i j => ¬ tl (tnF (ctF a b fm) j) (tnF (ctF a b fm) i)) :
    (tinL a b fm).length = selN (kpP (subP (ctF a b fm) (lsF L))) N ∧ ∀ j, j < selN (kpP (subP (ctF a b fm) (lsF L))) N * 3 → kpF (subP (ctF a b fm) (lsF L)) N j = flF (tinL a b fm) j := by
  obtain ⟨f, hf⟩ : ∃ f, f = subP (ctF a b fm) (lsF L) := ⟨_, rfl⟩
  rw [← hf]
  have hb : ∀ i, 0 ≤ f i ∧ f i ≤ 255 := fun i => by rw [hf]; exact hfm _
  have hl : L.length = N := by rw [h1.length_eq, List.length_range]
  have hD : ∀ i, tnF f i = tnF fm (selG (cellN a b) 144 (L.getD i 0)) := fun i => by rw [hf, tnF_sub, tnF_ct]
  have hle : ∀ i j, i < j → j < N → ¬ tl (tnF f j) (tnF f i) := fun i j hij hj => by
    have := pw_getD.1 h2 i j hij (by omega)
    rwa [tnF_ct, tnF_ct, ← hD, ← hD] at this
  have hlt : ∀ i j, i < j → j < N → kpP f j = true → tl (tnF f i) (tnF f j) := fun i j hij hj hk => by
    have hne := (kpP_ne hb (by omega)).1 hk
    have e1 : tl (tnF f (j - 1)) (tnF f j) := by
      by_cases h : tl (tnF f (j - 1)) (tnF f j)
      · exact h
      · exact absurd (tl_tri (hle (j - 1) j (by omega) hj) h) hne
    by_cases e : i = j - 1
    · rw [e]; exact e1
    · have h3 := hle i (j - 1) (by omega) (by omega)
      by_cases h4 : tl (tnF f i) (tnF f (j - 1))
      · exact tl_trans h4 e1
      · rw [tl_tri h4 h3]; exact e1
  have hdn : ∀ m, m < N → ∃ q, q ≤ m ∧ kpP f q = true ∧ tnF f q = tnF f m := by
    intro m
    induction m with
    | zero => intro _; exact ⟨0, Nat.le_refl _, rfl, rfl⟩
    | succ m ih =>
      intro hm
      cases hk : kpP f (m + 1)
      · have e : tnF f (m + 1) = tnF f m := by
          by_cases h : tnF f (m + 1) = tnF f m
          · exact h
          · have := (kpP_ne hb (show 1 ≤ m + 1 by omega)).2 h
            rw [hk] at this
            cases this
        obtain ⟨q, h5, h6, h7⟩ := ih (by omega)
        exact ⟨q, by omega, h6, by rw [h7, e]⟩
      · exact ⟨m + 1, Nat.le_refl _, hk, rfl⟩
  have hM : tsP (cellN a b) (tnF fm) 144 ((List.range (selN (kpP f) N)).map fun i => tnF f (selG (kpP f) N i)) := by
    refine ⟨?_, fun t => ?_⟩
    · rw [List.pairwise_map]
      refine List.Pairwise.imp_of_mem (R := fun i j : Nat => i < j) ?_ List.pairwise_lt_range
      intro i j hi hj hij
      have h5 := selG_inc2 (p := kpP f) N i j hij (by simpa using hj)
      have h6 := selG_lt (p := kpP f) N j (by simpa using hj)
      exact hlt _ _ h5 h6.1 h6.2
    · rw [List.mem_map]
      constructor
      · rintro ⟨i, hi, rfl⟩
        have h6 := selG_lt (p := kpP f) N i (by simpa using hi)
        have h7 : L.getD (selG (kpP f) N i) 0 ∈ L := by
          rw [List.getD_eq_getElem?_getD, List.getElem?_eq_getElem (by omega)]
          exact List.getElem_mem _
        have h8 := List.mem_range.1 (h1.mem_iff.1 h7)
        rw [hN] at h8
        have h9 := selG_lt (p := cellN a b) 144 _ h8
        exact ⟨_, h9.1, h9.2, by rw [hD, hN]⟩
      · rintro ⟨i, hi, hp, rfl⟩
        obtain ⟨j, hj, e⟩ := selG_onto2 hi hp
        rw [← hN] at hj
        have h7 : j ∈ L := h1.mem_iff.2 (List.mem_range.2 hj)
        obtain ⟨m, hm, e2⟩ := List.mem_iff_getElem.1 h7
        obtain ⟨q, h10, h11, h12⟩ := hdn m (by omega)
        obtain ⟨r, h13, h14⟩ := selG_onto2 (n := N) (show q < N by omega) h11
        refine ⟨r, List.mem_range.2 h13, ?_⟩
        rw [h14, h12, hD, List.getD_eq_getElem?_getD, List.getElem?_eq_getElem hm, e2, Option.getD_some, e]
  rw [tinL_eq hM]
  refine ⟨by simp, fun j hj => ?_⟩
  unfold flF kpF
  have e1 : ((List.range (selN (kpP f) N)).map fun i => tnF f (selG (kpP f) N i)).getD (j / 3) tn0 = tnF f (selG (kpP f) N (j / 3)) := by
    rw [List.getD_eq_getElem?_getD]
    simp [show j / 3 < selN (kpP f) N by omega]
  rw [e1]
  have : j % 3 = 0 ∨ j % 3 = 1 ∨ j % 3 = 2 := by omega
  unfold cmp3
  rcases this with h | h | h <;> rw [h]
  · rw [Nat.add_zero]; exact (tnF_0 hb _).symm
  · exact (tnF_1 hb _).symm
  · exact (tnF_2 hb _).symm
end Go.Proofs.Ytmiafnlaooggjaa
