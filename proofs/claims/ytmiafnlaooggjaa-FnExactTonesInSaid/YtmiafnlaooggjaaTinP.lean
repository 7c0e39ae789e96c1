/- The tones of an image, in order of brightness, each once: the plain law; no condition. -/
import Derived.Test.YtmiafnlaooggjaaCmp4
set_option linter.unusedVariables false
namespace Go.Proofs.Ytmiafnlaooggjaa
open Go.BigFrame
open Go.RowKit Go.Arr
theorem selG_inc2 {p : Nat → Bool} (n : Nat) : ∀ i j, i < j → j < selN p n → selG p n i < selG p n j := by
  induction n with
  | zero => intro i j _ h; simp [selN] at h
  | succ n ih =>
    intro i j hij hj
    cases hp : p n
    · rw [selN_f hp] at hj
      rw [selG_f hp]
      exact ih i j hij hj
    · rw [selN_t hp] at hj
      rw [selG_t hp]
      dsimp only
      by_cases e : j = selN p n
      · rw [if_pos e, if_neg (by omega)]
        exact (selG_lt (p := p) n i (by omega)).1
      · rw [if_neg e, if_neg (by omega)]
        exact ih i j hij (by omega)
theorem selG_onto2 {p : Nat → Bool} {n k : Nat} (hk : k < n) (hp : p k = true) : ∃ j, j < selN p n ∧ selG p n j = k := by
  refine ⟨selN p k, ?_, selG_at hk hp⟩
  have h := selN_mono (p := p) (k := k + 1) (m := n - (k + 1))
  rw [selN_t hp, show k + 1 + (n - (k + 1)) = n by omega] at h
  omega
def tn0 : Tn := (0, 0, 0)
def cmp3 (t : Tn) (r : Nat) : Int := if r = 0 then n0 t else if r = 1 then n1 t else n2 t
/-- a list of tones, as a row -/
def flF (M : List Tn) (j : Nat) : Int := cmp3 (M.getD (j / 3) tn0) (j % 3)
theorem flF_0 (M : List Tn) (i : Nat) : flF M (i * 3) = n0 (M.getD i tn0) := by unfold flF cmp3; rw [show i * 3 / 3 = i by omega, show i * 3 % 3 = 0 by omega]; rfl
theorem flF_1 (M : List Tn) (i : Nat) : flF M (i * 3 + 1) = n1 (M.getD i tn0) := by unfold flF cmp3; rw [show (i * 3 + 1) / 3 = i by omega, show (i * 3 + 1) % 3 = 1 by omega]; rfl
theorem flF_2 (M : List Tn) (i : Nat) : flF M (i * 3 + 2) = n2 (M.getD i tn0) := by unfold flF cmp3; rw [show (i * 3 + 2) / 3 = i by omega, show (i * 3 + 2) % 3 = 2 by omega]; rfl
theorem flF_b (M : List Tn) (j : Nat) : 0 ≤ flF M j ∧ flF M j ≤ 255 := by
  have := n_b (M.getD (j / 3) tn0)
  unfold flF cmp3
  split
  · exact this.1
  · split
    · exact this.2.1
    · exact this.2.2
/-- the tones that p's numbers have, in order -/
def tsP (p : Nat → Bool) (T : Nat → Tn) (k : Nat) (M : List Tn) : Prop := M.Pairwise tl ∧ ∀ t, t ∈ M ↔ ∃ i, i < k ∧ p i = true ∧ T i = t
section
variable {p : Nat → Bool} {T : Nat → Tn} {k : Nat} {M : List Tn}
theorem tsP_nodup (h : M.Pairwise tl) : M.Nodup := by
  have : M.Pairwise (· ≠ ·) := h.imp (by intro a b h e; subst e; exact tl_irr _ h)
  exact this
theorem tsP_one {M2 : List Tn} (h : tsP p T k M) (h2 : tsP p T k M2) : M = M2 := by
  refine List.Perm.eq_of_pairwise (le := tl) (fun a b _ _ h1 h2 => absurd (tl_trans h1 h2) (tl_irr _)) h.1 h2.1 ?_
  rw [List.perm_ext_iff_of_nodup (tsP_nodup h.1) (tsP_nodup h2.1)]
  intro t
  rw [h.2, h2.2]
theorem tsP_f (hp : p k = false) (h : tsP p T k M) : tsP p T (k + 1) M := by
  refine ⟨h.1, fun t => ?_⟩
  rw [h.2]
  constructor
  · rintro ⟨i, h1, h2⟩; exact ⟨i, by omega, h2⟩
  · rintro ⟨i, h1, h2, h3⟩
    by_cases e : i = k
    · subst e; rw [hp] at h2; cases h2
    · exact ⟨i, by omega, h2, h3⟩
theorem tsP_old (hp : p k = true) (hm : T k ∈ M) (h : tsP p T k M) : tsP p T (k + 1) M := by
  refine ⟨h.1, fun t => ?_⟩
  constructor
  · intro ht
    obtain ⟨i, h1, h2⟩ := (h.2 t).1 ht
    exact ⟨i, by omega, h2⟩
  · rintro ⟨i, h1, h2, h3⟩
    by_cases e : i = k
    · subst e; rw [← h3]; exact hm
    · exact (h.2 t).2 ⟨i, by omega, h2, h3⟩
def insT (M : List Tn) (x : Tn) (a : Nat) : List Tn := M.take a ++ x :: M.drop a
theorem len_insT {x : Tn} {a : Nat} (ha : a ≤ M.length) : (insT M x a).length = M.length + 1 := by
  unfold insT
  simp
  omega
theorem mem_insT {x t : Tn} {a : Nat} : t ∈ insT M x a ↔ t = x ∨ t ∈ M := by
  unfold insT
  have : M.take a ++ M.drop a = M := List.take_append_drop _ _
  constructor
  · intro h
    rw [List.mem_append, List.mem_cons] at h
    rcases h with h | h | h
    · exact Or.inr (List.mem_of_mem_take h)
    · exact Or.inl h
    · exact Or.inr (List.mem_of_mem_drop h)
  · intro h
    rw [List.mem_append, List.mem_cons]
    rcases h with h | h
    · exact Or.inr (Or.inl h)
    · rw [← this, List.mem_append] at h
      rcases h with h | h
      · exact Or.inl h
      · exact Or.inr (Or.inr h)
theorem getD_insT {x : Tn} {a : Nat} (ha : a ≤ M.length) (j : Nat) : (insT M x a).getD j tn0 = if j < a then M.getD j tn0 else if j = a then x else M.getD (j - 1) tn0 := by
  unfold insT
  simp only [List.getD_eq_getElem?_getD, List.getElem?_append, List.length_take, Nat.min_eq_left ha]
  by_cases h1 : j < a
  · rw [if_pos h1, if_pos h1, List.getElem?_take_of_lt h1]
  · rw [if_neg h1, if_neg h1]
    by_cases h2 : j = a
    · subst h2; simp
    · rw [if_neg h2]
      obtain ⟨d, rfl⟩ : ∃ d, j = a + 1 + d := ⟨j - (a + 1), by omega⟩
      rw [show a + 1 + d - a = d + 1 by omega, List.getElem?_cons_succ, List.getElem?_drop, show a + 1 + d - 1 = a + d by omega]
theorem pw_getT {R : Tn → Tn → Prop} {M : List Tn} : M.Pairwise R ↔ ∀ i j, i < j → j < M.length → R (M.getD i tn0) (M.getD j tn0) := by
  rw [List.pairwise_iff_getElem]
  constructor
  · intro h i j h1 h2
    have := h i j (by omega) h2 h1
    rwa [List.getD_eq_getElem?_getD, List.getD_eq_getElem?_getD, List.getElem?_eq_getElem h2, List.getElem?_eq_getElem (show i < M.length by omega)]
  · intro h i j h1 h2 h3
    have := h i j h3 h2
    rwa [List.getD_eq_getElem?_getD, List.getD_eq_getElem?_getD, List.getElem?_eq_getElem h2, List.getElem?_eq_getElem h1] at this
theorem getT_mem {j : Nat} (h : j < M.length) : M.getD j tn0 ∈ M := by
  rw [List.getD_eq_getElem?_getD, List.getElem?_eq_getElem h]
  exact List.getElem_mem _
theorem mem_getT {t : Tn} (h : t ∈ M) : ∃ j, j < M.length ∧ M.getD j tn0 = t := by
  obtain ⟨j, hj, e⟩ := List.mem_iff_getElem.1 h
  exact ⟨j, hj, by rw [List.getD_eq_getElem?_getD, List.getElem?_eq_getElem hj]; exact e⟩
theorem tsP_ins {a : Nat} (hp : p k = true) (ha : a ≤ M.length) (hlo : ∀ j, j < a → tl (M.getD j tn0) (T k)) (hhi : a = M.length ∨ tl (T k) (M.getD a tn0)) (h : tsP p T k M) : tsP p T (k + 1) (insT M (T k) a) := by
  have hw := pw_getT.1 h.1
  have hhi' : ∀ q, a ≤ q → q < M.length → tl (T k) (M.getD q tn0) := fun q h1 h2 => by
    rcases hhi with h0 | h0
    · omega
    · by_cases e : q = a
      · subst e; exact h0
      · exact tl_trans h0 (hw a q (by omega) h2)
  refine ⟨pw_getT.2 fun i j hij hj => ?_, fun t => ?_⟩
  · rw [len_insT ha] at hj
    rw [getD_insT ha, getD_insT ha]
    by_cases h1 : j < a
    · rw [if_pos h1, if_pos (by omega)]; exact hw i j hij (by omega)
    · rw [if_neg h1]
      by_cases h2 : j = a
      · rw [if_pos h2, if_pos (by omega)]; exact hlo i (by omega)
      · rw [if_neg h2]
        by_cases h3 : i < a
        · rw [if_pos h3]; exact hw i (j - 1) (by omega) (by omega)
        · rw [if_neg h3]
          by_cases h4 : i = a
          · rw [if_pos h4]; exact hhi' (j - 1) (by omega) (by omega)
          · rw [if_neg h4]; exact hw (i - 1) (j - 1) (by omega) (by omega)
  · rw [mem_insT, h.2]
    constructor
    · rintro (rfl | ⟨i, h1, h2⟩)
      · exact ⟨k, by omega, hp, rfl⟩
      · exact ⟨i, by omega, h2⟩
    · rintro ⟨i, h1, h2, h3⟩
      by_cases e : i = k
      · subst e; exact Or.inl h3.symm
      · exact Or.inr ⟨i, by omega, h2, h3⟩
theorem flF_ins {x : Tn} {a : Nat} (ha : a ≤ M.length) (j : Nat) : flF (insT M x a) j = if j < a * 3 then flF M j else if j < a * 3 + 3 then cmp3 x (j - a * 3) else flF M (j - 3) := by
  unfold flF
  rw [getD_insT ha]
  by_cases h1 : j < a * 3
  · rw [if_pos h1, if_pos (by omega)]
  · rw [if_neg h1, if_neg (by omega)]
    by_cases h2 : j < a * 3 + 3
    · rw [if_pos h2, if_pos (by omega), show j - a * 3 = j % 3 by omega]
    · rw [if_neg h2, if_neg (by omega), show (j - 3) / 3 = j / 3 - 1 by omega, show (j - 3) % 3 = j % 3 by omega]
theorem tsP_0 : tsP p T 0 [] := ⟨List.Pairwise.nil, fun t => ⟨fun h => (by cases h), fun ⟨i, h, _⟩ => (by omega)⟩⟩
theorem tsP_len (h : tsP p T k M) : M.length ≤ k := by
  have h1 : (M.length) ≤ ((List.range k).map T).length := by
    refine List.Nodup.length_le_of_subset (tsP_nodup h.1) fun t ht => ?_
    obtain ⟨i, hi, _, e⟩ := (h.2 t).1 ht
    exact List.mem_map.2 ⟨i, by simpa using hi, e⟩
  simpa using h1
end
/-- the codes and the results -/
noncomputable def tinL (a b : Int) (fm : Nat → Int) : List Tn := Classical.epsilon (tsP (cellN a b) (tnF fm) 144)
theorem tinL_eq {a b : Int} {fm : Nat → Int} {M : List Tn} (h : tsP (cellN a b) (tnF fm) 144 M) : tinL a b fm = M := tsP_one (Classical.epsilon_spec ⟨M, h⟩) h
noncomputable def tinC (a b : Int) (fm : Nat → Int) : Int := if okImg a b fm = false then 1 else if 15 < (tinL a b fm).length then 3 else 0
noncomputable def tinN (a b : Int) (fm : Nat → Int) : Nat := if tinC a b fm = 0 then (tinL a b fm).length else 0
noncomputable def tinF (a b : Int) (fm : Nat → Int) : Nat → Int := flF (tinL a b fm)
end Go.Proofs.Ytmiafnlaooggjaa
