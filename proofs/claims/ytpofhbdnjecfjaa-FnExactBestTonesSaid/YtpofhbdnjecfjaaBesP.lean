/- Tones that are the best: lists of colours, in plain words; no condition. -/
import Derived.Test.YtpofhbdnjecfjaaGreC
set_option linter.unusedVariables false
namespace Go.Proofs.Ytpofhbdnjecfjaa
open Go.BigFrame
open Go.RowKit Go.Arr
/-- ascending lists of m colours of n -/
def asc (m n : Nat) (L : Nat → Int) : Prop := (∀ j, j < m → 1 ≤ L j ∧ L j ≤ n) ∧ (∀ j, j + 1 < m → L j < L (j + 1)) ∧ ∀ j, m ≤ j → L j = 0
/-- a list comes before another one -/
def lexP (m : Nat) (A B : Nat → Int) : Prop := ∃ i, i < m ∧ (∀ j, j < i → A j = B j) ∧ A i < B i
/-- no worse than another one -/
def noW (C : (Nat → Int) → Int) (m : Nat) (L L' : Nat → Int) : Prop := C L < C L' ∨ (C L = C L' ∧ ¬ lexP m L' L)
def isBest (C : (Nat → Int) → Int) (m n : Nat) (L : Nat → Int) : Prop := asc m n L ∧ ∀ L', asc m n L' → noW C m L L'
noncomputable def bestL (C : (Nat → Int) → Int) (m n : Nat) : Nat → Int := Classical.epsilon (isBest C m n)
theorem lex_tri (m : Nat) (A B : Nat → Int) : (∀ j, j < m → A j = B j) ∨ lexP m A B ∨ lexP m B A := by
  induction m with
  | zero => exact Or.inl fun j hj => absurd hj (by omega)
  | succ m ih =>
    rcases ih with h | ⟨i, h1, h2, h3⟩ | ⟨i, h1, h2, h3⟩
    · by_cases e : A m = B m
      · refine Or.inl fun j hj => ?_
        by_cases e2 : j = m
        · rw [e2]; exact e
        · exact h j (by omega)
      · by_cases e2 : A m < B m
        · exact Or.inr (Or.inl ⟨m, by omega, h, e2⟩)
        · exact Or.inr (Or.inr ⟨m, by omega, fun j hj => (h j hj).symm, by omega⟩)
    · exact Or.inr (Or.inl ⟨i, by omega, h2, h3⟩)
    · exact Or.inr (Or.inr ⟨i, by omega, h2, h3⟩)
theorem lex_irr {m : Nat} {A : Nat → Int} (h : lexP m A A) : False := by
  obtain ⟨i, _, _, h3⟩ := h
  omega
theorem lex_tr {m : Nat} {A B D : Nat → Int} (h : lexP m A B) (h' : lexP m B D) : lexP m A D := by
  obtain ⟨i, h1, h2, h3⟩ := h
  obtain ⟨k, k1, k2, k3⟩ := h'
  by_cases e : i < k
  · exact ⟨i, h1, fun j hj => (h2 j hj).trans (k2 j (by omega)), by rw [← k2 i e]; exact h3⟩
  · by_cases e2 : i = k
    · subst e2
      exact ⟨i, h1, fun j hj => (h2 j hj).trans (k2 j hj), by omega⟩
    · exact ⟨k, k1, fun j hj => (h2 j (by omega)).trans (k2 j hj), by rw [h2 k (by omega)]; exact k3⟩
theorem lex_as {m : Nat} {A B : Nat → Int} (h : lexP m A B) : ¬ lexP m B A := fun h' => lex_irr (lex_tr h h')
section
variable {C : (Nat → Int) → Int} {m n : Nat} {L L' : Nat → Int}
theorem best_one (h : isBest C m n L) (h' : isBest C m n L') : L = L' := by
  have h1 := h.2 L' h'.1
  have h2 := h'.2 L h.1
  have he : ∀ j, j < m → L j = L' j := by
    rcases lex_tri m L L' with h3 | h3 | h3
    · exact h3
    · rcases h2 with h2 | h2 <;> rcases h1 with h1 | h1
      · omega
      · omega
      · omega
      · exact absurd h3 h2.2
    · rcases h2 with h2 | h2 <;> rcases h1 with h1 | h1
      · omega
      · omega
      · omega
      · exact absurd h3 h1.2
  funext j
  by_cases e : j < m
  · exact he j e
  · rw [h.1.2.2 j (by omega), h'.1.2.2 j (by omega)]
theorem bestL_e (h : isBest C m n L) : bestL C m n = L := best_one (Classical.epsilon_spec (p := isBest C m n) ⟨L, h⟩) h
/-- a better one takes its place -/
theorem noW_lt {A B D : Nat → Int} (h : C A < C B) (h' : noW C m B D) : noW C m A D := by
  rcases h' with h' | h'
  · exact Or.inl (by omega)
  · exact Or.inl (by omega)
theorem noW_lex {A B D : Nat → Int} (h : C A = C B) (hl : lexP m A B) (h' : noW C m B D) : noW C m A D := by
  rcases h' with h' | ⟨h1, h2⟩
  · exact Or.inl (by omega)
  · refine Or.inr ⟨by omega, fun h3 => h2 (lex_tr h3 hl)⟩
theorem noW_self : noW C m L L := Or.inr ⟨rfl, lex_irr⟩
theorem asc_lt (h : asc m n L) {i j : Nat} (hij : i < j) (hj : j < m) : L i < L j := by
  induction j with
  | zero => omega
  | succ j ih =>
    have h1 := h.2.1 j hj
    by_cases e : i = j
    · subst e; exact h1
    · have := ih (by omega) (by omega); omega
/-- there is one -/
theorem asc_id (h : m ≤ n) : asc m n fun j => if j < m then (j : Int) + 1 else 0 :=
  ⟨fun j hj => by dsimp only; rw [if_pos hj]; omega, fun j hj => by dsimp only; rw [if_pos (by omega), if_pos hj]; omega, fun j hj => if_neg (by omega)⟩
end
/-- the list of a set, and its length -/
def lsT (s : Nat) : Nat → Nat × (Nat → Int)
  | 0 => (0, fun _ => 0)
  | i + 1 => if s / 2 ^ i % 2 = 1 then ((lsT s i).1 + 1, upd (lsT s i).2 (lsT s i).1 ((i : Int) + 1)) else lsT s i
theorem lsT_t {s i : Nat} (h : s / 2 ^ i % 2 = 1) : lsT s (i + 1) = ((lsT s i).1 + 1, upd (lsT s i).2 (lsT s i).1 ((i : Int) + 1)) := if_pos h
theorem lsT_f {s i : Nat} (h : ¬ s / 2 ^ i % 2 = 1) : lsT s (i + 1) = lsT s i := if_neg h
theorem lsT_le (s i : Nat) : (lsT s i).1 ≤ i := by
  induction i with
  | zero => exact Nat.le_refl _
  | succ i ih =>
    by_cases h : s / 2 ^ i % 2 = 1
    · rw [lsT_t h]; dsimp only; omega
    · rw [lsT_f h]; omega
theorem lsT_asc (s i : Nat) : asc (lsT s i).1 i (lsT s i).2 := by
  induction i with
  | zero => exact ⟨fun j hj => absurd hj (by simp [lsT]), fun j hj => absurd hj (by simp [lsT]), fun j _ => rfl⟩
  | succ i ih =>
    by_cases h : s / 2 ^ i % 2 = 1
    · rw [lsT_t h]
      generalize lsT s i = P at ih
      obtain ⟨k, L⟩ := P
      obtain ⟨h1, h2, h3⟩ := ih
      dsimp only at h1 h2 h3 ⊢
      refine ⟨fun j hj => ?_, fun j hj => ?_, fun j hj => ?_⟩
      · unfold upd
        by_cases e : j = k
        · rw [if_pos e]; omega
        · rw [if_neg e]; have := h1 j (by omega); omega
      · unfold upd
        rw [if_neg (by omega)]
        by_cases e : j + 1 = k
        · rw [if_pos e]; have := h1 j (by omega); omega
        · rw [if_neg e]; exact h2 j (by omega)
      · unfold upd
        rw [if_neg (by omega)]
        exact h3 j (by omega)
    · rw [lsT_f h]
      exact ⟨fun j hj => by have := ih.1 j hj; omega, ih.2.1, ih.2.2⟩
/-- a set of any bits -/
theorem bits (n : Nat) : ∀ p : Nat → Bool, ∃ s, s < 2 ^ n ∧ ∀ i, i < n → (s / 2 ^ i % 2 = 1 ↔ p i = true) := by
  induction n with
  | zero => exact fun p => ⟨0, by simp, fun i hi => absurd hi (by omega)⟩
  | succ n ih =>
    intro p
    obtain ⟨s, h1, h2⟩ := ih fun i => p (i + 1)
    refine ⟨2 * s + (if p 0 = true then 1 else 0), ?_, ?_⟩
    · rw [Nat.pow_succ]; split <;> omega
    · intro i hi
      match i with
      | 0 =>
        rw [Nat.pow_zero, Nat.div_one]
        cases p 0
        · simp
        · simp
      | i + 1 =>
        rw [Nat.pow_succ', ← Nat.div_div_eq_div_mul, show (2 * s + (if p 0 = true then 1 else 0)) / 2 = s by split <;> omega]
        exact h2 i (by omega)
/-- each ascending list is the list of a set -/
theorem lsT_onto {m n : Nat} {L : Nat → Int} (h : asc m n L) : ∃ s, s < 2 ^ n ∧ lsT s n = (m, L) := by
  obtain ⟨s, h1, h2⟩ := bits n fun i => (List.range m).any fun j => L j == (i : Int) + 1
  refine ⟨s, h1, ?_⟩
  have hb : ∀ i, i < n → (s / 2 ^ i % 2 = 1 ↔ ∃ j, j < m ∧ L j = (i : Int) + 1) := fun i hi => by rw [h2 i hi]; simp
  have key : ∀ i, i ≤ n → (lsT s i).1 ≤ m ∧ (∀ j, j < (lsT s i).1 → (lsT s i).2 j = L j ∧ L j ≤ i) ∧ ((lsT s i).1 < m → (i : Int) < L (lsT s i).1) := by
    intro i
    induction i with
    | zero => exact fun _ => ⟨Nat.zero_le _, fun j hj => absurd hj (by simp [lsT]), fun hj => by have := h.1 0 (by simpa [lsT] using hj); simp [lsT]; omega⟩
    | succ i ih =>
      intro hi
      obtain ⟨k1, k2, k3⟩ := ih (by omega)
      by_cases hbit : s / 2 ^ i % 2 = 1
      · obtain ⟨j0, g1, g2⟩ := (hb i (by omega)).1 hbit
        rw [lsT_t hbit]
        generalize lsT s i = P at k1 k2 k3
        obtain ⟨k, l⟩ := P
        dsimp only at k1 k2 k3 ⊢
        have hj0 : j0 = k := by
          by_cases e1 : j0 < k
          · have := (k2 j0 e1).2; omega
          · by_cases e2 : k < j0
            · have := asc_lt h e2 g1; have := k3 (by omega); omega
            · omega
        subst hj0
        refine ⟨by omega, fun j hj => ?_, fun hj => ?_⟩
        · unfold upd
          by_cases e : j = j0
          · subst e; rw [if_pos rfl]; omega
          · rw [if_neg e]; have := k2 j (by omega); exact ⟨this.1, by omega⟩
        · have := h.2.1 j0 hj; omega
      · rw [lsT_f hbit]
        refine ⟨k1, fun j hj => ⟨(k2 j hj).1, by have := (k2 j hj).2; omega⟩, fun hj => ?_⟩
        have g3 := k3 hj
        have : L (lsT s i).1 ≠ (i : Int) + 1 := fun e => hbit ((hb i (by omega)).2 ⟨_, hj, e⟩)
        omega
  obtain ⟨k1, k2, k3⟩ := key n (Nat.le_refl _)
  have h4 := lsT_asc s n
  generalize lsT s n = P at k1 k2 k3 h4
  obtain ⟨k, l⟩ := P
  dsimp only at k1 k2 k3 h4
  have hk : k = m := by
    by_cases e : k < m
    · have := k3 e; have := h.1 k e; omega
    · omega
  subst hk
  congr 1
  funext j
  by_cases e : j < k
  · exact (k2 j e).1
  · rw [h4.2.2 j (by omega), h.2.2 j (by omega)]
/-- the best among the sets so far: its length, the list, its cost -/
def BI (C : (Nat → Int) → Int) (m n s k : Nat) (L : Nat → Int) (c : Int) : Prop :=
  (k = 0 ∧ ∀ s', s' < s → (lsT s' n).1 ≠ m) ∨ (k = m ∧ asc m n L ∧ c = C L ∧ ∀ s', s' < s → (lsT s' n).1 = m → noW C m L (lsT s' n).2)
section
variable {C : (Nat → Int) → Int} {m n s k : Nat} {L : Nat → Int} {c : Int}
theorem BI_0 : BI C m n 0 0 L c := Or.inl ⟨rfl, fun s' h => absurd h (by omega)⟩
theorem BI_skip (h : BI C m n s k L c) (hs : (lsT s n).1 ≠ m) : BI C m n (s + 1) k L c := by
  rcases h with ⟨h1, h2⟩ | ⟨h1, h2, h3, h4⟩
  · refine Or.inl ⟨h1, fun s' h' => ?_⟩
    by_cases e : s' = s
    · rw [e]; exact hs
    · exact h2 s' (by omega)
  · refine Or.inr ⟨h1, h2, h3, fun s' h' hm => ?_⟩
    by_cases e : s' = s
    · rw [e] at hm; exact absurd hm hs
    · exact h4 s' (by omega) hm
theorem BI_take (h : BI C m n s k L c) (hs : (lsT s n).1 = m) (hb : k = 0 ∨ C (lsT s n).2 < c ∨ (C (lsT s n).2 = c ∧ lexP m (lsT s n).2 L)) (hm0 : 0 < m) : BI C m n (s + 1) m (lsT s n).2 (C (lsT s n).2) := by
  have ha : asc m n (lsT s n).2 := by have := lsT_asc s n; rwa [hs] at this
  refine Or.inr ⟨rfl, ha, rfl, fun s' h' hm => ?_⟩
  by_cases e : s' = s
  · rw [e]; exact noW_self
  · rcases h with ⟨h1, h2⟩ | ⟨h1, h2, h3, h4⟩
    · exact absurd hm (h2 s' (by omega))
    · rcases hb with hb | hb | ⟨hb, hl⟩
      · omega
      · exact noW_lt (by omega) (h4 s' (by omega) hm)
      · exact noW_lex (by omega) hl (h4 s' (by omega) hm)
theorem BI_keep (h : BI C m n s k L c) (hs : (lsT s n).1 = m) (hk : k ≠ 0) (hb : ¬ C (lsT s n).2 < c) (hb2 : C (lsT s n).2 = c → ¬ lexP m (lsT s n).2 L) : BI C m n (s + 1) k L c := by
  rcases h with ⟨h1, h2⟩ | ⟨h1, h2, h3, h4⟩
  · exact absurd h1 hk
  · refine Or.inr ⟨h1, h2, h3, fun s' h' hm => ?_⟩
    by_cases e : s' = s
    · rw [e]
      by_cases e2 : C (lsT s n).2 = c
      · exact Or.inr ⟨by omega, hb2 e2⟩
      · exact Or.inl (by omega)
    · exact h4 s' (by omega) hm
theorem BI_end (h : BI C m n (2 ^ n) k L c) (hm : m ≤ n) : k = m ∧ L = bestL C m n ∧ c = C (bestL C m n) := by
  rcases h with ⟨h1, h2⟩ | ⟨h1, h2, h3, h4⟩
  · obtain ⟨s, g1, g2⟩ := lsT_onto (asc_id hm)
    exact absurd (by rw [g2]) (h2 s g1)
  · have hb : isBest C m n L := ⟨h2, fun L' h' => by
      obtain ⟨s, g1, g2⟩ := lsT_onto h'
      have := h4 s g1 (by rw [g2])
      rwa [g2] at this⟩
    rw [bestL_e hb]
    exact ⟨h1, rfl, h3⟩
end
/-- all ascending lists, in order -/
def chL : Nat → Nat → Nat → List (List Int)
  | 0, _, _ => [[]]
  | m + 1, c, n => (List.range (n + 1 - c)).flatMap fun i => (chL m (c + i + 1) n).map fun l => ((c + i : Nat) : Int) :: l
def fn (l : List Int) (j : Nat) : Int := l.getD j 0
theorem chL_mem (m : Nat) : ∀ (c n : Nat) (l : List Int), l ∈ chL m c n → l.length = m ∧ (∀ j, j < m → (c : Int) ≤ fn l j ∧ fn l j ≤ n) ∧ (∀ j, j + 1 < m → fn l j < fn l (j + 1)) := by
  induction m with
  | zero =>
    intro c n l hl
    simp [chL] at hl
    subst hl
    exact ⟨rfl, fun j hj => absurd hj (by omega), fun j hj => absurd hj (by omega)⟩
  | succ m ih =>
    intro c n l hl
    simp only [chL, List.mem_flatMap, List.mem_range, List.mem_map] at hl
    obtain ⟨i, hi, l', hl', rfl⟩ := hl
    obtain ⟨h1, h2, h3⟩ := ih _ _ _ hl'
    refine ⟨by rw [List.length_cons, h1], fun j hj => ?_, fun j hj => ?_⟩
    · match j with
      | 0 => show (c : Int) ≤ ((c + i : Nat) : Int) ∧ ((c + i : Nat) : Int) ≤ n; omega
      | j + 1 => have := h2 j (by omega); show (c : Int) ≤ fn l' j ∧ fn l' j ≤ n; omega
    · match j with
      | 0 => have := (h2 0 (by omega)).1; show ((c + i : Nat) : Int) < fn l' 0; omega
      | j + 1 => exact h3 j (by omega)
theorem chL_sorted (m : Nat) : ∀ (c n : Nat), (chL m c n).Pairwise fun x y => lexP m (fn x) (fn y) := by
  induction m with
  | zero => intro c n; simp [chL]
  | succ m ih =>
    intro c n
    rw [chL, List.pairwise_flatMap]
    refine ⟨fun i _ => ?_, ?_⟩
    · rw [List.pairwise_map]
      refine (ih (c + i + 1) n).imp fun {x y} h => ?_
      obtain ⟨q, h1, h2, h3⟩ := h
      refine ⟨q + 1, by omega, fun j hj => ?_, h3⟩
      match j with
      | 0 => rfl
      | j + 1 => exact h2 j (by omega)
    · refine List.pairwise_lt_range.imp fun {x y} h => ?_
      intro u hu v hv
      rw [List.mem_map] at hu hv
      obtain ⟨u', _, rfl⟩ := hu
      obtain ⟨v', _, rfl⟩ := hv
      refine ⟨0, by omega, fun j hj => absurd hj (by omega), ?_⟩
      show ((c + x : Nat) : Int) < ((c + y : Nat) : Int)
      omega
theorem chL_onto (m : Nat) : ∀ (c n : Nat) (L : Nat → Int), (∀ j, j < m → (c : Int) ≤ L j ∧ L j ≤ n) → (∀ j, j + 1 < m → L j < L (j + 1)) → (∀ j, m ≤ j → L j = 0) → ∃ l, l ∈ chL m c n ∧ fn l = L := by
  induction m with
  | zero =>
    intro c n L _ _ h
    exact ⟨[], by simp [chL], by funext j; rw [h j (by omega)]; rfl⟩
  | succ m ih =>
    intro c n L h1 h2 h3
    have h0 := h1 0 (by omega)
    obtain ⟨k, hk⟩ : ∃ k : Nat, L 0 = ((c + k : Nat) : Int) := ⟨(L 0 - c).toNat, by omega⟩
    have hgt : ∀ j, j < m → L 0 < L (j + 1) := by
      intro j
      induction j with
      | zero => exact fun hj => h2 0 (by omega)
      | succ j ihj => intro hj; have := ihj (by omega); have := h2 (j + 1) (by omega); omega
    obtain ⟨l, g1, g2⟩ := ih (c + k + 1) n (fun j => L (j + 1)) (fun j hj => ⟨by have := hgt j hj; omega, (h1 (j + 1) (by omega)).2⟩) (fun j hj => h2 (j + 1) (by omega)) (fun j hj => h3 (j + 1) (by omega))
    refine ⟨((c + k : Nat) : Int) :: l, ?_, ?_⟩
    · simp only [chL, List.mem_flatMap, List.mem_range, List.mem_map]
      exact ⟨k, by omega, l, g1, rfl⟩
    · funext j
      match j with
      | 0 => exact hk.symm
      | j + 1 => exact congrFun g2 j
/-- the best among the lists so far -/
def CI (C : (Nat → Int) → Int) (m n : Nat) (X : List (List Int)) (t : Nat) (L : Nat → Int) (c : Int) : Prop :=
  (t = 0 ∧ c = -1) ∨ (0 < t ∧ asc m n L ∧ c = C L ∧ 0 ≤ c ∧ (∃ q, ∃ h : q < X.length, q < t ∧ fn X[q] = L) ∧ ∀ q, ∀ h : q < X.length, q < t → noW C m L (fn X[q]))
theorem fn_far {l : List Int} {j : Nat} (h : l.length ≤ j) : fn l j = 0 := by
  unfold fn
  rw [List.getD_eq_getElem?_getD, List.getElem?_eq_none h]
  rfl
theorem chL_asc {m n : Nat} {l : List Int} (h : l ∈ chL m 1 n) : asc m n (fn l) := by
  obtain ⟨h1, h2, h3⟩ := chL_mem m 1 n l h
  exact ⟨fun j hj => by have := h2 j hj; omega, h3, fun j hj => fn_far (by omega)⟩
section
variable {C : (Nat → Int) → Int} {m n t : Nat} {L : Nat → Int} {c : Int}
theorem CI_0 : CI C m n (chL m 1 n) 0 L (-1) := Or.inl ⟨rfl, rfl⟩
theorem CI_take (hC : ∀ L, 0 ≤ C L) (ht : t < (chL m 1 n).length) (h : CI C m n (chL m 1 n) t L c) (hb : c < 0 ∨ C (fn (chL m 1 n)[t]) < c) : CI C m n (chL m 1 n) (t + 1) (fn (chL m 1 n)[t]) (C (fn (chL m 1 n)[t])) := by
  refine Or.inr ⟨by omega, chL_asc (List.getElem_mem _), rfl, hC _, ⟨t, ht, by omega, rfl⟩, fun q hq hqt => ?_⟩
  by_cases e : q = t
  · subst e; exact noW_self
  · rcases h with ⟨h1, h2⟩ | ⟨h1, h2, h3, h4, h5, h6⟩
    · omega
    · rcases hb with hb | hb
      · omega
      · exact noW_lt (by omega) (h6 q hq (by omega))
theorem CI_keep (ht : t < (chL m 1 n).length) (h : CI C m n (chL m 1 n) t L c) (h0 : ¬ c < 0) (hb : ¬ C (fn (chL m 1 n)[t]) < c) : CI C m n (chL m 1 n) (t + 1) L c := by
  rcases h with ⟨h1, h2⟩ | ⟨h1, h2, h3, h4, h5, h6⟩
  · omega
  · obtain ⟨q0, hq0, hqt, hqe⟩ := h5
    refine Or.inr ⟨by omega, h2, h3, h4, ⟨q0, hq0, by omega, hqe⟩, fun q hq hqt2 => ?_⟩
    by_cases e : q = t
    · subst e
      by_cases e2 : C (fn (chL m 1 n)[q]) = c
      · refine Or.inr ⟨by omega, ?_⟩
        rw [← hqe]
        exact lex_as (List.pairwise_iff_getElem.1 (chL_sorted m 1 n) q0 q hq0 hq hqt)
      · exact Or.inl (by omega)
    · exact h6 q hq (by omega)
theorem CI_end (h : CI C m n (chL m 1 n) (chL m 1 n).length L c) (hm : m ≤ n) : L = bestL C m n ∧ c = C (bestL C m n) := by
  have hin : ∀ L', asc m n L' → ∃ q, ∃ h : q < (chL m 1 n).length, fn (chL m 1 n)[q] = L' := fun L' h' => by
    obtain ⟨l, g1, g2⟩ := chL_onto m 1 n L' (fun j hj => by have := h'.1 j hj; omega) h'.2.1 h'.2.2
    obtain ⟨q, hq, hqe⟩ := List.getElem_of_mem g1
    exact ⟨q, hq, by rw [hqe]; exact g2⟩
  rcases h with ⟨h1, h2⟩ | ⟨h1, h2, h3, h4, h5, h6⟩
  · obtain ⟨q, hq, _⟩ := hin _ (asc_id hm)
    omega
  · have hb : isBest C m n L := ⟨h2, fun L' h' => by
      obtain ⟨q, hq, hqe⟩ := hin L' h'
      rw [← hqe]
      exact h6 q hq hq⟩
    rw [bestL_e hb]
    exact ⟨rfl, h3⟩
end
/-- the code, the list, its length, its cost -/
def btC (a b : Int) (fm : Nat → Int) (n : Nat) (fp : Nat → Int) (cnt : Int) : Int := if cntC a b fm n fp cnt = 0 ∧ 10 < n then 3 else cntC a b fm n fp cnt
def btN (a b : Int) (fm : Nat → Int) (n : Nat) (fp : Nat → Int) (cnt : Int) : Nat := if btC a b fm n fp cnt = 0 then cnt.toNat else 0
noncomputable def btL (a b : Int) (fm : Nat → Int) (n : Nat) (fp : Nat → Int) (cnt : Int) : Nat → Int := bestL (fun L => cosS cnt.toNat (subP fp L) fm a b 144) cnt.toNat n
noncomputable def btV (a b : Int) (fm : Nat → Int) (n : Nat) (fp : Nat → Int) (cnt : Int) : Int := if btC a b fm n fp cnt = 0 then cosS cnt.toNat (subP fp (btL a b fm n fp cnt)) fm a b 144 else 0
section
variable {a b : Int} {fm : Nat → Int} {n : Nat} {fp : Nat → Int} {cnt : Int}
theorem btC_k {k : Int} (h : cntC a b fm n fp cnt = k) (hk : k ≠ 0) : btC a b fm n fp cnt = k := by unfold btC; rw [if_neg (fun h2 => hk (by rw [← h]; exact h2.1)), h]
theorem btC_3 (h : cntC a b fm n fp cnt = 0) (hn : 10 < n) : btC a b fm n fp cnt = 3 := if_pos ⟨h, hn⟩
theorem btC_0 (h : cntC a b fm n fp cnt = 0) (hn : ¬ 10 < n) : btC a b fm n fp cnt = 0 := by unfold btC; rw [if_neg (fun h2 => hn h2.2), h]
theorem btN_z {k : Int} (h : btC a b fm n fp cnt = k) (hk : k ≠ 0) : btN a b fm n fp cnt = 0 := if_neg (by rw [h]; exact hk)
theorem btV_z {k : Int} (h : btC a b fm n fp cnt = k) (hk : k ≠ 0) : btV a b fm n fp cnt = 0 := if_neg (by rw [h]; exact hk)
theorem btN_s {K : Nat} (h : btC a b fm n fp K = 0) : btN a b fm n fp K = K := by unfold btN; rw [if_pos h, Int.toNat_natCast]
theorem btL_s {K : Nat} {C : (Nat → Int) → Int} (hC : C = fun L => cosS K (subP fp L) fm a b 144) : btL a b fm n fp K = bestL C K n := by unfold btL; rw [Int.toNat_natCast, hC]
theorem btV_s {K : Nat} {C : (Nat → Int) → Int} (h : btC a b fm n fp K = 0) (hC : C = fun L => cosS K (subP fp L) fm a b 144) : btV a b fm n fp K = C (bestL C K n) := by unfold btV; rw [if_pos h, btL_s hC, Int.toNat_natCast, hC]
theorem btN_le (a b : Int) (fm : Nat → Int) (n : Nat) (fp : Nat → Int) (cnt : Int) : btN a b fm n fp cnt ≤ 15 := by
  unfold btN
  split
  · rename_i h
    by_cases h0 : cntC a b fm n fp cnt = 0
    · have h1 := cntC_le h0
      have := okPal_pos (askOk_e h1.1).2
      omega
    · rw [btC_k rfl h0] at h; exact absurd h h0
  · omega
end
end Go.Proofs.Ytpofhbdnjecfjaa
