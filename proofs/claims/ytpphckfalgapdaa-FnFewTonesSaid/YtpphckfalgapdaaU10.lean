/- Tones that are the best: lists of colours, in plain words; no condition. -/
import Derived.Test.YtpphckfalgapdaaU9
import Derived.Test.YtpphckfalgapdaaU3
import Derived.Test.YtpphckfalgapdaaU7
import Derived.Test.YtpphckfalgapdaaU6
set_option linter.unusedVariables false
namespace Go.Proofs.Ytpphckfalgapdaa
open Go.BigFrame
open Go.RowKit Go.Arr
/-- ascending lists of m colours of n -/
def asc (m n : Nat) (L : Nat → Int) : Prop := (∀ j, j < m → 1 ≤ L j ∧ L j ≤ n) ∧ (∀ j, j + 1 < m → L j < L (j + 1)) ∧ ∀ j, m ≤ j → L j = 0
/-- a list comes before another one -/
def lexP (m : Nat) (A B : Nat → Int) : Prop := ∃ i, i < m ∧ (∀ j, j < i → A j = B j) ∧ A i < B i
/-- no worse than another one -/
def noW (C : (Nat → Int) → Int) (m : Nat) (L L' : Nat → Int) : Prop := C L < C L' ∨ (C L = C L' ∧ ¬ lexP m L' L)
def isBest (C : (Nat → Int) → Int) (m n : Nat) (L : Nat → Int) : Prop := asc m n L ∧ ∀ L', asc m n L' → noW C m L L'
noncomputable def bestL (C : (Nat → Int) → Int) (m n : Nat) : Nat → Int := Classical.epsilon (isBest C m n)
theorem lex_tri (m : Nat) (A B : Nat → Int) : (∀ j, j < m → A j = B j) ∨ lexP m A B ∨ lexP m B A := by
  induction m with
  | zero => exact Or.inl fun j hj => absurd hj (by omega)
  | succ m ih =>
    rcases ih with h | ⟨i, h1, h2, h3⟩ | ⟨i, h1, h2, h3⟩
    · by_cases e : A m = B m
      · refine Or.inl fun j hj => ?_
        by_cases e2 : j = m
        · rw [e2]; exact e
        · exact h j (by omega)
      · by_cases e2 : A m < B m
        · exact Or.inr (Or.inl ⟨m, by omega, h, e2⟩)
        · exact Or.inr (Or.inr ⟨m, by omega, fun j hj => (h j hj).symm, by omega⟩)
    · exact Or.inr (Or.inl ⟨i, by omega, h2, h3⟩)
    · exact Or.inr (Or.inr ⟨i, by omega, h2, h3⟩)
theorem lex_irr {m : Nat} {A : Nat → Int} (h : lexP m A A) : False := by
  obtain ⟨i, _, _, h3⟩ := h
  omega
theorem lex_tr {m : Nat} {A B D : Nat → Int} (h : lexP m A B) (h' : lexP m B D) : lexP m A D := by
  obtain ⟨i, h1, h2, h3⟩ := h
  obtain ⟨k, k1, k2, k3⟩ := h'
  by_cases e : i < k
  · exact ⟨i, h1, fun j hj => (h2 j hj).trans (k2 j (by omega)), by rw [← k2 i e]; exact h3⟩
  · by_cases e2 : i = k
    · subst e2
      exact ⟨i, h1, fun j hj => (h2 j hj).trans (k2 j hj), by omega⟩
    · exact ⟨k, k1, fun j hj => (h2 j (by omega)).trans (k2 j hj), by rw [h2 k (by omega)]; exact k3⟩
theorem lex_as {m : Nat} {A B : Nat → Int} (h : lexP m A B) : ¬ lexP m B A := fun h' => lex_irr (lex_tr h h')
section
variable {C : (Nat → Int) → Int} {m n : Nat} {L L' : Nat → Int}
theorem best_one (h : isBest C m n L) (h' : isBest C m n L') : L = L' := by
  have h1 := h.2 L' h'.1
  have h2 := h'.2 L h.1
  have he : ∀ j, j < m → L j = L' j := by
    rcases lex_tri m L L' with h3 | h3 | h3
    · exact h3
    · rcases h2 with h2 | h2 <;> rcases h1 with h1 | h1
      · omega
      · omega
      · omega
      · exact absurd h3 h2.2
    · rcases h2 with h2 | h2 <;> rcases h1 with h1 | h1
      · omega
      · omega
      · omega
      · exact absurd h3 h1.2
  funext j
  by_cases e : j < m
  · exact he j e
  · rw [h.1.2.2 j (by omega), h'.1.2.2 j (by omega)]
theorem bestL_e (h : isBest C m n L) : bestL C m n = L := best_one (Classical.epsilon_spec (p := isBest C m n) ⟨L, h⟩) h
/-- a better one takes its place -/
theorem noW_lt {A B D : Nat → Int} (h : C A < C B) (h' : noW C m B D) : noW C m A D := by
  rcases h' with h' | h'
  · exact Or.inl (by omega)
  · exact Or.inl (by omega)
theorem noW_lex {A B D : Nat → Int} (h : C A = C B) (hl : lexP m A B) (h' : noW C m B D) : noW C m A D := by
  rcases h' with h' | ⟨h1, h2⟩
  · exact Or.inl (by omega)
  · refine Or.inr ⟨by omega, fun h3 => h2 (lex_tr h3 hl)⟩
theorem noW_self : noW C m L L := Or.inr ⟨rfl, lex_irr⟩
theorem asc_lt (h : asc m n L) {i j : Nat} (hij : i < j) (hj : j < m) : L i < L j := by
  induction j with
  | zero => omega
  | succ j ih =>
    have h1 := h.2.1 j hj
    by_cases e : i = j
    · subst e; exact h1
    · have := ih (by omega) (by omega); omega
/-- there is one -/
theorem asc_id (h : m ≤ n) : asc m n fun j => if j < m then (j : Int) + 1 else 0 :=
  ⟨fun j hj => by dsimp only; rw [if_pos hj]; omega, fun j hj => by dsimp only; rw [if_pos (by omega), if_pos hj]; omega, fun j hj => if_neg (by omega)⟩
end
/-- the list of a set, and its length -/
def lsT (s : Nat) : Nat → Nat × (Nat → Int)
  | 0 => (0, fun _ => 0)
  | i + 1 => if s / 2 ^ i % 2 = 1 then ((lsT s i).1 + 1, upd (lsT s i).2 (lsT s i).1 ((i : Int) + 1)) else lsT s i
theorem lsT_t {s i : Nat} (h : s / 2 ^ i % 2 = 1) : lsT s (i + 1) = ((lsT s i).1 + 1, upd (lsT s i).2 (lsT s i).1 ((i : Int) + 1)) := if_pos h
theorem lsT_f {s i : Nat} (h : ¬ s / 2 ^ i % 2 = 1) : lsT s (i + 1) = lsT s i := if_neg h
theorem lsT_le (s i : Nat) : (lsT s i).1 ≤ i := by
  induction i with
  | zero => exact Nat.le_refl _
  | succ i ih =>
    by_cases h : s / 2 ^ i % 2 = 1
    · rw [lsT_t h]; dsimp only; omega
    · rw [lsT_f h]; omega
theorem lsT_asc (s i : Nat) : asc (lsT s i).1 i (lsT s i).2 := by
  induction i with
  | zero => exact ⟨fun j hj => absurd hj (by simp [lsT]), fun j hj => absurd hj (by simp [lsT]), fun j _ => rfl⟩
  | succ i ih =>
    by_cases h : s / 2 ^ i % 2 = 1
    · rw [lsT_t h]
      generalize lsT s i = P at ih
      obtain ⟨k, L⟩ := P
      obtain ⟨h1, h2, h3⟩ := ih
      dsimp only at h1 h2 h3 ⊢
      refine ⟨fun j hj => ?_, fun j hj => ?_, fun j hj => ?_⟩
      · unfold upd
        by_cases e : j = k
        · rw [if_pos e]; omega
        · rw [if_neg e]; have := h1 j (by omega); omega
      · unfold upd
        rw [if_neg (by omega)]
        by_cases e : j + 1 = k
        · rw [if_pos e]; have := h1 j (by omega); omega
        · rw [if_neg e]; exact h2 j (by omega)
      · unfold upd
        rw [if_neg (by omega)]
        exact h3 j (by omega)
    · rw [lsT_f h]
      exact ⟨fun j hj => by have := ih.1 j hj; omega, ih.2.1, ih.2.2⟩
/-- a set of any bits -/
theorem bits (n : Nat) : ∀ p : Nat → Bool, ∃ s, s < 2 ^ n ∧ ∀ i, i < n → (s / 2 ^ i % 2 = 1 ↔ p i = true) := by
  induction n with
  | zero => exact fun p => ⟨0, by simp, fun i hi => absurd hi (by omega)⟩
  | succ n ih =>
    intro p
    obtain ⟨s, h1, h2⟩ := ih fun i => p (i + 1)
    refine ⟨2 * s + (if p 0 = true then 1 else 0), ?_, ?_⟩
    · rw [Nat.pow_succ]; split <;> omega
    · intro i hi
      match i with
      | 0 =>
        rw [Nat.pow_zero, Nat.div_one]
        cases p 0
        · simp
        · simp
      | i + 1 =>
        rw [Nat.pow_succ', ← Nat.div_div_eq_div_mul, show (2 * s + (if p 0 = true then 1 else 0)) / 2 = s by split <;> omega]
        exact h2 i (by omega)
/-- each ascending list is the list of a set -/
theorem lsT_onto {m n : Nat} {L : Nat → Int} (h : asc m n L) : ∃ s, s < 2 ^ n ∧ lsT s n = (m, L) := by
  obtain ⟨s, h1, h2⟩ := bits n fun i => (List.range m).any fun j => L j == (i : Int) + 1
  refine ⟨s, h1, ?_⟩
  have hb : ∀ i, i < n → (s / 2 ^ i % 2 = 1 ↔ ∃ j, j < m ∧ L j = (i : Int) + 1) := fun i hi => by rw [h2 i hi]; simp
  have key : ∀ i, i ≤ n → (lsT s i).1 ≤ m ∧ (∀ j, j < (lsT s i).1 → (lsT s i).2 j = L j ∧ L j ≤ i) ∧ ((lsT s i).1 < m → (i : Int) < L (lsT s i).1) := by
    intro i
    induction i with
    | zero => exact fun _ => ⟨Nat.zero_le _, fun j hj => absurd hj (by simp [lsT]), fun hj => by have := h.1 0 (by simpa [lsT] using hj); simp [lsT]; omega⟩
    | succ i ih =>
      intro hi
      obtain ⟨k1, k2, k3⟩ := ih (by omega)
      by_cases hbit : s / 2 ^ i % 2 = 1
      · obtain ⟨j0, g1, g2⟩ := (hb i (by omega)).1 hbit
        rw [lsT_t hbit]
        generalize lsT s i = P at k1 k2 k3
        obtain ⟨k, l⟩ := P
        dsimp only at k1 k2 k3 ⊢
        have hj0 : j0 = k := by
          by_cases e1 : j0 < k
          · have := (k2 j0 e1).2; omega
          · by_cases e2 : k < j0
            · have := asc_lt h e2 g1; have := k3 (by omega); omega
            · omega
        subst hj0
        refine ⟨by omega, fun j hj => ?_, fun hj => ?_⟩
        · unfold upd
          by_cases e : j = j0
          · subst e; rw [if_pos rfl]; omega
          · rw [if_neg e]; have := k2 j (by omega); exact ⟨this.1, by omega⟩
        · have := h.2.1 j0 hj; omega
      · rw [lsT_f hbit]
        refine ⟨k1, fun j hj => ⟨(k2 j hj).1, by have := (k2 j hj).2; omega⟩, fun hj => ?_⟩
        have g3 := k3 hj
        have : L (lsT s i).1 ≠ (i : Int) + 1 := fun e => hbit ((hb i (by omega)).2 ⟨_, hj, e⟩)
        omega
  obtain ⟨k1, k2, k3⟩ := key n (Nat.le_refl _)
  have h4 := lsT_asc s n
  generalize lsT s n = P at k1 k2 k3 h4
  obtain ⟨k, l⟩ := P
  dsimp only at k1 k2 k3 h4
  have hk : k = m := by
    by_cases e : k < m
    · have := k3 e; have := h.1 k e; omega
    · omega
  subst hk
  congr 1
  funext j
  by_cases e : j < k
  · exact (k2 j e).1
  · rw [h4.2.2 j (by omega), h.2.2 j (by omega)]
/-- the best among the sets so far: its length, the list, its cost -/
def BI (C : (Nat → Int) → Int) (m n s k : Nat) (L : Nat → Int) (c : Int) : Prop :=
  (k = 0 ∧ ∀ s', s' < s → (lsT s' n).1 ≠ m) ∨ (k = m ∧ asc m n L ∧ c = C L ∧ ∀ s', s' < s → (lsT s' n).1 = m → noW C m L (lsT s' n).2)
section
variable {C : (Nat → Int) → Int} {m n s k : Nat} {L : Nat → Int} {c : Int}
theorem BI_0 : BI C m n 0 0 L c := Or.inl ⟨rfl, fun s' h => absurd h (by omega)⟩
theorem BI_skip (h : BI C m n s k L c) (hs : (lsT s n).1 ≠ m) : BI C m n (s + 1) k L c := by
  rcases h with ⟨h1, h2⟩ | ⟨h1, h2, h3, h4⟩
  · refine Or.inl ⟨h1, fun s' h' => ?_⟩
    by_cases e : s' = s
    · rw [e]; exact hs
    · exact h2 s' (by omega)
  · refine Or.inr ⟨h1, h2, h3, fun s' h' hm => ?_⟩
    by_cases e : s' = s
    · rw [e] at hm; exact absurd hm hs
    · exact h4 s' (by omega) hm
theorem BI_take (h : BI C m n s k L c) (hs : (lsT s n).1 = m) (hb : k = 0 ∨ C (lsT s n).2 < c ∨ (C (lsT s n).2 = c ∧ lexP m (lsT s n).2 L)) (hm0 : 0 < m) : BI C m n (s + 1) m (lsT s n).2 (C (lsT s n).2) := by
  have ha : asc m n (lsT s n).2 := by have := lsT_asc s n; rwa [hs] at this
  refine Or.inr ⟨rfl, ha, rfl, fun s' h' hm => ?_⟩
  by_cases e : s' = s
  · rw [e]; exact noW_self
  · rcases h with ⟨h1, h2⟩ | ⟨h1, h2, h3, h4⟩
    · exact absurd hm (h2 s' (by omega))
    · rcases hb with hb | hb | ⟨hb, hl⟩
      · omega
      · exact noW_lt (by omega) (h4 s' (by omega) hm)
      · exact noW_lex (by omega) hl (h4 s' (by omega) hm)
theorem BI_keep (h : BI C m n s k L c) (hs : (lsT s n).1 = m) (hk : k ≠ 0) (hb : ¬ C (lsT s n).2 < c) (hb2 : C (lsT s n).2 = c → ¬ lexP m (lsT s n).2 L) : BI C m n (s + 1) k L c := by
  rcases h with ⟨h1, h2⟩ | ⟨h1, h2, h3, h4⟩
  · exact absurd h1 hk
  · refine Or.inr ⟨h1, h2, h3, fun s' h' hm => ?_⟩
    by_cases e : s' = s
    · rw [e]
      by_cases e2 : C (lsT s n).2 = c
      · exact Or.inr ⟨by omega, hb2 e2⟩
      · exact Or.inl (by omega)
    · exact h4 s' (by omega) hm
theorem BI_end (h : BI C m n (2 ^ n) k L c) (hm : m ≤ n) : k = m ∧ L = bestL C m n ∧ c = C (bestL C m n) := by
  rcases h with ⟨h1, h2⟩ | ⟨h1, h2, h3, h4⟩
  · obtain ⟨s, g1, g2⟩ := lsT_onto (asc_id hm)
    exact absurd (by rw [g2]) (h2 s g1)
  · have hb : isBest C m n L := ⟨h2, fun L' h' => by
      obtain ⟨s, g1, g2⟩ := lsT_onto h'
      have := h4 s g1 (by rw [g2])
      rwa [g2] at this⟩
    rw [bestL_e hb]
    exact ⟨h1, rfl, h3⟩
end
/-- all ascending lists, in order -/
def chL : Nat → Nat → Nat → List (List Int)
  | 0, _, _ => [[]]
  | m + 1, c, n => (List.range (n + 1 - c)).flatMap fun i => (chL m (c + i + 1) n).map fun l => ((c + i : Nat) : Int) :: l
def fn (l : List Int) (j : Nat) : Int := l.getD j 0
theorem chL_mem (m : Nat) : ∀ (c n : Nat) (l : List Int), l ∈ chL m c n → l.length = m ∧ (∀ j, j < m → (c : Int) ≤ fn l j ∧ fn l j ≤ n) ∧ (∀ j, j + 1 < m → fn l j < fn l (j + 1)) := by
  induction m with
  | zero =>
    intro c n l hl
    simp [chL] at hl
    subst hl
    exact ⟨rfl, fun j hj => absurd hj (by omega), fun j hj => absurd hj (by omega)⟩
  | succ m ih =>
    intro c n l hl
    simp only [chL, List.mem_flatMap, List.mem_range, List.mem_map] at hl
    obtain ⟨i, hi, l', hl', rfl⟩ := hl
    obtain ⟨h1, h2, h3⟩ := ih _ _ _ hl'
    refine ⟨by rw [List.length_cons, h1], fun j hj => ?_, fun j hj => ?_⟩
    · match j with
      | 0 => show (c : Int) ≤ ((c + i : Nat) : Int) ∧ ((c + i : Nat) : Int) ≤ n; omega
      | j + 1 => have := h2 j (by omega); show (c : Int) ≤ fn l' j ∧ fn l' j ≤ n; omega
    · match j with
      | 0 => have := (h2 0 (by omega)).1; show ((c + i : Nat) : Int) < fn l' 0; omega
      | j + 1 => exact h3 j (by omega)
theorem chL_sorted (m : Nat) : ∀ (c n : Nat), (chL m c n).Pairwise fun x y => lexP m (fn x) (fn y) := by
  induction m with
  | zero => intro c n; simp [chL]
  | succ m ih =>
    intro c n
    rw [chL, List.pairwise_flatMap]
    refine ⟨fun i _ => ?_, ?_⟩
    · rw [List.pairwise_map]
      refine (ih (c + i + 1) n).imp fun {x y} h => ?_
      obtain ⟨q, h1, h2, h3⟩ := h
      refine ⟨q + 1, by omega, fun j hj => ?_, h3⟩
      match j with
      | 0 => rfl
      | j + 1 => exact h2 j (by omega)
    · refine List.pairwise_lt_range.imp fun {x y} h => ?_
      intro u hu v hv
      rw [List.mem_map] at hu hv
      obtain ⟨u', _, rfl⟩ := hu
      obtain ⟨v', _, rfl⟩ := hv
      refine ⟨0, by omega, fun j hj => absurd hj (by omega), ?_⟩
      show ((c + x : Nat) : Int) < ((c + y : Nat) : Int)
      omega
theorem chL_onto (m : Nat) : ∀ (c n : Nat) (L : Nat → Int), (∀ j, j < m → (c : Int) ≤ L j ∧ L j ≤ n) → (∀ j, j + 1 < m → L j < L (j + 1)) → (∀ j, m ≤ j → L j = 0) → ∃ l, l ∈ chL m c n ∧ fn l = L := by
  induction m with
  | zero =>
    intro c n L _ _ h
    exact ⟨[], by simp [chL], by funext j; rw [h j (by omega)]; rfl⟩
  | succ m ih =>
    intro c n L h1 h2 h3
    have h0 := h1 0 (by omega)
    obtain ⟨k, hk⟩ : ∃ k : Nat, L 0 = ((c + k : Nat) : Int) := ⟨(L 0 - c).toNat, by omega⟩
    have hgt : ∀ j, j < m → L 0 < L (j + 1) := by
      intro j
      induction j with
      | zero => exact fun hj => h2 0 (by omega)
      | succ j ihj => intro hj; have := ihj (by omega); have := h2 (j + 1) (by omega); omega
    obtain ⟨l, g1, g2⟩ := ih (c + k + 1) n (fun j => L (j + 1)) (fun j hj => ⟨by have := hgt j hj; omega, (h1 (j + 1) (by omega)).2⟩) (fun j hj => h2 (j + 1) (by omega)) (fun j hj => h3 (j + 1) (by omega))
    refine ⟨((c + k : Nat) : Int) :: l, ?_, ?_⟩
    · simp only [chL, List.mem_flatMap, List.mem_range, List.mem_map]
      exact ⟨k, by omega, l, g1, rfl⟩
    · funext j
      match j with
      | 0 => exact hk.symm
      | j + 1 => exact congrFun g2 j
/-- the best among the lists so far -/
def CI (C : (Nat → Int) → Int) (m n : Nat) (X : List (List Int)) (t : Nat) (L : Nat → Int) (c : Int) : Prop :=
  (t = 0 ∧ c = -1) ∨ (0 < t ∧ asc m n L ∧ c = C L ∧ 0 ≤ c ∧ (∃ q, ∃ h : q < X.length, q < t ∧ fn X[q] = L) ∧ ∀ q, ∀ h : q < X.length, q < t → noW C m L (fn X[q]))
theorem fn_far {l : List Int} {j : Nat} (h : l.length ≤ j) : fn l j = 0 := by
  unfold fn
  rw [List.getD_eq_getElem?_getD, List.getElem?_eq_none h]
  rfl
theorem chL_asc {m n : Nat} {l : List Int} (h : l ∈ chL m 1 n) : asc m n (fn l) := by
  obtain ⟨h1, h2, h3⟩ := chL_mem m 1 n l h
  exact ⟨fun j hj => by have := h2 j hj; omega, h3, fun j hj => fn_far (by omega)⟩
section
variable {C : (Nat → Int) → Int} {m n t : Nat} {L : Nat → Int} {c : Int}
theorem CI_0 : CI C m n (chL m 1 n) 0 L (-1) := Or.inl ⟨rfl, rfl⟩
theorem CI_take (hC : ∀ L, 0 ≤ C L) (ht : t < (chL m 1 n).length) (h : CI C m n (chL m 1 n) t L c) (hb : c < 0 ∨ C (fn (chL m 1 n)[t]) < c) : CI C m n (chL m 1 n) (t + 1) (fn (chL m 1 n)[t]) (C (fn (chL m 1 n)[t])) := by
  refine Or.inr ⟨by omega, chL_asc (List.getElem_mem _), rfl, hC _, ⟨t, ht, by omega, rfl⟩, fun q hq hqt => ?_⟩
  by_cases e : q = t
  · subst e; exact noW_self
  · rcases h with ⟨h1, h2⟩ | ⟨h1, h2, h3, h4, h5, h6⟩
    · omega
    · rcases hb with hb | hb
      · omega
      · exact noW_lt (by omega) (h6 q hq (by omega))
theorem CI_keep (ht : t < (chL m 1 n).length) (h : CI C m n (chL m 1 n) t L c) (h0 : ¬ c < 0) (hb : ¬ C (fn (chL m 1 n)[t]) < c) : CI C m n (chL m 1 n) (t + 1) L c := by
  rcases h with ⟨h1, h2⟩ | ⟨h1, h2, h3, h4, h5, h6⟩
  · omega
  · obtain ⟨q0, hq0, hqt, hqe⟩ := h5
    refine Or.inr ⟨by omega, h2, h3, h4, ⟨q0, hq0, by omega, hqe⟩, fun q hq hqt2 => ?_⟩
    by_cases e : q = t
    · subst e
      by_cases e2 : C (fn (chL m 1 n)[q]) = c
      · refine Or.inr ⟨by omega, ?_⟩
        rw [← hqe]
        exact lex_as (List.pairwise_iff_getElem.1 (chL_sorted m 1 n) q0 q hq0 hq hqt)
      · exact Or.inl (by omega)
    · exact h6 q hq (by omega)
theorem CI_end (h : CI C m n (chL m 1 n) (chL m 1 n).length L c) (hm : m ≤ n) : L = bestL C m n ∧ c = C (bestL C m n) := by
  have hin : ∀ L', asc m n L' → ∃ q, ∃ h : q < (chL m 1 n).length, fn (chL m 1 n)[q] = L' := fun L' h' => by
    obtain ⟨l, g1, g2⟩ := chL_onto m 1 n L' (fun j hj => by have := h'.1 j hj; omega) h'.2.1 h'.2.2
    obtain ⟨q, hq, hqe⟩ := List.getElem_of_mem g1
    exact ⟨q, hq, by rw [hqe]; exact g2⟩
  rcases h with ⟨h1, h2⟩ | ⟨h1, h2, h3, h4, h5, h6⟩
  · obtain ⟨q, hq, _⟩ := hin _ (asc_id hm)
    omega
  · have hb : isBest C m n L := ⟨h2, fun L' h' => by
      obtain ⟨q, hq, hqe⟩ := hin L' h'
      rw [← hqe]
      exact h6 q hq hq⟩
    rw [bestL_e hb]
    exact ⟨rfl, h3⟩
end
/-- the code, the list, its length, its cost -/
def btC (a b : Int) (fm : Nat → Int) (n : Nat) (fp : Nat → Int) (cnt : Int) : Int := if cntC a b fm n fp cnt = 0 ∧ 10 < n then 3 else cntC a b fm n fp cnt
def btN (a b : Int) (fm : Nat → Int) (n : Nat) (fp : Nat → Int) (cnt : Int) : Nat := if btC a b fm n fp cnt = 0 then cnt.toNat else 0
noncomputable def btL (a b : Int) (fm : Nat → Int) (n : Nat) (fp : Nat → Int) (cnt : Int) : Nat → Int := bestL (fun L => cosS cnt.toNat (subP fp L) fm a b 144) cnt.toNat n
noncomputable def btV (a b : Int) (fm : Nat → Int) (n : Nat) (fp : Nat → Int) (cnt : Int) : Int := if btC a b fm n fp cnt = 0 then cosS cnt.toNat (subP fp (btL a b fm n fp cnt)) fm a b 144 else 0
section
variable {a b : Int} {fm : Nat → Int} {n : Nat} {fp : Nat → Int} {cnt : Int}
theorem btC_k {k : Int} (h : cntC a b fm n fp cnt = k) (hk : k ≠ 0) : btC a b fm n fp cnt = k := by unfold btC; rw [if_neg (fun h2 => hk (by rw [← h]; exact h2.1)), h]
theorem btC_3 (h : cntC a b fm n fp cnt = 0) (hn : 10 < n) : btC a b fm n fp cnt = 3 := if_pos ⟨h, hn⟩
theorem btC_0 (h : cntC a b fm n fp cnt = 0) (hn : ¬ 10 < n) : btC a b fm n fp cnt = 0 := by unfold btC; rw [if_neg (fun h2 => hn h2.2), h]
theorem btN_z {k : Int} (h : btC a b fm n fp cnt = k) (hk : k ≠ 0) : btN a b fm n fp cnt = 0 := if_neg (by rw [h]; exact hk)
theorem btV_z {k : Int} (h : btC a b fm n fp cnt = k) (hk : k ≠ 0) : btV a b fm n fp cnt = 0 := if_neg (by rw [h]; exact hk)
theorem btN_s {K : Nat} (h : btC a b fm n fp K = 0) : btN a b fm n fp K = K := by unfold btN; rw [if_pos h, Int.toNat_natCast]
theorem btL_s {K : Nat} {C : (Nat → Int) → Int} (hC : C = fun L => cosS K (subP fp L) fm a b 144) : btL a b fm n fp K = bestL C K n := by unfold btL; rw [Int.toNat_natCast, hC]
theorem btV_s {K : Nat} {C : (Nat → Int) → Int} (h : btC a b fm n fp K = 0) (hC : C = fun L => cosS K (subP fp L) fm a b 144) : btV a b fm n fp K = C (bestL C K n) := by unfold btV; rw [if_pos h, btL_s hC, Int.toNat_natCast, hC]
theorem btN_le (a b : Int) (fm : Nat → Int) (n : Nat) (fp : Nat → Int) (cnt : Int) : btN a b fm n fp cnt ≤ 15 := by
  unfold btN
  split
  · rename_i h
    by_cases h0 : cntC a b fm n fp cnt = 0
    · have h1 := cntC_le h0
      have := okPal_pos (askOk_e h1.1).2
      omega
    · rw [btC_k rfl h0] at h; exact absurd h h0
  · omega
end
end Go.Proofs.Ytpphckfalgapdaa
/- Rows behind a row: made, read, held against themselves, marked; no condition. -/
set_option linter.unusedVariables false
namespace Go.Proofs.Ytpphckfalgapdaa
open Go.BigFrame
open Go.RowKit Go.Arr
theorem slRows : SlTy Try.prog 61 35 (.slice none 0 0) 1 24 := ⟨Try.underlying61, by kernel_rfl, rfl, by omega⟩
/-- n rows, each in memory of its own, behind a row in memory of its own -/
def RR (W : World) (base : Nat) (v : Value) (n : Nat) (vs : Nat → Value) (m : Nat → Nat) (F : Nat → Nat → Int) : Prop :=
  W.ownsRow base 35 1 v n ((List.range n).map vs) ∧ (∀ i, i < n → Row W base (vs i) (m i) (F i)) ∧
  (∀ i j b, i < n → j < n → (vs i).ownBlock = some b → (vs j).ownBlock = some b → i = j) ∧ (∀ i b, i < n → (vs i).ownBlock = some b → v.ownBlock ≠ some b)
section
variable {W W' : World} {base n : Nat} {v : Value} {vs : Nat → Value} {m : Nat → Nat} {F F' : Nat → Nat → Int}
theorem RR.new (h : RR W base v n vs m F) (hn : New W W') : RR W' base v n vs m F :=
  ⟨own_new h.1 hn, fun i hi => (h.2.1 i hi).new hn, h.2.2.1, h.2.2.2⟩
theorem RR.lower {b : Nat} (h : RR W base v n vs m F) (hb : b ≤ base) : RR W b v n vs m F :=
  ⟨own_lower h.1 hb, fun i hi => (h.2.1 i hi).lower hb, h.2.2.1, h.2.2.2⟩
theorem RR.row (h : RR W base v n vs m F) {i : Nat} (hi : i < n) : Row W base (vs i) (m i) (F i) := h.2.1 i hi
theorem RR.shape (h : RR W base v n vs m F) : (v = .slice none 0 0 ∧ n = 0) ∨ ∃ g cap cur, v = .slice (some ⟨g, 0, none⟩) n cap ∧ base ≤ g ∧ g < W.heap.size ∧ obj W g = some (.cells cur 35) ∧ n ≤ cap ∧ cap ≤ maxLen ∧ cur.size = cap ∧ ∀ j, j < n → cur[j]? = some (vs j) := by
  obtain ⟨hl, h | ⟨g, cap, cur, h1, h2, h3, h4, h5, h6, h7⟩⟩ := h.1
  · exact .inl h
  · have hg : g < W.heap.size := obj_lt h3
    refine .inr ⟨g, cap, cur, h1, h2, hg, h3, h4, h5, by rw [h6, Nat.mul_one], fun j hj => ?_⟩
    have e : (cur.toList.take (n * 1))[j]? = ((List.range n).map vs)[j]? := by rw [h7]
    rw [Nat.mul_one, List.getElem?_take, if_pos hj, Array.getElem?_toList] at e
    rw [e]
    simp [hj]
theorem RR.form (h : RR W base v n vs m F) : ∃ a cap, v = .slice a n cap := by
  rcases h.shape with ⟨h1, h2⟩ | ⟨g, cap, cur, h1, _⟩
  · exact ⟨_, _, by rw [h2]; exact h1⟩
  · exact ⟨_, _, h1⟩
theorem RR.block (h : RR W base v n vs m F) : ∀ b, v.ownBlock = some b → base ≤ b ∧ b < W.heap.size := by
  intro b hb
  rcases h.shape with ⟨rfl, _⟩ | ⟨g, cap, cur, rfl, h1, h2, _⟩
  · cases hb
  · simp [Value.ownBlock] at hb; subst hb; exact ⟨h1, h2⟩
theorem RR.congr (h : RR W base v n vs m F) (hf : ∀ i, i < n → ∀ j, j < m i → F i j = F' i j) : RR W base v n vs m F' :=
  ⟨h.1, fun i hi => (h.2.1 i hi).congr (hf i hi), h.2.2.1, h.2.2.2⟩
theorem RR.nil : RR W base (.slice none 0 0) 0 vs m F := ⟨⟨by simp, .inl ⟨rfl, rfl⟩⟩, fun i hi => absurd hi (by omega), fun i j b hi => absurd hi (by omega), fun i b hi => absurd hi (by omega)⟩
theorem RR.empty {g : Nat} (h : obj W g = some (.cells #[] 35)) (hb : base ≤ g) : RR W base (.slice (some ⟨g, 0, none⟩) 0 0) 0 vs m F :=
  ⟨⟨by simp, .inr ⟨g, 0, #[], rfl, hb, h, by omega, by omega, rfl, by simp⟩⟩, fun i hi => absurd hi (by omega), fun i j b hi => absurd hi (by omega), fun i b hi => absurd hi (by omega)⟩
theorem RR.same (h : RR W base v n vs m F) (h0 : ∀ b, v.ownBlock = some b → obj W' b = obj W b) (h1 : ∀ i b, i < n → (vs i).ownBlock = some b → obj W' b = obj W b) : RR W' base v n vs m F := by
  refine ⟨?_, fun i hi => (h.2.1 i hi).same (h1 i · hi), h.2.2.1, h.2.2.2⟩
  obtain ⟨hl, h' | ⟨g, cap, cur, e1, e2, e3, e4⟩⟩ := h.1
  · exact ⟨hl, .inl h'⟩
  · refine ⟨hl, .inr ⟨g, cap, cur, e1, e2, ?_, e4⟩⟩
    have := h0 g (by rw [e1]; rfl)
    exact this.trans e3
/-- a row laid behind the others -/
theorem RR.app {r : Value} {k : Nat} {f : Nat → Int} {g cap : Nat} (h : RR W base v n vs m F) (hr : Row W base r k f) (hd : ∀ i b, i < n → (vs i).ownBlock = some b → r.ownBlock ≠ some b) (hd2 : ∀ b, r.ownBlock = some b → v.ownBlock ≠ some b)
    (ho : W'.ownsRow base 35 1 (.slice (some ⟨g, 0, none⟩) (n + 1) cap) (n + 1) ((List.range n).map vs ++ [r])) (hg : W.grownBy W' v.ownBlock) (hat : v.ownBlock = some g ∨ W.heap.size ≤ g) :
    RR W' base (.slice (some ⟨g, 0, none⟩) (n + 1) cap) (n + 1) (fun i => if i = n then r else vs i) (fun i => if i = n then k else m i) (fun i => if i = n then f else F i) := by
  have hold : ∀ i b, i < n → (vs i).ownBlock = some b → obj W' b = obj W b := fun i b hi hb => grown_obj hg b ((h.2.1 i hi).block b hb).2 (fun e => h.2.2.2 i b hi hb e.symm)
  have hrow : Row W' base r k f := hr.same fun b hb => grown_obj hg b (hr.block b hb).2 (fun e => hd2 b hb e.symm)
  have hfar : ∀ b, b < W.heap.size → v.ownBlock ≠ some b → some g ≠ some b := by
    intro b hb hv e
    cases e
    rcases hat with h' | h'
    · exact hv h'
    · omega
  refine ⟨?_, ?_, ?_, ?_⟩
  · have e : (List.range (n + 1)).map (fun i => if i = n then r else vs i) = (List.range n).map vs ++ [r] := by
      rw [List.range_succ, List.map_append, List.map_singleton, if_pos rfl]
      congr 1
      refine List.map_congr_left fun i hi => ?_
      rw [List.mem_range] at hi
      exact if_neg (by omega)
    rw [e]
    exact ho
  · intro i hi
    by_cases e : i = n
    · simp only [if_pos e]; exact hrow
    · simp only [if_neg e]; exact (h.2.1 i (by omega)).same (hold i · (by omega))
  · intro i j b hi hj hb1 hb2
    by_cases ei : i = n
    · by_cases ej : j = n
      · omega
      · simp only [if_pos ei] at hb1
        simp only [if_neg ej] at hb2
        exact absurd hb1 (hd j b (by omega) hb2)
    · by_cases ej : j = n
      · simp only [if_neg ei] at hb1
        simp only [if_pos ej] at hb2
        exact absurd hb2 (hd i b (by omega) hb1)
      · simp only [if_neg ei] at hb1
        simp only [if_neg ej] at hb2
        exact h.2.2.1 i j b (by omega) (by omega) hb1 hb2
  · intro i b hi hb
    show some g ≠ some b
    by_cases e : i = n
    · simp only [if_pos e] at hb; exact hfar b (hr.block b hb).2 (hd2 b hb)
    · simp only [if_neg e] at hb
      exact hfar b ((h.2.1 i (by omega)).block b hb).2 (h.2.2.2 i b (by omega) hb)
end
/-- a row's numbers can be read -/
def NewSl (W : World) (a : Option Addr) (n : Nat) (f : Nat → Int) : Prop := Reads W a n f
theorem NewSl.at {W W' : World} {a : Option Addr} {n : Nat} {f : Nat → Int} (h : NewSl W a n f) (hn : New W W') : Reads W' a n f := fun j hj => by
  obtain ⟨g, cur, h1, h2, h3⟩ := h j hj
  exact ⟨g, cur, h1, (hn.objs _ (obj_lt h2)).trans h2, h3⟩
/-- what has been counted ahead of row i -/
def sumM (m : Nat → Nat) : Nat → Nat
  | 0 => 0
  | i + 1 => sumM m i + m i
theorem sumM_le {m : Nat → Nat} {K : Nat} (h : ∀ i, m i ≤ K) (i : Nat) : sumM m i ≤ i * K := by
  induction i with
  | zero => simp [sumM]
  | succ i ih => have := h i; unfold sumM; rw [Nat.succ_mul]; omega
theorem RR.slot {W : World} {base n cap : Nat} {a : Option Addr} {vs : Nat → Value} {m : Nat → Nat} {F : Nat → Nat → Int} (h : RR W base (.slice a n cap) n vs m F) {i : Nat} (hi : i < n) : ∃ g cur, a = some ⟨g, 0, none⟩ ∧ obj W g = some (.cells cur 35) ∧ (∃ l : i < cur.size, cur[i] = vs i) := by
  rcases h.shape with ⟨_, h0⟩ | ⟨g, c, cur, h1, h2, h3, h4, h5, h6, h7, h8⟩
  · omega
  · simp only [Value.slice.injEq] at h1
    exact ⟨g, cur, h1.1, h4, Array.getElem?_eq_some_iff.1 (h8 i hi)⟩
end Go.Proofs.Ytpphckfalgapdaa
/- Rows of cells by their nearest tone, as the program keeps them; palettes cloned; no condition. -/
set_option linter.unusedVariables false
namespace Go.Proofs.Ytpphckfalgapdaa
open Go.BigFrame
open Go.RowKit Go.Arr
def nilRows (n : Nat) : Array Value := ((List.range n).map fun _ => Value.slice none 0 0).toArray
theorem size_nilRows (n : Nat) : (nilRows n).size = n := by simp [nilRows]
theorem get_nilRows {n i : Nat} (h : i < n) : (nilRows n)[i]? = some (.slice none 0 0) := by simp [nilRows, h]
theorem mkRows (n : Nat) (hn : n ≤ 1048576) (w : World) : (Instr.makeSlice 61 (.int .i64 n) (.int .i64 n)).run Try.prog w = .ok (.slice (some ⟨w.heap.size, 0, none⟩) n n) (w.alloc (.cells (nilRows n) 35)) := by
  obtain ⟨i, h1, h2⟩ := Option.map_eq_some_iff.1 (show (Try.prog.info? 35).map (fun i => (i.zero, i.size, i.bytes)) = some (some (.slice none 0 0), 1, 24) by kernel_rfl)
  simp only [Prod.mk.injEq] at h2
  obtain ⟨hz0, hs, hbb⟩ := h2
  have hr := run_make (P := Try.prog) w 61 35 i (.slice none 0 0) Try.underlying61 h1 hz0 .i64 .i64 n n (by omega) (Int.le_refl _) (by rw [hbb]; omega) (by omega)
  simp only [Int.toNat_natCast, hs] at hr
  have hmc : madeCells (Value.slice none 0 0).cells (n * 1) = nilRows n := by
    apply Array.ext_getElem?
    intro j
    by_cases hj : j < n
    · rw [get_nilRows hj]; simp [madeCells, hj, Value.cells, Nat.mod_one]
    · rw [Array.getElem?_eq_none (by simp [madeCells]; omega), Array.getElem?_eq_none (by rw [size_nilRows]; omega)]
  rw [hr, hmc]
theorem RR.made {W : World} {base g n : Nat} {F : Nat → Nat → Int} (h : obj W g = some (.cells (nilRows n) 35)) (hb : base ≤ g) (hn : n ≤ maxLen) : RR W base (.slice (some ⟨g, 0, none⟩) n n) n (fun _ => .slice none 0 0) (fun _ => 0) F := by
  refine ⟨?_, fun i hi => Row.nil, fun i j b hi hj h1 => by simp [Value.ownBlock] at h1, fun i b hi h1 => by simp [Value.ownBlock] at h1⟩
  refine ⟨by simp, .inr ⟨g, n, nilRows n, rfl, hb, h, Nat.le_refl _, hn, by rw [size_nilRows, Nat.mul_one], ?_⟩⟩
  rw [Nat.mul_one]
  exact List.take_of_length_le (by simp [nilRows])
theorem RR.put {W W' : World} {base go n cap0 i k : Nat} {vs : Nat → Value} {m : Nat → Nat} {F : Nat → Nat → Int} {r : Value} {f : Nat → Int} (h : RR W base (.slice (some ⟨go, 0, none⟩) n cap0) n vs m F) (hi : i < n)
    (hr : Row W' base r k f) (hg : W.grownBy W' (vs i).ownBlock) (hat : ∀ q, r.ownBlock = some q → (vs i).ownBlock = some q ∨ W.heap.size ≤ q) :
    RR (W'.setCell ⟨go, i, none⟩ r) base (.slice (some ⟨go, 0, none⟩) n cap0) n (fun j => if j = i then r else vs j) (fun j => if j = i then k else m j) (fun j => if j = i then f else F j) := by
  have hgo := (h.block go rfl).2
  have hne : ∀ j, j < n → (vs j).ownBlock ≠ some go := fun j hj e => h.2.2.2 j go hj e rfl
  have hrgo : ∀ q, r.ownBlock = some q → q ≠ go := fun q hq e => by
    subst e
    rcases hat _ hq with h1 | h1
    · exact hne i hi h1
    · omega
  have hbj : ∀ j q, j < n → (vs j).ownBlock = some q → q < W.heap.size := fun j q hj hq => ((h.row hj).block q hq).2
  have hout : ∀ b, b ≠ go → obj (W'.setCell ⟨go, i, none⟩ r) b = obj W' b := fun b hb => obj_setCell_other _ _ _ _ _ hb
  refine ⟨?_, ?_, ?_, ?_⟩
  · obtain ⟨hl, h' | ⟨g, cap, cur, e1, e2, e3, e4, e5, e6, e7⟩⟩ := h.1
    · cases h'.1
    · simp only [Value.slice.injEq, Option.some.injEq, Addr.mk.injEq, and_true, true_and] at e1
      obtain ⟨rfl, rfl⟩ := e1
      have hW' : obj W' go = some (.cells cur 35) := (grown_obj hg go hgo fun e => hne i hi e.symm).trans e3
      refine ⟨by simp, .inr ⟨go, cap0, cur.setIfInBounds i r, rfl, e2, ?_, e4, e5, by rw [Array.size_setIfInBounds, e6], ?_⟩⟩
      · show obj _ go = _
        rw [obj_setCell_same, hW']
        rfl
      · have e7' : ∀ j, j < n → cur[j]? = some (vs j) := fun j hj => by
          have e : (cur.toList.take (n * 1))[j]? = ((List.range n).map vs)[j]? := by rw [e7]
          rw [Nat.mul_one, List.getElem?_take, if_pos hj, Array.getElem?_toList] at e
          rw [e]
          simp [hj]
        apply List.ext_getElem?
        intro j
        by_cases hj : j < n
        · rw [Nat.mul_one, List.getElem?_take, if_pos hj, Array.getElem?_toList, Array.getElem?_setIfInBounds]
          by_cases e : i = j
          · subst e
            rw [if_pos rfl, if_pos (by omega)]
            simp [hj]
          · rw [if_neg e, e7' j hj]
            simp [hj, Ne.symm e]
        · rw [List.getElem?_eq_none (by simp; omega), List.getElem?_eq_none (by simp; omega)]
  · intro j hj
    by_cases e : j = i
    · simp only [if_pos e]; exact hr.same fun q hq => hout q (hrgo q hq)
    · simp only [if_neg e]
      refine (h.row hj).same fun q hq => ?_
      rw [hout q fun e2 => hne j hj (by rw [hq, e2])]
      exact grown_obj hg q (hbj j q hj hq) fun e2 => e (h.2.2.1 j i q hj hi hq e2.symm)
  · intro j l q hj hl h1 h2
    by_cases ej : j = i
    · by_cases el : l = i
      · omega
      · simp only [if_pos ej] at h1
        simp only [if_neg el] at h2
        rcases hat q h1 with h3 | h3
        · exact absurd (h.2.2.1 l i q hl hi h2 h3) el
        · have := hbj l q hl h2; omega
    · by_cases el : l = i
      · simp only [if_neg ej] at h1
        simp only [if_pos el] at h2
        rcases hat q h2 with h3 | h3
        · exact absurd (h.2.2.1 j i q hj hi h1 h3) ej
        · have := hbj j q hj h1; omega
      · simp only [if_neg ej] at h1
        simp only [if_neg el] at h2
        exact h.2.2.1 j l q hj hl h1 h2
  · intro j q hj h1 e
    simp only [Value.ownBlock, Option.some.injEq] at e
    by_cases ej : j = i
    · simp only [if_pos ej] at h1; exact hrgo q h1 e.symm
    · simp only [if_neg ej] at h1; exact hne j hj (by rw [h1, e])
/-- the classes, cell by cell -/
def stp (near : Nat → Nat) (s : Nat → Nat × (Nat → Nat)) (i : Nat) : Nat → Nat × (Nat → Nat) := fun c => if c = near i then ((s c).1 + 1, fun j => if j = (s c).1 then i else (s c).2 j) else s c
theorem stp_e (near : Nat → Nat) (p : Nat → Bool) (k : Nat) : recS (stp near) (fun _ => (0, fun _ => 0)) p k = fun c => (selN (fun i => p i && decide (near i = c)) k, selG (fun i => p i && decide (near i = c)) k) := by
  induction k with
  | zero => rfl
  | succ k ih =>
    funext c
    cases hp : p k
    · rw [recS_f hp, ih]
      have hq : (fun i => p i && decide (near i = c)) k = false := by simp [hp]
      rw [selN_f hq, selG_f hq]
    · rw [recS_t hp, ih]
      unfold stp
      by_cases e : c = near k
      · have hq : (fun i => p i && decide (near i = c)) k = true := by simp [hp, e]
        rw [if_pos e, selN_t hq, selG_t hq]
      · have hq : (fun i => p i && decide (near i = c)) k = false := by simp [hp]; exact fun h => e h.symm
        rw [if_neg e, selN_f hq, selG_f hq]
def nearI (n : Nat) (fp fm : Nat → Int) (i : Nat) : Nat := (nearK fp (fm (i * 3)) (fm (i * 3 + 1)) (fm (i * 3 + 2)) n).1
def clsT (n : Nat) (fp fm : Nat → Int) (a b : Int) (t : Nat) : Nat → Nat × (Nat → Nat) := recT (stp (nearI n fp fm)) (fun _ => (0, fun _ => 0)) (selG (cellN a b) 144) t
theorem clsT_s (n : Nat) (fp fm : Nat → Int) (a b : Int) (t : Nat) : clsT n fp fm a b (t + 1) = stp (nearI n fp fm) (clsT n fp fm a b t) (selG (cellN a b) 144 t) := rfl
theorem clsT_end (n : Nat) (fp fm : Nat → Int) (a b : Int) : clsT n fp fm a b (selN (cellN a b) 144) = fun c => (clN n fp fm a b c, selG (clP n fp fm a b c) 144) := by
  unfold clsT
  rw [rec_eq (Nat.le_refl _), stp_e]
  rfl
theorem clsT_le (n : Nat) (fp fm : Nat → Int) (a b : Int) (t c : Nat) : (clsT n fp fm a b t c).1 ≤ t := by
  induction t with
  | zero => exact Nat.le_refl _
  | succ t ih =>
    rw [clsT_s]
    unfold stp
    split
    · dsimp only; omega
    · omega
theorem nearK_lt (f : Nat → Int) (x y z : Int) (k : Nat) : (nearK f x y z (k + 1)).1 ≤ k := by
  induction k with
  | zero => rw [nearK_one]; exact Nat.le_refl _
  | succ k ih =>
    obtain ⟨q, le, he⟩ : ∃ q le, nearK f x y z (k + 1) = (q, le) := ⟨_, _, rfl⟩
    rw [he] at ih
    by_cases h : farE f x y z (k + 1) < le
    · rw [nearK_t he h]; exact Nat.le_refl _
    · rw [nearK_f he h]; dsimp only at ih ⊢; omega
theorem nearI_lt {n : Nat} (fp fm : Nat → Int) (i : Nat) (hn : 0 < n) : nearI n fp fm i < n := by
  obtain ⟨k, rfl⟩ : ∃ k, n = k + 1 := ⟨n - 1, by omega⟩
  have := nearK_lt fp (fm (i * 3)) (fm (i * 3 + 1)) (fm (i * 3 + 2)) k
  unfold nearI
  omega
theorem stp_m (near : Nat → Nat) (s : Nat → Nat × (Nat → Nat)) (i : Nat) : (fun c => (stp near s i c).1) = fun c => if c = near i then (s (near i)).1 + 1 else (s c).1 := by
  funext c
  unfold stp
  by_cases e : c = near i
  · subst e; simp
  · simp [e]
theorem stp_F (near : Nat → Nat) (s : Nat → Nat × (Nat → Nat)) (i : Nat) : (fun c j => ((stp near s i c).2 j : Int)) = fun c => if c = near i then (fun j => upd (fun j => ((s (near i)).2 j : Int)) (s (near i)).1 i j) else fun j => ((s c).2 j : Int) := by
  funext c j
  unfold stp upd
  by_cases e : c = near i
  · subst e
    simp only [if_true]
    by_cases e2 : j = (s (near i)).1
    · rw [if_pos e2, if_pos e2]
    · rw [if_neg e2, if_neg e2]
  · simp [e]
set_option maxHeartbeats 1000000 in
set_option maxRecDepth 100000 in
theorem clonePal_any (ad : Option Addr) (n c : Nat) (f : Nat → Int) (hp : 0 < n) (hn : n ≤ 1048576) (W : World) (hs : Sl W (.slice ad n c) n 3 .u8 f) :
    Calls Try.prog 43 #[.slice ad n c] W fun e w' => ∃ g cap, e = .returned (.slice (some ⟨g, 0, none⟩) n cap) ∧ PRow w' W.heap.size (.slice (some ⟨g, 0, none⟩) n cap) n f ∧ New W w' := by
  obtain ⟨gs, offs, curs, ts, frs, rfl, o5, hel5⟩ := hs.at hp
  have r5 := obj_lt o5
  have hel5 := hide hel5
  have heq := fun w' : World => Lib.run_eql_slice_nil (P := Try.prog) w' 32 26 (some ⟨gs, offs, none⟩) n c 0 0 Try.underlying32
  go_enter Try.func43, Try.ntmps43
  go_wp2_with (at_builtin; refine wpList_app slTones rfl _ _ rfl W.heap.size (.slice (some ⟨W.heap.size, 0, none⟩) 0 0) 0 [] rfl (prow_empty (f := f) (obj_alloc_at _ _ _ rfl) (Nat.le_refl _)) ⟨gs, offs, none⟩ n c (irow (n * 3) .u8 f) rfl (by simp) (news_sl3 ((obj_alloc_past _ _ _ r5).trans o5) hel5.out) irow_one (by omega) (by unfold maxLen; omega) (by omega) (by simp) ?_)
  intro g1 cap1 w2 hown hg2 hat hlt2
  try simp only [Nat.zero_add, List.nil_append] at hown
  try simp only [Nat.zero_add]
  have hrow : PRow w2 W.heap.size (.slice (some ⟨g1, 0, none⟩) n cap1) n f := hown
  have hn2 : New W w2 := grown_new ((New.refl W).alloc _) hg2 fun b hb => by simp [Value.ownBlock] at hb; omega
  clear hown hg2 hat
  go_wp2_with (fail)
  go_ret
  exact ⟨_, _, rfl, hrow, hn2⟩
end Go.Proofs.Ytpphckfalgapdaa
