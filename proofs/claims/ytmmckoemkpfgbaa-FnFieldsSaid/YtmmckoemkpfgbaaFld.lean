/- The field of a cell, as a list that grows; what is in it; no condition. -/
import Derived.Test.YtmmckoemkpfgbaaSel
set_option linter.unusedVariables false
namespace Go.Proofs.Ytmmckoemkpfgbaa
open Go.BigFrame
open Go.RowKit Go.Arr
/-- the neighbours of a cell -/
def nbL (a b : Int) (c : Nat) : List Nat :=
  (if 12 ≤ c then [c - 12] else []) ++ (if 0 < c % 12 then [c - 1] else []) ++ (if ((c % 12 : Nat) : Int) + 1 < a then [c + 1] else []) ++ (if ((c / 12 : Nat) : Int) + 1 < b then [c + 12] else [])
theorem cellN_e {a b : Int} {c : Nat} : cellN a b c = true ↔ c < 144 ∧ ((c % 12 : Nat) : Int) < a ∧ ((c / 12 : Nat) : Int) < b := by
  unfold cellN cellB
  simp only [Bool.and_eq_true, decide_eq_true_eq, inB_t]
  have e1 : ((c % 12 : Nat) : Int) = (c : Int) % 12 := by omega
  have e2 : ((c / 12 : Nat) : Int) = (c : Int) / 12 := by omega
  rw [e1, e2]
  omega
theorem mem_ite {p : Prop} [Decidable p] {x y : Nat} : x ∈ (if p then [y] else []) ↔ p ∧ x = y := by split <;> simp_all
theorem len_ite {p : Prop} [Decidable p] {x : Nat} : (if p then [x] else []).length ≤ 1 := by split <;> simp
theorem nbL_e {a b : Int} {c k : Nat} : k ∈ nbL a b c ↔ (12 ≤ c ∧ k = c - 12) ∨ (0 < c % 12 ∧ k = c - 1) ∨ (((c % 12 : Nat) : Int) + 1 < a ∧ k = c + 1) ∨ (((c / 12 : Nat) : Int) + 1 < b ∧ k = c + 12) := by
  unfold nbL
  simp only [List.mem_append, mem_ite, or_assoc]
theorem nbL_cell {a b : Int} {c k : Nat} (ha : a ≤ 12) (hb : b ≤ 12) (hc : cellN a b c = true) (hk : k ∈ nbL a b c) : cellN a b k = true := by
  rw [cellN_e] at *
  rw [nbL_e] at hk
  omega
theorem nbL_len (a b : Int) (c : Nat) : (nbL a b c).length ≤ 4 := by
  unfold nbL
  simp only [List.length_append]
  have h1 := len_ite (p := 12 ≤ c) (x := c - 12)
  have h2 := len_ite (p := 0 < c % 12) (x := c - 1)
  have h3 := len_ite (p := ((c % 12 : Nat) : Int) + 1 < a) (x := c + 1)
  have h4 := len_ite (p := ((c / 12 : Nat) : Int) + 1 < b) (x := c + 12)
  omega
section
variable (f : Nat → Int) (z : Int)
def addQ (Q : List Nat) (k : Nat) : List Nat := if f k = z ∧ ¬ k ∈ Q then Q ++ [k] else Q
def addN (Q : List Nat) (l : List Nat) : List Nat := l.foldl (addQ f z) Q
end
section
variable {f : Nat → Int} {z : Int} {Q : List Nat} {k : Nat}
theorem addQ_t (h : f k = z) (h2 : ¬ k ∈ Q) : addQ f z Q k = Q ++ [k] := if_pos ⟨h, h2⟩
theorem addQ_c (h : ¬ f k = z) : addQ f z Q k = Q := if_neg fun h2 => h h2.1
theorem addQ_m (h : k ∈ Q) : addQ f z Q k = Q := if_neg fun h2 => h2.2 h
theorem addQ_pre : Q <+: addQ f z Q k := by
  unfold addQ
  split
  · exact List.prefix_append _ _
  · exact List.prefix_rfl
theorem addQ_mem {x : Nat} : x ∈ addQ f z Q k ↔ x ∈ Q ∨ (x = k ∧ f k = z) := by
  unfold addQ
  split
  · rename_i h; simp [h.1]
  · rename_i h
    constructor
    · exact Or.inl
    · rintro (h1 | ⟨rfl, h2⟩)
      · exact h1
      · by_cases hx : x ∈ Q
        · exact hx
        · exact absurd ⟨h2, hx⟩ h
theorem addQ_nodup (h : Q.Nodup) : (addQ f z Q k).Nodup := by
  unfold addQ
  split
  · rename_i h2
    rw [List.nodup_append]
    refine ⟨h, by simp, fun x hx y hy => ?_⟩
    simp at hy
    subst hy
    intro e
    subst e
    exact h2.2 hx
  · exact h
theorem addN_pre (l : List Nat) : ∀ Q, Q <+: addN f z Q l := by
  induction l with
  | nil => intro Q; exact List.prefix_rfl
  | cons x l ih => intro Q; exact addQ_pre.trans (ih _)
theorem addN_mem (l : List Nat) {x : Nat} : ∀ Q, x ∈ addN f z Q l ↔ x ∈ Q ∨ (x ∈ l ∧ f x = z) := by
  induction l with
  | nil => intro Q; simp [addN]
  | cons y l ih =>
    intro Q
    show x ∈ addN f z (addQ f z Q y) l ↔ _
    rw [ih, addQ_mem]
    constructor
    · rintro ((h | ⟨rfl, h⟩) | ⟨h, h2⟩)
      · exact Or.inl h
      · exact Or.inr ⟨by simp, h⟩
      · exact Or.inr ⟨by simp [h], h2⟩
    · rintro (h | ⟨h, h2⟩)
      · exact Or.inl (Or.inl h)
      · rcases List.mem_cons.1 h with rfl | h
        · exact Or.inl (Or.inr ⟨rfl, h2⟩)
        · exact Or.inr ⟨h, h2⟩
theorem addN_nodup (l : List Nat) : ∀ Q : List Nat, Q.Nodup → (addN f z Q l).Nodup := by
  induction l with
  | nil => intro Q h; exact h
  | cons x l ih => intro Q h; exact ih _ (addQ_nodup h)
theorem addN_take {l : List Nat} {j : Nat} (hj : j < l.length) : addN f z Q (l.take (j + 1)) = addQ f z (addN f z Q (l.take j)) (l.getD j 0) := by
  rw [List.take_add_one, List.getElem?_eq_getElem hj]
  unfold addN
  rw [List.foldl_append]
  simp [List.getD, hj]
end
/-- the list when so many have been looked at -/
def bfs (a b : Int) (f : Nat → Int) (c0 : Nat) : Nat → List Nat
  | 0 => [c0]
  | at_ + 1 => if at_ < (bfs a b f c0 at_).length then addN f (f c0) (bfs a b f c0 at_) (nbL a b ((bfs a b f c0 at_).getD at_ 0)) else bfs a b f c0 at_
def fldQ (a b : Int) (f : Nat → Int) (c0 : Nat) : List Nat := bfs a b f c0 144
section
variable {a b : Int} {f : Nat → Int} {c0 : Nat}
theorem bfs_s {i : Nat} (h : i < (bfs a b f c0 i).length) : bfs a b f c0 (i + 1) = addN f (f c0) (bfs a b f c0 i) (nbL a b ((bfs a b f c0 i).getD i 0)) := if_pos h
theorem bfs_pre (i m : Nat) : bfs a b f c0 i <+: bfs a b f c0 (i + m) := by
  induction m with
  | zero => exact List.prefix_rfl
  | succ m ih =>
    refine ih.trans ?_
    rw [← Nat.add_assoc, bfs]
    split
    · exact addN_pre _ _
    · exact List.prefix_rfl
theorem bfs_in (ha : a ≤ 12) (hb : b ≤ 12) (hc : cellN a b c0 = true) (i : Nat) : ∀ k ∈ bfs a b f c0 i, cellN a b k = true ∧ f k = f c0 := by
  induction i with
  | zero => intro k hk; simp [bfs] at hk; subst hk; exact ⟨hc, rfl⟩
  | succ i ih =>
    intro k hk
    rw [bfs] at hk
    split at hk
    · rename_i hl
      rcases (addN_mem _ _).1 hk with h | ⟨h, h2⟩
      · exact ih k h
      · refine ⟨nbL_cell ha hb (ih _ ?_).1 h, h2⟩
        rw [List.getD_eq_getElem?_getD, List.getElem?_eq_getElem hl]
        exact List.getElem_mem hl
    · exact ih k hk
theorem bfs_nodup (i : Nat) : (bfs a b f c0 i).Nodup := by
  induction i with
  | zero => simp [bfs]
  | succ i ih =>
    rw [bfs]
    split
    · exact addN_nodup _ _ ih
    · exact ih
theorem bfs_len (ha : a ≤ 12) (hb : b ≤ 12) (hc : cellN a b c0 = true) (i : Nat) : (bfs a b f c0 i).length ≤ 144 := by
  have h := (bfs_nodup (a := a) (b := b) (f := f) (c0 := c0) i).length_le_of_subset (l₂ := List.range 144) fun k hk => by
    have := (cellN_e.1 (bfs_in (f := f) ha hb hc i k hk).1).1
    simpa using this
  simpa using h
theorem bfs_end {i : Nat} (h : (bfs a b f c0 i).length ≤ i) (m : Nat) : bfs a b f c0 (i + m) = bfs a b f c0 i := by
  induction m with
  | zero => rfl
  | succ m ih => rw [← Nat.add_assoc, bfs, if_neg (by rw [ih]; omega), ih]
theorem fldQ_of {i : Nat} (hi : i ≤ 144) (h : (bfs a b f c0 i).length ≤ i) : fldQ a b f c0 = bfs a b f c0 i := by
  have := bfs_end h (144 - i)
  rwa [show i + (144 - i) = 144 by omega] at this
theorem bfs_closed (i : Nat) : ∀ j, j < i → j < (bfs a b f c0 i).length → ∀ k ∈ nbL a b ((bfs a b f c0 i).getD j 0), f k = f c0 → k ∈ bfs a b f c0 i := by
  induction i with
  | zero => intro j hj; omega
  | succ i ih =>
    intro j hj hl k hk hf
    have hpre := bfs_pre (a := a) (b := b) (f := f) (c0 := c0) i 1
    by_cases hjl : j < (bfs a b f c0 i).length
    · have hget : (bfs a b f c0 (i + 1)).getD j 0 = (bfs a b f c0 i).getD j 0 := by
        obtain ⟨t, ht⟩ := hpre
        rw [← ht, List.getD_eq_getElem?_getD, List.getElem?_append_left hjl, List.getD_eq_getElem?_getD]
      rw [hget] at hk
      by_cases hji : j < i
      · exact hpre.subset (ih j hji hjl k hk hf)
      · obtain rfl : j = i := by omega
        rw [bfs_s hjl, addN_mem]
        exact Or.inr ⟨hk, hf⟩
    · by_cases hil : i < (bfs a b f c0 i).length
      · omega
      · have he : bfs a b f c0 (i + 1) = bfs a b f c0 i := by rw [bfs, if_neg hil]
        rw [he] at hl
        omega
/-- what has a neighbour of its colour in the field is in the field -/
theorem fldQ_closed (ha : a ≤ 12) (hb : b ≤ 12) (hc : cellN a b c0 = true) {i k : Nat} (hi : i ∈ fldQ a b f c0) (hk : k ∈ nbL a b i) (hf : f k = f c0) : k ∈ fldQ a b f c0 := by
  obtain ⟨j, hj, rfl⟩ := List.getElem_of_mem hi
  have hlen := bfs_len (f := f) ha hb hc 144
  have hj2 : j < (bfs a b f c0 144).length := hj
  refine bfs_closed 144 j (by omega) hj2 k ?_ hf
  rw [List.getD_eq_getElem?_getD, List.getElem?_eq_getElem hj2]
  exact hk
theorem fldQ_in (ha : a ≤ 12) (hb : b ≤ 12) (hc : cellN a b c0 = true) : ∀ k ∈ fldQ a b f c0, cellN a b k = true ∧ f k = f c0 := bfs_in ha hb hc 144
end
/-- whether a number is in the field -/
def inF (Q : List Nat) (k : Nat) : Bool := decide (k ∈ Q)
theorem selG_inc {p : Nat → Bool} (n : Nat) : ∀ i j, i < j → j < selN p n → selG p n i < selG p n j := by
  induction n with
  | zero => intro i j _ h; simp [selN] at h
  | succ n ih =>
    intro i j hij hj
    cases hp : p n
    · rw [selN_f hp] at hj
      rw [selG_f hp]
      exact ih i j hij hj
    · rw [selN_t hp] at hj
      rw [selG_t hp]
      dsimp only
      by_cases e : j = selN p n
      · rw [if_pos e, if_neg (by omega)]
        exact (selG_lt (p := p) n i (by omega)).1
      · rw [if_neg e, if_neg (by omega)]
        exact ih i j hij (by omega)
theorem selG_onto {p : Nat → Bool} {n k : Nat} (hk : k < n) (hp : p k = true) : ∃ j, j < selN p n ∧ selG p n j = k := by
  refine ⟨selN p k, ?_, selG_at hk hp⟩
  have h := selN_mono (p := p) (k := k + 1) (m := n - (k + 1))
  rw [selN_t hp, show k + 1 + (n - (k + 1)) = n by omega] at h
  omega
def selL (p : Nat → Bool) (n : Nat) : List Int := (List.range (selN p n)).map fun j => (selG p n j : Int)
/-- the sorted list -/
theorem sort_field {Q : List Nat} (hn : Q.Nodup) (hq : ∀ k ∈ Q, k < 144) : ((Q.map fun k : Nat => (k : Int)).mergeSort fun x y => decide (x ≤ y)) = selL (inF Q) 144 := by
  refine List.Perm.eq_of_pairwise (le := fun x y : Int => x ≤ y) (fun x y _ _ h1 h2 => by omega) ?_ ?_ ?_
  · have h := List.pairwise_mergeSort (le := fun x y : Int => decide (x ≤ y)) (fun x y z h1 h2 => by simp at *; omega) (fun x y => by simp; omega) (Q.map fun k : Nat => (k : Int))
    exact h.imp (fun h => by simpa using h)
  · unfold selL
    rw [List.pairwise_map]
    refine List.Pairwise.imp_of_mem (R := fun i j : Nat => i < j) ?_ List.pairwise_lt_range
    intro i j hi hj hij
    have := selG_inc (p := inF Q) 144 i j hij (by simpa using hj)
    omega
  · refine (List.mergeSort_perm _ _).trans ?_
    unfold selL
    have hperm : Q.Perm ((List.range (selN (inF Q) 144)).map fun j => selG (inF Q) 144 j) := by
      rw [List.perm_ext_iff_of_nodup hn]
      · intro k
        constructor
        · intro hk
          obtain ⟨j, hj, he⟩ := selG_onto (p := inF Q) (hq k hk) (by unfold inF; simpa using hk)
          rw [List.mem_map]
          exact ⟨j, by simpa using hj, he⟩
        · intro hk
          rw [List.mem_map] at hk
          obtain ⟨j, hj, rfl⟩ := hk
          have := (selG_lt (p := inF Q) 144 j (by simpa using hj)).2
          exact of_decide_eq_true this
      · unfold List.Nodup
        rw [List.pairwise_map]
        refine List.Pairwise.imp_of_mem (R := fun i j : Nat => i < j) ?_ List.pairwise_lt_range
        intro i j hi hj hij
        have := selG_inc (p := inF Q) 144 i j hij (by simpa using hj)
        omega
    have h2 := hperm.map fun k : Nat => (k : Int)
    rw [List.map_map] at h2
    exact h2
end Go.Proofs.Ytmmckoemkpfgbaa
