/- The reference's pictures in other places; no condition. -/
import Derived.Test.YtphjhegaplochaaGreatDoorU6
import Derived.Test.YtphjhegaplochaaGreatDoorU11
import Derived.Test.YtphjhegaplochaaGreatDoorU7
import Derived.Test.YtphjhegaplochaaGreatDoorU8
import Derived.Test.YtphjhegaplochaaGreatDoorU4
import Derived.Test.YtphjhegaplochaaGreatDoorU3
set_option linter.unusedVariables false
namespace Go.Proofs.YtphjhegaplochaaGreatDoor
open Go.BigFrame
open Go.RowKit Go.Arr
theorem cellB_t {i : Nat} {a b : Int} (hi : i < 144) : cellB i a b = true ↔ inside a b i := by
  unfold cellB inside
  have : inB i 0 143 = true := inB_t.2 (by omega)
  rw [this, Bool.true_and, Bool.and_eq_true, decide_eq_true_iff, decide_eq_true_iff]
/-- what is painted in the end, out of what is filled cell by cell -/
theorem fold_paint (a b : Int) (ha : 1 ≤ a ∧ a ≤ 12) (hb : 1 ≤ b ∧ b ≤ 12) (dst src : Nat → Nat) (val : Nat → Int) (h : Int → Int → Int) (a' b' : Int)
    (H1 : ∀ i, i < 144 → inside a b i → inside a' b' (dst i) ∧ dst i < 144 ∧ src (dst i) = i ∧ val i = h ((dst i : Int) % 12) ((dst i : Int) / 12))
    (H2 : ∀ j, j < 144 → inside a' b' j → inside a b (src j) ∧ src j < 144 ∧ dst (src j) = j) (j : Nat) (hj : j < 144) :
    fold (fun _ => 0) (fun i => cellB i a b) dst val 144 j = paint a' b' h j := by
  rw [fold_at _ _ dst src val 144 (fun i hi ht => (H1 i hi ((cellB_t hi).1 ht)).2.2.1)]
  unfold paint
  by_cases hc : inside a' b' j
  · obtain ⟨h1, h2, h3⟩ := H2 j hj hc
    obtain ⟨_, _, _, h7⟩ := H1 (src j) h2 h1
    rw [if_pos ⟨h2, (cellB_t h2).2 h1, h3⟩, if_pos hc, h7, h3]
  · rw [if_neg hc, if_neg]
    rintro ⟨h1, h2, h3⟩
    have h4 := (H1 (src j) h1 ((cellB_t h1).1 h2)).1
    rw [h3] at h4
    exact hc h4
def mirH (a : Int) (f : Nat → Int) (x y : Int) : Int := f (a - 1 - x + 12 * y).toNat
def mirD (a : Int) (i : Nat) : Nat := ((i : Int) - 2 * ((i : Int) % 12) + a).toNat - 1
theorem mir_end (a b : Int) (f : Nat → Int) (ha : 1 ≤ a ∧ a ≤ 12) (hb : 1 ≤ b ∧ b ≤ 12) (j : Nat) (hj : j < 144) :
    fold (fun _ => 0) (fun i => cellB i a b) (mirD a) f 144 j = paint a b (mirH a f) j := by
  refine fold_paint a b ha hb (mirD a) (mirD a) f (mirH a f) a b ?_ ?_ j hj
  · intro i hi hin
    unfold inside at hin ⊢
    unfold mirD mirH
    refine ⟨by omega, by omega, by omega, ?_⟩
    congr 1
    omega
  · intro i hi hin
    unfold inside at hin ⊢
    unfold mirD
    refine ⟨by omega, by omega, by omega⟩
def flipH (b : Int) (f : Nat → Int) (x y : Int) : Int := f (x + 12 * (b - 1 - y)).toNat
def flipD (b : Int) (i : Nat) : Nat := ((i : Int) % 12 + 12 * (b - 1 - (i : Int) / 12)).toNat
theorem flip_end (a b : Int) (f : Nat → Int) (ha : 1 ≤ a ∧ a ≤ 12) (hb : 1 ≤ b ∧ b ≤ 12) (j : Nat) (hj : j < 144) :
    fold (fun _ => 0) (fun i => cellB i a b) (flipD b) f 144 j = paint a b (flipH b f) j := by
  refine fold_paint a b ha hb (flipD b) (flipD b) f (flipH b f) a b ?_ ?_ j hj
  · intro i hi hin
    unfold inside at hin ⊢
    unfold flipD flipH
    refine ⟨by omega, by omega, by omega, ?_⟩
    congr 1
    omega
  · intro i hi hin
    unfold inside at hin ⊢
    unfold flipD
    refine ⟨by omega, by omega, by omega⟩
end Go.Proofs.YtphjhegaplochaaGreatDoor
/- The reference's turned picture, and what it answers for pictures that are mirrored, flipped or turned; no condition. -/
set_option linter.unusedVariables false
namespace Go.Proofs.YtphjhegaplochaaGreatDoor
open Go.BigFrame
open Go.RowKit Go.Arr
def turnH (b : Int) (f : Nat → Int) (x y : Int) : Int := f (y + 12 * (b - 1 - x)).toNat
def turnV (b : Int) (f : Nat → Int) (i : Nat) : Int := turnH b f ((i : Int) % 12) ((i : Int) / 12)
theorem id_end (a b : Int) (ha : 1 ≤ a ∧ a ≤ 12) (hb : 1 ≤ b ∧ b ≤ 12) (h : Int → Int → Int) (val : Nat → Int) (hv : ∀ i, i < 144 → inside a b i → val i = h ((i : Int) % 12) ((i : Int) / 12)) (j : Nat) (hj : j < 144) :
    fold (fun _ => 0) (fun i => cellB i a b) (fun i => i) val 144 j = paint a b h j :=
  fold_paint a b ha hb (fun i => i) (fun i => i) val h a b (fun i hi hin => ⟨hin, hi, rfl, hv i hi hin⟩) (fun i hi hin => ⟨hin, hi, rfl⟩) j hj
structure PicAns where
  c : Int
  w : Int
  h : Int
  f : Nat → Int
def noPic (c : Int) : PicAns := ⟨c, 0, 0, fun _ => 0⟩
def mirA (a b : Int) (f : Nat → Int) : PicAns := if okPic a b f = true then ⟨0, a, b, paint a b (mirH a f)⟩ else noPic 1
def flipA (a b : Int) (f : Nat → Int) : PicAns := if okPic a b f = true then ⟨0, a, b, paint a b (flipH b f)⟩ else noPic 1
def turnA (a b : Int) (f : Nat → Int) : PicAns := if okPic a b f = true then ⟨0, b, a, paint b a (turnH b f)⟩ else noPic 1
theorem okPic_dims {a b : Int} {f : Nat → Int} (h : okPic a b f = true) : (1 ≤ a ∧ a ≤ 12) ∧ (1 ≤ b ∧ b ≤ 12) := by
  unfold okPic isSizeB at h
  simp only [Bool.and_eq_true] at h
  exact ⟨inB_t.1 h.1.1, inB_t.1 h.1.2⟩
theorem okPic_cell {a b : Int} {f : Nat → Int} (h : okPic a b f = true) (i : Nat) (hi : i < 144) : f i < 16 ∧ (inside a b i ∨ f i = 0) := by
  unfold okPic at h
  simp only [Bool.and_eq_true, List.all_eq_true] at h
  have h2 := h.2 i (by simpa using hi)
  unfold goodAt at h2
  simp only [Bool.and_eq_true, Bool.or_eq_true, decide_eq_true_iff] at h2
  exact ⟨h2.1, h2.2.imp (cellB_t hi).1 id⟩
end Go.Proofs.YtphjhegaplochaaGreatDoor
/- The field of a cell, as a list that grows; what is in it; no condition. -/
set_option linter.unusedVariables false
namespace Go.Proofs.YtphjhegaplochaaGreatDoor
open Go.BigFrame
open Go.RowKit Go.Arr
/-- the neighbours of a cell -/
def nbL (a b : Int) (c : Nat) : List Nat :=
  (if 12 ≤ c then [c - 12] else []) ++ (if 0 < c % 12 then [c - 1] else []) ++ (if ((c % 12 : Nat) : Int) + 1 < a then [c + 1] else []) ++ (if ((c / 12 : Nat) : Int) + 1 < b then [c + 12] else [])
theorem cellN_e {a b : Int} {c : Nat} : cellN a b c = true ↔ c < 144 ∧ ((c % 12 : Nat) : Int) < a ∧ ((c / 12 : Nat) : Int) < b := by
  unfold cellN cellB
  simp only [Bool.and_eq_true, decide_eq_true_eq, inB_t]
  have e1 : ((c % 12 : Nat) : Int) = (c : Int) % 12 := by omega
  have e2 : ((c / 12 : Nat) : Int) = (c : Int) / 12 := by omega
  rw [e1, e2]
  omega
theorem mem_ite {p : Prop} [Decidable p] {x y : Nat} : x ∈ (if p then [y] else []) ↔ p ∧ x = y := by split <;> simp_all
theorem len_ite {p : Prop} [Decidable p] {x : Nat} : (if p then [x] else []).length ≤ 1 := by split <;> simp
theorem nbL_e {a b : Int} {c k : Nat} : k ∈ nbL a b c ↔ (12 ≤ c ∧ k = c - 12) ∨ (0 < c % 12 ∧ k = c - 1) ∨ (((c % 12 : Nat) : Int) + 1 < a ∧ k = c + 1) ∨ (((c / 12 : Nat) : Int) + 1 < b ∧ k = c + 12) := by
  unfold nbL
  simp only [List.mem_append, mem_ite, or_assoc]
theorem nbL_cell {a b : Int} {c k : Nat} (ha : a ≤ 12) (hb : b ≤ 12) (hc : cellN a b c = true) (hk : k ∈ nbL a b c) : cellN a b k = true := by
  rw [cellN_e] at *
  rw [nbL_e] at hk
  omega
theorem nbL_len (a b : Int) (c : Nat) : (nbL a b c).length ≤ 4 := by
  unfold nbL
  simp only [List.length_append]
  have h1 := len_ite (p := 12 ≤ c) (x := c - 12)
  have h2 := len_ite (p := 0 < c % 12) (x := c - 1)
  have h3 := len_ite (p := ((c % 12 : Nat) : Int) + 1 < a) (x := c + 1)
  have h4 := len_ite (p := ((c / 12 : Nat) : Int) + 1 < b) (x := c + 12)
  omega
section
variable (f : Nat → Int) (z : Int)
def addQ (Q : List Nat) (k : Nat) : List Nat := if f k = z ∧ ¬ k ∈ Q then Q ++ [k] else Q
def addN (Q : List Nat) (l : List Nat) : List Nat := l.foldl (addQ f z) Q
end
section
variable {f : Nat → Int} {z : Int} {Q : List Nat} {k : Nat}
theorem addQ_t (h : f k = z) (h2 : ¬ k ∈ Q) : addQ f z Q k = Q ++ [k] := if_pos ⟨h, h2⟩
theorem addQ_c (h : ¬ f k = z) : addQ f z Q k = Q := if_neg fun h2 => h h2.1
theorem addQ_m (h : k ∈ Q) : addQ f z Q k = Q := if_neg fun h2 => h2.2 h
theorem addQ_pre : Q <+: addQ f z Q k := by
  unfold addQ
  split
  · exact List.prefix_append _ _
  · exact List.prefix_rfl
theorem addQ_mem {x : Nat} : x ∈ addQ f z Q k ↔ x ∈ Q ∨ (x = k ∧ f k = z) := by
  unfold addQ
  split
  · rename_i h; simp [h.1]
  · rename_i h
    constructor
    · exact Or.inl
    · rintro (h1 | ⟨rfl, h2⟩)
      · exact h1
      · by_cases hx : x ∈ Q
        · exact hx
        · exact absurd ⟨h2, hx⟩ h
theorem addQ_nodup (h : Q.Nodup) : (addQ f z Q k).Nodup := by
  unfold addQ
  split
  · rename_i h2
    rw [List.nodup_append]
    refine ⟨h, by simp, fun x hx y hy => ?_⟩
    simp at hy
    subst hy
    intro e
    subst e
    exact h2.2 hx
  · exact h
theorem addN_pre (l : List Nat) : ∀ Q, Q <+: addN f z Q l := by
  induction l with
  | nil => intro Q; exact List.prefix_rfl
  | cons x l ih => intro Q; exact addQ_pre.trans (ih _)
theorem addN_mem (l : List Nat) {x : Nat} : ∀ Q, x ∈ addN f z Q l ↔ x ∈ Q ∨ (x ∈ l ∧ f x = z) := by
  induction l with
  | nil => intro Q; simp [addN]
  | cons y l ih =>
    intro Q
    show x ∈ addN f z (addQ f z Q y) l ↔ _
    rw [ih, addQ_mem]
    constructor
    · rintro ((h | ⟨rfl, h⟩) | ⟨h, h2⟩)
      · exact Or.inl h
      · exact Or.inr ⟨by simp, h⟩
      · exact Or.inr ⟨by simp [h], h2⟩
    · rintro (h | ⟨h, h2⟩)
      · exact Or.inl (Or.inl h)
      · rcases List.mem_cons.1 h with rfl | h
        · exact Or.inl (Or.inr ⟨rfl, h2⟩)
        · exact Or.inr ⟨h, h2⟩
theorem addN_nodup (l : List Nat) : ∀ Q : List Nat, Q.Nodup → (addN f z Q l).Nodup := by
  induction l with
  | nil => intro Q h; exact h
  | cons x l ih => intro Q h; exact ih _ (addQ_nodup h)
theorem addN_take {l : List Nat} {j : Nat} (hj : j < l.length) : addN f z Q (l.take (j + 1)) = addQ f z (addN f z Q (l.take j)) (l.getD j 0) := by
  rw [List.take_add_one, List.getElem?_eq_getElem hj]
  unfold addN
  rw [List.foldl_append]
  simp [List.getD, hj]
end
/-- the list when so many have been looked at -/
def bfs (a b : Int) (f : Nat → Int) (c0 : Nat) : Nat → List Nat
  | 0 => [c0]
  | at_ + 1 => if at_ < (bfs a b f c0 at_).length then addN f (f c0) (bfs a b f c0 at_) (nbL a b ((bfs a b f c0 at_).getD at_ 0)) else bfs a b f c0 at_
def fldQ (a b : Int) (f : Nat → Int) (c0 : Nat) : List Nat := bfs a b f c0 144
section
variable {a b : Int} {f : Nat → Int} {c0 : Nat}
theorem bfs_s {i : Nat} (h : i < (bfs a b f c0 i).length) : bfs a b f c0 (i + 1) = addN f (f c0) (bfs a b f c0 i) (nbL a b ((bfs a b f c0 i).getD i 0)) := if_pos h
theorem bfs_pre (i m : Nat) : bfs a b f c0 i <+: bfs a b f c0 (i + m) := by
  induction m with
  | zero => exact List.prefix_rfl
  | succ m ih =>
    refine ih.trans ?_
    rw [← Nat.add_assoc, bfs]
    split
    · exact addN_pre _ _
    · exact List.prefix_rfl
theorem bfs_in (ha : a ≤ 12) (hb : b ≤ 12) (hc : cellN a b c0 = true) (i : Nat) : ∀ k ∈ bfs a b f c0 i, cellN a b k = true ∧ f k = f c0 := by
  induction i with
  | zero => intro k hk; simp [bfs] at hk; subst hk; exact ⟨hc, rfl⟩
  | succ i ih =>
    intro k hk
    rw [bfs] at hk
    split at hk
    · rename_i hl
      rcases (addN_mem _ _).1 hk with h | ⟨h, h2⟩
      · exact ih k h
      · refine ⟨nbL_cell ha hb (ih _ ?_).1 h, h2⟩
        rw [List.getD_eq_getElem?_getD, List.getElem?_eq_getElem hl]
        exact List.getElem_mem hl
    · exact ih k hk
theorem bfs_nodup (i : Nat) : (bfs a b f c0 i).Nodup := by
  induction i with
  | zero => simp [bfs]
  | succ i ih =>
    rw [bfs]
    split
    · exact addN_nodup _ _ ih
    · exact ih
theorem bfs_len (ha : a ≤ 12) (hb : b ≤ 12) (hc : cellN a b c0 = true) (i : Nat) : (bfs a b f c0 i).length ≤ 144 := by
  have h := (bfs_nodup (a := a) (b := b) (f := f) (c0 := c0) i).length_le_of_subset (l₂ := List.range 144) fun k hk => by
    have := (cellN_e.1 (bfs_in (f := f) ha hb hc i k hk).1).1
    simpa using this
  simpa using h
theorem bfs_end {i : Nat} (h : (bfs a b f c0 i).length ≤ i) (m : Nat) : bfs a b f c0 (i + m) = bfs a b f c0 i := by
  induction m with
  | zero => rfl
  | succ m ih => rw [← Nat.add_assoc, bfs, if_neg (by rw [ih]; omega), ih]
theorem fldQ_of {i : Nat} (hi : i ≤ 144) (h : (bfs a b f c0 i).length ≤ i) : fldQ a b f c0 = bfs a b f c0 i := by
  have := bfs_end h (144 - i)
  rwa [show i + (144 - i) = 144 by omega] at this
theorem bfs_closed (i : Nat) : ∀ j, j < i → j < (bfs a b f c0 i).length → ∀ k ∈ nbL a b ((bfs a b f c0 i).getD j 0), f k = f c0 → k ∈ bfs a b f c0 i := by
  induction i with
  | zero => intro j hj; omega
  | succ i ih =>
    intro j hj hl k hk hf
    have hpre := bfs_pre (a := a) (b := b) (f := f) (c0 := c0) i 1
    by_cases hjl : j < (bfs a b f c0 i).length
    · have hget : (bfs a b f c0 (i + 1)).getD j 0 = (bfs a b f c0 i).getD j 0 := by
        obtain ⟨t, ht⟩ := hpre
        rw [← ht, List.getD_eq_getElem?_getD, List.getElem?_append_left hjl, List.getD_eq_getElem?_getD]
      rw [hget] at hk
      by_cases hji : j < i
      · exact hpre.subset (ih j hji hjl k hk hf)
      · obtain rfl : j = i := by omega
        rw [bfs_s hjl, addN_mem]
        exact Or.inr ⟨hk, hf⟩
    · by_cases hil : i < (bfs a b f c0 i).length
      · omega
      · have he : bfs a b f c0 (i + 1) = bfs a b f c0 i := by rw [bfs, if_neg hil]
        rw [he] at hl
        omega
/-- what has a neighbour of its colour in the field is in the field -/
theorem fldQ_closed (ha : a ≤ 12) (hb : b ≤ 12) (hc : cellN a b c0 = true) {i k : Nat} (hi : i ∈ fldQ a b f c0) (hk : k ∈ nbL a b i) (hf : f k = f c0) : k ∈ fldQ a b f c0 := by
  obtain ⟨j, hj, rfl⟩ := List.getElem_of_mem hi
  have hlen := bfs_len (f := f) ha hb hc 144
  have hj2 : j < (bfs a b f c0 144).length := hj
  refine bfs_closed 144 j (by omega) hj2 k ?_ hf
  rw [List.getD_eq_getElem?_getD, List.getElem?_eq_getElem hj2]
  exact hk
theorem fldQ_in (ha : a ≤ 12) (hb : b ≤ 12) (hc : cellN a b c0 = true) : ∀ k ∈ fldQ a b f c0, cellN a b k = true ∧ f k = f c0 := bfs_in ha hb hc 144
end
/-- whether a number is in the field -/
def inF (Q : List Nat) (k : Nat) : Bool := decide (k ∈ Q)
theorem selG_inc {p : Nat → Bool} (n : Nat) : ∀ i j, i < j → j < selN p n → selG p n i < selG p n j := by
  induction n with
  | zero => intro i j _ h; simp [selN] at h
  | succ n ih =>
    intro i j hij hj
    cases hp : p n
    · rw [selN_f hp] at hj
      rw [selG_f hp]
      exact ih i j hij hj
    · rw [selN_t hp] at hj
      rw [selG_t hp]
      dsimp only
      by_cases e : j = selN p n
      · rw [if_pos e, if_neg (by omega)]
        exact (selG_lt (p := p) n i (by omega)).1
      · rw [if_neg e, if_neg (by omega)]
        exact ih i j hij (by omega)
theorem selG_onto {p : Nat → Bool} {n k : Nat} (hk : k < n) (hp : p k = true) : ∃ j, j < selN p n ∧ selG p n j = k := by
  refine ⟨selN p k, ?_, selG_at hk hp⟩
  have h := selN_mono (p := p) (k := k + 1) (m := n - (k + 1))
  rw [selN_t hp, show k + 1 + (n - (k + 1)) = n by omega] at h
  omega
def selL (p : Nat → Bool) (n : Nat) : List Int := (List.range (selN p n)).map fun j => (selG p n j : Int)
/-- the sorted list -/
theorem sort_field {Q : List Nat} (hn : Q.Nodup) (hq : ∀ k ∈ Q, k < 144) : ((Q.map fun k : Nat => (k : Int)).mergeSort fun x y => decide (x ≤ y)) = selL (inF Q) 144 := by
  refine List.Perm.eq_of_pairwise (le := fun x y : Int => x ≤ y) (fun x y _ _ h1 h2 => by omega) ?_ ?_ ?_
  · have h := List.pairwise_mergeSort (le := fun x y : Int => decide (x ≤ y)) (fun x y z h1 h2 => by simp at *; omega) (fun x y => by simp; omega) (Q.map fun k : Nat => (k : Int))
    exact h.imp (fun h => by simpa using h)
  · unfold selL
    rw [List.pairwise_map]
    refine List.Pairwise.imp_of_mem (R := fun i j : Nat => i < j) ?_ List.pairwise_lt_range
    intro i j hi hj hij
    have := selG_inc (p := inF Q) 144 i j hij (by simpa using hj)
    omega
  · refine (List.mergeSort_perm _ _).trans ?_
    unfold selL
    have hperm : Q.Perm ((List.range (selN (inF Q) 144)).map fun j => selG (inF Q) 144 j) := by
      rw [List.perm_ext_iff_of_nodup hn]
      · intro k
        constructor
        · intro hk
          obtain ⟨j, hj, he⟩ := selG_onto (p := inF Q) (hq k hk) (by unfold inF; simpa using hk)
          rw [List.mem_map]
          exact ⟨j, by simpa using hj, he⟩
        · intro hk
          rw [List.mem_map] at hk
          obtain ⟨j, hj, rfl⟩ := hk
          have := (selG_lt (p := inF Q) 144 j (by simpa using hj)).2
          exact of_decide_eq_true this
      · unfold List.Nodup
        rw [List.pairwise_map]
        refine List.Pairwise.imp_of_mem (R := fun i j : Nat => i < j) ?_ List.pairwise_lt_range
        intro i j hi hj hij
        have := selG_inc (p := inF Q) 144 i j hij (by simpa using hj)
        omega
    have h2 := hperm.map fun k : Nat => (k : Int)
    rw [List.map_map] at h2
    exact h2
end Go.Proofs.YtphjhegaplochaaGreatDoor
/- The picture that is drawn is valid; no condition. -/
set_option linter.unusedVariables false
namespace Go.Proofs.YtphjhegaplochaaGreatDoor
open Go.BigFrame
open Go.RowKit Go.Arr
/-- colours that fit, and none beside the cells -/
def GoodQ (a b : Int) (q : Nat → Int) : Prop := ∀ j, 0 ≤ q j ∧ q j < 16 ∧ (cellN a b j = false → q j = 0)
theorem GoodQ.ok {a b : Int} {q : Nat → Int} (ha : 1 ≤ a ∧ a ≤ 12) (hb : 1 ≤ b ∧ b ≤ 12) (h : GoodQ a b q) : okPic a b q = true := by
  refine okPic_of a b q ?_ fun j hj => ?_
  · unfold isSizeB
    rw [inB_t.2 ha, inB_t.2 hb]
    rfl
  · obtain ⟨h1, h2, h3⟩ := h j
    unfold goodAt
    cases hc : cellB (j : Int) a b
    · rw [h3 hc]; decide
    · simp; omega
theorem GoodQ.put {a b : Int} {q : Nat → Int} {i : Nat} {x : Int} (h : GoodQ a b q) (hi : cellN a b i = true) (hx : 0 ≤ x ∧ x < 16) : GoodQ a b (upd q i x) := by
  intro j
  unfold upd
  by_cases e : j = i
  · subst e; rw [if_pos rfl]; exact ⟨hx.1, hx.2, fun h2 => by rw [hi] at h2; cases h2⟩
  · rw [if_neg e]; exact h j
theorem Src.grown2 {W w : World} {g : Nat} {ad : Option Addr} {n c A q : Nat} {f : Nat → Int} (h : Src W g ad n c f A) (hg : W.grownBy w (some q)) (hq : q ≠ g) (hq2 : ∀ a, ad = some a → a.block ≠ q ∨ n = 0) : Src w g ad n c f A := by
  obtain ⟨⟨t, s, h1, h2, h3⟩, h4, h5⟩ := h
  refine ⟨⟨t, s, (grown_obj hg g (obj_lt h1) fun e => hq (Option.some.inj e).symm).trans h1, h2, h3⟩, ?_, h5⟩
  by_cases h0 : n = 0
  · exact ⟨ad, c, rfl, fun hp => absurd hp (by omega)⟩
  · exact h4.grown hg fun a' c' e => by
      simp only [Value.slice.injEq] at e
      intro e2
      rcases hq2 a' e.1 with h6 | h6
      · exact h6 (Option.some.inj e2)
      · exact h0 h6
theorem set_pic_h {n : Nat} {a b b2 : Int} {f : Nat → Int} : (pic n a b f).setIfInBounds 1 (.int .i8 b2) = pic n a b2 f := by simp [pic]
theorem l00From_any (ad : Option Addr) (n c : Nat) (f : Nat → Int) (W : World) (hs : Sl W (.slice ad n c) n 1 .u8 f) (had : ∀ a, ad = some a → a.block < W.heap.size) :
    Calls Tryz.prog 38 #[.slice ad n c] W fun e w' => e = .returned (.pointer (some ⟨W.heap.size, 0, none⟩)) ∧ Src w' W.heap.size ad n c f 0 ∧ New W w' := by
  go_enter Tryz.func38, Tryz.ntmps38
  go_wp2_with (fail)
  go_ret
  refine ⟨rfl, ⟨⟨0, 0, ?_, Nat.le_refl _, by omega, by omega⟩, hs.new ((New.refl _).alloc _), fun a e => ?_⟩, (New.refl _).alloc _⟩
  · exact obj_alloc_at _ _ _ rfl
  · have := had a e; omega
end Go.Proofs.YtphjhegaplochaaGreatDoor
/- The great law on nearest tones: nearest tones and their pictures, in plain words; no condition. -/
set_option linter.unusedVariables false
namespace Go.Proofs.YtphjhegaplochaaGreatDoor
open Go.BigFrame
open Go.RowKit Go.Arr
theorem far_sym (a b c d e f : Int) : far a b c d e f = far d e f a b c := by
  unfold far
  have h1 : (a - d) = -(d - a) := by omega
  have h2 : (b - e) = -(e - b) := by omega
  have h3 : (c - f) = -(f - c) := by omega
  rw [h1, h2, h3]
  simp only [Int.mul_neg, Int.neg_mul, Int.neg_neg]
theorem far_self (a b c : Int) : far a b c a b c = 0 := by unfold far; simp
theorem nearK_at {f : Nat → Int} {x y z : Int} (k : Nat) : (nearK f x y z k).2 = farE f x y z (nearK f x y z k).1 := by
  induction k with
  | zero => rfl
  | succ k ih =>
    rw [nearK]
    split
    · rfl
    · exact ih
theorem nearK_min {f : Nat → Int} {x y z : Int} {k i : Nat} (hi : i < k) : (nearK f x y z k).2 ≤ farE f x y z i := by
  induction k with
  | zero => omega
  | succ k ih =>
    rw [nearK]
    split
    · rename_i h
      dsimp only
      by_cases e : i = k
      · rw [e]; exact Int.le_refl _
      · have := ih (by omega); omega
    · rename_i h
      by_cases e : i = k
      · rw [e]; omega
      · exact ih (by omega)
theorem nearK_in {f : Nat → Int} {x y z : Int} {k : Nat} (hk : 0 < k) : (nearK f x y z k).1 < k := by
  induction k with
  | zero => omega
  | succ k ih =>
    rw [nearK]
    split
    · show k < k + 1; omega
    · by_cases e : k = 0
      · subst e; show 0 < 1; omega
      · have := ih (by omega); omega
theorem okPal_e {n : Nat} {f : Nat → Int} (h : okPal n f = true) : (1 ≤ n ∧ n ≤ 15) ∧ ∀ i j, j < i → i < n → alikePal f f i j = false := by
  have hp := okPal_pos h
  refine ⟨by omega, fun i j hij hi => ?_⟩
  cases hc : alikePal f f i j
  · rfl
  · rw [okPal_f hi (firstAt_f hij hc)] at h; cases h
theorem okPal_mk {n : Nat} {f : Nat → Int} (hn : 1 ≤ n ∧ n ≤ 15) (h : ∀ i j, j < i → i < n → alikePal f f i j = false) : okPal n f = true := by
  rw [okPal_t fun i hi => firstAt_t fun j hj => h i j hj hi, inB_t]
  omega
theorem picS_at (n : Nat) (fp fm : Nat → Int) (a b : Int) (k : Nat) : ∀ i, picS n fp fm a b k i = if i < k ∧ cellN a b i = true then nearC n fp fm i else 0 := by
  induction k with
  | zero => intro i; rw [if_neg (by omega)]; rfl
  | succ k ih =>
    intro i
    unfold picS
    cases hc : cellN a b k
    · rw [recS_f hc]
      show picS n fp fm a b k i = _
      rw [ih]
      by_cases e : i = k
      · rw [e, if_neg (by omega), if_neg (by rw [hc]; simp)]
      · by_cases e2 : i < k ∧ cellN a b i = true
        · rw [if_pos e2, if_pos ⟨by omega, e2.2⟩]
        · rw [if_neg e2, if_neg fun h => e2 ⟨by omega, h.2⟩]
    · rw [recS_t hc]
      show upd (picS n fp fm a b k) k (nearC n fp fm k) i = _
      unfold upd
      by_cases e : i = k
      · rw [if_pos e, e, if_pos ⟨by omega, hc⟩]
      · rw [if_neg e, ih]
        by_cases e2 : i < k ∧ cellN a b i = true
        · rw [if_pos e2, if_pos ⟨by omega, e2.2⟩]
        · rw [if_neg e2, if_neg fun h => e2 ⟨by omega, h.2⟩]
theorem picS_c {n : Nat} {fp fm : Nat → Int} {a b : Int} {i : Nat} (hc : cellN a b i = true) : picS n fp fm a b 144 i = nearC n fp fm i := by
  rw [picS_at, if_pos ⟨(cellN_e.1 hc).1, hc⟩]
theorem picS_z {n : Nat} {fp fm : Nat → Int} {a b : Int} {i : Nat} (hc : cellN a b i = false) : picS n fp fm a b 144 i = 0 := by
  rw [picS_at, if_neg (by rw [hc]; simp)]
theorem nearC_in {n : Nat} (fp fm : Nat → Int) (i : Nat) (hn : 0 < n) : 1 ≤ nearC n fp fm i ∧ nearC n fp fm i ≤ n := by
  have := nearK_in (f := fp) (x := fm (i * 3)) (y := fm (i * 3 + 1)) (z := fm (i * 3 + 2)) hn
  unfold nearC
  omega
theorem picS_good {n : Nat} (fp fm : Nat → Int) {a b : Int} (hn : 0 < n ∧ n ≤ 15) : GoodQ a b (picS n fp fm a b 144) := by
  intro j
  cases hc : cellN a b j
  · rw [picS_z hc]; exact ⟨by omega, by omega, fun _ => rfl⟩
  · have := nearC_in fp fm j hn.1
    rw [picS_c hc]; exact ⟨by omega, by omega, fun h => by cases h⟩
theorem picS_has {n : Nat} (fp fm : Nat → Int) {a b : Int} (hn : 0 < n) : hasC n (picS n fp fm a b 144) = true := by
  refine hasC_t fun j _ => decide_eq_true ?_
  cases hc : cellN a b j
  · rw [picS_z hc]; omega
  · have := nearC_in fp fm j hn
    rw [picS_c hc]; omega
/-- the nearest tones cost no more than any others -/
theorem cost_least {n : Nat} {fp fm R : Nat → Int} {a b : Int} (hn : 0 < n) (hR : ∀ i, cellN a b i = true → 1 ≤ R i ∧ R i ≤ n) (hz : ∀ i, cellN a b i = false → R i = 0) (k : Nat) : costS fm (picS n fp fm a b 144) fp k ≤ costS fm R fp k := by
  induction k with
  | zero => exact Int.le_refl _
  | succ k ih =>
    cases hc : cellN a b k
    · rw [costS_f (by rw [picS_z hc]; omega), costS_f (by rw [hz k hc]; omega)]; exact ih
    · have h1 := nearC_in fp fm k hn
      have h2 := hR k hc
      rw [costS_t (by rw [picS_c hc]; omega), costS_t (by omega)]
      have h3 : farI fm (picS n fp fm a b 144) fp k ≤ farI fm R fp k := by
        have h4 := nearK_min (f := fp) (x := fm (k * 3)) (y := fm (k * 3 + 1)) (z := fm (k * 3 + 2)) (k := n) (i := (R k).toNat - 1) (by omega)
        rw [nearK_at] at h4
        unfold farI
        rw [picS_c hc, far_sym, far_sym (fm (k * 3)) _ _ (fp (((R k).toNat - 1) * 3))]
        unfold nearC
        generalize (nearK fp (fm (k * 3)) (fm (k * 3 + 1)) (fm (k * 3 + 2)) n).1 = t at h4 ⊢
        rw [show ((t : Int) + 1).toNat - 1 = t by omega]
        exact h4
      omega
end Go.Proofs.YtphjhegaplochaaGreatDoor
/- The program's mirrored, flipped and turned pictures; no condition. -/
set_option linter.unusedVariables false
namespace Go.Proofs.YtphjhegaplochaaGreatDoor
open Go.BigFrame
open Go.RowKit Go.Arr
theorem enters {f : FuncId} {fn : Func} {c : Code} (hf : Tryz.prog.funcs[f]? = some fn) (hname : (fn.name == "runtime.NumGoroutine") = false) (hb : fn.body = some c) : ∀ (args : Array Value) (W : World), (callFunc f args).run Tryz.prog W = .ok (.enter f args) W := by
  intro args w
  have h1 : fn.name ≠ "runtime.NumGoroutine" := by simpa using hname
  simp [callFunc, hf, h1, hb, mark]
end Go.Proofs.YtphjhegaplochaaGreatDoor
/- A place of a picture: what is read and written there; no condition. -/
set_option linter.unusedVariables false
namespace Go.Proofs.YtphjhegaplochaaGreatDoor
open Go.BigFrame
open Go.RowKit Go.Arr
theorem new_same {P : Program} {f : FuncId} {args : Array Value} {w : World} {v : Value} (h : Calls P f args w fun e w' => e = .returned v ∧ w = w') : Calls P f args w fun e w' => e = .returned v ∧ New w w' :=
  h.mono fun _ _ ⟨he, hw⟩ => ⟨he, by subst hw; exact New.refl _⟩
theorem isCellB_t {x y a b : Int} (h : isCellB x y a b = true) : (0 ≤ x ∧ x < a) ∧ (0 ≤ y ∧ y < b) := by
  unfold isCellB at h
  rw [Bool.and_eq_true] at h
  have h1 := inB_t.1 h.1
  have h2 := inB_t.1 h.2
  omega
def colC (a b : Int) (f : Nat → Int) (x y : Int) : Int := if codeB (okPic a b f) (isCellB x y a b) = 0 then f (x + 12 * y).toNat else 0
theorem codeB_cases (p q : Bool) : (p = true ∧ q = true ∧ codeB p q = 0) ∨ (codeB p q = 1 ∧ p = false) ∨ (codeB p q = 2 ∧ p = true ∧ q = false) := by
  cases p <;> cases q <;> simp [codeB]
end Go.Proofs.YtphjhegaplochaaGreatDoor
/- A picture with another colour at a place; no condition. -/
set_option linter.unusedVariables false
namespace Go.Proofs.YtphjhegaplochaaGreatDoor
open Go.BigFrame
open Go.RowKit Go.Arr
@[go_sem] theorem codeB_tt : codeB true true = 0 := rfl
@[go_sem] theorem codeB_tf : codeB true false = 2 := rfl
@[go_sem] theorem codeB_f (q : Bool) : codeB false q = 1 := rfl
theorem has_v (a b : Int) (f : Nat → Int) (x y : Int) (ha : -128 ≤ a ∧ a ≤ 127) (hb : -128 ≤ b ∧ b ≤ 127) (v : Bool) (hv : isCellB x y a b = v) (w : World) :
    Calls Tryz.prog 63 #[.agg (pic 144 a b f), .int .i64 x, .int .i64 y] w fun e w' => e = .returned (.bool v) ∧ New w w' := hv ▸ has_any a b f x y ha hb w
theorem valid_v (a b : Int) (f : Nat → Int) (ha : -128 ≤ a ∧ a ≤ 127) (hb : -128 ≤ b ∧ b ≤ 127) (hf : ∀ i, 0 ≤ f i ∧ f i ≤ 255) (v : Bool) (hv : okPic a b f = v) (w : World) :
    Calls Tryz.prog 19 #[.agg (pic 144 a b f)] w fun e w' => e = .returned (.bool v) ∧ New w w' := hv ▸ validPicture_impl a b f ha hb hf w
theorem within_v (n lo hi : Int) (v : Bool) (hv : inB n lo hi = v) (w : World) : Calls Tryz.prog 61 #[.int .i64 n, .int .i64 lo, .int .i64 hi] w fun e w' => e = .returned (.bool v) ∧ New w w' := hv ▸ new_same (within_any n lo hi w)
def withQ (a b x y c : Int) : Bool := isCellB x y a b && inB c 0 15
def withA (a b : Int) (f : Nat → Int) (x y c : Int) : PicAns := if codeB (okPic a b f) (withQ a b x y c) = 0 then ⟨0, a, b, upd f (x + 12 * y).toNat c⟩ else noPic (codeB (okPic a b f) (withQ a b x y c))
theorem with_cases (a b : Int) (f : Nat → Int) (x y c : Int) :
    (okPic a b f = true ∧ isCellB x y a b = true ∧ inB c 0 15 = true ∧ withA a b f x y c = ⟨0, a, b, upd f (x + 12 * y).toNat c⟩ ∧ codeB (okPic a b f) (isCellB x y a b) = 0) ∨
    (isCellB x y a b = true ∧ inB c 0 15 = false ∧ withA a b f x y c = noPic 2 ∧ codeB (okPic a b f) (isCellB x y a b) = 0 ∧ okPic a b f = true) ∨
    (withA a b f x y c = noPic 1 ∧ codeB (okPic a b f) (isCellB x y a b) = 1 ∧ okPic a b f = false) ∨
    (withA a b f x y c = noPic 2 ∧ codeB (okPic a b f) (isCellB x y a b) = 2 ∧ okPic a b f = true ∧ isCellB x y a b = false) := by
  unfold withA withQ
  cases okPic a b f <;> cases isCellB x y a b <;> cases inB c 0 15 <;> simp [codeB]
end Go.Proofs.YtphjhegaplochaaGreatDoor
/- A picture is equal to itself; no condition. -/
set_option linter.unusedVariables false
namespace Go.Proofs.YtphjhegaplochaaGreatDoor
open Go.BigFrame
open Go.RowKit Go.Arr
end Go.Proofs.YtphjhegaplochaaGreatDoor
/- How many cells have each colour; no condition. -/
set_option linter.unusedVariables false
namespace Go.Proofs.YtphjhegaplochaaGreatDoor
open Go.BigFrame
open Go.RowKit Go.Arr
def cntU (T : Nat → Bool) (v : Nat → Nat) : Nat → Nat → Int
  | 0 => fun _ => 0
  | k + 1 => if T k = true then upd (cntU T v k) (v k) (cntU T v k (v k) + 1) else cntU T v k
theorem cntU_le (T : Nat → Bool) (v : Nat → Nat) (k j : Nat) : 0 ≤ cntU T v k j ∧ cntU T v k j ≤ k := by
  induction k generalizing j with
  | zero => unfold cntU; omega
  | succ k ih =>
    unfold cntU
    by_cases h : T k = true
    · rw [if_pos h]
      unfold upd
      have h1 := ih j
      have h2 := ih (v k)
      by_cases e : j = v k
      · rw [if_pos e]; omega
      · rw [if_neg e]; omega
    · rw [if_neg h]
      have h1 := ih j
      omega
theorem cntU_skip (T : Nat → Bool) (v : Nat → Nat) (k m : Nat) (h : ∀ i, k ≤ i → i < k + m → T i = false) : cntU T v (k + m) = cntU T v k := by
  induction m with
  | zero => rfl
  | succ m ih =>
    show cntU T v (k + m + 1) = _
    rw [cntU, if_neg (by rw [h (k + m) (by omega) (by omega)]; simp), ih (fun i h1 h2 => h i h1 (by omega))]
def cntF (a b : Int) (f : Nat → Int) : Nat → Nat → Int := cntU (fun i => cellB i a b) (fun i => (f i).toNat)
theorem cellB_iff {a b : Int} {x y : Nat} (hx : x < 12) (hxy : x + 12 * y < 144) : cellB (x + 12 * y : Nat) a b = true ↔ (x : Int) < a ∧ (y : Int) < b := by
  rw [cellB_t hxy]
  unfold inside
  omega
theorem cntF_step {a b : Int} {f : Nat → Int} {x y : Nat} (ha : a ≤ 12) (hb : b ≤ 12) (hx : (x : Int) < a) (hy : (y : Int) < b) : cntF a b f (x + 1 + 12 * y) = upd (cntF a b f (x + 12 * y)) (f (x + 12 * y)).toNat (cntF a b f (x + 12 * y) (f (x + 12 * y)).toNat + 1) := by
  have e : x + 1 + 12 * y = (x + 12 * y) + 1 := by omega
  rw [e]
  show cntU _ _ (x + 12 * y + 1) = _
  rw [cntU, if_pos ((cellB_iff (by omega) (by omega)).2 ⟨hx, hy⟩)]
  rfl
theorem cntF_row {a b : Int} {f : Nat → Int} {x y : Nat} (ha : 0 ≤ a ∧ a ≤ 12) (hb : b ≤ 12) (hx : (x : Int) = a) (hy : (y : Int) < b) : cntF a b f (0 + 12 * (y + 1)) = cntF a b f (x + 12 * y) := by
  have e : 0 + 12 * (y + 1) = (x + 12 * y) + (12 - x) := by omega
  rw [e]
  refine cntU_skip _ _ _ _ fun i h1 h2 => ?_
  have e2 : i = (i - 12 * y) + 12 * y := by omega
  cases hc : cellB (i : Nat) a b with
  | false => rfl
  | true =>
    have hc2 : cellB ((i - 12 * y) + 12 * y : Nat) a b = true := by rw [← e2]; exact hc
    have := (cellB_iff (x := i - 12 * y) (y := y) (a := a) (b := b) (by omega) (by omega)).1 hc2
    omega
theorem cntF_all {a b : Int} {f : Nat → Int} {y : Nat} (ha : a ≤ 12) (hb : 0 ≤ b ∧ b ≤ 12) (hy : (y : Int) = b) : cntF a b f 144 = cntF a b f (0 + 12 * y) := by
  have e : 144 = (0 + 12 * y) + (144 - 12 * y) := by omega
  conv => lhs; rw [e]
  refine cntU_skip _ _ _ _ fun i h1 h2 => ?_
  cases hc : cellB (i : Nat) a b with
  | false => rfl
  | true =>
    have hi := (cellB_t (by omega)).1 hc
    unfold inside at hi
    omega
def cntA (a b : Int) (f : Nat → Int) : Value := if okPic a b f = true then .tuple #[.agg (arr 16 .i64 (cntF a b f 144)), .int .i64 0] else .tuple #[.agg (arr 16 .i64 fun _ => 0), .int .i64 1]
set_option maxHeartbeats 2000000 in
set_option maxRecDepth 100000 in
theorem l01Counts_any (g : Nat) (a b : Int) (f : Nat → Int) (ha : -128 ≤ a ∧ a ≤ 127) (hb : -128 ≤ b ∧ b ≤ 127) (hf : ∀ i, 0 ≤ f i ∧ f i ≤ 255) (hok : okPic a b f = true) (w : World) (hg : obj w g = some (.cells (pic 144 a b f) 39)) :
    Calls Tryz.prog 66 #[.pointer (some ⟨g, 0, none⟩)] w fun e w' => e = .returned (.agg (arr 16 .i64 (cntF a b f 144))) ∧ New w w' := by
  have hgl := obj_lt hg
  have hok' := hide hok
  have hg' := hide hg
  clear hok hg
  go_enter Tryz.func66, Tryz.ntmps66
  go_wp2_with (fail)
  go_loopw [4] (fun i wr => ∃ k : Nat, k ≤ 144 ∧ i = .int .i64 k ∧ Hid (obj wr w.heap.size = some (.cells (arr 16 .i64 fun _ => 0) 96)) ∧ Hid (obj wr (w.heap.size + 1) = some (.cells (arr 16 .i64 (cntF a b f k)) 96)) ∧ New w wr ∧ w.heap.size + 2 ≤ wr.heap.size) (fun i _ => 144 - (intOf i).toNat)
  case atStart =>
    refine ⟨0, by omega, rfl, ?_, ?_, ?_, by simp⟩
    · show _ = _
      go_simp
    · show _ = _
      go_simp
      try rfl
    · repeat' (first | exact New.refl _ | refine New.alloc ?_ _ | refine New.drew ?_ | refine New.drewN ?_ _ | refine New.setRow ?_ (by omega) _ | refine New.setCell ?_ (by first | omega | (simp; done) | (simp; omega)) _)
  case round =>
    obtain ⟨k, hk, rfl, hz1, hq1, hn, hlw⟩ := hrel
    have hz := hz1.out
    have hq := hq1.out
    have hp : obj wr g = some (.cells (pic 144 a b f) 39) := (hn.objs _ hgl).trans hg'.out
    have k0 : w.heap.size < wr.heap.size := by omega
    have k1 : w.heap.size + 1 < wr.heap.size := by omega
    by_cases hlt : k < 144
    · cases hc : cellB k a b
      · have ht : cntF a b f (k + 1) = cntF a b f k := by
          show cntU _ _ (k + 1) = _
          rw [cntU, if_neg (by rw [hc]; simp)]
          rfl
        have ht := hide ht
        go_wp2_with (fail)
        refine (l01Is_any _ 39 a b _ _ (by omega) (by omega) _ hp).mono ?_
        rintro e w1 ⟨rfl, rfl⟩
        go_wp2_with (fail)
        go_roundw
        case rel => exact ⟨k + 1, by omega, by go_num, hz1, by show _ = _; rw [hq, ht.out], hn, hlw⟩
        case measure => simp [intOf]; omega
      · have hv := (okPic_cell hok'.out k hlt).1
        have hv0 := hf k
        have hlec := cntU_le (fun i => cellB i a b) (fun i => (f i).toNat) k (f k).toNat
        have hlec : 0 ≤ cntF a b f k (f k).toNat ∧ cntF a b f k (f k).toNat ≤ k := hlec
        have ht : cntF a b f (k + 1) = upd (cntF a b f k) (f k).toNat (cntF a b f k (f k).toNat + 1) := by
          show cntU _ _ (k + 1) = _
          rw [cntU, if_pos hc]
          rfl
        have ht := hide ht
        have q1 : (f k).toNat < 16 := by omega
        have q2 : -9223372036854775808 ≤ cntF a b f k (f k).toNat + 1 := by omega
        have q3 : cntF a b f k (f k).toNat + 1 ≤ 9223372036854775807 := by omega
        go_wp2_with (fail)
        refine (l01Is_any _ 39 a b _ _ (by omega) (by omega) _ hp).mono ?_
        rintro e w1 ⟨rfl, rfl⟩
        go_wp2_with (fail)
        go_roundw
        case rel =>
          refine ⟨k + 1, by omega, by go_num, ?_, ?_, ?_, ?_⟩
          · show _ = _
            rw [obj_setCell_other _ _ _ _ _ (by omega), hz]
          · show _ = _
            rw [obj_set_arr hq _ (f k).toNat _ (by first | rfl | omega), ht.out]
          · exact hn.setCell (by show w.heap.size ≤ w.heap.size + 1; omega) _
          · rw [World.size_setCell]; omega
        case measure => simp [intOf]; omega
    · obtain rfl : k = 144 := by omega
      go_wp2_with (fail)
      refine ret_cell agg96 rfl rfl (c := arr 16 .i64 (cntF a b f 144)) (t := 96) (fr := (0, 0)) (by go_simp) size_arr rfl ⟨rfl, ?_⟩
      exact hn.setRow (by omega) _
end Go.Proofs.YtphjhegaplochaaGreatDoor
/- The places in which two pictures differ: what the reference and the program return; no condition. -/
set_option linter.unusedVariables false
namespace Go.Proofs.YtphjhegaplochaaGreatDoor
open Go.BigFrame
open Go.RowKit Go.Arr
def difN (f g : Nat → Int) : Nat → Nat
  | 0 => 0
  | k + 1 => if f k = g k then difN f g k else difN f g k + 1
def difF (f g : Nat → Int) : Nat → Nat → Int
  | 0 => fun _ => 0
  | k + 1 => if f k = g k then difF f g k else upd (difF f g k) (difN f g k) k
theorem difN_le (f g : Nat → Int) (k : Nat) : difN f g k ≤ k := by
  induction k with
  | zero => simp [difN]
  | succ k ih => unfold difN; split <;> omega
def difC (a b : Int) (f : Nat → Int) (c d : Int) (g : Nat → Int) : Int := if okPic a b f = true ∧ okPic c d g = true then (if a = c ∧ b = d then 0 else 4) else 1
def difM (a b : Int) (f : Nat → Int) (c d : Int) (g : Nat → Int) : Nat := if difC a b f c d g = 0 then difN f g 144 else 0
theorem difM_le (a b : Int) (f : Nat → Int) (c d : Int) (g : Nat → Int) : difM a b f c d g ≤ 144 := by
  have := difN_le f g 144
  unfold difM
  split <;> omega
theorem row_app {w' : World} {base n g cap : Nat} {f : Nat → Int} {x : Int} (h : w'.ownsRow base 2 1 (.slice (some ⟨g, 0, none⟩) (n + 1) cap) (n + 1) (irow n .i64 f ++ [.int .i64 x])) : Row w' base (.slice (some ⟨g, 0, none⟩) (n + 1) cap) (n + 1) (upd f n x) := by
  unfold Row
  rw [← irow_snoc]
  exact h
theorem row_empty {W : World} {base g : Nat} {f : Nat → Int} (h : obj W g = some (.cells #[] 2)) (hb : base ≤ g) : Row W base (.slice (some ⟨g, 0, none⟩) 0 0) 0 f :=
  Row.of h hb (Nat.le_refl _) (by unfold maxLen; omega) rfl fun j hj => absurd hj (by omega)
theorem bne_f {x y : Int} (h : x = y) : (x != y) = false := by subst h; simp
theorem bne_t {x y : Int} (h : ¬ x = y) : (x != y) = true := by simp [h]
end Go.Proofs.YtphjhegaplochaaGreatDoor
