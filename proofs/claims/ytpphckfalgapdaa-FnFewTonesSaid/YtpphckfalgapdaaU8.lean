/- Pictures: what comes in is handed on, and two are held against each other; no condition. -/
import Derived.Test.YtpphckfalgapdaaU2
import Derived.Test.YtpphckfalgapdaaU1
import Derived.Test.YtpphckfalgapdaaU3
import Derived.Test.YtpphckfalgapdaaU4
import Derived.Test.YtpphckfalgapdaaU6
import Derived.Test.YtpphckfalgapdaaU7
set_option linter.unusedVariables false
namespace Go.Proofs.Ytpphckfalgapdaa
open Go.BigFrame
open Go.RowKit Go.Arr
end Go.Proofs.Ytpphckfalgapdaa
/- A picture that is painted cell by cell by a function, and two pictures that are equal; no condition. -/
set_option linter.unusedVariables false
namespace Go.Proofs.Ytpphckfalgapdaa
open Go.BigFrame
open Go.RowKit Go.Arr
def inside (a b : Int) (i : Nat) : Prop := (i : Int) % 12 < a ∧ (i : Int) / 12 < b
instance (a b : Int) (i : Nat) : Decidable (inside a b i) := by unfold inside; infer_instance
/-- the cells that a function of the place paints -/
def paint (a b : Int) (h : Int → Int → Int) (i : Nat) : Int := if inside a b i then h ((i : Int) % 12) ((i : Int) / 12) else 0
def paintU (a b : Int) (h : Int → Int → Int) (y x : Nat) (i : Nat) : Int := if inside a b i ∧ ((i : Int) / 12 < y ∨ (i : Int) / 12 = y ∧ (i : Int) % 12 < x) then h ((i : Int) % 12) ((i : Int) / 12) else 0
theorem paintU_zero (a b : Int) (h : Int → Int → Int) (i : Nat) : paintU a b h 0 0 i = 0 := by
  unfold paintU
  rw [if_neg]
  omega
theorem paintU_row (a b : Int) (h : Int → Int → Int) (y : Nat) (x : Nat) (hx : (x : Int) = a) (i : Nat) : paintU a b h y x i = paintU a b h (y + 1) 0 i := by
  unfold paintU inside
  have e : ((i : Int) % 12 < a ∧ (i : Int) / 12 < b) ∧ ((i : Int) / 12 < y ∨ (i : Int) / 12 = y ∧ (i : Int) % 12 < x) ↔ ((i : Int) % 12 < a ∧ (i : Int) / 12 < b) ∧ ((i : Int) / 12 < (y + 1 : Nat) ∨ (i : Int) / 12 = (y + 1 : Nat) ∧ (i : Int) % 12 < (0 : Nat)) := by omega
  by_cases h1 : ((i : Int) % 12 < a ∧ (i : Int) / 12 < b) ∧ ((i : Int) / 12 < y ∨ (i : Int) / 12 = y ∧ (i : Int) % 12 < x)
  · rw [if_pos h1, if_pos (e.1 h1)]
  · rw [if_neg h1, if_neg (fun h2 => h1 (e.2 h2))]
theorem paintU_step (a b : Int) (h : Int → Int → Int) (y x : Nat) (ha : a ≤ 12) (hx : (x : Int) < a) (hy : (y : Int) < b) : upd (paintU a b h y x) (x + 12 * y) (h x y) = paintU a b h y (x + 1) := by
  funext i
  unfold upd paintU inside
  by_cases hi : i = x + 12 * y
  · subst hi
    have e1 : (((x + 12 * y : Nat) : Int)) % 12 = x := by omega
    have e2 : (((x + 12 * y : Nat) : Int)) / 12 = y := by omega
    rw [if_pos rfl, if_pos (by rw [e1, e2]; omega), e1, e2]
  · rw [if_neg hi]
    have e : ((i : Int) % 12 < a ∧ (i : Int) / 12 < b) ∧ ((i : Int) / 12 < y ∨ (i : Int) / 12 = y ∧ (i : Int) % 12 < x) ↔ ((i : Int) % 12 < a ∧ (i : Int) / 12 < b) ∧ ((i : Int) / 12 < y ∨ (i : Int) / 12 = y ∧ (i : Int) % 12 < (x + 1 : Nat)) := by omega
    by_cases h1 : ((i : Int) % 12 < a ∧ (i : Int) / 12 < b) ∧ ((i : Int) / 12 < y ∨ (i : Int) / 12 = y ∧ (i : Int) % 12 < x)
    · rw [if_pos h1, if_pos (e.1 h1)]
    · rw [if_neg h1, if_neg (fun h2 => h1 (e.2 h2))]
theorem paintU_all (a b : Int) (h : Int → Int → Int) (y : Nat) (hy : (y : Int) = b) (i : Nat) : paintU a b h y 0 i = paint a b h i := by
  unfold paintU paint
  by_cases h1 : inside a b i
  · rw [if_pos h1, if_pos ⟨h1, by have h2 := h1; unfold inside at h2; omega⟩]
  · rw [if_neg h1, if_neg (fun h2 => h1 h2.1)]
end Go.Proofs.Ytpphckfalgapdaa
/- The reference's pictures in other places; no condition. -/
set_option linter.unusedVariables false
namespace Go.Proofs.Ytpphckfalgapdaa
open Go.BigFrame
open Go.RowKit Go.Arr
theorem cellB_t {i : Nat} {a b : Int} (hi : i < 144) : cellB i a b = true ↔ inside a b i := by
  unfold cellB inside
  have : inB i 0 143 = true := inB_t.2 (by omega)
  rw [this, Bool.true_and, Bool.and_eq_true, decide_eq_true_iff, decide_eq_true_iff]
/-- what is painted in the end, out of what is filled cell by cell -/
theorem fold_paint (a b : Int) (ha : 1 ≤ a ∧ a ≤ 12) (hb : 1 ≤ b ∧ b ≤ 12) (dst src : Nat → Nat) (val : Nat → Int) (h : Int → Int → Int) (a' b' : Int)
    (H1 : ∀ i, i < 144 → inside a b i → inside a' b' (dst i) ∧ dst i < 144 ∧ src (dst i) = i ∧ val i = h ((dst i : Int) % 12) ((dst i : Int) / 12))
    (H2 : ∀ j, j < 144 → inside a' b' j → inside a b (src j) ∧ src j < 144 ∧ dst (src j) = j) (j : Nat) (hj : j < 144) :
    fold (fun _ => 0) (fun i => cellB i a b) dst val 144 j = paint a' b' h j := by
  rw [fold_at _ _ dst src val 144 (fun i hi ht => (H1 i hi ((cellB_t hi).1 ht)).2.2.1)]
  unfold paint
  by_cases hc : inside a' b' j
  · obtain ⟨h1, h2, h3⟩ := H2 j hj hc
    obtain ⟨_, _, _, h7⟩ := H1 (src j) h2 h1
    rw [if_pos ⟨h2, (cellB_t h2).2 h1, h3⟩, if_pos hc, h7, h3]
  · rw [if_neg hc, if_neg]
    rintro ⟨h1, h2, h3⟩
    have h4 := (H1 (src j) h1 ((cellB_t h1).1 h2)).1
    rw [h3] at h4
    exact hc h4
def mirH (a : Int) (f : Nat → Int) (x y : Int) : Int := f (a - 1 - x + 12 * y).toNat
def mirD (a : Int) (i : Nat) : Nat := ((i : Int) - 2 * ((i : Int) % 12) + a).toNat - 1
theorem mir_end (a b : Int) (f : Nat → Int) (ha : 1 ≤ a ∧ a ≤ 12) (hb : 1 ≤ b ∧ b ≤ 12) (j : Nat) (hj : j < 144) :
    fold (fun _ => 0) (fun i => cellB i a b) (mirD a) f 144 j = paint a b (mirH a f) j := by
  refine fold_paint a b ha hb (mirD a) (mirD a) f (mirH a f) a b ?_ ?_ j hj
  · intro i hi hin
    unfold inside at hin ⊢
    unfold mirD mirH
    refine ⟨by omega, by omega, by omega, ?_⟩
    congr 1
    omega
  · intro i hi hin
    unfold inside at hin ⊢
    unfold mirD
    refine ⟨by omega, by omega, by omega⟩
def flipH (b : Int) (f : Nat → Int) (x y : Int) : Int := f (x + 12 * (b - 1 - y)).toNat
def flipD (b : Int) (i : Nat) : Nat := ((i : Int) % 12 + 12 * (b - 1 - (i : Int) / 12)).toNat
theorem flip_end (a b : Int) (f : Nat → Int) (ha : 1 ≤ a ∧ a ≤ 12) (hb : 1 ≤ b ∧ b ≤ 12) (j : Nat) (hj : j < 144) :
    fold (fun _ => 0) (fun i => cellB i a b) (flipD b) f 144 j = paint a b (flipH b f) j := by
  refine fold_paint a b ha hb (flipD b) (flipD b) f (flipH b f) a b ?_ ?_ j hj
  · intro i hi hin
    unfold inside at hin ⊢
    unfold flipD flipH
    refine ⟨by omega, by omega, by omega, ?_⟩
    congr 1
    omega
  · intro i hi hin
    unfold inside at hin ⊢
    unfold flipD
    refine ⟨by omega, by omega, by omega⟩
end Go.Proofs.Ytpphckfalgapdaa
/- The reference's turned picture, and what it answers for pictures that are mirrored, flipped or turned; no condition. -/
set_option linter.unusedVariables false
namespace Go.Proofs.Ytpphckfalgapdaa
open Go.BigFrame
open Go.RowKit Go.Arr
def turnH (b : Int) (f : Nat → Int) (x y : Int) : Int := f (y + 12 * (b - 1 - x)).toNat
def turnV (b : Int) (f : Nat → Int) (i : Nat) : Int := turnH b f ((i : Int) % 12) ((i : Int) / 12)
theorem id_end (a b : Int) (ha : 1 ≤ a ∧ a ≤ 12) (hb : 1 ≤ b ∧ b ≤ 12) (h : Int → Int → Int) (val : Nat → Int) (hv : ∀ i, i < 144 → inside a b i → val i = h ((i : Int) % 12) ((i : Int) / 12)) (j : Nat) (hj : j < 144) :
    fold (fun _ => 0) (fun i => cellB i a b) (fun i => i) val 144 j = paint a b h j :=
  fold_paint a b ha hb (fun i => i) (fun i => i) val h a b (fun i hi hin => ⟨hin, hi, rfl, hv i hi hin⟩) (fun i hi hin => ⟨hin, hi, rfl⟩) j hj
structure PicAns where
  c : Int
  w : Int
  h : Int
  f : Nat → Int
def noPic (c : Int) : PicAns := ⟨c, 0, 0, fun _ => 0⟩
def mirA (a b : Int) (f : Nat → Int) : PicAns := if okPic a b f = true then ⟨0, a, b, paint a b (mirH a f)⟩ else noPic 1
def flipA (a b : Int) (f : Nat → Int) : PicAns := if okPic a b f = true then ⟨0, a, b, paint a b (flipH b f)⟩ else noPic 1
def turnA (a b : Int) (f : Nat → Int) : PicAns := if okPic a b f = true then ⟨0, b, a, paint b a (turnH b f)⟩ else noPic 1
theorem okPic_dims {a b : Int} {f : Nat → Int} (h : okPic a b f = true) : (1 ≤ a ∧ a ≤ 12) ∧ (1 ≤ b ∧ b ≤ 12) := by
  unfold okPic isSizeB at h
  simp only [Bool.and_eq_true] at h
  exact ⟨inB_t.1 h.1.1, inB_t.1 h.1.2⟩
theorem okPic_cell {a b : Int} {f : Nat → Int} (h : okPic a b f = true) (i : Nat) (hi : i < 144) : f i < 16 ∧ (inside a b i ∨ f i = 0) := by
  unfold okPic at h
  simp only [Bool.and_eq_true, List.all_eq_true] at h
  have h2 := h.2 i (by simpa using hi)
  unfold goodAt at h2
  simp only [Bool.and_eq_true, Bool.or_eq_true, decide_eq_true_iff] at h2
  exact ⟨h2.1, h2.2.imp (cellB_t hi).1 id⟩
end Go.Proofs.Ytpphckfalgapdaa
/- The field of a cell, as a list that grows; what is in it; no condition. -/
set_option linter.unusedVariables false
namespace Go.Proofs.Ytpphckfalgapdaa
open Go.BigFrame
open Go.RowKit Go.Arr
/-- the neighbours of a cell -/
def nbL (a b : Int) (c : Nat) : List Nat :=
  (if 12 ≤ c then [c - 12] else []) ++ (if 0 < c % 12 then [c - 1] else []) ++ (if ((c % 12 : Nat) : Int) + 1 < a then [c + 1] else []) ++ (if ((c / 12 : Nat) : Int) + 1 < b then [c + 12] else [])
theorem cellN_e {a b : Int} {c : Nat} : cellN a b c = true ↔ c < 144 ∧ ((c % 12 : Nat) : Int) < a ∧ ((c / 12 : Nat) : Int) < b := by
  unfold cellN cellB
  simp only [Bool.and_eq_true, decide_eq_true_eq, inB_t]
  have e1 : ((c % 12 : Nat) : Int) = (c : Int) % 12 := by omega
  have e2 : ((c / 12 : Nat) : Int) = (c : Int) / 12 := by omega
  rw [e1, e2]
  omega
theorem mem_ite {p : Prop} [Decidable p] {x y : Nat} : x ∈ (if p then [y] else []) ↔ p ∧ x = y := by split <;> simp_all
theorem len_ite {p : Prop} [Decidable p] {x : Nat} : (if p then [x] else []).length ≤ 1 := by split <;> simp
theorem nbL_e {a b : Int} {c k : Nat} : k ∈ nbL a b c ↔ (12 ≤ c ∧ k = c - 12) ∨ (0 < c % 12 ∧ k = c - 1) ∨ (((c % 12 : Nat) : Int) + 1 < a ∧ k = c + 1) ∨ (((c / 12 : Nat) : Int) + 1 < b ∧ k = c + 12) := by
  unfold nbL
  simp only [List.mem_append, mem_ite, or_assoc]
theorem nbL_cell {a b : Int} {c k : Nat} (ha : a ≤ 12) (hb : b ≤ 12) (hc : cellN a b c = true) (hk : k ∈ nbL a b c) : cellN a b k = true := by
  rw [cellN_e] at *
  rw [nbL_e] at hk
  omega
theorem nbL_len (a b : Int) (c : Nat) : (nbL a b c).length ≤ 4 := by
  unfold nbL
  simp only [List.length_append]
  have h1 := len_ite (p := 12 ≤ c) (x := c - 12)
  have h2 := len_ite (p := 0 < c % 12) (x := c - 1)
  have h3 := len_ite (p := ((c % 12 : Nat) : Int) + 1 < a) (x := c + 1)
  have h4 := len_ite (p := ((c / 12 : Nat) : Int) + 1 < b) (x := c + 12)
  omega
section
variable (f : Nat → Int) (z : Int)
def addQ (Q : List Nat) (k : Nat) : List Nat := if f k = z ∧ ¬ k ∈ Q then Q ++ [k] else Q
def addN (Q : List Nat) (l : List Nat) : List Nat := l.foldl (addQ f z) Q
end
section
variable {f : Nat → Int} {z : Int} {Q : List Nat} {k : Nat}
theorem addQ_t (h : f k = z) (h2 : ¬ k ∈ Q) : addQ f z Q k = Q ++ [k] := if_pos ⟨h, h2⟩
theorem addQ_c (h : ¬ f k = z) : addQ f z Q k = Q := if_neg fun h2 => h h2.1
theorem addQ_m (h : k ∈ Q) : addQ f z Q k = Q := if_neg fun h2 => h2.2 h
theorem addQ_pre : Q <+: addQ f z Q k := by
  unfold addQ
  split
  · exact List.prefix_append _ _
  · exact List.prefix_rfl
theorem addQ_mem {x : Nat} : x ∈ addQ f z Q k ↔ x ∈ Q ∨ (x = k ∧ f k = z) := by
  unfold addQ
  split
  · rename_i h; simp [h.1]
  · rename_i h
    constructor
    · exact Or.inl
    · rintro (h1 | ⟨rfl, h2⟩)
      · exact h1
      · by_cases hx : x ∈ Q
        · exact hx
        · exact absurd ⟨h2, hx⟩ h
theorem addQ_nodup (h : Q.Nodup) : (addQ f z Q k).Nodup := by
  unfold addQ
  split
  · rename_i h2
    rw [List.nodup_append]
    refine ⟨h, by simp, fun x hx y hy => ?_⟩
    simp at hy
    subst hy
    intro e
    subst e
    exact h2.2 hx
  · exact h
theorem addN_pre (l : List Nat) : ∀ Q, Q <+: addN f z Q l := by
  induction l with
  | nil => intro Q; exact List.prefix_rfl
  | cons x l ih => intro Q; exact addQ_pre.trans (ih _)
theorem addN_mem (l : List Nat) {x : Nat} : ∀ Q, x ∈ addN f z Q l ↔ x ∈ Q ∨ (x ∈ l ∧ f x = z) := by
  induction l with
  | nil => intro Q; simp [addN]
  | cons y l ih =>
    intro Q
    show x ∈ addN f z (addQ f z Q y) l ↔ _
    rw [ih, addQ_mem]
    constructor
    · rintro ((h | ⟨rfl, h⟩) | ⟨h, h2⟩)
      · exact Or.inl h
      · exact Or.inr ⟨by simp, h⟩
      · exact Or.inr ⟨by simp [h], h2⟩
    · rintro (h | ⟨h, h2⟩)
      · exact Or.inl (Or.inl h)
      · rcases List.mem_cons.1 h with rfl | h
        · exact Or.inl (Or.inr ⟨rfl, h2⟩)
        · exact Or.inr ⟨h, h2⟩
theorem addN_nodup (l : List Nat) : ∀ Q : List Nat, Q.Nodup → (addN f z Q l).Nodup := by
  induction l with
  | nil => intro Q h; exact h
  | cons x l ih => intro Q h; exact ih _ (addQ_nodup h)
theorem addN_take {l : List Nat} {j : Nat} (hj : j < l.length) : addN f z Q (l.take (j + 1)) = addQ f z (addN f z Q (l.take j)) (l.getD j 0) := by
  rw [List.take_add_one, List.getElem?_eq_getElem hj]
  unfold addN
  rw [List.foldl_append]
  simp [List.getD, hj]
end
/-- the list when so many have been looked at -/
def bfs (a b : Int) (f : Nat → Int) (c0 : Nat) : Nat → List Nat
  | 0 => [c0]
  | at_ + 1 => if at_ < (bfs a b f c0 at_).length then addN f (f c0) (bfs a b f c0 at_) (nbL a b ((bfs a b f c0 at_).getD at_ 0)) else bfs a b f c0 at_
def fldQ (a b : Int) (f : Nat → Int) (c0 : Nat) : List Nat := bfs a b f c0 144
section
variable {a b : Int} {f : Nat → Int} {c0 : Nat}
theorem bfs_s {i : Nat} (h : i < (bfs a b f c0 i).length) : bfs a b f c0 (i + 1) = addN f (f c0) (bfs a b f c0 i) (nbL a b ((bfs a b f c0 i).getD i 0)) := if_pos h
theorem bfs_pre (i m : Nat) : bfs a b f c0 i <+: bfs a b f c0 (i + m) := by
  induction m with
  | zero => exact List.prefix_rfl
  | succ m ih =>
    refine ih.trans ?_
    rw [← Nat.add_assoc, bfs]
    split
    · exact addN_pre _ _
    · exact List.prefix_rfl
theorem bfs_in (ha : a ≤ 12) (hb : b ≤ 12) (hc : cellN a b c0 = true) (i : Nat) : ∀ k ∈ bfs a b f c0 i, cellN a b k = true ∧ f k = f c0 := by
  induction i with
  | zero => intro k hk; simp [bfs] at hk; subst hk; exact ⟨hc, rfl⟩
  | succ i ih =>
    intro k hk
    rw [bfs] at hk
    split at hk
    · rename_i hl
      rcases (addN_mem _ _).1 hk with h | ⟨h, h2⟩
      · exact ih k h
      · refine ⟨nbL_cell ha hb (ih _ ?_).1 h, h2⟩
        rw [List.getD_eq_getElem?_getD, List.getElem?_eq_getElem hl]
        exact List.getElem_mem hl
    · exact ih k hk
theorem bfs_nodup (i : Nat) : (bfs a b f c0 i).Nodup := by
  induction i with
  | zero => simp [bfs]
  | succ i ih =>
    rw [bfs]
    split
    · exact addN_nodup _ _ ih
    · exact ih
theorem bfs_len (ha : a ≤ 12) (hb : b ≤ 12) (hc : cellN a b c0 = true) (i : Nat) : (bfs a b f c0 i).length ≤ 144 := by
  have h := (bfs_nodup (a := a) (b := b) (f := f) (c0 := c0) i).length_le_of_subset (l₂ := List.range 144) fun k hk => by
    have := (cellN_e.1 (bfs_in (f := f) ha hb hc i k hk).1).1
    simpa using this
  simpa using h
theorem bfs_end {i : Nat} (h : (bfs a b f c0 i).length ≤ i) (m : Nat) : bfs a b f c0 (i + m) = bfs a b f c0 i := by
  induction m with
  | zero => rfl
  | succ m ih => rw [← Nat.add_assoc, bfs, if_neg (by rw [ih]; omega), ih]
theorem fldQ_of {i : Nat} (hi : i ≤ 144) (h : (bfs a b f c0 i).length ≤ i) : fldQ a b f c0 = bfs a b f c0 i := by
  have := bfs_end h (144 - i)
  rwa [show i + (144 - i) = 144 by omega] at this
theorem bfs_closed (i : Nat) : ∀ j, j < i → j < (bfs a b f c0 i).length → ∀ k ∈ nbL a b ((bfs a b f c0 i).getD j 0), f k = f c0 → k ∈ bfs a b f c0 i := by
  induction i with
  | zero => intro j hj; omega
  | succ i ih =>
    intro j hj hl k hk hf
    have hpre := bfs_pre (a := a) (b := b) (f := f) (c0 := c0) i 1
    by_cases hjl : j < (bfs a b f c0 i).length
    · have hget : (bfs a b f c0 (i + 1)).getD j 0 = (bfs a b f c0 i).getD j 0 := by
        obtain ⟨t, ht⟩ := hpre
        rw [← ht, List.getD_eq_getElem?_getD, List.getElem?_append_left hjl, List.getD_eq_getElem?_getD]
      rw [hget] at hk
      by_cases hji : j < i
      · exact hpre.subset (ih j hji hjl k hk hf)
      · obtain rfl : j = i := by omega
        rw [bfs_s hjl, addN_mem]
        exact Or.inr ⟨hk, hf⟩
    · by_cases hil : i < (bfs a b f c0 i).length
      · omega
      · have he : bfs a b f c0 (i + 1) = bfs a b f c0 i := by rw [bfs, if_neg hil]
        rw [he] at hl
        omega
/-- what has a neighbour of its colour in the field is in the field -/
theorem fldQ_closed (ha : a ≤ 12) (hb : b ≤ 12) (hc : cellN a b c0 = true) {i k : Nat} (hi : i ∈ fldQ a b f c0) (hk : k ∈ nbL a b i) (hf : f k = f c0) : k ∈ fldQ a b f c0 := by
  obtain ⟨j, hj, rfl⟩ := List.getElem_of_mem hi
  have hlen := bfs_len (f := f) ha hb hc 144
  have hj2 : j < (bfs a b f c0 144).length := hj
  refine bfs_closed 144 j (by omega) hj2 k ?_ hf
  rw [List.getD_eq_getElem?_getD, List.getElem?_eq_getElem hj2]
  exact hk
theorem fldQ_in (ha : a ≤ 12) (hb : b ≤ 12) (hc : cellN a b c0 = true) : ∀ k ∈ fldQ a b f c0, cellN a b k = true ∧ f k = f c0 := bfs_in ha hb hc 144
end
/-- whether a number is in the field -/
def inF (Q : List Nat) (k : Nat) : Bool := decide (k ∈ Q)
theorem selG_inc {p : Nat → Bool} (n : Nat) : ∀ i j, i < j → j < selN p n → selG p n i < selG p n j := by
  induction n with
  | zero => intro i j _ h; simp [selN] at h
  | succ n ih =>
    intro i j hij hj
    cases hp : p n
    · rw [selN_f hp] at hj
      rw [selG_f hp]
      exact ih i j hij hj
    · rw [selN_t hp] at hj
      rw [selG_t hp]
      dsimp only
      by_cases e : j = selN p n
      · rw [if_pos e, if_neg (by omega)]
        exact (selG_lt (p := p) n i (by omega)).1
      · rw [if_neg e, if_neg (by omega)]
        exact ih i j hij (by omega)
theorem selG_onto {p : Nat → Bool} {n k : Nat} (hk : k < n) (hp : p k = true) : ∃ j, j < selN p n ∧ selG p n j = k := by
  refine ⟨selN p k, ?_, selG_at hk hp⟩
  have h := selN_mono (p := p) (k := k + 1) (m := n - (k + 1))
  rw [selN_t hp, show k + 1 + (n - (k + 1)) = n by omega] at h
  omega
def selL (p : Nat → Bool) (n : Nat) : List Int := (List.range (selN p n)).map fun j => (selG p n j : Int)
/-- the sorted list -/
theorem sort_field {Q : List Nat} (hn : Q.Nodup) (hq : ∀ k ∈ Q, k < 144) : ((Q.map fun k : Nat => (k : Int)).mergeSort fun x y => decide (x ≤ y)) = selL (inF Q) 144 := by
  refine List.Perm.eq_of_pairwise (le := fun x y : Int => x ≤ y) (fun x y _ _ h1 h2 => by omega) ?_ ?_ ?_
  · have h := List.pairwise_mergeSort (le := fun x y : Int => decide (x ≤ y)) (fun x y z h1 h2 => by simp at *; omega) (fun x y => by simp; omega) (Q.map fun k : Nat => (k : Int))
    exact h.imp (fun h => by simpa using h)
  · unfold selL
    rw [List.pairwise_map]
    refine List.Pairwise.imp_of_mem (R := fun i j : Nat => i < j) ?_ List.pairwise_lt_range
    intro i j hi hj hij
    have := selG_inc (p := inF Q) 144 i j hij (by simpa using hj)
    omega
  · refine (List.mergeSort_perm _ _).trans ?_
    unfold selL
    have hperm : Q.Perm ((List.range (selN (inF Q) 144)).map fun j => selG (inF Q) 144 j) := by
      rw [List.perm_ext_iff_of_nodup hn]
      · intro k
        constructor
        · intro hk
          obtain ⟨j, hj, he⟩ := selG_onto (p := inF Q) (hq k hk) (by unfold inF; simpa using hk)
          rw [List.mem_map]
          exact ⟨j, by simpa using hj, he⟩
        · intro hk
          rw [List.mem_map] at hk
          obtain ⟨j, hj, rfl⟩ := hk
          have := (selG_lt (p := inF Q) 144 j (by simpa using hj)).2
          exact of_decide_eq_true this
      · unfold List.Nodup
        rw [List.pairwise_map]
        refine List.Pairwise.imp_of_mem (R := fun i j : Nat => i < j) ?_ List.pairwise_lt_range
        intro i j hi hj hij
        have := selG_inc (p := inF Q) 144 i j hij (by simpa using hj)
        omega
    have h2 := hperm.map fun k : Nat => (k : Int)
    rw [List.map_map] at h2
    exact h2
end Go.Proofs.Ytpphckfalgapdaa
/- The picture that is drawn is valid; no condition. -/
set_option linter.unusedVariables false
namespace Go.Proofs.Ytpphckfalgapdaa
open Go.BigFrame
open Go.RowKit Go.Arr
/-- colours that fit, and none beside the cells -/
def GoodQ (a b : Int) (q : Nat → Int) : Prop := ∀ j, 0 ≤ q j ∧ q j < 16 ∧ (cellN a b j = false → q j = 0)
theorem GoodQ.ok {a b : Int} {q : Nat → Int} (ha : 1 ≤ a ∧ a ≤ 12) (hb : 1 ≤ b ∧ b ≤ 12) (h : GoodQ a b q) : okPic a b q = true := by
  refine okPic_of a b q ?_ fun j hj => ?_
  · unfold isSizeB
    rw [inB_t.2 ha, inB_t.2 hb]
    rfl
  · obtain ⟨h1, h2, h3⟩ := h j
    unfold goodAt
    cases hc : cellB (j : Int) a b
    · rw [h3 hc]; decide
    · simp; omega
theorem GoodQ.put {a b : Int} {q : Nat → Int} {i : Nat} {x : Int} (h : GoodQ a b q) (hi : cellN a b i = true) (hx : 0 ≤ x ∧ x < 16) : GoodQ a b (upd q i x) := by
  intro j
  unfold upd
  by_cases e : j = i
  · subst e; rw [if_pos rfl]; exact ⟨hx.1, hx.2, fun h2 => by rw [hi] at h2; cases h2⟩
  · rw [if_neg e]; exact h j
theorem Src.grown2 {W w : World} {g : Nat} {ad : Option Addr} {n c A q : Nat} {f : Nat → Int} (h : Src W g ad n c f A) (hg : W.grownBy w (some q)) (hq : q ≠ g) (hq2 : ∀ a, ad = some a → a.block ≠ q ∨ n = 0) : Src w g ad n c f A := by
  obtain ⟨⟨t, s, h1, h2, h3⟩, h4, h5⟩ := h
  refine ⟨⟨t, s, (grown_obj hg g (obj_lt h1) fun e => hq (Option.some.inj e).symm).trans h1, h2, h3⟩, ?_, h5⟩
  by_cases h0 : n = 0
  · exact ⟨ad, c, rfl, fun hp => absurd hp (by omega)⟩
  · exact h4.grown hg fun a' c' e => by
      simp only [Value.slice.injEq] at e
      intro e2
      rcases hq2 a' e.1 with h6 | h6
      · exact h6 (Option.some.inj e2)
      · exact h0 h6
theorem set_pic_h {n : Nat} {a b b2 : Int} {f : Nat → Int} : (pic n a b f).setIfInBounds 1 (.int .i8 b2) = pic n a b2 f := by simp [pic]
theorem l00From_any (ad : Option Addr) (n c : Nat) (f : Nat → Int) (W : World) (hs : Sl W (.slice ad n c) n 1 .u8 f) (had : ∀ a, ad = some a → a.block < W.heap.size) :
    Calls Try.prog 23 #[.slice ad n c] W fun e w' => e = .returned (.pointer (some ⟨W.heap.size, 0, none⟩)) ∧ Src w' W.heap.size ad n c f 0 ∧ New W w' := by
  go_enter Try.func23, Try.ntmps23
  go_wp2_with (fail)
  go_ret
  refine ⟨rfl, ⟨⟨0, 0, ?_, Nat.le_refl _, by omega, by omega⟩, hs.new ((New.refl _).alloc _), fun a e => ?_⟩, (New.refl _).alloc _⟩
  · exact obj_alloc_at _ _ _ rfl
  · have := had a e; omega
end Go.Proofs.Ytpphckfalgapdaa
/- The tones, palettes and images that are drawn are valid; no condition. -/
set_option linter.unusedVariables false
namespace Go.Proofs.Ytpphckfalgapdaa
open Go.BigFrame
open Go.RowKit Go.Arr
theorem PRow.grown {W W' : World} {base n g : Nat} {v : Value} {f : Nat → Int} (h : PRow W base v n f) (hg : W.grownBy W' (some g)) (hgl : g < base) : PRow W' base v n f :=
  h.same fun b hb => grown_obj hg b (h.block b hb).2 fun e => by have := (h.block b hb).1; have := Option.some.inj e; omega
theorem u8_wrap (x : Int) : 0 ≤ x % 256 ∧ x % 256 ≤ 255 := by omega
theorem seg3 (F : Nat → Int) (x y z : Int) : seg (arr 3 .u8 F) 0 #[.int .u8 x, .int .u8 y, .int .u8 z] = #[.int .u8 x, .int .u8 y, .int .u8 z] := rfl
theorem one_any (g : Nat) (ad : Option Addr) (n c A : Nat) (f : Nat → Int) (m : Int) (hm : m ≤ 100000) (hA : A ≤ 900000) (hn : n ≤ 1000000) (hf : ∀ i, 0 ≤ f i ∧ f i ≤ 255) (W : World) (hs : Src W g ad n c f A) :
    Calls Try.prog 62 #[.pointer (some ⟨g, 0, none⟩), .int .i64 m] W fun e w' => ∃ x : Bool, e = .returned (.bool x) ∧ Src w' g ad n c f (A + 2) ∧ W.grownBy w' (some g) := by
  go_enter Try.func62, Try.ntmps62
  go_wp2_with (fail)
  refine (pick_any g ad n c A f m hm hA hn hf _ hs).mono ?_
  rintro e w1 ⟨x, rfl, hx, hs1, hg1⟩
  go_wp2_with (fail)
  go_ret
  exact ⟨_, rfl, hs1, hg1⟩
theorem among_any (g : Nat) (ad : Option Addr) (n c A : Nat) (f : Nat → Int) (hA : A ≤ 900000) (hn : n ≤ 1000000) (hf : ∀ i, 0 ≤ f i ∧ f i ≤ 255) (W : World) (hs : Src W g ad n c f A) (q : Nat) (z : Nat → Int) (hz : Sl W (.slice (some ⟨q, 0, none⟩) 5 5) 5 1 .i64 z) (hq : q ≠ g) :
    Calls Try.prog 81 #[.pointer (some ⟨g, 0, none⟩), .slice (some ⟨q, 0, none⟩) 5 5] W fun e w' => ∃ x : Int, e = .returned (.int .i64 x) ∧ Src w' g ad n c f (A + 2) ∧ W.grownBy w' (some g) := by
  go_enter Try.func81, Try.ntmps81
  go_wp2_with (fail)
  refine (pick_any g ad n c A f 5 (by omega) hA hn hf _ hs).mono ?_
  rintro e w1 ⟨x, rfl, hx, hs1, hg1⟩
  obtain ⟨k, rfl⟩ : ∃ k : Nat, x = k := ⟨x.toNat, by omega⟩
  have hk : k < 5 := by omega
  obtain ⟨gs, offs, curs, ts, frs, he, o5, hE⟩ := elInts hz (by omega)
  simp only [Option.some.injEq, Addr.mk.injEq, and_true] at he
  obtain ⟨rfl, rfl⟩ := he
  have p5 := (grown_step hg1 (obj_lt o5) hq).trans o5
  obtain ⟨l5, e5⟩ := hE k hk
  have y5 := obj_lt p5
  clear hx o5 hE hz hs
  try simp only [Nat.zero_add] at l5 e5
  go_wp2_with (fail)
  go_ret
  exact ⟨_, rfl, hs1, hg1⟩
set_option maxHeartbeats 4000000 in
set_option maxRecDepth 100000 in
theorem l02Tone_any (g : Nat) (ad : Option Addr) (n c A : Nat) (f : Nat → Int) (hA : A ≤ 800000) (hn : n ≤ 1000000) (hf : ∀ i, 0 ≤ f i ∧ f i ≤ 255) (W : World) (hs : Src W g ad n c f A) :
    Calls Try.prog 63 #[.pointer (some ⟨g, 0, none⟩)] W fun e w' => ∃ x y z : Int, e = .returned (.agg #[.int .u8 x, .int .u8 y, .int .u8 z]) ∧ ((0 ≤ x ∧ x ≤ 255) ∧ (0 ≤ y ∧ y ≤ 255) ∧ (0 ≤ z ∧ z ≤ 255)) ∧ Src w' g ad n c f (A + 8) ∧ W.grownBy w' (some g) := by
  have hgl := hs.lt
  have hadl : Hid (∀ a, ad = some a → a.block < W.heap.size ∨ n = 0) := fun a e => by
    subst e
    by_cases h0 : n = 0
    · exact Or.inr h0
    · obtain ⟨gq, offq, curq, tq, frq, he, oq, _⟩ := elBytes hs.2.1 (by omega)
      cases he
      exact Or.inl (obj_lt oq)
  have hf := hide hf
  go_enter Try.func63, Try.ntmps63
  go_wp2_with (fail)
  refine (one_any g ad n c A f 3 (by omega) (by omega) hn hf.out _ (hs.new ((New.refl _).alloc _))).mono ?_
  rintro e w1 ⟨x, rfl, hs1, hg1⟩
  have hl1 := hg1.size
  simp at hl1
  have hR : obj w1 W.heap.size = some (.cells (arr 3 .u8 fun _ => 0) 26) := (grown_step hg1 (by simp) (by omega)).trans (obj_alloc_at _ _ _ rfl)
  have hg1' : W.grownBy w1 (some g) := grown_over (new_grown ((New.refl _).alloc _)) hg1 fun q hq => Or.inr (Option.some.inj hq).symm
  have lR := obj_lt hR
  clear hs hg1
  cases x
  · go_wp2_with (fail)
    refine (pick_any g ad n c (A + 2) f 256 (by omega) (by omega) hn hf.out _ hs1).mono ?_
    rintro e w2 ⟨x, rfl, hx, hs2, hg2⟩
    go_wp2_with (fail)
    refine (pick_any g ad n c (A + 2 + 2) f 256 (by omega) (by omega) hn hf.out _ hs2).mono ?_
    rintro e w3 ⟨y, rfl, hy, hs3, hg3⟩
    go_wp2_with (fail)
    refine (pick_any g ad n c (A + 2 + 2 + 2) f 256 (by omega) (by omega) hn hf.out _ hs3).mono ?_
    rintro e w4 ⟨z, rfl, hz, hs4, hg4⟩
    have h2 := hg2.size
    have h3 := hg3.size
    have h4 := hg4.size
    have r4 := (grown_step hg4 (by omega) (by omega)).trans ((grown_step hg3 (by omega) (by omega)).trans ((grown_step hg2 lR (by omega)).trans hR))
    have g4 := ((hg1'.trans hg2).trans hg3).trans hg4
    have l4 := obj_lt r4
    clear hR hs1 hs2 hs3 hg1' hg2 hg3 hg4 lR
    go_wp2_with (fail)
    refine ret_cell agg26 rfl rfl (c := #[.int .u8 x, .int .u8 y, .int .u8 z]) (t := 26) (fr := (0, 0)) (by rw [obj_setRow_same, r4]; simp only [Option.map_some, reCells_cells, seg3]) rfl rfl ⟨x, y, z, rfl, by omega, (hs4.grown2 (setRow_grown (grown_refl _ _) _) (by omega) fun a' e => (hadl.out a' e).imp (fun h => by omega) id).more (by omega), grown_over g4 (setRow_grown (grown_refl _ (some W.heap.size)) _) fun q hq => Or.inl (by have := Option.some.inj hq; omega)⟩
  · go_wp2_with (fail)
    refine (among_any g ad n c (A + 2) f (by omega) hn hf.out _ (hs1.new ((New.refl _).alloc _)) w1.heap.size (fun j => if j = 0 then 0 else if j = 1 then 64 else if j = 2 then 128 else if j = 3 then 192 else 255) (Sl.of (obj_alloc_at _ _ _ rfl) fun i hi => by
      have : i = 0 ∨ i = 1 ∨ i = 2 ∨ i = 3 ∨ i = 4 := by omega
      rcases this with rfl | rfl | rfl | rfl | rfl <;> rfl) (by have := hs1.lt; omega)).mono ?_
    rintro e w2 ⟨x, rfl, hs2, hg2⟩
    have hx := u8_wrap x
    have h2 := hg2.size
    simp at h2
    have r2 := (grown_step hg2 (by simp; omega) (by omega)).trans ((obj_alloc_past _ _ _ lR).trans hR)
    have g2 := (hg1'.trans (new_grown ((New.refl _).alloc _))).trans hg2
    have l2 := obj_lt r2
    clear hR hs1 hg1' hg2 lR
    go_wp2_with (fail)
    refine ret_cell agg26 rfl rfl (c := #[.int .u8 (x % 256), .int .u8 (x % 256), .int .u8 (x % 256)]) (t := 26) (fr := (0, 0)) (by rw [obj_setRow_same, r2]; simp only [Option.map_some, reCells_cells, seg3]) rfl rfl ⟨_, _, _, rfl, ⟨hx, hx, hx⟩, (hs2.grown2 (setRow_grown (grown_refl _ _) _) (by omega) fun a' e => (hadl.out a' e).imp (fun h => by omega) id).more (by omega), grown_over g2 (setRow_grown (grown_refl _ (some W.heap.size)) _) fun q hq => Or.inl (by have := Option.some.inj hq; omega)⟩
/-- one tone more, behind m of them -/
def app3 (p : Nat → Int) (m : Nat) (x y z : Int) : Nat → Int := fun j => if j < m * 3 then p j else if j = m * 3 then x else if j = m * 3 + 1 then y else z
theorem app3_b {p : Nat → Int} {m : Nat} {x y z : Int} (hp : ∀ i, 0 ≤ p i ∧ p i ≤ 255) (hx : 0 ≤ x ∧ x ≤ 255) (hy : 0 ≤ y ∧ y ≤ 255) (hz : 0 ≤ z ∧ z ≤ 255) : ∀ i, 0 ≤ app3 p m x y z i ∧ app3 p m x y z i ≤ 255 := fun i => by
  unfold app3
  split
  · exact hp i
  · split
    · exact hx
    · split
      · exact hy
      · exact hz
theorem app3_0 (p : Nat → Int) (m : Nat) (x y z : Int) : app3 p m x y z (m * 3) = x := by unfold app3; rw [if_neg (by omega), if_pos rfl]
theorem app3_1 (p : Nat → Int) (m : Nat) (x y z : Int) : app3 p m x y z (m * 3 + 1) = y := by unfold app3; rw [if_neg (by omega), if_neg (by omega), if_pos rfl]
theorem app3_2 (p : Nat → Int) (m : Nat) (x y z : Int) : app3 p m x y z (m * 3 + 2) = z := by unfold app3; rw [if_neg (by omega), if_neg (by omega), if_neg (by omega)]
theorem app3_old (p : Nat → Int) (m : Nat) (x y z : Int) (j : Nat) (h : j < m * 3) : p j = app3 p m x y z j := by unfold app3; rw [if_pos h]
theorem okPal_one (f : Nat → Int) : okPal 1 f = true := by
  rw [okPal_t fun j hj => firstAt_t fun i hi => by omega]
  decide
set_option maxHeartbeats 4000000 in
set_option maxRecDepth 100000 in
theorem palDrawn_any (g : Nat) (ad : Option Addr) (n c A : Nat) (f : Nat → Int) (hA : A ≤ 700000) (hn : n ≤ 1000000) (hf : ∀ i, 0 ≤ f i ∧ f i ≤ 255) (W : World) (hs : Src W g ad n c f A) :
    Calls Try.prog 24 #[.pointer (some ⟨g, 0, none⟩), .int .i64 5] W fun e w' => ∃ (go co m : Nat) (p : Nat → Int), e = .returned (.slice (some ⟨go, 0, none⟩) m co) ∧ PRow w' W.heap.size (.slice (some ⟨go, 0, none⟩) m co) m p ∧ (1 ≤ m ∧ m ≤ 5) ∧ okPal m p = true ∧ (∀ i, 0 ≤ p i ∧ p i ≤ 255) ∧ Src w' g ad n c f (A + 50) ∧ W.grownBy w' (some g) := by
  have hgl := hs.lt
  have hadl : Hid (∀ a, ad = some a → a.block < W.heap.size ∨ n = 0) := fun a e => by
    subst e
    by_cases h0 : n = 0
    · exact Or.inr h0
    · obtain ⟨gq, offq, curq, tq, frq, he, oq, _⟩ := elBytes hs.2.1 (by omega)
      cases he
      exact Or.inl (obj_lt oq)
  have hf := hide hf
  go_enter Try.func24, Try.ntmps24
  go_wp2_with (fail)
  refine (l02Tone_any g ad n c A f (by omega) hn hf.out _ hs).mono ?_
  rintro e w1 ⟨x, y, z, rfl, hb, hs1, hg1⟩
  have h1 := hg1.size
  go_wp2_with (fail)
  refine (pick_any g ad n c (A + 8) f 5 (by omega) (by omega) hn hf.out _ (hs1.new ((New.refl _).alloc _))).mono ?_
  rintro e w2 ⟨k, rfl, hk, hs2, hg2⟩
  have h2 := hg2.size
  simp at h2
  have o2 : obj w2 w1.heap.size = some (.cells #[.int .u8 x, .int .u8 y, .int .u8 z] 26) := (grown_step hg2 (by simp) (by omega)).trans (obj_alloc_at _ _ _ rfl)
  have g2 := (hg1.trans (new_grown ((New.refl _).alloc _))).trans hg2
  have hr2 : PRow w2 W.heap.size (.slice (some ⟨w1.heap.size, 0, none⟩) 1 1) 1 (app3 (fun _ => 0) 0 x y z) := PRow.of o2 h1 (by omega) (by unfold maxLen; omega) rfl fun j hj => by
    have : j = 0 ∨ j = 1 ∨ j = 2 := by omega
    rcases this with rfl | rfl | rfl <;> rfl
  have hb2 := app3_b (p := fun _ => 0) (m := 0) (fun _ => ⟨Int.le_refl 0, by decide⟩) hb.1 hb.2.1 hb.2.2
  have ho2 := okPal_one (app3 (fun _ => 0) 0 x y z)
  obtain ⟨k, rfl⟩ : ∃ t : Nat, k = t := ⟨k.toNat, by omega⟩
  have hk5 : k < 5 := by omega
  clear hs hs1 hg1 hg2 hk o2 hb
  go_wp2_with (fail)
  go_loopw [5, 6] (fun v x wr => ∃ (i go co m : Nat) (p : Nat → Int), x = .int .i64 i ∧ i < 5 ∧ v = .slice (some ⟨go, 0, none⟩) m co ∧ PRow wr W.heap.size (.slice (some ⟨go, 0, none⟩) m co) m p ∧ 1 ≤ m ∧ m + i ≤ 5 ∧ okPal m p = true ∧ Hid (∀ i, 0 ≤ p i ∧ p i ≤ 255) ∧ Src wr g ad n c f (A + 50 - 8 * i) ∧ W.grownBy wr (some g)) (fun _ x _ => (intOf x).toNat)
  case atStart => exact ⟨k, _, _, 1, _, rfl, hk5, rfl, hr2, by omega, by omega, ho2, hb2, hs2.more (by omega), g2⟩
  case round =>
    clear hr2 ho2 hb2 hs2 g2
    obtain ⟨i, go, co, m, p, rfl, hi, rfl, hrow, hm1, hm5, hok, hpb, hsr, hgr⟩ := hrel
    by_cases hlt : 0 < i
    · have hpz := hgr.size
      obtain ⟨gq, cq, cuq, he, hbq, oq, _, hsq, heq⟩ := hrow.at (by omega)
      simp only [Value.slice.injEq, true_and] at he
      obtain ⟨he1, rfl⟩ := he
      have he2 := Option.some.inj he1
      simp only [Addr.mk.injEq, and_true] at he2
      subst he2
      have ro := obj_lt oq
      have heq := hide heq
      go_wp2_with (at_builtin; refine wpList_app slTones rfl _ _ rfl wr.heap.size (.slice (some ⟨wr.heap.size, 0, none⟩) 0 0) 0 [] rfl (prow_empty (f := p) (obj_alloc_at _ _ _ rfl) (Nat.le_refl _)) ⟨go, 0, none⟩ m co (irow (m * 3) .u8 p) rfl (by simp) (news_sl3 ((obj_alloc_past _ _ _ ro).trans oq) (fun j hj => by rw [Nat.zero_add]; exact heq.out j hj)) irow_one (by omega) (by unfold maxLen; omega) (by omega) (by simp) ?_)
      intro g0 cap0 w2 hown0 hg0 hat0 hlt0
      try simp only [Nat.zero_add, List.nil_append] at hown0
      try simp only [Nat.zero_add]
      have hr2 : PRow w2 wr.heap.size (.slice (some ⟨g0, 0, none⟩) m cap0) m p := hown0
      have hn2 : New wr w2 := grown_new ((New.refl wr).alloc _) hg0 fun b hb => by simp [Value.ownBlock] at hb; omega
      have hg0b := (hr2.block g0 rfl).1
      clear hown0 hg0 hat0
      go_wp2_with (fail)
      refine (l02Tone_any g ad n c (A + 50 - 8 * i) f (by omega) hn hf.out _ (hsr.new hn2)).mono ?_
      rintro e w3 ⟨x, y, z, rfl, hb, hs3, hg3⟩
      have hz3 := hg3.size
      have hz2 := hn2.le
      have hr3 : PRow w3 wr.heap.size (.slice (some ⟨g0, 0, none⟩) m cap0) m (app3 p m x y z) := (hr2.grown hg3 (by omega)).congr (app3_old p m x y z)
      have hrow3 := (hrow.new hn2).grown hg3 hgl
      have g3 := (hgr.trans (new_grown hn2)).trans hg3
      clear hr2 hg3 hsr hgr
      go_wp2_with (at_builtin; refine wpList_app slTones rfl _ _ rfl wr.heap.size _ _ _ rfl (hr3.new ((New.refl _).alloc _)) ⟨w3.heap.size, 0, none⟩ 1 1 [.int .u8 x, .int .u8 y, .int .u8 z] rfl rfl (news_new _ _ _ _ _ rfl) (by simp [Value.oneCell']) (by omega) (by unfold maxLen; omega) (by omega) (by simp; omega) ?_)
      intro g1 cap1 w4 hown1 hg1 hat1 hlt1
      have hr4 := prow_app hown1 (app3_0 p m x y z) (app3_1 p m x y z) (app3_2 p m x y z)
      have hg1' : (w3.alloc (Obj.cells #[.int .u8 x, .int .u8 y, .int .u8 z] 26)).grownBy w4 (some g0) := hg1
      have hs4 := Src.grown2 (hs3.new ((New.refl _).alloc _)) hg1' (by omega) fun a' e => (hadl.out a' e).imp (fun h => by omega) id
      have g4 := grown_over (g3.trans (new_grown ((New.refl _).alloc _))) hg1' fun q hq => Or.inl (by have := Option.some.inj hq; omega)
      have hrow4 : PRow w4 W.heap.size (.slice (some ⟨go, 0, none⟩) m co) m p := (hrow3.new ((New.refl _).alloc _)).same fun b hb => by
        simp [Value.ownBlock] at hb
        subst hb
        exact grown_step hg1' (by simp; omega) (by omega)
      have hb4 := hide (app3_b (m := m) hpb.out hb.1 hb.2.1 hb.2.2)
      clear hown1 hg1 hg1' hat1 hr3 hrow3 hs3 g3 hrow oq heq hb
      go_wp2_with (fail)
      refine (l02Palette_any _ (m + 1) cap1 _ (by omega) _ hr4.sl).mono ?_
      rintro e w5 ⟨rfl, hn5⟩
      have hr5 := (hr4.new hn5).lower (show W.heap.size ≤ wr.heap.size by omega)
      have hrow5 := hrow4.new hn5
      have hs5 := hs4.new hn5
      have g5 := g4.trans (new_grown hn5)
      clear hr4 hrow4 hs4 g4
      cases hok2 : okPal (m + 1) (app3 p m x y z)
      · go_wp2_with (fail)
        go_roundw
        case rel => exact ⟨i - 1, go, co, m, p, by go_num, by omega, rfl, hrow5, by omega, by omega, hok, hpb, hs5.more (by omega), g5⟩
        case measure => simp [intOf]; omega
      · have hokh := hide hok2
        go_wp2_with (fail)
        go_roundw
        case rel => exact ⟨i - 1, g1, cap1, m + 1, _, by go_num, by omega, rfl, hr5, by omega, by omega, hokh.out, hb4, hs5.more (by omega), g5⟩
        case measure => simp [intOf]; omega
    · obtain rfl : i = 0 := by omega
      go_wp2_with (fail)
      go_ret
      exact ⟨go, co, m, p, rfl, hrow, by omega, hok, hpb.out, hsr.more (by omega), hgr⟩
/-- tones that are bytes, and none beside the cells -/
def GoodI (a b : Int) (q : Nat → Int) : Prop := (∀ j, 0 ≤ q j ∧ q j ≤ 255) ∧ ∀ i, cellN a b i = false → q (i * 3) = 0 ∧ q (i * 3 + 1) = 0 ∧ q (i * 3 + 2) = 0
theorem GoodI.ok {a b : Int} {q : Nat → Int} (ha : 1 ≤ a ∧ a ≤ 12) (hb : 1 ≤ b ∧ b ≤ 12) (h : GoodI a b q) : okImg a b q = true := by
  refine okImg_of a b q ?_ fun j hj => ?_
  · unfold isSizeB
    rw [inB_t.2 ha, inB_t.2 hb]
    rfl
  · unfold goodTone
    cases hc : cellB (j : Int) a b
    · obtain ⟨h1, h2, h3⟩ := h.2 j hc
      rw [h1, h2, h3]
      rfl
    · rfl
theorem GoodI.put {a b : Int} {q : Nat → Int} {i : Nat} {x y z : Int} (h : GoodI a b q) (hi : cellN a b i = true) (hx : 0 ≤ x ∧ x ≤ 255) (hy : 0 ≤ y ∧ y ≤ 255) (hz : 0 ≤ z ∧ z ≤ 255) : GoodI a b (put3 q i x y z) := by
  refine ⟨fun j => ?_, fun k hk => ?_⟩
  · unfold put3
    split
    · exact hx
    · split
      · exact hy
      · split
        · exact hz
        · exact h.1 j
  · have hne : k ≠ i := fun e => by rw [e, hi] at hk; cases hk
    unfold put3
    rw [if_neg (by omega), if_neg (by omega), if_neg (by omega), if_neg (by omega), if_neg (by omega), if_neg (by omega), if_neg (by omega), if_neg (by omega), if_neg (by omega)]
    exact h.2 k hk
end Go.Proofs.Ytpphckfalgapdaa
