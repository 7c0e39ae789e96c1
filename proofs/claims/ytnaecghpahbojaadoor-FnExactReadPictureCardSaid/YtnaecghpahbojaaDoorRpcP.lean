/- A picture read from its text: in plain words; no condition. -/
import Derived.Test.YtnaecghpahbojaaDoorSplP
import Derived.Test.YtnaecghpahbojaaDoorPic
set_option linter.unusedVariables false
namespace Go.Proofs.YtnaecghpahbojaaDoor
open Go.BigFrame
open Go.RowKit Go.Arr
theorem pcs_snoc {c : UInt8} {u v : List UInt8} (h : c ∉ v) : pcs c (u ++ c :: v) = pcs c u ++ [v] := by
  induction u with
  | nil =>
    have e : pcs c (c :: v) = [] :: pcs c v := by rw [pcs, if_pos rfl]
    rw [List.nil_append, e, pcs_none h]
    rfl
  | cons b u ih =>
    rw [List.cons_append, pcs, ih]
    by_cases e : b = c
    · rw [if_pos e, pcs, if_pos e]; rfl
    · rw [if_neg e, pcs, if_neg e]
      have := pcs_pos c u
      cases hp : pcs c u with
      | nil => rw [hp] at this; simp at this
      | cons p ps => rfl
theorem last_cut {c : UInt8} {l : List UInt8} (h : c ∈ l) : ∃ u v, l = u ++ c :: v ∧ c ∉ v := by
  induction l with
  | nil => simp at h
  | cons b l ih =>
    by_cases e : c ∈ l
    · obtain ⟨u, v, h1, h2⟩ := ih e
      exact ⟨b :: u, v, by rw [h1]; rfl, h2⟩
    · rcases List.mem_cons.1 h with h | h
      · exact ⟨[], l, by rw [h]; rfl, e⟩
      · exact absurd h e
/-- the number of a letter, or -1 -/
def letV (x : Int) : Int := if x = 46 then 0 else if 97 ≤ x ∧ x ≤ 111 then x - 96 else -1
theorem letV_b (x : Int) : -1 ≤ letV x ∧ letV x ≤ 15 := by
  unfold letV
  split
  · omega
  · split <;> omega
/-- a text of lines: its rows, whether it ends as it should -/
def rwS (s : ByteArray) : List (List UInt8) := pcs 10 s.data.toList.dropLast
def endB (s : ByteArray) : Bool := s.data.toList.getLast? == some 10
def rbt (R : List (List UInt8)) (j : Nat) : Int := bAt ⟨(R.getD (j / 12) []).toArray⟩ (j % 12)
def widN (s : ByteArray) : Nat := ((rwS s).getD 0 []).length
def okRow (R : List (List UInt8)) (w y : Nat) : Bool := decide ((R.getD y []).length = w) && (List.range w).all fun x => decide (0 ≤ letV (rbt R (x + 12 * y)))
def rdO (s : ByteArray) : Bool := endB s && (isSizeB (widN s) (rwS s).length && (List.range (rwS s).length).all (okRow (rwS s) (widN s)))
/-- the cells of y rows and x places of the next one -/
def rdU (R : List (List UInt8)) (w y x : Nat) (j : Nat) : Int := if (j / 12 < y ∧ j % 12 < w) ∨ (j / 12 = y ∧ j % 12 < x) then letV (rbt R j) else 0
def rdA (s : ByteArray) : Array Value := if rdO s = true then pic 144 (widN s) (rwS s).length (rdU (rwS s) (widN s) (rwS s).length 0) else pic 144 0 0 fun _ => 0
def rdC (s : ByteArray) : Int := if rdO s = true then 0 else 5
theorem rdU_row {R : List (List UInt8)} {w y j : Nat} : rdU R w y w j = rdU R w (y + 1) 0 j := by
  unfold rdU
  by_cases h : (j / 12 < y ∧ j % 12 < w) ∨ (j / 12 = y ∧ j % 12 < w)
  · rw [if_pos h, if_pos (by omega)]
  · rw [if_neg h, if_neg (by omega)]
theorem rdU_put {R : List (List UInt8)} {w y x : Nat} (hx : x < 12) {k : Int} (hk : letV (rbt R (x + 12 * y)) = k) (j : Nat) : upd (rdU R w y x) (x + 12 * y) k j = rdU R w y (x + 1) j := by
  unfold upd
  by_cases e : j = x + 12 * y
  · subst e
    rw [if_pos rfl]
    unfold rdU
    rw [if_pos (by omega), hk]
  · rw [if_neg e]
    unfold rdU
    by_cases h : (j / 12 < y ∧ j % 12 < w) ∨ (j / 12 = y ∧ j % 12 < x)
    · rw [if_pos h, if_pos (by omega)]
    · rw [if_neg h, if_neg (by omega)]
theorem rdU_dot {R : List (List UInt8)} {w y x : Nat} (hx : x < 12) (hk : letV (rbt R (x + 12 * y)) = 0) (j : Nat) : rdU R w y x j = rdU R w y (x + 1) j := by
  unfold rdU
  by_cases e : j = x + 12 * y
  · subst e
    rw [if_pos (show ((x + 12 * y) / 12 < y ∧ (x + 12 * y) % 12 < w) ∨ ((x + 12 * y) / 12 = y ∧ (x + 12 * y) % 12 < x + 1) by omega), hk]
    split <;> rfl
  · by_cases h : (j / 12 < y ∧ j % 12 < w) ∨ (j / 12 = y ∧ j % 12 < x)
    · rw [if_pos h, if_pos (by omega)]
    · rw [if_neg h, if_neg (by omega)]
section
variable {s : ByteArray}
theorem rdC_t (h : rdO s = true) : rdC s = 0 := if_pos h
theorem rdC_f (h : rdO s = false) : rdC s = 5 := if_neg (by rw [h]; simp)
theorem rdA_t (h : rdO s = true) : rdA s = pic 144 (widN s) (rwS s).length (rdU (rwS s) (widN s) (rwS s).length 0) := if_pos h
theorem rdA_f (h : rdO s = false) : rdA s = pic 144 0 0 fun _ => 0 := if_neg (by rw [h]; simp)
theorem rdO_end (h : endB s = false) : rdO s = false := by unfold rdO; rw [h]; rfl
theorem rdO_size (h : isSizeB (widN s) (rwS s).length = false) : rdO s = false := by unfold rdO; rw [h, Bool.false_and, Bool.and_false]
theorem rdO_row {y : Nat} (hy : y < (rwS s).length) (h : okRow (rwS s) (widN s) y = false) : rdO s = false := by
  have : (List.range (rwS s).length).all (okRow (rwS s) (widN s)) = false := by rw [List.all_eq_false]; exact ⟨y, by simpa using hy, by rw [h]; simp⟩
  unfold rdO
  rw [this, Bool.and_false, Bool.and_false]
theorem rdO_ok (h1 : endB s = true) (h2 : isSizeB (widN s) (rwS s).length = true) (h : ∀ y, y < (rwS s).length → okRow (rwS s) (widN s) y = true) : rdO s = true := by
  unfold rdO
  rw [h1, h2, List.all_eq_true.2 (fun y hy => h y (by simpa using hy))]
  rfl
end
theorem okRow_len {R : List (List UInt8)} {w y : Nat} (h : (R.getD y []).length ≠ w) : okRow R w y = false := by
  unfold okRow; rw [decide_eq_false h, Bool.false_and]
theorem okRow_bt {R : List (List UInt8)} {w y x : Nat} (hx : x < w) (h : letV (rbt R (x + 12 * y)) < 0) : okRow R w y = false := by
  unfold okRow
  rw [Bool.and_eq_false_iff]
  right
  rw [List.all_eq_false]
  exact ⟨x, by simpa using hx, by simpa using h⟩
theorem okRow_t {R : List (List UInt8)} {w y : Nat} (h1 : (R.getD y []).length = w) (h : ∀ x, x < w → 0 ≤ letV (rbt R (x + 12 * y))) : okRow R w y = true := by
  unfold okRow
  rw [decide_eq_true h1, Bool.true_and, List.all_eq_true]
  exact fun x hx => decide_eq_true (h x (by simpa using hx))
/-- what the lines are, seen from the rows -/
theorem lines_t {s : ByteArray} (h : endB s = true) : pcs 10 s.data.toList = rwS s ++ [[]] := by
  unfold endB at h
  have h2 : s.data.toList.getLast? = some 10 := by simpa using h
  have hne : s.data.toList ≠ [] := fun e => by rw [e] at h2; simp at h2
  have e : s.data.toList = s.data.toList.dropLast ++ [10] := by
    have := List.dropLast_concat_getLast hne
    rw [List.getLast?_eq_some_getLast hne] at h2
    rw [Option.some.inj h2] at this
    exact this.symm
  conv => lhs; rw [e]
  rw [pcs_snoc (by simp)]
  rfl
theorem lines_f {s : ByteArray} (h : endB s = false) : (pcs 10 s.data.toList).length = 1 ∨ ∃ v ls, pcs 10 s.data.toList = ls ++ [v] ∧ v ≠ [] := by
  by_cases hc : (10 : UInt8) ∈ s.data.toList
  · obtain ⟨u, v, h1, h2⟩ := last_cut hc
    right
    refine ⟨v, pcs 10 u, by rw [h1, pcs_snoc h2], fun e => ?_⟩
    subst e
    unfold endB at h
    rw [h1] at h
    simp at h
  · left
    rw [pcs_none hc]
    rfl
end Go.Proofs.YtnaecghpahbojaaDoor
