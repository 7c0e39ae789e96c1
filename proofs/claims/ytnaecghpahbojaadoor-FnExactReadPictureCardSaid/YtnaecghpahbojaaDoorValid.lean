/- Which pictures are valid: the reference and the program answer alike; no condition. -/
import Derived.Test.YtnaecghpahbojaaDoorSmall
set_option linter.unusedVariables false
namespace Go.Proofs.YtnaecghpahbojaaDoor
open Go.BigFrame
open Go.RowKit Go.Arr
def cellB (i : Int) (a b : Int) : Bool := inB i 0 143 && (decide (i % 12 < a) && decide (i / 12 < b))
def goodAt (a b : Int) (f : Nat → Int) (i : Nat) : Bool := decide (f i < 16) && (cellB i a b || decide (f i = 0))
def goodUpto (a b : Int) (f : Nat → Int) (n : Nat) : Prop := ∀ j, j < n → goodAt a b f j = true
def okPic (a b : Int) (f : Nat → Int) : Bool := isSizeB a b && (List.range 144).all (goodAt a b f)
theorem okPic_of (a b : Int) (f : Nat → Int) (h1 : isSizeB a b = true) (h2 : goodUpto a b f 144) : okPic a b f = true := by
  unfold okPic
  rw [h1, Bool.true_and, List.all_eq_true]
  intro i hi
  exact h2 i (by simpa using hi)
theorem okPic_not (a b : Int) (f : Nat → Int) (i : Nat) (hi : i < 144) (h : goodAt a b f i = false) : okPic a b f = false := by
  unfold okPic
  have : (List.range 144).all (goodAt a b f) = false := by
    rw [List.all_eq_false]
    exact ⟨i, by simpa using hi, by simp [h]⟩
  rw [this, Bool.and_false]
theorem okPic_size (a b : Int) (f : Nat → Int) (h : isSizeB a b = false) : okPic a b f = false := by
  unfold okPic; rw [h, Bool.false_and]
theorem goodUpto_succ {a b : Int} {f : Nat → Int} {k : Nat} (h : goodUpto a b f k) (hk : goodAt a b f k = true) : goodUpto a b f (k + 1) := by
  intro j hj
  rcases Nat.lt_succ_iff_lt_or_eq.1 hj with h1 | rfl
  · exact h j h1
  · exact hk
theorem cell_isCell (k : Nat) (hk : k < 144) (a b : Int) : isCellB ((k : Int) % 12) ((k : Int) / 12) a b = cellB k a b := by
  unfold isCellB cellB
  have e1 : inB ((k : Int) % 12) 0 (a - 1) = decide ((k : Int) % 12 < a) := by unfold inB; rw [decide_eq_decide]; omega
  have e2 : inB ((k : Int) / 12) 0 (b - 1) = decide ((k : Int) / 12 < b) := by unfold inB; rw [decide_eq_decide]; omega
  have e3 : inB k 0 143 = true := inB_t.2 (by omega)
  rw [e1, e2, e3, Bool.true_and]
end Go.Proofs.YtnaecghpahbojaaDoor
