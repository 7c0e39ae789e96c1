/- The nearest tone of a palette: the reference and the program answer alike; no condition. -/
import Derived.Test.YtnaecghpahbojaaDoorVpal
import Derived.Test.YtnaecghpahbojaaDoorTone
set_option linter.unusedVariables false
namespace Go.Proofs.YtnaecghpahbojaaDoor
open Go.BigFrame
open Go.RowKit Go.Arr
def farE (f : Nat → Int) (x y z : Int) (k : Nat) : Int := far (f (k * 3)) (f (k * 3 + 1)) (f (k * 3 + 2)) x y z
def nearK (f : Nat → Int) (x y z : Int) : Nat → Nat × Int
  | 0 => (0, farE f x y z 0)
  | k + 1 => if farE f x y z k < (nearK f x y z k).2 then (k, farE f x y z k) else nearK f x y z k
theorem nearK_le (f : Nat → Int) (x y z : Int) (k : Nat) : (nearK f x y z k).1 ≤ k := by
  induction k with
  | zero => simp [nearK]
  | succ k ih => unfold nearK; split <;> (try dsimp only) <;> omega
theorem nearK_one (f : Nat → Int) (x y z : Int) : nearK f x y z 1 = (0, farE f x y z 0) := by
  simp [nearK]
theorem nearK_t {f : Nat → Int} {x y z : Int} {k at_ : Nat} {le : Int} (h : nearK f x y z k = (at_, le)) (hl : farE f x y z k < le) : nearK f x y z (k + 1) = (k, farE f x y z k) := by
  unfold nearK; rw [h]; exact if_pos hl
theorem nearK_f {f : Nat → Int} {x y z : Int} {k at_ : Nat} {le : Int} (h : nearK f x y z k = (at_, le)) (hl : ¬ farE f x y z k < le) : nearK f x y z (k + 1) = (at_, le) := by
  unfold nearK; rw [h]; exact if_neg hl
theorem okPal_pos {n : Nat} {f : Nat → Int} (h : okPal n f = true) : 0 < n ∧ n ≤ 15 := by
  unfold okPal at h
  rw [Bool.and_eq_true] at h
  have := inB_t.1 h.2
  omega
def nearV (n : Nat) (f : Nat → Int) (x y z : Int) : Int × Int × Int := if okPal n f = true then ((nearK f x y z n).1 + 1, (nearK f x y z n).2, 0) else (0, 0, 1)
end Go.Proofs.YtnaecghpahbojaaDoor
