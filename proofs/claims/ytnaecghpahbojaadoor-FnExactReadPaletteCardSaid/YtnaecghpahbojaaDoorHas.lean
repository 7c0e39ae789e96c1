/- Whether a palette has the colours of a picture: the reference and the program answer alike; no condition. -/
import Derived.Test.YtnaecghpahbojaaDoorVpal
import Derived.Test.YtnaecghpahbojaaDoorValid
set_option linter.unusedVariables false
namespace Go.Proofs.YtnaecghpahbojaaDoor
open Go.BigFrame
open Go.RowKit Go.Arr
def hasC (n : Nat) (f : Nat → Int) : Bool := (List.range 144).all fun i => decide (f i ≤ n)
theorem hasC_t {n : Nat} {f : Nat → Int} (h : ∀ j, j < 144 → decide (f j ≤ n) = true) : hasC n f = true := List.all_eq_true.2 fun i hi => h i (by simpa using hi)
theorem hasC_f {n i : Nat} {f : Nat → Int} (hi : i < 144) (h : ¬ f i ≤ n) : hasC n f = false := List.all_eq_false.2 ⟨i, by simpa using hi, by simp [h]⟩
theorem hasC_e {n : Nat} {f : Nat → Int} (h : hasC n f = true) (i : Nat) (hi : i < 144) : f i ≤ n := of_decide_eq_true (List.all_eq_true.1 h i (by simpa using hi))
def hasV (a b : Int) (f : Nat → Int) (n : Nat) (fp : Nat → Int) : Int := if (okPic a b f && okPal n fp) = false then 1 else if hasC n f = false then 2 else 0
end Go.Proofs.YtnaecghpahbojaaDoor
