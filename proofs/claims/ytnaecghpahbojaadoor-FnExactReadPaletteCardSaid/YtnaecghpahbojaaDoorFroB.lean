/- A picture from a stock of tones: what the program returns; no condition. -/
import Derived.Test.YtnaecghpahbojaaDoorFroS
import Derived.Test.YtnaecghpahbojaaDoorImOf
import Derived.Test.YtnaecghpahbojaaDoorDraw
set_option linter.unusedVariables false
namespace Go.Proofs.YtnaecghpahbojaaDoor
open Go.BigFrame
open Go.RowKit Go.Arr
def badB (s n : Nat) (st : Nat → Int) : Bool := !(decide (s = n) && inStock s st)
theorem badB_t {s n : Nat} {st : Nat → Int} (h : badB s n st = true) : ¬ s = n ∨ inStock s st = false := by
  unfold badB at h
  by_cases h1 : s = n <;> cases h2 : inStock s st <;> simp_all
theorem badB_f {s n : Nat} {st : Nat → Int} (h : badB s n st = false) : s = n ∧ inStock s st = true := by
  unfold badB at h
  by_cases h1 : s = n <;> cases h2 : inStock s st <;> simp_all
theorem fsT (fm fp : Nat → Int) (n : Nat) (st : Nat → Int) (a b : Int) : recT (stepF fm fp n) (some (fun _ => 0, st)) (selG (cellN a b) 144) (selN (cellN a b) 144) = fsS fm fp n st a b 144 := rec_eq (Nat.le_refl _)
end Go.Proofs.YtnaecghpahbojaaDoor
