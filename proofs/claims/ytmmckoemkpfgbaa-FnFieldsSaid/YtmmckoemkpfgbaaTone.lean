/- Tones: what the small functions on them return; no condition. -/
import Derived.Test.YtmmckoemkpfgbaaTy
import Derived.Test.YtmmckoemkpfgbaaOpen
import Derived.Test.YtmmckoemkpfgbaaNewQ
set_option linter.unusedVariables false
namespace Go.Proofs.Ytmmckoemkpfgbaa
open Go.BigFrame
open Go.RowKit Go.Arr
def bright (a b c : Int) : Int := 3 * a + 6 * b + c
def far (a b c d e f : Int) : Int := 3 * (a - d) * (a - d) + 6 * (b - e) * (b - e) + (c - f) * (c - f)
theorem mul_self_nonneg' (x : Int) : 0 ≤ x * x := by
  rcases Int.le_total 0 x with h | h
  · exact Int.mul_nonneg h h
  · have := Int.mul_nonneg (show 0 ≤ -x by omega) (show 0 ≤ -x by omega)
    rwa [Int.neg_mul_neg] at this
theorem sq_le (x : Int) (h0 : -255 ≤ x) (h1 : x ≤ 255) : 0 ≤ x * x ∧ x * x ≤ 65025 := by
  refine ⟨mul_self_nonneg' x, ?_⟩
  rcases Int.le_total 0 x with h | h
  · have := Int.mul_le_mul h1 h1 h (by omega)
    omega
  · have := Int.mul_le_mul (show -x ≤ 255 by omega) (show -x ≤ 255 by omega) (by omega) (by omega)
    rw [Int.neg_mul_neg] at this
    omega
theorem sq3 (k x : Int) (hk : 0 ≤ k ∧ k ≤ 6) (h0 : -255 ≤ x) (h1 : x ≤ 255) : 0 ≤ k * x * x ∧ k * x * x ≤ 390150 := by
  have h := sq_le x h0 h1
  rw [Int.mul_assoc]
  refine ⟨Int.mul_nonneg hk.1 h.1, ?_⟩
  have := Int.mul_le_mul hk.2 h.2 h.1 (by omega)
  omega
end Go.Proofs.Ytmmckoemkpfgbaa
