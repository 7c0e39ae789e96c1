/- A place of a picture: what is read and written there; no condition. -/
import Derived.Test.YtpofhbdnjecfjaaImplA
set_option linter.unusedVariables false
namespace Go.Proofs.Ytpofhbdnjecfjaa
open Go.BigFrame
open Go.RowKit Go.Arr
theorem new_same {P : Program} {f : FuncId} {args : Array Value} {w : World} {v : Value} (h : Calls P f args w fun e w' => e = .returned v ∧ w = w') : Calls P f args w fun e w' => e = .returned v ∧ New w w' :=
  h.mono fun _ _ ⟨he, hw⟩ => ⟨he, by subst hw; exact New.refl _⟩
theorem isCellB_t {x y a b : Int} (h : isCellB x y a b = true) : (0 ≤ x ∧ x < a) ∧ (0 ≤ y ∧ y < b) := by
  unfold isCellB at h
  rw [Bool.and_eq_true] at h
  have h1 := inB_t.1 h.1
  have h2 := inB_t.1 h.2
  omega
def colC (a b : Int) (f : Nat → Int) (x y : Int) : Int := if codeB (okPic a b f) (isCellB x y a b) = 0 then f (x + 12 * y).toNat else 0
theorem codeB_cases (p q : Bool) : (p = true ∧ q = true ∧ codeB p q = 0) ∨ (codeB p q = 1 ∧ p = false) ∨ (codeB p q = 2 ∧ p = true ∧ q = false) := by
  cases p <;> cases q <;> simp [codeB]
end Go.Proofs.Ytpofhbdnjecfjaa
