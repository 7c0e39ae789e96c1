/- A picture that is painted cell by cell by a function, and two pictures that are equal; no condition. -/
import Derived.Test.YtpofhbdnjecfjaaSmall
import Derived.Test.YtpofhbdnjecfjaaPic
set_option linter.unusedVariables false
namespace Go.Proofs.Ytpofhbdnjecfjaa
open Go.BigFrame
open Go.RowKit Go.Arr
def inside (a b : Int) (i : Nat) : Prop := (i : Int) % 12 < a ∧ (i : Int) / 12 < b
instance (a b : Int) (i : Nat) : Decidable (inside a b i) := by unfold inside; infer_instance
/-- the cells that a function of the place paints -/
def paint (a b : Int) (h : Int → Int → Int) (i : Nat) : Int := if inside a b i then h ((i : Int) % 12) ((i : Int) / 12) else 0
def paintU (a b : Int) (h : Int → Int → Int) (y x : Nat) (i : Nat) : Int := if inside a b i ∧ ((i : Int) / 12 < y ∨ (i : Int) / 12 = y ∧ (i : Int) % 12 < x) then h ((i : Int) % 12) ((i : Int) / 12) else 0
theorem paintU_zero (a b : Int) (h : Int → Int → Int) (i : Nat) : paintU a b h 0 0 i = 0 := by
  unfold paintU
  rw [if_neg]
  omega
theorem paintU_row (a b : Int) (h : Int → Int → Int) (y : Nat) (x : Nat) (hx : (x : Int) = a) (i : Nat) : paintU a b h y x i = paintU a b h (y + 1) 0 i := by
  unfold paintU inside
  have e : ((i : Int) % 12 < a ∧ (i : Int) / 12 < b) ∧ ((i : Int) / 12 < y ∨ (i : Int) / 12 = y ∧ (i : Int) % 12 < x) ↔ ((i : Int) % 12 < a ∧ (i : Int) / 12 < b) ∧ ((i : Int) / 12 < (y + 1 : Nat) ∨ (i : Int) / 12 = (y + 1 : Nat) ∧ (i : Int) % 12 < (0 : Nat)) := by omega
  by_cases h1 : ((i : Int) % 12 < a ∧ (i : Int) / 12 < b) ∧ ((i : Int) / 12 < y ∨ (i : Int) / 12 = y ∧ (i : Int) % 12 < x)
  · rw [if_pos h1, if_pos (e.1 h1)]
  · rw [if_neg h1, if_neg (fun h2 => h1 (e.2 h2))]
theorem paintU_step (a b : Int) (h : Int → Int → Int) (y x : Nat) (ha : a ≤ 12) (hx : (x : Int) < a) (hy : (y : Int) < b) : upd (paintU a b h y x) (x + 12 * y) (h x y) = paintU a b h y (x + 1) := by
  funext i
  unfold upd paintU inside
  by_cases hi : i = x + 12 * y
  · subst hi
    have e1 : (((x + 12 * y : Nat) : Int)) % 12 = x := by omega
    have e2 : (((x + 12 * y : Nat) : Int)) / 12 = y := by omega
    rw [if_pos rfl, if_pos (by rw [e1, e2]; omega), e1, e2]
  · rw [if_neg hi]
    have e : ((i : Int) % 12 < a ∧ (i : Int) / 12 < b) ∧ ((i : Int) / 12 < y ∨ (i : Int) / 12 = y ∧ (i : Int) % 12 < x) ↔ ((i : Int) % 12 < a ∧ (i : Int) / 12 < b) ∧ ((i : Int) / 12 < y ∨ (i : Int) / 12 = y ∧ (i : Int) % 12 < (x + 1 : Nat)) := by omega
    by_cases h1 : ((i : Int) % 12 < a ∧ (i : Int) / 12 < b) ∧ ((i : Int) / 12 < y ∨ (i : Int) / 12 = y ∧ (i : Int) % 12 < x)
    · rw [if_pos h1, if_pos (e.1 h1)]
    · rw [if_neg h1, if_neg (fun h2 => h1 (e.2 h2))]
theorem paintU_all (a b : Int) (h : Int → Int → Int) (y : Nat) (hy : (y : Int) = b) (i : Nat) : paintU a b h y 0 i = paint a b h i := by
  unfold paintU paint
  by_cases h1 : inside a b i
  · rw [if_pos h1, if_pos ⟨h1, by have h2 := h1; unfold inside at h2; omega⟩]
  · rw [if_neg h1, if_neg (fun h2 => h1 h2.1)]
end Go.Proofs.Ytpofhbdnjecfjaa
