/- A place of a picture: what is read and written there; no condition. -/
import Derived.Test.YtbaphikficnjdaaImplA
set_option linter.unusedVariables false
namespace Go.Proofs.Ytbaphikficnjdaa
open Go.BigFrame
open Go.RowKit Go.Arr
theorem new_same {P : Program} {f : FuncId} {args : Array Value} {w : World} {v : Value} (h : Calls P f args w fun e w' => e = .returned v ∧ w = w') : Calls P f args w fun e w' => e = .returned v ∧ New w w' :=
  h.mono fun _ _ ⟨he, hw⟩ => ⟨he, by subst hw; exact New.refl _⟩
theorem isCellB_t {x y a b : Int} (h : isCellB x y a b = true) : (0 ≤ x ∧ x < a) ∧ (0 ≤ y ∧ y < b) := by
  unfold isCellB at h
  rw [Bool.and_eq_true] at h
  have h1 := inB_t.1 h.1
  have h2 := inB_t.1 h.2
  omega
set_option maxHeartbeats 400000 in
set_option maxRecDepth 100000 in
theorem l01Place_any (g : Nat) (t : TypeId) (a b : Int) (f : Nat → Int) (x y : Int) (ha : -128 ≤ a ∧ a ≤ 127) (hb : -128 ≤ b ∧ b ≤ 127) (hf : ∀ i, 0 ≤ f i ∧ f i ≤ 255) (w : World) (ho : obj w g = some (.cells (pic 144 a b f) t)) :
    Calls Try.prog 42 #[.pointer (some ⟨g, 0, none⟩), .int .i64 x, .int .i64 y] w fun e w' => e = .returned (.int .i64 (codeB (okPic a b f) (isCellB x y a b))) ∧ w = w' := by
  cases hok : okPic a b f
  · go_enter Try.func42, Try.ntmps42
    go_wp2_with (go_at_call 29; refine (l01Ok_any g t a b f ha hb hf _ ho).mono ?_; rintro e w' ⟨rfl, rfl⟩)
    go_ret
    exact ⟨rfl, rfl⟩
  cases h1 : inB x 0 (a - 1)
  · go_enter Try.func42, Try.ntmps42
    go_wp2_with (first | (go_at_call 29; refine (l01Ok_any g t a b f ha hb hf _ ho).mono ?_; rintro e w' ⟨rfl, rfl⟩) | (go_at_call 55; refine (l00In_any _ _ _ _).mono ?_; rintro e w' ⟨rfl, rfl⟩))
    go_ret
    exact ⟨by simp [codeB, isCellB, h1], rfl⟩
  cases h2 : inB y 0 (b - 1)
  all_goals
    go_enter Try.func42, Try.ntmps42
    go_wp2_with (first | (go_at_call 29; refine (l01Ok_any g t a b f ha hb hf _ ho).mono ?_; rintro e w' ⟨rfl, rfl⟩) | (go_at_call 55; refine (l00In_any _ _ _ _).mono ?_; rintro e w' ⟨rfl, rfl⟩))
    go_ret
    exact ⟨by simp [codeB, isCellB, h1, h2], rfl⟩
def colC (a b : Int) (f : Nat → Int) (x y : Int) : Int := if codeB (okPic a b f) (isCellB x y a b) = 0 then f (x + 12 * y).toNat else 0
theorem codeB_cases (p q : Bool) : (p = true ∧ q = true ∧ codeB p q = 0) ∨ (codeB p q = 1 ∧ p = false) ∨ (codeB p q = 2 ∧ p = true ∧ q = false) := by
  cases p <;> cases q <;> simp [codeB]
end Go.Proofs.Ytbaphikficnjdaa
