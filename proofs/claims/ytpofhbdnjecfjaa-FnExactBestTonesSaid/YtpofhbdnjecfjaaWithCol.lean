/- A picture with another colour at a place; no condition. -/
import Derived.Test.YtpofhbdnjecfjaaPlace
set_option linter.unusedVariables false
namespace Go.Proofs.Ytpofhbdnjecfjaa
open Go.BigFrame
open Go.RowKit Go.Arr
@[go_sem] theorem codeB_tt : codeB true true = 0 := rfl
@[go_sem] theorem codeB_tf : codeB true false = 2 := rfl
@[go_sem] theorem codeB_f (q : Bool) : codeB false q = 1 := rfl
theorem within_v (n lo hi : Int) (v : Bool) (hv : inB n lo hi = v) (w : World) : Calls Try.prog 39 #[.int .i64 n, .int .i64 lo, .int .i64 hi] w fun e w' => e = .returned (.bool v) ∧ New w w' := hv ▸ new_same (within_any n lo hi w)
def withQ (a b x y c : Int) : Bool := isCellB x y a b && inB c 0 15
def withA (a b : Int) (f : Nat → Int) (x y c : Int) : PicAns := if codeB (okPic a b f) (withQ a b x y c) = 0 then ⟨0, a, b, upd f (x + 12 * y).toNat c⟩ else noPic (codeB (okPic a b f) (withQ a b x y c))
theorem with_cases (a b : Int) (f : Nat → Int) (x y c : Int) :
    (okPic a b f = true ∧ isCellB x y a b = true ∧ inB c 0 15 = true ∧ withA a b f x y c = ⟨0, a, b, upd f (x + 12 * y).toNat c⟩ ∧ codeB (okPic a b f) (isCellB x y a b) = 0) ∨
    (isCellB x y a b = true ∧ inB c 0 15 = false ∧ withA a b f x y c = noPic 2 ∧ codeB (okPic a b f) (isCellB x y a b) = 0 ∧ okPic a b f = true) ∨
    (withA a b f x y c = noPic 1 ∧ codeB (okPic a b f) (isCellB x y a b) = 1 ∧ okPic a b f = false) ∨
    (withA a b f x y c = noPic 2 ∧ codeB (okPic a b f) (isCellB x y a b) = 2 ∧ okPic a b f = true ∧ isCellB x y a b = false) := by
  unfold withA withQ
  cases okPic a b f <;> cases isCellB x y a b <;> cases inB c 0 15 <;> simp [codeB]
end Go.Proofs.Ytpofhbdnjecfjaa
