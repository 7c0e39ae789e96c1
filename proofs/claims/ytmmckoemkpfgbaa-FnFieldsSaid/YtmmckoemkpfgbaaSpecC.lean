/- The reference's plain pictures and parts of pictures; no condition. -/
import Derived.Test.YtmmckoemkpfgbaaWithCol
set_option linter.unusedVariables false
namespace Go.Proofs.Ytmmckoemkpfgbaa
open Go.BigFrame
open Go.RowKit Go.Arr
def plainQ (a b c : Int) : Bool := (inB a 1 12 && inB b 1 12) && inB c 0 15
def plainA (a b c : Int) : PicAns := if plainQ a b c = true then ⟨0, a, b, paint a b fun _ _ => c⟩ else noPic 2
def cutQ (a b x y c d : Int) : Bool := (isCellB x y a b && inB c 1 (a - x)) && inB d 1 (b - y)
def cutH (f : Nat → Int) (x y : Int) (u v : Int) : Int := f (x + u + 12 * (y + v)).toNat
def cutV (f : Nat → Int) (x y : Int) (i : Nat) : Int := f ((i : Int) + x + 12 * y).toNat
def cutA (a b : Int) (f : Nat → Int) (x y c d : Int) : PicAns := if codeB (okPic a b f) (cutQ a b x y c d) = 0 then ⟨0, c, d, paint c d (cutH f x y)⟩ else noPic (codeB (okPic a b f) (cutQ a b x y c d))
theorem cut_cases (a b : Int) (f : Nat → Int) (x y c d : Int) :
    (okPic a b f = true ∧ isCellB x y a b = true ∧ inB c 1 (a - x) = true ∧ inB d 1 (b - y) = true ∧ cutA a b f x y c d = ⟨0, c, d, paint c d (cutH f x y)⟩ ∧ codeB (okPic a b f) (isCellB x y a b) = 0) ∨
    (okPic a b f = true ∧ isCellB x y a b = true ∧ inB c 1 (a - x) = true ∧ inB d 1 (b - y) = false ∧ cutA a b f x y c d = noPic 2 ∧ codeB (okPic a b f) (isCellB x y a b) = 0) ∨
    (okPic a b f = true ∧ isCellB x y a b = true ∧ inB c 1 (a - x) = false ∧ cutA a b f x y c d = noPic 2 ∧ codeB (okPic a b f) (isCellB x y a b) = 0) ∨
    (okPic a b f = true ∧ isCellB x y a b = false ∧ cutA a b f x y c d = noPic 2 ∧ codeB (okPic a b f) (isCellB x y a b) = 2) ∨
    (okPic a b f = false ∧ cutA a b f x y c d = noPic 1 ∧ codeB (okPic a b f) (isCellB x y a b) = 1) := by
  unfold cutA cutQ
  cases okPic a b f <;> cases isCellB x y a b <;> cases inB c 1 (a - x) <;> cases inB d 1 (b - y) <;> simp [codeB]
end Go.Proofs.Ytmmckoemkpfgbaa
