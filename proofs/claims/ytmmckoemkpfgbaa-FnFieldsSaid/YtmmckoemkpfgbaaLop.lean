/- Loops taken out of a function's body; no condition. -/
import Derived.Test.YtmmckoemkpfgbaaOpen
set_option linter.unusedVariables false
namespace Go.Proofs.Ytmmckoemkpfgbaa
def loopsOf : Code → List Code
  | .loop c => [c]
  | .seq a b => loopsOf a ++ loopsOf b
  | .block _ c => loopsOf c
  | .scope c => loopsOf c
  | .cond _ a b => loopsOf a ++ loopsOf b
  | _ => []
noncomputable def loopIn (c : Code) (n : Nat) : Code := ((loopsOf c)[n]?).getD .skip
end Go.Proofs.Ytmmckoemkpfgbaa
