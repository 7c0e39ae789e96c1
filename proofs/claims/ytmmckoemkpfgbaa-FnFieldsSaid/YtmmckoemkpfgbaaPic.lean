/- Pictures: what comes in is handed on, and two are held against each other; no condition. -/
import Derived.Test.YtmmckoemkpfgbaaTy
import Derived.Test.YtmmckoemkpfgbaaOpen
import Derived.Test.YtmmckoemkpfgbaaNewQ
set_option linter.unusedVariables false
namespace Go.Proofs.Ytmmckoemkpfgbaa
open Go.BigFrame
open Go.RowKit Go.Arr
end Go.Proofs.Ytmmckoemkpfgbaa
