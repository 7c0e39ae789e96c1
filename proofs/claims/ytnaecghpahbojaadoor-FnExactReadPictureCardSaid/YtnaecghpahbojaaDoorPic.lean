/- Pictures: what comes in is handed on, and two are held against each other; no condition. -/
import Derived.Test.YtnaecghpahbojaaDoorTy
import Derived.Test.YtnaecghpahbojaaDoorOpen
import Derived.Test.YtnaecghpahbojaaDoorNewQ
set_option linter.unusedVariables false
namespace Go.Proofs.YtnaecghpahbojaaDoor
open Go.BigFrame
open Go.RowKit Go.Arr
end Go.Proofs.YtnaecghpahbojaaDoor
