/- Pictures: what comes in is handed on, and two are held against each other; no condition. -/
import Derived.Test.YtmiafnlaooggjaaTy
import Derived.Test.YtmiafnlaooggjaaOpen
import Derived.Test.YtmiafnlaooggjaaNewQ
set_option linter.unusedVariables false
namespace Go.Proofs.Ytmiafnlaooggjaa
open Go.BigFrame
open Go.RowKit Go.Arr
end Go.Proofs.Ytmiafnlaooggjaa
