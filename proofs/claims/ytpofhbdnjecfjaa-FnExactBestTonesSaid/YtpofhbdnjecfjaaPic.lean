/- Pictures: what comes in is handed on, and two are held against each other; no condition. -/
import Derived.Test.YtpofhbdnjecfjaaTy
import Derived.Test.YtpofhbdnjecfjaaOpen
import Derived.Test.YtpofhbdnjecfjaaNewQ
set_option linter.unusedVariables false
namespace Go.Proofs.Ytpofhbdnjecfjaa
open Go.BigFrame
open Go.RowKit Go.Arr
end Go.Proofs.Ytpofhbdnjecfjaa
