/- A picture is equal to itself; no condition. -/
import Derived.Test.YtfopllkienogfaaSmall
import Derived.Test.YtfopllkienogfaaPic
set_option linter.unusedVariables false
namespace Go.Proofs.Ytfopllkienogfaa
open Go.BigFrame
open Go.RowKit Go.Arr
end Go.Proofs.Ytfopllkienogfaa
