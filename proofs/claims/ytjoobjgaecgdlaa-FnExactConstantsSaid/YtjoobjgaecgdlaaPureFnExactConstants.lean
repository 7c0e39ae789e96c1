/- The program's constants have the values that the law names; no condition. -/
import Derived.Test.YtjoobjgaecgdlaaPFnExactConstantsx1
namespace Go.Proofs.Ytjoobjgaecgdlaa.Pure
open Go.RowKit Go.Proofs.Ytjoobjgaecgdlaa.PFnExactConstants Go.Proofs.YtjoobjgaecgdlaaW.PrintWords Go.Proofs.YtjoobjgaecgdlaaW.PrintLast

/-- YOURS: laws_FnExactConstants.f  = some true
What it reaches (each with k first where it has rounds; `.mono`: more rounds tell the same; `.l0`, ..: its loops, with `.mono_l`): laws_FnExactConstants.f -/
theorem FnExactConstants : laws_FnExactConstants.Pure := by
  unfold laws_FnExactConstants.Pure laws_FnExactConstants.f
  rfl

end Go.Proofs.Ytjoobjgaecgdlaa.Pure
