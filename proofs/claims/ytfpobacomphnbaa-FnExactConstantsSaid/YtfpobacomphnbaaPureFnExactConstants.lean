/- Constants: each constant of the program is that of the reference; no condition. -/
import Derived.Test.YtfpobacomphnbaaPFnExactConstantsx1
import Derived.Test.YtfpobacomphnbaaBs
set_option linter.unusedVariables false
set_option linter.unusedSimpArgs false
namespace Go.Proofs.Ytfpobacomphnbaa.Pure
open Go.RowKit Go.Proofs.Ytfpobacomphnbaa.PFnExactConstants Go.Proofs.YtfpobacomphnbaaW.PrintWords Go.Proofs.YtfpobacomphnbaaW.PrintLast Go.Proofs.YtfpobacomphnbaaW.PrintMore Go.Proofs.Ytfpobacomphnbaa.Bs


theorem FnExactConstants : laws_FnExactConstants.Pure := by
  first | rfl | (unfold laws_FnExactConstants.Pure laws_FnExactConstants.f; rfl)
end Go.Proofs.Ytfpobacomphnbaa.Pure
