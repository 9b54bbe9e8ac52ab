/- The pure statement behind the law FnExactConstants: over numbers and lists the law answers true, at every input that the row's bounds let in. -/
import Derived.Test.YtoekicbmhmdliaaPFnExactConstantsx1
namespace Go.Proofs.Ytoekicbmhmdliaa.Pure
open Go Go.RowKit Go.Proofs.Ytoekicbmhmdliaa.PFnExactConstants Go.Proofs.YtoekicbmhmdliaaW.PrintWords Go.Proofs.YtoekicbmhmdliaaW.PrintLast Go.Proofs.YtoekicbmhmdliaaW.PrintMore
set_option linter.unusedVariables false
set_option linter.unusedSimpArgs false
set_option maxRecDepth 100000

theorem FnExactConstants : laws_FnExactConstants.Pure := rfl

end Go.Proofs.Ytoekicbmhmdliaa.Pure
