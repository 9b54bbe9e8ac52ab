/- The pure statement behind the law FnExactWithoutQuery: over numbers and lists the law answers true, at every input that the row's bounds let in. -/
import Derived.Test.YtoekicbmhmdliaaQFnExactWithoutQueryx1
import Derived.Test.YtoekicbmhmdliaaQFnExactWithoutQueryg
namespace Go.Proofs.Ytoekicbmhmdliaa.Pure
open Go Go.RowKit Go.Proofs.Ytoekicbmhmdliaa.QFnExactWithoutQuery Go.Proofs.YtoekicbmhmdliaaW.PrintWords Go.Proofs.YtoekicbmhmdliaaW.PrintLast Go.Proofs.YtoekicbmhmdliaaW.PrintMore
set_option linter.unusedVariables false
set_option linter.unusedSimpArgs false
set_option maxRecDepth 100000

theorem FnExactWithoutQuery : ∀ (x0 : S28), (g28 x0) → laws_FnExactWithoutQuery.f x0.f0 x0.f1 x0.f2 = some true := by
  intro x _
  unfold laws_FnExactWithoutQuery.f laws_toAddress.f spec_WithoutQuery.f impl_WithoutQuery.f laws_eqAddress.f
  simp

end Go.Proofs.Ytoekicbmhmdliaa.Pure
