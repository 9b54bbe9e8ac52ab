/- The pure statement behind the law FnExactBeforeAddress: over numbers and lists the law answers true, at every input that the row's bounds let in. -/
import Derived.Test.YtoekicbmhmdliaaQFnExactBeforeAddressx1
import Derived.Test.YtoekicbmhmdliaaQFnExactBeforeAddressg
namespace Go.Proofs.Ytoekicbmhmdliaa.Pure
open Go Go.RowKit Go.Proofs.Ytoekicbmhmdliaa.QFnExactBeforeAddress Go.Proofs.YtoekicbmhmdliaaW.PrintWords Go.Proofs.YtoekicbmhmdliaaW.PrintLast Go.Proofs.YtoekicbmhmdliaaW.PrintMore
set_option linter.unusedVariables false
set_option linter.unusedSimpArgs false
set_option maxRecDepth 100000

theorem FnExactBeforeAddress : ∀ (x0 : S28) (x1 : S28), (g28 x0) → (g28 x1) → laws_FnExactBeforeAddress.f x0.f0 x0.f1 x0.f2 x1.f0 x1.f1 x1.f2 = some true := by
  intro x y _ _
  unfold laws_FnExactBeforeAddress.f laws_toAddress.f spec_BeforeAddress.f impl_BeforeAddress.f
  by_cases h1 : x.f0 = y.f0 <;> by_cases h2 : x.f1 = y.f1 <;> simp [h1, h2]

end Go.Proofs.Ytoekicbmhmdliaa.Pure
