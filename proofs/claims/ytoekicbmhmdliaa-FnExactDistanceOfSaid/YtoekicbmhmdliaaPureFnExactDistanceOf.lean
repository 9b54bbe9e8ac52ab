/- The pure statement behind the law FnExactDistanceOf: over numbers and lists the law answers true, at every input that the row's bounds let in. -/
import Derived.Test.YtoekicbmhmdliaaQFnExactDistanceOfx3
import Derived.Test.YtoekicbmhmdliaaQFnExactDistanceOfg
namespace Go.Proofs.Ytoekicbmhmdliaa.Pure
open Go Go.RowKit Go.Proofs.Ytoekicbmhmdliaa.QFnExactDistanceOf Go.Proofs.YtoekicbmhmdliaaW.PrintWords Go.Proofs.YtoekicbmhmdliaaW.PrintLast Go.Proofs.YtoekicbmhmdliaaW.PrintMore
set_option linter.unusedVariables false
set_option linter.unusedSimpArgs false
set_option maxRecDepth 100000

theorem FnExactDistanceOf : ∀ (x0 : S28) (x1 : S28), (g28 x0) → (g28 x1) → laws_FnExactDistanceOf.f x0.f0 x0.f1 x0.f2 x1.f0 x1.f1 x1.f2 = some true := by
  intro x y _ _
  unfold laws_FnExactDistanceOf.f laws_toAddress.f spec_DistanceOf.f impl_DistanceOf.f spec_WithoutQuery.f
  by_cases h1 : x.f0 = y.f0 <;> by_cases h2 : x.f1 = y.f1 <;> by_cases h3 : x.f2 = y.f2 <;> simp [h1, h2, h3]

end Go.Proofs.Ytoekicbmhmdliaa.Pure
