/- The pure statement behind the law FnExactIsAddress: over numbers and lists the law answers true, at every input that the row's bounds let in. -/
import Derived.Test.YtoekicbmhmdliaaQFnExactIsAddressx1
import Derived.Test.YtoekicbmhmdliaaQFnExactIsAddressg
namespace Go.Proofs.Ytoekicbmhmdliaa.Pure
open Go Go.RowKit Go.Proofs.Ytoekicbmhmdliaa.QFnExactIsAddress Go.Proofs.YtoekicbmhmdliaaW.PrintWords Go.Proofs.YtoekicbmhmdliaaW.PrintLast Go.Proofs.YtoekicbmhmdliaaW.PrintMore
set_option linter.unusedVariables false
set_option linter.unusedSimpArgs false
set_option maxRecDepth 100000

theorem l1In_val (a b c : Int) : spec_l1In.f a b c = some (decide (b ≤ a ∧ a ≤ c)) := by
  unfold spec_l1In.f
  by_cases h : a ≥ b
  · rw [if_pos h]; simp [h]
  · rw [if_neg h]; simp [h]
theorem inRange_val (a b c : Int) : impl_InRange.f a b c = some (decide (b ≤ a ∧ a ≤ c)) := by
  unfold impl_InRange.f
  by_cases h : b ≤ a
  · rw [if_pos h]; simp [h]
  · rw [if_neg h]; simp [h]
theorem FnExactIsAddress : ∀ (x0 : S28), (g28 x0) → laws_FnExactIsAddress.f x0.f0 x0.f1 x0.f2 = some true := by
  intro x _
  unfold laws_FnExactIsAddress.f laws_toAddress.f spec_IsAddress.f impl_IsAddress.f
  simp only [l1In_val, inRange_val, Option.bind_some]
  by_cases h1 : 1 ≤ x.f0 ∧ x.f0 ≤ 9 <;> by_cases h2 : 0 ≤ x.f1 ∧ x.f1 ≤ 99 <;> simp [h1, h2]

end Go.Proofs.Ytoekicbmhmdliaa.Pure
