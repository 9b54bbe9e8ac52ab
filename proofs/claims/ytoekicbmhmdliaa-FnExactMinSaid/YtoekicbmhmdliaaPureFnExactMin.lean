/- The pure statement behind the law FnExactMin: over numbers and lists the law answers true, at every input that the row's bounds let in. -/
import Derived.Test.YtoekicbmhmdliaaPFnExactMinx1
namespace Go.Proofs.Ytoekicbmhmdliaa.Pure
open Go Go.RowKit Go.Proofs.Ytoekicbmhmdliaa.PFnExactMin Go.Proofs.YtoekicbmhmdliaaW.PrintWords Go.Proofs.YtoekicbmhmdliaaW.PrintLast Go.Proofs.YtoekicbmhmdliaaW.PrintMore
set_option linter.unusedVariables false
set_option linter.unusedSimpArgs false
set_option maxRecDepth 100000

theorem same_b {x y : Option Bool} (h : y = x) (hx : ∃ r, x = some r) : (x.bind fun t => y.bind fun u => if (u != t) = true then some false else some true) = some true := by
  obtain ⟨r, rfl⟩ := hx
  subst h
  simp
theorem same_i {x y : Option Int} (h : y = x) (hx : ∃ r, x = some r) : (x.bind fun t => y.bind fun u => if u = t then some true else some false) = some true := by
  obtain ⟨r, rfl⟩ := hx
  subst h
  simp
theorem FnExactMin : laws_FnExactMin.Pure := by
  intro a0 a1 _ _
  refine same_i ?_ ?_
  · unfold spec_Min.f impl_Min.f mn
    split <;> rfl
  · unfold spec_Min.f
    split <;> exact ⟨_, rfl⟩

end Go.Proofs.Ytoekicbmhmdliaa.Pure
