/- The pure statement behind the law FnExactMod: over numbers and lists the law answers true, at every input that the row's bounds let in. -/
import Derived.Test.YtoekicbmhmdliaaPFnExactModx1
namespace Go.Proofs.Ytoekicbmhmdliaa.Pure
open Go Go.RowKit Go.Proofs.Ytoekicbmhmdliaa.PFnExactMod Go.Proofs.YtoekicbmhmdliaaW.PrintWords Go.Proofs.YtoekicbmhmdliaaW.PrintLast Go.Proofs.YtoekicbmhmdliaaW.PrintMore
set_option linter.unusedVariables false
set_option linter.unusedSimpArgs false
set_option maxRecDepth 100000

theorem same_b {x y : Option Bool} (h : y = x) (hx : ∃ r, x = some r) : (x.bind fun t => y.bind fun u => if (u != t) = true then some false else some true) = some true := by
  obtain ⟨r, rfl⟩ := hx
  subst h
  simp
theorem same_i {x y : Option Int} (h : y = x) (hx : ∃ r, x = some r) : (x.bind fun t => y.bind fun u => if u = t then some true else some false) = some true := by
  obtain ⟨r, rfl⟩ := hx
  subst h
  simp
theorem FnExactMod : laws_FnExactMod.Pure := by
  intro a0 a1 _ _
  refine same_i rfl ?_
  unfold spec_Mod.f spec_l1In.f
  by_cases h : a1 ≥ 1
  · simp only [if_pos h, Option.bind_some]
    by_cases h2 : a1 ≤ 1000000000000
    · simp only [h2, decide_true, if_true]
      rw [if_neg (by omega)]
      exact ⟨_, rfl⟩
    · simp only [h2, decide_false, Bool.false_eq_true, if_false]
      exact ⟨_, rfl⟩
  · simp only [if_neg h, Option.bind_some, Bool.false_eq_true, if_false]
    exact ⟨_, rfl⟩

end Go.Proofs.Ytoekicbmhmdliaa.Pure
