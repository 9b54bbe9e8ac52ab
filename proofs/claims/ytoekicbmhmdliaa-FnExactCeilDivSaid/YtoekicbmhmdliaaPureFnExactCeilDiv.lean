/- The pure statement behind the law FnExactCeilDiv: over numbers and lists the law answers true, at every input that the row's bounds let in. -/
import Derived.Test.YtoekicbmhmdliaaPFnExactCeilDivx1
namespace Go.Proofs.Ytoekicbmhmdliaa.Pure
open Go Go.RowKit Go.Proofs.Ytoekicbmhmdliaa.PFnExactCeilDiv Go.Proofs.YtoekicbmhmdliaaW.PrintWords Go.Proofs.YtoekicbmhmdliaaW.PrintLast Go.Proofs.YtoekicbmhmdliaaW.PrintMore
set_option linter.unusedVariables false
set_option linter.unusedSimpArgs false
set_option maxRecDepth 100000

theorem same_b {x y : Option Bool} (h : y = x) (hx : ∃ r, x = some r) : (x.bind fun t => y.bind fun u => if (u != t) = true then some false else some true) = some true := by
  obtain ⟨r, rfl⟩ := hx
  subst h
  simp
theorem same_i {x y : Option Int} (h : y = x) (hx : ∃ r, x = some r) : (x.bind fun t => y.bind fun u => if u = t then some true else some false) = some true := by
  obtain ⟨r, rfl⟩ := hx
  subst h
  simp
theorem l1In_val (a b c : Int) : spec_l1In.f a b c = some (decide (b ≤ a ∧ a ≤ c)) := by
  unfold spec_l1In.f
  by_cases h : a ≥ b
  · rw [if_pos h]; simp [h]
  · rw [if_neg h]; simp [h]
theorem FnExactCeilDiv : laws_FnExactCeilDiv.Pure := by
  intro a0 a1 _ _
  refine same_i rfl ?_
  unfold spec_CeilDiv.f
  simp only [l1In_val, Option.bind_some]
  by_cases h : 0 ≤ a0 ∧ a0 ≤ 1000000000000
  · by_cases h2 : 1 ≤ a1 ∧ a1 ≤ 1000000000000
    · simp only [h, h2, decide_true, if_true, and_self]
      rw [if_neg (by omega)]
      exact ⟨_, rfl⟩
    · simp only [h, h2, decide_true, if_true, and_self, decide_false, Bool.false_eq_true, if_false]
      exact ⟨_, rfl⟩
  · simp only [h, decide_false, Bool.false_eq_true, if_false]
    exact ⟨_, rfl⟩

end Go.Proofs.Ytoekicbmhmdliaa.Pure
