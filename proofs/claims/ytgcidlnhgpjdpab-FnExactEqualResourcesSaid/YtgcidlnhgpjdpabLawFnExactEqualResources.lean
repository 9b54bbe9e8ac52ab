/- The law FnExactEqualResources: for every input it returns true, and each argument reads behind the call as it read before. No conditions. -/
import Derived.Test.YtgcidlnhgpjdpabRows
import Derived.Test.YtgcidlnhgpjdpabQFnExactEqualResourcesx3
import Derived.Test.YtgcidlnhgpjdpabQFnExactEqualResourcesg
import Derived.Test.YtgcidlnhgpjdpabPureFnExactEqualResources
import Derived.WalkKit
import Derived.ProofKit
import Derived.OpenShut
import Derived.ShutString
import Derived.ChangeOld
import Derived.Below
import Derived.SizedLaws
import Derived.Lib.SmallJoins
namespace Go.Proofs.Ytgcidlnhgpjdpab.fnExactEqualResources
open Go.ChangeShapes Go.WideShapes Go.ChangeAt Go.RowKit
open Go.ChangeMaps (open_string shut_string)
open Go.Proofs.YtgcidlnhgpjdpabW.PrintWords Go.Proofs.Ytgcidlnhgpjdpab.Opens Go.Proofs.Ytgcidlnhgpjdpab.QFnExactEqualResources
set_option linter.unusedVariables false
set_option linter.unusedSimpArgs false
theorem own : ownKnob Try.prog.godebug = none := by kernel_rfl
theorem laidOut : laidOutB Try.prog = true := by kernel_rfl
set_option maxRecDepth 100000 in
theorem lifted (os : Os) (started : os.Started) (H : Type) (enc : TypeId × Value → H) :
    ReturnsInHanded {} Try.checked os 10 .any (Rows.fnExactEqualResourcesSpec.pre6 enc Try.prog Try.f10 Rows.fnExactEqualResourcesRow.domain false) (Rows.fnExactEqualResourcesSpec.post enc Try.prog Try.f10 false true false false) := by
  refine returnsInHanded_of_change_sized (C := Try.checked) own started (by kernel_rfl) Try.func10
    (ChangeSpec.witness6 (enc := enc) (C := Try.checked) false ⟨#[], #[.agg #[.int .i64 0, .slice none 0 0, .int .i64 0, .int .i64 0, .int .i64 0], .agg #[.int .i64 0, .slice none 0 0, .int .i64 0, .int .i64 0, .int .i64 0]], []⟩ 8 (by kernel_rfl) (by kernel_rfl) (by kernel_rfl) (by kernel_rfl)) ?_
  intro W base args ds gs before hval0 hW hcnd hsz0 _
  have hsz : (DataW.weightsEach Try.prog (Try.f10.params.toList ++ Rows.fnExactEqualResourcesSpec.plain.varTypes Try.prog) (ds ++ gs)).all (· ≤ reachBytes) = true := hsz0
  have hval : ∀ (j : Nat) t v, Try.f10.params[j]? = some t → args[j]? = some v → Value.okWide Try.prog W .any base t v := hval0
  have hW' := hW
  obtain ⟨p, q, hA0, hV, rfl, hfz, hnd⟩ := hW
  have hA : DataW.TrodAll enc Try.prog W 0 (fun _ => true) true Try.f10.params.toList args.toList ds p := hA0
  rw [Try.params10] at hA hval hsz
  obtain ⟨v0, vs0, d0, ds0, p0, q0, hargs, rfl, rfl, h0, r0⟩ := trodAll_cons hA
  obtain ⟨v1, vs1, d1, ds1, p1, q1, rfl, rfl, rfl, h1, r1⟩ := trodAll_cons r0
  obtain ⟨rfl, rfl, rfl⟩ := trodAll_nil r1
  obtain rfl : args = #[v0, v1] := by cases args; simp_all
  obtain ⟨rfl, rfl⟩ := trodVars_none hV
  obtain ⟨cs0, rfl, hsz0⟩ := okWide_struct Try.underlying26 (hval 0 26 v0 rfl rfl)
  have k0 := h0
  have lt0 : ∀ x ∈ p0, x.block < W.heap.size := by obtain ⟨m, hm⟩ := k0; exact DataW.trod_lt m _ _ _ hm
  obtain ⟨x0, hK0, gd0⟩ : ∃ x, k26.K W x (Value.agg cs0).cells.toList ∧ g26 x := by
    obtain ⟨fuel, hf⟩ := h0
    exact o26.2 _ _ _ _ _ _ _ _ _ hf
  obtain ⟨A0_1, c0_1, hcs0, hc0_1, hr0_1⟩ := k26_open hK0
  obtain rfl : cs0 = #[.int .i64 x0.f0, .slice A0_1 x0.f1.length c0_1, .int .i64 x0.f2.f0, .int .i64 x0.f2.f1, .int .i64 x0.f2.f2] := Array.toList_inj.1 hcs0
  obtain ⟨cs1, rfl, hsz1⟩ := okWide_struct Try.underlying26 (hval 1 26 v1 rfl rfl)
  have k1 := h1
  have lt1 : ∀ x ∈ p1, x.block < W.heap.size := by obtain ⟨m, hm⟩ := k1; exact DataW.trod_lt m _ _ _ hm
  obtain ⟨x1, hK1, gd1⟩ : ∃ x, k26.K W x (Value.agg cs1).cells.toList ∧ g26 x := by
    obtain ⟨fuel, hf⟩ := h1
    exact o26.2 _ _ _ _ _ _ _ _ _ hf
  obtain ⟨A1_1, c1_1, hcs1, hc1_1, hr1_1⟩ := k26_open hK1
  obtain rfl : cs1 = #[.int .i64 x1.f0, .slice A1_1 x1.f1.length c1_1, .int .i64 x1.f2.f0, .int .i64 x1.f2.f1, .int .i64 x1.f2.f2] := Array.toList_inj.1 hcs1
  clear hA0 hval0 hsz0 hsz
  obtain ⟨rk, hlaw⟩ := Pure.FnExactEqualResources x0 x1 gd0 gd1
  refine (QFnExactEqualResources.laws_FnExactEqualResources.calls rk x0.f0 _ _ x0.f1 x0.f2.f0 x0.f2.f1 x0.f2.f2 x1.f0 _ _ x1.f1 x1.f2.f0 x1.f2.f1 x1.f2.f2 true W hr0_1 hc0_1 hr1_1 hc1_1 rfl hlaw).mono fun e W' ⟨he, bel0⟩ => ?_
  have bel : Below W.heap.size W W' := by first | exact bel0 | exact bel0.below
  subst he
  exact ⟨_, rfl, _, _, _, [], _, [], hW', trodAll_mk1 (shut_bool Try.underlying4 _), (trodAll_cons_mk (Below.trod laidOut (by kernel_rfl) (of_decide_eq_true (by kernel_rfl)) k0 bel lt0) (trodAll_cons_mk (Below.trod laidOut (by kernel_rfl) (of_decide_eq_true (by kernel_rfl)) k1 bel lt1) trodAll_mk0)), rfl, bel.frame _, fun h => by cases h⟩
theorem over : Rows.fnExactEqualResourcesRow.holds Try.pinned (OpenSpec.ofChange Rows.fnExactEqualResourcesSpec) :=
  OpenClaim.holds_of_wide 10 Try.f10 rfl rfl rfl rfl rfl rfl rfl ⟨rfl, rfl, rfl, rfl, rfl⟩ rfl rfl rfl rfl rfl (by kernel_rfl) Try.func10 (by kernel_rfl)
    (of_decide_eq_true (by kernel_rfl)) (by unfold Func.isWrapper; first | (rw [if_pos (by decide +kernel)]; kernel_rfl) | (rw [if_neg (by decide +kernel)]; exact ⟨rfl, rfl⟩))
    (fun os started H enc _ => lifted os started H enc)
theorem proved : Rows.FnExactEqualResourcesSaid := over
#print axioms proved
end Go.Proofs.Ytgcidlnhgpjdpab.fnExactEqualResources
namespace Go.Proofs.Ytgcidlnhgpjdpab
/-- The row, under a short name, for the claim. -/
theorem fnExactEqualResources_holds : Rows.FnExactEqualResourcesSaid := fnExactEqualResources.proved
end Go.Proofs.Ytgcidlnhgpjdpab
