/- The kinds of the arguments of the law FnExactResourceText: what is read as data at these types is of the kinds that the printed functions take. No conditions. -/
import Derived.Test.YtgcidlnhgpjdpadDoorOpens
import Derived.Test.YtgcidlnhgpjdpadDoorQFnExactResourceTextx0
namespace Go.Proofs.YtgcidlnhgpjdpadDoor.QFnExactResourceText
open Go.RowKit Go.Proofs.YtgcidlnhgpjdpadDoorW.PrintWords Go.Proofs.YtgcidlnhgpjdpadDoor.Opens
def g28 (x : S28) : Prop := ((Lit.int .i64 x.f0).wf = true) ∧ ((Lit.int .i64 x.f1).wf = true) ∧ ((Lit.int .i64 x.f2).wf = true)
theorem o28 : Opens Tryd.prog 28 k28 g28 := opens_struct Tryd.underlying28 (by kernel_rfl) (opensF_cons rfl (by rfl) (opens_int (by kernel_rfl) Tryd.underlying3) (opensF_cons rfl (by rfl) (opens_int (by kernel_rfl) Tryd.underlying3) (opensF_one rfl (opens_int (by kernel_rfl) Tryd.underlying3)))) (fun x : S28 => (x.f0, x.f1, x.f2)) (fun a => (⟨a.1, a.2.1, a.2.2⟩ : S28)) (fun _ => rfl)
def g53 (x : S53) : Prop := ((Lit.int .i64 x.f0).wf = true) ∧ (x.f1.length ≤ 9223372036854775807 ∧ ∀ y ∈ x.f1, (Lit.int .i64 y).wf = true) ∧ (g28 x.f2)
theorem o53 : Opens Tryd.prog 53 k53 g53 := opens_struct Tryd.underlying53 (by kernel_rfl) (opensF_cons rfl (by rfl) (opens_int (by kernel_rfl) Tryd.underlying3) (opensF_cons rfl (by rfl) (opens_slice (by kernel_rfl) Tryd.underlying40 (opens_int (by kernel_rfl) Tryd.underlying3)) (opensF_one rfl o28))) (fun x : S53 => (x.f0, x.f1, x.f2)) (fun a => (⟨a.1, a.2.1, a.2.2⟩ : S53)) (fun _ => rfl)
end Go.Proofs.YtgcidlnhgpjdpadDoor.QFnExactResourceText
