/- The kinds of the arguments of the law FnExactCostOf: what is read as data at these types is of the kinds that the printed functions take. No conditions. -/
import Derived.Test.YtgcidlnhgpjdpabOpens
import Derived.Test.YtgcidlnhgpjdpabQFnExactCostOfx0
namespace Go.Proofs.Ytgcidlnhgpjdpab.QFnExactCostOf
open Go.RowKit Go.Proofs.YtgcidlnhgpjdpabW.PrintWords Go.Proofs.Ytgcidlnhgpjdpab.Opens
def g80 (x : S80) : Prop := ((Lit.int .i64 x.f0).wf = true) ∧ ((Lit.int .i64 x.f1).wf = true) ∧ (x.f2.length ≤ 9223372036854775807 ∧ ∀ y ∈ x.f2, (Lit.int .i64 y).wf = true)
theorem o80 : Opens Try.prog 80 k80 g80 := opens_struct Try.underlying80 (by kernel_rfl) (opensF_cons rfl (by rfl) (opens_int (by kernel_rfl) Try.underlying3) (opensF_cons rfl (by rfl) (opens_int (by kernel_rfl) Try.underlying3) (opensF_one rfl (opens_slice (by kernel_rfl) Try.underlying22 (opens_int (by kernel_rfl) Try.underlying3))))) (fun x : S80 => (x.f0, x.f1, x.f2)) (fun a => (⟨a.1, a.2.1, a.2.2⟩ : S80)) (fun _ => rfl)
end Go.Proofs.Ytgcidlnhgpjdpab.QFnExactCostOf
