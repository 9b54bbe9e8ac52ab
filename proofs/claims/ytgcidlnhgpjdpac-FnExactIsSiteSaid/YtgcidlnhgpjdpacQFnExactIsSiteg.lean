/- The kinds of the arguments of the law FnExactIsSite: what is read as data at these types is of the kinds that the printed functions take. No conditions. -/
import Derived.Test.YtgcidlnhgpjdpacOpens
import Derived.Test.YtgcidlnhgpjdpacQFnExactIsSitex0
namespace Go.Proofs.Ytgcidlnhgpjdpac.QFnExactIsSite
open Go.RowKit Go.Proofs.YtgcidlnhgpjdpacW.PrintWords Go.Proofs.Ytgcidlnhgpjdpac.Opens
def g24 (x : S24) : Prop := ((Lit.int .i64 x.f0).wf = true) ∧ ((Lit.int .i64 x.f1).wf = true) ∧ ((Lit.int .i64 x.f2).wf = true)
theorem o24 : Opens Try.prog 24 k24 g24 := opens_struct Try.underlying24 (by kernel_rfl) (opensF_cons rfl (by rfl) (opens_int (by kernel_rfl) Try.underlying3) (opensF_cons rfl (by rfl) (opens_int (by kernel_rfl) Try.underlying3) (opensF_one rfl (opens_int (by kernel_rfl) Try.underlying3)))) (fun x : S24 => (x.f0, x.f1, x.f2)) (fun a => (⟨a.1, a.2.1, a.2.2⟩ : S24)) (fun _ => rfl)
def g26 (x : S26) : Prop := ((Lit.int .i64 x.f0).wf = true) ∧ (x.f1.length ≤ 9223372036854775807 ∧ ∀ y ∈ x.f1, (Lit.int .i64 y).wf = true) ∧ (g24 x.f2)
theorem o26 : Opens Try.prog 26 k26 g26 := opens_struct Try.underlying26 (by kernel_rfl) (opensF_cons rfl (by rfl) (opens_int (by kernel_rfl) Try.underlying3) (opensF_cons rfl (by rfl) (opens_slice (by kernel_rfl) Try.underlying22 (opens_int (by kernel_rfl) Try.underlying3)) (opensF_one rfl o24))) (fun x : S26 => (x.f0, x.f1, x.f2)) (fun a => (⟨a.1, a.2.1, a.2.2⟩ : S26)) (fun _ => rfl)
def g128 (x : S128) : Prop := (g24 x.f0) ∧ ((Lit.int .i64 x.f1).wf = true) ∧ (g26 x.f2)
theorem o128 : Opens Try.prog 128 k128 g128 := opens_struct Try.underlying128 (by kernel_rfl) (opensF_cons rfl (by rfl) o24 (opensF_cons rfl (by rfl) (opens_int (by kernel_rfl) Try.underlying3) (opensF_one rfl o26))) (fun x : S128 => (x.f0, x.f1, x.f2)) (fun a => (⟨a.1, a.2.1, a.2.2⟩ : S128)) (fun _ => rfl)
end Go.Proofs.Ytgcidlnhgpjdpac.QFnExactIsSite
