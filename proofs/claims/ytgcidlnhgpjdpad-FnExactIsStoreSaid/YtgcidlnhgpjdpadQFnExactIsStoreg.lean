/- The kinds of the arguments of the law FnExactIsStore: what is read as data at these types is of the kinds that the printed functions take. No conditions. -/
import Derived.Test.YtgcidlnhgpjdpadOpens
import Derived.Test.YtgcidlnhgpjdpadQFnExactIsStorex0
namespace Go.Proofs.Ytgcidlnhgpjdpad.QFnExactIsStore
open Go.RowKit Go.Proofs.YtgcidlnhgpjdpadW.PrintWords Go.Proofs.Ytgcidlnhgpjdpad.Opens
def g35 (x : S35) : Prop := ((Lit.int .i64 x.f0).wf = true) ∧ ((Lit.int .i64 x.f1).wf = true) ∧ ((Lit.int .i64 x.f2).wf = true)
theorem o35 : Opens Try.prog 35 k35 g35 := opens_struct Try.underlying35 (by kernel_rfl) (opensF_cons rfl (by rfl) (opens_int (by kernel_rfl) Try.underlying3) (opensF_cons rfl (by rfl) (opens_int (by kernel_rfl) Try.underlying3) (opensF_one rfl (opens_int (by kernel_rfl) Try.underlying3)))) (fun x : S35 => (x.f0, x.f1, x.f2)) (fun a => (⟨a.1, a.2.1, a.2.2⟩ : S35)) (fun _ => rfl)
def g78 (x : S78) : Prop := ((Lit.int .i64 x.f0).wf = true) ∧ (x.f1.length ≤ 9223372036854775807 ∧ ∀ y ∈ x.f1, (Lit.int .i64 y).wf = true) ∧ (g35 x.f2)
theorem o78 : Opens Try.prog 78 k78 g78 := opens_struct Try.underlying78 (by kernel_rfl) (opensF_cons rfl (by rfl) (opens_int (by kernel_rfl) Try.underlying3) (opensF_cons rfl (by rfl) (opens_slice (by kernel_rfl) Try.underlying24 (opens_int (by kernel_rfl) Try.underlying3)) (opensF_one rfl o35))) (fun x : S78 => (x.f0, x.f1, x.f2)) (fun a => (⟨a.1, a.2.1, a.2.2⟩ : S78)) (fun _ => rfl)
def g92 (x : S92) : Prop := ((Lit.int .i64 x.f0).wf = true) ∧ (g78 x.f1) ∧ ((Lit.int .i64 x.f2).wf = true)
theorem o92 : Opens Try.prog 92 k92 g92 := opens_struct Try.underlying92 (by kernel_rfl) (opensF_cons rfl (by rfl) (opens_int (by kernel_rfl) Try.underlying3) (opensF_cons rfl (by rfl) o78 (opensF_one rfl (opens_int (by kernel_rfl) Try.underlying3)))) (fun x : S92 => (x.f0, x.f1, x.f2)) (fun a => (⟨a.1, a.2.1, a.2.2⟩ : S92)) (fun _ => rfl)
end Go.Proofs.Ytgcidlnhgpjdpad.QFnExactIsStore
