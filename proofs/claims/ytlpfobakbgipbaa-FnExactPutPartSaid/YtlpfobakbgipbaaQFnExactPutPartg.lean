/- The kinds of the arguments of the law FnExactPutPart: what is read as data at these types is of the kinds that the printed functions take. No conditions. -/
import Derived.Test.YtlpfobakbgipbaaOpens
import Derived.Test.YtlpfobakbgipbaaQFnExactPutPartx0
namespace Go.Proofs.Ytlpfobakbgipbaa.QFnExactPutPart
open Go.RowKit Go.Proofs.YtlpfobakbgipbaaW.PrintWords Go.Proofs.Ytlpfobakbgipbaa.Opens
def g25 (x : S25) : Prop := ((Lit.int .i64 x.f0).wf = true) ∧ ((Lit.int .i64 x.f1).wf = true) ∧ ((Lit.int .i64 x.f2).wf = true)
theorem o25 : Opens Try.prog 25 k25 g25 := opens_struct Try.underlying25 (by kernel_rfl) (opensF_cons rfl (by rfl) (opens_int (by kernel_rfl) Try.underlying3) (opensF_cons rfl (by rfl) (opens_int (by kernel_rfl) Try.underlying3) (opensF_one rfl (opens_int (by kernel_rfl) Try.underlying3)))) (fun x : S25 => (x.f0, x.f1, x.f2)) (fun a => (⟨a.1, a.2.1, a.2.2⟩ : S25)) (fun _ => rfl)
def g27 (x : S27) : Prop := ((Lit.int .i64 x.f0).wf = true) ∧ (x.f1.length ≤ 9223372036854775807 ∧ ∀ y ∈ x.f1, (Lit.int .i64 y).wf = true) ∧ (g25 x.f2)
theorem o27 : Opens Try.prog 27 k27 g27 := opens_struct Try.underlying27 (by kernel_rfl) (opensF_cons rfl (by rfl) (opens_int (by kernel_rfl) Try.underlying3) (opensF_cons rfl (by rfl) (opens_slice (by kernel_rfl) Try.underlying23 (opens_int (by kernel_rfl) Try.underlying3)) (opensF_one rfl o25))) (fun x : S27 => (x.f0, x.f1, x.f2)) (fun a => (⟨a.1, a.2.1, a.2.2⟩ : S27)) (fun _ => rfl)
def g59 (x : S59) : Prop := ((Lit.int .i64 x.f0).wf = true) ∧ (g27 x.f1) ∧ ((Lit.int .i64 x.f2).wf = true)
theorem o59 : Opens Try.prog 59 k59 g59 := opens_struct Try.underlying59 (by kernel_rfl) (opensF_cons rfl (by rfl) (opens_int (by kernel_rfl) Try.underlying3) (opensF_cons rfl (by rfl) o27 (opensF_one rfl (opens_int (by kernel_rfl) Try.underlying3)))) (fun x : S59 => (x.f0, x.f1, x.f2)) (fun a => (⟨a.1, a.2.1, a.2.2⟩ : S59)) (fun _ => rfl)
end Go.Proofs.Ytlpfobakbgipbaa.QFnExactPutPart
