/- The kinds of the arguments of the law FnExactApplyPieces: what is read as data at these types is of the kinds that the printed functions take. No conditions. -/
import Derived.Test.YtgcidlnhgpjdpacOpens
import Derived.Test.YtgcidlnhgpjdpacQFnExactApplyPiecesx0
namespace Go.Proofs.Ytgcidlnhgpjdpac.QFnExactApplyPieces
open Go.RowKit Go.Proofs.YtgcidlnhgpjdpacW.PrintWords Go.Proofs.Ytgcidlnhgpjdpac.Opens
def g107 (x : S107) : Prop := ((Lit.int .i64 x.f0).wf = true) ∧ ((Lit.int .i64 x.f1).wf = true) ∧ (x.f2.length ≤ 9223372036854775807 ∧ ∀ y ∈ x.f2, (Lit.int .i64 y).wf = true)
theorem o107 : Opens Try.prog 107 k107 g107 := opens_struct Try.underlying107 (by kernel_rfl) (opensF_cons rfl (by rfl) (opens_int (by kernel_rfl) Try.underlying3) (opensF_cons rfl (by rfl) (opens_int (by kernel_rfl) Try.underlying3) (opensF_one rfl (opens_slice (by kernel_rfl) Try.underlying22 (opens_int (by kernel_rfl) Try.underlying3))))) (fun x : S107 => (x.f0, x.f1, x.f2)) (fun a => (⟨a.1, a.2.1, a.2.2⟩ : S107)) (fun _ => rfl)
end Go.Proofs.Ytgcidlnhgpjdpac.QFnExactApplyPieces
