/- The Go functions that the law FnKeyedHash comes to, each as a Lean function, with a proof that the call does what it says; written by a program of this session over the print of the kit. No conditions. -/
import Derived.Test.YtgcidlnhgpjdpabProg
import Derived.Below
import Derived.Deep.Draws
import Derived.Deep.AppendLies
import Derived.Maps.AppendAt
import Derived.OwnWalk
import Derived.Laws.BytesArg
import Derived.Laws.MakeOwn
import Derived.Laws.OwnMore
import Derived.Deep.OwnRows
import Derived.Tactics
import Derived.Lib.ConvBytes
import Derived.Laws.Slices
import Derived.WalkKit
import Derived.KernelRfl
import Derived.RowKit3
import Derived.Deep.LoopGhost
import Derived.Deep.QuietTactic
import Derived.BigQuiet
import Derived.WideLaws
import Derived.Deep.DeepCutAuto
import Derived.Deep.CutBlock
import Derived.Deep.RegionHeld3
import Derived.Laws.Rows
import Derived.Lib.AppendStr
import Derived.ArgAppend
import Derived.Laws.IdiomCopy
import Derived.OrdersHeld
import Derived.Laws.BitsLemmas
import Derived.RowKit
import Derived.Test.YtgcidlnhgpjdpabWWords
import Derived.Test.YtgcidlnhgpjdpabWLast
import Derived.Test.YtgcidlnhgpjdpabWTab
import Derived.Test.YtgcidlnhgpjdpabWFour
import Derived.Test.YtgcidlnhgpjdpabWQPut
import Derived.Test.YtgcidlnhgpjdpabWApart
import Derived.Test.YtgcidlnhgpjdpabWArr
import Derived.Test.YtgcidlnhgpjdpabWZeros
import Derived.Test.YtgcidlnhgpjdpabWFoot
import Derived.Test.YtgcidlnhgpjdpabWKept
import Derived.Test.YtgcidlnhgpjdpabWShare
import Derived.Test.YtgcidlnhgpjdpabWN
import Derived.Test.YtgcidlnhgpjdpabWFootNe
import Derived.Test.YtgcidlnhgpjdpabWAt
import Derived.Test.YtgcidlnhgpjdpabWEqStruct
import Derived.Test.YtgcidlnhgpjdpabWRepsOne
import Derived.Test.YtgcidlnhgpjdpabWInv
import Derived.Test.YtgcidlnhgpjdpabWInvWords
import Derived.Test.YtgcidlnhgpjdpabWGuard
import Derived.Test.YtgcidlnhgpjdpabWNEv
import Derived.Test.YtgcidlnhgpjdpabWMore
namespace Go.Proofs.Ytgcidlnhgpjdpab.QFnKeyedHash
open Go.RowKit Go.Proofs.YtgcidlnhgpjdpabW.PrintWords Go.Proofs.YtgcidlnhgpjdpabW.PrintLast Go.Proofs.YtgcidlnhgpjdpabW.PrintMore
attribute [local go_sem] max2_int min2_int max_two min_two max_three min_three max_four min_four   -- for this text's walks alone
set_option linter.unusedVariables false
set_option linter.unusedSimpArgs false



def errW : Option Int → Value
  | none => .nilIface
  | some c => .iface 0 (.int .i64 c)
theorem errW_none : errW none = .nilIface := rfl
theorem errW_some (c : Int) : errW (some c) = .iface 0 (.int .i64 c) := rfl

theorem info3 : (Try.prog.info? 3).map (fun i => (i.zero, i.size, i.bytes)) = some (some (.int .i64 0), 1, 8) := by kernel_rfl
theorem info5 : (Try.prog.info? 5).map (fun i => (i.zero, i.size, i.bytes)) = some (some (.int .u8 0), 1, 1) := by kernel_rfl
theorem info9 : (Try.prog.info? 9).map (fun i => (i.zero, i.size, i.bytes)) = some (some (.string ⟨#[]⟩), 1, 16) := by kernel_rfl
-- the values' own types

end Go.Proofs.Ytgcidlnhgpjdpab.QFnKeyedHash
