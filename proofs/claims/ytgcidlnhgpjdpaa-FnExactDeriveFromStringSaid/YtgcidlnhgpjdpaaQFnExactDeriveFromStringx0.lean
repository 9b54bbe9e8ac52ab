/- The Go functions that the law FnExactDeriveFromString comes to, each as a Lean function, with a proof that the call does what it says; written by a program of this session over the print of the kit. No conditions. -/
import Derived.Test.YtgcidlnhgpjdpaaProg
import Derived.Below
import Derived.Deep.Draws
import Derived.Deep.AppendLies
import Derived.Maps.AppendAt
import Derived.OwnWalk
import Derived.Laws.BytesArg
import Derived.Laws.MakeOwn
import Derived.Laws.OwnMore
import Derived.Deep.OwnRows
import Derived.Tactics
import Derived.Lib.ConvBytes
import Derived.Laws.Slices
import Derived.WalkKit
import Derived.KernelRfl
import Derived.RowKit3
import Derived.Deep.LoopGhost
import Derived.Deep.QuietTactic
import Derived.BigQuiet
import Derived.WideLaws
import Derived.Deep.DeepCutAuto
import Derived.Deep.CutBlock
import Derived.Deep.RegionHeld3
import Derived.Laws.Rows
import Derived.Lib.AppendStr
import Derived.ArgAppend
import Derived.Laws.IdiomCopy
import Derived.OrdersHeld
import Derived.Laws.BitsLemmas
import Derived.RowKit
import Derived.Test.YtgcidlnhgpjdpaaWWords
import Derived.Test.YtgcidlnhgpjdpaaWLast
import Derived.Test.YtgcidlnhgpjdpaaWTab
import Derived.Test.YtgcidlnhgpjdpaaWFour
import Derived.Test.YtgcidlnhgpjdpaaWQPut
import Derived.Test.YtgcidlnhgpjdpaaWApart
import Derived.Test.YtgcidlnhgpjdpaaWArr
import Derived.Test.YtgcidlnhgpjdpaaWZeros
import Derived.Test.YtgcidlnhgpjdpaaWFoot
import Derived.Test.YtgcidlnhgpjdpaaWKept
import Derived.Test.YtgcidlnhgpjdpaaWShare
import Derived.Test.YtgcidlnhgpjdpaaWN
import Derived.Test.YtgcidlnhgpjdpaaWFootNe
import Derived.Test.YtgcidlnhgpjdpaaWAt
import Derived.Test.YtgcidlnhgpjdpaaWEqStruct
import Derived.Test.YtgcidlnhgpjdpaaWRepsOne
import Derived.Test.YtgcidlnhgpjdpaaWInv
import Derived.Test.YtgcidlnhgpjdpaaWInvWords
import Derived.Test.YtgcidlnhgpjdpaaWGuard
import Derived.Test.YtgcidlnhgpjdpaaWNEv
import Derived.Test.YtgcidlnhgpjdpaaWMore
namespace Go.Proofs.Ytgcidlnhgpjdpaa.QFnExactDeriveFromString
open Go.RowKit Go.Proofs.YtgcidlnhgpjdpaaW.PrintWords Go.Proofs.YtgcidlnhgpjdpaaW.PrintLast Go.Proofs.YtgcidlnhgpjdpaaW.PrintMore
attribute [local go_sem] max2_int min2_int max_two min_two max_three min_three max_four min_four   -- for this text's walks alone
set_option linter.unusedVariables false
set_option linter.unusedSimpArgs false



def errW : Option Int → Value
  | none => .nilIface
  | some c => .iface 0 (.int .i64 c)
theorem errW_none : errW none = .nilIface := rfl
theorem errW_some (c : Int) : errW (some c) = .iface 0 (.int .i64 c) := rfl

theorem info3 : (Try.prog.info? 3).map (fun i => (i.zero, i.size, i.bytes)) = some (some (.int .i64 0), 1, 8) := by kernel_rfl
theorem info5 : (Try.prog.info? 5).map (fun i => (i.zero, i.size, i.bytes)) = some (some (.int .u8 0), 1, 1) := by kernel_rfl
-- the values' own types

end Go.Proofs.Ytgcidlnhgpjdpaa.QFnExactDeriveFromString
