/- The Go functions that the law FnExactCheckPath comes to, each as a Lean function, with a proof that the call does what it says; written by a program of this session over the print of the kit. No conditions. -/
import Derived.Test.YtgcidlnhgpjdpacProg
import Derived.Below
import Derived.Deep.Draws
import Derived.Deep.AppendLies
import Derived.Maps.AppendAt
import Derived.OwnWalk
import Derived.Laws.BytesArg
import Derived.Laws.MakeOwn
import Derived.Laws.OwnMore
import Derived.Deep.OwnRows
import Derived.Tactics
import Derived.Lib.ConvBytes
import Derived.Laws.Slices
import Derived.WalkKit
import Derived.KernelRfl
import Derived.RowKit3
import Derived.Deep.LoopGhost
import Derived.Deep.QuietTactic
import Derived.BigQuiet
import Derived.WideLaws
import Derived.Deep.DeepCutAuto
import Derived.Deep.CutBlock
import Derived.Deep.RegionHeld3
import Derived.Laws.Rows
import Derived.Lib.AppendStr
import Derived.ArgAppend
import Derived.Laws.IdiomCopy
import Derived.OrdersHeld
import Derived.Laws.BitsLemmas
import Derived.RowKit
import Derived.Test.YtgcidlnhgpjdpacWWords
import Derived.Test.YtgcidlnhgpjdpacWLast
import Derived.Test.YtgcidlnhgpjdpacWTab
import Derived.Test.YtgcidlnhgpjdpacWFour
import Derived.Test.YtgcidlnhgpjdpacWQPut
import Derived.Test.YtgcidlnhgpjdpacWApart
import Derived.Test.YtgcidlnhgpjdpacWArr
import Derived.Test.YtgcidlnhgpjdpacWZeros
import Derived.Test.YtgcidlnhgpjdpacWFoot
import Derived.Test.YtgcidlnhgpjdpacWKept
import Derived.Test.YtgcidlnhgpjdpacWShare
import Derived.Test.YtgcidlnhgpjdpacWN
import Derived.Test.YtgcidlnhgpjdpacWFootNe
import Derived.Test.YtgcidlnhgpjdpacWAt
import Derived.Test.YtgcidlnhgpjdpacWEqStruct
import Derived.Test.YtgcidlnhgpjdpacWRepsOne
import Derived.Test.YtgcidlnhgpjdpacWInv
import Derived.Test.YtgcidlnhgpjdpacWInvWords
import Derived.Test.YtgcidlnhgpjdpacWGuard
import Derived.Test.YtgcidlnhgpjdpacWNEv
import Derived.Test.YtgcidlnhgpjdpacWMore
namespace Go.Proofs.Ytgcidlnhgpjdpac.QFnExactCheckPath
open Go.RowKit Go.Proofs.YtgcidlnhgpjdpacW.PrintWords Go.Proofs.YtgcidlnhgpjdpacW.PrintLast Go.Proofs.YtgcidlnhgpjdpacW.PrintMore
attribute [local go_sem] max2_int min2_int max_two min_two max_three min_three max_four min_four   -- for this text's walks alone
set_option linter.unusedVariables false
set_option linter.unusedSimpArgs false



def errW : Option Int → Value
  | none => .nilIface
  | some c => .iface 0 (.int .i64 c)
theorem errW_none : errW none = .nilIface := rfl
theorem errW_some (c : Int) : errW (some c) = .iface 0 (.int .i64 c) := rfl

theorem info3 : (Try.prog.info? 3).map (fun i => (i.zero, i.size, i.bytes)) = some (some (.int .i64 0), 1, 8) := by kernel_rfl
theorem info4 : (Try.prog.info? 4).map (fun i => (i.zero, i.size, i.bytes)) = some (some (.bool false), 1, 1) := by kernel_rfl
-- the values' own types

end Go.Proofs.Ytgcidlnhgpjdpac.QFnExactCheckPath
