/- The Go functions that the law FnResources comes to, each as a Lean function, with a proof that the call does what it says; written by a program of this session over the print of the kit. No conditions. -/
import Derived.Test.YtgcidlnhgpjdpadDoorProg
import Derived.Below
import Derived.Deep.Draws
import Derived.Deep.AppendLies
import Derived.Maps.AppendAt
import Derived.OwnWalk
import Derived.Laws.BytesArg
import Derived.Laws.MakeOwn
import Derived.Laws.OwnMore
import Derived.Deep.OwnRows
import Derived.Tactics
import Derived.Lib.ConvBytes
import Derived.Laws.Slices
import Derived.WalkKit
import Derived.KernelRfl
import Derived.RowKit3
import Derived.Deep.LoopGhost
import Derived.Deep.QuietTactic
import Derived.BigQuiet
import Derived.WideLaws
import Derived.Deep.DeepCutAuto
import Derived.Deep.CutBlock
import Derived.Deep.RegionHeld3
import Derived.Laws.Rows
import Derived.Lib.AppendStr
import Derived.ArgAppend
import Derived.Laws.IdiomCopy
import Derived.OrdersHeld
import Derived.Laws.BitsLemmas
import Derived.RowKit
import Derived.Shelf.Strconv.Itoa3
import Derived.Lib.AppendIntMem
import Derived.Test.YtgcidlnhgpjdpadDoorWWords
import Derived.Test.YtgcidlnhgpjdpadDoorWLast
import Derived.Test.YtgcidlnhgpjdpadDoorWTab
import Derived.Test.YtgcidlnhgpjdpadDoorWFour
import Derived.Test.YtgcidlnhgpjdpadDoorWQPut
import Derived.Test.YtgcidlnhgpjdpadDoorWApart
import Derived.Test.YtgcidlnhgpjdpadDoorWArr
import Derived.Test.YtgcidlnhgpjdpadDoorWZeros
import Derived.Test.YtgcidlnhgpjdpadDoorWFoot
import Derived.Test.YtgcidlnhgpjdpadDoorWKept
import Derived.Test.YtgcidlnhgpjdpadDoorWShare
import Derived.Test.YtgcidlnhgpjdpadDoorWN
import Derived.Test.YtgcidlnhgpjdpadDoorWFootNe
import Derived.Test.YtgcidlnhgpjdpadDoorWAt
import Derived.Test.YtgcidlnhgpjdpadDoorWEqStruct
import Derived.Test.YtgcidlnhgpjdpadDoorWRepsOne
import Derived.Test.YtgcidlnhgpjdpadDoorWInv
import Derived.Test.YtgcidlnhgpjdpadDoorWInvWords
import Derived.Test.YtgcidlnhgpjdpadDoorWGuard
import Derived.Test.YtgcidlnhgpjdpadDoorWNEv
import Derived.Test.YtgcidlnhgpjdpadDoorWMore
namespace Go.Proofs.YtgcidlnhgpjdpadDoor.QFnResources
open Go.RowKit Go.Proofs.YtgcidlnhgpjdpadDoorW.PrintWords Go.Proofs.YtgcidlnhgpjdpadDoorW.PrintLast Go.Proofs.YtgcidlnhgpjdpadDoorW.PrintMore
attribute [local go_sem] max2_int min2_int max_two min_two max_three min_three max_four min_four   -- for this text's walks alone
set_option linter.unusedVariables false
set_option linter.unusedSimpArgs false



def errW : Option Int → Value
  | none => .nilIface
  | some c => .iface 0 (.int .i64 c)
theorem errW_none : errW none = .nilIface := rfl
theorem errW_some (c : Int) : errW (some c) = .iface 0 (.int .i64 c) := rfl

theorem info3 : (Tryd.prog.info? 3).map (fun i => (i.zero, i.size, i.bytes)) = some (some (.int .i64 0), 1, 8) := by kernel_rfl
-- the values' own types

end Go.Proofs.YtgcidlnhgpjdpadDoor.QFnResources
