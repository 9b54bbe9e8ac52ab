/- The Go functions that the law FnExactParseAddress comes to, each as a Lean function, with a proof that the call does what it says; written by a program of this session over the print of the kit. No conditions. -/
import Derived.Test.YtgcidlnhgpjdpaeDoorProg
import Derived.Below
import Derived.Deep.Draws
import Derived.Deep.AppendLies
import Derived.Maps.AppendAt
import Derived.OwnWalk
import Derived.Laws.BytesArg
import Derived.Laws.MakeOwn
import Derived.Laws.OwnMore
import Derived.Deep.OwnRows
import Derived.Tactics
import Derived.Lib.ConvBytes
import Derived.Laws.Slices
import Derived.WalkKit
import Derived.KernelRfl
import Derived.RowKit3
import Derived.Deep.LoopGhost
import Derived.Deep.QuietTactic
import Derived.BigQuiet
import Derived.WideLaws
import Derived.Deep.DeepCutAuto
import Derived.Deep.CutBlock
import Derived.Deep.RegionHeld3
import Derived.Laws.Rows
import Derived.Lib.AppendStr
import Derived.ArgAppend
import Derived.Laws.IdiomCopy
import Derived.OrdersHeld
import Derived.Laws.BitsLemmas
import Derived.RowKit
import Derived.Shelf.Strconv.Itoa3
import Derived.Lib.AppendIntMem
import Derived.Shelf.Strings.Cut
import Derived.Test.YtgcidlnhgpjdpaeDoorWWords
import Derived.Test.YtgcidlnhgpjdpaeDoorWLast
import Derived.Test.YtgcidlnhgpjdpaeDoorWTab
import Derived.Test.YtgcidlnhgpjdpaeDoorWFour
import Derived.Test.YtgcidlnhgpjdpaeDoorWQPut
import Derived.Test.YtgcidlnhgpjdpaeDoorWApart
import Derived.Test.YtgcidlnhgpjdpaeDoorWArr
import Derived.Test.YtgcidlnhgpjdpaeDoorWZeros
import Derived.Test.YtgcidlnhgpjdpaeDoorWFoot
import Derived.Test.YtgcidlnhgpjdpaeDoorWKept
import Derived.Test.YtgcidlnhgpjdpaeDoorWShare
import Derived.Test.YtgcidlnhgpjdpaeDoorWN
import Derived.Test.YtgcidlnhgpjdpaeDoorWFootNe
import Derived.Test.YtgcidlnhgpjdpaeDoorWAt
import Derived.Test.YtgcidlnhgpjdpaeDoorWEqStruct
import Derived.Test.YtgcidlnhgpjdpaeDoorWRepsOne
import Derived.Test.YtgcidlnhgpjdpaeDoorWInv
import Derived.Test.YtgcidlnhgpjdpaeDoorWInvWords
import Derived.Test.YtgcidlnhgpjdpaeDoorWGuard
import Derived.Test.YtgcidlnhgpjdpaeDoorWNEv
import Derived.Test.YtgcidlnhgpjdpaeDoorWMore
namespace Go.Proofs.YtgcidlnhgpjdpaeDoor.QFnExactParseAddress
open Go.RowKit Go.Proofs.YtgcidlnhgpjdpaeDoorW.PrintWords Go.Proofs.YtgcidlnhgpjdpaeDoorW.PrintLast Go.Proofs.YtgcidlnhgpjdpaeDoorW.PrintMore
attribute [local go_sem] max2_int min2_int max_two min_two max_three min_three max_four min_four   -- for this text's walks alone
set_option linter.unusedVariables false
set_option linter.unusedSimpArgs false



def errW : Option Int → Value
  | none => .nilIface
  | some c => .iface 0 (.int .i64 c)
theorem errW_none : errW none = .nilIface := rfl
theorem errW_some (c : Int) : errW (some c) = .iface 0 (.int .i64 c) := rfl

theorem info5 : (Tryd.prog.info? 5).map (fun i => (i.zero, i.size, i.bytes)) = some (some (.int .u8 0), 1, 1) := by kernel_rfl
theorem info9 : (Tryd.prog.info? 9).map (fun i => (i.zero, i.size, i.bytes)) = some (some (.string ⟨#[]⟩), 1, 16) := by kernel_rfl
-- the values' own types

end Go.Proofs.YtgcidlnhgpjdpaeDoor.QFnExactParseAddress
