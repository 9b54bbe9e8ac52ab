/-
  No cell of these rows narrows 'for every input' (looked for: loops, veiled, ifaces, maps, wideKeys, modest, calm, conditions, laid).
  DERIVED. THE GIVEN ROWS OF THIS SEAT. 6 by the template 'for every input the law returns true; each argument reads behind the call as it read before'; 0 by the template 'total and deterministic' (their statements: YtgcidlnhgpjdpadTotals.lean).
  GIVEN WITH THE SEED: the statements are not yours to turn. If you find one false, say at which input.
  Laid BY PROGRAM, IN A SANDBOX (cutbox-rows.mjs): the forced cells as the released guide's own fill.sh prints them over the translation 93c863f29470bc4b… (all of the seat's roots in one cut). By AI agents, Wed Nov 11 2026. No macro, syntax, notation, axiom, sorry.
-/
import Derived.Test.YtgcidlnhgpjdpadChecked
import GoSem.Claim
import GoSem.ClaimJoined
import GoSem.ClaimMapViews
import Derived.JoinedTies
import Derived.KernelRfl
namespace Go.Proofs.Ytgcidlnhgpjdpad
/- THE CELL 'sum', in the pinned program and in every row, IS THE sha256 OF THE DUMP (.gsa) THAT YtgcidlnhgpjdpadProg.lean LOADS. Nothing in Lean hashes anything: it is a label: what it is worth is what the hold of that sum in a sandbox is worth. -/
noncomputable def Try.pinned : Pinned := { name := "ytgcidlnhgpjdpad", sum := "93c863f29470bc4bc9fd09276f6fc59507d93e1b4626cf961564b79ce7c2b2c7", checked := Try.checked }
namespace Rows
def none {H : Type} : Left H := { results := [], args := [] }

/-- 'laws.FnPaths': WHATEVER THE INPUT: true; the input reads as it did. -/
def fnPathsSpec : ChangeSpec := { name := "fnPaths", fn := fun _ => fun
  | [d] => { results := [.lit (.bool true)], args := [d] }
  | _ => none }
def fnPathsRow : OpenClaim := { program := "ytgcidlnhgpjdpad", sum := "93c863f29470bc4bc9fd09276f6fc59507d93e1b4626cf961564b79ce7c2b2c7", func := "loop.example/g03002/laws.FnPaths", spec := "fnPaths", recurses := true, apart := false }
def FnPathsSaid : Prop := fnPathsRow.holds Try.pinned (OpenSpec.ofChange fnPathsSpec)

/-- ITS FALSE NEIGHBOUR: 'it returns false'. Refute it at one input. -/
def fnPathsWrong : ChangeSpec := { name := "fnPaths", fn := fun _ => fun
  | [d] => { results := [.lit (.bool false)], args := [d] }
  | _ => none }
def FnPathsWrongFalsely : Prop := fnPathsRow.holds Try.pinned (OpenSpec.ofChange fnPathsWrong)

/-- 'laws.FnExactAnswerAt': WHATEVER THE INPUT: true; the input reads as it did. -/
def fnExactAnswerAtSpec : ChangeSpec := { name := "fnExactAnswerAt", fn := fun _ => fun
  | [d1, d2, d3] => { results := [.lit (.bool true)], args := [d1, d2, d3] }
  | _ => none }
def fnExactAnswerAtRow : OpenClaim := { program := "ytgcidlnhgpjdpad", sum := "93c863f29470bc4bc9fd09276f6fc59507d93e1b4626cf961564b79ce7c2b2c7", func := "loop.example/g03002/laws.FnExactAnswerAt", spec := "fnExactAnswerAt", apart := false }
def FnExactAnswerAtSaid : Prop := fnExactAnswerAtRow.holds Try.pinned (OpenSpec.ofChange fnExactAnswerAtSpec)

/-- ITS FALSE NEIGHBOUR: 'it returns false'. Refute it at one input. -/
def fnExactAnswerAtWrong : ChangeSpec := { name := "fnExactAnswerAt", fn := fun _ => fun
  | [d1, d2, d3] => { results := [.lit (.bool false)], args := [d1, d2, d3] }
  | _ => none }
def FnExactAnswerAtWrongFalsely : Prop := fnExactAnswerAtRow.holds Try.pinned (OpenSpec.ofChange fnExactAnswerAtWrong)

/-- 'laws.FnExactIsSteady': WHATEVER THE INPUT: true; the input reads as it did. -/
def fnExactIsSteadySpec : ChangeSpec := { name := "fnExactIsSteady", fn := fun _ => fun
  | [d1, d2, d3, d4] => { results := [.lit (.bool true)], args := [d1, d2, d3, d4] }
  | _ => none }
def fnExactIsSteadyRow : OpenClaim := { program := "ytgcidlnhgpjdpad", sum := "93c863f29470bc4bc9fd09276f6fc59507d93e1b4626cf961564b79ce7c2b2c7", func := "loop.example/g03002/laws.FnExactIsSteady", spec := "fnExactIsSteady", apart := false }
def FnExactIsSteadySaid : Prop := fnExactIsSteadyRow.holds Try.pinned (OpenSpec.ofChange fnExactIsSteadySpec)

/-- ITS FALSE NEIGHBOUR: 'it returns false'. Refute it at one input. -/
def fnExactIsSteadyWrong : ChangeSpec := { name := "fnExactIsSteady", fn := fun _ => fun
  | [d1, d2, d3, d4] => { results := [.lit (.bool false)], args := [d1, d2, d3, d4] }
  | _ => none }
def FnExactIsSteadyWrongFalsely : Prop := fnExactIsSteadyRow.holds Try.pinned (OpenSpec.ofChange fnExactIsSteadyWrong)

/-- 'laws.FnExactGetPart': WHATEVER THE INPUT: true; the input reads as it did. -/
def fnExactGetPartSpec : ChangeSpec := { name := "fnExactGetPart", fn := fun _ => fun
  | [d1, d2] => { results := [.lit (.bool true)], args := [d1, d2] }
  | _ => none }
def fnExactGetPartRow : OpenClaim := { program := "ytgcidlnhgpjdpad", sum := "93c863f29470bc4bc9fd09276f6fc59507d93e1b4626cf961564b79ce7c2b2c7", func := "loop.example/g03002/laws.FnExactGetPart", spec := "fnExactGetPart", unfollowed := true, recurses := true, apart := false }
def FnExactGetPartSaid : Prop := fnExactGetPartRow.holds Try.pinned (OpenSpec.ofChange fnExactGetPartSpec)

/-- ITS FALSE NEIGHBOUR: 'it returns false'. Refute it at one input. -/
def fnExactGetPartWrong : ChangeSpec := { name := "fnExactGetPart", fn := fun _ => fun
  | [d1, d2] => { results := [.lit (.bool false)], args := [d1, d2] }
  | _ => none }
def FnExactGetPartWrongFalsely : Prop := fnExactGetPartRow.holds Try.pinned (OpenSpec.ofChange fnExactGetPartWrong)

/-- 'laws.FnExactIsStore': WHATEVER THE INPUT: true; the input reads as it did. -/
def fnExactIsStoreSpec : ChangeSpec := { name := "fnExactIsStore", fn := fun _ => fun
  | [d] => { results := [.lit (.bool true)], args := [d] }
  | _ => none }
def fnExactIsStoreRow : OpenClaim := { program := "ytgcidlnhgpjdpad", sum := "93c863f29470bc4bc9fd09276f6fc59507d93e1b4626cf961564b79ce7c2b2c7", func := "loop.example/g03002/laws.FnExactIsStore", spec := "fnExactIsStore", apart := false }
def FnExactIsStoreSaid : Prop := fnExactIsStoreRow.holds Try.pinned (OpenSpec.ofChange fnExactIsStoreSpec)

/-- ITS FALSE NEIGHBOUR: 'it returns false'. Refute it at one input. -/
def fnExactIsStoreWrong : ChangeSpec := { name := "fnExactIsStore", fn := fun _ => fun
  | [d] => { results := [.lit (.bool false)], args := [d] }
  | _ => none }
def FnExactIsStoreWrongFalsely : Prop := fnExactIsStoreRow.holds Try.pinned (OpenSpec.ofChange fnExactIsStoreWrong)

/-- 'laws.FnExactFollowAt': WHATEVER THE INPUT: true; the input reads as it did. -/
def fnExactFollowAtSpec : ChangeSpec := { name := "fnExactFollowAt", fn := fun _ => fun
  | [d1, d2, d3] => { results := [.lit (.bool true)], args := [d1, d2, d3] }
  | _ => none }
def fnExactFollowAtRow : OpenClaim := { program := "ytgcidlnhgpjdpad", sum := "93c863f29470bc4bc9fd09276f6fc59507d93e1b4626cf961564b79ce7c2b2c7", func := "loop.example/g03002/laws.FnExactFollowAt", spec := "fnExactFollowAt", apart := false }
def FnExactFollowAtSaid : Prop := fnExactFollowAtRow.holds Try.pinned (OpenSpec.ofChange fnExactFollowAtSpec)

/-- ITS FALSE NEIGHBOUR: 'it returns false'. Refute it at one input. -/
def fnExactFollowAtWrong : ChangeSpec := { name := "fnExactFollowAt", fn := fun _ => fun
  | [d1, d2, d3] => { results := [.lit (.bool false)], args := [d1, d2, d3] }
  | _ => none }
def FnExactFollowAtWrongFalsely : Prop := fnExactFollowAtRow.holds Try.pinned (OpenSpec.ofChange fnExactFollowAtWrong)

/- THE SECOND FORM. 'bulk': how many values and letters a reading holds, each counted each time it is reached (what is shared counts as often as it is met; a slice's spare places count too). A statement '..UptoSaid' is the law's where the arguments, and the package variables that the reading takes, are together of bulk at most 1048576: NARROWER than '..Said'. Prove '..Said' where nothing that the law and all that it calls make is longer than what came in: it says more and counts as full. Else prove '..UptoSaid'. A law counts once. -/
mutual
def uptoBulk {H : Type} : DataW H → Nat
  | .lit (.string bytes) => bytes.length + 1
  | .lit _ => 1
  | .nil => 1
  | .ptr d => uptoBulk d + 1
  | .slice elems spare => uptoBulkAll elems + uptoBulkAll spare + 1
  | .agg parts => uptoBulkAll parts + 1
  | .iface _ d => uptoBulk d + 1
  | .map entries => uptoBulkEntries entries + 1
  | .held _ => 1
def uptoBulkAll {H : Type} : List (DataW H) → Nat
  | [] => 0
  | d :: r => uptoBulk d + uptoBulkAll r
def uptoBulkEntries {H : Type} : List (Lit × DataW H) → Nat
  | [] => 0
  | x :: r => uptoBulkEntry x + uptoBulkEntries r
def uptoBulkEntry {H : Type} : Lit × DataW H → Nat
  | (.string bytes, d) => bytes.length + uptoBulk d + 1
  | (_, d) => uptoBulk d + 1
 end
def uptoSmall : (H : Type) → List (DataW H) → Bool := fun _ ds => decide (uptoBulkAll ds ≤ 1048576)
def OpenSpec.upto (s : _root_.Go.ChangeSpec) : _root_.Go.OpenSpec := { _root_.Go.OpenSpec.ofChange s with cond := some uptoSmall }

/-- 'laws.FnPaths', WHERE WHAT IT READS IS OF BULK AT MOST 1048576: true; the input reads as it did. -/
def fnPathsUptoRow : OpenClaim := { program := "ytgcidlnhgpjdpad", sum := "93c863f29470bc4bc9fd09276f6fc59507d93e1b4626cf961564b79ce7c2b2c7", func := "loop.example/g03002/laws.FnPaths", spec := "fnPaths", recurses := true, apart := false, narrowed := true }
def FnPathsUptoSaid : Prop := fnPathsUptoRow.holds Try.pinned (OpenSpec.upto fnPathsSpec)

/-- 'laws.FnExactAnswerAt', WHERE WHAT IT READS IS OF BULK AT MOST 1048576: true; the input reads as it did. -/
def fnExactAnswerAtUptoRow : OpenClaim := { program := "ytgcidlnhgpjdpad", sum := "93c863f29470bc4bc9fd09276f6fc59507d93e1b4626cf961564b79ce7c2b2c7", func := "loop.example/g03002/laws.FnExactAnswerAt", spec := "fnExactAnswerAt", apart := false, narrowed := true }
def FnExactAnswerAtUptoSaid : Prop := fnExactAnswerAtUptoRow.holds Try.pinned (OpenSpec.upto fnExactAnswerAtSpec)

/-- 'laws.FnExactIsSteady', WHERE WHAT IT READS IS OF BULK AT MOST 1048576: true; the input reads as it did. -/
def fnExactIsSteadyUptoRow : OpenClaim := { program := "ytgcidlnhgpjdpad", sum := "93c863f29470bc4bc9fd09276f6fc59507d93e1b4626cf961564b79ce7c2b2c7", func := "loop.example/g03002/laws.FnExactIsSteady", spec := "fnExactIsSteady", apart := false, narrowed := true }
def FnExactIsSteadyUptoSaid : Prop := fnExactIsSteadyUptoRow.holds Try.pinned (OpenSpec.upto fnExactIsSteadySpec)

/-- 'laws.FnExactGetPart', WHERE WHAT IT READS IS OF BULK AT MOST 1048576: true; the input reads as it did. -/
def fnExactGetPartUptoRow : OpenClaim := { program := "ytgcidlnhgpjdpad", sum := "93c863f29470bc4bc9fd09276f6fc59507d93e1b4626cf961564b79ce7c2b2c7", func := "loop.example/g03002/laws.FnExactGetPart", spec := "fnExactGetPart", unfollowed := true, recurses := true, apart := false, narrowed := true }
def FnExactGetPartUptoSaid : Prop := fnExactGetPartUptoRow.holds Try.pinned (OpenSpec.upto fnExactGetPartSpec)

/-- 'laws.FnExactIsStore', WHERE WHAT IT READS IS OF BULK AT MOST 1048576: true; the input reads as it did. -/
def fnExactIsStoreUptoRow : OpenClaim := { program := "ytgcidlnhgpjdpad", sum := "93c863f29470bc4bc9fd09276f6fc59507d93e1b4626cf961564b79ce7c2b2c7", func := "loop.example/g03002/laws.FnExactIsStore", spec := "fnExactIsStore", apart := false, narrowed := true }
def FnExactIsStoreUptoSaid : Prop := fnExactIsStoreUptoRow.holds Try.pinned (OpenSpec.upto fnExactIsStoreSpec)

/-- 'laws.FnExactFollowAt', WHERE WHAT IT READS IS OF BULK AT MOST 1048576: true; the input reads as it did. -/
def fnExactFollowAtUptoRow : OpenClaim := { program := "ytgcidlnhgpjdpad", sum := "93c863f29470bc4bc9fd09276f6fc59507d93e1b4626cf961564b79ce7c2b2c7", func := "loop.example/g03002/laws.FnExactFollowAt", spec := "fnExactFollowAt", apart := false, narrowed := true }
def FnExactFollowAtUptoSaid : Prop := fnExactFollowAtUptoRow.holds Try.pinned (OpenSpec.upto fnExactFollowAtSpec)

end Rows
end Go.Proofs.Ytgcidlnhgpjdpad
