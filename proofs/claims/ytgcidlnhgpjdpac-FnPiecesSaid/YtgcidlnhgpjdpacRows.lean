/-
  No cell of these rows narrows 'for every input' (looked for: loops, veiled, ifaces, maps, wideKeys, modest, calm, conditions, laid).
  DERIVED. THE GIVEN ROWS OF THIS SEAT. 12 by the template 'for every input the law returns true; each argument reads behind the call as it read before'; 0 by the template 'total and deterministic' (their statements: YtgcidlnhgpjdpacTotals.lean).
  GIVEN WITH THE SEED: the statements are not yours to turn. If you find one false, say at which input.
  Laid BY PROGRAM, IN A SANDBOX (cutbox-rows.mjs): the forced cells as the released guide's own fill.sh prints them over the translation cbed17281bbdadd4… (all of the seat's roots in one cut). By AI agents, Wed Nov 11 2026. No macro, syntax, notation, axiom, sorry.
-/
import Derived.Test.YtgcidlnhgpjdpacChecked
import GoSem.Claim
import GoSem.ClaimJoined
import GoSem.ClaimMapViews
import Derived.JoinedTies
import Derived.KernelRfl
namespace Go.Proofs.Ytgcidlnhgpjdpac
/- THE CELL 'sum', in the pinned program and in every row, IS THE sha256 OF THE DUMP (.gsa) THAT YtgcidlnhgpjdpacProg.lean LOADS. Nothing in Lean hashes anything: it is a label: what it is worth is what the hold of that sum in a sandbox is worth. -/
noncomputable def Try.pinned : Pinned := { name := "ytgcidlnhgpjdpac", sum := "cbed17281bbdadd42f7eb8c65f07648f6e811c19dd06d56aafda7eac36a5116a", checked := Try.checked }
namespace Rows
def none {H : Type} : Left H := { results := [], args := [] }

/-- 'laws.FnExactDigestOf': WHATEVER THE INPUT: true; the input reads as it did. -/
def fnExactDigestOfSpec : ChangeSpec := { name := "fnExactDigestOf", fn := fun _ => fun
  | [d] => { results := [.lit (.bool true)], args := [d] }
  | _ => none }
def fnExactDigestOfRow : OpenClaim := { program := "ytgcidlnhgpjdpac", sum := "cbed17281bbdadd42f7eb8c65f07648f6e811c19dd06d56aafda7eac36a5116a", func := "loop.example/g03002/laws.FnExactDigestOf", spec := "fnExactDigestOf", apart := false }
def FnExactDigestOfSaid : Prop := fnExactDigestOfRow.holds Try.pinned (OpenSpec.ofChange fnExactDigestOfSpec)

/-- ITS FALSE NEIGHBOUR: 'it returns false'. Refute it at one input. -/
def fnExactDigestOfWrong : ChangeSpec := { name := "fnExactDigestOf", fn := fun _ => fun
  | [d] => { results := [.lit (.bool false)], args := [d] }
  | _ => none }
def FnExactDigestOfWrongFalsely : Prop := fnExactDigestOfRow.holds Try.pinned (OpenSpec.ofChange fnExactDigestOfWrong)

/-- 'laws.FnExactCheckPath': WHATEVER THE INPUT: true; the input reads as it did. -/
def fnExactCheckPathSpec : ChangeSpec := { name := "fnExactCheckPath", fn := fun _ => fun
  | [d1, d2, d3, d4, d5] => { results := [.lit (.bool true)], args := [d1, d2, d3, d4, d5] }
  | _ => none }
def fnExactCheckPathRow : OpenClaim := { program := "ytgcidlnhgpjdpac", sum := "cbed17281bbdadd42f7eb8c65f07648f6e811c19dd06d56aafda7eac36a5116a", func := "loop.example/g03002/laws.FnExactCheckPath", spec := "fnExactCheckPath", recurses := true, apart := false }
def FnExactCheckPathSaid : Prop := fnExactCheckPathRow.holds Try.pinned (OpenSpec.ofChange fnExactCheckPathSpec)

/-- ITS FALSE NEIGHBOUR: 'it returns false'. Refute it at one input. -/
def fnExactCheckPathWrong : ChangeSpec := { name := "fnExactCheckPath", fn := fun _ => fun
  | [d1, d2, d3, d4, d5] => { results := [.lit (.bool false)], args := [d1, d2, d3, d4, d5] }
  | _ => none }
def FnExactCheckPathWrongFalsely : Prop := fnExactCheckPathRow.holds Try.pinned (OpenSpec.ofChange fnExactCheckPathWrong)

/-- 'laws.FnExactIsResource': WHATEVER THE INPUT: true; the input reads as it did. -/
def fnExactIsResourceSpec : ChangeSpec := { name := "fnExactIsResource", fn := fun _ => fun
  | [d] => { results := [.lit (.bool true)], args := [d] }
  | _ => none }
def fnExactIsResourceRow : OpenClaim := { program := "ytgcidlnhgpjdpac", sum := "cbed17281bbdadd42f7eb8c65f07648f6e811c19dd06d56aafda7eac36a5116a", func := "loop.example/g03002/laws.FnExactIsResource", spec := "fnExactIsResource", apart := false }
def FnExactIsResourceSaid : Prop := fnExactIsResourceRow.holds Try.pinned (OpenSpec.ofChange fnExactIsResourceSpec)

/-- ITS FALSE NEIGHBOUR: 'it returns false'. Refute it at one input. -/
def fnExactIsResourceWrong : ChangeSpec := { name := "fnExactIsResource", fn := fun _ => fun
  | [d] => { results := [.lit (.bool false)], args := [d] }
  | _ => none }
def FnExactIsResourceWrongFalsely : Prop := fnExactIsResourceRow.holds Try.pinned (OpenSpec.ofChange fnExactIsResourceWrong)

/-- 'laws.FnExactDecodeInts': WHATEVER THE INPUT: true; the input reads as it did. -/
def fnExactDecodeIntsSpec : ChangeSpec := { name := "fnExactDecodeInts", fn := fun _ => fun
  | [d1, d2, d3] => { results := [.lit (.bool true)], args := [d1, d2, d3] }
  | _ => none }
def fnExactDecodeIntsRow : OpenClaim := { program := "ytgcidlnhgpjdpac", sum := "cbed17281bbdadd42f7eb8c65f07648f6e811c19dd06d56aafda7eac36a5116a", func := "loop.example/g03002/laws.FnExactDecodeInts", spec := "fnExactDecodeInts", apart := false }
def FnExactDecodeIntsSaid : Prop := fnExactDecodeIntsRow.holds Try.pinned (OpenSpec.ofChange fnExactDecodeIntsSpec)

/-- ITS FALSE NEIGHBOUR: 'it returns false'. Refute it at one input. -/
def fnExactDecodeIntsWrong : ChangeSpec := { name := "fnExactDecodeInts", fn := fun _ => fun
  | [d1, d2, d3] => { results := [.lit (.bool false)], args := [d1, d2, d3] }
  | _ => none }
def FnExactDecodeIntsWrongFalsely : Prop := fnExactDecodeIntsRow.holds Try.pinned (OpenSpec.ofChange fnExactDecodeIntsWrong)

/-- 'laws.FnExactPiecesOf': WHATEVER THE INPUT: true; the input reads as it did. -/
def fnExactPiecesOfSpec : ChangeSpec := { name := "fnExactPiecesOf", fn := fun _ => fun
  | [d1, d2] => { results := [.lit (.bool true)], args := [d1, d2] }
  | _ => none }
def fnExactPiecesOfRow : OpenClaim := { program := "ytgcidlnhgpjdpac", sum := "cbed17281bbdadd42f7eb8c65f07648f6e811c19dd06d56aafda7eac36a5116a", func := "loop.example/g03002/laws.FnExactPiecesOf", spec := "fnExactPiecesOf", apart := false }
def FnExactPiecesOfSaid : Prop := fnExactPiecesOfRow.holds Try.pinned (OpenSpec.ofChange fnExactPiecesOfSpec)

/-- ITS FALSE NEIGHBOUR: 'it returns false'. Refute it at one input. -/
def fnExactPiecesOfWrong : ChangeSpec := { name := "fnExactPiecesOf", fn := fun _ => fun
  | [d1, d2] => { results := [.lit (.bool false)], args := [d1, d2] }
  | _ => none }
def FnExactPiecesOfWrongFalsely : Prop := fnExactPiecesOfRow.holds Try.pinned (OpenSpec.ofChange fnExactPiecesOfWrong)

/-- 'laws.FnExactApplyPieces': WHATEVER THE INPUT: true; the input reads as it did. -/
def fnExactApplyPiecesSpec : ChangeSpec := { name := "fnExactApplyPieces", fn := fun _ => fun
  | [d1, d2] => { results := [.lit (.bool true)], args := [d1, d2] }
  | _ => none }
def fnExactApplyPiecesRow : OpenClaim := { program := "ytgcidlnhgpjdpac", sum := "cbed17281bbdadd42f7eb8c65f07648f6e811c19dd06d56aafda7eac36a5116a", func := "loop.example/g03002/laws.FnExactApplyPieces", spec := "fnExactApplyPieces", apart := false }
def FnExactApplyPiecesSaid : Prop := fnExactApplyPiecesRow.holds Try.pinned (OpenSpec.ofChange fnExactApplyPiecesSpec)

/-- ITS FALSE NEIGHBOUR: 'it returns false'. Refute it at one input. -/
def fnExactApplyPiecesWrong : ChangeSpec := { name := "fnExactApplyPieces", fn := fun _ => fun
  | [d1, d2] => { results := [.lit (.bool false)], args := [d1, d2] }
  | _ => none }
def FnExactApplyPiecesWrongFalsely : Prop := fnExactApplyPiecesRow.holds Try.pinned (OpenSpec.ofChange fnExactApplyPiecesWrong)

/-- 'laws.FnByteStrings': WHATEVER THE INPUT: true; the input reads as it did. -/
def fnByteStringsSpec : ChangeSpec := { name := "fnByteStrings", fn := fun _ => fun
  | [d] => { results := [.lit (.bool true)], args := [d] }
  | _ => none }
def fnByteStringsRow : OpenClaim := { program := "ytgcidlnhgpjdpac", sum := "cbed17281bbdadd42f7eb8c65f07648f6e811c19dd06d56aafda7eac36a5116a", func := "loop.example/g03002/laws.FnByteStrings", spec := "fnByteStrings", apart := false }
def FnByteStringsSaid : Prop := fnByteStringsRow.holds Try.pinned (OpenSpec.ofChange fnByteStringsSpec)

/-- ITS FALSE NEIGHBOUR: 'it returns false'. Refute it at one input. -/
def fnByteStringsWrong : ChangeSpec := { name := "fnByteStrings", fn := fun _ => fun
  | [d] => { results := [.lit (.bool false)], args := [d] }
  | _ => none }
def FnByteStringsWrongFalsely : Prop := fnByteStringsRow.holds Try.pinned (OpenSpec.ofChange fnByteStringsWrong)

/-- 'laws.FnPieces': WHATEVER THE INPUT: true; the input reads as it did. -/
def fnPiecesSpec : ChangeSpec := { name := "fnPieces", fn := fun _ => fun
  | [d] => { results := [.lit (.bool true)], args := [d] }
  | _ => none }
def fnPiecesRow : OpenClaim := { program := "ytgcidlnhgpjdpac", sum := "cbed17281bbdadd42f7eb8c65f07648f6e811c19dd06d56aafda7eac36a5116a", func := "loop.example/g03002/laws.FnPieces", spec := "fnPieces", apart := false }
def FnPiecesSaid : Prop := fnPiecesRow.holds Try.pinned (OpenSpec.ofChange fnPiecesSpec)

/-- ITS FALSE NEIGHBOUR: 'it returns false'. Refute it at one input. -/
def fnPiecesWrong : ChangeSpec := { name := "fnPieces", fn := fun _ => fun
  | [d] => { results := [.lit (.bool false)], args := [d] }
  | _ => none }
def FnPiecesWrongFalsely : Prop := fnPiecesRow.holds Try.pinned (OpenSpec.ofChange fnPiecesWrong)

/-- 'laws.FnExactStoredSize': WHATEVER THE INPUT: true; the input reads as it did. -/
def fnExactStoredSizeSpec : ChangeSpec := { name := "fnExactStoredSize", fn := fun _ => fun
  | [d] => { results := [.lit (.bool true)], args := [d] }
  | _ => none }
def fnExactStoredSizeRow : OpenClaim := { program := "ytgcidlnhgpjdpac", sum := "cbed17281bbdadd42f7eb8c65f07648f6e811c19dd06d56aafda7eac36a5116a", func := "loop.example/g03002/laws.FnExactStoredSize", spec := "fnExactStoredSize", apart := false }
def FnExactStoredSizeSaid : Prop := fnExactStoredSizeRow.holds Try.pinned (OpenSpec.ofChange fnExactStoredSizeSpec)

/-- ITS FALSE NEIGHBOUR: 'it returns false'. Refute it at one input. -/
def fnExactStoredSizeWrong : ChangeSpec := { name := "fnExactStoredSize", fn := fun _ => fun
  | [d] => { results := [.lit (.bool false)], args := [d] }
  | _ => none }
def FnExactStoredSizeWrongFalsely : Prop := fnExactStoredSizeRow.holds Try.pinned (OpenSpec.ofChange fnExactStoredSizeWrong)

/-- 'laws.FnVarints': WHATEVER THE INPUT: true; the input reads as it did. -/
def fnVarintsSpec : ChangeSpec := { name := "fnVarints", fn := fun _ => fun
  | [d] => { results := [.lit (.bool true)], args := [d] }
  | _ => none }
def fnVarintsRow : OpenClaim := { program := "ytgcidlnhgpjdpac", sum := "cbed17281bbdadd42f7eb8c65f07648f6e811c19dd06d56aafda7eac36a5116a", func := "loop.example/g03002/laws.FnVarints", spec := "fnVarints", apart := false }
def FnVarintsSaid : Prop := fnVarintsRow.holds Try.pinned (OpenSpec.ofChange fnVarintsSpec)

/-- ITS FALSE NEIGHBOUR: 'it returns false'. Refute it at one input. -/
def fnVarintsWrong : ChangeSpec := { name := "fnVarints", fn := fun _ => fun
  | [d] => { results := [.lit (.bool false)], args := [d] }
  | _ => none }
def FnVarintsWrongFalsely : Prop := fnVarintsRow.holds Try.pinned (OpenSpec.ofChange fnVarintsWrong)

/-- 'laws.FnExactEqualStores': WHATEVER THE INPUT: true; the input reads as it did. -/
def fnExactEqualStoresSpec : ChangeSpec := { name := "fnExactEqualStores", fn := fun _ => fun
  | [d1, d2] => { results := [.lit (.bool true)], args := [d1, d2] }
  | _ => none }
def fnExactEqualStoresRow : OpenClaim := { program := "ytgcidlnhgpjdpac", sum := "cbed17281bbdadd42f7eb8c65f07648f6e811c19dd06d56aafda7eac36a5116a", func := "loop.example/g03002/laws.FnExactEqualStores", spec := "fnExactEqualStores", unfollowed := true, recurses := true, apart := false }
def FnExactEqualStoresSaid : Prop := fnExactEqualStoresRow.holds Try.pinned (OpenSpec.ofChange fnExactEqualStoresSpec)

/-- ITS FALSE NEIGHBOUR: 'it returns false'. Refute it at one input. -/
def fnExactEqualStoresWrong : ChangeSpec := { name := "fnExactEqualStores", fn := fun _ => fun
  | [d1, d2] => { results := [.lit (.bool false)], args := [d1, d2] }
  | _ => none }
def FnExactEqualStoresWrongFalsely : Prop := fnExactEqualStoresRow.holds Try.pinned (OpenSpec.ofChange fnExactEqualStoresWrong)

/-- 'laws.FnExactIsSite': WHATEVER THE INPUT: true; the input reads as it did. -/
def fnExactIsSiteSpec : ChangeSpec := { name := "fnExactIsSite", fn := fun _ => fun
  | [d] => { results := [.lit (.bool true)], args := [d] }
  | _ => none }
def fnExactIsSiteRow : OpenClaim := { program := "ytgcidlnhgpjdpac", sum := "cbed17281bbdadd42f7eb8c65f07648f6e811c19dd06d56aafda7eac36a5116a", func := "loop.example/g03002/laws.FnExactIsSite", spec := "fnExactIsSite", unfollowed := true, recurses := true, apart := false }
def FnExactIsSiteSaid : Prop := fnExactIsSiteRow.holds Try.pinned (OpenSpec.ofChange fnExactIsSiteSpec)

/-- ITS FALSE NEIGHBOUR: 'it returns false'. Refute it at one input. -/
def fnExactIsSiteWrong : ChangeSpec := { name := "fnExactIsSite", fn := fun _ => fun
  | [d] => { results := [.lit (.bool false)], args := [d] }
  | _ => none }
def FnExactIsSiteWrongFalsely : Prop := fnExactIsSiteRow.holds Try.pinned (OpenSpec.ofChange fnExactIsSiteWrong)

/- THE SECOND FORM. 'bulk': how many values and letters a reading holds, each counted each time it is reached (what is shared counts as often as it is met; a slice's spare places count too). A statement '..UptoSaid' is the law's where the arguments, and the package variables that the reading takes, are together of bulk at most 1048576: NARROWER than '..Said'. Prove '..Said' where nothing that the law and all that it calls make is longer than what came in: it says more and counts as full. Else prove '..UptoSaid'. A law counts once. -/
mutual
def uptoBulk {H : Type} : DataW H → Nat
  | .lit (.string bytes) => bytes.length + 1
  | .lit _ => 1
  | .nil => 1
  | .ptr d => uptoBulk d + 1
  | .slice elems spare => uptoBulkAll elems + uptoBulkAll spare + 1
  | .agg parts => uptoBulkAll parts + 1
  | .iface _ d => uptoBulk d + 1
  | .map entries => uptoBulkEntries entries + 1
  | .held _ => 1
def uptoBulkAll {H : Type} : List (DataW H) → Nat
  | [] => 0
  | d :: r => uptoBulk d + uptoBulkAll r
def uptoBulkEntries {H : Type} : List (Lit × DataW H) → Nat
  | [] => 0
  | x :: r => uptoBulkEntry x + uptoBulkEntries r
def uptoBulkEntry {H : Type} : Lit × DataW H → Nat
  | (.string bytes, d) => bytes.length + uptoBulk d + 1
  | (_, d) => uptoBulk d + 1
 end
def uptoSmall : (H : Type) → List (DataW H) → Bool := fun _ ds => decide (uptoBulkAll ds ≤ 1048576)
def OpenSpec.upto (s : _root_.Go.ChangeSpec) : _root_.Go.OpenSpec := { _root_.Go.OpenSpec.ofChange s with cond := some uptoSmall }

/-- 'laws.FnExactDigestOf', WHERE WHAT IT READS IS OF BULK AT MOST 1048576: true; the input reads as it did. -/
def fnExactDigestOfUptoRow : OpenClaim := { program := "ytgcidlnhgpjdpac", sum := "cbed17281bbdadd42f7eb8c65f07648f6e811c19dd06d56aafda7eac36a5116a", func := "loop.example/g03002/laws.FnExactDigestOf", spec := "fnExactDigestOf", apart := false, narrowed := true }
def FnExactDigestOfUptoSaid : Prop := fnExactDigestOfUptoRow.holds Try.pinned (OpenSpec.upto fnExactDigestOfSpec)

/-- 'laws.FnExactCheckPath', WHERE WHAT IT READS IS OF BULK AT MOST 1048576: true; the input reads as it did. -/
def fnExactCheckPathUptoRow : OpenClaim := { program := "ytgcidlnhgpjdpac", sum := "cbed17281bbdadd42f7eb8c65f07648f6e811c19dd06d56aafda7eac36a5116a", func := "loop.example/g03002/laws.FnExactCheckPath", spec := "fnExactCheckPath", recurses := true, apart := false, narrowed := true }
def FnExactCheckPathUptoSaid : Prop := fnExactCheckPathUptoRow.holds Try.pinned (OpenSpec.upto fnExactCheckPathSpec)

/-- 'laws.FnExactIsResource', WHERE WHAT IT READS IS OF BULK AT MOST 1048576: true; the input reads as it did. -/
def fnExactIsResourceUptoRow : OpenClaim := { program := "ytgcidlnhgpjdpac", sum := "cbed17281bbdadd42f7eb8c65f07648f6e811c19dd06d56aafda7eac36a5116a", func := "loop.example/g03002/laws.FnExactIsResource", spec := "fnExactIsResource", apart := false, narrowed := true }
def FnExactIsResourceUptoSaid : Prop := fnExactIsResourceUptoRow.holds Try.pinned (OpenSpec.upto fnExactIsResourceSpec)

/-- 'laws.FnExactDecodeInts', WHERE WHAT IT READS IS OF BULK AT MOST 1048576: true; the input reads as it did. -/
def fnExactDecodeIntsUptoRow : OpenClaim := { program := "ytgcidlnhgpjdpac", sum := "cbed17281bbdadd42f7eb8c65f07648f6e811c19dd06d56aafda7eac36a5116a", func := "loop.example/g03002/laws.FnExactDecodeInts", spec := "fnExactDecodeInts", apart := false, narrowed := true }
def FnExactDecodeIntsUptoSaid : Prop := fnExactDecodeIntsUptoRow.holds Try.pinned (OpenSpec.upto fnExactDecodeIntsSpec)

/-- 'laws.FnExactPiecesOf', WHERE WHAT IT READS IS OF BULK AT MOST 1048576: true; the input reads as it did. -/
def fnExactPiecesOfUptoRow : OpenClaim := { program := "ytgcidlnhgpjdpac", sum := "cbed17281bbdadd42f7eb8c65f07648f6e811c19dd06d56aafda7eac36a5116a", func := "loop.example/g03002/laws.FnExactPiecesOf", spec := "fnExactPiecesOf", apart := false, narrowed := true }
def FnExactPiecesOfUptoSaid : Prop := fnExactPiecesOfUptoRow.holds Try.pinned (OpenSpec.upto fnExactPiecesOfSpec)

/-- 'laws.FnExactApplyPieces', WHERE WHAT IT READS IS OF BULK AT MOST 1048576: true; the input reads as it did. -/
def fnExactApplyPiecesUptoRow : OpenClaim := { program := "ytgcidlnhgpjdpac", sum := "cbed17281bbdadd42f7eb8c65f07648f6e811c19dd06d56aafda7eac36a5116a", func := "loop.example/g03002/laws.FnExactApplyPieces", spec := "fnExactApplyPieces", apart := false, narrowed := true }
def FnExactApplyPiecesUptoSaid : Prop := fnExactApplyPiecesUptoRow.holds Try.pinned (OpenSpec.upto fnExactApplyPiecesSpec)

/-- 'laws.FnByteStrings', WHERE WHAT IT READS IS OF BULK AT MOST 1048576: true; the input reads as it did. -/
def fnByteStringsUptoRow : OpenClaim := { program := "ytgcidlnhgpjdpac", sum := "cbed17281bbdadd42f7eb8c65f07648f6e811c19dd06d56aafda7eac36a5116a", func := "loop.example/g03002/laws.FnByteStrings", spec := "fnByteStrings", apart := false, narrowed := true }
def FnByteStringsUptoSaid : Prop := fnByteStringsUptoRow.holds Try.pinned (OpenSpec.upto fnByteStringsSpec)

/-- 'laws.FnPieces', WHERE WHAT IT READS IS OF BULK AT MOST 1048576: true; the input reads as it did. -/
def fnPiecesUptoRow : OpenClaim := { program := "ytgcidlnhgpjdpac", sum := "cbed17281bbdadd42f7eb8c65f07648f6e811c19dd06d56aafda7eac36a5116a", func := "loop.example/g03002/laws.FnPieces", spec := "fnPieces", apart := false, narrowed := true }
def FnPiecesUptoSaid : Prop := fnPiecesUptoRow.holds Try.pinned (OpenSpec.upto fnPiecesSpec)

/-- 'laws.FnExactStoredSize', WHERE WHAT IT READS IS OF BULK AT MOST 1048576: true; the input reads as it did. -/
def fnExactStoredSizeUptoRow : OpenClaim := { program := "ytgcidlnhgpjdpac", sum := "cbed17281bbdadd42f7eb8c65f07648f6e811c19dd06d56aafda7eac36a5116a", func := "loop.example/g03002/laws.FnExactStoredSize", spec := "fnExactStoredSize", apart := false, narrowed := true }
def FnExactStoredSizeUptoSaid : Prop := fnExactStoredSizeUptoRow.holds Try.pinned (OpenSpec.upto fnExactStoredSizeSpec)

/-- 'laws.FnVarints', WHERE WHAT IT READS IS OF BULK AT MOST 1048576: true; the input reads as it did. -/
def fnVarintsUptoRow : OpenClaim := { program := "ytgcidlnhgpjdpac", sum := "cbed17281bbdadd42f7eb8c65f07648f6e811c19dd06d56aafda7eac36a5116a", func := "loop.example/g03002/laws.FnVarints", spec := "fnVarints", apart := false, narrowed := true }
def FnVarintsUptoSaid : Prop := fnVarintsUptoRow.holds Try.pinned (OpenSpec.upto fnVarintsSpec)

/-- 'laws.FnExactEqualStores', WHERE WHAT IT READS IS OF BULK AT MOST 1048576: true; the input reads as it did. -/
def fnExactEqualStoresUptoRow : OpenClaim := { program := "ytgcidlnhgpjdpac", sum := "cbed17281bbdadd42f7eb8c65f07648f6e811c19dd06d56aafda7eac36a5116a", func := "loop.example/g03002/laws.FnExactEqualStores", spec := "fnExactEqualStores", unfollowed := true, recurses := true, apart := false, narrowed := true }
def FnExactEqualStoresUptoSaid : Prop := fnExactEqualStoresUptoRow.holds Try.pinned (OpenSpec.upto fnExactEqualStoresSpec)

/-- 'laws.FnExactIsSite', WHERE WHAT IT READS IS OF BULK AT MOST 1048576: true; the input reads as it did. -/
def fnExactIsSiteUptoRow : OpenClaim := { program := "ytgcidlnhgpjdpac", sum := "cbed17281bbdadd42f7eb8c65f07648f6e811c19dd06d56aafda7eac36a5116a", func := "loop.example/g03002/laws.FnExactIsSite", spec := "fnExactIsSite", unfollowed := true, recurses := true, apart := false, narrowed := true }
def FnExactIsSiteUptoSaid : Prop := fnExactIsSiteUptoRow.holds Try.pinned (OpenSpec.upto fnExactIsSiteSpec)

end Rows
end Go.Proofs.Ytgcidlnhgpjdpac
