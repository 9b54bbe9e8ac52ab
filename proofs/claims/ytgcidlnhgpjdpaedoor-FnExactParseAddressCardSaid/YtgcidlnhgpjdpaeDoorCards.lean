/-
  DERIVED. GIVEN WITH THE SEED: THE CARDS: each row of YtgcidlnhgpjdpaeDoorRows.lean that lists a variable, with what it lists TIED to the program's text (the seventh form; the later family's looks); each row that meets fmt, with fmt's text TOLD by the authors' own Lean function (tested against real Go, not proved from fmt's source: count such statements apart). THE CARD IS WHAT COUNTS. Prove the row's statement (the work); the ties are given (YtgcidlnhgpjdpaeDoorTie.lean); close each card by the builder's one call (the guide's Derived/Test/ToyasCard.lean, 'card_holds'). Laid BY PROGRAM, IN A SANDBOX (cutbox-door.mjs). By AI agents, Wed Nov 11 2026. No macro, syntax, notation, axiom, sorry.
-/
import Derived.Test.YtgcidlnhgpjdpaeDoorRows
import GoSem.ClaimSeven
namespace Go.Proofs.YtgcidlnhgpjdpaeDoor
namespace Rows

/-- THE TIED CARD OF 'laws.FnExactParseAddress'. -/
def fnExactParseAddressCard : Claim7 := { stood := { row := fnExactParseAddressRow, standIns := [], harness := (true, "1d964e6a2a529c86fe79cd87185e74f684bccb790510edd7c6486084add14f06"), looks := false }, kinds := [], alts := [], laidByText := true, laidKinds := [.data, .data, .data], laidTests := true, laidLooks := .later }
def FnExactParseAddressCardSaid : Prop := Claim7.holds Tryd.pinned (.plain (OpenSpec.ofChange fnExactParseAddressSpec)) fnExactParseAddressCard

/-- THE SECOND FORM's CARD OF 'laws.FnExactParseAddress'. -/
def fnExactParseAddressUptoCard : Claim7 := { stood := { row := fnExactParseAddressUptoRow, standIns := [], harness := (true, "1d964e6a2a529c86fe79cd87185e74f684bccb790510edd7c6486084add14f06"), looks := false }, kinds := [], alts := [], laidByText := true, laidKinds := [.data, .data, .data], laidTests := true, laidLooks := .later }
def FnExactParseAddressUptoCardSaid : Prop := Claim7.holds Tryd.pinned (.plain (OpenSpec.upto fnExactParseAddressSpec)) fnExactParseAddressUptoCard
end Rows
end Go.Proofs.YtgcidlnhgpjdpaeDoor
