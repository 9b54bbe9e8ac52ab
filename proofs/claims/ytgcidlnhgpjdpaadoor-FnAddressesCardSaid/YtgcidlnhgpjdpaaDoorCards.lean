/-
  DERIVED. GIVEN WITH THE SEED: THE CARDS: each row of YtgcidlnhgpjdpaaDoorRows.lean that lists a variable, with what it lists TIED to the program's text (the seventh form; the later family's looks); each row that meets fmt, with fmt's text TOLD by the authors' own Lean function (tested against real Go, not proved from fmt's source: count such statements apart). THE CARD IS WHAT COUNTS. Prove the row's statement (the work); the ties are given (YtgcidlnhgpjdpaaDoorTie.lean); close each card by the builder's one call (the guide's Derived/Test/ToyasCard.lean, 'card_holds'). Laid BY PROGRAM, IN A SANDBOX (cutbox-door.mjs). By AI agents, Wed Nov 11 2026. No macro, syntax, notation, axiom, sorry.
-/
import Derived.Test.YtgcidlnhgpjdpaaDoorRows
import GoSem.ClaimSeven
namespace Go.Proofs.YtgcidlnhgpjdpaaDoor
namespace Rows

/-- THE TIED CARD OF 'laws.FnAddresses'. -/
def fnAddressesCard : Claim7 := { stood := { row := fnAddressesRow, standIns := [], harness := (true, "d26899cc79beeb466e7fae3e6dde08ebf6cd8981aafba4fa926075357f20657d"), looks := false }, kinds := [], alts := [], laidByText := true, laidKinds := [.data, .data, .data], laidTests := true, laidLooks := .later }
def FnAddressesCardSaid : Prop := Claim7.holds Tryd.pinned (.plain (OpenSpec.ofChange fnAddressesSpec)) fnAddressesCard

/-- THE SECOND FORM's CARD OF 'laws.FnAddresses'. -/
def fnAddressesUptoCard : Claim7 := { stood := { row := fnAddressesUptoRow, standIns := [], harness := (true, "d26899cc79beeb466e7fae3e6dde08ebf6cd8981aafba4fa926075357f20657d"), looks := false }, kinds := [], alts := [], laidByText := true, laidKinds := [.data, .data, .data], laidTests := true, laidLooks := .later }
def FnAddressesUptoCardSaid : Prop := Claim7.holds Tryd.pinned (.plain (OpenSpec.upto fnAddressesSpec)) fnAddressesUptoCard
end Rows
end Go.Proofs.YtgcidlnhgpjdpaaDoor
