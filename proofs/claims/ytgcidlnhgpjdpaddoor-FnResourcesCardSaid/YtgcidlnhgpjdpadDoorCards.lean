/-
  DERIVED. GIVEN WITH THE SEED: THE CARDS: each row of YtgcidlnhgpjdpadDoorRows.lean that lists a variable, with what it lists TIED to the program's text (the seventh form; the later family's looks); each row that meets fmt, with fmt's text TOLD by the authors' own Lean function (tested against real Go, not proved from fmt's source: count such statements apart). THE CARD IS WHAT COUNTS. Prove the row's statement (the work); the ties are given (YtgcidlnhgpjdpadDoorTie.lean); close each card by the builder's one call (the guide's Derived/Test/ToyasCard.lean, 'card_holds'). Laid BY PROGRAM, IN A SANDBOX (cutbox-door.mjs). By AI agents, Wed Nov 11 2026. No macro, syntax, notation, axiom, sorry.
-/
import Derived.Test.YtgcidlnhgpjdpadDoorRows
import GoSem.ClaimSeven
namespace Go.Proofs.YtgcidlnhgpjdpadDoor
namespace Rows

/-- THE TIED CARD OF 'laws.FnExactFormatInt'. -/
def fnExactFormatIntCard : Claim7 := { stood := { row := fnExactFormatIntRow, standIns := [], harness := (true, "2217158d95b572cb99fef69a337be2c33e1003501bfaabc8c3e05782e06d396e"), looks := false }, kinds := [], alts := [], laidByText := true, laidKinds := [.data, .data, .data], laidTests := true, laidLooks := .later }
def FnExactFormatIntCardSaid : Prop := Claim7.holds Tryd.pinned (.plain (OpenSpec.ofChange fnExactFormatIntSpec)) fnExactFormatIntCard

/-- THE TIED CARD OF 'laws.FnExactParseInt'. -/
def fnExactParseIntCard : Claim7 := { stood := { row := fnExactParseIntRow, standIns := [], harness := (true, "2217158d95b572cb99fef69a337be2c33e1003501bfaabc8c3e05782e06d396e"), looks := false }, kinds := [], alts := [], laidByText := true, laidKinds := [.data, .data, .data], laidTests := true, laidLooks := .later }
def FnExactParseIntCardSaid : Prop := Claim7.holds Tryd.pinned (.plain (OpenSpec.ofChange fnExactParseIntSpec)) fnExactParseIntCard

/-- THE TIED CARD OF 'laws.FnExactAddressText'. -/
def fnExactAddressTextCard : Claim7 := { stood := { row := fnExactAddressTextRow, standIns := [], harness := (true, "2217158d95b572cb99fef69a337be2c33e1003501bfaabc8c3e05782e06d396e"), looks := false }, kinds := [], alts := [], laidByText := true, laidKinds := [.data, .data, .data], laidTests := true, laidLooks := .later }
def FnExactAddressTextCardSaid : Prop := Claim7.holds Tryd.pinned (.plain (OpenSpec.ofChange fnExactAddressTextSpec)) fnExactAddressTextCard

/-- THE TIED CARD OF 'laws.FnIntegers'. -/
def fnIntegersCard : Claim7 := { stood := { row := fnIntegersRow, standIns := [], harness := (true, "2217158d95b572cb99fef69a337be2c33e1003501bfaabc8c3e05782e06d396e"), looks := false }, kinds := [], alts := [], laidByText := true, laidKinds := [.data, .data, .data], laidTests := true, laidLooks := .later }
def FnIntegersCardSaid : Prop := Claim7.holds Tryd.pinned (.plain (OpenSpec.ofChange fnIntegersSpec)) fnIntegersCard

/-- THE TIED CARD OF 'laws.FnResources'. -/
def fnResourcesCard : Claim7 := { stood := { row := fnResourcesRow, standIns := [], harness := (true, "2217158d95b572cb99fef69a337be2c33e1003501bfaabc8c3e05782e06d396e"), looks := false }, kinds := [], alts := [], laidByText := true, laidKinds := [.data, .data, .data], laidTests := true, laidLooks := .later }
def FnResourcesCardSaid : Prop := Claim7.holds Tryd.pinned (.plain (OpenSpec.ofChange fnResourcesSpec)) fnResourcesCard

/-- THE TIED CARD OF 'laws.FnExactResourceText'. -/
def fnExactResourceTextCard : Claim7 := { stood := { row := fnExactResourceTextRow, standIns := [], harness := (true, "2217158d95b572cb99fef69a337be2c33e1003501bfaabc8c3e05782e06d396e"), looks := false }, kinds := [], alts := [], laidByText := true, laidKinds := [.data, .data, .data], laidTests := true, laidLooks := .later }
def FnExactResourceTextCardSaid : Prop := Claim7.holds Tryd.pinned (.plain (OpenSpec.ofChange fnExactResourceTextSpec)) fnExactResourceTextCard

/-- THE SECOND FORM's CARD OF 'laws.FnExactFormatInt'. -/
def fnExactFormatIntUptoCard : Claim7 := { stood := { row := fnExactFormatIntUptoRow, standIns := [], harness := (true, "2217158d95b572cb99fef69a337be2c33e1003501bfaabc8c3e05782e06d396e"), looks := false }, kinds := [], alts := [], laidByText := true, laidKinds := [.data, .data, .data], laidTests := true, laidLooks := .later }
def FnExactFormatIntUptoCardSaid : Prop := Claim7.holds Tryd.pinned (.plain (OpenSpec.upto fnExactFormatIntSpec)) fnExactFormatIntUptoCard

/-- THE SECOND FORM's CARD OF 'laws.FnExactParseInt'. -/
def fnExactParseIntUptoCard : Claim7 := { stood := { row := fnExactParseIntUptoRow, standIns := [], harness := (true, "2217158d95b572cb99fef69a337be2c33e1003501bfaabc8c3e05782e06d396e"), looks := false }, kinds := [], alts := [], laidByText := true, laidKinds := [.data, .data, .data], laidTests := true, laidLooks := .later }
def FnExactParseIntUptoCardSaid : Prop := Claim7.holds Tryd.pinned (.plain (OpenSpec.upto fnExactParseIntSpec)) fnExactParseIntUptoCard

/-- THE SECOND FORM's CARD OF 'laws.FnExactAddressText'. -/
def fnExactAddressTextUptoCard : Claim7 := { stood := { row := fnExactAddressTextUptoRow, standIns := [], harness := (true, "2217158d95b572cb99fef69a337be2c33e1003501bfaabc8c3e05782e06d396e"), looks := false }, kinds := [], alts := [], laidByText := true, laidKinds := [.data, .data, .data], laidTests := true, laidLooks := .later }
def FnExactAddressTextUptoCardSaid : Prop := Claim7.holds Tryd.pinned (.plain (OpenSpec.upto fnExactAddressTextSpec)) fnExactAddressTextUptoCard

/-- THE SECOND FORM's CARD OF 'laws.FnIntegers'. -/
def fnIntegersUptoCard : Claim7 := { stood := { row := fnIntegersUptoRow, standIns := [], harness := (true, "2217158d95b572cb99fef69a337be2c33e1003501bfaabc8c3e05782e06d396e"), looks := false }, kinds := [], alts := [], laidByText := true, laidKinds := [.data, .data, .data], laidTests := true, laidLooks := .later }
def FnIntegersUptoCardSaid : Prop := Claim7.holds Tryd.pinned (.plain (OpenSpec.upto fnIntegersSpec)) fnIntegersUptoCard

/-- THE SECOND FORM's CARD OF 'laws.FnResources'. -/
def fnResourcesUptoCard : Claim7 := { stood := { row := fnResourcesUptoRow, standIns := [], harness := (true, "2217158d95b572cb99fef69a337be2c33e1003501bfaabc8c3e05782e06d396e"), looks := false }, kinds := [], alts := [], laidByText := true, laidKinds := [.data, .data, .data], laidTests := true, laidLooks := .later }
def FnResourcesUptoCardSaid : Prop := Claim7.holds Tryd.pinned (.plain (OpenSpec.upto fnResourcesSpec)) fnResourcesUptoCard

/-- THE SECOND FORM's CARD OF 'laws.FnExactResourceText'. -/
def fnExactResourceTextUptoCard : Claim7 := { stood := { row := fnExactResourceTextUptoRow, standIns := [], harness := (true, "2217158d95b572cb99fef69a337be2c33e1003501bfaabc8c3e05782e06d396e"), looks := false }, kinds := [], alts := [], laidByText := true, laidKinds := [.data, .data, .data], laidTests := true, laidLooks := .later }
def FnExactResourceTextUptoCardSaid : Prop := Claim7.holds Tryd.pinned (.plain (OpenSpec.upto fnExactResourceTextSpec)) fnExactResourceTextUptoCard
end Rows
end Go.Proofs.YtgcidlnhgpjdpadDoor
