/-
  DERIVED. GIVEN WITH THE SEED: THE CARDS: each row of YtgonfionbbhmkaaGreatDoorRows.lean that lists a variable, with what it lists TIED to the program's text (the seventh form; the later family's looks); each row that meets fmt, with fmt's text TOLD by the authors' own Lean function (tested against real Go, not proved from fmt's source: count such statements apart). THE CARD IS WHAT COUNTS. Prove the row's statement (the work); the ties are given (YtgonfionbbhmkaaGreatDoorTie.lean); close each card by the builder's one call (the guide's Derived/Test/ToyasCard.lean, 'card_holds'). Laid BY PROGRAM, IN A SANDBOX (cutbox-door.mjs). By AI agents, Wed Nov 11 2026. No macro, syntax, notation, axiom, sorry.
-/
import Derived.Test.YtgonfionbbhmkaaGreatDoorRows
import GoSem.ClaimSeven
namespace Go.Proofs.YtgonfionbbhmkaaGreatDoor
namespace Rows

/-- THE TIED CARD OF 'printworkslaw3.PagefileCheckMatchesReference'. -/
def pagefileCheckMatchesReferenceCard : Claim7 := { stood := { row := pagefileCheckMatchesReferenceRow, standIns := [], harness := (true, "84c099ec3a833977a19a70acc2195b4593fe36cf29500bbb5bad0c3a2a9a7b28"), looks := true }, kinds := [], alts := [], laidByText := true, laidKinds := [.data, .data, .data, .data, .sentinel, .sentinel, .data, .pinned], laidTests := true, laidLooks := .later }
def PagefileCheckMatchesReferenceCardSaid : Prop := Claim7.holds Tryz.pinned (.plain (OpenSpec.ofChange pagefileCheckMatchesReferenceSpec)) pagefileCheckMatchesReferenceCard

/-- THE TIED CARD OF 'printworkslaw3.PagefileReadsOnlyFormat'. -/
def pagefileReadsOnlyFormatCard : Claim7 := { stood := { row := pagefileReadsOnlyFormatRow, standIns := [], harness := (true, "84c099ec3a833977a19a70acc2195b4593fe36cf29500bbb5bad0c3a2a9a7b28"), looks := true }, kinds := [], alts := [], laidByText := true, laidKinds := [.data, .data, .data, .data, .sentinel, .sentinel, .data, .pinned], laidTests := true, laidLooks := .later }
def PagefileReadsOnlyFormatCardSaid : Prop := Claim7.holds Tryz.pinned (.plain (OpenSpec.ofChange pagefileReadsOnlyFormatSpec)) pagefileReadsOnlyFormatCard

/-- THE TIED CARD OF 'printworkslaw3.PagefileWritesFormat'. -/
def pagefileWritesFormatCard : Claim7 := { stood := { row := pagefileWritesFormatRow, standIns := [], harness := (true, "84c099ec3a833977a19a70acc2195b4593fe36cf29500bbb5bad0c3a2a9a7b28"), looks := true }, kinds := [], alts := [], laidByText := true, laidKinds := [.data, .data, .data, .data, .sentinel, .sentinel, .data, .pinned], laidTests := true, laidLooks := .later }
def PagefileWritesFormatCardSaid : Prop := Claim7.holds Tryz.pinned (.plain (OpenSpec.ofChange pagefileWritesFormatSpec)) pagefileWritesFormatCard

/-- THE SECOND FORM's CARD OF 'printworkslaw3.PagefileCheckMatchesReference'. -/
def pagefileCheckMatchesReferenceUptoCard : Claim7 := { stood := { row := pagefileCheckMatchesReferenceUptoRow, standIns := [], harness := (true, "84c099ec3a833977a19a70acc2195b4593fe36cf29500bbb5bad0c3a2a9a7b28"), looks := true }, kinds := [], alts := [], laidByText := true, laidKinds := [.data, .data, .data, .data, .sentinel, .sentinel, .data, .pinned], laidTests := true, laidLooks := .later }
def PagefileCheckMatchesReferenceUptoCardSaid : Prop := Claim7.holds Tryz.pinned (.plain (OpenSpec.upto pagefileCheckMatchesReferenceSpec)) pagefileCheckMatchesReferenceUptoCard

/-- THE SECOND FORM's CARD OF 'printworkslaw3.PagefileReadsOnlyFormat'. -/
def pagefileReadsOnlyFormatUptoCard : Claim7 := { stood := { row := pagefileReadsOnlyFormatUptoRow, standIns := [], harness := (true, "84c099ec3a833977a19a70acc2195b4593fe36cf29500bbb5bad0c3a2a9a7b28"), looks := true }, kinds := [], alts := [], laidByText := true, laidKinds := [.data, .data, .data, .data, .sentinel, .sentinel, .data, .pinned], laidTests := true, laidLooks := .later }
def PagefileReadsOnlyFormatUptoCardSaid : Prop := Claim7.holds Tryz.pinned (.plain (OpenSpec.upto pagefileReadsOnlyFormatSpec)) pagefileReadsOnlyFormatUptoCard

/-- THE SECOND FORM's CARD OF 'printworkslaw3.PagefileWritesFormat'. -/
def pagefileWritesFormatUptoCard : Claim7 := { stood := { row := pagefileWritesFormatUptoRow, standIns := [], harness := (true, "84c099ec3a833977a19a70acc2195b4593fe36cf29500bbb5bad0c3a2a9a7b28"), looks := true }, kinds := [], alts := [], laidByText := true, laidKinds := [.data, .data, .data, .data, .sentinel, .sentinel, .data, .pinned], laidTests := true, laidLooks := .later }
def PagefileWritesFormatUptoCardSaid : Prop := Claim7.holds Tryz.pinned (.plain (OpenSpec.upto pagefileWritesFormatSpec)) pagefileWritesFormatUptoCard
end Rows
end Go.Proofs.YtgonfionbbhmkaaGreatDoor
