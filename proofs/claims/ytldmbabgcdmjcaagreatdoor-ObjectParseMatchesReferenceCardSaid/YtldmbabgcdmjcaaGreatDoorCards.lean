/-
  DERIVED. GIVEN WITH THE SEED: THE CARDS: each row of YtldmbabgcdmjcaaGreatDoorRows.lean that lists a variable, with what it lists TIED to the program's text (the seventh form; the later family's looks); each row that meets fmt, with fmt's text TOLD by the authors' own Lean function (tested against real Go, not proved from fmt's source: count such statements apart). THE CARD IS WHAT COUNTS. Prove the row's statement (the work); the ties are given (YtldmbabgcdmjcaaGreatDoorTie.lean); close each card by the builder's one call (the guide's Derived/Test/ToyasCard.lean, 'card_holds'). Laid BY PROGRAM, IN A SANDBOX (cutbox-door.mjs). By AI agents, Wed Nov 11 2026. No macro, syntax, notation, axiom, sorry.
-/
import Derived.Test.YtldmbabgcdmjcaaGreatDoorRows
import GoSem.ClaimSeven
namespace Go.Proofs.YtldmbabgcdmjcaaGreatDoor
namespace Rows

/-- THE TIED CARD OF 'printworkslaw3.ObjectParseMatchesReference'. -/
def objectParseMatchesReferenceCard : Claim7 := { stood := { row := objectParseMatchesReferenceRow, standIns := [], harness := (true, "19e576368d588bf47963ef35cf172ba3e4ea6ae888343ad0f36e6862c3f2e0b6"), looks := true }, kinds := [], alts := [], laidByText := true, laidKinds := [.data, .data, .data, .sentinel, .sentinel], laidTests := true, laidLooks := .later }
def ObjectParseMatchesReferenceCardSaid : Prop := Claim7.holds Tryz.pinned (.plain (OpenSpec.ofChange objectParseMatchesReferenceSpec)) objectParseMatchesReferenceCard

/-- THE TIED CARD OF 'printworkslaw3.ObjectCheckMatchesReference'. -/
def objectCheckMatchesReferenceCard : Claim7 := { stood := { row := objectCheckMatchesReferenceRow, standIns := [], harness := (true, "19e576368d588bf47963ef35cf172ba3e4ea6ae888343ad0f36e6862c3f2e0b6"), looks := true }, kinds := [], alts := [], laidByText := true, laidKinds := [.data, .data, .data, .sentinel, .sentinel], laidTests := true, laidLooks := .later }
def ObjectCheckMatchesReferenceCardSaid : Prop := Claim7.holds Tryz.pinned (.plain (OpenSpec.ofChange objectCheckMatchesReferenceSpec)) objectCheckMatchesReferenceCard

/-- THE TIED CARD OF 'printworkslaw3.ObjectRefsMatchReference'. -/
def objectRefsMatchReferenceCard : Claim7 := { stood := { row := objectRefsMatchReferenceRow, standIns := [], harness := (true, "19e576368d588bf47963ef35cf172ba3e4ea6ae888343ad0f36e6862c3f2e0b6"), looks := true }, kinds := [], alts := [], laidByText := true, laidKinds := [.data, .data, .data, .sentinel, .sentinel], laidTests := true, laidLooks := .later }
def ObjectRefsMatchReferenceCardSaid : Prop := Claim7.holds Tryz.pinned (.plain (OpenSpec.ofChange objectRefsMatchReferenceSpec)) objectRefsMatchReferenceCard

/-- THE SECOND FORM's CARD OF 'printworkslaw3.ObjectParseMatchesReference'. -/
def objectParseMatchesReferenceUptoCard : Claim7 := { stood := { row := objectParseMatchesReferenceUptoRow, standIns := [], harness := (true, "19e576368d588bf47963ef35cf172ba3e4ea6ae888343ad0f36e6862c3f2e0b6"), looks := true }, kinds := [], alts := [], laidByText := true, laidKinds := [.data, .data, .data, .sentinel, .sentinel], laidTests := true, laidLooks := .later }
def ObjectParseMatchesReferenceUptoCardSaid : Prop := Claim7.holds Tryz.pinned (.plain (OpenSpec.upto objectParseMatchesReferenceSpec)) objectParseMatchesReferenceUptoCard

/-- THE SECOND FORM's CARD OF 'printworkslaw3.ObjectCheckMatchesReference'. -/
def objectCheckMatchesReferenceUptoCard : Claim7 := { stood := { row := objectCheckMatchesReferenceUptoRow, standIns := [], harness := (true, "19e576368d588bf47963ef35cf172ba3e4ea6ae888343ad0f36e6862c3f2e0b6"), looks := true }, kinds := [], alts := [], laidByText := true, laidKinds := [.data, .data, .data, .sentinel, .sentinel], laidTests := true, laidLooks := .later }
def ObjectCheckMatchesReferenceUptoCardSaid : Prop := Claim7.holds Tryz.pinned (.plain (OpenSpec.upto objectCheckMatchesReferenceSpec)) objectCheckMatchesReferenceUptoCard

/-- THE SECOND FORM's CARD OF 'printworkslaw3.ObjectRefsMatchReference'. -/
def objectRefsMatchReferenceUptoCard : Claim7 := { stood := { row := objectRefsMatchReferenceUptoRow, standIns := [], harness := (true, "19e576368d588bf47963ef35cf172ba3e4ea6ae888343ad0f36e6862c3f2e0b6"), looks := true }, kinds := [], alts := [], laidByText := true, laidKinds := [.data, .data, .data, .sentinel, .sentinel], laidTests := true, laidLooks := .later }
def ObjectRefsMatchReferenceUptoCardSaid : Prop := Claim7.holds Tryz.pinned (.plain (OpenSpec.upto objectRefsMatchReferenceSpec)) objectRefsMatchReferenceUptoCard
end Rows
end Go.Proofs.YtldmbabgcdmjcaaGreatDoor
