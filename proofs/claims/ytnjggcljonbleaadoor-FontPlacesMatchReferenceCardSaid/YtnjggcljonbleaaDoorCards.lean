/-
  DERIVED. GIVEN WITH THE SEED: THE CARDS: each row of YtnjggcljonbleaaDoorRows.lean that lists a variable, with what it lists TIED to the program's text (the seventh form; the later family's looks); each row that meets fmt, with fmt's text TOLD by the authors' own Lean function (tested against real Go, not proved from fmt's source: count such statements apart). THE CARD IS WHAT COUNTS. Prove the row's statement (the work); the ties are given (YtnjggcljonbleaaDoorTie.lean); close each card by the builder's one call (the guide's Derived/Test/ToyasCard.lean, 'card_holds'). Laid BY PROGRAM, IN A SANDBOX (cutbox-door.mjs). By AI agents, Wed Nov 11 2026. No macro, syntax, notation, axiom, sorry.
-/
import Derived.Test.YtnjggcljonbleaaDoorRows
import GoSem.ClaimSeven
namespace Go.Proofs.YtnjggcljonbleaaDoor
namespace Rows

/-- THE TIED CARD OF 'printworkslaw3.ArchiveCutsMatchReference'. -/
def archiveCutsMatchReferenceCard : Claim7 := { stood := { row := archiveCutsMatchReferenceRow, standIns := [], harness := (true, "d1c37fcee3065b9f0ed08a2b27b95b376cf5b1e68ac0b0b160c504f7dfb9bf97"), looks := false }, kinds := [], alts := [], laidByText := true, laidKinds := [.data], laidTests := true, laidLooks := .later }
def ArchiveCutsMatchReferenceCardSaid : Prop := Claim7.holds Tryd.pinned (.plain (OpenSpec.ofChange archiveCutsMatchReferenceSpec)) archiveCutsMatchReferenceCard

/-- THE TIED CARD OF 'printworkslaw3.FontCheckMatchesReference'. -/
def fontCheckMatchesReferenceCard : Claim7 := { stood := { row := fontCheckMatchesReferenceRow, standIns := [], harness := (true, "d1c37fcee3065b9f0ed08a2b27b95b376cf5b1e68ac0b0b160c504f7dfb9bf97"), looks := false }, kinds := [], alts := [], laidByText := true, laidKinds := [.data], laidTests := true, laidLooks := .later }
def FontCheckMatchesReferenceCardSaid : Prop := Claim7.holds Tryd.pinned (.plain (OpenSpec.ofChange fontCheckMatchesReferenceSpec)) fontCheckMatchesReferenceCard

/-- THE TIED CARD OF 'printworkslaw3.FontOutlineMatchesReference'. -/
def fontOutlineMatchesReferenceCard : Claim7 := { stood := { row := fontOutlineMatchesReferenceRow, standIns := [], harness := (true, "d1c37fcee3065b9f0ed08a2b27b95b376cf5b1e68ac0b0b160c504f7dfb9bf97"), looks := false }, kinds := [], alts := [], laidByText := true, laidKinds := [.data], laidTests := true, laidLooks := .later }
def FontOutlineMatchesReferenceCardSaid : Prop := Claim7.holds Tryd.pinned (.plain (OpenSpec.ofChange fontOutlineMatchesReferenceSpec)) fontOutlineMatchesReferenceCard

/-- THE TIED CARD OF 'printworkslaw3.FontPlacesMatchReference'. -/
def fontPlacesMatchReferenceCard : Claim7 := { stood := { row := fontPlacesMatchReferenceRow, standIns := [], harness := (true, "d1c37fcee3065b9f0ed08a2b27b95b376cf5b1e68ac0b0b160c504f7dfb9bf97"), looks := false }, kinds := [], alts := [], laidByText := true, laidKinds := [.data], laidTests := true, laidLooks := .later }
def FontPlacesMatchReferenceCardSaid : Prop := Claim7.holds Tryd.pinned (.plain (OpenSpec.ofChange fontPlacesMatchReferenceSpec)) fontPlacesMatchReferenceCard

/-- THE SECOND FORM's CARD OF 'printworkslaw3.ArchiveCutsMatchReference'. -/
def archiveCutsMatchReferenceUptoCard : Claim7 := { stood := { row := archiveCutsMatchReferenceUptoRow, standIns := [], harness := (true, "d1c37fcee3065b9f0ed08a2b27b95b376cf5b1e68ac0b0b160c504f7dfb9bf97"), looks := false }, kinds := [], alts := [], laidByText := true, laidKinds := [.data], laidTests := true, laidLooks := .later }
def ArchiveCutsMatchReferenceUptoCardSaid : Prop := Claim7.holds Tryd.pinned (.plain (OpenSpec.upto archiveCutsMatchReferenceSpec)) archiveCutsMatchReferenceUptoCard

/-- THE SECOND FORM's CARD OF 'printworkslaw3.FontCheckMatchesReference'. -/
def fontCheckMatchesReferenceUptoCard : Claim7 := { stood := { row := fontCheckMatchesReferenceUptoRow, standIns := [], harness := (true, "d1c37fcee3065b9f0ed08a2b27b95b376cf5b1e68ac0b0b160c504f7dfb9bf97"), looks := false }, kinds := [], alts := [], laidByText := true, laidKinds := [.data], laidTests := true, laidLooks := .later }
def FontCheckMatchesReferenceUptoCardSaid : Prop := Claim7.holds Tryd.pinned (.plain (OpenSpec.upto fontCheckMatchesReferenceSpec)) fontCheckMatchesReferenceUptoCard

/-- THE SECOND FORM's CARD OF 'printworkslaw3.FontOutlineMatchesReference'. -/
def fontOutlineMatchesReferenceUptoCard : Claim7 := { stood := { row := fontOutlineMatchesReferenceUptoRow, standIns := [], harness := (true, "d1c37fcee3065b9f0ed08a2b27b95b376cf5b1e68ac0b0b160c504f7dfb9bf97"), looks := false }, kinds := [], alts := [], laidByText := true, laidKinds := [.data], laidTests := true, laidLooks := .later }
def FontOutlineMatchesReferenceUptoCardSaid : Prop := Claim7.holds Tryd.pinned (.plain (OpenSpec.upto fontOutlineMatchesReferenceSpec)) fontOutlineMatchesReferenceUptoCard

/-- THE SECOND FORM's CARD OF 'printworkslaw3.FontPlacesMatchReference'. -/
def fontPlacesMatchReferenceUptoCard : Claim7 := { stood := { row := fontPlacesMatchReferenceUptoRow, standIns := [], harness := (true, "d1c37fcee3065b9f0ed08a2b27b95b376cf5b1e68ac0b0b160c504f7dfb9bf97"), looks := false }, kinds := [], alts := [], laidByText := true, laidKinds := [.data], laidTests := true, laidLooks := .later }
def FontPlacesMatchReferenceUptoCardSaid : Prop := Claim7.holds Tryd.pinned (.plain (OpenSpec.upto fontPlacesMatchReferenceSpec)) fontPlacesMatchReferenceUptoCard
end Rows
end Go.Proofs.YtnjggcljonbleaaDoor
