/-
  DERIVED. GIVEN WITH THE SEED: THE CARDS: each row of YtflaiaeofndgmaaGreatDoorRows.lean that lists a variable, with what it lists TIED to the program's text (the seventh form; the later family's looks); each row that meets fmt, with fmt's text TOLD by the authors' own Lean function (tested against real Go, not proved from fmt's source: count such statements apart). THE CARD IS WHAT COUNTS. Prove the row's statement (the work); the ties are given (YtflaiaeofndgmaaGreatDoorTie.lean); close each card by the builder's one call (the guide's Derived/Test/ToyasCard.lean, 'card_holds'). Laid BY PROGRAM, IN A SANDBOX (cutbox-door.mjs). By AI agents, Wed Nov 11 2026. No macro, syntax, notation, axiom, sorry.
-/
import Derived.Test.YtflaiaeofndgmaaGreatDoorRows
import GoSem.ClaimSeven
namespace Go.Proofs.YtflaiaeofndgmaaGreatDoor
namespace Rows

/-- THE TIED CARD OF 'printworkslaw3.ArchiveLoadMatchesReference'. -/
def archiveLoadMatchesReferenceCard : Claim7 := { stood := { row := archiveLoadMatchesReferenceRow, standIns := [], harness := (true, "95ea26fa8a06cf5419334e96ee837d2f0f0ef564a621ca8557a46afcf276143e"), looks := true }, kinds := [], alts := [], laidByText := true, laidKinds := [.data, .data, .data, .data, .sentinel, .sentinel, .data, .pinned], laidTests := true, laidLooks := .later }
def ArchiveLoadMatchesReferenceCardSaid : Prop := Claim7.holds Tryz.pinned (.plain (OpenSpec.ofChange archiveLoadMatchesReferenceSpec)) archiveLoadMatchesReferenceCard

/-- THE SECOND FORM's CARD OF 'printworkslaw3.ArchiveLoadMatchesReference'. -/
def archiveLoadMatchesReferenceUptoCard : Claim7 := { stood := { row := archiveLoadMatchesReferenceUptoRow, standIns := [], harness := (true, "95ea26fa8a06cf5419334e96ee837d2f0f0ef564a621ca8557a46afcf276143e"), looks := true }, kinds := [], alts := [], laidByText := true, laidKinds := [.data, .data, .data, .data, .sentinel, .sentinel, .data, .pinned], laidTests := true, laidLooks := .later }
def ArchiveLoadMatchesReferenceUptoCardSaid : Prop := Claim7.holds Tryz.pinned (.plain (OpenSpec.upto archiveLoadMatchesReferenceSpec)) archiveLoadMatchesReferenceUptoCard
end Rows
end Go.Proofs.YtflaiaeofndgmaaGreatDoor
