/-
  DERIVED. GIVEN WITH THE SEED: THE CARDS: each row of YtflaiaeofndgmaaDoorRows.lean that lists a variable, with what it lists TIED to the program's text (the seventh form; the later family's looks); each row that meets fmt, with fmt's text TOLD by the authors' own Lean function (tested against real Go, not proved from fmt's source: count such statements apart). THE CARD IS WHAT COUNTS. Prove the row's statement (the work); the ties are given (YtflaiaeofndgmaaDoorTie.lean); close each card by the builder's one call (the guide's Derived/Test/ToyasCard.lean, 'card_holds'). Laid BY PROGRAM, IN A SANDBOX (cutbox-door.mjs). By AI agents, Wed Nov 11 2026. No macro, syntax, notation, axiom, sorry.
-/
import Derived.Test.YtflaiaeofndgmaaDoorRows
import GoSem.ClaimSeven
namespace Go.Proofs.YtflaiaeofndgmaaDoor
namespace Rows

/-- THE TIED CARD OF 'printworkslaw3.ArchiveCutsMatchReference'. -/
def archiveCutsMatchReferenceCard : Claim7 := { stood := { row := archiveCutsMatchReferenceRow, standIns := [], harness := (true, "1b6cc18214c52ee70396cd189b3087704159eb4a16b8f764f3776d4a07034de6"), looks := false }, kinds := [], alts := [], laidByText := true, laidKinds := [.data], laidTests := true, laidLooks := .later }
def ArchiveCutsMatchReferenceCardSaid : Prop := Claim7.holds Tryd.pinned (.plain (OpenSpec.ofChange archiveCutsMatchReferenceSpec)) archiveCutsMatchReferenceCard

/-- THE SECOND FORM's CARD OF 'printworkslaw3.ArchiveCutsMatchReference'. -/
def archiveCutsMatchReferenceUptoCard : Claim7 := { stood := { row := archiveCutsMatchReferenceUptoRow, standIns := [], harness := (true, "1b6cc18214c52ee70396cd189b3087704159eb4a16b8f764f3776d4a07034de6"), looks := false }, kinds := [], alts := [], laidByText := true, laidKinds := [.data], laidTests := true, laidLooks := .later }
def ArchiveCutsMatchReferenceUptoCardSaid : Prop := Claim7.holds Tryd.pinned (.plain (OpenSpec.upto archiveCutsMatchReferenceSpec)) archiveCutsMatchReferenceUptoCard
end Rows
end Go.Proofs.YtflaiaeofndgmaaDoor
