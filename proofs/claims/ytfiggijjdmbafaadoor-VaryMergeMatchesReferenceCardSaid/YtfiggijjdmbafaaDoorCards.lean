/-
  DERIVED. GIVEN WITH THE SEED: THE CARDS: each row of YtfiggijjdmbafaaDoorRows.lean that lists a variable, with what it lists TIED to the program's text (the seventh form; the later family's looks); each row that meets fmt, with fmt's text TOLD by the authors' own Lean function (tested against real Go, not proved from fmt's source: count such statements apart). THE CARD IS WHAT COUNTS. Prove the row's statement (the work); the ties are given (YtfiggijjdmbafaaDoorTie.lean); close each card by the builder's one call (the guide's Derived/Test/ToyasCard.lean, 'card_holds'). Laid BY PROGRAM, IN A SANDBOX (cutbox-door.mjs). By AI agents, Wed Nov 11 2026. No macro, syntax, notation, axiom, sorry.
-/
import Derived.Test.YtfiggijjdmbafaaDoorRows
import GoSem.ClaimSeven
namespace Go.Proofs.YtfiggijjdmbafaaDoor
namespace Rows

/-- THE TIED CARD OF 'printworkslaw3.VaryParseMatchesReference'. -/
def varyParseMatchesReferenceCard : Claim7 := { stood := { row := varyParseMatchesReferenceRow, standIns := [], harness := (true, "09cc161768320574208a1fed21f28c26988f1b428773ff89d67c4089dc6ad39f"), looks := false }, kinds := [], alts := [], laidByText := true, laidKinds := [.data, .pinned], laidTests := true, laidLooks := .later }
def VaryParseMatchesReferenceCardSaid : Prop := Claim7.holds Tryd.pinned (.plain (OpenSpec.ofChange varyParseMatchesReferenceSpec)) varyParseMatchesReferenceCard

/-- THE TIED CARD OF 'printworkslaw3.VaryMergeMatchesReference'. -/
def varyMergeMatchesReferenceCard : Claim7 := { stood := { row := varyMergeMatchesReferenceRow, standIns := [], harness := (true, "09cc161768320574208a1fed21f28c26988f1b428773ff89d67c4089dc6ad39f"), looks := false }, kinds := [], alts := [], laidByText := true, laidKinds := [.data, .pinned], laidTests := true, laidLooks := .later }
def VaryMergeMatchesReferenceCardSaid : Prop := Claim7.holds Tryd.pinned (.plain (OpenSpec.ofChange varyMergeMatchesReferenceSpec)) varyMergeMatchesReferenceCard

/-- THE SECOND FORM's CARD OF 'printworkslaw3.VaryParseMatchesReference'. -/
def varyParseMatchesReferenceUptoCard : Claim7 := { stood := { row := varyParseMatchesReferenceUptoRow, standIns := [], harness := (true, "09cc161768320574208a1fed21f28c26988f1b428773ff89d67c4089dc6ad39f"), looks := false }, kinds := [], alts := [], laidByText := true, laidKinds := [.data, .pinned], laidTests := true, laidLooks := .later }
def VaryParseMatchesReferenceUptoCardSaid : Prop := Claim7.holds Tryd.pinned (.plain (OpenSpec.upto varyParseMatchesReferenceSpec)) varyParseMatchesReferenceUptoCard

/-- THE SECOND FORM's CARD OF 'printworkslaw3.VaryMergeMatchesReference'. -/
def varyMergeMatchesReferenceUptoCard : Claim7 := { stood := { row := varyMergeMatchesReferenceUptoRow, standIns := [], harness := (true, "09cc161768320574208a1fed21f28c26988f1b428773ff89d67c4089dc6ad39f"), looks := false }, kinds := [], alts := [], laidByText := true, laidKinds := [.data, .pinned], laidTests := true, laidLooks := .later }
def VaryMergeMatchesReferenceUptoCardSaid : Prop := Claim7.holds Tryd.pinned (.plain (OpenSpec.upto varyMergeMatchesReferenceSpec)) varyMergeMatchesReferenceUptoCard
end Rows
end Go.Proofs.YtfiggijjdmbafaaDoor
