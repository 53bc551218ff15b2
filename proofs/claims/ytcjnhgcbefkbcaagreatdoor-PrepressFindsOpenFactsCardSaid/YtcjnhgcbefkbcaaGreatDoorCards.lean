/-
  DERIVED. GIVEN WITH THE SEED: THE CARDS: each row of YtcjnhgcbefkbcaaGreatDoorRows.lean that lists a variable, with what it lists TIED to the program's text (the seventh form; the later family's looks); each row that meets fmt, with fmt's text TOLD by the authors' own Lean function (tested against real Go, not proved from fmt's source: count such statements apart). THE CARD IS WHAT COUNTS. Prove the row's statement (the work); the ties are given (YtcjnhgcbefkbcaaGreatDoorTie.lean); close each card by the builder's one call (the guide's Derived/Test/ToyasCard.lean, 'card_holds'). Laid BY PROGRAM, IN A SANDBOX (cutbox-door.mjs). By AI agents, Wed Nov 11 2026. No macro, syntax, notation, axiom, sorry.
-/
import Derived.Test.YtcjnhgcbefkbcaaGreatDoorRows
import GoSem.ClaimSeven
namespace Go.Proofs.YtcjnhgcbefkbcaaGreatDoor
namespace Rows

/-- THE TIED CARD OF 'printworkslaw3.PrepressTextMatchesReference'. -/
def prepressTextMatchesReferenceCard : Claim7 := { stood := { row := prepressTextMatchesReferenceRow, standIns := [], harness := (true, "25ea0823ec39d20d0b2ef3b97b98397727cfcb36cc301eb26e010d170f5cc760"), looks := false }, kinds := [], alts := [], laidByText := true, laidKinds := [.data, .data, .data, .data, .pinned], laidTests := true, laidLooks := .later }
def PrepressTextMatchesReferenceCardSaid : Prop := Claim7.holds Tryz.pinned (.plain (OpenSpec.ofChange prepressTextMatchesReferenceSpec)) prepressTextMatchesReferenceCard

/-- THE TIED CARD OF 'printworkslaw3.PrepressTruthMatchesReference'. -/
def prepressTruthMatchesReferenceCard : Claim7 := { stood := { row := prepressTruthMatchesReferenceRow, standIns := [], harness := (true, "25ea0823ec39d20d0b2ef3b97b98397727cfcb36cc301eb26e010d170f5cc760"), looks := false }, kinds := [], alts := [], laidByText := true, laidKinds := [.data, .data, .data, .data, .pinned], laidTests := true, laidLooks := .later }
def PrepressTruthMatchesReferenceCardSaid : Prop := Claim7.holds Tryz.pinned (.plain (OpenSpec.ofChange prepressTruthMatchesReferenceSpec)) prepressTruthMatchesReferenceCard

/-- THE TIED CARD OF 'printworkslaw3.PrepressFindsOpenFacts'. -/
def prepressFindsOpenFactsCard : Claim7 := { stood := { row := prepressFindsOpenFactsRow, standIns := [], harness := (true, "25ea0823ec39d20d0b2ef3b97b98397727cfcb36cc301eb26e010d170f5cc760"), looks := false }, kinds := [], alts := [], laidByText := true, laidKinds := [.data, .data, .data, .data, .pinned], laidTests := true, laidLooks := .later }
def PrepressFindsOpenFactsCardSaid : Prop := Claim7.holds Tryz.pinned (.plain (OpenSpec.ofChange prepressFindsOpenFactsSpec)) prepressFindsOpenFactsCard

/-- THE SECOND FORM's CARD OF 'printworkslaw3.PrepressTextMatchesReference'. -/
def prepressTextMatchesReferenceUptoCard : Claim7 := { stood := { row := prepressTextMatchesReferenceUptoRow, standIns := [], harness := (true, "25ea0823ec39d20d0b2ef3b97b98397727cfcb36cc301eb26e010d170f5cc760"), looks := false }, kinds := [], alts := [], laidByText := true, laidKinds := [.data, .data, .data, .data, .pinned], laidTests := true, laidLooks := .later }
def PrepressTextMatchesReferenceUptoCardSaid : Prop := Claim7.holds Tryz.pinned (.plain (OpenSpec.upto prepressTextMatchesReferenceSpec)) prepressTextMatchesReferenceUptoCard

/-- THE SECOND FORM's CARD OF 'printworkslaw3.PrepressTruthMatchesReference'. -/
def prepressTruthMatchesReferenceUptoCard : Claim7 := { stood := { row := prepressTruthMatchesReferenceUptoRow, standIns := [], harness := (true, "25ea0823ec39d20d0b2ef3b97b98397727cfcb36cc301eb26e010d170f5cc760"), looks := false }, kinds := [], alts := [], laidByText := true, laidKinds := [.data, .data, .data, .data, .pinned], laidTests := true, laidLooks := .later }
def PrepressTruthMatchesReferenceUptoCardSaid : Prop := Claim7.holds Tryz.pinned (.plain (OpenSpec.upto prepressTruthMatchesReferenceSpec)) prepressTruthMatchesReferenceUptoCard

/-- THE SECOND FORM's CARD OF 'printworkslaw3.PrepressFindsOpenFacts'. -/
def prepressFindsOpenFactsUptoCard : Claim7 := { stood := { row := prepressFindsOpenFactsUptoRow, standIns := [], harness := (true, "25ea0823ec39d20d0b2ef3b97b98397727cfcb36cc301eb26e010d170f5cc760"), looks := false }, kinds := [], alts := [], laidByText := true, laidKinds := [.data, .data, .data, .data, .pinned], laidTests := true, laidLooks := .later }
def PrepressFindsOpenFactsUptoCardSaid : Prop := Claim7.holds Tryz.pinned (.plain (OpenSpec.upto prepressFindsOpenFactsSpec)) prepressFindsOpenFactsUptoCard
end Rows
end Go.Proofs.YtcjnhgcbefkbcaaGreatDoor
