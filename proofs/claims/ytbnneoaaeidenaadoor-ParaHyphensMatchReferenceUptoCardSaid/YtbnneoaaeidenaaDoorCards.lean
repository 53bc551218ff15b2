/-
  DERIVED. GIVEN WITH THE SEED: THE CARDS: each row of YtbnneoaaeidenaaDoorRows.lean that lists a variable, with what it lists TIED to the program's text (the seventh form; the later family's looks); each row that meets fmt, with fmt's text TOLD by the authors' own Lean function (tested against real Go, not proved from fmt's source: count such statements apart). THE CARD IS WHAT COUNTS. Prove the row's statement (the work); the ties are given (YtbnneoaaeidenaaDoorTie.lean); close each card by the builder's one call (the guide's Derived/Test/ToyasCard.lean, 'card_holds'). Laid BY PROGRAM, IN A SANDBOX (cutbox-door.mjs). By AI agents, Wed Nov 11 2026. No macro, syntax, notation, axiom, sorry.
-/
import Derived.Test.YtbnneoaaeidenaaDoorRows
import GoSem.ClaimSeven
namespace Go.Proofs.YtbnneoaaeidenaaDoor
namespace Rows

/-- THE TIED CARD OF 'printworkslaw3.ParaHyphensMatchReference'. -/
def paraHyphensMatchReferenceCard : Claim7 := { stood := { row := paraHyphensMatchReferenceRow, standIns := [], harness := (true, "d9843b848cd27dec859f91b6f426f2b5b483cd654d63baaee48fc6f31a6a25b3"), looks := false }, kinds := [], alts := [], laidByText := true, laidKinds := [.data, .pinned], laidTests := true, laidLooks := .later }
def ParaHyphensMatchReferenceCardSaid : Prop := Claim7.holds Tryd.pinned (.plain (OpenSpec.ofChange paraHyphensMatchReferenceSpec)) paraHyphensMatchReferenceCard

/-- THE TIED CARD OF 'printworkslaw3.ParaCheckMatchesReference'. -/
def paraCheckMatchesReferenceCard : Claim7 := { stood := { row := paraCheckMatchesReferenceRow, standIns := [], harness := (true, "d9843b848cd27dec859f91b6f426f2b5b483cd654d63baaee48fc6f31a6a25b3"), looks := false }, kinds := [], alts := [], laidByText := true, laidKinds := [.data, .pinned], laidTests := true, laidLooks := .later }
def ParaCheckMatchesReferenceCardSaid : Prop := Claim7.holds Tryd.pinned (.plain (OpenSpec.ofChange paraCheckMatchesReferenceSpec)) paraCheckMatchesReferenceCard

/-- THE TIED CARD OF 'printworkslaw3.ParaBreakLeast'. -/
def paraBreakLeastCard : Claim7 := { stood := { row := paraBreakLeastRow, standIns := [], harness := (true, "d9843b848cd27dec859f91b6f426f2b5b483cd654d63baaee48fc6f31a6a25b3"), looks := false }, kinds := [], alts := [], laidByText := true, laidKinds := [.data, .pinned], laidTests := true, laidLooks := .later }
def ParaBreakLeastCardSaid : Prop := Claim7.holds Tryd.pinned (.plain (OpenSpec.ofChange paraBreakLeastSpec)) paraBreakLeastCard

/-- THE SECOND FORM's CARD OF 'printworkslaw3.ParaHyphensMatchReference'. -/
def paraHyphensMatchReferenceUptoCard : Claim7 := { stood := { row := paraHyphensMatchReferenceUptoRow, standIns := [], harness := (true, "d9843b848cd27dec859f91b6f426f2b5b483cd654d63baaee48fc6f31a6a25b3"), looks := false }, kinds := [], alts := [], laidByText := true, laidKinds := [.data, .pinned], laidTests := true, laidLooks := .later }
def ParaHyphensMatchReferenceUptoCardSaid : Prop := Claim7.holds Tryd.pinned (.plain (OpenSpec.upto paraHyphensMatchReferenceSpec)) paraHyphensMatchReferenceUptoCard

/-- THE SECOND FORM's CARD OF 'printworkslaw3.ParaCheckMatchesReference'. -/
def paraCheckMatchesReferenceUptoCard : Claim7 := { stood := { row := paraCheckMatchesReferenceUptoRow, standIns := [], harness := (true, "d9843b848cd27dec859f91b6f426f2b5b483cd654d63baaee48fc6f31a6a25b3"), looks := false }, kinds := [], alts := [], laidByText := true, laidKinds := [.data, .pinned], laidTests := true, laidLooks := .later }
def ParaCheckMatchesReferenceUptoCardSaid : Prop := Claim7.holds Tryd.pinned (.plain (OpenSpec.upto paraCheckMatchesReferenceSpec)) paraCheckMatchesReferenceUptoCard

/-- THE SECOND FORM's CARD OF 'printworkslaw3.ParaBreakLeast'. -/
def paraBreakLeastUptoCard : Claim7 := { stood := { row := paraBreakLeastUptoRow, standIns := [], harness := (true, "d9843b848cd27dec859f91b6f426f2b5b483cd654d63baaee48fc6f31a6a25b3"), looks := false }, kinds := [], alts := [], laidByText := true, laidKinds := [.data, .pinned], laidTests := true, laidLooks := .later }
def ParaBreakLeastUptoCardSaid : Prop := Claim7.holds Tryd.pinned (.plain (OpenSpec.upto paraBreakLeastSpec)) paraBreakLeastUptoCard
end Rows
end Go.Proofs.YtbnneoaaeidenaaDoor
