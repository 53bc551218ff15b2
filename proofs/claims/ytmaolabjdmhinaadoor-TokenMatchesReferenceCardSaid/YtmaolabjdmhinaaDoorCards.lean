/-
  DERIVED. GIVEN WITH THE SEED: THE CARDS: each row of YtmaolabjdmhinaaDoorRows.lean that lists a variable, with what it lists TIED to the program's text (the seventh form; the later family's looks); each row that meets fmt, with fmt's text TOLD by the authors' own Lean function (tested against real Go, not proved from fmt's source: count such statements apart). THE CARD IS WHAT COUNTS. Prove the row's statement (the work); the ties are given (YtmaolabjdmhinaaDoorTie.lean); close each card by the builder's one call (the guide's Derived/Test/ToyasCard.lean, 'card_holds'). Laid BY PROGRAM, IN A SANDBOX (cutbox-door.mjs). By AI agents, Wed Nov 11 2026. No macro, syntax, notation, axiom, sorry.
-/
import Derived.Test.YtmaolabjdmhinaaDoorRows
import GoSem.ClaimSeven
namespace Go.Proofs.YtmaolabjdmhinaaDoor
namespace Rows

/-- THE TIED CARD OF 'printworkslaw3.TokenPrintSpelling'. -/
def tokenPrintSpellingCard : Claim7 := { stood := { row := tokenPrintSpellingRow, standIns := [], harness := (true, "dc694e02976f9b8fbd28ea19a903f6421b5484472e343113129dfb78245f8536"), looks := true }, kinds := [], alts := [], laidByText := true, laidKinds := [.data, .data, .data], laidTests := true, laidLooks := .later }
def TokenPrintSpellingCardSaid : Prop := Claim7.holds Tryd.pinned (.plain (OpenSpec.ofChange tokenPrintSpellingSpec)) tokenPrintSpellingCard

/-- THE TIED CARD OF 'printworkslaw3.FilterDecodeMatchesReference'. -/
def filterDecodeMatchesReferenceCard : Claim7 := { stood := { row := filterDecodeMatchesReferenceRow, standIns := [], harness := (true, "dc694e02976f9b8fbd28ea19a903f6421b5484472e343113129dfb78245f8536"), looks := true }, kinds := [], alts := [], laidByText := true, laidKinds := [.data], laidTests := true, laidLooks := .later }
def FilterDecodeMatchesReferenceCardSaid : Prop := Claim7.holds Tryd.pinned (.plain (OpenSpec.ofChange filterDecodeMatchesReferenceSpec)) filterDecodeMatchesReferenceCard

/-- THE TIED CARD OF 'printworkslaw3.FilterSumMatchesReference'. -/
def filterSumMatchesReferenceCard : Claim7 := { stood := { row := filterSumMatchesReferenceRow, standIns := [], harness := (true, "dc694e02976f9b8fbd28ea19a903f6421b5484472e343113129dfb78245f8536"), looks := true }, kinds := [], alts := [], laidByText := true, laidKinds := [.data], laidTests := true, laidLooks := .later }
def FilterSumMatchesReferenceCardSaid : Prop := Claim7.holds Tryd.pinned (.plain (OpenSpec.ofChange filterSumMatchesReferenceSpec)) filterSumMatchesReferenceCard

/-- THE TIED CARD OF 'printworkslaw3.FilterJoinMatchesReference'. -/
def filterJoinMatchesReferenceCard : Claim7 := { stood := { row := filterJoinMatchesReferenceRow, standIns := [], harness := (true, "dc694e02976f9b8fbd28ea19a903f6421b5484472e343113129dfb78245f8536"), looks := true }, kinds := [], alts := [], laidByText := true, laidKinds := [.data], laidTests := true, laidLooks := .later }
def FilterJoinMatchesReferenceCardSaid : Prop := Claim7.holds Tryd.pinned (.plain (OpenSpec.ofChange filterJoinMatchesReferenceSpec)) filterJoinMatchesReferenceCard

/-- THE TIED CARD OF 'printworkslaw3.FilterRunShortest'. -/
def filterRunShortestCard : Claim7 := { stood := { row := filterRunShortestRow, standIns := [], harness := (true, "dc694e02976f9b8fbd28ea19a903f6421b5484472e343113129dfb78245f8536"), looks := true }, kinds := [], alts := [], laidByText := true, laidKinds := [.data], laidTests := true, laidLooks := .later }
def FilterRunShortestCardSaid : Prop := Claim7.holds Tryd.pinned (.plain (OpenSpec.ofChange filterRunShortestSpec)) filterRunShortestCard

/-- THE TIED CARD OF 'printworkslaw3.VaryParseMatchesReference'. -/
def varyParseMatchesReferenceCard : Claim7 := { stood := { row := varyParseMatchesReferenceRow, standIns := [], harness := (true, "dc694e02976f9b8fbd28ea19a903f6421b5484472e343113129dfb78245f8536"), looks := true }, kinds := [], alts := [], laidByText := true, laidKinds := [.data, .pinned], laidTests := true, laidLooks := .later }
def VaryParseMatchesReferenceCardSaid : Prop := Claim7.holds Tryd.pinned (.plain (OpenSpec.ofChange varyParseMatchesReferenceSpec)) varyParseMatchesReferenceCard

/-- THE TIED CARD OF 'printworkslaw3.VaryMergeMatchesReference'. -/
def varyMergeMatchesReferenceCard : Claim7 := { stood := { row := varyMergeMatchesReferenceRow, standIns := [], harness := (true, "dc694e02976f9b8fbd28ea19a903f6421b5484472e343113129dfb78245f8536"), looks := true }, kinds := [], alts := [], laidByText := true, laidKinds := [.data, .pinned], laidTests := true, laidLooks := .later }
def VaryMergeMatchesReferenceCardSaid : Prop := Claim7.holds Tryd.pinned (.plain (OpenSpec.ofChange varyMergeMatchesReferenceSpec)) varyMergeMatchesReferenceCard

/-- THE TIED CARD OF 'printworkslaw3.VaryNumberMatchesReference'. -/
def varyNumberMatchesReferenceCard : Claim7 := { stood := { row := varyNumberMatchesReferenceRow, standIns := [], harness := (true, "dc694e02976f9b8fbd28ea19a903f6421b5484472e343113129dfb78245f8536"), looks := true }, kinds := [], alts := [], laidByText := true, laidKinds := [.data, .data, .data, .sentinel, .sentinel], laidTests := true, laidLooks := .later }
def VaryNumberMatchesReferenceCardSaid : Prop := Claim7.holds Tryd.pinned (.plain (OpenSpec.ofChange varyNumberMatchesReferenceSpec)) varyNumberMatchesReferenceCard

/-- THE TIED CARD OF 'printworkslaw3.TokenNextAtAnyOffset'. -/
def tokenNextAtAnyOffsetCard : Claim7 := { stood := { row := tokenNextAtAnyOffsetRow, standIns := [], harness := (true, "dc694e02976f9b8fbd28ea19a903f6421b5484472e343113129dfb78245f8536"), looks := true }, kinds := [], alts := [], laidByText := true, laidKinds := [.data, .data, .data, .sentinel, .sentinel], laidTests := true, laidLooks := .later }
def TokenNextAtAnyOffsetCardSaid : Prop := Claim7.holds Tryd.pinned (.plain (OpenSpec.ofChange tokenNextAtAnyOffsetSpec)) tokenNextAtAnyOffsetCard

/-- THE TIED CARD OF 'printworkslaw3.TokenMatchesReference'. -/
def tokenMatchesReferenceCard : Claim7 := { stood := { row := tokenMatchesReferenceRow, standIns := [], harness := (true, "dc694e02976f9b8fbd28ea19a903f6421b5484472e343113129dfb78245f8536"), looks := true }, kinds := [], alts := [], laidByText := true, laidKinds := [.data, .data, .data, .sentinel, .sentinel], laidTests := true, laidLooks := .later }
def TokenMatchesReferenceCardSaid : Prop := Claim7.holds Tryd.pinned (.plain (OpenSpec.ofChange tokenMatchesReferenceSpec)) tokenMatchesReferenceCard

/-- THE SECOND FORM's CARD OF 'printworkslaw3.TokenPrintSpelling'. -/
def tokenPrintSpellingUptoCard : Claim7 := { stood := { row := tokenPrintSpellingUptoRow, standIns := [], harness := (true, "dc694e02976f9b8fbd28ea19a903f6421b5484472e343113129dfb78245f8536"), looks := true }, kinds := [], alts := [], laidByText := true, laidKinds := [.data, .data, .data], laidTests := true, laidLooks := .later }
def TokenPrintSpellingUptoCardSaid : Prop := Claim7.holds Tryd.pinned (.plain (OpenSpec.upto tokenPrintSpellingSpec)) tokenPrintSpellingUptoCard

/-- THE SECOND FORM's CARD OF 'printworkslaw3.FilterDecodeMatchesReference'. -/
def filterDecodeMatchesReferenceUptoCard : Claim7 := { stood := { row := filterDecodeMatchesReferenceUptoRow, standIns := [], harness := (true, "dc694e02976f9b8fbd28ea19a903f6421b5484472e343113129dfb78245f8536"), looks := true }, kinds := [], alts := [], laidByText := true, laidKinds := [.data], laidTests := true, laidLooks := .later }
def FilterDecodeMatchesReferenceUptoCardSaid : Prop := Claim7.holds Tryd.pinned (.plain (OpenSpec.upto filterDecodeMatchesReferenceSpec)) filterDecodeMatchesReferenceUptoCard

/-- THE SECOND FORM's CARD OF 'printworkslaw3.FilterSumMatchesReference'. -/
def filterSumMatchesReferenceUptoCard : Claim7 := { stood := { row := filterSumMatchesReferenceUptoRow, standIns := [], harness := (true, "dc694e02976f9b8fbd28ea19a903f6421b5484472e343113129dfb78245f8536"), looks := true }, kinds := [], alts := [], laidByText := true, laidKinds := [.data], laidTests := true, laidLooks := .later }
def FilterSumMatchesReferenceUptoCardSaid : Prop := Claim7.holds Tryd.pinned (.plain (OpenSpec.upto filterSumMatchesReferenceSpec)) filterSumMatchesReferenceUptoCard

/-- THE SECOND FORM's CARD OF 'printworkslaw3.FilterJoinMatchesReference'. -/
def filterJoinMatchesReferenceUptoCard : Claim7 := { stood := { row := filterJoinMatchesReferenceUptoRow, standIns := [], harness := (true, "dc694e02976f9b8fbd28ea19a903f6421b5484472e343113129dfb78245f8536"), looks := true }, kinds := [], alts := [], laidByText := true, laidKinds := [.data], laidTests := true, laidLooks := .later }
def FilterJoinMatchesReferenceUptoCardSaid : Prop := Claim7.holds Tryd.pinned (.plain (OpenSpec.upto filterJoinMatchesReferenceSpec)) filterJoinMatchesReferenceUptoCard

/-- THE SECOND FORM's CARD OF 'printworkslaw3.FilterRunShortest'. -/
def filterRunShortestUptoCard : Claim7 := { stood := { row := filterRunShortestUptoRow, standIns := [], harness := (true, "dc694e02976f9b8fbd28ea19a903f6421b5484472e343113129dfb78245f8536"), looks := true }, kinds := [], alts := [], laidByText := true, laidKinds := [.data], laidTests := true, laidLooks := .later }
def FilterRunShortestUptoCardSaid : Prop := Claim7.holds Tryd.pinned (.plain (OpenSpec.upto filterRunShortestSpec)) filterRunShortestUptoCard

/-- THE SECOND FORM's CARD OF 'printworkslaw3.VaryParseMatchesReference'. -/
def varyParseMatchesReferenceUptoCard : Claim7 := { stood := { row := varyParseMatchesReferenceUptoRow, standIns := [], harness := (true, "dc694e02976f9b8fbd28ea19a903f6421b5484472e343113129dfb78245f8536"), looks := true }, kinds := [], alts := [], laidByText := true, laidKinds := [.data, .pinned], laidTests := true, laidLooks := .later }
def VaryParseMatchesReferenceUptoCardSaid : Prop := Claim7.holds Tryd.pinned (.plain (OpenSpec.upto varyParseMatchesReferenceSpec)) varyParseMatchesReferenceUptoCard

/-- THE SECOND FORM's CARD OF 'printworkslaw3.VaryMergeMatchesReference'. -/
def varyMergeMatchesReferenceUptoCard : Claim7 := { stood := { row := varyMergeMatchesReferenceUptoRow, standIns := [], harness := (true, "dc694e02976f9b8fbd28ea19a903f6421b5484472e343113129dfb78245f8536"), looks := true }, kinds := [], alts := [], laidByText := true, laidKinds := [.data, .pinned], laidTests := true, laidLooks := .later }
def VaryMergeMatchesReferenceUptoCardSaid : Prop := Claim7.holds Tryd.pinned (.plain (OpenSpec.upto varyMergeMatchesReferenceSpec)) varyMergeMatchesReferenceUptoCard

/-- THE SECOND FORM's CARD OF 'printworkslaw3.VaryNumberMatchesReference'. -/
def varyNumberMatchesReferenceUptoCard : Claim7 := { stood := { row := varyNumberMatchesReferenceUptoRow, standIns := [], harness := (true, "dc694e02976f9b8fbd28ea19a903f6421b5484472e343113129dfb78245f8536"), looks := true }, kinds := [], alts := [], laidByText := true, laidKinds := [.data, .data, .data, .sentinel, .sentinel], laidTests := true, laidLooks := .later }
def VaryNumberMatchesReferenceUptoCardSaid : Prop := Claim7.holds Tryd.pinned (.plain (OpenSpec.upto varyNumberMatchesReferenceSpec)) varyNumberMatchesReferenceUptoCard

/-- THE SECOND FORM's CARD OF 'printworkslaw3.TokenNextAtAnyOffset'. -/
def tokenNextAtAnyOffsetUptoCard : Claim7 := { stood := { row := tokenNextAtAnyOffsetUptoRow, standIns := [], harness := (true, "dc694e02976f9b8fbd28ea19a903f6421b5484472e343113129dfb78245f8536"), looks := true }, kinds := [], alts := [], laidByText := true, laidKinds := [.data, .data, .data, .sentinel, .sentinel], laidTests := true, laidLooks := .later }
def TokenNextAtAnyOffsetUptoCardSaid : Prop := Claim7.holds Tryd.pinned (.plain (OpenSpec.upto tokenNextAtAnyOffsetSpec)) tokenNextAtAnyOffsetUptoCard

/-- THE SECOND FORM's CARD OF 'printworkslaw3.TokenMatchesReference'. -/
def tokenMatchesReferenceUptoCard : Claim7 := { stood := { row := tokenMatchesReferenceUptoRow, standIns := [], harness := (true, "dc694e02976f9b8fbd28ea19a903f6421b5484472e343113129dfb78245f8536"), looks := true }, kinds := [], alts := [], laidByText := true, laidKinds := [.data, .data, .data, .sentinel, .sentinel], laidTests := true, laidLooks := .later }
def TokenMatchesReferenceUptoCardSaid : Prop := Claim7.holds Tryd.pinned (.plain (OpenSpec.upto tokenMatchesReferenceSpec)) tokenMatchesReferenceUptoCard
end Rows
end Go.Proofs.YtmaolabjdmhinaaDoor
