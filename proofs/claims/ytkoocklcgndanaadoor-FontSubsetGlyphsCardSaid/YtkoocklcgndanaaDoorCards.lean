/-
  DERIVED. GIVEN WITH THE SEED: THE CARDS: each row of YtkoocklcgndanaaDoorRows.lean that lists a variable, with what it lists TIED to the program's text (the seventh form; the later family's looks); each row that meets fmt, with fmt's text TOLD by the authors' own Lean function (tested against real Go, not proved from fmt's source: count such statements apart). THE CARD IS WHAT COUNTS. Prove the row's statement (the work); the ties are given (YtkoocklcgndanaaDoorTie.lean); close each card by the builder's one call (the guide's Derived/Test/ToyasCard.lean, 'card_holds'). Laid BY PROGRAM, IN A SANDBOX (cutbox-door.mjs). By AI agents, Wed Nov 11 2026. No macro, syntax, notation, axiom, sorry.
-/
import Derived.Test.YtkoocklcgndanaaDoorRows
import GoSem.ClaimSeven
namespace Go.Proofs.YtkoocklcgndanaaDoor
namespace Rows

/-- THE TIED CARD OF 'printworkslaw3.FontSubsetGlyphs'. -/
def fontSubsetGlyphsCard : Claim7 := { stood := { row := fontSubsetGlyphsRow, standIns := [], harness := (true, "b2bc816109066ecabbf9aa0bab32381c15e7345d7671a021571d003103339a36"), looks := false }, kinds := [], alts := [], laidByText := true, laidKinds := [.data], laidTests := true, laidLooks := .later }
def FontSubsetGlyphsCardSaid : Prop := Claim7.holds Tryd.pinned (.plain (OpenSpec.ofChange fontSubsetGlyphsSpec)) fontSubsetGlyphsCard

/-- THE SECOND FORM's CARD OF 'printworkslaw3.FontSubsetGlyphs'. -/
def fontSubsetGlyphsUptoCard : Claim7 := { stood := { row := fontSubsetGlyphsUptoRow, standIns := [], harness := (true, "b2bc816109066ecabbf9aa0bab32381c15e7345d7671a021571d003103339a36"), looks := false }, kinds := [], alts := [], laidByText := true, laidKinds := [.data], laidTests := true, laidLooks := .later }
def FontSubsetGlyphsUptoCardSaid : Prop := Claim7.holds Tryd.pinned (.plain (OpenSpec.upto fontSubsetGlyphsSpec)) fontSubsetGlyphsUptoCard
end Rows
end Go.Proofs.YtkoocklcgndanaaDoor
