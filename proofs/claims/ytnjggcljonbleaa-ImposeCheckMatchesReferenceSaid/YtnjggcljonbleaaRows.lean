/-
  No cell of these rows narrows 'for every input' (looked for: loops, veiled, ifaces, maps, wideKeys, modest, calm, conditions, laid).
  DERIVED. THE GIVEN ROWS OF THIS SEAT. 4 by the template 'for every input the law returns true; each argument reads behind the call as it read before'; 0 by the template 'total and deterministic' (their statements: YtnjggcljonbleaaTotals.lean).
  GIVEN WITH THE SEED: the statements are not yours to turn. If you find one false, say at which input.
  Laid BY PROGRAM, IN A SANDBOX (cutbox-rows.mjs): the forced cells as the released guide's own fill.sh prints them over the translation 433b87e3a5e9e616… (all of the seat's roots in one cut). By AI agents, Wed Nov 11 2026. No macro, syntax, notation, axiom, sorry.
-/
import Derived.Test.YtnjggcljonbleaaChecked
import GoSem.Claim
import GoSem.ClaimJoined
import GoSem.ClaimMapViews
import Derived.JoinedTies
import Derived.KernelRfl
namespace Go.Proofs.Ytnjggcljonbleaa
/- THE CELL 'sum', in the pinned program and in every row, IS THE sha256 OF THE DUMP (.gsa) THAT YtnjggcljonbleaaProg.lean LOADS. Nothing in Lean hashes anything: it is a label: what it is worth is what the hold of that sum in a sandbox is worth. -/
noncomputable def Try.pinned : Pinned := { name := "ytnjggcljonbleaa", sum := "433b87e3a5e9e616b191334ace3f21d1246fb1b2633757ef93e3356641f6e85c", checked := Try.checked }
namespace Rows
def none {H : Type} : Left H := { results := [], args := [] }

/-- 'printworkslaw3.FoldPagesMatchReference': WHATEVER THE INPUT: true; the input reads as it did. -/
def foldPagesMatchReferenceSpec : ChangeSpec := { name := "foldPagesMatchReference", fn := fun _ => fun
  | [d] => { results := [.lit (.bool true)], args := [d] }
  | _ => none }
def foldPagesMatchReferenceRow : OpenClaim := { program := "ytnjggcljonbleaa", sum := "433b87e3a5e9e616b191334ace3f21d1246fb1b2633757ef93e3356641f6e85c", func := "printworks/printworkslaw3.FoldPagesMatchReference", spec := "foldPagesMatchReference", unfollowed := true, recurses := true, apart := false }
def FoldPagesMatchReferenceSaid : Prop := foldPagesMatchReferenceRow.holds Try.pinned (OpenSpec.ofChange foldPagesMatchReferenceSpec)

/-- ITS FALSE NEIGHBOUR: 'it returns false'. Refute it at one input. -/
def foldPagesMatchReferenceWrong : ChangeSpec := { name := "foldPagesMatchReference", fn := fun _ => fun
  | [d] => { results := [.lit (.bool false)], args := [d] }
  | _ => none }
def FoldPagesMatchReferenceWrongFalsely : Prop := foldPagesMatchReferenceRow.holds Try.pinned (OpenSpec.ofChange foldPagesMatchReferenceWrong)

/-- 'printworkslaw3.FoldPairsMatchReference': WHATEVER THE INPUT: true; the input reads as it did. -/
def foldPairsMatchReferenceSpec : ChangeSpec := { name := "foldPairsMatchReference", fn := fun _ => fun
  | [d] => { results := [.lit (.bool true)], args := [d] }
  | _ => none }
def foldPairsMatchReferenceRow : OpenClaim := { program := "ytnjggcljonbleaa", sum := "433b87e3a5e9e616b191334ace3f21d1246fb1b2633757ef93e3356641f6e85c", func := "printworks/printworkslaw3.FoldPairsMatchReference", spec := "foldPairsMatchReference", unfollowed := true, recurses := true, apart := false }
def FoldPairsMatchReferenceSaid : Prop := foldPairsMatchReferenceRow.holds Try.pinned (OpenSpec.ofChange foldPairsMatchReferenceSpec)

/-- ITS FALSE NEIGHBOUR: 'it returns false'. Refute it at one input. -/
def foldPairsMatchReferenceWrong : ChangeSpec := { name := "foldPairsMatchReference", fn := fun _ => fun
  | [d] => { results := [.lit (.bool false)], args := [d] }
  | _ => none }
def FoldPairsMatchReferenceWrongFalsely : Prop := foldPairsMatchReferenceRow.holds Try.pinned (OpenSpec.ofChange foldPairsMatchReferenceWrong)

/-- 'printworkslaw3.FoldPileMatchesReference': WHATEVER THE INPUT: true; the input reads as it did. -/
def foldPileMatchesReferenceSpec : ChangeSpec := { name := "foldPileMatchesReference", fn := fun _ => fun
  | [d1, d2, d3, d4] => { results := [.lit (.bool true)], args := [d1, d2, d3, d4] }
  | _ => none }
def foldPileMatchesReferenceRow : OpenClaim := { program := "ytnjggcljonbleaa", sum := "433b87e3a5e9e616b191334ace3f21d1246fb1b2633757ef93e3356641f6e85c", func := "printworks/printworkslaw3.FoldPileMatchesReference", spec := "foldPileMatchesReference", unfollowed := true, recurses := true, apart := false }
def FoldPileMatchesReferenceSaid : Prop := foldPileMatchesReferenceRow.holds Try.pinned (OpenSpec.ofChange foldPileMatchesReferenceSpec)

/-- ITS FALSE NEIGHBOUR: 'it returns false'. Refute it at one input. -/
def foldPileMatchesReferenceWrong : ChangeSpec := { name := "foldPileMatchesReference", fn := fun _ => fun
  | [d1, d2, d3, d4] => { results := [.lit (.bool false)], args := [d1, d2, d3, d4] }
  | _ => none }
def FoldPileMatchesReferenceWrongFalsely : Prop := foldPileMatchesReferenceRow.holds Try.pinned (OpenSpec.ofChange foldPileMatchesReferenceWrong)

/-- 'printworkslaw3.ImposeCheckMatchesReference': WHATEVER THE INPUT: true; the input reads as it did. -/
def imposeCheckMatchesReferenceSpec : ChangeSpec := { name := "imposeCheckMatchesReference", fn := fun _ => fun
  | [d] => { results := [.lit (.bool true)], args := [d] }
  | _ => none }
def imposeCheckMatchesReferenceRow : OpenClaim := { program := "ytnjggcljonbleaa", sum := "433b87e3a5e9e616b191334ace3f21d1246fb1b2633757ef93e3356641f6e85c", func := "printworks/printworkslaw3.ImposeCheckMatchesReference", spec := "imposeCheckMatchesReference", unfollowed := true, recurses := true, apart := false }
def ImposeCheckMatchesReferenceSaid : Prop := imposeCheckMatchesReferenceRow.holds Try.pinned (OpenSpec.ofChange imposeCheckMatchesReferenceSpec)

/-- ITS FALSE NEIGHBOUR: 'it returns false'. Refute it at one input. -/
def imposeCheckMatchesReferenceWrong : ChangeSpec := { name := "imposeCheckMatchesReference", fn := fun _ => fun
  | [d] => { results := [.lit (.bool false)], args := [d] }
  | _ => none }
def ImposeCheckMatchesReferenceWrongFalsely : Prop := imposeCheckMatchesReferenceRow.holds Try.pinned (OpenSpec.ofChange imposeCheckMatchesReferenceWrong)

/- THE SECOND FORM. 'bulk': how many values and letters a reading holds, each counted each time it is reached (what is shared counts as often as it is met; a slice's spare places count too). A statement '..UptoSaid' is the law's where the arguments, and the package variables that the reading takes, are together of bulk at most 1048576: NARROWER than '..Said'. Prove '..Said' where nothing that the law and all that it calls make is longer than what came in: it says more and counts as full. Else prove '..UptoSaid'. A law counts once. -/
mutual
def uptoBulk {H : Type} : DataW H → Nat
  | .lit (.string bytes) => bytes.length + 1
  | .lit _ => 1
  | .nil => 1
  | .ptr d => uptoBulk d + 1
  | .slice elems spare => uptoBulkAll elems + uptoBulkAll spare + 1
  | .agg parts => uptoBulkAll parts + 1
  | .iface _ d => uptoBulk d + 1
  | .map entries => uptoBulkEntries entries + 1
  | .held _ => 1
def uptoBulkAll {H : Type} : List (DataW H) → Nat
  | [] => 0
  | d :: r => uptoBulk d + uptoBulkAll r
def uptoBulkEntries {H : Type} : List (Lit × DataW H) → Nat
  | [] => 0
  | x :: r => uptoBulkEntry x + uptoBulkEntries r
def uptoBulkEntry {H : Type} : Lit × DataW H → Nat
  | (.string bytes, d) => bytes.length + uptoBulk d + 1
  | (_, d) => uptoBulk d + 1
 end
def uptoSmall : (H : Type) → List (DataW H) → Bool := fun _ ds => decide (uptoBulkAll ds ≤ 1048576)
def OpenSpec.upto (s : _root_.Go.ChangeSpec) : _root_.Go.OpenSpec := { _root_.Go.OpenSpec.ofChange s with cond := some uptoSmall }

/-- 'printworkslaw3.FoldPagesMatchReference', WHERE WHAT IT READS IS OF BULK AT MOST 1048576: true; the input reads as it did. -/
def foldPagesMatchReferenceUptoRow : OpenClaim := { program := "ytnjggcljonbleaa", sum := "433b87e3a5e9e616b191334ace3f21d1246fb1b2633757ef93e3356641f6e85c", func := "printworks/printworkslaw3.FoldPagesMatchReference", spec := "foldPagesMatchReference", unfollowed := true, recurses := true, apart := false, narrowed := true }
def FoldPagesMatchReferenceUptoSaid : Prop := foldPagesMatchReferenceUptoRow.holds Try.pinned (OpenSpec.upto foldPagesMatchReferenceSpec)

/-- 'printworkslaw3.FoldPairsMatchReference', WHERE WHAT IT READS IS OF BULK AT MOST 1048576: true; the input reads as it did. -/
def foldPairsMatchReferenceUptoRow : OpenClaim := { program := "ytnjggcljonbleaa", sum := "433b87e3a5e9e616b191334ace3f21d1246fb1b2633757ef93e3356641f6e85c", func := "printworks/printworkslaw3.FoldPairsMatchReference", spec := "foldPairsMatchReference", unfollowed := true, recurses := true, apart := false, narrowed := true }
def FoldPairsMatchReferenceUptoSaid : Prop := foldPairsMatchReferenceUptoRow.holds Try.pinned (OpenSpec.upto foldPairsMatchReferenceSpec)

/-- 'printworkslaw3.FoldPileMatchesReference', WHERE WHAT IT READS IS OF BULK AT MOST 1048576: true; the input reads as it did. -/
def foldPileMatchesReferenceUptoRow : OpenClaim := { program := "ytnjggcljonbleaa", sum := "433b87e3a5e9e616b191334ace3f21d1246fb1b2633757ef93e3356641f6e85c", func := "printworks/printworkslaw3.FoldPileMatchesReference", spec := "foldPileMatchesReference", unfollowed := true, recurses := true, apart := false, narrowed := true }
def FoldPileMatchesReferenceUptoSaid : Prop := foldPileMatchesReferenceUptoRow.holds Try.pinned (OpenSpec.upto foldPileMatchesReferenceSpec)

/-- 'printworkslaw3.ImposeCheckMatchesReference', WHERE WHAT IT READS IS OF BULK AT MOST 1048576: true; the input reads as it did. -/
def imposeCheckMatchesReferenceUptoRow : OpenClaim := { program := "ytnjggcljonbleaa", sum := "433b87e3a5e9e616b191334ace3f21d1246fb1b2633757ef93e3356641f6e85c", func := "printworks/printworkslaw3.ImposeCheckMatchesReference", spec := "imposeCheckMatchesReference", unfollowed := true, recurses := true, apart := false, narrowed := true }
def ImposeCheckMatchesReferenceUptoSaid : Prop := imposeCheckMatchesReferenceUptoRow.holds Try.pinned (OpenSpec.upto imposeCheckMatchesReferenceSpec)

end Rows
end Go.Proofs.Ytnjggcljonbleaa
