/-
  No cell of these rows narrows 'for every input' (looked for: loops, veiled, ifaces, maps, wideKeys, modest, calm, conditions, laid).
  DERIVED. THE GIVEN ROWS OF THIS SEAT. 3 by the template 'for every input the law returns true; each argument reads behind the call as it read before'; 0 by the template 'total and deterministic' (their statements: YtknicigahcopjaaTotals.lean).
  GIVEN WITH THE SEED: the statements are not yours to turn. If you find one false, say at which input.
  Laid BY PROGRAM, IN A SANDBOX (cutbox-rows.mjs): the forced cells as the released guide's own fill.sh prints them over the translation 64db6c72604a5bd6… (all of the seat's roots in one cut). By AI agents, Wed Nov 11 2026. No macro, syntax, notation, axiom, sorry.
-/
import Derived.Test.YtknicigahcopjaaChecked
import GoSem.Claim
import GoSem.ClaimJoined
import GoSem.ClaimMapViews
import Derived.JoinedTies
import Derived.KernelRfl
namespace Go.Proofs.Ytknicigahcopjaa
/- THE CELL 'sum', in the pinned program and in every row, IS THE sha256 OF THE DUMP (.gsa) THAT YtknicigahcopjaaProg.lean LOADS. Nothing in Lean hashes anything: it is a label: what it is worth is what the hold of that sum in a sandbox is worth. -/
noncomputable def Try.pinned : Pinned := { name := "ytknicigahcopjaa", sum := "64db6c72604a5bd6ccc6203f9ebaae88fb377d7f44987c89f86c81d04041cc36", checked := Try.checked }
namespace Rows
def none {H : Type} : Left H := { results := [], args := [] }

/-- 'printworkslaw3.BindPlanMatchesReference': WHATEVER THE INPUT: true; the input reads as it did. -/
def bindPlanMatchesReferenceSpec : ChangeSpec := { name := "bindPlanMatchesReference", fn := fun _ => fun
  | [d1, d2, d3] => { results := [.lit (.bool true)], args := [d1, d2, d3] }
  | _ => none }
def bindPlanMatchesReferenceRow : OpenClaim := { program := "ytknicigahcopjaa", sum := "64db6c72604a5bd6ccc6203f9ebaae88fb377d7f44987c89f86c81d04041cc36", func := "printworks/printworkslaw3.BindPlanMatchesReference", spec := "bindPlanMatchesReference", unfollowed := true, recurses := true, apart := false }
def BindPlanMatchesReferenceSaid : Prop := bindPlanMatchesReferenceRow.holds Try.pinned (OpenSpec.ofChange bindPlanMatchesReferenceSpec)

/-- ITS FALSE NEIGHBOUR: 'it returns false'. Refute it at one input. -/
def bindPlanMatchesReferenceWrong : ChangeSpec := { name := "bindPlanMatchesReference", fn := fun _ => fun
  | [d1, d2, d3] => { results := [.lit (.bool false)], args := [d1, d2, d3] }
  | _ => none }
def BindPlanMatchesReferenceWrongFalsely : Prop := bindPlanMatchesReferenceRow.holds Try.pinned (OpenSpec.ofChange bindPlanMatchesReferenceWrong)

/-- 'printworkslaw3.BindReadMatchesReference': WHATEVER THE INPUT: true; the input reads as it did. -/
def bindReadMatchesReferenceSpec : ChangeSpec := { name := "bindReadMatchesReference", fn := fun _ => fun
  | [d1, d2, d3] => { results := [.lit (.bool true)], args := [d1, d2, d3] }
  | _ => none }
def bindReadMatchesReferenceRow : OpenClaim := { program := "ytknicigahcopjaa", sum := "64db6c72604a5bd6ccc6203f9ebaae88fb377d7f44987c89f86c81d04041cc36", func := "printworks/printworkslaw3.BindReadMatchesReference", spec := "bindReadMatchesReference", unfollowed := true, recurses := true, apart := false }
def BindReadMatchesReferenceSaid : Prop := bindReadMatchesReferenceRow.holds Try.pinned (OpenSpec.ofChange bindReadMatchesReferenceSpec)

/-- ITS FALSE NEIGHBOUR: 'it returns false'. Refute it at one input. -/
def bindReadMatchesReferenceWrong : ChangeSpec := { name := "bindReadMatchesReference", fn := fun _ => fun
  | [d1, d2, d3] => { results := [.lit (.bool false)], args := [d1, d2, d3] }
  | _ => none }
def BindReadMatchesReferenceWrongFalsely : Prop := bindReadMatchesReferenceRow.holds Try.pinned (OpenSpec.ofChange bindReadMatchesReferenceWrong)

/-- 'printworkslaw3.BindFaultsMinimal': WHATEVER THE INPUT: true; the input reads as it did. -/
def bindFaultsMinimalSpec : ChangeSpec := { name := "bindFaultsMinimal", fn := fun _ => fun
  | [d1, d2] => { results := [.lit (.bool true)], args := [d1, d2] }
  | _ => none }
def bindFaultsMinimalRow : OpenClaim := { program := "ytknicigahcopjaa", sum := "64db6c72604a5bd6ccc6203f9ebaae88fb377d7f44987c89f86c81d04041cc36", func := "printworks/printworkslaw3.BindFaultsMinimal", spec := "bindFaultsMinimal", unfollowed := true, recurses := true, apart := false }
def BindFaultsMinimalSaid : Prop := bindFaultsMinimalRow.holds Try.pinned (OpenSpec.ofChange bindFaultsMinimalSpec)

/-- ITS FALSE NEIGHBOUR: 'it returns false'. Refute it at one input. -/
def bindFaultsMinimalWrong : ChangeSpec := { name := "bindFaultsMinimal", fn := fun _ => fun
  | [d1, d2] => { results := [.lit (.bool false)], args := [d1, d2] }
  | _ => none }
def BindFaultsMinimalWrongFalsely : Prop := bindFaultsMinimalRow.holds Try.pinned (OpenSpec.ofChange bindFaultsMinimalWrong)

/- THE SECOND FORM. 'bulk': how many values and letters a reading holds, each counted each time it is reached (what is shared counts as often as it is met; a slice's spare places count too). A statement '..UptoSaid' is the law's where the arguments, and the package variables that the reading takes, are together of bulk at most 1048576: NARROWER than '..Said'. Prove '..Said' where nothing that the law and all that it calls make is longer than what came in: it says more and counts as full. Else prove '..UptoSaid'. A law counts once. -/
mutual
def uptoBulk {H : Type} : DataW H → Nat
  | .lit (.string bytes) => bytes.length + 1
  | .lit _ => 1
  | .nil => 1
  | .ptr d => uptoBulk d + 1
  | .slice elems spare => uptoBulkAll elems + uptoBulkAll spare + 1
  | .agg parts => uptoBulkAll parts + 1
  | .iface _ d => uptoBulk d + 1
  | .map entries => uptoBulkEntries entries + 1
  | .held _ => 1
def uptoBulkAll {H : Type} : List (DataW H) → Nat
  | [] => 0
  | d :: r => uptoBulk d + uptoBulkAll r
def uptoBulkEntries {H : Type} : List (Lit × DataW H) → Nat
  | [] => 0
  | x :: r => uptoBulkEntry x + uptoBulkEntries r
def uptoBulkEntry {H : Type} : Lit × DataW H → Nat
  | (.string bytes, d) => bytes.length + uptoBulk d + 1
  | (_, d) => uptoBulk d + 1
 end
def uptoSmall : (H : Type) → List (DataW H) → Bool := fun _ ds => decide (uptoBulkAll ds ≤ 1048576)
def OpenSpec.upto (s : _root_.Go.ChangeSpec) : _root_.Go.OpenSpec := { _root_.Go.OpenSpec.ofChange s with cond := some uptoSmall }

/-- 'printworkslaw3.BindPlanMatchesReference', WHERE WHAT IT READS IS OF BULK AT MOST 1048576: true; the input reads as it did. -/
def bindPlanMatchesReferenceUptoRow : OpenClaim := { program := "ytknicigahcopjaa", sum := "64db6c72604a5bd6ccc6203f9ebaae88fb377d7f44987c89f86c81d04041cc36", func := "printworks/printworkslaw3.BindPlanMatchesReference", spec := "bindPlanMatchesReference", unfollowed := true, recurses := true, apart := false, narrowed := true }
def BindPlanMatchesReferenceUptoSaid : Prop := bindPlanMatchesReferenceUptoRow.holds Try.pinned (OpenSpec.upto bindPlanMatchesReferenceSpec)

/-- 'printworkslaw3.BindReadMatchesReference', WHERE WHAT IT READS IS OF BULK AT MOST 1048576: true; the input reads as it did. -/
def bindReadMatchesReferenceUptoRow : OpenClaim := { program := "ytknicigahcopjaa", sum := "64db6c72604a5bd6ccc6203f9ebaae88fb377d7f44987c89f86c81d04041cc36", func := "printworks/printworkslaw3.BindReadMatchesReference", spec := "bindReadMatchesReference", unfollowed := true, recurses := true, apart := false, narrowed := true }
def BindReadMatchesReferenceUptoSaid : Prop := bindReadMatchesReferenceUptoRow.holds Try.pinned (OpenSpec.upto bindReadMatchesReferenceSpec)

/-- 'printworkslaw3.BindFaultsMinimal', WHERE WHAT IT READS IS OF BULK AT MOST 1048576: true; the input reads as it did. -/
def bindFaultsMinimalUptoRow : OpenClaim := { program := "ytknicigahcopjaa", sum := "64db6c72604a5bd6ccc6203f9ebaae88fb377d7f44987c89f86c81d04041cc36", func := "printworks/printworkslaw3.BindFaultsMinimal", spec := "bindFaultsMinimal", unfollowed := true, recurses := true, apart := false, narrowed := true }
def BindFaultsMinimalUptoSaid : Prop := bindFaultsMinimalUptoRow.holds Try.pinned (OpenSpec.upto bindFaultsMinimalSpec)

end Rows
end Go.Proofs.Ytknicigahcopjaa
