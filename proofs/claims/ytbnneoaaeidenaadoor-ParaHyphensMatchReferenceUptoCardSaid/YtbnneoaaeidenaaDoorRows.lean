/-
  NARROWER THAN 'FOR EVERY INPUT', by the rows' own cells (each row's printed sentence says how): ParaHyphensMatchReference: laid · ParaCheckMatchesReference: laid · ParaBreakLeast: laid.
  DERIVED. THE GIVEN ROWS OF THIS SEAT. 3 by the template 'for every input the law returns true; each argument reads behind the call as it read before'; 0 by the template 'total and deterministic' (their statements: YtbnneoaaeidenaaDoorTotals.lean).
  GIVEN WITH THE SEED: the statements are not yours to turn. If you find one false, say at which input.
  Laid BY PROGRAM, IN A SANDBOX (cutbox-rows.mjs): the forced cells as the released guide's own fill.sh prints them over the translation f93933ea2fce977a… (all of the seat's roots in one cut). By AI agents, Wed Nov 11 2026. No macro, syntax, notation, axiom, sorry.
-/
import Derived.Test.YtbnneoaaeidenaaDoorChecked
import GoSem.PinnedTables
import GoSem.Claim
import GoSem.ClaimJoined
import GoSem.ClaimMapViews
import Derived.JoinedTies
import Derived.KernelRfl
namespace Go.Proofs.YtbnneoaaeidenaaDoor
/- THE CELL 'sum', in the pinned program and in every row, IS THE sha256 OF THE DUMP (.gsa) THAT YtbnneoaaeidenaaDoorProg.lean LOADS. Nothing in Lean hashes anything: it is a label: what it is worth is what the hold of that sum in a sandbox is worth. -/
noncomputable def Tryd.pinned : Pinned := { name := "ytbnneoaaeidenaadoor", sum := "f93933ea2fce977aafcbb53d9af98bff72e9a3d2ee990c383caf762ccbb4c610", checked := Tryd.checked }
namespace Rows
def none {H : Type} : Left H := { results := [], args := [] }

/- WHAT THE LISTED PACKAGE-LEVEL VARIABLES READ AS WHEN THE CALL BEGINS. Each datum BY PROGRAM (the guide's laid-datum.mjs) off the statement by which the dump's own 'gosem.cut.vars' lays the variable. In a bare row this is a premise. The card (YtbnneoaaeidenaaDoorCards.lean) ties it to the program's text. -/
def laid_unicode_utf8_acceptRanges {H : Type} : DataW H := .agg [.agg [.lit (.int .u8 128), .lit (.int .u8 191)], .agg [.lit (.int .u8 160), .lit (.int .u8 191)], .agg [.lit (.int .u8 128), .lit (.int .u8 159)], .agg [.lit (.int .u8 144), .lit (.int .u8 191)], .agg [.lit (.int .u8 128), .lit (.int .u8 143)], .agg [.lit (.int .u8 0), .lit (.int .u8 0)], .agg [.lit (.int .u8 0), .lit (.int .u8 0)], .agg [.lit (.int .u8 0), .lit (.int .u8 0)], .agg [.lit (.int .u8 0), .lit (.int .u8 0)], .agg [.lit (.int .u8 0), .lit (.int .u8 0)], .agg [.lit (.int .u8 0), .lit (.int .u8 0)], .agg [.lit (.int .u8 0), .lit (.int .u8 0)], .agg [.lit (.int .u8 0), .lit (.int .u8 0)], .agg [.lit (.int .u8 0), .lit (.int .u8 0)], .agg [.lit (.int .u8 0), .lit (.int .u8 0)], .agg [.lit (.int .u8 0), .lit (.int .u8 0)]]
/-- One of Go's own tables, pinned by name: the form's constant. -/
def laid_unicode_utf8_first : DataW Unit := Go.Pinned.utf8First

/-- 'printworkslaw3.ParaHyphensMatchReference': WHATEVER THE INPUT: true; the input reads as it did. -/
def paraHyphensMatchReferenceSpec : ChangeSpec := { name := "paraHyphensMatchReference", fn := fun _ => fun
  | [d1, d2] => { results := [.lit (.bool true)], args := [d1, d2] }
  | _ => none }
def paraHyphensMatchReferenceRow : OpenClaim := { program := "ytbnneoaaeidenaadoor", sum := "f93933ea2fce977aafcbb53d9af98bff72e9a3d2ee990c383caf762ccbb4c610", func := "printworks/printworkslaw3.ParaHyphensMatchReference", spec := "paraHyphensMatchReference", inPlace := ["internal/bytealg.IndexByteString", "internal/bytealg.IndexString", "internal/abi.NoEscape"], named := ["unicode/utf8.first", "unicode/utf8.acceptRanges", "internal/bytealg.MaxLen"], apart := false, laid := [("unicode/utf8.acceptRanges", laid_unicode_utf8_acceptRanges), ("unicode/utf8.first", laid_unicode_utf8_first)] }
def ParaHyphensMatchReferenceSaid : Prop := paraHyphensMatchReferenceRow.holds Tryd.pinned (OpenSpec.ofChange paraHyphensMatchReferenceSpec)

/-- ITS FALSE NEIGHBOUR: 'it returns false'. Refute it at one input. -/
def paraHyphensMatchReferenceWrong : ChangeSpec := { name := "paraHyphensMatchReference", fn := fun _ => fun
  | [d1, d2] => { results := [.lit (.bool false)], args := [d1, d2] }
  | _ => none }
def ParaHyphensMatchReferenceWrongFalsely : Prop := paraHyphensMatchReferenceRow.holds Tryd.pinned (OpenSpec.ofChange paraHyphensMatchReferenceWrong)

/-- 'printworkslaw3.ParaCheckMatchesReference': WHATEVER THE INPUT: true; the input reads as it did. -/
def paraCheckMatchesReferenceSpec : ChangeSpec := { name := "paraCheckMatchesReference", fn := fun _ => fun
  | [d1, d2] => { results := [.lit (.bool true)], args := [d1, d2] }
  | _ => none }
def paraCheckMatchesReferenceRow : OpenClaim := { program := "ytbnneoaaeidenaadoor", sum := "f93933ea2fce977aafcbb53d9af98bff72e9a3d2ee990c383caf762ccbb4c610", func := "printworks/printworkslaw3.ParaCheckMatchesReference", spec := "paraCheckMatchesReference", inPlace := ["internal/bytealg.IndexByteString", "internal/bytealg.IndexString", "internal/abi.NoEscape"], named := ["unicode/utf8.first", "unicode/utf8.acceptRanges", "internal/bytealg.MaxLen"], apart := false, laid := [("unicode/utf8.acceptRanges", laid_unicode_utf8_acceptRanges), ("unicode/utf8.first", laid_unicode_utf8_first)] }
def ParaCheckMatchesReferenceSaid : Prop := paraCheckMatchesReferenceRow.holds Tryd.pinned (OpenSpec.ofChange paraCheckMatchesReferenceSpec)

/-- ITS FALSE NEIGHBOUR: 'it returns false'. Refute it at one input. -/
def paraCheckMatchesReferenceWrong : ChangeSpec := { name := "paraCheckMatchesReference", fn := fun _ => fun
  | [d1, d2] => { results := [.lit (.bool false)], args := [d1, d2] }
  | _ => none }
def ParaCheckMatchesReferenceWrongFalsely : Prop := paraCheckMatchesReferenceRow.holds Tryd.pinned (OpenSpec.ofChange paraCheckMatchesReferenceWrong)

/-- 'printworkslaw3.ParaBreakLeast': WHATEVER THE INPUT: true; the input reads as it did. -/
def paraBreakLeastSpec : ChangeSpec := { name := "paraBreakLeast", fn := fun _ => fun
  | [d1, d2] => { results := [.lit (.bool true)], args := [d1, d2] }
  | _ => none }
def paraBreakLeastRow : OpenClaim := { program := "ytbnneoaaeidenaadoor", sum := "f93933ea2fce977aafcbb53d9af98bff72e9a3d2ee990c383caf762ccbb4c610", func := "printworks/printworkslaw3.ParaBreakLeast", spec := "paraBreakLeast", inPlace := ["internal/bytealg.IndexByteString", "internal/bytealg.IndexString", "internal/abi.NoEscape"], recurses := true, named := ["unicode/utf8.first", "unicode/utf8.acceptRanges", "internal/bytealg.MaxLen"], apart := false, laid := [("unicode/utf8.acceptRanges", laid_unicode_utf8_acceptRanges), ("unicode/utf8.first", laid_unicode_utf8_first)] }
def ParaBreakLeastSaid : Prop := paraBreakLeastRow.holds Tryd.pinned (OpenSpec.ofChange paraBreakLeastSpec)

/-- ITS FALSE NEIGHBOUR: 'it returns false'. Refute it at one input. -/
def paraBreakLeastWrong : ChangeSpec := { name := "paraBreakLeast", fn := fun _ => fun
  | [d1, d2] => { results := [.lit (.bool false)], args := [d1, d2] }
  | _ => none }
def ParaBreakLeastWrongFalsely : Prop := paraBreakLeastRow.holds Tryd.pinned (OpenSpec.ofChange paraBreakLeastWrong)

/- THE SECOND FORM. 'bulk': how many values and letters a reading holds, each counted each time it is reached (what is shared counts as often as it is met; a slice's spare places count too). A statement '..UptoSaid' is the law's where the arguments, and the package variables that the reading takes, are together of bulk at most 1048576: NARROWER than '..Said'. Prove '..Said' where nothing that the law and all that it calls make is longer than what came in: it says more and counts as full. Else prove '..UptoSaid'. A law counts once. -/
mutual
def uptoBulk {H : Type} : DataW H → Nat
  | .lit (.string bytes) => bytes.length + 1
  | .lit _ => 1
  | .nil => 1
  | .ptr d => uptoBulk d + 1
  | .slice elems spare => uptoBulkAll elems + uptoBulkAll spare + 1
  | .agg parts => uptoBulkAll parts + 1
  | .iface _ d => uptoBulk d + 1
  | .map entries => uptoBulkEntries entries + 1
  | .held _ => 1
def uptoBulkAll {H : Type} : List (DataW H) → Nat
  | [] => 0
  | d :: r => uptoBulk d + uptoBulkAll r
def uptoBulkEntries {H : Type} : List (Lit × DataW H) → Nat
  | [] => 0
  | x :: r => uptoBulkEntry x + uptoBulkEntries r
def uptoBulkEntry {H : Type} : Lit × DataW H → Nat
  | (.string bytes, d) => bytes.length + uptoBulk d + 1
  | (_, d) => uptoBulk d + 1
 end
def uptoSmall : (H : Type) → List (DataW H) → Bool := fun _ ds => decide (uptoBulkAll ds ≤ 1048576)
def OpenSpec.upto (s : _root_.Go.ChangeSpec) : _root_.Go.OpenSpec := { _root_.Go.OpenSpec.ofChange s with cond := some uptoSmall }

/-- 'printworkslaw3.ParaHyphensMatchReference', WHERE WHAT IT READS IS OF BULK AT MOST 1048576: true; the input reads as it did. -/
def paraHyphensMatchReferenceUptoRow : OpenClaim := { program := "ytbnneoaaeidenaadoor", sum := "f93933ea2fce977aafcbb53d9af98bff72e9a3d2ee990c383caf762ccbb4c610", func := "printworks/printworkslaw3.ParaHyphensMatchReference", spec := "paraHyphensMatchReference", inPlace := ["internal/bytealg.IndexByteString", "internal/bytealg.IndexString", "internal/abi.NoEscape"], named := ["unicode/utf8.first", "unicode/utf8.acceptRanges", "internal/bytealg.MaxLen"], apart := false, laid := [("unicode/utf8.acceptRanges", laid_unicode_utf8_acceptRanges), ("unicode/utf8.first", laid_unicode_utf8_first)], narrowed := true }
def ParaHyphensMatchReferenceUptoSaid : Prop := paraHyphensMatchReferenceUptoRow.holds Tryd.pinned (OpenSpec.upto paraHyphensMatchReferenceSpec)

/-- 'printworkslaw3.ParaCheckMatchesReference', WHERE WHAT IT READS IS OF BULK AT MOST 1048576: true; the input reads as it did. -/
def paraCheckMatchesReferenceUptoRow : OpenClaim := { program := "ytbnneoaaeidenaadoor", sum := "f93933ea2fce977aafcbb53d9af98bff72e9a3d2ee990c383caf762ccbb4c610", func := "printworks/printworkslaw3.ParaCheckMatchesReference", spec := "paraCheckMatchesReference", inPlace := ["internal/bytealg.IndexByteString", "internal/bytealg.IndexString", "internal/abi.NoEscape"], named := ["unicode/utf8.first", "unicode/utf8.acceptRanges", "internal/bytealg.MaxLen"], apart := false, laid := [("unicode/utf8.acceptRanges", laid_unicode_utf8_acceptRanges), ("unicode/utf8.first", laid_unicode_utf8_first)], narrowed := true }
def ParaCheckMatchesReferenceUptoSaid : Prop := paraCheckMatchesReferenceUptoRow.holds Tryd.pinned (OpenSpec.upto paraCheckMatchesReferenceSpec)

/-- 'printworkslaw3.ParaBreakLeast', WHERE WHAT IT READS IS OF BULK AT MOST 1048576: true; the input reads as it did. -/
def paraBreakLeastUptoRow : OpenClaim := { program := "ytbnneoaaeidenaadoor", sum := "f93933ea2fce977aafcbb53d9af98bff72e9a3d2ee990c383caf762ccbb4c610", func := "printworks/printworkslaw3.ParaBreakLeast", spec := "paraBreakLeast", inPlace := ["internal/bytealg.IndexByteString", "internal/bytealg.IndexString", "internal/abi.NoEscape"], recurses := true, named := ["unicode/utf8.first", "unicode/utf8.acceptRanges", "internal/bytealg.MaxLen"], apart := false, laid := [("unicode/utf8.acceptRanges", laid_unicode_utf8_acceptRanges), ("unicode/utf8.first", laid_unicode_utf8_first)], narrowed := true }
def ParaBreakLeastUptoSaid : Prop := paraBreakLeastUptoRow.holds Tryd.pinned (OpenSpec.upto paraBreakLeastSpec)

end Rows
end Go.Proofs.YtbnneoaaeidenaaDoor
