/-
  NARROWER THAN 'FOR EVERY INPUT', by the rows' own cells (each row's printed sentence says how): ArchiveCutsMatchReference: laid · FontCheckMatchesReference: laid · FontOutlineMatchesReference: laid · FontPlacesMatchReference: laid.
  DERIVED. THE GIVEN ROWS OF THIS SEAT. 4 by the template 'for every input the law returns true; each argument reads behind the call as it read before'; 0 by the template 'total and deterministic' (their statements: YtnjggcljonbleaaDoorTotals.lean).
  GIVEN WITH THE SEED: the statements are not yours to turn. If you find one false, say at which input.
  Laid BY PROGRAM, IN A SANDBOX (cutbox-rows.mjs): the forced cells as the released guide's own fill.sh prints them over the translation 38961f6900efab40… (all of the seat's roots in one cut). By AI agents, Wed Nov 11 2026. No macro, syntax, notation, axiom, sorry.
-/
import Derived.Test.YtnjggcljonbleaaDoorChecked
import GoSem.Claim
import GoSem.ClaimJoined
import GoSem.ClaimMapViews
import Derived.JoinedTies
import Derived.KernelRfl
namespace Go.Proofs.YtnjggcljonbleaaDoor
/- THE CELL 'sum', in the pinned program and in every row, IS THE sha256 OF THE DUMP (.gsa) THAT YtnjggcljonbleaaDoorProg.lean LOADS. Nothing in Lean hashes anything: it is a label: what it is worth is what the hold of that sum in a sandbox is worth. -/
noncomputable def Tryd.pinned : Pinned := { name := "ytnjggcljonbleaadoor", sum := "38961f6900efab4090eb52190ccc603d9db9cfb5999da8f4d9a4a830aa2e3d5e", checked := Tryd.checked }
namespace Rows
def none {H : Type} : Left H := { results := [], args := [] }

/- WHAT THE LISTED PACKAGE-LEVEL VARIABLES READ AS WHEN THE CALL BEGINS. Each datum BY PROGRAM (the guide's laid-datum.mjs) off the statement by which the dump's own 'gosem.cut.vars' lays the variable. In a bare row this is a premise. The card (YtnjggcljonbleaaDoorCards.lean) ties it to the program's text. -/
def laid_printworks_filter_steps {H : Type} : DataW H := .agg [.lit (.int .u32 0), .lit (.int .u32 498536548), .lit (.int .u32 997073096), .lit (.int .u32 651767980), .lit (.int .u32 1994146192), .lit (.int .u32 1802195444), .lit (.int .u32 1303535960), .lit (.int .u32 1342533948), .lit (.int .u32 3988292384), .lit (.int .u32 4027552580), .lit (.int .u32 3604390888), .lit (.int .u32 3412177804), .lit (.int .u32 2607071920), .lit (.int .u32 2262029012), .lit (.int .u32 2685067896), .lit (.int .u32 3183342108)]

/-- 'printworkslaw3.ArchiveCutsMatchReference': WHATEVER THE INPUT: true; the input reads as it did. -/
def archiveCutsMatchReferenceSpec : ChangeSpec := { name := "archiveCutsMatchReference", fn := fun _ => fun
  | [d] => { results := [.lit (.bool true)], args := [d] }
  | _ => none }
def archiveCutsMatchReferenceRow : OpenClaim := { program := "ytnjggcljonbleaadoor", sum := "38961f6900efab4090eb52190ccc603d9db9cfb5999da8f4d9a4a830aa2e3d5e", func := "printworks/printworkslaw3.ArchiveCutsMatchReference", spec := "archiveCutsMatchReference", inPlace := ["slices.overlaps[string]", "internal/abi.NoEscape"], named := ["printworks/filter.steps"], apart := false, laid := [("printworks/filter.steps", laid_printworks_filter_steps)] }
def ArchiveCutsMatchReferenceSaid : Prop := archiveCutsMatchReferenceRow.holds Tryd.pinned (OpenSpec.ofChange archiveCutsMatchReferenceSpec)

/-- ITS FALSE NEIGHBOUR: 'it returns false'. Refute it at one input. -/
def archiveCutsMatchReferenceWrong : ChangeSpec := { name := "archiveCutsMatchReference", fn := fun _ => fun
  | [d] => { results := [.lit (.bool false)], args := [d] }
  | _ => none }
def ArchiveCutsMatchReferenceWrongFalsely : Prop := archiveCutsMatchReferenceRow.holds Tryd.pinned (OpenSpec.ofChange archiveCutsMatchReferenceWrong)

/-- 'printworkslaw3.FontCheckMatchesReference': WHATEVER THE INPUT: true; the input reads as it did. -/
def fontCheckMatchesReferenceSpec : ChangeSpec := { name := "fontCheckMatchesReference", fn := fun _ => fun
  | [d] => { results := [.lit (.bool true)], args := [d] }
  | _ => none }
def fontCheckMatchesReferenceRow : OpenClaim := { program := "ytnjggcljonbleaadoor", sum := "38961f6900efab4090eb52190ccc603d9db9cfb5999da8f4d9a4a830aa2e3d5e", func := "printworks/printworkslaw3.FontCheckMatchesReference", spec := "fontCheckMatchesReference", inPlace := ["internal/abi.NoEscape"], unfollowed := true, recurses := true, named := ["printworks/filter.steps"], apart := false, laid := [("printworks/filter.steps", laid_printworks_filter_steps)] }
def FontCheckMatchesReferenceSaid : Prop := fontCheckMatchesReferenceRow.holds Tryd.pinned (OpenSpec.ofChange fontCheckMatchesReferenceSpec)

/-- ITS FALSE NEIGHBOUR: 'it returns false'. Refute it at one input. -/
def fontCheckMatchesReferenceWrong : ChangeSpec := { name := "fontCheckMatchesReference", fn := fun _ => fun
  | [d] => { results := [.lit (.bool false)], args := [d] }
  | _ => none }
def FontCheckMatchesReferenceWrongFalsely : Prop := fontCheckMatchesReferenceRow.holds Tryd.pinned (OpenSpec.ofChange fontCheckMatchesReferenceWrong)

/-- 'printworkslaw3.FontOutlineMatchesReference': WHATEVER THE INPUT: true; the input reads as it did. -/
def fontOutlineMatchesReferenceSpec : ChangeSpec := { name := "fontOutlineMatchesReference", fn := fun _ => fun
  | [d1, d2] => { results := [.lit (.bool true)], args := [d1, d2] }
  | _ => none }
def fontOutlineMatchesReferenceRow : OpenClaim := { program := "ytnjggcljonbleaadoor", sum := "38961f6900efab4090eb52190ccc603d9db9cfb5999da8f4d9a4a830aa2e3d5e", func := "printworks/printworkslaw3.FontOutlineMatchesReference", spec := "fontOutlineMatchesReference", inPlace := ["internal/abi.NoEscape"], unfollowed := true, recurses := true, named := ["printworks/filter.steps"], apart := false, laid := [("printworks/filter.steps", laid_printworks_filter_steps)] }
def FontOutlineMatchesReferenceSaid : Prop := fontOutlineMatchesReferenceRow.holds Tryd.pinned (OpenSpec.ofChange fontOutlineMatchesReferenceSpec)

/-- ITS FALSE NEIGHBOUR: 'it returns false'. Refute it at one input. -/
def fontOutlineMatchesReferenceWrong : ChangeSpec := { name := "fontOutlineMatchesReference", fn := fun _ => fun
  | [d1, d2] => { results := [.lit (.bool false)], args := [d1, d2] }
  | _ => none }
def FontOutlineMatchesReferenceWrongFalsely : Prop := fontOutlineMatchesReferenceRow.holds Tryd.pinned (OpenSpec.ofChange fontOutlineMatchesReferenceWrong)

/-- 'printworkslaw3.FontPlacesMatchReference': WHATEVER THE INPUT: true; the input reads as it did. -/
def fontPlacesMatchReferenceSpec : ChangeSpec := { name := "fontPlacesMatchReference", fn := fun _ => fun
  | [d1, d2] => { results := [.lit (.bool true)], args := [d1, d2] }
  | _ => none }
def fontPlacesMatchReferenceRow : OpenClaim := { program := "ytnjggcljonbleaadoor", sum := "38961f6900efab4090eb52190ccc603d9db9cfb5999da8f4d9a4a830aa2e3d5e", func := "printworks/printworkslaw3.FontPlacesMatchReference", spec := "fontPlacesMatchReference", inPlace := ["internal/abi.NoEscape"], unfollowed := true, recurses := true, named := ["printworks/filter.steps"], apart := false, laid := [("printworks/filter.steps", laid_printworks_filter_steps)] }
def FontPlacesMatchReferenceSaid : Prop := fontPlacesMatchReferenceRow.holds Tryd.pinned (OpenSpec.ofChange fontPlacesMatchReferenceSpec)

/-- ITS FALSE NEIGHBOUR: 'it returns false'. Refute it at one input. -/
def fontPlacesMatchReferenceWrong : ChangeSpec := { name := "fontPlacesMatchReference", fn := fun _ => fun
  | [d1, d2] => { results := [.lit (.bool false)], args := [d1, d2] }
  | _ => none }
def FontPlacesMatchReferenceWrongFalsely : Prop := fontPlacesMatchReferenceRow.holds Tryd.pinned (OpenSpec.ofChange fontPlacesMatchReferenceWrong)

/- THE SECOND FORM. 'bulk': how many values and letters a reading holds, each counted each time it is reached (what is shared counts as often as it is met; a slice's spare places count too). A statement '..UptoSaid' is the law's where the arguments, and the package variables that the reading takes, are together of bulk at most 1048576: NARROWER than '..Said'. Prove '..Said' where nothing that the law and all that it calls make is longer than what came in: it says more and counts as full. Else prove '..UptoSaid'. A law counts once. -/
mutual
def uptoBulk {H : Type} : DataW H → Nat
  | .lit (.string bytes) => bytes.length + 1
  | .lit _ => 1
  | .nil => 1
  | .ptr d => uptoBulk d + 1
  | .slice elems spare => uptoBulkAll elems + uptoBulkAll spare + 1
  | .agg parts => uptoBulkAll parts + 1
  | .iface _ d => uptoBulk d + 1
  | .map entries => uptoBulkEntries entries + 1
  | .held _ => 1
def uptoBulkAll {H : Type} : List (DataW H) → Nat
  | [] => 0
  | d :: r => uptoBulk d + uptoBulkAll r
def uptoBulkEntries {H : Type} : List (Lit × DataW H) → Nat
  | [] => 0
  | x :: r => uptoBulkEntry x + uptoBulkEntries r
def uptoBulkEntry {H : Type} : Lit × DataW H → Nat
  | (.string bytes, d) => bytes.length + uptoBulk d + 1
  | (_, d) => uptoBulk d + 1
 end
def uptoSmall : (H : Type) → List (DataW H) → Bool := fun _ ds => decide (uptoBulkAll ds ≤ 1048576)
def OpenSpec.upto (s : _root_.Go.ChangeSpec) : _root_.Go.OpenSpec := { _root_.Go.OpenSpec.ofChange s with cond := some uptoSmall }

/-- 'printworkslaw3.ArchiveCutsMatchReference', WHERE WHAT IT READS IS OF BULK AT MOST 1048576: true; the input reads as it did. -/
def archiveCutsMatchReferenceUptoRow : OpenClaim := { program := "ytnjggcljonbleaadoor", sum := "38961f6900efab4090eb52190ccc603d9db9cfb5999da8f4d9a4a830aa2e3d5e", func := "printworks/printworkslaw3.ArchiveCutsMatchReference", spec := "archiveCutsMatchReference", inPlace := ["slices.overlaps[string]", "internal/abi.NoEscape"], named := ["printworks/filter.steps"], apart := false, laid := [("printworks/filter.steps", laid_printworks_filter_steps)], narrowed := true }
def ArchiveCutsMatchReferenceUptoSaid : Prop := archiveCutsMatchReferenceUptoRow.holds Tryd.pinned (OpenSpec.upto archiveCutsMatchReferenceSpec)

/-- 'printworkslaw3.FontCheckMatchesReference', WHERE WHAT IT READS IS OF BULK AT MOST 1048576: true; the input reads as it did. -/
def fontCheckMatchesReferenceUptoRow : OpenClaim := { program := "ytnjggcljonbleaadoor", sum := "38961f6900efab4090eb52190ccc603d9db9cfb5999da8f4d9a4a830aa2e3d5e", func := "printworks/printworkslaw3.FontCheckMatchesReference", spec := "fontCheckMatchesReference", inPlace := ["internal/abi.NoEscape"], unfollowed := true, recurses := true, named := ["printworks/filter.steps"], apart := false, laid := [("printworks/filter.steps", laid_printworks_filter_steps)], narrowed := true }
def FontCheckMatchesReferenceUptoSaid : Prop := fontCheckMatchesReferenceUptoRow.holds Tryd.pinned (OpenSpec.upto fontCheckMatchesReferenceSpec)

/-- 'printworkslaw3.FontOutlineMatchesReference', WHERE WHAT IT READS IS OF BULK AT MOST 1048576: true; the input reads as it did. -/
def fontOutlineMatchesReferenceUptoRow : OpenClaim := { program := "ytnjggcljonbleaadoor", sum := "38961f6900efab4090eb52190ccc603d9db9cfb5999da8f4d9a4a830aa2e3d5e", func := "printworks/printworkslaw3.FontOutlineMatchesReference", spec := "fontOutlineMatchesReference", inPlace := ["internal/abi.NoEscape"], unfollowed := true, recurses := true, named := ["printworks/filter.steps"], apart := false, laid := [("printworks/filter.steps", laid_printworks_filter_steps)], narrowed := true }
def FontOutlineMatchesReferenceUptoSaid : Prop := fontOutlineMatchesReferenceUptoRow.holds Tryd.pinned (OpenSpec.upto fontOutlineMatchesReferenceSpec)

/-- 'printworkslaw3.FontPlacesMatchReference', WHERE WHAT IT READS IS OF BULK AT MOST 1048576: true; the input reads as it did. -/
def fontPlacesMatchReferenceUptoRow : OpenClaim := { program := "ytnjggcljonbleaadoor", sum := "38961f6900efab4090eb52190ccc603d9db9cfb5999da8f4d9a4a830aa2e3d5e", func := "printworks/printworkslaw3.FontPlacesMatchReference", spec := "fontPlacesMatchReference", inPlace := ["internal/abi.NoEscape"], unfollowed := true, recurses := true, named := ["printworks/filter.steps"], apart := false, laid := [("printworks/filter.steps", laid_printworks_filter_steps)], narrowed := true }
def FontPlacesMatchReferenceUptoSaid : Prop := fontPlacesMatchReferenceUptoRow.holds Tryd.pinned (OpenSpec.upto fontPlacesMatchReferenceSpec)

end Rows
end Go.Proofs.YtnjggcljonbleaaDoor
