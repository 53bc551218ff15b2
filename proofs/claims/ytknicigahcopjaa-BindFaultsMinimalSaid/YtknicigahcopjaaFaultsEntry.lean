/-
  The law BindFaultsMinimal returns true for every input, and the input reads behind the call as before. No conditions.
-/
import Derived.Test.YtknicigahcopjaaVmOpen
import Derived.Test.YtknicigahcopjaaFaultsP
import Derived.Test.YtknicigahcopjaaFaultsLaw5
import Derived.Test.YtknicigahcopjaaRows
namespace Go.Proofs.Ytknicigahcopjaa
open Go.ChangeShapes Go.WideShapes Go.ChangeAt Go.RowKit Go.Vm Go.Vm.GenC5
theorem own : ownKnob Try.prog.godebug = none := by kernel_rfl

theorem opens5 : OpensArgs Try.prog [28, 3] (fun z : List Int × (Int × Unit) => [.d (.sl 1 (z.1.map (cI .i64))), .d (.v (.int .i64 z.2.1))]) (fun z => (z.1.length ≤ maxLen ∧ ∀ a ∈ z.1, (Lit.int .i64 a).wf = true) ∧ (Lit.int .i64 z.2.1).wf = true ∧ True) :=
  opensArgs_flat (α := List Int) (t := 28) (x := fun l => .sl 1 (l.map (cI .i64))) (by kernel_rfl) (fun _ => rfl) (opens_slice (e := 3) (by kernel_rfl) (by kernel_rfl) (Nat.succ_pos 0) (opens_int (by kernel_rfl)))
    (opensArgs_flat (α := Int) (t := 3) (x := fun a => .v (.int .i64 a)) (by kernel_rfl) (fun _ => rfl) (opens_int (by kernel_rfl)) (opensArgs_nil _))

set_option maxRecDepth 100000 in
theorem lifted5 (os : Os) (started : os.Started) (H : Type) (enc : TypeId × Value → H) :
    ReturnsInHanded {} Try.checked os 5 .any (Rows.bindFaultsMinimalSpec.pre6 enc Try.prog Try.f5 Rows.bindFaultsMinimalRow.domain false) (Rows.bindFaultsMinimalSpec.post enc Try.prog Try.f5 false true false false) :=
  returnsInHanded_of_change (C := Try.checked) own started (by kernel_rfl) Try.func5
    (ChangeSpec.witness6 (enc := enc) (C := Try.checked) false ⟨#[], #[.slice none 0 0, .int .i64 0], []⟩ 8 (by kernel_rfl) (by kernel_rfl) (by kernel_rfl) (by kernel_rfl))
    fun W base args ds gs before hval hW _ _ => law_contract (tb := 4) (ts := [28, 3]) (by kernel_rfl) opens5 (fun b _ => f5_ok (law5 b.1 b.2.1).choose_spec) (by kernel_rfl) (by kernel_rfl) rfl rfl Try.underlying4
      (fun ds hd => match ds, hd with | [_, _], _ => rfl) W base args ds gs before hval hW

theorem bindFaults_holds : Rows.BindFaultsMinimalSaid :=
  OpenClaim.holds_of_wide 5 Try.f5 rfl rfl rfl rfl rfl rfl rfl ⟨rfl, rfl, rfl, rfl, rfl⟩ rfl rfl rfl rfl rfl (by kernel_rfl) Try.func5 (by kernel_rfl)
    (of_decide_eq_true (by kernel_rfl)) (by unfold Func.isWrapper; first | (rw [if_pos (by decide +kernel)]; kernel_rfl) | (rw [if_neg (by decide +kernel)]; exact ⟨rfl, rfl⟩))
    (fun os started H enc _ => lifted5 os started H enc)
#print axioms bindFaults_holds
end Go.Proofs.Ytknicigahcopjaa
