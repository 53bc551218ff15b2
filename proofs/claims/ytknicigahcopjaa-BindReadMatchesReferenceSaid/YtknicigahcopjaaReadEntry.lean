/-
  The law BindReadMatchesReference returns true for every input, and the input reads behind the call as before. No conditions.
-/
import Derived.Test.YtknicigahcopjaaVmOpen
import Derived.Test.YtknicigahcopjaaReadP
import Derived.Test.YtknicigahcopjaaReadLaw
import Derived.Test.YtknicigahcopjaaRows
namespace Go.Proofs.Ytknicigahcopjaa
open Go.ChangeShapes Go.WideShapes Go.ChangeAt Go.RowKit Go.Vm Go.Vm.GenC4
theorem own : ownKnob Try.prog.godebug = none := by kernel_rfl

theorem opens4 : OpensArgs Try.prog [23, 28, 3] (fun z : List (List Int) × (List Int × (Int × Unit)) => [.d (.sl 1 (z.1.map (cL 1 (cI .i64)))), .d (.sl 1 (z.2.1.map (cI .i64))), .d (.v (.int .i64 z.2.2.1))])
    (fun z => (z.1.length ≤ maxLen ∧ ∀ a ∈ z.1, a.length ≤ maxLen ∧ ∀ b ∈ a, (Lit.int .i64 b).wf = true) ∧ (z.2.1.length ≤ maxLen ∧ ∀ a ∈ z.2.1, (Lit.int .i64 a).wf = true) ∧ (Lit.int .i64 z.2.2.1).wf = true ∧ True) :=
  opensArgs_flat (α := List (List Int)) (t := 23) (x := fun l => .sl 1 (l.map (cL 1 (cI .i64)))) (by kernel_rfl) (fun _ => rfl) (opens_slice (e := 28) (by kernel_rfl) (by kernel_rfl) (Nat.succ_pos 0) (opens_slice (e := 3) (by kernel_rfl) (by kernel_rfl) (Nat.succ_pos 0) (opens_int (by kernel_rfl))))
    (opensArgs_flat (α := List Int) (t := 28) (x := fun l => .sl 1 (l.map (cI .i64))) (by kernel_rfl) (fun _ => rfl) (opens_slice (e := 3) (by kernel_rfl) (by kernel_rfl) (Nat.succ_pos 0) (opens_int (by kernel_rfl)))
      (opensArgs_flat (α := Int) (t := 3) (x := fun a => .v (.int .i64 a)) (by kernel_rfl) (fun _ => rfl) (opens_int (by kernel_rfl)) (opensArgs_nil _)))

set_option maxRecDepth 100000 in
theorem lifted4 (os : Os) (started : os.Started) (H : Type) (enc : TypeId × Value → H) :
    ReturnsInHanded {} Try.checked os 4 .any (Rows.bindReadMatchesReferenceSpec.pre6 enc Try.prog Try.f4 Rows.bindReadMatchesReferenceRow.domain false) (Rows.bindReadMatchesReferenceSpec.post enc Try.prog Try.f4 false true false false) :=
  returnsInHanded_of_change (C := Try.checked) own started (by kernel_rfl) Try.func4
    (ChangeSpec.witness6 (enc := enc) (C := Try.checked) false ⟨#[], #[.slice none 0 0, .slice none 0 0, .int .i64 0], []⟩ 8 (by kernel_rfl) (by kernel_rfl) (by kernel_rfl) (by kernel_rfl))
    fun W base args ds gs before hval hW _ _ => law_contract (tb := 4) (ts := [23, 28, 3]) (by kernel_rfl) opens4 (fun b h => f4_ok (law4 b.1 b.2.1 b.2.2.1 h.1.1 h.2.1.1).choose_spec) (by kernel_rfl) (by kernel_rfl) rfl rfl Try.underlying4
      (fun ds hd => match ds, hd with | [_, _, _], _ => rfl) W base args ds gs before hval hW

theorem bindRead_holds : Rows.BindReadMatchesReferenceSaid :=
  OpenClaim.holds_of_wide 4 Try.f4 rfl rfl rfl rfl rfl rfl rfl ⟨rfl, rfl, rfl, rfl, rfl⟩ rfl rfl rfl rfl rfl (by kernel_rfl) Try.func4 (by kernel_rfl)
    (of_decide_eq_true (by kernel_rfl)) (by unfold Func.isWrapper; first | (rw [if_pos (by decide +kernel)]; kernel_rfl) | (rw [if_neg (by decide +kernel)]; exact ⟨rfl, rfl⟩))
    (fun os started H enc _ => lifted4 os started H enc)
#print axioms bindRead_holds
end Go.Proofs.Ytknicigahcopjaa
