/-
  The law FoldPileMatchesReference returns true for every input, and the input reads behind the call as before. No conditions.
-/
import Derived.Test.YtnjggcljonbleaaFoldOpen
import Derived.Test.YtnjggcljonbleaaFoldP3
import Derived.Test.YtnjggcljonbleaaFoldLaw7
namespace Go.Proofs.Ytnjggcljonbleaa
open Go.ChangeShapes Go.WideShapes Go.ChangeAt Go.RowKit Go.Vm Go.Vm.FoldG

set_option maxRecDepth 100000 in
theorem lifted5 (os : Os) (started : os.Started) (H : Type) (enc : TypeId × Value → H) :
    ReturnsInHanded {} Try.checked os 5 .any (Rows.foldPileMatchesReferenceSpec.pre6 enc Try.prog Try.f5 Rows.foldPileMatchesReferenceRow.domain false) (Rows.foldPileMatchesReferenceSpec.post enc Try.prog Try.f5 false true false false) :=
  returnsInHanded_of_change (C := Try.checked) own started (by kernel_rfl) Try.func5
    (ChangeSpec.witness6 (enc := enc) (C := Try.checked) false ⟨#[], #[.agg #[.int .i64 0, .int .i64 0, .slice none 0 0], .int .i64 0, .int .i64 0, .int .i64 0], []⟩ 8 (by kernel_rfl) (by kernel_rfl) (by kernel_rfl) (by kernel_rfl))
    fun W base args ds gs before hval hW _ _ => law_contract (tb := 4) (ts := [24, 3, 3, 3]) (by kernel_rfl) opens_four (fun b _ => f5_ok (law5 b.1 b.2.1 b.2.2.1 b.2.2.2.1)) (by kernel_rfl) (by kernel_rfl) rfl rfl Try.underlying4
      (fun ds hd => match ds, hd with | [_, _, _, _], _ => rfl) W base args ds gs before hval hW

theorem foldPile_holds : Rows.FoldPileMatchesReferenceSaid :=
  OpenClaim.holds_of_wide 5 Try.f5 rfl rfl rfl rfl rfl rfl rfl ⟨rfl, rfl, rfl, rfl, rfl⟩ rfl rfl rfl rfl rfl (by kernel_rfl) Try.func5 (by kernel_rfl)
    (of_decide_eq_true (by kernel_rfl)) (by unfold Func.isWrapper; first | (rw [if_pos (by decide +kernel)]; kernel_rfl) | (rw [if_neg (by decide +kernel)]; exact ⟨rfl, rfl⟩))
    (fun os started H enc _ => lifted5 os started H enc)
#print axioms foldPile_holds
end Go.Proofs.Ytnjggcljonbleaa
