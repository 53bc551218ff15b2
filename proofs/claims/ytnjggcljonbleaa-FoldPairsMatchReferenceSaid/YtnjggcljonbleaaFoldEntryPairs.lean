/-
  The law FoldPairsMatchReference returns true for every input, and the input reads behind the call as before. No conditions.
-/
import Derived.Test.YtnjggcljonbleaaFoldOpen
import Derived.Test.YtnjggcljonbleaaFoldP3
import Derived.Test.YtnjggcljonbleaaFoldLaw9
namespace Go.Proofs.Ytnjggcljonbleaa
open Go.ChangeShapes Go.WideShapes Go.ChangeAt Go.RowKit Go.Vm Go.Vm.FoldG

set_option maxRecDepth 100000 in
theorem lifted4 (os : Os) (started : os.Started) (H : Type) (enc : TypeId × Value → H) :
    ReturnsInHanded {} Try.checked os 4 .any (Rows.foldPairsMatchReferenceSpec.pre6 enc Try.prog Try.f4 Rows.foldPairsMatchReferenceRow.domain false) (Rows.foldPairsMatchReferenceSpec.post enc Try.prog Try.f4 false true false false) :=
  returnsInHanded_of_change (C := Try.checked) own started (by kernel_rfl) Try.func4
    (ChangeSpec.witness6 (enc := enc) (C := Try.checked) false ⟨#[], #[.agg #[.int .i64 0, .int .i64 0, .slice none 0 0]], []⟩ 8 (by kernel_rfl) (by kernel_rfl) (by kernel_rfl) (by kernel_rfl))
    fun W base args ds gs before hval hW _ _ => law_contract (tb := 4) (ts := [24]) (by kernel_rfl) opens_one (fun b _ => f4_ok (law4 b.1)) (by kernel_rfl) (by kernel_rfl) rfl rfl Try.underlying4
      (fun ds hd => match ds, hd with | [_], _ => rfl) W base args ds gs before hval hW

theorem foldPairs_holds : Rows.FoldPairsMatchReferenceSaid :=
  OpenClaim.holds_of_wide 4 Try.f4 rfl rfl rfl rfl rfl rfl rfl ⟨rfl, rfl, rfl, rfl, rfl⟩ rfl rfl rfl rfl rfl (by kernel_rfl) Try.func4 (by kernel_rfl)
    (of_decide_eq_true (by kernel_rfl)) (by unfold Func.isWrapper; first | (rw [if_pos (by decide +kernel)]; kernel_rfl) | (rw [if_neg (by decide +kernel)]; exact ⟨rfl, rfl⟩))
    (fun os started H enc _ => lifted4 os started H enc)
#print axioms foldPairs_holds
end Go.Proofs.Ytnjggcljonbleaa
