/-
  The law ImposeCheckMatchesReference returns true for every input, and the input reads behind the call as before. No conditions.
-/
import Derived.Test.YtnjggcljonbleaaImpOpen
import Derived.Test.YtnjggcljonbleaaImpP4
import Derived.Test.YtnjggcljonbleaaImpLaw
namespace Go.Proofs.Ytnjggcljonbleaa
open Go.ChangeShapes Go.WideShapes Go.ChangeAt Go.RowKit Go.Vm Go.Vm.FoldG

theorem opens_layout : Opens Try.prog 55 cS54 (fun _ => True) :=
  (opens_struct (t := 55) (N := 11) Try.underlying55 (by kernel_rfl) (opensN_cons (sz := 3) rfl (by kernel_rfl) (by decide) opens_scheme
    (opensN_cons (sz := 1) rfl (by kernel_rfl) (by decide) (opens_int (k := .i64) (by kernel_rfl))
    (opensN_cons (sz := 1) rfl (by kernel_rfl) (by decide) (opens_int (k := .i64) (by kernel_rfl))
    (opensN_cons (sz := 1) rfl (by kernel_rfl) (by decide) (opens_int (k := .i64) (by kernel_rfl))
    (opensN_cons (sz := 1) rfl (by kernel_rfl) (by decide) (opens_int (k := .i64) (by kernel_rfl))
    (opensN_cons (sz := 1) rfl (by kernel_rfl) (by decide) (opens_int (k := .i64) (by kernel_rfl))
    (opensN_cons (sz := 1) rfl (by kernel_rfl) (by decide) (opens_int (k := .i64) (by kernel_rfl))
    (opensN_cons (sz := 1) rfl (by kernel_rfl) (by decide) (opens_int (k := .i64) (by kernel_rfl))
    (opensN_cons (sz := 1) rfl (by kernel_rfl) (by decide) (opens_int (k := .i64) (by kernel_rfl)) (opensN_nil _ _))))))))))).map
    (fun x => (⟨x.1, x.2.1, x.2.2.1, x.2.2.2.1, x.2.2.2.2.1, x.2.2.2.2.2.1, x.2.2.2.2.2.2.1, x.2.2.2.2.2.2.2.1, x.2.2.2.2.2.2.2.2.1⟩ : S54)) (fun x => by simp [cS54, cS23]) (fun _ _ => trivial)

theorem opens_lay : OpensArgs Try.prog [55] (fun z : S54 × Unit => [.agg (cS54 z.1)]) (fun z => True ∧ True) :=
  opensArgs_agg Try.underlying55 opens_layout (opensArgs_nil _)

set_option maxRecDepth 100000 in
theorem lifted6 (os : Os) (started : os.Started) (H : Type) (enc : TypeId × Value → H) :
    ReturnsInHanded {} Try.checked os 6 .any (Rows.imposeCheckMatchesReferenceSpec.pre6 enc Try.prog Try.f6 Rows.imposeCheckMatchesReferenceRow.domain false) (Rows.imposeCheckMatchesReferenceSpec.post enc Try.prog Try.f6 false true false false) :=
  returnsInHanded_of_change (C := Try.checked) own started (by kernel_rfl) Try.func6
    (ChangeSpec.witness6 (enc := enc) (C := Try.checked) false ⟨#[], #[.agg #[.int .i64 0, .int .i64 0, .slice none 0 0, .int .i64 0, .int .i64 0, .int .i64 0, .int .i64 0, .int .i64 0, .int .i64 0, .int .i64 0, .int .i64 0]], []⟩ 8 (by kernel_rfl) (by kernel_rfl) (by kernel_rfl) (by kernel_rfl))
    fun W base args ds gs before hval hW _ _ => law_contract (tb := 4) (ts := [55]) (by kernel_rfl) opens_lay (fun b _ => f6_ok (law6 b.1)) (by kernel_rfl) (by kernel_rfl) rfl rfl Try.underlying4
      (fun ds hd => match ds, hd with | [_], _ => rfl) W base args ds gs before hval hW

theorem imposeCheck_holds : Rows.ImposeCheckMatchesReferenceSaid :=
  OpenClaim.holds_of_wide 6 Try.f6 rfl rfl rfl rfl rfl rfl rfl ⟨rfl, rfl, rfl, rfl, rfl⟩ rfl rfl rfl rfl rfl (by kernel_rfl) Try.func6 (by kernel_rfl)
    (of_decide_eq_true (by kernel_rfl)) (by unfold Func.isWrapper; first | (rw [if_pos (by decide +kernel)]; kernel_rfl) | (rw [if_neg (by decide +kernel)]; exact ⟨rfl, rfl⟩))
    (fun os started H enc _ => lifted6 os started H enc)
#print axioms imposeCheck_holds
end Go.Proofs.Ytnjggcljonbleaa
