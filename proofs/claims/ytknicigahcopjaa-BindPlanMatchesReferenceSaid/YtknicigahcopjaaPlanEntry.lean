/-
  The law BindPlanMatchesReference returns true for every input, and the input reads behind the call as before. No conditions.
-/
import Derived.Test.YtknicigahcopjaaVmEntry
import Derived.Test.YtknicigahcopjaaPlanP
import Derived.Test.YtknicigahcopjaaPlanLaw4
import Derived.Test.YtknicigahcopjaaRows
namespace Go.Proofs.Ytknicigahcopjaa
open Go.ChangeShapes Go.WideShapes Go.ChangeAt Go.RowKit Go.Vm Go.Vm.GenC3
theorem own : ownKnob Try.prog.godebug = none := by kernel_rfl

theorem plan_calls (W : World) (a b c : Int) (math : ∃ F, f3 F a b c = some true) : Calls Try.prog 3 #[.int .i64 a, .int .i64 b, .int .i64 c] W fun e W' => e = .returned (.bool true) ∧ KeptAll W W' := by
  obtain ⟨F, hF⟩ := math
  exact (f3_ok hF).law (us := [.int .i64 a, .int .i64 b, .int .i64 c]) rfl rfl ⟨⟨rfl, rfl⟩, ⟨rfl, rfl⟩, ⟨rfl, rfl⟩, trivial⟩

set_option maxRecDepth 100000 in
theorem lifted3 (math : ∀ a b c, ∃ F, f3 F a b c = some true) (os : Os) (started : os.Started) (H : Type) (enc : TypeId × Value → H) :
    ReturnsInHanded {} Try.checked os 3 .any (Rows.bindPlanMatchesReferenceSpec.pre6 enc Try.prog Try.f3 Rows.bindPlanMatchesReferenceRow.domain false) (Rows.bindPlanMatchesReferenceSpec.post enc Try.prog Try.f3 false true false false) := by
  refine returnsInHanded_of_change (C := Try.checked) own started (by kernel_rfl) Try.func3
    (ChangeSpec.witness6 (enc := enc) (C := Try.checked) false ⟨#[], #[.int .i64 0, .int .i64 0, .int .i64 0], []⟩ 8 (by kernel_rfl) (by kernel_rfl) (by kernel_rfl) (by kernel_rfl)) ?_
  intro W base args ds gs before hval0 hW hcnd _
  have hval : ∀ (j : Nat) t v, Try.f3.params[j]? = some t → args[j]? = some v → Value.okWide Try.prog W .any base t v := hval0
  have hW' := hW
  obtain ⟨p, q, hA0, hV, rfl, hfz, hnd⟩ := hW
  have hA : DataW.TrodAll enc Try.prog W 0 (fun _ => true) true Try.f3.params.toList args.toList ds p := hA0
  rw [Try.params3] at hA hval
  obtain ⟨v0, v1, v2, d0, d1, d2, p0, p1, p2, rfl, rfl, rfl, h0, h1, h2⟩ := trodAll_three hA
  obtain ⟨rfl, rfl⟩ := trodVars_none hV
  obtain ⟨a, rfl, rfl, rfl, wa⟩ := open_int Try.underlying3 (hval 0 3 v0 rfl rfl) h0
  obtain ⟨b, rfl, rfl, rfl, wb⟩ := open_int Try.underlying3 (hval 1 3 v1 rfl rfl) h1
  obtain ⟨c, rfl, rfl, rfl, wc⟩ := open_int Try.underlying3 (hval 2 3 v2 rfl rfl) h2
  clear hA0 hval0
  refine (plan_calls W a b c (math a b c)).mono fun e W' ⟨he, hk⟩ => ?_
  subst he
  exact ⟨_, rfl, post_kept (pa := [] ++ ([] ++ [])) (pv := []) hW' hk (fun _ _ _ => trodAll_mk1 (shut_bool Try.underlying4 true)) (fun sp _ => trodAll_mk3 (shut_int Try.underlying3 wa) (shut_int Try.underlying3 wb) (shut_int Try.underlying3 wc)) (fun _ _ => rfl) rfl (ok_one (by kernel_rfl) rfl (okWide_bool_mk Try.underlying4 true))⟩

theorem bindPlan_of (math : ∀ a b c, ∃ F, f3 F a b c = some true) : Rows.BindPlanMatchesReferenceSaid :=
  OpenClaim.holds_of_wide 3 Try.f3 rfl rfl rfl rfl rfl rfl rfl ⟨rfl, rfl, rfl, rfl, rfl⟩ rfl rfl rfl rfl rfl (by kernel_rfl) Try.func3 (by kernel_rfl)
    (of_decide_eq_true (by kernel_rfl)) (by unfold Func.isWrapper; first | (rw [if_pos (by decide +kernel)]; kernel_rfl) | (rw [if_neg (by decide +kernel)]; exact ⟨rfl, rfl⟩))
    (fun os started H enc _ => lifted3 math os started H enc)
theorem bindPlan_holds : Rows.BindPlanMatchesReferenceSaid := bindPlan_of law
#print axioms bindPlan_holds
end Go.Proofs.Ytknicigahcopjaa
