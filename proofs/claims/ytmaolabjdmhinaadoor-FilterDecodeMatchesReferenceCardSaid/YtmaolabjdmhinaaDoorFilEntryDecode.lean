/-
  The law FilterDecodeMatchesReference returns true for every input, and the input reads behind the call as before. The card ties the package variable filter.steps to the text. No conditions.
-/
import Derived.Test.YtmaolabjdmhinaaDoorVmC
import Derived.Stop.Joined
import Derived.Test.YtmaolabjdmhinaaDoorFilGP2
import Derived.Test.YtmaolabjdmhinaaDoorFilLaw7
import Derived.Test.YtmaolabjdmhinaaDoorRows
import Derived.Test.YtmaolabjdmhinaaDoorTie
import Derived.Test.YtmaolabjdmhinaaDoorCards
namespace Go.Proofs.YtmaolabjdmhinaaDoor
open Go.ChangeShapes Go.WideShapes Go.ChangeAt Go.WideMaps Go.WideElems Go.RowKit Go.Vm Go.Vm.FilG

theorem own : ownKnob Tryd.prog.godebug = none := by kernel_rfl

def Q40 (x : S_FilterStep) : Prop := (Lit.int .i64 x.f0).wf = true ∧ (Lit.int .i64 x.f1).wf = true ∧ True
theorem opens_40 : Opens Tryd.prog 40 cS_FilterStep Q40 :=
  (opens_struct (t := 40) (N := 2) Tryd.underlying40 (by kernel_rfl) (opensN_cons (sz := 1) rfl (by kernel_rfl) (by decide) (opens_int (k := .i64) (by kernel_rfl))
    (opensN_cons (sz := 1) rfl (by kernel_rfl) (by decide) (opens_int (k := .i64) (by kernel_rfl))
    (opensN_nil _ _)))).map
    (fun x => (⟨x.1, x.2.1⟩ : S_FilterStep)) (fun x => by simp [cS_FilterStep]) (fun _ h => h)
theorem opens_args : OpensArgs Tryd.prog [28, 9] (fun z : (List S_FilterStep) × (List UInt8) × Unit => [.d (.sl 2 (z.1.map cS_FilterStep)), .d (.str z.2.1)]) (fun z => (z.1.length ≤ maxLen ∧ ∀ a ∈ z.1, Q40 a) ∧ z.2.1.length ≤ maxLen ∧ True) :=
  (opensArgs_flat (x := fun y : List S_FilterStep => .sl 2 (y.map cS_FilterStep)) (by kernel_rfl) (fun _ => rfl) (opens_slice (e := 40) (sz := 2) (by kernel_rfl) (by kernel_rfl) (by decide) opens_40) (opensArgs_flat (x := fun y : List UInt8 => .str y) (by kernel_rfl) (fun _ => rfl) (opens_str (by kernel_rfl)) (opensArgs_nil _)))

abbrev lay : List (String × DataW Unit) := [("printworks/filter.steps", Rows.laid_printworks_filter_steps)]
theorem door_met (os : Os) (args : Array Value) : laidMetH Tryd.prog lay ((World.doorLaid Tryd.prog 400 os).forCall (fun _ _ => 0) ⟨#[], args, []⟩).memory :=
  laidMetH_of_parts3 (fuel := 8) (laidMet_of_run' 8 (by kernel_rfl) (by kernel_rfl)) (by kernel_rfl) (by kernel_rfl)
abbrev gl : Glos := [(0, glob_filter_steps.flatMap (cI .u32))]
theorem of_lay {W : World} (h : laidMetH Tryd.prog lay W) : ∀ g ∈ gl, GloAt (allS W) W g.1 g.2 := by
  rw [MakeChecks.laidMetH_plain _ _ _ (by kernel_rfl)] at h
  exact List.forall_mem_cons.2 ⟨laid_ints (t := 80) (e := 33) (n := 16) (k := .u32) (l := glob_filter_steps) (by kernel_rfl) (by kernel_rfl) (by kernel_rfl) (by kernel_rfl) (by kernel_rfl) (by kernel_rfl) rfl (laid_one (lay := lay) (nm := "printworks/filter.steps") (d := Rows.laid_printworks_filter_steps) (List.mem_of_getElem? (i := 0) rfl) h), fun _ h => by cases h⟩
set_option maxRecDepth 100000 in
theorem lifted (os : Os) (started : os.Started) (H : Type) (enc : TypeId × Value → H) :
    ReturnsInHanded {} Tryd.checked os 4 .any (fun w args => (Rows.filterDecodeMatchesReferenceSpec.pre enc Tryd.prog Tryd.f4 [] false w args ∧ laidMetH Tryd.prog lay w) ∧ sizedMet enc Tryd.prog Tryd.f4 (OpenSpec.ofChange Rows.filterDecodeMatchesReferenceSpec) false w args)
      (Rows.filterDecodeMatchesReferenceSpec.post enc Tryd.prog Tryd.f4 false true false false) := by
  refine returnsInHanded_of_change_and (C := Tryd.checked) (X := fun w _ => laidMetH Tryd.prog lay w) (fun _ _ _ hh h => h.of_heap hh) own started (by kernel_rfl) Tryd.func4
    (ChangeSpec.witness_shaped (enc := enc) (C := Tryd.checked) (os := os) (X := fun w _ => laidMetH Tryd.prog lay w) false (World.doorLaid Tryd.prog 400 os) #[.slice none 0 0, .string ⟨#[]⟩] 8 rfl (World.shaped_of_RefB (by kernel_rfl) (by kernel_rfl)) (by kernel_rfl) (by kernel_rfl) (by kernel_rfl) (door_met os _)) ?_
  intro W base args ds gs before hval hW _ _ hL _
  exact law_contractGs gl (tb := 4) (ts := [28, 9]) (by kernel_rfl) opens_args (fun _ => by simp [resSlot]) (fun b hb => let ⟨_, h⟩ := (show ∃ F, law3_FilterDecodeMatchesReference F b.1 b.2.1 = some true from (filterDecode_total b.1 b.2.1)); law3_FilterDecodeMatchesReference_ok h) (by kernel_rfl) (by kernel_rfl) rfl rfl Tryd.underlying4
      (fun ds hd => match ds, hd with | [_, _], _ => rfl) W base args ds gs before (of_lay hL) hval hW

theorem filterDecodeMatchesReference_row : Rows.FilterDecodeMatchesReferenceSaid :=
  OpenClaim.holds_of_wide 4 Tryd.f4 rfl rfl rfl rfl rfl rfl rfl ⟨rfl, rfl, rfl, rfl, rfl⟩ rfl rfl rfl rfl rfl (by kernel_rfl) Tryd.func4 (by kernel_rfl)
    (of_decide_eq_true (by kernel_rfl)) (by unfold Func.isWrapper; first | (rw [if_pos (by decide +kernel)]; kernel_rfl) | (rw [if_neg (by decide +kernel)]; exact ⟨rfl, rfl⟩))
    (fun os started H enc _ => lifted os started H enc)

theorem filterDecodeMatchesReference_holds : Rows.FilterDecodeMatchesReferenceCardSaid :=
  Claim7.holds_tied_plain_at .later [] [.data] true (true, "dc694e02976f9b8fbd28ea19a903f6421b5484472e343113129dfb78245f8536") true
    filterDecodeMatchesReference_row (fun _ h => by cases h) (by kernel_rfl) (fun _ h => by cases h) filterDecodeMatchesReference_row_tie rfl ⟨rfl, rfl⟩ (by kernel_rfl) rfl
    (fun f fn hf hfn => by
      obtain rfl : f = 4 := Option.some.inj ((show Tryd.prog.funcNamed "printworks/printworkslaw3.FilterDecodeMatchesReference" = some 4 by kernel_rfl).symm.trans hf) |>.symm
      obtain rfl : fn = Tryd.f4 := (Option.some.inj (Tryd.func4.symm.trans hfn)).symm
      exact ⟨by kernel_rfl, fun j t ht => by
        rw [Tryd.params4] at ht
        have h3 : t = 9 ∨ t = 28 := by
          match j, ht with
          | 0, ht => have ht : some 28 = some t := ht; cases ht; simp
          | 1, ht => have ht : some 9 = some t := ht; cases ht; simp
          | j + 2, ht => simp at ht
        rcases h3 with rfl | rfl
        · exact (show Tryd.prog.wantsStandIn 9 = false by kernel_rfl)
        · exact (show Tryd.prog.wantsStandIn 28 = false by kernel_rfl)⟩)
    (by kernel_rfl)
#print axioms filterDecodeMatchesReference_holds
end Go.Proofs.YtmaolabjdmhinaaDoor
