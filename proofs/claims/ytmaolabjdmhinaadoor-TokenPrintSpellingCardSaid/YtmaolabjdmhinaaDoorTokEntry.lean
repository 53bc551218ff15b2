/-
  The law TokenPrintSpelling returns true for every input, and the input reads behind the call as before. The card ties the package variables it names
-/
import Derived.Test.YtmaolabjdmhinaaDoorVmC
import Derived.Stop.Joined
import Derived.Test.YtmaolabjdmhinaaDoorTokGP
import Derived.Test.YtmaolabjdmhinaaDoorTokLaw3
import Derived.Test.YtmaolabjdmhinaaDoorRows
import Derived.Test.YtmaolabjdmhinaaDoorTie
import Derived.Test.YtmaolabjdmhinaaDoorCards
namespace Go.Proofs.YtmaolabjdmhinaaDoor
open Go.ChangeShapes Go.WideShapes Go.ChangeAt Go.WideMaps Go.WideElems Go.RowKit Go.Vm Go.Vm.TokG

theorem own : ownKnob Tryd.prog.godebug = none := by kernel_rfl

def Q23 (x : S_Token) : Prop := (Lit.int .i64 x.f0).wf = true ∧ (Lit.int .i64 x.f1).wf = true ∧ x.f2.length ≤ maxLen ∧ (Lit.int .i64 x.f3).wf = true ∧ (Lit.int .i64 x.f4).wf = true ∧ True
theorem opens_23 : Opens Tryd.prog 23 cS_Token Q23 :=
  (opens_struct (t := 23) (N := 5) Tryd.underlying23 (by kernel_rfl) (opensN_cons (sz := 1) rfl (by kernel_rfl) (by decide) (opens_int (k := .i64) (by kernel_rfl))
    (opensN_cons (sz := 1) rfl (by kernel_rfl) (by decide) (opens_int (k := .i64) (by kernel_rfl))
    (opensN_cons (sz := 1) rfl (by kernel_rfl) (by decide) (opens_str (by kernel_rfl))
    (opensN_cons (sz := 1) rfl (by kernel_rfl) (by decide) (opens_int (k := .i64) (by kernel_rfl))
    (opensN_cons (sz := 1) rfl (by kernel_rfl) (by decide) (opens_int (k := .i64) (by kernel_rfl))
    (opensN_nil _ _))))))).map
    (fun x => (⟨x.1, x.2.1, x.2.2.1, x.2.2.2.1, x.2.2.2.2.1⟩ : S_Token)) (fun x => by simp [cS_Token]) (fun _ h => h)
theorem opens_args : OpensArgs Tryd.prog [23] (fun z : S_Token × Unit => [.agg (cS_Token z.1)]) (fun z => Q23 z.1 ∧ True) :=
  (opensArgs_agg Tryd.underlying23 opens_23 (opensArgs_nil _))

abbrev lay : List (String × DataW Unit) := [("math/bits.deBruijn32tab", Rows.laid_math_bits_deBruijn32tab), ("math/bits.deBruijn64tab", Rows.laid_math_bits_deBruijn64tab), ("internal/strconv.uint64pow10", Rows.laid_internal_strconv_uint64pow10)]
theorem door_met (os : Os) (args : Array Value) : laidMetH Tryd.prog lay ((World.doorLaid Tryd.prog 400 os).forCall (fun _ _ => 0) ⟨#[], args, []⟩).memory :=
  laidMetH_of_parts3 (fuel := 8) (laidMet_of_run' 8 (by kernel_rfl) (by kernel_rfl)) (by kernel_rfl) (by kernel_rfl)
abbrev gl : Glos := [(4, glob_internal_strconv_uint64pow10.flatMap (cI .u64))]
theorem of_lay {W : World} (h : laidMetH Tryd.prog lay W) : ∀ g ∈ gl, GloAt (allS W) W g.1 g.2 := by
  rw [MakeChecks.laidMetH_plain _ _ _ (by kernel_rfl)] at h
  exact List.forall_mem_cons.2 ⟨laid_ints (t := 178) (e := 144) (n := 20) (k := .u64) (l := glob_internal_strconv_uint64pow10) (by kernel_rfl) (by kernel_rfl) (by kernel_rfl) (by kernel_rfl) (by kernel_rfl) (by kernel_rfl) rfl (laid_one (lay := lay) (nm := "internal/strconv.uint64pow10") (d := Rows.laid_internal_strconv_uint64pow10) (List.mem_of_getElem? (i := 2) rfl) h), fun _ h => by cases h⟩
set_option maxRecDepth 100000 in
theorem lifted (os : Os) (started : os.Started) (H : Type) (enc : TypeId × Value → H) :
    ReturnsInHanded {} Tryd.checked os 3 .any (fun w args => (Rows.tokenPrintSpellingSpec.pre enc Tryd.prog Tryd.f3 [] false w args ∧ laidMetH Tryd.prog lay w) ∧ sizedMet enc Tryd.prog Tryd.f3 (OpenSpec.ofChange Rows.tokenPrintSpellingSpec) false w args)
      (Rows.tokenPrintSpellingSpec.post enc Tryd.prog Tryd.f3 false true false false) := by
  refine returnsInHanded_of_change_and (C := Tryd.checked) (X := fun w _ => laidMetH Tryd.prog lay w) (fun _ _ _ hh h => h.of_heap hh) own started (by kernel_rfl) Tryd.func3
    (ChangeSpec.witness_shaped (enc := enc) (C := Tryd.checked) (os := os) (X := fun w _ => laidMetH Tryd.prog lay w) false (World.doorLaid Tryd.prog 400 os) #[.agg #[.int .i64 0, .int .i64 0, .string ⟨#[]⟩, .int .i64 0, .int .i64 0]] 8 rfl (World.shaped_of_RefB (by kernel_rfl) (by kernel_rfl)) (by kernel_rfl) (by kernel_rfl) (by kernel_rfl) (door_met os _)) ?_
  intro W base args ds gs before hval hW _ _ hL _
  exact law_contractGs gl (tb := 4) (ts := [23]) (by kernel_rfl) opens_args (fun _ => by simp [resSlot]) (fun b hb => let ⟨_, h⟩ := (show ∃ F, law3_TokenPrintSpelling F b.1 = some true from (print_total b.1 hb.1.2.2.1)); law3_TokenPrintSpelling_ok h) (by kernel_rfl) (by kernel_rfl) rfl rfl Tryd.underlying4
      (fun ds hd => match ds, hd with | [_], _ => rfl) W base args ds gs before (of_lay hL) hval hW

theorem tokenPrintSpelling_row : Rows.TokenPrintSpellingSaid :=
  OpenClaim.holds_of_wide 3 Tryd.f3 rfl rfl rfl rfl rfl rfl rfl ⟨rfl, rfl, rfl, rfl, rfl⟩ rfl rfl rfl rfl rfl (by kernel_rfl) Tryd.func3 (by kernel_rfl)
    (of_decide_eq_true (by kernel_rfl)) (by unfold Func.isWrapper; first | (rw [if_pos (by decide +kernel)]; kernel_rfl) | (rw [if_neg (by decide +kernel)]; exact ⟨rfl, rfl⟩))
    (fun os started H enc _ => lifted os started H enc)

theorem tokenPrintSpelling_holds : Rows.TokenPrintSpellingCardSaid :=
  Claim7.holds_tied_plain_at .later [] [.data, .data, .data] true (true, "dc694e02976f9b8fbd28ea19a903f6421b5484472e343113129dfb78245f8536") true
    tokenPrintSpelling_row (fun _ h => by cases h) (by kernel_rfl) (fun _ h => by cases h) tokenPrintSpelling_row_tie rfl ⟨rfl, rfl⟩ (by kernel_rfl) rfl
    (fun f fn hf hfn => by
      obtain rfl : f = 3 := Option.some.inj ((show Tryd.prog.funcNamed "printworks/printworkslaw3.TokenPrintSpelling" = some 3 by kernel_rfl).symm.trans hf) |>.symm
      obtain rfl : fn = Tryd.f3 := (Option.some.inj (Tryd.func3.symm.trans hfn)).symm
      exact ⟨by kernel_rfl, fun j t ht => by
        rw [Tryd.params3] at ht
        have h3 : t = 23 := by
          match j, ht with
          | 0, ht => have ht : some 23 = some t := ht; cases ht; simp
          | j + 1, ht => simp at ht
        subst h3
        exact (show Tryd.prog.wantsStandIn 23 = false by kernel_rfl)⟩)
    (by kernel_rfl)
#print axioms tokenPrintSpelling_holds
end Go.Proofs.YtmaolabjdmhinaaDoor
