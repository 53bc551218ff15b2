/-
  The law TokenNextAtAnyOffset returns true for every input, and the input reads behind the call as before. The card ties the package variables it names
-/
import Derived.Test.YtmaolabjdmhinaaDoorVmC
import Derived.Stop.Joined
import Derived.Test.YtmaolabjdmhinaaDoorLexGP
import Derived.Test.YtmaolabjdmhinaaDoorLexGP2
import Derived.Test.YtmaolabjdmhinaaDoorLexLaw9
import Derived.Test.YtmaolabjdmhinaaDoorRows
import Derived.Test.YtmaolabjdmhinaaDoorTie
import Derived.Test.YtmaolabjdmhinaaDoorCards
namespace Go.Proofs.YtmaolabjdmhinaaDoor
open Go.ChangeShapes Go.WideShapes Go.ChangeAt Go.WideMaps Go.WideElems Go.RowKit Go.Vm Go.Vm.LexG

theorem own : ownKnob Tryd.prog.godebug = none := by kernel_rfl

theorem opens_args : OpensArgs Tryd.prog [9, 3] (fun z : (List UInt8) × Int × Unit => [.d (.str z.1), .d (.v (.int .i64 z.2.1))]) (fun z => z.1.length ≤ maxLen ∧ (Lit.int .i64 z.2.1).wf = true ∧ True) :=
  (opensArgs_flat (x := fun y : List UInt8 => .str y) (by kernel_rfl) (fun _ => rfl) (opens_str (by kernel_rfl)) (opensArgs_flat (x := fun y : Int => .v (.int .i64 y)) (by kernel_rfl) (fun _ => rfl) (opens_int (k := .i64) (by kernel_rfl)) (opensArgs_nil _)))

abbrev lay : List (String × DataW Unit) := [("math/bits.deBruijn32tab", Rows.laid_math_bits_deBruijn32tab), ("math/bits.deBruijn64tab", Rows.laid_math_bits_deBruijn64tab), ("internal/strconv.uint64pow10", Rows.laid_internal_strconv_uint64pow10), ("strconv.ErrRange", Rows.laid_strconv_ErrRange), ("strconv.ErrSyntax", Rows.laid_strconv_ErrSyntax)]
theorem door_met (os : Os) (args : Array Value) : laidMetH Tryd.prog lay ((World.doorLaid Tryd.prog 400 os).forCall (fun _ _ => 0) ⟨#[], args, []⟩).memory :=
  laidMetH_of_parts3 (fuel := 8) (laidMet_of_run' 8 (by kernel_rfl) (by kernel_rfl)) (by kernel_rfl) (by kernel_rfl)
abbrev gl : Glos := []
theorem of_lay {W : World} : ∀ g ∈ gl, GloAt (allS W) W g.1 g.2 := fun _ h => by cases h
set_option maxRecDepth 100000 in
theorem lifted (os : Os) (started : os.Started) (H : Type) (enc : TypeId × Value → H) :
    ReturnsInHanded {} Tryd.checked os 11 .any (fun w args => (Rows.tokenNextAtAnyOffsetSpec.pre enc Tryd.prog Tryd.f11 [] false w args ∧ laidMetH Tryd.prog lay w) ∧ sizedMet enc Tryd.prog Tryd.f11 (OpenSpec.ofChange Rows.tokenNextAtAnyOffsetSpec) false w args)
      (Rows.tokenNextAtAnyOffsetSpec.post enc Tryd.prog Tryd.f11 false true false false) := by
  refine returnsInHanded_of_change_and (C := Tryd.checked) (X := fun w _ => laidMetH Tryd.prog lay w) (fun _ _ _ hh h => h.of_heap hh) own started (by kernel_rfl) Tryd.func11
    (ChangeSpec.witness_shaped (enc := enc) (C := Tryd.checked) (os := os) (X := fun w _ => laidMetH Tryd.prog lay w) false (World.doorLaid Tryd.prog 400 os) #[.string ⟨#[]⟩, .int .i64 0] 8 rfl (World.shaped_of_RefB (by kernel_rfl) (by kernel_rfl)) (by kernel_rfl) (by kernel_rfl) (by kernel_rfl) (door_met os _)) ?_
  intro W base args ds gs before hval hW _ _ hL _
  exact law_contractGs gl (tb := 4) (ts := [9, 3]) (by kernel_rfl) opens_args (fun _ => by simp [resSlot]) (fun b hb => let ⟨_, h⟩ := (show ∃ F, law3_TokenNextAtAnyOffset F b.1 b.2.1 = some true from (next_total b.1 b.2.1)); law3_TokenNextAtAnyOffset_ok h) (by kernel_rfl) (by kernel_rfl) rfl rfl Tryd.underlying4
      (fun ds hd => match ds, hd with | [_, _], _ => rfl) W base args ds gs before of_lay hval hW

theorem tokenNextAtAnyOffset_row : Rows.TokenNextAtAnyOffsetSaid :=
  OpenClaim.holds_of_wide 11 Tryd.f11 rfl rfl rfl rfl rfl rfl rfl ⟨rfl, rfl, rfl, rfl, rfl⟩ rfl rfl rfl rfl rfl (by kernel_rfl) Tryd.func11 (by kernel_rfl)
    (of_decide_eq_true (by kernel_rfl)) (by unfold Func.isWrapper; first | (rw [if_pos (by decide +kernel)]; kernel_rfl) | (rw [if_neg (by decide +kernel)]; exact ⟨rfl, rfl⟩))
    (fun os started H enc _ => lifted os started H enc)

theorem tokenNextAtAnyOffset_holds : Rows.TokenNextAtAnyOffsetCardSaid :=
  Claim7.holds_tied_plain_at .later [] [.data, .data, .data, .sentinel, .sentinel] true (true, "dc694e02976f9b8fbd28ea19a903f6421b5484472e343113129dfb78245f8536") true
    tokenNextAtAnyOffset_row (fun _ h => by cases h) (by kernel_rfl) (fun _ h => by cases h) tokenNextAtAnyOffset_row_tie rfl ⟨rfl, rfl⟩ (by kernel_rfl) rfl
    (fun f fn hf hfn => by
      obtain rfl : f = 11 := Option.some.inj ((show Tryd.prog.funcNamed "printworks/printworkslaw3.TokenNextAtAnyOffset" = some 11 by kernel_rfl).symm.trans hf) |>.symm
      obtain rfl : fn = Tryd.f11 := (Option.some.inj (Tryd.func11.symm.trans hfn)).symm
      exact ⟨by kernel_rfl, fun j t ht => by
        rw [Tryd.params11] at ht
        have h3 : t = 3 ∨ t = 9 := by
          match j, ht with
          | 0, ht => have ht : some 9 = some t := ht; cases ht; simp
          | 1, ht => have ht : some 3 = some t := ht; cases ht; simp
          | j + 2, ht => simp at ht
        rcases h3 with rfl | rfl
        · exact (show Tryd.prog.wantsStandIn 3 = false by kernel_rfl)
        · exact (show Tryd.prog.wantsStandIn 9 = false by kernel_rfl)⟩)
    (by kernel_rfl)
#print axioms tokenNextAtAnyOffset_holds
end Go.Proofs.YtmaolabjdmhinaaDoor
