/-
  The law TokenMatchesReference returns true for every input, and the input reads behind the call as before. The card ties the package variables it names
-/
import Derived.Test.YtmaolabjdmhinaaDoorVmC
import Derived.Stop.Joined
import Derived.Test.YtmaolabjdmhinaaDoorLexGP
import Derived.Test.YtmaolabjdmhinaaDoorLexGP2
import Derived.Test.YtmaolabjdmhinaaDoorLexLaw9
import Derived.Test.YtmaolabjdmhinaaDoorRows
import Derived.Test.YtmaolabjdmhinaaDoorTie
import Derived.Test.YtmaolabjdmhinaaDoorCards
namespace Go.Proofs.YtmaolabjdmhinaaDoor
open Go.ChangeShapes Go.WideShapes Go.ChangeAt Go.WideMaps Go.WideElems Go.RowKit Go.Vm Go.Vm.LexG

theorem own : ownKnob Tryd.prog.godebug = none := by kernel_rfl

theorem opens_args : OpensArgs Tryd.prog [9] (fun z : (List UInt8) × Unit => [.d (.str z.1)]) (fun z => z.1.length ≤ maxLen ∧ True) :=
  (opensArgs_flat (x := fun y : List UInt8 => .str y) (by kernel_rfl) (fun _ => rfl) (opens_str (by kernel_rfl)) (opensArgs_nil _))

abbrev lay : List (String × DataW Unit) := [("math/bits.deBruijn32tab", Rows.laid_math_bits_deBruijn32tab), ("math/bits.deBruijn64tab", Rows.laid_math_bits_deBruijn64tab), ("internal/strconv.uint64pow10", Rows.laid_internal_strconv_uint64pow10), ("strconv.ErrRange", Rows.laid_strconv_ErrRange), ("strconv.ErrSyntax", Rows.laid_strconv_ErrSyntax)]
theorem door_met (os : Os) (args : Array Value) : laidMetH Tryd.prog lay ((World.doorLaid Tryd.prog 400 os).forCall (fun _ _ => 0) ⟨#[], args, []⟩).memory :=
  laidMetH_of_parts3 (fuel := 8) (laidMet_of_run' 8 (by kernel_rfl) (by kernel_rfl)) (by kernel_rfl) (by kernel_rfl)
abbrev gl : Glos := []
theorem of_lay {W : World} : ∀ g ∈ gl, GloAt (allS W) W g.1 g.2 := fun _ h => by cases h
set_option maxRecDepth 100000 in
theorem lifted (os : Os) (started : os.Started) (H : Type) (enc : TypeId × Value → H) :
    ReturnsInHanded {} Tryd.checked os 12 .any (fun w args => (Rows.tokenMatchesReferenceSpec.pre enc Tryd.prog Tryd.f12 [] false w args ∧ laidMetH Tryd.prog lay w) ∧ sizedMet enc Tryd.prog Tryd.f12 (OpenSpec.ofChange Rows.tokenMatchesReferenceSpec) false w args)
      (Rows.tokenMatchesReferenceSpec.post enc Tryd.prog Tryd.f12 false true false false) := by
  refine returnsInHanded_of_change_and (C := Tryd.checked) (X := fun w _ => laidMetH Tryd.prog lay w) (fun _ _ _ hh h => h.of_heap hh) own started (by kernel_rfl) Tryd.func12
    (ChangeSpec.witness_shaped (enc := enc) (C := Tryd.checked) (os := os) (X := fun w _ => laidMetH Tryd.prog lay w) false (World.doorLaid Tryd.prog 400 os) #[.string ⟨#[]⟩] 8 rfl (World.shaped_of_RefB (by kernel_rfl) (by kernel_rfl)) (by kernel_rfl) (by kernel_rfl) (by kernel_rfl) (door_met os _)) ?_
  intro W base args ds gs before hval hW _ _ hL _
  exact law_contractGs gl (tb := 4) (ts := [9]) (by kernel_rfl) opens_args (fun _ => by simp [resSlot]) (fun b hb => let ⟨_, h⟩ := (show ∃ F, law3_TokenMatchesReference F b.1 = some true from (match_total b.1)); law3_TokenMatchesReference_ok h) (by kernel_rfl) (by kernel_rfl) rfl rfl Tryd.underlying4
      (fun ds hd => match ds, hd with | [_], _ => rfl) W base args ds gs before of_lay hval hW

theorem tokenMatchesReference_row : Rows.TokenMatchesReferenceSaid :=
  OpenClaim.holds_of_wide 12 Tryd.f12 rfl rfl rfl rfl rfl rfl rfl ⟨rfl, rfl, rfl, rfl, rfl⟩ rfl rfl rfl rfl rfl (by kernel_rfl) Tryd.func12 (by kernel_rfl)
    (of_decide_eq_true (by kernel_rfl)) (by unfold Func.isWrapper; first | (rw [if_pos (by decide +kernel)]; kernel_rfl) | (rw [if_neg (by decide +kernel)]; exact ⟨rfl, rfl⟩))
    (fun os started H enc _ => lifted os started H enc)

theorem tokenMatchesReference_holds : Rows.TokenMatchesReferenceCardSaid :=
  Claim7.holds_tied_plain_at .later [] [.data, .data, .data, .sentinel, .sentinel] true (true, "dc694e02976f9b8fbd28ea19a903f6421b5484472e343113129dfb78245f8536") true
    tokenMatchesReference_row (fun _ h => by cases h) (by kernel_rfl) (fun _ h => by cases h) tokenMatchesReference_row_tie rfl ⟨rfl, rfl⟩ (by kernel_rfl) rfl
    (fun f fn hf hfn => by
      obtain rfl : f = 12 := Option.some.inj ((show Tryd.prog.funcNamed "printworks/printworkslaw3.TokenMatchesReference" = some 12 by kernel_rfl).symm.trans hf) |>.symm
      obtain rfl : fn = Tryd.f12 := (Option.some.inj (Tryd.func12.symm.trans hfn)).symm
      exact ⟨by kernel_rfl, fun j t ht => by
        rw [Tryd.params12] at ht
        have h3 : t = 9 := by
          match j, ht with
          | 0, ht => have ht : some 9 = some t := ht; cases ht; simp
          | j + 1, ht => simp at ht
        subst h3
        exact (show Tryd.prog.wantsStandIn 9 = false by kernel_rfl)⟩)
    (by kernel_rfl)
#print axioms tokenMatchesReference_holds
end Go.Proofs.YtmaolabjdmhinaaDoor
