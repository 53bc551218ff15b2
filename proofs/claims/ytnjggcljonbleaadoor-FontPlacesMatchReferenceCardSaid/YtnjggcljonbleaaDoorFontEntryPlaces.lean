/-
  The law FontPlacesMatchReference returns true for every input, and the inputs read behind the call as before. The card ties the package variable filter.steps to the program's text. No conditions.
-/
import Derived.Test.YtnjggcljonbleaaDoorFontOpen
import Derived.Test.YtnjggcljonbleaaDoorFontGP4
import Derived.Test.YtnjggcljonbleaaDoorFontLaw10
import Derived.Test.YtnjggcljonbleaaDoorTie
import Derived.Test.YtnjggcljonbleaaDoorCards
namespace Go.Proofs.YtnjggcljonbleaaDoor
open Go.ChangeShapes Go.WideShapes Go.ChangeAt Go.WideMaps Go.WideElems Go.RowKit Go.Vm Go.Vm.FontG

set_option maxRecDepth 100000 in
theorem lifted6 (os : Os) (started : os.Started) (H : Type) (enc : TypeId × Value → H) :
    ReturnsInHanded {} Tryd.checked os 6 .any (fun w args => (Rows.fontPlacesMatchReferenceSpec.pre enc Tryd.prog Tryd.f6 [] false w args ∧ laidMetH Tryd.prog lay w) ∧ sizedMet enc Tryd.prog Tryd.f6 (OpenSpec.ofChange Rows.fontPlacesMatchReferenceSpec) false w args)
      (Rows.fontPlacesMatchReferenceSpec.post enc Tryd.prog Tryd.f6 false true false false) := by
  refine returnsInHanded_of_change_and (C := Tryd.checked) (X := fun w _ => laidMetH Tryd.prog lay w) (fun _ _ _ hh h => h.of_heap hh) own started (by kernel_rfl) Tryd.func6
    (ChangeSpec.witness_shaped (enc := enc) (C := Tryd.checked) (os := os) (X := fun w _ => laidMetH Tryd.prog lay w) false (World.doorLaid Tryd.prog 400 os) #[.agg #[.int .i64 0, .slice none 0 0, .slice none 0 0, .slice none 0 0], .slice none 0 0] 8 rfl (World.shaped_of_RefB (by kernel_rfl) (by kernel_rfl)) (by kernel_rfl) (by kernel_rfl) (by kernel_rfl) (door_met os _)) ?_
  intro W base args ds gs before hval hW _ _ hL _
  exact law_contractG (tb := 4) (ts := [34, 23]) (by kernel_rfl) opens_fl (fun _ => by simp [virtBase]) (fun b _ => law3_FontPlacesMatchReference_ok (fontPlaces_law b.1 b.2.1)) (by kernel_rfl) (by kernel_rfl) rfl rfl Tryd.underlying4
      (fun ds hd => match ds, hd with | [_, _], _ => rfl) W base args ds gs before (of_lay hL) hval hW

theorem fontPlaces_row : Rows.FontPlacesMatchReferenceSaid :=
  OpenClaim.holds_of_wide 6 Tryd.f6 rfl rfl rfl rfl rfl rfl rfl ⟨rfl, rfl, rfl, rfl, rfl⟩ rfl rfl rfl rfl rfl (by kernel_rfl) Tryd.func6 (by kernel_rfl)
    (of_decide_eq_true (by kernel_rfl)) (by unfold Func.isWrapper; first | (rw [if_pos (by decide +kernel)]; kernel_rfl) | (rw [if_neg (by decide +kernel)]; exact ⟨rfl, rfl⟩))
    (fun os started H enc _ => lifted6 os started H enc)

theorem fontPlaces_holds : Rows.FontPlacesMatchReferenceCardSaid :=
  Claim7.holds_tied_plain_at .later [] [.data] true (true, "d1c37fcee3065b9f0ed08a2b27b95b376cf5b1e68ac0b0b160c504f7dfb9bf97") false
    fontPlaces_row (fun _ h => by cases h) (by kernel_rfl) (fun _ h => by cases h) fontPlacesMatchReference_row_tie rfl ⟨rfl, rfl⟩ (by kernel_rfl) rfl
    (fun f fn hf hfn => by
      obtain rfl : f = 6 := Option.some.inj ((show Tryd.prog.funcNamed "printworks/printworkslaw3.FontPlacesMatchReference" = some 6 by kernel_rfl).symm.trans hf) |>.symm
      obtain rfl : fn = Tryd.f6 := (Option.some.inj (Tryd.func6.symm.trans hfn)).symm
      exact ⟨by kernel_rfl, fun j t ht => by
        rw [Tryd.params6] at ht
        rcases j with _ | _ | j
        · obtain rfl : t = 34 := by simpa using ht.symm
          exact (show Tryd.prog.wantsStandIn 34 = false by kernel_rfl)
        · obtain rfl : t = 23 := by simpa using ht.symm
          exact (show Tryd.prog.wantsStandIn 23 = false by kernel_rfl)
        · simp at ht⟩)
    (by kernel_rfl)
#print axioms fontPlaces_holds
end Go.Proofs.YtnjggcljonbleaaDoor
