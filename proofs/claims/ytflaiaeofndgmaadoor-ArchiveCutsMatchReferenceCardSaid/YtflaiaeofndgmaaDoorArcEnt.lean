/-
  Cuts returns the lengths of pieces that follow from the number of each window: the law returns true,and its argument reads as before.
-/
import Derived.Lay
import Derived.Test.YtflaiaeofndgmaaDoorVmD
import Derived.Test.YtflaiaeofndgmaaDoorVmC
import Derived.Stop.Joined
import Derived.Test.YtflaiaeofndgmaaDoorArcLd
import Derived.Test.YtflaiaeofndgmaaDoorArcP
import Derived.Test.YtflaiaeofndgmaaDoorRows
import Derived.Test.YtflaiaeofndgmaaDoorTie
import Derived.Test.YtflaiaeofndgmaaDoorCards
namespace Go.Proofs.YtflaiaeofndgmaaDoor
open Go.ChangeShapes Go.WideShapes Go.ChangeAt Go.WideMaps Go.WideElems Go.RowKit Go.Vm Go.Vm.ArcG
theorem own:ownKnob Tryd.prog.godebug=none:=by kernel_rfl
theorem opens_args:OpensArgs Tryd.prog [9] (fun z:(List UInt8)×Unit=>[.d (.str z.1)]) (fun z=>z.1.length≤maxLen∧True) :=
  (opensArgs_flat (x:=fun y:List UInt8=>.str y) (by kernel_rfl) (fun _=>rfl) (opens_str (by kernel_rfl)) (opensArgs_nil _))
abbrev lay : List (String × DataW Unit) := [("printworks/filter.steps",Rows.laid_printworks_filter_steps)]
theorem door_met (os:Os) (args:Array Value):laidMetH Tryd.prog lay ((World.laidAll Tryd.prog os lay).forCall (fun _ _=>0) ⟨#[],args,[]⟩).memory:=by rw [MakeChecks.laidMetH_plain _ _ _ (by kernel_rfl)]; exact laidMet_laidAll _ (by kernel_rfl) (by kernel_rfl)
abbrev gl:Glos:=[(0,glob_filter_steps.flatMap (cI .u32))]
theorem of_lay {W:World} (h:laidMetH Tryd.prog lay W):∀ g∈gl,GloAt (allS W) W g.1 g.2:=by
  rw [MakeChecks.laidMetH_plain _ _ _ (by kernel_rfl)] at h
  exact List.forall_mem_cons.2 ⟨laid_ints (t := 71) (e := 49) (n := 16) (k := .u32) (l := glob_filter_steps) (by kernel_rfl) (by kernel_rfl) (by kernel_rfl) (by kernel_rfl) (by kernel_rfl) (by kernel_rfl) rfl (laid_one (lay := lay) (nm := "printworks/filter.steps") (d := Rows.laid_printworks_filter_steps) (List.mem_of_getElem? (i := 0) rfl) h),fun _ h => by cases h⟩
set_option maxRecDepth 100000 in
theorem lifted (os:Os) (started:os.Started) (H:Type) (enc:TypeId×Value→H) :
    ReturnsInHanded {} Tryd.checked os 3 .any (fun w args=>(Rows.archiveCutsMatchReferenceSpec.pre enc Tryd.prog Tryd.f3 [] false w args∧laidMetH Tryd.prog lay w)∧sizedMet enc Tryd.prog Tryd.f3 (OpenSpec.ofChange Rows.archiveCutsMatchReferenceSpec) false w args)
      (Rows.archiveCutsMatchReferenceSpec.post enc Tryd.prog Tryd.f3 false true false false):=by
  refine returnsInHanded_of_change_and (C:=Tryd.checked) (X:=fun w _=>laidMetH Tryd.prog lay w) (fun _ _ _ hh h=>h.of_heap hh) own started (by kernel_rfl) Tryd.func3
    (ChangeSpec.witness_shaped (enc:=enc) (C:=Tryd.checked) (os:=os) (X:=fun w _=>laidMetH Tryd.prog lay w) false (World.laidAll Tryd.prog os lay) #[.string ⟨#[]⟩] 8 (World.laidAll_os _ _ _) (World.shaped_of_ZipB (by kernel_rfl) (by kernel_rfl)) (by kernel_rfl) (by kernel_rfl) (by kernel_rfl) (door_met os _)) ?_
  intro W base args ds gs before hval hW _ _ hL _
  exact law_contractGs gl (tb:=4) (ts:=[9]) (by kernel_rfl) opens_args (fun _=>by simp [resSlot]) (fun b hb=>let ⟨_,h⟩:=(show ∃ F,law3_ArchiveCutsMatchReference F b.1=some true from ⟨20000,cuts_law b.1⟩); law3_ArchiveCutsMatchReference_ok h) (by kernel_rfl) (by kernel_rfl) rfl rfl Tryd.underlying4
      (fun ds hd=>match ds,hd with | [_],_=>rfl) W base args ds gs before (of_lay hL) hval hW
theorem archiveCutsMatchReference_row:Rows.ArchiveCutsMatchReferenceSaid :=
  OpenClaim.holds_of_wide 3 Tryd.f3 rfl rfl rfl rfl rfl rfl rfl ⟨rfl,rfl,rfl,rfl,rfl⟩ rfl rfl rfl rfl rfl (by kernel_rfl) Tryd.func3 (by kernel_rfl)
    (of_decide_eq_true (by kernel_rfl)) (by unfold Func.isWrapper; first | (rw [if_pos (by decide +kernel)]; kernel_rfl) | (rw [if_neg (by decide +kernel)]; exact ⟨rfl,rfl⟩))
    (fun os started H enc _=>lifted os started H enc)
theorem archiveCutsMatchReference_holds:Rows.ArchiveCutsMatchReferenceCardSaid :=
  Claim7.holds_tied_plain_at .later [] [.data] true (true,"1b6cc18214c52ee70396cd189b3087704159eb4a16b8f764f3776d4a07034de6") false
    archiveCutsMatchReference_row (fun _ h=>by cases h) (by kernel_rfl) (fun _ h=>by cases h) archiveCutsMatchReference_row_tie rfl ⟨rfl,rfl⟩ (by kernel_rfl) rfl
    (fun f fn hf hfn=>by
      obtain rfl : f = 3 := Option.some.inj ((show Tryd.prog.funcNamed "printworks/printworkslaw3.ArchiveCutsMatchReference" = some 3 by kernel_rfl).symm.trans hf) |>.symm
      obtain rfl:fn=Tryd.f3:=(Option.some.inj (Tryd.func3.symm.trans hfn)).symm
      exact ⟨by kernel_rfl,fun j t ht=>by
        rw [Tryd.params3] at ht
        have h3:t=9:=by
          match j,ht with
          | 0,ht=>have ht:some 9=some t:=ht; cases ht; simp
          | j+1,ht=>simp at ht
        subst h3
        exact (show Tryd.prog.wantsStandIn 9=false by kernel_rfl)⟩)
    (by kernel_rfl)
#print axioms archiveCutsMatchReference_holds
end Go.Proofs.YtflaiaeofndgmaaDoor
