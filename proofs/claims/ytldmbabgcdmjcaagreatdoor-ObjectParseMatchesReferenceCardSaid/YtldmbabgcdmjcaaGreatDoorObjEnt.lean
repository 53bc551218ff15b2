/-
  Parse returns the object of a source,or the first error and its place: the law returns true,and its argument reads as before.
-/
import Derived.Lay
import Derived.Test.YtldmbabgcdmjcaaGreatDoorVmD
import Derived.Test.YtldmbabgcdmjcaaGreatDoorVmC
import Derived.Stop.Joined
import Derived.Test.YtldmbabgcdmjcaaGreatDoorObjNf
import Derived.Test.YtldmbabgcdmjcaaGreatDoorObjPd
import Derived.Test.YtldmbabgcdmjcaaGreatDoorRows
import Derived.Test.YtldmbabgcdmjcaaGreatDoorTie
import Derived.Test.YtldmbabgcdmjcaaGreatDoorCards
namespace Go.Proofs.YtldmbabgcdmjcaaGreatDoor
open Go.ChangeShapes Go.WideShapes Go.ChangeAt Go.WideMaps Go.WideElems Go.RowKit Go.Vm Go.Vm.ObjM
theorem own:ownKnob Tryz.prog.godebug=none:=by kernel_rfl
theorem bQ8:vM Tryz.prog [9] (fun z:(List UInt8)×Unit=>[.d (.str z.1)]) (fun z=>z.1.length≤maxLen∧True) :=
 (aO1 (x:=fun y:List UInt8=>.str y) (by kernel_rfl) (fun _=>rfl) (cF6 (by kernel_rfl)) (aT8 _))
abbrev lay : List (String × DataW Unit) := [("math/bits.deBruijn32tab",Rows.laid_math_bits_deBruijn32tab),("math/bits.deBruijn64tab",Rows.laid_math_bits_deBruijn64tab),("internal/strconv.uint64pow10",Rows.laid_internal_strconv_uint64pow10),("strconv.ErrRange",Rows.laid_strconv_ErrRange),("strconv.ErrSyntax",Rows.laid_strconv_ErrSyntax)]
theorem cK9 (os:Os) (args:Array Value):laidMetH Tryz.prog lay ((World.laidAll Tryz.prog os lay).forCall (fun _ _=>0) ⟨#[],args,[]⟩).memory:=by rw [MakeChecks.laidMetH_plain _ _ _ (by kernel_rfl)]; exact laidMet_laidAll _ (by kernel_rfl) (by kernel_rfl)
abbrev gl:bP9:=[(1,aC.flatMap (cI .u64))]
theorem cZ5 {W:World} (h:laidMetH Tryz.prog lay W):∀ g∈gl,uM (rO W) W g.1 g.2:=by
 rw [MakeChecks.laidMetH_plain _ _ _ (by kernel_rfl)] at h
 exact List.forall_mem_cons.2 ⟨cD5 (t := 164) (e := 119) (n := 20) (k := .u64) (l := aC) (by kernel_rfl) (by kernel_rfl) (by kernel_rfl) (by kernel_rfl) (by kernel_rfl) (by kernel_rfl) rfl (cF9 (lay := lay) (nm := "internal/strconv.uint64pow10") (d := Rows.laid_internal_strconv_uint64pow10) (List.mem_of_getElem? (i := 2) rfl) h),fun _ h => by cases h⟩
set_option maxRecDepth 100000 in
theorem lifted (os:Os) (started:os.Started) (H:Type) (enc:TypeId×Value→H) :
  ReturnsInHanded {} Tryz.checked os 3 .any (fun w args=>(Rows.objectParseMatchesReferenceSpec.pre enc Tryz.prog Tryz.f3 [] false w args∧laidMetH Tryz.prog lay w)∧sizedMet enc Tryz.prog Tryz.f3 (OpenSpec.ofChange Rows.objectParseMatchesReferenceSpec) false w args)
   (Rows.objectParseMatchesReferenceSpec.post enc Tryz.prog Tryz.f3 false true false false):=by
 refine returnsInHanded_of_change_and (C:=Tryz.checked) (X:=fun w _=>laidMetH Tryz.prog lay w) (fun _ _ _ hh h=>h.of_heap hh) own started (by kernel_rfl) Tryz.func3
  (ChangeSpec.witness_shaped (enc:=enc) (C:=Tryz.checked) (os:=os) (X:=fun w _=>laidMetH Tryz.prog lay w) false (World.laidAll Tryz.prog os lay) #[.string ⟨#[]⟩] 8 (World.laidAll_os _ _ _) (World.shaped_of_ZipB (by kernel_rfl) (by kernel_rfl)) (by kernel_rfl) (by kernel_rfl) (by kernel_rfl) (cK9 os _)) ?_
 intro W base args ds gs before hval hW _ _ hL _
 exact aP2 gl (tb:=4) (ts:=[9]) (by kernel_rfl) bQ8 (fun _=>by simp [aH]) (fun b hb=>let ⟨_,h⟩:=(show ∃ F,dZ F b.1=some true from ⟨maxLen+1,cE0 (Nat.lt_succ_self _) _⟩); oD h) (by kernel_rfl) (by kernel_rfl) rfl rfl Tryz.underlying4
   (fun ds hd=>match ds,hd with | [_],_=>rfl) W base args ds gs before (cZ5 hL) hval hW
theorem qC:Rows.ObjectParseMatchesReferenceSaid :=
 OpenClaim.holds_of_wide 3 Tryz.f3 rfl rfl rfl rfl rfl rfl rfl ⟨rfl,rfl,rfl,rfl,rfl⟩ rfl rfl rfl rfl rfl (by kernel_rfl) Tryz.func3 (by kernel_rfl)
  (of_decide_eq_true (by kernel_rfl)) (by unfold Func.isWrapper; first | (rw [if_pos (by decide +kernel)]; kernel_rfl) | (rw [if_neg (by decide +kernel)]; exact ⟨rfl,rfl⟩))
  (fun os started H enc _=>lifted os started H enc)
theorem objectParseMatchesReference_holds:Rows.ObjectParseMatchesReferenceCardSaid :=
 Claim7.holds_tied_plain_at .later [] [.data,.data,.data,.sentinel,.sentinel] true (true,"19e576368d588bf47963ef35cf172ba3e4ea6ae888343ad0f36e6862c3f2e0b6") true
  qC (fun _ h=>by cases h) (by kernel_rfl) (fun _ h=>by cases h) objectParseMatchesReference_row_tie rfl ⟨rfl,rfl⟩ (by kernel_rfl) rfl
  (fun f fn hf hfn=>by
   obtain rfl : f = 3 := Option.some.inj ((show Tryz.prog.funcNamed "printworks/printworkslaw3.ObjectParseMatchesReference" = some 3 by kernel_rfl).symm.trans hf) |>.symm
   obtain rfl:fn=Tryz.f3:=(Option.some.inj (Tryz.func3.symm.trans hfn)).symm
   exact ⟨by kernel_rfl,fun j t ht=>by
    rw [Tryz.params3] at ht
    have h3:t=9:=by
     match j,ht with
     | 0,ht=>have ht:some 9=some t:=ht; cases ht; simp
     | j+1,ht=>simp at ht
    subst h3
    exact (show Tryz.prog.wantsStandIn 9=false by kernel_rfl)⟩)
  (by kernel_rfl)
#print axioms objectParseMatchesReference_holds
end Go.Proofs.YtldmbabgcdmjcaaGreatDoor
