/-
  Check returns the first error of a document: the law returns true,and its argument reads as before.
-/
import Derived.Lay
import Derived.Test.YtgonfionbbhmkaaGreatDoorVmD
import Derived.Test.YtgonfionbbhmkaaGreatDoorVmC
import Derived.Stop.Joined
import Derived.Test.YtgonfionbbhmkaaGreatDoorLb
import Derived.Test.YtgonfionbbhmkaaGreatDoorQb
import Derived.Test.YtgonfionbbhmkaaGreatDoorRows
import Derived.Test.YtgonfionbbhmkaaGreatDoorTie
import Derived.Test.YtgonfionbbhmkaaGreatDoorCards
namespace Go.Proofs.YtgonfionbbhmkaaGreatDoor
open Go.ChangeShapes Go.WideShapes Go.ChangeAt Go.WideMaps Go.WideElems Go.RowKit Go.Vm Go.Vm.PgfG
theorem own:ownKnob Tryz.prog.godebug=none:=by kernel_rfl
inductive Q47:aC→Prop
 | mk {x0:Int} {x1:Int} {x2:List UInt8} {x3:List (List UInt8)} {x4:List aC} (h0:(Lit.int .i64 x0).wf=true) (h1:(Lit.int .i64 x1).wf=true) (h2:x2.length≤maxLen) (h3:(x3.length≤maxLen∧∀ a∈x3,a.length≤maxLen)) (h4a:x4.length≤maxLen) (h4b:∀ a∈x4,Q47 a):Q47 ⟨x0,x1,x2,x3,x4⟩
theorem cP8:vB Tryz.prog 47 aZ Q47:=cJ0 fun b ih =>
 (bD5 (t:=47) (N:=5) Tryz.underlying47 (by kernel_rfl) (rT (sz:=1) rfl (by kernel_rfl) (by decide) ((aF8 (k:=.i64) (by kernel_rfl)).toB _)
  (rT (sz:=1) rfl (by kernel_rfl) (by decide) ((aF8 (k:=.i64) (by kernel_rfl)).toB _)
  (rT (sz:=1) rfl (by kernel_rfl) (by decide) ((aP3 (by kernel_rfl)).toB _)
  (rT (sz:=1) rfl (by kernel_rfl) (by decide) ((aR8 (e:=9) (sz:=1) (by kernel_rfl) (by kernel_rfl) (by decide) (aP3 (by kernel_rfl))).toB _)
  (rT (sz:=1) rfl (by kernel_rfl) (by decide) ((bL7 (e:=47) (sz:=5) (by kernel_rfl) (by kernel_rfl) (by decide) (ih.map id eY (fun _ h=>h))).mono (Nat.le_succ _))
  (bT4 _ _ _))))))).map
  (fun x=>(⟨x.1,x.2.1,x.2.2.1,x.2.2.2.1,x.2.2.2.2.1⟩:aC)) (fun x=>by simp [aZ]) (fun _ h=>.mk h.1 h.2.1 h.2.2.1 h.2.2.2.1 h.2.2.2.2.1.1 h.2.2.2.2.1.2)
def Q49 (x:aJ):Prop:=(Lit.int .i64 x.f0).wf=true∧Q47 x.f1∧x.f2.length≤maxLen∧True
theorem cL2:vB Tryz.prog 49 aF Q49 :=
 (aN9 (t:=49) (N:=7) Tryz.underlying49 (by kernel_rfl) (uH (sz:=1) rfl (by kernel_rfl) (by decide) (aF8 (k:=.i64) (by kernel_rfl))
  (uH (sz:=5) rfl (by kernel_rfl) (by decide) cP8
  (uH (sz:=1) rfl (by kernel_rfl) (by decide) (aP3 (by kernel_rfl))
  (bC0 _ _))))).map
  (fun x=>(⟨x.1,x.2.1,x.2.2.1⟩:aJ)) (fun x=>by simp [aF,aZ]) (fun _ h=>h)
def Q24 (x:bC):Prop:=(Lit.int .i64 x.f0).wf=true∧(x.f1.length≤maxLen∧∀ a∈x.f1,Q49 a)∧True
theorem cP7:vB Tryz.prog 24 bP Q24 :=
 (aN9 (t:=24) (N:=2) Tryz.underlying24 (by kernel_rfl) (uH (sz:=1) rfl (by kernel_rfl) (by decide) (aF8 (k:=.i64) (by kernel_rfl))
  (uH (sz:=1) rfl (by kernel_rfl) (by decide) (aR8 (e:=49) (sz:=7) (by kernel_rfl) (by kernel_rfl) (by decide) cL2)
  (bC0 _ _)))).map
  (fun x=>(⟨x.1,x.2.1⟩:bC)) (fun x=>by simp [bP]) (fun _ h=>h)
theorem dA3 {x:aC} (h:Q47 x):L.Sm x:=by
 induction h with
 | mk h0 h1 h2 h3 h4a h4b ih=>exact .mk h2 h3.2 ih
theorem cZ0 {x:Int} (h:(Lit.int .i64 x).wf=true) : -9223372036854775808≤x∧x≤9223372036854775807:=by
 simp [Lit.wf,IntKind.min,IntKind.max,IntKind.bits,IntKind.signed] at h
 omega
theorem bW5:yG Tryz.prog [24] (fun z:bC×Unit=>[.agg (bP z.1)]) (fun z=>Q24 z.1∧True) :=
 (bC8 Tryz.underlying24 cP7 (bD8 _))
abbrev lay : List (String × DataW Unit) := [("math/bits.deBruijn32tab",Rows.laid_math_bits_deBruijn32tab),("math/bits.deBruijn64tab",Rows.laid_math_bits_deBruijn64tab),("internal/strconv.uint64pow10",Rows.laid_internal_strconv_uint64pow10),("unicode/utf8.acceptRanges",Rows.laid_unicode_utf8_acceptRanges),("strconv.ErrRange",Rows.laid_strconv_ErrRange),("strconv.ErrSyntax",Rows.laid_strconv_ErrSyntax),("printworks/filter.steps",Rows.laid_printworks_filter_steps),("unicode/utf8.first",Rows.laid_unicode_utf8_first)]
theorem cM0 (os:Os) (args:Array Value):laidMetH Tryz.prog lay ((World.laidAll Tryz.prog os lay).forCall (fun _ _=>0) ⟨#[],args,[]⟩).memory:=by rw [MakeChecks.laidMetH_plain _ _ _ (by kernel_rfl)]; exact laidMet_laidAll _ (by kernel_rfl) (by kernel_rfl)
abbrev gl:bH4:=[(0,aQ.flatMap (cI .u32)),(6,aA.flatMap (cI .u64))]
theorem cY7 {W:World} (h:laidMetH Tryz.prog lay W):∀ g∈gl,rY (vK W) W g.1 g.2:=by
 rw [MakeChecks.laidMetH_plain _ _ _ (by kernel_rfl)] at h
 exact List.forall_mem_cons.2 ⟨bG7 (t := 172) (e := 83) (n := 16) (k := .u32) (l := aQ) (by kernel_rfl) (by kernel_rfl) (by kernel_rfl) (by kernel_rfl) (by kernel_rfl) (by kernel_rfl) rfl (bQ1 (lay := lay) (nm := "printworks/filter.steps") (d := Rows.laid_printworks_filter_steps) (List.mem_of_getElem? (i := 6) rfl) h),List.forall_mem_cons.2 ⟨bG7 (t := 259) (e := 149) (n := 20) (k := .u64) (l := aA) (by kernel_rfl) (by kernel_rfl) (by kernel_rfl) (by kernel_rfl) (by kernel_rfl) (by kernel_rfl) rfl (bQ1 (lay := lay) (nm := "internal/strconv.uint64pow10") (d := Rows.laid_internal_strconv_uint64pow10) (List.mem_of_getElem? (i := 2) rfl) h),fun _ h => by cases h⟩⟩
set_option maxRecDepth 100000 in
theorem lifted (os:Os) (started:os.Started) (H:Type) (enc:TypeId×Value→H) :
  ReturnsInHanded {} Tryz.checked os 3 .any (fun w args=>(Rows.pagefileCheckMatchesReferenceSpec.pre enc Tryz.prog Tryz.f3 [] false w args∧laidMetH Tryz.prog lay w)∧sizedMet enc Tryz.prog Tryz.f3 (OpenSpec.ofChange Rows.pagefileCheckMatchesReferenceSpec) false w args)
   (Rows.pagefileCheckMatchesReferenceSpec.post enc Tryz.prog Tryz.f3 false true false false):=by
 refine returnsInHanded_of_change_and (C:=Tryz.checked) (X:=fun w _=>laidMetH Tryz.prog lay w) (fun _ _ _ hh h=>h.of_heap hh) own started (by kernel_rfl) Tryz.func3
  (ChangeSpec.witness_shaped (enc:=enc) (C:=Tryz.checked) (os:=os) (X:=fun w _=>laidMetH Tryz.prog lay w) false (World.laidAll Tryz.prog os lay) #[.agg #[.int .i64 0,.slice none 0 0]] 8 (World.laidAll_os _ _ _) (World.shaped_of_ZipB (by kernel_rfl) (by kernel_rfl)) (by kernel_rfl) (by kernel_rfl) (by kernel_rfl) (cM0 os _)) ?_
 intro W base args ds gs before hval hW _ _ hL _
 exact bC2 gl (tb:=4) (ts:=[24]) (by kernel_rfl) bW5 (fun _=>by simp [aS]) (fun b hb=>let ⟨_,h⟩:=(show ∃ F,dP F b.1=some true from ⟨maxLen+401,L.cG7 (fun x hx=>dA3 (hb.1.2.1.2 x hx).2.1) (cZ0 hb.1.1)⟩); nZ h) (by kernel_rfl) (by kernel_rfl) rfl rfl Tryz.underlying4
   (fun ds hd=>match ds,hd with | [_],_=>rfl) W base args ds gs before (cY7 hL) hval hW
theorem qV:Rows.PagefileCheckMatchesReferenceSaid :=
 OpenClaim.holds_of_wide 3 Tryz.f3 rfl rfl rfl rfl rfl rfl rfl ⟨rfl,rfl,rfl,rfl,rfl⟩ rfl rfl rfl rfl rfl (by kernel_rfl) Tryz.func3 (by kernel_rfl)
  (of_decide_eq_true (by kernel_rfl)) (by unfold Func.isWrapper; first | (rw [if_pos (by decide +kernel)]; kernel_rfl) | (rw [if_neg (by decide +kernel)]; exact ⟨rfl,rfl⟩))
  (fun os started H enc _=>lifted os started H enc)
theorem pagefileCheckMatchesReference_holds:Rows.PagefileCheckMatchesReferenceCardSaid :=
 Claim7.holds_tied_plain_at .later [] [.data,.data,.data,.data,.sentinel,.sentinel,.data,.pinned] true (true,"84c099ec3a833977a19a70acc2195b4593fe36cf29500bbb5bad0c3a2a9a7b28") true
  qV (fun _ h=>by cases h) (by kernel_rfl) (fun _ h=>by cases h) pagefileCheckMatchesReference_row_tie rfl ⟨rfl,rfl⟩ (by kernel_rfl) rfl
  (fun f fn hf hfn=>by
   obtain rfl : f = 3 := Option.some.inj ((show Tryz.prog.funcNamed "printworks/printworkslaw3.PagefileCheckMatchesReference" = some 3 by kernel_rfl).symm.trans hf) |>.symm
   obtain rfl:fn=Tryz.f3:=(Option.some.inj (Tryz.func3.symm.trans hfn)).symm
   exact ⟨by kernel_rfl,fun j t ht=>by
    rw [Tryz.params3] at ht
    have h3:t=24:=by
     match j,ht with
     | 0,ht=>have ht:some 24=some t:=ht; cases ht; simp
     | j+1,ht=>simp at ht
    subst h3
    exact (show Tryz.prog.wantsStandIn 24=false by kernel_rfl)⟩)
  (by kernel_rfl)
#print axioms pagefileCheckMatchesReference_holds
end Go.Proofs.YtgonfionbbhmkaaGreatDoor
