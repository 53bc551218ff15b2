/-
  Refs lists the numbers of the objects to which an object refers,once each,in increasing order: the law returns true,and its argument reads as before.
-/
import Derived.Lay
import Derived.Test.YtldmbabgcdmjcaaGreatDoorVmD
import Derived.Test.YtldmbabgcdmjcaaGreatDoorVmC
import Derived.Stop.Joined
import Derived.Test.YtldmbabgcdmjcaaGreatDoorObjLj
import Derived.Test.YtldmbabgcdmjcaaGreatDoorObjP3
import Derived.Test.YtldmbabgcdmjcaaGreatDoorRows
import Derived.Test.YtldmbabgcdmjcaaGreatDoorTie
import Derived.Test.YtldmbabgcdmjcaaGreatDoorCards
namespace Go.Proofs.YtldmbabgcdmjcaaGreatDoor
open Go.ChangeShapes Go.WideShapes Go.ChangeAt Go.WideMaps Go.WideElems Go.RowKit Go.Vm Go.Vm.ObjG
theorem own:ownKnob Tryz.prog.godebug=none:=by kernel_rfl
inductive Q26:S_Object→Prop
  | mk {x0:Int} {x1:Int} {x2:List UInt8} {x3:List (List UInt8)} {x4:List S_Object} (h0:(Lit.int .i64 x0).wf=true) (h1:(Lit.int .i64 x1).wf=true) (h2:x2.length≤maxLen) (h3:(x3.length≤maxLen∧∀ a∈x3,a.length≤maxLen)) (h4a:x4.length≤maxLen) (h4b:∀ a∈x4,Q26 a):Q26 ⟨x0,x1,x2,x3,x4⟩
theorem opens_26:Opens Tryz.prog 26 cS_Object Q26:=opens_rec fun b ih =>
  (opensB_struct (t:=26) (N:=5) Tryz.underlying26 (by kernel_rfl) (opensNB_cons (sz:=1) rfl (by kernel_rfl) (by decide) ((opens_int (k:=.i64) (by kernel_rfl)).toB _)
    (opensNB_cons (sz:=1) rfl (by kernel_rfl) (by decide) ((opens_int (k:=.i64) (by kernel_rfl)).toB _)
    (opensNB_cons (sz:=1) rfl (by kernel_rfl) (by decide) ((opens_str (by kernel_rfl)).toB _)
    (opensNB_cons (sz:=1) rfl (by kernel_rfl) (by decide) ((opens_slice (e:=9) (sz:=1) (by kernel_rfl) (by kernel_rfl) (by decide) (opens_str (by kernel_rfl))).toB _)
    (opensNB_cons (sz:=1) rfl (by kernel_rfl) (by decide) ((opensB_slice (e:=26) (sz:=5) (by kernel_rfl) (by kernel_rfl) (by decide) (ih.map id rS_Object_eq (fun _ h=>h))).mono (Nat.le_succ _))
    (opensNB_nil _ _ _))))))).map
    (fun x=>(⟨x.1,x.2.1,x.2.2.1,x.2.2.2.1,x.2.2.2.2.1⟩:S_Object)) (fun x=>by simp [cS_Object]) (fun _ h=>.mk h.1 h.2.1 h.2.2.1 h.2.2.2.1 h.2.2.2.2.1.1 h.2.2.2.2.1.2)
theorem sm_of {x:S_Object} (h:Q26 x):Sm x:=by
  induction h with
  | mk h0 h1 h2 h3 h4a h4b ih=>exact .mk h2 h3.2 ih
theorem opens_args:OpensArgs Tryz.prog [26] (fun z:S_Object×Unit=>[.agg (cS_Object z.1)]) (fun z=>Q26 z.1∧True) :=
  (opensArgs_agg Tryz.underlying26 opens_26 (opensArgs_nil _))
abbrev lay : List (String × DataW Unit) := [("math/bits.deBruijn32tab",Rows.laid_math_bits_deBruijn32tab),("math/bits.deBruijn64tab",Rows.laid_math_bits_deBruijn64tab),("internal/strconv.uint64pow10",Rows.laid_internal_strconv_uint64pow10),("strconv.ErrRange",Rows.laid_strconv_ErrRange),("strconv.ErrSyntax",Rows.laid_strconv_ErrSyntax)]
theorem door_met (os:Os) (args:Array Value):laidMetH Tryz.prog lay ((World.laidAll Tryz.prog os lay).forCall (fun _ _=>0) ⟨#[],args,[]⟩).memory:=by rw [MakeChecks.laidMetH_plain _ _ _ (by kernel_rfl)]; exact laidMet_laidAll _ (by kernel_rfl) (by kernel_rfl)
abbrev gl:Glos:=[(1,glob_internal_strconv_uint64pow10.flatMap (cI .u64))]
theorem of_lay {W:World} (h:laidMetH Tryz.prog lay W):∀ g∈gl,GloAt (allS W) W g.1 g.2:=by
  rw [MakeChecks.laidMetH_plain _ _ _ (by kernel_rfl)] at h
  exact List.forall_mem_cons.2 ⟨laid_ints (t := 164) (e := 119) (n := 20) (k := .u64) (l := glob_internal_strconv_uint64pow10) (by kernel_rfl) (by kernel_rfl) (by kernel_rfl) (by kernel_rfl) (by kernel_rfl) (by kernel_rfl) rfl (laid_one (lay := lay) (nm := "internal/strconv.uint64pow10") (d := Rows.laid_internal_strconv_uint64pow10) (List.mem_of_getElem? (i := 2) rfl) h),fun _ h => by cases h⟩
set_option maxRecDepth 100000 in
theorem lifted (os:Os) (started:os.Started) (H:Type) (enc:TypeId×Value→H) :
    ReturnsInHanded {} Tryz.checked os 5 .any (fun w args=>(Rows.objectRefsMatchReferenceSpec.pre enc Tryz.prog Tryz.f5 [] false w args∧laidMetH Tryz.prog lay w)∧sizedMet enc Tryz.prog Tryz.f5 (OpenSpec.ofChange Rows.objectRefsMatchReferenceSpec) false w args)
      (Rows.objectRefsMatchReferenceSpec.post enc Tryz.prog Tryz.f5 false true false false):=by
  refine returnsInHanded_of_change_and (C:=Tryz.checked) (X:=fun w _=>laidMetH Tryz.prog lay w) (fun _ _ _ hh h=>h.of_heap hh) own started (by kernel_rfl) Tryz.func5
    (ChangeSpec.witness_shaped (enc:=enc) (C:=Tryz.checked) (os:=os) (X:=fun w _=>laidMetH Tryz.prog lay w) false (World.laidAll Tryz.prog os lay) #[.agg #[.int .i64 0,.int .i64 0,.string ⟨#[]⟩,.slice none 0 0,.slice none 0 0]] 8 (World.laidAll_os _ _ _) (World.shaped_of_ZipB (by kernel_rfl) (by kernel_rfl)) (by kernel_rfl) (by kernel_rfl) (by kernel_rfl) (door_met os _)) ?_
  intro W base args ds gs before hval hW _ _ hL _
  exact law_contractGs gl (tb:=4) (ts:=[26]) (by kernel_rfl) opens_args (fun _=>by simp [resSlot]) (fun b hb=>let ⟨_,h⟩:=(show ∃ F,law3_ObjectRefsMatchReference F b.1=some true from ⟨maxLen+1,refs_law (Nat.lt_succ_self _) (sm_of hb.1)⟩); law3_ObjectRefsMatchReference_ok h) (by kernel_rfl) (by kernel_rfl) rfl rfl Tryz.underlying4
      (fun ds hd=>match ds,hd with | [_],_=>rfl) W base args ds gs before (of_lay hL) hval hW
theorem objectRefsMatchReference_row:Rows.ObjectRefsMatchReferenceSaid :=
  OpenClaim.holds_of_wide 5 Tryz.f5 rfl rfl rfl rfl rfl rfl rfl ⟨rfl,rfl,rfl,rfl,rfl⟩ rfl rfl rfl rfl rfl (by kernel_rfl) Tryz.func5 (by kernel_rfl)
    (of_decide_eq_true (by kernel_rfl)) (by unfold Func.isWrapper; first | (rw [if_pos (by decide +kernel)]; kernel_rfl) | (rw [if_neg (by decide +kernel)]; exact ⟨rfl,rfl⟩))
    (fun os started H enc _=>lifted os started H enc)
theorem objectRefsMatchReference_holds:Rows.ObjectRefsMatchReferenceCardSaid :=
  Claim7.holds_tied_plain_at .later [] [.data,.data,.data,.sentinel,.sentinel] true (true,"19e576368d588bf47963ef35cf172ba3e4ea6ae888343ad0f36e6862c3f2e0b6") true
    objectRefsMatchReference_row (fun _ h=>by cases h) (by kernel_rfl) (fun _ h=>by cases h) objectRefsMatchReference_row_tie rfl ⟨rfl,rfl⟩ (by kernel_rfl) rfl
    (fun f fn hf hfn=>by
      obtain rfl : f = 5 := Option.some.inj ((show Tryz.prog.funcNamed "printworks/printworkslaw3.ObjectRefsMatchReference" = some 5 by kernel_rfl).symm.trans hf) |>.symm
      obtain rfl:fn=Tryz.f5:=(Option.some.inj (Tryz.func5.symm.trans hfn)).symm
      exact ⟨by kernel_rfl,fun j t ht=>by
        rw [Tryz.params5] at ht
        have h3:t=26:=by
          match j,ht with
          | 0,ht=>have ht:some 26=some t:=ht; cases ht; simp
          | j+1,ht=>simp at ht
        subst h3
        exact (show Tryz.prog.wantsStandIn 26=false by kernel_rfl)⟩)
    (by kernel_rfl)
#print axioms objectRefsMatchReference_holds
end Go.Proofs.YtldmbabgcdmjcaaGreatDoor
