/-
  of an open rule exactly the missing facts that it mentions are listed: the law returns true,and its arguments read as before.
-/
import Derived.Test.YtcjnhgcbefkbcaaGreatDoorVmD
import Derived.Lay
import Derived.Test.YtcjnhgcbefkbcaaGreatDoorVmC
import Derived.Stop.Joined
import Derived.Test.YtcjnhgcbefkbcaaGreatDoorPreLl
import Derived.Test.YtcjnhgcbefkbcaaGreatDoorPreP3
import Derived.Test.YtcjnhgcbefkbcaaGreatDoorRows
import Derived.Test.YtcjnhgcbefkbcaaGreatDoorTie
import Derived.Test.YtcjnhgcbefkbcaaGreatDoorCards
namespace Go.Proofs.YtcjnhgcbefkbcaaGreatDoor
open Go.ChangeShapes Go.WideShapes Go.ChangeAt Go.WideMaps Go.WideElems Go.RowKit Go.Vm Go.Vm.PreG
theorem own:ownKnob Tryz.prog.godebug=none:=by kernel_rfl
def Q86 (x:S_PrepressTerm):Prop:=(Lit.int .i64 x.f0).wf=true∧x.f1.length≤maxLen∧True
theorem opens_86:Opens Tryz.prog 86 cS_PrepressTerm Q86 :=
  (opens_struct (t:=86) (N:=2) Tryz.underlying86 (by kernel_rfl) (opensN_cons (sz:=1) rfl (by kernel_rfl) (by decide) (opens_int (k:=.i64) (by kernel_rfl))
    (opensN_cons (sz:=1) rfl (by kernel_rfl) (by decide) (opens_str (by kernel_rfl))
    (opensN_nil _ _)))).map
    (fun x=>(⟨x.1,x.2.1⟩:S_PrepressTerm)) (fun x=>by simp [cS_PrepressTerm]) (fun _ h=>h)
inductive Q33:S_PrepressCond→Prop
  | mk {x0:Int} {x1:List S_PrepressTerm} {x2:Int} {x3:Int} {x4:List S_PrepressCond} (h0:(Lit.int .i64 x0).wf=true) (h1:(x1.length≤maxLen∧∀ a∈x1,Q86 a)) (h2:(Lit.int .i64 x2).wf=true) (h3:(Lit.int .i64 x3).wf=true) (h4a:x4.length≤maxLen) (h4b:∀ a∈x4,Q33 a):Q33 ⟨x0,x1,x2,x3,x4⟩
theorem opens_33:Opens Tryz.prog 33 cS_PrepressCond Q33:=opens_rec fun b ih =>
  (opensB_struct (t:=33) (N:=5) Tryz.underlying33 (by kernel_rfl) (opensNB_cons (sz:=1) rfl (by kernel_rfl) (by decide) ((opens_int (k:=.i64) (by kernel_rfl)).toB _)
    (opensNB_cons (sz:=1) rfl (by kernel_rfl) (by decide) ((opens_slice (e:=86) (sz:=2) (by kernel_rfl) (by kernel_rfl) (by decide) opens_86).toB _)
    (opensNB_cons (sz:=1) rfl (by kernel_rfl) (by decide) ((opens_int (k:=.i64) (by kernel_rfl)).toB _)
    (opensNB_cons (sz:=1) rfl (by kernel_rfl) (by decide) ((opens_int (k:=.i64) (by kernel_rfl)).toB _)
    (opensNB_cons (sz:=1) rfl (by kernel_rfl) (by decide) ((opensB_slice (e:=33) (sz:=5) (by kernel_rfl) (by kernel_rfl) (by decide) (ih.map id rS_PrepressCond_eq (fun _ h=>h))).mono (Nat.le_succ _))
    (opensNB_nil _ _ _))))))).map
    (fun x=>(⟨x.1,x.2.1,x.2.2.1,x.2.2.2.1,x.2.2.2.2.1⟩:S_PrepressCond)) (fun x=>by simp [cS_PrepressCond]) (fun _ h=>.mk h.1 h.2.1 h.2.2.1 h.2.2.2.1 h.2.2.2.2.1.1 h.2.2.2.2.1.2)
def Q35 (x:S_PrepressRule):Prop:=x.f0.length≤maxLen∧Q33 x.f1∧True
theorem opens_35:Opens Tryz.prog 35 cS_PrepressRule Q35 :=
  (opens_struct (t:=35) (N:=6) Tryz.underlying35 (by kernel_rfl) (opensN_cons (sz:=1) rfl (by kernel_rfl) (by decide) (opens_str (by kernel_rfl))
    (opensN_cons (sz:=5) rfl (by kernel_rfl) (by decide) opens_33
    (opensN_nil _ _)))).map
    (fun x=>(⟨x.1,x.2.1⟩:S_PrepressRule)) (fun x=>by simp [cS_PrepressRule,cS_PrepressCond]) (fun _ h=>h)
def Q51 (x:S_PrepressFact):Prop:=x.f0.length≤maxLen∧(Lit.int .i64 x.f1).wf=true∧True
theorem opens_51:Opens Tryz.prog 51 cS_PrepressFact Q51 :=
  (opens_struct (t:=51) (N:=2) Tryz.underlying51 (by kernel_rfl) (opensN_cons (sz:=1) rfl (by kernel_rfl) (by decide) (opens_str (by kernel_rfl))
    (opensN_cons (sz:=1) rfl (by kernel_rfl) (by decide) (opens_int (k:=.i64) (by kernel_rfl))
    (opensN_nil _ _)))).map
    (fun x=>(⟨x.1,x.2.1⟩:S_PrepressFact)) (fun x=>by simp [cS_PrepressFact]) (fun _ h=>h)
theorem smt_of {l:List S_PrepressTerm} (h:l.length≤maxLen∧∀ a∈l,Q86 a):∀ t∈l,t.f1.length≤maxLen:=fun t ht=>(h.2 t ht).2.1
theorem smc_of {x:S_PrepressCond} (h:Q33 x):SmC x:=by
  induction h with
  | mk h0 h1 h2 h3 h4a h4b ih=>exact .mk ⟨h1.1,smt_of h1⟩ ih
theorem smr_of {x:S_PrepressRule} (h:Q35 x):SmR x:=⟨h.1,smc_of h.2.1⟩
theorem opens_args:OpensArgs Tryz.prog [35,36] (fun z:S_PrepressRule×(List S_PrepressFact)×Unit=>[.agg (cS_PrepressRule z.1),.d (.sl 2 (z.2.1.map cS_PrepressFact))]) (fun z=>Q35 z.1∧(z.2.1.length≤maxLen∧∀ a∈z.2.1,Q51 a)∧True) :=
  (opensArgs_agg Tryz.underlying35 opens_35 (opensArgs_flat (x:=fun y:List S_PrepressFact=>.sl 2 (y.map cS_PrepressFact)) (by kernel_rfl) (fun _=>rfl) (opens_slice (e:=51) (sz:=2) (by kernel_rfl) (by kernel_rfl) (by decide) opens_51) (opensArgs_nil _)))
abbrev lay : List (String × DataW Unit) := [("math/bits.deBruijn32tab",Rows.laid_math_bits_deBruijn32tab),("math/bits.deBruijn64tab",Rows.laid_math_bits_deBruijn64tab),("internal/strconv.uint64pow10",Rows.laid_internal_strconv_uint64pow10),("unicode/utf8.acceptRanges",Rows.laid_unicode_utf8_acceptRanges),("unicode/utf8.first",Rows.laid_unicode_utf8_first)]
theorem door_met (os:Os) (args:Array Value):laidMetH Tryz.prog lay ((World.laidAll Tryz.prog os lay).forCall (fun _ _=>0) ⟨#[],args,[]⟩).memory:=by rw [MakeChecks.laidMetH_plain _ _ _ (by kernel_rfl)]; exact laidMet_laidAll _ (by kernel_rfl) (by kernel_rfl)
abbrev gl (gm0:Int):Glos:=[(0,[gm0].flatMap (cI .i64)),(3,glob_internal_strconv_uint64pow10.flatMap (cI .u64))]
theorem of_lay {W:World} (h:laidMetH Tryz.prog lay W) (hs:W.ShapedOpen Tryz.prog):∃ gm0,∀ g∈gl gm0,GloAt (allS W) W g.1 g.2:=by
  rw [MakeChecks.laidMetH_plain _ _ _ (by kernel_rfl)] at h
  obtain ⟨gm0,hgm0⟩:=glo_shaped (g:=0) (t:=3) (zero:=#[.int .i64 0]) (k:=.i64) hs (of_decide_eq_true (by kernel_rfl)) (by kernel_rfl) rfl (by kernel_rfl) (by kernel_rfl) Tryz.underlying3
  exact ⟨gm0,List.forall_mem_cons.2 ⟨hgm0,List.forall_mem_cons.2 ⟨laid_ints (t := 170) (e := 123) (n := 20) (k := .u64) (l := glob_internal_strconv_uint64pow10) (by kernel_rfl) (by kernel_rfl) (by kernel_rfl) (by kernel_rfl) (by kernel_rfl) (by kernel_rfl) rfl (laid_one (lay := lay) (nm := "internal/strconv.uint64pow10") (d := Rows.laid_internal_strconv_uint64pow10) (List.mem_of_getElem? (i := 2) rfl) h),fun _ h => by cases h⟩⟩⟩
set_option maxRecDepth 100000 in
theorem lifted (os:Os) (started:os.Started) (H:Type) (enc:TypeId×Value→H) :
    ReturnsInHanded {} Tryz.checked os 5 .any (fun w args=>(Rows.prepressFindsOpenFactsSpec.pre enc Tryz.prog Tryz.f5 [] false w args∧laidMetH Tryz.prog lay w)∧sizedMet enc Tryz.prog Tryz.f5 (OpenSpec.ofChange Rows.prepressFindsOpenFactsSpec) false w args)
      (Rows.prepressFindsOpenFactsSpec.post enc Tryz.prog Tryz.f5 false true false false):=by
  refine returnsInHanded_of_change_and_shaped (C:=Tryz.checked) (X:=fun w _=>laidMetH Tryz.prog lay w) (fun _ _ _ hh h=>h.of_heap hh) own started (by kernel_rfl) Tryz.func5
    (ChangeSpec.witness_shaped (enc:=enc) (C:=Tryz.checked) (os:=os) (X:=fun w _=>laidMetH Tryz.prog lay w) false (World.laidAll Tryz.prog os lay) #[.agg #[.string ⟨#[]⟩,.int .i64 0,.slice none 0 0,.int .i64 0,.int .i64 0,.slice none 0 0],.slice none 0 0] 8 (World.laidAll_os _ _ _) (World.shaped_of_ZipB (by kernel_rfl) (by kernel_rfl)) (by kernel_rfl) (by kernel_rfl) (by kernel_rfl) (door_met os _)) ?_
  intro W base args ds gs before hval hW hL hS
  obtain ⟨gm0,hG⟩:=of_lay hL hS
  exact law_contractGs (gl gm0) (tb:=4) (ts:=[35,36]) (by kernel_rfl) opens_args (fun _=>by simp [resSlot]) (fun b hb=>let ⟨_,h⟩:=(show ∃ F,law3_PrepressFindsOpenFacts F b.1 b.2.1=some true from ⟨maxLen+1,open_law (Nat.lt_succ_self _) (smr_of hb.1) (fun f hf=>(hb.2.1.2 f hf).1)⟩); law3_PrepressFindsOpenFacts_ok h) (by kernel_rfl) (by kernel_rfl) rfl rfl Tryz.underlying4
      (fun ds hd=>match ds,hd with | [_,_],_=>rfl) W base args ds gs before hG hval hW
theorem prepressFindsOpenFacts_row:Rows.PrepressFindsOpenFactsSaid :=
  OpenClaim.holds_of_wide 5 Tryz.f5 rfl rfl rfl rfl rfl rfl rfl ⟨rfl,rfl,rfl,rfl,rfl⟩ rfl rfl rfl rfl rfl (by kernel_rfl) Tryz.func5 (by kernel_rfl)
    (of_decide_eq_true (by kernel_rfl)) (by unfold Func.isWrapper; first | (rw [if_pos (by decide +kernel)]; kernel_rfl) | (rw [if_neg (by decide +kernel)]; exact ⟨rfl,rfl⟩))
    (fun os started H enc _=>lifted os started H enc)
theorem prepressFindsOpenFacts_holds:Rows.PrepressFindsOpenFactsCardSaid :=
  Claim7.holds_tied_plain_at .later [] [.data,.data,.data,.data,.pinned] true (true,"25ea0823ec39d20d0b2ef3b97b98397727cfcb36cc301eb26e010d170f5cc760") false
    prepressFindsOpenFacts_row (fun _ h=>by cases h) (by kernel_rfl) (fun _ h=>by cases h) prepressFindsOpenFacts_row_tie rfl ⟨rfl,rfl⟩ (by kernel_rfl) rfl
    (fun f fn hf hfn=>by
      obtain rfl : f = 5 := Option.some.inj ((show Tryz.prog.funcNamed "printworks/printworkslaw3.PrepressFindsOpenFacts" = some 5 by kernel_rfl).symm.trans hf) |>.symm
      obtain rfl:fn=Tryz.f5:=(Option.some.inj (Tryz.func5.symm.trans hfn)).symm
      exact ⟨by kernel_rfl,fun j t ht=>by
        rw [Tryz.params5] at ht
        have h3:t=35∨t=36:=by
          match j,ht with
          | 0,ht=>have ht:some 35=some t:=ht; cases ht; simp
          | 1,ht=>have ht:some 36=some t:=ht; cases ht; simp
          | j+2,ht=>simp at ht
        rcases h3 with rfl | rfl
        · exact (show Tryz.prog.wantsStandIn 35=false by kernel_rfl)
        · exact (show Tryz.prog.wantsStandIn 36=false by kernel_rfl)⟩)
    (by kernel_rfl)
#print axioms prepressFindsOpenFacts_holds
end Go.Proofs.YtcjnhgcbefkbcaaGreatDoor
