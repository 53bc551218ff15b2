/-
  Check returns the first error of words and a shape: the law returns true,and its arguments read as before.
-/
import Derived.Lay
import Derived.Test.YtbnneoaaeidenaaDoorVmD
import Derived.Stop.Joined
import Derived.Test.YtbnneoaaeidenaaDoorParLa
import Derived.Test.YtbnneoaaeidenaaDoorParMp
import Derived.Test.YtbnneoaaeidenaaDoorParMq
import Derived.Test.YtbnneoaaeidenaaDoorRows
import Derived.Test.YtbnneoaaeidenaaDoorTie
import Derived.Test.YtbnneoaaeidenaaDoorCards
namespace Go.Proofs.YtbnneoaaeidenaaDoor
open Go.ChangeShapes Go.WideShapes Go.ChangeAt Go.WideMaps Go.WideElems Go.RowKit Go.Vm Go.Vm.ParM
theorem own:ownKnob Tryd.prog.godebug=none:=by kernel_rfl
def Q45 (x:S_ParaWord):Prop:=(x.f0.length≤maxLen∧∀ a∈x.f0,(Lit.int .i64 a).wf=true)∧(x.f1.length≤maxLen∧∀ a∈x.f1,(Lit.int .i64 a).wf=true)∧True
theorem opens_45:Opens Tryd.prog 45 cS_ParaWord Q45 :=
  (opens_struct (t:=45) (N:=2) Tryd.underlying45 (by kernel_rfl) (opensN_cons (sz:=1) rfl (by kernel_rfl) (by decide) (opens_slice (e:=3) (sz:=1) (by kernel_rfl) (by kernel_rfl) (by decide) (opens_int (k:=.i64) (by kernel_rfl)))
    (opensN_cons (sz:=1) rfl (by kernel_rfl) (by decide) (opens_slice (e:=3) (sz:=1) (by kernel_rfl) (by kernel_rfl) (by decide) (opens_int (k:=.i64) (by kernel_rfl)))
    (opensN_nil _ _)))).map
    (fun x=>(⟨x.1,x.2.1⟩:S_ParaWord)) (fun x=>by simp [cS_ParaWord]) (fun _ h=>h)
def Q32 (x:S_ParaShape):Prop:=(Lit.int .i64 x.f0).wf=true∧(Lit.int .i64 x.f1).wf=true∧(Lit.int .i64 x.f2).wf=true∧(Lit.int .i64 x.f3).wf=true∧(Lit.int .i64 x.f4).wf=true∧(Lit.int .i64 x.f5).wf=true∧True
theorem opens_32:Opens Tryd.prog 32 cS_ParaShape Q32 :=
  (opens_struct (t:=32) (N:=6) Tryd.underlying32 (by kernel_rfl) (opensN_cons (sz:=1) rfl (by kernel_rfl) (by decide) (opens_int (k:=.i64) (by kernel_rfl))
    (opensN_cons (sz:=1) rfl (by kernel_rfl) (by decide) (opens_int (k:=.i64) (by kernel_rfl))
    (opensN_cons (sz:=1) rfl (by kernel_rfl) (by decide) (opens_int (k:=.i64) (by kernel_rfl))
    (opensN_cons (sz:=1) rfl (by kernel_rfl) (by decide) (opens_int (k:=.i64) (by kernel_rfl))
    (opensN_cons (sz:=1) rfl (by kernel_rfl) (by decide) (opens_int (k:=.i64) (by kernel_rfl))
    (opensN_cons (sz:=1) rfl (by kernel_rfl) (by decide) (opens_int (k:=.i64) (by kernel_rfl))
    (opensN_nil _ _)))))))).map
    (fun x=>(⟨x.1,x.2.1,x.2.2.1,x.2.2.2.1,x.2.2.2.2.1,x.2.2.2.2.2.1⟩:S_ParaShape)) (fun x=>by simp [cS_ParaShape]) (fun _ h=>h)
theorem opens_args:OpensArgs Tryd.prog [30,32] (fun z:(List S_ParaWord)×S_ParaShape×Unit=>[.d (.sl 2 (z.1.map cS_ParaWord)),.agg (cS_ParaShape z.2.1)]) (fun z=>(z.1.length≤maxLen∧∀ a∈z.1,Q45 a)∧Q32 z.2.1∧True) :=
  (opensArgs_flat (x:=fun y:List S_ParaWord=>.sl 2 (y.map cS_ParaWord)) (by kernel_rfl) (fun _=>rfl) (opens_slice (e:=45) (sz:=2) (by kernel_rfl) (by kernel_rfl) (by decide) opens_45) (opensArgs_agg Tryd.underlying32 opens_32 (opensArgs_nil _)))
abbrev lay : List (String × DataW Unit) := [("unicode/utf8.acceptRanges",Rows.laid_unicode_utf8_acceptRanges),("unicode/utf8.first",Rows.laid_unicode_utf8_first)]
theorem door_met (os:Os) (args:Array Value):laidMetH Tryd.prog lay ((World.laidAll Tryd.prog os lay).forCall (fun _ _=>0) ⟨#[],args,[]⟩).memory:=by rw [MakeChecks.laidMetH_plain _ _ _ (by kernel_rfl)]; exact laidMet_laidAll _ (by kernel_rfl) (by kernel_rfl)
abbrev gl:Glos:=[]
theorem of_lay {W:World}:∀ g∈gl,GloAt (allS W) W g.1 g.2:=fun _ h=>by cases h
set_option maxRecDepth 100000 in
theorem lifted (os:Os) (started:os.Started) (H:Type) (enc:TypeId×Value→H) :
    ReturnsInHanded {} Tryd.checked os 4 .any (fun w args=>(Rows.paraCheckMatchesReferenceSpec.pre enc Tryd.prog Tryd.f4 [] false w args∧laidMetH Tryd.prog lay w)∧sizedMet enc Tryd.prog Tryd.f4 (OpenSpec.ofChange Rows.paraCheckMatchesReferenceSpec) false w args)
      (Rows.paraCheckMatchesReferenceSpec.post enc Tryd.prog Tryd.f4 false true false false):=by
  refine returnsInHanded_of_change_and (C:=Tryd.checked) (X:=fun w _=>laidMetH Tryd.prog lay w) (fun _ _ _ hh h=>h.of_heap hh) own started (by kernel_rfl) Tryd.func4
    (ChangeSpec.witness_shaped (enc:=enc) (C:=Tryd.checked) (os:=os) (X:=fun w _=>laidMetH Tryd.prog lay w) false (World.laidAll Tryd.prog os lay) #[.slice none 0 0,.agg #[.int .i64 0,.int .i64 0,.int .i64 0,.int .i64 0,.int .i64 0,.int .i64 0]] 8 (World.laidAll_os _ _ _) (World.shaped_of_ZipB (by kernel_rfl) (by kernel_rfl)) (by kernel_rfl) (by kernel_rfl) (by kernel_rfl) (door_met os _)) ?_
  intro W base args ds gs before hval hW _ _ hL _
  exact law_contractGs gl (tb:=4) (ts:=[30,32]) (by kernel_rfl) opens_args (fun _=>by simp [resSlot]) (fun b hb=>let ⟨_,h⟩:=(show ∃ F,law3_ParaCheckMatchesReference F b.1 b.2.1=some true from check_law b.1 b.2.1 (fun w hw=>⟨(hb.1.2 w hw).1.1,(hb.1.2 w hw).2.1.1⟩)); law3_ParaCheckMatchesReference_ok h) (by kernel_rfl) (by kernel_rfl) rfl rfl Tryd.underlying4
      (fun ds hd=>match ds,hd with | [_,_],_=>rfl) W base args ds gs before of_lay hval hW
theorem paraCheckMatchesReference_row:Rows.ParaCheckMatchesReferenceSaid :=
  OpenClaim.holds_of_wide 4 Tryd.f4 rfl rfl rfl rfl rfl rfl rfl ⟨rfl,rfl,rfl,rfl,rfl⟩ rfl rfl rfl rfl rfl (by kernel_rfl) Tryd.func4 (by kernel_rfl)
    (of_decide_eq_true (by kernel_rfl)) (by unfold Func.isWrapper; first | (rw [if_pos (by decide +kernel)]; kernel_rfl) | (rw [if_neg (by decide +kernel)]; exact ⟨rfl,rfl⟩))
    (fun os started H enc _=>lifted os started H enc)
theorem paraCheckMatchesReference_holds:Rows.ParaCheckMatchesReferenceCardSaid :=
  Claim7.holds_tied_plain_at .later [] [.data,.pinned] true (true,"d9843b848cd27dec859f91b6f426f2b5b483cd654d63baaee48fc6f31a6a25b3") false
    paraCheckMatchesReference_row (fun _ h=>by cases h) (by kernel_rfl) (fun _ h=>by cases h) paraCheckMatchesReference_row_tie rfl ⟨rfl,rfl⟩ (by kernel_rfl) rfl
    (fun f fn hf hfn=>by
      obtain rfl : f = 4 := Option.some.inj ((show Tryd.prog.funcNamed "printworks/printworkslaw3.ParaCheckMatchesReference" = some 4 by kernel_rfl).symm.trans hf) |>.symm
      obtain rfl:fn=Tryd.f4:=(Option.some.inj (Tryd.func4.symm.trans hfn)).symm
      exact ⟨by kernel_rfl,fun j t ht=>by
        rw [Tryd.params4] at ht
        have h3:t=30∨t=32:=by
          match j,ht with
          | 0,ht=>have ht:some 30=some t:=ht; cases ht; simp
          | 1,ht=>have ht:some 32=some t:=ht; cases ht; simp
          | j+2,ht=>simp at ht
        rcases h3 with rfl | rfl
        · exact (show Tryd.prog.wantsStandIn 30=false by kernel_rfl)
        · exact (show Tryd.prog.wantsStandIn 32=false by kernel_rfl)⟩)
    (by kernel_rfl)
#print axioms paraCheckMatchesReference_holds
end Go.Proofs.YtbnneoaaeidenaaDoor
