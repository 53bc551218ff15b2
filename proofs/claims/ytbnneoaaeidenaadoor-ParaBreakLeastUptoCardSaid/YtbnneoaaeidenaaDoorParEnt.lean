/-
  no other lines have fewer demerits,and of several with as few,the first lines are the longest: the law returns true,and its arguments read as before,where what is read is of bulk at most 1048576.
-/
import Derived.Test.YtbnneoaaeidenaaDoorVmD
import Derived.Lay
import Derived.JoinedCond
import Derived.Stop.Joined
import Derived.Test.YtbnneoaaeidenaaDoorParLh
import Derived.Test.YtbnneoaaeidenaaDoorParSm
import Derived.Test.YtbnneoaaeidenaaDoorParMp
import Derived.Test.YtbnneoaaeidenaaDoorParMq
import Derived.Test.YtbnneoaaeidenaaDoorRows
import Derived.Test.YtbnneoaaeidenaaDoorTie
import Derived.Test.YtbnneoaaeidenaaDoorCards
namespace Go.Proofs.YtbnneoaaeidenaaDoor
open Go.ChangeShapes Go.WideShapes Go.ChangeAt Go.WideMaps Go.WideElems Go.RowKit Go.Vm Go.Vm.ParM
theorem own:ownKnob Tryd.prog.godebug=none:=by kernel_rfl
def Q45 (x:S_ParaWord):Prop:=(x.f0.length≤maxLen∧∀ a∈x.f0,(Lit.int .i64 a).wf=true)∧(x.f1.length≤maxLen∧∀ a∈x.f1,(Lit.int .i64 a).wf=true)∧True
theorem opens_45:Opens Tryd.prog 45 cS_ParaWord Q45 :=
  (opens_struct (t:=45) (N:=2) Tryd.underlying45 (by kernel_rfl) (opensN_cons (sz:=1) rfl (by kernel_rfl) (by decide) (opens_slice (e:=3) (sz:=1) (by kernel_rfl) (by kernel_rfl) (by decide) (opens_int (k:=.i64) (by kernel_rfl)))
    (opensN_cons (sz:=1) rfl (by kernel_rfl) (by decide) (opens_slice (e:=3) (sz:=1) (by kernel_rfl) (by kernel_rfl) (by decide) (opens_int (k:=.i64) (by kernel_rfl)))
    (opensN_nil _ _)))).map
    (fun x=>(⟨x.1,x.2.1⟩:S_ParaWord)) (fun x=>by simp [cS_ParaWord]) (fun _ h=>h)
def Q32 (x:S_ParaShape):Prop:=(Lit.int .i64 x.f0).wf=true∧(Lit.int .i64 x.f1).wf=true∧(Lit.int .i64 x.f2).wf=true∧(Lit.int .i64 x.f3).wf=true∧(Lit.int .i64 x.f4).wf=true∧(Lit.int .i64 x.f5).wf=true∧True
theorem opens_32:Opens Tryd.prog 32 cS_ParaShape Q32 :=
  (opens_struct (t:=32) (N:=6) Tryd.underlying32 (by kernel_rfl) (opensN_cons (sz:=1) rfl (by kernel_rfl) (by decide) (opens_int (k:=.i64) (by kernel_rfl))
    (opensN_cons (sz:=1) rfl (by kernel_rfl) (by decide) (opens_int (k:=.i64) (by kernel_rfl))
    (opensN_cons (sz:=1) rfl (by kernel_rfl) (by decide) (opens_int (k:=.i64) (by kernel_rfl))
    (opensN_cons (sz:=1) rfl (by kernel_rfl) (by decide) (opens_int (k:=.i64) (by kernel_rfl))
    (opensN_cons (sz:=1) rfl (by kernel_rfl) (by decide) (opens_int (k:=.i64) (by kernel_rfl))
    (opensN_cons (sz:=1) rfl (by kernel_rfl) (by decide) (opens_int (k:=.i64) (by kernel_rfl))
    (opensN_nil _ _)))))))).map
    (fun x=>(⟨x.1,x.2.1,x.2.2.1,x.2.2.2.1,x.2.2.2.2.1,x.2.2.2.2.2.1⟩:S_ParaShape)) (fun x=>by simp [cS_ParaShape]) (fun _ h=>h)
theorem opens_args:OpensArgs Tryd.prog [30,32] (fun z:(List S_ParaWord)×S_ParaShape×Unit=>[.d (.sl 2 (z.1.map cS_ParaWord)),.agg (cS_ParaShape z.2.1)]) (fun z=>(z.1.length≤maxLen∧∀ a∈z.1,Q45 a)∧Q32 z.2.1∧True) :=
  (opensArgs_flat (x:=fun y:List S_ParaWord=>.sl 2 (y.map cS_ParaWord)) (by kernel_rfl) (fun _=>rfl) (opens_slice (e:=45) (sz:=2) (by kernel_rfl) (by kernel_rfl) (by decide) opens_45) (opensArgs_agg Tryd.underlying32 opens_32 (opensArgs_nil _)))
abbrev lay : List (String × DataW Unit) := [("unicode/utf8.acceptRanges",Rows.laid_unicode_utf8_acceptRanges),("unicode/utf8.first",Rows.laid_unicode_utf8_first)]
theorem door_met (os:Os) (args:Array Value):laidMetH Tryd.prog lay ((World.laidAll Tryd.prog os lay).forCall (fun _ _=>0) ⟨#[],args,[]⟩).memory:=by rw [MakeChecks.laidMetH_plain _ _ _ (by kernel_rfl)]; exact laidMet_laidAll _ (by kernel_rfl) (by kernel_rfl)
abbrev gl:Glos:=[]
theorem of_lay {W:World}:∀ g∈gl,GloAt (allS W) W g.1 g.2:=fun _ h=>by cases h
theorem returnsInHanded_of_cond_and_shaped {H:Type} {enc:TypeId×Value→H} {a:Assume} {C:Checked} {os:Os} {f:FuncId} {fn:Func} {s:OpenSpec} {k:(H:Type)→List (DataW H)→Bool} (hk:s.cond=some k) {F:Stop.Interp} {conds:List PathCond} {apart fresh handsOn again:Bool} {X:World→Array Value→Prop}
    (hX:∀ (w w':World) (args:Array Value),w.heap=w'.heap→X w args→X w' args)
    (own:ownKnob C.prog.godebug=none) (started:os.Started) (noInit:C.prog.inits.idxOf? f=none) (hfn:C.prog.funcs[f]? = some fn)
    (witness:∃ (w:World) (tape:Tape) (i:Input),w.os=os∧(w.forCall tape i).Shaped C.prog∧i.vars=[]∧Input.okWide C.prog (w.forCall tape i) .any w.heap.size f i ∧
      ((s.pre enc C.prog fn conds apart (w.forCall tape i).memory i.args∧X (w.forCall tape i).memory i.args)∧sizedMet enc C.prog fn s apart (w.forCall tape i).memory i.args)∧a.holds C.prog (lone (Frame.enter C.prog f i.args .normal) [] (w.forCall tape i)))
    (contract:∀ (W:World) (base:Nat) (args:Array Value) (ds gs:List (DataW H)) (before:List MemPlace),
      (∀ (j:Nat) t v,fn.params[j]? = some t→args[j]? = some v→Value.okWide C.prog W .any base t v) →
      DataW.Whole enc C.prog fn.params.toList s.vars apart W args.toList ds gs before→k H (ds++gs)=true→X W args→W.ShapedOpen C.prog →
      Calls C.prog f args W fun e W'=>∃ v,e=.returned v∧(s.at F).post enc C.prog fn apart fresh handsOn again W args v W') :
    ReturnsInHanded a C os f .any (fun w args=>(s.pre enc C.prog fn conds apart w args∧X w args)∧sizedMet enc C.prog fn s apart w args) ((s.at F).post enc C.prog fn apart fresh handsOn again):=by
  refine returnsInHanded_of_calls own started noInit witness ?_
  intro w tape i _ hsh _ hok hpre _
  obtain ⟨_,_,_,fn',hfn',_,_,_,_,hval⟩:=hok
  have e:fn'=fn:=Option.some.inj (hfn'.symm.trans hfn)
  subst e
  obtain ⟨⟨hp,hx⟩,_⟩:=hpre
  obtain ⟨ds,gs,before,hw,_,hkk⟩:=(OpenSpec.pre_some hk conds apart _ _).1 hp
  refine (contract (w.forCall tape i) w.heap.size i.args ds gs before hval (DataW.Whole.of_heap (w':=w.forCall tape i) (by rfl) hw) hkk (hX _ _ _ (by rfl) hx) hsh).mono fun e W' ⟨v,he,hp⟩=>?_
  subst he
  exact ChangeSpec.post_blind hp
set_option maxRecDepth 100000 in
theorem witness (os:Os) (H:Type) (enc:TypeId×Value→H):∃ (w:World) (tape:Tape) (i:Input),w.os=os∧(w.forCall tape i).Shaped Tryd.checked.prog∧i.vars=[]∧Input.okWide Tryd.checked.prog (w.forCall tape i) .any w.heap.size 5 i ∧
      (((Rows.OpenSpec.upto Rows.paraBreakLeastSpec).pre enc Tryd.checked.prog Tryd.f5 [] false (w.forCall tape i).memory i.args∧laidMetH Tryd.prog lay (w.forCall tape i).memory)∧sizedMet enc Tryd.checked.prog Tryd.f5 (Rows.OpenSpec.upto Rows.paraBreakLeastSpec) false (w.forCall tape i).memory i.args)∧({}:Assume).holds Tryd.checked.prog (lone (Frame.enter Tryd.checked.prog 5 i.args .normal) [] (w.forCall tape i)):=by
  have hok:Input.okWideB Tryd.checked.prog ((World.laidAll Tryd.prog os lay).forCall (fun _ _=>0) ⟨#[],#[.slice none 0 0,.agg #[.int .i64 0,.int .i64 0,.int .i64 0,.int .i64 0,.int .i64 0,.int .i64 0]],[]⟩) 5 ⟨#[],#[.slice none 0 0,.agg #[.int .i64 0,.int .i64 0,.int .i64 0,.int .i64 0,.int .i64 0,.int .i64 0]],[]⟩=true:=by kernel_rfl
  have hx:DataW.whole enc Tryd.checked.prog ((World.laidAll Tryd.prog os lay).forCall (fun _ _=>0) ⟨#[],#[.slice none 0 0,.agg #[.int .i64 0,.int .i64 0,.int .i64 0,.int .i64 0,.int .i64 0,.int .i64 0]],[]⟩).memory Tryd.f5.params.toList [] false (#[.slice none 0 0,.agg #[.int .i64 0,.int .i64 0,.int .i64 0,.int .i64 0,.int .i64 0,.int .i64 0]]:Array Value).toList 8=some ([.nil,.agg [.lit (.int .i64 0),.lit (.int .i64 0),.lit (.int .i64 0),.lit (.int .i64 0),.lit (.int .i64 0),.lit (.int .i64 0)]],[],[]):=by kernel_rfl
  exact ⟨World.laidAll Tryd.prog os lay,fun _ _=>0,⟨#[],#[.slice none 0 0,.agg #[.int .i64 0,.int .i64 0,.int .i64 0,.int .i64 0,.int .i64 0,.int .i64 0]],[]⟩,World.laidAll_os _ _ _,World.shaped_of_ZipB (by kernel_rfl) (by kernel_rfl),(Input.okWide_of_okWideB (base:=0) hok).1,(Input.okWide_of_okWideB hok).2,
    ⟨⟨(OpenSpec.pre_some (k:=Rows.uptoSmall) rfl [] false _ _).2 ⟨_,_,_,DataW.Whole_of_whole hx,by kernel_rfl,by kernel_rfl⟩,door_met os _⟩,sizedMet_of_sizedB (s:=Rows.paraBreakLeastSpec) (fuel:=8) (by kernel_rfl)⟩,by
    simp only [Assume.holds]
    exact ⟨by simp,by simp,fun _=>Modest.zero,by simp,by simp⟩⟩
set_option maxRecDepth 100000 in
theorem lifted (os:Os) (started:os.Started) (H:Type) (enc:TypeId×Value→H) (F:Stop.Interp) :
    ReturnsInHanded {} Tryd.checked os 5 .any (fun w args=>((Rows.OpenSpec.upto Rows.paraBreakLeastSpec).pre enc Tryd.prog Tryd.f5 [] false w args∧laidMetH Tryd.prog lay w)∧sizedMet enc Tryd.prog Tryd.f5 (Rows.OpenSpec.upto Rows.paraBreakLeastSpec) false w args)
      (((Rows.OpenSpec.upto Rows.paraBreakLeastSpec).at F).post enc Tryd.prog Tryd.f5 false true false false):=by
  refine returnsInHanded_of_cond_and_shaped (C:=Tryd.checked) (s:=Rows.OpenSpec.upto Rows.paraBreakLeastSpec) (k:=Rows.uptoSmall) rfl (X:=fun w _=>laidMetH Tryd.prog lay w) (fun _ _ _ hh h=>h.of_heap hh) own started (by kernel_rfl) Tryd.func5
    (witness os H enc) ?_
  intro W base args ds gs before hval hW hK _ _
  exact law_contractU gl (K:=Rows.uptoSmall H) (Q':=fun b=>∀ w∈b.1,w.f0.length≤1048576∧w.f1.length≤1048576) (tb:=4) (ts:=[30,32]) (by kernel_rfl) opens_args (fun _=>by simp [resSlot]) (fun b _ hs=>let ⟨_,h⟩:=(show ∃ F,law3_ParaBreakLeast F b.1 b.2.1=some true from break_law b.1 b.2.1 (fun w hw=>⟨Nat.le_trans (hs w hw).1 (by decide),Nat.le_trans (hs w hw).2 (by decide)⟩)); law3_ParaBreakLeast_ok h) (by kernel_rfl) (by kernel_rfl) rfl rfl Tryd.underlying4
      (fun ds hd=>match ds,hd with | [_,_],_=>rfl) W base args ds gs before of_lay (fun b ps h1 h2 h3=>small_args b h1 (h2 0) h3) hval hW hK
theorem paraBreakLeast_row:Rows.ParaBreakLeastUptoSaid :=
  OpenClaim.holds_of_cond 5 Tryd.f5 rfl rfl rfl rfl rfl rfl rfl ⟨rfl,rfl,rfl,rfl,rfl⟩ rfl rfl rfl rfl rfl (by kernel_rfl) Tryd.func5 (by kernel_rfl)
    (of_decide_eq_true (by kernel_rfl)) (by unfold Func.isWrapper; first | (rw [if_pos (by decide +kernel)]; kernel_rfl) | (rw [if_neg (by decide +kernel)]; exact ⟨rfl,rfl⟩))
    (fun os started H enc _ F=>lifted os started H enc F)
theorem paraBreakLeast_holds:Rows.ParaBreakLeastUptoCardSaid :=
  Claim7.holds_tied_plain_at .later [] [.data,.pinned] true (true,"d9843b848cd27dec859f91b6f426f2b5b483cd654d63baaee48fc6f31a6a25b3") false
    paraBreakLeast_row (fun _ h=>by cases h) (by kernel_rfl) (fun _ h=>by cases h) paraBreakLeastUpto_row_tie rfl ⟨rfl,rfl⟩ (by kernel_rfl) rfl
    (fun f fn hf hfn=>by
      obtain rfl : f = 5 := Option.some.inj ((show Tryd.prog.funcNamed "printworks/printworkslaw3.ParaBreakLeast" = some 5 by kernel_rfl).symm.trans hf) |>.symm
      obtain rfl:fn=Tryd.f5:=(Option.some.inj (Tryd.func5.symm.trans hfn)).symm
      exact ⟨by kernel_rfl,fun j t ht=>by
        rw [Tryd.params5] at ht
        have h3:t=30∨t=32:=by
          match j,ht with
          | 0,ht=>have ht:some 30=some t:=ht; cases ht; simp
          | 1,ht=>have ht:some 32=some t:=ht; cases ht; simp
          | j+2,ht=>simp at ht
        rcases h3 with rfl | rfl
        · exact (show Tryd.prog.wantsStandIn 30=false by kernel_rfl)
        · exact (show Tryd.prog.wantsStandIn 32=false by kernel_rfl)⟩)
    (by kernel_rfl)
#print axioms paraBreakLeast_holds
end Go.Proofs.YtbnneoaaeidenaaDoor
