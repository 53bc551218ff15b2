/-
  the gaps and the error of para.Hyphens are the ones of the reference: the law returns true,and its arguments read as before,where what is read is of bulk at most 1048576.
-/
import Derived.Test.YtbnneoaaeidenaaDoorVmD
import Derived.Lay
import Derived.JoinedCond
import Derived.Stop.Joined
import Derived.Test.YtbnneoaaeidenaaDoorParKe
import Derived.Test.YtbnneoaaeidenaaDoorParSn
import Derived.Test.YtbnneoaaeidenaaDoorParMp
import Derived.Test.YtbnneoaaeidenaaDoorParMq
import Derived.Test.YtbnneoaaeidenaaDoorRows
import Derived.Test.YtbnneoaaeidenaaDoorTie
import Derived.Test.YtbnneoaaeidenaaDoorCards
namespace Go.Proofs.YtbnneoaaeidenaaDoor
open Go.ChangeShapes Go.WideShapes Go.ChangeAt Go.WideMaps Go.WideElems Go.RowKit Go.Vm Go.Vm.ParM
theorem own:ownKnob Tryd.prog.godebug=none:=by kernel_rfl
theorem opens_args:OpensArgs Tryd.prog [9,22] (fun z:(List UInt8)×(List (List UInt8))×Unit=>[.d (.str z.1),.d (.sl 1 (z.2.1.map cS))]) (fun z=>z.1.length≤maxLen∧(z.2.1.length≤maxLen∧∀ a∈z.2.1,a.length≤maxLen)∧True) :=
  (opensArgs_flat (x:=fun y:List UInt8=>.str y) (by kernel_rfl) (fun _=>rfl) (opens_str (by kernel_rfl)) (opensArgs_flat (x:=fun y:List (List UInt8)=>.sl 1 (y.map cS)) (by kernel_rfl) (fun _=>rfl) (opens_slice (e:=9) (sz:=1) (by kernel_rfl) (by kernel_rfl) (by decide) (opens_str (by kernel_rfl))) (opensArgs_nil _)))
abbrev lay : List (String × DataW Unit) := [("unicode/utf8.acceptRanges",Rows.laid_unicode_utf8_acceptRanges),("unicode/utf8.first",Rows.laid_unicode_utf8_first)]
theorem door_met (os:Os) (args:Array Value):laidMetH Tryd.prog lay ((World.laidAll Tryd.prog os lay).forCall (fun _ _=>0) ⟨#[],args,[]⟩).memory:=by rw [MakeChecks.laidMetH_plain _ _ _ (by kernel_rfl)]; exact laidMet_laidAll _ (by kernel_rfl) (by kernel_rfl)
abbrev gl:Glos:=[]
theorem of_lay {W:World}:∀ g∈gl,GloAt (allS W) W g.1 g.2:=fun _ h=>by cases h
theorem returnsInHanded_of_cond_and_shaped {H:Type} {enc:TypeId×Value→H} {a:Assume} {C:Checked} {os:Os} {f:FuncId} {fn:Func} {s:OpenSpec} {k:(H:Type)→List (DataW H)→Bool} (hk:s.cond=some k) {F:Stop.Interp} {conds:List PathCond} {apart fresh handsOn again:Bool} {X:World→Array Value→Prop}
    (hX:∀ (w w':World) (args:Array Value),w.heap=w'.heap→X w args→X w' args)
    (own:ownKnob C.prog.godebug=none) (started:os.Started) (noInit:C.prog.inits.idxOf? f=none) (hfn:C.prog.funcs[f]? = some fn)
    (witness:∃ (w:World) (tape:Tape) (i:Input),w.os=os∧(w.forCall tape i).Shaped C.prog∧i.vars=[]∧Input.okWide C.prog (w.forCall tape i) .any w.heap.size f i ∧
      ((s.pre enc C.prog fn conds apart (w.forCall tape i).memory i.args∧X (w.forCall tape i).memory i.args)∧sizedMet enc C.prog fn s apart (w.forCall tape i).memory i.args)∧a.holds C.prog (lone (Frame.enter C.prog f i.args .normal) [] (w.forCall tape i)))
    (contract:∀ (W:World) (base:Nat) (args:Array Value) (ds gs:List (DataW H)) (before:List MemPlace),
      (∀ (j:Nat) t v,fn.params[j]? = some t→args[j]? = some v→Value.okWide C.prog W .any base t v) →
      DataW.Whole enc C.prog fn.params.toList s.vars apart W args.toList ds gs before→k H (ds++gs)=true→X W args→W.ShapedOpen C.prog →
      Calls C.prog f args W fun e W'=>∃ v,e=.returned v∧(s.at F).post enc C.prog fn apart fresh handsOn again W args v W') :
    ReturnsInHanded a C os f .any (fun w args=>(s.pre enc C.prog fn conds apart w args∧X w args)∧sizedMet enc C.prog fn s apart w args) ((s.at F).post enc C.prog fn apart fresh handsOn again):=by
  refine returnsInHanded_of_calls own started noInit witness ?_
  intro w tape i _ hsh _ hok hpre _
  obtain ⟨_,_,_,fn',hfn',_,_,_,_,hval⟩:=hok
  have e:fn'=fn:=Option.some.inj (hfn'.symm.trans hfn)
  subst e
  obtain ⟨⟨hp,hx⟩,_⟩:=hpre
  obtain ⟨ds,gs,before,hw,_,hkk⟩:=(OpenSpec.pre_some hk conds apart _ _).1 hp
  refine (contract (w.forCall tape i) w.heap.size i.args ds gs before hval (DataW.Whole.of_heap (w':=w.forCall tape i) (by rfl) hw) hkk (hX _ _ _ (by rfl) hx) hsh).mono fun e W' ⟨v,he,hp⟩=>?_
  subst he
  exact ChangeSpec.post_blind hp
set_option maxRecDepth 100000 in
theorem witness (os:Os) (H:Type) (enc:TypeId×Value→H):∃ (w:World) (tape:Tape) (i:Input),w.os=os∧(w.forCall tape i).Shaped Tryd.checked.prog∧i.vars=[]∧Input.okWide Tryd.checked.prog (w.forCall tape i) .any w.heap.size 3 i ∧
      (((Rows.OpenSpec.upto Rows.paraHyphensMatchReferenceSpec).pre enc Tryd.checked.prog Tryd.f3 [] false (w.forCall tape i).memory i.args∧laidMetH Tryd.prog lay (w.forCall tape i).memory)∧sizedMet enc Tryd.checked.prog Tryd.f3 (Rows.OpenSpec.upto Rows.paraHyphensMatchReferenceSpec) false (w.forCall tape i).memory i.args)∧({}:Assume).holds Tryd.checked.prog (lone (Frame.enter Tryd.checked.prog 3 i.args .normal) [] (w.forCall tape i)):=by
  have hok:Input.okWideB Tryd.checked.prog ((World.laidAll Tryd.prog os lay).forCall (fun _ _=>0) ⟨#[],#[.string ⟨#[]⟩,.slice none 0 0],[]⟩) 3 ⟨#[],#[.string ⟨#[]⟩,.slice none 0 0],[]⟩=true:=by kernel_rfl
  have hx:DataW.whole enc Tryd.checked.prog ((World.laidAll Tryd.prog os lay).forCall (fun _ _=>0) ⟨#[],#[.string ⟨#[]⟩,.slice none 0 0],[]⟩).memory Tryd.f3.params.toList [] false (#[.string ⟨#[]⟩,.slice none 0 0]:Array Value).toList 8=some ([.lit (.string []),.nil],[],[]):=by kernel_rfl
  exact ⟨World.laidAll Tryd.prog os lay,fun _ _=>0,⟨#[],#[.string ⟨#[]⟩,.slice none 0 0],[]⟩,World.laidAll_os _ _ _,World.shaped_of_ZipB (by kernel_rfl) (by kernel_rfl),(Input.okWide_of_okWideB (base:=0) hok).1,(Input.okWide_of_okWideB hok).2,
    ⟨⟨(OpenSpec.pre_some (k:=Rows.uptoSmall) rfl [] false _ _).2 ⟨_,_,_,DataW.Whole_of_whole hx,by kernel_rfl,by kernel_rfl⟩,door_met os _⟩,sizedMet_of_sizedB (s:=Rows.paraHyphensMatchReferenceSpec) (fuel:=8) (by kernel_rfl)⟩,by
    simp only [Assume.holds]
    exact ⟨by simp,by simp,fun _=>Modest.zero,by simp,by simp⟩⟩
set_option maxRecDepth 100000 in
theorem lifted (os:Os) (started:os.Started) (H:Type) (enc:TypeId×Value→H) (F:Stop.Interp) :
    ReturnsInHanded {} Tryd.checked os 3 .any (fun w args=>((Rows.OpenSpec.upto Rows.paraHyphensMatchReferenceSpec).pre enc Tryd.prog Tryd.f3 [] false w args∧laidMetH Tryd.prog lay w)∧sizedMet enc Tryd.prog Tryd.f3 (Rows.OpenSpec.upto Rows.paraHyphensMatchReferenceSpec) false w args)
      (((Rows.OpenSpec.upto Rows.paraHyphensMatchReferenceSpec).at F).post enc Tryd.prog Tryd.f3 false true false false):=by
  refine returnsInHanded_of_cond_and_shaped (C:=Tryd.checked) (s:=Rows.OpenSpec.upto Rows.paraHyphensMatchReferenceSpec) (k:=Rows.uptoSmall) rfl (X:=fun w _=>laidMetH Tryd.prog lay w) (fun _ _ _ hh h=>h.of_heap hh) own started (by kernel_rfl) Tryd.func3
    (witness os H enc) ?_
  intro W base args ds gs before hval hW hK _ _
  exact law_contractU gl (K:=Rows.uptoSmall H) (Q':=fun b=>b.1.length≤1048576∧∀ w∈b.2.1,w.length≤1048576) (tb:=4) (ts:=[9,22]) (by kernel_rfl) opens_args (fun _=>by simp [resSlot]) (fun b _ hs=>let ⟨_,h⟩:=(show ∃ F,law3_ParaHyphensMatchReference F b.1 b.2.1=some true from hyph_law b.1 b.2.1 (Nat.le_trans hs.1 (by decide)) (fun w hw=>Nat.le_trans (hs.2 w hw) (by decide))); law3_ParaHyphensMatchReference_ok h) (by kernel_rfl) (by kernel_rfl) rfl rfl Tryd.underlying4
      (fun ds hd=>match ds,hd with | [_,_],_=>rfl) W base args ds gs before of_lay (fun b ps h1 h2 h3=>small_args2 b h1 (h2 0) h3) hval hW hK
theorem paraHyphensMatchReference_row:Rows.ParaHyphensMatchReferenceUptoSaid :=
  OpenClaim.holds_of_cond 3 Tryd.f3 rfl rfl rfl rfl rfl rfl rfl ⟨rfl,rfl,rfl,rfl,rfl⟩ rfl rfl rfl rfl rfl (by kernel_rfl) Tryd.func3 (by kernel_rfl)
    (of_decide_eq_true (by kernel_rfl)) (by unfold Func.isWrapper; first | (rw [if_pos (by decide +kernel)]; kernel_rfl) | (rw [if_neg (by decide +kernel)]; exact ⟨rfl,rfl⟩))
    (fun os started H enc _ F=>lifted os started H enc F)
theorem paraHyphensMatchReference_holds:Rows.ParaHyphensMatchReferenceUptoCardSaid :=
  Claim7.holds_tied_plain_at .later [] [.data,.pinned] true (true,"d9843b848cd27dec859f91b6f426f2b5b483cd654d63baaee48fc6f31a6a25b3") false
    paraHyphensMatchReference_row (fun _ h=>by cases h) (by kernel_rfl) (fun _ h=>by cases h) paraHyphensMatchReferenceUpto_row_tie rfl ⟨rfl,rfl⟩ (by kernel_rfl) rfl
    (fun f fn hf hfn=>by
      obtain rfl : f = 3 := Option.some.inj ((show Tryd.prog.funcNamed "printworks/printworkslaw3.ParaHyphensMatchReference" = some 3 by kernel_rfl).symm.trans hf) |>.symm
      obtain rfl:fn=Tryd.f3:=(Option.some.inj (Tryd.func3.symm.trans hfn)).symm
      exact ⟨by kernel_rfl,fun j t ht=>by
        rw [Tryd.params3] at ht
        have h3:t=9∨t=22:=by
          match j,ht with
          | 0,ht=>have ht:some 9=some t:=ht; cases ht; simp
          | 1,ht=>have ht:some 22=some t:=ht; cases ht; simp
          | j+2,ht=>simp at ht
        rcases h3 with rfl | rfl
        · exact (show Tryd.prog.wantsStandIn 9=false by kernel_rfl)
        · exact (show Tryd.prog.wantsStandIn 22=false by kernel_rfl)⟩)
    (by kernel_rfl)
#print axioms paraHyphensMatchReference_holds
end Go.Proofs.YtbnneoaaeidenaaDoor
