/-
  Parse reads every text of the form,and refuses all others: the law returns true,and its argument reads as before,where what is read is of bulk at most 1048576.
-/
import Derived.Test.YtfiggijjdmbafaaDoorVmD
import Derived.Lay
import Derived.JoinedCond
import Derived.Test.YtfiggijjdmbafaaDoorVmC
import Derived.Stop.Joined
import Derived.Test.YtfiggijjdmbafaaDoorMrgLg
import Derived.Test.YtfiggijjdmbafaaDoorMrgP2
import Derived.Test.YtfiggijjdmbafaaDoorRows
import Derived.Test.YtfiggijjdmbafaaDoorTie
import Derived.Test.YtfiggijjdmbafaaDoorCards
namespace Go.Proofs.YtfiggijjdmbafaaDoor
open Go.ChangeShapes Go.WideShapes Go.ChangeAt Go.WideMaps Go.WideElems Go.RowKit Go.Vm Go.Vm.MrgG
theorem own:ownKnob Tryd.prog.godebug=none:=by kernel_rfl
theorem opens_args:OpensArgs Tryd.prog [9] (fun z:(List UInt8)×Unit=>[.d (.str z.1)]) (fun z=>z.1.length≤maxLen∧True) :=
  (opensArgs_flat (x:=fun y:List UInt8=>.str y) (by kernel_rfl) (fun _=>rfl) (opens_str (by kernel_rfl)) (opensArgs_nil _))
abbrev lay : List (String × DataW Unit) := [("unicode/utf8.acceptRanges",Rows.laid_unicode_utf8_acceptRanges),("unicode/utf8.first",Rows.laid_unicode_utf8_first)]
theorem door_met (os:Os) (args:Array Value):laidMetH Tryd.prog lay ((World.laidAll Tryd.prog os lay).forCall (fun _ _=>0) ⟨#[],args,[]⟩).memory:=by rw [MakeChecks.laidMetH_plain _ _ _ (by kernel_rfl)]; exact laidMet_laidAll _ (by kernel_rfl) (by kernel_rfl)
abbrev gl (gm0:Int):Glos:=[(0,[gm0].flatMap (cI .i64))]
theorem of_lay {W:World} (h:laidMetH Tryd.prog lay W) (hs:W.ShapedOpen Tryd.prog):∃ gm0,∀ g∈gl gm0,GloAt (allS W) W g.1 g.2:=by
  rw [MakeChecks.laidMetH_plain _ _ _ (by kernel_rfl)] at h
  obtain ⟨gm0,hgm0⟩:=glo_shaped (g:=0) (t:=3) (zero:=#[.int .i64 0]) (k:=.i64) hs (of_decide_eq_true (by kernel_rfl)) (by kernel_rfl) rfl (by kernel_rfl) (by kernel_rfl) Tryd.underlying3
  exact ⟨gm0,List.forall_mem_cons.2 ⟨hgm0,fun _ h=>by cases h⟩⟩
theorem small_arg {H:Type} {en:TypeId×Value→H} {W:World} {args:List Value} {ds:List (DataW H)} {ps:List MemPlace} (b:List UInt8) (h:DataW.TrodAll en Tryd.prog W 0 (fun _=>true) true [9] args ds ps)
    (hr:All2 (fun _ a u=>RFlat (allS W) W (fun _=>.bool false) (0,0) a u) 0 [.d (.str b)] args) (hK:Rows.uptoSmall H (ds++[])=true):b.length≤1048576:=by
  match args,ds,h,hr with
  | v1 :: vs,d1 :: ds,h,hr =>
    obtain ⟨p,q,⟨n,h1⟩,_⟩:=h
    simp only [All2] at hr
    obtain ⟨s,hc,hx,_⟩:=DataW.trod_string (by kernel_rfl) h1
    have hd:d1=.lit (.string s.data.toList):=by injection hx
    have hv:=hr.1
    simp only [Rows.uptoSmall,decide_eq_true_eq,List.append_nil] at hK
    rw [hd] at hK
    have hv':v1=strOf b:=by simpa only [RFlat,RD] using hv
    subst hv'
    have hc':[strOf b]=[Value.string s]:=hc
    have hb:b=s.data.toList:=by
      injection hc' with hc' _
      injection hc' with hc'
      rw [← hc']
    rw [hb]
    simp only [Rows.uptoBulkAll,Rows.uptoBulk] at hK
    omega
theorem returnsInHanded_of_cond_and_shaped {H:Type} {enc:TypeId×Value→H} {a:Assume} {C:Checked} {os:Os} {f:FuncId} {fn:Func} {s:OpenSpec} {k:(H:Type)→List (DataW H)→Bool} (hk:s.cond=some k) {F:Stop.Interp} {conds:List PathCond} {apart fresh handsOn again:Bool} {X:World→Array Value→Prop}
    (hX:∀ (w w':World) (args:Array Value),w.heap=w'.heap→X w args→X w' args)
    (own:ownKnob C.prog.godebug=none) (started:os.Started) (noInit:C.prog.inits.idxOf? f=none) (hfn:C.prog.funcs[f]? = some fn)
    (witness:∃ (w:World) (tape:Tape) (i:Input),w.os=os∧(w.forCall tape i).Shaped C.prog∧i.vars=[]∧Input.okWide C.prog (w.forCall tape i) .any w.heap.size f i ∧
      ((s.pre enc C.prog fn conds apart (w.forCall tape i).memory i.args∧X (w.forCall tape i).memory i.args)∧sizedMet enc C.prog fn s apart (w.forCall tape i).memory i.args)∧a.holds C.prog (lone (Frame.enter C.prog f i.args .normal) [] (w.forCall tape i)))
    (contract:∀ (W:World) (base:Nat) (args:Array Value) (ds gs:List (DataW H)) (before:List MemPlace),
      (∀ (j:Nat) t v,fn.params[j]? = some t→args[j]? = some v→Value.okWide C.prog W .any base t v) →
      DataW.Whole enc C.prog fn.params.toList s.vars apart W args.toList ds gs before→k H (ds++gs)=true→X W args→W.ShapedOpen C.prog →
      Calls C.prog f args W fun e W'=>∃ v,e=.returned v∧(s.at F).post enc C.prog fn apart fresh handsOn again W args v W') :
    ReturnsInHanded a C os f .any (fun w args=>(s.pre enc C.prog fn conds apart w args∧X w args)∧sizedMet enc C.prog fn s apart w args) ((s.at F).post enc C.prog fn apart fresh handsOn again):=by
  refine returnsInHanded_of_calls own started noInit witness ?_
  intro w tape i _ hsh _ hok hpre _
  obtain ⟨_,_,_,fn',hfn',_,_,_,_,hval⟩:=hok
  have e:fn'=fn:=Option.some.inj (hfn'.symm.trans hfn)
  subst e
  obtain ⟨⟨hp,hx⟩,_⟩:=hpre
  obtain ⟨ds,gs,before,hw,_,hkk⟩:=(OpenSpec.pre_some hk conds apart _ _).1 hp
  refine (contract (w.forCall tape i) w.heap.size i.args ds gs before hval (DataW.Whole.of_heap (w':=w.forCall tape i) (by rfl) hw) hkk (hX _ _ _ (by rfl) hx) hsh).mono fun e W' ⟨v,he,hp⟩=>?_
  subst he
  exact ChangeSpec.post_blind hp
set_option maxRecDepth 100000 in
theorem witness (os:Os) (H:Type) (enc:TypeId×Value→H):∃ (w:World) (tape:Tape) (i:Input),w.os=os∧(w.forCall tape i).Shaped Tryd.checked.prog∧i.vars=[]∧Input.okWide Tryd.checked.prog (w.forCall tape i) .any w.heap.size 3 i ∧
      (((Rows.OpenSpec.upto Rows.varyParseMatchesReferenceSpec).pre enc Tryd.checked.prog Tryd.f3 [] false (w.forCall tape i).memory i.args∧laidMetH Tryd.prog lay (w.forCall tape i).memory)∧sizedMet enc Tryd.checked.prog Tryd.f3 (Rows.OpenSpec.upto Rows.varyParseMatchesReferenceSpec) false (w.forCall tape i).memory i.args)∧({}:Assume).holds Tryd.checked.prog (lone (Frame.enter Tryd.checked.prog 3 i.args .normal) [] (w.forCall tape i)):=by
  have hok:Input.okWideB Tryd.checked.prog ((World.laidAll Tryd.prog os lay).forCall (fun _ _=>0) ⟨#[],#[.string ⟨#[]⟩],[]⟩) 3 ⟨#[],#[.string ⟨#[]⟩],[]⟩=true:=by kernel_rfl
  have hx:DataW.whole enc Tryd.checked.prog ((World.laidAll Tryd.prog os lay).forCall (fun _ _=>0) ⟨#[],#[.string ⟨#[]⟩],[]⟩).memory Tryd.f3.params.toList [] false [.string ⟨#[]⟩] 8=some ([.lit (.string [])],[],[]):=by kernel_rfl
  exact ⟨World.laidAll Tryd.prog os lay,fun _ _=>0,⟨#[],#[.string ⟨#[]⟩],[]⟩,World.laidAll_os _ _ _,World.shaped_of_ZipB (by kernel_rfl) (by kernel_rfl),(Input.okWide_of_okWideB (base:=0) hok).1,(Input.okWide_of_okWideB hok).2,
    ⟨⟨(OpenSpec.pre_some (k:=Rows.uptoSmall) rfl [] false _ _).2 ⟨_,_,_,DataW.Whole_of_whole hx,by kernel_rfl,by kernel_rfl⟩,door_met os _⟩,sizedMet_of_sizedB (s:=Rows.varyParseMatchesReferenceSpec) (fuel:=8) (by kernel_rfl)⟩,by
    simp only [Assume.holds]
    exact ⟨by simp,by simp,fun _=>Modest.zero,by simp,by simp⟩⟩
set_option maxRecDepth 100000 in
theorem lifted (os:Os) (started:os.Started) (H:Type) (enc:TypeId×Value→H) (F:Stop.Interp) :
    ReturnsInHanded {} Tryd.checked os 3 .any (fun w args=>((Rows.OpenSpec.upto Rows.varyParseMatchesReferenceSpec).pre enc Tryd.prog Tryd.f3 [] false w args∧laidMetH Tryd.prog lay w)∧sizedMet enc Tryd.prog Tryd.f3 (Rows.OpenSpec.upto Rows.varyParseMatchesReferenceSpec) false w args)
      (((Rows.OpenSpec.upto Rows.varyParseMatchesReferenceSpec).at F).post enc Tryd.prog Tryd.f3 false true false false):=by
  refine returnsInHanded_of_cond_and_shaped (C:=Tryd.checked) (s:=Rows.OpenSpec.upto Rows.varyParseMatchesReferenceSpec) (k:=Rows.uptoSmall) rfl (X:=fun w _=>laidMetH Tryd.prog lay w) (fun _ _ _ hh h=>h.of_heap hh) own started (by kernel_rfl) Tryd.func3
    (witness os H enc) ?_
  intro W base args ds gs before hval hW hK hL hS
  obtain ⟨gm0,hG⟩:=of_lay hL hS
  exact law_contractU (gl gm0) (K:=Rows.uptoSmall H) (Q':=fun b=>b.1.length≤1048576) (tb:=4) (ts:=[9]) (by kernel_rfl) opens_args (fun _=>by simp [resSlot]) (fun b _ hs=>let ⟨_,h⟩:=(show ∃ F,law3_VaryParseMatchesReference F b.1=some true from ⟨4294967299,parse_law 4294967299 b.1 (Nat.le_trans hs (by decide)) (by decide)⟩); law3_VaryParseMatchesReference_ok h) (by kernel_rfl) (by kernel_rfl) rfl rfl Tryd.underlying4
      (fun ds hd=>match ds,hd with | [_],_=>rfl) W base args ds gs before hG (fun b ps h1 h2 h3=>small_arg b.1 h1 (h2 0) h3) hval hW hK
theorem varyParseMatchesReference_row:Rows.VaryParseMatchesReferenceUptoSaid :=
  OpenClaim.holds_of_cond 3 Tryd.f3 rfl rfl rfl rfl rfl rfl rfl ⟨rfl,rfl,rfl,rfl,rfl⟩ rfl rfl rfl rfl rfl (by kernel_rfl) Tryd.func3 (by kernel_rfl)
    (of_decide_eq_true (by kernel_rfl)) (by unfold Func.isWrapper; first | (rw [if_pos (by decide +kernel)]; kernel_rfl) | (rw [if_neg (by decide +kernel)]; exact ⟨rfl,rfl⟩))
    (fun os started H enc _ F=>lifted os started H enc F)
theorem varyParseMatchesReference_holds:Rows.VaryParseMatchesReferenceUptoCardSaid :=
  Claim7.holds_tied_plain_at .later [] [.data,.pinned] true (true,"09cc161768320574208a1fed21f28c26988f1b428773ff89d67c4089dc6ad39f") false
    varyParseMatchesReference_row (fun _ h=>by cases h) (by kernel_rfl) (fun _ h=>by cases h) varyParseMatchesReferenceUpto_row_tie rfl ⟨rfl,rfl⟩ (by kernel_rfl) rfl
    (fun f fn hf hfn=>by
      obtain rfl : f = 3 := Option.some.inj ((show Tryd.prog.funcNamed "printworks/printworkslaw3.VaryParseMatchesReference" = some 3 by kernel_rfl).symm.trans hf) |>.symm
      obtain rfl:fn=Tryd.f3:=(Option.some.inj (Tryd.func3.symm.trans hfn)).symm
      exact ⟨by kernel_rfl,fun j t ht=>by
        rw [Tryd.params3] at ht
        have h3:t=9:=by
          match j,ht with
          | 0,ht=>have ht:some 9=some t:=ht; cases ht; simp
          | j+1,ht=>simp at ht
        subst h3
        exact (show Tryd.prog.wantsStandIn 9=false by kernel_rfl)⟩)
    (by kernel_rfl)
#print axioms varyParseMatchesReference_holds
end Go.Proofs.YtfiggijjdmbafaaDoor
