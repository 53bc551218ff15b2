/-
  Merge fills a template,or returns its first error: the law returns true,and its arguments read as before.
-/
import Derived.Test.YtfiggijjdmbafaaDoorVmD
import Derived.Lay
import Derived.Test.YtfiggijjdmbafaaDoorVmC
import Derived.Stop.Joined
import Derived.Test.YtfiggijjdmbafaaDoorMrgWc
import Derived.Test.YtfiggijjdmbafaaDoorRows
import Derived.Test.YtfiggijjdmbafaaDoorTie
import Derived.Test.YtfiggijjdmbafaaDoorCards
namespace Go.Proofs.YtfiggijjdmbafaaDoor
open Go.ChangeShapes Go.WideShapes Go.ChangeAt Go.WideMaps Go.WideElems Go.RowKit Go.Vm Go.Vm.MrgG
theorem own:ownKnob Tryd.prog.godebug=none:=by kernel_rfl
theorem opens_args:OpensArgs Tryd.prog [9,23] (fun z:(List UInt8)×(List (List UInt8))×Unit=>[.d (.str z.1),.d (.sl 1 (z.2.1.map cS))]) (fun z=>z.1.length≤maxLen∧(z.2.1.length≤maxLen∧∀ a∈z.2.1,a.length≤maxLen)∧True) :=
  (opensArgs_flat (x:=fun y:List UInt8=>.str y) (by kernel_rfl) (fun _=>rfl) (opens_str (by kernel_rfl)) (opensArgs_flat (x:=fun y:List (List UInt8)=>.sl 1 (y.map cS)) (by kernel_rfl) (fun _=>rfl) (opens_slice (e:=9) (sz:=1) (by kernel_rfl) (by kernel_rfl) (by decide) (opens_str (by kernel_rfl))) (opensArgs_nil _)))
abbrev lay : List (String × DataW Unit) := [("unicode/utf8.acceptRanges",Rows.laid_unicode_utf8_acceptRanges),("unicode/utf8.first",Rows.laid_unicode_utf8_first)]
theorem door_met (os:Os) (args:Array Value):laidMetH Tryd.prog lay ((World.laidAll Tryd.prog os lay).forCall (fun _ _=>0) ⟨#[],args,[]⟩).memory:=by rw [MakeChecks.laidMetH_plain _ _ _ (by kernel_rfl)]; exact laidMet_laidAll _ (by kernel_rfl) (by kernel_rfl)
abbrev gl (gm0:Int):Glos:=[(0,[gm0].flatMap (cI .i64))]
theorem of_lay {W:World} (hs:W.ShapedOpen Tryd.prog):∃ gm0,∀ g∈gl gm0,GloAt (allS W) W g.1 g.2:=by
  obtain ⟨gm0,hgm0⟩:=glo_shaped (g:=0) (t:=3) (zero:=#[.int .i64 0]) (k:=.i64) hs (of_decide_eq_true (by kernel_rfl)) (by kernel_rfl) rfl (by kernel_rfl) (by kernel_rfl) Tryd.underlying3
  exact ⟨gm0,List.forall_mem_cons.2 ⟨hgm0,fun _ h=>by cases h⟩⟩
theorem cell_any {w:World} {b:Nat} {arr:Array Value} {E:TypeId} {fz:Nat×Nat} (h:w.heap[b]? = some (.cells arr E fz)) (i:Nat):w.cell? ⟨b,i,none⟩=arr[i]? := by
  simp [World.cell?,h]
theorem law_calls {gm0:Int} {W:World} (s:List UInt8) (vs:List (List UInt8)) (us:List Value) (hg:∀ g∈gl gm0,GloAt (allS W) W g.1 g.2) (hr:All2 (fun _ a u=>RFlat (allS W) W (fun _=>.bool false) (0,0) a u) 0 [.d (.str s),.d (.sl 1 (vs.map cS))] us) :
    Calls Tryd.prog 4 us.toArray W fun e W'=>e=.returned (.bool true)∧KeptAll W W':=by
  match us,hr with
  | [u1,u2],⟨h1,h2,_⟩ =>
    have e1:u1=strOf s:=by simpa only [RFlat,RD] using h1
    subst e1
    simp only [RFlat,RD] at h2
    rcases h2 with ⟨⟨q,rfl⟩,_⟩ | ⟨b,off,c,arr,E,fz,rfl,hc,hb,hh,hes⟩
    · exact law4a W s q 0 hg
    · match vs,hc,hes with
      | [],hc,hes=>exact law4a W s _ c hg
      | [v0],hc,hes =>
        simp only [List.map_cons,List.map_nil,REs,cS,RCs,RD] at hes
        obtain ⟨_,⟨⟨u,hu,rfl⟩,_⟩,_⟩:=hes
        exact law4b W s v0 b off c hc hg ((cell_any hh off).trans hu) hb
      | v0 :: v1 :: vs,hc,hes =>
        simp only [List.map_cons,REs,cS,RCs,RD] at hes
        obtain ⟨_,⟨⟨u,hu,rfl⟩,_⟩,_,⟨⟨u',hu',rfl⟩,_⟩,_⟩:=hes
        have hl:(List.map cS (v0 :: v1 :: vs)).length=(v0 :: v1 :: vs).length:=by simp
        rw [show List.map cS (v0 :: v1 :: vs)=(v0 :: v1 :: vs).map cS from rfl,hl] at hc ⊢
        exact law4c W s v0 v1 b off _ c (by simp) hc hg ((cell_any hh off).trans hu) ((cell_any hh (off+1)).trans hu') hb
theorem law_contractC {β:Type} {H:Type} {enc:TypeId×Value→H} {P:Program} {k:Nat} {f:Func} {s:ChangeSpec} {av:β→List AV} {Q:β→Prop} {r:Bool} {tb:TypeId} {ts:List TypeId} {apart fresh handsOn:Bool}
    (hts:f.params.toList=ts) (hop:OpensArgs P ts av Q) (W:World) (hlaw:∀ b us,Q b→All2 (fun _ a u=>RFlat (allS W) W (fun _=>.bool false) (0,0) a u) 0 (av b) us→Calls P k us.toArray W fun e W'=>e=.returned (.bool r)∧KeptAll W W')
    (hlaid:laidOutB P=true) (hread:(ts.all fun t=>P.readableRec t && decide (t < P.types.size))=true) (hvars:s.vars=[]) (hres:f.resultTypes=#[tb]) (htb:P.underlying tb=some .bool)
    (hspec:∀ ds:List (DataW H),ds.length=ts.length→s.fn H (ds++[])={ results:=[.lit (.bool r)],args:=ds })
    (base:Nat) (args:Array Value) (ds gs:List (DataW H)) (before:List MemPlace)
    (hval:∀ (j:Nat) t v,f.params[j]? = some t→args[j]? = some v→Value.okWide P W .any base t v)
    (hW:DataW.Whole enc P f.params.toList s.vars apart W args.toList ds gs before) :
    Calls P k args W fun e W'=>∃ v,e=.returned v∧s.post enc P f apart fresh handsOn false W args v W':=by
  subst hts
  have hW':=hW
  have hlt:=hW.lt
  obtain ⟨p,q,hA,hV,rfl,hfz,hnd⟩:=hW
  rw [hvars] at hV
  obtain ⟨rfl,rfl⟩:gs=[]∧q=[]:=by
    cases gs with
    | nil=>exact ⟨rfl,hV⟩
    | cons=>exact hV.elim
  obtain ⟨b,hQ,hvl,hda,hr⟩:=hop H enc W base args.toList ds p (fun j t v h1 h2=>hval j t v (by simpa using h1) (by simpa using h2)) hA
  have hdl:∀ {ts:List TypeId} {vs:List Value} {ds:List (DataW H)} {ps:List MemPlace},DataW.TrodAll enc P W 0 (fun _=>true) true ts vs ds ps→ds.length=ts.length:=by
    intro ts
    induction ts with
    | nil=>intro vs ds ps h; cases vs <;> cases ds <;> first | rfl | exact h.elim
    | cons t ts ih =>
      intro vs ds ps h
      cases vs with
      | nil=>exact h.elim
      | cons v vs =>
        cases ds with
        | nil=>exact h.elim
        | cons d ds =>
          obtain ⟨_,_,_,h2,_⟩:=h
          simp [ih h2]
  have hsp:=hspec ds (hdl hA)
  have hc:=hlaw b args.toList hQ (hr 0)
  rw [show args.toList.toArray=args from by simp] at hc
  refine hc.mono fun e W' ⟨he,hk⟩=>⟨_,he,?_⟩
  refine post_kept (pa:=p) (pv:=[]) hW' hk (fun _ _ _=>?_) (fun sp hb=>?_) (fun sp hb=>?_) (by simp) ?_
  · rw [hsp,hres]
    exact trodAll_mk1 (shut_bool htb r)
  · rw [hsp]
    exact TrodAll_kept hlaid hk sp hread hA (fun x hx=>hlt x (by simp [hx])) (fun x hx=>hb x (by simp [hx]))
  · rw [hsp,hvars]
    rfl
  · exact ok_one hres rfl (okWide_bool_mk htb r)
set_option maxRecDepth 100000 in
theorem lifted (os:Os) (started:os.Started) (H:Type) (enc:TypeId×Value→H) :
    ReturnsInHanded {} Tryd.checked os 4 .any (fun w args=>(Rows.varyMergeMatchesReferenceSpec.pre enc Tryd.prog Tryd.f4 [] false w args∧laidMetH Tryd.prog lay w)∧sizedMet enc Tryd.prog Tryd.f4 (OpenSpec.ofChange Rows.varyMergeMatchesReferenceSpec) false w args)
      (Rows.varyMergeMatchesReferenceSpec.post enc Tryd.prog Tryd.f4 false true false false):=by
  refine returnsInHanded_of_change_and_shaped (C:=Tryd.checked) (X:=fun w _=>laidMetH Tryd.prog lay w) (fun _ _ _ hh h=>h.of_heap hh) own started (by kernel_rfl) Tryd.func4
    (ChangeSpec.witness_shaped (enc:=enc) (C:=Tryd.checked) (os:=os) (X:=fun w _=>laidMetH Tryd.prog lay w) false (World.laidAll Tryd.prog os lay) #[.string ⟨#[]⟩,.slice none 0 0] 8 (World.laidAll_os _ _ _) (World.shaped_of_ZipB (by kernel_rfl) (by kernel_rfl)) (by kernel_rfl) (by kernel_rfl) (by kernel_rfl) (door_met os _)) ?_
  intro W base args ds gs before hval hW hL hS
  obtain ⟨gm0,hG⟩:=of_lay hS
  exact law_contractC (tb:=4) (ts:=[9,23]) (by kernel_rfl) opens_args W (fun b us hb hr=>law_calls b.1 b.2.1 us hG hr) (by kernel_rfl) (by kernel_rfl) rfl rfl Tryd.underlying4
      (fun ds hd=>match ds,hd with | [_,_],_=>rfl) base args ds gs before hval hW
theorem varyMergeMatchesReference_row:Rows.VaryMergeMatchesReferenceSaid :=
  OpenClaim.holds_of_wide 4 Tryd.f4 rfl rfl rfl rfl rfl rfl rfl ⟨rfl,rfl,rfl,rfl,rfl⟩ rfl rfl rfl rfl rfl (by kernel_rfl) Tryd.func4 (by kernel_rfl)
    (of_decide_eq_true (by kernel_rfl)) (by unfold Func.isWrapper; first | (rw [if_pos (by decide +kernel)]; kernel_rfl) | (rw [if_neg (by decide +kernel)]; exact ⟨rfl,rfl⟩))
    (fun os started H enc _=>lifted os started H enc)
theorem varyMergeMatchesReference_holds:Rows.VaryMergeMatchesReferenceCardSaid :=
  Claim7.holds_tied_plain_at .later [] [.data,.pinned] true (true,"09cc161768320574208a1fed21f28c26988f1b428773ff89d67c4089dc6ad39f") false
    varyMergeMatchesReference_row (fun _ h=>by cases h) (by kernel_rfl) (fun _ h=>by cases h) varyMergeMatchesReference_row_tie rfl ⟨rfl,rfl⟩ (by kernel_rfl) rfl
    (fun f fn hf hfn=>by
      obtain rfl : f = 4 := Option.some.inj ((show Tryd.prog.funcNamed "printworks/printworkslaw3.VaryMergeMatchesReference" = some 4 by kernel_rfl).symm.trans hf) |>.symm
      obtain rfl:fn=Tryd.f4:=(Option.some.inj (Tryd.func4.symm.trans hfn)).symm
      exact ⟨by kernel_rfl,fun j t ht=>by
        rw [Tryd.params4] at ht
        have h3:t=9∨t=23:=by
          match j,ht with
          | 0,ht=>have ht:some 9=some t:=ht; cases ht; simp
          | 1,ht=>have ht:some 23=some t:=ht; cases ht; simp
          | j+2,ht=>simp at ht
        rcases h3 with rfl | rfl
        · exact (show Tryd.prog.wantsStandIn 9=false by kernel_rfl)
        · exact (show Tryd.prog.wantsStandIn 23=false by kernel_rfl)⟩)
    (by kernel_rfl)
#print axioms varyMergeMatchesReference_holds
end Go.Proofs.YtfiggijjdmbafaaDoor
