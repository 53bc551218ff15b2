/-
  THE V-MACHINE,text D: VmGlob,VmShelf,VmGlobs,VmBits,VmUpto,VmTake,VmShaped,VmReads.
-/
import Derived.Test.YtfiggijjdmbafaaDoorVmC
import Derived.LaidMore
import Derived.MakeChecks
import Derived.OpenShut
import Derived.Lib.LaidTab
import Derived.Below
import Derived.JoinedCond
import Derived.Lib.SliceRun
import Derived.HandedShaped
import Derived.Handed
import Derived.Shelf.Vars
namespace Go.Vm
open Go.ChangeShapes Go.RowKit Go.WideShapes Go.ChangeAt Go.WideMaps Go.WideElems
end Go.Vm
namespace Go.Vm
open Go.RowKit
section
variable {P:Program} {S:Nat→Prop} {w:World}
theorem ACall.ofBelowG {k g:Nat} {cs:List Dat} (hk:Callable P k) {args:List AV} {us:List Value} {res:AV} {u:Value} (hargs:flatVs args=some us) (hal:decide (args.length < resSlot)=true) (hres:flatR res=some u)
    (h:∀ (w:World) (S:Nat→Prop),GloAt S w g cs→Calls P k us.toArray w fun e w'=>e=.returned u∧Below w.heap.size w w'):ACall P k args [.glo g cs] res [.glo g cs]:=by
  have hal':=of_decide_eq_true hal
  refine ⟨hk,fun w S β vs hvs hm=>?_⟩
  obtain ⟨h1,h2⟩:=flatVs_get hargs
  have hvu:vs=us:=by
    apply List.ext_getElem?
    intro i
    rcases Nat.lt_or_ge i args.length with hi | hi
    · have ha:args[i]? = some args[i]:=List.getElem?_eq_getElem hi
      obtain ⟨u',hu',hv⟩:=h2 i _ ha
      obtain ⟨u0,hr,hu0⟩:=hm.rel i
      rw [fget_finFr_arg hi,List.getD_eq_getElem?_getD,ha,Option.getD_some] at hr
      have hvi:vs[i]? = some vs[i]:=List.getElem?_eq_getElem (by omega)
      have e1:=hu0 vs[i] (by simp [hvi])
      have hfl:=(flatV_mk (S:=S) (w:=w) (β:=β) hv (i,0)).2.2.2
      have e2:=flatV_ok hv ((flat_slot hfl).1 hr)
      rw [hvi,hu',e1,e2]
    · rw [List.getElem?_eq_none (by omega),List.getElem?_eq_none (by omega)]
  subst hvu
  have hgf:fget (finFr args [.glo g cs]) (virtBase+0)=.glo g cs:=by
    rw [fget_finFr_virt (by simp only [resSlot] at hal' ⊢; omega),if_pos (by simp)]
    rfl
  have hglo:GloAt S w g cs:=by
    obtain ⟨u0,hr,_⟩:=hm.rel (virtBase+0)
    rw [hgf] at hr
    exact hr.2.2
  refine (h w S hglo).mono ?_
  rintro e w' ⟨rfl,hb⟩
  have hg:=Mem.grow hm w' hb.block hb.size hb.os hb.tape hb.output
  have hr:∀ β',RSlot (condG []) S w' β' resSlot res u:=fun β'=>(flatR_mk hres β').1
  refine ⟨u,S,β,rfl,hg.toRes (vout:=[.glo g cs]) (fun j a ha=>?_) hr (flatR_mk (S:=S) (w:=w') hres β).2.1 (flatR_mk (S:=S) (w:=w') hres β).2.2 (fun x u' hx hl=>lent_virt (by rw [← h1]; have:virtBase=resSlot+1:=rfl; omega) hx hl)⟩
  cases j with
  | zero =>
    simp only [List.getElem?_cons_zero,Option.some.injEq] at ha
    subst ha
    exact ⟨hgf,rfl⟩
  | succ j=>simp at ha
theorem flatR_ok {S':Nat→Prop} {w':World} {a:AV} {u:Value} (h:flatR a=some u) {g:List (Nat×Bool)→Bool} {β:Path→Value} {x:Nat} {v:Value} (hr:RSlot g S' w' β x a v):v=u:=by
  unfold flatR at h
  split at h
  · rename_i vs
    simp only [Option.map_eq_some_iff] at h
    obtain ⟨us,hus,rfl⟩:=h
    obtain ⟨h1,h2⟩:=flatVs_get hus
    obtain ⟨l,rfl,_,hl⟩:=hr
    have:l=us:=by
      apply List.ext_getElem?
      intro j
      rcases Nat.lt_or_ge j vs.length with hj | hj
      · have hv:vs[j]? = some vs[j]:=List.getElem?_eq_getElem hj
        obtain ⟨u',hu',hf⟩:=h2 j _ hv
        obtain ⟨c,hc,hrc⟩:=All2.get hl j _ hv
        rw [hc,hu',flatV_ok hf hrc]
      · have:=All2.len hl
        rw [List.getElem?_eq_none (by omega),List.getElem?_eq_none (by omega)]
    rw [this]
  · obtain ⟨_,_,_,h4⟩:=flatV_mk (S:=S') (w:=w') (β:=β) h (x,0)
    exact flatV_ok h ((flat_slot h4).1 hr)
theorem ACall.below {k:Nat} {args:List AV} {us:List Value} {res:AV} {u:Value} (h:ACall P k args [] res []) (hargs:flatVs args=some us) (hal:args.length < resSlot) (hres:flatR res=some u) (w:World) :
    Calls P k us.toArray w fun e w'=>e=.returned u∧Below w.heap.size w w':=by
  obtain ⟨h1,h2⟩:=flatVs_get hargs
  have hno:∀ y i,(fget (finFr args []) y).ownsAt i=false:=by
    intro y i
    rcases finFr_cases args [] y with hy | ⟨hy1,hy2⟩ | ⟨j,rfl⟩
    · rw [fget_finFr_arg hy]
      have ha:args[y]? = some (args.getD y .junk):=by simp [List.getD_eq_getElem?_getD,List.getElem?_eq_getElem hy]
      obtain ⟨u',_,hv⟩:=h2 y _ ha
      obtain ⟨_,_,h3,h4⟩:=flatV_mk (S:=fun _=>True) (w:=w) (β:=fun _=>.bool false) hv (0,0)
      cases hj:(args.getD y .junk).ownsAt i with
      | false=>rfl
      | true =>
        have:=(flat_ownsAt h4 i hj).2
        rw [h3] at this; cases this
    · rw [fget_finFr_none hy1 hy2]
      cases i <;> rfl
    · rw [fget_finFr_virt hal,if_neg (by simp)]
      cases i <;> rfl
  have hm:Mem ⟨w,ownedBy (finFr args []) (fun _=>.bool false),fun _=>False,lentAt (fun _=>.bool false) ([]:List AV).length,[]⟩ [] (fun _=>False) (fun _=>.bool false) (finFr args []) (fun x=>(us[x]?).or (lentAt (fun _=>.bool false) ([]:List AV).length x)) w:=by
    refine ⟨fun x=>?_,fun x l a hx=>?_,fun x i y j b hx=>?_,fun x i b hx=>?_,fun b hb=>hb.elim,fun b hb=>hb.elim,fun _ _ _=>rfl,rfl,rfl,rfl,Nat.le_refl _⟩
    · have hl:lentAt (fun _=>.bool false) ([]:List AV).length x=none:=by
        unfold lentAt
        rw [if_neg (by simp)]
      rcases finFr_cases args [] x with hy | ⟨hy1,hy2⟩ | ⟨j,rfl⟩
      · rw [fget_finFr_arg hy]
        have ha:args[x]? = some (args.getD x .junk):=by simp [List.getD_eq_getElem?_getD,List.getElem?_eq_getElem hy]
        obtain ⟨u',hu',hv⟩:=h2 x _ ha
        obtain ⟨h5,_,_,h4⟩:=flatV_mk (S:=fun _=>False) (w:=w) (β:=fun _=>.bool false) hv (x,0)
        exact ⟨u',(flat_slot h4).2 h5,fun u0 h0=>by rw [hl,hu'] at h0; simpa using h0.symm⟩
      · rw [fget_finFr_none hy1 hy2]
        refine ⟨undef,trivial,fun u0 h0=>?_⟩
        rw [hl,List.getElem?_eq_none (by omega)] at h0
        cases h0
      · rw [fget_finFr_virt hal,if_neg (by simp)]
        refine ⟨undef,trivial,fun u0 h0=>?_⟩
        rw [hl,List.getElem?_eq_none (by simp only [virtBase,resSlot] at *; omega)] at h0
        cases h0
    · rcases finFr_cases args [] x with hy | ⟨hy1,hy2⟩ | ⟨j,rfl⟩
      · rw [fget_finFr_arg hy] at hx
        have ha:args[x]? = some (args.getD x .junk):=by simp [List.getD_eq_getElem?_getD,List.getElem?_eq_getElem hy]
        obtain ⟨u',_,hv⟩:=h2 x _ ha
        rw [hx] at hv
        cases hv
      · rw [fget_finFr_none hy1 hy2] at hx; cases hx
      · rw [fget_finFr_virt hal,if_neg (by simp)] at hx; cases hx
    · rw [hno] at hx; cases hx
    · rw [hno] at hx; cases hx
  refine (h.2 w (fun _=>False) (fun _=>.bool false) us h1.symm hm).mono ?_
  rintro e w' ⟨v,S',β',rfl,hm'⟩
  have hv:v=u:=by
    obtain ⟨v0,hr,hu0⟩:=hm'.rel resSlot
    rw [fget_cons_self] at hr
    have e1:=hu0 v (by simp)
    subst e1
    exact flatR_ok hres hr
  subst hv
  refine ⟨rfl,⟨hm'.os,hm'.tape,hm'.output,hm'.size,fun b hb=>hm'.old b hb ?_⟩⟩
  rintro ⟨y,i,ho,_⟩
  rw [hno] at ho; cases ho
end
end Go.Vm
namespace Go.Vm
open Go.ChangeShapes Go.RowKit Go.WideShapes Go.ChangeAt Go.WideMaps Go.WideElems
abbrev Glos:=List (Nat×List Dat)
def gvs (gs:Glos):List AV:=gs.map fun g=>.glo g.1 g.2
def gbs (gs:Glos):Path→Value:=fun p=>match gs[p.1 - virtBase]? with
  | some g=>if virtBase≤p.1 then .pointer (some ⟨g.1,0,none⟩) else .bool false
  | none=>.bool false
theorem gbs_at {gs:Glos} {j:Nat} {g:Nat×List Dat} (h:gs[j]? = some g) (i:Nat):gbs gs (virtBase+j,i)=.pointer (some ⟨g.1,0,none⟩):=by
  simp [gbs,h]
theorem start_memGs {W:World} {args:List AV} {us:List Value} {gs:Glos} (hlen:us.length=args.length) (hn:args.length < resSlot) (hd:args.all AV.isData=true) (hr:All2 (fun _ a u=>RFlat (allS W) W (fun _=>.bool false) (0,0) a u) 0 args us)
    (hg:∀ g∈gs,GloAt (allS W) W g.1 g.2) :
    (∀ x i,(fget (finFr args (gvs gs)) x).ownsAt i=false)∧Mem ⟨W,ownedBy (finFr args (gvs gs)) (gbs gs),allS W,lentAt (gbs gs) (gvs gs).length,[]⟩ [] (allS W) (gbs gs) (finFr args (gvs gs)) (fun x=>(us[x]?).or (lentAt (gbs gs) (gvs gs).length x)) W:=by
  have hgl:(gvs gs).length=gs.length:=by simp [gvs]
  have hat:∀ x,(∃ a u,fget (finFr args (gvs gs)) x=a∧a.isData=true∧us[x]? = some u∧RFlat (allS W) W (fun _=>.bool false) (0,0) a u) ∨
      (∃ j g,x=virtBase+j∧gs[j]? = some g∧fget (finFr args (gvs gs)) x=.glo g.1 g.2∧us[x]? = none∧lentAt (gbs gs) (gvs gs).length x=some (.pointer (some ⟨g.1,0,none⟩))) ∨
      (fget (finFr args (gvs gs)) x=.junk∧us[x]? = none∧lentAt (gbs gs) (gvs gs).length x=none):=by
    intro x
    rcases finFr_cases args (gvs gs) x with h | ⟨h1,h2⟩ | ⟨j,rfl⟩
    · left
      obtain ⟨u,hu,hru⟩:=All2.get hr x args[x] (by simp [h])
      refine ⟨args[x],u,?_,(List.all_eq_true.1 hd) _ (List.getElem_mem h),by simpa using hu,hru⟩
      rw [fget_finFr_arg h,List.getD_eq_getElem?_getD]
      simp [h]
    · right; right
      refine ⟨fget_finFr_none h1 h2,by simp; omega,?_⟩
      unfold lentAt
      rw [if_neg (by omega)]
    · right
      have hu:us[virtBase+j]? = none:=by
        rw [List.getElem?_eq_none]
        simp only [virtBase,resSlot] at *
        omega
      rcases Nat.lt_or_ge j gs.length with hj | hj
      · left
        have hgj:gs[j]? = some gs[j]:=List.getElem?_eq_getElem hj
        refine ⟨j,gs[j],rfl,hgj,?_,hu,?_⟩
        · rw [fget_finFr_virt hn,if_pos (by omega),List.getD_eq_getElem?_getD]
          simp [gvs,hj]
        · unfold lentAt
          rw [if_pos ⟨by omega,by omega⟩,gbs_at hgj]
      · right
        refine ⟨by rw [fget_finFr_virt hn,if_neg (by omega)],hu,?_⟩
        unfold lentAt
        rw [if_neg (by omega)]
  have hown:∀ x i,(fget (finFr args (gvs gs)) x).ownsAt i=false:=by
    intro x i
    rcases hat x with ⟨a,u,h1,h2,_,_⟩ | ⟨j,g,_,_,h1,_⟩ | ⟨h1,_,_⟩
    · rw [h1]
      cases a <;> first | (cases i <;> rfl) | (simp [AV.isData] at h2)
    · rw [h1]; cases i <;> rfl
    · rw [h1]; cases i <;> rfl
  refine ⟨hown,fun x=>?_,fun x l a h=>?_,fun x i y j b h=>?_,fun x i b h=>?_,fun b hb=>⟨hb,.inl hb⟩,fun _ h=>h,fun _ _ _=>rfl,rfl,rfl,rfl,Nat.le_refl _⟩
  · rcases hat x with ⟨a,u,h1,h2,h3,h4⟩ | ⟨j,g,rfl,hgj,h1,h2,h3⟩ | ⟨h1,h2,h3⟩
    · refine ⟨u,?_,fun u' hu'=>by simp [h3] at hu'; exact hu'.symm⟩
      rw [h1]
      cases a with
      | d y=>exact (flat_slot rfl).2 h4
      | agg y=>exact (flat_slot rfl).2 h4
      | _=>simp [AV.isData] at h2
    · refine ⟨.pointer (some ⟨g.1,0,none⟩),?_,fun u' hu'=>by
        simp only [h2,h3] at hu'
        simpa using hu'.symm⟩
      rw [h1]
      exact (flat_slot rfl).2 ⟨(gbs_at hgj 0).symm,rfl,hg g (List.mem_of_getElem? hgj)⟩
    · refine ⟨undef,?_,fun u' hu'=>by
        simp only [h2,h3] at hu'
        cases hu'⟩
      rw [h1]
      exact (flat_slot rfl).2 trivial
  · rcases hat x with ⟨a',u,h1,h2,_,_⟩ | ⟨_,_,_,_,h1,_⟩ | ⟨h1,_,_⟩
    · rw [h] at h1
      subst h1
      simp [AV.isData] at h2
    · rw [h] at h1; cases h1
    · rw [h] at h1; cases h1
  · rw [hown] at h; cases h
  · rw [hown] at h; cases h
end Go.Vm
namespace Go.Vm
end Go.Vm
namespace Go.Vm
open Go.ChangeShapes Go.WideShapes Go.ChangeAt Go.WideMaps Go.WideElems Go.RowKit
section
variable {P:Program} {t:TypeId}
end
end Go.Vm
namespace Go.Vm
open Go.RowKit
section
variable {P:Program} {S:Nat→Prop} {β:Path→Value} {w:World}
abbrev ArgMem (args:List AV) (us:List Value) (S:Nat→Prop) (β:Path→Value) (w:World):Prop :=
  Mem ⟨w,ownedBy (finFr args []) β,S,lentAt β ([]:List AV).length,[]⟩ [] S β (finFr args []) (fun x=>(us[x]?).or (lentAt β ([]:List AV).length x)) w
theorem ArgMem.own {args:List AV} {us:List Value} (hm:ArgMem args us S β w) (hl:us.length=args.length) {i:Nat} {κ:TypeId} {sz:Nat} {es:List (List Dat)} (h:args[i]? = some (.own κ sz es)) :
    ∃ u,us[i]? = some u∧u=β (i,0)∧OwnAt S w u κ sz es∧∀ b,blk u=some b→ownedBy (finFr args []) β b∧¬ S b:=by
  have hi:i < args.length:=(List.getElem?_eq_some_iff.1 h).1
  obtain ⟨u0,hr,hu⟩:=hm.rel i
  have hf:fget (finFr args []) i=.own κ sz es:=by rw [fget_finFr_arg hi,List.getD_eq_getElem?_getD,h]; rfl
  rw [hf] at hr
  have hui:us[i]? = some us[i]:=List.getElem?_eq_getElem (by omega)
  have e:=hu us[i] (by simp [hui])
  refine ⟨us[i],hui,e.trans hr.1,by rw [e]; exact hr.2,fun b hb=>?_⟩
  have ho:(fget (finFr args []) i).ownsAt 0=true:=by rw [hf]; rfl
  have hb':blk (β (i,0))=some b:=by rw [← hr.1,← e]; exact hb
  exact ⟨⟨i,0,ho,hb'⟩,(hm.fre i 0 b ho hb').1⟩
theorem ArgMem.flat {args:List AV} {us:List Value} (hm:ArgMem args us S β w) (hl:us.length=args.length) {i:Nat} {x:Value} (h:args[i]? = some (.d (.v x))):us[i]? = some x:=by
  have hi:i < args.length:=(List.getElem?_eq_some_iff.1 h).1
  obtain ⟨u0,hr,hu⟩:=hm.rel i
  have hf:fget (finFr args []) i=.d (.v x):=by rw [fget_finFr_arg hi,List.getD_eq_getElem?_getD,h]; rfl
  rw [hf] at hr
  have hui:us[i]? = some us[i]:=List.getElem?_eq_getElem (by omega)
  have e:=hu us[i] (by simp [hui])
  have h0:u0=x:=hr.1
  rw [hui,e,h0]
end
end Go.Vm
namespace Go.Vm
open Go.Proofs
theorem glo_shaped {P:Program} {W:World} {g:Nat} {t:TypeId} {zero:Array Value} {k:IntKind}
    (h:W.ShapedOpen P) (hg:g < P.globals.size) (h0:((begin P (fun _ _=>0) default).world.heap[g]?).bind Obj.row? = some (zero,t)) (hz:zero.size=1)
    (hb:P.buildable t=true) (hc:P.cellTypes P.depth t=some [t]) (hu:P.underlying t=some (.int k)):∃ m:Int,GloAt (allS W) W g ([m].flatMap (cI k)):=by
  obtain ⟨m,hm⟩:=cell_of_shapedOpen_int h hg h0 hz hb hc hu
  obtain ⟨cs,hh,hs,_⟩:=h.1 g zero t hg h0
  refine ⟨m,cs,t,(0,0),?_,hh,by rw [hs,hz]; rfl,?_⟩
  · exact heap_lt hh
  · have hc0:cs[0]? = some (.int k m):=by
      simp only [World.cell?,hh,Option.isSome_none,Bool.false_eq_true,if_false] at hm
      exact hm
    exact ⟨⟨_,hc0,rfl,rfl⟩,trivial⟩
variable {H:Type} {enc:TypeId×Value→H}
theorem returnsInHanded_of_change_and_shaped {a:Assume} {C:Checked} {os:Os} {f:FuncId} {fn:Func} {s:ChangeSpec} {conds:List PathCond} {apart fresh handsOn again:Bool} {X:World→Array Value→Prop}
    (hX:∀ (w w':World) (args:Array Value),w.heap=w'.heap→X w args→X w' args)
    (own:ownKnob C.prog.godebug=none) (started:os.Started) (noInit:C.prog.inits.idxOf? f=none) (hfn:C.prog.funcs[f]? = some fn)
    (witness:∃ (w:World) (tape:Tape) (i:Input),w.os=os∧(w.forCall tape i).Shaped C.prog∧i.vars=[]∧Input.okWide C.prog (w.forCall tape i) .any w.heap.size f i ∧
      ((s.pre enc C.prog fn conds apart (w.forCall tape i).memory i.args∧X (w.forCall tape i).memory i.args)∧sizedMet enc C.prog fn (OpenSpec.ofChange s) apart (w.forCall tape i).memory i.args)∧a.holds C.prog (lone (Frame.enter C.prog f i.args .normal) [] (w.forCall tape i)))
    (contract:∀ (W:World) (base:Nat) (args:Array Value) (ds gs:List (DataW H)) (before:List MemPlace),
      (∀ (j:Nat) t v,fn.params[j]? = some t→args[j]? = some v→Value.okWide C.prog W .any base t v) →
      DataW.Whole enc C.prog fn.params.toList s.vars apart W args.toList ds gs before→X W args→W.ShapedOpen C.prog →
      Calls C.prog f args W fun e W'=>∃ v,e=.returned v∧s.post enc C.prog fn apart fresh handsOn again W args v W') :
    ReturnsInHanded a C os f .any (fun w args=>(s.pre enc C.prog fn conds apart w args∧X w args)∧sizedMet enc C.prog fn (OpenSpec.ofChange s) apart w args) (s.post enc C.prog fn apart fresh handsOn again):=by
  refine returnsInHanded_of_calls own started noInit witness ?_
  intro w tape i _ hsh _ hok hpre _
  obtain ⟨_,_,_,fn',hfn',_,_,_,_,hval⟩:=hok
  have e:fn'=fn:=Option.some.inj (hfn'.symm.trans hfn)
  subst e
  obtain ⟨⟨⟨ds,gs,before,hw,_⟩,hx⟩,_⟩:=hpre
  refine (contract (w.forCall tape i) w.heap.size i.args ds gs before hval (DataW.Whole.of_heap (w':=w.forCall tape i) (by rfl) hw) (hX _ _ _ (by rfl) hx) hsh).mono fun e W' ⟨v,he,hp⟩=>?_
  subst he
  exact ChangeSpec.post_blind hp
end Go.Vm
namespace Go.Vm
open Go.RowKit
section
variable {P:Program} {S:Nat→Prop} {w:World}
theorem ACall.ofReads {k:Nat} (hk:Callable P k) {args:List AV} {res:AV} {u:Value} (hal:decide (args.length < resSlot)=true) (hflat:args.all AV.flat=true) (hres:flatR res=some u)
    (h:∀ (w:World) (S:Nat→Prop) (us:List Value),us.length=args.length→(∀ b,S b→b < w.heap.size)→(∀ (i:Nat) (x:Dat) (v:Value),args[i]? = some (.d x)→us[i]? = some v→RD S w x v)→Calls P k us.toArray w fun e w'=>e=.returned u∧Below w.heap.size w w'):ACall P k args [] res []:=by
  have hal':=of_decide_eq_true hal
  refine ⟨hk,fun w S β vs hvs hm=>?_⟩
  refine (h w S vs hvs (fun b hb=>(hm.stb b hb).1) fun i x v hi hv=>?_).mono ?_
  · obtain ⟨u0,hr,hu0⟩:=hm.rel i
    have hlt:=(List.getElem?_eq_some_iff.1 hi).1
    rw [fget_finFr_arg hlt,List.getD_eq_getElem?_getD,hi,Option.getD_some] at hr
    have e1:=hu0 v (by simp [hv])
    rw [e1]
    exact hr
  rintro e w' ⟨rfl,hb⟩
  have hg:=Mem.grow hm w' hb.block hb.size hb.os hb.tape hb.output
  have hr:∀ β',RSlot (condG []) S w' β' resSlot res u:=fun β'=>(flatR_mk hres β').1
  refine ⟨u,S,β,rfl,hg.toRes (vout:=[]) (fun j a ha=>by simp at ha) hr (flatR_mk (S:=S) (w:=w') hres β).2.1 (flatR_mk (S:=S) (w:=w') hres β).2.2 (fun x u' hx hl=>lent_virt (by rw [hvs]; have:virtBase=resSlot+1:=rfl; omega) hx hl)⟩
theorem rd_strs {xs:List (List UInt8)} {u:Value} (h:RD S w (.sl 1 (xs.map cS)) u):(∃ q,u=.slice q 0 0∧xs=[])∨∃ b off c,u=.slice (some ⟨b,off,none⟩) xs.length c∧xs.length≤c∧S b∧∀ (j:Nat) x,xs[j]? = some x→w.cell? ⟨b,off+j,none⟩=some (strOf x):=by
  simp only [RD] at h
  rcases h with ⟨⟨q,rfl⟩,he⟩ | ⟨b,off,c,arr,E,fz,rfl,hc,hS,hb,hr⟩
  · exact .inl ⟨q,rfl,List.map_eq_nil_iff.1 he⟩
  · rw [List.length_map] at hc ⊢
    refine .inr ⟨b,off,c,rfl,hc,hS,fun j x hx=>?_⟩
    obtain ⟨_,h2⟩:=REs.get _ off j (cS x) hr (by rw [List.getElem?_map,hx]; rfl)
    obtain ⟨v,hv,hrd⟩:=RCs.get _ _ 0 (.str x) h2 rfl
    have hv2:v=strOf x:=hrd
    subst hv2
    simp only [World.cell?,hb,Option.isSome_none,Bool.false_eq_true,if_false]
    simpa using hv
end
end Go.Vm
