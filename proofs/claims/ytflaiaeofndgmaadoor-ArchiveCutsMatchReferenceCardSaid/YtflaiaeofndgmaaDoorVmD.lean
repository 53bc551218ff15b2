/-
  THE V-MACHINE,text D: VmGlob,VmShelf,VmGlobs,VmBits,VmUpto.
-/
import Derived.Test.YtflaiaeofndgmaaDoorVmC
import Derived.LaidMore
import Derived.MakeChecks
import Derived.OpenShut
import Derived.Lib.LaidTab
import Derived.Below
import Derived.JoinedCond
namespace Go.Vm
open Go.ChangeShapes Go.RowKit Go.WideShapes Go.ChangeAt Go.WideMaps Go.WideElems
theorem laid_ints {P:Program} {W:World} {nm:String} {g:Nat} {t e:TypeId} {n:Nat} {k:IntKind} {l:List Int} (hg:P.globalNamed nm=some g) (hty:(P.globals[g]?).map (·.type)=some t) (ht:P.underlying t=some (.array n e)) (he:P.underlying e=some (.int k)) (h1:P.cellsOf e=1) (hts:P.cellsOf t=n) (hn:l.length=n)
    (h:laidMet P [(nm,.agg (l.map fun i=>.lit (.int k i)))] W):GloAt (allS W) W g (l.flatMap (cI k)):=by
  obtain ⟨ps,⟨g0,t0,cs0,f0,p0,q0,hg0,ht0,hv0,hd0,_,_⟩,_,_⟩:=h
  obtain rfl:=Option.some.inj (hg.symm.trans hg0)
  obtain rfl:=Option.some.inj (hty.symm.trans ht0)
  obtain ⟨xs,m,rfl,hx,hlen,hxl,hel⟩:=DataW.trod_array ht hd0
  simp only [Prod.mk.injEq,DataW.agg.injEq] at hx
  have hheap:∃ E fz,W.heap[g]? = some (.cells cs0 E fz):=by
    have hv:=hv0
    simp only [World.var?,hg,Option.bind_some] at hv
    split at hv
    · rename_i c E fz hh
      cases hv
      exact ⟨E,fz,hh⟩
    · cases hv
  obtain ⟨E,fz,hh⟩:=hheap
  have hfl:∀ (l:List Int),l.flatMap (cI k)=l.map fun i=>.v (.int k i):=by
    intro l
    induction l with
    | nil=>rfl
    | cons x l ih=>rw [List.flatMap_cons,ih]; rfl
  rw [hfl]
  have hsize:cs0.size=n:=by
    have h0:=hlen
    simp only [Array.length_toList,hts] at h0
    exact h0
  refine ⟨cs0,E,fz,heap_lt hh,hh,by rw [List.length_map,hn,hsize],RCs.of_get _ 0 fun j x hx'=>?_⟩
  rw [List.getElem?_map,Option.map_eq_some_iff] at hx'
  obtain ⟨i,hi,rfl⟩:=hx'
  have hjl:j < l.length:=(List.getElem?_eq_some_iff.1 hi).1
  have hj:=hel j (by omega)
  rw [List.getElem?_eq_getElem (by omega),h1,Nat.mul_one] at hj
  obtain ⟨a,ha1,ha2,_⟩:=DataW.trod_int he hj
  have hxj:(xs.map (·.1))[j]? = (l.map fun i=>(DataW.lit (.int k i):DataW Unit))[j]? := by rw [hx.1]
  rw [List.getElem?_map,List.getElem?_map,hi,List.getElem?_eq_getElem (show j < xs.length by omega),ha2] at hxj
  simp only [Option.map_some,Option.some.injEq,DataW.lit.injEq,Lit.int.injEq,true_and] at hxj
  subst hxj
  have hc:cs0[j]? = some (.int k a):=by
    have:=congrArg (fun l:List Value=>l[0]?) ha1
    simpa [List.getElem?_take,List.getElem?_drop] using this
  exact ⟨_,by simpa using hc,by unfold RD; exact ⟨rfl,rfl⟩⟩
end Go.Vm
namespace Go.Vm
open Go.RowKit
section
variable {P:Program} {S:Nat→Prop} {w:World}
theorem ACall.ofBelowG {k g:Nat} {cs:List Dat} (hk:Callable P k) {args:List AV} {us:List Value} {res:AV} {u:Value} (hargs:flatVs args=some us) (hal:decide (args.length < resSlot)=true) (hres:flatR res=some u)
    (h:∀ (w:World) (S:Nat→Prop),GloAt S w g cs→Calls P k us.toArray w fun e w'=>e=.returned u∧Below w.heap.size w w'):ACall P k args [.glo g cs] res [.glo g cs]:=by
  have hal':=of_decide_eq_true hal
  refine ⟨hk,fun w S β vs hvs hm=>?_⟩
  obtain ⟨h1,h2⟩:=flatVs_get hargs
  have hvu:vs=us:=by
    apply List.ext_getElem?
    intro i
    rcases Nat.lt_or_ge i args.length with hi | hi
    · have ha:args[i]? = some args[i]:=List.getElem?_eq_getElem hi
      obtain ⟨u',hu',hv⟩:=h2 i _ ha
      obtain ⟨u0,hr,hu0⟩:=hm.rel i
      rw [fget_finFr_arg hi,List.getD_eq_getElem?_getD,ha,Option.getD_some] at hr
      have hvi:vs[i]? = some vs[i]:=List.getElem?_eq_getElem (by omega)
      have e1:=hu0 vs[i] (by simp [hvi])
      have hfl:=(flatV_mk (S:=S) (w:=w) (β:=β) hv (i,0)).2.2.2
      have e2:=flatV_ok hv ((flat_slot hfl).1 hr)
      rw [hvi,hu',e1,e2]
    · rw [List.getElem?_eq_none (by omega),List.getElem?_eq_none (by omega)]
  subst hvu
  have hgf:fget (finFr args [.glo g cs]) (virtBase+0)=.glo g cs:=by
    rw [fget_finFr_virt (by simp only [resSlot] at hal' ⊢; omega),if_pos (by simp)]
    rfl
  have hglo:GloAt S w g cs:=by
    obtain ⟨u0,hr,_⟩:=hm.rel (virtBase+0)
    rw [hgf] at hr
    exact hr.2.2
  refine (h w S hglo).mono ?_
  rintro e w' ⟨rfl,hb⟩
  have hg:=Mem.grow hm w' hb.block hb.size hb.os hb.tape hb.output
  have hr:∀ β',RSlot (condG []) S w' β' resSlot res u:=fun β'=>(flatR_mk hres β').1
  refine ⟨u,S,β,rfl,hg.toRes (vout:=[.glo g cs]) (fun j a ha=>?_) hr (flatR_mk (S:=S) (w:=w') hres β).2.1 (flatR_mk (S:=S) (w:=w') hres β).2.2 (fun x u' hx hl=>lent_virt (by rw [← h1]; have:virtBase=resSlot+1:=rfl; omega) hx hl)⟩
  cases j with
  | zero =>
    simp only [List.getElem?_cons_zero,Option.some.injEq] at ha
    subst ha
    exact ⟨hgf,rfl⟩
  | succ j=>simp at ha
theorem flatR_ok {S':Nat→Prop} {w':World} {a:AV} {u:Value} (h:flatR a=some u) {g:List (Nat×Bool)→Bool} {β:Path→Value} {x:Nat} {v:Value} (hr:RSlot g S' w' β x a v):v=u:=by
  unfold flatR at h
  split at h
  · rename_i vs
    simp only [Option.map_eq_some_iff] at h
    obtain ⟨us,hus,rfl⟩:=h
    obtain ⟨h1,h2⟩:=flatVs_get hus
    obtain ⟨l,rfl,_,hl⟩:=hr
    have:l=us:=by
      apply List.ext_getElem?
      intro j
      rcases Nat.lt_or_ge j vs.length with hj | hj
      · have hv:vs[j]? = some vs[j]:=List.getElem?_eq_getElem hj
        obtain ⟨u',hu',hf⟩:=h2 j _ hv
        obtain ⟨c,hc,hrc⟩:=All2.get hl j _ hv
        rw [hc,hu',flatV_ok hf hrc]
      · have:=All2.len hl
        rw [List.getElem?_eq_none (by omega),List.getElem?_eq_none (by omega)]
    rw [this]
  · obtain ⟨_,_,_,h4⟩:=flatV_mk (S:=S') (w:=w') (β:=β) h (x,0)
    exact flatV_ok h ((flat_slot h4).1 hr)
theorem ACall.below {k:Nat} {args:List AV} {us:List Value} {res:AV} {u:Value} (h:ACall P k args [] res []) (hargs:flatVs args=some us) (hal:args.length < resSlot) (hres:flatR res=some u) (w:World) :
    Calls P k us.toArray w fun e w'=>e=.returned u∧Below w.heap.size w w':=by
  obtain ⟨h1,h2⟩:=flatVs_get hargs
  have hno:∀ y i,(fget (finFr args []) y).ownsAt i=false:=by
    intro y i
    rcases finFr_cases args [] y with hy | ⟨hy1,hy2⟩ | ⟨j,rfl⟩
    · rw [fget_finFr_arg hy]
      have ha:args[y]? = some (args.getD y .junk):=by simp [List.getD_eq_getElem?_getD,List.getElem?_eq_getElem hy]
      obtain ⟨u',_,hv⟩:=h2 y _ ha
      obtain ⟨_,_,h3,h4⟩:=flatV_mk (S:=fun _=>True) (w:=w) (β:=fun _=>.bool false) hv (0,0)
      cases hj:(args.getD y .junk).ownsAt i with
      | false=>rfl
      | true =>
        have:=(flat_ownsAt h4 i hj).2
        rw [h3] at this; cases this
    · rw [fget_finFr_none hy1 hy2]
      cases i <;> rfl
    · rw [fget_finFr_virt hal,if_neg (by simp)]
      cases i <;> rfl
  have hm:Mem ⟨w,ownedBy (finFr args []) (fun _=>.bool false),fun _=>False,lentAt (fun _=>.bool false) ([]:List AV).length,[]⟩ [] (fun _=>False) (fun _=>.bool false) (finFr args []) (fun x=>(us[x]?).or (lentAt (fun _=>.bool false) ([]:List AV).length x)) w:=by
    refine ⟨fun x=>?_,fun x l a hx=>?_,fun x i y j b hx=>?_,fun x i b hx=>?_,fun b hb=>hb.elim,fun b hb=>hb.elim,fun _ _ _=>rfl,rfl,rfl,rfl,Nat.le_refl _⟩
    · have hl:lentAt (fun _=>.bool false) ([]:List AV).length x=none:=by
        unfold lentAt
        rw [if_neg (by simp)]
      rcases finFr_cases args [] x with hy | ⟨hy1,hy2⟩ | ⟨j,rfl⟩
      · rw [fget_finFr_arg hy]
        have ha:args[x]? = some (args.getD x .junk):=by simp [List.getD_eq_getElem?_getD,List.getElem?_eq_getElem hy]
        obtain ⟨u',hu',hv⟩:=h2 x _ ha
        obtain ⟨h5,_,_,h4⟩:=flatV_mk (S:=fun _=>False) (w:=w) (β:=fun _=>.bool false) hv (x,0)
        exact ⟨u',(flat_slot h4).2 h5,fun u0 h0=>by rw [hl,hu'] at h0; simpa using h0.symm⟩
      · rw [fget_finFr_none hy1 hy2]
        refine ⟨undef,trivial,fun u0 h0=>?_⟩
        rw [hl,List.getElem?_eq_none (by omega)] at h0
        cases h0
      · rw [fget_finFr_virt hal,if_neg (by simp)]
        refine ⟨undef,trivial,fun u0 h0=>?_⟩
        rw [hl,List.getElem?_eq_none (by simp only [virtBase,resSlot] at *; omega)] at h0
        cases h0
    · rcases finFr_cases args [] x with hy | ⟨hy1,hy2⟩ | ⟨j,rfl⟩
      · rw [fget_finFr_arg hy] at hx
        have ha:args[x]? = some (args.getD x .junk):=by simp [List.getD_eq_getElem?_getD,List.getElem?_eq_getElem hy]
        obtain ⟨u',_,hv⟩:=h2 x _ ha
        rw [hx] at hv
        cases hv
      · rw [fget_finFr_none hy1 hy2] at hx; cases hx
      · rw [fget_finFr_virt hal,if_neg (by simp)] at hx; cases hx
    · rw [hno] at hx; cases hx
    · rw [hno] at hx; cases hx
  refine (h.2 w (fun _=>False) (fun _=>.bool false) us h1.symm hm).mono ?_
  rintro e w' ⟨v,S',β',rfl,hm'⟩
  have hv:v=u:=by
    obtain ⟨v0,hr,hu0⟩:=hm'.rel resSlot
    rw [fget_cons_self] at hr
    have e1:=hu0 v (by simp)
    subst e1
    exact flatR_ok hres hr
  subst hv
  refine ⟨rfl,⟨hm'.os,hm'.tape,hm'.output,hm'.size,fun b hb=>hm'.old b hb ?_⟩⟩
  rintro ⟨y,i,ho,_⟩
  rw [hno] at ho; cases ho
end
end Go.Vm
namespace Go.Vm
open Go.ChangeShapes Go.RowKit Go.WideShapes Go.ChangeAt Go.WideMaps Go.WideElems
abbrev Glos:=List (Nat×List Dat)
def gvs (gs:Glos):List AV:=gs.map fun g=>.glo g.1 g.2
def gbs (gs:Glos):Path→Value:=fun p=>match gs[p.1 - virtBase]? with
  | some g=>if virtBase≤p.1 then .pointer (some ⟨g.1,0,none⟩) else .bool false
  | none=>.bool false
theorem gbs_at {gs:Glos} {j:Nat} {g:Nat×List Dat} (h:gs[j]? = some g) (i:Nat):gbs gs (virtBase+j,i)=.pointer (some ⟨g.1,0,none⟩):=by
  simp [gbs,h]
theorem start_memGs {W:World} {args:List AV} {us:List Value} {gs:Glos} (hlen:us.length=args.length) (hn:args.length < resSlot) (hd:args.all AV.isData=true) (hr:All2 (fun _ a u=>RFlat (allS W) W (fun _=>.bool false) (0,0) a u) 0 args us)
    (hg:∀ g∈gs,GloAt (allS W) W g.1 g.2) :
    (∀ x i,(fget (finFr args (gvs gs)) x).ownsAt i=false)∧Mem ⟨W,ownedBy (finFr args (gvs gs)) (gbs gs),allS W,lentAt (gbs gs) (gvs gs).length,[]⟩ [] (allS W) (gbs gs) (finFr args (gvs gs)) (fun x=>(us[x]?).or (lentAt (gbs gs) (gvs gs).length x)) W:=by
  have hgl:(gvs gs).length=gs.length:=by simp [gvs]
  have hat:∀ x,(∃ a u,fget (finFr args (gvs gs)) x=a∧a.isData=true∧us[x]? = some u∧RFlat (allS W) W (fun _=>.bool false) (0,0) a u) ∨
      (∃ j g,x=virtBase+j∧gs[j]? = some g∧fget (finFr args (gvs gs)) x=.glo g.1 g.2∧us[x]? = none∧lentAt (gbs gs) (gvs gs).length x=some (.pointer (some ⟨g.1,0,none⟩))) ∨
      (fget (finFr args (gvs gs)) x=.junk∧us[x]? = none∧lentAt (gbs gs) (gvs gs).length x=none):=by
    intro x
    rcases finFr_cases args (gvs gs) x with h | ⟨h1,h2⟩ | ⟨j,rfl⟩
    · left
      obtain ⟨u,hu,hru⟩:=All2.get hr x args[x] (by simp [h])
      refine ⟨args[x],u,?_,(List.all_eq_true.1 hd) _ (List.getElem_mem h),by simpa using hu,hru⟩
      rw [fget_finFr_arg h,List.getD_eq_getElem?_getD]
      simp [h]
    · right; right
      refine ⟨fget_finFr_none h1 h2,by simp; omega,?_⟩
      unfold lentAt
      rw [if_neg (by omega)]
    · right
      have hu:us[virtBase+j]? = none:=by
        rw [List.getElem?_eq_none]
        simp only [virtBase,resSlot] at *
        omega
      rcases Nat.lt_or_ge j gs.length with hj | hj
      · left
        have hgj:gs[j]? = some gs[j]:=List.getElem?_eq_getElem hj
        refine ⟨j,gs[j],rfl,hgj,?_,hu,?_⟩
        · rw [fget_finFr_virt hn,if_pos (by omega),List.getD_eq_getElem?_getD]
          simp [gvs,hj]
        · unfold lentAt
          rw [if_pos ⟨by omega,by omega⟩,gbs_at hgj]
      · right
        refine ⟨by rw [fget_finFr_virt hn,if_neg (by omega)],hu,?_⟩
        unfold lentAt
        rw [if_neg (by omega)]
  have hown:∀ x i,(fget (finFr args (gvs gs)) x).ownsAt i=false:=by
    intro x i
    rcases hat x with ⟨a,u,h1,h2,_,_⟩ | ⟨j,g,_,_,h1,_⟩ | ⟨h1,_,_⟩
    · rw [h1]
      cases a <;> first | (cases i <;> rfl) | (simp [AV.isData] at h2)
    · rw [h1]; cases i <;> rfl
    · rw [h1]; cases i <;> rfl
  refine ⟨hown,fun x=>?_,fun x l a h=>?_,fun x i y j b h=>?_,fun x i b h=>?_,fun b hb=>⟨hb,.inl hb⟩,fun _ h=>h,fun _ _ _=>rfl,rfl,rfl,rfl,Nat.le_refl _⟩
  · rcases hat x with ⟨a,u,h1,h2,h3,h4⟩ | ⟨j,g,rfl,hgj,h1,h2,h3⟩ | ⟨h1,h2,h3⟩
    · refine ⟨u,?_,fun u' hu'=>by simp [h3] at hu'; exact hu'.symm⟩
      rw [h1]
      cases a with
      | d y=>exact (flat_slot rfl).2 h4
      | agg y=>exact (flat_slot rfl).2 h4
      | _=>simp [AV.isData] at h2
    · refine ⟨.pointer (some ⟨g.1,0,none⟩),?_,fun u' hu'=>by
        simp only [h2,h3] at hu'
        simpa using hu'.symm⟩
      rw [h1]
      exact (flat_slot rfl).2 ⟨(gbs_at hgj 0).symm,rfl,hg g (List.mem_of_getElem? hgj)⟩
    · refine ⟨undef,?_,fun u' hu'=>by
        simp only [h2,h3] at hu'
        cases hu'⟩
      rw [h1]
      exact (flat_slot rfl).2 trivial
  · rcases hat x with ⟨a',u,h1,h2,_,_⟩ | ⟨_,_,_,_,h1,_⟩ | ⟨h1,_,_⟩
    · rw [h] at h1
      subst h1
      simp [AV.isData] at h2
    · rw [h] at h1; cases h1
    · rw [h] at h1; cases h1
  · rw [hown] at h; cases h
  · rw [hown] at h; cases h
theorem ACall.lawGs {P:Program} {k:Nat} {gs:Glos} {args:List AV} {us:List Value} {W:World} {b:Bool} (h:ACall P k args (gvs gs) (.d (.v (.bool b))) (gvs gs)) (hlen:us.length=args.length) (hn:args.length < resSlot) (hd:args.all AV.isData=true)
    (hr:All2 (fun _ a u=>RFlat (allS W) W (fun _=>.bool false) (0,0) a u) 0 args us) (hg:∀ g∈gs,GloAt (allS W) W g.1 g.2) :
    Calls P k us.toArray W fun e W'=>e=.returned (.bool b)∧KeptAll W W':=by
  obtain ⟨hown,hm0⟩:=start_memGs hlen hn hd hr hg
  refine (h.2 W (allS W) (gbs gs) us hlen hm0).mono fun e W' ⟨u,S',β',he,hm⟩=>?_
  obtain ⟨v,hv1,hv2⟩:=hm.rel resSlot
  have hu:=hv2 u (by simp)
  subst hu
  rw [show fget ((resSlot,AV.d (.v (.bool b))) :: boxFr virtBase (gvs gs)) resSlot=.d (.v (.bool b)) from fget_cons_self _ _ _] at hv1
  have hb:u=.bool b:=hv1.1
  refine ⟨by rw [he,hb],hm.os,hm.output,hm.size,fun i hi=>hm.old i hi ?_⟩
  rintro ⟨x,j,hx,_⟩
  rw [hown] at hx
  cases hx
theorem law_contractGs {β:Type} {H:Type} {enc:TypeId×Value→H} {P:Program} {k:Nat} (gl:Glos) {f:Func} {s:ChangeSpec} {av:β→List AV} {Q:β→Prop} {r:Bool} {tb:TypeId} {ts:List TypeId} {apart fresh handsOn:Bool}
    (hts:f.params.toList=ts) (hop:OpensArgs P ts av Q) (hav:∀ b,(av b).length < resSlot) (hlaw:∀ b,Q b→ACall P k (av b) (gvs gl) (.d (.v (.bool r))) (gvs gl))
    (hlaid:laidOutB P=true) (hread:(ts.all fun t=>P.readableRec t && decide (t < P.types.size))=true) (hvars:s.vars=[]) (hres:f.resultTypes=#[tb]) (htb:P.underlying tb=some .bool)
    (hspec:∀ ds:List (DataW H),ds.length=ts.length→s.fn H (ds++[])={ results:=[.lit (.bool r)],args:=ds })
    (W:World) (base:Nat) (args:Array Value) (ds gs:List (DataW H)) (before:List MemPlace) (hg:∀ g∈gl,GloAt (allS W) W g.1 g.2)
    (hval:∀ (j:Nat) t v,f.params[j]? = some t→args[j]? = some v→Value.okWide P W .any base t v)
    (hW:DataW.Whole enc P f.params.toList s.vars apart W args.toList ds gs before) :
    Calls P k args W fun e W'=>∃ v,e=.returned v∧s.post enc P f apart fresh handsOn false W args v W':=by
  subst hts
  have hW':=hW
  have hlt:=hW.lt
  obtain ⟨p,q,hA,hV,rfl,hfz,hnd⟩:=hW
  rw [hvars] at hV
  obtain ⟨rfl,rfl⟩:gs=[]∧q=[]:=by
    cases gs with
    | nil=>exact ⟨rfl,hV⟩
    | cons=>exact hV.elim
  obtain ⟨b,hQ,hvl,hda,hr⟩:=hop H enc W base args.toList ds p (fun j t v h1 h2=>hval j t v (by simpa using h1) (by simpa using h2)) hA
  have hdl:∀ {ts:List TypeId} {vs:List Value} {ds:List (DataW H)} {ps:List MemPlace},DataW.TrodAll enc P W 0 (fun _=>true) true ts vs ds ps→ds.length=ts.length:=by
    intro ts
    induction ts with
    | nil=>intro vs ds ps h; cases vs <;> cases ds <;> first | rfl | exact h.elim
    | cons t ts ih =>
      intro vs ds ps h
      cases vs with
      | nil=>exact h.elim
      | cons v vs =>
        cases ds with
        | nil=>exact h.elim
        | cons d ds =>
          obtain ⟨_,_,_,h2,_⟩:=h
          simp [ih h2]
  have hsp:=hspec ds (hdl hA)
  have hc:=(hlaw b hQ).lawGs (W:=W) (us:=args.toList) hvl (hav b) hda (hr 0) hg
  rw [show args.toList.toArray=args from by simp] at hc
  refine hc.mono fun e W' ⟨he,hk⟩=>⟨_,he,?_⟩
  refine post_kept (pa:=p) (pv:=[]) hW' hk (fun _ _ _=>?_) (fun sp hb=>?_) (fun sp hb=>?_) (by simp) ?_
  · rw [hsp,hres]
    exact trodAll_mk1 (shut_bool htb r)
  · rw [hsp]
    exact TrodAll_kept hlaid hk sp hread hA (fun x hx=>hlt x (by simp [hx])) (fun x hx=>hb x (by simp [hx]))
  · rw [hsp,hvars]
    rfl
  · exact ok_one hres rfl (okWide_bool_mk htb r)
theorem laid_one {P:Program} {W:World} {nm:String} {d:DataW Unit}:∀ {lay:List (String×DataW Unit)},(nm,d)∈lay→laidMet P lay W→laidMet P [(nm,d)] W:=by
  intro lay hmem h
  obtain ⟨ps,h1,h2,h3⟩:=h
  have key:∀ {lay:List (String×DataW Unit)} {ps:List MemPlace},(nm,d)∈lay→DataW.LaidVars P W lay ps→∃ qs,DataW.LaidVars P W [(nm,d)] qs∧∃ ps1 ps2,ps=ps1++qs++ps2:=by
    intro lay
    induction lay with
    | nil=>intro ps hm _; cases hm
    | cons x lay ih =>
      intro ps hm hl
      obtain ⟨y,e⟩:=x
      obtain ⟨g0,t0,cs0,f0,p0,q0,a1,a2,a3,a4,a5,a6⟩:=hl
      rcases List.mem_cons.1 hm with he | hm
      · simp only [Prod.mk.injEq] at he
        obtain ⟨rfl,rfl⟩:=he
        exact ⟨MemPlace.row ⟨g0,0,none⟩ cs0.size++p0++[],⟨g0,t0,cs0,f0,p0,[],a1,a2,a3,a4,rfl,rfl⟩,[],q0,by simp [a6]⟩
      · obtain ⟨qs,h4,ps1,ps2,h5⟩:=ih hm a5
        exact ⟨qs,h4,MemPlace.row ⟨g0,0,none⟩ cs0.size++p0++ps1,ps2,by rw [a6,h5]; simp [List.append_assoc]⟩
  obtain ⟨qs,h4,ps1,ps2,rfl⟩:=key hmem h1
  refine ⟨qs,h4,?_,fun b off hb=>h3 b off (by simp [hb])⟩
  rw [List.append_assoc] at h2
  exact (List.nodup_append.1 (List.nodup_append.1 h2).2.1).1
end Go.Vm
namespace Go.Vm
end Go.Vm
namespace Go.Vm
open Go.ChangeShapes Go.WideShapes Go.ChangeAt Go.WideMaps Go.WideElems Go.RowKit
section
variable {P:Program} {t:TypeId}
end
end Go.Vm
