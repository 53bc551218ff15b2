/-
  THE V-MACHINE,text D: VmShelf,VmGlobs,VmBits,VmUpto,VmTake,VmShaped,VmLend,VmRow,VmSort,VmSort2,VmSort3,VmSort4.
-/
import Derived.Test.YtcjnhgcbefkbcaaGreatDoorVmC
import Derived.Lib.LaidTab
import Derived.Below
import Derived.JoinedCond
import Derived.Lib.SliceRun
import Derived.HandedShaped
import Derived.Handed
import Derived.Shelf.Vars
import Derived.Sort.Row
import Derived.Sort.Grow
import Derived.Sort.EncStr
import Derived.Lib.SlicesCompact
import Derived.Sort.Defs
import Derived.Sort.Statements
import Derived.Lib.BitFns
import Derived.Shelf.GgSortFunc.InsertionK
namespace Go.Vm
open Go.RowKit
section
variable {P:Program} {S:Nat→Prop} {w:World}
theorem ACall.ofBelowG {k g:Nat} {cs:List Dat} (hk:Callable P k) {args:List AV} {us:List Value} {res:AV} {u:Value} (hargs:flatVs args=some us) (hal:decide (args.length < resSlot)=true) (hres:flatR res=some u)
    (h:∀ (w:World) (S:Nat→Prop),GloAt S w g cs→Calls P k us.toArray w fun e w'=>e=.returned u∧Below w.heap.size w w'):ACall P k args [.glo g cs] res [.glo g cs]:=by
  have hal':=of_decide_eq_true hal
  refine ⟨hk,fun w S β vs hvs hm=>?_⟩
  obtain ⟨h1,h2⟩:=flatVs_get hargs
  have hvu:vs=us:=by
    apply List.ext_getElem?
    intro i
    rcases Nat.lt_or_ge i args.length with hi | hi
    · have ha:args[i]? = some args[i]:=List.getElem?_eq_getElem hi
      obtain ⟨u',hu',hv⟩:=h2 i _ ha
      obtain ⟨u0,hr,hu0⟩:=hm.rel i
      rw [fget_finFr_arg hi,List.getD_eq_getElem?_getD,ha,Option.getD_some] at hr
      have hvi:vs[i]? = some vs[i]:=List.getElem?_eq_getElem (by omega)
      have e1:=hu0 vs[i] (by simp [hvi])
      have hfl:=(flatV_mk (S:=S) (w:=w) (β:=β) hv (i,0)).2.2.2
      have e2:=flatV_ok hv ((flat_slot hfl).1 hr)
      rw [hvi,hu',e1,e2]
    · rw [List.getElem?_eq_none (by omega),List.getElem?_eq_none (by omega)]
  subst hvu
  have hgf:fget (finFr args [.glo g cs]) (virtBase+0)=.glo g cs:=by
    rw [fget_finFr_virt (by simp only [resSlot] at hal' ⊢; omega),if_pos (by simp)]
    rfl
  have hglo:GloAt S w g cs:=by
    obtain ⟨u0,hr,_⟩:=hm.rel (virtBase+0)
    rw [hgf] at hr
    exact hr.2.2
  refine (h w S hglo).mono ?_
  rintro e w' ⟨rfl,hb⟩
  have hg:=Mem.grow hm w' hb.block hb.size hb.os hb.tape hb.output
  have hr:∀ β',RSlot (condG []) S w' β' resSlot res u:=fun β'=>(flatR_mk hres β').1
  refine ⟨u,S,β,rfl,hg.toRes (vout:=[.glo g cs]) (fun j a ha=>?_) hr (flatR_mk (S:=S) (w:=w') hres β).2.1 (flatR_mk (S:=S) (w:=w') hres β).2.2 (fun x u' hx hl=>lent_virt (by rw [← h1]; have:virtBase=resSlot+1:=rfl; omega) hx hl)⟩
  cases j with
  | zero =>
    simp only [List.getElem?_cons_zero,Option.some.injEq] at ha
    subst ha
    exact ⟨hgf,rfl⟩
  | succ j=>simp at ha
theorem TabIs.of_glo {nm:String} {g:Nat} {k:IntKind} {zs:List Int} (hg:P.globalNamed nm=some g) (h:GloAt S w g (zs.flatMap (cI k))):Lib.TabIs P w nm k zs:=by
  obtain ⟨arr,E,fz,_,h2,h3,h4⟩:=h
  have hfl:∀ (l:List Int),l.flatMap (cI k)=l.map fun i=>.v (.int k i):=by
    intro l
    induction l with
    | nil=>rfl
    | cons x l ih=>rw [List.flatMap_cons,ih]; rfl
  rw [hfl] at h3 h4
  have ha:arr=(zs.map fun z=>Value.int k z).toArray:=by
    apply Array.ext'
    apply List.ext_getElem?
    intro j
    rcases Nat.lt_or_ge j zs.length with hj | hj
    · obtain ⟨u,hu,hr⟩:=RCs.get _ 0 j (.v (.int k zs[j])) h4 (by simp [hj])
      rw [Nat.zero_add] at hu
      have e:u=Value.int k zs[j]:=hr.1
      subst e
      rw [Array.getElem?_toList,hu,List.getElem?_map,List.getElem?_eq_getElem hj]
      rfl
    · rw [List.getElem?_eq_none (by simpa [h3] using hj),List.getElem?_eq_none (by simpa using hj)]
  simp only [Lib.TabIs,World.var?,hg,Option.bind_some,h2,ha]
theorem flatR_ok {S':Nat→Prop} {w':World} {a:AV} {u:Value} (h:flatR a=some u) {g:List (Nat×Bool)→Bool} {β:Path→Value} {x:Nat} {v:Value} (hr:RSlot g S' w' β x a v):v=u:=by
  unfold flatR at h
  split at h
  · rename_i vs
    simp only [Option.map_eq_some_iff] at h
    obtain ⟨us,hus,rfl⟩:=h
    obtain ⟨h1,h2⟩:=flatVs_get hus
    obtain ⟨l,rfl,_,hl⟩:=hr
    have:l=us:=by
      apply List.ext_getElem?
      intro j
      rcases Nat.lt_or_ge j vs.length with hj | hj
      · have hv:vs[j]? = some vs[j]:=List.getElem?_eq_getElem hj
        obtain ⟨u',hu',hf⟩:=h2 j _ hv
        obtain ⟨c,hc,hrc⟩:=All2.get hl j _ hv
        rw [hc,hu',flatV_ok hf hrc]
      · have:=All2.len hl
        rw [List.getElem?_eq_none (by omega),List.getElem?_eq_none (by omega)]
    rw [this]
  · obtain ⟨_,_,_,h4⟩:=flatV_mk (S:=S') (w:=w') (β:=β) h (x,0)
    exact flatV_ok h ((flat_slot h4).1 hr)
theorem ACall.below {k:Nat} {args:List AV} {us:List Value} {res:AV} {u:Value} (h:ACall P k args [] res []) (hargs:flatVs args=some us) (hal:args.length < resSlot) (hres:flatR res=some u) (w:World) :
    Calls P k us.toArray w fun e w'=>e=.returned u∧Below w.heap.size w w':=by
  obtain ⟨h1,h2⟩:=flatVs_get hargs
  have hno:∀ y i,(fget (finFr args []) y).ownsAt i=false:=by
    intro y i
    rcases finFr_cases args [] y with hy | ⟨hy1,hy2⟩ | ⟨j,rfl⟩
    · rw [fget_finFr_arg hy]
      have ha:args[y]? = some (args.getD y .junk):=by simp [List.getD_eq_getElem?_getD,List.getElem?_eq_getElem hy]
      obtain ⟨u',_,hv⟩:=h2 y _ ha
      obtain ⟨_,_,h3,h4⟩:=flatV_mk (S:=fun _=>True) (w:=w) (β:=fun _=>.bool false) hv (0,0)
      cases hj:(args.getD y .junk).ownsAt i with
      | false=>rfl
      | true =>
        have:=(flat_ownsAt h4 i hj).2
        rw [h3] at this; cases this
    · rw [fget_finFr_none hy1 hy2]
      cases i <;> rfl
    · rw [fget_finFr_virt hal,if_neg (by simp)]
      cases i <;> rfl
  have hm:Mem ⟨w,ownedBy (finFr args []) (fun _=>.bool false),fun _=>False,lentAt (fun _=>.bool false) ([]:List AV).length⟩ [] (fun _=>False) (fun _=>.bool false) (finFr args []) (fun x=>(us[x]?).or (lentAt (fun _=>.bool false) ([]:List AV).length x)) w:=by
    refine ⟨fun x=>?_,fun x l a hx=>?_,fun x i y j b hx=>?_,fun x i b hx=>?_,fun b hb=>hb.elim,fun b hb=>hb.elim,fun _ _ _=>rfl,rfl,rfl,rfl,Nat.le_refl _⟩
    · have hl:lentAt (fun _=>.bool false) ([]:List AV).length x=none:=by
        unfold lentAt
        rw [if_neg (by simp)]
      rcases finFr_cases args [] x with hy | ⟨hy1,hy2⟩ | ⟨j,rfl⟩
      · rw [fget_finFr_arg hy]
        have ha:args[x]? = some (args.getD x .junk):=by simp [List.getD_eq_getElem?_getD,List.getElem?_eq_getElem hy]
        obtain ⟨u',hu',hv⟩:=h2 x _ ha
        obtain ⟨h5,_,_,h4⟩:=flatV_mk (S:=fun _=>False) (w:=w) (β:=fun _=>.bool false) hv (x,0)
        exact ⟨u',(flat_slot h4).2 h5,fun u0 h0=>by rw [hl,hu'] at h0; simpa using h0.symm⟩
      · rw [fget_finFr_none hy1 hy2]
        refine ⟨undef,trivial,fun u0 h0=>?_⟩
        rw [hl,List.getElem?_eq_none (by omega)] at h0
        cases h0
      · rw [fget_finFr_virt hal,if_neg (by simp)]
        refine ⟨undef,trivial,fun u0 h0=>?_⟩
        rw [hl,List.getElem?_eq_none (by simp only [virtBase,resSlot] at *; omega)] at h0
        cases h0
    · rcases finFr_cases args [] x with hy | ⟨hy1,hy2⟩ | ⟨j,rfl⟩
      · rw [fget_finFr_arg hy] at hx
        have ha:args[x]? = some (args.getD x .junk):=by simp [List.getD_eq_getElem?_getD,List.getElem?_eq_getElem hy]
        obtain ⟨u',_,hv⟩:=h2 x _ ha
        rw [hx] at hv
        cases hv
      · rw [fget_finFr_none hy1 hy2] at hx; cases hx
      · rw [fget_finFr_virt hal,if_neg (by simp)] at hx; cases hx
    · rw [hno] at hx; cases hx
    · rw [hno] at hx; cases hx
  refine (h.2 w (fun _=>False) (fun _=>.bool false) us h1.symm hm).mono ?_
  rintro e w' ⟨v,S',β',rfl,hm'⟩
  have hv:v=u:=by
    obtain ⟨v0,hr,hu0⟩:=hm'.rel resSlot
    rw [fget_cons_self] at hr
    have e1:=hu0 v (by simp)
    subst e1
    exact flatR_ok hres hr
  subst hv
  refine ⟨rfl,⟨hm'.os,hm'.tape,hm'.output,hm'.size,fun b hb=>hm'.old b hb ?_⟩⟩
  rintro ⟨y,i,ho,_⟩
  rw [hno] at ho; cases ho
end
end Go.Vm
namespace Go.Vm
open Go.ChangeShapes Go.RowKit Go.WideShapes Go.ChangeAt Go.WideMaps Go.WideElems
abbrev Glos:=List (Nat×List Dat)
def gvs (gs:Glos):List AV:=gs.map fun g=>.glo g.1 g.2
def gbs (gs:Glos):Path→Value:=fun p=>match gs[p.1 - virtBase]? with
  | some g=>if virtBase≤p.1 then .pointer (some ⟨g.1,0,none⟩) else .bool false
  | none=>.bool false
theorem gbs_at {gs:Glos} {j:Nat} {g:Nat×List Dat} (h:gs[j]? = some g) (i:Nat):gbs gs (virtBase+j,i)=.pointer (some ⟨g.1,0,none⟩):=by
  simp [gbs,h]
theorem start_memGs {W:World} {args:List AV} {us:List Value} {gs:Glos} (hlen:us.length=args.length) (hn:args.length < resSlot) (hd:args.all AV.isData=true) (hr:All2 (fun _ a u=>RFlat (allS W) W (fun _=>.bool false) (0,0) a u) 0 args us)
    (hg:∀ g∈gs,GloAt (allS W) W g.1 g.2) :
    (∀ x i,(fget (finFr args (gvs gs)) x).ownsAt i=false)∧Mem ⟨W,ownedBy (finFr args (gvs gs)) (gbs gs),allS W,lentAt (gbs gs) (gvs gs).length⟩ [] (allS W) (gbs gs) (finFr args (gvs gs)) (fun x=>(us[x]?).or (lentAt (gbs gs) (gvs gs).length x)) W:=by
  have hgl:(gvs gs).length=gs.length:=by simp [gvs]
  have hat:∀ x,(∃ a u,fget (finFr args (gvs gs)) x=a∧a.isData=true∧us[x]? = some u∧RFlat (allS W) W (fun _=>.bool false) (0,0) a u) ∨
      (∃ j g,x=virtBase+j∧gs[j]? = some g∧fget (finFr args (gvs gs)) x=.glo g.1 g.2∧us[x]? = none∧lentAt (gbs gs) (gvs gs).length x=some (.pointer (some ⟨g.1,0,none⟩))) ∨
      (fget (finFr args (gvs gs)) x=.junk∧us[x]? = none∧lentAt (gbs gs) (gvs gs).length x=none):=by
    intro x
    rcases finFr_cases args (gvs gs) x with h | ⟨h1,h2⟩ | ⟨j,rfl⟩
    · left
      obtain ⟨u,hu,hru⟩:=All2.get hr x args[x] (by simp [h])
      refine ⟨args[x],u,?_,(List.all_eq_true.1 hd) _ (List.getElem_mem h),by simpa using hu,hru⟩
      rw [fget_finFr_arg h,List.getD_eq_getElem?_getD]
      simp [h]
    · right; right
      refine ⟨fget_finFr_none h1 h2,by simp; omega,?_⟩
      unfold lentAt
      rw [if_neg (by omega)]
    · right
      have hu:us[virtBase+j]? = none:=by
        rw [List.getElem?_eq_none]
        simp only [virtBase,resSlot] at *
        omega
      rcases Nat.lt_or_ge j gs.length with hj | hj
      · left
        have hgj:gs[j]? = some gs[j]:=List.getElem?_eq_getElem hj
        refine ⟨j,gs[j],rfl,hgj,?_,hu,?_⟩
        · rw [fget_finFr_virt hn,if_pos (by omega),List.getD_eq_getElem?_getD]
          simp [gvs,hj]
        · unfold lentAt
          rw [if_pos ⟨by omega,by omega⟩,gbs_at hgj]
      · right
        refine ⟨by rw [fget_finFr_virt hn,if_neg (by omega)],hu,?_⟩
        unfold lentAt
        rw [if_neg (by omega)]
  have hown:∀ x i,(fget (finFr args (gvs gs)) x).ownsAt i=false:=by
    intro x i
    rcases hat x with ⟨a,u,h1,h2,_,_⟩ | ⟨j,g,_,_,h1,_⟩ | ⟨h1,_,_⟩
    · rw [h1]
      cases a <;> first | (cases i <;> rfl) | (simp [AV.isData] at h2)
    · rw [h1]; cases i <;> rfl
    · rw [h1]; cases i <;> rfl
  refine ⟨hown,fun x=>?_,fun x l a h=>?_,fun x i y j b h=>?_,fun x i b h=>?_,fun b hb=>⟨hb,.inl hb⟩,fun _ h=>h,fun _ _ _=>rfl,rfl,rfl,rfl,Nat.le_refl _⟩
  · rcases hat x with ⟨a,u,h1,h2,h3,h4⟩ | ⟨j,g,rfl,hgj,h1,h2,h3⟩ | ⟨h1,h2,h3⟩
    · refine ⟨u,?_,fun u' hu'=>by simp [h3] at hu'; exact hu'.symm⟩
      rw [h1]
      cases a with
      | d y=>exact (flat_slot rfl).2 h4
      | agg y=>exact (flat_slot rfl).2 h4
      | _=>simp [AV.isData] at h2
    · refine ⟨.pointer (some ⟨g.1,0,none⟩),?_,fun u' hu'=>by
        simp only [h2,h3] at hu'
        simpa using hu'.symm⟩
      rw [h1]
      exact (flat_slot rfl).2 ⟨(gbs_at hgj 0).symm,rfl,hg g (List.mem_of_getElem? hgj)⟩
    · refine ⟨undef,?_,fun u' hu'=>by
        simp only [h2,h3] at hu'
        cases hu'⟩
      rw [h1]
      exact (flat_slot rfl).2 trivial
  · rcases hat x with ⟨a',u,h1,h2,_,_⟩ | ⟨_,_,_,_,h1,_⟩ | ⟨h1,_,_⟩
    · rw [h] at h1
      subst h1
      simp [AV.isData] at h2
    · rw [h] at h1; cases h1
    · rw [h] at h1; cases h1
  · rw [hown] at h; cases h
  · rw [hown] at h; cases h
theorem ACall.lawGs {P:Program} {k:Nat} {gs:Glos} {args:List AV} {us:List Value} {W:World} {b:Bool} (h:ACall P k args (gvs gs) (.d (.v (.bool b))) (gvs gs)) (hlen:us.length=args.length) (hn:args.length < resSlot) (hd:args.all AV.isData=true)
    (hr:All2 (fun _ a u=>RFlat (allS W) W (fun _=>.bool false) (0,0) a u) 0 args us) (hg:∀ g∈gs,GloAt (allS W) W g.1 g.2) :
    Calls P k us.toArray W fun e W'=>e=.returned (.bool b)∧KeptAll W W':=by
  obtain ⟨hown,hm0⟩:=start_memGs hlen hn hd hr hg
  refine (h.2 W (allS W) (gbs gs) us hlen hm0).mono fun e W' ⟨u,S',β',he,hm⟩=>?_
  obtain ⟨v,hv1,hv2⟩:=hm.rel resSlot
  have hu:=hv2 u (by simp)
  subst hu
  rw [show fget ((resSlot,AV.d (.v (.bool b))) :: boxFr virtBase (gvs gs)) resSlot=.d (.v (.bool b)) from fget_cons_self _ _ _] at hv1
  have hb:u=.bool b:=hv1.1
  refine ⟨by rw [he,hb],hm.os,hm.output,hm.size,fun i hi=>hm.old i hi ?_⟩
  rintro ⟨x,j,hx,_⟩
  rw [hown] at hx
  cases hx
theorem law_contractGs {β:Type} {H:Type} {enc:TypeId×Value→H} {P:Program} {k:Nat} (gl:Glos) {f:Func} {s:ChangeSpec} {av:β→List AV} {Q:β→Prop} {r:Bool} {tb:TypeId} {ts:List TypeId} {apart fresh handsOn:Bool}
    (hts:f.params.toList=ts) (hop:OpensArgs P ts av Q) (hav:∀ b,(av b).length < resSlot) (hlaw:∀ b,Q b→ACall P k (av b) (gvs gl) (.d (.v (.bool r))) (gvs gl))
    (hlaid:laidOutB P=true) (hread:(ts.all fun t=>P.readableRec t && decide (t < P.types.size))=true) (hvars:s.vars=[]) (hres:f.resultTypes=#[tb]) (htb:P.underlying tb=some .bool)
    (hspec:∀ ds:List (DataW H),ds.length=ts.length→s.fn H (ds++[])={ results:=[.lit (.bool r)],args:=ds })
    (W:World) (base:Nat) (args:Array Value) (ds gs:List (DataW H)) (before:List MemPlace) (hg:∀ g∈gl,GloAt (allS W) W g.1 g.2)
    (hval:∀ (j:Nat) t v,f.params[j]? = some t→args[j]? = some v→Value.okWide P W .any base t v)
    (hW:DataW.Whole enc P f.params.toList s.vars apart W args.toList ds gs before) :
    Calls P k args W fun e W'=>∃ v,e=.returned v∧s.post enc P f apart fresh handsOn false W args v W':=by
  subst hts
  have hW':=hW
  have hlt:=hW.lt
  obtain ⟨p,q,hA,hV,rfl,hfz,hnd⟩:=hW
  rw [hvars] at hV
  obtain ⟨rfl,rfl⟩:gs=[]∧q=[]:=by
    cases gs with
    | nil=>exact ⟨rfl,hV⟩
    | cons=>exact hV.elim
  obtain ⟨b,hQ,hvl,hda,hr⟩:=hop H enc W base args.toList ds p (fun j t v h1 h2=>hval j t v (by simpa using h1) (by simpa using h2)) hA
  have hdl:∀ {ts:List TypeId} {vs:List Value} {ds:List (DataW H)} {ps:List MemPlace},DataW.TrodAll enc P W 0 (fun _=>true) true ts vs ds ps→ds.length=ts.length:=by
    intro ts
    induction ts with
    | nil=>intro vs ds ps h; cases vs <;> cases ds <;> first | rfl | exact h.elim
    | cons t ts ih =>
      intro vs ds ps h
      cases vs with
      | nil=>exact h.elim
      | cons v vs =>
        cases ds with
        | nil=>exact h.elim
        | cons d ds =>
          obtain ⟨_,_,_,h2,_⟩:=h
          simp [ih h2]
  have hsp:=hspec ds (hdl hA)
  have hc:=(hlaw b hQ).lawGs (W:=W) (us:=args.toList) hvl (hav b) hda (hr 0) hg
  rw [show args.toList.toArray=args from by simp] at hc
  refine hc.mono fun e W' ⟨he,hk⟩=>⟨_,he,?_⟩
  refine post_kept (pa:=p) (pv:=[]) hW' hk (fun _ _ _=>?_) (fun sp hb=>?_) (fun sp hb=>?_) (by simp) ?_
  · rw [hsp,hres]
    exact trodAll_mk1 (shut_bool htb r)
  · rw [hsp]
    exact TrodAll_kept hlaid hk sp hread hA (fun x hx=>hlt x (by simp [hx])) (fun x hx=>hb x (by simp [hx]))
  · rw [hsp,hvars]
    rfl
  · exact ok_one hres rfl (okWide_bool_mk htb r)
theorem laid_one {P:Program} {W:World} {nm:String} {d:DataW Unit}:∀ {lay:List (String×DataW Unit)},(nm,d)∈lay→laidMet P lay W→laidMet P [(nm,d)] W:=by
  intro lay hmem h
  obtain ⟨ps,h1,h2,h3⟩:=h
  have key:∀ {lay:List (String×DataW Unit)} {ps:List MemPlace},(nm,d)∈lay→DataW.LaidVars P W lay ps→∃ qs,DataW.LaidVars P W [(nm,d)] qs∧∃ ps1 ps2,ps=ps1++qs++ps2:=by
    intro lay
    induction lay with
    | nil=>intro ps hm _; cases hm
    | cons x lay ih =>
      intro ps hm hl
      obtain ⟨y,e⟩:=x
      obtain ⟨g0,t0,cs0,f0,p0,q0,a1,a2,a3,a4,a5,a6⟩:=hl
      rcases List.mem_cons.1 hm with he | hm
      · simp only [Prod.mk.injEq] at he
        obtain ⟨rfl,rfl⟩:=he
        exact ⟨MemPlace.row ⟨g0,0,none⟩ cs0.size++p0++[],⟨g0,t0,cs0,f0,p0,[],a1,a2,a3,a4,rfl,rfl⟩,[],q0,by simp [a6]⟩
      · obtain ⟨qs,h4,ps1,ps2,h5⟩:=ih hm a5
        exact ⟨qs,h4,MemPlace.row ⟨g0,0,none⟩ cs0.size++p0++ps1,ps2,by rw [a6,h5]; simp [List.append_assoc]⟩
  obtain ⟨qs,h4,ps1,ps2,rfl⟩:=key hmem h1
  refine ⟨qs,h4,?_,fun b off hb=>h3 b off (by simp [hb])⟩
  rw [List.append_assoc] at h2
  exact (List.nodup_append.1 (List.nodup_append.1 h2).2.1).1
end Go.Vm
namespace Go.Vm
theorem wrap_u8 {x:Int} (h:0≤x∧x < 256):IntKind.u8.wrap x=x:=by
  unfold IntKind.wrap
  simp [IntKind.bits,IntKind.signed]
  omega
end Go.Vm
namespace Go.Vm
open Go.ChangeShapes Go.WideShapes Go.ChangeAt Go.WideMaps Go.WideElems Go.RowKit
section
variable {P:Program} {t:TypeId}
end
end Go.Vm
namespace Go.Vm
open Go.RowKit
section
variable {P:Program} {S:Nat→Prop} {β:Path→Value} {w:World}
abbrev ArgMem (args:List AV) (us:List Value) (S:Nat→Prop) (β:Path→Value) (w:World):Prop :=
  Mem ⟨w,ownedBy (finFr args []) β,S,lentAt β ([]:List AV).length⟩ [] S β (finFr args []) (fun x=>(us[x]?).or (lentAt β ([]:List AV).length x)) w
theorem ArgMem.own {args:List AV} {us:List Value} (hm:ArgMem args us S β w) (hl:us.length=args.length) {i:Nat} {κ:TypeId} {sz:Nat} {es:List (List Dat)} (h:args[i]? = some (.own κ sz es)) :
    ∃ u,us[i]? = some u∧u=β (i,0)∧OwnAt S w u κ sz es∧∀ b,blk u=some b→ownedBy (finFr args []) β b∧¬ S b:=by
  have hi:i < args.length:=(List.getElem?_eq_some_iff.1 h).1
  obtain ⟨u0,hr,hu⟩:=hm.rel i
  have hf:fget (finFr args []) i=.own κ sz es:=by rw [fget_finFr_arg hi,List.getD_eq_getElem?_getD,h]; rfl
  rw [hf] at hr
  have hui:us[i]? = some us[i]:=List.getElem?_eq_getElem (by omega)
  have e:=hu us[i] (by simp [hui])
  refine ⟨us[i],hui,e.trans hr.1,by rw [e]; exact hr.2,fun b hb=>?_⟩
  have ho:(fget (finFr args []) i).ownsAt 0=true:=by rw [hf]; rfl
  have hb':blk (β (i,0))=some b:=by rw [← hr.1,← e]; exact hb
  exact ⟨⟨i,0,ho,hb'⟩,(hm.fre i 0 b ho hb').1⟩
theorem ArgMem.flat {args:List AV} {us:List Value} (hm:ArgMem args us S β w) (hl:us.length=args.length) {i:Nat} {x:Value} (h:args[i]? = some (.d (.v x))):us[i]? = some x:=by
  have hi:i < args.length:=(List.getElem?_eq_some_iff.1 h).1
  obtain ⟨u0,hr,hu⟩:=hm.rel i
  have hf:fget (finFr args []) i=.d (.v x):=by rw [fget_finFr_arg hi,List.getD_eq_getElem?_getD,h]; rfl
  rw [hf] at hr
  have hui:us[i]? = some us[i]:=List.getElem?_eq_getElem (by omega)
  have e:=hu us[i] (by simp [hui])
  have h0:u0=x:=hr.1
  rw [hui,e,h0]
theorem ACall.ofOwn {k:Nat} (hk:Callable P k) {args:List AV} {κ:TypeId} {sz:Nat} {es:List (List Dat)}
    (h:∀ (w:World) (S:Nat→Prop) (β:Path→Value) (us:List Value),us.length=args.length→ArgMem args us S β w→Calls P k us.toArray w fun e w'=>∃ u,e=.returned u∧OwnAt S w' u κ sz es ∧
      (∀ b,blk u=some b→ownedBy (finFr args []) β b∨w.heap.size≤b)∧(∀ b,b < w.heap.size→¬ ownedBy (finFr args []) β b→w'.heap[b]? = w.heap[b]?)∧w.heap.size≤w'.heap.size∧w'.os=w.os∧w'.tape=w.tape∧w'.output=w.output) :
    ACall P k args [] (.own κ sz es) []:=by
  refine ⟨hk,fun w S β us hl hm=>?_⟩
  refine (h w S β us hl hm).mono ?_
  rintro e w' ⟨u,rfl,hown,hblk,hold,hsize,hos,htape,hout⟩
  have hno:∀ x,x≠resSlot→fget ((resSlot,AV.own κ sz es) :: boxFr virtBase []) x=.junk:=by
    intro x hx
    rw [fget_cons_ne _ _ (Ne.symm hx)]
    rfl
  have hon:∀ x i,(fget ((resSlot,AV.own κ sz es) :: boxFr virtBase []) x).ownsAt i=true→x=resSlot∧i=0:=by
    intro x i ho
    by_cases hx:x=resSlot
    · subst hx
      rw [fget_cons_self] at ho
      refine ⟨rfl,?_⟩
      cases i with
      | zero=>rfl
      | succ i=>simp [AV.ownsAt] at ho
    · rw [hno x hx] at ho
      cases i <;> simp [AV.ownsAt,AV.isOwn] at ho
  refine ⟨u,S,fun p=>if p=(resSlot,0) then u else β p,rfl,⟨fun x=>?_,fun x l a hx=>?_,fun x i y j b h1 h2 _ _=>?_,fun x i b h1 h2=>?_,fun b hS=>⟨Nat.lt_of_lt_of_le (hm.stb b hS).1 hsize,.inl hS⟩,fun _ h=>h,fun b hb hn=>hold b hb hn,hos,htape,hout,hsize⟩⟩
  · by_cases hx:x=resSlot
    · subst hx
      refine ⟨u,?_,fun u' h=>by simpa using h.symm⟩
      rw [fget_cons_self]
      exact ⟨by simp,hown⟩
    · refine ⟨undef,by rw [hno x hx]; exact trivial,fun u' h=>?_⟩
      rw [if_neg hx] at h
      unfold lentAt at h
      rw [if_neg (by simp)] at h
      cases h
  · by_cases hx':x=resSlot
    · subst hx'; rw [fget_cons_self] at hx; cases hx
    · rw [hno x hx'] at hx; cases hx
  · obtain ⟨rfl,rfl⟩:=hon x i h1
    obtain ⟨rfl,rfl⟩:=hon y j h2
    exact ⟨rfl,rfl⟩
  · obtain ⟨rfl,rfl⟩:=hon x i h1
    simp only [if_true] at h2
    rcases hblk b h2 with h | h
    · obtain ⟨y,q,h3,h4⟩:=h
      exact ⟨(hm.fre y q b h3 h4).1,.inr ⟨y,q,h3,h4⟩⟩
    · refine ⟨fun hS=>?_,.inl h⟩
      have:=(hm.stb b hS).1
      omega
theorem setCells_row (b:Nat) (E:TypeId) (fz:Nat×Nat):∀ (vs:List Value) (o:Nat) (arr:Array Value) (w:World),w.heap[b]? = some (.cells arr E fz)→o+vs.length≤arr.size →
    w.setCells b o vs=w.setRow b (spl o vs arr.toList).toArray
  | [],o,arr,w,hb,_=>by
    have e:spl o ([]:List Value) arr.toList=arr.toList:=by simp [spl]
    rw [World.setCells,e,Array.toArray_toList,setRow_self w b arr E fz hb]
  | v :: vs,o,arr,w,hb,hl=>by
    have hl':o+(vs.length+1)≤arr.size:=by simpa using hl
    have h1:w.setCell ⟨b,o,none⟩ v=w.setRow b (arr.setIfInBounds o v):=setCell_eq_setRow w b o arr E fz v hb
    rw [World.setCells,h1,setCells_row b E fz vs (o+1) (arr.setIfInBounds o v) _ (setRow_heap w b arr _ E fz hb) (by simp; omega),setRow_setRow]
    congr 2
    have e:=list_seg_step arr.toList o v vs (by simpa using hl)
    simpa [spl,Array.toList_setIfInBounds] using e
theorem run_clear_cells (w:World) (t e ty:TypeId) (z:Value) (ht:P.underlying t=some (.slice e)) (hv:∀ w,(zeroValue e).run P w=.ok z w) (h1:∀ v∈z.cells.toList,v.oneCell'=true) (b o n c:Nat) (hn:0 < n)
    (hc:∀ j,j < n * z.cells.size→(w.cell? ⟨b,o+j,none⟩).isSome=true) (hf:∀ j,j < n * z.cells.size→w.frozen? ⟨b,o+j,none⟩=false) :
    (Builtin.clear_ #[t] ty #[.slice (some ⟨b,o,none⟩) n c]).run P w=.ok (.tuple #[]) (w.setCells b o (Builtin.zeroCells z.cells n).toList):=by
  have hl:(Builtin.zeroCells z.cells n).toList.length=n * z.cells.size:=by simp [Builtin.zeroCells]
  have hst:=run_storeCells_cells (P:=P) b o (Builtin.zeroCells z.cells n).toList 0 w (by rw [hl]; simpa using hc) (by rw [hl]; simpa using hf) (by
    intro v hv'
    simp only [Builtin.zeroCells,Array.toList_map,List.mem_map,Array.toList_range,List.mem_range] at hv'
    obtain ⟨j,hj,rfl⟩:=hv'
    have hpos:0 < z.cells.size:=by
      rcases Nat.eq_zero_or_pos z.cells.size with h | h
      · rw [h] at hj; omega
      · exact h
    have hlt:=Nat.mod_lt j hpos
    rw [getElem!_pos z.cells _ hlt]
    exact h1 _ (by simp))
  simp only [Nat.add_zero] at hst
  obtain ⟨m,rfl⟩:∃ m,n=m+1:=⟨n - 1,by omega⟩
  simp [Builtin.clear_,run_underlying ht,hv,hst]
theorem row_cells {b off:Nat} {arr:Array Value} {E:TypeId} {fz:Nat×Nat} (hb:w.heap[b]? = some (.cells arr E fz)) (m:Nat):∀ t v,((arr.toList.drop off).take m)[t]? = some v→w.cell? ⟨b,off+t,none⟩=some v:=by
  intro t v hv
  rw [List.getElem?_take] at hv
  split at hv
  case isFalse=>cases hv
  rw [List.getElem?_drop] at hv
  simp only [World.cell?,hb,Option.isSome_none,Bool.false_eq_true,if_false]
  rw [← hv,Array.getElem?_toList]
theorem row_thaw {b:Nat} {arr:Array Value} {E:TypeId} {fz:Nat×Nat} (hb:w.heap[b]? = some (.cells arr E fz)) (hfz:FzOk fz arr.size) (o:Nat) (ho:o < arr.size):w.frozen? ⟨b,o,none⟩=false:=by
  simp only [World.frozen?,hb]
  have:=hfz.out o ho
  simp only [Bool.and_eq_false_iff,decide_eq_false_iff_not]
  omega
theorem REs.ones {g:Nat→Option Value} {sz:Nat} {es:List (List Dat)} {o:Nat} (h:REs S w sz es g o) (j:Nat) (hj:j < es.length * sz):∀ v,g (o+j)=some v→v.oneCell'=true:=by
  intro v hv
  have hsz:0 < sz:=by rcases Nat.eq_zero_or_pos sz with h0 | h0 <;> simp_all
  have hq:j / sz < es.length:=Nat.div_lt_of_lt_mul (by rwa [Nat.mul_comm])
  obtain ⟨h1,h2⟩:=REs.get es o (j / sz) _ h (List.getElem?_eq_getElem hq)
  have hr:j % sz < (es[j / sz]).length:=by rw [h1]; exact Nat.mod_lt _ hsz
  obtain ⟨u,hu,hrd⟩:=RCs.get _ _ (j % sz) _ h2 (List.getElem?_eq_getElem hr)
  have e:o+j / sz * sz+j % sz=o+j:=by
    have:=Nat.div_add_mod j sz
    rw [Nat.mul_comm] at this
    omega
  rw [e,hv] at hu
  cases hu
  exact RD_one _ _ hrd
theorem isSome_cells (b:Nat) (vs:List Value) (o:Nat) (w:World) (h:∀ j,j < vs.length→(w.cell? ⟨b,o+j,none⟩).isSome=true) (k:Nat) (hk:(w.cell? ⟨b,k,none⟩).isSome=true):((w.setCells b o vs).cell? ⟨b,k,none⟩).isSome=true:=by
  by_cases hin:o≤k∧k < o+vs.length
  · have:=World.cell?_setCells_in b vs o w h (k - o) (by omega)
    rw [show o+(k - o)=k by omega] at this
    rw [this]
    rfl
  · rw [World.cell?_setCells_out b vs o w ⟨b,k,none⟩ (fun _ _=>by show k < o∨o+vs.length≤k; omega)]
    exact hk
theorem ACall.delete {k:Nat} (hk:Callable P k) {κ:TypeId} {sz:Nat} {es:List (List Dat)} (i j:Nat) (hij:i≤j) (hj:j≤es.length)
    (same:∀ (u:Value) (w:World),(∃ q n c,u=.slice q n c∧n=es.length∧n≤c)→i=j→Calls P k #[u,.int .i64 i,.int .i64 j] w fun e w'=>e=.returned u∧w'=w)
    (walk:∀ (b off n c:Nat) (w:World) (cs:List Value),n=es.length→cs.length=n * sz→n≤c→i < j→j≤n→(∀ t v,cs[t]? = some v→w.cell? ⟨b,off+t,none⟩=some v)→(∀ t,t < n * sz→w.frozen? ⟨b,off+t,none⟩=false)→(∀ v∈cs,v.oneCell'=true) →
      Calls P k #[.slice (some ⟨b,off,none⟩) n c,.int .i64 i,.int .i64 j] w fun e w'=>e=.returned (.slice (some ⟨b,off,none⟩) (n - (j - i)) c)∧∃ (zz:List Value) (w0:World),zz.length=(j - i) * sz∧w0.heap=w.heap∧w0.os=w.os∧w0.tape=w.tape∧w0.output=w.output∧w'=(w0.setCells b (off+i * sz) (cs.drop (j * sz))).setCells b (off+(n - (j - i)) * sz) zz) :
    ACall P k [.own κ sz es,.d (.v (.int .i64 i)),.d (.v (.int .i64 j))] [] (.own κ sz (es.take i++es.drop j)) []:=by
  refine ACall.ofOwn hk fun w S β us hl hm=>?_
  obtain ⟨u,hu,_,hown,hfre⟩:=hm.own hl (i:=0) rfl
  have h1:=hm.flat hl (i:=1) (x:=.int .i64 i) rfl
  have h2:=hm.flat hl (i:=2) (x:=.int .i64 j) rfl
  have hus:us=[u,.int .i64 i,.int .i64 j]:=by
    match us,hl with
    | [a,b,c],_ =>
      simp at hu h1 h2
      rw [hu,h1,h2]
  subst hus
  have hsl:∃ q n c,u=.slice q n c∧n=es.length∧n≤c:=by
    rcases hown with ⟨rfl,rfl⟩ | ⟨b,off,c,arr,E,fz,rfl,hc,_⟩
    · exact ⟨_,_,_,rfl,rfl,Nat.le_refl _⟩
    · exact ⟨_,_,_,rfl,rfl,hc⟩
  rcases Nat.lt_or_ge i j with hlt | hge
  case inr =>
    have e:i=j:=by omega
    subst e
    refine (same u w hsl rfl).mono ?_
    rintro e w' ⟨rfl,rfl⟩
    exact ⟨u,rfl,by rw [List.take_append_drop]; exact hown,fun b hb=>.inl (hfre b hb).1,fun _ _ _=>rfl,Nat.le_refl _,rfl,rfl,rfl⟩
  rcases hown with ⟨rfl,rfl⟩ | ⟨b,off,c,arr,E,fz,rfl,hc,hroom,hfz,hb,hκ,hes⟩
  · simp at hj; omega
  have hlen:es.length * sz≤c * sz:=Nat.mul_le_mul_right _ hc
  have hcl:((arr.toList.drop off).take (es.length * sz)).length=es.length * sz:=by simp; omega
  have hj':j * sz≤es.length * sz:=Nat.mul_le_mul_right _ hj
  have hi':i * sz≤j * sz:=Nat.mul_le_mul_right _ hij
  have hm':(es.length - (j - i)) * sz=es.length * sz - (j * sz - i * sz):=by rw [Nat.sub_mul,Nat.sub_mul]
  have hji:(j - i) * sz=j * sz - i * sz:=Nat.sub_mul _ _ _
  refine (walk b off es.length c w _ rfl hcl hc hlt hj (row_cells hb _) (fun t ht=>row_thaw hb hfz _ (by omega)) ?_).mono ?_
  · intro v hv
    obtain ⟨t,ht⟩:=List.getElem?_of_mem hv
    have htl:t < es.length * sz:=by rw [← hcl]; exact (List.getElem?_eq_some_iff.1 ht).1
    refine REs.ones hes t htl v ?_
    rw [List.getElem?_take,if_pos htl,List.getElem?_drop] at ht
    simpa using ht
  rintro e w' ⟨rfl,zz,w0,hzz,hh,ho,ht,hout,rfl⟩
  have hb0:w0.heap[b]? = some (.cells arr E fz):=by rw [hh]; exact hb
  have hdl:(((arr.toList.drop off).take (es.length * sz)).drop (j * sz)).length=es.length * sz - j * sz:=by rw [List.length_drop,hcl]
  have hs1:off+i * sz+(((arr.toList.drop off).take (es.length * sz)).drop (j * sz)).length≤arr.toList.length:=by rw [hdl]; simp; omega
  rw [setCells_row b E fz _ _ arr w0 hb0 (by rw [hdl]; omega)]
  have hb1:(w0.setRow b (spl (off+i * sz) (((arr.toList.drop off).take (es.length * sz)).drop (j * sz)) arr.toList).toArray).heap[b]? = some (.cells _ E fz):=setRow_heap w0 b arr _ E fz hb0
  have hl1:(spl (off+i * sz) (((arr.toList.drop off).take (es.length * sz)).drop (j * sz)) arr.toList).length=arr.size:=by rw [spl_len hs1]; simp
  have hs2:off+(es.length - (j - i)) * sz+zz.length≤(spl (off+i * sz) (((arr.toList.drop off).take (es.length * sz)).drop (j * sz)) arr.toList).length:=by rw [hl1,hzz,hji,hm']; omega
  rw [setCells_row b E fz _ _ _ _ hb1 (by simpa using hs2),setRow_setRow]
  have hag:∀ k,k≠b→(w0.setRow b (spl (off+(es.length - (j - i)) * sz) zz (spl (off+i * sz) (((arr.toList.drop off).take (es.length * sz)).drop (j * sz)) arr.toList)).toArray).heap[k]? = w.heap[k]? := by
    intro k hk
    rw [setRow_other w0 b k _ hk,hh]
  have hbl:blk (.slice (some ⟨b,off,none⟩) es.length c)=some b:=rfl
  refine ⟨_,rfl,.inr ⟨b,off,c,_,E,fz,by simp; omega,by simp; omega,?_,?_,setRow_heap w0 b arr _ E fz hb0,hκ,?_⟩,fun k hk=>.inl (hfre k hk).1,fun k _ hk=>hag k fun h=>hk (by subst h; exact (hfre k hbl).1),by simp [hh],ho,ht,hout⟩
  · simpa [spl_len hs2,hl1] using hroom
  · simpa [spl_len hs2,hl1] using hfz
  · have hagS:Agree S w (w0.setRow b (spl (off+(es.length - (j - i)) * sz) zz (spl (off+i * sz) (((arr.toList.drop off).take (es.length * sz)).drop (j * sz)) arr.toList)).toArray):=fun k hS=>hag k fun h=>(hfre b hbl).2 (h ▸ hS)
    refine REs.mono (fun _ h=>h) hagS _ _ _ _ (REs.append _ _ off ?_ ?_)
    · refine REs.congr _ off off (fun t ht=>?_) (REs.take es off i hes)
      have ht':t < i * sz:=by
        have:(es.take i).length=i:=by simp; omega
        rwa [this] at ht
      simp only [List.getElem?_toArray]
      rw [spl_get hs2,if_neg (by rw [hm']; omega),spl_get hs1,if_neg (by omega)]
      simp
    · have hti:(es.take i).length=i:=by simp; omega
      rw [hti]
      refine REs.congr _ (off+j * sz) (off+i * sz) (fun t ht=>?_) (REs.drop es off j hes)
      have ht':t < es.length * sz - j * sz:=by
        rw [List.length_drop,Nat.sub_mul] at ht
        exact ht
      simp only [List.getElem?_toArray]
      rw [spl_get hs2,if_neg (by rw [hm']; omega),spl_get hs1,if_pos (by rw [hdl]; omega),List.getElem?_drop,List.getElem?_take,if_pos (by omega),List.getElem?_drop]
      simp only [Array.getElem?_toList]
      congr 1
      omega
end
end Go.Vm
namespace Go.Vm
open Go.Proofs
theorem glo_shaped {P:Program} {W:World} {g:Nat} {t:TypeId} {zero:Array Value} {k:IntKind}
    (h:W.ShapedOpen P) (hg:g < P.globals.size) (h0:((begin P (fun _ _=>0) default).world.heap[g]?).bind Obj.row? = some (zero,t)) (hz:zero.size=1)
    (hb:P.buildable t=true) (hc:P.cellTypes P.depth t=some [t]) (hu:P.underlying t=some (.int k)):∃ m:Int,GloAt (allS W) W g ([m].flatMap (cI k)):=by
  obtain ⟨m,hm⟩:=cell_of_shapedOpen_int h hg h0 hz hb hc hu
  obtain ⟨cs,hh,hs,_⟩:=h.1 g zero t hg h0
  refine ⟨m,cs,t,(0,0),?_,hh,by rw [hs,hz]; rfl,?_⟩
  · exact heap_lt hh
  · have hc0:cs[0]? = some (.int k m):=by
      simp only [World.cell?,hh,Option.isSome_none,Bool.false_eq_true,if_false] at hm
      exact hm
    exact ⟨⟨_,hc0,rfl,rfl⟩,trivial⟩
variable {H:Type} {enc:TypeId×Value→H}
theorem returnsInHanded_of_change_and_shaped {a:Assume} {C:Checked} {os:Os} {f:FuncId} {fn:Func} {s:ChangeSpec} {conds:List PathCond} {apart fresh handsOn again:Bool} {X:World→Array Value→Prop}
    (hX:∀ (w w':World) (args:Array Value),w.heap=w'.heap→X w args→X w' args)
    (own:ownKnob C.prog.godebug=none) (started:os.Started) (noInit:C.prog.inits.idxOf? f=none) (hfn:C.prog.funcs[f]? = some fn)
    (witness:∃ (w:World) (tape:Tape) (i:Input),w.os=os∧(w.forCall tape i).Shaped C.prog∧i.vars=[]∧Input.okWide C.prog (w.forCall tape i) .any w.heap.size f i ∧
      ((s.pre enc C.prog fn conds apart (w.forCall tape i).memory i.args∧X (w.forCall tape i).memory i.args)∧sizedMet enc C.prog fn (OpenSpec.ofChange s) apart (w.forCall tape i).memory i.args)∧a.holds C.prog (lone (Frame.enter C.prog f i.args .normal) [] (w.forCall tape i)))
    (contract:∀ (W:World) (base:Nat) (args:Array Value) (ds gs:List (DataW H)) (before:List MemPlace),
      (∀ (j:Nat) t v,fn.params[j]? = some t→args[j]? = some v→Value.okWide C.prog W .any base t v) →
      DataW.Whole enc C.prog fn.params.toList s.vars apart W args.toList ds gs before→X W args→W.ShapedOpen C.prog →
      Calls C.prog f args W fun e W'=>∃ v,e=.returned v∧s.post enc C.prog fn apart fresh handsOn again W args v W') :
    ReturnsInHanded a C os f .any (fun w args=>(s.pre enc C.prog fn conds apart w args∧X w args)∧sizedMet enc C.prog fn (OpenSpec.ofChange s) apart w args) (s.post enc C.prog fn apart fresh handsOn again):=by
  refine returnsInHanded_of_calls own started noInit witness ?_
  intro w tape i _ hsh _ hok hpre _
  obtain ⟨_,_,_,fn',hfn',_,_,_,_,hval⟩:=hok
  have e:fn'=fn:=Option.some.inj (hfn'.symm.trans hfn)
  subst e
  obtain ⟨⟨⟨ds,gs,before,hw,_⟩,hx⟩,_⟩:=hpre
  refine (contract (w.forCall tape i) w.heap.size i.args ds gs before hval (DataW.Whole.of_heap (w':=w.forCall tape i) (by rfl) hw) (hX _ _ _ (by rfl) hx) hsh).mono fun e W' ⟨v,he,hp⟩=>?_
  subst he
  exact ChangeSpec.post_blind hp
end Go.Vm
namespace Go.Vm
open Go.RowKit
section
variable {P:Program} {e:Env} {G:GEnv} {S:Nat→Prop} {β:Path→Value} {fr:Fr} {vals:Nat→Option Value} {w:World}
theorem Mem.more (hm:Mem e G S β fr vals w) {w':World} (hold:∀ b,b < w.heap.size→w'.heap[b]? = w.heap[b]?) (hsize:w.heap.size≤w'.heap.size) (hos:w'.os=w.os) (htape:w'.tape=w.tape) (hout:w'.output=w.output):Mem e G S β fr vals w':=by
  refine ⟨fun x=>?_,hm.gok,hm.dis,hm.fre,fun b hb=>⟨Nat.lt_of_lt_of_le (hm.stb b hb).1 hsize,(hm.stb b hb).2⟩,hm.s0,fun b h1 h2=>(hold b (Nat.lt_of_lt_of_le h1 hm.size)).trans (hm.old b h1 h2),hos.trans hm.os,htape.trans hm.tape,hout.trans hm.output,Nat.le_trans hm.size hsize⟩
  obtain ⟨u,hr,hu⟩:=hm.rel x
  exact ⟨u,hr.turn (fun _ _ _=>rfl) (fun _ h=>h) (fun b hb=>hold b (hm.stb b hb).1) (fun _=>rfl) (fun j ho b hb=>hold b (hm.blt ho hb)) (fun _ _=>rfl),hu⟩
theorem Mem.result0 (hm:Mem e G S β fr vals w) (t:Nat) {fr':Fr} {vals':Nat→Option Value} (h:∀ x,x≠t→fget fr' x=fget fr x∨fget fr' x=.junk) (ht:fget fr' t=.tup []) (hv:∀ x,x≠t→∀ u,vals' x=some u→vals x=some u) (hvt:∀ u,vals' t=some u→u=.tuple #[]):Mem e G S β fr' vals' w:=by
  have hon:∀ x i,(fget fr' x).ownsAt i=true→x≠t∧(fget fr x).ownsAt i=true:=by
    intro x i ho
    by_cases hx:x=t
    · subst hx
      rw [ht] at ho
      cases i <;> simp [AV.ownsAt,AV.isOwn] at ho
    · refine ⟨hx,?_⟩
      rcases h x hx with h1 | h1
      · rw [← h1]; exact ho
      · rw [h1] at ho
        cases i <;> simp [AV.ownsAt,AV.isOwn] at ho
  refine ⟨fun x=>?_,fun x l a hx=>?_,fun x i y j b h1 h2=>hm.dis x i y j b (hon x i h1).2 (hon y j h2).2,fun x i b h1=>hm.fre x i b (hon x i h1).2,hm.stb,hm.s0,hm.old,hm.os,hm.tape,hm.output,hm.size⟩
  · by_cases hx:x=t
    · subst hx
      rw [ht]
      exact ⟨.tuple #[],⟨[],rfl,rfl,by simp [RParts,All2]⟩,hvt⟩
    · obtain ⟨u,hr,hu⟩:=hm.rel x
      rcases h x hx with h1 | h1
      · exact ⟨u,by rw [h1]; exact hr,fun u' hh=>hu u' (hv x hx u' hh)⟩
      · exact ⟨u,by rw [h1]; exact trivial,fun u' hh=>hu u' (hv x hx u' hh)⟩
  · by_cases hx':x=t
    · subst hx'; rw [ht] at hx; cases hx
    · rcases h x hx' with h1 | h1
      · exact hm.gok x l a (by rw [← h1]; exact hx)
      · rw [h1] at hx; cases hx
theorem ACall.lend {k:Nat} (hk:Callable P k) {q:Nat} {more:List AV} {V V':AV} {κ:TypeId} {sz:Nat} {es es':List (List Dat)} (hn:more.length < 1000)
    (hq:pget (finFr (.vw (virtBase,q) :: more) [V]) (virtBase,q)=.own κ sz es)
    (hV:fget (pset (finFr (.vw (virtBase,q) :: more) [V]) (virtBase,q) (.own κ sz es')) virtBase=V')
    (h:∀ (w:World) (S:Nat→Prop) (u:Value) (us:List Value),us.length=more.length→(∀ (i:Nat) (x:Value),more[i]? = some (AV.d (.v x))→us[i]? = some x)→(∀ (i f:Nat),more[i]? = some (AV.clo f [])→us[i]? = some (Value.func (.func f) #[] #[])) →
      OwnAt S w u κ sz es→(∀ b,blk u=some b→¬ S b)→(∀ b,S b→b < w.heap.size)→Calls P k (u :: us).toArray w fun e w'=>e=.returned (.tuple #[])∧OwnAt S w' u κ sz es' ∧
        (∀ b,b < w.heap.size→blk u≠some b→w'.heap[b]? = w.heap[b]?)∧w.heap.size≤w'.heap.size∧w'.os=w.os∧w'.tape=w.tape∧w'.output=w.output) :
    ACall P k (.vw (virtBase,q) :: more) [V] (.tup []) [V']:=by
  refine ⟨hk,fun w S β us hl hm=>?_⟩
  obtain ⟨u,us,rfl⟩:∃ u us',us=u :: us':=by
    cases us with
    | nil=>simp at hl
    | cons a b=>exact ⟨a,b,rfl⟩
  have hl':us.length=more.length:=by simpa using hl
  have hu0:u=β (virtBase,q):=by
    obtain ⟨u0,hr,hu⟩:=hm.rel 0
    have hf:fget (finFr (.vw (virtBase,q) :: more) [V]) 0=.vw (virtBase,q):=by rw [fget_finFr_arg (by simp)]; rfl
    rw [hf] at hr
    have e1:=hu u (by simp)
    have e2:u0=β (virtBase,q):=hr
    rw [e1,e2]
  have hown:=pget_own hm hq
  have hno:∀ b,blk (β (virtBase,q))=some b→¬ S b:=fun b hb=>(hm.fre virtBase q b (pget_owns hq) hb).1
  have hfl:∀ (i:Nat) (x:Value),more[i]? = some (AV.d (.v x))→us[i]? = some x:=by
    intro i x hi
    obtain ⟨u1,hr,hu⟩:=hm.rel (i+1)
    have him:i < more.length:=(List.getElem?_eq_some_iff.1 hi).1
    have hf:fget (finFr (.vw (virtBase,q) :: more) [V]) (i+1)=.d (.v x):=by rw [fget_finFr_arg (by simpa using him),List.getD_eq_getElem?_getD]; simp [hi]
    rw [hf] at hr
    have h0:u1=x:=hr.1
    have hus:us[i]? = some us[i]:=List.getElem?_eq_getElem (by omega)
    have e1:=hu us[i] (by simp [hus])
    rw [hus,e1,h0]
  have hcl:∀ (i f:Nat),more[i]? = some (AV.clo f [])→us[i]? = some (Value.func (.func f) #[] #[]):=by
    intro i f hi
    obtain ⟨u1,hr,hu⟩:=hm.rel (i+1)
    have him:i < more.length:=(List.getElem?_eq_some_iff.1 hi).1
    have hf:fget (finFr (.vw (virtBase,q) :: more) [V]) (i+1)=.clo f []:=by rw [fget_finFr_arg (by simpa using him),List.getD_eq_getElem?_getD]; simp [hi]
    rw [hf] at hr
    obtain ⟨l,h0,h1⟩:=hr
    have hl0:l=[]:=by
      cases l with
      | nil=>rfl
      | cons a b=>exact absurd h1 (by simp [All2])
    subst hl0
    have hus:us[i]? = some us[i]:=List.getElem?_eq_getElem (by omega)
    have e1:=hu us[i] (by simp [hus])
    rw [hus,e1,h0]
  rw [hu0]
  refine (h w S (β (virtBase,q)) us hl' hfl hcl hown hno (fun b hb=>(hm.stb b hb).1)).mono ?_
  rintro ee w' ⟨rfl,ho',hold,hsize,hos,htape,hout⟩
  have hm2:Mem ⟨w,ownedBy (finFr (.vw (virtBase,q) :: more) [V]) β,S,lentAt β ([V]:List AV).length⟩ [] S β (pset (finFr (.vw (virtBase,q) :: more) [V]) (virtBase,q) (.own κ sz es')) (fun x=>((u :: us)[x]?).or (lentAt β ([V]:List AV).length x)) w':=by
    cases hb:blk (β (virtBase,q)) with
    | none =>
      have hm1:=hm.more (w':=w') (fun b hb'=>hold b hb' (by rw [hb]; simp)) hsize hos htape hout
      exact hm1.pset hq rfl (S':=S) ⟨rfl,ho'⟩ (fun _ h=>h) (fun _ h=>.inl h) (fun _ _=>rfl) rfl rfl rfl rfl
    | some b =>
      have hlt:b < w.heap.size:=hown.lt hb
      have hm1:=hm.more (w':={ w' with heap:=w'.heap.setIfInBounds b w.heap[b] }) (fun c hc=>by
        by_cases hcb:c=b
        · subst hcb
          simp [hlt,Nat.lt_of_lt_of_le hlt hsize]
        · rw [← hold c hc (by rw [hb]; intro h; exact hcb (Option.some.inj h).symm)]
          simp [Array.getElem?_setIfInBounds,Ne.symm hcb]) (by simpa using hsize) hos htape hout
      refine hm1.pset hq rfl (S':=S) (w':=w') ⟨rfl,ho'⟩ (fun _ h=>h) (fun _ h=>.inl h) (fun c hc=>?_) (by simp) rfl rfl rfl
      have hcb:¬ b=c:=fun h=>hc (by rw [hb,h])
      simp [Array.getElem?_setIfInBounds,hcb]
  refine ⟨.tuple #[],S,β,rfl,hm2.result0 resSlot (fun x hx=>?_) (fget_cons_self _ _ _) (fun x hx u' hu'=>?_) (fun u' hu'=>by simpa using hu'.symm)⟩
  · rw [fget_cons_ne _ _ (Ne.symm hx)]
    by_cases hxv:x=virtBase
    · subst hxv
      exact .inl (by rw [hV]; simp [boxFr,fget_cons_self])
    · exact .inr (by simp only [boxFr]; rw [fget_cons_ne _ _ (Ne.symm hxv)]; rfl)
  · rw [if_neg hx] at hu'
    have hxv:x=virtBase:=by
      unfold lentAt at hu'
      split at hu'
      · simp at *; omega
      · cases hu'
    subst hxv
    have:(u :: us)[virtBase]? = none:=List.getElem?_eq_none (by simp [virtBase] at *; omega)
    simp only [this,Option.none_or]
    exact hu'
end
end Go.Vm
namespace Go.Vm
open Go.RowKit
section
variable {S:Nat→Prop} {w:World} {α:Type}
def litV:Dat→Value
  | .v x=>x
  | .str l=>strOf l
  | _=>undef
def isLit:Dat→Bool
  | .v x=>x.oneCell'
  | .str _=>true
  | _=>false
theorem RD_lit {d:Dat} (h:isLit d=true) (u:Value):RD S w d u↔u=litV d:=by
  cases d <;> simp_all [isLit,litV,RD]
theorem RCs_lits {g:Nat→Option Value}:∀ (cs:List Dat) (o:Nat),(∀ d∈cs,isLit d=true)→(RCs S w cs g o↔∀ t,t < cs.length→g (o+t)=(cs.map litV)[t]?)
  | [],o,_=>by simp [RCs]
  | c :: cs,o,h=>by
    simp only [RCs]
    rw [RCs_lits cs (o+1) (fun d hd=>h d (by simp [hd]))]
    constructor
    · rintro ⟨⟨u,h1,h2⟩,h3⟩ t ht
      rw [RD_lit (h c (by simp))] at h2
      cases t with
      | zero=>simpa [h2] using h1
      | succ t =>
        have:=h3 t (by simpa using ht)
        simpa [Nat.add_assoc,Nat.add_comm 1 t] using this
    · intro h3
      refine ⟨⟨litV c,by simpa using h3 0 (by simp),(RD_lit (h c (by simp)) _).2 rfl⟩,fun t ht=>?_⟩
      have:=h3 (t+1) (by simpa using ht)
      simpa [Nat.add_assoc,Nat.add_comm 1 t] using this
theorem REs_lits {g:Nat→Option Value} {sz:Nat}:∀ (es:List (List Dat)) (o:Nat),(∀ d∈es,d.length=sz∧∀ x∈d,isLit x=true)→(REs S w sz es g o↔∀ t,t < es.length * sz→g (o+t)=(es.flatMap (·.map litV))[t]?)
  | [],o,_=>by simp [REs]
  | c :: es,o,h=>by
    have hc:=h c (by simp)
    have hl:(c.map litV).length=sz:=by simpa using hc.1
    simp only [REs]
    rw [REs_lits es (o+sz) (fun d hd=>h d (by simp [hd])),RCs_lits c o hc.2]
    simp only [List.flatMap_cons,List.length_cons,Nat.succ_mul]
    constructor
    · rintro ⟨_,h2,h3⟩ t ht
      by_cases hs:t < sz
      · rw [List.getElem?_append_left (by omega)]
        exact h2 t (by omega)
      · rw [List.getElem?_append_right (by omega),hl,← h3 (t - sz) (by omega)]
        congr 1
        omega
    · intro h3
      refine ⟨hc.1,fun t ht=>?_,fun t ht=>?_⟩
      · have:=h3 t (by omega)
        rwa [List.getElem?_append_left (by omega)] at this
      · have:=h3 (sz+t) (by omega)
        rw [List.getElem?_append_right (by omega),hl] at this
        rw [show sz+t - sz=t by omega] at this
        rw [← this]
        congr 1
        omega
theorem OwnAt.cells {u:Value} {κ:TypeId} {sz:Nat} {es:List (List Dat)} (h:OwnAt S w u κ sz es) (he:∀ d∈es,d.length=sz∧∀ x∈d,isLit x=true) (hn:es≠[]) :
    ∃ b off c arr E fz,u=.slice (some ⟨b,off,none⟩) es.length c∧es.length≤c∧off+c * sz≤arr.size∧FzOk fz arr.size∧w.heap[b]? = some (.cells arr E fz)∧KOk κ E fz∧∀ t,t < es.length * sz→arr[off+t]? = (es.flatMap (·.map litV))[t]? := by
  rcases h with ⟨_,h⟩ | ⟨b,off,c,arr,E,fz,h1,h2,h3,h4,h5,h6,h7⟩
  · exact absurd h hn
  · exact ⟨b,off,c,arr,E,fz,h1,h2,h3,h4,h5,h6,(REs_lits es off he).1 h7⟩
theorem OwnAt.ofCells {w':World} {κ:TypeId} {sz:Nat} {es:List (List Dat)} {b off c n:Nat} {arr arr':Array Value} {E:TypeId} {fz:Nat×Nat} (hn:n=es.length) (h2:n≤c) (h3:off+c * sz≤arr.size) (h4:FzOk fz arr.size) (hs:arr'.size=arr.size)
    (h5:w'.heap[b]? = some (.cells arr' E fz)) (h6:KOk κ E fz) (he:∀ d∈es,d.length=sz∧∀ x∈d,isLit x=true) (h7:∀ t,t < es.length * sz→arr'[off+t]? = (es.flatMap (·.map litV))[t]?):OwnAt S w' (.slice (some ⟨b,off,none⟩) n c) κ sz es:=by
  subst hn
  exact .inr ⟨b,off,c,arr',E,fz,rfl,h2,by omega,by rw [hs]; exact h4,h5,h6,(REs_lits es off he).2 h7⟩
end
end Go.Vm
namespace Go.Vm
open Go.RowKit Go.Sort
section
variable {P:Program} {S:Nat→Prop} {w:World}
theorem putRow_heap {b off n:Nat} {F:Array Value} {os:Array Obj} {arr:Array Value} {E:TypeId} {fz:Nat×Nat} (hb:w.heap[b]? = some (.cells arr E fz)) :
    (grow (putRow id (Sort.ahead w n) b off F) os).heap[b]? = some (.cells (putCells id off F arr) E fz):=by
  have hlt:=heap_lt hb
  have:(Sort.ahead w n).heap=w.heap:=rfl
  simp only [grow,putRow,mapBlock,this]
  rw [Array.getElem?_append_left (by simpa using hlt)]
  simp [Array.getElem?_modify,hb,onCells]
theorem putRow_other {b c off n:Nat} {F:Array Value} {os:Array Obj} (hc:c < w.heap.size) (hbc:c≠b):(grow (putRow id (Sort.ahead w n) b off F) os).heap[c]? = w.heap[c]? := by
  have:(Sort.ahead w n).heap=w.heap:=rfl
  simp only [grow,putRow,mapBlock,this]
  rw [Array.getElem?_append_left (by simpa using hc)]
  simp [Array.getElem?_modify,Ne.symm hbc]
theorem putRow_size {b off n:Nat} {F:Array Value} {os:Array Obj}:w.heap.size≤(grow (putRow id (Sort.ahead w n) b off F) os).heap.size:=by
  have:(Sort.ahead w n).heap=w.heap:=rfl
  simp [grow,putRow,mapBlock,this]
theorem toArr (F:List Value) (j:Nat) (h:j < F.length):F.toArray[j]! = F[j]:=by
  rw [getElem!_pos F.toArray j (by simpa using h)]
  simp
theorem flat_len {sz:Nat}:∀ (es:List (List Dat)),(∀ d∈es,d.length=sz∧∀ x∈d,isLit x=true)→(es.flatMap (·.map litV)).length=es.length * sz
  | [],_=>by simp
  | d :: es,h=>by
    rw [List.flatMap_cons,List.length_append,List.length_map,(h d (by simp)).1,flat_len es (fun x hx=>h x (by simp [hx])),List.length_cons,Nat.succ_mul,Nat.add_comm]
theorem ACall.sortFlat {k:Nat} (hk:Callable P k) {q:Nat} {more:List AV} {V V':AV} {κ:TypeId} {sz:Nat} {es es':List (List Dat)} (hn:more.length < 1000) (hlen:es'.length=es.length)
    (he:∀ d∈es,d.length=sz∧∀ x∈d,isLit x=true) (he':∀ d∈es',d.length=sz∧∀ x∈d,isLit x=true)
    (hq:pget (finFr (.vw (virtBase,q) :: more) [V]) (virtBase,q)=.own κ sz es)
    (hV:fget (pset (finFr (.vw (virtBase,q) :: more) [V]) (virtBase,q) (.own κ sz es')) virtBase=V')
    (walk:∀ (us:List Value) (blk off cap:Nat) (w:World),us.length=more.length→(∀ (i:Nat) (x:Value),more[i]? = some (AV.d (.v x))→us[i]? = some x)→(∀ (i f:Nat),more[i]? = some (AV.clo f [])→us[i]? = some (Value.func (.func f) #[] #[])) →
      es≠[]→Holds id w blk off (es.flatMap (·.map litV)).toArray→blk < w.heap.size→Calls P k (Value.slice (some ⟨blk,off,none⟩) es.length cap :: us).toArray w fun e w'=>e=.returned (.tuple #[])∧∃ n os,w'=grow (putRow id (Sort.ahead w n) blk off (es'.flatMap (·.map litV)).toArray) os)
    (none:∀ (us:List Value) (p:Option Addr) (cap:Nat) (w:World),us.length=more.length→(∀ (i f:Nat),more[i]? = some (AV.clo f [])→us[i]? = some (Value.func (.func f) #[] #[]))→es=[]→Calls P k (Value.slice p 0 cap :: us).toArray w fun e w'=>e=.returned (.tuple #[])∧w'=w) :
    ACall P k (.vw (virtBase,q) :: more) [V] (.tup []) [V']:=by
  refine ACall.lend hk hn hq hV fun w S u us hl hfl hcl hown hno hst=>?_
  by_cases hes:es=[]
  · have hes':es'=[]:=List.eq_nil_of_length_eq_zero (by rw [hlen,hes]; rfl)
    subst hes
    subst hes'
    have hu:∃ p cap,u=.slice p 0 cap:=by
      rcases hown with ⟨rfl,_⟩ | ⟨b,off,c,_,_,_,rfl,_⟩
      · exact ⟨_,_,rfl⟩
      · exact ⟨_,_,rfl⟩
    obtain ⟨p,cap,rfl⟩:=hu
    refine (none us p cap w hl hcl rfl).mono ?_
    rintro e w' ⟨rfl,rfl⟩
    exact ⟨rfl,hown,fun _ _ _=>rfl,Nat.le_refl _,rfl,rfl,rfl⟩
  · obtain ⟨b,off,c,arr,E,fz,rfl,h2,h3,h4,h5,h6,h7⟩:=hown.cells he hes
    have hsz:es.length * sz≤c * sz:=Nat.mul_le_mul_right _ h2
    have hfl1:=flat_len es he
    have hfl2:=flat_len es' he'
    have hH:Holds id w b off (es.flatMap (·.map litV)).toArray:=by
      intro j hj
      have hj':j < es.length * sz:=by simpa [hfl1] using hj
      have h8:=h7 j hj'
      have hjl:j < (es.flatMap (·.map litV)).length:=by rw [hfl1]; exact hj'
      refine ⟨?_,row_thaw h5 h4 _ (by omega)⟩
      simp only [World.cell?,h5,Option.isSome_none,Bool.false_eq_true,if_false,id]
      rw [h8,List.getElem?_eq_getElem hjl,toArr _ _ hjl]
    refine (walk us b off c w hl hfl hcl hes hH (heap_lt h5)).mono ?_
    rintro e w' ⟨rfl,n,os,rfl⟩
    refine ⟨rfl,OwnAt.ofCells hlen.symm h2 h3 h4 (by simp [putCells]) (putRow_heap h5) h6 he' fun t ht=>?_,fun d hd hne=>putRow_other hd fun h=>hne (by subst h; rfl),putRow_size,rfl,rfl,rfl⟩
    have ht2:t < (es'.flatMap (·.map litV)).length:=by rw [hfl2]; exact ht
    have hta:off+t < arr.size:=by rw [hlen] at ht; omega
    simp only [putCells,Array.getElem?_mapIdx,Array.getElem?_eq_getElem hta,Option.map_some,List.size_toArray]
    rw [if_pos (by omega),List.getElem?_eq_getElem ht2,show off+t - off=t by omega,toArr _ _ ht2]
    rfl
theorem flat_str (l:List (List UInt8)):((l.map cS).flatMap (·.map litV))=l.map Go.Proofs.encStr:=by
  induction l with
  | nil=>rfl
  | cons x l ih=>rw [List.map_cons,List.flatMap_cons,ih]; rfl
theorem putRow_str {b off:Nat} (l:List (List UInt8)):putRow Go.Proofs.encStr w b off l.toArray=putRow id w b off (l.map Go.Proofs.encStr).toArray:=by
  unfold putRow
  refine mapBlock_congr _ _ _ _ fun c _ _ _=>?_
  apply Array.ext_getElem?
  intro k
  simp only [putCells,Array.getElem?_mapIdx,List.size_toArray,List.length_map]
  cases c[k]? with
  | none=>rfl
  | some x =>
    simp only [Option.map_some]
    by_cases h:off≤k∧k < off+l.length
    · have h1:k - off < l.length:=by omega
      rw [if_pos h,if_pos h,toArr _ _ (by simpa using h1),getElem!_pos l.toArray (k - off) (by simpa using h1)]
      simp
    · rw [if_neg h,if_neg h]
theorem ACall.sortStr {k:Nat} (hk:Callable P k) {q:Nat} {V V':AV} {κ:TypeId} {l l':List (List UInt8)} (hlen:l'.length=l.length)
    (hq:pget (finFr [.vw (virtBase,q)] [V]) (virtBase,q)=.own κ 1 (l.map cS))
    (hV:fget (pset (finFr [.vw (virtBase,q)] [V]) (virtBase,q) (.own κ 1 (l'.map cS))) virtBase=V')
    (walk:∀ (blk off cap:Nat) (w:World),Holds Go.Proofs.encStr w blk off l.toArray→blk < w.heap.size→Calls P k #[Value.slice (some ⟨blk,off,none⟩) l.length cap] w fun e w'=>e=.returned (.tuple #[])∧∃ n os,w'=grow (putRow Go.Proofs.encStr (Sort.ahead w n) blk off l'.toArray) os)
    (none:∀ (p:Option Addr) (cap:Nat) (w:World),Calls P k #[Value.slice p 0 cap] w fun e w'=>e=.returned (.tuple #[])∧w'=w) :
    ACall P k [.vw (virtBase,q)] [V] (.tup []) [V']:=by
  have lits:∀ m:List (List UInt8),∀ d∈m.map cS,d.length=1∧∀ x∈d,isLit x=true:=by
    intro m d hd
    obtain ⟨x,_,rfl⟩:=List.mem_map.1 hd
    exact ⟨rfl,fun y hy=>by rw [List.mem_singleton.1 hy]; rfl⟩
  refine ACall.sortFlat hk (by decide) (by simpa using hlen) (lits l) (lits l') hq hV (fun us blk off cap w hl _ _ _ hH hb=>?_) (fun us p cap w hl _ _=>?_)
  · obtain rfl:us=[]:=List.eq_nil_of_length_eq_zero (by simpa using hl)
    rw [flat_str] at hH
    have hH':Holds Go.Proofs.encStr w blk off l.toArray:=by
      intro j hj
      have hj':j < l.length:=by simpa using hj
      have:=hH j (by simpa using hj')
      rw [toArr _ _ (by simpa using hj')] at this
      rw [getElem!_pos l.toArray j hj]
      simpa using this
    simp only [List.length_map]
    refine (walk blk off cap w hH' hb).mono ?_
    rintro e w' ⟨rfl,n,os,rfl⟩
    exact ⟨rfl,n,os,by rw [flat_str,putRow_str]⟩
  · obtain rfl:us=[]:=List.eq_nil_of_length_eq_zero (by simpa using hl)
    exact none p cap w
end
end Go.Vm
namespace Go.Vm
open Go.RowKit Go.Sort
section
variable {P:Program} {e:Env} {G:GEnv} {S:Nat→Prop} {β:Path→Value} {fr:Fr} {vals:Nat→Option Value} {w:World}
theorem Mem.sub (hm:Mem e G S β fr vals w) {fr':Fr} {vals':Nat→Option Value} (h:∀ x,fget fr' x=fget fr x∨fget fr' x=.junk) (hv:∀ x u,vals' x=some u→vals x=some u):Mem e G S β fr' vals' w:=by
  have hon:∀ x i,(fget fr' x).ownsAt i=true→(fget fr x).ownsAt i=true:=by
    intro x i ho
    rcases h x with h1 | h1
    · rw [← h1]; exact ho
    · rw [h1] at ho
      cases i <;> simp [AV.ownsAt,AV.isOwn] at ho
  refine ⟨fun x=>?_,fun x l a hx=>?_,fun x i y j b h1 h2=>hm.dis x i y j b (hon x i h1) (hon y j h2),fun x i b h1=>hm.fre x i b (hon x i h1),hm.stb,hm.s0,hm.old,hm.os,hm.tape,hm.output,hm.size⟩
  · obtain ⟨u,hr,hu⟩:=hm.rel x
    rcases h x with h1 | h1
    · exact ⟨u,by rw [h1]; exact hr,fun u' hh=>hu u' (hv x u' hh)⟩
    · exact ⟨u,by rw [h1]; exact trivial,fun u' hh=>hu u' (hv x u' hh)⟩
  · rcases h x with h1 | h1
    · exact hm.gok x l a (by rw [← h1]; exact hx)
    · rw [h1] at hx; cases hx
theorem ACall.moveOut {k:Nat} (hk:Callable P k) {q:Nat} {more:List AV} {V V':AV} {κ:TypeId} {sz:Nat} {es es':List (List Dat)} (hn:more.length < 1000)
    (hq:pget (finFr (.vw (virtBase,q) :: more) [V]) (virtBase,q)=.own κ sz es)
    (hV:(fget (pset (finFr (.vw (virtBase,q) :: more) [V]) (virtBase,q) .junk) virtBase).purge (slotP resSlot)=V')
    (h:∀ (w:World) (S:Nat→Prop) (u:Value) (us:List Value),us.length=more.length→(∀ (i:Nat) (x:Value),more[i]? = some (AV.d (.v x))→us[i]? = some x) →
      OwnAt S w u κ sz es→(∀ b,blk u=some b→¬ S b)→(∀ b,S b→b < w.heap.size)→Calls P k (u :: us).toArray w fun e w'=>∃ u',e=.returned u'∧OwnAt S w' u' κ sz es'∧(∀ b,blk u'=some b→blk u=some b∨w.heap.size≤b) ∧
        (∀ b,b < w.heap.size→blk u≠some b→w'.heap[b]? = w.heap[b]?)∧w.heap.size≤w'.heap.size∧w'.os=w.os∧w'.tape=w.tape∧w'.output=w.output) :
    ACall P k (.vw (virtBase,q) :: more) [V] (.own κ sz es') [V']:=by
  refine ⟨hk,fun w S β us hl hm=>?_⟩
  obtain ⟨u,us,rfl⟩:∃ u us',us=u :: us':=by
    cases us with
    | nil=>simp at hl
    | cons a b=>exact ⟨a,b,rfl⟩
  have hl':us.length=more.length:=by simpa using hl
  have hu0:u=β (virtBase,q):=by
    obtain ⟨u0,hr,hu⟩:=hm.rel 0
    have hf:fget (finFr (.vw (virtBase,q) :: more) [V]) 0=.vw (virtBase,q):=by rw [fget_finFr_arg (by simp)]; rfl
    rw [hf] at hr
    have e1:=hu u (by simp)
    have e2:u0=β (virtBase,q):=hr
    rw [e1,e2]
  have hown:=pget_own hm hq
  have hno:∀ b,blk (β (virtBase,q))=some b→¬ S b:=fun b hb=>(hm.fre virtBase q b (pget_owns hq) hb).1
  have hfl:∀ (i:Nat) (x:Value),more[i]? = some (AV.d (.v x))→us[i]? = some x:=by
    intro i x hi
    obtain ⟨u1,hr,hu⟩:=hm.rel (i+1)
    have him:i < more.length:=(List.getElem?_eq_some_iff.1 hi).1
    have hf:fget (finFr (.vw (virtBase,q) :: more) [V]) (i+1)=.d (.v x):=by rw [fget_finFr_arg (by simpa using him),List.getD_eq_getElem?_getD]; simp [hi]
    rw [hf] at hr
    have h0:u1=x:=hr.1
    have hus:us[i]? = some us[i]:=List.getElem?_eq_getElem (by omega)
    have e1:=hu us[i] (by simp [hus])
    rw [hus,e1,h0]
  subst hu0
  refine (h w S (β (virtBase,q)) us hl' hfl hown hno (fun b hb=>(hm.stb b hb).1)).mono ?_
  rintro ee w' ⟨u',rfl,ho',hblk,hold,hsize,hos,htape,hout⟩
  have hd:=hm.dropAt hq
  have hnr:resSlot≠virtBase:=by decide
  have hm2:=hd.make2 resSlot (.own κ sz es') u' (fun _=>u') w' (fun x=>if x=resSlot then some u' else ((β (virtBase,q) :: us)[x]?).or (lentAt β ([V]:List AV).length x)) (fun y hy=>if_neg hy) (fun u1 h1=>by simpa using h1.symm)
    ⟨by simp,ho'⟩ (fun l a h=>by cases h)
    (fun i b _ hb=>by
      rcases hblk b hb with h1 | h1
      · exact hm.free_dropped hq resSlot b h1
      · exact hd.free_new resSlot b h1)
    (fun i j b h1 h2 _ _=>by
      cases i <;> cases j <;> simp_all [AV.ownsAt,AV.isOwn])
    (fun b hb=>by
      by_cases h1:blk (β (virtBase,q))=some b
      · exact .inr (hm.free_dropped hq resSlot b h1)
      · exact .inl (hold b hb h1)) hsize hos htape hout
  refine ⟨u',S,_,rfl,hm2.sub (fun x=>?_) (fun x u1 hu1=>?_)⟩
  · by_cases hx:x=resSlot
    · subst hx
      exact .inl (by rw [fget_cons_self,fget_setA_self])
    · rw [fget_cons_ne _ _ (Ne.symm hx)]
      by_cases hxv:x=virtBase
      · subst hxv
        refine .inl ?_
        rw [fget_setA_ne _ _ hx]
        rw [hV]
        simp [boxFr,fget_cons_self]
      · exact .inr (by simp only [boxFr]; rw [fget_cons_ne _ _ (Ne.symm hxv)]; rfl)
  · by_cases hx:x=resSlot
    · rw [if_pos hx] at hu1 ⊢
      exact hu1
    · rw [if_neg hx] at hu1 ⊢
      have hxv:x=virtBase:=by
        unfold lentAt at hu1
        split at hu1
        · simp at *; omega
        · cases hu1
      subst hxv
      have:(β (virtBase,q) :: us)[virtBase]? = none:=List.getElem?_eq_none (by simp [virtBase] at *; omega)
      simp only [this,Option.none_or]
      exact hu1
theorem ACall.compactStr {k:Nat} (hk:Callable P k) {q:Nat} {V V':AV} {κ:TypeId} {l:List (List UInt8)} (hb:l.length≤4294967296)
    (hq:pget (finFr [.vw (virtBase,q)] [V]) (virtBase,q)=.own κ 1 (l.map cS))
    (hV:(fget (pset (finFr [.vw (virtBase,q)] [V]) (virtBase,q) .junk) virtBase).purge (slotP resSlot)=V')
    (walk:∀ (blk off cap:Nat) (zs:List (List UInt8)) (w:World),Holds Go.Proofs.encStr w blk off zs.toArray→zs.length≤9223372036854775807→zs.length≤cap →
      Calls P k #[.slice (some ⟨blk,off,none⟩) zs.length cap] w fun e w'=>e=.returned (.slice (some ⟨blk,off,none⟩) (Lib.compact zs).length cap)∧∃ q,w'=putRow Go.Proofs.encStr (Sort.ahead w q) blk off (Lib.compact zs++List.replicate (zs.length - (Lib.compact zs).length) []).toArray)
    (none:∀ (p:Option Addr) (cap:Nat) (w:World),Calls P k #[Value.slice p 0 cap] w fun e w'=>e=.returned (Value.slice p 0 cap)∧w'=w)
    (hc:(Lib.compact l).length≤l.length) (hc0:l=[]→Lib.compact l=[]) :
    ACall P k [.vw (virtBase,q)] [V] (.own κ 1 ((Lib.compact l).map cS)) [V']:=by
  have lits:∀ m:List (List UInt8),∀ d∈m.map cS,d.length=1∧∀ x∈d,isLit x=true:=by
    intro m d hd
    obtain ⟨x,_,rfl⟩:=List.mem_map.1 hd
    exact ⟨rfl,fun y hy=>by rw [List.mem_singleton.1 hy]; rfl⟩
  refine ACall.moveOut hk (by decide) hq hV fun w S u us hl _ hown hno hst=>?_
  obtain rfl:us=[]:=List.eq_nil_of_length_eq_zero (by simpa using hl)
  by_cases hes:l=[]
  · have hu:∃ p cap,u=.slice p 0 cap:=by
      subst hes
      rcases hown with ⟨rfl,_⟩ | ⟨b,off,c,_,_,_,rfl,_⟩
      · exact ⟨_,_,rfl⟩
      · exact ⟨_,_,rfl⟩
    obtain ⟨p,cap,rfl⟩:=hu
    refine (none p cap w).mono ?_
    rintro e w' ⟨rfl,rfl⟩
    exact ⟨_,rfl,by rw [hc0 hes]; rw [hes] at hown; exact hown,fun b hb=>.inl hb,fun _ _ _=>rfl,Nat.le_refl _,rfl,rfl,rfl⟩
  · obtain ⟨b,off,c,arr,E,fz,rfl,h2,h3,h4,h5,h6,h7⟩:=hown.cells (lits l) (by simpa using hes)
    rw [flat_str] at h7
    simp only [List.length_map,Nat.mul_one] at h2 h3 h7 ⊢
    have hH:Holds Go.Proofs.encStr w b off l.toArray:=by
      intro j hj
      have hj':j < l.length:=by simpa using hj
      refine ⟨?_,row_thaw h5 h4 _ (by omega)⟩
      simp only [World.cell?,h5,Option.isSome_none,Bool.false_eq_true,if_false]
      rw [h7 j hj',getElem!_pos l.toArray j hj,List.getElem?_eq_getElem (by simpa using hj')]
      simp
    refine (walk b off c l w hH (by omega) h2).mono ?_
    rintro e w' ⟨rfl,n,rfl⟩
    rw [putRow_str]
    have hg:∀ F:Array Value,putRow id (Sort.ahead w n) b off F=grow (putRow id (Sort.ahead w n) b off F) #[]:=fun F=>by rw [grow_empty]
    rw [hg]
    refine ⟨_,rfl,OwnAt.ofCells (by simp) (Nat.le_trans hc h2) (by simpa using h3) h4 (by simp [putCells]) (putRow_heap h5) h6 (lits _) fun t ht=>?_,fun d hd=>.inl hd,fun d hd hne=>putRow_other hd fun h=>hne (by subst h; rfl),putRow_size,rfl,rfl,rfl⟩
    rw [flat_str]
    have ht':t < (Lib.compact l).length:=by simpa using ht
    have hta:off+t < arr.size:=by omega
    have htl:t < l.length:=by omega
    simp only [putCells,Array.getElem?_mapIdx,Array.getElem?_eq_getElem hta,Option.map_some,List.size_toArray]
    rw [if_pos (by simp; omega),show off+t - off=t by omega,toArr _ _ (by simp; omega)]
    simp [ht']
end
end Go.Vm
namespace Go.Vm
open Go.Sort
def sortS (l:List (List UInt8)):List (List UInt8):=l.mergeSort fun x y=>decide (x≤y)
theorem sortS_len (l:List (List UInt8)):(sortS l).length=l.length:=by simp [sortS]
def sortBy {α:Type} [Inhabited α] (lt:α→α→Bool) (l:List α):List α:=(Sort.pdq lt l.toArray 0 l.length (Lib.bitLen l.length) true true).toList
theorem compact_len {α:Type} [Inhabited α] [DecidableEq α] (l:List α):(Lib.compact l).length≤l.length:=by
  unfold Lib.compact Lib.compactUpTo
  rw [List.length_map]
  refine Nat.le_trans (List.length_filter_le _ _) ?_
  simp
end Go.Vm
namespace Go.Vm
open Go.Sort Go.Proofs
section
variable {P:Program} {α:Type} [Inhabited α]
theorem flatMap_get (enc:α→List Value) (k:Nat) (hk:∀ x,(enc x).length=k):∀ (l:List α) (t:Nat),t < l.length * k→(l.flatMap enc)[t]? = (enc (l[t / k]!))[t % k]?
  | [],t,h=>by simp at h
  | x :: l,t,h=>by
    have k0:0 < k:=by
      rcases Nat.eq_zero_or_pos k with h0 | h0
      · subst h0; simp at h
      · exact h0
    rw [List.flatMap_cons]
    by_cases ht:t < k
    · rw [List.getElem?_append_left (by rw [hk]; exact ht),Nat.div_eq_of_lt ht,Nat.mod_eq_of_lt ht]
      rfl
    · obtain ⟨s,rfl⟩:∃ s,t=s+k:=⟨t - k,by omega⟩
      rw [List.getElem?_append_right (by rw [hk]; omega),hk,Nat.add_sub_cancel,Nat.add_div_right s k0,Nat.add_mod_right,flatMap_get enc k hk l s (by rw [List.length_cons,Nat.succ_mul] at h; omega)]
      rfl
omit [Inhabited α] in
theorem flatMap_len (enc:α→List Value) (k:Nat) (hk:∀ x,(enc x).length=k):∀ l:List α,(l.flatMap enc).length=l.length * k
  | []=>by simp
  | x :: l=>by rw [List.flatMap_cons,List.length_append,hk,flatMap_len enc k hk l,List.length_cons,Nat.succ_mul,Nat.add_comm]
theorem flatK_eq (enc:α→List Value) (k:Nat) (hk:∀ x,(enc x).length=k) (l:List α):flatK enc k l.toArray=(l.flatMap enc).toArray:=by
  apply Array.ext
  · simp [flatMap_len enc k hk l]
  · intro t h1 h2
    have ht:t < l.length * k:=by simpa using h1
    have e1:=get_flatK enc k l.toArray t (by simpa using ht)
    rw [getElem!_pos _ t h1] at e1
    rw [e1]
    have e2:=flatMap_get enc k hk l t ht
    have h2':t < (l.flatMap enc).length:=by simpa using h2
    rw [List.getElem?_eq_getElem h2'] at e2
    have k0:0 < k:=by
      rcases Nat.eq_zero_or_pos k with h0 | h0
      · subst h0; simp at ht
      · exact h0
    have hm:t % k < (enc (l[t / k]!)).length:=by rw [hk]; exact Nat.mod_lt _ k0
    rw [List.getElem?_eq_getElem hm] at e2
    have e3:l.toArray[t / k]! = l[t / k]! := by simp
    rw [e3,getElem!_pos (enc (l[t / k]!)) (t % k) hm]
    simpa using (Option.some.inj e2).symm
theorem ACall.sortFK {k g:Nat} (hk:Callable P k) {c:α→List Dat} {sz:Nat} (enc:α→List Value) (henc:∀ x,(c x).map litV=enc x) (hlit:∀ x,(c x).length=sz∧∀ d∈c x,isLit d=true) {q:Nat} {V V':AV} {κ:TypeId} {l l':List α} (hlen:l'.length=l.length)
    (hq:pget (finFr [.vw (virtBase,q),.clo g []] [V]) (virtBase,q)=.own κ sz (l.map c))
    (hV:fget (pset (finFr [.vw (virtBase,q),.clo g []] [V]) (virtBase,q) (.own κ sz (l'.map c))) virtBase=V')
    (walk:∀ (blk off cap:Nat) (w:World),HoldsK enc sz w blk off l.toArray→blk < w.heap.size→Calls P k #[Value.slice (some ⟨blk,off,none⟩) l.length cap,.func (.func g) #[] #[]] w fun e w'=>e=.returned (.tuple #[])∧∃ n os,w'=sortWorldK enc sz w blk off n l'.toArray os)
    (none:∀ (p:Option Addr) (cap:Nat) (w:World),Calls P k #[Value.slice p 0 cap,.func (.func g) #[] #[]] w fun e w'=>e=.returned (.tuple #[])∧w'=w) :
    ACall P k [.vw (virtBase,q),.clo g []] [V] (.tup []) [V']:=by
  have lits:∀ m:List α,∀ d∈m.map c,d.length=sz∧∀ x∈d,isLit x=true:=by
    intro m d hd
    obtain ⟨x,_,rfl⟩:=List.mem_map.1 hd
    exact hlit x
  have hek:∀ x,(enc x).length=sz:=fun x=>by rw [← henc,List.length_map]; exact (hlit x).1
  have flat:∀ m:List α,(m.map c).flatMap (·.map litV)=m.flatMap enc:=by
    intro m
    induction m with
    | nil=>rfl
    | cons x m ih=>rw [List.map_cons,List.flatMap_cons,List.flatMap_cons,ih,henc]
  have one:∀ us:List Value,us.length=1→(∀ (i f:Nat),([AV.clo g []]:List AV)[i]? = some (AV.clo f [])→us[i]? = some (Value.func (.func f) #[] #[]))→us=[.func (.func g) #[] #[]]:=by
    intro us hl h
    obtain ⟨v,rfl⟩:=List.length_eq_one_iff.1 hl
    have:=h 0 g rfl
    simpa using this
  refine ACall.sortFlat hk (by simp) (by simpa using hlen) (lits l) (lits l') hq hV (fun us blk off cap w hl _ hc _ hH hb=>?_) (fun us p cap w hl hc _=>?_)
  · obtain rfl:=one us (by simpa using hl) hc
    rw [flat] at hH
    have hH':HoldsK enc sz w blk off l.toArray:=by
      unfold HoldsK
      rw [flatK_eq enc sz hek]
      exact hH
    simp only [List.length_map]
    refine (walk blk off cap w hH' hb).mono ?_
    rintro e w' ⟨rfl,n,os,rfl⟩
    exact ⟨rfl,n,os,by rw [flat]; unfold sortWorldK putRowK; rw [flatK_eq enc sz hek]⟩
  · obtain rfl:=one us (by simpa using hl) hc
    exact none p cap w
end
end Go.Vm
