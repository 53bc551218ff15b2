/-
  THE V-MACHINE,text D: VmGlob,VmShelf,VmGlobs,VmBits,VmUpto,VmTake,VmShaped,VmLend,VmRow,VmSort,VmSort2,VmSort3,VmSortI,VmClear,VmArr.
-/
import Derived.Test.YtkoocklcgndanaaDoorVmC
import Derived.LaidMore
import Derived.MakeChecks
import Derived.OpenShut
import Derived.Lib.LaidTab
import Derived.Below
import Derived.JoinedCond
import Derived.Lib.SliceRun
import Derived.HandedShaped
import Derived.Handed
import Derived.Shelf.Vars
import Derived.Sort.Row
import Derived.Sort.Grow
import Derived.Sort.EncStr
import Derived.Lib.SlicesCompact
import Derived.Sort.Defs
import Derived.Sort.Statements
import Derived.Lib.BitFns
import Derived.Test.YtkoocklcgndanaaDoorVmB
namespace Go.Vm
open Go.ChangeShapes Go.RowKit Go.WideShapes Go.ChangeAt Go.WideMaps Go.WideElems
theorem laid_ints {P:Program} {W:World} {nm:String} {g:Nat} {t e:TypeId} {n:Nat} {k:IntKind} {l:List Int} (hg:P.globalNamed nm=some g) (hty:(P.globals[g]?).map (·.type)=some t) (ht:P.underlying t=some (.array n e)) (he:P.underlying e=some (.int k)) (h1:P.cellsOf e=1) (hts:P.cellsOf t=n) (hn:l.length=n)
  (h:laidMet P [(nm,.agg (l.map fun i=>.lit (.int k i)))] W):GloAt (allS W) W g (l.flatMap (cI k)):=by
 obtain ⟨ps,⟨g0,t0,cs0,f0,p0,q0,hg0,ht0,hv0,hd0,_,_⟩,_,_⟩:=h
 obtain rfl:=Option.some.inj (hg.symm.trans hg0)
 obtain rfl:=Option.some.inj (hty.symm.trans ht0)
 obtain ⟨xs,m,rfl,hx,hlen,hxl,hel⟩:=DataW.trod_array ht hd0
 simp only [Prod.mk.injEq,DataW.agg.injEq] at hx
 have hheap:∃ E fz,W.heap[g]? = some (.cells cs0 E fz):=by
  have hv:=hv0
  simp only [World.var?,hg,Option.bind_some] at hv
  split at hv
  ·rename_i c E fz hh
   cases hv
   exact ⟨E,fz,hh⟩
  ·cases hv
 obtain ⟨E,fz,hh⟩:=hheap
 have hfl:∀ (l:List Int),l.flatMap (cI k)=l.map fun i=>.v (.int k i):=by
  intro l
  induction l with
  | nil=>rfl
  | cons x l ih=>rw [List.flatMap_cons,ih]; rfl
 rw [hfl]
 have hsize:cs0.size=n:=by
  have h0:=hlen
  simp only [Array.length_toList,hts] at h0
  exact h0
 refine ⟨cs0,E,fz,heap_lt hh,hh,by rw [List.length_map,hn,hsize],RCs.of_get _ 0 fun j x hx'=>?_⟩
 rw [List.getElem?_map,Option.map_eq_some_iff] at hx'
 obtain ⟨i,hi,rfl⟩:=hx'
 have hjl:j < l.length:=(List.getElem?_eq_some_iff.1 hi).1
 have hj:=hel j (by omega)
 rw [List.getElem?_eq_getElem (by omega),h1,Nat.mul_one] at hj
 obtain ⟨a,ha1,ha2,_⟩:=DataW.trod_int he hj
 have hxj:(xs.map (·.1))[j]? = (l.map fun i=>(DataW.lit (.int k i):DataW Unit))[j]? := by rw [hx.1]
 rw [List.getElem?_map,List.getElem?_map,hi,List.getElem?_eq_getElem (show j < xs.length by omega),ha2] at hxj
 simp only [Option.map_some,Option.some.injEq,DataW.lit.injEq,Lit.int.injEq,true_and] at hxj
 subst hxj
 have hc:cs0[j]? = some (.int k a):=by
  have:=congrArg (fun l:List Value=>l[0]?) ha1
  simpa [List.getElem?_take,List.getElem?_drop] using this
 exact ⟨_,by simpa using hc,by unfold RD; exact ⟨rfl,rfl⟩⟩
end Go.Vm
namespace Go.Vm
open Go.RowKit
section
variable {P:Program} {S:Nat→Prop} {w:World}
theorem flatR_ok {S':Nat→Prop} {w':World} {a:AV} {u:Value} (h:flatR a=some u) {g:List (Nat×Bool)→Bool} {β:Path→Value} {x:Nat} {v:Value} (hr:RSlot g S' w' β x a v):v=u:=by
 unfold flatR at h
 split at h
 ·rename_i vs
  simp only [Option.map_eq_some_iff] at h
  obtain ⟨us,hus,rfl⟩:=h
  obtain ⟨h1,h2⟩:=flatVs_get hus
  obtain ⟨l,rfl,_,hl⟩:=hr
  have:l=us:=by
   apply List.ext_getElem?
   intro j
   rcases Nat.lt_or_ge j vs.length with hj | hj
   ·have hv:vs[j]? = some vs[j]:=List.getElem?_eq_getElem hj
    obtain ⟨u',hu',hf⟩:=h2 j _ hv
    obtain ⟨c,hc,hrc⟩:=All2.get hl j _ hv
    rw [hc,hu',flatV_ok hf hrc]
   ·have:=All2.len hl
    rw [List.getElem?_eq_none (by omega),List.getElem?_eq_none (by omega)]
  rw [this]
 ·obtain ⟨_,_,_,h4⟩:=flatV_mk (S:=S') (w:=w') (β:=β) h (x,0)
  exact flatV_ok h ((flat_slot h4).1 hr)
theorem ACall.below {k:Nat} {args:List AV} {us:List Value} {res:AV} {u:Value} (h:ACall P k args [] res []) (hargs:flatVs args=some us) (hal:args.length < resSlot) (hres:flatR res=some u) (w:World) :
  Calls P k us.toArray w fun e w'=>e=.returned u∧Below w.heap.size w w':=by
 obtain ⟨h1,h2⟩:=flatVs_get hargs
 have hno:∀ y i,(fget (finFr args []) y).ownsAt i=false:=by
  intro y i
  rcases finFr_cases args [] y with hy | ⟨hy1,hy2⟩ | ⟨j,rfl⟩
  ·rw [fget_finFr_arg hy]
   have ha:args[y]? = some (args.getD y .junk):=by simp [List.getD_eq_getElem?_getD,List.getElem?_eq_getElem hy]
   obtain ⟨u',_,hv⟩:=h2 y _ ha
   obtain ⟨_,_,h3,h4⟩:=flatV_mk (S:=fun _=>True) (w:=w) (β:=fun _=>.bool false) hv (0,0)
   cases hj:(args.getD y .junk).ownsAt i with
   | false=>rfl
   | true =>
    have:=(flat_ownsAt h4 i hj).2
    rw [h3] at this; cases this
  ·rw [fget_finFr_none hy1 hy2]
   cases i <;> rfl
  ·rw [fget_finFr_virt hal,if_neg (by simp)]
   cases i <;> rfl
 have hm:Mem ⟨w,ownedBy (finFr args []) (fun _=>.bool false),fun _=>False,lentAt (fun _=>.bool false) ([]:List AV).length,[]⟩ [] (fun _=>False) (fun _=>.bool false) (finFr args []) (fun x=>(us[x]?).or (lentAt (fun _=>.bool false) ([]:List AV).length x)) w:=by
  refine ⟨fun x=>?_,fun x l a hx=>?_,fun x i y j b hx=>?_,fun x i b hx=>?_,fun b hb=>hb.elim,fun b hb=>hb.elim,fun _ _ _=>rfl,rfl,rfl,rfl,Nat.le_refl _⟩
  ·have hl:lentAt (fun _=>.bool false) ([]:List AV).length x=none:=by
    unfold lentAt
    rw [if_neg (by simp)]
   rcases finFr_cases args [] x with hy | ⟨hy1,hy2⟩ | ⟨j,rfl⟩
   ·rw [fget_finFr_arg hy]
    have ha:args[x]? = some (args.getD x .junk):=by simp [List.getD_eq_getElem?_getD,List.getElem?_eq_getElem hy]
    obtain ⟨u',hu',hv⟩:=h2 x _ ha
    obtain ⟨h5,_,_,h4⟩:=flatV_mk (S:=fun _=>False) (w:=w) (β:=fun _=>.bool false) hv (x,0)
    exact ⟨u',(flat_slot h4).2 h5,fun u0 h0=>by rw [hl,hu'] at h0; simpa using h0.symm⟩
   ·rw [fget_finFr_none hy1 hy2]
    refine ⟨undef,trivial,fun u0 h0=>?_⟩
    rw [hl,List.getElem?_eq_none (by omega)] at h0
    cases h0
   ·rw [fget_finFr_virt hal,if_neg (by simp)]
    refine ⟨undef,trivial,fun u0 h0=>?_⟩
    rw [hl,List.getElem?_eq_none (by simp only [virtBase,resSlot] at *; omega)] at h0
    cases h0
  ·rcases finFr_cases args [] x with hy | ⟨hy1,hy2⟩ | ⟨j,rfl⟩
   ·rw [fget_finFr_arg hy] at hx
    have ha:args[x]? = some (args.getD x .junk):=by simp [List.getD_eq_getElem?_getD,List.getElem?_eq_getElem hy]
    obtain ⟨u',_,hv⟩:=h2 x _ ha
    rw [hx] at hv
    cases hv
   ·rw [fget_finFr_none hy1 hy2] at hx; cases hx
   ·rw [fget_finFr_virt hal,if_neg (by simp)] at hx; cases hx
  ·rw [hno] at hx; cases hx
  ·rw [hno] at hx; cases hx
 refine (h.2 w (fun _=>False) (fun _=>.bool false) us h1.symm hm).mono ?_
 rintro e w' ⟨v,S',β',rfl,hm'⟩
 have hv:v=u:=by
  obtain ⟨v0,hr,hu0⟩:=hm'.rel resSlot
  rw [fget_cons_self] at hr
  have e1:=hu0 v (by simp)
  subst e1
  exact flatR_ok hres hr
 subst hv
 refine ⟨rfl,⟨hm'.os,hm'.tape,hm'.output,hm'.size,fun b hb=>hm'.old b hb ?_⟩⟩
 rintro ⟨y,i,ho,_⟩
 rw [hno] at ho; cases ho
end
end Go.Vm
namespace Go.Vm
open Go.ChangeShapes Go.RowKit Go.WideShapes Go.ChangeAt Go.WideMaps Go.WideElems
abbrev Glos:=List (Nat×List Dat)
def gvs (gs:Glos):List AV:=gs.map fun g=>.glo g.1 g.2
def gbs (gs:Glos):Path→Value:=fun p=>match gs[p.1 - virtBase]? with
 | some g=>if virtBase≤p.1 then .pointer (some ⟨g.1,0,none⟩) else .bool false
 | none=>.bool false
theorem gbs_at {gs:Glos} {j:Nat} {g:Nat×List Dat} (h:gs[j]? = some g) (i:Nat):gbs gs (virtBase+j,i)=.pointer (some ⟨g.1,0,none⟩):=by
 simp [gbs,h]
theorem start_memGs {W:World} {args:List AV} {us:List Value} {gs:Glos} (hlen:us.length=args.length) (hn:args.length < resSlot) (hd:args.all AV.isData=true) (hr:All2 (fun _ a u=>RFlat (allS W) W (fun _=>.bool false) (0,0) a u) 0 args us)
  (hg:∀ g∈gs,GloAt (allS W) W g.1 g.2) :
  (∀ x i,(fget (finFr args (gvs gs)) x).ownsAt i=false)∧Mem ⟨W,ownedBy (finFr args (gvs gs)) (gbs gs),allS W,lentAt (gbs gs) (gvs gs).length,[]⟩ [] (allS W) (gbs gs) (finFr args (gvs gs)) (fun x=>(us[x]?).or (lentAt (gbs gs) (gvs gs).length x)) W:=by
 have hgl:(gvs gs).length=gs.length:=by simp [gvs]
 have hat:∀ x,(∃ a u,fget (finFr args (gvs gs)) x=a∧a.isData=true∧us[x]? = some u∧RFlat (allS W) W (fun _=>.bool false) (0,0) a u) ∨
   (∃ j g,x=virtBase+j∧gs[j]? = some g∧fget (finFr args (gvs gs)) x=.glo g.1 g.2∧us[x]? = none∧lentAt (gbs gs) (gvs gs).length x=some (.pointer (some ⟨g.1,0,none⟩))) ∨
   (fget (finFr args (gvs gs)) x=.junk∧us[x]? = none∧lentAt (gbs gs) (gvs gs).length x=none):=by
  intro x
  rcases finFr_cases args (gvs gs) x with h | ⟨h1,h2⟩ | ⟨j,rfl⟩
  ·left
   obtain ⟨u,hu,hru⟩:=All2.get hr x args[x] (by simp [h])
   refine ⟨args[x],u,?_,(List.all_eq_true.1 hd) _ (List.getElem_mem h),by simpa using hu,hru⟩
   rw [fget_finFr_arg h,List.getD_eq_getElem?_getD]
   simp [h]
  ·right; right
   refine ⟨fget_finFr_none h1 h2,by simp; omega,?_⟩
   unfold lentAt
   rw [if_neg (by omega)]
  ·right
   have hu:us[virtBase+j]? = none:=by
    rw [List.getElem?_eq_none]
    simp only [virtBase,resSlot] at *
    omega
   rcases Nat.lt_or_ge j gs.length with hj | hj
   ·left
    have hgj:gs[j]? = some gs[j]:=List.getElem?_eq_getElem hj
    refine ⟨j,gs[j],rfl,hgj,?_,hu,?_⟩
    ·rw [fget_finFr_virt hn,if_pos (by omega),List.getD_eq_getElem?_getD]
     simp [gvs,hj]
    ·unfold lentAt
     rw [if_pos ⟨by omega,by omega⟩,gbs_at hgj]
   ·right
    refine ⟨by rw [fget_finFr_virt hn,if_neg (by omega)],hu,?_⟩
    unfold lentAt
    rw [if_neg (by omega)]
 have hown:∀ x i,(fget (finFr args (gvs gs)) x).ownsAt i=false:=by
  intro x i
  rcases hat x with ⟨a,u,h1,h2,_,_⟩ | ⟨j,g,_,_,h1,_⟩ | ⟨h1,_,_⟩
  ·rw [h1]
   cases a <;> first | (cases i <;> rfl) | (simp [AV.isData] at h2)
  ·rw [h1]; cases i <;> rfl
  ·rw [h1]; cases i <;> rfl
 refine ⟨hown,fun x=>?_,fun x l a h=>?_,fun x i y j b h=>?_,fun x i b h=>?_,fun b hb=>⟨hb,.inl hb⟩,fun _ h=>h,fun _ _ _=>rfl,rfl,rfl,rfl,Nat.le_refl _⟩
 ·rcases hat x with ⟨a,u,h1,h2,h3,h4⟩ | ⟨j,g,rfl,hgj,h1,h2,h3⟩ | ⟨h1,h2,h3⟩
  ·refine ⟨u,?_,fun u' hu'=>by simp [h3] at hu'; exact hu'.symm⟩
   rw [h1]
   cases a with
   | d y=>exact (flat_slot rfl).2 h4
   | agg y=>exact (flat_slot rfl).2 h4
   | _=>simp [AV.isData] at h2
  ·refine ⟨.pointer (some ⟨g.1,0,none⟩),?_,fun u' hu'=>by
    simp only [h2,h3] at hu'
    simpa using hu'.symm⟩
   rw [h1]
   exact (flat_slot rfl).2 ⟨(gbs_at hgj 0).symm,rfl,hg g (List.mem_of_getElem? hgj)⟩
  ·refine ⟨undef,?_,fun u' hu'=>by
    simp only [h2,h3] at hu'
    cases hu'⟩
   rw [h1]
   exact (flat_slot rfl).2 trivial
 ·rcases hat x with ⟨a',u,h1,h2,_,_⟩ | ⟨_,_,_,_,h1,_⟩ | ⟨h1,_,_⟩
  ·rw [h] at h1
   subst h1
   simp [AV.isData] at h2
  ·rw [h] at h1; cases h1
  ·rw [h] at h1; cases h1
 ·rw [hown] at h; cases h
 ·rw [hown] at h; cases h
theorem ACall.lawGs {P:Program} {k:Nat} {gs:Glos} {args:List AV} {us:List Value} {W:World} {b:Bool} (h:ACall P k args (gvs gs) (.d (.v (.bool b))) (gvs gs)) (hlen:us.length=args.length) (hn:args.length < resSlot) (hd:args.all AV.isData=true)
  (hr:All2 (fun _ a u=>RFlat (allS W) W (fun _=>.bool false) (0,0) a u) 0 args us) (hg:∀ g∈gs,GloAt (allS W) W g.1 g.2) :
  Calls P k us.toArray W fun e W'=>e=.returned (.bool b)∧KeptAll W W':=by
 obtain ⟨hown,hm0⟩:=start_memGs hlen hn hd hr hg
 refine (h.2 W (allS W) (gbs gs) us hlen hm0).mono fun e W' ⟨u,S',β',he,hm⟩=>?_
 obtain ⟨v,hv1,hv2⟩:=hm.rel resSlot
 have hu:=hv2 u (by simp)
 subst hu
 rw [show fget ((resSlot,AV.d (.v (.bool b))) :: boxFr virtBase (gvs gs)) resSlot=.d (.v (.bool b)) from fget_cons_self _ _ _] at hv1
 have hb:u=.bool b:=hv1.1
 refine ⟨by rw [he,hb],hm.os,hm.output,hm.size,fun i hi=>hm.old i hi ?_⟩
 rintro ⟨x,j,hx,_⟩
 rw [hown] at hx
 cases hx
theorem law_contractGs {β:Type} {H:Type} {enc:TypeId×Value→H} {P:Program} {k:Nat} (gl:Glos) {f:Func} {s:ChangeSpec} {av:β→List AV} {Q:β→Prop} {r:Bool} {tb:TypeId} {ts:List TypeId} {apart fresh handsOn:Bool}
  (hts:f.params.toList=ts) (hop:OpensArgs P ts av Q) (hav:∀ b,(av b).length < resSlot) (hlaw:∀ b,Q b→ACall P k (av b) (gvs gl) (.d (.v (.bool r))) (gvs gl))
  (hlaid:laidOutB P=true) (hread:(ts.all fun t=>P.readableRec t && decide (t < P.types.size))=true) (hvars:s.vars=[]) (hres:f.resultTypes=#[tb]) (htb:P.underlying tb=some .bool)
  (hspec:∀ ds:List (DataW H),ds.length=ts.length→s.fn H (ds++[])={ results:=[.lit (.bool r)],args:=ds })
  (W:World) (base:Nat) (args:Array Value) (ds gs:List (DataW H)) (before:List MemPlace) (hg:∀ g∈gl,GloAt (allS W) W g.1 g.2)
  (hval:∀ (j:Nat) t v,f.params[j]? = some t→args[j]? = some v→Value.okWide P W .any base t v)
  (hW:DataW.Whole enc P f.params.toList s.vars apart W args.toList ds gs before) :
  Calls P k args W fun e W'=>∃ v,e=.returned v∧s.post enc P f apart fresh handsOn false W args v W':=by
 subst hts
 have hW':=hW
 have hlt:=hW.lt
 obtain ⟨p,q,hA,hV,rfl,hfz,hnd⟩:=hW
 rw [hvars] at hV
 obtain ⟨rfl,rfl⟩:gs=[]∧q=[]:=by
  cases gs with
  | nil=>exact ⟨rfl,hV⟩
  | cons=>exact hV.elim
 obtain ⟨b,hQ,hvl,hda,hr⟩:=hop H enc W base args.toList ds p (fun j t v h1 h2=>hval j t v (by simpa using h1) (by simpa using h2)) hA
 have hdl:∀ {ts:List TypeId} {vs:List Value} {ds:List (DataW H)} {ps:List MemPlace},DataW.TrodAll enc P W 0 (fun _=>true) true ts vs ds ps→ds.length=ts.length:=by
  intro ts
  induction ts with
  | nil=>intro vs ds ps h; cases vs <;> cases ds <;> first | rfl | exact h.elim
  | cons t ts ih =>
   intro vs ds ps h
   cases vs with
   | nil=>exact h.elim
   | cons v vs =>
    cases ds with
    | nil=>exact h.elim
    | cons d ds =>
     obtain ⟨_,_,_,h2,_⟩:=h
     simp [ih h2]
 have hsp:=hspec ds (hdl hA)
 have hc:=(hlaw b hQ).lawGs (W:=W) (us:=args.toList) hvl (hav b) hda (hr 0) hg
 rw [show args.toList.toArray=args from by simp] at hc
 refine hc.mono fun e W' ⟨he,hk⟩=>⟨_,he,?_⟩
 refine post_kept (pa:=p) (pv:=[]) hW' hk (fun _ _ _=>?_) (fun sp hb=>?_) (fun sp hb=>?_) (by simp) ?_
 ·rw [hsp,hres]
  exact trodAll_mk1 (shut_bool htb r)
 ·rw [hsp]
  exact TrodAll_kept hlaid hk sp hread hA (fun x hx=>hlt x (by simp [hx])) (fun x hx=>hb x (by simp [hx]))
 ·rw [hsp,hvars]
  rfl
 ·exact ok_one hres rfl (okWide_bool_mk htb r)
theorem laid_one {P:Program} {W:World} {nm:String} {d:DataW Unit}:∀ {lay:List (String×DataW Unit)},(nm,d)∈lay→laidMet P lay W→laidMet P [(nm,d)] W:=by
 intro lay hmem h
 obtain ⟨ps,h1,h2,h3⟩:=h
 have key:∀ {lay:List (String×DataW Unit)} {ps:List MemPlace},(nm,d)∈lay→DataW.LaidVars P W lay ps→∃ qs,DataW.LaidVars P W [(nm,d)] qs∧∃ ps1 ps2,ps=ps1++qs++ps2:=by
  intro lay
  induction lay with
  | nil=>intro ps hm _; cases hm
  | cons x lay ih =>
   intro ps hm hl
   obtain ⟨y,e⟩:=x
   obtain ⟨g0,t0,cs0,f0,p0,q0,a1,a2,a3,a4,a5,a6⟩:=hl
   rcases List.mem_cons.1 hm with he | hm
   ·simp only [Prod.mk.injEq] at he
    obtain ⟨rfl,rfl⟩:=he
    exact ⟨MemPlace.row ⟨g0,0,none⟩ cs0.size++p0++[],⟨g0,t0,cs0,f0,p0,[],a1,a2,a3,a4,rfl,rfl⟩,[],q0,by simp [a6]⟩
   ·obtain ⟨qs,h4,ps1,ps2,h5⟩:=ih hm a5
    exact ⟨qs,h4,MemPlace.row ⟨g0,0,none⟩ cs0.size++p0++ps1,ps2,by rw [a6,h5]; simp [List.append_assoc]⟩
 obtain ⟨qs,h4,ps1,ps2,rfl⟩:=key hmem h1
 refine ⟨qs,h4,?_,fun b off hb=>h3 b off (by simp [hb])⟩
 rw [List.append_assoc] at h2
 exact (List.nodup_append.1 (List.nodup_append.1 h2).2.1).1
end Go.Vm
namespace Go.Vm
theorem wrap_u32 {x:Int} (h:0≤x∧x < 4294967296):IntKind.u32.wrap x=x:=by
 unfold IntKind.wrap
 simp [IntKind.bits,IntKind.signed]
 omega
theorem wrap_u8 {x:Int} (h:0≤x∧x < 256):IntKind.u8.wrap x=x:=by
 unfold IntKind.wrap
 simp [IntKind.bits,IntKind.signed]
 omega
end Go.Vm
namespace Go.Vm
open Go.ChangeShapes Go.WideShapes Go.ChangeAt Go.WideMaps Go.WideElems Go.RowKit
section
variable {P:Program} {t:TypeId}
end
end Go.Vm
namespace Go.Vm
open Go.RowKit
section
variable {P:Program} {S:Nat→Prop} {β:Path→Value} {w:World}
abbrev ArgMem (args:List AV) (us:List Value) (S:Nat→Prop) (β:Path→Value) (w:World):Prop :=
 Mem ⟨w,ownedBy (finFr args []) β,S,lentAt β ([]:List AV).length,[]⟩ [] S β (finFr args []) (fun x=>(us[x]?).or (lentAt β ([]:List AV).length x)) w
theorem ArgMem.own {args:List AV} {us:List Value} (hm:ArgMem args us S β w) (hl:us.length=args.length) {i:Nat} {κ:TypeId} {sz:Nat} {es:List (List Dat)} (h:args[i]? = some (.own κ sz es)) :
  ∃ u,us[i]? = some u∧u=β (i,0)∧OwnAt S w u κ sz es∧∀ b,blk u=some b→ownedBy (finFr args []) β b∧¬ S b:=by
 have hi:i < args.length:=(List.getElem?_eq_some_iff.1 h).1
 obtain ⟨u0,hr,hu⟩:=hm.rel i
 have hf:fget (finFr args []) i=.own κ sz es:=by rw [fget_finFr_arg hi,List.getD_eq_getElem?_getD,h]; rfl
 rw [hf] at hr
 have hui:us[i]? = some us[i]:=List.getElem?_eq_getElem (by omega)
 have e:=hu us[i] (by simp [hui])
 refine ⟨us[i],hui,e.trans hr.1,by rw [e]; exact hr.2,fun b hb=>?_⟩
 have ho:(fget (finFr args []) i).ownsAt 0=true:=by rw [hf]; rfl
 have hb':blk (β (i,0))=some b:=by rw [← hr.1,← e]; exact hb
 exact ⟨⟨i,0,ho,hb'⟩,(hm.fre i 0 b ho hb').1⟩
theorem ArgMem.flat {args:List AV} {us:List Value} (hm:ArgMem args us S β w) (hl:us.length=args.length) {i:Nat} {x:Value} (h:args[i]? = some (.d (.v x))):us[i]? = some x:=by
 have hi:i < args.length:=(List.getElem?_eq_some_iff.1 h).1
 obtain ⟨u0,hr,hu⟩:=hm.rel i
 have hf:fget (finFr args []) i=.d (.v x):=by rw [fget_finFr_arg hi,List.getD_eq_getElem?_getD,h]; rfl
 rw [hf] at hr
 have hui:us[i]? = some us[i]:=List.getElem?_eq_getElem (by omega)
 have e:=hu us[i] (by simp [hui])
 have h0:u0=x:=hr.1
 rw [hui,e,h0]
theorem ACall.ofOwn {k:Nat} (hk:Callable P k) {args:List AV} {κ:TypeId} {sz:Nat} {es:List (List Dat)}
  (h:∀ (w:World) (S:Nat→Prop) (β:Path→Value) (us:List Value),us.length=args.length→ArgMem args us S β w→Calls P k us.toArray w fun e w'=>∃ u,e=.returned u∧OwnAt S w' u κ sz es ∧
   (∀ b,blk u=some b→ownedBy (finFr args []) β b∨w.heap.size≤b)∧(∀ b,b < w.heap.size→¬ ownedBy (finFr args []) β b→w'.heap[b]? = w.heap[b]?)∧w.heap.size≤w'.heap.size∧w'.os=w.os∧w'.tape=w.tape∧w'.output=w.output) :
  ACall P k args [] (.own κ sz es) []:=by
 refine ⟨hk,fun w S β us hl hm=>?_⟩
 refine (h w S β us hl hm).mono ?_
 rintro e w' ⟨u,rfl,hown,hblk,hold,hsize,hos,htape,hout⟩
 have hno:∀ x,x≠resSlot→fget ((resSlot,AV.own κ sz es) :: boxFr virtBase []) x=.junk:=by
  intro x hx
  rw [fget_cons_ne _ _ (Ne.symm hx)]
  rfl
 have hon:∀ x i,(fget ((resSlot,AV.own κ sz es) :: boxFr virtBase []) x).ownsAt i=true→x=resSlot∧i=0:=by
  intro x i ho
  by_cases hx:x=resSlot
  ·subst hx
   rw [fget_cons_self] at ho
   refine ⟨rfl,?_⟩
   cases i with
   | zero=>rfl
   | succ i=>simp [AV.ownsAt] at ho
  ·rw [hno x hx] at ho
   cases i <;> simp [AV.ownsAt,AV.isOwn] at ho
 refine ⟨u,S,fun p=>if p=(resSlot,0) then u else β p,rfl,⟨fun x=>?_,fun x l a hx=>?_,fun x i y j b h1 h2 _ _=>?_,fun x i b h1 h2=>?_,fun b hS=>⟨Nat.lt_of_lt_of_le (hm.stb b hS).1 hsize,.inl hS⟩,fun _ h=>h,fun b hb hn=>hold b hb hn,hos,htape,hout,hsize⟩⟩
 ·by_cases hx:x=resSlot
  ·subst hx
   refine ⟨u,?_,fun u' h=>by simpa using h.symm⟩
   rw [fget_cons_self]
   exact ⟨by simp,hown⟩
  ·refine ⟨undef,by rw [hno x hx]; exact trivial,fun u' h=>?_⟩
   rw [if_neg hx] at h
   unfold lentAt at h
   rw [if_neg (by simp)] at h
   cases h
 ·by_cases hx':x=resSlot
  ·subst hx'; rw [fget_cons_self] at hx; cases hx
  ·rw [hno x hx'] at hx; cases hx
 ·obtain ⟨rfl,rfl⟩:=hon x i h1
  obtain ⟨rfl,rfl⟩:=hon y j h2
  exact ⟨rfl,rfl⟩
 ·obtain ⟨rfl,rfl⟩:=hon x i h1
  simp only [if_true] at h2
  rcases hblk b h2 with h | h
  ·obtain ⟨y,q,h3,h4⟩:=h
   exact ⟨(hm.fre y q b h3 h4).1,.inr ⟨y,q,h3,h4⟩⟩
  ·refine ⟨fun hS=>?_,.inl h⟩
   have:=(hm.stb b hS).1
   omega
theorem setCells_row (b:Nat) (E:TypeId) (fz:Nat×Nat):∀ (vs:List Value) (o:Nat) (arr:Array Value) (w:World),w.heap[b]? = some (.cells arr E fz)→o+vs.length≤arr.size →
  w.setCells b o vs=w.setRow b (spl o vs arr.toList).toArray
 | [],o,arr,w,hb,_=>by
  have e:spl o ([]:List Value) arr.toList=arr.toList:=by simp [spl]
  rw [World.setCells,e,Array.toArray_toList,setRow_self w b arr E fz hb]
 | v :: vs,o,arr,w,hb,hl=>by
  have hl':o+(vs.length+1)≤arr.size:=by simpa using hl
  have h1:w.setCell ⟨b,o,none⟩ v=w.setRow b (arr.setIfInBounds o v):=setCell_eq_setRow w b o arr E fz v hb
  rw [World.setCells,h1,setCells_row b E fz vs (o+1) (arr.setIfInBounds o v) _ (setRow_heap w b arr _ E fz hb) (by simp; omega),setRow_setRow]
  congr 2
  have e:=list_seg_step arr.toList o v vs (by simpa using hl)
  simpa [spl,Array.toList_setIfInBounds] using e
theorem run_clear_cells (w:World) (t e ty:TypeId) (z:Value) (ht:P.underlying t=some (.slice e)) (hv:∀ w,(zeroValue e).run P w=.ok z w) (h1:∀ v∈z.cells.toList,v.oneCell'=true) (b o n c:Nat) (hn:0 < n)
  (hc:∀ j,j < n * z.cells.size→(w.cell? ⟨b,o+j,none⟩).isSome=true) (hf:∀ j,j < n * z.cells.size→w.frozen? ⟨b,o+j,none⟩=false) :
  (Builtin.clear_ #[t] ty #[.slice (some ⟨b,o,none⟩) n c]).run P w=.ok (.tuple #[]) (w.setCells b o (Builtin.zeroCells z.cells n).toList):=by
 have hl:(Builtin.zeroCells z.cells n).toList.length=n * z.cells.size:=by simp [Builtin.zeroCells]
 have hst:=run_storeCells_cells (P:=P) b o (Builtin.zeroCells z.cells n).toList 0 w (by rw [hl]; simpa using hc) (by rw [hl]; simpa using hf) (by
  intro v hv'
  simp only [Builtin.zeroCells,Array.toList_map,List.mem_map,Array.toList_range,List.mem_range] at hv'
  obtain ⟨j,hj,rfl⟩:=hv'
  have hpos:0 < z.cells.size:=by
   rcases Nat.eq_zero_or_pos z.cells.size with h | h
   ·rw [h] at hj; omega
   ·exact h
  have hlt:=Nat.mod_lt j hpos
  rw [getElem!_pos z.cells _ hlt]
  exact h1 _ (by simp))
 simp only [Nat.add_zero] at hst
 obtain ⟨m,rfl⟩:∃ m,n=m+1:=⟨n - 1,by omega⟩
 simp [Builtin.clear_,run_underlying ht,hv,hst]
theorem row_thaw {b:Nat} {arr:Array Value} {E:TypeId} {fz:Nat×Nat} (hb:w.heap[b]? = some (.cells arr E fz)) (hfz:FzOk fz arr.size) (o:Nat) (ho:o < arr.size):w.frozen? ⟨b,o,none⟩=false:=by
 simp only [World.frozen?,hb]
 have:=hfz.out o ho
 simp only [Bool.and_eq_false_iff,decide_eq_false_iff_not]
 omega
theorem REs.ones {g:Nat→Option Value} {sz:Nat} {es:List (List Dat)} {o:Nat} (h:REs S w sz es g o) (j:Nat) (hj:j < es.length * sz):∀ v,g (o+j)=some v→v.oneCell'=true:=by
 intro v hv
 have hsz:0 < sz:=by rcases Nat.eq_zero_or_pos sz with h0 | h0 <;> simp_all
 have hq:j / sz < es.length:=Nat.div_lt_of_lt_mul (by rwa [Nat.mul_comm])
 obtain ⟨h1,h2⟩:=REs.get es o (j / sz) _ h (List.getElem?_eq_getElem hq)
 have hr:j % sz < (es[j / sz]).length:=by rw [h1]; exact Nat.mod_lt _ hsz
 obtain ⟨u,hu,hrd⟩:=RCs.get _ _ (j % sz) _ h2 (List.getElem?_eq_getElem hr)
 have e:o+j / sz * sz+j % sz=o+j:=by
  have:=Nat.div_add_mod j sz
  rw [Nat.mul_comm] at this
  omega
 rw [e,hv] at hu
 cases hu
 exact RD_one _ _ hrd
end
end Go.Vm
namespace Go.Vm
open Go.Proofs
variable {H:Type} {enc:TypeId×Value→H}
end Go.Vm
namespace Go.Vm
open Go.RowKit
section
variable {P:Program} {e:Env} {G:GEnv} {S:Nat→Prop} {β:Path→Value} {fr:Fr} {vals:Nat→Option Value} {w:World}
theorem Mem.more (hm:Mem e G S β fr vals w) {w':World} (hold:∀ b,b < w.heap.size→w'.heap[b]? = w.heap[b]?) (hsize:w.heap.size≤w'.heap.size) (hos:w'.os=w.os) (htape:w'.tape=w.tape) (hout:w'.output=w.output):Mem e G S β fr vals w':=by
 refine ⟨fun x=>?_,hm.gok,hm.dis,hm.fre,fun b hb=>⟨Nat.lt_of_lt_of_le (hm.stb b hb).1 hsize,(hm.stb b hb).2⟩,hm.s0,fun b h1 h2=>(hold b (Nat.lt_of_lt_of_le h1 hm.size)).trans (hm.old b h1 h2),hos.trans hm.os,htape.trans hm.tape,hout.trans hm.output,Nat.le_trans hm.size hsize⟩
 obtain ⟨u,hr,hu⟩:=hm.rel x
 exact ⟨u,hr.turn (fun _ _ _=>rfl) (fun _ h=>h) (fun b hb=>hold b (hm.stb b hb).1) (fun _=>rfl) (fun j ho b hb=>hold b (hm.blt ho hb)) (fun _ _=>rfl),hu⟩
theorem Mem.result0 (hm:Mem e G S β fr vals w) (t:Nat) {fr':Fr} {vals':Nat→Option Value} (h:∀ x,x≠t→fget fr' x=fget fr x∨fget fr' x=.junk) (ht:fget fr' t=.tup []) (hv:∀ x,x≠t→∀ u,vals' x=some u→vals x=some u) (hvt:∀ u,vals' t=some u→u=.tuple #[]):Mem e G S β fr' vals' w:=by
 have hon:∀ x i,(fget fr' x).ownsAt i=true→x≠t∧(fget fr x).ownsAt i=true:=by
  intro x i ho
  by_cases hx:x=t
  ·subst hx
   rw [ht] at ho
   cases i <;> simp [AV.ownsAt,AV.isOwn] at ho
  ·refine ⟨hx,?_⟩
   rcases h x hx with h1 | h1
   ·rw [← h1]; exact ho
   ·rw [h1] at ho
    cases i <;> simp [AV.ownsAt,AV.isOwn] at ho
 refine ⟨fun x=>?_,fun x l a hx=>?_,fun x i y j b h1 h2=>hm.dis x i y j b (hon x i h1).2 (hon y j h2).2,fun x i b h1=>hm.fre x i b (hon x i h1).2,hm.stb,hm.s0,hm.old,hm.os,hm.tape,hm.output,hm.size⟩
 ·by_cases hx:x=t
  ·subst hx
   rw [ht]
   exact ⟨.tuple #[],⟨[],rfl,rfl,by simp [RParts,All2]⟩,hvt⟩
  ·obtain ⟨u,hr,hu⟩:=hm.rel x
   rcases h x hx with h1 | h1
   ·exact ⟨u,by rw [h1]; exact hr,fun u' hh=>hu u' (hv x hx u' hh)⟩
   ·exact ⟨u,by rw [h1]; exact trivial,fun u' hh=>hu u' (hv x hx u' hh)⟩
 ·by_cases hx':x=t
  ·subst hx'; rw [ht] at hx; cases hx
  ·rcases h x hx' with h1 | h1
   ·exact hm.gok x l a (by rw [← h1]; exact hx)
   ·rw [h1] at hx; cases hx
theorem ACall.lend {k:Nat} (hk:Callable P k) {q:Nat} {more:List AV} {V V':AV} {κ:TypeId} {sz:Nat} {es es':List (List Dat)} (hn:more.length < 1000)
  (hq:pget (finFr (.vw (virtBase,q) :: more) [V]) (virtBase,q)=.own κ sz es)
  (hV:fget (pset (finFr (.vw (virtBase,q) :: more) [V]) (virtBase,q) (.own κ sz es')) virtBase=V')
  (h:∀ (w:World) (S:Nat→Prop) (u:Value) (us:List Value),us.length=more.length→(∀ (i:Nat) (x:Value),more[i]? = some (AV.d (.v x))→us[i]? = some x)→(∀ (i f:Nat),more[i]? = some (AV.clo f [])→us[i]? = some (Value.func (.func f) #[] #[])) →
   OwnAt S w u κ sz es→(∀ b,blk u=some b→¬ S b)→(∀ b,S b→b < w.heap.size)→Calls P k (u :: us).toArray w fun e w'=>e=.returned (.tuple #[])∧OwnAt S w' u κ sz es' ∧
    (∀ b,b < w.heap.size→blk u≠some b→w'.heap[b]? = w.heap[b]?)∧w.heap.size≤w'.heap.size∧w'.os=w.os∧w'.tape=w.tape∧w'.output=w.output) :
  ACall P k (.vw (virtBase,q) :: more) [V] (.tup []) [V']:=by
 refine ⟨hk,fun w S β us hl hm=>?_⟩
 obtain ⟨u,us,rfl⟩:∃ u us',us=u :: us':=by
  cases us with
  | nil=>simp at hl
  | cons a b=>exact ⟨a,b,rfl⟩
 have hl':us.length=more.length:=by simpa using hl
 have hu0:u=β (virtBase,q):=by
  obtain ⟨u0,hr,hu⟩:=hm.rel 0
  have hf:fget (finFr (.vw (virtBase,q) :: more) [V]) 0=.vw (virtBase,q):=by rw [fget_finFr_arg (by simp)]; rfl
  rw [hf] at hr
  have e1:=hu u (by simp)
  have e2:u0=β (virtBase,q):=hr
  rw [e1,e2]
 have hown:=pget_own hm hq
 have hno:∀ b,blk (β (virtBase,q))=some b→¬ S b:=fun b hb=>(hm.fre virtBase q b (pget_owns hq) hb).1
 have hfl:∀ (i:Nat) (x:Value),more[i]? = some (AV.d (.v x))→us[i]? = some x:=by
  intro i x hi
  obtain ⟨u1,hr,hu⟩:=hm.rel (i+1)
  have him:i < more.length:=(List.getElem?_eq_some_iff.1 hi).1
  have hf:fget (finFr (.vw (virtBase,q) :: more) [V]) (i+1)=.d (.v x):=by rw [fget_finFr_arg (by simpa using him),List.getD_eq_getElem?_getD]; simp [hi]
  rw [hf] at hr
  have h0:u1=x:=hr.1
  have hus:us[i]? = some us[i]:=List.getElem?_eq_getElem (by omega)
  have e1:=hu us[i] (by simp [hus])
  rw [hus,e1,h0]
 have hcl:∀ (i f:Nat),more[i]? = some (AV.clo f [])→us[i]? = some (Value.func (.func f) #[] #[]):=by
  intro i f hi
  obtain ⟨u1,hr,hu⟩:=hm.rel (i+1)
  have him:i < more.length:=(List.getElem?_eq_some_iff.1 hi).1
  have hf:fget (finFr (.vw (virtBase,q) :: more) [V]) (i+1)=.clo f []:=by rw [fget_finFr_arg (by simpa using him),List.getD_eq_getElem?_getD]; simp [hi]
  rw [hf] at hr
  obtain ⟨l,h0,h1⟩:=hr
  have hl0:l=[]:=by
   cases l with
   | nil=>rfl
   | cons a b=>exact absurd h1 (by simp [All2])
  subst hl0
  have hus:us[i]? = some us[i]:=List.getElem?_eq_getElem (by omega)
  have e1:=hu us[i] (by simp [hus])
  rw [hus,e1,h0]
 rw [hu0]
 refine (h w S (β (virtBase,q)) us hl' hfl hcl hown hno (fun b hb=>(hm.stb b hb).1)).mono ?_
 rintro ee w' ⟨rfl,ho',hold,hsize,hos,htape,hout⟩
 have hm2:Mem ⟨w,ownedBy (finFr (.vw (virtBase,q) :: more) [V]) β,S,lentAt β ([V]:List AV).length,[]⟩ [] S β (pset (finFr (.vw (virtBase,q) :: more) [V]) (virtBase,q) (.own κ sz es')) (fun x=>((u :: us)[x]?).or (lentAt β ([V]:List AV).length x)) w':=by
  cases hb:blk (β (virtBase,q)) with
  | none =>
   have hm1:=hm.more (w':=w') (fun b hb'=>hold b hb' (by rw [hb]; simp)) hsize hos htape hout
   exact hm1.pset hq rfl (S':=S) ⟨rfl,ho'⟩ (fun _ h=>h) (fun _ h=>.inl h) (fun _ _=>rfl) rfl rfl rfl rfl
  | some b =>
   have hlt:b < w.heap.size:=hown.lt hb
   have hm1:=hm.more (w':={ w' with heap:=w'.heap.setIfInBounds b w.heap[b] }) (fun c hc=>by
    by_cases hcb:c=b
    ·subst hcb
     simp [hlt,Nat.lt_of_lt_of_le hlt hsize]
    ·rw [← hold c hc (by rw [hb]; intro h; exact hcb (Option.some.inj h).symm)]
     simp [Array.getElem?_setIfInBounds,Ne.symm hcb]) (by simpa using hsize) hos htape hout
   refine hm1.pset hq rfl (S':=S) (w':=w') ⟨rfl,ho'⟩ (fun _ h=>h) (fun _ h=>.inl h) (fun c hc=>?_) (by simp) rfl rfl rfl
   have hcb:¬ b=c:=fun h=>hc (by rw [hb,h])
   simp [Array.getElem?_setIfInBounds,hcb]
 refine ⟨.tuple #[],S,β,rfl,hm2.result0 resSlot (fun x hx=>?_) (fget_cons_self _ _ _) (fun x hx u' hu'=>?_) (fun u' hu'=>by simpa using hu'.symm)⟩
 ·rw [fget_cons_ne _ _ (Ne.symm hx)]
  by_cases hxv:x=virtBase
  ·subst hxv
   exact .inl (by rw [hV]; simp [boxFr,fget_cons_self])
  ·exact .inr (by simp only [boxFr]; rw [fget_cons_ne _ _ (Ne.symm hxv)]; rfl)
 ·rw [if_neg hx] at hu'
  have hxv:x=virtBase:=by
   unfold lentAt at hu'
   split at hu'
   ·simp at *; omega
   ·cases hu'
  subst hxv
  have:(u :: us)[virtBase]? = none:=List.getElem?_eq_none (by simp [virtBase] at *; omega)
  simp only [this,Option.none_or]
  exact hu'
end
end Go.Vm
namespace Go.Vm
open Go.RowKit
section
variable {S:Nat→Prop} {w:World} {α:Type}
def litV:Dat→Value
 | .v x=>x
 | .str l=>strOf l
 | _=>undef
def isLit:Dat→Bool
 | .v x=>x.oneCell'
 | .str _=>true
 | _=>false
theorem RD_lit {d:Dat} (h:isLit d=true) (u:Value):RD S w d u↔u=litV d:=by
 cases d <;> simp_all [isLit,litV,RD]
theorem RCs_lits {g:Nat→Option Value}:∀ (cs:List Dat) (o:Nat),(∀ d∈cs,isLit d=true)→(RCs S w cs g o↔∀ t,t < cs.length→g (o+t)=(cs.map litV)[t]?)
 | [],o,_=>by simp [RCs]
 | c :: cs,o,h=>by
  simp only [RCs]
  rw [RCs_lits cs (o+1) (fun d hd=>h d (by simp [hd]))]
  constructor
  ·rintro ⟨⟨u,h1,h2⟩,h3⟩ t ht
   rw [RD_lit (h c (by simp))] at h2
   cases t with
   | zero=>simpa [h2] using h1
   | succ t =>
    have:=h3 t (by simpa using ht)
    simpa [Nat.add_assoc,Nat.add_comm 1 t] using this
  ·intro h3
   refine ⟨⟨litV c,by simpa using h3 0 (by simp),(RD_lit (h c (by simp)) _).2 rfl⟩,fun t ht=>?_⟩
   have:=h3 (t+1) (by simpa using ht)
   simpa [Nat.add_assoc,Nat.add_comm 1 t] using this
theorem REs_lits {g:Nat→Option Value} {sz:Nat}:∀ (es:List (List Dat)) (o:Nat),(∀ d∈es,d.length=sz∧∀ x∈d,isLit x=true)→(REs S w sz es g o↔∀ t,t < es.length * sz→g (o+t)=(es.flatMap (·.map litV))[t]?)
 | [],o,_=>by simp [REs]
 | c :: es,o,h=>by
  have hc:=h c (by simp)
  have hl:(c.map litV).length=sz:=by simpa using hc.1
  simp only [REs]
  rw [REs_lits es (o+sz) (fun d hd=>h d (by simp [hd])),RCs_lits c o hc.2]
  simp only [List.flatMap_cons,List.length_cons,Nat.succ_mul]
  constructor
  ·rintro ⟨_,h2,h3⟩ t ht
   by_cases hs:t < sz
   ·rw [List.getElem?_append_left (by omega)]
    exact h2 t (by omega)
   ·rw [List.getElem?_append_right (by omega),hl,← h3 (t - sz) (by omega)]
    congr 1
    omega
  ·intro h3
   refine ⟨hc.1,fun t ht=>?_,fun t ht=>?_⟩
   ·have:=h3 t (by omega)
    rwa [List.getElem?_append_left (by omega)] at this
   ·have:=h3 (sz+t) (by omega)
    rw [List.getElem?_append_right (by omega),hl] at this
    rw [show sz+t - sz=t by omega] at this
    rw [← this]
    congr 1
    omega
theorem OwnAt.cells {u:Value} {κ:TypeId} {sz:Nat} {es:List (List Dat)} (h:OwnAt S w u κ sz es) (he:∀ d∈es,d.length=sz∧∀ x∈d,isLit x=true) (hn:es≠[]) :
  ∃ b off c arr E fz,u=.slice (some ⟨b,off,none⟩) es.length c∧es.length≤c∧off+c * sz≤arr.size∧FzOk fz arr.size∧w.heap[b]? = some (.cells arr E fz)∧KOk κ E fz es∧∀ t,t < es.length * sz→arr[off+t]? = (es.flatMap (·.map litV))[t]? := by
 rcases h with ⟨_,h⟩ | ⟨b,off,c,arr,E,fz,h1,h2,h3,h4,h5,h6,h7⟩
 ·exact absurd h hn
 ·exact ⟨b,off,c,arr,E,fz,h1,h2,h3,h4,h5,h6,(REs_lits es off he).1 h7⟩
theorem OwnAt.ofCells {w':World} {κ:TypeId} {sz:Nat} {es:List (List Dat)} {b off c n:Nat} {arr arr':Array Value} {E:TypeId} {fz:Nat×Nat} (hn:n=es.length) (h2:n≤c) (h3:off+c * sz≤arr.size) (h4:FzOk fz arr.size) (hs:arr'.size=arr.size)
  (h5:w'.heap[b]? = some (.cells arr' E fz)) (h6:KOk κ E fz es) (he:∀ d∈es,d.length=sz∧∀ x∈d,isLit x=true) (h7:∀ t,t < es.length * sz→arr'[off+t]? = (es.flatMap (·.map litV))[t]?):OwnAt S w' (.slice (some ⟨b,off,none⟩) n c) κ sz es:=by
 subst hn
 exact .inr ⟨b,off,c,arr',E,fz,rfl,h2,by omega,by rw [hs]; exact h4,h5,h6,(REs_lits es off he).2 h7⟩
end
end Go.Vm
namespace Go.Vm
open Go.RowKit Go.Sort
section
variable {P:Program} {S:Nat→Prop} {w:World}
theorem putRow_heap {b off n:Nat} {F:Array Value} {os:Array Obj} {arr:Array Value} {E:TypeId} {fz:Nat×Nat} (hb:w.heap[b]? = some (.cells arr E fz)) :
  (grow (putRow id (Sort.ahead w n) b off F) os).heap[b]? = some (.cells (putCells id off F arr) E fz):=by
 have hlt:=heap_lt hb
 have:(Sort.ahead w n).heap=w.heap:=rfl
 simp only [grow,putRow,mapBlock,this]
 rw [Array.getElem?_append_left (by simpa using hlt)]
 simp [Array.getElem?_modify,hb,onCells]
theorem putRow_other {b c off n:Nat} {F:Array Value} {os:Array Obj} (hc:c < w.heap.size) (hbc:c≠b):(grow (putRow id (Sort.ahead w n) b off F) os).heap[c]? = w.heap[c]? := by
 have:(Sort.ahead w n).heap=w.heap:=rfl
 simp only [grow,putRow,mapBlock,this]
 rw [Array.getElem?_append_left (by simpa using hc)]
 simp [Array.getElem?_modify,Ne.symm hbc]
theorem putRow_size {b off n:Nat} {F:Array Value} {os:Array Obj}:w.heap.size≤(grow (putRow id (Sort.ahead w n) b off F) os).heap.size:=by
 have:(Sort.ahead w n).heap=w.heap:=rfl
 simp [grow,putRow,mapBlock,this]
theorem toArr (F:List Value) (j:Nat) (h:j < F.length):F.toArray[j]! = F[j]:=by
 rw [getElem!_pos F.toArray j (by simpa using h)]
 simp
theorem flat_len {sz:Nat}:∀ (es:List (List Dat)),(∀ d∈es,d.length=sz∧∀ x∈d,isLit x=true)→(es.flatMap (·.map litV)).length=es.length * sz
 | [],_=>by simp
 | d :: es,h=>by
  rw [List.flatMap_cons,List.length_append,List.length_map,(h d (by simp)).1,flat_len es (fun x hx=>h x (by simp [hx])),List.length_cons,Nat.succ_mul,Nat.add_comm]
theorem ACall.sortFlat {k:Nat} (hk:Callable P k) {q:Nat} {more:List AV} {V V':AV} {κ:TypeId} {sz:Nat} {es es':List (List Dat)} (hn:more.length < 1000) (hlen:es'.length=es.length)
  (he:∀ d∈es,d.length=sz∧∀ x∈d,isLit x=true) (he':∀ d∈es',d.length=sz∧∀ x∈d,isLit x=true)
  (hq:pget (finFr (.vw (virtBase,q) :: more) [V]) (virtBase,q)=.own κ sz es)
  (hV:fget (pset (finFr (.vw (virtBase,q) :: more) [V]) (virtBase,q) (.own κ sz es')) virtBase=V')
  (walk:∀ (us:List Value) (blk off cap:Nat) (w:World),us.length=more.length→(∀ (i:Nat) (x:Value),more[i]? = some (AV.d (.v x))→us[i]? = some x)→(∀ (i f:Nat),more[i]? = some (AV.clo f [])→us[i]? = some (Value.func (.func f) #[] #[])) →
   es≠[]→Holds id w blk off (es.flatMap (·.map litV)).toArray→blk < w.heap.size→Calls P k (Value.slice (some ⟨blk,off,none⟩) es.length cap :: us).toArray w fun e w'=>e=.returned (.tuple #[])∧∃ n os,w'=grow (putRow id (Sort.ahead w n) blk off (es'.flatMap (·.map litV)).toArray) os)
  (none:∀ (us:List Value) (p:Option Addr) (cap:Nat) (w:World),us.length=more.length→(∀ (i f:Nat),more[i]? = some (AV.clo f [])→us[i]? = some (Value.func (.func f) #[] #[]))→es=[]→Calls P k (Value.slice p 0 cap :: us).toArray w fun e w'=>e=.returned (.tuple #[])∧w'=w) :
  ACall P k (.vw (virtBase,q) :: more) [V] (.tup []) [V']:=by
 refine ACall.lend hk hn hq hV fun w S u us hl hfl hcl hown hno hst=>?_
 by_cases hes:es=[]
 ·have hes':es'=[]:=List.eq_nil_of_length_eq_zero (by rw [hlen,hes]; rfl)
  subst hes
  subst hes'
  have hu:∃ p cap,u=.slice p 0 cap:=by
   rcases hown with ⟨rfl,_⟩ | ⟨b,off,c,_,_,_,rfl,_⟩
   ·exact ⟨_,_,rfl⟩
   ·exact ⟨_,_,rfl⟩
  obtain ⟨p,cap,rfl⟩:=hu
  refine (none us p cap w hl hcl rfl).mono ?_
  rintro e w' ⟨rfl,rfl⟩
  exact ⟨rfl,hown,fun _ _ _=>rfl,Nat.le_refl _,rfl,rfl,rfl⟩
 ·obtain ⟨b,off,c,arr,E,fz,rfl,h2,h3,h4,h5,h6,h7⟩:=hown.cells he hes
  have hsz:es.length * sz≤c * sz:=Nat.mul_le_mul_right _ h2
  have hfl1:=flat_len es he
  have hfl2:=flat_len es' he'
  have hH:Holds id w b off (es.flatMap (·.map litV)).toArray:=by
   intro j hj
   have hj':j < es.length * sz:=by simpa [hfl1] using hj
   have h8:=h7 j hj'
   have hjl:j < (es.flatMap (·.map litV)).length:=by rw [hfl1]; exact hj'
   refine ⟨?_,row_thaw h5 h4 _ (by omega)⟩
   simp only [World.cell?,h5,Option.isSome_none,Bool.false_eq_true,if_false,id]
   rw [h8,List.getElem?_eq_getElem hjl,toArr _ _ hjl]
  refine (walk us b off c w hl hfl hcl hes hH (heap_lt h5)).mono ?_
  rintro e w' ⟨rfl,n,os,rfl⟩
  refine ⟨rfl,OwnAt.ofCells hlen.symm h2 h3 h4 (by simp [putCells]) (putRow_heap h5) (h6.len (by simp [hlen])) he' fun t ht=>?_,fun d hd hne=>putRow_other hd fun h=>hne (by subst h; rfl),putRow_size,rfl,rfl,rfl⟩
  have ht2:t < (es'.flatMap (·.map litV)).length:=by rw [hfl2]; exact ht
  have hta:off+t < arr.size:=by rw [hlen] at ht; omega
  simp only [putCells,Array.getElem?_mapIdx,Array.getElem?_eq_getElem hta,Option.map_some,List.size_toArray]
  rw [if_pos (by omega),List.getElem?_eq_getElem ht2,show off+t - off=t by omega,toArr _ _ ht2]
  rfl
end
end Go.Vm
namespace Go.Vm
open Go.RowKit Go.Sort
section
variable {P:Program} {e:Env} {G:GEnv} {S:Nat→Prop} {β:Path→Value} {fr:Fr} {vals:Nat→Option Value} {w:World}
theorem Mem.sub (hm:Mem e G S β fr vals w) {fr':Fr} {vals':Nat→Option Value} (h:∀ x,fget fr' x=fget fr x∨fget fr' x=.junk) (hv:∀ x u,vals' x=some u→vals x=some u):Mem e G S β fr' vals' w:=by
 have hon:∀ x i,(fget fr' x).ownsAt i=true→(fget fr x).ownsAt i=true:=by
  intro x i ho
  rcases h x with h1 | h1
  ·rw [← h1]; exact ho
  ·rw [h1] at ho
   cases i <;> simp [AV.ownsAt,AV.isOwn] at ho
 refine ⟨fun x=>?_,fun x l a hx=>?_,fun x i y j b h1 h2=>hm.dis x i y j b (hon x i h1) (hon y j h2),fun x i b h1=>hm.fre x i b (hon x i h1),hm.stb,hm.s0,hm.old,hm.os,hm.tape,hm.output,hm.size⟩
 ·obtain ⟨u,hr,hu⟩:=hm.rel x
  rcases h x with h1 | h1
  ·exact ⟨u,by rw [h1]; exact hr,fun u' hh=>hu u' (hv x u' hh)⟩
  ·exact ⟨u,by rw [h1]; exact trivial,fun u' hh=>hu u' (hv x u' hh)⟩
 ·rcases h x with h1 | h1
  ·exact hm.gok x l a (by rw [← h1]; exact hx)
  ·rw [h1] at hx; cases hx
end
end Go.Vm
namespace Go.Vm
open Go.Sort
theorem compact_len {α:Type} [Inhabited α] [DecidableEq α] (l:List α):(Lib.compact l).length≤l.length:=by
 unfold Lib.compact Lib.compactUpTo
 rw [List.length_map]
 refine Nat.le_trans (List.length_filter_le _ _) ?_
 simp
end Go.Vm
namespace Go.Vm
open Go.RowKit Go.Sort
section
variable {P:Program} {S:Nat→Prop} {w:World}
theorem flat_int (l:List Int):((l.map (cI .i64)).flatMap (·.map litV))=l.map (Value.int .i64):=by
 induction l with
 | nil=>rfl
 | cons x l ih=>rw [List.map_cons,List.flatMap_cons,ih]; rfl
theorem putRow_int {b off:Nat} (l:List Int):putRow (Value.int .i64) w b off l.toArray=putRow id w b off (l.map (Value.int .i64)).toArray:=by
 unfold putRow
 refine mapBlock_congr _ _ _ _ fun c _ _ _=>?_
 apply Array.ext_getElem?
 intro k
 simp only [putCells,Array.getElem?_mapIdx,List.size_toArray,List.length_map]
 cases c[k]? with
 | none=>rfl
 | some x =>
  simp only [Option.map_some]
  by_cases h:off≤k∧k < off+l.length
  ·have h1:k - off < l.length:=by omega
   rw [if_pos h,if_pos h,toArr _ _ (by simpa using h1),getElem!_pos l.toArray (k - off) (by simpa using h1)]
   simp
  ·rw [if_neg h,if_neg h]
theorem ACall.sortInt {k:Nat} (hk:Callable P k) {q:Nat} {V V':AV} {κ:TypeId} {l l':List Int} (hlen:l'.length=l.length)
  (hq:pget (finFr [.vw (virtBase,q)] [V]) (virtBase,q)=.own κ 1 (l.map (cI .i64)))
  (hV:fget (pset (finFr [.vw (virtBase,q)] [V]) (virtBase,q) (.own κ 1 (l'.map (cI .i64)))) virtBase=V')
  (walk:∀ (blk off cap:Nat) (w:World),Holds (Value.int .i64) w blk off l.toArray→blk < w.heap.size→Calls P k #[Value.slice (some ⟨blk,off,none⟩) l.length cap] w fun e w'=>e=.returned (.tuple #[])∧∃ n os,w'=grow (putRow (Value.int .i64) (Sort.ahead w n) blk off l'.toArray) os)
  (none:∀ (p:Option Addr) (cap:Nat) (w:World),Calls P k #[Value.slice p 0 cap] w fun e w'=>e=.returned (.tuple #[])∧w'=w) :
  ACall P k [.vw (virtBase,q)] [V] (.tup []) [V']:=by
 have lits:∀ m:List Int,∀ d∈m.map (cI .i64),d.length=1∧∀ x∈d,isLit x=true:=by
  intro m d hd
  obtain ⟨x,_,rfl⟩:=List.mem_map.1 hd
  exact ⟨rfl,fun y hy=>by rw [List.mem_singleton.1 hy]; rfl⟩
 refine ACall.sortFlat hk (by decide) (by simpa using hlen) (lits l) (lits l') hq hV (fun us blk off cap w hl _ _ _ hH hb=>?_) (fun us p cap w hl _ _=>?_)
 ·obtain rfl:us=[]:=List.eq_nil_of_length_eq_zero (by simpa using hl)
  rw [flat_int] at hH
  have hH':Holds (Value.int .i64) w blk off l.toArray:=by
   intro j hj
   have hj':j < l.length:=by simpa using hj
   have:=hH j (by simpa using hj')
   rw [toArr _ _ (by simpa using hj')] at this
   rw [getElem!_pos l.toArray j hj]
   simpa using this
  simp only [List.length_map]
  refine (walk blk off cap w hH' hb).mono ?_
  rintro e w' ⟨rfl,n,os,rfl⟩
  exact ⟨rfl,n,os,by rw [flat_int,putRow_int]⟩
 ·obtain rfl:us=[]:=List.eq_nil_of_length_eq_zero (by simpa using hl)
  exact none p cap w
theorem ACall.compactIntO {k:Nat} (hk:Callable P k) {κ:TypeId} {l:List Int} (hb:l.length≤4294967296) (hκl:κ < 2199023255552)
  (walk:∀ (blk off cap:Nat) (zs:List Int) (w:World),Holds (Value.int .i64) w blk off zs.toArray→zs.length≤9223372036854775807→zs.length≤cap →
   Calls P k #[.slice (some ⟨blk,off,none⟩) zs.length cap] w fun e w'=>e=.returned (.slice (some ⟨blk,off,none⟩) (Lib.compact zs).length cap)∧∃ q,w'=putRow (Value.int .i64) (Sort.ahead w q) blk off (Lib.compact zs++List.replicate (zs.length - (Lib.compact zs).length) 0).toArray)
  (none:∀ (p:Option Addr) (cap:Nat) (w:World),Calls P k #[Value.slice p 0 cap] w fun e w'=>e=.returned (Value.slice p 0 cap)∧w'=w)
  (hc:(Lib.compact l).length≤l.length) (hc0:l=[]→Lib.compact l=[]) :
  ACall P k [.own κ 1 (l.map (cI .i64))] [] (.own κ 1 ((Lib.compact l).map (cI .i64))) []:=by
 have lits:∀ m:List Int,∀ d∈m.map (cI .i64),d.length=1∧∀ x∈d,isLit x=true:=by
  intro m d hd
  obtain ⟨x,_,rfl⟩:=List.mem_map.1 hd
  exact ⟨rfl,fun y hy=>by rw [List.mem_singleton.1 hy]; rfl⟩
 refine ACall.ofOwn hk fun w S β us hl hm=>?_
 obtain ⟨u,hu0,_,hown,hfre⟩:=hm.own hl (i:=0) rfl
 obtain rfl:us=[u]:=by
  match us,hl with
  | [a],_=>simp at hu0; rw [hu0]
 by_cases hes:l=[]
 ·have hu:∃ p cap,u=.slice p 0 cap:=by
   subst hes
   rcases hown with ⟨rfl,_⟩ | ⟨b,off,c,_,_,_,rfl,_⟩
   ·exact ⟨_,_,rfl⟩
   ·exact ⟨_,_,rfl⟩
  obtain ⟨p,cap,rfl⟩:=hu
  refine (none p cap w).mono ?_
  rintro e w' ⟨rfl,rfl⟩
  exact ⟨_,rfl,by rw [hc0 hes]; rw [hes] at hown; exact hown,fun b hb=>.inl (hfre b hb).1,fun _ _ _=>rfl,Nat.le_refl _,rfl,rfl,rfl⟩
 ·obtain ⟨b,off,c,arr,E,fz,rfl,h2,h3,h4,h5,h6,h7⟩:=hown.cells (lits l) (by simpa using hes)
  rw [flat_int] at h7
  simp only [List.length_map,Nat.mul_one] at h2 h3 h7 ⊢
  have hH:Holds (Value.int .i64) w b off l.toArray:=by
   intro j hj
   have hj':j < l.length:=by simpa using hj
   refine ⟨?_,row_thaw h5 h4 _ (by omega)⟩
   simp only [World.cell?,h5,Option.isSome_none,Bool.false_eq_true,if_false]
   rw [h7 j hj',getElem!_pos l.toArray j hj,List.getElem?_eq_getElem (by simpa using hj')]
   simp
  refine (walk b off c l w hH (by omega) h2).mono ?_
  rintro e w' ⟨rfl,n,rfl⟩
  rw [putRow_int]
  have hg:∀ F:Array Value,putRow id (Sort.ahead w n) b off F=grow (putRow id (Sort.ahead w n) b off F) #[]:=fun F=>by rw [grow_empty]
  rw [hg]
  refine ⟨_,rfl,OwnAt.ofCells (by simp) (Nat.le_trans hc h2) (by simpa using h3) h4 (by simp [putCells]) (putRow_heap h5) (h6.any hκl) (lits _) fun t ht=>?_,fun d hd=>.inl (hfre d hd).1,fun d hd hne=>putRow_other hd fun h=>hne (by subst h; exact (hfre _ rfl).1),putRow_size,rfl,rfl,rfl⟩
  rw [flat_int]
  have ht':t < (Lib.compact l).length:=by simpa using ht
  have hta:off+t < arr.size:=by omega
  have htl:t < l.length:=by omega
  simp only [putCells,Array.getElem?_mapIdx,Array.getElem?_eq_getElem hta,Option.map_some,List.size_toArray]
  rw [if_pos (by simp; omega),show off+t - off=t by omega,toArr _ _ (by simp; omega)]
  simp [ht']
def sortI (l:List Int):List Int:=l.mergeSort fun x y=>decide (x≤y)
theorem sortI_len (l:List Int):(sortI l).length=l.length:=by simp [sortI]
end
end Go.Vm
namespace Go.Vm
def clrOps (ops:Array Oper):Option (Nat×Nat×Nat×Nat×Nat×TypeId) :=
 match ops.toList with
 | [o1,o2,o3,o4]=>match o1.dst,o1.op,o1.guard,o2.dst,o2.op,o2.guard,o3.dst,o3.op,o3.guard,o4.dst,o4.op,o4.guard with
  | some t1,.move (.tmp x),none,some t2,.move (.tmp y),none,some t3,.slice T (.tmp a) (some (.tmp b)) none none,none,none,.call { callee:=.builtin .clear,args:=⟨[.tmp c]⟩,argTypes:=⟨[T']⟩ },none =>
   if a=t1∧b=t2∧c=t3∧T'=T then some (x,y,t1,t2,t3,T) else none
  | _,_,_,_,_,_,_,_,_,_,_,_=>none
 | _=>none
section
variable {P:Program} {e:Env} {fr:Fr} {w:World} {N:Nat} {Q:Exit→Act→World→Prop}
theorem T_clearTail {id:Nat} {ops:Array Oper} (x y t1 t2 t3:Nat) (T' E:TypeId) (hop:clrOps ops=some (x,y,t1,t2,t3,T')) (hT:P.underlying T'=some (.slice E)) {i:TypeInfo} (hi:P.info? E=some i) (his:i.size=1) {z:Value} (hz:∀ w,(zeroValue E).run P w=.ok z w) (hzc:z.cells=#[z]) (hz1:z.oneCell'=true) (hzd:∀ S w,RD S w (.v z) z)
  {κ:TypeId} {es:List (List Dat)} {j:Nat} (hs:fget fr x=.own κ 1 es) (hκl:κ < 2199023255552) (hj:oval N [] fr (.tmp y)=.d (.v (.int .i64 j))) (hje:j < es.length) (hlt:decide (x < N∧y < N∧t1 < N∧t2 < N∧t3 < N∧x≠t1∧y≠t1∧t1≠t2∧t1≠t3∧t2≠t3∧x≠t2∧x≠t3)=true) (keep:List Nat) (fr':Fr)
  (hk:coAll [.keep keep] (pset (setA t3 .junk (setA t2 .junk (setA t1 .junk fr))) (x,0) (.own κ 1 (es.take j++List.replicate (es.length - j) [.v z])))=some fr') {A:Code} (hA:T P e N A fr' Q):T P e N (.seq (.region id ops false) A) fr Q:=by
 intro a w hm
 obtain ⟨hd,hN,S,β,hm⟩:=hm
 obtain ⟨lx,ly,l1,l2,l3,nx1,ny1,n12,n13,n23,nx2,nx3⟩:=of_decide_eq_true hlt
 unfold clrOps at hop
 split at hop
 case h_2=>cases hop
 rename_i o1 o2 o3 o4 hol
 split at hop
 case h_2=>cases hop
 rename_i u1 x u2 y u3 uT t1 t2 t3 T' h1 h2 h3 h4 h5 h6 h7 h8 h9 h10 h11 h12
 split at hop
 case isFalse=>cases hop
 rename_i heq
 obtain ⟨rfl,rfl,rfl,rfl⟩:=heq
 simp only [Option.some.injEq,Prod.mk.injEq] at hop
 obtain ⟨rfl,rfl,rfl,rfl,rfl,rfl⟩:=hop
 have hops:ops=#[o1,o2,o3,o4]:=by
  apply Array.ext'
  simpa using hol
 subst hops
 -- what stands in x
 have hsx:x < a.tmps.size:=by rw [hN]; exact lx
 obtain ⟨u0,hr,hu⟩:=hm.rel x
 rw [hs] at hr
 have hex:a.eval (.tmp x)=β (x,0):=(hu _ (eval_tmp (e:=e) hsx)).trans hr.1
 have hown:OwnAt S w (β (x,0)) κ 1 es:=by rw [← hr.1]; exact hr.2
 have hey:a.eval (.tmp y)=.int .i64 j:=by
  have hv:=oval_ok hm hN [] rfl (.tmp y)
  rw [hj] at hv
  exact hv.1
 rcases hown with ⟨_,h0⟩ | ⟨b,off,c,arr,E',fz,hβ,hc,hroom,hfz,hb,hκ,hes⟩
 ·subst h0; simp at hje
 have e1s:∀ (a:Act) (t s:Nat) (u:Value),t < a.tmps.size→s≠t→(a.put (some t) u).eval (.tmp s)=a.eval (.tmp s):=by
  intro a t s u ht hne
  simp only [Act.eval,Array.getD_eq_getD_getElem?]
  rw [put_get a t u ht,if_neg hne]
 have e1e:∀ (a:Act) (t:Nat) (u:Value),t < a.tmps.size→(a.put (some t) u).eval (.tmp t)=u:=by
  intro a t u ht
  simp only [Act.eval,Array.getD_eq_getD_getElem?]
  rw [put_get a t u ht,if_pos rfl]
  rfl
 have hl1:t1 < a.tmps.size:=by rw [hN]; exact l1
 have hl2:t2 < (a.put (some t1) (β (x,0))).tmps.size:=by rw [put_size,hN]; exact l2
 have hl3:t3 < ((a.put (some t1) (β (x,0))).put (some t2) (.int .i64 j)).tmps.size:=by rw [put_size,put_size,hN]; exact l3
 let sl:Value:=.slice (if c=j then some ⟨b,off,none⟩ else some ⟨b,off+j,none⟩) (es.length - j) (c - j)
 have hslice:(Instr.sliceAt T' (β (x,0)) (some (.int .i64 j)) none none).run P w=.ok sl w:=by
  have hel:P.elem T'=E:=by simp [Program.elem,hT]
  have hcut:=cutR_ok (P:=P) (S:=S) (w:=w) (β:=β) (isSlice:=true) (len:=es.length) (cap:=c) (lo:=some (.d (.v (.int .i64 j)))) (hi:=none) (c:=((j:Int),(es.length:Int))) (ulo:=some (.int .i64 j)) (uhi:=none) (by rfl) ⟨by omega,by show (j:Int)≤es.length; omega,by show (es.length:Int)≤es.length; omega⟩ hc
   (fun a h=>⟨_,rfl,by cases h; exact ⟨rfl,rfl⟩⟩) (fun h=>by cases h) (fun a h=>by cases h) (fun _=>rfl)
  rw [hβ,run_sliceAt_slice w T' _ _ none none (by rw [hel]; exact hT)]
  simp only [Instr.slice,Sem.run_bind,run_underlying hT,Result.andThen_ok,hcut,sizeOf,typeInfo,run_program,hi,his,Sem.run_pure,Int.toNat_natCast,Nat.mul_one]
  by_cases h0:c=j <;> simp [sl,h0,addr_add]
 have hcj:c≠j:=by omega
 have hsl:sl=.slice (some ⟨b,off+j,none⟩) (es.length - j) (c - j):=by simp only [sl]; rw [if_neg hcj]
 have hw1:∀ tm,Region.wanted o1 tm=true:=fun tm=>by unfold Region.wanted; rw [h3]
 have hw2:∀ tm,Region.wanted o2 tm=true:=fun tm=>by unfold Region.wanted; rw [h6]
 have hw3:∀ tm,Region.wanted o3 tm=true:=fun tm=>by unfold Region.wanted; rw [h9]
 have hw4:∀ tm,Region.wanted o4 tm=true:=fun tm=>by unfold Region.wanted; rw [h12]
 refine wp_seq (wp_region ?_)
 show wpOps P #[o1,o2,o3,o4] _ [0,1,2,3] a w
 simp only [wpOps,List.getElem?_toArray,List.getElem?_cons_zero,List.getElem?_cons_succ]
 rw [if_pos (hw1 _)]
 refine .inl (wp_value (u:=β (x,0)) (w':=w) (by simp only [execOp,h2]; rw [hex]; rfl) ?_)
 rw [h1,if_pos (hw2 _)]
 refine .inl (wp_value (u:=.int .i64 j) (w':=w) (by simp only [execOp,h5]; rw [e1s _ _ _ _ hl1 ny1,hey]; rfl) ?_)
 rw [h4,if_pos (hw3 _)]
 refine .inl (wp_value (u:=sl) (w':=w) ?_ ?_)
 ·have q1:((a.put (some t1) (β (x,0))).put (some t2) (.int .i64 j)).eval (.tmp t1)=β (x,0):=by rw [e1s _ _ _ _ hl2 n12,e1e _ _ _ hl1]
  have q2:((a.put (some t1) (β (x,0))).put (some t2) (.int .i64 j)).eval (.tmp t2)=.int .i64 j:=e1e _ _ _ hl2
  simp only [execOp,h8,q1,Option.map_some,q2,Option.map_none]
  exact run_value hslice
 rw [h7,if_pos (hw4 _)]
 -- the row behind it
 have hcell:∀ k,k < (es.length - j) * z.cells.size→(w.cell? ⟨b,off+j+k,none⟩).isSome=true:=by
  intro k hk
  rw [hzc] at hk
  have hk':k < es.length - j:=by simpa using hk
  simp only [World.cell?,hb,Option.isSome_none,Bool.false_eq_true,if_false]
  rw [Array.getElem?_eq_getElem (by omega)]
  rfl
 have hthaw:∀ k,k < (es.length - j) * z.cells.size→w.frozen? ⟨b,off+j+k,none⟩=false:=by
  intro k hk
  rw [hzc] at hk
  have hk':k < es.length - j:=by simpa using hk
  exact row_thaw hb hfz _ (by omega)
 have hclr:=run_clear_cells (P:=P) w T' E o4.type z hT hz (by rw [hzc]; simpa using hz1) b (off+j) (es.length - j) (c - j) (by omega) hcell hthaw
 have hzl:(Builtin.zeroCells z.cells (es.length - j)).toList=List.replicate (es.length - j) z:=by
  apply List.ext_getElem?
  intro k
  simp only [Builtin.zeroCells,hzc]
  by_cases hk:k < es.length - j
  ·simp [hk,List.getElem?_replicate,Nat.mod_one]
  ·simp [hk,List.getElem?_replicate]
 rw [hzl,setCells_row b E' fz _ _ arr w hb (by simp; omega)] at hclr
 refine .inl (wp_value (u:=.tuple #[]) (w':=w.setRow b (spl (off+j) (List.replicate (es.length - j) z) arr.toList).toArray) ?_ ?_)
 ·have q3:(((a.put (some t1) (β (x,0))).put (some t2) (.int .i64 j)).put (some t3) sl).eval (.tmp t3)=sl:=e1e _ _ _ hl3
  rw [hsl] at q3
  obtain ⟨d4,op4,ty4,pos4,af4,g4⟩:=o4
  simp only at h11 hclr
  simp only [execOp,h11,resolve,invoke,builtin,Sem.run_bind,Sem.run_pure,Result.andThen_ok,List.map_toArray,List.map_cons,List.map_nil,q3,hsl,hclr]
 rw [h10]
 have hm3:=(((hm.setPlain t1 .junk (β (x,0)) _ (put_old a t1 _ hl1) (put_new a t1 _ hl1) trivial (fun j=>by cases j <;> rfl) (fun l a h=>by cases h)).setPlain t2 .junk (.int .i64 j) _ (put_old _ t2 _ hl2) (put_new _ t2 _ hl2) trivial (fun j=>by cases j <;> rfl) (fun l a h=>by cases h)).setPlain t3 .junk sl _ (put_old _ t3 _ hl3) (put_new _ t3 _ hl3) trivial (fun j=>by cases j <;> rfl) (fun l a h=>by cases h))
 have hp3:pget (setA t3 .junk (setA t2 .junk (setA t1 .junk fr))) (x,0)=.own κ 1 es:=by
  simp only [pget]
  rw [fget_setA_ne _ _ nx3,fget_setA_ne _ _ nx2,fget_setA_ne _ _ nx1,hs]
  rfl
 have hbb:blk (β (x,0))=some b:=by rw [hβ]; rfl
 have hox:(fget fr x).ownsAt 0=true:=by rw [hs]; rfl
 have hnS:¬ S b:=(hm.fre x 0 b hox hbb).1
 have hsle:off+j+(List.replicate (es.length - j) z).length≤arr.toList.length:=by simp; omega
 have hag:Agree S w (w.setRow b (spl (off+j) (List.replicate (es.length - j) z) arr.toList).toArray):=fun k hS=>setRow_other w b k _ fun h=>hnS (h ▸ hS)
 have hlen:(es.take j++List.replicate (es.length - j) [Dat.v z]).length=es.length:=by simp; omega
 have hm4:=hm3.pset hp3 (a':=.own κ 1 (es.take j++List.replicate (es.length - j) [.v z])) rfl ⟨rfl,.inr ⟨b,off,c,_,E',fz,by rw [hβ,hlen],by rw [hlen]; exact hc,by rw [List.size_toArray,spl_len hsle]; simpa using hroom,by rw [List.size_toArray,spl_len hsle]; simpa using hfz,setRow_heap w b arr _ E' fz hb,hκ.any hκl,by
  refine REs.mono (fun _ h=>h) hag _ _ _ _ (REs.of_get _ _ fun k d hk=>?_)
  rw [List.getElem?_append] at hk
  split at hk
  ·rename_i hlt2
   have hkj:k < j:=by simp at hlt2; omega
   rw [List.getElem?_take,if_pos hkj] at hk
   obtain ⟨h5',h6'⟩:=REs.get es off k d hes hk
   refine ⟨h5',RCs.congr _ _ _ (fun m hm'=>?_) h6'⟩
   rw [List.getElem?_toArray,spl_get hsle,if_neg (by omega)]
   simp
  ·rename_i hge
   have hkk:k - (es.take j).length < es.length - j:=by
    have:=(List.getElem?_eq_some_iff.1 hk).1
    simpa using this
   rw [List.getElem?_replicate,if_pos hkk] at hk
   cases hk
   refine ⟨rfl,⟨z,?_,hzd _ _⟩,trivial⟩
   have hkj:j≤k:=by simp at hge; omega
   have hkl:k < es.length:=by simp at hkk; omega
   show (spl (off+j) (List.replicate (es.length - j) z) arr.toList).toArray[off+k * 1]? = some z
   rw [List.getElem?_toArray,spl_get hsle,if_pos (by simp; omega),List.getElem?_replicate,if_pos (by omega)]⟩⟩ (fun _ h=>h) (fun _ h=>.inl h) (fun k hk=>setRow_other w b k _ fun h=>hk (by rw [h]; exact hbb)) (by simp) rfl rfl rfl
 have hm5:MemA e [] N _ (((a.put (some t1) (β (x,0))).put (some t2) (.int .i64 j)).put (some t3) sl) (w.setRow b (spl (off+j) (List.replicate (es.length - j) z) arr.toList).toArray) :=
  ⟨by rw [put_defers,put_defers,put_defers]; exact hd,by rw [put_size,put_size,put_size]; exact hN,S,β,hm4⟩
 exact T_co _ _ hk hA _ _ hm5
theorem T_clear {id:Nat} {ops:Array Oper} (x y t1 t2 t3:Nat) (T' E:TypeId) (hop:clrOps ops=some (x,y,t1,t2,t3,T')) (hT:P.underlying T'=some (.slice E)) (hsz:(P.info? E).map (·.size)=some 1) (z:Value) (hz:∀ w,(zeroValue E).run P w=.ok z w) (hzc:z.cells=#[z]) (hz1:z.oneCell'=true) (hzd:∀ S w,RD S w (.v z) z)
  (κ:TypeId) {α:Type} (enc:α→List Dat) (d:α) (hd:[.v z]=enc d) {xs:List α} {J:Int} (hp:0≤J∧J < (xs.length:Int)) (hs:fget fr x=.own κ 1 (xs.map enc)) (hκl:κ < 2199023255552) (hj:oval N [] fr (.tmp y)=.d (.v (.int .i64 J))) (hlt:decide (x < N∧y < N∧t1 < N∧t2 < N∧t3 < N∧x≠t1∧y≠t1∧t1≠t2∧t1≠t3∧t2≠t3∧x≠t2∧x≠t3)=true) (keep:List Nat) (fr':Fr)
  (hk:coAll [.keep keep] (pset (setA t3 .junk (setA t2 .junk (setA t1 .junk fr))) (x,0) (.own κ 1 ((xs.take J.toNat++List.replicate (xs.length - J.toNat) d).map enc)))=some fr') {A:Code} (hA:T P e N A fr' Q):T P e N (.seq (.region id ops false) A) fr Q:=by
 obtain ⟨i,hi,his⟩:=Option.map_eq_some_iff.1 hsz
 obtain ⟨j,rfl⟩:=Int.eq_ofNat_of_zero_le hp.1
 refine T_clearTail x y t1 t2 t3 T' E hop hT hi his hz hzc hz1 hzd hs hκl hj (by simpa using hp.2) hlt keep fr' ?_ hA
 rw [← hk,Int.toNat_natCast,List.map_append,List.map_take,List.map_replicate,List.length_map,hd]
end
end Go.Vm
namespace Go.Vm
def cpOps (ops:Array Oper):Option (Nat×Nat×Nat×TypeId) :=
 match ops.toList with
 | [o1,o2]=>match o1.dst,o1.op,o1.guard,o2.dst,o2.op,o2.guard with
  | some t,.load T (.tmp x),none,none,.store T' (.tmp y) (.tmp t'),none=>if t'=t∧T'=T then some (x,y,t,T) else none
  | _,_,_,_,_,_=>none
 | _=>none
section
variable {P:Program} {e:Env} {fr:Fr} {w:World} {N:Nat} {Q:Exit→Act→World→Prop}
theorem T_copyArr {id:Nat} {ops:Array Oper} (x y t:Nat) (T':TypeId) (hop:cpOps ops=some (x,y,t,T')) {κ κ':TypeId} {sz:Nat} {es es0:List (List Dat)} (hx:fget fr x=.arr κ sz es) (hy:fget fr y=.arr κ' sz es0) (hagg:isAggT P T'=some true) (n:Nat) (hsz0:(P.info? T').map (·.size)=some n) (his:n=es.length * sz) (his0:n=es0.length * sz)
  (hlt:decide (x < N∧y < N∧t < N∧x≠t∧y≠t∧x≠y)=true) (keep:List Nat) (fr':Fr)
  (hk:coAll [.keep keep] (pset (setA t .junk fr) (y,0) (.arr κ' sz es))=some fr') {A:Code} (hA:T P e N A fr' Q):T P e N (.seq (.region id ops false) A) fr Q:=by
 obtain ⟨i,hi,hin⟩:=Option.map_eq_some_iff.1 hsz0
 subst hin
 intro a w hm
 obtain ⟨hd,hN,S,β,hm⟩:=hm
 obtain ⟨lx,ly,lt,nxt,nyt,nxy⟩:=of_decide_eq_true hlt
 unfold cpOps at hop
 split at hop
 case h_2=>cases hop
 rename_i o1 o2 hol
 split at hop
 case h_2=>cases hop
 rename_i u1 T1 x T0 y t h1 h2 h3 h4 h5 h6
 split at hop
 case isFalse=>cases hop
 rename_i heq
 obtain ⟨rfl,rfl⟩:=heq
 simp only [Option.some.injEq,Prod.mk.injEq] at hop
 obtain ⟨rfl,rfl,rfl,rfl⟩:=hop
 have hops:ops=#[o1,o2]:=by
  apply Array.ext'
  simpa using hol
 subst hops
 have hsx:x < a.tmps.size:=by rw [hN]; exact lx
 have hsy:y < a.tmps.size:=by rw [hN]; exact ly
 have hst:t < a.tmps.size:=by rw [hN]; exact lt
 obtain ⟨u0,hr,hu⟩:=hm.rel x
 rw [hx] at hr
 have hex:=hu _ (eval_tmp (e:=e) hsx)
 have hvx:=read_ok (t:=x) (a:=.arr κ sz es) hr
 obtain ⟨v,hv1,hv2,_⟩:=loadR_ok (P:=P) (t:=T0) (hint:={}) (av:=.agg es.flatten) (obl:=i.size=es.length * sz) hm (by simp only [AV.read,loadR,pget,hx,hagg,hi]) his hvx
 obtain ⟨y0,hry,huy⟩:=hm.rel y
 rw [hy] at hry
 have hey:=huy _ (eval_tmp (e:=e) hsy)
 obtain ⟨hy1,b,arr,hβ0,hsz,hb,hes0⟩:=hry
 have hβ:β (y,0)=.pointer (some ⟨b,0,none⟩):=by rw [← hy1]; exact hβ0
 have hes:∀ q∈es,q.length=sz:=by
  obtain ⟨_,b',arr',_,_,_,hh⟩:=hr
  intro q hq
  obtain ⟨k,hk⟩:=List.getElem?_of_mem hq
  exact (REs.get es 0 k q hh hk).1
 obtain ⟨hd1,hd2⟩:=cellsD_ok (cs:=es.flatten) (a:=.agg es.flatten) rfl hv2 (fun x v=>RD_one x v)
 have hl2:v.cells.size=es.flatten.length:=by simpa using hd1
 have hfl:es.flatten.length=es.length * sz:=by
  obtain ⟨_,b',arr',_,_,_,hh⟩:=hr
  exact REs.flat_len es 0 hh
 have hsle:0+v.cells.toList.length≤arr.toList.length:=by simp [hl2,hfl,hsz]; omega
 have hrun:=run_storeVar_row' (P:=P) hi b 0 arr κ' (0,0) hb (fun _ _ h=>by simp at h) v (by omega) (by simpa using hsle) (RCs.one hd2 hd1)
 have hw1:∀ tm,Region.wanted o1 tm=true:=fun tm=>by unfold Region.wanted; rw [h3]
 have hw2:∀ tm,Region.wanted o2 tm=true:=fun tm=>by unfold Region.wanted; rw [h6]
 refine wp_seq (wp_region ?_)
 show wpOps P #[o1,o2] _ [0,1] a w
 simp only [wpOps,List.getElem?_toArray,List.getElem?_cons_zero,List.getElem?_cons_succ]
 rw [if_pos (hw1 _)]
 refine .inl (wp_value (u:=v) (w':=w) (by simp only [execOp,h2]; rw [hex]; exact run_value hv1) ?_)
 rw [h1,if_pos (hw2 _)]
 have e1s:∀ s,s≠t→(a.put (some t) v).eval (.tmp s)=a.eval (.tmp s):=by
  intro s hne
  simp only [Act.eval,Array.getD_eq_getD_getElem?]
  rw [put_get a t v hst,if_neg hne]
 have e1e:(a.put (some t) v).eval (.tmp t)=v:=by
  simp only [Act.eval,Array.getD_eq_getD_getElem?]
  rw [put_get a t v hst,if_pos rfl]
  rfl
 refine .inl (wp_skipv (w':=w.setRow b (spl 0 v.cells.toList arr.toList).toArray) ?_ ?_)
 ·have q:y0=.pointer (some ⟨b,0,none⟩):=hβ0
  simp only [execOp,h5,e1s y nyt,e1e,hey,q]
  simp [hrun]
 rw [h4]
 have hm1:=hm.setPlain t .junk v _ (put_old a t v hst) (put_new a t v hst) trivial (fun j=>by cases j <;> rfl) (fun l a h=>by cases h)
 have hp1:pget (setA t .junk fr) (y,0)=.arr κ' sz es0:=by
  simp only [pget]
  rw [fget_setA_ne _ _ nyt,hy]
  rfl
 have hbb:blk (β (y,0))=some b:=by rw [hβ]; rfl
 have how:=pget_ownsA (a0:=.arr κ' sz es0) rfl hp1
 have hnS:¬ S b:=(hm1.fre y 0 b how hbb).1
 have hag:Agree S w (w.setRow b (spl 0 v.cells.toList arr.toList).toArray):=fun j hS=>setRow_other w b j _ fun h=>hnS (h ▸ hS)
 have g1:(spl 0 v.cells.toList arr.toList).toArray.size=es.length * sz:=by
  rw [List.size_toArray,spl_len hsle]
  simp [hsz]
  omega
 have g2:REs S (w.setRow b (spl 0 v.cells.toList arr.toList).toArray) sz es (fun j=>(spl 0 v.cells.toList arr.toList).toArray[j]?) 0:=by
  refine REs.of_flat es 0 hes ?_
  refine RCs.mono (fun _ h=>h) hag _ _ _ (RCs.congr _ _ _ (fun m hm'=>?_) hd2)
  have hm3:m < v.cells.toList.length:=by rw [hd1]; omega
  rw [List.getElem?_toArray,spl_get hsle,if_pos (by omega)]
  simp
 have hm2:=hm1.psetG (a0:=.arr κ' sz es0) rfl hp1 (a':=.arr κ' sz es) rfl (S':=S) (w':=w.setRow b (spl 0 v.cells.toList arr.toList).toArray) ⟨rfl,b,(spl 0 v.cells.toList arr.toList).toArray,hβ,g1,setRow_heap w b arr _ κ' (0,0) hb,g2⟩ (fun _ h=>h) (fun _ h=>.inl h) (fun j hj=>setRow_other w b j _ fun h=>hj (by rw [h]; exact hbb)) (by simp) rfl rfl rfl
 have hm5:MemA e [] N _ (a.put (some t) v) (w.setRow b (spl 0 v.cells.toList arr.toList).toArray) :=
  ⟨by rw [put_defers]; exact hd,by rw [put_size]; exact hN,S,β,hm2⟩
 exact T_co _ _ hk hA _ _ hm5
theorem T_returnA {fn:Func} (s:Nat) (T':TypeId) (hres:fn.results.toList=[.cell s T']) {κ:TypeId} {sz:Nat} {es:List (List Dat)} (hs:fget fr s=.arr κ sz es) (hagg:isAggT P T'=some true) (n:Nat) (hsz0:(P.info? T').map (·.size)=some n) (his:n=es.length * sz) (hsN:decide (s < N)=true) (hNr:decide (N+1≤resSlot)=true)
  {vout:List AV} (hv:voutOk (setA N (.agg es.flatten) fr) virtBase vout):∀ a w,MemA e [] N fr a w→RPost P fn e (.agg es.flatten) vout .ret a w:=by
 obtain ⟨i,hi,hin⟩:=Option.map_eq_some_iff.1 hsz0
 subst hin
 intro a w hm
 obtain ⟨h1,h2,S,β,hm⟩:=hm
 have hss:s < a.tmps.size:=by rw [h2]; exact of_decide_eq_true hsN
 obtain ⟨u0,hr,hu⟩:=hm.rel s
 rw [hs] at hr
 have hex:=hu _ (eval_tmp (e:=e) hss)
 have hvx:=read_ok (t:=s) (a:=.arr κ sz es) hr
 obtain ⟨v,hv1,hv2,_⟩:=loadR_ok (P:=P) (t:=T') (hint:={}) (av:=.agg es.flatten) (obl:=i.size=es.length * sz) hm (by simp only [AV.read,loadR,pget,hs,hagg,hi]) his hvx
 have hm2:=push_mem hm h2 (av:=.agg es.flatten) rfl hv2
 obtain ⟨S',β',hm3⟩:=res_mem (a:={ a with tmps:=a.tmps.push v }) (N:=N+1) (ts:=[N]) (fr:=setA N (.agg es.flatten) fr) hm2 (by simp [h2]) (of_decide_eq_true hNr) (by
  simp only [resOk,fget_setA_self]
  rw [decide_eq_true (Nat.lt_succ_self N)]
  rfl) hv rfl
 simp only [resAV,fget_setA_self] at hm3
 refine ⟨h1,_,?_,_,S',β',rfl,hm3⟩
 have e1:fn.results=(fn.results.toList).toArray:=(Array.toArray_toList).symm
 unfold results
 rw [Sem.run_bind,e1,hres,List.mapM_toArray,Sem.run_map]
 obtain ⟨_,b,arr,hβ,_,_,_⟩:=hr
 have hrun:(do loadVar T' (← asAddr (a.tmps.getD s undef)):Sem Value).run P w=.ok v w:=by
  have h3:a.tmps.getD s undef=a.eval (.tmp s):=rfl
  rw [h3,hex,hβ]
  rw [hβ] at hv1
  exact hv1
 have hN2:({ a with tmps:=a.tmps.push v }:Act).tmps.getD N undef=v:=by
  simp only [Array.getD_eq_getD_getElem?]
  rw [Array.getElem?_push,if_pos h2.symm]
  rfl
 rw [List.mapM_cons,Sem.run_bind,hrun]
 simp only [Array.getD_eq_getD_getElem?] at hN2
 simp
 exact hN2.symm
end
end Go.Vm
