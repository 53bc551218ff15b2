/-
  THE V-MACHINE,text D: VmGlob,VmShelf,VmGlobs,VmUpto,VmOpenA,VmCalls,VmReads,VmReadsA,VmDet,VmBelowS,VmDet2,VmOrd,VmDet3,VmTake,VmOrd2,VmShort,VmTiny.
-/
import Derived.Test.YtjjclmimifionaaVmC
import Derived.LaidMore
import Derived.MakeChecks
import Derived.OpenShut
import Derived.Lib.LaidTab
import Derived.Below
import Derived.JoinedCond
import Derived.Calls
import Derived.Lib.SliceRun
namespace Go.Vm
open Go.ChangeShapes Go.RowKit Go.WideShapes Go.ChangeAt Go.WideMaps Go.WideElems
def gb (k:Nat):Path→Value:=fun p=>if p.1=virtBase then .pointer (some ⟨k,0,none⟩) else .bool false
end Go.Vm
namespace Go.Vm
open Go.RowKit
section
variable {P:Program} {S:Nat→Prop} {w:World}
theorem flatR_ok {S':Nat→Prop} {w':World} {a:AV} {u:Value} (h:flatR a=some u) {g:List (Nat×Bool)→Bool} {β:Path→Value} {x:Nat} {v:Value} (hr:RSlot g S' w' β x a v):v=u:=by
 unfold flatR at h
 split at h
 ·rename_i vs
  simp only [Option.map_eq_some_iff] at h
  obtain ⟨us,hus,rfl⟩:=h
  obtain ⟨h1,h2⟩:=flatVs_get hus
  obtain ⟨l,rfl,_,hl⟩:=hr
  have:l=us:=by
   apply List.ext_getElem?
   intro j
   rcases Nat.lt_or_ge j vs.length with hj | hj
   ·have hv:vs[j]? = some vs[j]:=List.getElem?_eq_getElem hj
    obtain ⟨u',hu',hf⟩:=h2 j _ hv
    obtain ⟨c,hc,hrc⟩:=All2.get hl j _ hv
    rw [hc,hu',flatV_ok hf hrc]
   ·have:=All2.len hl
    rw [List.getElem?_eq_none (by omega),List.getElem?_eq_none (by omega)]
  rw [this]
 ·obtain ⟨_,_,_,h4⟩:=flatV_mk (S:=S') (w:=w') (β:=β) h (x,0)
  exact flatV_ok h ((flat_slot h4).1 hr)
theorem ACall.below {k:Nat} {args:List AV} {us:List Value} {res:AV} {u:Value} (h:ACall P k args [] res []) (hargs:flatVs args=some us) (hal:args.length < resSlot) (hres:flatR res=some u) (w:World) :
  Calls P k us.toArray w fun e w'=>e=.returned u∧Below w.heap.size w w':=by
 obtain ⟨h1,h2⟩:=flatVs_get hargs
 have hno:∀ y i,(fget (finFr args []) y).ownsAt i=false:=by
  intro y i
  rcases finFr_cases args [] y with hy | ⟨hy1,hy2⟩ | ⟨j,rfl⟩
  ·rw [fget_finFr_arg hy]
   have ha:args[y]? = some (args.getD y .junk):=by simp [List.getD_eq_getElem?_getD,List.getElem?_eq_getElem hy]
   obtain ⟨u',_,hv⟩:=h2 y _ ha
   obtain ⟨_,_,h3,h4⟩:=flatV_mk (S:=fun _=>True) (w:=w) (β:=fun _=>.bool false) hv (0,0)
   cases hj:(args.getD y .junk).ownsAt i with
   | false=>rfl
   | true =>
    have:=(flat_ownsAt h4 i hj).2
    rw [h3] at this; cases this
  ·rw [fget_finFr_none hy1 hy2]
   cases i <;> rfl
  ·rw [fget_finFr_virt hal,if_neg (by simp)]
   cases i <;> rfl
 have hm:Mem ⟨w,ownedBy (finFr args []) (fun _=>.bool false),fun _=>False,lentAt (fun _=>.bool false) ([]:List AV).length,[]⟩ [] (fun _=>False) (fun _=>.bool false) (finFr args []) (fun x=>(us[x]?).or (lentAt (fun _=>.bool false) ([]:List AV).length x)) w:=by
  refine ⟨fun x=>?_,fun x l a hx=>?_,fun x i y j b hx=>?_,fun x i b hx=>?_,fun b hb=>hb.elim,fun b hb=>hb.elim,fun _ _ _=>rfl,rfl,rfl,rfl,Nat.le_refl _⟩
  ·have hl:lentAt (fun _=>.bool false) ([]:List AV).length x=none:=by
    unfold lentAt
    rw [if_neg (by simp)]
   rcases finFr_cases args [] x with hy | ⟨hy1,hy2⟩ | ⟨j,rfl⟩
   ·rw [fget_finFr_arg hy]
    have ha:args[x]? = some (args.getD x .junk):=by simp [List.getD_eq_getElem?_getD,List.getElem?_eq_getElem hy]
    obtain ⟨u',hu',hv⟩:=h2 x _ ha
    obtain ⟨h5,_,_,h4⟩:=flatV_mk (S:=fun _=>False) (w:=w) (β:=fun _=>.bool false) hv (x,0)
    exact ⟨u',(flat_slot h4).2 h5,fun u0 h0=>by rw [hl,hu'] at h0; simpa using h0.symm⟩
   ·rw [fget_finFr_none hy1 hy2]
    refine ⟨undef,trivial,fun u0 h0=>?_⟩
    rw [hl,List.getElem?_eq_none (by omega)] at h0
    cases h0
   ·rw [fget_finFr_virt hal,if_neg (by simp)]
    refine ⟨undef,trivial,fun u0 h0=>?_⟩
    rw [hl,List.getElem?_eq_none (by simp only [virtBase,resSlot] at *; omega)] at h0
    cases h0
  ·rcases finFr_cases args [] x with hy | ⟨hy1,hy2⟩ | ⟨j,rfl⟩
   ·rw [fget_finFr_arg hy] at hx
    have ha:args[x]? = some (args.getD x .junk):=by simp [List.getD_eq_getElem?_getD,List.getElem?_eq_getElem hy]
    obtain ⟨u',_,hv⟩:=h2 x _ ha
    rw [hx] at hv
    cases hv
   ·rw [fget_finFr_none hy1 hy2] at hx; cases hx
   ·rw [fget_finFr_virt hal,if_neg (by simp)] at hx; cases hx
  ·rw [hno] at hx; cases hx
  ·rw [hno] at hx; cases hx
 refine (h.2 w (fun _=>False) (fun _=>.bool false) us h1.symm hm).mono ?_
 rintro e w' ⟨v,S',β',rfl,hm'⟩
 have hv:v=u:=by
  obtain ⟨v0,hr,hu0⟩:=hm'.rel resSlot
  rw [fget_cons_self] at hr
  have e1:=hu0 v (by simp)
  subst e1
  exact flatR_ok hres hr
 subst hv
 refine ⟨rfl,⟨hm'.os,hm'.tape,hm'.output,hm'.size,fun b hb=>hm'.old b hb ?_⟩⟩
 rintro ⟨y,i,ho,_⟩
 rw [hno] at ho; cases ho
end
end Go.Vm
namespace Go.Vm
open Go.ChangeShapes Go.RowKit Go.WideShapes Go.ChangeAt Go.WideMaps Go.WideElems
abbrev Glos:=List (Nat×List Dat)
def gvs (gs:Glos):List AV:=gs.map fun g=>.glo g.1 g.2
def gbs (gs:Glos):Path→Value:=fun p=>match gs[p.1 - virtBase]? with
 | some g=>if virtBase≤p.1 then .pointer (some ⟨g.1,0,none⟩) else .bool false
 | none=>.bool false
theorem gbs_at {gs:Glos} {j:Nat} {g:Nat×List Dat} (h:gs[j]? = some g) (i:Nat):gbs gs (virtBase+j,i)=.pointer (some ⟨g.1,0,none⟩):=by
 simp [gbs,h]
theorem start_memGs {W:World} {args:List AV} {us:List Value} {gs:Glos} (hlen:us.length=args.length) (hn:args.length < resSlot) (hd:args.all AV.isData=true) (hr:All2 (fun _ a u=>RFlat (allS W) W (fun _=>.bool false) (0,0) a u) 0 args us)
  (hg:∀ g∈gs,GloAt (allS W) W g.1 g.2) :
  (∀ x i,(fget (finFr args (gvs gs)) x).ownsAt i=false)∧Mem ⟨W,ownedBy (finFr args (gvs gs)) (gbs gs),allS W,lentAt (gbs gs) (gvs gs).length,[]⟩ [] (allS W) (gbs gs) (finFr args (gvs gs)) (fun x=>(us[x]?).or (lentAt (gbs gs) (gvs gs).length x)) W:=by
 have hgl:(gvs gs).length=gs.length:=by simp [gvs]
 have hat:∀ x,(∃ a u,fget (finFr args (gvs gs)) x=a∧a.isData=true∧us[x]? = some u∧RFlat (allS W) W (fun _=>.bool false) (0,0) a u) ∨
   (∃ j g,x=virtBase+j∧gs[j]? = some g∧fget (finFr args (gvs gs)) x=.glo g.1 g.2∧us[x]? = none∧lentAt (gbs gs) (gvs gs).length x=some (.pointer (some ⟨g.1,0,none⟩))) ∨
   (fget (finFr args (gvs gs)) x=.junk∧us[x]? = none∧lentAt (gbs gs) (gvs gs).length x=none):=by
  intro x
  rcases finFr_cases args (gvs gs) x with h | ⟨h1,h2⟩ | ⟨j,rfl⟩
  ·left
   obtain ⟨u,hu,hru⟩:=All2.get hr x args[x] (by simp [h])
   refine ⟨args[x],u,?_,(List.all_eq_true.1 hd) _ (List.getElem_mem h),by simpa using hu,hru⟩
   rw [fget_finFr_arg h,List.getD_eq_getElem?_getD]
   simp [h]
  ·right; right
   refine ⟨fget_finFr_none h1 h2,by simp; omega,?_⟩
   unfold lentAt
   rw [if_neg (by omega)]
  ·right
   have hu:us[virtBase+j]? = none:=by
    rw [List.getElem?_eq_none]
    simp only [virtBase,resSlot] at *
    omega
   rcases Nat.lt_or_ge j gs.length with hj | hj
   ·left
    have hgj:gs[j]? = some gs[j]:=List.getElem?_eq_getElem hj
    refine ⟨j,gs[j],rfl,hgj,?_,hu,?_⟩
    ·rw [fget_finFr_virt hn,if_pos (by omega),List.getD_eq_getElem?_getD]
     simp [gvs,hj]
    ·unfold lentAt
     rw [if_pos ⟨by omega,by omega⟩,gbs_at hgj]
   ·right
    refine ⟨by rw [fget_finFr_virt hn,if_neg (by omega)],hu,?_⟩
    unfold lentAt
    rw [if_neg (by omega)]
 have hown:∀ x i,(fget (finFr args (gvs gs)) x).ownsAt i=false:=by
  intro x i
  rcases hat x with ⟨a,u,h1,h2,_,_⟩ | ⟨j,g,_,_,h1,_⟩ | ⟨h1,_,_⟩
  ·rw [h1]
   cases a <;> first | (cases i <;> rfl) | (simp [AV.isData] at h2)
  ·rw [h1]; cases i <;> rfl
  ·rw [h1]; cases i <;> rfl
 refine ⟨hown,fun x=>?_,fun x l a h=>?_,fun x i y j b h=>?_,fun x i b h=>?_,fun b hb=>⟨hb,.inl hb⟩,fun _ h=>h,fun _ _ _=>rfl,rfl,rfl,rfl,Nat.le_refl _⟩
 ·rcases hat x with ⟨a,u,h1,h2,h3,h4⟩ | ⟨j,g,rfl,hgj,h1,h2,h3⟩ | ⟨h1,h2,h3⟩
  ·refine ⟨u,?_,fun u' hu'=>by simp [h3] at hu'; exact hu'.symm⟩
   rw [h1]
   cases a with
   | d y=>exact (flat_slot rfl).2 h4
   | agg y=>exact (flat_slot rfl).2 h4
   | _=>simp [AV.isData] at h2
  ·refine ⟨.pointer (some ⟨g.1,0,none⟩),?_,fun u' hu'=>by
    simp only [h2,h3] at hu'
    simpa using hu'.symm⟩
   rw [h1]
   exact (flat_slot rfl).2 ⟨(gbs_at hgj 0).symm,rfl,hg g (List.mem_of_getElem? hgj)⟩
  ·refine ⟨undef,?_,fun u' hu'=>by
    simp only [h2,h3] at hu'
    cases hu'⟩
   rw [h1]
   exact (flat_slot rfl).2 trivial
 ·rcases hat x with ⟨a',u,h1,h2,_,_⟩ | ⟨_,_,_,_,h1,_⟩ | ⟨h1,_,_⟩
  ·rw [h] at h1
   subst h1
   simp [AV.isData] at h2
  ·rw [h] at h1; cases h1
  ·rw [h] at h1; cases h1
 ·rw [hown] at h; cases h
 ·rw [hown] at h; cases h
theorem ACall.lawGs {P:Program} {k:Nat} {gs:Glos} {args:List AV} {us:List Value} {W:World} {b:Bool} (h:ACall P k args (gvs gs) (.d (.v (.bool b))) (gvs gs)) (hlen:us.length=args.length) (hn:args.length < resSlot) (hd:args.all AV.isData=true)
  (hr:All2 (fun _ a u=>RFlat (allS W) W (fun _=>.bool false) (0,0) a u) 0 args us) (hg:∀ g∈gs,GloAt (allS W) W g.1 g.2) :
  Calls P k us.toArray W fun e W'=>e=.returned (.bool b)∧KeptAll W W':=by
 obtain ⟨hown,hm0⟩:=start_memGs hlen hn hd hr hg
 refine (h.2 W (allS W) (gbs gs) us hlen hm0).mono fun e W' ⟨u,S',β',he,hm⟩=>?_
 obtain ⟨v,hv1,hv2⟩:=hm.rel resSlot
 have hu:=hv2 u (by simp)
 subst hu
 rw [show fget ((resSlot,AV.d (.v (.bool b))) :: boxFr virtBase (gvs gs)) resSlot=.d (.v (.bool b)) from fget_cons_self _ _ _] at hv1
 have hb:u=.bool b:=hv1.1
 refine ⟨by rw [he,hb],hm.os,hm.output,hm.size,fun i hi=>hm.old i hi ?_⟩
 rintro ⟨x,j,hx,_⟩
 rw [hown] at hx
 cases hx
theorem law_contractGs {β:Type} {H:Type} {enc:TypeId×Value→H} {P:Program} {k:Nat} (gl:Glos) {f:Func} {s:ChangeSpec} {av:β→List AV} {Q:β→Prop} {r:Bool} {tb:TypeId} {ts:List TypeId} {apart fresh handsOn:Bool}
  (hts:f.params.toList=ts) (hop:OpensArgs P ts av Q) (hav:∀ b,(av b).length < resSlot) (hlaw:∀ b,Q b→ACall P k (av b) (gvs gl) (.d (.v (.bool r))) (gvs gl))
  (hlaid:laidOutB P=true) (hread:(ts.all fun t=>P.readableRec t && decide (t < P.types.size))=true) (hvars:s.vars=[]) (hres:f.resultTypes=#[tb]) (htb:P.underlying tb=some .bool)
  (hspec:∀ ds:List (DataW H),ds.length=ts.length→s.fn H (ds++[])={ results:=[.lit (.bool r)],args:=ds })
  (W:World) (base:Nat) (args:Array Value) (ds gs:List (DataW H)) (before:List MemPlace) (hg:∀ g∈gl,GloAt (allS W) W g.1 g.2)
  (hval:∀ (j:Nat) t v,f.params[j]? = some t→args[j]? = some v→Value.okWide P W .any base t v)
  (hW:DataW.Whole enc P f.params.toList s.vars apart W args.toList ds gs before) :
  Calls P k args W fun e W'=>∃ v,e=.returned v∧s.post enc P f apart fresh handsOn false W args v W':=by
 subst hts
 have hW':=hW
 have hlt:=hW.lt
 obtain ⟨p,q,hA,hV,rfl,hfz,hnd⟩:=hW
 rw [hvars] at hV
 obtain ⟨rfl,rfl⟩:gs=[]∧q=[]:=by
  cases gs with
  | nil=>exact ⟨rfl,hV⟩
  | cons=>exact hV.elim
 obtain ⟨b,hQ,hvl,hda,hr⟩:=hop H enc W base args.toList ds p (fun j t v h1 h2=>hval j t v (by simpa using h1) (by simpa using h2)) hA
 have hdl:∀ {ts:List TypeId} {vs:List Value} {ds:List (DataW H)} {ps:List MemPlace},DataW.TrodAll enc P W 0 (fun _=>true) true ts vs ds ps→ds.length=ts.length:=by
  intro ts
  induction ts with
  | nil=>intro vs ds ps h; cases vs <;> cases ds <;> first | rfl | exact h.elim
  | cons t ts ih =>
   intro vs ds ps h
   cases vs with
   | nil=>exact h.elim
   | cons v vs =>
    cases ds with
    | nil=>exact h.elim
    | cons d ds =>
     obtain ⟨_,_,_,h2,_⟩:=h
     simp [ih h2]
 have hsp:=hspec ds (hdl hA)
 have hc:=(hlaw b hQ).lawGs (W:=W) (us:=args.toList) hvl (hav b) hda (hr 0) hg
 rw [show args.toList.toArray=args from by simp] at hc
 refine hc.mono fun e W' ⟨he,hk⟩=>⟨_,he,?_⟩
 refine post_kept (pa:=p) (pv:=[]) hW' hk (fun _ _ _=>?_) (fun sp hb=>?_) (fun sp hb=>?_) (by simp) ?_
 ·rw [hsp,hres]
  exact trodAll_mk1 (shut_bool htb r)
 ·rw [hsp]
  exact TrodAll_kept hlaid hk sp hread hA (fun x hx=>hlt x (by simp [hx])) (fun x hx=>hb x (by simp [hx]))
 ·rw [hsp,hvars]
  rfl
 ·exact ok_one hres rfl (okWide_bool_mk htb r)
end Go.Vm
namespace Go.Vm
open Go.ChangeShapes Go.WideShapes Go.ChangeAt Go.WideMaps Go.WideElems Go.RowKit
section
variable {P:Program} {t:TypeId}
theorem Opens.mapQ {α γ:Type} {enc:α→List Dat} {enc':γ→List Dat} {Q:α→Prop} {Q':γ→Prop} (h:Opens P t enc Q) (f:α→γ) (he:∀ a,Q a→enc' (f a)=enc a) (hq:∀ a,Q a→Q' (f a)):Opens P t enc' Q':=by
 intro H en W n cs x hx
 obtain ⟨a,h1,h2,h3⟩:=h H en W n cs x hx
 exact ⟨f a,hq a h1,by rw [he a h1]; exact h2,by rw [he a h1]; exact h3⟩
theorem opens_u8 (ht:P.underlying t=some (.int .u8)):Opens P t cU (fun _=>True):=by
 refine (opens_int ht).mapQ (fun n=>UInt8.ofNat n.toNat) (fun n hn=>?_) (fun _ _=>trivial)
 have hb:0≤n∧n < 256:=by
  simp only [Lit.wf,Bool.and_eq_true,decide_eq_true_eq] at hn
  have h1:IntKind.u8.min=0:=by decide
  have h2:IntKind.u8.max=255:=by decide
  omega
 have h3:((UInt8.ofNat n.toNat).toNat:Int)=n:=by
  rw [UInt8.toNat_ofNat']
  omega
 simp only [cU,cI]
 rw [h3]
end
end Go.Vm
namespace Go.Vm
open Go.ChangeShapes Go.RowKit Go.WideShapes
theorem opens_arr {β:Type} {P:Program} {t e:TypeId} {n N:Nat} {fs:List Field} {enc:β→List Dat} {Q:β→Prop} (ht:P.underlying t=some (.array n e)) (hN:P.cellsOf t=N)
  (hf:∀ f∈fs,f.type=e∧∃ i,i < n∧f.offset=i * P.cellsOf e) (h:OpensN P N fs 0 enc Q):Opens P t enc Q:=by
 intro H en W m cs x hx
 obtain ⟨xs,k,_,_,hl,hxl,hg⟩:=DataW.trod_array ht hx
 obtain ⟨b,h1,h2,h3⟩:=h H en W k cs (by rw [hl,hN]) (fun f hfm=>by
  obtain ⟨e1,i,hi,e2⟩:=hf f hfm
  have:=hg i hi
  rw [List.getElem?_eq_getElem (by omega)] at this
  rw [e1,e2]
  exact ⟨_,this⟩)
 exact ⟨b,h1,by rw [hl,hN,← h2]; omega,h3⟩
def arrFs (e:TypeId) (sz:Nat):Nat→Nat→List Field
 | _,0=>[]
 | i,n + 1 => { name := "",type := e,offset := i * sz,embedded := false,tag := "",pkgPath := "",byteOffset := 0 } :: arrFs e sz (i + 1) n
theorem arrFs_ok {P:Program} {e:TypeId} {sz:Nat} (hs:P.cellsOf e=sz):∀ (n i:Nat),∀ f∈arrFs e sz i n,f.type=e∧∃ j,j < i+n∧f.offset=j * P.cellsOf e
 | n+1,i,f,h=>by
  rcases List.mem_cons.1 h with rfl | h
  ·exact ⟨rfl,i,by omega,by rw [hs]⟩
  ·obtain ⟨a,j,hj,b⟩:=arrFs_ok hs n (i+1) f h
   exact ⟨a,j,by omega,b⟩
theorem opens_arrF {β:Type} {P:Program} {t e:TypeId} {n N sz:Nat} {enc:β→List Dat} {Q:β→Prop} (ht:P.underlying t=some (.array n e)) (hN:P.cellsOf t=N) (hs:P.cellsOf e=sz)
  (h:OpensN P N (arrFs e sz 0 n) 0 enc Q):Opens P t enc Q :=
 opens_arr ht hN (fun f hf=>by have:=arrFs_ok hs n 0 f hf; rwa [Nat.zero_add] at this) h
end Go.Vm
namespace Go.Vm
open Go.ChangeShapes Go.RowKit Go.WideShapes Go.ChangeAt Go.WideMaps Go.WideElems
end Go.Vm
namespace Go.Vm
open Go.RowKit
section
variable {P:Program} {S:Nat→Prop} {w:World}
end
end Go.Vm
namespace Go.Vm
open Go.RowKit
theorem ACall.ofReadsA {P:Program} {k:Nat} (hk:Callable P k) {args:List AV} {res:AV} (hown:∀ j,res.ownsAt j=false) (hgd:∀ l a,res≠.gd l a) (hal:decide (args.length < resSlot)=true)
  (h:∀ (w:World) (S:Nat→Prop) (β:Path→Value) (us:List Value),us.length=args.length→(∀ b,S b→b < w.heap.size)→(∀ (i:Nat) (a:AV) (v:Value),args[i]? = some a→us[i]? = some v→RSlot (condG []) S w β i a v) →
   Calls P k us.toArray w fun e w'=>∃ u,e=.returned u∧Below w.heap.size w w'∧∀ β,RSlot (condG []) (fun b=>S b∨(w.heap.size≤b∧b < w'.heap.size)) w' β resSlot res u):ACall P k args [] res []:=by
 have hal':=of_decide_eq_true hal
 refine ⟨hk,fun w S β vs hvs hm=>?_⟩
 refine (h w S β vs hvs (fun b hb=>(hm.stb b hb).1) fun i x v hi hv=>?_).mono ?_
 ·obtain ⟨u0,hr,hu0⟩:=hm.rel i
  have hlt:=(List.getElem?_eq_some_iff.1 hi).1
  rw [fget_finFr_arg hlt,List.getD_eq_getElem?_getD,hi,Option.getD_some] at hr
  have e1:=hu0 v (by simp [hv])
  rw [e1]
  exact hr
 rintro e w' ⟨u,rfl,hb,hr⟩
 have hj:∀ x,x≠resSlot→fget ((resSlot,res) :: boxFr virtBase []) x=.junk:=fun x hx=>by
  rw [fget_cons_ne _ _ (Ne.symm hx),fget_boxFr,if_neg (by simp)]
 have hno:∀ x i,(fget ((resSlot,res) :: boxFr virtBase []) x).ownsAt i=false:=fun x i=>by
  by_cases hx:x=resSlot
  ·rw [hx,fget_cons_self]
   exact hown i
  ·rw [hj x hx]
   cases i <;> rfl
 refine ⟨u,fun b=>S b∨(w.heap.size≤b∧b < w'.heap.size),β,rfl,⟨fun x=>?_,fun x l a hx=>?_,fun x i y j b hx=>?_,fun x i b hx=>?_,fun b hb'=>?_,fun b hb'=>.inl hb',fun b hb' _=>hb.block b hb',hb.os,hb.tape,hb.output,hb.size⟩⟩
 ·by_cases hx:x=resSlot
  ·refine ⟨u,?_,fun u' h=>?_⟩
   ·rw [hx,fget_cons_self]
    exact hr β
   ·rw [if_pos hx] at h
    exact (Option.some.inj h).symm
  ·refine ⟨(lentAt β ([]:List AV).length x).getD undef,?_,fun u' h=>?_⟩
   ·rw [hj x hx]
    trivial
   ·rw [if_neg hx] at h
    rw [h]
    rfl
 ·by_cases hx':x=resSlot
  ·rw [hx',fget_cons_self] at hx
   exact absurd hx (hgd l a)
  ·rw [hj x hx'] at hx
   cases hx
 ·rw [hno] at hx; cases hx
 ·rw [hno] at hx; cases hx
 ·rcases hb' with h1 | h1
  ·exact ⟨Nat.lt_of_lt_of_le (hm.stb b h1).1 hb.size,(hm.stb b h1).2⟩
  ·exact ⟨h1.2,.inr (.inl h1.1)⟩
end Go.Vm
namespace Go.Vm
def Det (P:Program) (S:World→Prop) (o:Oper) (af:Act) (v:Value):Prop :=
 ∀ w,S w→(∃ w',(execOp af.eval o).run P w=.ok (.value v) w'∧S w')∨(∃ f args w1,(execOp af.eval o).run P w=.ok (.enter f args) w1∧Calls P f args w1 fun e w'=>e=.returned v∧S w')
def dstOf (ops:Array Oper) (i:Nat):Option Tmp:=(ops[i]?).bind (·.dst)
def reach (ops:Array Oper):Nat→Nat→Nat→Bool
 | 0,_,_=>false
 | f+1,j,i=>match ops[j]? with
  | some o=>o.after.any fun e=>Region.binds .any e && (e.on == i || reach ops f e.on i)
  | none=>false
def waits3 (ops:Array Oper) (m:Nat):Bool:=(List.range ops.size).all fun j=>decide (j < m) || (List.range m).all fun i=>reach ops 3 j i
def detB (ops:Array Oper) (m n:Nat):Bool:=decide (m≤ops.size) && waits3 ops m && Region.noSelect ops && (List.range m).all fun i=>match ops[i]? with
 | none=>false
 | some o=>o.guard.isNone && (match o.dst with
   | none=>false
   | some d=>decide (d < n) && (List.range m).all fun j=>j == i || dstOf ops j != some d) &&
  (o.after.all fun e => !Region.binds .any e || decide (e.on < i)) && o.op.operands.all fun x=>match x with
   | .tmp s=>(List.range m).all fun j=>dstOf ops j != some s || o.after.any fun e=>Region.binds .any e && e.on == j
   | _=>true
def putAll (ops:Array Oper) (V:Nat→Value) (a:Act):Nat→Act
 | 0=>a
 | i+1=>(putAll ops V a i).put (dstOf ops i) (V i)
def valsC (vs:List Value) (c:Nat) (x:Option Value) (i:Nat):Value:=if i=c then x.getD undef else vs.getD i undef
def firstM (ops:Array Oper) (m:Nat):Array Bool:=(Array.range ops.size).map fun i=>decide (i < m)
section
variable {P:Program} {ops:Array Oper} {Q:Exit→Act→World→Prop} {m:Nat} {S:World→Prop} {V:Nat→Value} {vs:List Value} {c:Nat} {SC:Option Value→World→Prop} {a0:Act}
theorem Det.wp {o:Oper} {af a:Act} {v:Value} {K:Act→World→Prop} {w:World} (h:Det P S o af v) (hw:S w) (he:execOp a.eval o=execOp af.eval o) (hK:∀ w',S w'→K (a.put o.dst v) w'):o.wp P a w K Q:=by
 unfold Oper.wp
 rw [he]
 rcases h w hw with ⟨w',h1,h2⟩ | ⟨f,args,w1,h1,h2⟩
 ·rw [h1]
  exact hK w' h2
 ·rw [h1]
  exact h2.mono fun e w' ⟨h3,h4⟩=>by subst h3; exact hK w' h4
structure DetI (ops:Array Oper) (m:Nat) (V:Nat→Value) (a0:Act) (U:List Nat) (listed:Array Bool) (a:Act):Prop where
 size:listed.size=ops.size
 low:∀ i,i < m→(listed.getD i false=false↔i∈U)
 high:∀ i,m≤i→listed.getD i false=false
 nd:U.Nodup
 lt:∀ i∈U,i < m
 cl:∀ i o,i < m→i ∉ U→ops[i]? = some o→∀ e∈o.after,Region.binds .any e=true→listed.getD e.on false=true
 def_:a.defers=a0.defers
 sz:a.tmps.size=a0.tmps.size
 done:∀ i d,i < m→i ∉ U→dstOf ops i=some d→a.tmps.getD d undef=V i
 other:∀ s,(∀ i,i < m→i ∉ U→dstOf ops i≠some s)→a.tmps.getD s undef=a0.tmps.getD s undef
theorem reach_listed {V:Nat→Value} {U:List Nat} {listed:Array Bool} {a:Act} (h:DetI ops m V a0 U listed a) {i:Nat} (him:i < m):∀ (f j:Nat) (o:Oper),ops[j]? = some o→(∀ e∈o.after,Region.binds .any e=true→listed.getD e.on false=true)→reach ops f j i=true→i ∉ U
 | 0,j,o,_,_,hr=>by cases hr
 | f+1,j,o,ho,hall,hr=>by
  unfold reach at hr
  rw [ho] at hr
  simp only [Array.any_eq_true'] at hr
  obtain ⟨e,he,hr⟩:=hr
  simp only [Bool.and_eq_true,Bool.or_eq_true,beq_iff_eq] at hr
  obtain ⟨hb,hr⟩:=hr
  have hl:=hall e he hb
  rcases hr with rfl | hr
  ·intro hm
   rw [(h.low e.on him).2 hm] at hl
   cases hl
  ·by_cases hem:e.on < m
   ·have hU:e.on ∉ U:=fun hm=>by rw [(h.low e.on hem).2 hm] at hl; cases hl
    cases hoe:ops[e.on]? with
    | none =>
     cases f with
     | zero=>cases hr
     | succ f=>unfold reach at hr; rw [hoe] at hr; cases hr
    | some o'=>exact reach_listed h him f e.on o' hoe (h.cl e.on o' hem hU hoe) hr
   ·rw [h.high e.on (by omega)] at hl
    cases hl
theorem putAll_size (ops:Array Oper) (V:Nat→Value) (a:Act):∀ m,(putAll ops V a m).tmps.size=a.tmps.size∧(putAll ops V a m).defers=a.defers
 | 0=>⟨rfl,rfl⟩
 | m+1=>by
  obtain ⟨h1,h2⟩:=putAll_size ops V a m
  unfold putAll
  cases dstOf ops m with
  | none=>exact ⟨h1,h2⟩
  | some d=>exact ⟨by simpa [Act.put] using h1,h2⟩
structure DetB (ops:Array Oper) (m n:Nat):Prop where
 le:m≤ops.size
 waits:waits3 ops m=true
 nosel:Region.noSelect ops=true
 oper:∀ i,i < m→∃ o d,ops[i]? = some o∧o.guard=none∧o.dst=some d∧d < n∧(∀ j,j < m→j≠i→dstOf ops j≠some d)∧∀ s,.tmp s∈o.op.operands→∀ j,j < m→dstOf ops j=some s→(∃ e∈o.after,Region.binds .any e=true∧e.on=j)
 edges:∀ i o,i < m→ops[i]? = some o→∀ e∈o.after,Region.binds .any e=true→e.on < i
theorem detB_ok {n:Nat} (h:detB ops m n=true):DetB ops m n:=by
 unfold detB at h
 simp only [Bool.and_eq_true,decide_eq_true_eq] at h
 obtain ⟨⟨⟨h1,h2⟩,h3⟩,h4⟩:=h
 refine ⟨h1,h2,h3,fun i hi=>?_,fun i o hi ho e he hb=>?_⟩
 have h5:=(List.all_eq_true.1 h4) i (List.mem_range.2 hi)
 split at h5
 ·cases h5
 ·rename_i o ho
  simp only [Bool.and_eq_true,Option.isNone_iff_eq_none] at h5
  obtain ⟨⟨⟨h6,h7⟩,_⟩,h8⟩:=h5
  split at h7
  ·cases h7
  ·rename_i d hd
   simp only [Bool.and_eq_true,decide_eq_true_eq] at h7
   refine ⟨o,d,ho,h6,hd,h7.1,fun j hj hji he=>?_,fun s hs j hj he=>?_⟩
   ·have:=(List.all_eq_true.1 h7.2) j (List.mem_range.2 hj)
    simp [hji,he] at this
   ·rw [← Array.all_toList] at h8
    have h9:=(List.all_eq_true.1 h8) _ (Array.mem_toList_iff.2 hs)
    have:=(List.all_eq_true.1 h9) j (List.mem_range.2 hj)
    simp only [he,bne_self_eq_false,Bool.false_or] at this
    rw [← Array.any_toList,List.any_eq_true] at this
    obtain ⟨e,he1,he2⟩:=this
    simp only [Bool.and_eq_true,beq_iff_eq] at he2
    exact ⟨e,Array.mem_toList_iff.1 he1,he2.1,he2.2⟩
 ·have h5:=(List.all_eq_true.1 h4) i (List.mem_range.2 hi)
  simp only [ho,Bool.and_eq_true] at h5
  have h6:=h5.1.2
  rw [← Array.all_toList] at h6
  have:=(List.all_eq_true.1 h6) e (Array.mem_toList_iff.2 he)
  simpa [hb] using this
theorem putAll_done {n:Nat} (hB:DetB ops m n) (hn:n≤a0.tmps.size):∀ k,k≤m→∀ i d,i < k→dstOf ops i=some d→(putAll ops V a0 k).tmps.getD d undef=V i
 | 0,_,i,d,h,_=>absurd h (Nat.not_lt_zero _)
 | k+1,hk,i,d,hi,hd=>by
  unfold putAll
  obtain ⟨o,e,ho,_,he,hlt,hne,_⟩:=hB.oper k (by omega)
  have hde:dstOf ops k=some e:=by simp [dstOf,ho,he]
  rw [hde]
  by_cases hik:i=k
  ·subst hik
   rw [hde] at hd
   cases hd
   have:d < (putAll ops V a0 i).tmps.size:=by rw [(putAll_size ops V a0 i).1]; exact Nat.lt_of_lt_of_le hlt hn
   simp [Act.put,Array.getD_eq_getD_getElem?,this]
  ·have:d≠e:=fun hx=>hne i (by omega) hik (by rw [hd,hx])
   have ih:=putAll_done hB hn k (by omega) i d (by omega) hd
   rw [Array.getD_eq_getD_getElem?] at ih ⊢
   simp only [Act.put]
   rw [Array.getElem?_setIfInBounds_ne (fun h=>this h.symm)]
   exact ih
theorem putAll_other:∀ k s,(∀ i,i < k→dstOf ops i≠some s)→(putAll ops V a0 k).tmps.getD s undef=a0.tmps.getD s undef
 | 0,s,_=>rfl
 | k+1,s,h=>by
  unfold putAll
  have ih:=putAll_other k s fun i hi=>h i (by omega)
  cases hd:dstOf ops k with
  | none=>exact ih
  | some d =>
   have:d≠s:=fun hx=>h k (by omega) (by rw [hd,hx])
   rw [Array.getD_eq_getD_getElem?] at ih ⊢
   simp only [Act.put]
   rw [Array.getElem?_setIfInBounds_ne this]
   exact ih
theorem act_ext {a b:Act} (h1:a.tmps.size=b.tmps.size) (h2:a.defers=b.defers) (h:∀ s,a.tmps.getD s undef=b.tmps.getD s undef):a=b:=by
 obtain ⟨t,d⟩:=a
 obtain ⟨t',d'⟩:=b
 have h2:d=d':=h2
 subst h2
 have:t=t':=by
  apply Array.ext h1
  intro i hi hi'
  have:=h i
  simpa [Array.getD_eq_getD_getElem?,hi,hi'] using this
 subst this
 rfl
theorem det_go {n:Nat} (hB:DetB ops m n) (hn:n≤a0.tmps.size) (hdet:∀ x i o,i < m→i≠c→ops[i]? = some o→Det P (SC x) o (putAll ops (valsC vs c x) a0 m) (vs.getD i undef))
  (hone:∀ o,c < m→ops[c]? = some o→∀ w,SC none w→∃ u w',(execOp (putAll ops (valsC vs c none) a0 m).eval o).run P w=.ok (.value u) w'∧SC (some u) w')
  (hK:∀ fuel x w,ops.size - m≤fuel→(x=none↔¬ c < m)→SC x w→wpAny P .any ops Q fuel (firstM ops m) (putAll ops (valsC vs c x) a0 m) w) :
  ∀ (fuel:Nat) (U:List Nat) (listed:Array Bool) (a:Act) (x:Option Value) (w:World),DetI ops m (valsC vs c x) a0 U listed a→(x=none↔(c < m→c∈U))→U.length+(ops.size - m)≤fuel→SC x w→wpAny P .any ops Q fuel listed a w:=by
 intro fuel
 induction fuel with
 | zero =>
  intro U listed a x w h hx hf hw
  have hU:U=[]:=List.length_eq_zero_iff.1 (by omega)
  subst hU
  have e1:a=putAll ops (valsC vs c x) a0 m:=act_ext (by rw [h.sz,(putAll_size ops (valsC vs c x) a0 m).1]) (by rw [h.def_,(putAll_size ops (valsC vs c x) a0 m).2]) fun s=>by
   by_cases hs:∃ i,i < m∧dstOf ops i=some s
   ·obtain ⟨i,hi,hd⟩:=hs
    rw [h.done i s hi (by simp) hd,putAll_done hB hn m (Nat.le_refl _) i s hi hd]
   ·rw [h.other s (fun i hi _ hd=>hs ⟨i,hi,hd⟩),putAll_other m s (fun i hi hd=>hs ⟨i,hi,hd⟩)]
  have e2:listed=firstM ops m:=by
   apply Array.ext (by simp [firstM,h.size])
   intro i hi hi'
   have h3:listed.getD i false=listed[i]:=by simp [hi]
   simp only [firstM,Array.getElem_map,Array.getElem_range]
   by_cases him:i < m
   ·have:=h.low i him
    cases hq:listed[i] with
    | true=>simp [him]
    | false=>rw [h3,hq] at this; exact absurd (this.1 rfl) (by simp)
   ·have:=h.high i (by omega)
    rw [h3] at this
    simp [this,him]
  subst e1 e2
  exact hK 0 x w (by simpa using hf) (by rw [hx]; exact ⟨fun h hc=>by simpa using h hc,fun h hc=>absurd hc h⟩) hw
 | succ fuel ih =>
  intro U listed a x w h hx hf hw
  by_cases hU:U=[]
  ·subst hU
   have e1:a=putAll ops (valsC vs c x) a0 m:=act_ext (by rw [h.sz,(putAll_size ops (valsC vs c x) a0 m).1]) (by rw [h.def_,(putAll_size ops (valsC vs c x) a0 m).2]) fun s=>by
    by_cases hs:∃ i,i < m∧dstOf ops i=some s
    ·obtain ⟨i,hi,hd⟩:=hs
     rw [h.done i s hi (by simp) hd,putAll_done hB hn m (Nat.le_refl _) i s hi hd]
    ·rw [h.other s (fun i hi _ hd=>hs ⟨i,hi,hd⟩),putAll_other m s (fun i hi hd=>hs ⟨i,hi,hd⟩)]
   have e2:listed=firstM ops m:=by
    apply Array.ext (by simp [firstM,h.size])
    intro i hi hi'
    have h3:listed.getD i false=listed[i]:=by simp [hi]
    simp only [firstM,Array.getElem_map,Array.getElem_range]
    by_cases him:i < m
    ·have:=h.low i him
     cases hq:listed[i] with
     | true=>simp [him]
     | false=>rw [h3,hq] at this; exact absurd (this.1 rfl) (by simp)
    ·have:=h.high i (by omega)
     rw [h3] at this
     simp [this,him]
   subst e1 e2
   exact hK _ x w (by simpa using hf) (by rw [hx]; exact ⟨fun h hc=>by simpa using h hc,fun h hc=>absurd hc h⟩) hw
  ·-- one of those ahead of m comes up
   have hsz:∀ i,i < m→i < listed.size:=fun i hi=>by rw [h.size]; exact Nat.lt_of_lt_of_le hi hB.le
   have hgt:∀ i,i < m→i ∉ U→listed.getD i false=true:=fun i hi hm=>by
    cases hq:listed.getD i false with
    | true=>rfl
    | false=>exact absurd ((h.low i hi).1 hq) hm
   -- the least one that is not yet listed is ready
   obtain ⟨u,hu,hru⟩:∃ u,u∈U∧u∈Region.ready .any ops listed:=by
    obtain ⟨u0,hu0⟩:=List.exists_mem_of_ne_nil U hU
    have key:∀ k,(∃ i,i∈U∧i≤k)→∃ u,u∈U∧u∈Region.ready .any ops listed:=by
     intro k
     induction k using Nat.strongRecOn with
     | _ k ihk =>
      rintro ⟨i,hi,hik⟩
      by_cases hlt:∃ j,j∈U∧j < i
      ·obtain ⟨j,hj,hji⟩:=hlt
       exact ihk j (by omega) ⟨j,hj,Nat.le_refl _⟩
      ·refine ⟨i,hi,?_⟩
       have him:=h.lt i hi
       obtain ⟨o,d,ho,_⟩:=hB.oper i him
       refine mem_ready.2 ⟨?_,o,ho,fun e he hb=>?_⟩
       ·have:=(h.low i him).2 hi
        have hs:=hsz i him
        rw [Array.getD_eq_getD_getElem?] at this ⊢
        simpa [hs] using this
       ·have hon:=hB.edges i o him ho e he hb
        exact hgt _ (by omega) fun hm=>hlt ⟨_,hm,hon⟩
    exact key u0 ⟨u0,hu0,Nat.le_refl _⟩
   refine ⟨fun hr=>?_,fun i hi=>?_⟩
   ·rw [hr] at hru
    cases hru
   ·have him:i < m:=by
     rcases Nat.lt_or_ge i m with h' | h'
     ·exact h'
     ·obtain ⟨hun,o',ho',hall⟩:=mem_ready.1 hi
      have hisz:i < ops.size:=(Array.getElem?_eq_some_iff.1 ho').1
      have hw:=(List.all_eq_true.1 hB.waits) i (List.mem_range.2 hisz)
      simp only [Bool.or_eq_true,decide_eq_true_eq] at hw
      rcases hw with hw | hw
      ·exact hw
      ·exact absurd hu (reach_listed h (h.lt u hu) 3 i o' ho' hall ((List.all_eq_true.1 hw) u (List.mem_range.2 (h.lt u hu))))
    obtain ⟨o,d,ho,hg,hd,hdn,hne,hop⟩:=hB.oper i him
    have hdi:dstOf ops i=some d:=by simp [dstOf,ho,hd]
    obtain ⟨hun,o',ho',hall⟩:=mem_ready.1 hi
    rw [ho] at ho'
    cases ho'
    have hiU:i∈U:=(h.low i him).1 (by
     have hs:=hsz i him
     rw [Array.getD_eq_getD_getElem?] at hun ⊢
     simpa [hs] using hun)
    have hev:execOp a.eval o=execOp (putAll ops (valsC vs c x) a0 m).eval o:=execOp_congr o (Region.noSelect_spec hB.nosel i o · · ho) fun x hx=>by
     cases x with
     | tmp s =>
      show a.tmps.getD s undef=(putAll ops (valsC vs c x) a0 m).tmps.getD s undef
      by_cases hs:∃ j,j < m∧dstOf ops j=some s
      ·obtain ⟨j,hj,hds⟩:=hs
       obtain ⟨e,he,hb,hon⟩:=hop s hx j hj hds
       have hl:=hall e he hb
       rw [hon] at hl
       have hjU:j ∉ U:=fun hm=>by rw [(h.low j hj).2 hm] at hl; cases hl
       rw [h.done j s hj hjU hds,putAll_done hB hn m (Nat.le_refl _) j s hj hds]
      ·rw [h.other s (fun j hj _ hd=>hs ⟨j,hj,hd⟩),putAll_other m s (fun j hj hd=>hs ⟨j,hj,hd⟩)]
     | const v=>rfl
     | global g=>rfl
     | func f=>rfl
    unfold wpOp
    rw [ho]
    simp only [Region.wanted,hg,if_true]
    have hlen:(U.erase i).length+1=U.length:=by rw [List.length_erase_of_mem hiU]; have:=List.length_pos_of_mem hiU; omega
    have go:∀ v x' w',SC x' w'→(∀ j,j < m→j≠i→j ∉ U→valsC vs c x' j=valsC vs c x j)→valsC vs c x' i=v→(x'=none↔(c < m→c∈U.erase i))→wpAny P .any ops Q fuel (listed.setIfInBounds i true) (a.put o.dst v) w':=by
     intro v x' w' hw' hV hVi hx'
     refine ih (U.erase i) _ _ x' w' ⟨by simp [h.size],fun j hj=>?_,fun j hj=>?_,h.nd.erase _,fun j hj=>h.lt j (List.mem_of_mem_erase hj),fun j oj hj hjU hoj e he hb=>?_,?_,?_,fun j e hj hjU hde=>?_,fun s hs=>?_⟩ hx' (by omega) hw'
     ·by_cases hji:i=j
      ·subst hji
       have:=hsz i hj
       simp [Array.getD_eq_getD_getElem?,this,h.nd.mem_erase_iff]
      ·rw [getD_set_ne false hji,h.nd.mem_erase_iff,h.low j hj]
       exact ⟨fun h=>⟨fun e=>hji e.symm,h⟩,fun h=>h.2⟩
     ·rw [getD_set_ne false (by omega)]
      exact h.high j hj
     ·have hold:listed.getD e.on false=true:=by
       by_cases hji:j=i
       ·subst hji
        rw [ho] at hoj
        cases hoj
        exact hall e he hb
       ·exact h.cl j oj hj (fun hm=>hjU (h.nd.mem_erase_iff.2 ⟨hji,hm⟩)) hoj e he hb
      by_cases hie:i=e.on
      ·subst hie
       have:=hsz e.on him
       simp [Array.getD_eq_getD_getElem?,this]
      ·rw [getD_set_ne false hie]
       exact hold
     ·rw [hd]
      exact h.def_
     ·rw [hd]
      simpa [Act.put] using h.sz
     ·rw [hd]
      by_cases hji:j=i
      ·subst hji
       rw [hdi] at hde
       cases hde
       have:d < a.tmps.size:=by rw [h.sz]; exact Nat.lt_of_lt_of_le hdn hn
       simp [Act.put,Array.getD_eq_getD_getElem?,this,hVi]
      ·have hde2:e≠d:=fun hx=>hne j hj hji (by rw [hde,hx])
       have hjU2:j ∉ U:=fun hm=>hjU (h.nd.mem_erase_iff.2 ⟨hji,hm⟩)
       have h2:=h.done j e hj hjU2 hde
       rw [hV j hj hji hjU2]
       rw [Array.getD_eq_getD_getElem?] at h2 ⊢
       simp only [Act.put]
       rw [Array.getElem?_setIfInBounds_ne (fun h=>hde2 h.symm)]
       exact h2
     ·rw [hd]
      have hsd:d≠s:=fun hx=>hs i him (by rw [h.nd.mem_erase_iff]; exact fun hh=>hh.1 rfl) (by rw [hdi,hx])
      have h2:=h.other s fun j hj hjU hde=>hs j hj (fun hm=>hjU (h.nd.mem_erase_iff.1 hm).2) hde
      rw [Array.getD_eq_getD_getElem?] at h2 ⊢
      simp only [Act.put]
      rw [Array.getElem?_setIfInBounds_ne hsd]
      exact h2
    by_cases hic:i=c
    ·subst hic
     obtain rfl:x=none:=hx.2 fun _=>hiU
     obtain ⟨u,w',h1,h2⟩:=hone o him ho w hw
     refine .inl ?_
     unfold Oper.wp
     rw [hev,h1]
     refine go u (some u) w' h2 (fun j _ hji _=>by simp [valsC,hji]) (by simp [valsC]) ⟨fun hm=>by (cases hm),fun hm=>absurd rfl (h.nd.mem_erase_iff.1 (hm him)).1⟩
    ·refine .inl ((hdet x i o him hic ho).wp hw hev fun w' hw'=>?_)
     refine go _ x w' hw' (fun _ _ _ _=>rfl) (by simp [valsC,hic]) ?_
     rw [hx,h.nd.mem_erase_iff]
     exact ⟨fun h hc=>⟨fun e=>hic e.symm,h hc⟩,fun h hc=>(h hc).2⟩
theorem wp_region_det {id n:Nat} {w:World} {af:Value→Act} (hmx:P.follows .mixedOrders=true) (m c:Nat) (vs:List Value) (SC:Option Value→World→Prop) (hB:detB ops m n=true) (hn:n≤a0.tmps.size) (haf:∀ x:Option Value,putAll ops (valsC vs c x) a0 m=af (x.getD undef)) (hS:SC none { w with drawn:=w.drawn+1 })
  (hdet:∀ u x i o,i < m→i≠c→ops[i]? = some o→Det P (SC x) o (af u) (vs.getD i undef))
  (hone:∀ o,c < m→ops[c]? = some o→∀ w,SC none w→∃ u w',(execOp (af undef).eval o).run P w=.ok (.value u) w'∧SC (some u) w')
  (hK:∀ fuel u w,ops.size - m≤fuel→SC (if c < m then some u else none) w→wpAny P .any ops Q fuel (firstM ops m) (af u) w):(Code.region id ops true).wp P Q a0 w:=by
 have hB:=detB_ok hB
 refine wp_region_any hmx (det_go hB hn (fun x i o hi hc ho=>by rw [haf]; exact hdet _ x i o hi hc ho) (fun o hc ho w hw=>by rw [haf]; exact hone o hc ho w hw) (fun fuel x w hf hx hw=>?_) ops.size (List.range m) _ _ none _ ⟨by simp,fun i hi=>?_,fun i hi=>?_,List.nodup_range,fun i hi=>List.mem_range.1 hi,fun i o hi hU=>absurd (List.mem_range.2 hi) hU,rfl,rfl,fun i d hi hU=>absurd (List.mem_range.2 hi) hU,fun s _=>rfl⟩ ⟨fun _ hc=>List.mem_range.2 hc,fun _=>rfl⟩ (by simp; have:=hB.le; omega) hS)
 ·rw [haf]
  refine hK fuel _ w hf ?_
  by_cases hc:c < m
  ·cases x with
   | none=>exact absurd hc (hx.1 rfl)
   | some u =>
    rw [if_pos hc]
    exact hw
  ·obtain rfl:=hx.2 hc
   rw [if_neg hc]
   exact hw
 ·simp [hi,Array.getD_eq_getD_getElem?,Array.getElem?_replicate]
  split <;> rfl
 ·simp [Array.getD_eq_getD_getElem?,Array.getElem?_replicate]
  split <;> rfl
theorem wpAny_last {a:Act} {w:World} {fuel:Nat} {o:Oper} (ho:ops[m]? = some o) (hg:o.guard=none) (h1:Region.ready .any ops (firstM ops m)=[m]) (h2:Region.ready .any ops ((firstM ops m).setIfInBounds m true)=[]) (hf:1≤fuel) (h:o.wp P a w (fun a w=>Q .normal a w) Q):wpAny P .any ops Q fuel (firstM ops m) a w:=by
 obtain ⟨k,rfl⟩:∃ k,fuel=k+1:=⟨fuel - 1,by omega⟩
 have hend:∀ a w,Q .normal a w→wpAny P .any ops Q k ((firstM ops m).setIfInBounds m true) a w:=fun a w hq=>by
  cases k with
  | zero=>exact ⟨h2,hq⟩
  | succ k=>exact ⟨fun _=>hq,fun i hi=>by rw [h2] at hi; cases hi⟩
 refine ⟨fun hr=>(by rw [h1] at hr; cases hr),fun i hi=>?_⟩
 rw [h1] at hi
 obtain rfl:=List.mem_singleton.1 hi
 unfold wpOp
 rw [ho]
 simp only [Region.wanted,hg,if_true]
 exact .inl (Oper.wp_mono (fun a w hq=>hend a w hq) h)
end
end Go.Vm
namespace Go.Vm
open Go.RowKit
theorem start_memS {W:World} {S:Nat→Prop} {args:List AV} {us:List Value} (hlen:us.length=args.length) (hn:args.length < resSlot) (hd:args.all AV.isData=true) (hS:∀ b,S b→b < W.heap.size) (hr:All2 (fun _ a u=>RFlat S W (fun _=>.bool false) (0,0) a u) 0 args us) :
  (∀ x i,(fget (finFr args []) x).ownsAt i=false)∧Mem ⟨W,ownedBy (finFr args []) (fun _=>.bool false),S,lentAt (fun _=>.bool false) ([]:List AV).length,[]⟩ [] S (fun _=>.bool false) (finFr args []) (fun x=>(us[x]?).or (lentAt (fun _=>.bool false) ([]:List AV).length x)) W:=by
 have hat:∀ x,(∃ a u,fget (finFr args []) x=a∧a.isData=true∧us[x]? = some u∧RFlat S W (fun _=>.bool false) (0,0) a u) ∨
   (fget (finFr args []) x=.junk∧us[x]? = none∧lentAt (fun _=>.bool false) ([]:List AV).length x=none):=by
  intro x
  rcases finFr_cases args [] x with h | ⟨h1,h2⟩ | ⟨j,rfl⟩
  ·left
   obtain ⟨u,hu,hru⟩:=All2.get hr x args[x] (by simp [h])
   refine ⟨args[x],u,?_,(List.all_eq_true.1 hd) _ (List.getElem_mem h),by simpa using hu,hru⟩
   rw [fget_finFr_arg h,List.getD_eq_getElem?_getD]
   simp [h]
  ·right
   refine ⟨fget_finFr_none h1 h2,by simp; omega,?_⟩
   unfold lentAt
   rw [if_neg (by simp)]
  ·right
   have hu:us[virtBase+j]? = none:=by
    rw [List.getElem?_eq_none]
    simp only [virtBase,resSlot] at *
    omega
   refine ⟨by rw [fget_finFr_virt hn,if_neg (by simp)],hu,?_⟩
   unfold lentAt
   rw [if_neg (by simp)]
 have hown:∀ x i,(fget (finFr args []) x).ownsAt i=false:=by
  intro x i
  rcases hat x with ⟨a,u,h1,h2,_,_⟩ | ⟨h1,_,_⟩
  ·rw [h1]
   cases a <;> first | (cases i <;> rfl) | (simp [AV.isData] at h2)
  ·rw [h1]; cases i <;> rfl
 refine ⟨hown,fun x=>?_,fun x l a h=>?_,fun x i y j b h=>?_,fun x i b h=>?_,fun b hb=>⟨hS b hb,.inl hb⟩,fun _ h=>h,fun _ _ _=>rfl,rfl,rfl,rfl,Nat.le_refl _⟩
 ·rcases hat x with ⟨a,u,h1,h2,h3,h4⟩ | ⟨h1,h2,h3⟩
  ·refine ⟨u,?_,fun u' hu'=>by simp [h3] at hu'; exact hu'.symm⟩
   rw [h1]
   cases a with
   | d y=>exact (flat_slot rfl).2 h4
   | agg y=>exact (flat_slot rfl).2 h4
   | _=>simp [AV.isData] at h2
  ·refine ⟨undef,?_,fun u' hu'=>by
    simp only [h2,h3] at hu'
    cases hu'⟩
   rw [h1]
   exact (flat_slot rfl).2 trivial
 ·rcases hat x with ⟨a,u,h1,h2,_,_⟩ | ⟨h1,_,_⟩
  ·rw [h1] at h
   subst h
   simp [AV.isData] at h2
  ·rw [h1] at h; cases h
 ·rw [hown] at h; cases h
 ·rw [hown] at h; cases h
structure GotS (S:Nat→Prop) (W:World) (res:AV) (v:Value) (S':Nat→Prop) (β':Path→Value) (W':World):Prop where
 val:RSlot (condG []) S' W' β' resSlot res v
 below:Below W.heap.size W W'
 sub:∀ b,S b→S' b
 bnd:∀ b,S' b→b < W'.heap.size∧(S b∨W.heap.size≤b)
 own:∀ i b,res.ownsAt i=true→blk (β' (resSlot,i))=some b→¬ S' b∧W.heap.size≤b
theorem belowS {P:Program} {k:Nat} {args:List AV} {us:List Value} {W:World} {S:Nat→Prop} {res:AV} (h:ACall P k args [] res []) (hlen:us.length=args.length) (hn:args.length < resSlot) (hd:args.all AV.isData=true) (hS:∀ b,S b→b < W.heap.size)
  (hr:All2 (fun _ a u=>RFlat S W (fun _=>.bool false) (0,0) a u) 0 args us) :
  Calls P k us.toArray W fun e W'=>∃ v S' β',e=.returned v∧GotS S W res v S' β' W':=by
 obtain ⟨hown,hm0⟩:=start_memS hlen hn hd hS hr
 refine (h.2 W S (fun _=>.bool false) us hlen hm0).mono fun e W' ⟨u,S',β',he,hm⟩=>?_
 have noA:∀ b,¬ ownedBy (finFr args []) (fun _=>.bool false) b:=by
  rintro b ⟨x,j,hx,_⟩
  rw [hown] at hx
  cases hx
 obtain ⟨v,hv1,hv2⟩:=hm.rel resSlot
 have hu:=hv2 u (by simp)
 subst hu
 have hres':fget ((resSlot,res) :: boxFr virtBase []) resSlot=res:=fget_cons_self _ _ _
 rw [hres'] at hv1
 refine ⟨u,S',β',he,hv1,⟨hm.os,hm.tape,hm.output,hm.size,fun i hi=>hm.old i hi (noA i)⟩,hm.s0,fun b hb=>?_,fun i b hi hb=>?_⟩
 ·obtain ⟨h1,h2⟩:=hm.stb b hb
  exact ⟨h1,h2.imp id fun h=>h.resolve_right (noA b)⟩
 ·obtain ⟨h1,h2⟩:=hm.fre resSlot i b (by rw [hres']; exact hi) hb
  exact ⟨h1,h2.resolve_right (noA b)⟩
end Go.Vm
namespace Go.Vm
structure Hide (p:Prop):Prop where
 out:p
def Chain (P:Program) (SC:Option Value→World→Prop) (c:Nat) (K:(Value→Act)→Prop):Nat→List Oper→(Value→Act)→Prop
 | _,[],a=>K a
 | i,o :: r,a=>if i=c then (∀ w,SC none w→∃ u w',(execOp (a undef).eval o).run P w=.ok (.value u) w'∧SC (some u) w')∧Chain P SC c K (i+1) r (fun u=>(a u).put o.dst u)
   else ∃ v,(∀ u x,Det P (SC x) o (a u) v)∧Chain P SC c K (i+1) r (fun u=>(a u).put o.dst v)
section
variable {P:Program} {SC:Option Value→World→Prop} {c:Nat} {K:(Value→Act)→Prop} {i:Nat} {o:Oper} {r:List Oper} {a:Value→Act}
theorem Chain.pure (v:Value) (hic:(i == c)=false) (h:∀ u x w,SC x w→(execOp (a u).eval o).run P w=.ok (.value v) w) (hk:Chain P SC c K (i+1) r (fun u=>(a u).put o.dst v)):Chain P SC c K i (o :: r) a:=by
 unfold Chain
 rw [if_neg (by simpa using hic)]
 exact ⟨v,fun u x w hw=>.inl ⟨w,h u x w hw,hw⟩,hk⟩
theorem Chain.call (v:Value) (f:FuncId) (args:Array Value) (hic:(i == c)=false) (h:∀ u x w,SC x w→(execOp (a u).eval o).run P w=.ok (.enter f args) w) (h2:∀ x w,SC x w→Calls P f args w fun e w'=>e=.returned v∧SC x w')
  (hk:Chain P SC c K (i+1) r (fun u=>(a u).put o.dst v)):Chain P SC c K i (o :: r) a:=by
 unfold Chain
 rw [if_neg (by simpa using hic)]
 exact ⟨v,fun u x w hw=>.inr ⟨f,args,w,h u x w hw,h2 x w hw⟩,hk⟩
end
section
variable {P:Program} {ops:Array Oper} {Q:Exit→Act→World→Prop} {m:Nat} {c:Nat} {SC:Option Value→World→Prop} {a0:Act}
theorem putAll_congr {V V':Nat→Value} {a:Act}:∀ k,(∀ i,i < k→V i=V' i)→putAll ops V a k=putAll ops V' a k
 | 0,_=>rfl
 | k+1,h=>by
  unfold putAll
  rw [putAll_congr k fun i hi=>h i (by omega),h k (by omega)]
theorem chain_vals {K:(Value→Act)→Prop}:∀ (r:List Oper) (i:Nat) (vs:List Value) (a:Value→Act),i+r.length=m→(∀ j,ops[i+j]? = r[j]? ∨ r.length≤j)→vs.length=i →
  (∀ u:Value,a u=putAll ops (fun j=>if j=c then u else vs.getD j undef) a0 i)→Chain P SC c K i r a →
  ∃ ws:List Value,ws.length=m∧(∀ j,j < i→ws.getD j undef=vs.getD j undef)∧K (fun u=>putAll ops (fun j=>if j=c then u else ws.getD j undef) a0 m) ∧
   (∀ j o,i≤j→j < m→ops[j]? = some o→if j=c then (∀ w,SC none w→∃ u w',(execOp (putAll ops (fun j=>if j=c then undef else ws.getD j undef) a0 j).eval o).run P w=.ok (.value u) w'∧SC (some u) w')
    else ∀ u x,Det P (SC x) o (putAll ops (fun j=>if j=c then u else ws.getD j undef) a0 j) (ws.getD j undef))
 | [],i,vs,a,him,hops,hvs,ha,h=>by
  simp only [List.length_nil,Nat.add_zero] at him
  subst him
  refine ⟨vs,hvs,fun _ _=>rfl,?_,fun j o h1 h2=>absurd h1 (by omega)⟩
  have:a=fun u=>putAll ops (fun j=>if j=c then u else vs.getD j undef) a0 i:=funext ha
  rw [← this]
  exact h
 | o :: r,i,vs,a,him,hops,hvs,ha,h=>by
  have ho:ops[i]? = some o:=by
   rcases hops 0 with h' | h'
   ·simpa using h'
   ·simp at h'
  have hd:dstOf ops i=o.dst:=by simp [dstOf,ho]
  have hops':∀ j,ops[i+1+j]? = r[j]? ∨ r.length≤j:=fun j=>by
   rcases hops (j+1) with h' | h'
   ·left; rw [show i+1+j=i+(j+1) by omega,h']; simp
   ·right; simp at h'; omega
  have key:∀ v,(i=c∨True)→(∀ u:Value,(fun u=>(a u).put o.dst (if i=c then u else v)) u=putAll ops (fun j=>if j=c then u else (vs++[v]).getD j undef) a0 (i+1)):=fun v _ u=>by
   unfold putAll
   rw [hd]
   simp only [ha u]
   congr 1
   ·refine putAll_congr i fun j hj=>?_
    rw [List.getD_eq_getElem?_getD,List.getD_eq_getElem?_getD,List.getElem?_append_left (by omega)]
   ·rw [List.getD_eq_getElem?_getD,List.getElem?_append_right (by omega),hvs,Nat.sub_self]
    simp
  unfold Chain at h
  by_cases hic:i=c
  ·rw [if_pos hic] at h
   obtain ⟨h1,h2⟩:=h
   have hk:=key undef (.inr trivial)
   simp only [if_pos hic] at hk
   obtain ⟨ws,w1,w2,w3,w4⟩:=chain_vals r (i+1) (vs++[undef]) _ (by simp at him; omega) hops' (by simp [hvs]) hk h2
   have hpre:∀ j,j < i→ws.getD j undef=vs.getD j undef:=fun j hj=>by
    rw [w2 j (by omega),List.getD_eq_getElem?_getD,List.getD_eq_getElem?_getD,List.getElem?_append_left (by omega)]
   refine ⟨ws,w1,hpre,w3,fun j o' hj1 hj2 ho'=>?_⟩
   by_cases hji:j=i
   ·subst hji
    rw [ho] at ho'
    cases ho'
    rw [if_pos hic,← putAll_congr j (V:=fun j=>if j=c then undef else vs.getD j undef) (fun l hl=>by simp only [hpre l hl]),← ha undef]
    exact h1
   ·exact w4 j o' (by omega) hj2 ho'
  ·rw [if_neg hic] at h
   obtain ⟨v,h1,h2⟩:=h
   have hk:=key v (.inr trivial)
   simp only [if_neg hic] at hk
   obtain ⟨ws,w1,w2,w3,w4⟩:=chain_vals r (i+1) (vs++[v]) _ (by simp at him; omega) hops' (by simp [hvs]) hk h2
   have hpre:∀ j,j < i→ws.getD j undef=vs.getD j undef:=fun j hj=>by
    rw [w2 j (by omega),List.getD_eq_getElem?_getD,List.getD_eq_getElem?_getD,List.getElem?_append_left (by omega)]
   refine ⟨ws,w1,hpre,w3,fun j o' hj1 hj2 ho'=>?_⟩
   by_cases hji:j=i
   ·subst hji
    rw [ho] at ho'
    cases ho'
    rw [if_neg hic]
    intro u x
    rw [← putAll_congr j (V:=fun j=>if j=c then u else vs.getD j undef) (fun l hl=>by simp only [hpre l hl]),← ha u,w2 j (by omega),List.getD_eq_getElem?_getD,List.getElem?_append_right (by omega),hvs,Nat.sub_self]
    exact h1 u x
   ·exact w4 j o' (by omega) hj2 ho'
theorem prefix_eval {n:Nat} (hB:DetB ops m n) (hn:n≤a0.tmps.size) {V:Nat→Value} {i:Nat} {o:Oper} (him:i < m) (ho:ops[i]? = some o):execOp (putAll ops V a0 i).eval o=execOp (putAll ops V a0 m).eval o:=by
 obtain ⟨o',d,ho',hg,hd,hdn,hne,hop⟩:=hB.oper i him
 rw [ho] at ho'
 cases ho'
 refine execOp_congr o (Region.noSelect_spec hB.nosel i o · · ho) fun x hx=>?_
 cases x with
 | tmp s =>
  show (putAll ops V a0 i).tmps.getD s undef=(putAll ops V a0 m).tmps.getD s undef
  by_cases hs:∃ j,j < m∧dstOf ops j=some s
  ·obtain ⟨j,hj,hds⟩:=hs
   obtain ⟨e,he,hb,hon⟩:=hop s hx j hj hds
   have hlt:=hB.edges i o him ho e he hb
   rw [putAll_done hB hn m (Nat.le_refl _) j s hj hds,putAll_done hB hn i (by omega) j s (by omega) hds]
  ·rw [putAll_other m s fun j hj hd=>hs ⟨j,hj,hd⟩,putAll_other i s fun j hj hd=>hs ⟨j,by omega,hd⟩]
 | const v=>rfl
 | global g=>rfl
 | func f=>rfl
theorem Det.congr {S:World→Prop} {o:Oper} {a b:Act} {v:Value} (he:execOp a.eval o=execOp b.eval o) (h:Det P S o a v):Det P S o b v:=by
 unfold Det at h ⊢
 rw [← he]
 exact h
theorem wp_region_chain {id:Nat} {w:World} (m c:Nat) (SC:Option Value→World→Prop) (hmx:P.follows .mixedOrders=true) (hB:detB ops m a0.tmps.size=true) (hsz:ops.size=m+1) {o:Oper} (ho:ops[m]? = some o) (hg:o.guard=none) (h1:Region.ready .any ops (firstM ops m)=[m]) (h2:Region.ready .any ops ((firstM ops m).setIfInBounds m true)=[])
  (hS:SC none { w with drawn:=w.drawn+1 })
  (h:Chain P SC c (fun af=>Hide (∀ u w,SC (if c < m then some u else none) w→o.wp P (af u) w (fun a w=>Q .normal a w) Q)) 0 (ops.toList.take m) (fun _=>a0)):(Code.region id ops true).wp P Q a0 w:=by
 obtain ⟨ws,w1,_,w3,w4⟩:=chain_vals (ops:=ops) (m:=m) (a0:=a0) (ops.toList.take m) 0 [] (fun _=>a0) (by simp; omega) (fun j=>by
  by_cases hj:j < m
  ·left; simp [List.getElem?_take_of_lt hj]
  ·right; simp; omega) rfl (fun _=>rfl) h
 have hB':=detB_ok hB
 have hfun:∀ u:Value,(fun j=>if j=c then u else ws.getD j undef)=valsC ws c (some u):=fun u=>by funext j; unfold valsC; rfl
 have hfun2:(fun j=>if j=c then undef else ws.getD j undef)=valsC ws c none:=by funext j; unfold valsC; rfl
 have hfx:∀ x:Option Value,putAll ops (valsC ws c x) a0 m=putAll ops (fun j=>if j=c then x.getD undef else ws.getD j undef) a0 m:=fun x=>by
  congr 1
 refine wp_region_det (n:=a0.tmps.size) (af:=fun u=>putAll ops (fun j=>if j=c then u else ws.getD j undef) a0 m) hmx m c ws SC hB (Nat.le_refl _) (fun x=>hfx x) hS (fun u x i o hi hic ho=>?_) (fun o hc ho w hw=>?_) fun fuel u w hf hw=>?_
 ·have:=w4 i o (Nat.zero_le _) hi ho
  rw [if_neg hic] at this
  exact (this u x).congr (prefix_eval hB' (Nat.le_refl _) hi ho)
 ·have:=w4 c o (Nat.zero_le _) hc ho
  rw [if_pos rfl] at this
  obtain ⟨u,w',e1,e2⟩:=this w hw
  rw [prefix_eval hB' (Nat.le_refl _) hc ho] at e1
  exact ⟨u,w',e1,e2⟩
 ·exact wpAny_last ho hg h1 h2 (by omega) (w3.out u w hw)
theorem wp_region_chain0 {id:Nat} {w:World} (m:Nat) (S:World→Prop) (hmx:P.follows .mixedOrders=true) (hB:detB ops m a0.tmps.size=true) (hsz:ops.size=m) (h1:Region.ready .any ops (firstM ops m)=[])
  (hS:S { w with drawn:=w.drawn+1 })
  (h:Chain P (fun _=>S) m (fun af=>Hide (∀ u w,S w→Q .normal (af u) w)) 0 (ops.toList.take m) (fun _=>a0)):(Code.region id ops true).wp P Q a0 w:=by
 obtain ⟨ws,w1,_,w3,w4⟩:=chain_vals (ops:=ops) (m:=m) (a0:=a0) (ops.toList.take m) 0 [] (fun _=>a0) (by simp; omega) (fun j=>by
  by_cases hj:j < m
  ·left; simp [List.getElem?_take_of_lt hj]
  ·right; simp; omega) rfl (fun _=>rfl) h
 have hB':=detB_ok hB
 refine wp_region_det (n:=a0.tmps.size) (af:=fun u=>putAll ops (fun j=>if j=m then u else ws.getD j undef) a0 m) hmx m m ws (fun _=>S) hB (Nat.le_refl _) (fun x=>rfl) hS (fun u x i o hi hic ho=>?_) (fun o hc ho w hw=>absurd hc (Nat.lt_irrefl _)) fun fuel u w hf hw=>?_
 ·have:=w4 i o (Nat.zero_le _) hi ho
  rw [if_neg hic] at this
  exact (this u x).congr (prefix_eval hB' (Nat.le_refl _) hi ho)
 ·have hq:=w3.out u w hw
  cases fuel with
  | zero=>exact ⟨h1,hq⟩
  | succ k=>exact ⟨fun _=>hq,fun i hi=>by rw [h1] at hi; cases hi⟩
end
end Go.Vm
namespace Go.Vm
def Gives (P:Program) (o:Oper) (a:Act) (w:World) (R:Value→World→Prop):Prop :=
 (∃ u w',(execOp a.eval o).run P w=.ok (.value u) w'∧R u w')∨(∃ w',(execOp a.eval o).run P w=.ok .skip w'∧R undef w') ∨
 (∃ f args w1,(execOp a.eval o).run P w=.ok (.enter f args) w1∧Calls P f args w1 fun e w'=>∃ u,e=.returned u∧R u w')
def Ord (P:Program) (ops:Array Oper) (K:(World→Prop)→Act→Prop):List (Nat×Nat)→(World→Prop)→Act→Prop
  | [],T,a=>K T a
  | (i,k) :: r,T,a=>∃ o,ops[i]? = some o ∧
      if k=0∨k=4 then ((Region.wanted o (yielded ops a.tmps)=true∧∃ v,(∀ w,(T w∨k=4)→(execOp a.eval o).run P w=.ok (.value v) w)∧Ord P ops K r T (a.put o.dst v))∨(Region.wanted o (yielded ops a.tmps)=false∧Ord P ops K r T (a.put o.dst undef)))
      else Region.wanted o (yielded ops a.tmps)=true∧∃ (D:Value→Prop) (R:Value→World→Prop),(∀ w,T w→Gives P o a w fun u w'=>D u∧R u w')∧(k=1→∀ u w,R u w→T w)∧∀ u,D u→Ord P ops K r (R u) (a.put o.dst u)
def ordW (ops:Array Oper) (f:Nat):List (Nat×Nat)→List Nat→List Nat→Option Nat→Bool
  | [],_,_,_=>true
  | (i,k) :: r,pre,stl,last => !pre.contains i && (match ops[i]? with | none=>false | some o=>o.after.all fun e => !Region.binds .any e || pre.contains e.on) && (match last with | none=>true | some c=>reach ops f i c) &&
      (k == 0 || k == 4 || k == 1 || pre.all fun j=>stl.contains j || reach ops f i j) && ordW ops f r (i :: pre) (if k == 4 then i :: stl else stl) (if k == 0 || k == 4 then last else some i)
def ordB (ops:Array Oper) (f:Nat) (σ:List (Nat×Nat)) (n:Nat):Bool :=
 σ.length == ops.size && ((List.range ops.size).all fun i=>(σ.map (·.1)).contains i) && Region.noSelect ops &&
 ((List.range ops.size).all fun i=>match ops[i]? with
  | none=>false
  | some o=>(match o.dst with
    | none=>true
    | some d=>decide (d < n) && (List.range ops.size).all fun j=>j == i || dstOf ops j != some d) &&
   (o.looksAt ops).all fun s=>(List.range ops.size).all fun j=>dstOf ops j != some s || o.after.any fun e=>Region.binds .any e && e.on == j) &&
 ordW ops f σ [] [] none
section
variable {P:Program} {ops:Array Oper} {Q:Exit→Act→World→Prop} {a0:Act} {n f:Nat}
structure OrdD (ops:Array Oper) (n:Nat):Prop where
 nosel:Region.noSelect ops=true
 dst:∀ i d,dstOf ops i=some d→d < n∧∀ j,j≠i→dstOf ops j≠some d
 looks:∀ (i:Nat) (o:Oper) (s j:Nat),ops[i]? = some o→s∈o.looksAt ops→dstOf ops j=some s→∃ e∈o.after,Region.binds .any e=true∧e.on=j
theorem dstOf_lt {i d:Nat} (h:dstOf ops i=some d):i < ops.size:=by
 unfold dstOf at h
 cases ho:ops[i]? with
 | none=>rw [ho] at h; cases h
 | some o=>exact (Array.getElem?_eq_some_iff.1 ho).1
theorem ordB_ok {σ:List (Nat×Nat)} (h:ordB ops f σ n=true):OrdD ops n∧σ.length=ops.size∧(∀ i,i < ops.size→i∈σ.map (·.1))∧ordW ops f σ [] [] none=true:=by
 unfold ordB at h
 simp only [Bool.and_eq_true,beq_iff_eq] at h
 obtain ⟨⟨⟨⟨h1,h2⟩,h3⟩,h4⟩,h5⟩:=h
 refine ⟨⟨h3,fun i d hd=>?_,fun i o s j ho hs hj=>?_⟩,h1,fun i hi=>?_,h5⟩
 ·have hi:=dstOf_lt hd
  have h6:=(List.all_eq_true.1 h4) i (List.mem_range.2 hi)
  cases ho:ops[i]? with
  | none=>rw [ho] at h6; cases h6
  | some o =>
   have hod:o.dst=some d:=by simpa [dstOf,ho] using hd
   simp only [ho,hod,Bool.and_eq_true,decide_eq_true_eq] at h6
   refine ⟨h6.1.1,fun j hj he=>?_⟩
   have:=(List.all_eq_true.1 h6.1.2) j (List.mem_range.2 (dstOf_lt he))
   simp [hj,he] at this
 ·have hi:=(Array.getElem?_eq_some_iff.1 ho).1
  have h6:=(List.all_eq_true.1 h4) i (List.mem_range.2 hi)
  simp only [ho,Bool.and_eq_true] at h6
  have h7:=(List.all_eq_true.1 h6.2) s hs
  have h8:=(List.all_eq_true.1 h7) j (List.mem_range.2 (dstOf_lt hj))
  simp only [hj,bne_self_eq_false,Bool.false_or] at h8
  rw [← Array.any_toList,List.any_eq_true] at h8
  obtain ⟨e,he1,he2⟩:=h8
  simp only [Bool.and_eq_true,beq_iff_eq] at he2
  exact ⟨e,Array.mem_toList_iff.1 he1,he2.1,he2.2⟩
 ·have:=(List.all_eq_true.1 h2) i (List.mem_range.2 hi)
  simpa using this
theorem looks_same {a b:Act} {o:Oper} (hsel:∀ cs b,o.op≠.select cs b) (hsz:a.tmps.size=b.tmps.size) (h:∀ s∈o.looksAt ops,a.tmps.getD s undef=b.tmps.getD s undef) :
  execOp a.eval o=execOp b.eval o∧Region.wanted o (yielded ops a.tmps)=Region.wanted o (yielded ops b.tmps):=by
 refine ⟨execOp_congr o hsel fun x hx=>?_,?_⟩
 ·cases x with
  | tmp s=>exact h s (List.mem_append_left _ (List.mem_filterMap.2 ⟨.tmp s,by simpa using hx,rfl⟩))
  | const v=>rfl
  | global g=>rfl
  | func f=>rfl
 ·unfold Region.wanted
  cases hg:o.guard with
  | none=>rfl
  | some gw =>
   obtain ⟨g,want⟩:=gw
   have:yielded ops a.tmps g=yielded ops b.tmps g:=by
    unfold yielded
    cases ht:(ops[g]?).bind (·.dst) with
    | none=>rfl
    | some t =>
     have h1:=h t (by simp [Oper.looksAt,hg,ht])
     have h2:a.tmps[t]? = b.tmps[t]? := by
      rw [Array.getD_eq_getD_getElem?,Array.getD_eq_getD_getElem?] at h1
      by_cases hlt:t < a.tmps.size
      ·have hlt':t < b.tmps.size:=hsz ▸ hlt
       simpa [hlt,hlt'] using h1
      ·have hlt':¬ t < b.tmps.size:=hsz ▸ hlt
       simp [hlt,hlt']
     simp [h2]
   simp only [this]
def Chained (ops:Array Oper):List Nat→Prop
 | []=>True
 | i :: r=>(∀ o,ops[i]? = some o→∀ e∈o.after,Region.binds .any e=true→e.on∈r)∧Chained ops r
theorem Chained.edge:∀ {pre:List Nat},Chained ops pre→∀ i∈pre,∀ o,ops[i]? = some o→∀ e∈o.after,Region.binds .any e=true→e.on∈pre
 | [],_,i,hi,_,_,_,_,_=>by cases hi
 | j :: r,h,i,hi,o,ho,e,he,hb=>by
  rcases List.mem_cons.1 hi with rfl | hi
  ·exact List.mem_cons_of_mem _ (h.1 o ho e he hb)
  ·exact List.mem_cons_of_mem _ (h.2.edge i hi o ho e he hb)
theorem Chained.least {listed:Array Bool}:∀ {pre:List Nat},Chained ops pre→(∃ i∈pre,listed.getD i false=false)→∃ u∈pre,listed.getD u false=false∧∀ o,ops[u]? = some o→∀ e∈o.after,Region.binds .any e=true→listed.getD e.on false=true
 | [],_,⟨i,hi,_⟩=>by cases hi
 | j :: r,h,⟨i,hi,hl⟩=>by
  by_cases hr:∃ i∈r,listed.getD i false=false
  ·obtain ⟨u,h1,h2⟩:=h.2.least hr
   exact ⟨u,List.mem_cons_of_mem _ h1,h2⟩
  ·have hall:∀ x∈r,listed.getD x false=true:=fun x hx=>by
    cases hq:listed.getD x false with
    | true=>rfl
    | false=>exact absurd ⟨x,hx,hq⟩ hr
   rcases List.mem_cons.1 hi with rfl | hi
   ·exact ⟨i,List.mem_cons_self ..,hl,fun o ho e he hb=>hall _ (h.1 o ho e he hb)⟩
   ·exact absurd ⟨i,hi,hl⟩ hr
structure OI (P:Program) (ops:Array Oper) (a0:Act) (pre stl:List Nat) (post:List (Nat×Nat)) (V:Nat→Value) (as:Act) (T:World→Prop) (listed:Array Bool) (a:Act):Prop where
 sz:listed.size=ops.size
 all:∀ i,i < ops.size→i∈pre∨i∈post.map (·.1)
 nd:(pre++post.map (·.1)).Nodup
 hp:∀ i∈post.map (·.1),listed.getD i false=false
 cl:∀ i o,listed.getD i false=true→ops[i]? = some o→∀ e∈o.after,Region.binds .any e=true→listed.getD e.on false=true
 ch:Chained ops pre
 val:∀ i∈pre,∀ d,dstOf ops i=some d→as.tmps.getD d undef=V i
 oth:∀ s,(∀ i∈pre,dstOf ops i≠some s)→as.tmps.getD s undef=a0.tmps.getD s undef
 ssz:as.tmps.size=a0.tmps.size
 sdf:as.defers=a0.defers
 done:∀ i,listed.getD i false=true→∀ d,dstOf ops i=some d→a.tmps.getD d undef=V i
 other:∀ s,(∀ i,listed.getD i false=true→dstOf ops i≠some s)→a.tmps.getD s undef=a0.tmps.getD s undef
 asz:a.tmps.size=a0.tmps.size
 adf:a.defers=a0.defers
 pure:∀ i∈pre,listed.getD i false=false→∀ o,ops[i]? = some o→(Region.wanted o (yielded ops as.tmps)=true∧∀ w,(T w∨i∈stl)→(execOp as.eval o).run P w=.ok (.value (V i)) w)∨(Region.wanted o (yielded ops as.tmps)=false∧V i=undef)
 isop:∀ i,(i∈pre∨i∈post.map (·.1))→∃ o,ops[i]? = some o
 stlp:∀ i∈stl,i∈pre
theorem put_getD {a:Act} {d:Option Tmp} {v:Value} {s:Nat} (h:d≠some s):(a.put d v).tmps.getD s undef=a.tmps.getD s undef:=by
 cases d with
 | none=>rfl
 | some d =>
  have:d≠s:=fun e=>h (by rw [e])
  simp [Act.put,Array.getD_eq_getD_getElem?,Array.getElem?_setIfInBounds_ne this]
theorem put_getD_self {a:Act} {d:Nat} {v:Value} (h:d < a.tmps.size):(a.put (some d) v).tmps.getD d undef=v:=by
 simp [Act.put,Array.getD_eq_getD_getElem?,h]
theorem put_sz (a:Act) (d:Option Tmp) (v:Value):(a.put d v).tmps.size=a.tmps.size∧(a.put d v).defers=a.defers:=by
 cases d with
 | none=>exact ⟨rfl,rfl⟩
 | some d=>exact ⟨by simp [Act.put],rfl⟩
theorem dst_of {i:Nat} {o:Oper} (ho:ops[i]? = some o):dstOf ops i=o.dst:=by simp [dstOf,ho]
section
variable {pre stl:List Nat} {post:List (Nat×Nat)} {V:Nat→Value} {as a:Act} {T:World→Prop} {listed:Array Bool}
theorem OI.apart (hD:OrdD ops n) (h:OI P ops a0 pre stl post V as T listed a) {i j:Nat} {o:Oper} (hi:i∈pre) (ho:ops[i]? = some o) (hj:j ∉ pre):∀ d,dstOf ops j=some d→d ∉ o.looksAt ops:=fun d hd hm=>by
 obtain ⟨e,he,hb,hon⟩:=hD.looks i o d j ho hm hd
 exact hj (hon ▸ h.ch.edge i hi o ho e he hb)
theorem OI.step0 (hD:OrdD ops n) (hn:n≤a0.tmps.size) {i:Nat} {o:Oper} {k:Nat} {v:Value} (h:OI P ops a0 pre stl ((i,k) :: post) V as T listed a) (ho:ops[i]? = some o) (he:∀ e∈o.after,Region.binds .any e=true→e.on∈pre)
  {stl':List Nat} (hst:∀ j,j∈stl'→j=i∨j∈stl)
  (hv:(Region.wanted o (yielded ops as.tmps)=true∧∀ w,(T w∨i∈stl')→(execOp as.eval o).run P w=.ok (.value v) w)∨(Region.wanted o (yielded ops as.tmps)=false∧v=undef)) :
  OI P ops a0 (i :: pre) stl' post (fun j=>if j=i then v else V j) (as.put o.dst v) T listed a:=by
 have hnd:=h.nd
 simp only [List.map_cons] at hnd
 have hip:i ∉ pre:=fun hm=>(List.nodup_append.1 hnd).2.2 i hm i (by simp) rfl
 have hiq:i ∉ post.map (·.1):=(List.nodup_cons.1 (List.nodup_append.1 hnd).2.1).1
 have hil:listed.getD i false=false:=h.hp i (by simp)
 have hdi:=dst_of (ops:=ops) ho
 have hself:∀ d,o.dst=some d→d ∉ o.looksAt ops:=fun d hd hm=>by
  obtain ⟨e,he1,hb,hon⟩:=hD.looks i o d i ho hm (hdi.trans hd)
  exact hip (hon ▸ he e he1 hb)
 have hsel:=fun cs b=>Region.noSelect_spec hD.nosel i o cs b ho
 refine ⟨h.sz,fun j hj=>?_,?_,fun j hj=>h.hp j (by simp [hj]),h.cl,⟨fun oj hoj e hej hb=>?_,h.ch⟩,fun j hj d hd=>?_,fun s hs=>?_,?_,?_,fun j hj d hd=>?_,h.other,h.asz,h.adf,fun j hj hl oj hoj=>?_,fun j hj=>h.isop j ?_,fun j hj=>(hst j hj).elim (fun e=>e ▸ List.mem_cons_self ..) fun hm=>List.mem_cons_of_mem _ (h.stlp j hm)⟩
 ·rcases h.all j hj with h1 | h1
  ·exact .inl (List.mem_cons_of_mem _ h1)
  ·simp only [List.map_cons,List.mem_cons] at h1
   rcases h1 with rfl | h1
   ·exact .inl (List.mem_cons_self ..)
   ·exact .inr h1
 ·rw [List.nodup_append] at hnd ⊢
  obtain ⟨n1,n2,n3⟩:=hnd
  exact ⟨List.nodup_cons.2 ⟨hip,n1⟩,(List.nodup_cons.1 n2).2,fun x hx y hy=>by
   rcases List.mem_cons.1 hx with rfl | hx
   ·intro e; subst e; exact hiq hy
   ·exact n3 x hx y (List.mem_cons_of_mem _ hy)⟩
 ·rw [ho] at hoj
  cases hoj
  exact he e hej hb
 ·rcases List.mem_cons.1 hj with rfl | hj
  ·rw [hdi] at hd
   rw [hd,put_getD_self (by rw [h.ssz]; exact Nat.lt_of_lt_of_le (hD.dst j d (hdi.trans hd)).1 hn),if_pos rfl]
  ·have hji:j≠i:=fun e=>hip (e ▸ hj)
   rw [put_getD (fun e=>(hD.dst i d (hdi.trans e)).2 j hji hd),if_neg hji]
   exact h.val j hj d hd
 ·rw [put_getD (fun e=>hs i (List.mem_cons_self ..) (hdi.trans e))]
  exact h.oth s fun j hj=>hs j (List.mem_cons_of_mem _ hj)
 ·rw [(put_sz as o.dst v).1,h.ssz]
 ·rw [(put_sz as o.dst v).2,h.sdf]
 ·have hji:j≠i:=fun e=>by rw [e,hil] at hj; cases hj
  rw [if_neg hji]
  exact h.done j hj d hd
 ·have hsj:=fun cs b=>Region.noSelect_spec hD.nosel j oj cs b hoj
  rcases List.mem_cons.1 hj with rfl | hj
  ·rw [ho] at hoj
   cases hoj
   rw [if_pos rfl,execOp_put (ops:=ops) o hsel as o.dst v hself,wanted_put o as o.dst v hself]
   exact hv
  ·have hji:j≠i:=fun e=>hip (e ▸ hj)
   have hap:∀ d,o.dst=some d→d ∉ oj.looksAt ops:=fun d hd=>h.apart hD hj hoj hip d (hdi.trans hd)
   rw [if_neg hji,execOp_put (ops:=ops) oj hsj as o.dst v hap,wanted_put oj as o.dst v hap]
   exact (h.pure j hj hl oj hoj).imp (fun ⟨p1,p2⟩=>⟨p1,fun w hw=>p2 w (hw.imp id fun hm=>(hst j hm).resolve_left hji)⟩) id
 ·simp only [List.map_cons,List.mem_cons] at hj ⊢
  rcases hj with (rfl | hj) | hj
  ·exact .inr (.inl rfl)
  ·exact .inl hj
  ·exact .inr (.inr hj)
theorem ord_norm {K:(World→Prop)→Act→Prop} (hD:OrdD ops n) (hn:n≤a0.tmps.size):∀ (post:List (Nat×Nat)) (pre stl:List Nat) (V:Nat→Value) (as:Act) (last:Option Nat),OI P ops a0 pre stl post V as T listed a→Ord P ops K post T as→ordW ops f post pre stl last=true→(∀ c,last=some c→c∈pre) →
    ∃ pre' stl' post' V' as' last',OI P ops a0 pre' stl' post' V' as' T listed a∧Ord P ops K post' T as'∧ordW ops f post' pre' stl' last'=true∧(∀ c,last'=some c→c∈pre')∧(post'=[]∨∃ i k r,post'=(i,k) :: r∧k≠0∧k≠4)
  | [],pre,stl,V,as,last,hI,hO,hW,hl=>⟨pre,stl,[],V,as,last,hI,hO,hW,hl,.inl rfl⟩
  | (i,k) :: r,pre,stl,V,as,last,hI,hO,hW,hl=>by
    by_cases hk:k=0∨k=4
    · unfold Ord at hO
      obtain ⟨o,ho,hO⟩:=hO
      rw [if_pos hk] at hO
      unfold ordW at hW
      rw [ho] at hW
      simp only [Bool.and_eq_true] at hW
      obtain ⟨⟨⟨⟨w0,w1⟩,w2⟩,w3⟩,w4⟩:=hW
      rw [if_pos (show ((k == 0 || k == 4)=true) by simpa using hk)] at w4
      have he:∀ e∈o.after,Region.binds .any e=true→e.on∈pre:=fun e he hb=>by
        rw [← Array.all_toList] at w1
        have:=(List.all_eq_true.1 w1) e (Array.mem_toList_iff.2 he)
        simpa [hb] using this
      have hip:i ∉ pre:=by simpa using w0
      have hst:∀ j,j∈(if (k == 4)=true then i :: stl else stl)→j=i∨j∈stl:=fun j hj=>by
        split at hj
        · exact List.mem_cons.1 hj
        · exact .inr hj
      have hstl:∀ j∈stl,j∈pre:=hI.stlp
      have h4:i∈(if (k == 4)=true then i :: stl else stl)→k=4:=fun hm=>by
        by_cases h:k=4
        · exact h
        · rw [if_neg (by simpa using h)] at hm
          exact absurd (hstl i hm) hip
      rcases hO with ⟨hw,v,hv,hr⟩ | ⟨hw,hr⟩
      · exact ord_norm hD hn r (i :: pre) _ _ _ last (hI.step0 hD hn ho he hst (.inl ⟨hw,fun w h=>hv w (h.imp id h4)⟩)) hr w4 fun c hc=>List.mem_cons_of_mem _ (hl c hc)
      · exact ord_norm hD hn r (i :: pre) _ _ _ last (hI.step0 hD hn ho he hst (.inr ⟨hw,rfl⟩)) hr w4 fun c hc=>List.mem_cons_of_mem _ (hl c hc)
    · exact ⟨pre,stl,_,V,as,last,hI,hO,hW,hl,.inr ⟨i,k,r,rfl,fun h=>hk (.inl h),fun h=>hk (.inr h)⟩⟩
theorem reach_listed' (hcl:∀ i o,listed.getD i false=true→ops[i]? = some o→∀ e∈o.after,Region.binds .any e=true→listed.getD e.on false=true) {i:Nat}:∀ (f j:Nat) (o:Oper),ops[j]? = some o→(∀ e∈o.after,Region.binds .any e=true→listed.getD e.on false=true)→reach ops f j i=true→listed.getD i false=true
 | 0,j,o,_,_,hr=>by cases hr
 | f+1,j,o,ho,hall,hr=>by
  unfold reach at hr
  rw [ho] at hr
  simp only [Array.any_eq_true'] at hr
  obtain ⟨e,he,hr⟩:=hr
  simp only [Bool.and_eq_true,Bool.or_eq_true,beq_iff_eq] at hr
  obtain ⟨hb,hr⟩:=hr
  have hl:=hall e he hb
  rcases hr with rfl | hr
  ·exact hl
  ·cases hoe:ops[e.on]? with
   | none =>
    cases f with
    | zero=>cases hr
    | succ f=>unfold reach at hr; rw [hoe] at hr; cases hr
   | some o'=>exact reach_listed' hcl f e.on o' hoe (hcl e.on o' hl hoe) hr
theorem ordW_nd:∀ (post:List (Nat×Nat)) (pre stl:List Nat) (last:Option Nat),ordW ops f post pre stl last=true→(post.map (·.1)).Nodup∧(∀ x∈post.map (·.1),x ∉ pre)∧∀ x∈post.map (·.1),∃ o,ops[x]? = some o
  | [],_,_,_,_=>⟨List.nodup_nil,(by intro x h; cases h),(by intro x h; cases h)⟩
  | (i,k) :: r,pre,stl,last,h=>by
    unfold ordW at h
    simp only [Bool.and_eq_true] at h
    obtain ⟨⟨⟨⟨h0,h1⟩,h2⟩,_⟩,h4⟩:=h
    obtain ⟨n1,n2,n3⟩:=ordW_nd r (i :: pre) _ _ h4
    simp only [List.map_cons,List.mem_cons]
    refine ⟨List.nodup_cons.2 ⟨fun hm=>n2 i hm (List.mem_cons_self ..),n1⟩,fun x hx=>?_,fun x hx=>?_⟩
    · rcases hx with rfl | hx
      · simpa using h0
      · exact fun hm=>n2 x hx (List.mem_cons_of_mem _ hm)
    · rcases hx with rfl | hx
      · cases ho:ops[x]? with
        | none=>rw [ho] at h1; cases h1
        | some o=>exact ⟨o,rfl⟩
      · exact n3 x hx
theorem ordW_waits:∀ (post:List (Nat×Nat)) (pre stl:List Nat) (c:Nat),ordW ops f post pre stl (some c)=true→∀ x∈post.map (·.1),∃ c',(c'=c∨c'∈post.map (·.1))∧reach ops f x c'=true
  | [],pre,stl,c,_,x,hx=>by cases hx
  | (i,k) :: r,pre,stl,c,h,x,hx=>by
    unfold ordW at h
    simp only [Bool.and_eq_true] at h
    obtain ⟨⟨⟨⟨_,_⟩,h2⟩,_⟩,h4⟩:=h
    simp only [List.map_cons,List.mem_cons] at hx ⊢
    rcases hx with rfl | hx
    · exact ⟨c,.inl rfl,h2⟩
    · have:∃ c2 stl2,(c2=c∨c2=i)∧ordW ops f r (i :: pre) stl2 (some c2)=true:=by
        by_cases hk:(k == 0 || k == 4)=true
        · rw [if_pos hk] at h4; exact ⟨c,_,.inl rfl,h4⟩
        · rw [if_neg hk] at h4; exact ⟨i,_,.inr rfl,h4⟩
      obtain ⟨c2,stl2,hc2,h5⟩:=this
      obtain ⟨c',h6,h7⟩:=ordW_waits r (i :: pre) stl2 c2 h5 x hx
      refine ⟨c',?_,h7⟩
      rcases h6 with rfl | h6
      · rcases hc2 with rfl | rfl
        · exact .inl rfl
        · exact .inr (.inl rfl)
      · exact .inr (.inr h6)
theorem OI.same (hD:OrdD ops n) (h:OI P ops a0 pre stl post V as T listed a) {i:Nat} {o:Oper} (ho:ops[i]? = some o) (hall:∀ e∈o.after,Region.binds .any e=true→listed.getD e.on false=true) :
  execOp a.eval o=execOp as.eval o∧Region.wanted o (yielded ops a.tmps)=Region.wanted o (yielded ops as.tmps):=by
 refine looks_same (fun cs b=>Region.noSelect_spec hD.nosel i o cs b ho) (h.asz.trans h.ssz.symm) fun s hs=>?_
 by_cases hj:∃ j,dstOf ops j=some s
 ·obtain ⟨j,hj⟩:=hj
  obtain ⟨e,he,hb,hon⟩:=hD.looks i o s j ho hs hj
  have hl:listed.getD j false=true:=hon ▸ hall e he hb
  have hjp:j∈pre:=by
   rcases h.all j (dstOf_lt hj) with h1 | h1
   ·exact h1
   ·rw [h.hp j h1] at hl; cases hl
  rw [h.done j hl s hj,h.val j hjp s hj]
 ·rw [h.other s fun j _ hd=>hj ⟨j,hd⟩,h.oth s fun j _ hd=>hj ⟨j,hd⟩]
theorem getD_set_self' {l:Array Bool} {i:Nat} (h:i < l.size):(l.setIfInBounds i true).getD i false=true:=by simp [Array.getD_eq_getD_getElem?,h]
theorem OI.list (hD:OrdD ops n) (hn:n≤a0.tmps.size) (h:OI P ops a0 pre stl post V as T listed a) {i:Nat} {o:Oper} (ho:ops[i]? = some o) (hi:i∈pre) (hall:∀ e∈o.after,Region.binds .any e=true→listed.getD e.on false=true) :
  OI P ops a0 pre stl post V as T (listed.setIfInBounds i true) (a.put o.dst (V i)):=by
 have hdi:=dst_of (ops:=ops) ho
 have his:i < listed.size:=by rw [h.sz]; exact (Array.getElem?_eq_some_iff.1 ho).1
 have hiq:i ∉ post.map (·.1):=fun hm=>(List.nodup_append.1 h.nd).2.2 i hi i hm rfl
 have hgt:∀ j,(listed.setIfInBounds i true).getD j false=true→j=i∨listed.getD j false=true:=fun j hj=>by
  by_cases hji:i=j
  ·exact .inl hji.symm
  ·rw [getD_set_ne false hji] at hj; exact .inr hj
 have hup:∀ j,listed.getD j false=true→(listed.setIfInBounds i true).getD j false=true:=fun j hj=>by
  by_cases hji:i=j
  ·subst hji; exact getD_set_self' his
  ·rw [getD_set_ne false hji]; exact hj
 refine ⟨by simp [h.sz],h.all,h.nd,fun j hj=>?_,fun j oj hj hoj e he hb=>?_,h.ch,h.val,h.oth,h.ssz,h.sdf,fun j hj d hd=>?_,fun s hs=>?_,?_,?_,fun j hj hl oj hoj=>?_,h.isop,h.stlp⟩
 ·rw [getD_set_ne false (fun e:i=j=>hiq (e ▸ hj))]
  exact h.hp j hj
 ·rcases hgt j hj with rfl | hj
  ·rw [ho] at hoj
   cases hoj
   exact hup _ (hall e he hb)
  ·exact hup _ (h.cl j oj hj hoj e he hb)
 ·by_cases hji:j=i
  ·subst hji
   rw [hdi] at hd
   rw [hd,put_getD_self (by rw [h.asz]; exact Nat.lt_of_lt_of_le (hD.dst j d (hdi.trans hd)).1 hn)]
  ·rw [put_getD (fun e=>(hD.dst i d (hdi.trans e)).2 j hji hd)]
   exact h.done j ((hgt j hj).resolve_left hji) d hd
 ·rw [put_getD (fun e=>hs i (getD_set_self' his) (hdi.trans e))]
  exact h.other s fun j hj=>hs j (hup j hj)
 ·rw [(put_sz a o.dst _).1,h.asz]
 ·rw [(put_sz a o.dst _).2,h.adf]
 ·refine h.pure j hj ?_ oj hoj
  cases hq:listed.getD j false with
  | false=>rfl
  | true=>rw [hup j hq] at hl; cases hl
theorem Gives.wp {o:Oper} {w:World} {R:Value→World→Prop} {K:Act→World→Prop} (h:Gives P o as w R) (he:execOp a.eval o=execOp as.eval o) (hK:∀ u w',R u w'→K (a.put o.dst u) w'):o.wp P a w K Q:=by
 unfold Oper.wp
 rw [he]
 rcases h with ⟨u,w',h1,h2⟩ | ⟨w',h1,h2⟩ | ⟨f,args,w1,h1,h2⟩
 ·rw [h1]; exact hK u w' h2
 ·rw [h1]; exact hK undef w' h2
 ·rw [h1]
  exact h2.mono fun e w' ⟨u,h3,h4⟩=>by subst h3; exact hK u w' h4
theorem OI.all_done (h:OI P ops a0 pre stl [] V as T listed a) (hl:∀ i∈pre,listed.getD i false=true):a=as:=by
 refine act_ext (h.asz.trans h.ssz.symm) (h.adf.trans h.sdf.symm) fun s=>?_
 by_cases hj:∃ j,dstOf ops j=some s
 ·obtain ⟨j,hj⟩:=hj
  have hjp:j∈pre:=by
   rcases h.all j (dstOf_lt hj) with h1 | h1
   ·exact h1
   ·cases h1
  rw [h.done j (hl j hjp) s hj,h.val j hjp s hj]
 ·rw [h.other s fun j _ hd=>hj ⟨j,hd⟩,h.oth s fun j _ hd=>hj ⟨j,hd⟩]
end
def OrdK (Q:Exit→Act→World→Prop) (T:World→Prop) (a:Act):Prop:=∀ w,T w→Q .normal a w
theorem ord_go (hD:OrdD ops n) (hn:n≤a0.tmps.size):∀ (fuel:Nat) (U:List Nat) (pre stl:List Nat) (post:List (Nat×Nat)) (V:Nat→Value) (as:Act) (T:World→Prop) (last:Option Nat) (listed:Array Bool) (a:Act) (w:World),
  OI P ops a0 pre stl post V as T listed a→Ord P ops (OrdK Q) post T as→ordW ops f post pre stl last=true→(∀ c,last=some c→c∈pre)→(post=[]∨∃ i k r,post=(i,k) :: r∧k≠0∧k≠4) →
  U.Nodup→(∀ i,i < ops.size→listed.getD i false=false→i∈U)→U.length≤fuel→T w→wpAny P .any ops Q fuel listed a w:=by
 intro fuel
 -- where nothing is ready,all has come up
 have least:∀ {pre stl:List Nat} {post:List (Nat×Nat)} {V:Nat→Value} {as:Act} {T:World→Prop} {last:Option Nat} {listed:Array Bool} {a:Act},OI P ops a0 pre stl post V as T listed a→ordW ops f post pre stl last=true→Region.ready .any ops listed=[]→post=[]∧∀ i∈pre,listed.getD i false=true:=by
  intro pre stl post V as T last listed a hI hW hr
  have none_ready:∀ u o,ops[u]? = some o→listed.getD u false=false→(∀ e∈o.after,Region.binds .any e=true→listed.getD e.on false=true)→False:=fun u o ho hl hall=>by
   have:u∈Region.ready .any ops listed:=by
    refine mem_ready.2 ⟨?_,o,ho,hall⟩
    have hs:u < listed.size:=by rw [hI.sz]; exact (Array.getElem?_eq_some_iff.1 ho).1
    rw [Array.getD_eq_getD_getElem?] at hl ⊢
    simpa [hs] using hl
   rw [hr] at this
   cases this
  have hpre:∀ i∈pre,listed.getD i false=true:=fun i hi=>by
   cases hq:listed.getD i false with
   | true=>rfl
   | false =>
    exfalso
    obtain ⟨u,h1,h2,h3⟩:=hI.ch.least ⟨i,hi,hq⟩
    obtain ⟨o,ho⟩:∃ o,ops[u]? = some o:=by
     cases ho:ops[u]? with
     | some o=>exact ⟨o,rfl⟩
     | none=>obtain ⟨o,ho'⟩:=hI.isop u (.inl h1); rw [ho] at ho'; cases ho'
    exact none_ready u o ho h2 (h3 o ho)
  refine ⟨?_,hpre⟩
  cases post with
  | nil=>rfl
  | cons x r =>
   exfalso
   obtain ⟨c,k⟩:=x
   unfold ordW at hW
   simp only [Bool.and_eq_true] at hW
   obtain ⟨⟨⟨⟨_,w1⟩,_⟩,_⟩,_⟩:=hW
   cases hoc:ops[c]? with
   | none=>rw [hoc] at w1; cases w1
   | some o =>
    rw [hoc] at w1
    refine none_ready c o hoc (hI.hp c (by simp)) fun e he hb=>?_
    simp only at w1
    rw [← Array.all_toList] at w1
    have:=(List.all_eq_true.1 w1) e (Array.mem_toList_iff.2 he)
    exact hpre _ (by simpa [hb] using this)
 have fin:∀ {pre stl:List Nat} {post:List (Nat×Nat)} {V:Nat→Value} {as:Act} {T:World→Prop} {last:Option Nat} {listed:Array Bool} {a:Act} {w:World},OI P ops a0 pre stl post V as T listed a→Ord P ops (OrdK Q) post T as→ordW ops f post pre stl last=true→T w→Region.ready .any ops listed=[]→Q .normal a w:=by
  intro pre stl post V as T last listed a w hI hO hW hT hr
  obtain ⟨rfl,hl⟩:=least hI hW hr
  have:=hI.all_done hl
  subst this
  exact hO w hT
 induction fuel with
 | zero =>
  intro U pre stl post V as T last listed a w hI hO hW hl hpn hU hUc hf hT
  obtain rfl:=List.length_eq_zero_iff.1 (Nat.le_zero.1 hf)
  have hr:Region.ready .any ops listed=[]:=by
   refine List.eq_nil_iff_forall_not_mem.2 fun i hi=>?_
   obtain ⟨h1,o,ho,_⟩:=mem_ready.1 hi
   have his:=(Array.getElem?_eq_some_iff.1 ho).1
   have hs:i < listed.size:=by rw [hI.sz]; exact his
   have:listed.getD i false=false:=by
    rw [Array.getD_eq_getD_getElem?] at h1 ⊢
    simpa [hs] using h1
   cases hUc i his this
  exact ⟨hr,fin hI hO hW hT hr⟩
 | succ fuel ih =>
  intro U pre stl post V as T last listed a w hI hO hW hl hpn hU hUc hf hT
  refine ⟨fun hr=>fin hI hO hW hT hr,fun i hi=>?_⟩
  obtain ⟨h1,o,ho,hall⟩:=mem_ready.1 hi
  have his:=(Array.getElem?_eq_some_iff.1 ho).1
  have hs:i < listed.size:=by rw [hI.sz]; exact his
  have hil:listed.getD i false=false:=by
   rw [Array.getD_eq_getD_getElem?] at h1 ⊢
   simpa [hs] using h1
  have hiU:=hUc i his hil
  have hlen:(U.erase i).length≤fuel:=by rw [List.length_erase_of_mem hiU]; omega
  have hUc':∀ j,j < ops.size→(listed.setIfInBounds i true).getD j false=false→j∈U.erase i:=fun j hj hq=>by
   by_cases hji:i=j
   ·subst hji
    rw [getD_set_self' hs] at hq
    cases hq
   ·rw [getD_set_ne false hji] at hq
    exact (hU.mem_erase_iff).2 ⟨fun e=>hji e.symm,hUc j hj hq⟩
  obtain ⟨e1,e2⟩:=hI.same hD ho hall
  unfold wpOp
  rw [ho]
  simp only
  rcases hI.all i his with hip | hip
  ·-- it only reads
   have hgo:=fun w (hT:T w)=>ih (U.erase i) pre stl post V as T last _ _ w (hI.list hD hn ho hip hall) hO hW hl hpn (hU.erase _) hUc' hlen hT
   rcases hI.pure i hip hil o ho with ⟨p1,p2⟩ | ⟨p1,p2⟩
   ·rw [e2,p1,if_pos rfl]
    refine .inl ?_
    unfold Oper.wp
    rw [e1,p2 w (.inl hT)]
    exact hgo w hT
   ·rw [e2,p1]
    rw [if_neg (by simp),← p2]
    exact hgo w hT
  ·-- it has an effect: it is the next one
   rcases hpn with rfl | ⟨c,k,r,rfl,hk,hk4⟩
   ·cases hip
   have hW0:=hW
   unfold ordW at hW
   simp only [Bool.and_eq_true] at hW
   obtain ⟨⟨⟨⟨w0,w1⟩,w2⟩,w3⟩,w4⟩:=hW
   rw [if_neg (show ¬ (k == 4)=true by simpa using hk4),if_neg (show ¬ (k == 0 || k == 4)=true by simp [hk,hk4])] at w4
   have hic:i=c:=by
    simp only [List.map_cons,List.mem_cons] at hip
    rcases hip with h' | h'
    ·exact h'
    ·exfalso
     obtain ⟨c',hc',hr⟩:=ordW_waits r (c :: pre) stl c w4 i h'
     have hlc:=reach_listed' hI.cl f i o ho hall hr
     have:c'∈List.map (·.1) ((c,k) :: r):=by
      simp only [List.map_cons,List.mem_cons]
      exact hc'.imp id id
     rw [hI.hp c' this] at hlc
     cases hlc
   subst hic
   unfold Ord at hO
   obtain ⟨o',ho',hO⟩:=hO
   rw [ho] at ho'
   cases ho'
   rw [if_neg (show ¬ (k=0∨k=4) from fun h=>h.elim hk hk4)] at hO
   obtain ⟨hw,D,R,hG,hk1,hR⟩:=hO
   have hnd:=hI.nd
   simp only [List.map_cons] at hnd
   have hipre:i ∉ pre:=fun hm=>(List.nodup_append.1 hnd).2.2 i hm i (by simp) rfl
   have hiq:i ∉ r.map (·.1):=(List.nodup_cons.1 (List.nodup_append.1 hnd).2.1).1
   have hedge:∀ e∈o.after,Region.binds .any e=true→e.on∈pre:=fun e he hb=>by
    rw [ho] at w1
    simp only at w1
    rw [← Array.all_toList] at w1
    have:=(List.all_eq_true.1 w1) e (Array.mem_toList_iff.2 he)
    simpa [hb] using this
   rw [e2,hw,if_pos rfl]
   refine .inl ((hG w hT).wp e1 fun u w' ⟨hu,hRu⟩=>?_)
   -- the same state,the operation as one that yields u
   have hI2:OI P ops a0 (i :: pre) stl r (fun j=>if j=i then u else V j) (as.put o.dst u) (R u) (listed.setIfInBounds i true) (a.put o.dst u):=by
    have hstep:OI P ops a0 pre stl ((i,0) :: r) V as (fun _=>False) listed a:=⟨hI.sz,hI.all,hI.nd,hI.hp,hI.cl,hI.ch,hI.val,hI.oth,hI.ssz,hI.sdf,hI.done,hI.other,hI.asz,hI.adf,fun j hj hjl oj hoj=>(hI.pure j hj hjl oj hoj).imp (fun ⟨p,q⟩=>⟨p,fun w h=>q w (.inr (h.resolve_left id))⟩) id,hI.isop,hI.stlp⟩
    have h2:=(hstep.step0 hD hn ho hedge (v:=u) (stl':=stl) (fun j hj=>.inr hj) (.inl ⟨hw,fun _ h=>h.elim (fun h=>h.elim) fun hm=>absurd (hI.stlp i hm) hipre⟩)).list hD hn ho (List.mem_cons_self ..) hall
    simp only [if_true] at h2
    refine ⟨h2.sz,h2.all,h2.nd,h2.hp,h2.cl,h2.ch,h2.val,h2.oth,h2.ssz,h2.sdf,h2.done,h2.other,h2.asz,h2.adf,fun j hj hjl oj hoj=>?_,h2.isop,h2.stlp⟩
    have hji:j≠i:=fun e=>by rw [e,getD_set_self' hs] at hjl; cases hjl
    have hjp:j∈pre:=(List.mem_cons.1 hj).resolve_left hji
    rw [getD_set_ne false (Ne.symm hji)] at hjl
    have hsj:=fun cs b=>Region.noSelect_spec hD.nosel j oj cs b hoj
    have hap:∀ d,o.dst=some d→d ∉ oj.looksAt ops:=fun d hd=>hI.apart hD hjp hoj hipre d ((dst_of ho).trans hd)
    rw [execOp_put (ops:=ops) oj hsj as o.dst u hap,wanted_put oj as o.dst u hap,if_neg hji]
    refine (hI.pure j hjp hjl oj hoj).imp (fun ⟨p1,p2⟩=>⟨p1,fun x3 h3=>?_⟩) id
    by_cases hjs:j∈stl
    ·exact p2 x3 (.inr hjs)
    replace h3:=h3.resolve_right hjs
    by_cases hk':k=1
    ·exact p2 x3 (.inl (hk1 hk' u x3 h3))
    ·-- all ahead are waited for
     exfalso
     simp only [Bool.or_eq_true,beq_iff_eq,hk,hk4,hk',false_or] at w3
     have w5:=(List.all_eq_true.1 w3) j hjp
     simp only [Bool.or_eq_true,List.contains_eq_mem,decide_eq_true_eq,hjs,false_or] at w5
     have:=reach_listed' hI.cl f i o ho hall w5
     rw [hjl] at this
     cases this
   obtain ⟨pre',stl',post',V',as',last',g1,g2,g3,g4,g5⟩:=ord_norm (K:=OrdK Q) hD hn r (i :: pre) _ _ _ (some i) hI2 (hR u hu) w4 fun c hc=>by cases hc; exact List.mem_cons_self ..
   exact ih (U.erase i) pre' stl' post' V' as' (R u) last' _ _ w' g1 g2 g3 g4 g5 (hU.erase _) hUc' hlen hRu
theorem wp_region_ord {id:Nat} {w:World} (σ:List (Nat×Nat)) (f:Nat) (T:World→Prop) (hmx:P.follows .mixedOrders=true) (hB:ordB ops f σ a0.tmps.size=true) (hT:T { w with drawn:=w.drawn+1 }) (h:Ord P ops (OrdK Q) σ T a0):(Code.region id ops true).wp P Q a0 w:=by
 obtain ⟨hD,hlen,hall,hW⟩:=ordB_ok hB
 obtain ⟨hnd,_,hisop⟩:=ordW_nd σ [] [] none hW
 have hI:OI P ops a0 [] [] σ (fun _=>undef) a0 T (Array.replicate ops.size false) a0:=by
  have hf:∀ i,(Array.replicate ops.size false).getD i false=false:=fun i=>by
   rw [Array.getD_eq_getD_getElem?,Array.getElem?_replicate]
   split <;> rfl
  refine ⟨by simp,fun i hi=>.inr (hall i hi),by simpa using hnd,fun i _=>hf i,?_,trivial,?_,fun _ _=>rfl,rfl,rfl,?_,fun _ _=>rfl,rfl,rfl,?_,?_,?_⟩
  ·intro i o hi; rw [hf] at hi; cases hi
  ·intro i hi; cases hi
  ·intro i hi; rw [hf] at hi; cases hi
  ·intro i hi; cases hi
  ·intro i hi
   rcases hi with h | h
   ·cases h
   ·exact hisop i h
  ·intro i hi; cases hi
 obtain ⟨pre',stl',post',V',as',last',g1,g2,g3,g4,g5⟩:=ord_norm (K:=OrdK Q) hD (Nat.le_refl _) σ [] _ _ _ none hI h hW fun c hc=>by cases hc
 exact wp_region_any hmx (ord_go hD (Nat.le_refl _) ops.size (List.range ops.size) pre' stl' post' V' as' T last' _ _ _ g1 g2 g3 g4 g5 List.nodup_range (fun i hi _=>List.mem_range.2 hi) (by simp) hT)
section
variable {K:(World→Prop)→Act→Prop} {i:Nat} {r:List (Nat×Nat)} {T:World→Prop} {a:Act} {o:Oper}
theorem Ord.pure (v:Value) (ho:ops[i]? = some o) (hw:Region.wanted o (yielded ops a.tmps)=true) (h:∀ w,T w→(execOp a.eval o).run P w=.ok (.value v) w) (hr:Ord P ops K r T (a.put o.dst v)):Ord P ops K ((i,0) :: r) T a:=by
 unfold Ord
 exact ⟨o,ho,by rw [if_pos (.inl rfl)]; exact .inl ⟨hw,v,fun w hT=>h w (hT.resolve_right (by decide)),hr⟩⟩
theorem Ord.still (v:Value) (ho:ops[i]? = some o) (hw:Region.wanted o (yielded ops a.tmps)=true) (h:∀ w,(execOp a.eval o).run P w=.ok (.value v) w) (hr:Ord P ops K r T (a.put o.dst v)):Ord P ops K ((i,4) :: r) T a:=by
 unfold Ord
 exact ⟨o,ho,by rw [if_pos (.inr rfl)]; exact .inl ⟨hw,v,fun w _=>h w,hr⟩⟩
theorem Ord.skip4 (ho:ops[i]? = some o) (hw:Region.wanted o (yielded ops a.tmps)=false) (hr:Ord P ops K r T (a.put o.dst undef)):Ord P ops K ((i,4) :: r) T a:=by
 unfold Ord
 exact ⟨o,ho,by rw [if_pos (.inr rfl)]; exact .inr ⟨hw,hr⟩⟩
theorem Ord.skip (ho:ops[i]? = some o) (hw:Region.wanted o (yielded ops a.tmps)=false) (hr:Ord P ops K r T (a.put o.dst undef)):Ord P ops K ((i,0) :: r) T a:=by
 unfold Ord
 exact ⟨o,ho,by rw [if_pos (.inl rfl)]; exact .inr ⟨hw,hr⟩⟩
theorem Ord.eff {k:Nat} (D:Value→Prop) (R:Value→World→Prop) (hk:k≠0∧k≠4) (ho:ops[i]? = some o) (hw:Region.wanted o (yielded ops a.tmps)=true) (h:∀ w,T w→Gives P o a w fun u w'=>D u∧R u w') (h1:k=1→∀ u w,R u w→T w)
  (hr:∀ u,D u→Ord P ops K r (R u) (a.put o.dst u)):Ord P ops K ((i,k) :: r) T a:=by
 unfold Ord
 exact ⟨o,ho,by rw [if_neg (fun h=>h.elim hk.1 hk.2)]; exact ⟨hw,D,R,h,h1,hr⟩⟩
theorem Ord.det (v:Value) (ho:ops[i]? = some o) (hw:Region.wanted o (yielded ops a.tmps)=true) (h:∀ w,T w→Gives P o a w fun u w'=>u=v∧T w')
  (hr:Ord P ops K r T (a.put o.dst v)):Ord P ops K ((i,1) :: r) T a :=
 Ord.eff (·=v) (fun _=>T) (by decide) ho hw h (fun _ _ _ h=>h) (by rintro u rfl; exact hr)
theorem Gives.call {R:Value→World→Prop} {w:World} (f:FuncId) (args:Array Value) (h:(execOp a.eval o).run P w=.ok (.enter f args) w) (h2:Calls P f args w fun e w'=>∃ u,e=.returned u∧R u w'):Gives P o a w R:=.inr (.inr ⟨f,args,w,h,h2⟩)
theorem Gives.value {R:Value→World→Prop} {w w':World} (u:Value) (h:(execOp a.eval o).run P w=.ok (.value u) w') (h2:R u w'):Gives P o a w R:=.inl ⟨u,w',h,h2⟩
theorem Gives.skip {R:Value→World→Prop} {w w':World} (h:(execOp a.eval o).run P w=.ok .skip w') (h2:R undef w'):Gives P o a w R:=.inr (.inl ⟨w',h,h2⟩)
end
end
section
variable {P:Program} {ops:Array Oper} {Q:Exit→Act→World→Prop} {rest:List Oper} {o:Oper} {a:Act} {w w':World}
theorem ex_load {ty:TypeId} {x:Operand} {v:Value} (ho:o.op=.load ty x) (h:(Instr.loadAt ty (a.eval x)).run P w=.ok v w):(execOp a.eval o).run P w=.ok (.value v) w:=by
 obtain ⟨dst,op,type,pos,after,guard⟩:=o
 cases ho
 simp only [execOp,Sem.run_bind,h,Result.andThen_ok,Sem.run_pure]
theorem ex_store {ty:TypeId} {x y:Operand} (ho:o.op=.store ty x y) (h:(Instr.storeAt ty (a.eval x) (a.eval y)).run P w=.ok () w'):(execOp a.eval o).run P w=.ok .skip w':=by
 obtain ⟨dst,op,type,pos,after,guard⟩:=o
 cases ho
 simp only [execOp,Sem.run_bind,h,Result.andThen_ok,Sem.run_pure]
theorem wpList_loadAt {ty:TypeId} {x:Operand} {v:Value} (hg:o.guard=none) (ho:o.op=.load ty x) (h:(Instr.loadAt ty (a.eval x)).run P w=.ok v w) (k:wpList P ops Q rest (a.put o.dst v) w):wpList P ops Q (o :: rest) a w :=
 wpList_plain hg fun K hK=>by
  unfold Oper.wp
  rw [ex_load ho h]
  exact hK _ _ k
theorem wpList_storeAt {ty:TypeId} {x y:Operand} (hg:o.guard=none) (ho:o.op=.store ty x y) (h:(Instr.storeAt ty (a.eval x) (a.eval y)).run P w=.ok () w') (k:wpList P ops Q rest (a.put o.dst undef) w'):wpList P ops Q (o :: rest) a w :=
 wpList_plain hg fun K hK=>by
  unfold Oper.wp
  rw [ex_store ho h]
  exact hK _ _ k
def Halt (p:Prop):Prop:=p
theorem halt_region (id:Nat) {d:Bool} (h:Halt ((Code.region id ops d).wp P Q a w)):(Code.region id ops d).wp P Q a w:=h
theorem ld {dst:Option Tmp} {ty type:TypeId} {x:Operand} {pos:String} {after:Array Edge} {v:Value} (h:(Instr.loadAt ty (a.eval x)).run P w=.ok v w) (k:wpList P ops Q rest (a.put dst v) w):wpList P ops Q (⟨dst,.load ty x,type,pos,after,none⟩ :: rest) a w :=
 wpList_loadAt rfl rfl h k
theorem st {ty type:TypeId} {x y:Operand} {pos:String} {after:Array Edge} (h:(Instr.storeAt ty (a.eval x) (a.eval y)).run P w=.ok () w') (k:wpList P ops Q rest a w'):wpList P ops Q (⟨none,.store ty x y,type,pos,after,none⟩ :: rest) a w :=
 wpList_storeAt rfl rfl h k
theorem ex_build {ty:TypeId} {parts:Array (Nat×Operand)} {cells:Array Value} (ho:o.op=.build ty parts) (h:P.built ty (parts.toList.map fun p=>(p.1,a.eval p.2))=some cells):(execOp a.eval o).run P w=.ok (.value (.agg cells)) w:=by
 obtain ⟨dst,op,type,pos,after,guard⟩:=o
 cases ho
 have:=Go.run_build (P:=P) w ty (parts.map fun (i,x)=>(i,a.eval x)) cells (by rw [Array.toList_map]; exact h)
 simp only [execOp,Sem.run_bind,this,Result.andThen_ok,Sem.run_pure]
theorem bd {dst:Option Tmp} {ty type:TypeId} {parts:Array (Nat×Operand)} {pos:String} {after:Array Edge} {cells:Array Value} (h:P.built ty (parts.toList.map fun p=>(p.1,a.eval p.2))=some cells) (k:wpList P ops Q rest (a.put dst (.agg cells)) w):wpList P ops Q (⟨dst,.build ty parts,type,pos,after,none⟩ :: rest) a w :=
 wpList_plain rfl fun K hK=>by
  unfold Oper.wp
  rw [ex_build rfl h]
  exact hK _ _ k
theorem ex_append {s x:Operand} {t:TypeId} {v:Value} (ho:o.op=.call { callee:=.builtin .append,args:=#[s,x],argTypes:=#[t,t] }) (h:(Builtin.append_ #[t,t] o.type #[a.eval s,a.eval x]).run P w=.ok v w'):(execOp a.eval o).run P w=.ok (.value v) w':=by
 obtain ⟨dst,op,type,pos,after,guard⟩:=o
 cases ho
 simp only [execOp,resolve,invoke,builtin,Sem.run_bind,Sem.run_pure,Result.andThen_ok,List.map_toArray,List.map_cons,List.map_nil,h]
theorem ap {dst:Option Tmp} {t type:TypeId} {s x:Operand} {pos:String} {after:Array Edge} {v:Value} (h:(Builtin.append_ #[t,t] type #[a.eval s,a.eval x]).run P w=.ok v w') (k:wpList P ops Q rest (a.put dst v) w'):wpList P ops Q (⟨dst,.call { callee:=.builtin .append,args:=#[s,x],argTypes:=#[t,t] },type,pos,after,none⟩ :: rest) a w :=
 wpList_plain rfl fun K hK=>by
  unfold Oper.wp
  rw [ex_append rfl h]
  exact hK _ _ k
theorem hlt (d:Nat) {op:Op} {type:TypeId} {pos:String} {after:Array Edge} {guard:Option (Nat×Bool)} (h:Halt (wpList P ops Q (⟨some d,op,type,pos,after,guard⟩ :: rest) a w)):wpList P ops Q (⟨some d,op,type,pos,after,guard⟩ :: rest) a w:=h
end
end Go.Vm
namespace Go.Vm
section
variable {P:Program} {ops:Array Oper} {Q:Exit→Act→World→Prop} {m c:Nat} {SC:Option Value→World→Prop} {a0:Act}
theorem Chain.any {K:(Value→Act)→Prop} {i:Nat} {o:Oper} {r:List Oper} {a:Value→Act} (h:∀ w,SC none w→∃ u w',(execOp (a undef).eval o).run P w=.ok (.value u) w'∧SC (some u) w') (hk:Chain P SC i K (i+1) r (fun u=>(a u).put o.dst u)):Chain P SC i K i (o :: r) a:=by
 unfold Chain
 rw [if_pos rfl]
 exact ⟨h,hk⟩
end
end Go.Vm
namespace Go.Vm
open Go.RowKit
section
variable {P:Program} {S:Nat→Prop} {β:Path→Value} {w:World}
abbrev ArgMem (args:List AV) (us:List Value) (S:Nat→Prop) (β:Path→Value) (w:World):Prop :=
 Mem ⟨w,ownedBy (finFr args []) β,S,lentAt β ([]:List AV).length,[]⟩ [] S β (finFr args []) (fun x=>(us[x]?).or (lentAt β ([]:List AV).length x)) w
theorem ArgMem.own {args:List AV} {us:List Value} (hm:ArgMem args us S β w) (hl:us.length=args.length) {i:Nat} {κ:TypeId} {sz:Nat} {es:List (List Dat)} (h:args[i]? = some (.own κ sz es)) :
  ∃ u,us[i]? = some u∧u=β (i,0)∧OwnAt S w u κ sz es∧∀ b,blk u=some b→ownedBy (finFr args []) β b∧¬ S b:=by
 have hi:i < args.length:=(List.getElem?_eq_some_iff.1 h).1
 obtain ⟨u0,hr,hu⟩:=hm.rel i
 have hf:fget (finFr args []) i=.own κ sz es:=by rw [fget_finFr_arg hi,List.getD_eq_getElem?_getD,h]; rfl
 rw [hf] at hr
 have hui:us[i]? = some us[i]:=List.getElem?_eq_getElem (by omega)
 have e:=hu us[i] (by simp [hui])
 refine ⟨us[i],hui,e.trans hr.1,by rw [e]; exact hr.2,fun b hb=>?_⟩
 have ho:(fget (finFr args []) i).ownsAt 0=true:=by rw [hf]; rfl
 have hb':blk (β (i,0))=some b:=by rw [← hr.1,← e]; exact hb
 exact ⟨⟨i,0,ho,hb'⟩,(hm.fre i 0 b ho hb').1⟩
theorem ArgMem.flat {args:List AV} {us:List Value} (hm:ArgMem args us S β w) (hl:us.length=args.length) {i:Nat} {x:Value} (h:args[i]? = some (.d (.v x))):us[i]? = some x:=by
 have hi:i < args.length:=(List.getElem?_eq_some_iff.1 h).1
 obtain ⟨u0,hr,hu⟩:=hm.rel i
 have hf:fget (finFr args []) i=.d (.v x):=by rw [fget_finFr_arg hi,List.getD_eq_getElem?_getD,h]; rfl
 rw [hf] at hr
 have hui:us[i]? = some us[i]:=List.getElem?_eq_getElem (by omega)
 have e:=hu us[i] (by simp [hui])
 have h0:u0=x:=hr.1
 rw [hui,e,h0]
theorem setCells_row (b:Nat) (E:TypeId) (fz:Nat×Nat):∀ (vs:List Value) (o:Nat) (arr:Array Value) (w:World),w.heap[b]? = some (.cells arr E fz)→o+vs.length≤arr.size →
  w.setCells b o vs=w.setRow b (spl o vs arr.toList).toArray
 | [],o,arr,w,hb,_=>by
  have e:spl o ([]:List Value) arr.toList=arr.toList:=by simp [spl]
  rw [World.setCells,e,Array.toArray_toList,setRow_self w b arr E fz hb]
 | v :: vs,o,arr,w,hb,hl=>by
  have hl':o+(vs.length+1)≤arr.size:=by simpa using hl
  have h1:w.setCell ⟨b,o,none⟩ v=w.setRow b (arr.setIfInBounds o v):=setCell_eq_setRow w b o arr E fz v hb
  rw [World.setCells,h1,setCells_row b E fz vs (o+1) (arr.setIfInBounds o v) _ (setRow_heap w b arr _ E fz hb) (by simp; omega),setRow_setRow]
  congr 2
  have e:=list_seg_step arr.toList o v vs (by simpa using hl)
  simpa [spl,Array.toList_setIfInBounds] using e
theorem REs.ones {g:Nat→Option Value} {sz:Nat} {es:List (List Dat)} {o:Nat} (h:REs S w sz es g o) (j:Nat) (hj:j < es.length * sz):∀ v,g (o+j)=some v→v.oneCell'=true:=by
 intro v hv
 have hsz:0 < sz:=by rcases Nat.eq_zero_or_pos sz with h0 | h0 <;> simp_all
 have hq:j / sz < es.length:=Nat.div_lt_of_lt_mul (by rwa [Nat.mul_comm])
 obtain ⟨h1,h2⟩:=REs.get es o (j / sz) _ h (List.getElem?_eq_getElem hq)
 have hr:j % sz < (es[j / sz]).length:=by rw [h1]; exact Nat.mod_lt _ hsz
 obtain ⟨u,hu,hrd⟩:=RCs.get _ _ (j % sz) _ h2 (List.getElem?_eq_getElem hr)
 have e:o+j / sz * sz+j % sz=o+j:=by
  have:=Nat.div_add_mod j sz
  rw [Nat.mul_comm] at this
  omega
 rw [e,hv] at hu
 cases hu
 exact RD_one _ _ hrd
end
end Go.Vm
namespace Go.Vm
def OrdF (P:Program) (ops:Array Oper) (K:(World→Prop)→Act→Prop) (c:Nat) (σ2:List (Nat×Nat)) (M:Value→World→Prop) (T:World→Prop):List (Nat×Nat)→Act→Prop
  | [],a=>∃ o,ops[c]? = some o∧Region.wanted o (yielded ops a.tmps)=true∧∃ D:Value→Prop,(∀ w,T w→Gives P o a w fun u w'=>D u∧T w'∧M u w')∧∀ u,D u→Ord P ops K σ2 (fun w=>T w∧M u w) (a.put o.dst u)
  | (i,k) :: r,a=>∃ o,ops[i]? = some o ∧
      if k=0∨k=4 then ((Region.wanted o (yielded ops a.tmps)=true∧∃ v,(∀ w,(T w∨k=4)→(execOp a.eval o).run P w=.ok (.value v) w)∧OrdF P ops K c σ2 M T r (a.put o.dst v))∨(Region.wanted o (yielded ops a.tmps)=false∧OrdF P ops K c σ2 M T r (a.put o.dst undef)))
      else Region.wanted o (yielded ops a.tmps)=true∧∃ v,(∀ w,T w→Gives P o a w fun u w'=>u=v∧T w'∧∀ z,M z w→M z w')∧OrdF P ops K c σ2 M T r (a.put o.dst v)
section
variable {P:Program} {ops:Array Oper} {Q:Exit→Act→World→Prop} {a0:Act} {n f:Nat} {K:(World→Prop)→Act→Prop} {c:Nat} {σ2:List (Nat×Nat)} {M:Value→World→Prop} {T:World→Prop}
theorem Act.put_comm {a:Act} {d e:Option Tmp} {u v:Value} (h:∀ x,d=some x→e≠some x):(a.put d u).put e v=(a.put e v).put d u:=by
 cases d with
 | none=>rfl
 | some x =>
  cases e with
  | none=>rfl
  | some y =>
   have:x≠y:=fun he=>h x rfl (by rw [he])
   simp only [Act.put]
   congr 1
   exact (Array.setIfInBounds_comm _ _ this)
theorem Gives.imp {o:Oper} {a b:Act} {w:World} {R R':Value→World→Prop} (h:Gives P o a w R) (he:execOp a.eval o=execOp b.eval o) (hr:∀ u w',R u w'→R' u w'):Gives P o b w R':=by
 unfold Gives at h ⊢
 rw [← he]
 rcases h with ⟨u,w',h1,h2⟩ | ⟨w',h1,h2⟩ | ⟨f,args,w1,h1,h2⟩
 ·exact .inl ⟨u,w',h1,hr _ _ h2⟩
 ·exact .inr (.inl ⟨w',h1,hr _ _ h2⟩)
 ·exact .inr (.inr ⟨f,args,w1,h1,h2.mono fun e w' ⟨u,h3,h4⟩=>⟨u,h3,hr _ _ h4⟩⟩)
structure Floats (ops:Array Oper) (c:Nat) (oc:Oper):Prop where
 op:ops[c]? = some oc
 free:∀ e∈oc.after,Region.binds .any e=false
theorem Floats.looks {oc:Oper} (hD:OrdD ops n) (h:Floats ops c oc) {j d:Nat} (hj:dstOf ops j=some d):d ∉ oc.looksAt ops:=fun hm=>by
 obtain ⟨e,he,hb,_⟩:=hD.looks c oc d j h.op hm hj
 rw [h.free e he] at hb
 cases hb
theorem ordF_up (hD:OrdD ops n) {oc:Oper} (hF:Floats ops c oc):∀ (post:List (Nat×Nat)) (as:Act),(∀ x∈post.map (·.1),x≠c∧∀ o,ops[x]? = some o→∀ e∈o.after,Region.binds .any e=true→e.on≠c)→OrdF P ops K c σ2 M T post as →
    Region.wanted oc (yielded ops as.tmps)=true∧∃ D:Value→Prop,(∀ w,T w→Gives P oc as w fun u w'=>D u∧T w'∧M u w')∧∀ u,D u→Ord P ops K (post++σ2) (fun w=>T w∧M u w) (as.put oc.dst u)
  | [],as,_,h=>by
    unfold OrdF at h
    obtain ⟨o,ho,h0,h⟩:=h
    rw [hF.op] at ho
    cases ho
    exact ⟨h0,h⟩
  | (i,k) :: r,as,hx,h=>by
    unfold OrdF at h
    obtain ⟨o,ho,h⟩:=h
    obtain ⟨hic,hie⟩:=hx i (by simp)
    have hr:∀ x∈r.map (·.1),x≠c∧∀ o,ops[x]? = some o→∀ e∈o.after,Region.binds .any e=true→e.on≠c:=fun x hm=>hx x (by simp [hm])
    have hselc:=fun cs b=>Region.noSelect_spec hD.nosel c oc cs b hF.op
    have hseli:=fun cs b=>Region.noSelect_spec hD.nosel i o cs b ho
    have hlc:∀ d,o.dst=some d→d ∉ oc.looksAt ops:=fun d hd=>hF.looks hD ((dst_of ho).trans hd)
    have hli:∀ d,oc.dst=some d→d ∉ o.looksAt ops:=fun d hd hm=>by
      obtain ⟨e,he,hb,hon⟩:=hD.looks i o d c ho hm ((dst_of hF.op).trans hd)
      exact hie o ho e he hb hon
    have hcomm:∀ (u v:Value),(as.put oc.dst u).put o.dst v=(as.put o.dst v).put oc.dst u:=fun u v=>Act.put_comm fun x h1 h2=>(hD.dst c x ((dst_of hF.op).trans h1)).2 i hic ((dst_of ho).trans h2)
    have go:∀ v,OrdF P ops K c σ2 M T r (as.put o.dst v)→Region.wanted oc (yielded ops as.tmps)=true∧∃ D:Value→Prop,(∀ w,T w→Gives P oc as w fun u w'=>D u∧T w'∧M u w')∧∀ u,D u→Ord P ops K (r++σ2) (fun w=>T w∧M u w) ((as.put oc.dst u).put o.dst v):=fun v hv=>by
      obtain ⟨h1,D,h2,h3⟩:=ordF_up hD hF r _ hr hv
      refine ⟨(wanted_put oc as o.dst v hlc) ▸ h1,D,fun w hw=>(h2 w hw).imp (execOp_put (ops:=ops) oc hselc as o.dst v hlc) fun _ _ h=>h,fun u hu=>?_⟩
      rw [hcomm]
      exact h3 u hu
    by_cases hk:k=0∨k=4
    · rw [if_pos hk] at h
      rcases h with ⟨hw,v,hv,hk'⟩ | ⟨hw,hk'⟩
      · obtain ⟨h1,D,h2,h3⟩:=go v hk'
        refine ⟨h1,D,h2,fun u hu=>?_⟩
        rw [List.cons_append]
        unfold Ord
        refine ⟨o,ho,?_⟩
        rw [if_pos hk,wanted_put o as oc.dst u hli,execOp_put (ops:=ops) o hseli as oc.dst u hli]
        exact .inl ⟨hw,v,fun w hT=>hv w (hT.imp (·.1) id),h3 u hu⟩
      · obtain ⟨h1,D,h2,h3⟩:=go undef hk'
        refine ⟨h1,D,h2,fun u hu=>?_⟩
        rw [List.cons_append]
        unfold Ord
        refine ⟨o,ho,?_⟩
        rw [if_pos hk,wanted_put o as oc.dst u hli]
        exact .inr ⟨hw,h3 u hu⟩
    · rw [if_neg hk] at h
      obtain ⟨hw,v,hv,hk'⟩:=h
      obtain ⟨h1,D,h2,h3⟩:=go v hk'
      refine ⟨h1,D,h2,fun u hu=>?_⟩
      rw [List.cons_append]
      unfold Ord
      refine ⟨o,ho,?_⟩
      rw [if_neg hk,wanted_put o as oc.dst u hli]
      refine ⟨hw,(·=v),fun _ w=>T w∧M u w,fun w hT=>(hv w hT.1).imp (execOp_put (ops:=ops) o hseli as oc.dst u hli).symm fun z w' ⟨e,ht,hm⟩=>⟨e,ht,hm u hT.2⟩,fun _ _ _ h=>h,?_⟩
      rintro z rfl
      exact h3 u hu
theorem ordW_congr:∀ (post:List (Nat×Nat)) (pre pre' stl:List Nat) (last:Option Nat),(∀ x,x∈pre↔x∈pre')→ordW ops f post pre stl last=true→ordW ops f post pre' stl last=true
  | [],_,_,_,_,_,_=>rfl
  | (i,k) :: r,pre,pre',stl,last,h,hw=>by
    unfold ordW at hw ⊢
    simp only [Bool.and_eq_true] at hw ⊢
    obtain ⟨⟨⟨⟨w0,w1⟩,w2⟩,w3⟩,w4⟩:=hw
    refine ⟨⟨⟨⟨?_,?_⟩,w2⟩,?_⟩,ordW_congr r (i :: pre) (i :: pre') _ _ (fun x=>by simp [h x]) w4⟩
    · simpa [h i] using w0
    · cases ho:ops[i]? with
      | none=>rw [ho] at w1; cases w1
      | some o =>
        rw [ho] at w1
        simp only [← Array.all_toList,List.all_eq_true] at w1 ⊢
        intro e he
        have:=w1 e he
        simpa [h e.on] using this
    · simp only [Bool.or_eq_true,List.all_eq_true] at w3 ⊢
      exact w3.imp id fun hh x hx=>hh x ((h x).2 hx)
section
variable {pre stl:List Nat} {V:Nat→Value} {as a:Act} {listed:Array Bool}
theorem ordF_norm (hD:OrdD ops n) (hn:n≤a0.tmps.size):∀ (post:List (Nat×Nat)) (pre stl:List Nat) (V:Nat→Value) (as:Act) (last:Option Nat),OI P ops a0 pre stl (post++(c,1) :: σ2) V as T listed a→OrdF P ops K c σ2 M T post as→ordW ops f post pre stl last=true→ordW ops f (post++σ2) (c :: pre) stl last=true→(∀ d,last=some d→d∈pre) →
    ∃ pre' stl' post' V' as' last',OI P ops a0 pre' stl' (post'++(c,1) :: σ2) V' as' T listed a∧OrdF P ops K c σ2 M T post' as'∧ordW ops f post' pre' stl' last'=true∧ordW ops f (post'++σ2) (c :: pre') stl' last'=true∧(∀ d,last'=some d→d∈pre')∧(post'=[]∨∃ i k r,post'=(i,k) :: r∧k≠0∧k≠4)∧∀ x∈post'.map (·.1),x∈post.map (·.1)
  | [],pre,stl,V,as,last,hI,hO,hW,hX,hl=>⟨pre,stl,[],V,as,last,hI,hO,hW,hX,hl,.inl rfl,fun _ h=>h⟩
  | (i,k) :: r,pre,stl,V,as,last,hI,hO,hW,hX,hl=>by
    by_cases hk:k=0∨k=4
    · unfold OrdF at hO
      obtain ⟨o,ho,hO⟩:=hO
      rw [if_pos hk] at hO
      unfold ordW at hW
      rw [ho] at hW
      simp only [Bool.and_eq_true] at hW
      obtain ⟨⟨⟨⟨w0,w1⟩,w2⟩,w3⟩,w4⟩:=hW
      rw [if_pos (show ((k == 0 || k == 4)=true) by simpa using hk)] at w4
      rw [List.cons_append] at hX
      unfold ordW at hX
      simp only [Bool.and_eq_true] at hX
      have x4:=hX.2
      rw [if_pos (show ((k == 0 || k == 4)=true) by simpa using hk)] at x4
      replace x4:=ordW_congr _ _ (c :: i :: pre) _ _ (fun x=>by simp only [List.mem_cons]; exact ⟨fun h=>by rcases h with h | h | h <;> simp [h],fun h=>by rcases h with h | h | h <;> simp [h]⟩) x4
      have he:∀ e∈o.after,Region.binds .any e=true→e.on∈pre:=fun e he hb=>by
        rw [← Array.all_toList] at w1
        have:=(List.all_eq_true.1 w1) e (Array.mem_toList_iff.2 he)
        simpa [hb] using this
      have hip:i ∉ pre:=by simpa using w0
      have hst:∀ j,j∈(if (k == 4)=true then i :: stl else stl)→j=i∨j∈stl:=fun j hj=>by
        split at hj
        · exact List.mem_cons.1 hj
        · exact .inr hj
      have hstl:∀ j∈stl,j∈pre:=hI.stlp
      have h4:i∈(if (k == 4)=true then i :: stl else stl)→k=4:=fun hm=>by
        by_cases h:k=4
        · exact h
        · rw [if_neg (by simpa using h)] at hm
          exact absurd (hstl i hm) hip
      rw [List.cons_append] at hI
      rcases hO with ⟨hw,v,hv,hr⟩ | ⟨hw,hr⟩
      · obtain ⟨pre',stl',post',V',as',last',g1,g2,g3,g4,g5,g6,g7⟩:=ordF_norm hD hn r (i :: pre) _ _ _ last (hI.step0 hD hn ho he hst (.inl ⟨hw,fun w h=>hv w (h.imp id h4)⟩)) hr w4 x4 fun d hd=>List.mem_cons_of_mem _ (hl d hd)
        exact ⟨pre',stl',post',V',as',last',g1,g2,g3,g4,g5,g6,fun x hx=>List.mem_cons_of_mem _ (g7 x hx)⟩
      · obtain ⟨pre',stl',post',V',as',last',g1,g2,g3,g4,g5,g6,g7⟩:=ordF_norm hD hn r (i :: pre) _ _ _ last (hI.step0 hD hn ho he hst (.inr ⟨hw,rfl⟩)) hr w4 x4 fun d hd=>List.mem_cons_of_mem _ (hl d hd)
        exact ⟨pre',stl',post',V',as',last',g1,g2,g3,g4,g5,g6,fun x hx=>List.mem_cons_of_mem _ (g7 x hx)⟩
    · exact ⟨pre,stl,_,V,as,last,hI,hO,hW,hX,hl,.inr ⟨i,k,r,rfl,fun h=>hk (.inl h),fun h=>hk (.inr h)⟩,fun _ h=>h⟩
end
theorem OI.perm {pre stl:List Nat} {V:Nat→Value} {as a:Act} {listed:Array Bool} {post post':List (Nat×Nat)} (h:OI P ops a0 pre stl post V as T listed a) (hp:(post.map (·.1)).Perm (post'.map (·.1))):OI P ops a0 pre stl post' V as T listed a :=
 ⟨h.sz,fun i hi=>(h.all i hi).imp id fun hm=>hp.mem_iff.1 hm,((List.Perm.refl pre).append hp).nodup_iff.1 h.nd,fun i hi=>h.hp i (hp.mem_iff.2 hi),h.cl,h.ch,h.val,h.oth,h.ssz,h.sdf,h.done,h.other,h.asz,h.adf,h.pure,fun i hi=>h.isop i (hi.imp id fun hm=>hp.mem_iff.2 hm),h.stlp⟩
theorem OI.took {pre stl:List Nat} {V:Nat→Value} {as a:Act} {listed:Array Bool} {i k:Nat} {r:List (Nat×Nat)} {o:Oper} {R:World→Prop} (hD:OrdD ops n) (hn:n≤a0.tmps.size) (hI:OI P ops a0 pre stl ((i,k) :: r) V as T listed a) (ho:ops[i]? = some o) (hw:Region.wanted o (yielded ops as.tmps)=true)
  (hedge:∀ e∈o.after,Region.binds .any e=true→e.on∈pre) (hall:∀ e∈o.after,Region.binds .any e=true→listed.getD e.on false=true) (hR:∀ w,R w→T w) (u:Value) :
  OI P ops a0 (i :: pre) stl r (fun j=>if j=i then u else V j) (as.put o.dst u) R (listed.setIfInBounds i true) (a.put o.dst u):=by
 have hnd:=hI.nd
 simp only [List.map_cons] at hnd
 have hipre:i ∉ pre:=fun hm=>(List.nodup_append.1 hnd).2.2 i hm i (by simp) rfl
 have his:=(Array.getElem?_eq_some_iff.1 ho).1
 have hs:i < listed.size:=by rw [hI.sz]; exact his
 have hstep:OI P ops a0 pre stl ((i,0) :: r) V as (fun _=>False) listed a:=⟨hI.sz,hI.all,hI.nd,hI.hp,hI.cl,hI.ch,hI.val,hI.oth,hI.ssz,hI.sdf,hI.done,hI.other,hI.asz,hI.adf,fun j hj hjl oj hoj=>(hI.pure j hj hjl oj hoj).imp (fun ⟨p,q⟩=>⟨p,fun w h=>q w (.inr (h.resolve_left id))⟩) id,hI.isop,hI.stlp⟩
 have h2:=(hstep.step0 hD hn ho hedge (v:=u) (stl':=stl) (fun j hj=>.inr hj) (.inl ⟨hw,fun _ h=>h.elim (fun h=>h.elim) fun hm=>absurd (hI.stlp i hm) hipre⟩)).list hD hn ho (List.mem_cons_self ..) hall
 simp only [if_true] at h2
 refine ⟨h2.sz,h2.all,h2.nd,h2.hp,h2.cl,h2.ch,h2.val,h2.oth,h2.ssz,h2.sdf,h2.done,h2.other,h2.asz,h2.adf,fun j hj hjl oj hoj=>?_,h2.isop,h2.stlp⟩
 have hji:j≠i:=fun e=>by rw [e,getD_set_self' hs] at hjl; cases hjl
 have hjp:j∈pre:=(List.mem_cons.1 hj).resolve_left hji
 rw [getD_set_ne false (Ne.symm hji)] at hjl
 have hsj:=fun cs b=>Region.noSelect_spec hD.nosel j oj cs b hoj
 have hap:∀ d,o.dst=some d→d ∉ oj.looksAt ops:=fun d hd=>hI.apart hD hjp hoj hipre d ((dst_of ho).trans hd)
 rw [execOp_put (ops:=ops) oj hsj as o.dst u hap,wanted_put oj as o.dst u hap,if_neg hji]
 exact (hI.pure j hjp hjl oj hoj).imp (fun ⟨p1,p2⟩=>⟨p1,fun w h=>p2 w (h.imp (hR w) id)⟩) id
theorem ordF_go (hD:OrdD ops n) (hn:n≤a0.tmps.size) {oc:Oper} (hF:Floats ops c oc) (h2:∀ x∈σ2.map (·.1),reach ops f x c=true):∀ (fuel:Nat) (U:List Nat) (pre stl:List Nat) (post:List (Nat×Nat)) (V:Nat→Value) (as:Act) (last:Option Nat) (listed:Array Bool) (a:Act) (w:World),
  OI P ops a0 pre stl (post++(c,1) :: σ2) V as T listed a→OrdF P ops (OrdK Q) c σ2 M T post as→(∀ x∈post.map (·.1),x≠c∧∀ o,ops[x]? = some o→∀ e∈o.after,Region.binds .any e=true→e.on≠c)→ordW ops f post pre stl last=true→ordW ops f (post++σ2) (c :: pre) stl last=true→(∀ d,last=some d→d∈pre)→(post=[]∨∃ i k r,post=(i,k) :: r∧k≠0∧k≠4) →
  U.Nodup→(∀ i,i < ops.size→listed.getD i false=false→i∈U)→U.length≤fuel→T w→wpAny P .any ops Q fuel listed a w:=by
 intro fuel
 have hcs:=(Array.getElem?_eq_some_iff.1 hF.op).1
 induction fuel with
 | zero =>
  intro U pre stl post V as last listed a w hI hO hx hW hX hl hpn hU hUc hf hT
  obtain rfl:=List.length_eq_zero_iff.1 (Nat.le_zero.1 hf)
  cases hUc c hcs (hI.hp c (by simp))
 | succ fuel ih =>
  intro U pre stl post V as last listed a w hI hO hx hW hX hl hpn hU hUc hf hT
  have hlc:listed.getD c false=false:=hI.hp c (by simp)
  have hcr:c∈Region.ready .any ops listed:=by
   refine mem_ready.2 ⟨?_,oc,hF.op,fun e he hb=>by rw [hF.free e he] at hb; cases hb⟩
   have hs:c < listed.size:=by rw [hI.sz]; exact hcs
   rw [Array.getD_eq_getD_getElem?] at hlc ⊢
   simpa [hs] using hlc
  refine ⟨fun hr=>(by rw [hr] at hcr; cases hcr),fun i hi=>?_⟩
  obtain ⟨h1,o,ho,hall⟩:=mem_ready.1 hi
  have his:=(Array.getElem?_eq_some_iff.1 ho).1
  have hs:i < listed.size:=by rw [hI.sz]; exact his
  have hil:listed.getD i false=false:=by
   rw [Array.getD_eq_getD_getElem?] at h1 ⊢
   simpa [hs] using h1
  have hiU:=hUc i his hil
  have hlen:(U.erase i).length≤fuel:=by rw [List.length_erase_of_mem hiU]; omega
  have hUc':∀ j,j < ops.size→(listed.setIfInBounds i true).getD j false=false→j∈U.erase i:=fun j hj hq=>by
   by_cases hji:i=j
   ·subst hji
    rw [getD_set_self' hs] at hq
    cases hq
   ·rw [getD_set_ne false hji] at hq
    exact (hU.mem_erase_iff).2 ⟨fun e=>hji e.symm,hUc j hj hq⟩
  obtain ⟨e1,e2⟩:=hI.same hD ho hall
  unfold wpOp
  rw [ho]
  simp only
  rcases hI.all i his with hip | hip
  ·have hgo:=fun w (hT:T w)=>ih (U.erase i) pre stl post V as last _ _ w (hI.list hD hn ho hip hall) hO hx hW hX hl hpn (hU.erase _) hUc' hlen hT
   rcases hI.pure i hip hil o ho with ⟨p1,p2⟩ | ⟨p1,p2⟩
   ·rw [e2,p1,if_pos rfl]
    refine .inl ?_
    unfold Oper.wp
    rw [e1,p2 w (.inl hT)]
    exact hgo w hT
   ·rw [e2,p1]
    rw [if_neg (by simp),← p2]
    exact hgo w hT
  ·rw [List.map_append,List.mem_append,List.map_cons,List.mem_cons] at hip
   rcases hip with hip | rfl | hip
   ·-- the next with an effect
    rcases hpn with rfl | ⟨b,k,r,rfl,hk,hk4⟩
    ·cases hip
    have hW0:=hW
    unfold ordW at hW
    simp only [Bool.and_eq_true] at hW
    obtain ⟨⟨⟨⟨w0,w1⟩,w2⟩,w3⟩,w4⟩:=hW
    rw [if_neg (show ¬ (k == 4)=true by simpa using hk4),if_neg (show ¬ (k == 0 || k == 4)=true by simp [hk,hk4])] at w4
    rw [List.cons_append] at hX
    unfold ordW at hX
    simp only [Bool.and_eq_true] at hX
    have x4:=hX.2
    rw [if_neg (show ¬ (k == 4)=true by simpa using hk4),if_neg (show ¬ (k == 0 || k == 4)=true by simp [hk,hk4])] at x4
    replace x4:=ordW_congr _ _ (c :: b :: pre) _ _ (fun x=>by simp only [List.mem_cons]; exact ⟨fun h=>by rcases h with h | h | h <;> simp [h],fun h=>by rcases h with h | h | h <;> simp [h]⟩) x4
    have hib:i=b:=by
     simp only [List.map_cons,List.mem_cons] at hip
     rcases hip with h' | h'
     ·exact h'
     ·exfalso
      obtain ⟨c',hc',hr⟩:=ordW_waits r (b :: pre) stl b w4 i h'
      have hlc:=reach_listed' hI.cl f i o ho hall hr
      have:c'∈List.map (·.1) ((b,k) :: r++(c,1) :: σ2):=by
       rw [List.map_append,List.mem_append]
       refine .inl ?_
       simp only [List.map_cons,List.mem_cons]
       exact hc'.imp id id
      rw [hI.hp c' this] at hlc
      cases hlc
    subst hib
    unfold OrdF at hO
    obtain ⟨o',ho',hO⟩:=hO
    rw [ho] at ho'
    cases ho'
    rw [if_neg (show ¬ (k=0∨k=4) from fun h=>h.elim hk hk4)] at hO
    obtain ⟨hw,v,hG,hR⟩:=hO
    have hedge:∀ e∈o.after,Region.binds .any e=true→e.on∈pre:=fun e he hb=>by
     rw [ho] at w1
     simp only at w1
     rw [← Array.all_toList] at w1
     have:=(List.all_eq_true.1 w1) e (Array.mem_toList_iff.2 he)
     simpa [hb] using this
    rw [e2,hw,if_pos rfl]
    refine .inl ((hG w hT).wp e1 fun u w' ⟨hu,hRu,_⟩=>?_)
    subst hu
    rw [List.cons_append] at hI
    obtain ⟨pre',stl',post',V',as',last',g1,g2,g3,g4,g5,g6,g7⟩:=ordF_norm (K:=OrdK Q) hD hn r (i :: pre) stl _ _ (some i) (hI.took hD hn ho hw hedge hall (fun _ h=>h) u) hR w4 x4 fun d hd=>by cases hd; exact List.mem_cons_self ..
    have hsub:∀ x∈post'.map (·.1),x≠c∧∀ o,ops[x]? = some o→∀ e∈o.after,Region.binds .any e=true→e.on≠c:=fun x hm=>hx x (List.mem_cons_of_mem _ (g7 x hm))
    exact ih (U.erase i) pre' stl' post' V' as' last' _ _ w' g1 g2 hsub g3 g4 g5 g6 (hU.erase _) hUc' hlen hRu
   ·-- c comes up
    rw [hF.op] at ho
    cases ho
    obtain ⟨hw,D,hG,hO2⟩:=ordF_up hD hF post as hx hO
    rw [e2,hw,if_pos rfl]
    refine .inl ((hG w hT).wp e1 fun u w' ⟨hu,hTw,hMw⟩=>?_)
    have hI':OI P ops a0 pre stl ((i,1) :: (post++σ2)) V as T listed a:=hI.perm (by
     simp only [List.map_append,List.map_cons]
     exact List.perm_middle)
    have hI2:=hI'.took hD hn hF.op hw (fun e he hb=>by rw [hF.free e he] at hb; cases hb) hall (R:=fun w=>T w∧M u w) (fun _ h=>h.1) u
    obtain ⟨pre',stl',post',V',as',last',g1,g2,g3,g4,g5⟩:=ord_norm (K:=OrdK Q) hD hn (post++σ2) (i :: pre) stl _ _ last hI2 (hO2 u hu) hX fun d hd=>List.mem_cons_of_mem _ (hl d hd)
    exact ord_go hD hn fuel (U.erase i) pre' stl' post' V' as' _ last' _ _ w' g1 g2 g3 g4 g5 (hU.erase _) hUc' hlen ⟨hTw,hMw⟩
   ·-- what waits for c
    have:=reach_listed' hI.cl f i o ho hall (h2 i hip)
    rw [hlc] at this
    cases this
def ordFB (ops:Array Oper) (f c:Nat) (σ1 σ2:List (Nat×Nat)):Bool :=
 ordW ops f σ1 [] [] none && ordW ops f (σ1++σ2) [c] [] none && (σ2.all fun x=>reach ops f x.1 c) && (match ops[c]? with | none=>false | some o=>o.after.all fun e => !Region.binds .any e) &&
 σ1.all fun x=>x.1 != c && (match ops[x.1]? with | none=>false | some o=>o.after.all fun e => !Region.binds .any e || e.on != c)
theorem wp_region_ordF {id:Nat} {w:World} (σ1:List (Nat×Nat)) (c:Nat) (σ2:List (Nat×Nat)) (f:Nat) (M:Value→World→Prop) (T:World→Prop) (hmx:P.follows .mixedOrders=true) (hB:ordB ops f ((c,4) :: (σ1++σ2)) a0.tmps.size=true) (hB2:ordFB ops f c σ1 σ2=true) (hT:T { w with drawn:=w.drawn+1 })
  (h:OrdF P ops (OrdK Q) c σ2 M T σ1 a0):(Code.region id ops true).wp P Q a0 w:=by
 obtain ⟨hD,hlen,hall,hW⟩:=ordB_ok hB
 obtain ⟨hnd,_,hisop⟩:=ordW_nd _ [] [] none hW
 unfold ordFB at hB2
 simp only [Bool.and_eq_true] at hB2
 obtain ⟨⟨⟨⟨b1,b2⟩,b3⟩,b4⟩,b5⟩:=hB2
 obtain ⟨oc,hoc,hF⟩:∃ oc,ops[c]? = some oc∧Floats ops c oc:=by
  cases hoc:ops[c]? with
  | none=>rw [hoc] at b4; cases b4
  | some oc =>
   rw [hoc] at b4
   simp only [← Array.all_toList,List.all_eq_true] at b4
   exact ⟨oc,rfl,hoc,fun e he=>by simpa using b4 e (Array.mem_toList_iff.2 he)⟩
 have hx:∀ x∈σ1.map (·.1),x≠c∧∀ o,ops[x]? = some o→∀ e∈o.after,Region.binds .any e=true→e.on≠c:=fun x hx=>by
  obtain ⟨y,hy,rfl⟩:=List.mem_map.1 hx
  have:=(List.all_eq_true.1 b5) y hy
  simp only [Bool.and_eq_true,bne_iff_ne,ne_eq] at this
  refine ⟨this.1,fun o ho e he hb=>?_⟩
  have h2:=this.2
  rw [ho] at h2
  simp only [← Array.all_toList,List.all_eq_true] at h2
  have:=h2 e (Array.mem_toList_iff.2 he)
  simpa [hb] using this
 have h2:∀ x∈σ2.map (·.1),reach ops f x c=true:=fun x hx=>by
  obtain ⟨y,hy,rfl⟩:=List.mem_map.1 hx
  exact (List.all_eq_true.1 b3) y hy
 have hI:OI P ops a0 [] [] ((c,4) :: (σ1++σ2)) (fun _=>undef) a0 T (Array.replicate ops.size false) a0:=by
  have hf:∀ i,(Array.replicate ops.size false).getD i false=false:=fun i=>by
   rw [Array.getD_eq_getD_getElem?,Array.getElem?_replicate]
   split <;> rfl
  refine ⟨by simp,fun i hi=>.inr (hall i hi),by simpa using hnd,fun i _=>hf i,?_,trivial,?_,fun _ _=>rfl,rfl,rfl,?_,fun _ _=>rfl,rfl,rfl,?_,?_,?_⟩
  ·intro i o hi; rw [hf] at hi; cases hi
  ·intro i hi; cases hi
  ·intro i hi; rw [hf] at hi; cases hi
  ·intro i hi; cases hi
  ·intro i hi
   rcases hi with h | h
   ·cases h
   ·exact hisop i h
  ·intro i hi; cases hi
 have hI2:=hI.perm (post':=σ1++(c,1) :: σ2) (by
  simp only [List.map_append,List.map_cons]
  exact List.perm_middle.symm)
 obtain ⟨pre',stl',post',V',as',last',g1,g2,g3,g4,g5,g6,g7⟩:=ordF_norm (K:=OrdK Q) hD (Nat.le_refl _) σ1 [] _ _ _ none hI2 h b1 b2 fun d hd=>by cases hd
 exact wp_region_any hmx (ordF_go hD (Nat.le_refl _) hF h2 ops.size (List.range ops.size) pre' stl' post' V' as' last' _ _ _ g1 g2 (fun x hm=>hx x (g7 x hm)) g3 g4 g5 g6 List.nodup_range (fun i hi _=>List.mem_range.2 hi) (by simp) hT)
section
variable {i:Nat} {r:List (Nat×Nat)} {a:Act} {o:Oper}
theorem OrdF.pure (v:Value) (ho:ops[i]? = some o) (hw:Region.wanted o (yielded ops a.tmps)=true) (h:∀ w,T w→(execOp a.eval o).run P w=.ok (.value v) w) (hr:OrdF P ops K c σ2 M T r (a.put o.dst v)):OrdF P ops K c σ2 M T ((i,0) :: r) a:=by
 unfold OrdF
 exact ⟨o,ho,by rw [if_pos (.inl rfl)]; exact .inl ⟨hw,v,fun w hT=>h w (hT.resolve_right (by decide)),hr⟩⟩
theorem OrdF.still (v:Value) (ho:ops[i]? = some o) (hw:Region.wanted o (yielded ops a.tmps)=true) (h:∀ w,(execOp a.eval o).run P w=.ok (.value v) w) (hr:OrdF P ops K c σ2 M T r (a.put o.dst v)):OrdF P ops K c σ2 M T ((i,4) :: r) a:=by
 unfold OrdF
 exact ⟨o,ho,by rw [if_pos (.inr rfl)]; exact .inl ⟨hw,v,fun w _=>h w,hr⟩⟩
theorem OrdF.det (v:Value) (ho:ops[i]? = some o) (hw:Region.wanted o (yielded ops a.tmps)=true) (h:∀ w,T w→Gives P o a w fun u w'=>u=v∧T w'∧∀ z,M z w→M z w') (hr:OrdF P ops K c σ2 M T r (a.put o.dst v)):OrdF P ops K c σ2 M T ((i,1) :: r) a:=by
 unfold OrdF
 exact ⟨o,ho,by rw [if_neg (by decide)]; exact ⟨hw,v,h,hr⟩⟩
theorem OrdF.land (D:Value→Prop) (ho:ops[c]? = some o) (hw:Region.wanted o (yielded ops a.tmps)=true) (h:∀ w,T w→Gives P o a w fun u w'=>D u∧T w'∧M u w') (hr:∀ u,D u→Ord P ops K σ2 (fun w=>T w∧M u w) (a.put o.dst u)):OrdF P ops K c σ2 M T [] a:=by
 unfold OrdF
 exact ⟨o,ho,hw,D,h,hr⟩
end
end
end Go.Vm
namespace Go.Vm
variable {P:Program} {e:Env} {N:Nat} {fr:Fr} {Q:Exit→Act→World→Prop}
theorem T_rn {fn:Func} (fr':Fr) (ts:List Nat) (cs:List Co) {res:AV} {vout:List AV} (hv:voutOk fr' virtBase vout) (a:Act) (w:World) (hm:MemA e [] N fr a w)
  (hts:tmpsOf fn.results.toList=some ts:=by kernel_rfl) (h:coAll cs fr=some fr':=by kernel_rfl) (hNr:decide (N≤resSlot)=true:=by kernel_rfl) (ho:resOk N fr' ts=true:=by kernel_rfl) (hres:resAV fr' ts=res:=by show _=_; kernel_rfl):RPost P fn e res vout .ret a w :=
 T_return ts hts cs h hNr ho hres hv a w hm
theorem tr {p:Prop}:p→True:=fun _=>trivial
theorem T_rg {id:Nat} {ops:Array Oper} (hs:List (Nat×Hint)) (keep:List Nat) (d:Fr) (obs:List (Nat×Prop)) (n:Nat) {k:Code} (ho:Owed obs) (hk:T P e N k (updF keep d fr) Q) (h:runR P N ops hs keep [] fr=some (updF keep d fr,owed obs n):=by kernel_rfl):T P e N (.seq (.region id ops false) k) fr Q :=
 T_reg hs keep d obs n h ho hk
theorem T_r0 {id:Nat} {ops:Array Oper} (hs:List (Nat×Hint)) (keep:List Nat) (d:Fr) (n:Nat) {k:Code} (hk:T P e N k (updF keep d fr) Q) (h:runR P N ops hs keep [] fr=some (updF keep d fr,owed [] n):=by kernel_rfl):T P e N (.seq (.region id ops false) k) fr Q :=
 T_reg hs keep d [] n h trivial hk
theorem T_cd {c:Operand} {x y:Code} (b:Bool) (ht:b=true→T P e N x fr Q) (hf:b=false→T P e N y fr Q) (hc:oval N [] fr c=.d (.v (.bool b)):=by kernel_rfl):T P e N (.cond c x y) fr Q:=T_cond b hc ht hf
end Go.Vm
namespace Go.Vm
structure It where
 k:Nat
 h:Hint
 p:Prop
 full:Bool
 ok:p
def hsI:List It→List (Nat×Hint)
 | []=>[]
 | i :: r=>(i.k,i.h) :: hsI r
def gd1 (ops:Array Oper) (i:Nat) (G:GEnv):Option Bool:=match ops[i]? with
 | some o=>match chainOf ops G o with
  | some (q :: g)=>some (condG G (q :: g))
  | _=>none
 | none=>none
def gdL (P:Program) (N:Nat) (ops:Array Oper) (hs:List (Nat×Hint)):List Nat→GEnv→Fr→List (Option Bool)
 | [],_,_=>[]
 | i :: r,G,fr=>match step1 P N ops i (hintAt hs i) G fr with
  | some (G',fr',_)=>gd1 ops i G :: gdL P N ops hs r G' fr'
  | none=>[]
def pfx (g:Option Bool) (p:Prop):Prop:=match g with
 | none=>p
 | some b=>b=true→p
theorem pfx_ok {p:Prop} (h:p):∀ g,pfx g p
 | none=>h
 | some _=>fun _=>h
def obI:List (Option Bool)→Nat→List It→List Prop
 | [],_,_=>[]
 | g :: gs,j,[]=>pfx g True :: obI gs (j+1) []
 | g :: gs,j,i :: r=>bif i.k == j then (bif i.full then i.p else pfx g i.p) :: obI gs (j+1) r else pfx g True :: obI gs (j+1) (i :: r)
theorem obI_all:∀ (gs:List (Option Bool)) (j:Nat) (l:List It),AllP (obI gs j l)
 | [],_,_=>trivial
 | g :: gs,j,[]=>⟨pfx_ok trivial g,obI_all gs _ _⟩
 | g :: gs,j,i :: r=>by
  simp only [obI]
  cases i.k == j
  ·exact ⟨pfx_ok trivial g,obI_all gs _ _⟩
  ·refine ⟨?_,obI_all gs _ _⟩
   cases i.full
   ·exact pfx_ok i.ok g
   ·exact i.ok
def iC (k:Nat) (xs:List Nat) {P:Program} {K:Nat} {args vin vout:List AV} {res:AV} (c:ACall P K args vin res vout):It:=⟨k,{ res:=res,vout:=vout,xs:=xs },_,false,c⟩
def iD (k:Nat) (xs:List Nat) {P:Program} {K:Nat} {args vin vout:List AV} {res:AV} {b:Bool} (c:b=true→ACall P K args vin res vout):It:=⟨k,{ res:=res,vout:=vout,xs:=xs },_,true,c⟩
def iW (k:Nat) {q:Prop} {x y:AV} (c:q∧x=y):It:=⟨k,{ rw:=some y },_,false,c⟩
def iB (k:Nat) {x y:Bool} (c:x=y):It:=⟨k,{ rw:=some (aB y) },True∧aB x=aB y,false,⟨trivial,c ▸ rfl⟩⟩
def iN (k:Nat) {x y:Int} (c:x=y):It:=⟨k,{ rw:=some (aI .i64 y) },True∧aI .i64 x=aI .i64 y,false,⟨trivial,c ▸ rfl⟩⟩
def iI (k:Nat) {q:Prop} {l:List (List Dat)} {i:Nat} {x:List Dat} (c:q∧l[i]? = some x):It:=⟨k,{ cs:=x },_,false,c⟩
def iE (k:Nat) {q:Prop} {x y:List (List Dat)} (c:q∧x=y):It:=⟨k,{ es:=some y },_,false,c⟩
def iR (k:Nat) (x:List (List Dat)):It:=⟨k,{ es:=some x },x=x,false,rfl⟩
def iP (k:Nat) {p:Prop} (c:p):It:=⟨k,{},p,false,c⟩
def iX (k:Nat) (h:Hint) {p:Prop} (c:p):It:=⟨k,h,p,false,c⟩
def iF (k:Nat) (h:Hint) {p:Prop} (c:p):It:=⟨k,h,p,true,c⟩
def iH (k:Nat) (h:Hint):It:=⟨k,h,True,false,trivial⟩
section
variable {P:Program} {e:Env} {N:Nat} {fr:Fr} {Q:Exit→Act→World→Prop}
def frR (P:Program) (N:Nat) (ops:Array Oper) (hs:List (Nat×Hint)) (keep:List Nat) (fr:Fr):Fr:=match runR P N ops hs keep [] fr with
 | some x=>x.1
 | none=>[]
theorem frR_eq {ops:Array Oper} {hs:List (Nat×Hint)} {keep:List Nat} {ob:List Prop} (h:(runR P N ops hs keep [] fr).map Prod.snd=some ob):runR P N ops hs keep [] fr=some (frR P N ops hs keep fr,ob):=by
 unfold frR
 cases hx:runR P N ops hs keep [] fr with
 | none=>rw [hx] at h; cases h
 | some x=>rw [hx] at h; cases h; rfl
theorem tR {id:Nat} {ops:Array Oper} (l:List It) (keep:List Nat) {k:Code} (hk:T P e N k (frR P N ops (hsI l) keep fr) Q) (h:(runR P N ops (hsI l) keep [] fr).map Prod.snd=some (obI (gdL P N ops (hsI l) (List.range ops.size) [] fr) 0 l):=by kernel_rfl):T P e N (.seq (.region id ops false) k) fr Q :=
 fun _ _ hm=>wp_seq (wp_runR (frR_eq h) (obI_all _ _ _) hm fun a' w' hm'=>hk a' w' hm')
theorem tRe {id:Nat} {ops:Array Oper} (l:List It) (keep:List Nat) (hk:∀ a w,MemA e [] N (frR P N ops (hsI l) keep fr) a w→Q .normal a w) (h:(runR P N ops (hsI l) keep [] fr).map Prod.snd=some (obI (gdL P N ops (hsI l) (List.range ops.size) [] fr) 0 l):=by kernel_rfl):T P e N (.region id ops false) fr Q :=
 fun _ _ hm=>wp_runR (frR_eq h) (obI_all _ _ _) hm hk
theorem tC {α:Type} {c:Operand} {x y:Code} {b:Bool} {u v:Option α} {r:α} (h:(bif b then u else v)=some r) (ht:b=true→u=some r→T P e N x fr Q) (hf:b=false→v=some r→T P e N y fr Q) (hc:oval N [] fr c=.d (.v (.bool b)):=by kernel_rfl):T P e N (.cond c x y) fr Q :=
 T_cond b hc (fun hb=>ht hb (cond_tt hb h)) fun hb=>hf hb (cond_ff hb h)
theorem tJ (cs:List Co) {fr':Fr} {K:Act→World→Prop} (hq:∀ a w,MemA e [] N fr' a w→K a w:=by intro a w h; repeat' (first | with_reducible exact h | refine then_norm ?_ | refine then_exit ?_ | refine then_ret ?_ | refine inBlock_norm ?_ | refine inBlock_exit ?_ | refine inBlock_ret ?_ | refine inBlock_pass rfl ?_ | exact h)) (h:coAll cs fr=some fr':=by show _=_; kernel_rfl):∀ a w,MemA e [] N fr a w→K a w :=
 fun a w hm=>hq a w (hm.co h)
theorem tE {ι:Type} (cs:List Co) (i:ι) {p:Prop} (hp:p) {R:ι→Prop} {I:ι→Fr} {K:Act→World→Prop} (hq:∀ a w,(∃ j,R j∧MemA e [] N (I j) a w)→K a w:=by intro a w h; repeat' (first | with_reducible exact h | refine then_norm ?_ | refine then_exit ?_ | refine then_ret ?_ | refine inBlock_norm ?_ | refine inBlock_exit ?_ | refine inBlock_ret ?_ | refine inBlock_pass rfl ?_ | exact h)) (hR:p→R i:=by exact fun h=>h) (h:coAll cs fr=some (I i):=by show _=_; kernel_rfl):∀ a w,MemA e [] N fr a w→K a w :=
 fun a w hm=>hq a w ⟨i,hR hp,hm.co h⟩
theorem tG {σ ε:Type} (cs:List Co) {s:σ} {I:σ→Fr} {K:Act→World→Prop} (hq:∀ a w,(∃ j,(Out.go s:Out σ ε)=.go j∧MemA e [] N (I j) a w)→K a w:=by intro a w h; repeat' (first | with_reducible exact h | refine then_norm ?_ | refine then_exit ?_ | refine then_ret ?_ | refine inBlock_norm ?_ | refine inBlock_exit ?_ | refine inBlock_ret ?_ | refine inBlock_pass rfl ?_ | exact h)) (h:coAll cs fr=some (I s):=by show _=_; kernel_rfl):∀ a w,MemA e [] N fr a w→K a w :=
 fun a w hm=>hq a w ⟨s,rfl,hm.co h⟩
theorem tS {z:Code} {Q':Exit→Act→World→Prop} {K:Act→World→Prop} (hk:T P e N z fr Q') (hq:∀ a w,z.wp P Q' a w→K a w:=by intro a w h; repeat' (first | with_reducible exact h | refine then_norm ?_ | refine then_exit ?_ | refine then_ret ?_ | refine inBlock_norm ?_ | refine inBlock_exit ?_ | refine inBlock_ret ?_ | refine inBlock_pass rfl ?_ | exact h)):∀ a w,MemA e [] N fr a w→K a w :=
 fun a w hm=>hq a w (hk a w hm)
def voutG (fr:Fr):Nat→Nat→List AV
 | _,0=>[]
 | i,n+1=>fget fr i :: voutG fr (i+1) n
theorem voutG_ok {fr:Fr}:∀ (vout:List AV) (i:Nat),voutG fr i vout.length=vout→vout.all AV.backOkC=true→voutOk fr i vout
 | [],_,_,_=>trivial
 | a :: r,i,h,hb=>by
  simp only [List.length_cons,voutG,List.cons.injEq] at h
  simp only [List.all_cons,Bool.and_eq_true] at hb
  exact ⟨⟨h.1,hb.1⟩,voutG_ok r (i+1) h.2 hb.2⟩
def rsF (P:Program) (N:Nat) (fn:Func) (cs:List Co) (fr:Fr):Option (List Nat×Nat×Fr):=match coAll cs fr with
 | some f=>cellsOf P N fn.results.toList N f
 | none=>none
theorem tqc {fn:Func} {res:AV} {vout:List AV} {K:Act→World→Prop} (cs:List Co) (hq:∀ a w,RPost P fn e res vout .ret a w→K a w:=by intro a w h; repeat' (first | with_reducible exact h | refine then_norm ?_ | refine then_exit ?_ | refine then_ret ?_ | refine inBlock_norm ?_ | refine inBlock_exit ?_ | refine inBlock_ret ?_ | refine inBlock_pass rfl ?_ | exact h))
  (h1:((rsF P N fn cs fr).any fun x=>decide (x.2.1≤resSlot) && resOk x.2.1 x.2.2 x.1 && vout.all AV.backOkC)=true:=by kernel_rfl) (h2:(rsF P N fn cs fr).map (fun x=>(resAV x.2.2 x.1,voutG x.2.2 virtBase vout.length))=some (res,vout):=by show _=_; kernel_rfl):∀ a w,MemA e [] N fr a w→K a w:=by
 intro a w hm
 refine hq a w ?_
 unfold rsF at h1 h2
 cases hc:coAll cs fr with
 | none=>rw [hc] at h1; cases h1
 | some f =>
  simp only [hc] at h1 h2
  cases hx:cellsOf P N fn.results.toList N f with
  | none=>rw [hx] at h1; cases h1
  | some x =>
   obtain ⟨ts,N',fr2⟩:=x
   simp only [hx,Option.any_some,Bool.and_eq_true,decide_eq_true_eq,Option.map_some,Option.some.injEq,Prod.mk.injEq] at h1 h2
   exact T_returnC _ hc hx (decide_eq_true h1.1.1) h1.1.2 h2.1 (voutG_ok _ _ h2.2 h1.2) a w hm
theorem tq {fn:Func} {res:AV} {vout:List AV} {K:Act→World→Prop} (keep:List Nat) (hq:∀ a w,RPost P fn e res vout .ret a w→K a w:=by intro a w h; repeat' (first | with_reducible exact h | refine then_norm ?_ | refine then_exit ?_ | refine then_ret ?_ | refine inBlock_norm ?_ | refine inBlock_exit ?_ | refine inBlock_ret ?_ | refine inBlock_pass rfl ?_ | exact h))
  (h1:((rsF P N fn [.keep keep] fr).any fun x=>decide (x.2.1≤resSlot) && resOk x.2.1 x.2.2 x.1 && vout.all AV.backOkC)=true:=by kernel_rfl) (h2:(rsF P N fn [.keep keep] fr).map (fun x=>(resAV x.2.2 x.1,voutG x.2.2 virtBase vout.length))=some (res,vout):=by show _=_; kernel_rfl):∀ a w,MemA e [] N fr a w→K a w :=
 tqc _ hq h1 h2
def coF (cs:List Co) (fr:Fr):Fr:=match coAll cs fr with
 | some f=>f
 | none=>[]
theorem tL1 {α σ:Type} {s:σ} {body:Code} (L:Nat→α→Option σ) (cs:List Co) (kp:List Nat) (d:α→Fr) (n:Nat) (i:α) (h:L n i=some s) (rd:∀ n i,L (n+1) i=some s→T P e N body (updF kp (d i) (coF cs fr)) (Exit.then (fun a w=>∃ j,L n j=some s∧MemA e [] N (updF kp (d j) (coF cs fr)) a w) Q)) (h0:∀ i,L 0 i=none:=by exact fun _=>rfl) (hc:coAll cs fr=some (updF kp (d i) (coF cs fr)):=by show _=_; kernel_rfl):T P e N (.loop body) fr Q :=
 T_co cs _ hc (T_loopF (fun p=>updF kp (d p) (coF cs fr)) (fun n p=>L n p=some s) (fun i hh=>by rw [h0] at hh; cases hh) rd n i h)
theorem tL2 {α β σ:Type} {s:σ} {body:Code} (L:Nat→α→β→Option σ) (cs:List Co) (kp:List Nat) (d:α→β→Fr) (n:Nat) (i:α) (j:β) (h:L n i j=some s) (rd:∀ n i j,L (n+1) i j=some s→T P e N body (updF kp (d i j) (coF cs fr)) (Exit.then (fun a w=>∃ j:α×β,L n j.1 j.2=some s∧MemA e [] N (updF kp (d j.1 j.2) (coF cs fr)) a w) Q)) (h0:∀ i j,L 0 i j=none:=by exact fun _ _=>rfl) (hc:coAll cs fr=some (updF kp (d i j) (coF cs fr)):=by show _=_; kernel_rfl):T P e N (.loop body) fr Q :=
 T_co cs _ hc (T_loopF (fun p=>updF kp (d p.1 p.2) (coF cs fr)) (fun n p=>L n p.1 p.2=some s) (fun i hh=>by rw [h0] at hh; cases hh) (fun n p=>rd n p.1 p.2) n (i,j) h)
theorem jc {σ ρ:Type} {m:Option σ} {k:σ→Option ρ} {r:ρ} (h:call m k=some r) (kp:List Nat) (d:σ→Fr) {x z:Code} (hx:∀ s,m=some s→T P e N x fr (Exit.then (fun a w=>MemA e [] N (updF kp (d s) fr) a w) Q)) (hz:∀ s,k s=some r→T P e N z (updF kp (d s) fr) Q):T P e N (.seq x z) fr Q :=
 T_joinc h (fun s=>updF kp (d s) fr) hx hz
theorem jct {σ ρ:Type} {m:Option σ} {k:σ→Option ρ} {r:ρ} (h:call m k=some r) (kp:List Nat) (d:σ→Fr) {x:Code} (hx:∀ s,m=some s→T P e N x fr (Exit.then (fun a w=>MemA e [] N (updF kp (d s) fr) a w) Q)) (hz:∀ s,k s=some r→∀ a w,MemA e [] N (updF kp (d s) fr) a w→Q .normal a w):T P e N x fr Q :=
 T_joinct h (fun s=>updF kp (d s) fr) hx hz
theorem jE {σ ε ρ:Type} {m:Option (Out σ ε)} {kr:ε→Option ρ} {k:σ→Option ρ} {r:ρ} (h:callE m kr k=some r) (kp:List Nat) (d:σ→Fr) {x z:Code} (hx:∀ o,m=some o→callE (some o) kr k=some r→T P e N x fr (Exit.then (fun a w=>∃ s,o=.go s∧MemA e [] N (updF kp (d s) fr) a w) Q)) (hz:∀ s,k s=some r→T P e N z (updF kp (d s) fr) Q):T P e N (.seq x z) fr Q :=
 T_joinE h (fun s=>updF kp (d s) fr) hx hz
theorem jEt {σ ε ρ:Type} {m:Option (Out σ ε)} {kr:ε→Option ρ} {k:σ→Option ρ} {r:ρ} (h:callE m kr k=some r) (kp:List Nat) (d:σ→Fr) {x:Code} (hx:∀ o,m=some o→callE (some o) kr k=some r→T P e N x fr (Exit.then (fun a w=>∃ s,o=.go s∧MemA e [] N (updF kp (d s) fr) a w) Q)) (hz:∀ s,k s=some r→∀ a w,MemA e [] N (updF kp (d s) fr) a w→Q .normal a w):T P e N x fr Q :=
 T_joinEt h (fun s=>updF kp (d s) fr) hx hz
end
end Go.Vm
