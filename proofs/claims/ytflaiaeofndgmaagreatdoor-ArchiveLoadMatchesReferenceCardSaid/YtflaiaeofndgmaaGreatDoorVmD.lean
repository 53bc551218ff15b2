/-
  THE V-MACHINE,text D: VmGlob,VmShelf,VmGlobs,VmBits,VmUpto,VmTake,VmLend,VmRow,VmSort,VmSort2,VmIns,VmIns2,VmCalls.
-/
import Derived.Test.YtflaiaeofndgmaaGreatDoorVmC
import Derived.LaidMore
import Derived.MakeChecks
import Derived.OpenShut
import Derived.Lib.LaidTab
import Derived.Below
import Derived.JoinedCond
import Derived.Lib.SliceRun
import Derived.Sort.Row
import Derived.Sort.Grow
import Derived.Sort.EncStr
import Derived.Lib.SlicesCompact
import Derived.Laws.IdiomCopy
import Derived.Lib.AppendZerosOnto
namespace Go.Vm
open Go.ChangeShapes Go.RowKit Go.WideShapes Go.ChangeAt Go.WideMaps Go.WideElems
theorem laid_ints {P:Program} {W:World} {nm:String} {g:Nat} {t e:TypeId} {n:Nat} {k:IntKind} {l:List Int} (hg:P.globalNamed nm=some g) (hty:(P.globals[g]?).map (·.type)=some t) (ht:P.underlying t=some (.array n e)) (he:P.underlying e=some (.int k)) (h1:P.cellsOf e=1) (hts:P.cellsOf t=n) (hn:l.length=n)
  (h:laidMet P [(nm,.agg (l.map fun i=>.lit (.int k i)))] W):GloAt (allS W) W g (l.flatMap (cI k)):=by
 obtain ⟨ps,⟨g0,t0,cs0,f0,p0,q0,hg0,ht0,hv0,hd0,_,_⟩,_,_⟩:=h
 obtain rfl:=Option.some.inj (hg.symm.trans hg0)
 obtain rfl:=Option.some.inj (hty.symm.trans ht0)
 obtain ⟨xs,m,rfl,hx,hlen,hxl,hel⟩:=DataW.trod_array ht hd0
 simp only [Prod.mk.injEq,DataW.agg.injEq] at hx
 have hheap:∃ E fz,W.heap[g]? = some (.cells cs0 E fz):=by
  have hv:=hv0
  simp only [World.var?,hg,Option.bind_some] at hv
  split at hv
  ·rename_i c E fz hh
   cases hv
   exact ⟨E,fz,hh⟩
  ·cases hv
 obtain ⟨E,fz,hh⟩:=hheap
 have hfl:∀ (l:List Int),l.flatMap (cI k)=l.map fun i=>.v (.int k i):=by
  intro l
  induction l with
  | nil=>rfl
  | cons x l ih=>rw [List.flatMap_cons,ih]; rfl
 rw [hfl]
 have hsize:cs0.size=n:=by
  have h0:=hlen
  simp only [Array.length_toList,hts] at h0
  exact h0
 refine ⟨cs0,E,fz,heap_lt hh,hh,by rw [List.length_map,hn,hsize],RCs.of_get _ 0 fun j x hx'=>?_⟩
 rw [List.getElem?_map,Option.map_eq_some_iff] at hx'
 obtain ⟨i,hi,rfl⟩:=hx'
 have hjl:j < l.length:=(List.getElem?_eq_some_iff.1 hi).1
 have hj:=hel j (by omega)
 rw [List.getElem?_eq_getElem (by omega),h1,Nat.mul_one] at hj
 obtain ⟨a,ha1,ha2,_⟩:=DataW.trod_int he hj
 have hxj:(xs.map (·.1))[j]? = (l.map fun i=>(DataW.lit (.int k i):DataW Unit))[j]? := by rw [hx.1]
 rw [List.getElem?_map,List.getElem?_map,hi,List.getElem?_eq_getElem (show j < xs.length by omega),ha2] at hxj
 simp only [Option.map_some,Option.some.injEq,DataW.lit.injEq,Lit.int.injEq,true_and] at hxj
 subst hxj
 have hc:cs0[j]? = some (.int k a):=by
  have:=congrArg (fun l:List Value=>l[0]?) ha1
  simpa [List.getElem?_take,List.getElem?_drop] using this
 exact ⟨_,by simpa using hc,by unfold RD; exact ⟨rfl,rfl⟩⟩
end Go.Vm
namespace Go.Vm
open Go.RowKit
section
variable {P:Program} {S:Nat→Prop} {w:World}
theorem TabIs.of_glo {nm:String} {g:Nat} {k:IntKind} {zs:List Int} (hg:P.globalNamed nm=some g) (h:GloAt S w g (zs.flatMap (cI k))):Lib.TabIs P w nm k zs:=by
 obtain ⟨arr,E,fz,_,h2,h3,h4⟩:=h
 have hfl:∀ (l:List Int),l.flatMap (cI k)=l.map fun i=>.v (.int k i):=by
  intro l
  induction l with
  | nil=>rfl
  | cons x l ih=>rw [List.flatMap_cons,ih]; rfl
 rw [hfl] at h3 h4
 have ha:arr=(zs.map fun z=>Value.int k z).toArray:=by
  apply Array.ext'
  apply List.ext_getElem?
  intro j
  rcases Nat.lt_or_ge j zs.length with hj | hj
  ·obtain ⟨u,hu,hr⟩:=RCs.get _ 0 j (.v (.int k zs[j])) h4 (by simp [hj])
   rw [Nat.zero_add] at hu
   have e:u=Value.int k zs[j]:=hr.1
   subst e
   rw [Array.getElem?_toList,hu,List.getElem?_map,List.getElem?_eq_getElem hj]
   rfl
  ·rw [List.getElem?_eq_none (by simpa [h3] using hj),List.getElem?_eq_none (by simpa using hj)]
 simp only [Lib.TabIs,World.var?,hg,Option.bind_some,h2,ha]
theorem flatR_ok {S':Nat→Prop} {w':World} {a:AV} {u:Value} (h:flatR a=some u) {g:List (Nat×Bool)→Bool} {β:Path→Value} {x:Nat} {v:Value} (hr:RSlot g S' w' β x a v):v=u:=by
 unfold flatR at h
 split at h
 ·rename_i vs
  simp only [Option.map_eq_some_iff] at h
  obtain ⟨us,hus,rfl⟩:=h
  obtain ⟨h1,h2⟩:=flatVs_get hus
  obtain ⟨l,rfl,_,hl⟩:=hr
  have:l=us:=by
   apply List.ext_getElem?
   intro j
   rcases Nat.lt_or_ge j vs.length with hj | hj
   ·have hv:vs[j]? = some vs[j]:=List.getElem?_eq_getElem hj
    obtain ⟨u',hu',hf⟩:=h2 j _ hv
    obtain ⟨c,hc,hrc⟩:=All2.get hl j _ hv
    rw [hc,hu',flatV_ok hf hrc]
   ·have:=All2.len hl
    rw [List.getElem?_eq_none (by omega),List.getElem?_eq_none (by omega)]
  rw [this]
 ·obtain ⟨_,_,_,h4⟩:=flatV_mk (S:=S') (w:=w') (β:=β) h (x,0)
  exact flatV_ok h ((flat_slot h4).1 hr)
theorem ACall.below {k:Nat} {args:List AV} {us:List Value} {res:AV} {u:Value} (h:ACall P k args [] res []) (hargs:flatVs args=some us) (hal:args.length < resSlot) (hres:flatR res=some u) (w:World) :
  Calls P k us.toArray w fun e w'=>e=.returned u∧Below w.heap.size w w':=by
 obtain ⟨h1,h2⟩:=flatVs_get hargs
 have hno:∀ y i,(fget (finFr args []) y).ownsAt i=false:=by
  intro y i
  rcases finFr_cases args [] y with hy | ⟨hy1,hy2⟩ | ⟨j,rfl⟩
  ·rw [fget_finFr_arg hy]
   have ha:args[y]? = some (args.getD y .junk):=by simp [List.getD_eq_getElem?_getD,List.getElem?_eq_getElem hy]
   obtain ⟨u',_,hv⟩:=h2 y _ ha
   obtain ⟨_,_,h3,h4⟩:=flatV_mk (S:=fun _=>True) (w:=w) (β:=fun _=>.bool false) hv (0,0)
   cases hj:(args.getD y .junk).ownsAt i with
   | false=>rfl
   | true =>
    have:=(flat_ownsAt h4 i hj).2
    rw [h3] at this; cases this
  ·rw [fget_finFr_none hy1 hy2]
   cases i <;> rfl
  ·rw [fget_finFr_virt hal,if_neg (by simp)]
   cases i <;> rfl
 have hm:Mem ⟨w,ownedBy (finFr args []) (fun _=>.bool false),fun _=>False,lentAt (fun _=>.bool false) ([]:List AV).length,[]⟩ [] (fun _=>False) (fun _=>.bool false) (finFr args []) (fun x=>(us[x]?).or (lentAt (fun _=>.bool false) ([]:List AV).length x)) w:=by
  refine ⟨fun x=>?_,fun x l a hx=>?_,fun x i y j b hx=>?_,fun x i b hx=>?_,fun b hb=>hb.elim,fun b hb=>hb.elim,fun _ _ _=>rfl,rfl,rfl,rfl,Nat.le_refl _⟩
  ·have hl:lentAt (fun _=>.bool false) ([]:List AV).length x=none:=by
    unfold lentAt
    rw [if_neg (by simp)]
   rcases finFr_cases args [] x with hy | ⟨hy1,hy2⟩ | ⟨j,rfl⟩
   ·rw [fget_finFr_arg hy]
    have ha:args[x]? = some (args.getD x .junk):=by simp [List.getD_eq_getElem?_getD,List.getElem?_eq_getElem hy]
    obtain ⟨u',hu',hv⟩:=h2 x _ ha
    obtain ⟨h5,_,_,h4⟩:=flatV_mk (S:=fun _=>False) (w:=w) (β:=fun _=>.bool false) hv (x,0)
    exact ⟨u',(flat_slot h4).2 h5,fun u0 h0=>by rw [hl,hu'] at h0; simpa using h0.symm⟩
   ·rw [fget_finFr_none hy1 hy2]
    refine ⟨undef,trivial,fun u0 h0=>?_⟩
    rw [hl,List.getElem?_eq_none (by omega)] at h0
    cases h0
   ·rw [fget_finFr_virt hal,if_neg (by simp)]
    refine ⟨undef,trivial,fun u0 h0=>?_⟩
    rw [hl,List.getElem?_eq_none (by simp only [virtBase,resSlot] at *; omega)] at h0
    cases h0
  ·rcases finFr_cases args [] x with hy | ⟨hy1,hy2⟩ | ⟨j,rfl⟩
   ·rw [fget_finFr_arg hy] at hx
    have ha:args[x]? = some (args.getD x .junk):=by simp [List.getD_eq_getElem?_getD,List.getElem?_eq_getElem hy]
    obtain ⟨u',_,hv⟩:=h2 x _ ha
    rw [hx] at hv
    cases hv
   ·rw [fget_finFr_none hy1 hy2] at hx; cases hx
   ·rw [fget_finFr_virt hal,if_neg (by simp)] at hx; cases hx
  ·rw [hno] at hx; cases hx
  ·rw [hno] at hx; cases hx
 refine (h.2 w (fun _=>False) (fun _=>.bool false) us h1.symm hm).mono ?_
 rintro e w' ⟨v,S',β',rfl,hm'⟩
 have hv:v=u:=by
  obtain ⟨v0,hr,hu0⟩:=hm'.rel resSlot
  rw [fget_cons_self] at hr
  have e1:=hu0 v (by simp)
  subst e1
  exact flatR_ok hres hr
 subst hv
 refine ⟨rfl,⟨hm'.os,hm'.tape,hm'.output,hm'.size,fun b hb=>hm'.old b hb ?_⟩⟩
 rintro ⟨y,i,ho,_⟩
 rw [hno] at ho; cases ho
end
end Go.Vm
namespace Go.Vm
open Go.ChangeShapes Go.RowKit Go.WideShapes Go.ChangeAt Go.WideMaps Go.WideElems
abbrev Glos:=List (Nat×List Dat)
def gvs (gs:Glos):List AV:=gs.map fun g=>.glo g.1 g.2
def gbs (gs:Glos):Path→Value:=fun p=>match gs[p.1 - virtBase]? with
 | some g=>if virtBase≤p.1 then .pointer (some ⟨g.1,0,none⟩) else .bool false
 | none=>.bool false
theorem gbs_at {gs:Glos} {j:Nat} {g:Nat×List Dat} (h:gs[j]? = some g) (i:Nat):gbs gs (virtBase+j,i)=.pointer (some ⟨g.1,0,none⟩):=by
 simp [gbs,h]
theorem start_memGs {W:World} {args:List AV} {us:List Value} {gs:Glos} (hlen:us.length=args.length) (hn:args.length < resSlot) (hd:args.all AV.isData=true) (hr:All2 (fun _ a u=>RFlat (allS W) W (fun _=>.bool false) (0,0) a u) 0 args us)
  (hg:∀ g∈gs,GloAt (allS W) W g.1 g.2) :
  (∀ x i,(fget (finFr args (gvs gs)) x).ownsAt i=false)∧Mem ⟨W,ownedBy (finFr args (gvs gs)) (gbs gs),allS W,lentAt (gbs gs) (gvs gs).length,[]⟩ [] (allS W) (gbs gs) (finFr args (gvs gs)) (fun x=>(us[x]?).or (lentAt (gbs gs) (gvs gs).length x)) W:=by
 have hgl:(gvs gs).length=gs.length:=by simp [gvs]
 have hat:∀ x,(∃ a u,fget (finFr args (gvs gs)) x=a∧a.isData=true∧us[x]? = some u∧RFlat (allS W) W (fun _=>.bool false) (0,0) a u) ∨
   (∃ j g,x=virtBase+j∧gs[j]? = some g∧fget (finFr args (gvs gs)) x=.glo g.1 g.2∧us[x]? = none∧lentAt (gbs gs) (gvs gs).length x=some (.pointer (some ⟨g.1,0,none⟩))) ∨
   (fget (finFr args (gvs gs)) x=.junk∧us[x]? = none∧lentAt (gbs gs) (gvs gs).length x=none):=by
  intro x
  rcases finFr_cases args (gvs gs) x with h | ⟨h1,h2⟩ | ⟨j,rfl⟩
  ·left
   obtain ⟨u,hu,hru⟩:=All2.get hr x args[x] (by simp [h])
   refine ⟨args[x],u,?_,(List.all_eq_true.1 hd) _ (List.getElem_mem h),by simpa using hu,hru⟩
   rw [fget_finFr_arg h,List.getD_eq_getElem?_getD]
   simp [h]
  ·right; right
   refine ⟨fget_finFr_none h1 h2,by simp; omega,?_⟩
   unfold lentAt
   rw [if_neg (by omega)]
  ·right
   have hu:us[virtBase+j]? = none:=by
    rw [List.getElem?_eq_none]
    simp only [virtBase,resSlot] at *
    omega
   rcases Nat.lt_or_ge j gs.length with hj | hj
   ·left
    have hgj:gs[j]? = some gs[j]:=List.getElem?_eq_getElem hj
    refine ⟨j,gs[j],rfl,hgj,?_,hu,?_⟩
    ·rw [fget_finFr_virt hn,if_pos (by omega),List.getD_eq_getElem?_getD]
     simp [gvs,hj]
    ·unfold lentAt
     rw [if_pos ⟨by omega,by omega⟩,gbs_at hgj]
   ·right
    refine ⟨by rw [fget_finFr_virt hn,if_neg (by omega)],hu,?_⟩
    unfold lentAt
    rw [if_neg (by omega)]
 have hown:∀ x i,(fget (finFr args (gvs gs)) x).ownsAt i=false:=by
  intro x i
  rcases hat x with ⟨a,u,h1,h2,_,_⟩ | ⟨j,g,_,_,h1,_⟩ | ⟨h1,_,_⟩
  ·rw [h1]
   cases a <;> first | (cases i <;> rfl) | (simp [AV.isData] at h2)
  ·rw [h1]; cases i <;> rfl
  ·rw [h1]; cases i <;> rfl
 refine ⟨hown,fun x=>?_,fun x l a h=>?_,fun x i y j b h=>?_,fun x i b h=>?_,fun b hb=>⟨hb,.inl hb⟩,fun _ h=>h,fun _ _ _=>rfl,rfl,rfl,rfl,Nat.le_refl _⟩
 ·rcases hat x with ⟨a,u,h1,h2,h3,h4⟩ | ⟨j,g,rfl,hgj,h1,h2,h3⟩ | ⟨h1,h2,h3⟩
  ·refine ⟨u,?_,fun u' hu'=>by simp [h3] at hu'; exact hu'.symm⟩
   rw [h1]
   cases a with
   | d y=>exact (flat_slot rfl).2 h4
   | agg y=>exact (flat_slot rfl).2 h4
   | _=>simp [AV.isData] at h2
  ·refine ⟨.pointer (some ⟨g.1,0,none⟩),?_,fun u' hu'=>by
    simp only [h2,h3] at hu'
    simpa using hu'.symm⟩
   rw [h1]
   exact (flat_slot rfl).2 ⟨(gbs_at hgj 0).symm,rfl,hg g (List.mem_of_getElem? hgj)⟩
  ·refine ⟨undef,?_,fun u' hu'=>by
    simp only [h2,h3] at hu'
    cases hu'⟩
   rw [h1]
   exact (flat_slot rfl).2 trivial
 ·rcases hat x with ⟨a',u,h1,h2,_,_⟩ | ⟨_,_,_,_,h1,_⟩ | ⟨h1,_,_⟩
  ·rw [h] at h1
   subst h1
   simp [AV.isData] at h2
  ·rw [h] at h1; cases h1
  ·rw [h] at h1; cases h1
 ·rw [hown] at h; cases h
 ·rw [hown] at h; cases h
theorem laid_one {P:Program} {W:World} {nm:String} {d:DataW Unit}:∀ {lay:List (String×DataW Unit)},(nm,d)∈lay→laidMet P lay W→laidMet P [(nm,d)] W:=by
 intro lay hmem h
 obtain ⟨ps,h1,h2,h3⟩:=h
 have key:∀ {lay:List (String×DataW Unit)} {ps:List MemPlace},(nm,d)∈lay→DataW.LaidVars P W lay ps→∃ qs,DataW.LaidVars P W [(nm,d)] qs∧∃ ps1 ps2,ps=ps1++qs++ps2:=by
  intro lay
  induction lay with
  | nil=>intro ps hm _; cases hm
  | cons x lay ih =>
   intro ps hm hl
   obtain ⟨y,e⟩:=x
   obtain ⟨g0,t0,cs0,f0,p0,q0,a1,a2,a3,a4,a5,a6⟩:=hl
   rcases List.mem_cons.1 hm with he | hm
   ·simp only [Prod.mk.injEq] at he
    obtain ⟨rfl,rfl⟩:=he
    exact ⟨MemPlace.row ⟨g0,0,none⟩ cs0.size++p0++[],⟨g0,t0,cs0,f0,p0,[],a1,a2,a3,a4,rfl,rfl⟩,[],q0,by simp [a6]⟩
   ·obtain ⟨qs,h4,ps1,ps2,h5⟩:=ih hm a5
    exact ⟨qs,h4,MemPlace.row ⟨g0,0,none⟩ cs0.size++p0++ps1,ps2,by rw [a6,h5]; simp [List.append_assoc]⟩
 obtain ⟨qs,h4,ps1,ps2,rfl⟩:=key hmem h1
 refine ⟨qs,h4,?_,fun b off hb=>h3 b off (by simp [hb])⟩
 rw [List.append_assoc] at h2
 exact (List.nodup_append.1 (List.nodup_append.1 h2).2.1).1
end Go.Vm
namespace Go.Vm
abbrev B32:=BitVec 32
def nI (b:B32):Int:=(b.toNat:Int)
theorem wrap_u32 {x:Int} (h:0≤x∧x < 4294967296):IntKind.u32.wrap x=x:=by
 unfold IntKind.wrap
 simp [IntKind.bits,IntKind.signed]
 omega
theorem wrap_u8 {x:Int} (h:0≤x∧x < 256):IntKind.u8.wrap x=x:=by
 unfold IntKind.wrap
 simp [IntKind.bits,IntKind.signed]
 omega
theorem wrap_nI (b:B32):IntKind.u32.wrap ((BitVec.toNat b:Nat):Int)=nI b:=wrap_u32 ⟨by omega,by have:=b.isLt; omega⟩
theorem nI_lt (b:B32):0≤nI b∧nI b < 4294967296:=⟨by unfold nI; omega,by have:=b.isLt; unfold nI; omega⟩
theorem bv_nI (b:B32):(BitVec.ofInt IntKind.u32.bits (nI b):BitVec IntKind.u32.bits)=b:=by
 show BitVec.ofInt 32 (b.toNat:Int)=b
 simp
theorem nI_xor (a b:B32):IntKind.u32.wrap ((BitVec.ofInt IntKind.u32.bits (nI a) ^^^ BitVec.ofInt IntKind.u32.bits (nI b)).toNat:Int)=nI (a ^^^ b):=by
 rw [bv_nI,bv_nI]; exact wrap_nI _
theorem nI_and (a b:B32):IntKind.u32.wrap ((BitVec.ofInt IntKind.u32.bits (nI a) &&& BitVec.ofInt IntKind.u32.bits (nI b)).toNat:Int)=nI (a &&& b):=by
 rw [bv_nI,bv_nI]; exact wrap_nI _
theorem nI_shr (a:B32) (k:Nat) (hk:k≤32):(nI a).fdiv (2 ^ (min ((k:Nat):Int).toNat IntKind.u32.bits))=nI (a >>> k):=by
 have h1:min ((k:Nat):Int).toNat IntKind.u32.bits=k:=by
  show min k 32=k
  omega
 rw [h1]
 unfold nI
 rw [BitVec.toNat_ushiftRight,Nat.shiftRight_eq_div_pow,Int.fdiv_eq_ediv_of_nonneg _ (Int.le_of_lt (Int.pow_pos (by decide)))]
 simp
end Go.Vm
namespace Go.Vm
open Go.ChangeShapes Go.WideShapes Go.ChangeAt Go.WideMaps Go.WideElems Go.RowKit
section
variable {P:Program} {t:TypeId}
end
end Go.Vm
namespace Go.Vm
open Go.RowKit
section
variable {P:Program} {S:Nat→Prop} {β:Path→Value} {w:World}
abbrev ArgMem (args:List AV) (us:List Value) (S:Nat→Prop) (β:Path→Value) (w:World):Prop :=
 Mem ⟨w,ownedBy (finFr args []) β,S,lentAt β ([]:List AV).length,[]⟩ [] S β (finFr args []) (fun x=>(us[x]?).or (lentAt β ([]:List AV).length x)) w
theorem ArgMem.own {args:List AV} {us:List Value} (hm:ArgMem args us S β w) (hl:us.length=args.length) {i:Nat} {κ:TypeId} {sz:Nat} {es:List (List Dat)} (h:args[i]? = some (.own κ sz es)) :
  ∃ u,us[i]? = some u∧u=β (i,0)∧OwnAt S w u κ sz es∧∀ b,blk u=some b→ownedBy (finFr args []) β b∧¬ S b:=by
 have hi:i < args.length:=(List.getElem?_eq_some_iff.1 h).1
 obtain ⟨u0,hr,hu⟩:=hm.rel i
 have hf:fget (finFr args []) i=.own κ sz es:=by rw [fget_finFr_arg hi,List.getD_eq_getElem?_getD,h]; rfl
 rw [hf] at hr
 have hui:us[i]? = some us[i]:=List.getElem?_eq_getElem (by omega)
 have e:=hu us[i] (by simp [hui])
 refine ⟨us[i],hui,e.trans hr.1,by rw [e]; exact hr.2,fun b hb=>?_⟩
 have ho:(fget (finFr args []) i).ownsAt 0=true:=by rw [hf]; rfl
 have hb':blk (β (i,0))=some b:=by rw [← hr.1,← e]; exact hb
 exact ⟨⟨i,0,ho,hb'⟩,(hm.fre i 0 b ho hb').1⟩
theorem ArgMem.flat {args:List AV} {us:List Value} (hm:ArgMem args us S β w) (hl:us.length=args.length) {i:Nat} {x:Value} (h:args[i]? = some (.d (.v x))):us[i]? = some x:=by
 have hi:i < args.length:=(List.getElem?_eq_some_iff.1 h).1
 obtain ⟨u0,hr,hu⟩:=hm.rel i
 have hf:fget (finFr args []) i=.d (.v x):=by rw [fget_finFr_arg hi,List.getD_eq_getElem?_getD,h]; rfl
 rw [hf] at hr
 have hui:us[i]? = some us[i]:=List.getElem?_eq_getElem (by omega)
 have e:=hu us[i] (by simp [hui])
 have h0:u0=x:=hr.1
 rw [hui,e,h0]
theorem setCells_row (b:Nat) (E:TypeId) (fz:Nat×Nat):∀ (vs:List Value) (o:Nat) (arr:Array Value) (w:World),w.heap[b]? = some (.cells arr E fz)→o+vs.length≤arr.size →
  w.setCells b o vs=w.setRow b (spl o vs arr.toList).toArray
 | [],o,arr,w,hb,_=>by
  have e:spl o ([]:List Value) arr.toList=arr.toList:=by simp [spl]
  rw [World.setCells,e,Array.toArray_toList,setRow_self w b arr E fz hb]
 | v :: vs,o,arr,w,hb,hl=>by
  have hl':o+(vs.length+1)≤arr.size:=by simpa using hl
  have h1:w.setCell ⟨b,o,none⟩ v=w.setRow b (arr.setIfInBounds o v):=setCell_eq_setRow w b o arr E fz v hb
  rw [World.setCells,h1,setCells_row b E fz vs (o+1) (arr.setIfInBounds o v) _ (setRow_heap w b arr _ E fz hb) (by simp; omega),setRow_setRow]
  congr 2
  have e:=list_seg_step arr.toList o v vs (by simpa using hl)
  simpa [spl,Array.toList_setIfInBounds] using e
theorem row_cells {b off:Nat} {arr:Array Value} {E:TypeId} {fz:Nat×Nat} (hb:w.heap[b]? = some (.cells arr E fz)) (m:Nat):∀ t v,((arr.toList.drop off).take m)[t]? = some v→w.cell? ⟨b,off+t,none⟩=some v:=by
 intro t v hv
 rw [List.getElem?_take] at hv
 split at hv
 case isFalse=>cases hv
 rw [List.getElem?_drop] at hv
 simp only [World.cell?,hb,Option.isSome_none,Bool.false_eq_true,if_false]
 rw [← hv,Array.getElem?_toList]
theorem row_thaw {b:Nat} {arr:Array Value} {E:TypeId} {fz:Nat×Nat} (hb:w.heap[b]? = some (.cells arr E fz)) (hfz:FzOk fz arr.size) (o:Nat) (ho:o < arr.size):w.frozen? ⟨b,o,none⟩=false:=by
 simp only [World.frozen?,hb]
 have:=hfz.out o ho
 simp only [Bool.and_eq_false_iff,decide_eq_false_iff_not]
 omega
theorem REs.ones {g:Nat→Option Value} {sz:Nat} {es:List (List Dat)} {o:Nat} (h:REs S w sz es g o) (j:Nat) (hj:j < es.length * sz):∀ v,g (o+j)=some v→v.oneCell'=true:=by
 intro v hv
 have hsz:0 < sz:=by rcases Nat.eq_zero_or_pos sz with h0 | h0 <;> simp_all
 have hq:j / sz < es.length:=Nat.div_lt_of_lt_mul (by rwa [Nat.mul_comm])
 obtain ⟨h1,h2⟩:=REs.get es o (j / sz) _ h (List.getElem?_eq_getElem hq)
 have hr:j % sz < (es[j / sz]).length:=by rw [h1]; exact Nat.mod_lt _ hsz
 obtain ⟨u,hu,hrd⟩:=RCs.get _ _ (j % sz) _ h2 (List.getElem?_eq_getElem hr)
 have e:o+j / sz * sz+j % sz=o+j:=by
  have:=Nat.div_add_mod j sz
  rw [Nat.mul_comm] at this
  omega
 rw [e,hv] at hu
 cases hu
 exact RD_one _ _ hrd
theorem isSome_cells (b:Nat) (vs:List Value) (o:Nat) (w:World) (h:∀ j,j < vs.length→(w.cell? ⟨b,o+j,none⟩).isSome=true) (k:Nat) (hk:(w.cell? ⟨b,k,none⟩).isSome=true):((w.setCells b o vs).cell? ⟨b,k,none⟩).isSome=true:=by
 by_cases hin:o≤k∧k < o+vs.length
 ·have:=World.cell?_setCells_in b vs o w h (k - o) (by omega)
  rw [show o+(k - o)=k by omega] at this
  rw [this]
  rfl
 ·rw [World.cell?_setCells_out b vs o w ⟨b,k,none⟩ (fun _ _=>by show k < o∨o+vs.length≤k; omega)]
  exact hk
end
end Go.Vm
namespace Go.Vm
open Go.RowKit
section
variable {P:Program} {e:Env} {G:GEnv} {S:Nat→Prop} {β:Path→Value} {fr:Fr} {vals:Nat→Option Value} {w:World}
theorem Mem.more (hm:Mem e G S β fr vals w) {w':World} (hold:∀ b,b < w.heap.size→w'.heap[b]? = w.heap[b]?) (hsize:w.heap.size≤w'.heap.size) (hos:w'.os=w.os) (htape:w'.tape=w.tape) (hout:w'.output=w.output):Mem e G S β fr vals w':=by
 refine ⟨fun x=>?_,hm.gok,hm.dis,hm.fre,fun b hb=>⟨Nat.lt_of_lt_of_le (hm.stb b hb).1 hsize,(hm.stb b hb).2⟩,hm.s0,fun b h1 h2=>(hold b (Nat.lt_of_lt_of_le h1 hm.size)).trans (hm.old b h1 h2),hos.trans hm.os,htape.trans hm.tape,hout.trans hm.output,Nat.le_trans hm.size hsize⟩
 obtain ⟨u,hr,hu⟩:=hm.rel x
 exact ⟨u,hr.turn (fun _ _ _=>rfl) (fun _ h=>h) (fun b hb=>hold b (hm.stb b hb).1) (fun _=>rfl) (fun j ho b hb=>hold b (hm.blt ho hb)) (fun _ _=>rfl),hu⟩
end
end Go.Vm
namespace Go.Vm
open Go.RowKit
section
variable {S:Nat→Prop} {w:World} {α:Type}
def litV:Dat→Value
 | .v x=>x
 | .str l=>strOf l
 | _=>undef
def isLit:Dat→Bool
 | .v x=>x.oneCell'
 | .str _=>true
 | _=>false
theorem RD_lit {d:Dat} (h:isLit d=true) (u:Value):RD S w d u↔u=litV d:=by
 cases d <;> simp_all [isLit,litV,RD]
theorem RCs_lits {g:Nat→Option Value}:∀ (cs:List Dat) (o:Nat),(∀ d∈cs,isLit d=true)→(RCs S w cs g o↔∀ t,t < cs.length→g (o+t)=(cs.map litV)[t]?)
 | [],o,_=>by simp [RCs]
 | c :: cs,o,h=>by
  simp only [RCs]
  rw [RCs_lits cs (o+1) (fun d hd=>h d (by simp [hd]))]
  constructor
  ·rintro ⟨⟨u,h1,h2⟩,h3⟩ t ht
   rw [RD_lit (h c (by simp))] at h2
   cases t with
   | zero=>simpa [h2] using h1
   | succ t =>
    have:=h3 t (by simpa using ht)
    simpa [Nat.add_assoc,Nat.add_comm 1 t] using this
  ·intro h3
   refine ⟨⟨litV c,by simpa using h3 0 (by simp),(RD_lit (h c (by simp)) _).2 rfl⟩,fun t ht=>?_⟩
   have:=h3 (t+1) (by simpa using ht)
   simpa [Nat.add_assoc,Nat.add_comm 1 t] using this
theorem REs_lits {g:Nat→Option Value} {sz:Nat}:∀ (es:List (List Dat)) (o:Nat),(∀ d∈es,d.length=sz∧∀ x∈d,isLit x=true)→(REs S w sz es g o↔∀ t,t < es.length * sz→g (o+t)=(es.flatMap (·.map litV))[t]?)
 | [],o,_=>by simp [REs]
 | c :: es,o,h=>by
  have hc:=h c (by simp)
  have hl:(c.map litV).length=sz:=by simpa using hc.1
  simp only [REs]
  rw [REs_lits es (o+sz) (fun d hd=>h d (by simp [hd])),RCs_lits c o hc.2]
  simp only [List.flatMap_cons,List.length_cons,Nat.succ_mul]
  constructor
  ·rintro ⟨_,h2,h3⟩ t ht
   by_cases hs:t < sz
   ·rw [List.getElem?_append_left (by omega)]
    exact h2 t (by omega)
   ·rw [List.getElem?_append_right (by omega),hl,← h3 (t - sz) (by omega)]
    congr 1
    omega
  ·intro h3
   refine ⟨hc.1,fun t ht=>?_,fun t ht=>?_⟩
   ·have:=h3 t (by omega)
    rwa [List.getElem?_append_left (by omega)] at this
   ·have:=h3 (sz+t) (by omega)
    rw [List.getElem?_append_right (by omega),hl] at this
    rw [show sz+t - sz=t by omega] at this
    rw [← this]
    congr 1
    omega
theorem OwnAt.cells {u:Value} {κ:TypeId} {sz:Nat} {es:List (List Dat)} (h:OwnAt S w u κ sz es) (he:∀ d∈es,d.length=sz∧∀ x∈d,isLit x=true) (hn:es≠[]) :
  ∃ b off c arr E fz,u=.slice (some ⟨b,off,none⟩) es.length c∧es.length≤c∧off+c * sz≤arr.size∧FzOk fz arr.size∧w.heap[b]? = some (.cells arr E fz)∧KOk κ E fz es∧∀ t,t < es.length * sz→arr[off+t]? = (es.flatMap (·.map litV))[t]? := by
 rcases h with ⟨_,h⟩ | ⟨b,off,c,arr,E,fz,h1,h2,h3,h4,h5,h6,h7⟩
 ·exact absurd h hn
 ·exact ⟨b,off,c,arr,E,fz,h1,h2,h3,h4,h5,h6,(REs_lits es off he).1 h7⟩
end
end Go.Vm
namespace Go.Vm
open Go.RowKit Go.Sort
section
variable {P:Program} {S:Nat→Prop} {w:World}
theorem flat_len {sz:Nat}:∀ (es:List (List Dat)),(∀ d∈es,d.length=sz∧∀ x∈d,isLit x=true)→(es.flatMap (·.map litV)).length=es.length * sz
 | [],_=>by simp
 | d :: es,h=>by
  rw [List.flatMap_cons,List.length_append,List.length_map,(h d (by simp)).1,flat_len es (fun x hx=>h x (by simp [hx])),List.length_cons,Nat.succ_mul,Nat.add_comm]
end
end Go.Vm
namespace Go.Vm
open Go.RowKit Go.Sort
section
variable {P:Program} {e:Env} {G:GEnv} {S:Nat→Prop} {β:Path→Value} {fr:Fr} {vals:Nat→Option Value} {w:World}
theorem Mem.sub (hm:Mem e G S β fr vals w) {fr':Fr} {vals':Nat→Option Value} (h:∀ x,fget fr' x=fget fr x∨fget fr' x=.junk) (hv:∀ x u,vals' x=some u→vals x=some u):Mem e G S β fr' vals' w:=by
 have hon:∀ x i,(fget fr' x).ownsAt i=true→(fget fr x).ownsAt i=true:=by
  intro x i ho
  rcases h x with h1 | h1
  ·rw [← h1]; exact ho
  ·rw [h1] at ho
   cases i <;> simp [AV.ownsAt,AV.isOwn] at ho
 refine ⟨fun x=>?_,fun x l a hx=>?_,fun x i y j b h1 h2=>hm.dis x i y j b (hon x i h1) (hon y j h2),fun x i b h1=>hm.fre x i b (hon x i h1),hm.stb,hm.s0,hm.old,hm.os,hm.tape,hm.output,hm.size⟩
 ·obtain ⟨u,hr,hu⟩:=hm.rel x
  rcases h x with h1 | h1
  ·exact ⟨u,by rw [h1]; exact hr,fun u' hh=>hu u' (hv x u' hh)⟩
  ·exact ⟨u,by rw [h1]; exact trivial,fun u' hh=>hu u' (hv x u' hh)⟩
 ·rcases h x with h1 | h1
  ·exact hm.gok x l a (by rw [← h1]; exact hx)
  ·rw [h1] at hx; cases hx
theorem ACall.moveOut {k:Nat} (hk:Callable P k) {q:Nat} {more:List AV} {V V':AV} {κ:TypeId} {sz:Nat} {es es':List (List Dat)} (hn:more.length < 1000)
  (hq:pget (finFr (.vw (virtBase,q) :: more) [V]) (virtBase,q)=.own κ sz es)
  (hV:(fget (pset (finFr (.vw (virtBase,q) :: more) [V]) (virtBase,q) .junk) virtBase).purge (slotP resSlot)=V')
  (h:∀ (w:World) (S:Nat→Prop) (u:Value) (us:List Value),us.length=more.length→(∀ (i:Nat) (x:Value),more[i]? = some (AV.d (.v x))→us[i]? = some x) →
   (∀ (i:Nat) (κ':TypeId) (sz':Nat) (es3:List (List Dat)),more[i]? = some (AV.own κ' sz' es3)→∃ u3,us[i]? = some u3∧OwnAt S w u3 κ' sz' es3∧∀ b,blk u3=some b→blk u≠some b) →
   OwnAt S w u κ sz es→(∀ b,blk u=some b→¬ S b)→(∀ b,S b→b < w.heap.size)→Calls P k (u :: us).toArray w fun e w'=>∃ u',e=.returned u'∧OwnAt S w' u' κ sz es'∧(∀ b,blk u'=some b→blk u=some b∨w.heap.size≤b) ∧
    (∀ b,b < w.heap.size→blk u≠some b→w'.heap[b]? = w.heap[b]?)∧w.heap.size≤w'.heap.size∧w'.os=w.os∧w'.tape=w.tape∧w'.output=w.output) :
  ACall P k (.vw (virtBase,q) :: more) [V] (.own κ sz es') [V']:=by
 refine ⟨hk,fun w S β us hl hm=>?_⟩
 obtain ⟨u,us,rfl⟩:∃ u us',us=u :: us':=by
  cases us with
  | nil=>simp at hl
  | cons a b=>exact ⟨a,b,rfl⟩
 have hl':us.length=more.length:=by simpa using hl
 have hu0:u=β (virtBase,q):=by
  obtain ⟨u0,hr,hu⟩:=hm.rel 0
  have hf:fget (finFr (.vw (virtBase,q) :: more) [V]) 0=.vw (virtBase,q):=by rw [fget_finFr_arg (by simp)]; rfl
  rw [hf] at hr
  have e1:=hu u (by simp)
  have e2:u0=β (virtBase,q):=hr
  rw [e1,e2]
 have hown:=pget_own hm hq
 have hno:∀ b,blk (β (virtBase,q))=some b→¬ S b:=fun b hb=>(hm.fre virtBase q b (pget_owns hq) hb).1
 have hfl:∀ (i:Nat) (x:Value),more[i]? = some (AV.d (.v x))→us[i]? = some x:=by
  intro i x hi
  obtain ⟨u1,hr,hu⟩:=hm.rel (i+1)
  have him:i < more.length:=(List.getElem?_eq_some_iff.1 hi).1
  have hf:fget (finFr (.vw (virtBase,q) :: more) [V]) (i+1)=.d (.v x):=by rw [fget_finFr_arg (by simpa using him),List.getD_eq_getElem?_getD]; simp [hi]
  rw [hf] at hr
  have h0:u1=x:=hr.1
  have hus:us[i]? = some us[i]:=List.getElem?_eq_getElem (by omega)
  have e1:=hu us[i] (by simp [hus])
  rw [hus,e1,h0]
 have how:∀ (i:Nat) (κ':TypeId) (sz':Nat) (es3:List (List Dat)),more[i]? = some (AV.own κ' sz' es3)→∃ u3,us[i]? = some u3∧OwnAt S w u3 κ' sz' es3∧∀ b,blk u3=some b→blk (β (virtBase,q))≠some b:=by
  intro i κ' sz' es3 hi
  obtain ⟨u1,hr,hu⟩:=hm.rel (i+1)
  have him:i < more.length:=(List.getElem?_eq_some_iff.1 hi).1
  have hf:fget (finFr (.vw (virtBase,q) :: more) [V]) (i+1)=.own κ' sz' es3:=by rw [fget_finFr_arg (by simpa using him),List.getD_eq_getElem?_getD]; simp [hi]
  rw [hf] at hr
  have hus:us[i]? = some us[i]:=List.getElem?_eq_getElem (by omega)
  have e1:=hu us[i] (by simp [hus])
  refine ⟨us[i],hus,by rw [e1]; exact hr.2,fun b hb hb2=>?_⟩
  have ho:(fget (finFr (.vw (virtBase,q) :: more) [V]) (i+1)).ownsAt 0=true:=by rw [hf]; rfl
  have hb':blk (β (i+1,0))=some b:=by rw [← hr.1,← e1]; exact hb
  have:=(hm.dis (i+1) 0 virtBase q b ho (pget_owns hq) hb' hb2).1
  simp only [virtBase] at this
  omega
 subst hu0
 refine (h w S (β (virtBase,q)) us hl' hfl how hown hno (fun b hb=>(hm.stb b hb).1)).mono ?_
 rintro ee w' ⟨u',rfl,ho',hblk,hold,hsize,hos,htape,hout⟩
 have hd:=hm.dropAt hq
 have hnr:resSlot≠virtBase:=by decide
 have hm2:=hd.make2 resSlot (.own κ sz es') u' (fun _=>u') w' (fun x=>if x=resSlot then some u' else ((β (virtBase,q) :: us)[x]?).or (lentAt β ([V]:List AV).length x)) (fun y hy=>if_neg hy) (fun u1 h1=>by simpa using h1.symm)
  ⟨by simp,ho'⟩ (fun l a h=>by cases h)
  (fun i b _ hb=>by
   rcases hblk b hb with h1 | h1
   ·exact hm.free_dropped hq resSlot b h1
   ·exact hd.free_new resSlot b h1)
  (fun i j b h1 h2 _ _=>by
   cases i <;> cases j <;> simp_all [AV.ownsAt,AV.isOwn])
  (fun b hb=>by
   by_cases h1:blk (β (virtBase,q))=some b
   ·exact .inr (hm.free_dropped hq resSlot b h1)
   ·exact .inl (hold b hb h1)) hsize hos htape hout
 refine ⟨u',S,_,rfl,hm2.sub (fun x=>?_) (fun x u1 hu1=>?_)⟩
 ·by_cases hx:x=resSlot
  ·subst hx
   exact .inl (by rw [fget_cons_self,fget_setA_self])
  ·rw [fget_cons_ne _ _ (Ne.symm hx)]
   by_cases hxv:x=virtBase
   ·subst hxv
    refine .inl ?_
    rw [fget_setA_ne _ _ hx]
    rw [hV]
    simp [boxFr,fget_cons_self]
   ·exact .inr (by simp only [boxFr]; rw [fget_cons_ne _ _ (Ne.symm hxv)]; rfl)
 ·by_cases hx:x=resSlot
  ·rw [if_pos hx] at hu1 ⊢
   exact hu1
  ·rw [if_neg hx] at hu1 ⊢
   have hxv:x=virtBase:=by
    unfold lentAt at hu1
    split at hu1
    ·simp at *; omega
    ·cases hu1
   subst hxv
   have:(β (virtBase,q) :: us)[virtBase]? = none:=List.getElem?_eq_none (by simp [virtBase] at *; omega)
   simp only [this,Option.none_or]
   exact hu1
end
end Go.Vm
namespace Go.Vm
open Go.RowKit
section
variable {P:Program}
theorem run_copy_k (w:World) (dT sT ty elem:TypeId) (size:Nat) (b o dLen dCap:Nat) (a:Addr) (sLen sCap m:Nat) (hm:m=min sLen dLen) (cs:List Value)
  (hu:P.underlying dT=some (.slice elem)) (hs:(P.info? elem).map (·.size)=some size) (hn:cs.length=m * size)
  (hsrc:∀ j v,cs[j]? = some v→w.cell? (a.add j)=some v) (hc:∀ j,j < cs.length→(w.cell? ⟨b,o+j,none⟩).isSome=true) (hf:∀ j,j < cs.length→w.frozen? ⟨b,o+j,none⟩=false) (h1:∀ v∈cs,v.oneCell'=true) :
  (Builtin.copy_ #[dT,sT] ty #[.slice (some ⟨b,o,none⟩) dLen dCap,.slice (some a) sLen sCap]).run P w=.ok (goInt m) (w.setCells b o cs):=by
 have hl:=run_loadCells_list (P:=P) w a cs hsrc
 have hst:=run_storeCells_cells (P:=P) b o cs 0 w (by simpa using hc) (by simpa using hf) h1
 cases hq:P.info? elem with
 | none=>simp [hq] at hs
 | some i =>
  have hi:i.size=size:=by simpa [hq] using hs
  rw [hn] at hl
  subst hm
  simp [Builtin.copy_,run_underlying hu,Builtin.lenOf,Builtin.firstCells,sizeOf,typeInfo,hq,hi,hl,hst]
end
end Go.Vm
namespace Go.Vm
open Go.RowKit
section
variable {P:Program} {S:Nat→Prop} {w w':World}
theorem own_insert {K:Nat} {es:List (List Dat)} {v:List Dat} {g g3 g':Nat→Option Value} {off voff off' i n:Nat} (hn:es.length=n) (hi:i≤n) (hag:Agree S w w') (hes:REs S w K es g off) (hv:REs S w K [v] g3 voff)
  (h1:∀ t,t < i * K→g' (off'+t)=g (off+t)) (h2:∀ t,t < 1 * K→g' (off'+i * K+t)=g3 (voff+t)) (h3:∀ t,t < (n - i) * K→g' (off'+(i+1) * K+t)=g (off+i * K+t)) :
  REs S w' K (es.take i++[v]++es.drop i) g' off':=by
 refine REs.mono (fun _ h=>h) hag _ _ _ _ ?_
 have htl:(es.take i).length=i:=by simp; omega
 refine REs.append _ _ off' (REs.append _ _ off' ?_ ?_) ?_
 ·exact REs.congr _ off off' (fun t ht=>h1 t (by rwa [htl] at ht)) (REs.take es off i hes)
 ·rw [htl]
  exact REs.congr _ voff _ (fun t ht=>h2 t (by simpa using ht)) hv
 ·rw [List.length_append,htl,List.length_singleton]
  exact REs.congr _ (off+i * K) _ (fun t ht=>h3 t (by rw [List.length_drop,hn] at ht; exact ht)) (REs.drop es off i hes)
structure InsRoads (P:Program) (k E K:Nat):Prop where
 A:∀ (b off n c vb voff vc:Nat) (w:World) (vs:List Value),vs.length=1 * K→n+1≤c→(∀ t v,vs[t]? = some v→w.cell? ⟨vb,voff+t,none⟩=some v)→(∀ v∈vs,v.oneCell'=true) →
  (∀ j,j < vs.length→(w.cell? ⟨b,off+n * K+j,none⟩).isSome=true∧w.frozen? ⟨b,off+n * K+j,none⟩=false) →
  Calls P k #[.slice (some ⟨b,off,none⟩) n c,.int .i64 n,.slice (some ⟨vb,voff,none⟩) 1 vc] w fun e w'=>e=.returned (.slice (some ⟨b,off,none⟩) (n+1) c)∧w'=w.setCells b (off+n * K) vs
 B:∀ (base:Option Addr) (n c vb voff vc:Nat) (w:World) (cs vs:List Value),vs.length=1 * K→n≤c→c < n+1→n≤4294967296→(∀ w':World,w'.heap=w.heap→(Builtin.firstCells K n (.slice base n c)).run P w'=.ok cs.toArray w') →
  (∀ t v,vs[t]? = some v→w.cell? ⟨vb,voff+t,none⟩=some v)→(∀ v∈vs,v.oneCell'=true) →
  Calls P k #[.slice base n c,.int .i64 n,.slice (some ⟨vb,voff,none⟩) 1 vc] w fun e w'=>∃ (G:Nat) (zz:Array Value),n+1≤G∧zz.size=(G - (n+1)) * K∧e=.returned (.slice (some ⟨w.heap.size,0,none⟩) (n+1) G)∧w'=w.drew.alloc (.cells ((cs++vs).toArray++zz) E)
 C:∀ (b off n c i vb voff vc:Nat) (w:World) (cs vs:List Value),cs.length=n * K→vs.length=1 * K→i < n→n≤c→c < n+1→n≤4294967296→b < w.heap.size→vb < w.heap.size →
  (∀ t v,cs[t]? = some v→w.cell? ⟨b,off+t,none⟩=some v)→(∀ t v,vs[t]? = some v→w.cell? ⟨vb,voff+t,none⟩=some v)→(∀ v∈cs,v.oneCell'=true)→(∀ v∈vs,v.oneCell'=true) →
  Calls P k #[.slice (some ⟨b,off,none⟩) n c,.int .i64 i,.slice (some ⟨vb,voff,none⟩) 1 vc] w fun e w'=>∃ (G:Nat) (ROW:Array Value),n+1≤G∧ROW.size=G * K∧(∀ t,t < i * K→ROW[t]? = cs[t]?)∧e=.returned (.slice (some ⟨w.heap.size,0,none⟩) (n+1) G) ∧
   w'=(((w.alloc (.cells ROW E)).drew.setCells w.heap.size (i * K) vs).drew).setCells w.heap.size ((i+1) * K) (cs.drop (i * K))
 D:∀ (b off n c i vb voff vc:Nat) (w:World) (cs vs:List Value),cs.length=n * K→vs.length=1 * K→i < n→n+1≤c→n≤4294967296→vb≠b →
  (∀ t v,cs[t]? = some v→w.cell? ⟨b,off+t,none⟩=some v)→(∀ j,j < (n+1) * K→(w.cell? ⟨b,off+j,none⟩).isSome=true)→(∀ j,j < (n+1) * K→w.frozen? ⟨b,off+j,none⟩=false) →
  (∀ t v,vs[t]? = some v→w.cell? ⟨vb,voff+t,none⟩=some v)→(∀ v∈cs,v.oneCell'=true)→(∀ v∈vs,v.oneCell'=true) →
  ∀ (tA tB:TypeId) (kA kB:Nat),w.shape? vb=some (tA,kA)→w.shape? b=some (tB,kB)→kB≠0→w.frozen? ⟨vb,voff,none⟩=false→w.frozen? ⟨vb,kA,none⟩=false →
  Calls P k #[.slice (some ⟨b,off,none⟩) n c,.int .i64 i,.slice (some ⟨vb,voff,none⟩) 1 vc] w fun e w'=>e=.returned (.slice (some ⟨b,off,none⟩) (n+1) c)∧w'=(w.drew.setCells b (off+(i+1) * K) (cs.drop (i * K))).setCells b (off+i * K) vs
theorem ins_third {κ3:TypeId} {K:Nat} {v:List Dat} {u:Value} (h:OwnAt S w u κ3 K [v]) (hκ3:1099511627776≤κ3):∃ vb voff vc arr3 E3,u=.slice (some ⟨vb,voff,none⟩) 1 vc∧voff+1 * K≤arr3.size∧vb < w.heap.size∧(∃ fz3,w.heap[vb]? = some (.cells arr3 E3 fz3)) ∧
  REs S w K [v] (fun j=>arr3[j]?) voff∧w.shape? vb=some (E3,arr3.size)∧∀ x,w.frozen? ⟨vb,x,none⟩=false:=by
 rcases h with ⟨_,h⟩ | ⟨vb,voff,vc,arr3,E3,fz3,rfl,h2,h3,h4,h5,h6,h7⟩
 ·cases h
 ·have hf:=h6.2.1 hκ3
  have h2':1≤vc:=h2
  have h8:1 * K≤vc * K:=Nat.mul_le_mul_right _ h2'
  refine ⟨vb,voff,vc,arr3,E3,rfl,by omega,heap_lt h5,⟨fz3,h5⟩,h7,by simp [World.shape?,h5],fun x=>?_⟩
  simp only [World.frozen?,h5,Bool.and_eq_false_iff,decide_eq_false_iff_not]
  omega
theorem ones_of {K:Nat} {es:List (List Dat)} {arr:Array Value} {off:Nat} (h:REs S w K es (fun j=>arr[j]?) off):∀ x∈(arr.toList.drop off).take (es.length * K),x.oneCell'=true:=by
 intro x hx
 obtain ⟨t,ht⟩:=List.getElem?_of_mem hx
 rw [List.getElem?_take] at ht
 split at ht
 case isFalse=>cases ht
 rename_i htl
 refine REs.ones h t htl x ?_
 rw [List.getElem?_drop] at ht
 simpa using ht
theorem seg_get {arr:Array Value} {off m t:Nat} (ht:t < m):((arr.toList.drop off).take m)[t]? = arr[off+t]? := by
 rw [List.getElem?_take,if_pos ht,List.getElem?_drop,Array.getElem?_toList]
structure InsEnd (S:Nat→Prop) (w:World) (u:Value) (w':World) (u':Value) (E K:Nat) (es':List (List Dat)):Prop where
 own:OwnAt S w' u' E K es'
 blk:∀ b,blk u'=some b→Vm.blk u=some b∨w.heap.size≤b
 old:∀ b,b < w.heap.size→Vm.blk u≠some b→w'.heap[b]? = w.heap[b]?
 size:w.heap.size≤w'.heap.size
 os:w'.os=w.os
 tape:w'.tape=w.tape
 output:w'.output=w.output
theorem ins_len {es:List (List Dat)} {v:List Dat} {i n:Nat} (hn:es.length=n) (hi:i≤n):(es.take i++[v]++es.drop i).length=n+1:=by
 simp; omega
theorem ins_endA {E K:Nat} {es:List (List Dat)} {v:List Dat} {b off c n voff:Nat} {arr arr3:Array Value} {E0:TypeId} {fz:Nat×Nat} (hb:w.heap[b]? = some (.cells arr E0 fz)) (hκ:KOk E E0 fz es) (hc:n+1≤c) (hroom:off+c * K≤arr.size) (hfz:FzOk fz arr.size)
  (hn:es.length=n) (hes:REs S w K es (fun j=>arr[j]?) off) (hv:REs S w K [v] (fun j=>arr3[j]?) voff) (hS:¬ S b) (hsz3:voff+1 * K≤arr3.size) :
  InsEnd S w (.slice (some ⟨b,off,none⟩) n c) (w.setCells b (off+n * K) ((arr3.toList.drop voff).take (1 * K))) (.slice (some ⟨b,off,none⟩) (n+1) c) E K (es.take n++[v]++es.drop n):=by
 have vl:((arr3.toList.drop voff).take (1 * K)).length=1 * K:=by simp; omega
 have e1:(n+1) * K=n * K+K:=Nat.succ_mul _ _
 have e2:(n+1) * K≤c * K:=Nat.mul_le_mul_right _ hc
 have hL:=ins_len (v:=v) hn (Nat.le_refl n)
 have hseg:∀ t,t < 1 * K→((arr3.toList.drop voff).take (1 * K))[t]? = arr3[voff+t]? := fun t ht=>seg_get ht
 generalize (arr3.toList.drop voff).take (1 * K)=vs at *
 have hs:off+n * K+vs.length≤arr.toList.length:=by rw [vl]; simp; omega
 have hsl:(spl (off+n * K) vs arr.toList).toArray.size=arr.size:=by simp [spl_len hs]
 rw [setCells_row b E0 fz _ _ arr w hb (by simpa using hs)]
 have hag:∀ k,k≠b→(w.setRow b (spl (off+n * K) vs arr.toList).toArray).heap[k]? = w.heap[k]? := fun k hk=>setRow_other w b k _ hk
 refine ⟨.inr ⟨b,off,c,_,E0,fz,by rw [hL],by rw [hL]; exact hc,by rw [hsl]; exact hroom,by rw [hsl]; exact hfz,setRow_heap w b arr _ E0 fz hb,hκ.ne (by simp),own_insert hn (Nat.le_refl n) (fun k hk=>hag k fun h=>hS (h ▸ hk)) hes hv (fun t ht=>?_) (fun t ht=>?_) (fun t ht=>?_)⟩,fun k hk=>.inl hk,fun k _ hk=>hag k fun h=>hk (by subst h; rfl),by simp,rfl,rfl,rfl⟩
 ·simp only [List.getElem?_toArray]
  rw [spl_get hs,if_neg (by omega)]
  simp
 ·simp only [List.getElem?_toArray]
  rw [spl_get hs,if_pos ⟨by omega,by rw [vl]; omega⟩,show off+n * K+t - (off+n * K)=t by omega,hseg t ht]
 ·rw [Nat.sub_self,Nat.zero_mul] at ht
  omega
theorem ins_endB {E K:Nat} (hE40:E < 1099511627776) {es:List (List Dat)} {v:List Dat} {u:Value} {off n voff G:Nat} {arr arr3 zz:Array Value} (hn:es.length=n) (hsz:off+n * K≤arr.size) (hes:REs S w K es (fun j=>arr[j]?) off) (hv:REs S w K [v] (fun j=>arr3[j]?) voff) (hst:∀ b,S b→b < w.heap.size) (hsz3:voff+1 * K≤arr3.size)
  (hG:n+1≤G) (hz:zz.size=(G - (n+1)) * K) :
  InsEnd S w u (w.drew.alloc (.cells (((arr.toList.drop off).take (n * K)++(arr3.toList.drop voff).take (1 * K)).toArray++zz) E)) (.slice (some ⟨w.heap.size,0,none⟩) (n+1) G) E K (es.take n++[v]++es.drop n):=by
 have vl:((arr3.toList.drop voff).take (1 * K)).length=1 * K:=by simp; omega
 have cl:((arr.toList.drop off).take (n * K)).length=n * K:=by simp; omega
 have e1:(n+1) * K=n * K+K:=Nat.succ_mul _ _
 have e2:(n+1) * K≤G * K:=Nat.mul_le_mul_right _ hG
 have e3:(G - (n+1)) * K=G * K - (n+1) * K:=Nat.sub_mul _ _ _
 have hL:=ins_len (v:=v) hn (Nat.le_refl n)
 obtain ⟨A,hA⟩:∃ A,A=((arr.toList.drop off).take (n * K)++(arr3.toList.drop voff).take (1 * K)).toArray++zz:=⟨_,rfl⟩
 have hAs:A.size=G * K:=by rw [hA]; simp only [Array.size_append,List.size_toArray,List.length_append,cl,vl,hz]; omega
 have hA1:∀ t,t < n * K→A[t]? = arr[off+t]? := fun t ht=>by
  rw [hA,Array.getElem?_append_left (by simp only [List.size_toArray,List.length_append,cl,vl]; omega),List.getElem?_toArray,List.getElem?_append_left (by rw [cl]; exact ht),seg_get ht]
 have hA2:∀ t,t < 1 * K→A[n * K+t]? = arr3[voff+t]? := fun t ht=>by
  rw [hA,Array.getElem?_append_left (by simp only [List.size_toArray,List.length_append,cl,vl]; omega),List.getElem?_toArray,List.getElem?_append_right (by rw [cl]; omega),cl,show n * K+t - n * K=t by omega,seg_get ht]
 rw [← hA]
 have hh:(w.drew.alloc (.cells A E)).heap=w.heap.push (.cells A E):=rfl
 have hag:∀ k,k < w.heap.size→(w.drew.alloc (.cells A E)).heap[k]? = w.heap[k]? := fun k hk=>by
  rw [hh,Array.getElem?_push,if_neg (by omega)]
 refine ⟨.inr ⟨w.heap.size,0,G,A,E,(0,0),by rw [hL],by rw [hL]; exact hG,by omega,.inl rfl,by rw [hh]; simp,KOk.new hE40,own_insert hn (Nat.le_refl n) (fun k hk=>hag k (hst k hk)) hes hv (fun t ht=>?_) (fun t ht=>?_) (fun t ht=>?_)⟩,fun k hk=>.inr (by rw [← Option.some.inj hk]; exact Nat.le_refl _),fun k hk _=>hag k hk,by rw [hh]; simp,rfl,rfl,rfl⟩
 ·simpa using hA1 t ht
 ·simpa using hA2 t ht
 ·rw [Nat.sub_self,Nat.zero_mul] at ht
  omega
theorem ins_endC {E K:Nat} (hE40:E < 1099511627776) {es:List (List Dat)} {v:List Dat} {u:Value} {off n i voff G:Nat} {arr arr3 ROW:Array Value} (hn:es.length=n) (hi:i < n) (hsz:off+n * K≤arr.size) (hes:REs S w K es (fun j=>arr[j]?) off) (hv:REs S w K [v] (fun j=>arr3[j]?) voff) (hst:∀ b,S b→b < w.heap.size) (hsz3:voff+1 * K≤arr3.size)
  (hG:n+1≤G) (hR:ROW.size=G * K) (hRt:∀ t,t < i * K→ROW[t]? = ((arr.toList.drop off).take (n * K))[t]?) :
  InsEnd S w u ((((w.alloc (.cells ROW E)).drew.setCells w.heap.size (i * K) ((arr3.toList.drop voff).take (1 * K))).drew).setCells w.heap.size ((i+1) * K) (((arr.toList.drop off).take (n * K)).drop (i * K))) (.slice (some ⟨w.heap.size,0,none⟩) (n+1) G) E K (es.take i++[v]++es.drop i):=by
 have e1:(n+1) * K=n * K+K:=Nat.succ_mul _ _
 have e2:(n+1) * K≤G * K:=Nat.mul_le_mul_right _ hG
 have e3:(i+1) * K=i * K+K:=Nat.succ_mul _ _
 have e4:(i+1) * K≤n * K:=Nat.mul_le_mul_right _ hi
 have e5:(n - i) * K=n * K - i * K:=Nat.sub_mul _ _ _
 have hL:=ins_len (v:=v) hn (Nat.le_of_lt hi)
 have vl:((arr3.toList.drop voff).take (1 * K)).length=1 * K:=by simp; omega
 have hseg:∀ t,t < 1 * K→((arr3.toList.drop voff).take (1 * K))[t]? = arr3[voff+t]? := fun t ht=>seg_get ht
 have dl:(((arr.toList.drop off).take (n * K)).drop (i * K)).length=n * K - i * K:=by simp; omega
 have hdeg:∀ t,t < n * K - i * K→(((arr.toList.drop off).take (n * K)).drop (i * K))[t]? = arr[off+i * K+t]? := fun t ht=>by
  rw [List.getElem?_drop,seg_get (by omega),show off+(i * K+t)=off+i * K+t by omega]
 have hRt':∀ t,t < i * K→ROW[t]? = arr[off+t]? := fun t ht=>by rw [hRt t ht,seg_get (by omega)]
 generalize (arr3.toList.drop voff).take (1 * K)=vs at *
 generalize ((arr.toList.drop off).take (n * K)).drop (i * K)=ds at *
 have hb0:((w.alloc (.cells ROW E)).drew).heap[w.heap.size]? = some (.cells ROW E (0,0)):=by
  show (w.heap.push (.cells ROW E))[w.heap.size]? = _
  simp
 have hs1:i * K+vs.length≤ROW.toList.length:=by rw [vl]; simp; omega
 rw [setCells_row w.heap.size E (0,0) vs _ ROW _ hb0 (by simpa using hs1)]
 have hb1:=setRow_heap ((w.alloc (.cells ROW E)).drew) w.heap.size ROW (spl (i * K) vs ROW.toList).toArray E (0,0) hb0
 have hb2:(((w.alloc (.cells ROW E)).drew.setRow w.heap.size (spl (i * K) vs ROW.toList).toArray).drew).heap[w.heap.size]? = some (.cells (spl (i * K) vs ROW.toList).toArray E (0,0)):=hb1
 have hs2:(i+1) * K+ds.length≤(spl (i * K) vs ROW.toList).length:=by rw [spl_len hs1,dl]; simp; omega
 rw [setCells_row w.heap.size E (0,0) ds _ _ _ hb2 (by simpa using hs2)]
 have hb3:=setRow_heap (((w.alloc (.cells ROW E)).drew.setRow w.heap.size (spl (i * K) vs ROW.toList).toArray).drew) w.heap.size _ (spl ((i+1) * K) ds (spl (i * K) vs ROW.toList).toArray.toList).toArray E (0,0) hb2
 have hag:∀ k,k < w.heap.size→((((w.alloc (.cells ROW E)).drew.setRow w.heap.size (spl (i * K) vs ROW.toList).toArray).drew).setRow w.heap.size (spl ((i+1) * K) ds (spl (i * K) vs ROW.toList).toArray.toList).toArray).heap[k]? = w.heap[k]? := fun k hk=>by
  rw [setRow_other _ w.heap.size k _ (by omega)]
  show ((w.alloc (.cells ROW E)).drew.setRow w.heap.size (spl (i * K) vs ROW.toList).toArray).heap[k]? = _
  rw [setRow_other _ w.heap.size k _ (by omega)]
  show (w.heap.push (.cells ROW E))[k]? = _
  simp [Array.getElem?_push,show ¬ k=w.heap.size by omega]
 have hsz2:(spl ((i+1) * K) ds (spl (i * K) vs ROW.toList).toArray.toList).toArray.size=G * K:=by simp [spl_len hs2,spl_len hs1,hR]
 refine ⟨.inr ⟨w.heap.size,0,G,_,E,(0,0),by rw [hL],by rw [hL]; exact hG,by rw [hsz2]; omega,.inl rfl,hb3,KOk.new hE40,own_insert hn (Nat.le_of_lt hi) (fun k hk=>hag k (hst k hk)) hes hv (fun t ht=>?_) (fun t ht=>?_) (fun t ht=>?_)⟩,fun k hk=>.inr (by rw [← Option.some.inj hk]; exact Nat.le_refl _),fun k hk _=>hag k hk,Nat.le_of_lt (heap_lt hb3),rfl,rfl,rfl⟩
 ·simp only [List.getElem?_toArray]
  rw [spl_get hs2,if_neg (by omega),spl_get hs1,if_neg (by omega),Array.getElem?_toList,Nat.zero_add,hRt' t ht]
 ·simp only [List.getElem?_toArray]
  rw [spl_get hs2,if_neg (by omega),spl_get hs1,if_pos ⟨by omega,by rw [vl]; omega⟩,show 0+i * K+t - i * K=t by omega,hseg t ht]
 ·simp only [List.getElem?_toArray]
  rw [spl_get hs2,if_pos ⟨by omega,by rw [dl]; omega⟩,show 0+(i+1) * K+t - (i+1) * K=t by omega,hdeg t (by omega)]
theorem ins_endD {E K:Nat} {es:List (List Dat)} {v:List Dat} {b off c n i voff:Nat} {arr arr3:Array Value} {E0:TypeId} {fz:Nat×Nat} (hb:w.heap[b]? = some (.cells arr E0 fz)) (hκ:KOk E E0 fz es) (hi:i < n) (hc:n+1≤c) (hroom:off+c * K≤arr.size) (hfz:FzOk fz arr.size)
  (hn:es.length=n) (hes:REs S w K es (fun j=>arr[j]?) off) (hv:REs S w K [v] (fun j=>arr3[j]?) voff) (hS:¬ S b) (hsz3:voff+1 * K≤arr3.size) :
  InsEnd S w (.slice (some ⟨b,off,none⟩) n c) ((w.drew.setCells b (off+(i+1) * K) (((arr.toList.drop off).take (n * K)).drop (i * K))).setCells b (off+i * K) ((arr3.toList.drop voff).take (1 * K))) (.slice (some ⟨b,off,none⟩) (n+1) c) E K (es.take i++[v]++es.drop i):=by
 have e1:(n+1) * K=n * K+K:=Nat.succ_mul _ _
 have e2:(n+1) * K≤c * K:=Nat.mul_le_mul_right _ hc
 have e3:(i+1) * K=i * K+K:=Nat.succ_mul _ _
 have e4:(i+1) * K≤n * K:=Nat.mul_le_mul_right _ hi
 have e5:(n - i) * K=n * K - i * K:=Nat.sub_mul _ _ _
 have hL:=ins_len (v:=v) hn (Nat.le_of_lt hi)
 have vl:((arr3.toList.drop voff).take (1 * K)).length=1 * K:=by simp; omega
 have hseg:∀ t,t < 1 * K→((arr3.toList.drop voff).take (1 * K))[t]? = arr3[voff+t]? := fun t ht=>seg_get ht
 have dl:(((arr.toList.drop off).take (n * K)).drop (i * K)).length=n * K - i * K:=by simp; omega
 have hdeg:∀ t,t < n * K - i * K→(((arr.toList.drop off).take (n * K)).drop (i * K))[t]? = arr[off+i * K+t]? := fun t ht=>by
  rw [List.getElem?_drop,seg_get (by omega),show off+(i * K+t)=off+i * K+t by omega]
 generalize (arr3.toList.drop voff).take (1 * K)=vs at *
 generalize ((arr.toList.drop off).take (n * K)).drop (i * K)=ds at *
 have hb0:w.drew.heap[b]? = some (.cells arr E0 fz):=hb
 have hs1:off+(i+1) * K+ds.length≤arr.toList.length:=by rw [dl]; simp; omega
 rw [setCells_row b E0 fz ds _ arr _ hb0 (by simpa using hs1)]
 have hb1:=setRow_heap w.drew b arr (spl (off+(i+1) * K) ds arr.toList).toArray E0 fz hb0
 have hs2:off+i * K+vs.length≤(spl (off+(i+1) * K) ds arr.toList).length:=by rw [spl_len hs1,vl]; simp; omega
 rw [setCells_row b E0 fz vs _ _ _ hb1 (by simpa using hs2),setRow_setRow]
 have hag:∀ k,k≠b→(w.drew.setRow b (spl (off+i * K) vs (spl (off+(i+1) * K) ds arr.toList).toArray.toList).toArray).heap[k]? = w.heap[k]? := fun k hk=>setRow_other w.drew b k _ hk
 have hsz2:(spl (off+i * K) vs (spl (off+(i+1) * K) ds arr.toList).toArray.toList).toArray.size=arr.size:=by simp [spl_len hs2,spl_len hs1]
 refine ⟨.inr ⟨b,off,c,_,E0,fz,by rw [hL],by rw [hL]; exact hc,by rw [hsz2]; exact hroom,by rw [hsz2]; exact hfz,setRow_heap w.drew b arr _ E0 fz hb0,hκ.ne (by simp),own_insert hn (Nat.le_of_lt hi) (fun k hk=>hag k fun h=>hS (h ▸ hk)) hes hv (fun t ht=>?_) (fun t ht=>?_) (fun t ht=>?_)⟩,fun k hk=>.inl hk,fun k _ hk=>hag k fun h=>hk (by subst h; rfl),by show w.heap.size≤(w.heap.modify b _).size; simp,rfl,rfl,rfl⟩
 ·simp only [List.getElem?_toArray]
  rw [spl_get hs2,if_neg (by omega),spl_get hs1,if_neg (by omega),Array.getElem?_toList]
 ·simp only [List.getElem?_toArray]
  rw [spl_get hs2,if_pos ⟨by omega,by rw [vl]; omega⟩,show off+i * K+t - (off+i * K)=t by omega,hseg t ht]
 ·simp only [List.getElem?_toArray]
  rw [spl_get hs2,if_neg (by rw [vl]; omega),spl_get hs1,if_pos ⟨by omega,by rw [dl]; omega⟩,show off+(i+1) * K+t - (off+(i+1) * K)=t by omega,hdeg t (by omega)]
theorem ACall.insert {k E K q:Nat} (hE40:E < 1099511627776) (hk:Callable P k) (hr:InsRoads P k E K) (hnil:∀ w:World,(Builtin.firstCells K 0 (.slice none 0 0)).run P w=.ok #[] w) {V V':AV} {κ3:TypeId} {es:List (List Dat)} {v:List Dat} {i:Nat} (hi:i≤es.length) (hlen:es.length≤4294967295) (hK:0 < K) (hκ3:1099511627776≤κ3)
  (hq:pget (finFr [.vw (virtBase,q),.d (.v (.int .i64 i)),.own κ3 K [v]] [V]) (virtBase,q)=.own E K es)
  (hV:(fget (pset (finFr [.vw (virtBase,q),.d (.v (.int .i64 i)),.own κ3 K [v]] [V]) (virtBase,q) .junk) virtBase).purge (slotP resSlot)=V') :
  ACall P k [.vw (virtBase,q),.d (.v (.int .i64 i)),.own κ3 K [v]] [V] (.own E K (es.take i++[v]++es.drop i)) [V']:=by
 refine ACall.moveOut hk (by simp) hq hV fun w S u us hl hfl how hown hno hst=>?_
 obtain ⟨u1,u2,rfl⟩:∃ a b,us=[a,b]:=by
  match us,hl with
  | [a,b],_=>exact ⟨a,b,rfl⟩
 obtain rfl:u1=.int .i64 i:=by simpa using hfl 0 (.int .i64 i) rfl
 obtain ⟨u3,h3,ho3,hd3⟩:=how 1 κ3 K [v] rfl
 obtain rfl:u2=u3:=by simpa using h3
 obtain ⟨vb,voff,vc,arr3,E3,rfl,hsz3,hvw,⟨fz3,hb3⟩,hes3,hsh3,hfz3⟩:=ins_third ho3 hκ3
 have hvb:blk u≠some vb:=hd3 vb rfl
 have hvl:((arr3.toList.drop voff).take (1 * K)).length=1 * K:=by simp; omega
 have hvs:=row_cells (off:=voff) hb3 (1 * K)
 have h1v:∀ x∈(arr3.toList.drop voff).take (1 * K),x.oneCell'=true:=ones_of (es:=[v]) hes3
 have done:∀ {e w' u'},e=Ending.returned u'→InsEnd S w u w' u' E K (es.take i++[v]++es.drop i)→∃ u',e=.returned u'∧OwnAt S w' u' E K (es.take i++[v]++es.drop i)∧(∀ b,blk u'=some b→blk u=some b∨w.heap.size≤b) ∧
    (∀ b,b < w.heap.size→blk u≠some b→w'.heap[b]? = w.heap[b]?)∧w.heap.size≤w'.heap.size∧w'.os=w.os∧w'.tape=w.tape∧w'.output=w.output :=
  fun he h=>⟨_,he,h.own,h.blk,h.old,h.size,h.os,h.tape,h.output⟩
 rcases hown with ⟨rfl,rfl⟩ | ⟨b,off,c,arr,E0,fz,rfl,hc,hroom,hfz,hb,hκ,hes⟩
 ·obtain rfl:i=0:=by simpa using hi
  refine (hr.B none 0 0 vb voff vc w [] _ hvl (by omega) (by omega) (by omega) (fun w' _=>hnil w') hvs h1v).mono ?_
  rintro e w' ⟨G,zz,hG,hz,rfl,rfl⟩
  have h0:=ins_endB (E:=E) hE40 (u:=.slice none 0 0) (es:=[]) (off:=0) (arr:=#[]) (n:=0) rfl (by simp) (by simp [REs]) hes3 hst hsz3 hG hz
  have e0:((#[]:Array Value).toList.drop 0).take (0 * K)=[]:=by simp
  rw [e0] at h0
  exact done rfl h0
 ·generalize hn:es.length=n at *
  have hnc:n * K≤c * K:=Nat.mul_le_mul_right _ hc
  have hcl:((arr.toList.drop off).take (n * K)).length=n * K:=by simp; omega
  have hcs:=row_cells (off:=off) hb (n * K)
  have h1c:∀ x∈(arr.toList.drop off).take (n * K),x.oneCell'=true:=by rw [← hn]; exact ones_of hes
  have hS:¬ S b:=hno b rfl
  have hvb':vb≠b:=fun h=>hvb (by rw [h]; rfl)
  have hsome:∀ x,x < arr.size→(w.cell? ⟨b,x,none⟩).isSome=true:=fun x hx=>by simp [World.cell?,hb,hx]
  by_cases hin:i=n
  ·subst hin
   by_cases hroomy:i+1≤c
   ·have e1:(i+1) * K=i * K+K:=Nat.succ_mul _ _
    have e2:(i+1) * K≤c * K:=Nat.mul_le_mul_right _ hroomy
    refine (hr.A b off i c vb voff vc w _ hvl hroomy hvs h1v (fun j hj=>?_)).mono ?_
    ·rw [hvl] at hj
     exact ⟨hsome _ (by omega),row_thaw hb hfz _ (by omega)⟩
    ·rintro e w' ⟨rfl,rfl⟩
     exact done rfl (ins_endA hb hκ hroomy hroom hfz hn hes hes3 hS hsz3)
   ·refine (hr.B (some ⟨b,off,none⟩) i c vb voff vc w ((arr.toList.drop off).take (i * K)) _ hvl hc (by omega) (by omega) (fun w' hw'=>?_) hvs h1v).mono ?_
    ·exact run_firstCells_some (P:=P) w' K i ⟨b,off,none⟩ i c _ hcl (fun t x hx=>by
      rw [Addr.add_lit]
      have:=hcs t x hx
      simpa [World.cell?,hw'] using this)
    ·rintro e w' ⟨G,zz,hG,hz,rfl,rfl⟩
     exact done rfl (ins_endB hE40 hn (by omega) hes hes3 hst hsz3 hG hz)
  ·have hlt:i < n:=by omega
   by_cases hroomy:n+1≤c
   ·have e1:(n+1) * K=n * K+K:=Nat.succ_mul _ _
    have e2:(n+1) * K≤c * K:=Nat.mul_le_mul_right _ hroomy
    refine (hr.D b off n c i vb voff vc w _ _ hcl hvl hlt hroomy (by omega) hvb' hcs (fun j hj=>hsome _ (by omega)) (fun j hj=>row_thaw hb hfz _ (by omega)) hvs h1c h1v E3 E0 arr3.size arr.size hsh3 (by simp [World.shape?,hb]) (by omega) (hfz3 _) (hfz3 _)).mono ?_
    rintro e w' ⟨rfl,rfl⟩
    exact done rfl (ins_endD hb hκ hlt hroomy hroom hfz hn hes hes3 hS hsz3)
   ·refine (hr.C b off n c i vb voff vc w _ _ hcl hvl hlt hc (by omega) (by omega) (heap_lt hb) hvw hcs hvs h1c h1v).mono ?_
    rintro e w' ⟨G,ROW,hG,hR,hRt,rfl,rfl⟩
    exact done rfl (ins_endC hE40 hn hlt (by omega) hes hes3 hst hsz3 hG hR hRt)
end
end Go.Vm
namespace Go.Vm
open Go.ChangeShapes Go.RowKit Go.WideShapes Go.ChangeAt Go.WideMaps Go.WideElems
theorem law_contractC {β:Type} {H:Type} {enc:TypeId×Value→H} {P:Program} {k:Nat} {f:Func} {s:ChangeSpec} {av:β→List AV} {Q:β→Prop} {r:Bool} {tb:TypeId} {ts:List TypeId} {apart fresh handsOn:Bool}
  (hts:f.params.toList=ts) (hop:OpensArgs P ts av Q)
  (hlaid:laidOutB P=true) (hread:(ts.all fun t=>P.readableRec t && decide (t < P.types.size))=true) (hvars:s.vars=[]) (hres:f.resultTypes=#[tb]) (htb:P.underlying tb=some .bool)
  (hspec:∀ ds:List (DataW H),ds.length=ts.length→s.fn H (ds++[])={ results:=[.lit (.bool r)],args:=ds })
  (W:World) (base:Nat) (args:Array Value) (ds gs:List (DataW H)) (before:List MemPlace) (hlaw:∀ b,Q b→All2 (fun _ a u=>RFlat (allS W) W (fun _=>.bool false) (0,0) a u) 0 (av b) args.toList→Calls P k args W fun e W'=>e=.returned (.bool r)∧Below W.heap.size W W')
  (hval:∀ (j:Nat) t v,f.params[j]? = some t→args[j]? = some v→Value.okWide P W .any base t v)
  (hW:DataW.Whole enc P f.params.toList s.vars apart W args.toList ds gs before) :
  Calls P k args W fun e W'=>∃ v,e=.returned v∧s.post enc P f apart fresh handsOn false W args v W':=by
 subst hts
 have hW':=hW
 have hlt:=hW.lt
 obtain ⟨p,q,hA,hV,rfl,hfz,hnd⟩:=hW
 rw [hvars] at hV
 obtain ⟨rfl,rfl⟩:gs=[]∧q=[]:=by
  cases gs with
  | nil=>exact ⟨rfl,hV⟩
  | cons=>exact hV.elim
 obtain ⟨b,hQ,hvl,hda,hr⟩:=hop H enc W base args.toList ds p (fun j t v h1 h2=>hval j t v (by simpa using h1) (by simpa using h2)) hA
 have hdl:∀ {ts:List TypeId} {vs:List Value} {ds:List (DataW H)} {ps:List MemPlace},DataW.TrodAll enc P W 0 (fun _=>true) true ts vs ds ps→ds.length=ts.length:=by
  intro ts
  induction ts with
  | nil=>intro vs ds ps h; cases vs <;> cases ds <;> first | rfl | exact h.elim
  | cons t ts ih =>
   intro vs ds ps h
   cases vs with
   | nil=>exact h.elim
   | cons v vs =>
    cases ds with
    | nil=>exact h.elim
    | cons d ds =>
     obtain ⟨_,_,_,h2,_⟩:=h
     simp [ih h2]
 have hsp:=hspec ds (hdl hA)
 refine (hlaw b hQ (hr 0)).mono fun e W' ⟨he,hb0⟩=>⟨_,he,?_⟩
 have hk:KeptAll W W':=⟨hb0.os,hb0.output,hb0.size,hb0.block⟩
 refine post_kept (pa:=p) (pv:=[]) hW' hk (fun _ _ _=>?_) (fun sp hb=>?_) (fun sp hb=>?_) (by simp) ?_
 ·rw [hsp,hres]
  exact trodAll_mk1 (shut_bool htb r)
 ·rw [hsp]
  exact TrodAll_kept hlaid hk sp hread hA (fun x hx=>hlt x (by simp [hx])) (fun x hx=>hb x (by simp [hx]))
 ·rw [hsp,hvars]
  rfl
 ·exact ok_one hres rfl (okWide_bool_mk htb r)
end Go.Vm
