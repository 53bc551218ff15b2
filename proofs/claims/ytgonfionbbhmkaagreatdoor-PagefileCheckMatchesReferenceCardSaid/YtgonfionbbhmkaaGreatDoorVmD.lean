/-
  THE V-MACHINE,text D: VmGlob,VmShelf,VmGlobs,VmBits,VmUpto,VmOpenA,VmTake,VmLend,VmRow,VmSort,VmSort2,VmSort3,VmSortI,VmIns,VmIns2,VmDefer,VmSort4,VmReads,VmReadsA,VmBelowS,VmBelowG,VmDet,VmDet2,VmOrd.
-/
import Derived.Test.YtgonfionbbhmkaaGreatDoorVmC
import Derived.LaidMore
import Derived.MakeChecks
import Derived.OpenShut
import Derived.Lib.LaidTab
import Derived.Below
import Derived.JoinedCond
import Derived.Lib.SliceRun
import Derived.Sort.Row
import Derived.Sort.Grow
import Derived.Sort.EncStr
import Derived.Lib.SlicesCompact
import Derived.Sort.Defs
import Derived.Sort.Statements
import Derived.Lib.BitFns
import Derived.Laws.IdiomCopy
import Derived.Lib.AppendZerosOnto
import Derived.Defers
import Derived.Shelf.GgSortFunc.InsertionK
import Derived.Calls
namespace Go.Vm
open Go.ChangeShapes Go.RowKit Go.WideShapes Go.ChangeAt Go.WideMaps Go.WideElems
theorem bG7 {P:Program} {W:World} {nm:String} {g:Nat} {t e:TypeId} {n:Nat} {k:IntKind} {l:List Int} (hg:P.globalNamed nm=some g) (hty:(P.globals[g]?).map (·.type)=some t) (ht:P.underlying t=some (.array n e)) (he:P.underlying e=some (.int k)) (h1:P.cellsOf e=1) (hts:P.cellsOf t=n) (hn:l.length=n)
  (h:laidMet P [(nm,.agg (l.map fun i=>.lit (.int k i)))] W):rY (vK W) W g (l.flatMap (cI k)):=by
 obtain ⟨ps,⟨g0,t0,cs0,f0,p0,q0,hg0,ht0,hv0,hd0,_,_⟩,_,_⟩:=h
 obtain rfl:=Option.some.inj (hg.symm.trans hg0)
 obtain rfl:=Option.some.inj (hty.symm.trans ht0)
 obtain ⟨xs,m,rfl,hx,hlen,hxl,hel⟩:=DataW.trod_array ht hd0
 simp only [Prod.mk.injEq,DataW.agg.injEq] at hx
 have hheap:∃ E fz,W.heap[g]? = some (.cells cs0 E fz):=by
  have hv:=hv0
  simp only [World.var?,hg,Option.bind_some] at hv
  split at hv
  ·rename_i c E fz hh
   cases hv
   exact ⟨E,fz,hh⟩
  ·cases hv
 obtain ⟨E,fz,hh⟩:=hheap
 have hfl:∀ (l:List Int),l.flatMap (cI k)=l.map fun i=>.v (.int k i):=by
  intro l
  induction l with
  | nil=>rfl
  | cons x l ih=>rw [List.flatMap_cons,ih]; rfl
 rw [hfl]
 have hsize:cs0.size=n:=by
  have h0:=hlen
  simp only [Array.length_toList,hts] at h0
  exact h0
 refine ⟨cs0,E,fz,iT hh,hh,by rw [List.length_map,hn,hsize],RCs.dJ _ 0 fun j x hx'=>?_⟩
 rw [List.getElem?_map,Option.map_eq_some_iff] at hx'
 obtain ⟨i,hi,rfl⟩:=hx'
 have hjl:j < l.length:=(List.getElem?_eq_some_iff.1 hi).1
 have hj:=hel j (by omega)
 rw [List.getElem?_eq_getElem (by omega),h1,Nat.mul_one] at hj
 obtain ⟨a,ha1,ha2,_⟩:=DataW.trod_int he hj
 have hxj:(xs.map (·.1))[j]? = (l.map fun i=>(DataW.lit (.int k i):DataW Unit))[j]? := by rw [hx.1]
 rw [List.getElem?_map,List.getElem?_map,hi,List.getElem?_eq_getElem (show j < xs.length by omega),ha2] at hxj
 simp only [Option.map_some,Option.some.injEq,DataW.lit.injEq,Lit.int.injEq,true_and] at hxj
 subst hxj
 have hc:cs0[j]? = some (.int k a):=by
  have:=congrArg (fun l:List Value=>l[0]?) ha1
  simpa [List.getElem?_take,List.getElem?_drop] using this
 exact ⟨_,by simpa using hc,by unfold RD; exact ⟨rfl,rfl⟩⟩
end Go.Vm
namespace Go.Vm
open Go.RowKit
section
variable {P:Program} {S:Nat→Prop} {w:World}
theorem aG.cL0 {k g:Nat} {cs:List Dat} (hk:iY P k) {args:List AV} {us:List Value} {res:AV} {u:Value} (hargs:aD5 args=some us) (hal:decide (args.length < aS)=true) (hres:aZ7 res=some u)
  (h:∀ (w:World) (S:Nat→Prop),rY S w g cs→Calls P k us.toArray w fun e w'=>e=.returned u∧Below w.heap.size w w'):aG P k args [.glo g cs] res [.glo g cs]:=by
 have hal':=of_decide_eq_true hal
 refine ⟨hk,fun w S β vs hvs hm=>?_⟩
 obtain ⟨h1,h2⟩:=sN hargs
 have hvu:vs=us:=by
  apply List.ext_getElem?
  intro i
  rcases Nat.lt_or_ge i args.length with hi | hi
  ·have ha:args[i]? = some args[i]:=List.getElem?_eq_getElem hi
   obtain ⟨u',hu',hv⟩:=h2 i _ ha
   obtain ⟨u0,hr,hu0⟩:=hm.rel i
   rw [bY hi,List.getD_eq_getElem?_getD,ha,Option.getD_some] at hr
   have hvi:vs[i]? = some vs[i]:=List.getElem?_eq_getElem (by omega)
   have e1:=hu0 vs[i] (by simp [hvi])
   have hfl:=(rE (S:=S) (w:=w) (β:=β) hv (i,0)).2.2.2
   have e2:=aN4 hv ((dD hfl).1 hr)
   rw [hvi,hu',e1,e2]
  ·rw [List.getElem?_eq_none (by omega),List.getElem?_eq_none (by omega)]
 subst hvu
 have hgf:aX (bO args [.glo g cs]) (aD+0)=.glo g cs:=by
  rw [dF (by simp only [aS] at hal' ⊢; omega),if_pos (by simp)]
  rfl
 have hglo:rY S w g cs:=by
  obtain ⟨u0,hr,_⟩:=hm.rel (aD+0)
  rw [hgf] at hr
  exact hr.2.2
 refine (h w S hglo).mono ?_
 rintro e w' ⟨rfl,hb⟩
 have hg:=Mem.grow hm w' hb.block hb.size hb.os hb.tape hb.output
 have hr:∀ β',dV (dN []) S w' β' aS res u:=fun β'=>(xS hres β').1
 refine ⟨u,S,β,rfl,hg.cA4 (vout:=[.glo g cs]) (fun j a ha=>?_) hr (xS (S:=S) (w:=w') hres β).2.1 (xS (S:=S) (w:=w') hres β).2.2 (fun x u' hx hl=>aF9 (by rw [← h1]; have:aD=aS+1:=rfl; omega) hx hl)⟩
 cases j with
 | zero =>
  simp only [List.getElem?_cons_zero,Option.some.injEq] at ha
  subst ha
  exact ⟨hgf,rfl⟩
 | succ j=>simp at ha
theorem cN6 {g : Nat} (h1 : (P.funcs[g]?).map (fun f => f.body.isNone) = some false) (h2 : (P.funcs[g]?).map (fun f => f.name == "runtime.NumGoroutine") = some false) : ∀ args w,(callFunc g args).run P w = .ok (.enter g args) w := by
 intro args w
 simp only [Option.map_eq_some_iff] at h1 h2
 obtain ⟨f,hf,h1⟩:=h1
 obtain ⟨f',hf',h2⟩:=h2
 rw [hf] at hf'
 cases hf'
 simp only [callFunc,Sem.run_bind,run_program,Result.andThen_ok,hf,h2,Bool.false_eq_true,if_false,h1,Sem.run_pure]
theorem TabIs.cW4 {nm:String} {g:Nat} {k:IntKind} {zs:List Int} (hg:P.globalNamed nm=some g) (h:rY S w g (zs.flatMap (cI k))):Lib.TabIs P w nm k zs:=by
 obtain ⟨arr,E,fz,_,h2,h3,h4⟩:=h
 have hfl:∀ (l:List Int),l.flatMap (cI k)=l.map fun i=>.v (.int k i):=by
  intro l
  induction l with
  | nil=>rfl
  | cons x l ih=>rw [List.flatMap_cons,ih]; rfl
 rw [hfl] at h3 h4
 have ha:arr=(zs.map fun z=>Value.int k z).toArray:=by
  apply Array.ext'
  apply List.ext_getElem?
  intro j
  rcases Nat.lt_or_ge j zs.length with hj | hj
  ·obtain ⟨u,hu,hr⟩:=RCs.get _ 0 j (.v (.int k zs[j])) h4 (by simp [hj])
   rw [Nat.zero_add] at hu
   have e:u=Value.int k zs[j]:=hr.1
   subst e
   rw [Array.getElem?_toList,hu,List.getElem?_map,List.getElem?_eq_getElem hj]
   rfl
  ·rw [List.getElem?_eq_none (by simpa [h3] using hj),List.getElem?_eq_none (by simpa using hj)]
 simp only [Lib.TabIs,World.var?,hg,Option.bind_some,h2,ha]
theorem cN0 {S':Nat→Prop} {w':World} {a:AV} {u:Value} (h:aZ7 a=some u) {g:List (Nat×Bool)→Bool} {β:Path→Value} {x:Nat} {v:Value} (hr:dV g S' w' β x a v):v=u:=by
 unfold aZ7 at h
 split at h
 ·rename_i vs
  simp only [Option.map_eq_some_iff] at h
  obtain ⟨us,hus,rfl⟩:=h
  obtain ⟨h1,h2⟩:=sN hus
  obtain ⟨l,rfl,_,hl⟩:=hr
  have:l=us:=by
   apply List.ext_getElem?
   intro j
   rcases Nat.lt_or_ge j vs.length with hj | hj
   ·have hv:vs[j]? = some vs[j]:=List.getElem?_eq_getElem hj
    obtain ⟨u',hu',hf⟩:=h2 j _ hv
    obtain ⟨c,hc,hrc⟩:=bI.get hl j _ hv
    rw [hc,hu',aN4 hf hrc]
   ·have:=bI.len hl
    rw [List.getElem?_eq_none (by omega),List.getElem?_eq_none (by omega)]
  rw [this]
 ·obtain ⟨_,_,_,h4⟩:=rE (S:=S') (w:=w') (β:=β) h (x,0)
  exact aN4 h ((dD h4).1 hr)
theorem aG.below {k:Nat} {args:List AV} {us:List Value} {res:AV} {u:Value} (h:aG P k args [] res []) (hargs:aD5 args=some us) (hal:args.length < aS) (hres:aZ7 res=some u) (w:World) :
  Calls P k us.toArray w fun e w'=>e=.returned u∧Below w.heap.size w w':=by
 obtain ⟨h1,h2⟩:=sN hargs
 have hno:∀ y i,(aX (bO args []) y).aR i=false:=by
  intro y i
  rcases lI args [] y with hy | ⟨hy1,hy2⟩ | ⟨j,rfl⟩
  ·rw [bY hy]
   have ha:args[y]? = some (args.getD y .junk):=by simp [List.getD_eq_getElem?_getD,List.getElem?_eq_getElem hy]
   obtain ⟨u',_,hv⟩:=h2 y _ ha
   obtain ⟨_,_,h3,h4⟩:=rE (S:=fun _=>True) (w:=w) (β:=fun _=>.bool false) hv (0,0)
   cases hj:(args.getD y .junk).aR i with
   | false=>rfl
   | true =>
    have:=(nR h4 i hj).2
    rw [h3] at this; cases this
  ·rw [fQ hy1 hy2]
   cases i <;> rfl
  ·rw [dF hal,if_neg (by simp)]
   cases i <;> rfl
 have hm:Mem ⟨w,eD (bO args []) (fun _=>.bool false),fun _=>False,bT (fun _=>.bool false) ([]:List AV).length,[]⟩ [] (fun _=>False) (fun _=>.bool false) (bO args []) (fun x=>(us[x]?).or (bT (fun _=>.bool false) ([]:List AV).length x)) w:=by
  refine ⟨fun x=>?_,fun x l a hx=>?_,fun x i y j b hx=>?_,fun x i b hx=>?_,fun b hb=>hb.elim,fun b hb=>hb.elim,fun _ _ _=>rfl,rfl,rfl,rfl,Nat.le_refl _⟩
  ·have hl:bT (fun _=>.bool false) ([]:List AV).length x=none:=by
    unfold bT
    rw [if_neg (by simp)]
   rcases lI args [] x with hy | ⟨hy1,hy2⟩ | ⟨j,rfl⟩
   ·rw [bY hy]
    have ha:args[x]? = some (args.getD x .junk):=by simp [List.getD_eq_getElem?_getD,List.getElem?_eq_getElem hy]
    obtain ⟨u',hu',hv⟩:=h2 x _ ha
    obtain ⟨h5,_,_,h4⟩:=rE (S:=fun _=>False) (w:=w) (β:=fun _=>.bool false) hv (x,0)
    exact ⟨u',(dD h4).2 h5,fun u0 h0=>by rw [hl,hu'] at h0; simpa using h0.symm⟩
   ·rw [fQ hy1 hy2]
    refine ⟨undef,trivial,fun u0 h0=>?_⟩
    rw [hl,List.getElem?_eq_none (by omega)] at h0
    cases h0
   ·rw [dF hal,if_neg (by simp)]
    refine ⟨undef,trivial,fun u0 h0=>?_⟩
    rw [hl,List.getElem?_eq_none (by simp only [aD,aS] at *; omega)] at h0
    cases h0
  ·rcases lI args [] x with hy | ⟨hy1,hy2⟩ | ⟨j,rfl⟩
   ·rw [bY hy] at hx
    have ha:args[x]? = some (args.getD x .junk):=by simp [List.getD_eq_getElem?_getD,List.getElem?_eq_getElem hy]
    obtain ⟨u',_,hv⟩:=h2 x _ ha
    rw [hx] at hv
    cases hv
   ·rw [fQ hy1 hy2] at hx; cases hx
   ·rw [dF hal,if_neg (by simp)] at hx; cases hx
  ·rw [hno] at hx; cases hx
  ·rw [hno] at hx; cases hx
 refine (h.2 w (fun _=>False) (fun _=>.bool false) us h1.symm hm).mono ?_
 rintro e w' ⟨v,S',β',rfl,hm'⟩
 have hv:v=u:=by
  obtain ⟨v0,hr,hu0⟩:=hm'.rel aS
  rw [aV] at hr
  have e1:=hu0 v (by simp)
  subst e1
  exact cN0 hres hr
 subst hv
 refine ⟨rfl,⟨hm'.os,hm'.tape,hm'.output,hm'.size,fun b hb=>hm'.old b hb ?_⟩⟩
 rintro ⟨y,i,ho,_⟩
 rw [hno] at ho; cases ho
end
end Go.Vm
namespace Go.Vm
open Go.ChangeShapes Go.RowKit Go.WideShapes Go.ChangeAt Go.WideMaps Go.WideElems
abbrev bH4:=List (Nat×List Dat)
def gvs (gs:bH4):List AV:=gs.map fun g=>.glo g.1 g.2
def gbs (gs:bH4):Path→Value:=fun p=>match gs[p.1 - aD]? with
 | some g=>if aD≤p.1 then .pointer (some ⟨g.1,0,none⟩) else .bool false
 | none=>.bool false
theorem bJ9 {gs:bH4} {j:Nat} {g:Nat×List Dat} (h:gs[j]? = some g) (i:Nat):gbs gs (aD+j,i)=.pointer (some ⟨g.1,0,none⟩):=by
 simp [gbs,h]
theorem bT2 {W:World} {args:List AV} {us:List Value} {gs:bH4} (hlen:us.length=args.length) (hn:args.length < aS) (hd:args.all AV.jD=true) (hr:bI (fun _ a u=>bA (vK W) W (fun _=>.bool false) (0,0) a u) 0 args us)
  (hg:∀ g∈gs,rY (vK W) W g.1 g.2) :
  (∀ x i,(aX (bO args (gvs gs)) x).aR i=false)∧Mem ⟨W,eD (bO args (gvs gs)) (gbs gs),vK W,bT (gbs gs) (gvs gs).length,[]⟩ [] (vK W) (gbs gs) (bO args (gvs gs)) (fun x=>(us[x]?).or (bT (gbs gs) (gvs gs).length x)) W:=by
 have hgl:(gvs gs).length=gs.length:=by simp [gvs]
 have hat:∀ x,(∃ a u,aX (bO args (gvs gs)) x=a∧a.jD=true∧us[x]? = some u∧bA (vK W) W (fun _=>.bool false) (0,0) a u) ∨
   (∃ j g,x=aD+j∧gs[j]? = some g∧aX (bO args (gvs gs)) x=.glo g.1 g.2∧us[x]? = none∧bT (gbs gs) (gvs gs).length x=some (.pointer (some ⟨g.1,0,none⟩))) ∨
   (aX (bO args (gvs gs)) x=.junk∧us[x]? = none∧bT (gbs gs) (gvs gs).length x=none):=by
  intro x
  rcases lI args (gvs gs) x with h | ⟨h1,h2⟩ | ⟨j,rfl⟩
  ·left
   obtain ⟨u,hu,hru⟩:=bI.get hr x args[x] (by simp [h])
   refine ⟨args[x],u,?_,(List.all_eq_true.1 hd) _ (List.getElem_mem h),by simpa using hu,hru⟩
   rw [bY h,List.getD_eq_getElem?_getD]
   simp [h]
  ·right; right
   refine ⟨fQ h1 h2,by simp; omega,?_⟩
   unfold bT
   rw [if_neg (by omega)]
  ·right
   have hu:us[aD+j]? = none:=by
    rw [List.getElem?_eq_none]
    simp only [aD,aS] at *
    omega
   rcases Nat.lt_or_ge j gs.length with hj | hj
   ·left
    have hgj:gs[j]? = some gs[j]:=List.getElem?_eq_getElem hj
    refine ⟨j,gs[j],rfl,hgj,?_,hu,?_⟩
    ·rw [dF hn,if_pos (by omega),List.getD_eq_getElem?_getD]
     simp [gvs,hj]
    ·unfold bT
     rw [if_pos ⟨by omega,by omega⟩,bJ9 hgj]
   ·right
    refine ⟨by rw [dF hn,if_neg (by omega)],hu,?_⟩
    unfold bT
    rw [if_neg (by omega)]
 have hown:∀ x i,(aX (bO args (gvs gs)) x).aR i=false:=by
  intro x i
  rcases hat x with ⟨a,u,h1,h2,_,_⟩ | ⟨j,g,_,_,h1,_⟩ | ⟨h1,_,_⟩
  ·rw [h1]
   cases a <;> first | (cases i <;> rfl) | (simp [AV.jD] at h2)
  ·rw [h1]; cases i <;> rfl
  ·rw [h1]; cases i <;> rfl
 refine ⟨hown,fun x=>?_,fun x l a h=>?_,fun x i y j b h=>?_,fun x i b h=>?_,fun b hb=>⟨hb,.inl hb⟩,fun _ h=>h,fun _ _ _=>rfl,rfl,rfl,rfl,Nat.le_refl _⟩
 ·rcases hat x with ⟨a,u,h1,h2,h3,h4⟩ | ⟨j,g,rfl,hgj,h1,h2,h3⟩ | ⟨h1,h2,h3⟩
  ·refine ⟨u,?_,fun u' hu'=>by simp [h3] at hu'; exact hu'.symm⟩
   rw [h1]
   cases a with
   | d y=>exact (dD rfl).2 h4
   | agg y=>exact (dD rfl).2 h4
   | _=>simp [AV.jD] at h2
  ·refine ⟨.pointer (some ⟨g.1,0,none⟩),?_,fun u' hu'=>by
    simp only [h2,h3] at hu'
    simpa using hu'.symm⟩
   rw [h1]
   exact (dD rfl).2 ⟨(bJ9 hgj 0).symm,rfl,hg g (List.mem_of_getElem? hgj)⟩
  ·refine ⟨undef,?_,fun u' hu'=>by
    simp only [h2,h3] at hu'
    cases hu'⟩
   rw [h1]
   exact (dD rfl).2 trivial
 ·rcases hat x with ⟨a',u,h1,h2,_,_⟩ | ⟨_,_,_,_,h1,_⟩ | ⟨h1,_,_⟩
  ·rw [h] at h1
   subst h1
   simp [AV.jD] at h2
  ·rw [h] at h1; cases h1
  ·rw [h] at h1; cases h1
 ·rw [hown] at h; cases h
 ·rw [hown] at h; cases h
theorem aG.dA7 {P:Program} {k:Nat} {gs:bH4} {args:List AV} {us:List Value} {W:World} {b:Bool} (h:aG P k args (gvs gs) (.d (.v (.bool b))) (gvs gs)) (hlen:us.length=args.length) (hn:args.length < aS) (hd:args.all AV.jD=true)
  (hr:bI (fun _ a u=>bA (vK W) W (fun _=>.bool false) (0,0) a u) 0 args us) (hg:∀ g∈gs,rY (vK W) W g.1 g.2) :
  Calls P k us.toArray W fun e W'=>e=.returned (.bool b)∧pQ W W':=by
 obtain ⟨hown,hm0⟩:=bT2 hlen hn hd hr hg
 refine (h.2 W (vK W) (gbs gs) us hlen hm0).mono fun e W' ⟨u,S',β',he,hm⟩=>?_
 obtain ⟨v,hv1,hv2⟩:=hm.rel aS
 have hu:=hv2 u (by simp)
 subst hu
 rw [show aX ((aS,AV.d (.v (.bool b))) :: jG aD (gvs gs)) aS=.d (.v (.bool b)) from aV _ _ _] at hv1
 have hb:u=.bool b:=hv1.1
 refine ⟨by rw [he,hb],hm.os,hm.output,hm.size,fun i hi=>hm.old i hi ?_⟩
 rintro ⟨x,j,hx,_⟩
 rw [hown] at hx
 cases hx
theorem bC2 {β:Type} {H:Type} {enc:TypeId×Value→H} {P:Program} {k:Nat} (gl:bH4) {f:Func} {s:ChangeSpec} {av:β→List AV} {Q:β→Prop} {r:Bool} {tb:TypeId} {ts:List TypeId} {apart fresh handsOn:Bool}
  (hts:f.params.toList=ts) (hop:yG P ts av Q) (hav:∀ b,(av b).length < aS) (hlaw:∀ b,Q b→aG P k (av b) (gvs gl) (.d (.v (.bool r))) (gvs gl))
  (hlaid:laidOutB P=true) (hread:(ts.all fun t=>P.readableRec t && decide (t < P.types.size))=true) (hvars:s.vars=[]) (hres:f.resultTypes=#[tb]) (htb:P.underlying tb=some .bool)
  (hspec:∀ ds:List (DataW H),ds.length=ts.length→s.fn H (ds++[])={ results:=[.lit (.bool r)],args:=ds })
  (W:World) (base:Nat) (args:Array Value) (ds gs:List (DataW H)) (before:List MemPlace) (hg:∀ g∈gl,rY (vK W) W g.1 g.2)
  (hval:∀ (j:Nat) t v,f.params[j]? = some t→args[j]? = some v→Value.okWide P W .any base t v)
  (hW:DataW.Whole enc P f.params.toList s.vars apart W args.toList ds gs before) :
  Calls P k args W fun e W'=>∃ v,e=.returned v∧s.post enc P f apart fresh handsOn false W args v W':=by
 subst hts
 have hW':=hW
 have hlt:=hW.lt
 obtain ⟨p,q,hA,hV,rfl,hfz,hnd⟩:=hW
 rw [hvars] at hV
 obtain ⟨rfl,rfl⟩:gs=[]∧q=[]:=by
  cases gs with
  | nil=>exact ⟨rfl,hV⟩
  | cons=>exact hV.elim
 obtain ⟨b,hQ,hvl,hda,hr⟩:=hop H enc W base args.toList ds p (fun j t v h1 h2=>hval j t v (by simpa using h1) (by simpa using h2)) hA
 have hdl:∀ {ts:List TypeId} {vs:List Value} {ds:List (DataW H)} {ps:List MemPlace},DataW.TrodAll enc P W 0 (fun _=>true) true ts vs ds ps→ds.length=ts.length:=by
  intro ts
  induction ts with
  | nil=>intro vs ds ps h; cases vs <;> cases ds <;> first | rfl | exact h.elim
  | cons t ts ih =>
   intro vs ds ps h
   cases vs with
   | nil=>exact h.elim
   | cons v vs =>
    cases ds with
    | nil=>exact h.elim
    | cons d ds =>
     obtain ⟨_,_,_,h2,_⟩:=h
     simp [ih h2]
 have hsp:=hspec ds (hdl hA)
 have hc:=(hlaw b hQ).dA7 (W:=W) (us:=args.toList) hvl (hav b) hda (hr 0) hg
 rw [show args.toList.toArray=args from by simp] at hc
 refine hc.mono fun e W' ⟨he,hk⟩=>⟨_,he,?_⟩
 refine cI5 (pa:=p) (pv:=[]) hW' hk (fun _ _ _=>?_) (fun sp hb=>?_) (fun sp hb=>?_) (by simp) ?_
 ·rw [hsp,hres]
  exact trodAll_mk1 (shut_bool htb r)
 ·rw [hsp]
  exact aN8 hlaid hk sp hread hA (fun x hx=>hlt x (by simp [hx])) (fun x hx=>hb x (by simp [hx]))
 ·rw [hsp,hvars]
  rfl
 ·exact ok_one hres rfl (okWide_bool_mk htb r)
theorem bQ1 {P:Program} {W:World} {nm:String} {d:DataW Unit}:∀ {lay:List (String×DataW Unit)},(nm,d)∈lay→laidMet P lay W→laidMet P [(nm,d)] W:=by
 intro lay hmem h
 obtain ⟨ps,h1,h2,h3⟩:=h
 have key:∀ {lay:List (String×DataW Unit)} {ps:List MemPlace},(nm,d)∈lay→DataW.LaidVars P W lay ps→∃ qs,DataW.LaidVars P W [(nm,d)] qs∧∃ ps1 ps2,ps=ps1++qs++ps2:=by
  intro lay
  induction lay with
  | nil=>intro ps hm _; cases hm
  | cons x lay ih =>
   intro ps hm hl
   obtain ⟨y,e⟩:=x
   obtain ⟨g0,t0,cs0,f0,p0,q0,a1,a2,a3,a4,a5,a6⟩:=hl
   rcases List.mem_cons.1 hm with he | hm
   ·simp only [Prod.mk.injEq] at he
    obtain ⟨rfl,rfl⟩:=he
    exact ⟨MemPlace.row ⟨g0,0,none⟩ cs0.size++p0++[],⟨g0,t0,cs0,f0,p0,[],a1,a2,a3,a4,rfl,rfl⟩,[],q0,by simp [a6]⟩
   ·obtain ⟨qs,h4,ps1,ps2,h5⟩:=ih hm a5
    exact ⟨qs,h4,MemPlace.row ⟨g0,0,none⟩ cs0.size++p0++ps1,ps2,by rw [a6,h5]; simp [List.append_assoc]⟩
 obtain ⟨qs,h4,ps1,ps2,rfl⟩:=key hmem h1
 refine ⟨qs,h4,?_,fun b off hb=>h3 b off (by simp [hb])⟩
 rw [List.append_assoc] at h2
 exact (List.nodup_append.1 (List.nodup_append.1 h2).2.1).1
end Go.Vm
namespace Go.Vm
theorem wrap_u8 {x:Int} (h:0≤x∧x < 256):IntKind.u8.wrap x=x:=by
 unfold IntKind.wrap
 simp [IntKind.bits,IntKind.signed]
 omega
end Go.Vm
namespace Go.Vm
open Go.ChangeShapes Go.WideShapes Go.ChangeAt Go.WideMaps Go.WideElems Go.RowKit
section
variable {P:Program} {t:TypeId}
end
end Go.Vm
namespace Go.Vm
open Go.ChangeShapes Go.RowKit Go.WideShapes
end Go.Vm
namespace Go.Vm
open Go.RowKit
section
variable {P:Program} {S:Nat→Prop} {β:Path→Value} {w:World}
abbrev bI5 (args:List AV) (us:List Value) (S:Nat→Prop) (β:Path→Value) (w:World):Prop :=
 Mem ⟨w,eD (bO args []) β,S,bT β ([]:List AV).length,[]⟩ [] S β (bO args []) (fun x=>(us[x]?).or (bT β ([]:List AV).length x)) w
theorem bI5.own {args:List AV} {us:List Value} (hm:bI5 args us S β w) (hl:us.length=args.length) {i:Nat} {κ:TypeId} {sz:Nat} {es:List (List Dat)} (h:args[i]? = some (.own κ sz es)) :
  ∃ u,us[i]? = some u∧u=β (i,0)∧OwnAt S w u κ sz es∧∀ b,blk u=some b→eD (bO args []) β b∧¬ S b:=by
 have hi:i < args.length:=(List.getElem?_eq_some_iff.1 h).1
 obtain ⟨u0,hr,hu⟩:=hm.rel i
 have hf:aX (bO args []) i=.own κ sz es:=by rw [bY hi,List.getD_eq_getElem?_getD,h]; rfl
 rw [hf] at hr
 have hui:us[i]? = some us[i]:=List.getElem?_eq_getElem (by omega)
 have e:=hu us[i] (by simp [hui])
 refine ⟨us[i],hui,e.trans hr.1,by rw [e]; exact hr.2,fun b hb=>?_⟩
 have ho:(aX (bO args []) i).aR 0=true:=by rw [hf]; rfl
 have hb':blk (β (i,0))=some b:=by rw [← hr.1,← e]; exact hb
 exact ⟨⟨i,0,ho,hb'⟩,(hm.fre i 0 b ho hb').1⟩
theorem bI5.flat {args:List AV} {us:List Value} (hm:bI5 args us S β w) (hl:us.length=args.length) {i:Nat} {x:Value} (h:args[i]? = some (.d (.v x))):us[i]? = some x:=by
 have hi:i < args.length:=(List.getElem?_eq_some_iff.1 h).1
 obtain ⟨u0,hr,hu⟩:=hm.rel i
 have hf:aX (bO args []) i=.d (.v x):=by rw [bY hi,List.getD_eq_getElem?_getD,h]; rfl
 rw [hf] at hr
 have hui:us[i]? = some us[i]:=List.getElem?_eq_getElem (by omega)
 have e:=hu us[i] (by simp [hui])
 have h0:u0=x:=hr.1
 rw [hui,e,h0]
theorem mP (b:Nat) (E:TypeId) (fz:Nat×Nat):∀ (vs:List Value) (o:Nat) (arr:Array Value) (w:World),w.heap[b]? = some (.cells arr E fz)→o+vs.length≤arr.size →
  w.setCells b o vs=w.setRow b (spl o vs arr.toList).toArray
 | [],o,arr,w,hb,_=>by
  have e:spl o ([]:List Value) arr.toList=arr.toList:=by simp [spl]
  rw [World.setCells,e,Array.toArray_toList,setRow_self w b arr E fz hb]
 | v :: vs,o,arr,w,hb,hl=>by
  have hl':o+(vs.length+1)≤arr.size:=by simpa using hl
  have h1:w.setCell ⟨b,o,none⟩ v=w.setRow b (arr.setIfInBounds o v):=setCell_eq_setRow w b o arr E fz v hb
  rw [World.setCells,h1,mP b E fz vs (o+1) (arr.setIfInBounds o v) _ (setRow_heap w b arr _ E fz hb) (by simp; omega),setRow_setRow]
  congr 2
  have e:=list_seg_step arr.toList o v vs (by simpa using hl)
  simpa [spl,Array.toList_setIfInBounds] using e
theorem bF9 {b off:Nat} {arr:Array Value} {E:TypeId} {fz:Nat×Nat} (hb:w.heap[b]? = some (.cells arr E fz)) (m:Nat):∀ t v,((arr.toList.drop off).take m)[t]? = some v→w.cell? ⟨b,off+t,none⟩=some v:=by
 intro t v hv
 rw [List.getElem?_take] at hv
 split at hv
 case isFalse=>cases hv
 rw [List.getElem?_drop] at hv
 simp only [World.cell?,hb,Option.isSome_none,Bool.false_eq_true,if_false]
 rw [← hv,Array.getElem?_toList]
theorem aL9 {b:Nat} {arr:Array Value} {E:TypeId} {fz:Nat×Nat} (hb:w.heap[b]? = some (.cells arr E fz)) (hfz:aR2 fz arr.size) (o:Nat) (ho:o < arr.size):w.frozen? ⟨b,o,none⟩=false:=by
 simp only [World.frozen?,hb]
 have:=hfz.out o ho
 simp only [Bool.and_eq_false_iff,decide_eq_false_iff_not]
 omega
theorem REs.ones {g:Nat→Option Value} {sz:Nat} {es:List (List Dat)} {o:Nat} (h:REs S w sz es g o) (j:Nat) (hj:j < es.length * sz):∀ v,g (o+j)=some v→v.oneCell'=true:=by
 intro v hv
 have hsz:0 < sz:=by rcases Nat.eq_zero_or_pos sz with h0 | h0 <;> simp_all
 have hq:j / sz < es.length:=Nat.div_lt_of_lt_mul (by rwa [Nat.mul_comm])
 obtain ⟨h1,h2⟩:=REs.get es o (j / sz) _ h (List.getElem?_eq_getElem hq)
 have hr:j % sz < (es[j / sz]).length:=by rw [h1]; exact Nat.mod_lt _ hsz
 obtain ⟨u,hu,hrd⟩:=RCs.get _ _ (j % sz) _ h2 (List.getElem?_eq_getElem hr)
 have e:o+j / sz * sz+j % sz=o+j:=by
  have:=Nat.div_add_mod j sz
  rw [Nat.mul_comm] at this
  omega
 rw [e,hv] at hu
 cases hu
 exact xB _ _ hrd
theorem oI (b:Nat) (vs:List Value) (o:Nat) (w:World) (h:∀ j,j < vs.length→(w.cell? ⟨b,o+j,none⟩).isSome=true) (k:Nat) (hk:(w.cell? ⟨b,k,none⟩).isSome=true):((w.setCells b o vs).cell? ⟨b,k,none⟩).isSome=true:=by
 by_cases hin:o≤k∧k < o+vs.length
 ·have:=World.cell?_setCells_in b vs o w h (k - o) (by omega)
  rw [show o+(k - o)=k by omega] at this
  rw [this]
  rfl
 ·rw [World.cell?_setCells_out b vs o w ⟨b,k,none⟩ (fun _ _=>by show k < o∨o+vs.length≤k; omega)]
  exact hk
end
end Go.Vm
namespace Go.Vm
open Go.RowKit
section
variable {P:Program} {e:Env} {G:dW} {S:Nat→Prop} {β:Path→Value} {fr:Fr} {vals:Nat→Option Value} {w:World}
theorem Mem.more (hm:Mem e G S β fr vals w) {w':World} (hold:∀ b,b < w.heap.size→w'.heap[b]? = w.heap[b]?) (hsize:w.heap.size≤w'.heap.size) (hos:w'.os=w.os) (htape:w'.tape=w.tape) (hout:w'.output=w.output):Mem e G S β fr vals w':=by
 refine ⟨fun x=>?_,hm.gok,hm.dis,hm.fre,fun b hb=>⟨Nat.lt_of_lt_of_le (hm.stb b hb).1 hsize,(hm.stb b hb).2⟩,hm.s0,fun b h1 h2=>(hold b (Nat.lt_of_lt_of_le h1 hm.size)).trans (hm.old b h1 h2),hos.trans hm.os,htape.trans hm.tape,hout.trans hm.output,Nat.le_trans hm.size hsize⟩
 obtain ⟨u,hr,hu⟩:=hm.rel x
 exact ⟨u,hr.turn (fun _ _ _=>rfl) (fun _ h=>h) (fun b hb=>hold b (hm.stb b hb).1) (fun _=>rfl) (fun j ho b hb=>hold b (hm.blt ho hb)) (fun _ _=>rfl),hu⟩
theorem Mem.cR1 (hm:Mem e G S β fr vals w) (t:Nat) {fr':Fr} {vals':Nat→Option Value} (h:∀ x,x≠t→aX fr' x=aX fr x∨aX fr' x=.junk) (ht:aX fr' t=.tup []) (hv:∀ x,x≠t→∀ u,vals' x=some u→vals x=some u) (hvt:∀ u,vals' t=some u→u=.tuple #[]):Mem e G S β fr' vals' w:=by
 have hon:∀ x i,(aX fr' x).aR i=true→x≠t∧(aX fr x).aR i=true:=by
  intro x i ho
  by_cases hx:x=t
  ·subst hx
   rw [ht] at ho
   cases i <;> simp [AV.aR,AV.bV] at ho
  ·refine ⟨hx,?_⟩
   rcases h x hx with h1 | h1
   ·rw [← h1]; exact ho
   ·rw [h1] at ho
    cases i <;> simp [AV.aR,AV.bV] at ho
 refine ⟨fun x=>?_,fun x l a hx=>?_,fun x i y j b h1 h2=>hm.dis x i y j b (hon x i h1).2 (hon y j h2).2,fun x i b h1=>hm.fre x i b (hon x i h1).2,hm.stb,hm.s0,hm.old,hm.os,hm.tape,hm.output,hm.size⟩
 ·by_cases hx:x=t
  ·subst hx
   rw [ht]
   exact ⟨.tuple #[],⟨[],rfl,rfl,by simp [kN,bI]⟩,hvt⟩
  ·obtain ⟨u,hr,hu⟩:=hm.rel x
   rcases h x hx with h1 | h1
   ·exact ⟨u,by rw [h1]; exact hr,fun u' hh=>hu u' (hv x hx u' hh)⟩
   ·exact ⟨u,by rw [h1]; exact trivial,fun u' hh=>hu u' (hv x hx u' hh)⟩
 ·by_cases hx':x=t
  ·subst hx'; rw [ht] at hx; cases hx
  ·rcases h x hx' with h1 | h1
   ·exact hm.gok x l a (by rw [← h1]; exact hx)
   ·rw [h1] at hx; cases hx
theorem aG.dC2 {k:Nat} (hk:iY P k) {q:Nat} {more:List AV} {V V':AV} {κ:TypeId} {sz:Nat} {es es':List (List Dat)} (hn:more.length < 1000)
  (hq:fH (bO (.vw (aD,q) :: more) [V]) (aD,q)=.own κ sz es)
  (hV:aX (fV (bO (.vw (aD,q) :: more) [V]) (aD,q) (.own κ sz es')) aD=V')
  (h:∀ (w:World) (S:Nat→Prop) (u:Value) (us:List Value),us.length=more.length→(∀ (i:Nat) (x:Value),more[i]? = some (AV.d (.v x))→us[i]? = some x)→(∀ (i f:Nat),more[i]? = some (AV.clo f [])→us[i]? = some (Value.func (.func f) #[] #[])) →
   OwnAt S w u κ sz es→(∀ b,blk u=some b→¬ S b)→(∀ b,S b→b < w.heap.size)→Calls P k (u :: us).toArray w fun e w'=>e=.returned (.tuple #[])∧OwnAt S w' u κ sz es' ∧
    (∀ b,b < w.heap.size→blk u≠some b→w'.heap[b]? = w.heap[b]?)∧w.heap.size≤w'.heap.size∧w'.os=w.os∧w'.tape=w.tape∧w'.output=w.output) :
  aG P k (.vw (aD,q) :: more) [V] (.tup []) [V']:=by
 refine ⟨hk,fun w S β us hl hm=>?_⟩
 obtain ⟨u,us,rfl⟩:∃ u us',us=u :: us':=by
  cases us with
  | nil=>simp at hl
  | cons a b=>exact ⟨a,b,rfl⟩
 have hl':us.length=more.length:=by simpa using hl
 have hu0:u=β (aD,q):=by
  obtain ⟨u0,hr,hu⟩:=hm.rel 0
  have hf:aX (bO (.vw (aD,q) :: more) [V]) 0=.vw (aD,q):=by rw [bY (by simp)]; rfl
  rw [hf] at hr
  have e1:=hu u (by simp)
  have e2:u0=β (aD,q):=hr
  rw [e1,e2]
 have hown:=jW hm hq
 have hno:∀ b,blk (β (aD,q))=some b→¬ S b:=fun b hb=>(hm.fre aD q b (kH hq) hb).1
 have hfl:∀ (i:Nat) (x:Value),more[i]? = some (AV.d (.v x))→us[i]? = some x:=by
  intro i x hi
  obtain ⟨u1,hr,hu⟩:=hm.rel (i+1)
  have him:i < more.length:=(List.getElem?_eq_some_iff.1 hi).1
  have hf:aX (bO (.vw (aD,q) :: more) [V]) (i+1)=.d (.v x):=by rw [bY (by simpa using him),List.getD_eq_getElem?_getD]; simp [hi]
  rw [hf] at hr
  have h0:u1=x:=hr.1
  have hus:us[i]? = some us[i]:=List.getElem?_eq_getElem (by omega)
  have e1:=hu us[i] (by simp [hus])
  rw [hus,e1,h0]
 have hcl:∀ (i f:Nat),more[i]? = some (AV.clo f [])→us[i]? = some (Value.func (.func f) #[] #[]):=by
  intro i f hi
  obtain ⟨u1,hr,hu⟩:=hm.rel (i+1)
  have him:i < more.length:=(List.getElem?_eq_some_iff.1 hi).1
  have hf:aX (bO (.vw (aD,q) :: more) [V]) (i+1)=.clo f []:=by rw [bY (by simpa using him),List.getD_eq_getElem?_getD]; simp [hi]
  rw [hf] at hr
  obtain ⟨l,h0,h1⟩:=hr
  have hl0:l=[]:=by
   cases l with
   | nil=>rfl
   | cons a b=>exact absurd h1 (by simp [bI])
  subst hl0
  have hus:us[i]? = some us[i]:=List.getElem?_eq_getElem (by omega)
  have e1:=hu us[i] (by simp [hus])
  rw [hus,e1,h0]
 rw [hu0]
 refine (h w S (β (aD,q)) us hl' hfl hcl hown hno (fun b hb=>(hm.stb b hb).1)).mono ?_
 rintro ee w' ⟨rfl,ho',hold,hsize,hos,htape,hout⟩
 have hm2:Mem ⟨w,eD (bO (.vw (aD,q) :: more) [V]) β,S,bT β ([V]:List AV).length,[]⟩ [] S β (fV (bO (.vw (aD,q) :: more) [V]) (aD,q) (.own κ sz es')) (fun x=>((u :: us)[x]?).or (bT β ([V]:List AV).length x)) w':=by
  cases hb:blk (β (aD,q)) with
  | none =>
   have hm1:=hm.more (w':=w') (fun b hb'=>hold b hb' (by rw [hb]; simp)) hsize hos htape hout
   exact hm1.fV hq rfl (S':=S) ⟨rfl,ho'⟩ (fun _ h=>h) (fun _ h=>.inl h) (fun _ _=>rfl) rfl rfl rfl rfl
  | some b =>
   have hlt:b < w.heap.size:=hown.lt hb
   have hm1:=hm.more (w':={ w' with heap:=w'.heap.setIfInBounds b w.heap[b] }) (fun c hc=>by
    by_cases hcb:c=b
    ·subst hcb
     simp [hlt,Nat.lt_of_lt_of_le hlt hsize]
    ·rw [← hold c hc (by rw [hb]; intro h; exact hcb (Option.some.inj h).symm)]
     simp [Array.getElem?_setIfInBounds,Ne.symm hcb]) (by simpa using hsize) hos htape hout
   refine hm1.fV hq rfl (S':=S) (w':=w') ⟨rfl,ho'⟩ (fun _ h=>h) (fun _ h=>.inl h) (fun c hc=>?_) (by simp) rfl rfl rfl
   have hcb:¬ b=c:=fun h=>hc (by rw [hb,h])
   simp [Array.getElem?_setIfInBounds,hcb]
 refine ⟨.tuple #[],S,β,rfl,hm2.cR1 aS (fun x hx=>?_) (aV _ _ _) (fun x hx u' hu'=>?_) (fun u' hu'=>by simpa using hu'.symm)⟩
 ·rw [bL _ _ (Ne.symm hx)]
  by_cases hxv:x=aD
  ·subst hxv
   exact .inl (by rw [hV]; simp [jG,aV])
  ·exact .inr (by simp only [jG]; rw [bL _ _ (Ne.symm hxv)]; rfl)
 ·rw [if_neg hx] at hu'
  have hxv:x=aD:=by
   unfold bT at hu'
   split at hu'
   ·simp at *; omega
   ·cases hu'
  subst hxv
  have:(u :: us)[aD]? = none:=List.getElem?_eq_none (by simp [aD] at *; omega)
  simp only [this,Option.none_or]
  exact hu'
end
end Go.Vm
namespace Go.Vm
open Go.RowKit
section
variable {S:Nat→Prop} {w:World} {α:Type}
def aE7:Dat→Value
 | .v x=>x
 | .str l=>strOf l
 | _=>undef
def isLit:Dat→Bool
 | .v x=>x.oneCell'
 | .str _=>true
 | _=>false
theorem cN3 {d:Dat} (h:isLit d=true) (u:Value):RD S w d u↔u=aE7 d:=by
 cases d <;> simp_all [isLit,aE7,RD]
theorem bM8 {g:Nat→Option Value}:∀ (cs:List Dat) (o:Nat),(∀ d∈cs,isLit d=true)→(RCs S w cs g o↔∀ t,t < cs.length→g (o+t)=(cs.map aE7)[t]?)
 | [],o,_=>by simp [RCs]
 | c :: cs,o,h=>by
  simp only [RCs]
  rw [bM8 cs (o+1) (fun d hd=>h d (by simp [hd]))]
  constructor
  ·rintro ⟨⟨u,h1,h2⟩,h3⟩ t ht
   rw [cN3 (h c (by simp))] at h2
   cases t with
   | zero=>simpa [h2] using h1
   | succ t =>
    have:=h3 t (by simpa using ht)
    simpa [Nat.add_assoc,Nat.add_comm 1 t] using this
  ·intro h3
   refine ⟨⟨aE7 c,by simpa using h3 0 (by simp),(cN3 (h c (by simp)) _).2 rfl⟩,fun t ht=>?_⟩
   have:=h3 (t+1) (by simpa using ht)
   simpa [Nat.add_assoc,Nat.add_comm 1 t] using this
theorem aY4 {g:Nat→Option Value} {sz:Nat}:∀ (es:List (List Dat)) (o:Nat),(∀ d∈es,d.length=sz∧∀ x∈d,isLit x=true)→(REs S w sz es g o↔∀ t,t < es.length * sz→g (o+t)=(es.flatMap (·.map aE7))[t]?)
 | [],o,_=>by simp [REs]
 | c :: es,o,h=>by
  have hc:=h c (by simp)
  have hl:(c.map aE7).length=sz:=by simpa using hc.1
  simp only [REs]
  rw [aY4 es (o+sz) (fun d hd=>h d (by simp [hd])),bM8 c o hc.2]
  simp only [List.flatMap_cons,List.length_cons,Nat.succ_mul]
  constructor
  ·rintro ⟨_,h2,h3⟩ t ht
   by_cases hs:t < sz
   ·rw [List.getElem?_append_left (by omega)]
    exact h2 t (by omega)
   ·rw [List.getElem?_append_right (by omega),hl,← h3 (t - sz) (by omega)]
    congr 1
    omega
  ·intro h3
   refine ⟨hc.1,fun t ht=>?_,fun t ht=>?_⟩
   ·have:=h3 t (by omega)
    rwa [List.getElem?_append_left (by omega)] at this
   ·have:=h3 (sz+t) (by omega)
    rw [List.getElem?_append_right (by omega),hl] at this
    rw [show sz+t - sz=t by omega] at this
    rw [← this]
    congr 1
    omega
theorem OwnAt.cells {u:Value} {κ:TypeId} {sz:Nat} {es:List (List Dat)} (h:OwnAt S w u κ sz es) (he:∀ d∈es,d.length=sz∧∀ x∈d,isLit x=true) (hn:es≠[]) :
  ∃ b off c arr E fz,u=.slice (some ⟨b,off,none⟩) es.length c∧es.length≤c∧off+c * sz≤arr.size∧aR2 fz arr.size∧w.heap[b]? = some (.cells arr E fz)∧KOk κ E fz es∧∀ t,t < es.length * sz→arr[off+t]? = (es.flatMap (·.map aE7))[t]? := by
 rcases h with ⟨_,h⟩ | ⟨b,off,c,arr,E,fz,h1,h2,h3,h4,h5,h6,h7⟩
 ·exact absurd h hn
 ·exact ⟨b,off,c,arr,E,fz,h1,h2,h3,h4,h5,h6,(aY4 es off he).1 h7⟩
theorem OwnAt.cC9 {w':World} {κ:TypeId} {sz:Nat} {es:List (List Dat)} {b off c n:Nat} {arr arr':Array Value} {E:TypeId} {fz:Nat×Nat} (hn:n=es.length) (h2:n≤c) (h3:off+c * sz≤arr.size) (h4:aR2 fz arr.size) (hs:arr'.size=arr.size)
  (h5:w'.heap[b]? = some (.cells arr' E fz)) (h6:KOk κ E fz es) (he:∀ d∈es,d.length=sz∧∀ x∈d,isLit x=true) (h7:∀ t,t < es.length * sz→arr'[off+t]? = (es.flatMap (·.map aE7))[t]?):OwnAt S w' (.slice (some ⟨b,off,none⟩) n c) κ sz es:=by
 subst hn
 exact .inr ⟨b,off,c,arr',E,fz,rfl,h2,by omega,by rw [hs]; exact h4,h5,h6,(aY4 es off he).2 h7⟩
end
end Go.Vm
namespace Go.Vm
open Go.RowKit Go.Sort
section
variable {P:Program} {S:Nat→Prop} {w:World}
theorem aT0 {b off n:Nat} {F:Array Value} {os:Array Obj} {arr:Array Value} {E:TypeId} {fz:Nat×Nat} (hb:w.heap[b]? = some (.cells arr E fz)) :
  (grow (putRow id (Sort.ahead w n) b off F) os).heap[b]? = some (.cells (putCells id off F arr) E fz):=by
 have hlt:=iT hb
 have:(Sort.ahead w n).heap=w.heap:=rfl
 simp only [grow,putRow,mapBlock,this]
 rw [Array.getElem?_append_left (by simpa using hlt)]
 simp [Array.getElem?_modify,hb,onCells]
theorem aL7 {b c off n:Nat} {F:Array Value} {os:Array Obj} (hc:c < w.heap.size) (hbc:c≠b):(grow (putRow id (Sort.ahead w n) b off F) os).heap[c]? = w.heap[c]? := by
 have:(Sort.ahead w n).heap=w.heap:=rfl
 simp only [grow,putRow,mapBlock,this]
 rw [Array.getElem?_append_left (by simpa using hc)]
 simp [Array.getElem?_modify,Ne.symm hbc]
theorem aR7 {b off n:Nat} {F:Array Value} {os:Array Obj}:w.heap.size≤(grow (putRow id (Sort.ahead w n) b off F) os).heap.size:=by
 have:(Sort.ahead w n).heap=w.heap:=rfl
 simp [grow,putRow,mapBlock,this]
theorem bQ8 (F:List Value) (j:Nat) (h:j < F.length):F.toArray[j]! = F[j]:=by
 rw [getElem!_pos F.toArray j (by simpa using h)]
 simp
theorem nY {sz:Nat}:∀ (es:List (List Dat)),(∀ d∈es,d.length=sz∧∀ x∈d,isLit x=true)→(es.flatMap (·.map aE7)).length=es.length * sz
 | [],_=>by simp
 | d :: es,h=>by
  rw [List.flatMap_cons,List.length_append,List.length_map,(h d (by simp)).1,nY es (fun x hx=>h x (by simp [hx])),List.length_cons,Nat.succ_mul,Nat.add_comm]
theorem aG.bS1 {k:Nat} (hk:iY P k) {q:Nat} {more:List AV} {V V':AV} {κ:TypeId} {sz:Nat} {es es':List (List Dat)} (hn:more.length < 1000) (hlen:es'.length=es.length)
  (he:∀ d∈es,d.length=sz∧∀ x∈d,isLit x=true) (he':∀ d∈es',d.length=sz∧∀ x∈d,isLit x=true)
  (hq:fH (bO (.vw (aD,q) :: more) [V]) (aD,q)=.own κ sz es)
  (hV:aX (fV (bO (.vw (aD,q) :: more) [V]) (aD,q) (.own κ sz es')) aD=V')
  (walk:∀ (us:List Value) (blk off cap:Nat) (w:World),us.length=more.length→(∀ (i:Nat) (x:Value),more[i]? = some (AV.d (.v x))→us[i]? = some x)→(∀ (i f:Nat),more[i]? = some (AV.clo f [])→us[i]? = some (Value.func (.func f) #[] #[])) →
   es≠[]→Holds id w blk off (es.flatMap (·.map aE7)).toArray→blk < w.heap.size→Calls P k (Value.slice (some ⟨blk,off,none⟩) es.length cap :: us).toArray w fun e w'=>e=.returned (.tuple #[])∧∃ n os,w'=grow (putRow id (Sort.ahead w n) blk off (es'.flatMap (·.map aE7)).toArray) os)
  (none:∀ (us:List Value) (p:Option Addr) (cap:Nat) (w:World),us.length=more.length→(∀ (i f:Nat),more[i]? = some (AV.clo f [])→us[i]? = some (Value.func (.func f) #[] #[]))→es=[]→Calls P k (Value.slice p 0 cap :: us).toArray w fun e w'=>e=.returned (.tuple #[])∧w'=w) :
  aG P k (.vw (aD,q) :: more) [V] (.tup []) [V']:=by
 refine aG.dC2 hk hn hq hV fun w S u us hl hfl hcl hown hno hst=>?_
 by_cases hes:es=[]
 ·have hes':es'=[]:=List.eq_nil_of_length_eq_zero (by rw [hlen,hes]; rfl)
  subst hes
  subst hes'
  have hu:∃ p cap,u=.slice p 0 cap:=by
   rcases hown with ⟨rfl,_⟩ | ⟨b,off,c,_,_,_,rfl,_⟩
   ·exact ⟨_,_,rfl⟩
   ·exact ⟨_,_,rfl⟩
  obtain ⟨p,cap,rfl⟩:=hu
  refine (none us p cap w hl hcl rfl).mono ?_
  rintro e w' ⟨rfl,rfl⟩
  exact ⟨rfl,hown,fun _ _ _=>rfl,Nat.le_refl _,rfl,rfl,rfl⟩
 ·obtain ⟨b,off,c,arr,E,fz,rfl,h2,h3,h4,h5,h6,h7⟩:=hown.cells he hes
  have hsz:es.length * sz≤c * sz:=Nat.mul_le_mul_right _ h2
  have hfl1:=nY es he
  have hfl2:=nY es' he'
  have hH:Holds id w b off (es.flatMap (·.map aE7)).toArray:=by
   intro j hj
   have hj':j < es.length * sz:=by simpa [hfl1] using hj
   have h8:=h7 j hj'
   have hjl:j < (es.flatMap (·.map aE7)).length:=by rw [hfl1]; exact hj'
   refine ⟨?_,aL9 h5 h4 _ (by omega)⟩
   simp only [World.cell?,h5,Option.isSome_none,Bool.false_eq_true,if_false,id]
   rw [h8,List.getElem?_eq_getElem hjl,bQ8 _ _ hjl]
  refine (walk us b off c w hl hfl hcl hes hH (iT h5)).mono ?_
  rintro e w' ⟨rfl,n,os,rfl⟩
  refine ⟨rfl,OwnAt.cC9 hlen.symm h2 h3 h4 (by simp [putCells]) (aT0 h5) (h6.len (by simp [hlen])) he' fun t ht=>?_,fun d hd hne=>aL7 hd fun h=>hne (by subst h; rfl),aR7,rfl,rfl,rfl⟩
  have ht2:t < (es'.flatMap (·.map aE7)).length:=by rw [hfl2]; exact ht
  have hta:off+t < arr.size:=by rw [hlen] at ht; omega
  simp only [putCells,Array.getElem?_mapIdx,Array.getElem?_eq_getElem hta,Option.map_some,List.size_toArray]
  rw [if_pos (by omega),List.getElem?_eq_getElem ht2,show off+t - off=t by omega,bQ8 _ _ ht2]
  rfl
end
end Go.Vm
namespace Go.Vm
open Go.RowKit Go.Sort
section
variable {P:Program} {e:Env} {G:dW} {S:Nat→Prop} {β:Path→Value} {fr:Fr} {vals:Nat→Option Value} {w:World}
theorem Mem.sub (hm:Mem e G S β fr vals w) {fr':Fr} {vals':Nat→Option Value} (h:∀ x,aX fr' x=aX fr x∨aX fr' x=.junk) (hv:∀ x u,vals' x=some u→vals x=some u):Mem e G S β fr' vals' w:=by
 have hon:∀ x i,(aX fr' x).aR i=true→(aX fr x).aR i=true:=by
  intro x i ho
  rcases h x with h1 | h1
  ·rw [← h1]; exact ho
  ·rw [h1] at ho
   cases i <;> simp [AV.aR,AV.bV] at ho
 refine ⟨fun x=>?_,fun x l a hx=>?_,fun x i y j b h1 h2=>hm.dis x i y j b (hon x i h1) (hon y j h2),fun x i b h1=>hm.fre x i b (hon x i h1),hm.stb,hm.s0,hm.old,hm.os,hm.tape,hm.output,hm.size⟩
 ·obtain ⟨u,hr,hu⟩:=hm.rel x
  rcases h x with h1 | h1
  ·exact ⟨u,by rw [h1]; exact hr,fun u' hh=>hu u' (hv x u' hh)⟩
  ·exact ⟨u,by rw [h1]; exact trivial,fun u' hh=>hu u' (hv x u' hh)⟩
 ·rcases h x with h1 | h1
  ·exact hm.gok x l a (by rw [← h1]; exact hx)
  ·rw [h1] at hx; cases hx
theorem aG.cA2 {k:Nat} (hk:iY P k) {q:Nat} {more:List AV} {V V':AV} {κ:TypeId} {sz:Nat} {es es':List (List Dat)} (hn:more.length < 1000)
  (hq:fH (bO (.vw (aD,q) :: more) [V]) (aD,q)=.own κ sz es)
  (hV:(aX (fV (bO (.vw (aD,q) :: more) [V]) (aD,q) .junk) aD).dS (fG aS)=V')
  (h:∀ (w:World) (S:Nat→Prop) (u:Value) (us:List Value),us.length=more.length→(∀ (i:Nat) (x:Value),more[i]? = some (AV.d (.v x))→us[i]? = some x) →
   (∀ (i:Nat) (κ':TypeId) (sz':Nat) (es3:List (List Dat)),more[i]? = some (AV.own κ' sz' es3)→∃ u3,us[i]? = some u3∧OwnAt S w u3 κ' sz' es3∧∀ b,blk u3=some b→blk u≠some b) →
   OwnAt S w u κ sz es→(∀ b,blk u=some b→¬ S b)→(∀ b,S b→b < w.heap.size)→Calls P k (u :: us).toArray w fun e w'=>∃ u',e=.returned u'∧OwnAt S w' u' κ sz es'∧(∀ b,blk u'=some b→blk u=some b∨w.heap.size≤b) ∧
    (∀ b,b < w.heap.size→blk u≠some b→w'.heap[b]? = w.heap[b]?)∧w.heap.size≤w'.heap.size∧w'.os=w.os∧w'.tape=w.tape∧w'.output=w.output) :
  aG P k (.vw (aD,q) :: more) [V] (.own κ sz es') [V']:=by
 refine ⟨hk,fun w S β us hl hm=>?_⟩
 obtain ⟨u,us,rfl⟩:∃ u us',us=u :: us':=by
  cases us with
  | nil=>simp at hl
  | cons a b=>exact ⟨a,b,rfl⟩
 have hl':us.length=more.length:=by simpa using hl
 have hu0:u=β (aD,q):=by
  obtain ⟨u0,hr,hu⟩:=hm.rel 0
  have hf:aX (bO (.vw (aD,q) :: more) [V]) 0=.vw (aD,q):=by rw [bY (by simp)]; rfl
  rw [hf] at hr
  have e1:=hu u (by simp)
  have e2:u0=β (aD,q):=hr
  rw [e1,e2]
 have hown:=jW hm hq
 have hno:∀ b,blk (β (aD,q))=some b→¬ S b:=fun b hb=>(hm.fre aD q b (kH hq) hb).1
 have hfl:∀ (i:Nat) (x:Value),more[i]? = some (AV.d (.v x))→us[i]? = some x:=by
  intro i x hi
  obtain ⟨u1,hr,hu⟩:=hm.rel (i+1)
  have him:i < more.length:=(List.getElem?_eq_some_iff.1 hi).1
  have hf:aX (bO (.vw (aD,q) :: more) [V]) (i+1)=.d (.v x):=by rw [bY (by simpa using him),List.getD_eq_getElem?_getD]; simp [hi]
  rw [hf] at hr
  have h0:u1=x:=hr.1
  have hus:us[i]? = some us[i]:=List.getElem?_eq_getElem (by omega)
  have e1:=hu us[i] (by simp [hus])
  rw [hus,e1,h0]
 have how:∀ (i:Nat) (κ':TypeId) (sz':Nat) (es3:List (List Dat)),more[i]? = some (AV.own κ' sz' es3)→∃ u3,us[i]? = some u3∧OwnAt S w u3 κ' sz' es3∧∀ b,blk u3=some b→blk (β (aD,q))≠some b:=by
  intro i κ' sz' es3 hi
  obtain ⟨u1,hr,hu⟩:=hm.rel (i+1)
  have him:i < more.length:=(List.getElem?_eq_some_iff.1 hi).1
  have hf:aX (bO (.vw (aD,q) :: more) [V]) (i+1)=.own κ' sz' es3:=by rw [bY (by simpa using him),List.getD_eq_getElem?_getD]; simp [hi]
  rw [hf] at hr
  have hus:us[i]? = some us[i]:=List.getElem?_eq_getElem (by omega)
  have e1:=hu us[i] (by simp [hus])
  refine ⟨us[i],hus,by rw [e1]; exact hr.2,fun b hb hb2=>?_⟩
  have ho:(aX (bO (.vw (aD,q) :: more) [V]) (i+1)).aR 0=true:=by rw [hf]; rfl
  have hb':blk (β (i+1,0))=some b:=by rw [← hr.1,← e1]; exact hb
  have:=(hm.dis (i+1) 0 aD q b ho (kH hq) hb' hb2).1
  simp only [aD] at this
  omega
 subst hu0
 refine (h w S (β (aD,q)) us hl' hfl how hown hno (fun b hb=>(hm.stb b hb).1)).mono ?_
 rintro ee w' ⟨u',rfl,ho',hblk,hold,hsize,hos,htape,hout⟩
 have hd:=hm.bX6 hq
 have hnr:aS≠aD:=by decide
 have hm2:=hd.uC aS (.own κ sz es') u' (fun _=>u') w' (fun x=>if x=aS then some u' else ((β (aD,q) :: us)[x]?).or (bT β ([V]:List AV).length x)) (fun y hy=>if_neg hy) (fun u1 h1=>by simpa using h1.symm)
  ⟨by simp,ho'⟩ (fun l a h=>by cases h)
  (fun i b _ hb=>by
   rcases hblk b hb with h1 | h1
   ·exact hm.vE hq aS b h1
   ·exact hd.oW aS b h1)
  (fun i j b h1 h2 _ _=>by
   cases i <;> cases j <;> simp_all [AV.aR,AV.bV])
  (fun b hb=>by
   by_cases h1:blk (β (aD,q))=some b
   ·exact .inr (hm.vE hq aS b h1)
   ·exact .inl (hold b hb h1)) hsize hos htape hout
 refine ⟨u',S,_,rfl,hm2.sub (fun x=>?_) (fun x u1 hu1=>?_)⟩
 ·by_cases hx:x=aS
  ·subst hx
   exact .inl (by rw [aV,dK])
  ·rw [bL _ _ (Ne.symm hx)]
   by_cases hxv:x=aD
   ·subst hxv
    refine .inl ?_
    rw [gJ _ _ hx]
    rw [hV]
    simp [jG,aV]
   ·exact .inr (by simp only [jG]; rw [bL _ _ (Ne.symm hxv)]; rfl)
 ·by_cases hx:x=aS
  ·rw [if_pos hx] at hu1 ⊢
   exact hu1
  ·rw [if_neg hx] at hu1 ⊢
   have hxv:x=aD:=by
    unfold bT at hu1
    split at hu1
    ·simp at *; omega
    ·cases hu1
   subst hxv
   have:(β (aD,q) :: us)[aD]? = none:=List.getElem?_eq_none (by simp [aD] at *; omega)
   simp only [this,Option.none_or]
   exact hu1
end
end Go.Vm
namespace Go.Vm
open Go.Sort
theorem bT5 {α:Type} [Inhabited α] [DecidableEq α] (l:List α):(Lib.compact l).length≤l.length:=by
 unfold Lib.compact Lib.compactUpTo
 rw [List.length_map]
 refine Nat.le_trans (List.length_filter_le _ _) ?_
 simp
end Go.Vm
namespace Go.Vm
open Go.RowKit Go.Sort
section
variable {P:Program} {S:Nat→Prop} {w:World}
theorem aO4 (l:List Int):((l.map (cI .i64)).flatMap (·.map aE7))=l.map (Value.int .i64):=by
 induction l with
 | nil=>rfl
 | cons x l ih=>rw [List.map_cons,List.flatMap_cons,ih]; rfl
theorem bB2 {b off:Nat} (l:List Int):putRow (Value.int .i64) w b off l.toArray=putRow id w b off (l.map (Value.int .i64)).toArray:=by
 unfold putRow
 refine mapBlock_congr _ _ _ _ fun c _ _ _=>?_
 apply Array.ext_getElem?
 intro k
 simp only [putCells,Array.getElem?_mapIdx,List.size_toArray,List.length_map]
 cases c[k]? with
 | none=>rfl
 | some x =>
  simp only [Option.map_some]
  by_cases h:off≤k∧k < off+l.length
  ·have h1:k - off < l.length:=by omega
   rw [if_pos h,if_pos h,bQ8 _ _ (by simpa using h1),getElem!_pos l.toArray (k - off) (by simpa using h1)]
   simp
  ·rw [if_neg h,if_neg h]
theorem aG.sortInt {k:Nat} (hk:iY P k) {q:Nat} {V V':AV} {κ:TypeId} {l l':List Int} (hlen:l'.length=l.length)
  (hq:fH (bO [.vw (aD,q)] [V]) (aD,q)=.own κ 1 (l.map (cI .i64)))
  (hV:aX (fV (bO [.vw (aD,q)] [V]) (aD,q) (.own κ 1 (l'.map (cI .i64)))) aD=V')
  (walk:∀ (blk off cap:Nat) (w:World),Holds (Value.int .i64) w blk off l.toArray→blk < w.heap.size→Calls P k #[Value.slice (some ⟨blk,off,none⟩) l.length cap] w fun e w'=>e=.returned (.tuple #[])∧∃ n os,w'=grow (putRow (Value.int .i64) (Sort.ahead w n) blk off l'.toArray) os)
  (none:∀ (p:Option Addr) (cap:Nat) (w:World),Calls P k #[Value.slice p 0 cap] w fun e w'=>e=.returned (.tuple #[])∧w'=w) :
  aG P k [.vw (aD,q)] [V] (.tup []) [V']:=by
 have lits:∀ m:List Int,∀ d∈m.map (cI .i64),d.length=1∧∀ x∈d,isLit x=true:=by
  intro m d hd
  obtain ⟨x,_,rfl⟩:=List.mem_map.1 hd
  exact ⟨rfl,fun y hy=>by rw [List.mem_singleton.1 hy]; rfl⟩
 refine aG.bS1 hk (by decide) (by simpa using hlen) (lits l) (lits l') hq hV (fun us blk off cap w hl _ _ _ hH hb=>?_) (fun us p cap w hl _ _=>?_)
 ·obtain rfl:us=[]:=List.eq_nil_of_length_eq_zero (by simpa using hl)
  rw [aO4] at hH
  have hH':Holds (Value.int .i64) w blk off l.toArray:=by
   intro j hj
   have hj':j < l.length:=by simpa using hj
   have:=hH j (by simpa using hj')
   rw [bQ8 _ _ (by simpa using hj')] at this
   rw [getElem!_pos l.toArray j hj]
   simpa using this
  simp only [List.length_map]
  refine (walk blk off cap w hH' hb).mono ?_
  rintro e w' ⟨rfl,n,os,rfl⟩
  exact ⟨rfl,n,os,by rw [aO4,bB2]⟩
 ·obtain rfl:us=[]:=List.eq_nil_of_length_eq_zero (by simpa using hl)
  exact none p cap w
theorem aG.bZ3 {k:Nat} (hk:iY P k) {q:Nat} {V V':AV} {κ:TypeId} {l:List Int} (hb:l.length≤4294967296) (hκl:κ < 2199023255552)
  (hq:fH (bO [.vw (aD,q)] [V]) (aD,q)=.own κ 1 (l.map (cI .i64)))
  (hV:(aX (fV (bO [.vw (aD,q)] [V]) (aD,q) .junk) aD).dS (fG aS)=V')
  (walk:∀ (blk off cap:Nat) (zs:List Int) (w:World),Holds (Value.int .i64) w blk off zs.toArray→zs.length≤9223372036854775807→zs.length≤cap →
   Calls P k #[.slice (some ⟨blk,off,none⟩) zs.length cap] w fun e w'=>e=.returned (.slice (some ⟨blk,off,none⟩) (Lib.compact zs).length cap)∧∃ q,w'=putRow (Value.int .i64) (Sort.ahead w q) blk off (Lib.compact zs++List.replicate (zs.length - (Lib.compact zs).length) 0).toArray)
  (none:∀ (p:Option Addr) (cap:Nat) (w:World),Calls P k #[Value.slice p 0 cap] w fun e w'=>e=.returned (Value.slice p 0 cap)∧w'=w)
  (hc:(Lib.compact l).length≤l.length) (hc0:l=[]→Lib.compact l=[]) :
  aG P k [.vw (aD,q)] [V] (.own κ 1 ((Lib.compact l).map (cI .i64))) [V']:=by
 have lits:∀ m:List Int,∀ d∈m.map (cI .i64),d.length=1∧∀ x∈d,isLit x=true:=by
  intro m d hd
  obtain ⟨x,_,rfl⟩:=List.mem_map.1 hd
  exact ⟨rfl,fun y hy=>by rw [List.mem_singleton.1 hy]; rfl⟩
 refine aG.cA2 hk (by decide) hq hV fun w S u us hl _ _ hown hno hst=>?_
 obtain rfl:us=[]:=List.eq_nil_of_length_eq_zero (by simpa using hl)
 by_cases hes:l=[]
 ·have hu:∃ p cap,u=.slice p 0 cap:=by
   subst hes
   rcases hown with ⟨rfl,_⟩ | ⟨b,off,c,_,_,_,rfl,_⟩
   ·exact ⟨_,_,rfl⟩
   ·exact ⟨_,_,rfl⟩
  obtain ⟨p,cap,rfl⟩:=hu
  refine (none p cap w).mono ?_
  rintro e w' ⟨rfl,rfl⟩
  exact ⟨_,rfl,by rw [hc0 hes]; rw [hes] at hown; exact hown,fun b hb=>.inl hb,fun _ _ _=>rfl,Nat.le_refl _,rfl,rfl,rfl⟩
 ·obtain ⟨b,off,c,arr,E,fz,rfl,h2,h3,h4,h5,h6,h7⟩:=hown.cells (lits l) (by simpa using hes)
  rw [aO4] at h7
  simp only [List.length_map,Nat.mul_one] at h2 h3 h7 ⊢
  have hH:Holds (Value.int .i64) w b off l.toArray:=by
   intro j hj
   have hj':j < l.length:=by simpa using hj
   refine ⟨?_,aL9 h5 h4 _ (by omega)⟩
   simp only [World.cell?,h5,Option.isSome_none,Bool.false_eq_true,if_false]
   rw [h7 j hj',getElem!_pos l.toArray j hj,List.getElem?_eq_getElem (by simpa using hj')]
   simp
  refine (walk b off c l w hH (by omega) h2).mono ?_
  rintro e w' ⟨rfl,n,rfl⟩
  rw [bB2]
  have hg:∀ F:Array Value,putRow id (Sort.ahead w n) b off F=grow (putRow id (Sort.ahead w n) b off F) #[]:=fun F=>by rw [grow_empty]
  rw [hg]
  refine ⟨_,rfl,OwnAt.cC9 (by simp) (Nat.le_trans hc h2) (by simpa using h3) h4 (by simp [putCells]) (aT0 h5) (h6.any hκl) (lits _) fun t ht=>?_,fun d hd=>.inl hd,fun d hd hne=>aL7 hd fun h=>hne (by subst h; rfl),aR7,rfl,rfl,rfl⟩
  rw [aO4]
  have ht':t < (Lib.compact l).length:=by simpa using ht
  have hta:off+t < arr.size:=by omega
  have htl:t < l.length:=by omega
  simp only [putCells,Array.getElem?_mapIdx,Array.getElem?_eq_getElem hta,Option.map_some,List.size_toArray]
  rw [if_pos (by simp; omega),show off+t - off=t by omega,bQ8 _ _ (by simp; omega)]
  simp [ht']
def nI (l:List Int):List Int:=l.mergeSort fun x y=>decide (x≤y)
theorem bE8 (l:List Int):(nI l).length=l.length:=by simp [nI]
end
end Go.Vm
namespace Go.Vm
open Go.RowKit
section
variable {P:Program}
theorem jR (w:World) (dT sT ty elem:TypeId) (size:Nat) (b o dLen dCap:Nat) (a:Addr) (sLen sCap m:Nat) (hm:m=min sLen dLen) (cs:List Value)
  (hu:P.underlying dT=some (.slice elem)) (hs:(P.info? elem).map (·.size)=some size) (hn:cs.length=m * size)
  (hsrc:∀ j v,cs[j]? = some v→w.cell? (a.add j)=some v) (hc:∀ j,j < cs.length→(w.cell? ⟨b,o+j,none⟩).isSome=true) (hf:∀ j,j < cs.length→w.frozen? ⟨b,o+j,none⟩=false) (h1:∀ v∈cs,v.oneCell'=true) :
  (Builtin.copy_ #[dT,sT] ty #[.slice (some ⟨b,o,none⟩) dLen dCap,.slice (some a) sLen sCap]).run P w=.ok (goInt m) (w.setCells b o cs):=by
 have hl:=run_loadCells_list (P:=P) w a cs hsrc
 have hst:=run_storeCells_cells (P:=P) b o cs 0 w (by simpa using hc) (by simpa using hf) h1
 cases hq:P.info? elem with
 | none=>simp [hq] at hs
 | some i =>
  have hi:i.size=size:=by simpa [hq] using hs
  rw [hn] at hl
  subst hm
  simp [Builtin.copy_,run_underlying hu,Builtin.lenOf,Builtin.firstCells,sizeOf,typeInfo,hq,hi,hl,hst]
end
end Go.Vm
namespace Go.Vm
open Go.RowKit
section
variable {P:Program} {S:Nat→Prop} {w w':World}
theorem zJ {K:Nat} {es:List (List Dat)} {v:List Dat} {g g3 g':Nat→Option Value} {off voff off' i n:Nat} (hn:es.length=n) (hi:i≤n) (hag:Agree S w w') (hes:REs S w K es g off) (hv:REs S w K [v] g3 voff)
  (h1:∀ t,t < i * K→g' (off'+t)=g (off+t)) (h2:∀ t,t < 1 * K→g' (off'+i * K+t)=g3 (voff+t)) (h3:∀ t,t < (n - i) * K→g' (off'+(i+1) * K+t)=g (off+i * K+t)) :
  REs S w' K (es.take i++[v]++es.drop i) g' off':=by
 refine REs.mono (fun _ h=>h) hag _ _ _ _ ?_
 have htl:(es.take i).length=i:=by simp; omega
 refine REs.append _ _ off' (REs.append _ _ off' ?_ ?_) ?_
 ·exact REs.congr _ off off' (fun t ht=>h1 t (by rwa [htl] at ht)) (REs.take es off i hes)
 ·rw [htl]
  exact REs.congr _ voff _ (fun t ht=>h2 t (by simpa using ht)) hv
 ·rw [List.length_append,htl,List.length_singleton]
  exact REs.congr _ (off+i * K) _ (fun t ht=>h3 t (by rw [List.length_drop,hn] at ht; exact ht)) (REs.drop es off i hes)
structure aM1 (P:Program) (k E K:Nat):Prop where
 A:∀ (b off n c vb voff vc:Nat) (w:World) (vs:List Value),vs.length=1 * K→n+1≤c→(∀ t v,vs[t]? = some v→w.cell? ⟨vb,voff+t,none⟩=some v)→(∀ v∈vs,v.oneCell'=true) →
  (∀ j,j < vs.length→(w.cell? ⟨b,off+n * K+j,none⟩).isSome=true∧w.frozen? ⟨b,off+n * K+j,none⟩=false) →
  Calls P k #[.slice (some ⟨b,off,none⟩) n c,.int .i64 n,.slice (some ⟨vb,voff,none⟩) 1 vc] w fun e w'=>e=.returned (.slice (some ⟨b,off,none⟩) (n+1) c)∧w'=w.setCells b (off+n * K) vs
 B:∀ (base:Option Addr) (n c vb voff vc:Nat) (w:World) (cs vs:List Value),vs.length=1 * K→n≤c→c < n+1→n≤4294967296→(∀ w':World,w'.heap=w.heap→(Builtin.firstCells K n (.slice base n c)).run P w'=.ok cs.toArray w') →
  (∀ t v,vs[t]? = some v→w.cell? ⟨vb,voff+t,none⟩=some v)→(∀ v∈vs,v.oneCell'=true) →
  Calls P k #[.slice base n c,.int .i64 n,.slice (some ⟨vb,voff,none⟩) 1 vc] w fun e w'=>∃ (G:Nat) (zz:Array Value),n+1≤G∧zz.size=(G - (n+1)) * K∧e=.returned (.slice (some ⟨w.heap.size,0,none⟩) (n+1) G)∧w'=w.drew.alloc (.cells ((cs++vs).toArray++zz) E)
 C:∀ (b off n c i vb voff vc:Nat) (w:World) (cs vs:List Value),cs.length=n * K→vs.length=1 * K→i < n→n≤c→c < n+1→n≤4294967296→b < w.heap.size→vb < w.heap.size →
  (∀ t v,cs[t]? = some v→w.cell? ⟨b,off+t,none⟩=some v)→(∀ t v,vs[t]? = some v→w.cell? ⟨vb,voff+t,none⟩=some v)→(∀ v∈cs,v.oneCell'=true)→(∀ v∈vs,v.oneCell'=true) →
  Calls P k #[.slice (some ⟨b,off,none⟩) n c,.int .i64 i,.slice (some ⟨vb,voff,none⟩) 1 vc] w fun e w'=>∃ (G:Nat) (ROW:Array Value),n+1≤G∧ROW.size=G * K∧(∀ t,t < i * K→ROW[t]? = cs[t]?)∧e=.returned (.slice (some ⟨w.heap.size,0,none⟩) (n+1) G) ∧
   w'=(((w.alloc (.cells ROW E)).drew.setCells w.heap.size (i * K) vs).drew).setCells w.heap.size ((i+1) * K) (cs.drop (i * K))
 D:∀ (b off n c i vb voff vc:Nat) (w:World) (cs vs:List Value),cs.length=n * K→vs.length=1 * K→i < n→n+1≤c→n≤4294967296→vb≠b →
  (∀ t v,cs[t]? = some v→w.cell? ⟨b,off+t,none⟩=some v)→(∀ j,j < (n+1) * K→(w.cell? ⟨b,off+j,none⟩).isSome=true)→(∀ j,j < (n+1) * K→w.frozen? ⟨b,off+j,none⟩=false) →
  (∀ t v,vs[t]? = some v→w.cell? ⟨vb,voff+t,none⟩=some v)→(∀ v∈cs,v.oneCell'=true)→(∀ v∈vs,v.oneCell'=true) →
  ∀ (tA tB:TypeId) (kA kB:Nat),w.shape? vb=some (tA,kA)→w.shape? b=some (tB,kB)→kB≠0→w.frozen? ⟨vb,voff,none⟩=false→w.frozen? ⟨vb,kA,none⟩=false →
  Calls P k #[.slice (some ⟨b,off,none⟩) n c,.int .i64 i,.slice (some ⟨vb,voff,none⟩) 1 vc] w fun e w'=>e=.returned (.slice (some ⟨b,off,none⟩) (n+1) c)∧w'=(w.drew.setCells b (off+(i+1) * K) (cs.drop (i * K))).setCells b (off+i * K) vs
theorem cF9 {κ3:TypeId} {K:Nat} {v:List Dat} {u:Value} (h:OwnAt S w u κ3 K [v]) (hκ3:1099511627776≤κ3):∃ vb voff vc arr3 E3,u=.slice (some ⟨vb,voff,none⟩) 1 vc∧voff+1 * K≤arr3.size∧vb < w.heap.size∧(∃ fz3,w.heap[vb]? = some (.cells arr3 E3 fz3)) ∧
  REs S w K [v] (fun j=>arr3[j]?) voff∧w.shape? vb=some (E3,arr3.size)∧∀ x,w.frozen? ⟨vb,x,none⟩=false:=by
 rcases h with ⟨_,h⟩ | ⟨vb,voff,vc,arr3,E3,fz3,rfl,h2,h3,h4,h5,h6,h7⟩
 ·cases h
 ·have hf:=h6.2.1 hκ3
  have h2':1≤vc:=h2
  have h8:1 * K≤vc * K:=Nat.mul_le_mul_right _ h2'
  refine ⟨vb,voff,vc,arr3,E3,rfl,by omega,iT h5,⟨fz3,h5⟩,h7,by simp [World.shape?,h5],fun x=>?_⟩
  simp only [World.frozen?,h5,Bool.and_eq_false_iff,decide_eq_false_iff_not]
  omega
theorem cC7 {K:Nat} {es:List (List Dat)} {arr:Array Value} {off:Nat} (h:REs S w K es (fun j=>arr[j]?) off):∀ x∈(arr.toList.drop off).take (es.length * K),x.oneCell'=true:=by
 intro x hx
 obtain ⟨t,ht⟩:=List.getElem?_of_mem hx
 rw [List.getElem?_take] at ht
 split at ht
 case isFalse=>cases ht
 rename_i htl
 refine REs.ones h t htl x ?_
 rw [List.getElem?_drop] at ht
 simpa using ht
theorem wQ {arr:Array Value} {off m t:Nat} (ht:t < m):((arr.toList.drop off).take m)[t]? = arr[off+t]? := by
 rw [List.getElem?_take,if_pos ht,List.getElem?_drop,Array.getElem?_toList]
structure aV9 (S:Nat→Prop) (w:World) (u:Value) (w':World) (u':Value) (E K:Nat) (es':List (List Dat)):Prop where
 own:OwnAt S w' u' E K es'
 blk:∀ b,blk u'=some b→Vm.blk u=some b∨w.heap.size≤b
 old:∀ b,b < w.heap.size→Vm.blk u≠some b→w'.heap[b]? = w.heap[b]?
 size:w.heap.size≤w'.heap.size
 os:w'.os=w.os
 tape:w'.tape=w.tape
 output:w'.output=w.output
theorem aU8 {es:List (List Dat)} {v:List Dat} {i n:Nat} (hn:es.length=n) (hi:i≤n):(es.take i++[v]++es.drop i).length=n+1:=by
 simp; omega
theorem cO3 {E K:Nat} {es:List (List Dat)} {v:List Dat} {b off c n voff:Nat} {arr arr3:Array Value} {E0:TypeId} {fz:Nat×Nat} (hb:w.heap[b]? = some (.cells arr E0 fz)) (hκ:KOk E E0 fz es) (hc:n+1≤c) (hroom:off+c * K≤arr.size) (hfz:aR2 fz arr.size)
  (hn:es.length=n) (hes:REs S w K es (fun j=>arr[j]?) off) (hv:REs S w K [v] (fun j=>arr3[j]?) voff) (hS:¬ S b) (hsz3:voff+1 * K≤arr3.size) :
  aV9 S w (.slice (some ⟨b,off,none⟩) n c) (w.setCells b (off+n * K) ((arr3.toList.drop voff).take (1 * K))) (.slice (some ⟨b,off,none⟩) (n+1) c) E K (es.take n++[v]++es.drop n):=by
 have vl:((arr3.toList.drop voff).take (1 * K)).length=1 * K:=by simp; omega
 have e1:(n+1) * K=n * K+K:=Nat.succ_mul _ _
 have e2:(n+1) * K≤c * K:=Nat.mul_le_mul_right _ hc
 have hL:=aU8 (v:=v) hn (Nat.le_refl n)
 have hseg:∀ t,t < 1 * K→((arr3.toList.drop voff).take (1 * K))[t]? = arr3[voff+t]? := fun t ht=>wQ ht
 generalize (arr3.toList.drop voff).take (1 * K)=vs at *
 have hs:off+n * K+vs.length≤arr.toList.length:=by rw [vl]; simp; omega
 have hsl:(spl (off+n * K) vs arr.toList).toArray.size=arr.size:=by simp [gN hs]
 rw [mP b E0 fz _ _ arr w hb (by simpa using hs)]
 have hag:∀ k,k≠b→(w.setRow b (spl (off+n * K) vs arr.toList).toArray).heap[k]? = w.heap[k]? := fun k hk=>setRow_other w b k _ hk
 refine ⟨.inr ⟨b,off,c,_,E0,fz,by rw [hL],by rw [hL]; exact hc,by rw [hsl]; exact hroom,by rw [hsl]; exact hfz,setRow_heap w b arr _ E0 fz hb,hκ.ne (by simp),zJ hn (Nat.le_refl n) (fun k hk=>hag k fun h=>hS (h ▸ hk)) hes hv (fun t ht=>?_) (fun t ht=>?_) (fun t ht=>?_)⟩,fun k hk=>.inl hk,fun k _ hk=>hag k fun h=>hk (by subst h; rfl),by simp,rfl,rfl,rfl⟩
 ·simp only [List.getElem?_toArray]
  rw [fB hs,if_neg (by omega)]
  simp
 ·simp only [List.getElem?_toArray]
  rw [fB hs,if_pos ⟨by omega,by rw [vl]; omega⟩,show off+n * K+t - (off+n * K)=t by omega,hseg t ht]
 ·rw [Nat.sub_self,Nat.zero_mul] at ht
  omega
theorem bP9 {E K:Nat} (hE40:E < 1099511627776) {es:List (List Dat)} {v:List Dat} {u:Value} {off n voff G:Nat} {arr arr3 zz:Array Value} (hn:es.length=n) (hsz:off+n * K≤arr.size) (hes:REs S w K es (fun j=>arr[j]?) off) (hv:REs S w K [v] (fun j=>arr3[j]?) voff) (hst:∀ b,S b→b < w.heap.size) (hsz3:voff+1 * K≤arr3.size)
  (hG:n+1≤G) (hz:zz.size=(G - (n+1)) * K) :
  aV9 S w u (w.drew.alloc (.cells (((arr.toList.drop off).take (n * K)++(arr3.toList.drop voff).take (1 * K)).toArray++zz) E)) (.slice (some ⟨w.heap.size,0,none⟩) (n+1) G) E K (es.take n++[v]++es.drop n):=by
 have vl:((arr3.toList.drop voff).take (1 * K)).length=1 * K:=by simp; omega
 have cl:((arr.toList.drop off).take (n * K)).length=n * K:=by simp; omega
 have e1:(n+1) * K=n * K+K:=Nat.succ_mul _ _
 have e2:(n+1) * K≤G * K:=Nat.mul_le_mul_right _ hG
 have e3:(G - (n+1)) * K=G * K - (n+1) * K:=Nat.sub_mul _ _ _
 have hL:=aU8 (v:=v) hn (Nat.le_refl n)
 obtain ⟨A,hA⟩:∃ A,A=((arr.toList.drop off).take (n * K)++(arr3.toList.drop voff).take (1 * K)).toArray++zz:=⟨_,rfl⟩
 have hAs:A.size=G * K:=by rw [hA]; simp only [Array.size_append,List.size_toArray,List.length_append,cl,vl,hz]; omega
 have hA1:∀ t,t < n * K→A[t]? = arr[off+t]? := fun t ht=>by
  rw [hA,Array.getElem?_append_left (by simp only [List.size_toArray,List.length_append,cl,vl]; omega),List.getElem?_toArray,List.getElem?_append_left (by rw [cl]; exact ht),wQ ht]
 have hA2:∀ t,t < 1 * K→A[n * K+t]? = arr3[voff+t]? := fun t ht=>by
  rw [hA,Array.getElem?_append_left (by simp only [List.size_toArray,List.length_append,cl,vl]; omega),List.getElem?_toArray,List.getElem?_append_right (by rw [cl]; omega),cl,show n * K+t - n * K=t by omega,wQ ht]
 rw [← hA]
 have hh:(w.drew.alloc (.cells A E)).heap=w.heap.push (.cells A E):=rfl
 have hag:∀ k,k < w.heap.size→(w.drew.alloc (.cells A E)).heap[k]? = w.heap[k]? := fun k hk=>by
  rw [hh,Array.getElem?_push,if_neg (by omega)]
 refine ⟨.inr ⟨w.heap.size,0,G,A,E,(0,0),by rw [hL],by rw [hL]; exact hG,by omega,.inl rfl,by rw [hh]; simp,KOk.new hE40,zJ hn (Nat.le_refl n) (fun k hk=>hag k (hst k hk)) hes hv (fun t ht=>?_) (fun t ht=>?_) (fun t ht=>?_)⟩,fun k hk=>.inr (by rw [← Option.some.inj hk]; exact Nat.le_refl _),fun k hk _=>hag k hk,by rw [hh]; simp,rfl,rfl,rfl⟩
 ·simpa using hA1 t ht
 ·simpa using hA2 t ht
 ·rw [Nat.sub_self,Nat.zero_mul] at ht
  omega
theorem cO6 {E K:Nat} (hE40:E < 1099511627776) {es:List (List Dat)} {v:List Dat} {u:Value} {off n i voff G:Nat} {arr arr3 ROW:Array Value} (hn:es.length=n) (hi:i < n) (hsz:off+n * K≤arr.size) (hes:REs S w K es (fun j=>arr[j]?) off) (hv:REs S w K [v] (fun j=>arr3[j]?) voff) (hst:∀ b,S b→b < w.heap.size) (hsz3:voff+1 * K≤arr3.size)
  (hG:n+1≤G) (hR:ROW.size=G * K) (hRt:∀ t,t < i * K→ROW[t]? = ((arr.toList.drop off).take (n * K))[t]?) :
  aV9 S w u ((((w.alloc (.cells ROW E)).drew.setCells w.heap.size (i * K) ((arr3.toList.drop voff).take (1 * K))).drew).setCells w.heap.size ((i+1) * K) (((arr.toList.drop off).take (n * K)).drop (i * K))) (.slice (some ⟨w.heap.size,0,none⟩) (n+1) G) E K (es.take i++[v]++es.drop i):=by
 have e1:(n+1) * K=n * K+K:=Nat.succ_mul _ _
 have e2:(n+1) * K≤G * K:=Nat.mul_le_mul_right _ hG
 have e3:(i+1) * K=i * K+K:=Nat.succ_mul _ _
 have e4:(i+1) * K≤n * K:=Nat.mul_le_mul_right _ hi
 have e5:(n - i) * K=n * K - i * K:=Nat.sub_mul _ _ _
 have hL:=aU8 (v:=v) hn (Nat.le_of_lt hi)
 have vl:((arr3.toList.drop voff).take (1 * K)).length=1 * K:=by simp; omega
 have hseg:∀ t,t < 1 * K→((arr3.toList.drop voff).take (1 * K))[t]? = arr3[voff+t]? := fun t ht=>wQ ht
 have dl:(((arr.toList.drop off).take (n * K)).drop (i * K)).length=n * K - i * K:=by simp; omega
 have hdeg:∀ t,t < n * K - i * K→(((arr.toList.drop off).take (n * K)).drop (i * K))[t]? = arr[off+i * K+t]? := fun t ht=>by
  rw [List.getElem?_drop,wQ (by omega),show off+(i * K+t)=off+i * K+t by omega]
 have hRt':∀ t,t < i * K→ROW[t]? = arr[off+t]? := fun t ht=>by rw [hRt t ht,wQ (by omega)]
 generalize (arr3.toList.drop voff).take (1 * K)=vs at *
 generalize ((arr.toList.drop off).take (n * K)).drop (i * K)=ds at *
 have hb0:((w.alloc (.cells ROW E)).drew).heap[w.heap.size]? = some (.cells ROW E (0,0)):=by
  show (w.heap.push (.cells ROW E))[w.heap.size]? = _
  simp
 have hs1:i * K+vs.length≤ROW.toList.length:=by rw [vl]; simp; omega
 rw [mP w.heap.size E (0,0) vs _ ROW _ hb0 (by simpa using hs1)]
 have hb1:=setRow_heap ((w.alloc (.cells ROW E)).drew) w.heap.size ROW (spl (i * K) vs ROW.toList).toArray E (0,0) hb0
 have hb2:(((w.alloc (.cells ROW E)).drew.setRow w.heap.size (spl (i * K) vs ROW.toList).toArray).drew).heap[w.heap.size]? = some (.cells (spl (i * K) vs ROW.toList).toArray E (0,0)):=hb1
 have hs2:(i+1) * K+ds.length≤(spl (i * K) vs ROW.toList).length:=by rw [gN hs1,dl]; simp; omega
 rw [mP w.heap.size E (0,0) ds _ _ _ hb2 (by simpa using hs2)]
 have hb3:=setRow_heap (((w.alloc (.cells ROW E)).drew.setRow w.heap.size (spl (i * K) vs ROW.toList).toArray).drew) w.heap.size _ (spl ((i+1) * K) ds (spl (i * K) vs ROW.toList).toArray.toList).toArray E (0,0) hb2
 have hag:∀ k,k < w.heap.size→((((w.alloc (.cells ROW E)).drew.setRow w.heap.size (spl (i * K) vs ROW.toList).toArray).drew).setRow w.heap.size (spl ((i+1) * K) ds (spl (i * K) vs ROW.toList).toArray.toList).toArray).heap[k]? = w.heap[k]? := fun k hk=>by
  rw [setRow_other _ w.heap.size k _ (by omega)]
  show ((w.alloc (.cells ROW E)).drew.setRow w.heap.size (spl (i * K) vs ROW.toList).toArray).heap[k]? = _
  rw [setRow_other _ w.heap.size k _ (by omega)]
  show (w.heap.push (.cells ROW E))[k]? = _
  simp [Array.getElem?_push,show ¬ k=w.heap.size by omega]
 have hsz2:(spl ((i+1) * K) ds (spl (i * K) vs ROW.toList).toArray.toList).toArray.size=G * K:=by simp [gN hs2,gN hs1,hR]
 refine ⟨.inr ⟨w.heap.size,0,G,_,E,(0,0),by rw [hL],by rw [hL]; exact hG,by rw [hsz2]; omega,.inl rfl,hb3,KOk.new hE40,zJ hn (Nat.le_of_lt hi) (fun k hk=>hag k (hst k hk)) hes hv (fun t ht=>?_) (fun t ht=>?_) (fun t ht=>?_)⟩,fun k hk=>.inr (by rw [← Option.some.inj hk]; exact Nat.le_refl _),fun k hk _=>hag k hk,Nat.le_of_lt (iT hb3),rfl,rfl,rfl⟩
 ·simp only [List.getElem?_toArray]
  rw [fB hs2,if_neg (by omega),fB hs1,if_neg (by omega),Array.getElem?_toList,Nat.zero_add,hRt' t ht]
 ·simp only [List.getElem?_toArray]
  rw [fB hs2,if_neg (by omega),fB hs1,if_pos ⟨by omega,by rw [vl]; omega⟩,show 0+i * K+t - i * K=t by omega,hseg t ht]
 ·simp only [List.getElem?_toArray]
  rw [fB hs2,if_pos ⟨by omega,by rw [dl]; omega⟩,show 0+(i+1) * K+t - (i+1) * K=t by omega,hdeg t (by omega)]
theorem cM7 {E K:Nat} {es:List (List Dat)} {v:List Dat} {b off c n i voff:Nat} {arr arr3:Array Value} {E0:TypeId} {fz:Nat×Nat} (hb:w.heap[b]? = some (.cells arr E0 fz)) (hκ:KOk E E0 fz es) (hi:i < n) (hc:n+1≤c) (hroom:off+c * K≤arr.size) (hfz:aR2 fz arr.size)
  (hn:es.length=n) (hes:REs S w K es (fun j=>arr[j]?) off) (hv:REs S w K [v] (fun j=>arr3[j]?) voff) (hS:¬ S b) (hsz3:voff+1 * K≤arr3.size) :
  aV9 S w (.slice (some ⟨b,off,none⟩) n c) ((w.drew.setCells b (off+(i+1) * K) (((arr.toList.drop off).take (n * K)).drop (i * K))).setCells b (off+i * K) ((arr3.toList.drop voff).take (1 * K))) (.slice (some ⟨b,off,none⟩) (n+1) c) E K (es.take i++[v]++es.drop i):=by
 have e1:(n+1) * K=n * K+K:=Nat.succ_mul _ _
 have e2:(n+1) * K≤c * K:=Nat.mul_le_mul_right _ hc
 have e3:(i+1) * K=i * K+K:=Nat.succ_mul _ _
 have e4:(i+1) * K≤n * K:=Nat.mul_le_mul_right _ hi
 have e5:(n - i) * K=n * K - i * K:=Nat.sub_mul _ _ _
 have hL:=aU8 (v:=v) hn (Nat.le_of_lt hi)
 have vl:((arr3.toList.drop voff).take (1 * K)).length=1 * K:=by simp; omega
 have hseg:∀ t,t < 1 * K→((arr3.toList.drop voff).take (1 * K))[t]? = arr3[voff+t]? := fun t ht=>wQ ht
 have dl:(((arr.toList.drop off).take (n * K)).drop (i * K)).length=n * K - i * K:=by simp; omega
 have hdeg:∀ t,t < n * K - i * K→(((arr.toList.drop off).take (n * K)).drop (i * K))[t]? = arr[off+i * K+t]? := fun t ht=>by
  rw [List.getElem?_drop,wQ (by omega),show off+(i * K+t)=off+i * K+t by omega]
 generalize (arr3.toList.drop voff).take (1 * K)=vs at *
 generalize ((arr.toList.drop off).take (n * K)).drop (i * K)=ds at *
 have hb0:w.drew.heap[b]? = some (.cells arr E0 fz):=hb
 have hs1:off+(i+1) * K+ds.length≤arr.toList.length:=by rw [dl]; simp; omega
 rw [mP b E0 fz ds _ arr _ hb0 (by simpa using hs1)]
 have hb1:=setRow_heap w.drew b arr (spl (off+(i+1) * K) ds arr.toList).toArray E0 fz hb0
 have hs2:off+i * K+vs.length≤(spl (off+(i+1) * K) ds arr.toList).length:=by rw [gN hs1,vl]; simp; omega
 rw [mP b E0 fz vs _ _ _ hb1 (by simpa using hs2),setRow_setRow]
 have hag:∀ k,k≠b→(w.drew.setRow b (spl (off+i * K) vs (spl (off+(i+1) * K) ds arr.toList).toArray.toList).toArray).heap[k]? = w.heap[k]? := fun k hk=>setRow_other w.drew b k _ hk
 have hsz2:(spl (off+i * K) vs (spl (off+(i+1) * K) ds arr.toList).toArray.toList).toArray.size=arr.size:=by simp [gN hs2,gN hs1]
 refine ⟨.inr ⟨b,off,c,_,E0,fz,by rw [hL],by rw [hL]; exact hc,by rw [hsz2]; exact hroom,by rw [hsz2]; exact hfz,setRow_heap w.drew b arr _ E0 fz hb0,hκ.ne (by simp),zJ hn (Nat.le_of_lt hi) (fun k hk=>hag k fun h=>hS (h ▸ hk)) hes hv (fun t ht=>?_) (fun t ht=>?_) (fun t ht=>?_)⟩,fun k hk=>.inl hk,fun k _ hk=>hag k fun h=>hk (by subst h; rfl),by show w.heap.size≤(w.heap.modify b _).size; simp,rfl,rfl,rfl⟩
 ·simp only [List.getElem?_toArray]
  rw [fB hs2,if_neg (by omega),fB hs1,if_neg (by omega),Array.getElem?_toList]
 ·simp only [List.getElem?_toArray]
  rw [fB hs2,if_pos ⟨by omega,by rw [vl]; omega⟩,show off+i * K+t - (off+i * K)=t by omega,hseg t ht]
 ·simp only [List.getElem?_toArray]
  rw [fB hs2,if_neg (by rw [vl]; omega),fB hs1,if_pos ⟨by omega,by rw [dl]; omega⟩,show off+(i+1) * K+t - (off+(i+1) * K)=t by omega,hdeg t (by omega)]
theorem aG.insert {k E K q:Nat} (hE40:E < 1099511627776) (hk:iY P k) (hr:aM1 P k E K) (hnil:∀ w:World,(Builtin.firstCells K 0 (.slice none 0 0)).run P w=.ok #[] w) {V V':AV} {κ3:TypeId} {es:List (List Dat)} {v:List Dat} {i:Nat} (hi:i≤es.length) (hlen:es.length≤4294967295) (hK:0 < K) (hκ3:1099511627776≤κ3)
  (hq:fH (bO [.vw (aD,q),.d (.v (.int .i64 i)),.own κ3 K [v]] [V]) (aD,q)=.own E K es)
  (hV:(aX (fV (bO [.vw (aD,q),.d (.v (.int .i64 i)),.own κ3 K [v]] [V]) (aD,q) .junk) aD).dS (fG aS)=V') :
  aG P k [.vw (aD,q),.d (.v (.int .i64 i)),.own κ3 K [v]] [V] (.own E K (es.take i++[v]++es.drop i)) [V']:=by
 refine aG.cA2 hk (by simp) hq hV fun w S u us hl hfl how hown hno hst=>?_
 obtain ⟨u1,u2,rfl⟩:∃ a b,us=[a,b]:=by
  match us,hl with
  | [a,b],_=>exact ⟨a,b,rfl⟩
 obtain rfl:u1=.int .i64 i:=by simpa using hfl 0 (.int .i64 i) rfl
 obtain ⟨u3,h3,ho3,hd3⟩:=how 1 κ3 K [v] rfl
 obtain rfl:u2=u3:=by simpa using h3
 obtain ⟨vb,voff,vc,arr3,E3,rfl,hsz3,hvw,⟨fz3,hb3⟩,hes3,hsh3,hfz3⟩:=cF9 ho3 hκ3
 have hvb:blk u≠some vb:=hd3 vb rfl
 have hvl:((arr3.toList.drop voff).take (1 * K)).length=1 * K:=by simp; omega
 have hvs:=bF9 (off:=voff) hb3 (1 * K)
 have h1v:∀ x∈(arr3.toList.drop voff).take (1 * K),x.oneCell'=true:=cC7 (es:=[v]) hes3
 have done:∀ {e w' u'},e=Ending.returned u'→aV9 S w u w' u' E K (es.take i++[v]++es.drop i)→∃ u',e=.returned u'∧OwnAt S w' u' E K (es.take i++[v]++es.drop i)∧(∀ b,blk u'=some b→blk u=some b∨w.heap.size≤b) ∧
    (∀ b,b < w.heap.size→blk u≠some b→w'.heap[b]? = w.heap[b]?)∧w.heap.size≤w'.heap.size∧w'.os=w.os∧w'.tape=w.tape∧w'.output=w.output :=
  fun he h=>⟨_,he,h.own,h.blk,h.old,h.size,h.os,h.tape,h.output⟩
 rcases hown with ⟨rfl,rfl⟩ | ⟨b,off,c,arr,E0,fz,rfl,hc,hroom,hfz,hb,hκ,hes⟩
 ·obtain rfl:i=0:=by simpa using hi
  refine (hr.B none 0 0 vb voff vc w [] _ hvl (by omega) (by omega) (by omega) (fun w' _=>hnil w') hvs h1v).mono ?_
  rintro e w' ⟨G,zz,hG,hz,rfl,rfl⟩
  have h0:=bP9 (E:=E) hE40 (u:=.slice none 0 0) (es:=[]) (off:=0) (arr:=#[]) (n:=0) rfl (by simp) (by simp [REs]) hes3 hst hsz3 hG hz
  have e0:((#[]:Array Value).toList.drop 0).take (0 * K)=[]:=by simp
  rw [e0] at h0
  exact done rfl h0
 ·generalize hn:es.length=n at *
  have hnc:n * K≤c * K:=Nat.mul_le_mul_right _ hc
  have hcl:((arr.toList.drop off).take (n * K)).length=n * K:=by simp; omega
  have hcs:=bF9 (off:=off) hb (n * K)
  have h1c:∀ x∈(arr.toList.drop off).take (n * K),x.oneCell'=true:=by rw [← hn]; exact cC7 hes
  have hS:¬ S b:=hno b rfl
  have hvb':vb≠b:=fun h=>hvb (by rw [h]; rfl)
  have hsome:∀ x,x < arr.size→(w.cell? ⟨b,x,none⟩).isSome=true:=fun x hx=>by simp [World.cell?,hb,hx]
  by_cases hin:i=n
  ·subst hin
   by_cases hroomy:i+1≤c
   ·have e1:(i+1) * K=i * K+K:=Nat.succ_mul _ _
    have e2:(i+1) * K≤c * K:=Nat.mul_le_mul_right _ hroomy
    refine (hr.A b off i c vb voff vc w _ hvl hroomy hvs h1v (fun j hj=>?_)).mono ?_
    ·rw [hvl] at hj
     exact ⟨hsome _ (by omega),aL9 hb hfz _ (by omega)⟩
    ·rintro e w' ⟨rfl,rfl⟩
     exact done rfl (cO3 hb hκ hroomy hroom hfz hn hes hes3 hS hsz3)
   ·refine (hr.B (some ⟨b,off,none⟩) i c vb voff vc w ((arr.toList.drop off).take (i * K)) _ hvl hc (by omega) (by omega) (fun w' hw'=>?_) hvs h1v).mono ?_
    ·exact run_firstCells_some (P:=P) w' K i ⟨b,off,none⟩ i c _ hcl (fun t x hx=>by
      rw [Addr.add_lit]
      have:=hcs t x hx
      simpa [World.cell?,hw'] using this)
    ·rintro e w' ⟨G,zz,hG,hz,rfl,rfl⟩
     exact done rfl (bP9 hE40 hn (by omega) hes hes3 hst hsz3 hG hz)
  ·have hlt:i < n:=by omega
   by_cases hroomy:n+1≤c
   ·have e1:(n+1) * K=n * K+K:=Nat.succ_mul _ _
    have e2:(n+1) * K≤c * K:=Nat.mul_le_mul_right _ hroomy
    refine (hr.D b off n c i vb voff vc w _ _ hcl hvl hlt hroomy (by omega) hvb' hcs (fun j hj=>hsome _ (by omega)) (fun j hj=>aL9 hb hfz _ (by omega)) hvs h1c h1v E3 E0 arr3.size arr.size hsh3 (by simp [World.shape?,hb]) (by omega) (hfz3 _) (hfz3 _)).mono ?_
    rintro e w' ⟨rfl,rfl⟩
    exact done rfl (cM7 hb hκ hlt hroomy hroom hfz hn hes hes3 hS hsz3)
   ·refine (hr.C b off n c i vb voff vc w _ _ hcl hvl hlt hc (by omega) (by omega) (iT hb) hvw hcs hvs h1c h1v).mono ?_
    rintro e w' ⟨G,ROW,hG,hR,hRt,rfl,rfl⟩
    exact done rfl (cO6 hE40 hn hlt (by omega) hes hes3 hst hsz3 hG hR hRt)
end
end Go.Vm
namespace Go.Vm
section
variable {P:Program} {e:Env} {S:Nat→Prop} {β:Path→Value} {fr:Fr} {w:World} {a:Act} {N:Nat}
def bY3 (P:Program) (fn:Func) (e:Env) (res:AV) (vout:List AV) (g nc:Nat):Exit→Act→World→Prop
 | .ret,a,w | .normal,a,w=>(∃ cap:Array Value,cap.size=nc∧a.defers=[⟨.fn (.func g) cap,#[]⟩])∧∃ v,(results fn a.tmps).run P w=.ok v w∧∃ u S' β',Ending.returned v=.returned u∧Mem e [] S' β' ((aS,res) :: jG aD vout) (fun x=>if x=aS then some u else e.vp x) w
 | _,_,_=>False
theorem bE7 {ops:Array Oper} {hs:List (Nat×Hint)} {Q:Exit→Act→World→Prop} (tl:List Nat):∀ (l:List Nat) (G:dW) (fr fr':Fr) (obs:List Prop) (a:Act) (w:World),bD2 P N ops hs l G fr=some (fr',obs)→xY obs→uE e G N fr a w →
  (∀ G' a' w',uE e G' N fr' a' w'→wpOps P ops Q tl a' w')→wpOps P ops Q (l++tl) a w
 | [],G,fr,fr',obs,a,w,h,_,hm,hQ=>by
  simp only [bD2,Option.some.injEq,Prod.mk.injEq] at h
  obtain ⟨rfl,_⟩:=h
  exact hQ G a w hm
 | i :: r,G,fr,fr',obs,a,w,h,ho,hm,hQ=>by
  simp only [bD2] at h
  split at h
  case h_2=>cases h
  rename_i G1 fr1 obl hs1
  split at h
  case h_2=>cases h
  rename_i f l hl
  simp only [Option.some.injEq,Prod.mk.injEq] at h
  obtain ⟨rfl,rfl⟩:=h
  obtain ⟨o,ho1,hw,hnw⟩:=aN5 (K:=wpOps P ops Q (r++tl)) (Q:=Q) hs1 ho.1 hm fun a' w' hm'=>bE7 tl r G1 fr1 f l a' w' hl ho.2 hm' hQ
  simp only [List.cons_append,wpOps,ho1]
  by_cases hwant:Region.wanted o (yielded ops a.tmps)=true
  ·rw [if_pos hwant]
   exact .inl (hw hwant)
  ·rw [if_neg hwant]
   exact hnw (by simpa using hwant)
theorem cQ0 {id:Nat} {ops:Array Oper} {o:Oper} {c:Call} {fn:Func} {res:AV} {vout:List AV} (m:Nat) (hs:List (Nat×Hint)) (keep:List Nat) (cs:List Co) (fr1 fr':Fr) (obs:List (Nat×Prop)) (n:Nat) {k:Code} {g t:Nat} {caps:List AV}
  (hsz:ops.size=m+1) (hlast:ops[m]? = some o) (hop:o.op=.defer c) (hcal:c.callee=.value (.tmp t)) (hargs:c.args=#[]) (hgd:o.guard=none) (hdst:o.dst=none) (htN:decide (t < N)=true)
  (h:bD2 P N ops hs (List.range m) [] fr=some (fr1,owed obs n)) (ho:aQ9 obs) (ht:aX fr1 t=.clo g caps)
  (hk:((kL (.keep keep) fr1).bind fun f=>mV cs f)=some fr')
  (he:e.dfs=[]) (hK:∀ e':Env,T P e' N k fr' (aC9 P fn e' res vout)):T P e N (.seq (.region id ops false) k) fr (bY3 P fn e res vout g caps.length):=by
 intro a w hm
 refine wp_seq (wp_region ?_)
 rw [hsz,List.range_succ]
 refine bE7 [m] _ [] fr fr1 _ a w h ho.all (vU hm) fun G' a' w' hm'=>?_
 obtain ⟨h1,h2,_,S,β,hM⟩:=hm'
 have htlt:t < a'.tmps.size:=by rw [h2]; exact of_decide_eq_true htN
 obtain ⟨u,hr,hu⟩:=hM.rel t
 rw [ht] at hr
 obtain ⟨l,hul,hall⟩:=hr
 have hval:bQ e a' t=some a'.tmps[t]:=by simp [bQ,htlt]
 have hut:=hu _ hval
 have hlen:l.length=caps.length:=(bI.len hall).symm
 have hev:a'.eval (.tmp t)=.func (.func g) #[] ⟨l⟩:=by
  rw [← hul,← hut]
  simp [Act.eval,htlt]
 simp only [wpOps,hlast]
 rw [if_pos (by simp [Region.wanted,hgd])]
 left
 have hex:(execOp a'.eval o).run P w'=.ok (.defer ⟨.fn (.func g) ⟨l⟩,#[]⟩) w':=by
  simp [execOp,hop,resolve,hcal,hargs,hev,Deferred.ofValue]
 unfold Oper.wp
 rw [hex,Oper.upon_defer,hdst]
 show Exit.then _ _ .normal _ _
 obtain ⟨f,hf1,hf2⟩:=Option.bind_eq_some_iff.1 hk
 have hM':=uF cs f fr' S β (aF1 hM hf1) hf2
 have hT:=hK { e with dfs:=[⟨.fn (.func g) ⟨l⟩,#[]⟩] } { a' with defers:=⟨.fn (.func g) ⟨l⟩,#[]⟩ :: a'.defers } w' ⟨by simp [h1,he],h2,?_⟩
 ·refine Code.wp_mono (fun ex a2 w2 hp=>?_) hT
  cases ex with
  | ret=>exact ⟨⟨⟨l⟩,by simpa using hlen,hp.1⟩,hp.2.imp fun v hv=>⟨hv.1,let ⟨u,S',β',he',hm'⟩:=hv.2; ⟨u,S',β',he',⟨hm'.rel,hm'.gok,hm'.dis,hm'.fre,hm'.stb,hm'.s0,hm'.old,hm'.os,hm'.tape,hm'.output,hm'.size⟩⟩⟩⟩
  | normal=>exact ⟨⟨⟨l⟩,by simpa using hlen,hp.1⟩,hp.2.imp fun v hv=>⟨hv.1,let ⟨u,S',β',he',hm'⟩:=hv.2; ⟨u,S',β',he',⟨hm'.rel,hm'.gok,hm'.dis,hm'.fre,hm'.stb,hm'.s0,hm'.old,hm'.os,hm'.tape,hm'.output,hm'.size⟩⟩⟩⟩
  | panic _=>exact hp.elim
  | exit _=>exact hp.elim
  | goto _=>exact hp.elim
  | outgrown=>exact hp.elim
 ·obtain ⟨S',β',hm3⟩:=hM'
  exact ⟨S',β',⟨hm3.rel,hm3.gok,hm3.dis,hm3.fre,hm3.stb,hm3.s0,hm3.old,hm3.os,hm3.tape,hm3.output,hm3.size⟩⟩
def cW0 (P:Program) (N:Nat) (ops:Array Oper) (hs:List (Nat×Hint)) (m t:Nat) (keep:List Nat) (fr:Fr):Option (Nat×Nat×Fr×List Prop) :=
 match bD2 P N ops hs (List.range m) [] fr with
 | some (f,l)=>match aX f t with
  | .clo g caps=>match kL (.keep keep) f with
   | some f'=>some (g,caps.length,f',l)
   | none=>none
  | _=>none
 | none=>none
theorem cJ5 {id:Nat} {ops:Array Oper} {o:Oper} {c:Call} {fn:Func} {res:AV} {vout:List AV} (m t g nc:Nat) (hs:List (Nat×Hint)) (keep:List Nat) (d:Fr) (obs:List (Nat×Prop)) (n:Nat) {k:Code}
  (h:cW0 P N ops hs m t keep fr=some (g,nc,qD keep d fr,owed obs n)) (ho:aQ9 obs) (hsz:ops.size=m+1) (hlast:ops[m]? = some o) (hop:o.op=.defer c) (hcal:c.callee=.value (.tmp t)) (hargs:c.args=#[]) (hgd:o.guard=none) (hdst:o.dst=none) (htN:decide (t < N)=true)
  (he:e.dfs=[]) (hK:∀ e':Env,T P e' N k (qD keep d fr) (aC9 P fn e' res vout)):T P e N (.seq (.region id ops false) k) fr (bY3 P fn e res vout g nc):=by
 unfold cW0 at h
 split at h
 case h_2=>cases h
 rename_i f l hl
 split at h
 case h_2=>cases h
 rename_i g' caps ht
 split at h
 case h_2=>cases h
 rename_i f' hk
 simp only [Option.some.injEq,Prod.mk.injEq] at h
 obtain ⟨rfl,rfl,rfl,rfl⟩:=h
 exact cQ0 m hs keep [] f (qD keep d fr) obs n hsz hlast hop hcal hargs hgd hdst htN hl ho ht (by rw [hk]; rfl) he hK
theorem aG.cK8 {k : Nat} {fn : Func} {c : Code} (hf : P.funcs[k]? = some fn) (hb : fn.body = some c) (hname : (fn.name == "runtime.NumGoroutine") = false) (hN : fn.ntmps = N) {args : List AV} (hlen : decide (args.length ≤ N) = true) (hNr : decide (N ≤ aS) = true) {vin vout : List AV} {res : AV} {g nc : Nat}
  (heg:∀ args w,(callFunc g args).run P w=.ok (.enter g args) w)
  (hg:∀ (cap:Array Value) (w:World),cap.size=nc→CallsD P g cap .returning w fun e u' w'=>u'=.returning∧(∃ v,e=.returned v)∧w'=w)
  (hT:∀ e:Env,e.dfs=[]→T P e N c (bO args vin) (bY3 P fn e res vout g nc)):aG P k args vin res vout:=by
 refine ⟨⟨fn,hf,by simp [hb],hname⟩,fun w S β us hus hm=>calls_of_wp_defers hf hb (Code.wp_mono (fun ex a2 w2 hp=>?_) (hT ⟨w,eD (bO args vin) β,S,bT β vin.length,[]⟩ rfl _ w (aZ4 hN (of_decide_eq_true hlen) (of_decide_eq_true hNr) hus hm)))⟩
 have fin:∀ (cap:Array Value),cap.size=nc→a2.defers=[⟨.fn (.func g) cap,#[]⟩]→(∃ v,(results fn a2.tmps).run P w2=.ok v w2∧∃ u S' β',Ending.returned v=.returned u∧Mem ⟨w,eD (bO args vin) β,S,bT β vin.length,[]⟩ [] S' β' ((aS,res) :: jG aD vout) (fun x=>if x=aS then some u else bT β vin.length x) w2) →
   Leaves P fn a2.tmps (fun e w'=>∃ u S' β',e=.returned u∧Mem ⟨w,eD (bO args vin) β,S,bT β vin.length,[]⟩ [] S' β' ((aS,res) :: jG aD vout) (fun x=>if x=aS then some u else bT β vin.length x) w') a2.defers .returning w2:=by
  intro cap hcap hd hv
  rw [hd]
  refine leaves_cons (f:=g) (args:=cap) (by simp) (by simp [invoke,heg]) ((hg cap w2 hcap).mono ?_)
  rintro e' u' w' ⟨rfl,⟨v',rfl⟩,rfl⟩
  exact hv
 cases ex with
 | ret=>obtain ⟨⟨cap,h1,h2⟩,h3⟩:=hp; exact fin cap h1 h2 h3
 | normal=>obtain ⟨⟨cap,h1,h2⟩,h3⟩:=hp; exact fin cap h1 h2 h3
 | panic _=>exact hp.elim
 | exit _=>exact hp.elim
 | goto _=>exact hp.elim
 | outgrown=>exact hp.elim
end
end Go.Vm
namespace Go.Vm
open Go.Sort Go.Proofs
section
variable {P:Program} {α:Type} [Inhabited α]
theorem aT4 (enc:α→List Value) (k:Nat) (hk:∀ x,(enc x).length=k):∀ (l:List α) (t:Nat),t < l.length * k→(l.flatMap enc)[t]? = (enc (l[t / k]!))[t % k]?
 | [],t,h=>by simp at h
 | x :: l,t,h=>by
  have k0:0 < k:=by
   rcases Nat.eq_zero_or_pos k with h0 | h0
   ·subst h0; simp at h
   ·exact h0
  rw [List.flatMap_cons]
  by_cases ht:t < k
  ·rw [List.getElem?_append_left (by rw [hk]; exact ht),Nat.div_eq_of_lt ht,Nat.mod_eq_of_lt ht]
   rfl
  ·obtain ⟨s,rfl⟩:∃ s,t=s+k:=⟨t - k,by omega⟩
   rw [List.getElem?_append_right (by rw [hk]; omega),hk,Nat.add_sub_cancel,Nat.add_div_right s k0,Nat.add_mod_right,aT4 enc k hk l s (by rw [List.length_cons,Nat.succ_mul] at h; omega)]
   rfl
omit [Inhabited α] in
theorem aR9 (enc:α→List Value) (k:Nat) (hk:∀ x,(enc x).length=k):∀ l:List α,(l.flatMap enc).length=l.length * k
 | []=>by simp
 | x :: l=>by rw [List.flatMap_cons,List.length_append,hk,aR9 enc k hk l,List.length_cons,Nat.succ_mul,Nat.add_comm]
theorem bN9 (enc:α→List Value) (k:Nat) (hk:∀ x,(enc x).length=k) (l:List α):flatK enc k l.toArray=(l.flatMap enc).toArray:=by
 apply Array.ext
 ·simp [aR9 enc k hk l]
 ·intro t h1 h2
  have ht:t < l.length * k:=by simpa using h1
  have e1:=get_flatK enc k l.toArray t (by simpa using ht)
  rw [getElem!_pos _ t h1] at e1
  rw [e1]
  have e2:=aT4 enc k hk l t ht
  have h2':t < (l.flatMap enc).length:=by simpa using h2
  rw [List.getElem?_eq_getElem h2'] at e2
  have k0:0 < k:=by
   rcases Nat.eq_zero_or_pos k with h0 | h0
   ·subst h0; simp at ht
   ·exact h0
  have hm:t % k < (enc (l[t / k]!)).length:=by rw [hk]; exact Nat.mod_lt _ k0
  rw [List.getElem?_eq_getElem hm] at e2
  have e3:l.toArray[t / k]! = l[t / k]! := by simp
  rw [e3,getElem!_pos (enc (l[t / k]!)) (t % k) hm]
  simpa using (Option.some.inj e2).symm
theorem aG.cY3 {k g:Nat} (hk:iY P k) {c:α→List Dat} {sz:Nat} (enc:α→List Value) (henc:∀ x,(c x).map aE7=enc x) (hlit:∀ x,(c x).length=sz∧∀ d∈c x,isLit d=true) {q:Nat} {V V':AV} {κ:TypeId} {l l':List α} (hlen:l'.length=l.length)
  (hq:fH (bO [.vw (aD,q),.clo g []] [V]) (aD,q)=.own κ sz (l.map c))
  (hV:aX (fV (bO [.vw (aD,q),.clo g []] [V]) (aD,q) (.own κ sz (l'.map c))) aD=V')
  (walk:∀ (blk off cap:Nat) (w:World),HoldsK enc sz w blk off l.toArray→blk < w.heap.size→Calls P k #[Value.slice (some ⟨blk,off,none⟩) l.length cap,.func (.func g) #[] #[]] w fun e w'=>e=.returned (.tuple #[])∧∃ n os,w'=sortWorldK enc sz w blk off n l'.toArray os)
  (none:∀ (p:Option Addr) (cap:Nat) (w:World),Calls P k #[Value.slice p 0 cap,.func (.func g) #[] #[]] w fun e w'=>e=.returned (.tuple #[])∧w'=w) :
  aG P k [.vw (aD,q),.clo g []] [V] (.tup []) [V']:=by
 have lits:∀ m:List α,∀ d∈m.map c,d.length=sz∧∀ x∈d,isLit x=true:=by
  intro m d hd
  obtain ⟨x,_,rfl⟩:=List.mem_map.1 hd
  exact hlit x
 have hek:∀ x,(enc x).length=sz:=fun x=>by rw [← henc,List.length_map]; exact (hlit x).1
 have flat:∀ m:List α,(m.map c).flatMap (·.map aE7)=m.flatMap enc:=by
  intro m
  induction m with
  | nil=>rfl
  | cons x m ih=>rw [List.map_cons,List.flatMap_cons,List.flatMap_cons,ih,henc]
 have one:∀ us:List Value,us.length=1→(∀ (i f:Nat),([AV.clo g []]:List AV)[i]? = some (AV.clo f [])→us[i]? = some (Value.func (.func f) #[] #[]))→us=[.func (.func g) #[] #[]]:=by
  intro us hl h
  obtain ⟨v,rfl⟩:=List.length_eq_one_iff.1 hl
  have:=h 0 g rfl
  simpa using this
 refine aG.bS1 hk (by simp) (by simpa using hlen) (lits l) (lits l') hq hV (fun us blk off cap w hl _ hc _ hH hb=>?_) (fun us p cap w hl hc _=>?_)
 ·obtain rfl:=one us (by simpa using hl) hc
  rw [flat] at hH
  have hH':HoldsK enc sz w blk off l.toArray:=by
   unfold HoldsK
   rw [bN9 enc sz hek]
   exact hH
  simp only [List.length_map]
  refine (walk blk off cap w hH' hb).mono ?_
  rintro e w' ⟨rfl,n,os,rfl⟩
  exact ⟨rfl,n,os,by rw [flat]; unfold sortWorldK putRowK; rw [bN9 enc sz hek]⟩
 ·obtain rfl:=one us (by simpa using hl) hc
  exact none p cap w
end
end Go.Vm
namespace Go.Vm
open Go.RowKit
section
variable {P:Program} {S:Nat→Prop} {w:World}
end
end Go.Vm
namespace Go.Vm
open Go.RowKit
end Go.Vm
namespace Go.Vm
open Go.RowKit
theorem bV3 {W:World} {S:Nat→Prop} {args:List AV} {us:List Value} (hlen:us.length=args.length) (hn:args.length < aS) (hd:args.all AV.jD=true) (hS:∀ b,S b→b < W.heap.size) (hr:bI (fun _ a u=>bA S W (fun _=>.bool false) (0,0) a u) 0 args us) :
  (∀ x i,(aX (bO args []) x).aR i=false)∧Mem ⟨W,eD (bO args []) (fun _=>.bool false),S,bT (fun _=>.bool false) ([]:List AV).length,[]⟩ [] S (fun _=>.bool false) (bO args []) (fun x=>(us[x]?).or (bT (fun _=>.bool false) ([]:List AV).length x)) W:=by
 have hat:∀ x,(∃ a u,aX (bO args []) x=a∧a.jD=true∧us[x]? = some u∧bA S W (fun _=>.bool false) (0,0) a u) ∨
   (aX (bO args []) x=.junk∧us[x]? = none∧bT (fun _=>.bool false) ([]:List AV).length x=none):=by
  intro x
  rcases lI args [] x with h | ⟨h1,h2⟩ | ⟨j,rfl⟩
  ·left
   obtain ⟨u,hu,hru⟩:=bI.get hr x args[x] (by simp [h])
   refine ⟨args[x],u,?_,(List.all_eq_true.1 hd) _ (List.getElem_mem h),by simpa using hu,hru⟩
   rw [bY h,List.getD_eq_getElem?_getD]
   simp [h]
  ·right
   refine ⟨fQ h1 h2,by simp; omega,?_⟩
   unfold bT
   rw [if_neg (by simp)]
  ·right
   have hu:us[aD+j]? = none:=by
    rw [List.getElem?_eq_none]
    simp only [aD,aS] at *
    omega
   refine ⟨by rw [dF hn,if_neg (by simp)],hu,?_⟩
   unfold bT
   rw [if_neg (by simp)]
 have hown:∀ x i,(aX (bO args []) x).aR i=false:=by
  intro x i
  rcases hat x with ⟨a,u,h1,h2,_,_⟩ | ⟨h1,_,_⟩
  ·rw [h1]
   cases a <;> first | (cases i <;> rfl) | (simp [AV.jD] at h2)
  ·rw [h1]; cases i <;> rfl
 refine ⟨hown,fun x=>?_,fun x l a h=>?_,fun x i y j b h=>?_,fun x i b h=>?_,fun b hb=>⟨hS b hb,.inl hb⟩,fun _ h=>h,fun _ _ _=>rfl,rfl,rfl,rfl,Nat.le_refl _⟩
 ·rcases hat x with ⟨a,u,h1,h2,h3,h4⟩ | ⟨h1,h2,h3⟩
  ·refine ⟨u,?_,fun u' hu'=>by simp [h3] at hu'; exact hu'.symm⟩
   rw [h1]
   cases a with
   | d y=>exact (dD rfl).2 h4
   | agg y=>exact (dD rfl).2 h4
   | _=>simp [AV.jD] at h2
  ·refine ⟨undef,?_,fun u' hu'=>by
    simp only [h2,h3] at hu'
    cases hu'⟩
   rw [h1]
   exact (dD rfl).2 trivial
 ·rcases hat x with ⟨a,u,h1,h2,_,_⟩ | ⟨h1,_,_⟩
  ·rw [h1] at h
   subst h
   simp [AV.jD] at h2
  ·rw [h1] at h; cases h
 ·rw [hown] at h; cases h
 ·rw [hown] at h; cases h
structure dB4 (S:Nat→Prop) (W:World) (res:AV) (v:Value) (S':Nat→Prop) (β':Path→Value) (W':World):Prop where
 val:dV (dN []) S' W' β' aS res v
 below:Below W.heap.size W W'
 sub:∀ b,S b→S' b
 bnd:∀ b,S' b→b < W'.heap.size∧(S b∨W.heap.size≤b)
 own:∀ i b,res.aR i=true→blk (β' (aS,i))=some b→¬ S' b∧W.heap.size≤b
theorem cZ2 {P:Program} {k:Nat} {args:List AV} {us:List Value} {W:World} {S:Nat→Prop} {res:AV} (h:aG P k args [] res []) (hlen:us.length=args.length) (hn:args.length < aS) (hd:args.all AV.jD=true) (hS:∀ b,S b→b < W.heap.size)
  (hr:bI (fun _ a u=>bA S W (fun _=>.bool false) (0,0) a u) 0 args us) :
  Calls P k us.toArray W fun e W'=>∃ v S' β',e=.returned v∧dB4 S W res v S' β' W':=by
 obtain ⟨hown,hm0⟩:=bV3 hlen hn hd hS hr
 refine (h.2 W S (fun _=>.bool false) us hlen hm0).mono fun e W' ⟨u,S',β',he,hm⟩=>?_
 have noA:∀ b,¬ eD (bO args []) (fun _=>.bool false) b:=by
  rintro b ⟨x,j,hx,_⟩
  rw [hown] at hx
  cases hx
 obtain ⟨v,hv1,hv2⟩:=hm.rel aS
 have hu:=hv2 u (by simp)
 subst hu
 have hres':aX ((aS,res) :: jG aD []) aS=res:=aV _ _ _
 rw [hres'] at hv1
 refine ⟨u,S',β',he,hv1,⟨hm.os,hm.tape,hm.output,hm.size,fun i hi=>hm.old i hi (noA i)⟩,hm.s0,fun b hb=>?_,fun i b hi hb=>?_⟩
 ·obtain ⟨h1,h2⟩:=hm.stb b hb
  exact ⟨h1,h2.imp id fun h=>h.resolve_right (noA b)⟩
 ·obtain ⟨h1,h2⟩:=hm.fre aS i b (by rw [hres']; exact hi) hb
  exact ⟨h1,h2.resolve_right (noA b)⟩
end Go.Vm
namespace Go.Vm
open Go.ChangeShapes Go.RowKit Go.WideShapes Go.ChangeAt Go.WideMaps Go.WideElems
theorem bO8 {W:World} {S:Nat→Prop} {args:List AV} {us:List Value} {gs:bH4} (hlen:us.length=args.length) (hn:args.length < aS) (hd:args.all AV.jD=true) (hS:∀ b,S b→b < W.heap.size) (hr:bI (fun _ a u=>bA S W (fun _=>.bool false) (0,0) a u) 0 args us)
  (hg:∀ g∈gs,rY S W g.1 g.2) :
  (∀ x i,(aX (bO args (gvs gs)) x).aR i=false)∧Mem ⟨W,eD (bO args (gvs gs)) (gbs gs),S,bT (gbs gs) (gvs gs).length,[]⟩ [] S (gbs gs) (bO args (gvs gs)) (fun x=>(us[x]?).or (bT (gbs gs) (gvs gs).length x)) W:=by
 have hgl:(gvs gs).length=gs.length:=by simp [gvs]
 have hat:∀ x,(∃ a u,aX (bO args (gvs gs)) x=a∧a.jD=true∧us[x]? = some u∧bA S W (fun _=>.bool false) (0,0) a u) ∨
   (∃ j g,x=aD+j∧gs[j]? = some g∧aX (bO args (gvs gs)) x=.glo g.1 g.2∧us[x]? = none∧bT (gbs gs) (gvs gs).length x=some (.pointer (some ⟨g.1,0,none⟩))) ∨
   (aX (bO args (gvs gs)) x=.junk∧us[x]? = none∧bT (gbs gs) (gvs gs).length x=none):=by
  intro x
  rcases lI args (gvs gs) x with h | ⟨h1,h2⟩ | ⟨j,rfl⟩
  ·left
   obtain ⟨u,hu,hru⟩:=bI.get hr x args[x] (by simp [h])
   refine ⟨args[x],u,?_,(List.all_eq_true.1 hd) _ (List.getElem_mem h),by simpa using hu,hru⟩
   rw [bY h,List.getD_eq_getElem?_getD]
   simp [h]
  ·right; right
   refine ⟨fQ h1 h2,by simp; omega,?_⟩
   unfold bT
   rw [if_neg (by omega)]
  ·right
   have hu:us[aD+j]? = none:=by
    rw [List.getElem?_eq_none]
    simp only [aD,aS] at *
    omega
   rcases Nat.lt_or_ge j gs.length with hj | hj
   ·left
    have hgj:gs[j]? = some gs[j]:=List.getElem?_eq_getElem hj
    refine ⟨j,gs[j],rfl,hgj,?_,hu,?_⟩
    ·rw [dF hn,if_pos (by omega),List.getD_eq_getElem?_getD]
     simp [gvs,hj]
    ·unfold bT
     rw [if_pos ⟨by omega,by omega⟩,bJ9 hgj]
   ·right
    refine ⟨by rw [dF hn,if_neg (by omega)],hu,?_⟩
    unfold bT
    rw [if_neg (by omega)]
 have hown:∀ x i,(aX (bO args (gvs gs)) x).aR i=false:=by
  intro x i
  rcases hat x with ⟨a,u,h1,h2,_,_⟩ | ⟨j,g,_,_,h1,_⟩ | ⟨h1,_,_⟩
  ·rw [h1]
   cases a <;> first | (cases i <;> rfl) | (simp [AV.jD] at h2)
  ·rw [h1]; cases i <;> rfl
  ·rw [h1]; cases i <;> rfl
 refine ⟨hown,fun x=>?_,fun x l a h=>?_,fun x i y j b h=>?_,fun x i b h=>?_,fun b hb=>⟨hS b hb,.inl hb⟩,fun _ h=>h,fun _ _ _=>rfl,rfl,rfl,rfl,Nat.le_refl _⟩
 ·rcases hat x with ⟨a,u,h1,h2,h3,h4⟩ | ⟨j,g,rfl,hgj,h1,h2,h3⟩ | ⟨h1,h2,h3⟩
  ·refine ⟨u,?_,fun u' hu'=>by simp [h3] at hu'; exact hu'.symm⟩
   rw [h1]
   cases a with
   | d y=>exact (dD rfl).2 h4
   | agg y=>exact (dD rfl).2 h4
   | _=>simp [AV.jD] at h2
  ·refine ⟨.pointer (some ⟨g.1,0,none⟩),?_,fun u' hu'=>by
    simp only [h2,h3] at hu'
    simpa using hu'.symm⟩
   rw [h1]
   exact (dD rfl).2 ⟨(bJ9 hgj 0).symm,rfl,hg g (List.mem_of_getElem? hgj)⟩
  ·refine ⟨undef,?_,fun u' hu'=>by
    simp only [h2,h3] at hu'
    cases hu'⟩
   rw [h1]
   exact (dD rfl).2 trivial
 ·rcases hat x with ⟨a',u,h1,h2,_,_⟩ | ⟨_,_,_,_,h1,_⟩ | ⟨h1,_,_⟩
  ·rw [h] at h1
   subst h1
   simp [AV.jD] at h2
  ·rw [h] at h1; cases h1
  ·rw [h] at h1; cases h1
 ·rw [hown] at h; cases h
 ·rw [hown] at h; cases h
theorem cU9 {P:Program} {k:Nat} {args:List AV} {us:List Value} {W:World} {S:Nat→Prop} {gs:bH4} {res:AV} (h:aG P k args (gvs gs) res (gvs gs)) (hlen:us.length=args.length) (hn:args.length < aS) (hd:args.all AV.jD=true) (hS:∀ b,S b→b < W.heap.size)
  (hr:bI (fun _ a u=>bA S W (fun _=>.bool false) (0,0) a u) 0 args us) (hg:∀ g∈gs,rY S W g.1 g.2) :
  Calls P k us.toArray W fun e W'=>∃ v S' β',e=.returned v∧dB4 S W res v S' β' W':=by
 obtain ⟨hown,hm0⟩:=bO8 hlen hn hd hS hr hg
 refine (h.2 W S (gbs gs) us hlen hm0).mono fun e W' ⟨u,S',β',he,hm⟩=>?_
 have noA:∀ b,¬ eD (bO args (gvs gs)) (gbs gs) b:=by
  rintro b ⟨x,j,hx,_⟩
  rw [hown] at hx
  cases hx
 obtain ⟨v,hv1,hv2⟩:=hm.rel aS
 have hu:=hv2 u (by simp)
 subst hu
 have hres':aX ((aS,res) :: jG aD (gvs gs)) aS=res:=aV _ _ _
 rw [hres'] at hv1
 refine ⟨u,S',β',he,hv1,⟨hm.os,hm.tape,hm.output,hm.size,fun i hi=>hm.old i hi (noA i)⟩,hm.s0,fun b hb=>?_,fun i b hi hb=>?_⟩
 ·obtain ⟨h1,h2⟩:=hm.stb b hb
  exact ⟨h1,h2.imp id fun h=>h.resolve_right (noA b)⟩
 ·obtain ⟨h1,h2⟩:=hm.fre aS i b (by rw [hres']; exact hi) hb
  exact ⟨h1,h2.resolve_right (noA b)⟩
theorem aG.cK2 {P:Program} {k g:Nat} {cs:List Dat} (hk:iY P k) {args:List AV} {res:AV} (hown:∀ j,res.aR j=false) (hgd:∀ l a,res≠.gd l a) (hal:decide (args.length < aS)=true)
  (h:∀ (w:World) (S:Nat→Prop) (β:Path→Value) (us:List Value),us.length=args.length→(∀ b,S b→b < w.heap.size)→rY S w g cs→(∀ (i:Nat) (a:AV) (v:Value),args[i]? = some a→us[i]? = some v→dV (dN []) S w β i a v) →
   Calls P k us.toArray w fun e w'=>∃ u,e=.returned u∧Below w.heap.size w w'∧∀ β,dV (dN []) (fun b=>S b∨(w.heap.size≤b∧b < w'.heap.size)) w' β aS res u):aG P k args [.glo g cs] res [.glo g cs]:=by
 have hal':=of_decide_eq_true hal
 refine ⟨hk,fun w S β vs hvs hm=>?_⟩
 have hgf:aX (bO args [.glo g cs]) (aD+0)=.glo g cs:=by
  rw [dF (by simp only [aS] at hal' ⊢; omega),if_pos (by simp)]
  rfl
 obtain ⟨u0,hrg,hug⟩:=hm.rel (aD+0)
 rw [hgf] at hrg
 have hglo:rY S w g cs:=hrg.2.2
 refine (h w S β vs hvs (fun b hb=>(hm.stb b hb).1) hglo fun i x v hi hv=>?_).mono ?_
 ·obtain ⟨u0,hr,hu0⟩:=hm.rel i
  have hlt:=(List.getElem?_eq_some_iff.1 hi).1
  rw [bY hlt,List.getD_eq_getElem?_getD,hi,Option.getD_some] at hr
  have e1:=hu0 v (by simp [hv])
  rw [e1]
  exact hr
 rintro e w' ⟨u,rfl,hb,hr⟩
 have hne:aS≠aD:=by decide
 have hgv:aX ((aS,res) :: jG aD [.glo g cs]) aD=.glo g cs:=by
  rw [bL _ _ hne,mM,if_pos ⟨Nat.le_refl _,by simp⟩]
  rw [Nat.sub_self]
  rfl
 have hj:∀ x,x≠aS→x≠aD→aX ((aS,res) :: jG aD [.glo g cs]) x=.junk:=fun x hx hx2=>by
  rw [bL _ _ (Ne.symm hx),mM,if_neg (by simp only [List.length_cons,List.length_nil]; omega)]
 have hno:∀ x i,(aX ((aS,res) :: jG aD [.glo g cs]) x).aR i=false:=fun x i=>by
  by_cases hx:x=aS
  ·rw [hx,aV]
   exact hown i
  ·by_cases hx2:x=aD
   ·rw [hx2,hgv]; cases i <;> rfl
   ·rw [hj x hx hx2]
    cases i <;> rfl
 have hlent:bT β ([.glo g cs]:List AV).length aD=some (β (aD,0)):=by
  unfold bT
  rw [if_pos ⟨Nat.le_refl _,by simp⟩]
 refine ⟨u,fun b=>S b∨(w.heap.size≤b∧b < w'.heap.size),β,rfl,⟨fun x=>?_,fun x l a hx=>?_,fun x i y j b hx=>?_,fun x i b hx=>?_,fun b hb'=>?_,fun b hb'=>.inl hb',fun b hb' _=>hb.block b hb',hb.os,hb.tape,hb.output,hb.size⟩⟩
 ·by_cases hx:x=aS
  ·refine ⟨u,?_,fun u' h=>?_⟩
   ·rw [hx,aV]
    exact hr β
   ·rw [if_pos hx] at h
    exact (Option.some.inj h).symm
  ·by_cases hx2:x=aD
   ·subst hx2
    refine ⟨β (aD,0),?_,fun u' h=>?_⟩
    ·rw [hgv]
     exact (dD rfl).2 ⟨rfl,hrg.1 ▸ hrg.2.1,hrg.2.2.mono (fun _=>.inl) (fun b hb'=>hb.block b ((hm.stb b hb').1))⟩
    ·rw [if_neg hx,hlent] at h
     exact (Option.some.inj h).symm
   ·refine ⟨(bT β ([.glo g cs]:List AV).length x).getD undef,?_,fun u' h=>?_⟩
    ·rw [hj x hx hx2]
     trivial
    ·rw [if_neg hx] at h
     rw [h]
     rfl
 ·by_cases hx':x=aS
  ·rw [hx',aV] at hx
   exact absurd hx (hgd l a)
  ·by_cases hx2:x=aD
   ·rw [hx2,hgv] at hx; cases hx
   ·rw [hj x hx' hx2] at hx
    cases hx
 ·rw [hno] at hx; cases hx
 ·rw [hno] at hx; cases hx
 ·rcases hb' with h1 | h1
  ·exact ⟨Nat.lt_of_lt_of_le (hm.stb b h1).1 hb.size,(hm.stb b h1).2⟩
  ·exact ⟨h1.2,.inr (.inl h1.1)⟩
end Go.Vm
namespace Go.Vm
def Det (P:Program) (S:World→Prop) (o:Oper) (af:Act) (v:Value):Prop :=
 ∀ w,S w→(∃ w',(execOp af.eval o).run P w=.ok (.value v) w'∧S w')∨(∃ f args w1,(execOp af.eval o).run P w=.ok (.enter f args) w1∧Calls P f args w1 fun e w'=>e=.returned v∧S w')
def oV (ops:Array Oper) (i:Nat):Option Tmp:=(ops[i]?).bind (·.dst)
def reach (ops:Array Oper):Nat→Nat→Nat→Bool
 | 0,_,_=>false
 | f+1,j,i=>match ops[j]? with
  | some o=>o.after.any fun e=>Region.binds .any e && (e.on == i || reach ops f e.on i)
  | none=>false
def cY5 (ops:Array Oper) (m:Nat):Bool:=(List.range ops.size).all fun j=>decide (j < m) || (List.range m).all fun i=>reach ops 3 j i
section
variable {P:Program} {ops:Array Oper} {Q:Exit→Act→World→Prop} {m:Nat} {S:World→Prop} {V:Nat→Value} {vs:List Value} {c:Nat} {SC:Option Value→World→Prop} {a0:Act}
theorem Det.wp {o:Oper} {af a:Act} {v:Value} {K:Act→World→Prop} {w:World} (h:Det P S o af v) (hw:S w) (he:execOp a.eval o=execOp af.eval o) (hK:∀ w',S w'→K (a.put o.dst v) w'):o.wp P a w K Q:=by
 unfold Oper.wp
 rw [he]
 rcases h w hw with ⟨w',h1,h2⟩ | ⟨f,args,w1,h1,h2⟩
 ·rw [h1]
  exact hK w' h2
 ·rw [h1]
  exact h2.mono fun e w' ⟨h3,h4⟩=>by subst h3; exact hK w' h4
structure DetI (ops:Array Oper) (m:Nat) (V:Nat→Value) (a0:Act) (U:List Nat) (listed:Array Bool) (a:Act):Prop where
 size:listed.size=ops.size
 low:∀ i,i < m→(listed.getD i false=false↔i∈U)
 high:∀ i,m≤i→listed.getD i false=false
 nd:U.Nodup
 lt:∀ i∈U,i < m
 cl:∀ i o,i < m→i ∉ U→ops[i]? = some o→∀ e∈o.after,Region.binds .any e=true→listed.getD e.on false=true
 def_:a.defers=a0.defers
 sz:a.tmps.size=a0.tmps.size
 done:∀ i d,i < m→i ∉ U→oV ops i=some d→a.tmps.getD d undef=V i
 other:∀ s,(∀ i,i < m→i ∉ U→oV ops i≠some s)→a.tmps.getD s undef=a0.tmps.getD s undef
structure DetB (ops:Array Oper) (m n:Nat):Prop where
 le:m≤ops.size
 waits:cY5 ops m=true
 nosel:Region.noSelect ops=true
 oper:∀ i,i < m→∃ o d,ops[i]? = some o∧o.guard=none∧o.dst=some d∧d < n∧(∀ j,j < m→j≠i→oV ops j≠some d)∧∀ s,.tmp s∈o.op.operands→∀ j,j < m→oV ops j=some s→(∃ e∈o.after,Region.binds .any e=true∧e.on=j)
 edges:∀ i o,i < m→ops[i]? = some o→∀ e∈o.after,Region.binds .any e=true→e.on < i
theorem cQ6 {a b:Act} (h1:a.tmps.size=b.tmps.size) (h2:a.defers=b.defers) (h:∀ s,a.tmps.getD s undef=b.tmps.getD s undef):a=b:=by
 obtain ⟨t,d⟩:=a
 obtain ⟨t',d'⟩:=b
 have h2:d=d':=h2
 subst h2
 have:t=t':=by
  apply Array.ext h1
  intro i hi hi'
  have:=h i
  simpa [Array.getD_eq_getD_getElem?,hi,hi'] using this
 subst this
 rfl
end
end Go.Vm
namespace Go.Vm
structure Hide (p:Prop):Prop where
 out:p
def aH6 (P:Program) (SC:Option Value→World→Prop) (c:Nat) (K:(Value→Act)→Prop):Nat→List Oper→(Value→Act)→Prop
 | _,[],a=>K a
 | i,o :: r,a=>if i=c then (∀ w,SC none w→∃ u w',(execOp (a undef).eval o).run P w=.ok (.value u) w'∧SC (some u) w')∧aH6 P SC c K (i+1) r (fun u=>(a u).put o.dst u)
   else ∃ v,(∀ u x,Det P (SC x) o (a u) v)∧aH6 P SC c K (i+1) r (fun u=>(a u).put o.dst v)
section
variable {P:Program} {SC:Option Value→World→Prop} {c:Nat} {K:(Value→Act)→Prop} {i:Nat} {o:Oper} {r:List Oper} {a:Value→Act}
theorem aH6.pure (v:Value) (hic:(i == c)=false) (h:∀ u x w,SC x w→(execOp (a u).eval o).run P w=.ok (.value v) w) (hk:aH6 P SC c K (i+1) r (fun u=>(a u).put o.dst v)):aH6 P SC c K i (o :: r) a:=by
 unfold aH6
 rw [if_neg (by simpa using hic)]
 exact ⟨v,fun u x w hw=>.inl ⟨w,h u x w hw,hw⟩,hk⟩
theorem aH6.call (v:Value) (f:FuncId) (args:Array Value) (hic:(i == c)=false) (h:∀ u x w,SC x w→(execOp (a u).eval o).run P w=.ok (.enter f args) w) (h2:∀ x w,SC x w→Calls P f args w fun e w'=>e=.returned v∧SC x w')
  (hk:aH6 P SC c K (i+1) r (fun u=>(a u).put o.dst v)):aH6 P SC c K i (o :: r) a:=by
 unfold aH6
 rw [if_neg (by simpa using hic)]
 exact ⟨v,fun u x w hw=>.inr ⟨f,args,w,h u x w hw,h2 x w hw⟩,hk⟩
end
section
variable {P:Program} {ops:Array Oper} {Q:Exit→Act→World→Prop} {m:Nat} {c:Nat} {SC:Option Value→World→Prop} {a0:Act}
theorem Det.congr {S:World→Prop} {o:Oper} {a b:Act} {v:Value} (he:execOp a.eval o=execOp b.eval o) (h:Det P S o a v):Det P S o b v:=by
 unfold Det at h ⊢
 rw [← he]
 exact h
end
end Go.Vm
namespace Go.Vm
def Gives (P:Program) (o:Oper) (a:Act) (w:World) (R:Value→World→Prop):Prop :=
 (∃ u w',(execOp a.eval o).run P w=.ok (.value u) w'∧R u w')∨(∃ w',(execOp a.eval o).run P w=.ok .skip w'∧R undef w') ∨
 (∃ f args w1,(execOp a.eval o).run P w=.ok (.enter f args) w1∧Calls P f args w1 fun e w'=>∃ u,e=.returned u∧R u w')
def Ord (P:Program) (ops:Array Oper) (K:(World→Prop)→Act→Prop):List (Nat×Nat)→(World→Prop)→Act→Prop
  | [],T,a=>K T a
  | (i,k) :: r,T,a=>∃ o,ops[i]? = some o ∧
      if k=0∨k=4 then ((Region.wanted o (yielded ops a.tmps)=true∧∃ v,(∀ w,(T w∨k=4)→(execOp a.eval o).run P w=.ok (.value v) w)∧Ord P ops K r T (a.put o.dst v))∨(Region.wanted o (yielded ops a.tmps)=false∧Ord P ops K r T (a.put o.dst undef)))
      else Region.wanted o (yielded ops a.tmps)=true∧∃ (D:Value→Prop) (R:Value→World→Prop),(∀ w,T w→Gives P o a w fun u w'=>D u∧R u w')∧(k=1→∀ u w,R u w→T w)∧∀ u,D u→Ord P ops K r (R u) (a.put o.dst u)
def aG8 (ops:Array Oper) (f:Nat):List (Nat×Nat)→List Nat→List Nat→Option Nat→Bool
  | [],_,_,_=>true
  | (i,k) :: r,pre,stl,last => !pre.contains i && (match ops[i]? with | none=>false | some o=>o.after.all fun e => !Region.binds .any e || pre.contains e.on) && (match last with | none=>true | some c=>reach ops f i c) &&
      (k == 0 || k == 4 || k == 1 || pre.all fun j=>stl.contains j || reach ops f i j) && aG8 ops f r (i :: pre) (if k == 4 then i :: stl else stl) (if k == 0 || k == 4 then last else some i)
def cY1 (ops:Array Oper) (f:Nat) (σ:List (Nat×Nat)) (n:Nat):Bool :=
 σ.length == ops.size && ((List.range ops.size).all fun i=>(σ.map (·.1)).contains i) && Region.noSelect ops &&
 ((List.range ops.size).all fun i=>match ops[i]? with
  | none=>false
  | some o=>(match o.dst with
    | none=>true
    | some d=>decide (d < n) && (List.range ops.size).all fun j=>j == i || oV ops j != some d) &&
   (o.looksAt ops).all fun s=>(List.range ops.size).all fun j=>oV ops j != some s || o.after.any fun e=>Region.binds .any e && e.on == j) &&
 aG8 ops f σ [] [] none
section
variable {P:Program} {ops:Array Oper} {Q:Exit→Act→World→Prop} {a0:Act} {n f:Nat}
structure bY7 (ops:Array Oper) (n:Nat):Prop where
 nosel:Region.noSelect ops=true
 dst:∀ i d,oV ops i=some d→d < n∧∀ j,j≠i→oV ops j≠some d
 looks:∀ (i:Nat) (o:Oper) (s j:Nat),ops[i]? = some o→s∈o.looksAt ops→oV ops j=some s→∃ e∈o.after,Region.binds .any e=true∧e.on=j
theorem aD0 {i d:Nat} (h:oV ops i=some d):i < ops.size:=by
 unfold oV at h
 cases ho:ops[i]? with
 | none=>rw [ho] at h; cases h
 | some o=>exact (Array.getElem?_eq_some_iff.1 ho).1
theorem cQ8 {σ:List (Nat×Nat)} (h:cY1 ops f σ n=true):bY7 ops n∧σ.length=ops.size∧(∀ i,i < ops.size→i∈σ.map (·.1))∧aG8 ops f σ [] [] none=true:=by
 unfold cY1 at h
 simp only [Bool.and_eq_true,beq_iff_eq] at h
 obtain ⟨⟨⟨⟨h1,h2⟩,h3⟩,h4⟩,h5⟩:=h
 refine ⟨⟨h3,fun i d hd=>?_,fun i o s j ho hs hj=>?_⟩,h1,fun i hi=>?_,h5⟩
 ·have hi:=aD0 hd
  have h6:=(List.all_eq_true.1 h4) i (List.mem_range.2 hi)
  cases ho:ops[i]? with
  | none=>rw [ho] at h6; cases h6
  | some o =>
   have hod:o.dst=some d:=by simpa [oV,ho] using hd
   simp only [ho,hod,Bool.and_eq_true,decide_eq_true_eq] at h6
   refine ⟨h6.1.1,fun j hj he=>?_⟩
   have:=(List.all_eq_true.1 h6.1.2) j (List.mem_range.2 (aD0 he))
   simp [hj,he] at this
 ·have hi:=(Array.getElem?_eq_some_iff.1 ho).1
  have h6:=(List.all_eq_true.1 h4) i (List.mem_range.2 hi)
  simp only [ho,Bool.and_eq_true] at h6
  have h7:=(List.all_eq_true.1 h6.2) s hs
  have h8:=(List.all_eq_true.1 h7) j (List.mem_range.2 (aD0 hj))
  simp only [hj,bne_self_eq_false,Bool.false_or] at h8
  rw [← Array.any_toList,List.any_eq_true] at h8
  obtain ⟨e,he1,he2⟩:=h8
  simp only [Bool.and_eq_true,beq_iff_eq] at he2
  exact ⟨e,Array.mem_toList_iff.1 he1,he2.1,he2.2⟩
 ·have:=(List.all_eq_true.1 h2) i (List.mem_range.2 hi)
  simpa using this
theorem bX2 {a b:Act} {o:Oper} (hsel:∀ cs b,o.op≠.select cs b) (hsz:a.tmps.size=b.tmps.size) (h:∀ s∈o.looksAt ops,a.tmps.getD s undef=b.tmps.getD s undef) :
  execOp a.eval o=execOp b.eval o∧Region.wanted o (yielded ops a.tmps)=Region.wanted o (yielded ops b.tmps):=by
 refine ⟨execOp_congr o hsel fun x hx=>?_,?_⟩
 ·cases x with
  | tmp s=>exact h s (List.mem_append_left _ (List.mem_filterMap.2 ⟨.tmp s,by simpa using hx,rfl⟩))
  | const v=>rfl
  | global g=>rfl
  | func f=>rfl
 ·unfold Region.wanted
  cases hg:o.guard with
  | none=>rfl
  | some gw =>
   obtain ⟨g,want⟩:=gw
   have:yielded ops a.tmps g=yielded ops b.tmps g:=by
    unfold yielded
    cases ht:(ops[g]?).bind (·.dst) with
    | none=>rfl
    | some t =>
     have h1:=h t (by simp [Oper.looksAt,hg,ht])
     have h2:a.tmps[t]? = b.tmps[t]? := by
      rw [Array.getD_eq_getD_getElem?,Array.getD_eq_getD_getElem?] at h1
      by_cases hlt:t < a.tmps.size
      ·have hlt':t < b.tmps.size:=hsz ▸ hlt
       simpa [hlt,hlt'] using h1
      ·have hlt':¬ t < b.tmps.size:=hsz ▸ hlt
       simp [hlt,hlt']
     simp [h2]
   simp only [this]
def aG6 (ops:Array Oper):List Nat→Prop
 | []=>True
 | i :: r=>(∀ o,ops[i]? = some o→∀ e∈o.after,Region.binds .any e=true→e.on∈r)∧aG6 ops r
theorem aG6.edge:∀ {pre:List Nat},aG6 ops pre→∀ i∈pre,∀ o,ops[i]? = some o→∀ e∈o.after,Region.binds .any e=true→e.on∈pre
 | [],_,i,hi,_,_,_,_,_=>by cases hi
 | j :: r,h,i,hi,o,ho,e,he,hb=>by
  rcases List.mem_cons.1 hi with rfl | hi
  ·exact List.mem_cons_of_mem _ (h.1 o ho e he hb)
  ·exact List.mem_cons_of_mem _ (h.2.edge i hi o ho e he hb)
theorem aG6.least {listed:Array Bool}:∀ {pre:List Nat},aG6 ops pre→(∃ i∈pre,listed.getD i false=false)→∃ u∈pre,listed.getD u false=false∧∀ o,ops[u]? = some o→∀ e∈o.after,Region.binds .any e=true→listed.getD e.on false=true
 | [],_,⟨i,hi,_⟩=>by cases hi
 | j :: r,h,⟨i,hi,hl⟩=>by
  by_cases hr:∃ i∈r,listed.getD i false=false
  ·obtain ⟨u,h1,h2⟩:=h.2.least hr
   exact ⟨u,List.mem_cons_of_mem _ h1,h2⟩
  ·have hall:∀ x∈r,listed.getD x false=true:=fun x hx=>by
    cases hq:listed.getD x false with
    | true=>rfl
    | false=>exact absurd ⟨x,hx,hq⟩ hr
   rcases List.mem_cons.1 hi with rfl | hi
   ·exact ⟨i,List.mem_cons_self ..,hl,fun o ho e he hb=>hall _ (h.1 o ho e he hb)⟩
   ·exact absurd ⟨i,hi,hl⟩ hr
structure OI (P:Program) (ops:Array Oper) (a0:Act) (pre stl:List Nat) (post:List (Nat×Nat)) (V:Nat→Value) (az:Act) (T:World→Prop) (listed:Array Bool) (a:Act):Prop where
 sz:listed.size=ops.size
 all:∀ i,i < ops.size→i∈pre∨i∈post.map (·.1)
 nd:(pre++post.map (·.1)).Nodup
 hp:∀ i∈post.map (·.1),listed.getD i false=false
 cl:∀ i o,listed.getD i false=true→ops[i]? = some o→∀ e∈o.after,Region.binds .any e=true→listed.getD e.on false=true
 ch:aG6 ops pre
 val:∀ i∈pre,∀ d,oV ops i=some d→az.tmps.getD d undef=V i
 oth:∀ s,(∀ i∈pre,oV ops i≠some s)→az.tmps.getD s undef=a0.tmps.getD s undef
 ssz:az.tmps.size=a0.tmps.size
 sdf:az.defers=a0.defers
 done:∀ i,listed.getD i false=true→∀ d,oV ops i=some d→a.tmps.getD d undef=V i
 other:∀ s,(∀ i,listed.getD i false=true→oV ops i≠some s)→a.tmps.getD s undef=a0.tmps.getD s undef
 asz:a.tmps.size=a0.tmps.size
 adf:a.defers=a0.defers
 pure:∀ i∈pre,listed.getD i false=false→∀ o,ops[i]? = some o→(Region.wanted o (yielded ops az.tmps)=true∧∀ w,(T w∨i∈stl)→(execOp az.eval o).run P w=.ok (.value (V i)) w)∨(Region.wanted o (yielded ops az.tmps)=false∧V i=undef)
 isop:∀ i,(i∈pre∨i∈post.map (·.1))→∃ o,ops[i]? = some o
 stlp:∀ i∈stl,i∈pre
theorem aO7 {a:Act} {d:Option Tmp} {v:Value} {s:Nat} (h:d≠some s):(a.put d v).tmps.getD s undef=a.tmps.getD s undef:=by
 cases d with
 | none=>rfl
 | some d =>
  have:d≠s:=fun e=>h (by rw [e])
  simp [Act.put,Array.getD_eq_getD_getElem?,Array.getElem?_setIfInBounds_ne this]
theorem aI1 {a:Act} {d:Nat} {v:Value} (h:d < a.tmps.size):(a.put (some d) v).tmps.getD d undef=v:=by
 simp [Act.put,Array.getD_eq_getD_getElem?,h]
theorem bI9 (a:Act) (d:Option Tmp) (v:Value):(a.put d v).tmps.size=a.tmps.size∧(a.put d v).defers=a.defers:=by
 cases d with
 | none=>exact ⟨rfl,rfl⟩
 | some d=>exact ⟨by simp [Act.put],rfl⟩
theorem bV6 {i:Nat} {o:Oper} (ho:ops[i]? = some o):oV ops i=o.dst:=by simp [oV,ho]
section
variable {pre stl:List Nat} {post:List (Nat×Nat)} {V:Nat→Value} {az a:Act} {T:World→Prop} {listed:Array Bool}
theorem OI.apart (hD:bY7 ops n) (h:OI P ops a0 pre stl post V az T listed a) {i j:Nat} {o:Oper} (hi:i∈pre) (ho:ops[i]? = some o) (hj:j ∉ pre):∀ d,oV ops j=some d→d ∉ o.looksAt ops:=fun d hd hm=>by
 obtain ⟨e,he,hb,hon⟩:=hD.looks i o d j ho hm hd
 exact hj (hon ▸ h.ch.edge i hi o ho e he hb)
theorem OI.step0 (hD:bY7 ops n) (hn:n≤a0.tmps.size) {i:Nat} {o:Oper} {k:Nat} {v:Value} (h:OI P ops a0 pre stl ((i,k) :: post) V az T listed a) (ho:ops[i]? = some o) (he:∀ e∈o.after,Region.binds .any e=true→e.on∈pre)
  {stl':List Nat} (hst:∀ j,j∈stl'→j=i∨j∈stl)
  (hv:(Region.wanted o (yielded ops az.tmps)=true∧∀ w,(T w∨i∈stl')→(execOp az.eval o).run P w=.ok (.value v) w)∨(Region.wanted o (yielded ops az.tmps)=false∧v=undef)) :
  OI P ops a0 (i :: pre) stl' post (fun j=>if j=i then v else V j) (az.put o.dst v) T listed a:=by
 have hnd:=h.nd
 simp only [List.map_cons] at hnd
 have hip:i ∉ pre:=fun hm=>(List.nodup_append.1 hnd).2.2 i hm i (by simp) rfl
 have hiq:i ∉ post.map (·.1):=(List.nodup_cons.1 (List.nodup_append.1 hnd).2.1).1
 have hil:listed.getD i false=false:=h.hp i (by simp)
 have hdi:=bV6 (ops:=ops) ho
 have hself:∀ d,o.dst=some d→d ∉ o.looksAt ops:=fun d hd hm=>by
  obtain ⟨e,he1,hb,hon⟩:=hD.looks i o d i ho hm (hdi.trans hd)
  exact hip (hon ▸ he e he1 hb)
 have hsel:=fun cs b=>Region.noSelect_spec hD.nosel i o cs b ho
 refine ⟨h.sz,fun j hj=>?_,?_,fun j hj=>h.hp j (by simp [hj]),h.cl,⟨fun oj hoj e hej hb=>?_,h.ch⟩,fun j hj d hd=>?_,fun s hs=>?_,?_,?_,fun j hj d hd=>?_,h.other,h.asz,h.adf,fun j hj hl oj hoj=>?_,fun j hj=>h.isop j ?_,fun j hj=>(hst j hj).elim (fun e=>e ▸ List.mem_cons_self ..) fun hm=>List.mem_cons_of_mem _ (h.stlp j hm)⟩
 ·rcases h.all j hj with h1 | h1
  ·exact .inl (List.mem_cons_of_mem _ h1)
  ·simp only [List.map_cons,List.mem_cons] at h1
   rcases h1 with rfl | h1
   ·exact .inl (List.mem_cons_self ..)
   ·exact .inr h1
 ·rw [List.nodup_append] at hnd ⊢
  obtain ⟨n1,n2,n3⟩:=hnd
  exact ⟨List.nodup_cons.2 ⟨hip,n1⟩,(List.nodup_cons.1 n2).2,fun x hx y hy=>by
   rcases List.mem_cons.1 hx with rfl | hx
   ·intro e; subst e; exact hiq hy
   ·exact n3 x hx y (List.mem_cons_of_mem _ hy)⟩
 ·rw [ho] at hoj
  cases hoj
  exact he e hej hb
 ·rcases List.mem_cons.1 hj with rfl | hj
  ·rw [hdi] at hd
   rw [hd,aI1 (by rw [h.ssz]; exact Nat.lt_of_lt_of_le (hD.dst j d (hdi.trans hd)).1 hn),if_pos rfl]
  ·have hji:j≠i:=fun e=>hip (e ▸ hj)
   rw [aO7 (fun e=>(hD.dst i d (hdi.trans e)).2 j hji hd),if_neg hji]
   exact h.val j hj d hd
 ·rw [aO7 (fun e=>hs i (List.mem_cons_self ..) (hdi.trans e))]
  exact h.oth s fun j hj=>hs j (List.mem_cons_of_mem _ hj)
 ·rw [(bI9 az o.dst v).1,h.ssz]
 ·rw [(bI9 az o.dst v).2,h.sdf]
 ·have hji:j≠i:=fun e=>by rw [e,hil] at hj; cases hj
  rw [if_neg hji]
  exact h.done j hj d hd
 ·have hsj:=fun cs b=>Region.noSelect_spec hD.nosel j oj cs b hoj
  rcases List.mem_cons.1 hj with rfl | hj
  ·rw [ho] at hoj
   cases hoj
   rw [if_pos rfl,execOp_put (ops:=ops) o hsel az o.dst v hself,wanted_put o az o.dst v hself]
   exact hv
  ·have hji:j≠i:=fun e=>hip (e ▸ hj)
   have hap:∀ d,o.dst=some d→d ∉ oj.looksAt ops:=fun d hd=>h.apart hD hj hoj hip d (hdi.trans hd)
   rw [if_neg hji,execOp_put (ops:=ops) oj hsj az o.dst v hap,wanted_put oj az o.dst v hap]
   exact (h.pure j hj hl oj hoj).imp (fun ⟨p1,p2⟩=>⟨p1,fun w hw=>p2 w (hw.imp id fun hm=>(hst j hm).resolve_left hji)⟩) id
 ·simp only [List.map_cons,List.mem_cons] at hj ⊢
  rcases hj with (rfl | hj) | hj
  ·exact .inr (.inl rfl)
  ·exact .inl hj
  ·exact .inr (.inr hj)
theorem aM3 {K:(World→Prop)→Act→Prop} (hD:bY7 ops n) (hn:n≤a0.tmps.size):∀ (post:List (Nat×Nat)) (pre stl:List Nat) (V:Nat→Value) (az:Act) (last:Option Nat),OI P ops a0 pre stl post V az T listed a→Ord P ops K post T az→aG8 ops f post pre stl last=true→(∀ c,last=some c→c∈pre) →
    ∃ pre' stl' post' V' as' last',OI P ops a0 pre' stl' post' V' as' T listed a∧Ord P ops K post' T as'∧aG8 ops f post' pre' stl' last'=true∧(∀ c,last'=some c→c∈pre')∧(post'=[]∨∃ i k r,post'=(i,k) :: r∧k≠0∧k≠4)
  | [],pre,stl,V,az,last,hI,hO,hW,hl=>⟨pre,stl,[],V,az,last,hI,hO,hW,hl,.inl rfl⟩
  | (i,k) :: r,pre,stl,V,az,last,hI,hO,hW,hl=>by
    by_cases hk:k=0∨k=4
    · unfold Ord at hO
      obtain ⟨o,ho,hO⟩:=hO
      rw [if_pos hk] at hO
      unfold aG8 at hW
      rw [ho] at hW
      simp only [Bool.and_eq_true] at hW
      obtain ⟨⟨⟨⟨w0,w1⟩,w2⟩,w3⟩,w4⟩:=hW
      rw [if_pos (show ((k == 0 || k == 4)=true) by simpa using hk)] at w4
      have he:∀ e∈o.after,Region.binds .any e=true→e.on∈pre:=fun e he hb=>by
        rw [← Array.all_toList] at w1
        have:=(List.all_eq_true.1 w1) e (Array.mem_toList_iff.2 he)
        simpa [hb] using this
      have hip:i ∉ pre:=by simpa using w0
      have hst:∀ j,j∈(if (k == 4)=true then i :: stl else stl)→j=i∨j∈stl:=fun j hj=>by
        split at hj
        · exact List.mem_cons.1 hj
        · exact .inr hj
      have hstl:∀ j∈stl,j∈pre:=hI.stlp
      have h4:i∈(if (k == 4)=true then i :: stl else stl)→k=4:=fun hm=>by
        by_cases h:k=4
        · exact h
        · rw [if_neg (by simpa using h)] at hm
          exact absurd (hstl i hm) hip
      rcases hO with ⟨hw,v,hv,hr⟩ | ⟨hw,hr⟩
      · exact aM3 hD hn r (i :: pre) _ _ _ last (hI.step0 hD hn ho he hst (.inl ⟨hw,fun w h=>hv w (h.imp id h4)⟩)) hr w4 fun c hc=>List.mem_cons_of_mem _ (hl c hc)
      · exact aM3 hD hn r (i :: pre) _ _ _ last (hI.step0 hD hn ho he hst (.inr ⟨hw,rfl⟩)) hr w4 fun c hc=>List.mem_cons_of_mem _ (hl c hc)
    · exact ⟨pre,stl,_,V,az,last,hI,hO,hW,hl,.inr ⟨i,k,r,rfl,fun h=>hk (.inl h),fun h=>hk (.inr h)⟩⟩
theorem wZ (hcl:∀ i o,listed.getD i false=true→ops[i]? = some o→∀ e∈o.after,Region.binds .any e=true→listed.getD e.on false=true) {i:Nat}:∀ (f j:Nat) (o:Oper),ops[j]? = some o→(∀ e∈o.after,Region.binds .any e=true→listed.getD e.on false=true)→reach ops f j i=true→listed.getD i false=true
 | 0,j,o,_,_,hr=>by cases hr
 | f+1,j,o,ho,hall,hr=>by
  unfold reach at hr
  rw [ho] at hr
  simp only [Array.any_eq_true'] at hr
  obtain ⟨e,he,hr⟩:=hr
  simp only [Bool.and_eq_true,Bool.or_eq_true,beq_iff_eq] at hr
  obtain ⟨hb,hr⟩:=hr
  have hl:=hall e he hb
  rcases hr with rfl | hr
  ·exact hl
  ·cases hoe:ops[e.on]? with
   | none =>
    cases f with
    | zero=>cases hr
    | succ f=>unfold reach at hr; rw [hoe] at hr; cases hr
   | some o'=>exact wZ hcl f e.on o' hoe (hcl e.on o' hl hoe) hr
theorem cA0:∀ (post:List (Nat×Nat)) (pre stl:List Nat) (last:Option Nat),aG8 ops f post pre stl last=true→(post.map (·.1)).Nodup∧(∀ x∈post.map (·.1),x ∉ pre)∧∀ x∈post.map (·.1),∃ o,ops[x]? = some o
  | [],_,_,_,_=>⟨List.nodup_nil,(by intro x h; cases h),(by intro x h; cases h)⟩
  | (i,k) :: r,pre,stl,last,h=>by
    unfold aG8 at h
    simp only [Bool.and_eq_true] at h
    obtain ⟨⟨⟨⟨h0,h1⟩,h2⟩,_⟩,h4⟩:=h
    obtain ⟨n1,n2,n3⟩:=cA0 r (i :: pre) _ _ h4
    simp only [List.map_cons,List.mem_cons]
    refine ⟨List.nodup_cons.2 ⟨fun hm=>n2 i hm (List.mem_cons_self ..),n1⟩,fun x hx=>?_,fun x hx=>?_⟩
    · rcases hx with rfl | hx
      · simpa using h0
      · exact fun hm=>n2 x hx (List.mem_cons_of_mem _ hm)
    · rcases hx with rfl | hx
      · cases ho:ops[x]? with
        | none=>rw [ho] at h1; cases h1
        | some o=>exact ⟨o,rfl⟩
      · exact n3 x hx
theorem aV5:∀ (post:List (Nat×Nat)) (pre stl:List Nat) (c:Nat),aG8 ops f post pre stl (some c)=true→∀ x∈post.map (·.1),∃ c',(c'=c∨c'∈post.map (·.1))∧reach ops f x c'=true
  | [],pre,stl,c,_,x,hx=>by cases hx
  | (i,k) :: r,pre,stl,c,h,x,hx=>by
    unfold aG8 at h
    simp only [Bool.and_eq_true] at h
    obtain ⟨⟨⟨⟨_,_⟩,h2⟩,_⟩,h4⟩:=h
    simp only [List.map_cons,List.mem_cons] at hx ⊢
    rcases hx with rfl | hx
    · exact ⟨c,.inl rfl,h2⟩
    · have:∃ c2 stl2,(c2=c∨c2=i)∧aG8 ops f r (i :: pre) stl2 (some c2)=true:=by
        by_cases hk:(k == 0 || k == 4)=true
        · rw [if_pos hk] at h4; exact ⟨c,_,.inl rfl,h4⟩
        · rw [if_neg hk] at h4; exact ⟨i,_,.inr rfl,h4⟩
      obtain ⟨c2,stl2,hc2,h5⟩:=this
      obtain ⟨c',h6,h7⟩:=aV5 r (i :: pre) stl2 c2 h5 x hx
      refine ⟨c',?_,h7⟩
      rcases h6 with rfl | h6
      · rcases hc2 with rfl | rfl
        · exact .inl rfl
        · exact .inr (.inl rfl)
      · exact .inr (.inr h6)
theorem OI.same (hD:bY7 ops n) (h:OI P ops a0 pre stl post V az T listed a) {i:Nat} {o:Oper} (ho:ops[i]? = some o) (hall:∀ e∈o.after,Region.binds .any e=true→listed.getD e.on false=true) :
  execOp a.eval o=execOp az.eval o∧Region.wanted o (yielded ops a.tmps)=Region.wanted o (yielded ops az.tmps):=by
 refine bX2 (fun cs b=>Region.noSelect_spec hD.nosel i o cs b ho) (h.asz.trans h.ssz.symm) fun s hs=>?_
 by_cases hj:∃ j,oV ops j=some s
 ·obtain ⟨j,hj⟩:=hj
  obtain ⟨e,he,hb,hon⟩:=hD.looks i o s j ho hs hj
  have hl:listed.getD j false=true:=hon ▸ hall e he hb
  have hjp:j∈pre:=by
   rcases h.all j (aD0 hj) with h1 | h1
   ·exact h1
   ·rw [h.hp j h1] at hl; cases hl
  rw [h.done j hl s hj,h.val j hjp s hj]
 ·rw [h.other s fun j _ hd=>hj ⟨j,hd⟩,h.oth s fun j _ hd=>hj ⟨j,hd⟩]
theorem qX {l:Array Bool} {i:Nat} (h:i < l.size):(l.setIfInBounds i true).getD i false=true:=by simp [Array.getD_eq_getD_getElem?,h]
theorem OI.list (hD:bY7 ops n) (hn:n≤a0.tmps.size) (h:OI P ops a0 pre stl post V az T listed a) {i:Nat} {o:Oper} (ho:ops[i]? = some o) (hi:i∈pre) (hall:∀ e∈o.after,Region.binds .any e=true→listed.getD e.on false=true) :
  OI P ops a0 pre stl post V az T (listed.setIfInBounds i true) (a.put o.dst (V i)):=by
 have hdi:=bV6 (ops:=ops) ho
 have his:i < listed.size:=by rw [h.sz]; exact (Array.getElem?_eq_some_iff.1 ho).1
 have hiq:i ∉ post.map (·.1):=fun hm=>(List.nodup_append.1 h.nd).2.2 i hi i hm rfl
 have hgt:∀ j,(listed.setIfInBounds i true).getD j false=true→j=i∨listed.getD j false=true:=fun j hj=>by
  by_cases hji:i=j
  ·exact .inl hji.symm
  ·rw [getD_set_ne false hji] at hj; exact .inr hj
 have hup:∀ j,listed.getD j false=true→(listed.setIfInBounds i true).getD j false=true:=fun j hj=>by
  by_cases hji:i=j
  ·subst hji; exact qX his
  ·rw [getD_set_ne false hji]; exact hj
 refine ⟨by simp [h.sz],h.all,h.nd,fun j hj=>?_,fun j oj hj hoj e he hb=>?_,h.ch,h.val,h.oth,h.ssz,h.sdf,fun j hj d hd=>?_,fun s hs=>?_,?_,?_,fun j hj hl oj hoj=>?_,h.isop,h.stlp⟩
 ·rw [getD_set_ne false (fun e:i=j=>hiq (e ▸ hj))]
  exact h.hp j hj
 ·rcases hgt j hj with rfl | hj
  ·rw [ho] at hoj
   cases hoj
   exact hup _ (hall e he hb)
  ·exact hup _ (h.cl j oj hj hoj e he hb)
 ·by_cases hji:j=i
  ·subst hji
   rw [hdi] at hd
   rw [hd,aI1 (by rw [h.asz]; exact Nat.lt_of_lt_of_le (hD.dst j d (hdi.trans hd)).1 hn)]
  ·rw [aO7 (fun e=>(hD.dst i d (hdi.trans e)).2 j hji hd)]
   exact h.done j ((hgt j hj).resolve_left hji) d hd
 ·rw [aO7 (fun e=>hs i (qX his) (hdi.trans e))]
  exact h.other s fun j hj=>hs j (hup j hj)
 ·rw [(bI9 a o.dst _).1,h.asz]
 ·rw [(bI9 a o.dst _).2,h.adf]
 ·refine h.pure j hj ?_ oj hoj
  cases hq:listed.getD j false with
  | false=>rfl
  | true=>rw [hup j hq] at hl; cases hl
theorem Gives.wp {o:Oper} {w:World} {R:Value→World→Prop} {K:Act→World→Prop} (h:Gives P o az w R) (he:execOp a.eval o=execOp az.eval o) (hK:∀ u w',R u w'→K (a.put o.dst u) w'):o.wp P a w K Q:=by
 unfold Oper.wp
 rw [he]
 rcases h with ⟨u,w',h1,h2⟩ | ⟨w',h1,h2⟩ | ⟨f,args,w1,h1,h2⟩
 ·rw [h1]; exact hK u w' h2
 ·rw [h1]; exact hK undef w' h2
 ·rw [h1]
  exact h2.mono fun e w' ⟨u,h3,h4⟩=>by subst h3; exact hK u w' h4
theorem OI.cM3 (h:OI P ops a0 pre stl [] V az T listed a) (hl:∀ i∈pre,listed.getD i false=true):a=az:=by
 refine cQ6 (h.asz.trans h.ssz.symm) (h.adf.trans h.sdf.symm) fun s=>?_
 by_cases hj:∃ j,oV ops j=some s
 ·obtain ⟨j,hj⟩:=hj
  have hjp:j∈pre:=by
   rcases h.all j (aD0 hj) with h1 | h1
   ·exact h1
   ·cases h1
  rw [h.done j (hl j hjp) s hj,h.val j hjp s hj]
 ·rw [h.other s fun j _ hd=>hj ⟨j,hd⟩,h.oth s fun j _ hd=>hj ⟨j,hd⟩]
end
def cL4 (Q:Exit→Act→World→Prop) (T:World→Prop) (a:Act):Prop:=∀ w,T w→Q .normal a w
theorem cZ8 (hD:bY7 ops n) (hn:n≤a0.tmps.size):∀ (fuel:Nat) (U:List Nat) (pre stl:List Nat) (post:List (Nat×Nat)) (V:Nat→Value) (az:Act) (T:World→Prop) (last:Option Nat) (listed:Array Bool) (a:Act) (w:World),
  OI P ops a0 pre stl post V az T listed a→Ord P ops (cL4 Q) post T az→aG8 ops f post pre stl last=true→(∀ c,last=some c→c∈pre)→(post=[]∨∃ i k r,post=(i,k) :: r∧k≠0∧k≠4) →
  U.Nodup→(∀ i,i < ops.size→listed.getD i false=false→i∈U)→U.length≤fuel→T w→wpAny P .any ops Q fuel listed a w:=by
 intro fuel
 -- where nothing is ready,all has come up
 have least:∀ {pre stl:List Nat} {post:List (Nat×Nat)} {V:Nat→Value} {az:Act} {T:World→Prop} {last:Option Nat} {listed:Array Bool} {a:Act},OI P ops a0 pre stl post V az T listed a→aG8 ops f post pre stl last=true→Region.ready .any ops listed=[]→post=[]∧∀ i∈pre,listed.getD i false=true:=by
  intro pre stl post V az T last listed a hI hW hr
  have none_ready:∀ u o,ops[u]? = some o→listed.getD u false=false→(∀ e∈o.after,Region.binds .any e=true→listed.getD e.on false=true)→False:=fun u o ho hl hall=>by
   have:u∈Region.ready .any ops listed:=by
    refine mem_ready.2 ⟨?_,o,ho,hall⟩
    have hs:u < listed.size:=by rw [hI.sz]; exact (Array.getElem?_eq_some_iff.1 ho).1
    rw [Array.getD_eq_getD_getElem?] at hl ⊢
    simpa [hs] using hl
   rw [hr] at this
   cases this
  have hpre:∀ i∈pre,listed.getD i false=true:=fun i hi=>by
   cases hq:listed.getD i false with
   | true=>rfl
   | false =>
    exfalso
    obtain ⟨u,h1,h2,h3⟩:=hI.ch.least ⟨i,hi,hq⟩
    obtain ⟨o,ho⟩:∃ o,ops[u]? = some o:=by
     cases ho:ops[u]? with
     | some o=>exact ⟨o,rfl⟩
     | none=>obtain ⟨o,ho'⟩:=hI.isop u (.inl h1); rw [ho] at ho'; cases ho'
    exact none_ready u o ho h2 (h3 o ho)
  refine ⟨?_,hpre⟩
  cases post with
  | nil=>rfl
  | cons x r =>
   exfalso
   obtain ⟨c,k⟩:=x
   unfold aG8 at hW
   simp only [Bool.and_eq_true] at hW
   obtain ⟨⟨⟨⟨_,w1⟩,_⟩,_⟩,_⟩:=hW
   cases hoc:ops[c]? with
   | none=>rw [hoc] at w1; cases w1
   | some o =>
    rw [hoc] at w1
    refine none_ready c o hoc (hI.hp c (by simp)) fun e he hb=>?_
    simp only at w1
    rw [← Array.all_toList] at w1
    have:=(List.all_eq_true.1 w1) e (Array.mem_toList_iff.2 he)
    exact hpre _ (by simpa [hb] using this)
 have fin:∀ {pre stl:List Nat} {post:List (Nat×Nat)} {V:Nat→Value} {az:Act} {T:World→Prop} {last:Option Nat} {listed:Array Bool} {a:Act} {w:World},OI P ops a0 pre stl post V az T listed a→Ord P ops (cL4 Q) post T az→aG8 ops f post pre stl last=true→T w→Region.ready .any ops listed=[]→Q .normal a w:=by
  intro pre stl post V az T last listed a w hI hO hW hT hr
  obtain ⟨rfl,hl⟩:=least hI hW hr
  have:=hI.cM3 hl
  subst this
  exact hO w hT
 induction fuel with
 | zero =>
  intro U pre stl post V az T last listed a w hI hO hW hl hpn hU hUc hf hT
  obtain rfl:=List.length_eq_zero_iff.1 (Nat.le_zero.1 hf)
  have hr:Region.ready .any ops listed=[]:=by
   refine List.eq_nil_iff_forall_not_mem.2 fun i hi=>?_
   obtain ⟨h1,o,ho,_⟩:=mem_ready.1 hi
   have his:=(Array.getElem?_eq_some_iff.1 ho).1
   have hs:i < listed.size:=by rw [hI.sz]; exact his
   have:listed.getD i false=false:=by
    rw [Array.getD_eq_getD_getElem?] at h1 ⊢
    simpa [hs] using h1
   cases hUc i his this
  exact ⟨hr,fin hI hO hW hT hr⟩
 | succ fuel ih =>
  intro U pre stl post V az T last listed a w hI hO hW hl hpn hU hUc hf hT
  refine ⟨fun hr=>fin hI hO hW hT hr,fun i hi=>?_⟩
  obtain ⟨h1,o,ho,hall⟩:=mem_ready.1 hi
  have his:=(Array.getElem?_eq_some_iff.1 ho).1
  have hs:i < listed.size:=by rw [hI.sz]; exact his
  have hil:listed.getD i false=false:=by
   rw [Array.getD_eq_getD_getElem?] at h1 ⊢
   simpa [hs] using h1
  have hiU:=hUc i his hil
  have hlen:(U.erase i).length≤fuel:=by rw [List.length_erase_of_mem hiU]; omega
  have hUc':∀ j,j < ops.size→(listed.setIfInBounds i true).getD j false=false→j∈U.erase i:=fun j hj hq=>by
   by_cases hji:i=j
   ·subst hji
    rw [qX hs] at hq
    cases hq
   ·rw [getD_set_ne false hji] at hq
    exact (hU.mem_erase_iff).2 ⟨fun e=>hji e.symm,hUc j hj hq⟩
  obtain ⟨e1,e2⟩:=hI.same hD ho hall
  unfold wpOp
  rw [ho]
  simp only
  rcases hI.all i his with hip | hip
  ·-- it only reads
   have hgo:=fun w (hT:T w)=>ih (U.erase i) pre stl post V az T last _ _ w (hI.list hD hn ho hip hall) hO hW hl hpn (hU.erase _) hUc' hlen hT
   rcases hI.pure i hip hil o ho with ⟨p1,p2⟩ | ⟨p1,p2⟩
   ·rw [e2,p1,if_pos rfl]
    refine .inl ?_
    unfold Oper.wp
    rw [e1,p2 w (.inl hT)]
    exact hgo w hT
   ·rw [e2,p1]
    rw [if_neg (by simp),← p2]
    exact hgo w hT
  ·-- it has an effect: it is the next one
   rcases hpn with rfl | ⟨c,k,r,rfl,hk,hk4⟩
   ·cases hip
   have hW0:=hW
   unfold aG8 at hW
   simp only [Bool.and_eq_true] at hW
   obtain ⟨⟨⟨⟨w0,w1⟩,w2⟩,w3⟩,w4⟩:=hW
   rw [if_neg (show ¬ (k == 4)=true by simpa using hk4),if_neg (show ¬ (k == 0 || k == 4)=true by simp [hk,hk4])] at w4
   have hic:i=c:=by
    simp only [List.map_cons,List.mem_cons] at hip
    rcases hip with h' | h'
    ·exact h'
    ·exfalso
     obtain ⟨c',hc',hr⟩:=aV5 r (c :: pre) stl c w4 i h'
     have hlc:=wZ hI.cl f i o ho hall hr
     have:c'∈List.map (·.1) ((c,k) :: r):=by
      simp only [List.map_cons,List.mem_cons]
      exact hc'.imp id id
     rw [hI.hp c' this] at hlc
     cases hlc
   subst hic
   unfold Ord at hO
   obtain ⟨o',ho',hO⟩:=hO
   rw [ho] at ho'
   cases ho'
   rw [if_neg (show ¬ (k=0∨k=4) from fun h=>h.elim hk hk4)] at hO
   obtain ⟨hw,D,R,hG,hk1,hR⟩:=hO
   have hnd:=hI.nd
   simp only [List.map_cons] at hnd
   have hipre:i ∉ pre:=fun hm=>(List.nodup_append.1 hnd).2.2 i hm i (by simp) rfl
   have hiq:i ∉ r.map (·.1):=(List.nodup_cons.1 (List.nodup_append.1 hnd).2.1).1
   have hedge:∀ e∈o.after,Region.binds .any e=true→e.on∈pre:=fun e he hb=>by
    rw [ho] at w1
    simp only at w1
    rw [← Array.all_toList] at w1
    have:=(List.all_eq_true.1 w1) e (Array.mem_toList_iff.2 he)
    simpa [hb] using this
   rw [e2,hw,if_pos rfl]
   refine .inl ((hG w hT).wp e1 fun u w' ⟨hu,hRu⟩=>?_)
   -- the same state,the operation az one that yields u
   have hI2:OI P ops a0 (i :: pre) stl r (fun j=>if j=i then u else V j) (az.put o.dst u) (R u) (listed.setIfInBounds i true) (a.put o.dst u):=by
    have hstep:OI P ops a0 pre stl ((i,0) :: r) V az (fun _=>False) listed a:=⟨hI.sz,hI.all,hI.nd,hI.hp,hI.cl,hI.ch,hI.val,hI.oth,hI.ssz,hI.sdf,hI.done,hI.other,hI.asz,hI.adf,fun j hj hjl oj hoj=>(hI.pure j hj hjl oj hoj).imp (fun ⟨p,q⟩=>⟨p,fun w h=>q w (.inr (h.resolve_left id))⟩) id,hI.isop,hI.stlp⟩
    have h2:=(hstep.step0 hD hn ho hedge (v:=u) (stl':=stl) (fun j hj=>.inr hj) (.inl ⟨hw,fun _ h=>h.elim (fun h=>h.elim) fun hm=>absurd (hI.stlp i hm) hipre⟩)).list hD hn ho (List.mem_cons_self ..) hall
    simp only [if_true] at h2
    refine ⟨h2.sz,h2.all,h2.nd,h2.hp,h2.cl,h2.ch,h2.val,h2.oth,h2.ssz,h2.sdf,h2.done,h2.other,h2.asz,h2.adf,fun j hj hjl oj hoj=>?_,h2.isop,h2.stlp⟩
    have hji:j≠i:=fun e=>by rw [e,qX hs] at hjl; cases hjl
    have hjp:j∈pre:=(List.mem_cons.1 hj).resolve_left hji
    rw [getD_set_ne false (Ne.symm hji)] at hjl
    have hsj:=fun cs b=>Region.noSelect_spec hD.nosel j oj cs b hoj
    have hap:∀ d,o.dst=some d→d ∉ oj.looksAt ops:=fun d hd=>hI.apart hD hjp hoj hipre d ((bV6 ho).trans hd)
    rw [execOp_put (ops:=ops) oj hsj az o.dst u hap,wanted_put oj az o.dst u hap,if_neg hji]
    refine (hI.pure j hjp hjl oj hoj).imp (fun ⟨p1,p2⟩=>⟨p1,fun x3 h3=>?_⟩) id
    by_cases hjs:j∈stl
    ·exact p2 x3 (.inr hjs)
    replace h3:=h3.resolve_right hjs
    by_cases hk':k=1
    ·exact p2 x3 (.inl (hk1 hk' u x3 h3))
    ·-- all ahead are waited for
     exfalso
     simp only [Bool.or_eq_true,beq_iff_eq,hk,hk4,hk',false_or] at w3
     have w5:=(List.all_eq_true.1 w3) j hjp
     simp only [Bool.or_eq_true,List.contains_eq_mem,decide_eq_true_eq,hjs,false_or] at w5
     have:=wZ hI.cl f i o ho hall w5
     rw [hjl] at this
     cases this
   obtain ⟨pre',stl',post',V',as',last',g1,g2,g3,g4,g5⟩:=aM3 (K:=cL4 Q) hD hn r (i :: pre) _ _ _ (some i) hI2 (hR u hu) w4 fun c hc=>by cases hc; exact List.mem_cons_self ..
   exact ih (U.erase i) pre' stl' post' V' as' (R u) last' _ _ w' g1 g2 g3 g4 g5 (hU.erase _) hUc' hlen hRu
theorem bE0 {id:Nat} {w:World} (σ:List (Nat×Nat)) (f:Nat) (T:World→Prop) (hmx:P.follows .mixedOrders=true) (hB:cY1 ops f σ a0.tmps.size=true) (hT:T { w with drawn:=w.drawn+1 }) (h:Ord P ops (cL4 Q) σ T a0):(Code.region id ops true).wp P Q a0 w:=by
 obtain ⟨hD,hlen,hall,hW⟩:=cQ8 hB
 obtain ⟨hnd,_,hisop⟩:=cA0 σ [] [] none hW
 have hI:OI P ops a0 [] [] σ (fun _=>undef) a0 T (Array.replicate ops.size false) a0:=by
  have hf:∀ i,(Array.replicate ops.size false).getD i false=false:=fun i=>by
   rw [Array.getD_eq_getD_getElem?,Array.getElem?_replicate]
   split <;> rfl
  refine ⟨by simp,fun i hi=>.inr (hall i hi),by simpa using hnd,fun i _=>hf i,?_,trivial,?_,fun _ _=>rfl,rfl,rfl,?_,fun _ _=>rfl,rfl,rfl,?_,?_,?_⟩
  ·intro i o hi; rw [hf] at hi; cases hi
  ·intro i hi; cases hi
  ·intro i hi; rw [hf] at hi; cases hi
  ·intro i hi; cases hi
  ·intro i hi
   rcases hi with h | h
   ·cases h
   ·exact hisop i h
  ·intro i hi; cases hi
 obtain ⟨pre',stl',post',V',as',last',g1,g2,g3,g4,g5⟩:=aM3 (K:=cL4 Q) hD (Nat.le_refl _) σ [] _ _ _ none hI h hW fun c hc=>by cases hc
 exact wp_region_any hmx (cZ8 hD (Nat.le_refl _) ops.size (List.range ops.size) pre' stl' post' V' as' T last' _ _ _ g1 g2 g3 g4 g5 List.nodup_range (fun i hi _=>List.mem_range.2 hi) (by simp) hT)
section
variable {K:(World→Prop)→Act→Prop} {i:Nat} {r:List (Nat×Nat)} {T:World→Prop} {a:Act} {o:Oper}
theorem Ord.pure (v:Value) (ho:ops[i]? = some o) (hw:Region.wanted o (yielded ops a.tmps)=true) (h:∀ w,T w→(execOp a.eval o).run P w=.ok (.value v) w) (hr:Ord P ops K r T (a.put o.dst v)):Ord P ops K ((i,0) :: r) T a:=by
 unfold Ord
 exact ⟨o,ho,by rw [if_pos (.inl rfl)]; exact .inl ⟨hw,v,fun w hT=>h w (hT.resolve_right (by decide)),hr⟩⟩
theorem Ord.still (v:Value) (ho:ops[i]? = some o) (hw:Region.wanted o (yielded ops a.tmps)=true) (h:∀ w,(execOp a.eval o).run P w=.ok (.value v) w) (hr:Ord P ops K r T (a.put o.dst v)):Ord P ops K ((i,4) :: r) T a:=by
 unfold Ord
 exact ⟨o,ho,by rw [if_pos (.inr rfl)]; exact .inl ⟨hw,v,fun w _=>h w,hr⟩⟩
theorem Ord.skip (ho:ops[i]? = some o) (hw:Region.wanted o (yielded ops a.tmps)=false) (hr:Ord P ops K r T (a.put o.dst undef)):Ord P ops K ((i,0) :: r) T a:=by
 unfold Ord
 exact ⟨o,ho,by rw [if_pos (.inl rfl)]; exact .inr ⟨hw,hr⟩⟩
theorem Ord.eff {k:Nat} (D:Value→Prop) (R:Value→World→Prop) (hk:k≠0∧k≠4) (ho:ops[i]? = some o) (hw:Region.wanted o (yielded ops a.tmps)=true) (h:∀ w,T w→Gives P o a w fun u w'=>D u∧R u w') (h1:k=1→∀ u w,R u w→T w)
  (hr:∀ u,D u→Ord P ops K r (R u) (a.put o.dst u)):Ord P ops K ((i,k) :: r) T a:=by
 unfold Ord
 exact ⟨o,ho,by rw [if_neg (fun h=>h.elim hk.1 hk.2)]; exact ⟨hw,D,R,h,h1,hr⟩⟩
theorem Gives.call {R:Value→World→Prop} {w:World} (f:FuncId) (args:Array Value) (h:(execOp a.eval o).run P w=.ok (.enter f args) w) (h2:Calls P f args w fun e w'=>∃ u,e=.returned u∧R u w'):Gives P o a w R:=.inr (.inr ⟨f,args,w,h,h2⟩)
theorem Gives.value {R:Value→World→Prop} {w w':World} (u:Value) (h:(execOp a.eval o).run P w=.ok (.value u) w') (h2:R u w'):Gives P o a w R:=.inl ⟨u,w',h,h2⟩
theorem Gives.skip {R:Value→World→Prop} {w w':World} (h:(execOp a.eval o).run P w=.ok .skip w') (h2:R undef w'):Gives P o a w R:=.inr (.inl ⟨w',h,h2⟩)
end
end
section
variable {P:Program} {ops:Array Oper} {Q:Exit→Act→World→Prop} {rest:List Oper} {o:Oper} {a:Act} {w w':World}
theorem bR0 {ty:TypeId} {x y:Operand} (ho:o.op=.store ty x y) (h:(Instr.storeAt ty (a.eval x) (a.eval y)).run P w=.ok () w'):(execOp a.eval o).run P w=.ok .skip w':=by
 obtain ⟨dst,op,type,pos,after,guard⟩:=o
 cases ho
 simp only [execOp,Sem.run_bind,h,Result.andThen_ok,Sem.run_pure]
theorem aY2 {ty:TypeId} {x y:Operand} (hg:o.guard=none) (ho:o.op=.store ty x y) (h:(Instr.storeAt ty (a.eval x) (a.eval y)).run P w=.ok () w') (k:wpList P ops Q rest (a.put o.dst undef) w'):wpList P ops Q (o :: rest) a w :=
 wpList_plain hg fun K hK=>by
  unfold Oper.wp
  rw [bR0 ho h]
  exact hK _ _ k
def Halt (p:Prop):Prop:=p
theorem st {ty type:TypeId} {x y:Operand} {pos:String} {after:Array Edge} (h:(Instr.storeAt ty (a.eval x) (a.eval y)).run P w=.ok () w') (k:wpList P ops Q rest a w'):wpList P ops Q (⟨none,.store ty x y,type,pos,after,none⟩ :: rest) a w :=
 aY2 rfl rfl h k
theorem hlt (d:Nat) {op:Op} {type:TypeId} {pos:String} {after:Array Edge} {guard:Option (Nat×Bool)} (h:Halt (wpList P ops Q (⟨some d,op,type,pos,after,guard⟩ :: rest) a w)):wpList P ops Q (⟨some d,op,type,pos,after,guard⟩ :: rest) a w:=h
end
end Go.Vm
