/-
  THE V-MACHINE,text D: VmGlob,VmShelf,VmGlobs,VmBits,VmUpto,VmTake,VmShaped,VmLend,VmRow,VmSort,VmSort2,VmIns,VmIns2,VmDefer,VmPanic,VmCatch,VmShort,VmTiny.
-/
import Derived.Test.YtldmbabgcdmjcaaGreatDoorVmC
import Derived.LaidMore
import Derived.MakeChecks
import Derived.OpenShut
import Derived.Lib.LaidTab
import Derived.Below
import Derived.JoinedCond
import Derived.Lib.SliceRun
import Derived.HandedShaped
import Derived.Handed
import Derived.Shelf.Vars
import Derived.Sort.Row
import Derived.Sort.Grow
import Derived.Sort.EncStr
import Derived.Lib.SlicesCompact
import Derived.Laws.IdiomCopy
import Derived.Lib.AppendZerosOnto
import Derived.Defers
import Derived.Recover
namespace Go.Vm
open Go.ChangeShapes Go.RowKit Go.WideShapes Go.ChangeAt Go.WideMaps Go.WideElems
theorem cD5 {P:Program} {W:World} {nm:String} {g:Nat} {t e:TypeId} {n:Nat} {k:IntKind} {l:List Int} (hg:P.globalNamed nm=some g) (hty:(P.globals[g]?).map (·.type)=some t) (ht:P.underlying t=some (.array n e)) (he:P.underlying e=some (.int k)) (h1:P.cellsOf e=1) (hts:P.cellsOf t=n) (hn:l.length=n)
  (h:laidMet P [(nm,.agg (l.map fun i=>.lit (.int k i)))] W):uM (rO W) W g (l.flatMap (cI k)):=by
 obtain ⟨ps,⟨g0,t0,cs0,f0,p0,q0,hg0,ht0,hv0,hd0,_,_⟩,_,_⟩:=h
 obtain rfl:=Option.some.inj (hg.symm.trans hg0)
 obtain rfl:=Option.some.inj (hty.symm.trans ht0)
 obtain ⟨xs,m,rfl,hx,hlen,hxl,hel⟩:=DataW.trod_array ht hd0
 simp only [Prod.mk.injEq,DataW.agg.injEq] at hx
 have hheap:∃ E fz,W.heap[g]? = some (.cells cs0 E fz):=by
  have hv:=hv0
  simp only [World.var?,hg,Option.bind_some] at hv
  split at hv
  ·rename_i c E fz hh
   cases hv
   exact ⟨E,fz,hh⟩
  ·cases hv
 obtain ⟨E,fz,hh⟩:=hheap
 have hfl:∀ (l:List Int),l.flatMap (cI k)=l.map fun i=>.v (.int k i):=by
  intro l
  induction l with
  | nil=>rfl
  | cons x l ih=>rw [List.flatMap_cons,ih]; rfl
 rw [hfl]
 have hsize:cs0.size=n:=by
  have h0:=hlen
  simp only [Array.length_toList,hts] at h0
  exact h0
 refine ⟨cs0,E,fz,cZ hh,hh,by rw [List.length_map,hn,hsize],RCs.dD _ 0 fun j x hx'=>?_⟩
 rw [List.getElem?_map,Option.map_eq_some_iff] at hx'
 obtain ⟨i,hi,rfl⟩:=hx'
 have hjl:j < l.length:=(List.getElem?_eq_some_iff.1 hi).1
 have hj:=hel j (by omega)
 rw [List.getElem?_eq_getElem (by omega),h1,Nat.mul_one] at hj
 obtain ⟨a,ha1,ha2,_⟩:=DataW.trod_int he hj
 have hxj:(xs.map (·.1))[j]? = (l.map fun i=>(DataW.lit (.int k i):DataW Unit))[j]? := by rw [hx.1]
 rw [List.getElem?_map,List.getElem?_map,hi,List.getElem?_eq_getElem (show j < xs.length by omega),ha2] at hxj
 simp only [Option.map_some,Option.some.injEq,DataW.lit.injEq,Lit.int.injEq,true_and] at hxj
 subst hxj
 have hc:cs0[j]? = some (.int k a):=by
  have:=congrArg (fun l:List Value=>l[0]?) ha1
  simpa [List.getElem?_take,List.getElem?_drop] using this
 exact ⟨_,by simpa using hc,by unfold RD; exact ⟨rfl,rfl⟩⟩
end Go.Vm
namespace Go.Vm
open Go.RowKit
section
variable {P:Program} {S:Nat→Prop} {w:World}
theorem aS.cM3 {k g:Nat} {cs:List Dat} (hk:kR P k) {args:List AV} {us:List Value} {res:AV} {u:Value} (hargs:xY args=some us) (hal:decide (args.length < aH)=true) (hres:aS9 res=some u)
  (h:∀ (w:World) (S:Nat→Prop),uM S w g cs→Calls P k us.toArray w fun e w'=>e=.returned u∧Below w.heap.size w w'):aS P k args [.glo g cs] res [.glo g cs]:=by
 have hal':=of_decide_eq_true hal
 refine ⟨hk,fun w S β vs hvs hm=>?_⟩
 obtain ⟨h1,h2⟩:=qQ hargs
 have hvu:vs=us:=by
  apply List.ext_getElem?
  intro i
  rcases Nat.lt_or_ge i args.length with hi | hi
  ·have ha:args[i]? = some args[i]:=List.getElem?_eq_getElem hi
   obtain ⟨u',hu',hv⟩:=h2 i _ ha
   obtain ⟨u0,hr,hu0⟩:=hm.rel i
   rw [bW hi,List.getD_eq_getElem?_getD,ha,Option.getD_some] at hr
   have hvi:vs[i]? = some vs[i]:=List.getElem?_eq_getElem (by omega)
   have e1:=hu0 vs[i] (by simp [hvi])
   have hfl:=(pO (S:=S) (w:=w) (β:=β) hv (i,0)).2.2.2
   have e2:=aF1 hv ((dC hfl).1 hr)
   rw [hvi,hu',e1,e2]
  ·rw [List.getElem?_eq_none (by omega),List.getElem?_eq_none (by omega)]
 subst hvu
 have hgf:aU (bO args [.glo g cs]) (aF+0)=.glo g cs:=by
  rw [dR (by simp only [aH] at hal' ⊢; omega),if_pos (by simp)]
  rfl
 have hglo:uM S w g cs:=by
  obtain ⟨u0,hr,_⟩:=hm.rel (aF+0)
  rw [hgf] at hr
  exact hr.2.2
 refine (h w S hglo).mono ?_
 rintro e w' ⟨rfl,hb⟩
 have hg:=Mem.grow hm w' hb.block hb.size hb.os hb.tape hb.output
 have hr:∀ β',dV (dN []) S w' β' aH res u:=fun β'=>(vR hres β').1
 refine ⟨u,S,β,rfl,hg.bU9 (vout:=[.glo g cs]) (fun j a ha=>?_) hr (vR (S:=S) (w:=w') hres β).2.1 (vR (S:=S) (w:=w') hres β).2.2 (fun x u' hx hl=>zC (by rw [← h1]; have:aF=aH+1:=rfl; omega) hx hl)⟩
 cases j with
 | zero =>
  simp only [List.getElem?_cons_zero,Option.some.injEq] at ha
  subst ha
  exact ⟨hgf,rfl⟩
 | succ j=>simp at ha
theorem cG1 {g : Nat} (h1 : (P.funcs[g]?).map (fun f => f.body.isNone) = some false) (h2 : (P.funcs[g]?).map (fun f => f.name == "runtime.NumGoroutine") = some false) : ∀ args w,(callFunc g args).run P w = .ok (.enter g args) w := by
 intro args w
 simp only [Option.map_eq_some_iff] at h1 h2
 obtain ⟨f,hf,h1⟩:=h1
 obtain ⟨f',hf',h2⟩:=h2
 rw [hf] at hf'
 cases hf'
 simp only [callFunc,Sem.run_bind,run_program,Result.andThen_ok,hf,h2,Bool.false_eq_true,if_false,h1,Sem.run_pure]
theorem TabIs.cY9 {nm:String} {g:Nat} {k:IntKind} {zs:List Int} (hg:P.globalNamed nm=some g) (h:uM S w g (zs.flatMap (cI k))):Lib.TabIs P w nm k zs:=by
 obtain ⟨arr,E,fz,_,h2,h3,h4⟩:=h
 have hfl:∀ (l:List Int),l.flatMap (cI k)=l.map fun i=>.v (.int k i):=by
  intro l
  induction l with
  | nil=>rfl
  | cons x l ih=>rw [List.flatMap_cons,ih]; rfl
 rw [hfl] at h3 h4
 have ha:arr=(zs.map fun z=>Value.int k z).toArray:=by
  apply Array.ext'
  apply List.ext_getElem?
  intro j
  rcases Nat.lt_or_ge j zs.length with hj | hj
  ·obtain ⟨u,hu,hr⟩:=RCs.get _ 0 j (.v (.int k zs[j])) h4 (by simp [hj])
   rw [Nat.zero_add] at hu
   have e:u=Value.int k zs[j]:=hr.1
   subst e
   rw [Array.getElem?_toList,hu,List.getElem?_map,List.getElem?_eq_getElem hj]
   rfl
  ·rw [List.getElem?_eq_none (by simpa [h3] using hj),List.getElem?_eq_none (by simpa using hj)]
 simp only [Lib.TabIs,World.var?,hg,Option.bind_some,h2,ha]
theorem cI7 {S':Nat→Prop} {w':World} {a:AV} {u:Value} (h:aS9 a=some u) {g:List (Nat×Bool)→Bool} {β:Path→Value} {x:Nat} {v:Value} (hr:dV g S' w' β x a v):v=u:=by
 unfold aS9 at h
 split at h
 ·rename_i vs
  simp only [Option.map_eq_some_iff] at h
  obtain ⟨us,hus,rfl⟩:=h
  obtain ⟨h1,h2⟩:=qQ hus
  obtain ⟨l,rfl,_,hl⟩:=hr
  have:l=us:=by
   apply List.ext_getElem?
   intro j
   rcases Nat.lt_or_ge j vs.length with hj | hj
   ·have hv:vs[j]? = some vs[j]:=List.getElem?_eq_getElem hj
    obtain ⟨u',hu',hf⟩:=h2 j _ hv
    obtain ⟨c,hc,hrc⟩:=bC.get hl j _ hv
    rw [hc,hu',aF1 hf hrc]
   ·have:=bC.len hl
    rw [List.getElem?_eq_none (by omega),List.getElem?_eq_none (by omega)]
  rw [this]
 ·obtain ⟨_,_,_,h4⟩:=pO (S:=S') (w:=w') (β:=β) h (x,0)
  exact aF1 h ((dC h4).1 hr)
theorem aS.below {k:Nat} {args:List AV} {us:List Value} {res:AV} {u:Value} (h:aS P k args [] res []) (hargs:xY args=some us) (hal:args.length < aH) (hres:aS9 res=some u) (w:World) :
  Calls P k us.toArray w fun e w'=>e=.returned u∧Below w.heap.size w w':=by
 obtain ⟨h1,h2⟩:=qQ hargs
 have hno:∀ y i,(aU (bO args []) y).aJ i=false:=by
  intro y i
  rcases mZ args [] y with hy | ⟨hy1,hy2⟩ | ⟨j,rfl⟩
  ·rw [bW hy]
   have ha:args[y]? = some (args.getD y .junk):=by simp [List.getD_eq_getElem?_getD,List.getElem?_eq_getElem hy]
   obtain ⟨u',_,hv⟩:=h2 y _ ha
   obtain ⟨_,_,h3,h4⟩:=pO (S:=fun _=>True) (w:=w) (β:=fun _=>.bool false) hv (0,0)
   cases hj:(args.getD y .junk).aJ i with
   | false=>rfl
   | true =>
    have:=(mT h4 i hj).2
    rw [h3] at this; cases this
  ·rw [iJ hy1 hy2]
   cases i <;> rfl
  ·rw [dR hal,if_neg (by simp)]
   cases i <;> rfl
 have hm:Mem ⟨w,dJ (bO args []) (fun _=>.bool false),fun _=>False,bP (fun _=>.bool false) ([]:List AV).length,[]⟩ [] (fun _=>False) (fun _=>.bool false) (bO args []) (fun x=>(us[x]?).or (bP (fun _=>.bool false) ([]:List AV).length x)) w:=by
  refine ⟨fun x=>?_,fun x l a hx=>?_,fun x i y j b hx=>?_,fun x i b hx=>?_,fun b hb=>hb.elim,fun b hb=>hb.elim,fun _ _ _=>rfl,rfl,rfl,rfl,Nat.le_refl _⟩
  ·have hl:bP (fun _=>.bool false) ([]:List AV).length x=none:=by
    unfold bP
    rw [if_neg (by simp)]
   rcases mZ args [] x with hy | ⟨hy1,hy2⟩ | ⟨j,rfl⟩
   ·rw [bW hy]
    have ha:args[x]? = some (args.getD x .junk):=by simp [List.getD_eq_getElem?_getD,List.getElem?_eq_getElem hy]
    obtain ⟨u',hu',hv⟩:=h2 x _ ha
    obtain ⟨h5,_,_,h4⟩:=pO (S:=fun _=>False) (w:=w) (β:=fun _=>.bool false) hv (x,0)
    exact ⟨u',(dC h4).2 h5,fun u0 h0=>by rw [hl,hu'] at h0; simpa using h0.symm⟩
   ·rw [iJ hy1 hy2]
    refine ⟨undef,trivial,fun u0 h0=>?_⟩
    rw [hl,List.getElem?_eq_none (by omega)] at h0
    cases h0
   ·rw [dR hal,if_neg (by simp)]
    refine ⟨undef,trivial,fun u0 h0=>?_⟩
    rw [hl,List.getElem?_eq_none (by simp only [aF,aH] at *; omega)] at h0
    cases h0
  ·rcases mZ args [] x with hy | ⟨hy1,hy2⟩ | ⟨j,rfl⟩
   ·rw [bW hy] at hx
    have ha:args[x]? = some (args.getD x .junk):=by simp [List.getD_eq_getElem?_getD,List.getElem?_eq_getElem hy]
    obtain ⟨u',_,hv⟩:=h2 x _ ha
    rw [hx] at hv
    cases hv
   ·rw [iJ hy1 hy2] at hx; cases hx
   ·rw [dR hal,if_neg (by simp)] at hx; cases hx
  ·rw [hno] at hx; cases hx
  ·rw [hno] at hx; cases hx
 refine (h.2 w (fun _=>False) (fun _=>.bool false) us h1.symm hm).mono ?_
 rintro e w' ⟨v,S',β',rfl,hm'⟩
 have hv:v=u:=by
  obtain ⟨v0,hr,hu0⟩:=hm'.rel aH
  rw [aO] at hr
  have e1:=hu0 v (by simp)
  subst e1
  exact cI7 hres hr
 subst hv
 refine ⟨rfl,⟨hm'.os,hm'.tape,hm'.output,hm'.size,fun b hb=>hm'.old b hb ?_⟩⟩
 rintro ⟨y,i,ho,_⟩
 rw [hno] at ho; cases ho
end
end Go.Vm
namespace Go.Vm
open Go.ChangeShapes Go.RowKit Go.WideShapes Go.ChangeAt Go.WideMaps Go.WideElems
abbrev bP9:=List (Nat×List Dat)
def gvs (gs:bP9):List AV:=gs.map fun g=>.glo g.1 g.2
def gbs (gs:bP9):Path→Value:=fun p=>match gs[p.1 - aF]? with
 | some g=>if aF≤p.1 then .pointer (some ⟨g.1,0,none⟩) else .bool false
 | none=>.bool false
theorem cK0 {gs:bP9} {j:Nat} {g:Nat×List Dat} (h:gs[j]? = some g) (i:Nat):gbs gs (aF+j,i)=.pointer (some ⟨g.1,0,none⟩):=by
 simp [gbs,h]
theorem aI5 {W:World} {args:List AV} {us:List Value} {gs:bP9} (hlen:us.length=args.length) (hn:args.length < aH) (hd:args.all AV.nT=true) (hr:bC (fun _ a u=>aV (rO W) W (fun _=>.bool false) (0,0) a u) 0 args us)
  (hg:∀ g∈gs,uM (rO W) W g.1 g.2) :
  (∀ x i,(aU (bO args (gvs gs)) x).aJ i=false)∧Mem ⟨W,dJ (bO args (gvs gs)) (gbs gs),rO W,bP (gbs gs) (gvs gs).length,[]⟩ [] (rO W) (gbs gs) (bO args (gvs gs)) (fun x=>(us[x]?).or (bP (gbs gs) (gvs gs).length x)) W:=by
 have hgl:(gvs gs).length=gs.length:=by simp [gvs]
 have hat:∀ x,(∃ a u,aU (bO args (gvs gs)) x=a∧a.nT=true∧us[x]? = some u∧aV (rO W) W (fun _=>.bool false) (0,0) a u) ∨
   (∃ j g,x=aF+j∧gs[j]? = some g∧aU (bO args (gvs gs)) x=.glo g.1 g.2∧us[x]? = none∧bP (gbs gs) (gvs gs).length x=some (.pointer (some ⟨g.1,0,none⟩))) ∨
   (aU (bO args (gvs gs)) x=.junk∧us[x]? = none∧bP (gbs gs) (gvs gs).length x=none):=by
  intro x
  rcases mZ args (gvs gs) x with h | ⟨h1,h2⟩ | ⟨j,rfl⟩
  ·left
   obtain ⟨u,hu,hru⟩:=bC.get hr x args[x] (by simp [h])
   refine ⟨args[x],u,?_,(List.all_eq_true.1 hd) _ (List.getElem_mem h),by simpa using hu,hru⟩
   rw [bW h,List.getD_eq_getElem?_getD]
   simp [h]
  ·right; right
   refine ⟨iJ h1 h2,by simp; omega,?_⟩
   unfold bP
   rw [if_neg (by omega)]
  ·right
   have hu:us[aF+j]? = none:=by
    rw [List.getElem?_eq_none]
    simp only [aF,aH] at *
    omega
   rcases Nat.lt_or_ge j gs.length with hj | hj
   ·left
    have hgj:gs[j]? = some gs[j]:=List.getElem?_eq_getElem hj
    refine ⟨j,gs[j],rfl,hgj,?_,hu,?_⟩
    ·rw [dR hn,if_pos (by omega),List.getD_eq_getElem?_getD]
     simp [gvs,hj]
    ·unfold bP
     rw [if_pos ⟨by omega,by omega⟩,cK0 hgj]
   ·right
    refine ⟨by rw [dR hn,if_neg (by omega)],hu,?_⟩
    unfold bP
    rw [if_neg (by omega)]
 have hown:∀ x i,(aU (bO args (gvs gs)) x).aJ i=false:=by
  intro x i
  rcases hat x with ⟨a,u,h1,h2,_,_⟩ | ⟨j,g,_,_,h1,_⟩ | ⟨h1,_,_⟩
  ·rw [h1]
   cases a <;> first | (cases i <;> rfl) | (simp [AV.nT] at h2)
  ·rw [h1]; cases i <;> rfl
  ·rw [h1]; cases i <;> rfl
 refine ⟨hown,fun x=>?_,fun x l a h=>?_,fun x i y j b h=>?_,fun x i b h=>?_,fun b hb=>⟨hb,.inl hb⟩,fun _ h=>h,fun _ _ _=>rfl,rfl,rfl,rfl,Nat.le_refl _⟩
 ·rcases hat x with ⟨a,u,h1,h2,h3,h4⟩ | ⟨j,g,rfl,hgj,h1,h2,h3⟩ | ⟨h1,h2,h3⟩
  ·refine ⟨u,?_,fun u' hu'=>by simp [h3] at hu'; exact hu'.symm⟩
   rw [h1]
   cases a with
   | d y=>exact (dC rfl).2 h4
   | agg y=>exact (dC rfl).2 h4
   | _=>simp [AV.nT] at h2
  ·refine ⟨.pointer (some ⟨g.1,0,none⟩),?_,fun u' hu'=>by
    simp only [h2,h3] at hu'
    simpa using hu'.symm⟩
   rw [h1]
   exact (dC rfl).2 ⟨(cK0 hgj 0).symm,rfl,hg g (List.mem_of_getElem? hgj)⟩
  ·refine ⟨undef,?_,fun u' hu'=>by
    simp only [h2,h3] at hu'
    cases hu'⟩
   rw [h1]
   exact (dC rfl).2 trivial
 ·rcases hat x with ⟨a',u,h1,h2,_,_⟩ | ⟨_,_,_,_,h1,_⟩ | ⟨h1,_,_⟩
  ·rw [h] at h1
   subst h1
   simp [AV.nT] at h2
  ·rw [h] at h1; cases h1
  ·rw [h] at h1; cases h1
 ·rw [hown] at h; cases h
 ·rw [hown] at h; cases h
theorem aS.dB6 {P:Program} {k:Nat} {gs:bP9} {args:List AV} {us:List Value} {W:World} {b:Bool} (h:aS P k args (gvs gs) (.d (.v (.bool b))) (gvs gs)) (hlen:us.length=args.length) (hn:args.length < aH) (hd:args.all AV.nT=true)
  (hr:bC (fun _ a u=>aV (rO W) W (fun _=>.bool false) (0,0) a u) 0 args us) (hg:∀ g∈gs,uM (rO W) W g.1 g.2) :
  Calls P k us.toArray W fun e W'=>e=.returned (.bool b)∧oG W W':=by
 obtain ⟨hown,hm0⟩:=aI5 hlen hn hd hr hg
 refine (h.2 W (rO W) (gbs gs) us hlen hm0).mono fun e W' ⟨u,S',β',he,hm⟩=>?_
 obtain ⟨v,hv1,hv2⟩:=hm.rel aH
 have hu:=hv2 u (by simp)
 subst hu
 rw [show aU ((aH,AV.d (.v (.bool b))) :: iA aF (gvs gs)) aH=.d (.v (.bool b)) from aO _ _ _] at hv1
 have hb:u=.bool b:=hv1.1
 refine ⟨by rw [he,hb],hm.os,hm.output,hm.size,fun i hi=>hm.old i hi ?_⟩
 rintro ⟨x,j,hx,_⟩
 rw [hown] at hx
 cases hx
theorem aP2 {β:Type} {H:Type} {enc:TypeId×Value→H} {P:Program} {k:Nat} (gl:bP9) {f:Func} {s:ChangeSpec} {av:β→List AV} {Q:β→Prop} {r:Bool} {tb:TypeId} {ts:List TypeId} {apart fresh handsOn:Bool}
  (hts:f.params.toList=ts) (hop:vM P ts av Q) (hav:∀ b,(av b).length < aH) (hlaw:∀ b,Q b→aS P k (av b) (gvs gl) (.d (.v (.bool r))) (gvs gl))
  (hlaid:laidOutB P=true) (hread:(ts.all fun t=>P.readableRec t && decide (t < P.types.size))=true) (hvars:s.vars=[]) (hres:f.resultTypes=#[tb]) (htb:P.underlying tb=some .bool)
  (hspec:∀ ds:List (DataW H),ds.length=ts.length→s.fn H (ds++[])={ results:=[.lit (.bool r)],args:=ds })
  (W:World) (base:Nat) (args:Array Value) (ds gs:List (DataW H)) (before:List MemPlace) (hg:∀ g∈gl,uM (rO W) W g.1 g.2)
  (hval:∀ (j:Nat) t v,f.params[j]? = some t→args[j]? = some v→Value.okWide P W .any base t v)
  (hW:DataW.Whole enc P f.params.toList s.vars apart W args.toList ds gs before) :
  Calls P k args W fun e W'=>∃ v,e=.returned v∧s.post enc P f apart fresh handsOn false W args v W':=by
 subst hts
 have hW':=hW
 have hlt:=hW.lt
 obtain ⟨p,q,hA,hV,rfl,hfz,hnd⟩:=hW
 rw [hvars] at hV
 obtain ⟨rfl,rfl⟩:gs=[]∧q=[]:=by
  cases gs with
  | nil=>exact ⟨rfl,hV⟩
  | cons=>exact hV.elim
 obtain ⟨b,hQ,hvl,hda,hr⟩:=hop H enc W base args.toList ds p (fun j t v h1 h2=>hval j t v (by simpa using h1) (by simpa using h2)) hA
 have hdl:∀ {ts:List TypeId} {vs:List Value} {ds:List (DataW H)} {ps:List MemPlace},DataW.TrodAll enc P W 0 (fun _=>true) true ts vs ds ps→ds.length=ts.length:=by
  intro ts
  induction ts with
  | nil=>intro vs ds ps h; cases vs <;> cases ds <;> first | rfl | exact h.elim
  | cons t ts ih =>
   intro vs ds ps h
   cases vs with
   | nil=>exact h.elim
   | cons v vs =>
    cases ds with
    | nil=>exact h.elim
    | cons d ds =>
     obtain ⟨_,_,_,h2,_⟩:=h
     simp [ih h2]
 have hsp:=hspec ds (hdl hA)
 have hc:=(hlaw b hQ).dB6 (W:=W) (us:=args.toList) hvl (hav b) hda (hr 0) hg
 rw [show args.toList.toArray=args from by simp] at hc
 refine hc.mono fun e W' ⟨he,hk⟩=>⟨_,he,?_⟩
 refine cA7 (pa:=p) (pv:=[]) hW' hk (fun _ _ _=>?_) (fun sp hb=>?_) (fun sp hb=>?_) (by simp) ?_
 ·rw [hsp,hres]
  exact trodAll_mk1 (shut_bool htb r)
 ·rw [hsp]
  exact aC7 hlaid hk sp hread hA (fun x hx=>hlt x (by simp [hx])) (fun x hx=>hb x (by simp [hx]))
 ·rw [hsp,hvars]
  rfl
 ·exact ok_one hres rfl (okWide_bool_mk htb r)
theorem cF9 {P:Program} {W:World} {nm:String} {d:DataW Unit}:∀ {lay:List (String×DataW Unit)},(nm,d)∈lay→laidMet P lay W→laidMet P [(nm,d)] W:=by
 intro lay hmem h
 obtain ⟨ps,h1,h2,h3⟩:=h
 have key:∀ {lay:List (String×DataW Unit)} {ps:List MemPlace},(nm,d)∈lay→DataW.LaidVars P W lay ps→∃ qs,DataW.LaidVars P W [(nm,d)] qs∧∃ ps1 ps2,ps=ps1++qs++ps2:=by
  intro lay
  induction lay with
  | nil=>intro ps hm _; cases hm
  | cons x lay ih =>
   intro ps hm hl
   obtain ⟨y,e⟩:=x
   obtain ⟨g0,t0,cs0,f0,p0,q0,a1,a2,a3,a4,a5,a6⟩:=hl
   rcases List.mem_cons.1 hm with he | hm
   ·simp only [Prod.mk.injEq] at he
    obtain ⟨rfl,rfl⟩:=he
    exact ⟨MemPlace.row ⟨g0,0,none⟩ cs0.size++p0++[],⟨g0,t0,cs0,f0,p0,[],a1,a2,a3,a4,rfl,rfl⟩,[],q0,by simp [a6]⟩
   ·obtain ⟨qs,h4,ps1,ps2,h5⟩:=ih hm a5
    exact ⟨qs,h4,MemPlace.row ⟨g0,0,none⟩ cs0.size++p0++ps1,ps2,by rw [a6,h5]; simp [List.append_assoc]⟩
 obtain ⟨qs,h4,ps1,ps2,rfl⟩:=key hmem h1
 refine ⟨qs,h4,?_,fun b off hb=>h3 b off (by simp [hb])⟩
 rw [List.append_assoc] at h2
 exact (List.nodup_append.1 (List.nodup_append.1 h2).2.1).1
end Go.Vm
namespace Go.Vm
theorem wrap_u8 {x:Int} (h:0≤x∧x < 256):IntKind.u8.wrap x=x:=by
 unfold IntKind.wrap
 simp [IntKind.bits,IntKind.signed]
 omega
end Go.Vm
namespace Go.Vm
open Go.ChangeShapes Go.WideShapes Go.ChangeAt Go.WideMaps Go.WideElems Go.RowKit
section
variable {P:Program} {t:TypeId}
end
end Go.Vm
namespace Go.Vm
open Go.RowKit
section
variable {P:Program} {S:Nat→Prop} {β:Path→Value} {w:World}
abbrev bB1 (args:List AV) (us:List Value) (S:Nat→Prop) (β:Path→Value) (w:World):Prop :=
 Mem ⟨w,dJ (bO args []) β,S,bP β ([]:List AV).length,[]⟩ [] S β (bO args []) (fun x=>(us[x]?).or (bP β ([]:List AV).length x)) w
theorem bB1.own {args:List AV} {us:List Value} (hm:bB1 args us S β w) (hl:us.length=args.length) {i:Nat} {κ:TypeId} {sz:Nat} {es:List (List Dat)} (h:args[i]? = some (.own κ sz es)) :
  ∃ u,us[i]? = some u∧u=β (i,0)∧OwnAt S w u κ sz es∧∀ b,blk u=some b→dJ (bO args []) β b∧¬ S b:=by
 have hi:i < args.length:=(List.getElem?_eq_some_iff.1 h).1
 obtain ⟨u0,hr,hu⟩:=hm.rel i
 have hf:aU (bO args []) i=.own κ sz es:=by rw [bW hi,List.getD_eq_getElem?_getD,h]; rfl
 rw [hf] at hr
 have hui:us[i]? = some us[i]:=List.getElem?_eq_getElem (by omega)
 have e:=hu us[i] (by simp [hui])
 refine ⟨us[i],hui,e.trans hr.1,by rw [e]; exact hr.2,fun b hb=>?_⟩
 have ho:(aU (bO args []) i).aJ 0=true:=by rw [hf]; rfl
 have hb':blk (β (i,0))=some b:=by rw [← hr.1,← e]; exact hb
 exact ⟨⟨i,0,ho,hb'⟩,(hm.fre i 0 b ho hb').1⟩
theorem bB1.flat {args:List AV} {us:List Value} (hm:bB1 args us S β w) (hl:us.length=args.length) {i:Nat} {x:Value} (h:args[i]? = some (.d (.v x))):us[i]? = some x:=by
 have hi:i < args.length:=(List.getElem?_eq_some_iff.1 h).1
 obtain ⟨u0,hr,hu⟩:=hm.rel i
 have hf:aU (bO args []) i=.d (.v x):=by rw [bW hi,List.getD_eq_getElem?_getD,h]; rfl
 rw [hf] at hr
 have hui:us[i]? = some us[i]:=List.getElem?_eq_getElem (by omega)
 have e:=hu us[i] (by simp [hui])
 have h0:u0=x:=hr.1
 rw [hui,e,h0]
theorem nD (b:Nat) (E:TypeId) (fz:Nat×Nat):∀ (vs:List Value) (o:Nat) (arr:Array Value) (w:World),w.heap[b]? = some (.cells arr E fz)→o+vs.length≤arr.size →
  w.setCells b o vs=w.setRow b (spl o vs arr.toList).toArray
 | [],o,arr,w,hb,_=>by
  have e:spl o ([]:List Value) arr.toList=arr.toList:=by simp [spl]
  rw [World.setCells,e,Array.toArray_toList,setRow_self w b arr E fz hb]
 | v :: vs,o,arr,w,hb,hl=>by
  have hl':o+(vs.length+1)≤arr.size:=by simpa using hl
  have h1:w.setCell ⟨b,o,none⟩ v=w.setRow b (arr.setIfInBounds o v):=setCell_eq_setRow w b o arr E fz v hb
  rw [World.setCells,h1,nD b E fz vs (o+1) (arr.setIfInBounds o v) _ (setRow_heap w b arr _ E fz hb) (by simp; omega),setRow_setRow]
  congr 2
  have e:=list_seg_step arr.toList o v vs (by simpa using hl)
  simpa [spl,Array.toList_setIfInBounds] using e
theorem aY0 {b off:Nat} {arr:Array Value} {E:TypeId} {fz:Nat×Nat} (hb:w.heap[b]? = some (.cells arr E fz)) (m:Nat):∀ t v,((arr.toList.drop off).take m)[t]? = some v→w.cell? ⟨b,off+t,none⟩=some v:=by
 intro t v hv
 rw [List.getElem?_take] at hv
 split at hv
 case isFalse=>cases hv
 rw [List.getElem?_drop] at hv
 simp only [World.cell?,hb,Option.isSome_none,Bool.false_eq_true,if_false]
 rw [← hv,Array.getElem?_toList]
theorem bG6 {b:Nat} {arr:Array Value} {E:TypeId} {fz:Nat×Nat} (hb:w.heap[b]? = some (.cells arr E fz)) (hfz:aP6 fz arr.size) (o:Nat) (ho:o < arr.size):w.frozen? ⟨b,o,none⟩=false:=by
 simp only [World.frozen?,hb]
 have:=hfz.out o ho
 simp only [Bool.and_eq_false_iff,decide_eq_false_iff_not]
 omega
theorem REs.ones {g:Nat→Option Value} {sz:Nat} {es:List (List Dat)} {o:Nat} (h:REs S w sz es g o) (j:Nat) (hj:j < es.length * sz):∀ v,g (o+j)=some v→v.oneCell'=true:=by
 intro v hv
 have hsz:0 < sz:=by rcases Nat.eq_zero_or_pos sz with h0 | h0 <;> simp_all
 have hq:j / sz < es.length:=Nat.div_lt_of_lt_mul (by rwa [Nat.mul_comm])
 obtain ⟨h1,h2⟩:=REs.get es o (j / sz) _ h (List.getElem?_eq_getElem hq)
 have hr:j % sz < (es[j / sz]).length:=by rw [h1]; exact Nat.mod_lt _ hsz
 obtain ⟨u,hu,hrd⟩:=RCs.get _ _ (j % sz) _ h2 (List.getElem?_eq_getElem hr)
 have e:o+j / sz * sz+j % sz=o+j:=by
  have:=Nat.div_add_mod j sz
  rw [Nat.mul_comm] at this
  omega
 rw [e,hv] at hu
 cases hu
 exact uU _ _ hrd
theorem sJ (b:Nat) (vs:List Value) (o:Nat) (w:World) (h:∀ j,j < vs.length→(w.cell? ⟨b,o+j,none⟩).isSome=true) (k:Nat) (hk:(w.cell? ⟨b,k,none⟩).isSome=true):((w.setCells b o vs).cell? ⟨b,k,none⟩).isSome=true:=by
 by_cases hin:o≤k∧k < o+vs.length
 ·have:=World.cell?_setCells_in b vs o w h (k - o) (by omega)
  rw [show o+(k - o)=k by omega] at this
  rw [this]
  rfl
 ·rw [World.cell?_setCells_out b vs o w ⟨b,k,none⟩ (fun _ _=>by show k < o∨o+vs.length≤k; omega)]
  exact hk
end
end Go.Vm
namespace Go.Vm
open Go.Proofs
variable {H:Type} {enc:TypeId×Value→H}
end Go.Vm
namespace Go.Vm
open Go.RowKit
section
variable {P:Program} {e:Env} {G:dX} {S:Nat→Prop} {β:Path→Value} {fr:Fr} {vals:Nat→Option Value} {w:World}
theorem Mem.more (hm:Mem e G S β fr vals w) {w':World} (hold:∀ b,b < w.heap.size→w'.heap[b]? = w.heap[b]?) (hsize:w.heap.size≤w'.heap.size) (hos:w'.os=w.os) (htape:w'.tape=w.tape) (hout:w'.output=w.output):Mem e G S β fr vals w':=by
 refine ⟨fun x=>?_,hm.gok,hm.dis,hm.fre,fun b hb=>⟨Nat.lt_of_lt_of_le (hm.stb b hb).1 hsize,(hm.stb b hb).2⟩,hm.s0,fun b h1 h2=>(hold b (Nat.lt_of_lt_of_le h1 hm.size)).trans (hm.old b h1 h2),hos.trans hm.os,htape.trans hm.tape,hout.trans hm.output,Nat.le_trans hm.size hsize⟩
 obtain ⟨u,hr,hu⟩:=hm.rel x
 exact ⟨u,hr.turn (fun _ _ _=>rfl) (fun _ h=>h) (fun b hb=>hold b (hm.stb b hb).1) (fun _=>rfl) (fun j ho b hb=>hold b (hm.blt ho hb)) (fun _ _=>rfl),hu⟩
end
end Go.Vm
namespace Go.Vm
open Go.RowKit
section
variable {S:Nat→Prop} {w:World} {α:Type}
def bI0:Dat→Value
 | .v x=>x
 | .str l=>strOf l
 | _=>undef
def isLit:Dat→Bool
 | .v x=>x.oneCell'
 | .str _=>true
 | _=>false
theorem cM4 {d:Dat} (h:isLit d=true) (u:Value):RD S w d u↔u=bI0 d:=by
 cases d <;> simp_all [isLit,bI0,RD]
theorem bG1 {g:Nat→Option Value}:∀ (cs:List Dat) (o:Nat),(∀ d∈cs,isLit d=true)→(RCs S w cs g o↔∀ t,t < cs.length→g (o+t)=(cs.map bI0)[t]?)
 | [],o,_=>by simp [RCs]
 | c :: cs,o,h=>by
  simp only [RCs]
  rw [bG1 cs (o+1) (fun d hd=>h d (by simp [hd]))]
  constructor
  ·rintro ⟨⟨u,h1,h2⟩,h3⟩ t ht
   rw [cM4 (h c (by simp))] at h2
   cases t with
   | zero=>simpa [h2] using h1
   | succ t =>
    have:=h3 t (by simpa using ht)
    simpa [Nat.add_assoc,Nat.add_comm 1 t] using this
  ·intro h3
   refine ⟨⟨bI0 c,by simpa using h3 0 (by simp),(cM4 (h c (by simp)) _).2 rfl⟩,fun t ht=>?_⟩
   have:=h3 (t+1) (by simpa using ht)
   simpa [Nat.add_assoc,Nat.add_comm 1 t] using this
theorem bI9 {g:Nat→Option Value} {sz:Nat}:∀ (es:List (List Dat)) (o:Nat),(∀ d∈es,d.length=sz∧∀ x∈d,isLit x=true)→(REs S w sz es g o↔∀ t,t < es.length * sz→g (o+t)=(es.flatMap (·.map bI0))[t]?)
 | [],o,_=>by simp [REs]
 | c :: es,o,h=>by
  have hc:=h c (by simp)
  have hl:(c.map bI0).length=sz:=by simpa using hc.1
  simp only [REs]
  rw [bI9 es (o+sz) (fun d hd=>h d (by simp [hd])),bG1 c o hc.2]
  simp only [List.flatMap_cons,List.length_cons,Nat.succ_mul]
  constructor
  ·rintro ⟨_,h2,h3⟩ t ht
   by_cases hs:t < sz
   ·rw [List.getElem?_append_left (by omega)]
    exact h2 t (by omega)
   ·rw [List.getElem?_append_right (by omega),hl,← h3 (t - sz) (by omega)]
    congr 1
    omega
  ·intro h3
   refine ⟨hc.1,fun t ht=>?_,fun t ht=>?_⟩
   ·have:=h3 t (by omega)
    rwa [List.getElem?_append_left (by omega)] at this
   ·have:=h3 (sz+t) (by omega)
    rw [List.getElem?_append_right (by omega),hl] at this
    rw [show sz+t - sz=t by omega] at this
    rw [← this]
    congr 1
    omega
theorem OwnAt.cells {u:Value} {κ:TypeId} {sz:Nat} {es:List (List Dat)} (h:OwnAt S w u κ sz es) (he:∀ d∈es,d.length=sz∧∀ x∈d,isLit x=true) (hn:es≠[]) :
  ∃ b off c arr E fz,u=.slice (some ⟨b,off,none⟩) es.length c∧es.length≤c∧off+c * sz≤arr.size∧aP6 fz arr.size∧w.heap[b]? = some (.cells arr E fz)∧KOk κ E fz es∧∀ t,t < es.length * sz→arr[off+t]? = (es.flatMap (·.map bI0))[t]? := by
 rcases h with ⟨_,h⟩ | ⟨b,off,c,arr,E,fz,h1,h2,h3,h4,h5,h6,h7⟩
 ·exact absurd h hn
 ·exact ⟨b,off,c,arr,E,fz,h1,h2,h3,h4,h5,h6,(bI9 es off he).1 h7⟩
end
end Go.Vm
namespace Go.Vm
open Go.RowKit Go.Sort
section
variable {P:Program} {S:Nat→Prop} {w:World}
theorem kS {sz:Nat}:∀ (es:List (List Dat)),(∀ d∈es,d.length=sz∧∀ x∈d,isLit x=true)→(es.flatMap (·.map bI0)).length=es.length * sz
 | [],_=>by simp
 | d :: es,h=>by
  rw [List.flatMap_cons,List.length_append,List.length_map,(h d (by simp)).1,kS es (fun x hx=>h x (by simp [hx])),List.length_cons,Nat.succ_mul,Nat.add_comm]
end
end Go.Vm
namespace Go.Vm
open Go.RowKit Go.Sort
section
variable {P:Program} {e:Env} {G:dX} {S:Nat→Prop} {β:Path→Value} {fr:Fr} {vals:Nat→Option Value} {w:World}
theorem Mem.sub (hm:Mem e G S β fr vals w) {fr':Fr} {vals':Nat→Option Value} (h:∀ x,aU fr' x=aU fr x∨aU fr' x=.junk) (hv:∀ x u,vals' x=some u→vals x=some u):Mem e G S β fr' vals' w:=by
 have hon:∀ x i,(aU fr' x).aJ i=true→(aU fr x).aJ i=true:=by
  intro x i ho
  rcases h x with h1 | h1
  ·rw [← h1]; exact ho
  ·rw [h1] at ho
   cases i <;> simp [AV.aJ,AV.bN] at ho
 refine ⟨fun x=>?_,fun x l a hx=>?_,fun x i y j b h1 h2=>hm.dis x i y j b (hon x i h1) (hon y j h2),fun x i b h1=>hm.fre x i b (hon x i h1),hm.stb,hm.s0,hm.old,hm.os,hm.tape,hm.output,hm.size⟩
 ·obtain ⟨u,hr,hu⟩:=hm.rel x
  rcases h x with h1 | h1
  ·exact ⟨u,by rw [h1]; exact hr,fun u' hh=>hu u' (hv x u' hh)⟩
  ·exact ⟨u,by rw [h1]; exact trivial,fun u' hh=>hu u' (hv x u' hh)⟩
 ·rcases h x with h1 | h1
  ·exact hm.gok x l a (by rw [← h1]; exact hx)
  ·rw [h1] at hx; cases hx
theorem aS.cS1 {k:Nat} (hk:kR P k) {q:Nat} {more:List AV} {V V':AV} {κ:TypeId} {sz:Nat} {es es':List (List Dat)} (hn:more.length < 1000)
  (hq:gR (bO (.vw (aF,q) :: more) [V]) (aF,q)=.own κ sz es)
  (hV:(aU (iM (bO (.vw (aF,q) :: more) [V]) (aF,q) .junk) aF).dO (eZ aH)=V')
  (h:∀ (w:World) (S:Nat→Prop) (u:Value) (us:List Value),us.length=more.length→(∀ (i:Nat) (x:Value),more[i]? = some (AV.d (.v x))→us[i]? = some x) →
   (∀ (i:Nat) (κ':TypeId) (sz':Nat) (es3:List (List Dat)),more[i]? = some (AV.own κ' sz' es3)→∃ u3,us[i]? = some u3∧OwnAt S w u3 κ' sz' es3∧∀ b,blk u3=some b→blk u≠some b) →
   OwnAt S w u κ sz es→(∀ b,blk u=some b→¬ S b)→(∀ b,S b→b < w.heap.size)→Calls P k (u :: us).toArray w fun e w'=>∃ u',e=.returned u'∧OwnAt S w' u' κ sz es'∧(∀ b,blk u'=some b→blk u=some b∨w.heap.size≤b) ∧
    (∀ b,b < w.heap.size→blk u≠some b→w'.heap[b]? = w.heap[b]?)∧w.heap.size≤w'.heap.size∧w'.os=w.os∧w'.tape=w.tape∧w'.output=w.output) :
  aS P k (.vw (aF,q) :: more) [V] (.own κ sz es') [V']:=by
 refine ⟨hk,fun w S β us hl hm=>?_⟩
 obtain ⟨u,us,rfl⟩:∃ u us',us=u :: us':=by
  cases us with
  | nil=>simp at hl
  | cons a b=>exact ⟨a,b,rfl⟩
 have hl':us.length=more.length:=by simpa using hl
 have hu0:u=β (aF,q):=by
  obtain ⟨u0,hr,hu⟩:=hm.rel 0
  have hf:aU (bO (.vw (aF,q) :: more) [V]) 0=.vw (aF,q):=by rw [bW (by simp)]; rfl
  rw [hf] at hr
  have e1:=hu u (by simp)
  have e2:u0=β (aF,q):=hr
  rw [e1,e2]
 have hown:=jW hm hq
 have hno:∀ b,blk (β (aF,q))=some b→¬ S b:=fun b hb=>(hm.fre aF q b (kE hq) hb).1
 have hfl:∀ (i:Nat) (x:Value),more[i]? = some (AV.d (.v x))→us[i]? = some x:=by
  intro i x hi
  obtain ⟨u1,hr,hu⟩:=hm.rel (i+1)
  have him:i < more.length:=(List.getElem?_eq_some_iff.1 hi).1
  have hf:aU (bO (.vw (aF,q) :: more) [V]) (i+1)=.d (.v x):=by rw [bW (by simpa using him),List.getD_eq_getElem?_getD]; simp [hi]
  rw [hf] at hr
  have h0:u1=x:=hr.1
  have hus:us[i]? = some us[i]:=List.getElem?_eq_getElem (by omega)
  have e1:=hu us[i] (by simp [hus])
  rw [hus,e1,h0]
 have how:∀ (i:Nat) (κ':TypeId) (sz':Nat) (es3:List (List Dat)),more[i]? = some (AV.own κ' sz' es3)→∃ u3,us[i]? = some u3∧OwnAt S w u3 κ' sz' es3∧∀ b,blk u3=some b→blk (β (aF,q))≠some b:=by
  intro i κ' sz' es3 hi
  obtain ⟨u1,hr,hu⟩:=hm.rel (i+1)
  have him:i < more.length:=(List.getElem?_eq_some_iff.1 hi).1
  have hf:aU (bO (.vw (aF,q) :: more) [V]) (i+1)=.own κ' sz' es3:=by rw [bW (by simpa using him),List.getD_eq_getElem?_getD]; simp [hi]
  rw [hf] at hr
  have hus:us[i]? = some us[i]:=List.getElem?_eq_getElem (by omega)
  have e1:=hu us[i] (by simp [hus])
  refine ⟨us[i],hus,by rw [e1]; exact hr.2,fun b hb hb2=>?_⟩
  have ho:(aU (bO (.vw (aF,q) :: more) [V]) (i+1)).aJ 0=true:=by rw [hf]; rfl
  have hb':blk (β (i+1,0))=some b:=by rw [← hr.1,← e1]; exact hb
  have:=(hm.dis (i+1) 0 aF q b ho (kE hq) hb' hb2).1
  simp only [aF] at this
  omega
 subst hu0
 refine (h w S (β (aF,q)) us hl' hfl how hown hno (fun b hb=>(hm.stb b hb).1)).mono ?_
 rintro ee w' ⟨u',rfl,ho',hblk,hold,hsize,hos,htape,hout⟩
 have hd:=hm.bO2 hq
 have hnr:aH≠aF:=by decide
 have hm2:=hd.qE aH (.own κ sz es') u' (fun _=>u') w' (fun x=>if x=aH then some u' else ((β (aF,q) :: us)[x]?).or (bP β ([V]:List AV).length x)) (fun y hy=>if_neg hy) (fun u1 h1=>by simpa using h1.symm)
  ⟨by simp,ho'⟩ (fun l a h=>by cases h)
  (fun i b _ hb=>by
   rcases hblk b hb with h1 | h1
   ·exact hm.sI hq aH b h1
   ·exact hd.nW aH b h1)
  (fun i j b h1 h2 _ _=>by
   cases i <;> cases j <;> simp_all [AV.aJ,AV.bN])
  (fun b hb=>by
   by_cases h1:blk (β (aF,q))=some b
   ·exact .inr (hm.sI hq aH b h1)
   ·exact .inl (hold b hb h1)) hsize hos htape hout
 refine ⟨u',S,_,rfl,hm2.sub (fun x=>?_) (fun x u1 hu1=>?_)⟩
 ·by_cases hx:x=aH
  ·subst hx
   exact .inl (by rw [aO,bY])
  ·rw [aZ _ _ (Ne.symm hx)]
   by_cases hxv:x=aF
   ·subst hxv
    refine .inl ?_
    rw [eQ _ _ hx]
    rw [hV]
    simp [iA,aO]
   ·exact .inr (by simp only [iA]; rw [aZ _ _ (Ne.symm hxv)]; rfl)
 ·by_cases hx:x=aH
  ·rw [if_pos hx] at hu1 ⊢
   exact hu1
  ·rw [if_neg hx] at hu1 ⊢
   have hxv:x=aF:=by
    unfold bP at hu1
    split at hu1
    ·simp at *; omega
    ·cases hu1
   subst hxv
   have:(β (aF,q) :: us)[aF]? = none:=List.getElem?_eq_none (by simp [aF] at *; omega)
   simp only [this,Option.none_or]
   exact hu1
end
end Go.Vm
namespace Go.Vm
open Go.RowKit
section
variable {P:Program}
theorem mH (w:World) (dT sT ty elem:TypeId) (size:Nat) (b o dLen dCap:Nat) (a:Addr) (sLen sCap m:Nat) (hm:m=min sLen dLen) (cs:List Value)
  (hu:P.underlying dT=some (.slice elem)) (hs:(P.info? elem).map (·.size)=some size) (hn:cs.length=m * size)
  (hsrc:∀ j v,cs[j]? = some v→w.cell? (a.add j)=some v) (hc:∀ j,j < cs.length→(w.cell? ⟨b,o+j,none⟩).isSome=true) (hf:∀ j,j < cs.length→w.frozen? ⟨b,o+j,none⟩=false) (h1:∀ v∈cs,v.oneCell'=true) :
  (Builtin.copy_ #[dT,sT] ty #[.slice (some ⟨b,o,none⟩) dLen dCap,.slice (some a) sLen sCap]).run P w=.ok (goInt m) (w.setCells b o cs):=by
 have hl:=run_loadCells_list (P:=P) w a cs hsrc
 have hst:=run_storeCells_cells (P:=P) b o cs 0 w (by simpa using hc) (by simpa using hf) h1
 cases hq:P.info? elem with
 | none=>simp [hq] at hs
 | some i =>
  have hi:i.size=size:=by simpa [hq] using hs
  rw [hn] at hl
  subst hm
  simp [Builtin.copy_,run_underlying hu,Builtin.lenOf,Builtin.firstCells,sizeOf,typeInfo,hq,hi,hl,hst]
end
end Go.Vm
namespace Go.Vm
open Go.RowKit
section
variable {P:Program} {S:Nat→Prop} {w w':World}
theorem wD {K:Nat} {es:List (List Dat)} {v:List Dat} {g g3 g':Nat→Option Value} {off voff off' i n:Nat} (hn:es.length=n) (hi:i≤n) (hag:Agree S w w') (hes:REs S w K es g off) (hv:REs S w K [v] g3 voff)
  (h1:∀ t,t < i * K→g' (off'+t)=g (off+t)) (h2:∀ t,t < 1 * K→g' (off'+i * K+t)=g3 (voff+t)) (h3:∀ t,t < (n - i) * K→g' (off'+(i+1) * K+t)=g (off+i * K+t)) :
  REs S w' K (es.take i++[v]++es.drop i) g' off':=by
 refine REs.mono (fun _ h=>h) hag _ _ _ _ ?_
 have htl:(es.take i).length=i:=by simp; omega
 refine REs.append _ _ off' (REs.append _ _ off' ?_ ?_) ?_
 ·exact REs.congr _ off off' (fun t ht=>h1 t (by rwa [htl] at ht)) (REs.take es off i hes)
 ·rw [htl]
  exact REs.congr _ voff _ (fun t ht=>h2 t (by simpa using ht)) hv
 ·rw [List.length_append,htl,List.length_singleton]
  exact REs.congr _ (off+i * K) _ (fun t ht=>h3 t (by rw [List.length_drop,hn] at ht; exact ht)) (REs.drop es off i hes)
structure aP4 (P:Program) (k E K:Nat):Prop where
 A:∀ (b off n c vb voff vc:Nat) (w:World) (vs:List Value),vs.length=1 * K→n+1≤c→(∀ t v,vs[t]? = some v→w.cell? ⟨vb,voff+t,none⟩=some v)→(∀ v∈vs,v.oneCell'=true) →
  (∀ j,j < vs.length→(w.cell? ⟨b,off+n * K+j,none⟩).isSome=true∧w.frozen? ⟨b,off+n * K+j,none⟩=false) →
  Calls P k #[.slice (some ⟨b,off,none⟩) n c,.int .i64 n,.slice (some ⟨vb,voff,none⟩) 1 vc] w fun e w'=>e=.returned (.slice (some ⟨b,off,none⟩) (n+1) c)∧w'=w.setCells b (off+n * K) vs
 B:∀ (base:Option Addr) (n c vb voff vc:Nat) (w:World) (cs vs:List Value),vs.length=1 * K→n≤c→c < n+1→n≤4294967296→(∀ w':World,w'.heap=w.heap→(Builtin.firstCells K n (.slice base n c)).run P w'=.ok cs.toArray w') →
  (∀ t v,vs[t]? = some v→w.cell? ⟨vb,voff+t,none⟩=some v)→(∀ v∈vs,v.oneCell'=true) →
  Calls P k #[.slice base n c,.int .i64 n,.slice (some ⟨vb,voff,none⟩) 1 vc] w fun e w'=>∃ (G:Nat) (zz:Array Value),n+1≤G∧zz.size=(G - (n+1)) * K∧e=.returned (.slice (some ⟨w.heap.size,0,none⟩) (n+1) G)∧w'=w.drew.alloc (.cells ((cs++vs).toArray++zz) E)
 C:∀ (b off n c i vb voff vc:Nat) (w:World) (cs vs:List Value),cs.length=n * K→vs.length=1 * K→i < n→n≤c→c < n+1→n≤4294967296→b < w.heap.size→vb < w.heap.size →
  (∀ t v,cs[t]? = some v→w.cell? ⟨b,off+t,none⟩=some v)→(∀ t v,vs[t]? = some v→w.cell? ⟨vb,voff+t,none⟩=some v)→(∀ v∈cs,v.oneCell'=true)→(∀ v∈vs,v.oneCell'=true) →
  Calls P k #[.slice (some ⟨b,off,none⟩) n c,.int .i64 i,.slice (some ⟨vb,voff,none⟩) 1 vc] w fun e w'=>∃ (G:Nat) (ROW:Array Value),n+1≤G∧ROW.size=G * K∧(∀ t,t < i * K→ROW[t]? = cs[t]?)∧e=.returned (.slice (some ⟨w.heap.size,0,none⟩) (n+1) G) ∧
   w'=(((w.alloc (.cells ROW E)).drew.setCells w.heap.size (i * K) vs).drew).setCells w.heap.size ((i+1) * K) (cs.drop (i * K))
 D:∀ (b off n c i vb voff vc:Nat) (w:World) (cs vs:List Value),cs.length=n * K→vs.length=1 * K→i < n→n+1≤c→n≤4294967296→vb≠b →
  (∀ t v,cs[t]? = some v→w.cell? ⟨b,off+t,none⟩=some v)→(∀ j,j < (n+1) * K→(w.cell? ⟨b,off+j,none⟩).isSome=true)→(∀ j,j < (n+1) * K→w.frozen? ⟨b,off+j,none⟩=false) →
  (∀ t v,vs[t]? = some v→w.cell? ⟨vb,voff+t,none⟩=some v)→(∀ v∈cs,v.oneCell'=true)→(∀ v∈vs,v.oneCell'=true) →
  ∀ (tA tB:TypeId) (kA kB:Nat),w.shape? vb=some (tA,kA)→w.shape? b=some (tB,kB)→kB≠0→w.frozen? ⟨vb,voff,none⟩=false→w.frozen? ⟨vb,kA,none⟩=false →
  Calls P k #[.slice (some ⟨b,off,none⟩) n c,.int .i64 i,.slice (some ⟨vb,voff,none⟩) 1 vc] w fun e w'=>e=.returned (.slice (some ⟨b,off,none⟩) (n+1) c)∧w'=(w.drew.setCells b (off+(i+1) * K) (cs.drop (i * K))).setCells b (off+i * K) vs
theorem cF3 {κ3:TypeId} {K:Nat} {v:List Dat} {u:Value} (h:OwnAt S w u κ3 K [v]) (hκ3:1099511627776≤κ3):∃ vb voff vc arr3 E3,u=.slice (some ⟨vb,voff,none⟩) 1 vc∧voff+1 * K≤arr3.size∧vb < w.heap.size∧(∃ fz3,w.heap[vb]? = some (.cells arr3 E3 fz3)) ∧
  REs S w K [v] (fun j=>arr3[j]?) voff∧w.shape? vb=some (E3,arr3.size)∧∀ x,w.frozen? ⟨vb,x,none⟩=false:=by
 rcases h with ⟨_,h⟩ | ⟨vb,voff,vc,arr3,E3,fz3,rfl,h2,h3,h4,h5,h6,h7⟩
 ·cases h
 ·have hf:=h6.2.1 hκ3
  have h2':1≤vc:=h2
  have h8:1 * K≤vc * K:=Nat.mul_le_mul_right _ h2'
  refine ⟨vb,voff,vc,arr3,E3,rfl,by omega,cZ h5,⟨fz3,h5⟩,h7,by simp [World.shape?,h5],fun x=>?_⟩
  simp only [World.frozen?,h5,Bool.and_eq_false_iff,decide_eq_false_iff_not]
  omega
theorem bX3 {K:Nat} {es:List (List Dat)} {arr:Array Value} {off:Nat} (h:REs S w K es (fun j=>arr[j]?) off):∀ x∈(arr.toList.drop off).take (es.length * K),x.oneCell'=true:=by
 intro x hx
 obtain ⟨t,ht⟩:=List.getElem?_of_mem hx
 rw [List.getElem?_take] at ht
 split at ht
 case isFalse=>cases ht
 rename_i htl
 refine REs.ones h t htl x ?_
 rw [List.getElem?_drop] at ht
 simpa using ht
theorem uN {arr:Array Value} {off m t:Nat} (ht:t < m):((arr.toList.drop off).take m)[t]? = arr[off+t]? := by
 rw [List.getElem?_take,if_pos ht,List.getElem?_drop,Array.getElem?_toList]
structure aT0 (S:Nat→Prop) (w:World) (u:Value) (w':World) (u':Value) (E K:Nat) (es':List (List Dat)):Prop where
 own:OwnAt S w' u' E K es'
 blk:∀ b,blk u'=some b→Vm.blk u=some b∨w.heap.size≤b
 old:∀ b,b < w.heap.size→Vm.blk u≠some b→w'.heap[b]? = w.heap[b]?
 size:w.heap.size≤w'.heap.size
 os:w'.os=w.os
 tape:w'.tape=w.tape
 output:w'.output=w.output
theorem aL3 {es:List (List Dat)} {v:List Dat} {i n:Nat} (hn:es.length=n) (hi:i≤n):(es.take i++[v]++es.drop i).length=n+1:=by
 simp; omega
theorem cM1 {E K:Nat} {es:List (List Dat)} {v:List Dat} {b off c n voff:Nat} {arr arr3:Array Value} {E0:TypeId} {fz:Nat×Nat} (hb:w.heap[b]? = some (.cells arr E0 fz)) (hκ:KOk E E0 fz es) (hc:n+1≤c) (hroom:off+c * K≤arr.size) (hfz:aP6 fz arr.size)
  (hn:es.length=n) (hes:REs S w K es (fun j=>arr[j]?) off) (hv:REs S w K [v] (fun j=>arr3[j]?) voff) (hS:¬ S b) (hsz3:voff+1 * K≤arr3.size) :
  aT0 S w (.slice (some ⟨b,off,none⟩) n c) (w.setCells b (off+n * K) ((arr3.toList.drop voff).take (1 * K))) (.slice (some ⟨b,off,none⟩) (n+1) c) E K (es.take n++[v]++es.drop n):=by
 have vl:((arr3.toList.drop voff).take (1 * K)).length=1 * K:=by simp; omega
 have e1:(n+1) * K=n * K+K:=Nat.succ_mul _ _
 have e2:(n+1) * K≤c * K:=Nat.mul_le_mul_right _ hc
 have hL:=aL3 (v:=v) hn (Nat.le_refl n)
 have hseg:∀ t,t < 1 * K→((arr3.toList.drop voff).take (1 * K))[t]? = arr3[voff+t]? := fun t ht=>uN ht
 generalize (arr3.toList.drop voff).take (1 * K)=vs at *
 have hs:off+n * K+vs.length≤arr.toList.length:=by rw [vl]; simp; omega
 have hsl:(spl (off+n * K) vs arr.toList).toArray.size=arr.size:=by simp [gO hs]
 rw [nD b E0 fz _ _ arr w hb (by simpa using hs)]
 have hag:∀ k,k≠b→(w.setRow b (spl (off+n * K) vs arr.toList).toArray).heap[k]? = w.heap[k]? := fun k hk=>setRow_other w b k _ hk
 refine ⟨.inr ⟨b,off,c,_,E0,fz,by rw [hL],by rw [hL]; exact hc,by rw [hsl]; exact hroom,by rw [hsl]; exact hfz,setRow_heap w b arr _ E0 fz hb,hκ.ne (by simp),wD hn (Nat.le_refl n) (fun k hk=>hag k fun h=>hS (h ▸ hk)) hes hv (fun t ht=>?_) (fun t ht=>?_) (fun t ht=>?_)⟩,fun k hk=>.inl hk,fun k _ hk=>hag k fun h=>hk (by subst h; rfl),by simp,rfl,rfl,rfl⟩
 ·simp only [List.getElem?_toArray]
  rw [fF hs,if_neg (by omega)]
  simp
 ·simp only [List.getElem?_toArray]
  rw [fF hs,if_pos ⟨by omega,by rw [vl]; omega⟩,show off+n * K+t - (off+n * K)=t by omega,hseg t ht]
 ·rw [Nat.sub_self,Nat.zero_mul] at ht
  omega
theorem bJ3 {E K:Nat} (hE40:E < 1099511627776) {es:List (List Dat)} {v:List Dat} {u:Value} {off n voff G:Nat} {arr arr3 zz:Array Value} (hn:es.length=n) (hsz:off+n * K≤arr.size) (hes:REs S w K es (fun j=>arr[j]?) off) (hv:REs S w K [v] (fun j=>arr3[j]?) voff) (hst:∀ b,S b→b < w.heap.size) (hsz3:voff+1 * K≤arr3.size)
  (hG:n+1≤G) (hz:zz.size=(G - (n+1)) * K) :
  aT0 S w u (w.drew.alloc (.cells (((arr.toList.drop off).take (n * K)++(arr3.toList.drop voff).take (1 * K)).toArray++zz) E)) (.slice (some ⟨w.heap.size,0,none⟩) (n+1) G) E K (es.take n++[v]++es.drop n):=by
 have vl:((arr3.toList.drop voff).take (1 * K)).length=1 * K:=by simp; omega
 have cl:((arr.toList.drop off).take (n * K)).length=n * K:=by simp; omega
 have e1:(n+1) * K=n * K+K:=Nat.succ_mul _ _
 have e2:(n+1) * K≤G * K:=Nat.mul_le_mul_right _ hG
 have e3:(G - (n+1)) * K=G * K - (n+1) * K:=Nat.sub_mul _ _ _
 have hL:=aL3 (v:=v) hn (Nat.le_refl n)
 obtain ⟨A,hA⟩:∃ A,A=((arr.toList.drop off).take (n * K)++(arr3.toList.drop voff).take (1 * K)).toArray++zz:=⟨_,rfl⟩
 have hAs:A.size=G * K:=by rw [hA]; simp only [Array.size_append,List.size_toArray,List.length_append,cl,vl,hz]; omega
 have hA1:∀ t,t < n * K→A[t]? = arr[off+t]? := fun t ht=>by
  rw [hA,Array.getElem?_append_left (by simp only [List.size_toArray,List.length_append,cl,vl]; omega),List.getElem?_toArray,List.getElem?_append_left (by rw [cl]; exact ht),uN ht]
 have hA2:∀ t,t < 1 * K→A[n * K+t]? = arr3[voff+t]? := fun t ht=>by
  rw [hA,Array.getElem?_append_left (by simp only [List.size_toArray,List.length_append,cl,vl]; omega),List.getElem?_toArray,List.getElem?_append_right (by rw [cl]; omega),cl,show n * K+t - n * K=t by omega,uN ht]
 rw [← hA]
 have hh:(w.drew.alloc (.cells A E)).heap=w.heap.push (.cells A E):=rfl
 have hag:∀ k,k < w.heap.size→(w.drew.alloc (.cells A E)).heap[k]? = w.heap[k]? := fun k hk=>by
  rw [hh,Array.getElem?_push,if_neg (by omega)]
 refine ⟨.inr ⟨w.heap.size,0,G,A,E,(0,0),by rw [hL],by rw [hL]; exact hG,by omega,.inl rfl,by rw [hh]; simp,KOk.new hE40,wD hn (Nat.le_refl n) (fun k hk=>hag k (hst k hk)) hes hv (fun t ht=>?_) (fun t ht=>?_) (fun t ht=>?_)⟩,fun k hk=>.inr (by rw [← Option.some.inj hk]; exact Nat.le_refl _),fun k hk _=>hag k hk,by rw [hh]; simp,rfl,rfl,rfl⟩
 ·simpa using hA1 t ht
 ·simpa using hA2 t ht
 ·rw [Nat.sub_self,Nat.zero_mul] at ht
  omega
theorem cL4 {E K:Nat} (hE40:E < 1099511627776) {es:List (List Dat)} {v:List Dat} {u:Value} {off n i voff G:Nat} {arr arr3 ROW:Array Value} (hn:es.length=n) (hi:i < n) (hsz:off+n * K≤arr.size) (hes:REs S w K es (fun j=>arr[j]?) off) (hv:REs S w K [v] (fun j=>arr3[j]?) voff) (hst:∀ b,S b→b < w.heap.size) (hsz3:voff+1 * K≤arr3.size)
  (hG:n+1≤G) (hR:ROW.size=G * K) (hRt:∀ t,t < i * K→ROW[t]? = ((arr.toList.drop off).take (n * K))[t]?) :
  aT0 S w u ((((w.alloc (.cells ROW E)).drew.setCells w.heap.size (i * K) ((arr3.toList.drop voff).take (1 * K))).drew).setCells w.heap.size ((i+1) * K) (((arr.toList.drop off).take (n * K)).drop (i * K))) (.slice (some ⟨w.heap.size,0,none⟩) (n+1) G) E K (es.take i++[v]++es.drop i):=by
 have e1:(n+1) * K=n * K+K:=Nat.succ_mul _ _
 have e2:(n+1) * K≤G * K:=Nat.mul_le_mul_right _ hG
 have e3:(i+1) * K=i * K+K:=Nat.succ_mul _ _
 have e4:(i+1) * K≤n * K:=Nat.mul_le_mul_right _ hi
 have e5:(n - i) * K=n * K - i * K:=Nat.sub_mul _ _ _
 have hL:=aL3 (v:=v) hn (Nat.le_of_lt hi)
 have vl:((arr3.toList.drop voff).take (1 * K)).length=1 * K:=by simp; omega
 have hseg:∀ t,t < 1 * K→((arr3.toList.drop voff).take (1 * K))[t]? = arr3[voff+t]? := fun t ht=>uN ht
 have dl:(((arr.toList.drop off).take (n * K)).drop (i * K)).length=n * K - i * K:=by simp; omega
 have hdeg:∀ t,t < n * K - i * K→(((arr.toList.drop off).take (n * K)).drop (i * K))[t]? = arr[off+i * K+t]? := fun t ht=>by
  rw [List.getElem?_drop,uN (by omega),show off+(i * K+t)=off+i * K+t by omega]
 have hRt':∀ t,t < i * K→ROW[t]? = arr[off+t]? := fun t ht=>by rw [hRt t ht,uN (by omega)]
 generalize (arr3.toList.drop voff).take (1 * K)=vs at *
 generalize ((arr.toList.drop off).take (n * K)).drop (i * K)=ds at *
 have hb0:((w.alloc (.cells ROW E)).drew).heap[w.heap.size]? = some (.cells ROW E (0,0)):=by
  show (w.heap.push (.cells ROW E))[w.heap.size]? = _
  simp
 have hs1:i * K+vs.length≤ROW.toList.length:=by rw [vl]; simp; omega
 rw [nD w.heap.size E (0,0) vs _ ROW _ hb0 (by simpa using hs1)]
 have hb1:=setRow_heap ((w.alloc (.cells ROW E)).drew) w.heap.size ROW (spl (i * K) vs ROW.toList).toArray E (0,0) hb0
 have hb2:(((w.alloc (.cells ROW E)).drew.setRow w.heap.size (spl (i * K) vs ROW.toList).toArray).drew).heap[w.heap.size]? = some (.cells (spl (i * K) vs ROW.toList).toArray E (0,0)):=hb1
 have hs2:(i+1) * K+ds.length≤(spl (i * K) vs ROW.toList).length:=by rw [gO hs1,dl]; simp; omega
 rw [nD w.heap.size E (0,0) ds _ _ _ hb2 (by simpa using hs2)]
 have hb3:=setRow_heap (((w.alloc (.cells ROW E)).drew.setRow w.heap.size (spl (i * K) vs ROW.toList).toArray).drew) w.heap.size _ (spl ((i+1) * K) ds (spl (i * K) vs ROW.toList).toArray.toList).toArray E (0,0) hb2
 have hag:∀ k,k < w.heap.size→((((w.alloc (.cells ROW E)).drew.setRow w.heap.size (spl (i * K) vs ROW.toList).toArray).drew).setRow w.heap.size (spl ((i+1) * K) ds (spl (i * K) vs ROW.toList).toArray.toList).toArray).heap[k]? = w.heap[k]? := fun k hk=>by
  rw [setRow_other _ w.heap.size k _ (by omega)]
  show ((w.alloc (.cells ROW E)).drew.setRow w.heap.size (spl (i * K) vs ROW.toList).toArray).heap[k]? = _
  rw [setRow_other _ w.heap.size k _ (by omega)]
  show (w.heap.push (.cells ROW E))[k]? = _
  simp [Array.getElem?_push,show ¬ k=w.heap.size by omega]
 have hsz2:(spl ((i+1) * K) ds (spl (i * K) vs ROW.toList).toArray.toList).toArray.size=G * K:=by simp [gO hs2,gO hs1,hR]
 refine ⟨.inr ⟨w.heap.size,0,G,_,E,(0,0),by rw [hL],by rw [hL]; exact hG,by rw [hsz2]; omega,.inl rfl,hb3,KOk.new hE40,wD hn (Nat.le_of_lt hi) (fun k hk=>hag k (hst k hk)) hes hv (fun t ht=>?_) (fun t ht=>?_) (fun t ht=>?_)⟩,fun k hk=>.inr (by rw [← Option.some.inj hk]; exact Nat.le_refl _),fun k hk _=>hag k hk,Nat.le_of_lt (cZ hb3),rfl,rfl,rfl⟩
 ·simp only [List.getElem?_toArray]
  rw [fF hs2,if_neg (by omega),fF hs1,if_neg (by omega),Array.getElem?_toList,Nat.zero_add,hRt' t ht]
 ·simp only [List.getElem?_toArray]
  rw [fF hs2,if_neg (by omega),fF hs1,if_pos ⟨by omega,by rw [vl]; omega⟩,show 0+i * K+t - i * K=t by omega,hseg t ht]
 ·simp only [List.getElem?_toArray]
  rw [fF hs2,if_pos ⟨by omega,by rw [dl]; omega⟩,show 0+(i+1) * K+t - (i+1) * K=t by omega,hdeg t (by omega)]
theorem cK6 {E K:Nat} {es:List (List Dat)} {v:List Dat} {b off c n i voff:Nat} {arr arr3:Array Value} {E0:TypeId} {fz:Nat×Nat} (hb:w.heap[b]? = some (.cells arr E0 fz)) (hκ:KOk E E0 fz es) (hi:i < n) (hc:n+1≤c) (hroom:off+c * K≤arr.size) (hfz:aP6 fz arr.size)
  (hn:es.length=n) (hes:REs S w K es (fun j=>arr[j]?) off) (hv:REs S w K [v] (fun j=>arr3[j]?) voff) (hS:¬ S b) (hsz3:voff+1 * K≤arr3.size) :
  aT0 S w (.slice (some ⟨b,off,none⟩) n c) ((w.drew.setCells b (off+(i+1) * K) (((arr.toList.drop off).take (n * K)).drop (i * K))).setCells b (off+i * K) ((arr3.toList.drop voff).take (1 * K))) (.slice (some ⟨b,off,none⟩) (n+1) c) E K (es.take i++[v]++es.drop i):=by
 have e1:(n+1) * K=n * K+K:=Nat.succ_mul _ _
 have e2:(n+1) * K≤c * K:=Nat.mul_le_mul_right _ hc
 have e3:(i+1) * K=i * K+K:=Nat.succ_mul _ _
 have e4:(i+1) * K≤n * K:=Nat.mul_le_mul_right _ hi
 have e5:(n - i) * K=n * K - i * K:=Nat.sub_mul _ _ _
 have hL:=aL3 (v:=v) hn (Nat.le_of_lt hi)
 have vl:((arr3.toList.drop voff).take (1 * K)).length=1 * K:=by simp; omega
 have hseg:∀ t,t < 1 * K→((arr3.toList.drop voff).take (1 * K))[t]? = arr3[voff+t]? := fun t ht=>uN ht
 have dl:(((arr.toList.drop off).take (n * K)).drop (i * K)).length=n * K - i * K:=by simp; omega
 have hdeg:∀ t,t < n * K - i * K→(((arr.toList.drop off).take (n * K)).drop (i * K))[t]? = arr[off+i * K+t]? := fun t ht=>by
  rw [List.getElem?_drop,uN (by omega),show off+(i * K+t)=off+i * K+t by omega]
 generalize (arr3.toList.drop voff).take (1 * K)=vs at *
 generalize ((arr.toList.drop off).take (n * K)).drop (i * K)=ds at *
 have hb0:w.drew.heap[b]? = some (.cells arr E0 fz):=hb
 have hs1:off+(i+1) * K+ds.length≤arr.toList.length:=by rw [dl]; simp; omega
 rw [nD b E0 fz ds _ arr _ hb0 (by simpa using hs1)]
 have hb1:=setRow_heap w.drew b arr (spl (off+(i+1) * K) ds arr.toList).toArray E0 fz hb0
 have hs2:off+i * K+vs.length≤(spl (off+(i+1) * K) ds arr.toList).length:=by rw [gO hs1,vl]; simp; omega
 rw [nD b E0 fz vs _ _ _ hb1 (by simpa using hs2),setRow_setRow]
 have hag:∀ k,k≠b→(w.drew.setRow b (spl (off+i * K) vs (spl (off+(i+1) * K) ds arr.toList).toArray.toList).toArray).heap[k]? = w.heap[k]? := fun k hk=>setRow_other w.drew b k _ hk
 have hsz2:(spl (off+i * K) vs (spl (off+(i+1) * K) ds arr.toList).toArray.toList).toArray.size=arr.size:=by simp [gO hs2,gO hs1]
 refine ⟨.inr ⟨b,off,c,_,E0,fz,by rw [hL],by rw [hL]; exact hc,by rw [hsz2]; exact hroom,by rw [hsz2]; exact hfz,setRow_heap w.drew b arr _ E0 fz hb0,hκ.ne (by simp),wD hn (Nat.le_of_lt hi) (fun k hk=>hag k fun h=>hS (h ▸ hk)) hes hv (fun t ht=>?_) (fun t ht=>?_) (fun t ht=>?_)⟩,fun k hk=>.inl hk,fun k _ hk=>hag k fun h=>hk (by subst h; rfl),by show w.heap.size≤(w.heap.modify b _).size; simp,rfl,rfl,rfl⟩
 ·simp only [List.getElem?_toArray]
  rw [fF hs2,if_neg (by omega),fF hs1,if_neg (by omega),Array.getElem?_toList]
 ·simp only [List.getElem?_toArray]
  rw [fF hs2,if_pos ⟨by omega,by rw [vl]; omega⟩,show off+i * K+t - (off+i * K)=t by omega,hseg t ht]
 ·simp only [List.getElem?_toArray]
  rw [fF hs2,if_neg (by rw [vl]; omega),fF hs1,if_pos ⟨by omega,by rw [dl]; omega⟩,show off+(i+1) * K+t - (off+(i+1) * K)=t by omega,hdeg t (by omega)]
theorem aS.insert {k E K q:Nat} (hE40:E < 1099511627776) (hk:kR P k) (hr:aP4 P k E K) (hnil:∀ w:World,(Builtin.firstCells K 0 (.slice none 0 0)).run P w=.ok #[] w) {V V':AV} {κ3:TypeId} {es:List (List Dat)} {v:List Dat} {i:Nat} (hi:i≤es.length) (hlen:es.length≤4294967295) (hK:0 < K) (hκ3:1099511627776≤κ3)
  (hq:gR (bO [.vw (aF,q),.d (.v (.int .i64 i)),.own κ3 K [v]] [V]) (aF,q)=.own E K es)
  (hV:(aU (iM (bO [.vw (aF,q),.d (.v (.int .i64 i)),.own κ3 K [v]] [V]) (aF,q) .junk) aF).dO (eZ aH)=V') :
  aS P k [.vw (aF,q),.d (.v (.int .i64 i)),.own κ3 K [v]] [V] (.own E K (es.take i++[v]++es.drop i)) [V']:=by
 refine aS.cS1 hk (by simp) hq hV fun w S u us hl hfl how hown hno hst=>?_
 obtain ⟨u1,u2,rfl⟩:∃ a b,us=[a,b]:=by
  match us,hl with
  | [a,b],_=>exact ⟨a,b,rfl⟩
 obtain rfl:u1=.int .i64 i:=by simpa using hfl 0 (.int .i64 i) rfl
 obtain ⟨u3,h3,ho3,hd3⟩:=how 1 κ3 K [v] rfl
 obtain rfl:u2=u3:=by simpa using h3
 obtain ⟨vb,voff,vc,arr3,E3,rfl,hsz3,hvw,⟨fz3,hb3⟩,hes3,hsh3,hfz3⟩:=cF3 ho3 hκ3
 have hvb:blk u≠some vb:=hd3 vb rfl
 have hvl:((arr3.toList.drop voff).take (1 * K)).length=1 * K:=by simp; omega
 have hvs:=aY0 (off:=voff) hb3 (1 * K)
 have h1v:∀ x∈(arr3.toList.drop voff).take (1 * K),x.oneCell'=true:=bX3 (es:=[v]) hes3
 have done:∀ {e w' u'},e=Ending.returned u'→aT0 S w u w' u' E K (es.take i++[v]++es.drop i)→∃ u',e=.returned u'∧OwnAt S w' u' E K (es.take i++[v]++es.drop i)∧(∀ b,blk u'=some b→blk u=some b∨w.heap.size≤b) ∧
    (∀ b,b < w.heap.size→blk u≠some b→w'.heap[b]? = w.heap[b]?)∧w.heap.size≤w'.heap.size∧w'.os=w.os∧w'.tape=w.tape∧w'.output=w.output :=
  fun he h=>⟨_,he,h.own,h.blk,h.old,h.size,h.os,h.tape,h.output⟩
 rcases hown with ⟨rfl,rfl⟩ | ⟨b,off,c,arr,E0,fz,rfl,hc,hroom,hfz,hb,hκ,hes⟩
 ·obtain rfl:i=0:=by simpa using hi
  refine (hr.B none 0 0 vb voff vc w [] _ hvl (by omega) (by omega) (by omega) (fun w' _=>hnil w') hvs h1v).mono ?_
  rintro e w' ⟨G,zz,hG,hz,rfl,rfl⟩
  have h0:=bJ3 (E:=E) hE40 (u:=.slice none 0 0) (es:=[]) (off:=0) (arr:=#[]) (n:=0) rfl (by simp) (by simp [REs]) hes3 hst hsz3 hG hz
  have e0:((#[]:Array Value).toList.drop 0).take (0 * K)=[]:=by simp
  rw [e0] at h0
  exact done rfl h0
 ·generalize hn:es.length=n at *
  have hnc:n * K≤c * K:=Nat.mul_le_mul_right _ hc
  have hcl:((arr.toList.drop off).take (n * K)).length=n * K:=by simp; omega
  have hcs:=aY0 (off:=off) hb (n * K)
  have h1c:∀ x∈(arr.toList.drop off).take (n * K),x.oneCell'=true:=by rw [← hn]; exact bX3 hes
  have hS:¬ S b:=hno b rfl
  have hvb':vb≠b:=fun h=>hvb (by rw [h]; rfl)
  have hsome:∀ x,x < arr.size→(w.cell? ⟨b,x,none⟩).isSome=true:=fun x hx=>by simp [World.cell?,hb,hx]
  by_cases hin:i=n
  ·subst hin
   by_cases hroomy:i+1≤c
   ·have e1:(i+1) * K=i * K+K:=Nat.succ_mul _ _
    have e2:(i+1) * K≤c * K:=Nat.mul_le_mul_right _ hroomy
    refine (hr.A b off i c vb voff vc w _ hvl hroomy hvs h1v (fun j hj=>?_)).mono ?_
    ·rw [hvl] at hj
     exact ⟨hsome _ (by omega),bG6 hb hfz _ (by omega)⟩
    ·rintro e w' ⟨rfl,rfl⟩
     exact done rfl (cM1 hb hκ hroomy hroom hfz hn hes hes3 hS hsz3)
   ·refine (hr.B (some ⟨b,off,none⟩) i c vb voff vc w ((arr.toList.drop off).take (i * K)) _ hvl hc (by omega) (by omega) (fun w' hw'=>?_) hvs h1v).mono ?_
    ·exact run_firstCells_some (P:=P) w' K i ⟨b,off,none⟩ i c _ hcl (fun t x hx=>by
      rw [Addr.add_lit]
      have:=hcs t x hx
      simpa [World.cell?,hw'] using this)
    ·rintro e w' ⟨G,zz,hG,hz,rfl,rfl⟩
     exact done rfl (bJ3 hE40 hn (by omega) hes hes3 hst hsz3 hG hz)
  ·have hlt:i < n:=by omega
   by_cases hroomy:n+1≤c
   ·have e1:(n+1) * K=n * K+K:=Nat.succ_mul _ _
    have e2:(n+1) * K≤c * K:=Nat.mul_le_mul_right _ hroomy
    refine (hr.D b off n c i vb voff vc w _ _ hcl hvl hlt hroomy (by omega) hvb' hcs (fun j hj=>hsome _ (by omega)) (fun j hj=>bG6 hb hfz _ (by omega)) hvs h1c h1v E3 E0 arr3.size arr.size hsh3 (by simp [World.shape?,hb]) (by omega) (hfz3 _) (hfz3 _)).mono ?_
    rintro e w' ⟨rfl,rfl⟩
    exact done rfl (cK6 hb hκ hlt hroomy hroom hfz hn hes hes3 hS hsz3)
   ·refine (hr.C b off n c i vb voff vc w _ _ hcl hvl hlt hc (by omega) (by omega) (cZ hb) hvw hcs hvs h1c h1v).mono ?_
    rintro e w' ⟨G,ROW,hG,hR,hRt,rfl,rfl⟩
    exact done rfl (cL4 hE40 hn hlt (by omega) hes hes3 hst hsz3 hG hR hRt)
end
end Go.Vm
namespace Go.Vm
section
variable {P:Program} {e:Env} {S:Nat→Prop} {β:Path→Value} {fr:Fr} {w:World} {a:Act} {N:Nat}
theorem aX9 {ops:Array Oper} {hs:List (Nat×Hint)} {Q:Exit→Act→World→Prop} (tl:List Nat):∀ (l:List Nat) (G:dX) (fr fr':Fr) (obs:List Prop) (a:Act) (w:World),aH1 P N ops hs l G fr=some (fr',obs)→uI obs→pY e G N fr a w →
  (∀ G' a' w',pY e G' N fr' a' w'→wpOps P ops Q tl a' w')→wpOps P ops Q (l++tl) a w
 | [],G,fr,fr',obs,a,w,h,_,hm,hQ=>by
  simp only [aH1,Option.some.injEq,Prod.mk.injEq] at h
  obtain ⟨rfl,_⟩:=h
  exact hQ G a w hm
 | i :: r,G,fr,fr',obs,a,w,h,ho,hm,hQ=>by
  simp only [aH1] at h
  split at h
  case h_2=>cases h
  rename_i G1 fr1 obl hs1
  split at h
  case h_2=>cases h
  rename_i f l hl
  simp only [Option.some.injEq,Prod.mk.injEq] at h
  obtain ⟨rfl,rfl⟩:=h
  obtain ⟨o,ho1,hw,hnw⟩:=aE5 (K:=wpOps P ops Q (r++tl)) (Q:=Q) hs1 ho.1 hm fun a' w' hm'=>aX9 tl r G1 fr1 f l a' w' hl ho.2 hm' hQ
  simp only [List.cons_append,wpOps,ho1]
  by_cases hwant:Region.wanted o (yielded ops a.tmps)=true
  ·rw [if_pos hwant]
   exact .inl (hw hwant)
  ·rw [if_neg hwant]
   exact hnw (by simpa using hwant)
end
end Go.Vm
namespace Go.Vm
abbrev pch (v:Value):List PanicEntry:=[{ v:=v,recovered:=false }]
def pI:AV→AV
 | .box cs=>.box (cs.map fun _=>.junk)
 | a=>a
def iK (P:Program) (k:Nat) (args:List AV) (vin:List AV) (v:Value):Prop :=
 kR P k∧∀ (w:World) (S:Nat→Prop) (β:Path→Value) (us:List Value),us.length=args.length →
  Mem ⟨w,dJ (bO args vin) β,S,bP β vin.length,[]⟩ [] S β (bO args vin) (fun x=>(us[x]?).or (bP β vin.length x)) w →
  Calls P k us.toArray w fun e w'=>∃ S' β',e=.panicked (pch v) ∧
   Mem ⟨w,dJ (bO args vin) β,S,bP β vin.length,[]⟩ [] S' β' ((aH,.junk) :: iA aF (vin.map pI)) (fun x=>if x=aH then some v else bP β vin.length x) w'
def aP8 (P:Program) (N dst k:Nat) (items:List nV) (h:Hint) (v:Value) (fr:Fr):Option (Fr×Prop) :=
 match lJ N h.xs fr items,sK h.xs fr h.xs with
 | some (as,ts,lent),some vin =>
  if bY9 N dst { h with res:=.junk,vout:=vin.map pI } as ts lent then
   some (oJ dst h.xs (taken ts) .junk ((vin.map pI).map (kZ h.xs)) fr,iK P k as vin v)
  else none
 | _,_=>none
section
variable {P:Program} {e:Env} {G:dX} {S:Nat→Prop} {β:Path→Value} {fr:Fr} {w:World} {a:Act} {N:Nat}
theorem bH7 (hN:a.tmps.size=N) (hm:Mem e G S β fr (bF e a) w) {dst k:Nat} {items:List nV} {h:Hint} {v:Value} {fr':Fr} {obl:Prop} (he:aP8 P N dst k items h v fr=some (fr',obl)) (ho:obl) {us:List Value}
  (hargs:bC (fun _=>vQ N S w β a) 0 items us):kR P k∧Calls P k us.toArray w fun e' w'=>e'=.panicked (pch v)∧After e G fr' a dst v w':=by
 unfold aP8 at he
 split at he
 case h_2=>cases he
 rename_i as ts lent vin htr hbx
 split at he
 case isFalse=>cases he
 rename_i hc
 simp only [Option.some.injEq,Prod.mk.injEq] at he
 obtain ⟨rfl,rfl⟩:=he
 obtain ⟨hcall,hcon⟩:=ho
 obtain ⟨h1,h2,h3⟩:=aF9 (h:={ h with res:=.junk,vout:=vin.map pI }) hN hm htr hbx hc hargs
 refine ⟨hcall,(hcon w _ _ us h1 h2).mono ?_⟩
 rintro e' w' ⟨S',β',rfl,hm'⟩
 exact ⟨rfl,h3 v S' β' w' hm'⟩
theorem After.drop {fr':Fr} {t:Nat} {u:Value} {w':World} (ht:t < a.tmps.size) (h:After e G fr' a t u w'):∃ S β,Mem e G S β (fO t .junk fr') (bF e a) w':=by
 obtain ⟨S,β,hm⟩:=h
 refine ⟨S,β,hm.lT t .junk ((bF e a t).getD undef) (bF e a) (fun y hy=>(fM a t u ht y hy).symm) (fun u' h=>by rw [h]; rfl) trivial (fun j=>by cases j <;> rfl) (fun _ _ h=>by cases h)⟩
def vO (P:Program) (N:Nat) (ops:Array Oper) (i t:Nat) (h:Hint) (v:Value) (keep:List Nat) (fr:Fr):Option (Fr×Prop) :=
 match ops[i]? with
 | none=>none
 | some o=>if decide (t < N) && o.guard.isNone then match o.op with
  | .panic x=>match gH N [] fr x with
   | .d (.v u)=>(jH (.keep keep) fr).map fun f=>(f,u=v∧∃ t x,v=.iface t x)
   | _=>none
  | .call { callee:=.value f,args:=args,argTypes:=_ }=>match qJ h.frz fr with
   | some fr0=>match gH N [] fr0 f with
    | .clo k caps=>match aP8 P N t k (nE N fr0 h.take (gH N [] fr0) 0 args.toList++caps.map fun c=>(none,c)) h v fr0 with
     | some (fr1,obl)=>(jH (.keep keep) (fO t .junk fr1)).map fun f=>(f,obl)
     | none=>none
    | _=>none
   | none=>none
  | _=>none
 else none
theorem aC9 {ops:Array Oper} {i t:Nat} {h:Hint} {v:Value} {keep:List Nat} {fr':Fr} {obl:Prop} (hs:vO P N ops i t h v keep fr=some (fr',obl)) (ho:obl) (hm:pY e G N fr a w) {K:Act→World→Prop} {Q:Exit→Act→World→Prop}
  (hQ:∀ w',fZ e [] N fr' a w'→Q (.panic (pch v)) a w'):∃ o,ops[i]? = some o∧Region.wanted o (yielded ops a.tmps)=true∧o.wp P a w K Q:=by
 obtain ⟨hd,hN,hI,S,β,hm⟩:=hm
 unfold vO at hs
 split at hs
 ·cases hs
 rename_i o hoi
 split at hs
 case isFalse=>cases hs
 rename_i hc
 simp only [Bool.and_eq_true,decide_eq_true_eq] at hc
 obtain ⟨ht,hg⟩:=hc
 have hgn:o.guard=none:=by
  revert hg
  cases o.guard <;> simp
 refine ⟨o,hoi,by simp [Region.wanted,hgn],?_⟩
 have hval:=fun x=>nL hm hN [] rfl x
 split at hs
 ·rename_i x hop
  split at hs
  case h_2=>cases hs
  rename_i u hx
  simp only [Option.map_eq_some_iff,Prod.mk.injEq] at hs
  obtain ⟨f,hf,rfl,rfl⟩:=hs
  obtain ⟨rfl,t',x',rfl⟩:=ho
  have h1:=hval x
  rw [hx] at h1
  have h2:a.eval x=.iface t' x':=h1.1
  unfold Oper.wp
  have:(execOp a.eval o).run P w=.halt (.panic (.iface t' x')) w:=by
   simp only [execOp,hop,h2,Instr.panic,goPanic]
   rfl
  rw [this,Oper.upon_panic]
  exact hQ w ⟨hd,hN,S,β,uA hm hf⟩
 ·rename_i f args ats hop
  split at hs
  case h_2=>cases hs
  rename_i fr0 hfz
  obtain ⟨S0,hm0⟩:=sN h.frz fr fr0 S hm hfz
  have hval0:=fun x=>nL hm0 hN [] rfl x
  split at hs
  case h_2=>cases hs
  rename_i k caps hf
  split at hs
  case h_2=>cases hs
  rename_i fr1 ob hE
  simp only [Option.map_eq_some_iff,Prod.mk.injEq] at hs
  obtain ⟨f2,hf2,rfl,rfl⟩:=hs
  have hfv:=hval0 f
  rw [hf] at hfv
  obtain ⟨l,hl,hcaps⟩:=hfv
  have hargs:bC (fun _=>vQ N S0 w β a) 0 (nE N fr0 h.take (gH N [] fr0) 0 args.toList++caps.map fun c=>((none,c):nV)) (args.toList.map a.eval++l) :=
   bC.append (fun _ _ _ _ h=>h) (sP hN hm0 hval0 args.toList 0 0) (aL2 caps l 0 0 hcaps)
  obtain ⟨hc,hcalls⟩:=bH7 hN hm0 hE ho hargs
  have hr:=aQ7 (P:=P) (w:=w) hop hl hc
  unfold Oper.wp
  rw [hr,Oper.upon_enter]
  refine hcalls.mono ?_
  rintro e' w' ⟨rfl,hA⟩
  obtain ⟨S',β',hm'⟩:=hA.drop (by rw [hN]; exact ht)
  exact hQ w' ⟨hd,hN,S',β',uA hm' hf2⟩
 ·cases hs
def bW3 (P:Program) (N:Nat) (ops:Array Oper) (hs:List (Nat×Hint)) (m t:Nat) (v:Value) (keep:List Nat) (fr:Fr):Option (Fr×List Prop×Prop) :=
 match aH1 P N ops hs (List.range m) [] fr with
 | some (f,l)=>match vO P N ops m t (lZ hs m) v keep f with
  | some (f',ob)=>some (f',l,ob)
  | none=>none
 | none=>none
theorem aN3 {ops:Array Oper} {hs:List (Nat×Hint)} {Q:Exit→Act→World→Prop} (tl:List Nat):∀ (l:List Nat) (G:dX) (fr fr':Fr) (obs:List Prop) (a:Act) (w:World),aH1 P N ops hs l G fr=some (fr',obs)→uI obs→pY e G N fr a w →
  (∀ G' a' w',pY e G' N fr' a' w'→wpOps P ops Q tl a' w')→wpOps P ops Q (l++tl) a w
 | [],G,fr,fr',obs,a,w,h,_,hm,hQ=>by
  simp only [aH1,Option.some.injEq,Prod.mk.injEq] at h
  obtain ⟨rfl,_⟩:=h
  exact hQ G a w hm
 | i :: r,G,fr,fr',obs,a,w,h,ho,hm,hQ=>by
  simp only [aH1] at h
  split at h
  case h_2=>cases h
  rename_i G1 fr1 obl hs1
  split at h
  case h_2=>cases h
  rename_i f l hl
  simp only [Option.some.injEq,Prod.mk.injEq] at h
  obtain ⟨rfl,rfl⟩:=h
  obtain ⟨o,ho1,hw,hnw⟩:=aE5 (K:=wpOps P ops Q (r++tl)) (Q:=Q) hs1 ho.1 hm fun a' w' hm'=>aN3 tl r G1 fr1 f l a' w' hl ho.2 hm' hQ
  simp only [List.cons_append,wpOps,ho1]
  by_cases hwant:Region.wanted o (yielded ops a.tmps)=true
  ·rw [if_pos hwant]
   exact .inl (hw hwant)
  ·rw [if_neg hwant]
   exact hnw (by simpa using hwant)
variable {Q:Exit→Act→World→Prop}
theorem range_split {m n:Nat} (h:m < n):List.range n=List.range m++m :: (List.range (n - (m+1))).map (fun i=>m+1+i):=by
 have:n=m+1+(n - (m+1)):=by omega
 conv=>lhs; rw [this]
 rw [List.range_add,List.range_succ,List.append_assoc]
 rfl
theorem bG9 {id:Nat} {ops:Array Oper} {hs:List (Nat×Hint)} {m t:Nat} {v:Value} {keep:List Nat} {fr':Fr} {obs:List Prop} {ob:Prop} (h:bW3 P N ops hs m t v keep fr=some (fr',obs,ob)) (ho:uI obs) (hob:ob) (hm:fZ e [] N fr a w)
  (hQ:∀ a' w',fZ e [] N fr' a' w'→Q (.panic (pch v)) a' w'):(Code.region id ops false).wp P Q a w:=by
 unfold bW3 at h
 split at h
 case h_2=>cases h
 rename_i f l hl
 split at h
 case h_2=>cases h
 rename_i f' ob' hp
 simp only [Option.some.injEq,Prod.mk.injEq] at h
 obtain ⟨rfl,rfl,rfl⟩:=h
 have hlt:m < ops.size:=by
  unfold vO at hp
  split at hp
  ·cases hp
  ·rename_i o hoi
   exact (Array.getElem?_eq_some_iff.1 hoi).1
 refine wp_region ?_
 rw [range_split hlt]
 refine aN3 _ _ [] fr f l a w hl ho (rP hm) fun G' a' w' hm'=>?_
 obtain ⟨o,h1,h2,h3⟩:=aC9 (K:=wpOps P ops Q ((List.range (ops.size - (m+1))).map (fun i=>m+1+i))) (Q:=Q) hp hob hm' fun w'' hw=>hQ a' w'' hw
 simp only [wpOps,h1]
 rw [if_pos h2]
 exact .inl h3
theorem rZ {id:Nat} {ops:Array Oper} (m t:Nat) (v:Value) (hs:List (Nat×Hint)) (keep:List Nat) (fr':Fr) (obs:List (Nat×Prop)) (n:Nat) (ob:Prop) {k:Code} (h:bW3 P N ops hs m t v keep fr=some (fr',owed obs n,ob)) (ho:aH9 obs) (hob:ob) (hk:∀ a w,fZ e [] N fr' a w→Q (.panic (pch v)) a w):T P e N (.seq (.region id ops false) k) fr Q :=
 fun _ _ hm=>wp_seq (bG9 h ho.all hob hm fun a' w' hm'=>hk a' w' hm')
theorem jU {id:Nat} {ops:Array Oper} (m t:Nat) (v:Value) (hs:List (Nat×Hint)) (keep:List Nat) (fr':Fr) (obs:List (Nat×Prop)) (n:Nat) (ob:Prop) (h:bW3 P N ops hs m t v keep fr=some (fr',owed obs n,ob)) (ho:aH9 obs) (hob:ob) (hk:∀ a w,fZ e [] N fr' a w→Q (.panic (pch v)) a w):T P e N (.region id ops false) fr Q :=
 fun _ _ hm=>bG9 h ho.all hob hm hk
def pK (P:Program) (N:Nat) (ops:Array Oper) (tb:List Nat×List Nat) (st:Nat) (hs:List (Nat×Hint)) (m t:Nat) (v:Value) (keep:List Nat):aJ9→Bool→Nat→Nat→dX→Fr→Option (List Nat×List Fr×List Prop)
 | .take i p,true,fuel+1,mask,G,fr=>if st.testBit i && bM8 tb.2 mask i && (qK tb.1 mask).contains i && (aE6 P N ops i (lZ hs i) G fr || aC8 tb.1 st mask i) then
   match zP P N ops i (lZ hs i) G fr with
   | some (G1,fr1,obl)=>match pK P N ops tb st hs m t v keep p true fuel (mask ||| 2 ^ i) G1 fr1 with
    | some (_,f,l)=>some ([],f,obl :: l)
    | none=>none
   | none=>none
  else none
 | .all p,true,fuel+1,mask,G,fr=>match pK P N ops tb st hs m t v keep p false fuel mask G fr with
  | some (is,f,l)=>if qK tb.1 mask == is && !is.isEmpty then some ([],f,l) else none
  | none=>none
 | .alt i p r,false,fuel,mask,G,fr=>if i=m then
   match vO P N ops m t (lZ hs m) v keep fr with
   | some (f,obl)=>match pK P N ops tb st hs m t v keep r false fuel mask G fr with
    | some (is,f',l')=>some (i :: is,f :: f',obl :: l')
    | none=>none
   | none=>none
  else match bL3 P N ops st i (lZ hs i) G fr with
  | some (G1,fr1,obl)=>match pK P N ops tb st hs m t v keep p true fuel (mask ||| 2 ^ i) G1 fr1 with
   | some (_,f,l)=>match pK P N ops tb st hs m t v keep r false fuel mask G fr with
    | some (is,f',l')=>some (i :: is,f++f',obl :: (l++l'))
    | none=>none
   | none=>none
  | none=>none
 | .stop,false,_,_,_,_=>some ([],[],[])
 | _,_,_,_,_,_=>none
def bE4 (N:Nat) (fr:Fr):Bool:=fr.all fun q=>decide (N≤q.1)
theorem cD3 {fr:Fr} (h:bE4 N fr=true) {x:Nat} (hx:x < N):aU fr x=.junk:=by
 rcases aR6 fr x with h1 | h1
 ·exact h1
 ·have:=List.all_eq_true.1 h _ h1
  simp only [decide_eq_true_eq] at this
  omega
theorem cG4 {fr':Fr} (hv:bE4 N fr'=true) {d:Option Nat} {u:Value} (h:fZ e [] N fr' (a.put d u) w):fZ e [] N fr' a w:=by
 obtain ⟨h1,h2,S,β,hm⟩:=h
 have hs:a.tmps.size=N:=by rw [kY] at h2; exact h2
 refine ⟨by rw [put_defers] at h1; exact h1,hs,S,β,⟨fun x=>?_,hm.gok,hm.dis,hm.fre,hm.stb,hm.s0,hm.old,hm.os,hm.tape,hm.output,hm.size⟩⟩
 by_cases hx:x < N
 ·refine ⟨(bF e a x).getD undef,by rw [cD3 hv hx]; trivial,fun u' h=>by rw [h]; rfl⟩
 ·obtain ⟨u0,hr,hu⟩:=hm.rel x
  refine ⟨u0,hr,fun u' h=>hu u' ?_⟩
  simp only [bF] at h ⊢
  have e1:a.tmps[x]? = none:=Array.getElem?_eq_none (by omega)
  have e2:(a.put d u).tmps[x]? = none:=Array.getElem?_eq_none (by rw [kY]; omega)
  rw [e2]
  rw [e1] at h
  exact h
theorem cO4 {ops:Array Oper} {tb:List Nat×List Nat} (htb:tb=(gQ ops,mE ops)) {st:Nat} {hs:List (Nat×Hint)} {m t:Nat} {v:Value} {keep:List Nat} (hsel:Region.noSelect ops=true) (hQp:∀ (c:List PanicEntry) (a:Act) (w:World) (d:Option Nat) (u:Value),Q (.panic c) (a.put d u) w→Q (.panic c) a w) {fr':Fr} (hQ:∀ a' w',fZ e [] N fr' a' w'→Q (.panic (pch v)) a' w'):∀ (p:aJ9) (b:Bool) (fuel:Nat) (listed:Array Bool) (mask:Nat) (G:dX) (fr:Fr) (is:List Nat) (frs:List Fr) (obs:List Prop) (a:Act) (w:World),Rel ops listed mask→pK P N ops tb st hs m t v keep p b fuel mask G fr=some (is,frs,obs)→(∀ f∈frs,f=fr')→uI obs→pY e G N fr a w →
  (b=true→uB P ops Q st fuel listed a w)∧(b=false→∀ i∈is,i < ops.size→wpOp P ops Q i (fun a' w'=>(st.testBit i=true→w'=w)∧uB P ops Q st fuel (listed.setIfInBounds i true) a' w') a w):=by
 subst htb
 intro p
 induction p with
 | done =>
  intro b fuel listed mask G fr is frs obs a w hrel h hf _ hm
  cases b <;> simp [pK] at h
 | stop =>
  intro b fuel listed mask G fr is frs obs a w _ h _ _ _
  cases b with
  | true=>simp [pK] at h
  | false =>
   simp only [pK,Option.some.injEq,Prod.mk.injEq] at h
   obtain ⟨rfl,_⟩:=h
   exact ⟨fun h=>(by cases h),fun _ i hi _=>(by cases hi)⟩
 | take i p ih =>
  intro b fuel listed mask G fr is frs obs a w hrel h hf ho hm
  cases b with
  | false=>simp [pK] at h
  | true =>
   cases fuel with
   | zero=>simp [pK] at h
   | succ fuel =>
    simp only [pK] at h
    split at h
    case isFalse=>cases h
    rename_i hc
    simp only [Bool.and_eq_true,Bool.or_eq_true] at hc
    obtain ⟨⟨⟨hst,hfr⟩,hrd⟩,hcase⟩:=hc
    split at h
    case h_2=>cases h
    rename_i G1 fr1 obl hsp
    split at h
    case h_2=>cases h
    rename_i is2 f2 l2 h2
    simp only [Option.some.injEq,Prod.mk.injEq] at h
    obtain ⟨_,rfl,rfl⟩:=h
    obtain ⟨o,u,ho1,hy,hm'⟩:=aC5 hsp ho.1 hm
    have hready:i∈Region.ready .any ops listed:=by rw [hrel.ready]; simpa using hrd
    exact ⟨fun _=>cN7 (b:=aE6 P N ops i (lZ hs i) G fr) ho1 hsel hQp fuel listed a w (fun hb j oj hj hs hun=>aB7 hrel (hcase.resolve_left (by rw [hb]; simp)) hj hs hun) (Region.free_spec ho1 (hrel.free hfr)) hready hy ((ih true fuel _ _ G1 fr1 is2 f2 l2 _ w (hrel.set (Array.getElem?_eq_some_iff.1 ho1).1) h2 hf ho.2 hm').1 rfl),fun h=>by cases h⟩
 | all p ih =>
  intro b fuel listed mask G fr is frs obs a w hrel h hf ho hm
  cases b with
  | false=>simp [pK] at h
  | true =>
   cases fuel with
   | zero=>simp [pK] at h
   | succ fuel =>
    simp only [pK] at h
    split at h
    case h_2=>cases h
    rename_i is2 f2 l2 h2
    split at h
    case isFalse=>cases h
    rename_i hc
    simp only [Bool.and_eq_true,beq_iff_eq,Bool.not_eq_true',List.isEmpty_eq_false_iff] at hc
    simp only [Option.some.injEq,Prod.mk.injEq] at h
    obtain ⟨_,rfl,rfl⟩:=h
    have hrd:Region.ready .any ops listed=is2:=hrel.ready.trans hc.1
    refine ⟨fun _=>⟨fun h=>absurd (hrd ▸ h) hc.2,fun j hj=>?_⟩,fun h=>by cases h⟩
    have hj2:j∈is2:=by rw [← hrd]; exact hj
    refine (ih false fuel listed mask G fr is2 f2 l2 a w hrel h2 hf ho hm).2 rfl j hj2 ?_
    obtain ⟨_,o,ho,_⟩:=mem_ready.1 hj
    exact (Array.getElem?_eq_some_iff.1 ho).1
 | alt i p r ihp ihr =>
  intro b fuel listed mask G fr is frs obs a w hrel h hf ho hm
  cases b with
  | true=>simp [pK] at h
  | false =>
   simp only [pK] at h
   split at h
   ·rename_i him
    split at h
    case h_2=>cases h
    rename_i f obl hp
    split at h
    case h_2=>cases h
    rename_i is3 f3 l3 h3
    simp only [Option.some.injEq,Prod.mk.injEq] at h
    obtain ⟨rfl,rfl,rfl⟩:=h
    refine ⟨fun h=>(by cases h),fun _ j hj hlt=>?_⟩
    rcases List.mem_cons.1 hj with rfl | hj
    ·subst him
     have hfe:=hf f (List.mem_cons_self ..)
     subst hfe
     obtain ⟨o,g1,g2,g3⟩:=aC9 (K:=fun a' w'=>(st.testBit j=true→w'=w)∧uB P ops Q st fuel (listed.setIfInBounds j true) a' w') (Q:=Q) hp ho.1 hm fun w' hw=>hQ a w' hw
     unfold wpOp
     simp only [g1]
     rw [if_pos g2]
     exact .inl g3
    ·exact (ihr false fuel listed mask G fr is3 f3 l3 a w hrel h3 (fun y hy=>hf y (List.mem_cons_of_mem _ hy)) ho.2 hm).2 rfl j hj hlt
   split at h
   case h_2=>cases h
   rename_i G1 fr1 obl hs1
   split at h
   case h_2=>cases h
   rename_i is2 f2 l2 h2
   split at h
   case h_2=>cases h
   rename_i is3 f3 l3 h3
   simp only [Option.some.injEq,Prod.mk.injEq] at h
   obtain ⟨rfl,rfl,rfl⟩:=h
   refine ⟨fun h=>(by cases h),fun _ j hj hlt=>?_⟩
   have hob:=uE ho.2
   rcases List.mem_cons.1 hj with rfl | hj
   ·exact aQ1 hs1 ho.1 hm fun a' w' hm'=>(ihp true fuel _ _ G1 fr1 is2 f2 l2 a' w' (hrel.set hlt) h2 (fun y hy=>hf y (List.mem_append.2 (.inl hy))) hob.1 hm').1 rfl
   ·exact (ihr false fuel listed mask G fr is3 f3 l3 a w hrel h3 (fun y hy=>hf y (List.mem_append.2 (.inr hy))) hob.2 hm).2 rfl j hj hlt
theorem cP3 {id:Nat} {ops:Array Oper} {hs:List (Nat×Hint)} {m t:Nat} {v:Value} {keep:List Nat} {fr':Fr} {obs:List Prop} {k:Nat} (hmx:P.follows .mixedOrders=true) (hsel:Region.noSelect ops=true) {p:aJ9} {tb:List Nat×List Nat} {st:Nat} (htb:(gQ ops,mE ops)=tb) (hv:bE4 N fr'=true) (h:pK P N ops tb st hs m t v keep p true ops.size 0 [] fr=some ([],List.replicate k fr',obs)) (ho:uI obs) (hm:fZ e [] N fr a w)
  (hQ:∀ a' w',fZ e [] N fr' a' w'→Q (.panic (pch v)) a' w'):(Code.region id ops true).wp P Q a w:=by
 refine wp_mono (Q:=fun ex a w=>match ex with | .panic c=>c=pch v∧fZ e [] N fr' a w | _=>False) ?_ (fun ex a' w' hq=>by
  cases ex with
  | panic c=>obtain ⟨rfl,hq⟩:=hq; exact hQ a' w' hq
  | _=>exact hq.elim)
 refine wp_region_any hmx (wT (st:=st) _ _ _ _ ?_)
 obtain ⟨h1,h2,S,β,hm⟩:=hm
 exact (cO4 (e:=e) htb.symm hsel (Q:=fun ex a w=>match ex with | .panic c=>c=pch v∧fZ e [] N fr' a w | _=>False) (fun _ _ _ _ _ h=>⟨h.1,cG4 hv h.2⟩) (fun _ _ h=>⟨rfl,h⟩) p true ops.size _ 0 [] fr [] _ obs a { w with drawn:=w.drawn+1 } (Rel.start ops) h (fun f hf=>(List.mem_replicate.1 hf).2) ho (rP ⟨h1,h2,S,β,hm.drawn _⟩)).1 rfl
theorem bM6 {id:Nat} {ops:Array Oper} (hmx:P.follows .mixedOrders=true) (k0:Nat) (p:aJ9) (tb:List Nat×List Nat) (st m t:Nat) (v:Value) (hs:List (Nat×Hint)) (keep:List Nat) (fr':Fr) (obs:List (Nat×Prop)) (n:Nat) (hsel:Region.noSelect ops=true) (htb:(gQ ops,mE ops)=tb) (hv:bE4 N fr'=true) (h:pK P N ops tb st hs m t v keep p true ops.size 0 [] fr=some ([],List.replicate k0 fr',owed obs n)) (ho:aH9 obs) (hk:∀ a w,fZ e [] N fr' a w→Q (.panic (pch v)) a w):T P e N (.region id ops true) fr Q :=
 fun _ _ hm=>cP3 hmx hsel htb hv h ho.all hm hk
def aV9 (e:Env) (v:Value) (vin:List AV):Exit→Act→World→Prop
 | .panic ch,a,w=>ch=pch v∧a.defers=e.dfs∧∃ S' β',Mem e [] S' β' ((aH,.junk) :: iA aF (vin.map pI)) (fun x=>if x=aH then some v else e.vp x) w
 | _,_,_=>False
def bQ7 (fr:Fr):Nat→List AV→Prop
 | _,[]=>True
 | i,a :: r=>pI (aU fr i)=pI a∧bQ7 fr (i+1) r
theorem bP2 {g:List (Nat×Bool)→Bool} {x:Nat} {av:AV} {u:Value} (h:dV g S w β x av u):dV g S w β x (pI av) u:=by
 cases av
 case box cs =>
  obtain ⟨h0,b,l,E,h1,h2,h3⟩:=h
  exact ⟨h0,b,l,E,h1,h2,bC.map _ h3 fun _ _ _ _ _ _=>trivial⟩
 all_goals exact h
theorem zW {av:AV} {i:Nat} (h:(pI av).aJ i=true):av.aJ i=true:=by
 cases av
 case box cs =>
  cases i with
  | zero=>exact h
  | succ j =>
   simp only [pI,AV.aJ,List.getElem?_map] at h
   cases hj:cs[j]? with
   | none=>rw [hj] at h; cases h
   | some c=>rw [hj] at h; cases h
 all_goals exact h
theorem cJ4 {av:AV} {l:List (Nat×Bool)} {a:AV} (h:pI av=.gd l a):av=.gd l a:=by
 cases av <;> first | exact h | cases h
def wO (fr:Fr):Fr:=fr.map fun q=>(q.1,pI q.2)
theorem rE (fr:Fr) (x:Nat):aU (wO fr) x=pI (aU fr x):=by
 induction fr with
 | nil=>rfl
 | cons q r ih =>
  obtain ⟨y,a⟩:=q
  simp only [wO,List.map_cons,nP] at ih ⊢
  by_cases h:y=x
  ·rw [if_pos h,if_pos h]
  ·rw [if_neg h,if_neg h]; exact ih
theorem Mem.cH1 {vals:Nat→Option Value} (hm:Mem e G S β fr vals w):Mem e G S β (wO fr) vals w:=by
 refine ⟨fun x=>?_,fun x l av h=>?_,fun x i y j b h1 h2=>?_,fun x i b h1=>?_,hm.stb,hm.s0,hm.old,hm.os,hm.tape,hm.output,hm.size⟩
 ·obtain ⟨u,hr,hu⟩:=hm.rel x
  exact ⟨u,by rw [rE]; exact bP2 hr,hu⟩
 ·rw [rE] at h
  exact hm.gok x l av (cJ4 h)
 ·rw [rE] at h1 h2
  exact hm.dis x i y j b (zW h1) (zW h2)
 ·rw [rE] at h1
  exact hm.fre x i b (zW h1)
theorem aI3 {fr:Fr}:∀ {vs:List AV} {i:Nat},bQ7 fr i vs→(vs.map pI).all AV.gP=true→tV (wO fr) i (vs.map pI)
 | [],_,_,_=>trivial
 | v :: vs,i,h,hb=>by
  simp only [List.map_cons,List.all_cons,Bool.and_eq_true] at hb
  exact ⟨⟨by rw [rE]; exact h.1,hb.1⟩,aI3 h.2 hb.2⟩
theorem fC {v:Value} {vin:List AV} {fr:Fr} (hNr:decide (N < aH)=true) (hb:(vin.map pI).all AV.gP=true) (hj:bQ7 fr aF vin) :
  ∀ a w,fZ e [] N fr a w→aV9 e v vin (.panic (pch v)) a w:=by
 intro a w hm
 obtain ⟨h1,h2,S,β,hm'⟩:=hm
 have hm2:=bM2 (u:=v) (av:=.junk) hm'.cH1 h2 rfl trivial
 have hNr':=of_decide_eq_true hNr
 have hvo:=aI3 hj hb
 have hvo2:tV (fO N .junk (wO fr)) aF (vin.map pI):=by
  have key:∀ (vs:List AV) (i:Nat),aF≤i→tV (wO fr) i vs→vs.all AV.mA=true→tV (fO N .junk (wO fr)) i vs:=by
   intro vs
   induction vs with
   | nil=>intro i _ _ _; trivial
   | cons x vs ih =>
    intro i hi hv hk
    simp only [List.all_cons,Bool.and_eq_true] at hk
    refine ⟨⟨?_,hv.1.2⟩,ih (i+1) (by omega) hv.2 hk.2⟩
    rw [eQ _ _ (by simp only [aH,aF] at hNr' hi; omega),hv.1.1]
    exact bO7 hk.1
  refine key _ _ (Nat.le_refl _) hvo ?_
  rw [List.all_eq_true] at hb ⊢
  intro y hy
  obtain ⟨z,hz,rfl⟩:=List.mem_map.1 hy
  have:=hb _ hy
  cases z with
  | box cs=>simp [pI,AV.mA,AV.gU,AV.lH,AV.kC,AV.cell,AV.flat]
  | _=>exact this
 obtain ⟨S',β',hm3⟩:=bC3 (a:={ a with tmps:=a.tmps.push v }) (ts:=[N]) (N:=N+1) hm2 (by simp [h2]) hNr' (by simp [uL,bY,AV.closed,AV.paths,AV.gU,AV.lH,AV.kC,AV.sZ]) hvo2 rfl
 refine ⟨rfl,h1,S',β',?_⟩
 have e1:vX (fO N .junk (wO fr)) [N]=.junk:=bY _ _ _
 have e2:(fun x=>if x=aH then some (if h:([N].map fun t=>({ a with tmps:=a.tmps.push v }:Act).tmps.getD t undef).length=1 then ([N].map fun t=>({ a with tmps:=a.tmps.push v }:Act).tmps.getD t undef)[0] else .tuple ([N].map fun t=>({ a with tmps:=a.tmps.push v }:Act).tmps.getD t undef).toArray) else e.vp x)=fun x=>if x=aH then some v else e.vp x:=by
  funext x
  congr 2
  simp [Array.getD_eq_getD_getElem?,Array.getElem?_push,h2]
 rw [e1,e2] at hm3
 exact hm3
def oF {R:Type} (P:Program) (k:Nat) (args vin:List AV) (r:Sum Value R) (res:R→AV) (vout:R→List AV):Prop:=match r with
 | .inl v=>iK P k args vin v
 | .inr x=>aS P k args vin (res x) (vout x)
def dB0 {R:Type} (P:Program) (fn:Func) (e:Env) (vin:List AV) (r:Sum Value R) (res:R→AV) (vout:R→List AV):Exit→Act→World→Prop:=match r with
 | .inl v=>aV9 e v vin
 | .inr x=>qI P fn e (res x) (vout x)
theorem aV9.body {fn:Func} {e:Env} {v:Value} {vin:List AV} (h0:e.dfs=[]):∀ ex a w,aV9 e v vin ex a w→bodyPost P fn (fun e' w'=>∃ S' β',e'=.panicked (pch v)∧Mem e [] S' β' ((aH,.junk) :: iA aF (vin.map pI)) (fun x=>if x=aH then some v else e.vp x) w') ex a w
 | .panic _,_,_,⟨h1,h2,S',β',h3⟩=>⟨h2.trans h0,S',β',by rw [h1],h3⟩
 | .ret,_,_,h=>h.elim
 | .normal,_,_,h=>h.elim
 | .exit _,_,_,h=>h.elim
 | .goto _,_,_,h=>h.elim
 | .outgrown,_,_,h=>h.elim
theorem iK.intro {k : Nat} {fn : Func} {c : Code} (hf : P.funcs[k]? = some fn) (hb : fn.body = some c) (hname : (fn.name == "runtime.NumGoroutine") = false) (hN : fn.ntmps = N) {args : List AV} (hlen : decide (args.length ≤ N) = true) (hNr : decide (N ≤ aH) = true) {vin : List AV} {v : Value}
  (hT:∀ e:Env,T P e N c (bO args vin) (aV9 e v vin)):iK P k args vin v :=
 ⟨⟨fn,hf,by simp [hb],hname⟩,fun w S β us hus hm=>calls_of_wp hf hb (Code.wp_mono (aV9.body rfl) (hT ⟨w,dJ (bO args vin) β,S,bP β vin.length,[]⟩ _ w (wR hN (of_decide_eq_true hlen) (of_decide_eq_true hNr) hus hm)))⟩
theorem oF.intro {R : Type} {k : Nat} {fn : Func} {c : Code} (hf : P.funcs[k]? = some fn) (hb : fn.body = some c) (hname : (fn.name == "runtime.NumGoroutine") = false) (hN : fn.ntmps = N) {args : List AV} (hlen : decide (args.length ≤ N) = true) (hNr : decide (N ≤ aH) = true) {vin : List AV} {r : Sum Value R} {res : R → AV} {vout : R → List AV}
  (hT:∀ e:Env,T P e N c (bO args vin) (dB0 P fn e vin r res vout)):oF P k args vin r res vout:=by
 cases r with
 | inl v=>exact iK.intro hf hb hname hN hlen hNr hT
 | inr x=>exact aS.intro hf hb hname hN hlen hNr hT
end
def gF {α γ:Type} (m:Option (Sum Value α)) (kp:Value→Option γ) (k:α→Option γ):Option γ:=match m with
 | some (.inl v)=>kp v
 | some (.inr x)=>k x
 | none=>none
theorem dS {α γ:Type} {m:Option (Sum Value α)} {kp:Value→Option γ} {k:α→Option γ} {r:γ} (h:gF m kp k=some r):(∃ v,m=some (.inl v)∧kp v=some r)∨∃ x,m=some (.inr x)∧k x=some r:=by
 unfold gF at h
 split at h
 ·exact .inl ⟨_,rfl,h⟩
 ·exact .inr ⟨_,rfl,h⟩
 ·cases h
section
variable {Q:Exit→Act→World→Prop}
theorem eB {id:Nat} {c:List PanicEntry} {a:Act} {w:World} (h:Q (.panic c) a w):Exit.inBlock id Q (.panic c) a w:=by
 simpa [Exit.inBlock] using h
theorem eG {K:Act→World→Prop} {c:List PanicEntry} {a:Act} {w:World} (h:Q (.panic c) a w):Exit.then K Q (.panic c) a w:=h
end
end Go.Vm
namespace Go.Vm
section
variable {P:Program} {e:Env} {G:dX} {S:Nat→Prop} {β:Path→Value} {fr:Fr} {w:World} {a:Act} {N:Nat}
theorem Mem.cZ3 {vals:Nat→Option Value} (hm:Mem e G S β fr vals w) {s x:Nat} (hst:s≠x) (hng:(aU fr s).sZ=true) (hv:∀ u u',dV (dN G) S w β s (aU fr s) u→(∀ u',vals s=some u'→u'=u)→vals x=some u'→u'=u) :
  ∃ β',Mem e G S β' (fO x ((aU fr s).dO (eZ x)) ((s,.junk) :: fr)) vals w∧(∀ j,β' (x,j)=β (s,j)):=by
 have hd:=hm.drop s
 have hf:∀ y,y≠s→aU ((s,AV.junk) :: fr) y=aU fr y:=fun y hy=>aZ _ _ (Ne.symm hy)
 have hfs:aU ((s,AV.junk) :: fr) s=.junk:=aO s _ _
 obtain ⟨u0,hr,hu0⟩:=hm.rel s
 refine ⟨_,hd.qE x _ u0 (fun j=>β (s,j)) w vals (fun _ _=>rfl) (fun u' h=>hv u0 u' hr hu0 h) ?_ ?_ ?_ ?_ (fun _ _=>.inl rfl) (Nat.le_refl _) rfl rfl rfl,fun j=>if_pos rfl⟩
 ·refine (hr.dO (eZ x)).rename (fun j=>by simp) fun q hq=>?_
  exact if_neg (vC (AV.rF hq).1)
 ·intro l a h
  have:=AV.aB4 (π:=eZ x) hng
  rw [h] at this
  cases this
 ·intro i b ho hb
  have ho':=AV.eP (eZ x) _ i ho
  have hfr:=hm.fre s i b ho' hb
  refine ⟨hfr.1,hfr.2,fun y j _ hoy hby=>?_⟩
  by_cases hys:y=s
  ·subst hys
   rw [hfs] at hoy
   cases j <;> simp [AV.aJ,AV.bN] at hoy
  ·rw [hf y hys] at hoy
   exact hys (hm.dis y j s i b hoy ho' hby hb).1
 ·intro i j b h1 h2 h3 h4
  exact (hm.dis s i s j b (AV.eP (eZ x) _ i h1) (AV.eP (eZ x) _ j h2) h3 h4).2
def bU4 (s y:Nat) (fr:Fr):Fr:=fO s (.bp y 0) (fO y ((aU fr s).dO (eZ y)) ((s,.junk) :: fr))
def Env.named (e:Env) (y:Nat) (v:Value):Env:={ e with vp:=fun x=>if x=y then some v else e.vp x }
theorem Mem.cR5 (hm:Mem e [] S β fr (bF e a) w) {s y:Nat} {cs:List AV} (hs:aU fr s=.box cs) (hsN:s < a.tmps.size) (hyN:a.tmps.size≤y) (hyV:1000000≤y) (hy:aU fr y=.junk) :
  ∃ β',Mem (e.named y (a.eval (.tmp s))) [] S β' (bU4 s y fr) (bF (e.named y (a.eval (.tmp s))) a) w:=by
 have hne:s≠y:=by omega
 have hval:∀ x,x≠y→bF (e.named y (a.eval (.tmp s))) a x=bF e a x:=by
  intro x hx
  simp only [bF,Env.named,if_neg hx]
 have hvy:bF (e.named y (a.eval (.tmp s))) a y=some (a.eval (.tmp s)):=by
  have:a.tmps[y]? = none:=Array.getElem?_eq_none hyN
  simp only [bF,this,Env.named,if_true,if_pos hyV]
 have h1:Mem (e.named y (a.eval (.tmp s))) [] S β fr (bF (e.named y (a.eval (.tmp s))) a) w:=by
  refine ⟨fun x=>?_,hm.gok,hm.dis,hm.fre,hm.stb,hm.s0,hm.old,hm.os,hm.tape,hm.output,hm.size⟩
  by_cases hx:x=y
  ·subst hx
   rw [hy]
   exact ⟨a.eval (.tmp s),trivial,fun u' h=>by rw [hvy] at h; exact (Option.some.inj h).symm⟩
  ·obtain ⟨u,hr,hu⟩:=hm.rel x
   exact ⟨u,hr,fun u' h=>hu u' (by rw [← hval x hx]; exact h)⟩
 have hvs:bF (e.named y (a.eval (.tmp s))) a s=some (a.eval (.tmp s)):=by
  rw [hval s hne]
  simp [bF,Act.eval,hsN]
 obtain ⟨β',h2,hβ⟩:=h1.cZ3 (s:=s) (x:=y) hne (by rw [hs]; rfl) fun u u' _ hu hx=>by
  rw [hvy] at hx
  rw [← Option.some.inj hx]
  exact hu _ hvs
 refine ⟨β',h2.lT s (.bp y 0) (a.eval (.tmp s)) _ (fun _ _=>rfl) (fun u' h=>by rw [hvs] at h; exact (Option.some.inj h).symm) ?_ (fun j=>by cases j <;> rfl) (fun _ _ h=>by cases h)⟩
 obtain ⟨u0,hr,hu0⟩:=hm.rel s
 rw [hs] at hr
 obtain ⟨g0,b,l,E,g1,g2,g3⟩:=hr
 have e1:a.eval (.tmp s)=u0:=hu0 _ (by rw [← hval s hne]; exact hvs)
 show ∃ b,β' (y,0)=.pointer (some ⟨b,0,none⟩)∧a.eval (.tmp s)=.pointer (some ⟨b,0,none⟩)
 exact ⟨b,by rw [hβ,← g0,g1],by rw [e1,g1]⟩
def tM (N:Nat):List Nat→Nat→Fr→Option Fr
 | [],_,fr=>some fr
 | s :: r,y,fr=>match aU fr s,aU fr y with
  | .box _,.junk=>if s < N∧N≤y∧1000000≤y then tM N r (y+1) (bU4 s y fr) else none
  | _,_=>none
def kJ (a:Act):List Nat→Nat→Env→Env
 | [],_,e=>e
 | s :: r,y,e=>kJ a r (y+1) (e.named y (a.eval (.tmp s)))
theorem wW:∀ (l:List Nat) (y:Nat) (e:Env) (x:Nat),¬ (y≤x∧x < y+l.length)→(kJ a l y e).vp x=e.vp x
 | [],_,_,_,_=>rfl
 | s :: r,y,e,x,h=>by
  simp only [List.length_cons] at h
  rw [kJ,wW r (y+1) _ x (by omega)]
  simp only [Env.named]
  rw [if_neg (by omega)]
theorem aJ5:∀ (l:List Nat) (y:Nat) (e:Env) (i s:Nat),l[i]? = some s→(kJ a l y e).vp (y+i)=some (a.eval (.tmp s))
 | [],_,_,_,_,h=>by simp at h
 | q :: r,y,e,0,s,h=>by
  simp only [List.getElem?_cons_zero,Option.some.injEq] at h
  subst h
  show (kJ a r (y+1) (e.named y (a.eval (.tmp q)))).vp y=_
  rw [wW r (y+1) _ y (by omega)]
  simp [Env.named]
 | q :: r,y,e,i+1,s,h=>by
  rw [kJ,show y+(i+1)=y+1+i by omega]
  exact aJ5 r (y+1) _ i s (by simpa using h)
theorem zK:∀ (l:List Nat) (y:Nat) (e:Env),(kJ a l y e).w0=e.w0∧(kJ a l y e).A=e.A∧(kJ a l y e).S0=e.S0∧(kJ a l y e).dfs=e.dfs
 | [],_,_=>⟨rfl,rfl,rfl,rfl⟩
 | s :: r,y,e=>zK r (y+1) (e.named y (a.eval (.tmp s)))
theorem aI7 (hN:a.tmps.size=N):∀ (l:List Nat) (y:Nat) (e:Env) (β:Path→Value) (fr fr':Fr),Mem e [] S β fr (bF e a) w→tM N l y fr=some fr'→∃ β',Mem (kJ a l y e) [] S β' fr' (bF (kJ a l y e) a) w
 | [],y,e,β,fr,fr',hm,h=>by
  simp only [tM,Option.some.injEq] at h
  subst h
  exact ⟨β,hm⟩
 | s :: r,y,e,β,fr,fr',hm,h=>by
  simp only [tM] at h
  split at h
  case h_2=>cases h
  rename_i cs hs hy
  split at h
  case isFalse=>cases h
  rename_i hc
  obtain ⟨β1,h1⟩:=hm.cR5 hs (by rw [hN]; exact hc.1) (by rw [hN]; exact hc.2.1) hc.2.2 hy
  exact aI7 hN r (y+1) _ β1 _ fr' h1 h
structure yV (e e':Env) (g n y0:Nat):Prop where
 w0:e'.w0=e.w0
 A:e'.A=e.A
 S0:e'.S0=e.S0
 out:∀ x,¬ (y0≤x∧x < y0+n)→e'.vp x=e.vp x
 dfs:∃ l:List Value,l.length=n∧e'.dfs=[⟨.fn (.func g) ⟨l⟩,#[]⟩]∧∀ i v,l[i]? = some v→e'.vp (y0+i)=some v
def aZ6 {R:Type} (P:Program) (fn:Func) (e:Env) (N:Nat) (frP:Fr) (vo:List AV) (r:Sum Value R) (res:R→AV):Exit→Act→World→Prop:=match r with
 | .inl v=>fun ex a w=>ex=.panic (pch v)∧fZ e [] N frP a w
 | .inr x=>qI P fn e (res x) vo
def bE0 {R:Type} (P:Program) (fn:Func) (e:Env) (N g n:Nat) (frP:Fr) (vo:List AV) (r:Sum Value R) (res:R→AV) (ex:Exit) (a:Act) (w:World):Prop :=
 (∃ x,r=.inr x∧qI P fn e (res x) vo ex a w)∨∃ e',yV e e' g n (aF+vo.length)∧aZ6 P fn e' N frP vo r res ex a w
theorem bE0.behind {fn:Func} {R:Type} {g n:Nat} {frP:Fr} {vo:List AV} {r:Sum Value R} {res:R→AV}:∀ (e':Env) (ex:Exit) (a:Act) (w:World),yV e e' g n (aF+vo.length)→aZ6 P fn e' N frP vo r res ex a w→bE0 P fn e N g n frP vo r res ex a w :=
 fun e' _ _ _ h1 h2=>.inr ⟨e',h1,h2⟩
theorem rU {fn:Func} {R:Type} {frP:Fr} {vo:List AV} {v:Value} {res:R→AV} (h:wO fr=frP):∀ a w,fZ e [] N fr a w→aZ6 (R:=R) P fn e N frP vo (.inl v) res (.panic (pch v)) a w:=by
 intro a w ⟨h1,h2,S,β,hm⟩
 subst h
 exact ⟨rfl,h1,h2,S,β,hm.cH1⟩
def aL0:List AV→List Nat→Bool
 | [],[]=>true
 | .bp s 0 :: r,q :: l=>s == q && aL0 r l
 | _,_=>false
def cV6 (P:Program) (N:Nat) (ops:Array Oper) (hs:List (Nat×Hint)) (m t:Nat) (g y0:Nat) (slots keep keep2:List Nat) (fr:Fr):Option (Fr×List Prop) :=
 match aH1 P N ops hs (List.range m) [] fr with
 | some (f,l)=>match aU f t with
  | .clo g' caps=>if g'=g∧aL0 caps slots=true then match jH (.keep (slots++keep)) f with
   | some f1=>match tM N slots y0 f1 with
    | some f2=>(jH (.keep keep2) f2).map fun f3=>(f3,l)
    | none=>none
   | none=>none
   else none
  | _=>none
 | none=>none
theorem bN9 {π:Path→Bool} {av:AV} {cs:List AV} (h:av.dU π=.box cs):av=.box cs:=by
 unfold AV.dU at h
 split at h
 ·cases h
 ·exact h
theorem aW4 {π:Path→Bool} {av:AV} {cs:List AV} (h:av.dO π=.box cs):∃ cs',av=.box cs':=by
 cases av
 case box cs0=>exact ⟨cs0,rfl⟩
 case tup vs=>cases h
 all_goals exact ⟨cs,bN9 h⟩
theorem aE3:∀ (l:List Nat) (y:Nat) (fr fr':Fr),tM N l y fr=some fr'→∀ s,s∈l→s < N∧(∃ cs,aU fr s=.box cs)
 | [],_,_,_,_,s,hs=>by cases hs
 | q :: r,y,fr,fr',h,s,hs=>by
  simp only [tM] at h
  split at h
  case h_2=>cases h
  rename_i cs hq hy
  split at h
  case isFalse=>cases h
  rename_i hc
  rcases List.mem_cons.1 hs with rfl | hs
  ·exact ⟨hc.1,cs,hq⟩
  ·obtain ⟨h1,cs',h2⟩:=aE3 r (y+1) _ fr' h s hs
   refine ⟨h1,?_⟩
   have hsy:s≠y:=by omega
   by_cases hsq:s=q
   ·subst hsq
    exact ⟨cs,hq⟩
   ·unfold bU4 at h2
    rw [eQ _ _ hsq,eQ _ _ hsy,aZ _ _ (Ne.symm hsq)] at h2
    obtain ⟨cs1,h3⟩:=aW4 h2
    exact aW4 h3
theorem bB7 {caps:List AV} {slots:List Nat} {l:List Value} (h:aL0 caps slots=true):∀ {i:Nat},bC (fun _=>sB S w β) i caps l→l.length=slots.length∧∀ (j s:Nat) (v:Value),slots[j]? = some s→l[j]? = some v→∃ b:Nat,β (s,0)=Value.pointer (some ⟨b,0,none⟩)∧v=Value.pointer (some ⟨b,0,none⟩):=by
 induction caps generalizing slots l with
 | nil =>
  intro i ha
  cases slots with
  | cons q r=>cases h
  | nil =>
   cases l with
   | nil=>exact ⟨rfl,fun j s v hj=>by simp at hj⟩
   | cons=>exact ha.elim
 | cons c r ih =>
  intro i ha
  cases slots with
  | nil=>cases c <;> first | cases h | (rename_i x y; cases y <;> cases h)
  | cons q qs =>
   cases l with
   | nil=>exact ha.elim
   | cons v vs =>
    simp only [bC] at ha
    cases c
    case bp s off =>
     cases off with
     | succ=>cases h
     | zero =>
      simp only [aL0,Bool.and_eq_true,beq_iff_eq] at h
      obtain ⟨rfl,h2⟩:=h
      obtain ⟨h3,h4⟩:=ih h2 ha.2
      refine ⟨by simp [h3],fun j s' v' hj hv=>?_⟩
      cases j with
      | zero =>
       simp only [List.getElem?_cons_zero,Option.some.injEq] at hj hv
       subst hj hv
       exact ha.1
      | succ j=>exact h4 j s' v' (by simpa using hj) (by simpa using hv)
    all_goals cases h
theorem cR1 {id:Nat} {ops:Array Oper} {o:Oper} {c:Call} (m t g y0:Nat) (slots keep keep2:List Nat) (hs:List (Nat×Hint)) (d:Fr) (obs:List (Nat×Prop)) (n:Nat) {k:Code} {Q0:Exit→Act→World→Prop} {Q:Env→Exit→Act→World→Prop} (hQ:∀ e' ex a w,yV e e' g slots.length y0→Q e' ex a w→Q0 ex a w)
  (h:cV6 P N ops hs m t g y0 slots keep keep2 fr=some (d,owed obs n)) (ho:aH9 obs) (hsz:ops.size=m+1) (hlast:ops[m]? = some o) (hop:o.op=.defer c) (hcal:c.callee=.value (.tmp t)) (hargs:c.args=#[]) (hgd:o.guard=none) (hdst:o.dst=none) (htN:decide (t < N)=true)
  (he:e.dfs=[]) (hK:∀ e':Env,yV e e' g slots.length y0→T P e' N k d (Q e')):T P e N (.seq (.region id ops false) k) fr Q0:=by
 intro a w hm
 unfold cV6 at h
 split at h
 case h_2=>cases h
 rename_i f l hl
 split at h
 case h_2=>cases h
 rename_i g' caps ht
 split at h
 case isFalse=>cases h
 rename_i hgc
 obtain ⟨rfl,hsame⟩:=hgc
 split at h
 case h_2=>cases h
 rename_i f1 hk
 split at h
 case h_2=>cases h
 rename_i f2 hlo
 simp only [Option.map_eq_some_iff,Prod.mk.injEq] at h
 obtain ⟨f3,hk2,rfl,rfl⟩:=h
 refine wp_seq (wp_region ?_)
 rw [hsz,List.range_succ]
 refine aX9 [m] _ [] fr f _ a w hl ho.all (rP hm) fun G' a' w' hm'=>?_
 obtain ⟨h1,h2,_,S,β,hM⟩:=hm'
 have htlt:t < a'.tmps.size:=by rw [h2]; exact of_decide_eq_true htN
 obtain ⟨u,hr,hu⟩:=hM.rel t
 rw [ht] at hr
 obtain ⟨l,hul,hall⟩:=hr
 have hval:bF e a' t=some a'.tmps[t]:=by simp [bF,htlt]
 have hut:=hu _ hval
 obtain ⟨hlen,hcaps⟩:=bB7 hsame hall
 have hev:a'.eval (.tmp t)=.func (.func g') #[] ⟨l⟩:=by
  rw [← hul,← hut]
  simp [Act.eval,htlt]
 simp only [wpOps,hlast]
 rw [if_pos (by simp [Region.wanted,hgd])]
 left
 have hex:(execOp a'.eval o).run P w'=.ok (.defer ⟨.fn (.func g') ⟨l⟩,#[]⟩) w':=by
  simp [execOp,hop,resolve,hcal,hargs,hev,Deferred.ofValue]
 unfold Oper.wp
 rw [hex,Oper.upon_defer,hdst]
 show Exit.then _ _ .normal _ _
 have hM1:=uA hM hk
 obtain ⟨β2,hM2'⟩:=aI7 h2 slots y0 e β f1 f2 hM1 hlo
 have hM2:=uA hM2' hk2
 have hbox:=aE3 slots y0 f1 f2 hlo
 -- the closure's values are those of the slots
 have hlv:∀ i v,l[i]? = some v→(kJ a' slots y0 e).vp (y0+i)=some v:=by
  intro i v hi
  have hil:i < slots.length:=by rw [← hlen]; exact (List.getElem?_eq_some_iff.1 hi).1
  have hsi:slots[i]? = some slots[i]:=List.getElem?_eq_getElem hil
  obtain ⟨b,g1,g2⟩:=hcaps i _ v hsi hi
  rw [aJ5 slots y0 e i _ hsi,g2]
  obtain ⟨hsN,cs,hcs⟩:=hbox slots[i] (List.getElem_mem hil)
  obtain ⟨u0,hr0,hu0⟩:=hM1.rel slots[i]
  rw [hcs] at hr0
  have hv0:=hu0 _ (kT (e:=e) (by rw [h2]; exact hsN))
  rw [hv0,hr0.1,g1]
 have hrest:=zK (a:=a') slots y0 e
 let e':Env:={ kJ a' slots y0 e with dfs:=[⟨.fn (.func g') ⟨l⟩,#[]⟩] }
 have hle:yV e e' g' slots.length y0:=⟨hrest.1,hrest.2.1,hrest.2.2.1,fun x hx=>wW slots y0 e x hx,l,hlen,rfl,hlv⟩
 have hT:=hK e' hle { a' with defers:=⟨.fn (.func g') ⟨l⟩,#[]⟩ :: a'.defers } w' ⟨by simp [e',h1,he],h2,S,β2,⟨hM2.rel,hM2.gok,hM2.dis,hM2.fre,hM2.stb,hM2.s0,hM2.old,hM2.os,hM2.tape,hM2.output,hM2.size⟩⟩
 exact Code.wp_mono (fun ex a2 w2 hq=>hQ e' ex a2 w2 hle hq) hT
def bps (n:Nat):List AV:=(List.range n).map fun j=>.bp (aF+j) 0
def aO6 (P:Program) (g:Nat) (p:Value) (vin vout:List AV):Prop :=
 ∀ (w:World) (S:Nat→Prop) (β:Path→Value) (us:List Value),us.length=vin.length →
  Mem ⟨w,dJ (bO (bps vin.length) vin) β,S,bP β vin.length,[]⟩ [] S β (bO (bps vin.length) vin) (fun x=>(us[x]?).or (bP β vin.length x)) w →
  CallsD P g us.toArray (.panicking (pch p)) w fun e u' w'=>(∃ v,e=.returned v)∧u'=.panicking [{ v:=p,recovered:=true }]∧∃ S' β',
   Mem ⟨w,dJ (bO (bps vin.length) vin) β,S,bP β vin.length,[]⟩ [] S' β' ((aH,.junk) :: iA aF vout) (fun x=>if x=aH then some undef else bP β vin.length x) w'
def bU6 (N dst n y0:Nat) (keep:List Nat) (vout:List AV) (fr:Fr):Option (Fr×List AV×List AV) :=
 let xs:=(List.range n).map (y0+·)
 match lJ N xs fr ((List.range n).map fun j=>(none,.bp (y0+j) 0)),sK xs fr xs with
 | some (as,ts,lent),some vin=>if bY9 N dst { xs:=xs,res:=.junk,vout:=vout } as ts lent && (List.range n).all (fun j=>match aU fr (y0+j) with | .box _=>true | _=>false) then
   (jH (.keep keep) (fO dst .junk (oJ dst xs (taken ts) .junk (vout.map (kZ xs)) fr))).map fun f=>(f,as,vin)
  else none
 | _,_=>none
theorem Mem.cN1 {e':Env} {g n:Nat} {vo:List AV} (hl:yV e e' g n (aF+vo.length)) {res:AV} {u:Value} (hm:Mem e' [] S β ((aH,res) :: iA aF vo) (fun x=>if x=aH then some u else e'.vp x) w) :
  Mem e [] S β ((aH,res) :: iA aF vo) (fun x=>if x=aH then some u else e.vp x) w:=by
 refine ⟨fun x=>?_,hm.gok,hm.dis,fun x i b h1 h2=>?_,fun b hb=>?_,fun b hb=>?_,fun b h1 h2=>?_,?_,?_,?_,?_⟩
 ·by_cases hx:aF+vo.length≤x∧x < aF+vo.length+n
  ·have hne:x≠aH:=by simp only [aF,aH] at hx ⊢; omega
   refine ⟨(e.vp x).getD undef,?_,fun u' h=>?_⟩
   ·rw [aZ _ _ (Ne.symm hne),lN,if_neg (by omega)]
    trivial
   ·simp only [if_neg hne] at h
    rw [h]; rfl
  ·obtain ⟨u0,hr,hu⟩:=hm.rel x
   exact ⟨u0,hr,fun u' h=>hu u' (by rw [hl.out x hx]; exact h)⟩
 ·have:=hm.fre x i b h1 h2
  rw [hl.w0,hl.A] at this
  exact this
 ·have:=hm.stb b hb
  rw [hl.w0,hl.A,hl.S0] at this
  exact this
 ·exact hm.s0 b (by rw [hl.S0]; exact hb)
 ·rw [← hl.w0] at h1 ⊢
  exact hm.old b h1 (by rw [hl.A]; exact h2)
 ·rw [← hl.w0]; exact hm.os
 ·rw [← hl.w0]; exact hm.tape
 ·rw [← hl.w0]; exact hm.output
 ·rw [← hl.w0]; exact hm.size
def bH4 {R:Type} (P:Program) (fn:Func) (N g n:Nat) (vo:List AV) (frP:Fr) (resf:R→AV) (res:AV):Sum Value R→Prop
 | .inr x=>resf x=res
 | .inl p=>∃ vin vout dst keep fr3,aO6 P g p vin vout∧vin.length=n∧dst < N∧bU6 N dst n (aF+vo.length) keep vout frP=some (fr3,bps n,vin)∧∀ e' a w,fZ e' [] N fr3 a w→qI P fn e' res vo .ret a w
theorem aS.dA0 {k : Nat} {fn : Func} {c : Code} (hf : P.funcs[k]? = some fn) (hb : fn.body = some c) (hname : (fn.name == "runtime.NumGoroutine") = false) (hN : fn.ntmps = N) {args vo : List AV} (hlen : decide (args.length ≤ N) = true) (hNr : decide (N ≤ aH) = true) {res : AV} {g n : Nat} {R : Type} {y : Sum Value R} {resf : R → AV} {frP : Fr}
  (heg:∀ args w,(callFunc g args).run P w=.ok (.enter g args) w)
  (hg:∀ (cap:Array Value) (w:World),cap.size=n→CallsD P g cap .returning w fun e u' w'=>u'=.returning∧(∃ v,e=.returned v)∧w'=w)
  (hT:∀ e:Env,e.dfs=[]→T P e N c (bO args vo) (bE0 P fn e N g n frP vo y resf))
  (hfin:bH4 P fn N g n vo frP resf res y):aS P k args vo res vo:=by
 refine ⟨⟨fn,hf,by simp [hb],hname⟩,fun w S β us hus hm=>calls_of_wp_defers hf hb (Code.wp_mono (fun ex a2 w2 hp=>?_) (hT ⟨w,dJ (bO args vo) β,S,bP β vo.length,[]⟩ rfl _ w (wR hN (of_decide_eq_true hlen) (of_decide_eq_true hNr) hus hm)))⟩
 rcases hp with ⟨x,rfl,hp⟩ | ⟨e',hl,hp⟩
 ·have:resf x=res:=hfin
  rw [this] at hp
  have h0:∀ ex,(ex=.ret∨ex=.normal)→qI P fn ⟨w,dJ (bO args vo) β,S,bP β vo.length,[]⟩ res vo ex a2 w2→bodyPostD P fn (fun e w'=>∃ u S' β',e=.returned u∧Mem ⟨w,dJ (bO args vo) β,S,bP β vo.length,[]⟩ [] S' β' ((aH,res) :: iA aF vo) (fun x=>if x=aH then some u else bP β vo.length x) w') ex a2 w2:=by
   rintro ex (rfl | rfl) ⟨h1,v,h2,u,S',β',h3,h4⟩
   ·show Leaves P fn a2.tmps _ a2.defers .returning w2
    rw [h1]; exact ⟨v,h2,u,S',β',h3,h4⟩
   ·show Leaves P fn a2.tmps _ a2.defers .returning w2
    rw [h1]; exact ⟨v,h2,u,S',β',h3,h4⟩
  cases ex with
  | ret=>exact h0 _ (.inl rfl) hp
  | normal=>exact h0 _ (.inr rfl) hp
  | panic _=>exact hp.elim
  | exit _=>exact hp.elim
  | goto _=>exact hp.elim
  | outgrown=>exact hp.elim
 obtain ⟨l,hll,hdf,hlv⟩:=hl.dfs
 have fin:∀ (a2:Act) (w2:World) (x:AV),qI P fn e' x vo .ret a2 w2→x=res→∃ v,(results fn a2.tmps).run P w2=.ok v w2∧(fun e w'=>∃ u S' β',e=Ending.returned u∧Mem ⟨w,dJ (bO args vo) β,S,bP β vo.length,[]⟩ [] S' β' ((aH,res) :: iA aF vo) (fun x=>if x=aH then some u else bP β vo.length x) w') (.returned v) w2:=by
  rintro a2 w2 x ⟨_,v,h1,u,S',β',h2,h3⟩ rfl
  exact ⟨v,h1,u,S',β',h2,h3.cN1 hl⟩
 have norm:∀ (a2:Act) (w2:World) (x:AV),qI P fn e' x vo .ret a2 w2→x=res →
   Leaves P fn a2.tmps (fun e w'=>∃ u S' β',e=.returned u∧Mem ⟨w,dJ (bO args vo) β,S,bP β vo.length,[]⟩ [] S' β' ((aH,res) :: iA aF vo) (fun x=>if x=aH then some u else bP β vo.length x) w') a2.defers .returning w2:=by
  intro a2 w2 x hx he
  rw [hx.1,hdf]
  refine leaves_cons (f:=g) (args:=⟨l⟩) (by simp) (by simp [invoke,heg]) ((hg ⟨l⟩ w2 (by simpa using hll)).mono ?_)
  rintro e1 u' w' ⟨rfl,⟨v',rfl⟩,rfl⟩
  exact fin a2 w' x hx he
 cases y with
 | inr x =>
  cases ex with
  | ret=>exact norm a2 w2 _ hp hfin
  | normal=>exact norm a2 w2 _ hp hfin
  | panic _=>exact hp.elim
  | exit _=>exact hp.elim
  | goto _=>exact hp.elim
  | outgrown=>exact hp.elim
 | inl p =>
  obtain ⟨vin,vout,dst,keep,fr3,hdc,hvl,hdN,hcf,hret⟩:=hfin
  obtain ⟨rfl,hd2,hN2,S2,β2,hM2⟩:=hp
  show Leaves P fn a2.tmps _ a2.defers (.panicking (pch p)) w2
  rw [hd2,hdf]
  unfold bU6 at hcf
  simp only at hcf
  split at hcf
  case h_2=>cases hcf
  rename_i as ts lent vin' htr hbx
  split at hcf
  case isFalse=>cases hcf
  rename_i hc
  rw [Bool.and_eq_true] at hc
  obtain ⟨hc,hcb⟩:=hc
  simp only [Option.map_eq_some_iff,Prod.mk.injEq] at hcf
  obtain ⟨f3,hfr3,rfl,rfl,rfl⟩:=hcf
  subst hvl
  -- the closure's values
  have hargs:bC (fun _=>vQ N S2 w2 β2 a2) 0 ((List.range vin'.length).map fun j=>((none,.bp (aF+vo.length+j) 0):nV)) l:=by
   refine bC.dD (by simp [hll]) fun j it v hj hv=>?_
   simp only [List.getElem?_map,Option.map_eq_some_iff] at hj
   obtain ⟨j',hj',rfl⟩:=hj
   have hjn:j < vin'.length:=by
    rcases Nat.lt_or_ge j vin'.length with h | h
    ·exact h
    ·rw [List.getElem?_eq_none (by simp; omega)] at hj'; cases hj'
   rw [List.getElem?_range hjn] at hj'
   cases hj'
   show aV S2 w2 β2 (0,0) (.bp (aF+vo.length+j) 0) v
   obtain ⟨g1,g2⟩:=aA9 _ _ hbx
   obtain ⟨g3,_⟩:=g2 j (aF+vo.length+j) (by rw [List.getElem?_map,List.getElem?_range hjn]; rfl)
   obtain ⟨u0,hr,hu⟩:=hM2.rel (aF+vo.length+j)
   have hval:bF e' a2 (aF+vo.length+j)=some v:=by
    have e1:a2.tmps[aF+vo.length+j]? = none:=Array.getElem?_eq_none (by
     have:=of_decide_eq_true hNr
     rw [hN2]; simp only [aH,aF] at *; omega)
    simp only [bF,e1]
    rw [if_pos (by simp only [aF]; omega)]
    exact hlv j v hv
   have hvu:=hu v hval
   subst hvu
   have hpt:=bL5 g3 hr
   -- what is lent is a pointer to a box
   have:∃ b:Nat,v=.pointer (some ⟨b,0,none⟩):=by
    have hbj:=(List.all_eq_true.1 hcb) j (List.mem_range.2 hjn)
    split at hbj
    ·rename_i cs hx
     rw [hx] at hr
     obtain ⟨_,b,_,_,h1,_⟩:=hr
     exact ⟨b,h1⟩
    ·cases hbj
   obtain ⟨b,hb⟩:=this
   exact ⟨b,by rw [← hpt,hb],hb⟩
  obtain ⟨h1,h2,h3⟩:=aF9 (h:={ xs:=(List.range vin'.length).map (aF+vo.length+·),res:=.junk,vout:=vout }) hN2 hM2 htr hbx hc hargs
  refine leaves_cons (f:=g) (args:=⟨l⟩) (by simp) (by simp [invoke,heg]) ((hdc w2 (lM S2 β2 lent) (calleeβ β2 ts ((List.range vin'.length).map (aF+vo.length+·))) l hll h2).mono ?_)
  rintro e1 u' w' ⟨⟨v',rfl⟩,rfl,S',β',hm'⟩
  have hA:=h3 undef S' β' w' hm'
  obtain ⟨S3,β3,hM3⟩:=hA.drop (by rw [hN2]; exact hdN)
  exact fin a2 w' res (hret e' a2 w' ⟨hd2,hN2,S3,β3,uA hM3 hfr3⟩) rfl
theorem aO6.intro {g:Nat} {fn:Func} {id t:Nat} {o:Oper} {rest:Code} {p:Value} {vin vout:List AV} (hf:P.funcs[g]? = some fn) (hb:fn.body=some (.seq (.region id #[o] false) rest)) (hN:fn.ntmps=N)
  (hop:o.op=.call { callee:=.builtin .recover,args:=#[],argTypes:=#[] }) (hdst:o.dst=some t) (hgd:o.guard=none) (ht:t < N) (hlen:vin.length≤N) (hNr:N≤aH) (hp1:p.oneCell'=true)
  (hT:∀ e:Env,e.dfs=[]→T P e N rest (fO t (.d (.v p)) (bO (bps vin.length) vin)) (qI P fn e (.tup []) vout)):aO6 P g p vin vout:=by
 intro w S β us hus hm
 refine callsD_of_wpS hf hb fun c₀ cs hu=>?_
 have h0:=wR hN (by simpa [bps] using hlen) hNr (by simpa [bps] using hus) hm
 refine wpS_seq (wpS_region ?_)
 obtain ⟨hd,hN2,S1,β1,hm1⟩:=h0
 have hrec:recoverD (c₀ :: cs)=some (p,{ c₀ with mode:=.panicking [{ v:=p,recovered:=true }] } :: cs):=by
  simp [recoverD,hu]
 have hex:(execOp ({ tmps:=us.toArray++Array.replicate (fn.ntmps - us.toArray.size) undef,defers:=[] }:Act).eval o).run P w=.ok .recover w:=by
  simp [execOp,hop,resolve,invoke,builtin]
 have hwt:Region.wanted o (yielded #[o] ({ tmps:=us.toArray++Array.replicate (fn.ntmps - us.toArray.size) undef,defers:=[] }:Act).tmps)=true:=by simp [Region.wanted,hgd]
 show wpOpsS P #[o] _ [0] _ _ _
 simp only [wpOpsS,List.getElem?_toArray,List.getElem?_cons_zero,hwt,if_true,hex,hrec,hdst]
 refine wpS_of_wp ?_
 have ht':t < ({ tmps:=us.toArray++Array.replicate (fn.ntmps - us.toArray.size) undef,defers:=[] }:Act).tmps.size:=by rw [hN2]; exact ht
 have hm2:=hm1.lT t (.d (.v p)) p _ (fM _ t p ht') (gL _ t p ht') ⟨rfl,hp1⟩ (fun j=>by cases j <;> rfl) (fun _ _ h=>by cases h)
 refine Code.wp_mono (fun ex a2 w2 hq=>?_) (hT ⟨w,dJ (bO (bps vin.length) vin) β,S,bP β vin.length,[]⟩ rfl _ w ⟨(put_defers _ _ _).trans hd,by rw [kY]; exact hN2,S1,β1,hm2⟩)
 have key:qI P fn ⟨w,dJ (bO (bps vin.length) vin) β,S,bP β vin.length,[]⟩ (.tup []) vout .ret a2 w2→a2.defers=[]∧∃ u',({ c₀ with mode:=.panicking [{ v:=p,recovered:=true }] } :: cs:List Frame)={ c₀ with mode:=u' } :: cs∧∃ v,(results fn a2.tmps).run P w2=.ok v w2 ∧
   ((∃ v',Ending.returned v=.returned v')∧u'=.panicking [{ v:=p,recovered:=true }]∧∃ S' β',Mem ⟨w,dJ (bO (bps vin.length) vin) β,S,bP β vin.length,[]⟩ [] S' β' ((aH,.junk) :: iA aF vout) (fun x=>if x=aH then some undef else bP β vin.length x) w2):=by
  rintro ⟨h1,v,h2,u,S',β',h3,h4⟩
  refine ⟨h1,_,rfl,v,h2,⟨v,rfl⟩,rfl,S',β',?_⟩
  refine ⟨fun x=>?_,fun x l av h=>h4.gok x l av ?_,fun x i y j b h5 h6=>h4.dis x i y j b ?_ ?_,fun x i b h5=>h4.fre x i b ?_,h4.stb,h4.s0,h4.old,h4.os,h4.tape,h4.output,h4.size⟩
  ·by_cases hx:x=aH
   ·subst hx
    refine ⟨undef,by rw [aO]; trivial,fun u' h=>by simpa using h.symm⟩
   ·obtain ⟨u0,hr,hu0⟩:=h4.rel x
    rw [aZ _ _ (Ne.symm hx)] at hr ⊢
    exact ⟨u0,hr,fun u' h=>hu0 u' (by rw [if_neg hx] at h ⊢; exact h)⟩
  ·by_cases hx:x=aH
   ·subst hx; rw [aO] at h; cases h
   ·rw [aZ _ _ (Ne.symm hx)] at h ⊢; exact h
  ·by_cases hx:x=aH
   ·subst hx; rw [aO] at h5; cases i <;> simp [AV.aJ,AV.bN] at h5
   ·rw [aZ _ _ (Ne.symm hx)] at h5 ⊢; exact h5
  ·by_cases hx:y=aH
   ·subst hx; rw [aO] at h6; cases j <;> simp [AV.aJ,AV.bN] at h6
   ·rw [aZ _ _ (Ne.symm hx)] at h6 ⊢; exact h6
  ·by_cases hx:x=aH
   ·subst hx; rw [aO] at h5; cases i <;> simp [AV.aJ,AV.bN] at h5
   ·rw [aZ _ _ (Ne.symm hx)] at h5 ⊢; exact h5
 cases ex with
 | ret=>exact key hq
 | normal=>exact key hq
 | panic _=>exact hq.elim
 | exit _=>exact hq.elim
 | goto _=>exact hq.elim
 | outgrown=>exact hq.elim
end
end Go.Vm
namespace Go.Vm
variable {P:Program} {e:Env} {N:Nat} {fr:Fr} {Q:Exit→Act→World→Prop}
theorem dE6 {fn:Func} (fr':Fr) (ts:List Nat) (cs:List Co) {res:AV} {vout:List AV} (hv:tV fr' aF vout) (a:Act) (w:World) (hm:fZ e [] N fr a w)
  (hts:tmpsOf fn.results.toList=some ts:=by kernel_rfl) (h:nS cs fr=some fr':=by kernel_rfl) (hNr:decide (N≤aH)=true:=by kernel_rfl) (ho:uL N fr' ts=true:=by kernel_rfl) (hres:vX fr' ts=res:=by show _=_; kernel_rfl):qI P fn e res vout .ret a w :=
 cH9 ts hts cs h hNr ho hres hv a w hm
theorem tr {p:Prop}:p→True:=fun _=>trivial
end Go.Vm
namespace Go.Vm
structure It where
 k:Nat
 h:Hint
 p:Prop
 full:Bool
 ok:p
def hsI:List It→List (Nat×Hint)
 | []=>[]
 | i :: r=>(i.k,i.h) :: hsI r
def gd1 (ops:Array Oper) (i:Nat) (G:dX):Option Bool:=match ops[i]? with
 | some o=>match chainOf ops G o with
  | some (q :: g)=>some (dN G (q :: g))
  | _=>none
 | none=>none
def gdL (P:Program) (N:Nat) (ops:Array Oper) (hs:List (Nat×Hint)):List Nat→dX→Fr→List (Option Bool)
 | [],_,_=>[]
 | i :: r,G,fr=>match step1 P N ops i (lZ hs i) G fr with
  | some (G',fr',_)=>gd1 ops i G :: gdL P N ops hs r G' fr'
  | none=>[]
def pfx (g:Option Bool) (p:Prop):Prop:=match g with
 | none=>p
 | some b=>b=true→p
theorem bN8 {p:Prop} (h:p):∀ g,pfx g p
 | none=>h
 | some _=>fun _=>h
def obI:List (Option Bool)→Nat→List It→List Prop
 | [],_,_=>[]
 | g :: gs,j,[]=>pfx g True :: obI gs (j+1) []
 | g :: gs,j,i :: r=>bif i.k == j then (bif i.full then i.p else pfx g i.p) :: obI gs (j+1) r else pfx g True :: obI gs (j+1) (i :: r)
theorem aD6:∀ (gs:List (Option Bool)) (j:Nat) (l:List It),uI (obI gs j l)
 | [],_,_=>trivial
 | g :: gs,j,[]=>⟨bN8 trivial g,aD6 gs _ _⟩
 | g :: gs,j,i :: r=>by
  simp only [obI]
  cases i.k == j
  ·exact ⟨bN8 trivial g,aD6 gs _ _⟩
  ·refine ⟨?_,aD6 gs _ _⟩
   cases i.full
   ·exact bN8 i.ok g
   ·exact i.ok
def iC (k:Nat) (xs:List Nat) {P:Program} {K:Nat} {args vin vout:List AV} {res:AV} (c:aS P K args vin res vout):It:=⟨k,{ res:=res,vout:=vout,xs:=xs },_,false,c⟩
def iCh (k:Nat) (h:Hint) {P:Program} {K:Nat} {args vin vout:List AV} {res:AV} (c:aS P K args vin res vout):It:=⟨k,{ h with res:=res,vout:=vout },_,false,c⟩
def iD (k:Nat) (xs:List Nat) {P:Program} {K:Nat} {args vin vout:List AV} {res:AV} {b:Bool} (c:b=true→aS P K args vin res vout):It:=⟨k,{ res:=res,vout:=vout,xs:=xs },_,true,c⟩
def iW (k:Nat) {q:Prop} {x y:AV} (c:q∧x=y):It:=⟨k,{ rw:=some y },_,false,c⟩
def iB (k:Nat) {x y:Bool} (c:x=y):It:=⟨k,{ rw:=some (aB y) },True∧aB x=aB y,false,⟨trivial,c ▸ rfl⟩⟩
def iN (k:Nat) {x y:Int} (c:x=y):It:=⟨k,{ rw:=some (aI .i64 y) },True∧aI .i64 x=aI .i64 y,false,⟨trivial,c ▸ rfl⟩⟩
def iZ (k:Nat) {α:Type} (f:α→AV) {x y:α} (c:x=y):It:=⟨k,{ rw:=some (f y) },True∧f x=f y,false,⟨trivial,c ▸ rfl⟩⟩
def iI (k:Nat) {q:Prop} {l:List (List Dat)} {i:Nat} {x:List Dat} (c:q∧l[i]? = some x):It:=⟨k,{ cs:=x },_,false,c⟩
def iE (k:Nat) {q:Prop} {x y:List (List Dat)} (c:q∧x=y):It:=⟨k,{ es:=some y },_,false,c⟩
def iR (k:Nat) (x:List (List Dat)):It:=⟨k,{ es:=some x },x=x,false,rfl⟩
def iP (k:Nat) {p:Prop} (c:p):It:=⟨k,{},p,false,c⟩
def iX (k:Nat) (h:Hint) {p:Prop} (c:p):It:=⟨k,h,p,false,c⟩
def iF (k:Nat) (h:Hint) {p:Prop} (c:p):It:=⟨k,h,p,true,c⟩
def iH (k:Nat) (h:Hint):It:=⟨k,h,True,false,trivial⟩
section
variable {P:Program} {e:Env} {N:Nat} {fr:Fr} {Q:Exit→Act→World→Prop}
def frR (P:Program) (N:Nat) (ops:Array Oper) (hs:List (Nat×Hint)) (keep:List Nat) (fr:Fr):Fr:=match bE6 P N ops hs keep [] fr with
 | some x=>x.1
 | none=>[]
theorem cK7 {ops:Array Oper} {hs:List (Nat×Hint)} {keep:List Nat} {ob:List Prop} (h:(bE6 P N ops hs keep [] fr).map Prod.snd=some ob):bE6 P N ops hs keep [] fr=some (frR P N ops hs keep fr,ob):=by
 unfold frR
 cases hx:bE6 P N ops hs keep [] fr with
 | none=>rw [hx] at h; cases h
 | some x=>rw [hx] at h; cases h; rfl
theorem tR {id:Nat} {ops:Array Oper} (l:List It) (keep:List Nat) {k:Code} (hk:T P e N k (frR P N ops (hsI l) keep fr) Q) (h:(bE6 P N ops (hsI l) keep [] fr).map Prod.snd=some (obI (gdL P N ops (hsI l) (List.range ops.size) [] fr) 0 l):=by kernel_rfl):T P e N (.seq (.region id ops false) k) fr Q :=
 fun _ _ hm=>wp_seq (bD9 (cK7 h) (aD6 _ _ _) hm fun a' w' hm'=>hk a' w' hm')
theorem tRe {id:Nat} {ops:Array Oper} (l:List It) (keep:List Nat) (hk:∀ a w,fZ e [] N (frR P N ops (hsI l) keep fr) a w→Q .normal a w) (h:(bE6 P N ops (hsI l) keep [] fr).map Prod.snd=some (obI (gdL P N ops (hsI l) (List.range ops.size) [] fr) 0 l):=by kernel_rfl):T P e N (.region id ops false) fr Q :=
 fun _ _ hm=>bD9 (cK7 h) (aD6 _ _ _) hm hk
theorem tC {α:Type} {c:Operand} {x y:Code} {b:Bool} {u v:Option α} {r:α} (h:(bif b then u else v)=some r) (ht:b=true→u=some r→T P e N x fr Q) (hf:b=false→v=some r→T P e N y fr Q) (hc:gH N [] fr c=.d (.v (.bool b)):=by kernel_rfl):T P e N (.cond c x y) fr Q :=
 bU2 b hc (fun hb=>ht hb (cU8 hb h)) fun hb=>hf hb (cT1 hb h)
theorem tJ (cs:List Co) {fr':Fr} {K:Act→World→Prop} (hq:∀ a w,fZ e [] N fr' a w→K a w:=by intro a w h; repeat' (first | with_reducible exact h | refine sU ?_ | refine sQ ?_ | refine tN ?_ | refine nC ?_ | refine nO ?_ | refine oW ?_ | refine nM rfl ?_ | exact h)) (h:nS cs fr=some fr':=by show _=_; kernel_rfl):∀ a w,fZ e [] N fr a w→K a w :=
 fun a w hm=>hq a w (hm.co h)
theorem tE {ι:Type} (cs:List Co) (i:ι) {p:Prop} (hp:p) {R:ι→Prop} {I:ι→Fr} {K:Act→World→Prop} (hq:∀ a w,(∃ j,R j∧fZ e [] N (I j) a w)→K a w:=by intro a w h; repeat' (first | with_reducible exact h | refine sU ?_ | refine sQ ?_ | refine tN ?_ | refine nC ?_ | refine nO ?_ | refine oW ?_ | refine nM rfl ?_ | exact h)) (hR:p→R i:=by exact fun h=>h) (h:nS cs fr=some (I i):=by show _=_; kernel_rfl):∀ a w,fZ e [] N fr a w→K a w :=
 fun a w hm=>hq a w ⟨i,hR hp,hm.co h⟩
theorem tG {σ ε:Type} (cs:List Co) {s:σ} {I:σ→Fr} {K:Act→World→Prop} (hq:∀ a w,(∃ j,(Out.go s:Out σ ε)=.go j∧fZ e [] N (I j) a w)→K a w:=by intro a w h; repeat' (first | with_reducible exact h | refine sU ?_ | refine sQ ?_ | refine tN ?_ | refine nC ?_ | refine nO ?_ | refine oW ?_ | refine nM rfl ?_ | exact h)) (h:nS cs fr=some (I s):=by show _=_; kernel_rfl):∀ a w,fZ e [] N fr a w→K a w :=
 fun a w hm=>hq a w ⟨s,rfl,hm.co h⟩
theorem tS {z:Code} {Q':Exit→Act→World→Prop} {K:Act→World→Prop} (hk:T P e N z fr Q') (hq:∀ a w,z.wp P Q' a w→K a w:=by intro a w h; repeat' (first | with_reducible exact h | refine sU ?_ | refine sQ ?_ | refine tN ?_ | refine nC ?_ | refine nO ?_ | refine oW ?_ | refine nM rfl ?_ | exact h)):∀ a w,fZ e [] N fr a w→K a w :=
 fun a w hm=>hq a w (hk a w hm)
def bI2 (fr:Fr):Nat→Nat→List AV
 | _,0=>[]
 | i,n+1=>aU fr i :: bI2 fr (i+1) n
theorem bI7 {fr:Fr}:∀ (vout:List AV) (i:Nat),bI2 fr i vout.length=vout→vout.all AV.gP=true→tV fr i vout
 | [],_,_,_=>trivial
 | a :: r,i,h,hb=>by
  simp only [List.length_cons,bI2,List.cons.injEq] at h
  simp only [List.all_cons,Bool.and_eq_true] at hb
  exact ⟨⟨h.1,hb.1⟩,bI7 r (i+1) h.2 hb.2⟩
def rsF (P:Program) (N:Nat) (fn:Func) (cs:List Co) (fr:Fr):Option (List Nat×Nat×Fr):=match nS cs fr with
 | some f=>cellsOf P N fn.results.toList N f
 | none=>none
theorem tqc {fn:Func} {res:AV} {vout:List AV} {K:Act→World→Prop} (cs:List Co) (hq:∀ a w,qI P fn e res vout .ret a w→K a w:=by intro a w h; repeat' (first | with_reducible exact h | refine sU ?_ | refine sQ ?_ | refine tN ?_ | refine nC ?_ | refine nO ?_ | refine oW ?_ | refine nM rfl ?_ | exact h))
  (h1:((rsF P N fn cs fr).any fun x=>decide (x.2.1≤aH) && uL x.2.1 x.2.2 x.1 && vout.all AV.gP)=true:=by kernel_rfl) (h2:(rsF P N fn cs fr).map (fun x=>(vX x.2.2 x.1,bI2 x.2.2 aF vout.length))=some (res,vout):=by show _=_; kernel_rfl):∀ a w,fZ e [] N fr a w→K a w:=by
 intro a w hm
 refine hq a w ?_
 unfold rsF at h1 h2
 cases hc:nS cs fr with
 | none=>rw [hc] at h1; cases h1
 | some f =>
  simp only [hc] at h1 h2
  cases hx:cellsOf P N fn.results.toList N f with
  | none=>rw [hx] at h1; cases h1
  | some x =>
   obtain ⟨ts,N',fr2⟩:=x
   simp only [hx,Option.any_some,Bool.and_eq_true,decide_eq_true_eq,Option.map_some,Option.some.injEq,Prod.mk.injEq] at h1 h2
   exact aV5 _ hc hx (decide_eq_true h1.1.1) h1.1.2 h2.1 (bI7 _ _ h2.2 h1.2) a w hm
theorem tq {fn:Func} {res:AV} {vout:List AV} {K:Act→World→Prop} (keep:List Nat) (hq:∀ a w,qI P fn e res vout .ret a w→K a w:=by intro a w h; repeat' (first | with_reducible exact h | refine sU ?_ | refine sQ ?_ | refine tN ?_ | refine nC ?_ | refine nO ?_ | refine oW ?_ | refine nM rfl ?_ | exact h))
  (h1:((rsF P N fn [.keep keep] fr).any fun x=>decide (x.2.1≤aH) && uL x.2.1 x.2.2 x.1 && vout.all AV.gP)=true:=by kernel_rfl) (h2:(rsF P N fn [.keep keep] fr).map (fun x=>(vX x.2.2 x.1,bI2 x.2.2 aF vout.length))=some (res,vout):=by show _=_; kernel_rfl):∀ a w,fZ e [] N fr a w→K a w :=
 tqc _ hq h1 h2
def coF (cs:List Co) (fr:Fr):Fr:=match nS cs fr with
 | some f=>f
 | none=>[]
theorem tL1 {α σ:Type} {s:σ} {body:Code} (L:Nat→α→Option σ) (cs:List Co) (kp:List Nat) (d:α→Fr) (n:Nat) (i:α) (h:L n i=some s) (rd:∀ n i,L (n+1) i=some s→T P e N body (qA kp (d i) (coF cs fr)) (Exit.then (fun a w=>∃ j,L n j=some s∧fZ e [] N (qA kp (d j) (coF cs fr)) a w) Q)) (h0:∀ i,L 0 i=none:=by exact fun _=>rfl) (hc:nS cs fr=some (qA kp (d i) (coF cs fr)):=by show _=_; kernel_rfl):T P e N (.loop body) fr Q :=
 dA2 cs _ hc (aY6 (fun p=>qA kp (d p) (coF cs fr)) (fun n p=>L n p=some s) (fun i hh=>by rw [h0] at hh; cases hh) rd n i h)
theorem tL2 {α β σ:Type} {s:σ} {body:Code} (L:Nat→α→β→Option σ) (cs:List Co) (kp:List Nat) (d:α→β→Fr) (n:Nat) (i:α) (j:β) (h:L n i j=some s) (rd:∀ n i j,L (n+1) i j=some s→T P e N body (qA kp (d i j) (coF cs fr)) (Exit.then (fun a w=>∃ j:α×β,L n j.1 j.2=some s∧fZ e [] N (qA kp (d j.1 j.2) (coF cs fr)) a w) Q)) (h0:∀ i j,L 0 i j=none:=by exact fun _ _=>rfl) (hc:nS cs fr=some (qA kp (d i j) (coF cs fr)):=by show _=_; kernel_rfl):T P e N (.loop body) fr Q :=
 dA2 cs _ hc (aY6 (fun p=>qA kp (d p.1 p.2) (coF cs fr)) (fun n p=>L n p.1 p.2=some s) (fun i hh=>by rw [h0] at hh; cases hh) (fun n p=>rd n p.1 p.2) n (i,j) h)
theorem tL3 {α β γ σ:Type} {s:σ} {body:Code} (L:Nat→α→β→γ→Option σ) (cs:List Co) (kp:List Nat) (d:α→β→γ→Fr) (n:Nat) (i:α) (j:β) (k:γ) (h:L n i j k=some s) (rd:∀ n i j k,L (n+1) i j k=some s→T P e N body (qA kp (d i j k) (coF cs fr)) (Exit.then (fun a w=>∃ j:α×β×γ,L n j.1 j.2.1 j.2.2=some s∧fZ e [] N (qA kp (d j.1 j.2.1 j.2.2) (coF cs fr)) a w) Q)) (h0:∀ i j k,L 0 i j k=none:=by exact fun _ _ _=>rfl) (hc:nS cs fr=some (qA kp (d i j k) (coF cs fr)):=by show _=_; kernel_rfl):T P e N (.loop body) fr Q :=
 dA2 cs _ hc (aY6 (fun p=>qA kp (d p.1 p.2.1 p.2.2) (coF cs fr)) (fun n p=>L n p.1 p.2.1 p.2.2=some s) (fun i hh=>by rw [h0] at hh; cases hh) (fun n p=>rd n p.1 p.2.1 p.2.2) n (i,j,k) h)
theorem tL {ι σ:Type} {s:σ} {body:Code} (L:Nat→ι→Option σ) (cs:List Co) (kp:List Nat) (d:ι→Fr) (n:Nat) (i:ι) (h:L n i=some s) (rd:∀ n i,L (n+1) i=some s→T P e N body (qA kp (d i) (coF cs fr)) (Exit.then (fun a w=>∃ j,L n j=some s∧fZ e [] N (qA kp (d j) (coF cs fr)) a w) Q)) (h0:∀ i,L 0 i=none:=by exact fun _=>rfl) (hc:nS cs fr=some (qA kp (d i) (coF cs fr)):=by show _=_; kernel_rfl):T P e N (.loop body) fr Q:=tL1 L cs kp d n i h rd h0 hc
theorem jc {σ ρ:Type} {m:Option σ} {k:σ→Option ρ} {r:ρ} (h:call m k=some r) (kp:List Nat) (d:σ→Fr) {x z:Code} (hx:∀ s,m=some s→T P e N x fr (Exit.then (fun a w=>fZ e [] N (qA kp (d s) fr) a w) Q)) (hz:∀ s,k s=some r→T P e N z (qA kp (d s) fr) Q):T P e N (.seq x z) fr Q :=
 cU9 h (fun s=>qA kp (d s) fr) hx hz
theorem jct {σ ρ:Type} {m:Option σ} {k:σ→Option ρ} {r:ρ} (h:call m k=some r) (kp:List Nat) (d:σ→Fr) {x:Code} (hx:∀ s,m=some s→T P e N x fr (Exit.then (fun a w=>fZ e [] N (qA kp (d s) fr) a w) Q)) (hz:∀ s,k s=some r→∀ a w,fZ e [] N (qA kp (d s) fr) a w→Q .normal a w):T P e N x fr Q :=
 cO3 h (fun s=>qA kp (d s) fr) hx hz
theorem jE {σ ε ρ:Type} {m:Option (Out σ ε)} {kr:ε→Option ρ} {k:σ→Option ρ} {r:ρ} (h:dA m kr k=some r) (kp:List Nat) (d:σ→Fr) {x z:Code} (hx:∀ o,m=some o→dA (some o) kr k=some r→T P e N x fr (Exit.then (fun a w=>∃ s,o=.go s∧fZ e [] N (qA kp (d s) fr) a w) Q)) (hz:∀ s,k s=some r→T P e N z (qA kp (d s) fr) Q):T P e N (.seq x z) fr Q :=
 cQ0 h (fun s=>qA kp (d s) fr) hx hz
theorem jEt {σ ε ρ:Type} {m:Option (Out σ ε)} {kr:ε→Option ρ} {k:σ→Option ρ} {r:ρ} (h:dA m kr k=some r) (kp:List Nat) (d:σ→Fr) {x:Code} (hx:∀ o,m=some o→dA (some o) kr k=some r→T P e N x fr (Exit.then (fun a w=>∃ s,o=.go s∧fZ e [] N (qA kp (d s) fr) a w) Q)) (hz:∀ s,k s=some r→∀ a w,fZ e [] N (qA kp (d s) fr) a w→Q .normal a w):T P e N x fr Q :=
 cI8 h (fun s=>qA kp (d s) fr) hx hz
end
end Go.Vm
