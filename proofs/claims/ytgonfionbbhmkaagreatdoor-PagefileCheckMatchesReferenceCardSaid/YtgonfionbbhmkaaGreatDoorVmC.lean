/-
  THE V-MACHINE,text C: VmCode,VmFunc,VmLib,VmRec,VmDraw,VmNil,VmDraw2,VmDraw3,VmDag,VmTest,VmFunc2,VmEntry,VmMath,VmOpen,VmRecOpen,VmBuild,VmPlain.
-/
import Derived.Test.YtgonfionbbhmkaaGreatDoorVmB
import Derived.OrdersHeld
import Derived.ProofKit
import Derived.Lib.Builder
import Derived.Lib.UnsafeStr
import Derived.Below
namespace Go.Vm
def rD:List (Nat×Hint)→Nat→Hint
  | [],_=>{}
  | (j,h) :: r,i=>if j == i then h else rD r i
def bD2 (P:Program) (N:Nat) (ops:Array Oper) (hs:List (Nat×Hint)):List Nat→dW→Fr→Option (Fr×List Prop)
 | [],_,fr=>some (fr,[])
 | i :: r,G,fr=>match step1 P N ops i (rD hs i) G fr with
  | some (G',fr',obl)=>match bD2 P N ops hs r G' fr' with
   | some (f,l)=>some (f,obl :: l)
   | none=>none
  | none=>none
inductive Co where
 | frz (p:Path)
 | thaw (x:Nat)
 | claim (x:Nat)
 | nil (x:Nat) (κ:TypeId) (sz:Nat)
 | nild (x sz:Nat)
 | nilc (x off:Nat) (κ:TypeId) (sz:Nat)
 | thawc (x q:Nat)
 | claimc (x q:Nat)
 | keep (l:List Nat)
def kL:Co→Fr→Option Fr
 | .frz p,fr=>match fH fr p with
  | .own _κ sz es=>some (fV fr p (.fz sz es))
  | _=>none
 | .thaw x,fr=>match aX fr x with
  | .fz sz es=>some ((x,.d (.sl sz es)) :: fr)
  | .own _κ sz es=>some ((x,.d (.sl sz es)) :: fV fr (x,0) (.fz sz es))
  | .vw p=>match fH fr p with
   | .own _κ sz es=>some ((x,.d (.sl sz es)) :: fV fr p (.fz sz es))
   | .fz sz es=>some ((x,.d (.sl sz es)) :: fr)
   | _=>none
  | _=>none
 | .claim x,fr=>match aX fr x with
  | .vw (s,0)=>match aX fr s with
   | .own κ sz es=>if s≠x then some (gM x (.own κ sz es) ((s,.junk) :: fr)) else none
   | _=>none
  | .bp s 0=>match aX fr s with
   | .box _cs=>if s≠x then some (gM x ((aX fr s).dS (fG x)) ((s,.junk) :: fr)) else none
   | _=>none
  | _=>none
 | .nil x κ sz,fr=>match aX fr x with
  | .d (.v (.slice none 0 0))=>some (gM x (.own κ sz []) fr)
  | _=>none
 | .nild x sz,fr=>match aX fr x with
  | .d (.v (.slice none 0 0))=>some ((x,.d (.sl sz [])) :: fr)
  | _=>none
 | .nilc x off κ sz,fr=>match aX fr x with
  | .box cs=>match cs[off]? with
   | some (.d (.v (.slice none 0 0)))=>some ((x,.box ((cs.map (AV.dZ (kW x off))).set off (.own κ sz []))) :: vY (kW x off) fr)
   | _=>none
  | _=>none
 | .thawc x q,fr=>match aX fr x with
  | .box cs=>match cs[q]? with
   | some (.fz sz es)=>some ((x,.box (cs.set q (.d (.sl sz es)))) :: fr)
   | _=>none
  | _=>none
 | .claimc x q,fr=>match aX fr x with
  | .box cs=>match cs[q]? with
   | some (.vw (s,0))=>match aX fr s with
    | .own κ sz es=>if s≠x then some ((x,.box ((cs.map (AV.dZ (kW x q))).set q (.own κ sz es))) :: vY (kW x q) ((s,.junk) :: fr)) else none
    | _=>none
   | _=>none
  | _=>none
 | .keep l,fr=>if l.all (fun x=>(aX fr x).zN) then some (l.map fun x=>(x,aX fr x)) else none
def mV:List Co→Fr→Option Fr
 | [],fr=>some fr
 | c :: r,fr=>match kL c fr with
  | some fr'=>mV r fr'
  | none=>none
def bM5 (P:Program) (N:Nat) (ops:Array Oper) (hs:List (Nat×Hint)) (keep:List Nat) (cs:List Co) (fr:Fr):Option (Fr×List Prop) :=
 match bD2 P N ops hs (List.range ops.size) [] fr with
 | some (f,l)=>match kL (.keep keep) f with
  | some f'=>match mV cs f' with
   | some f''=>some (f'',l)
   | none=>none
  | none=>none
 | none=>none
def xY:List Prop→Prop
 | []=>True
 | p :: r=>p∧xY r
def owed:List (Nat×Prop)→Nat→List Prop
  | [],n=>List.replicate n True
  | (k,p) :: r,n=>List.replicate k True++p :: owed r n
def aQ9:List (Nat×Prop)→Prop
  | []=>True
  | [(_,p)]=>p
  | (_,p) :: r=>p∧aQ9 r
theorem aG3 (n:Nat) (l:List Prop) (h:xY l):xY (List.replicate n True++l):=by
 induction n with
 | zero=>simpa using h
 | succ n ih=>simp only [List.replicate_succ,List.cons_append]; exact ⟨trivial,ih⟩
theorem aQ9.all:∀ {l:List (Nat×Prop)} {n:Nat},aQ9 l→xY (owed l n)
  | [],n,_=>by simpa [owed] using aG3 n [] trivial
  | [(k,p)],n,h=>by
    simp only [owed]
    exact aG3 k _ ⟨h,by simpa using aG3 n [] trivial⟩
  | (k,p) :: q :: r,n,h=>by
    rw [owed]
    exact aG3 k _ ⟨h.1,aQ9.all h.2⟩
section
variable {P:Program} {e:Env} {G:dW} {S:Nat→Prop} {β:Path→Value} {fr:Fr} {w:World} {a:Act} {N:Nat}
theorem cC5 {ops:Array Oper} {hs:List (Nat×Hint)} {Q:Exit→Act→World→Prop}:∀ (l:List Nat) (G:dW) (fr fr':Fr) (obs:List Prop) (a:Act) (w:World),bD2 P N ops hs l G fr=some (fr',obs)→xY obs→uE e G N fr a w →
  (∀ G' a' w',uE e G' N fr' a' w'→Q .normal a' w')→wpOps P ops Q l a w
 | [],G,fr,fr',obs,a,w,h,_,hm,hQ=>by
  simp only [bD2,Option.some.injEq,Prod.mk.injEq] at h
  obtain ⟨rfl,_⟩:=h
  exact hQ G a w hm
 | i :: r,G,fr,fr',obs,a,w,h,ho,hm,hQ=>by
  simp only [bD2] at h
  split at h
  case h_2=>cases h
  rename_i G1 fr1 obl hs1
  split at h
  case h_2=>cases h
  rename_i f l hl
  simp only [Option.some.injEq,Prod.mk.injEq] at h
  obtain ⟨rfl,rfl⟩:=h
  obtain ⟨o,ho1,hw,hnw⟩:=aN5 (K:=wpOps P ops Q r) (Q:=Q) hs1 ho.1 hm fun a' w' hm'=>cC5 r G1 fr1 f l a' w' hl ho.2 hm' hQ
  simp only [wpOps,ho1]
  by_cases hwant:Region.wanted o (yielded ops a.tmps)=true
  ·rw [if_pos hwant]
   exact .inl (hw hwant)
  ·rw [if_neg hwant]
   exact hnw (by simpa using hwant)
theorem aG0 (fr:Fr):∀ (l:List Nat) (x:Nat),aX (l.map fun y=>(y,aX fr y)) x=if x∈l then aX fr x else .junk
 | [],x=>by simp [aX]
 | y :: l,x=>by
  simp only [List.map_cons,qR,aG0 fr l x,List.mem_cons]
  by_cases h:y=x
  ·simp [h]
  ·simp [h,Ne.symm h]
theorem aF1 {l:List Nat} {fr':Fr} (hm:Mem e G S β fr (bQ e a) w) (h:kL (.keep l) fr=some fr'):Mem e [] S β fr' (bQ e a) w:=by
 simp only [kL] at h
 split at h
 case isFalse=>cases h
 rename_i hng
 simp only [Option.some.injEq] at h
 subst h
 have hng':∀ x∈l,(aX fr x).zN=true:=List.all_eq_true.1 hng
 have ho:∀ x i,(aX (l.map fun y=>(y,aX fr y)) x).aR i=true→(aX fr x).aR i=true:=by
  intro x i h
  rw [aG0] at h
  split at h
  ·exact h
  ·cases i <;> simp [AV.aR,AV.bV] at h
 refine ⟨fun x=>?_,fun x l' av h=>?_,fun x i y j b h1 h2=>hm.dis x i y j b (ho x i h1) (ho y j h2),fun x i b h1=>hm.fre x i b (ho x i h1),hm.stb,hm.s0,hm.old,hm.os,hm.tape,hm.output,hm.size⟩
 ·obtain ⟨u,hr,hu⟩:=hm.rel x
  refine ⟨u,?_,hu⟩
  rw [aG0]
  split
  ·rename_i hx
   exact aQ8 (hng' x hx) hr
  ·exact trivial
 ·rw [aG0] at h
  split at h
  ·rename_i hx
   have:=hng' x hx
   rw [h] at this
   cases this
  ·cases h
theorem Mem.claim (hm:Mem e G S β fr (bQ e a) w) {s x:Nat} (hst:s≠x) (hng:(aX fr s).zN=true) (hv:∀ u u',dV (dN G) S w β s (aX fr s) u→dV (dN G) S w β x (aX fr x) u'→u'=u) :
  ∃ β',Mem e G S β' (gM x ((aX fr s).dS (fG x)) ((s,.junk) :: fr)) (bQ e a) w:=by
 have hd:=hm.drop s
 have hf:∀ y,y≠s→aX ((s,AV.junk) :: fr) y=aX fr y:=fun y hy=>bL _ _ (Ne.symm hy)
 have hfs:aX ((s,AV.junk) :: fr) s=.junk:=aV s _ _
 obtain ⟨u0,hr,hu0⟩:=hm.rel s
 obtain ⟨u1,hr1,hu1⟩:=hm.rel x
 have huu:=hv u0 u1 hr hr1
 refine ⟨_,hd.uC x _ u0 (fun j=>β (s,j)) w (bQ e a) (fun _ _=>rfl) (fun u' h=>by rw [hu1 u' h,huu]) ?_ ?_ ?_ ?_ (fun _ _=>.inl rfl) (Nat.le_refl _) rfl rfl rfl⟩
 ·refine (hr.dS (fG x)).rename (fun j=>by simp) fun q hq=>?_
  exact if_neg (aN2 (AV.wU hq).1)
 ·intro l a h
  have:=AV.aX0 (π:=fG x) hng
  rw [h] at this
  cases this
 ·intro i b ho hb
  have ho':=AV.fU (fG x) _ i ho
  have hfr:=hm.fre s i b ho' hb
  refine ⟨hfr.1,hfr.2,fun y j _ hoy hby=>?_⟩
  by_cases hys:y=s
  ·subst hys
   rw [hfs] at hoy
   cases j <;> simp [AV.aR,AV.bV] at hoy
  ·rw [hf y hys] at hoy
   exact hys (hm.dis y j s i b hoy ho' hby hb).1
 ·intro i j b h1 h2 h3 h4
  exact (hm.dis s i s j b (AV.fU (fG x) _ i h1) (AV.fU (fG x) _ j h2) h3 h4).2
theorem Mem.cH8 {G:dW} {vals:Nat→Option Value} (hm:Mem e G S β fr vals w) {x q s:Nat} (hsx:s≠x) {κ:TypeId} {sz:Nat} {es:List (List Dat)} {cs:List AV} (hf:aX fr x=.box cs) (hc:cs[q]? = some (.vw (s,0))) (hs:aX fr s=.own κ sz es) :
  Mem e G S (fun p=>if p=(x,q+1) then β (s,0) else β p) ((x,.box ((cs.map (AV.dZ (kW x q))).set q (.own κ sz es))) :: vY (kW x q) ((s,.junk) :: fr)) vals w:=by
 have hd:=hm.drop s
 have hoff:q < cs.length:=(List.getElem?_eq_some_iff.1 hc).1
 obtain ⟨u0,hr0,_⟩:=hm.rel s
 rw [hs] at hr0
 have hown:OwnAt S w (β (s,0)) κ sz es:=by rw [← hr0.1]; exact hr0.2
 have hos:(aX fr s).aR 0=true:=by rw [hs]; rfl
 have hcase:∀ i,(AV.box ((cs.map (AV.dZ (kW x q))).set q (.own κ sz es))).aR i=true→i=q+1∨(i≠q+1∧(aX fr x).aR i=true):=by
  intro i h
  rcases iG h with ⟨h1,_⟩ | ⟨h1,h2⟩
  ·exact .inl h1
  ·refine .inr ⟨h1,?_⟩
   rw [hf]
   exact AV.fU (kW x q) (.box cs) i h2
 have hnew:∀ i k,(AV.box ((cs.map (AV.dZ (kW x q))).set q (.own κ sz es))).aR i=true→blk ((fun p=>if p=(x,q+1) then β (s,0) else β p) (x,i))=some k →
   (i=q+1∧blk (β (s,0))=some k)∨(i≠q+1∧(aX fr x).aR i=true∧blk (β (x,i))=some k):=by
  intro i k h1 h2
  rcases hcase i h1 with rfl | ⟨h3,h4⟩
  ·simp only [if_true] at h2
   exact .inl ⟨rfl,h2⟩
  ·have:(x,i)≠(x,q+1):=by simp; exact h3
   simp only [this,if_false] at h2
   exact .inr ⟨h3,h4,h2⟩
 have hdrop:∀ z j,(aX ((s,AV.junk) :: fr) z).aR j=true→z≠s∧(aX fr z).aR j=true:=by
  intro z j h
  by_cases hz:z=s
  ·subst hz
   rw [aV] at h
   cases j <;> simp [AV.aR,AV.bV] at h
  ·rw [bL _ _ (Ne.symm hz)] at h
   exact ⟨hz,h⟩
 refine hd.change x (.box ((cs.map (AV.dZ (kW x q))).set q (.own κ sz es))) (kW x q) (aV _ _ _) (fun z hz=>.inr ?_) (fun z j hz=>by simp [hz]) (fun p hp=>if_neg (xP hp)) (fun _ _ _ h=>h) ?_ (fun l a h=>by cases h) ?_ ?_ ?_ (fun _ h=>h) (fun _ h=>.inl h) (fun _ _=>rfl) (fun _ _ _ _ _ _=>rfl) (fun _ _ _=>rfl) (Nat.le_refl _) rfl rfl rfl
 ·rw [bL _ _ (Ne.symm hz)]
  exact nM _ z _
 ·obtain ⟨u,hr,hu⟩:=hm.rel x
  rw [hf] at hr
  obtain ⟨h0,b,l,E,h1,h2,h3⟩:=hr
  refine ⟨u,⟨by simpa using h0,b,l,E,h1,h2,?_⟩,hu⟩
  refine bI.dJ (by simpa using bI.len h3) fun j p c hp hcj=>?_
  rw [List.getElem?_set] at hp
  by_cases hj:q=j
  ·subst hj
   rw [if_pos rfl,if_pos (by simpa using hoff)] at hp
   simp only [Option.some.injEq] at hp
   subst hp
   obtain ⟨c',hc',hrc⟩:=bI.get h3 q _ hc
   rw [hcj] at hc'
   cases hc'
   have hcn:c=β (s,0):=hrc
   subst hcn
   exact ⟨by simp,hown⟩
  ·rw [if_neg hj] at hp
   simp only [List.getElem?_map,Option.map_eq_some_iff] at hp
   obtain ⟨p0,hp0,rfl⟩:=hp
   obtain ⟨c',hc',hrc⟩:=bI.get h3 j p0 hp0
   rw [hcj] at hc'
   cases hc'
   simp only [Nat.zero_add] at hrc ⊢
   refine (hrc.dS (kW x q)).turn (fun _ h=>h) (fun _ _=>rfl) ?_ (fun _ _=>⟨by simp,rfl⟩) (fun ho k hk=>rfl) fun y hy=>?_
   ·have:(x,j+1)≠(x,q+1):=by simp; omega
    simp [this]
   ·exact if_neg (xP (AV.lH (AV.tK _ _ hy)).1)
 ·intro i j k h1 h2 h3 h4
  rcases hnew i k h1 h3 with ⟨rfl,h5⟩ | ⟨_,h5,h6⟩ <;> rcases hnew j k h2 h4 with ⟨rfl,h7⟩ | ⟨_,h7,h8⟩
  ·rfl
  ·exact absurd (hm.dis s 0 x j k hos h7 h5 h8).1 hsx
  ·exact absurd (hm.dis s 0 x i k hos h5 h7 h6).1 hsx
  ·exact (hm.dis x i x j k h5 h7 h6 h8).2
 ·intro i z j k h1 hz h2 h3 h4
  obtain ⟨hzs,hz2⟩:=hdrop z j h2
  rcases hnew i k h1 h3 with ⟨rfl,h5⟩ | ⟨_,h5,h6⟩
  ·exact hzs (hm.dis s 0 z j k hos hz2 h5 h4).1.symm
  ·exact hz (hm.dis x i z j k h5 hz2 h6 h4).1.symm
 ·intro i k h1 h2
  rcases hnew i k h1 h2 with ⟨rfl,h5⟩ | ⟨_,h5,h6⟩
  ·exact hm.fre s 0 k hos h5
  ·exact hm.fre x i k h5 h6
theorem Mem.bK1 (hm:Mem e G S β fr (bQ e a) w) {x:Nat} {sz:Nat} {es:List (List Dat)} (hv:∀ u,dV (dN G) S w β x (aX fr x) u→RD S w (.sl sz es) u):Mem e G S β ((x,.d (.sl sz es)) :: fr) (bQ e a) w :=
 hm.weaken x _ (fun u hr=>hv u hr) (fun j h=>by cases j <;> simp [AV.aR,AV.bV] at h) (fun _ _ h=>by cases h)
theorem aM8 {x:Nat} {sz:Nat} {es:List (List Dat)}:aX (fV fr (x,0) (.fz sz es)) x=.fz sz es:=by
 simp [fV,aV]
theorem Mem.cR2 {G:dW} {vals:Nat→Option Value} (hm:Mem e G S β fr vals w) {x off:Nat} {κ:TypeId} {sz:Nat} {cs:List AV} (hf:aX fr x=.box cs) (hc:cs[off]? = some (.d (.v (.slice none 0 0)))) :
  Mem e G S (fun p=>if p=(x,off+1) then .slice none 0 0 else β p) ((x,.box ((cs.map (AV.dZ (kW x off))).set off (.own κ sz []))) :: vY (kW x off) fr) vals w:=by
 have hoff:off < cs.length:=(List.getElem?_eq_some_iff.1 hc).1
 have hcase:∀ i,(AV.box ((cs.map (AV.dZ (kW x off))).set off (.own κ sz []))).aR i=true→i=off+1∨(i≠off+1∧(aX fr x).aR i=true):=by
  intro i h
  rcases iG h with ⟨h1,_⟩ | ⟨h1,h2⟩
  ·exact .inl h1
  ·refine .inr ⟨h1,?_⟩
   rw [hf]
   exact AV.fU (kW x off) (.box cs) i h2
 have hnew:∀ i k,(AV.box ((cs.map (AV.dZ (kW x off))).set off (.own κ sz []))).aR i=true→blk ((fun p=>if p=(x,off+1) then Value.slice none 0 0 else β p) (x,i))=some k→i≠off+1∧(aX fr x).aR i=true∧blk (β (x,i))=some k:=by
  intro i k h1 h2
  rcases hcase i h1 with rfl | ⟨h3,h4⟩
  ·simp [blk] at h2
  ·have:(x,i)≠(x,off+1):=by simp; exact h3
   simp only [this,if_false] at h2
   exact ⟨h3,h4,h2⟩
 refine hm.change x (.box ((cs.map (AV.dZ (kW x off))).set off (.own κ sz []))) (kW x off) (aV _ _ _) (fun z hz=>.inr ?_) (fun z j hz=>by simp [hz]) (fun p hp=>if_neg (xP hp)) (fun _ _ _ h=>h) ?_ (fun l a h=>by cases h) ?_ ?_ ?_ (fun _ h=>h) (fun _ h=>.inl h) (fun _ _=>rfl) (fun _ _ _ _ _ _=>rfl) (fun _ _ _=>rfl) (Nat.le_refl _) rfl rfl rfl
 ·rw [bL _ _ (Ne.symm hz)]
  exact nM _ z _
 ·obtain ⟨u,hr,hu⟩:=hm.rel x
  rw [hf] at hr
  obtain ⟨h0,b,l,E,h1,h2,h3⟩:=hr
  refine ⟨u,⟨by simpa using h0,b,l,E,h1,h2,?_⟩,hu⟩
  refine bI.dJ (by simpa using bI.len h3) fun j p c hp hcj=>?_
  rw [List.getElem?_set] at hp
  by_cases hj:off=j
  ·subst hj
   rw [if_pos rfl,if_pos (by simpa using hoff)] at hp
   simp only [Option.some.injEq] at hp
   subst hp
   obtain ⟨c',hc',hrc⟩:=bI.get h3 off _ hc
   rw [hcj] at hc'
   cases hc'
   have hcn:c=.slice none 0 0:=hrc.1
   subst hcn
   exact ⟨by simp,.inl ⟨rfl,rfl⟩⟩
  ·rw [if_neg hj] at hp
   simp only [List.getElem?_map,Option.map_eq_some_iff] at hp
   obtain ⟨p0,hp0,rfl⟩:=hp
   obtain ⟨c',hc',hrc⟩:=bI.get h3 j p0 hp0
   rw [hcj] at hc'
   cases hc'
   simp only [Nat.zero_add] at hrc ⊢
   refine (hrc.dS (kW x off)).turn (fun _ h=>h) (fun _ _=>rfl) ?_ (fun _ _=>⟨by simp,rfl⟩) (fun ho k hk=>rfl) fun q hq=>?_
   ·have:(x,j+1)≠(x,off+1):=by simp; omega
    simp [this]
   ·exact if_neg (xP (AV.lH (AV.tK _ _ hq)).1)
 ·intro i j k h1 h2 h3 h4
  obtain ⟨_,h5,h6⟩:=hnew i k h1 h3
  obtain ⟨_,h7,h8⟩:=hnew j k h2 h4
  exact (hm.dis x i x j k h5 h7 h6 h8).2
 ·intro i z j k h1 hz h2 h3 h4
  obtain ⟨_,h5,h6⟩:=hnew i k h1 h3
  exact hz (hm.dis x i z j k h5 h2 h6 h4).1.symm
 ·intro i k h1 h2
  obtain ⟨_,h5,h6⟩:=hnew i k h1 h2
  exact hm.fre x i k h5 h6
theorem cE1 {c:Co} {fr':Fr} (hm:Mem e [] S β fr (bQ e a) w) (h:kL c fr=some fr'):∃ S' β',Mem e [] S' β' fr' (bQ e a) w:=by
 cases c with
 | frz p =>
  simp only [kL] at h
  split at h
  ·rename_i sz es hp
   simp only [Option.some.injEq] at h
   subst h
   exact ⟨_,_,hm.freeze hp⟩
  ·cases h
 | keep l=>exact ⟨S,β,aF1 hm h⟩
 | thawc x q =>
  simp only [kL] at h
  split at h
  case h_2=>cases h
  rename_i cs hf
  split at h
  case h_2=>cases h
  rename_i sz es hc
  simp only [Option.some.injEq] at h
  subst h
  exact ⟨S,β,hm.bR5 hf hc (fun u hu=>hu.2) rfl⟩
 | claimc x q =>
  simp only [kL] at h
  split at h
  case h_2=>cases h
  rename_i cs hf
  split at h
  case h_2=>cases h
  rename_i s hc
  split at h
  case h_2=>cases h
  rename_i κ sz es hs
  split at h
  case isFalse=>cases h
  rename_i hne
  simp only [Option.some.injEq] at h
  subst h
  exact ⟨S,_,hm.cH8 hne hf hc hs⟩
 | thaw x =>
  simp only [kL] at h
  split at h
  ·rename_i sz es hf
   simp only [Option.some.injEq] at h
   subst h
   refine ⟨S,β,hm.bK1 fun u hr=>?_⟩
   rw [hf] at hr
   exact hr.2
  ·rename_i sz es hf
   simp only [Option.some.injEq] at h
   subst h
   have hfz:=hm.freeze (p:=(x,0)) (by simpa [fH] using hf)
   refine ⟨_,β,hfz.bK1 fun u hr=>?_⟩
   rw [aM8] at hr
   exact hr.2
  ·rename_i p hf
   split at h
   ·rename_i sz es hp
    simp only [Option.some.injEq] at h
    subst h
    have hfz:=hm.freeze hp
    have hpp:fH (fV fr p (.fz sz es)) p=.fz sz es:=by
     obtain ⟨y,i⟩:=p
     cases i with
     | zero=>simp [fH,fV,aV]
     | succ j =>
      simp only [fH] at hp
      split at hp
      ·rename_i cs hb
       simp only [fV,hb,fH,aV,List.getD_eq_getElem?_getD]
       simp only [List.getD_eq_getElem?_getD] at hp
       have hlt:j < cs.length:=by
        rcases Nat.lt_or_ge j cs.length with h | h
        ·exact h
        ·rw [List.getElem?_eq_none h] at hp; simp at hp
       simp [hlt]
      ·cases hp
    have hrd:=wS hfz hpp
    refine ⟨_,β,hfz.bK1 fun u hr=>?_⟩
    -- the slot's value is the place's
    obtain ⟨u0,hr0,hu0⟩:=hm.rel x
    by_cases hxp:p=(x,0)
    ·subst hxp
     rw [aM8] at hr
     exact hr.2
    ·have hsame:aX (fV fr p (.fz sz es)) x=.vw p:=by
      obtain ⟨y,i⟩:=p
      have hyx:y≠x:=by
       rintro rfl
       have how:=kH hp
       simp only at how
       rw [hf] at how
       cases i <;> simp [AV.aR,AV.bV] at how
      cases i with
      | zero=>simp only [fV]; rw [bL _ _ hyx]; exact hf
      | succ j =>
       simp only [fV]
       split
       ·rw [bL _ _ hyx]; exact hf
       ·exact hf
     rw [hsame] at hr
     have:u=β p:=hr
     rw [this]; exact hrd
   ·rename_i sz es hp
    simp only [Option.some.injEq] at h
    subst h
    refine ⟨S,β,hm.bK1 fun u hr=>?_⟩
    rw [hf] at hr
    have:u=β p:=hr
    rw [this]
    exact wS hm hp
   ·cases h
  ·cases h
 | nil x κ sz =>
  simp only [kL] at h
  split at h
  ·rename_i hf
   simp only [Option.some.injEq] at h
   subst h
   obtain ⟨β',hm'⟩:=hm.cM6 x κ sz (bQ e a) (fun _ _=>rfl) (fun u' hu'=>by
    obtain ⟨u,hr,hu⟩:=hm.rel x
    rw [hu u' hu']
    rw [hf] at hr
    exact hr.1)
   exact ⟨S,β',hm'⟩
  ·cases h
 | nilc x off κ sz =>
  simp only [kL] at h
  split at h
  ·rename_i cs hf
   split at h
   ·rename_i hc
    simp only [Option.some.injEq] at h
    subst h
    exact ⟨S,_,hm.cR2 hf hc⟩
   ·cases h
  ·cases h
 | nild x sz =>
  simp only [kL] at h
  split at h
  ·rename_i hf
   simp only [Option.some.injEq] at h
   subst h
   refine ⟨S,β,hm.weaken x _ (fun u hr=>?_) (fun j h=>by cases j <;> simp [AV.aR,AV.bV] at h) (fun _ _ h=>by cases h)⟩
   rw [hf] at hr
   have:u=.slice none 0 0:=hr.1
   subst this
   exact cK6 rfl
  ·cases h
 | claim x =>
  simp only [kL] at h
  split at h
  ·rename_i s hf
   split at h
   ·rename_i sz es hs
    split at h
    case isFalse=>cases h
    rename_i hne
    simp only [Option.some.injEq] at h
    subst h
    obtain ⟨β',hm'⟩:=hm.claim hne (by rw [hs]; rfl) fun u u' h1 h2=>by
     rw [hs] at h1
     rw [hf] at h2
     have h3:u'=β (s,0):=h2
     rw [h3,h1.1]
    rw [hs] at hm'
    exact ⟨S,β',by simpa [AV.dS,AV.dZ,AV.jF,AV.nW,AV.mA] using hm'⟩
   ·cases h
  ·rename_i s hf
   split at h
   ·rename_i cs hs
    split at h
    case isFalse=>cases h
    rename_i hne
    simp only [Option.some.injEq] at h
    subst h
    obtain ⟨β',hm'⟩:=hm.claim hne (by rw [hs]; rfl) fun u u' h1 h2=>by
     rw [hs] at h1
     rw [hf] at h2
     obtain ⟨h0,b,l,E,h3,_⟩:=h1
     obtain ⟨b',h4,h5⟩:=h2
     rw [← h0,h3] at h4
     simp only [Value.pointer.injEq,Option.some.injEq,Addr.mk.injEq] at h4
     rw [h5,h3,h4.1]
    exact ⟨S,β',hm'⟩
   ·cases h
  ·cases h
theorem uF:∀ (cs:List Co) (fr fr':Fr) (S:Nat→Prop) (β:Path→Value),Mem e [] S β fr (bQ e a) w→mV cs fr=some fr'→∃ S' β',Mem e [] S' β' fr' (bQ e a) w
 | [],fr,fr',S,β,hm,h=>by
  simp only [mV,Option.some.injEq] at h
  subst h
  exact ⟨S,β,hm⟩
 | c :: r,fr,fr',S,β,hm,h=>by
  simp only [mV] at h
  split at h
  ·rename_i f hf
   obtain ⟨S',β',hm'⟩:=cE1 hm hf
   exact uF r f fr' S' β' hm' h
  ·cases h
theorem iL.co {cs:List Co} {fr':Fr} (hm:iL e [] N fr a w) (h:mV cs fr=some fr'):iL e [] N fr' a w :=
 let ⟨h1,h2,S,β,hm⟩:=hm
 ⟨h1,h2,uF cs fr fr' S β hm h⟩
theorem vU (hm:iL e [] N fr a w):uE e [] N fr a w :=
 ⟨hm.1,hm.2.1,fun s l b h=>by simp [jV] at h,hm.2.2⟩
theorem bH2 {id:Nat} {ops:Array Oper} {hs:List (Nat×Hint)} {keep:List Nat} {cs:List Co} {fr':Fr} {obs:List Prop} {Q:Exit→Act→World→Prop} (h:bM5 P N ops hs keep cs fr=some (fr',obs)) (ho:xY obs) (hm:iL e [] N fr a w)
  (hQ:∀ a' w',iL e [] N fr' a' w'→Q .normal a' w'):(Code.region id ops false).wp P Q a w:=by
 unfold bM5 at h
 split at h
 case h_2=>cases h
 rename_i f l hl
 split at h
 case h_2=>cases h
 rename_i f' hk
 split at h
 case h_2=>cases h
 rename_i f'' hc
 simp only [Option.some.injEq,Prod.mk.injEq] at h
 obtain ⟨rfl,rfl⟩:=h
 refine wp_region (cC5 _ [] fr f l a w hl ho (vU hm) fun G' a' w' hm'=>hQ a' w' ?_)
 obtain ⟨h1,h2,_,S,β,hm'⟩:=hm'
 exact ⟨h1,h2,uF cs f' f'' S β (aF1 hm' hk) hc⟩
def T (P:Program) (e:Env) (N:Nat) (c:Code) (fr:Fr) (Q:Exit→Act→World→Prop):Prop:=∀ a w,iL e [] N fr a w→c.wp P Q a w
def At (e:Env) (N:Nat) (fr:Fr):Act→World→Prop:=fun a w=>iL e [] N fr a w
variable {Q:Exit→Act→World→Prop}
theorem kI {id:Nat} {ops:Array Oper} (hs:List (Nat×Hint)) (keep:List Nat) (cs:List Co) (fr':Fr) (obs:List (Nat×Prop)) (n:Nat) {k:Code} (h:bM5 P N ops hs keep cs fr=some (fr',owed obs n)) (ho:aQ9 obs) (hk:T P e N k fr' Q):T P e N (.seq (.region id ops false) k) fr Q :=
 fun _ _ hm=>wp_seq (bH2 h ho.all hm fun a' w' hm'=>hk a' w' hm')
def cV7 (fr:Fr):Fr→Nat→AV
  | [],x=>aX fr x
  | (y,a) :: r,x=>if y == x then a else cV7 fr r x
def qD:List Nat→Fr→Fr→Fr
 | [],_,_=>[]
 | x :: r,d,fr=>(x,cV7 fr d x) :: qD r d fr
theorem dB2 {x y:Code} (fr1:Fr) (h:T P e N x fr (Exit.then (At e N fr1) Q)) (hk:T P e N y fr1 Q):T P e N (.seq x y) fr Q :=
 fun a w hm=>wp_seq (wp_mono (h a w hm) fun ex a' w' hq=>by
  cases ex <;> first | exact hk a' w' hq | exact hq)
theorem aK {x z:Code} (h:T P e N x fr (Exit.then (fun a w=>z.wp P Q a w) Q)):T P e N (.seq x z) fr Q:=fun a w hm=>wp_seq (h a w hm)
theorem cK3 {c:Operand} {x y:Code} (b:Bool) (hc:gG N [] fr c=.d (.v (.bool b))) (ht:b=true→T P e N x fr Q) (hf:b=false→T P e N y fr Q):T P e N (.cond c x y) fr Q:=by
 intro a w hm
 obtain ⟨h1,h2,S,β,hm'⟩:=hm
 have hv:=pR hm' h2 [] rfl c
 rw [hc] at hv
 exact wp_cond_split hv.1 (fun h=>ht h a w ⟨h1,h2,S,β,hm'⟩) (fun h=>hf h a w ⟨h1,h2,S,β,hm'⟩)
theorem aU {id:Nat} {c:Code} (h:T P e N c fr (Exit.inBlock id Q)):T P e N (.block id c) fr Q:=fun a w hm=>wp_block (h a w hm)
theorem cZ {id:Nat} (h:∀ a w,iL e [] N fr a w→Q (.exit id) a w):T P e N (.exit id) fr Q:=fun a w hm=>wp_exit (h a w hm)
theorem aP (h:∀ a w,iL e [] N fr a w→Q .ret a w):T P e N .ret fr Q:=fun a w hm=>wp_ret (h a w hm)
theorem aO (h:∀ a w,iL e [] N fr a w→Q .normal a w):T P e N .skip fr Q:=fun a w hm=>wp_skip (h a w hm)
theorem cJ1 {c:Code} (cs:List Co) (fr':Fr) (h:mV cs fr=some fr') (hk:T P e N c fr' Q):T P e N c fr Q:=fun a w hm=>hk a w (hm.co h)
theorem cX2 {ι:Type} (I:ι→Fr) (pre:ι→Prop) (μ:ι→Nat) {body:Code} (round:∀ i,pre i→T P e N body (I i) (Exit.then (fun a w=>∃ j,pre j∧μ j < μ i∧iL e [] N (I j) a w) Q)) (i0:ι) (h0:pre i0):T P e N (.loop body) (I i0) Q:=by
 intro a w hm b k cs
 have key:∀ n i a w,μ i=n→pre i→iL e [] N (I i) a w →
   ∃ ex a' w',Q ex a' w'∧Arrives P (lone (b.at a (.code body :: .inLoop body :: k)) cs w) b k cs ex a' w':=by
  intro n
  induction n using Nat.strongRecOn with
  | _ n ih =>
   intro i a w hn hp hI
   obtain ⟨ex,a₁,w₁,hq,harr⟩:=round i hp a w hI b (.inLoop body :: k) cs
   cases ex with
   | normal =>
    obtain ⟨j,hj,hlt,hI₁⟩:=hq
    obtain ⟨e₂,a₂,w₂,hq₂,harr₂⟩:=ih (μ j) (hn ▸ hlt) j a₁ w₁ rfl hj hI₁
    exact ⟨e₂,a₂,w₂,hq₂,.of_steps (Steps.trans harr (.one step_inLoop)) harr₂⟩
   | exit id=>exact ⟨_,a₁,w₁,hq,.pass (x:=.inLoop body) rfl (fun _ _=>.inl (by simp)) harr⟩
   | goto l=>exact ⟨_,a₁,w₁,hq,.pass (x:=.inLoop body) rfl (fun _ _=>.inl (by simp)) harr⟩
   | ret=>exact ⟨_,a₁,w₁,hq,.pass (x:=.inLoop body) rfl (fun _ _=>.inl (by simp)) harr⟩
   | panic ch=>exact ⟨_,a₁,w₁,hq,.pass (x:=.inLoop body) rfl (fun _ _=>.inl (by simp)) harr⟩
   | outgrown=>exact ⟨_,a₁,w₁,hq,.pass (x:=.inLoop body) rfl (fun _ _=>.inl (by simp)) harr⟩
 obtain ⟨ex,a',w',hq,harr⟩:=key _ i0 a w rfl h0 hm
 exact ⟨ex,a',w',hq,.of_steps (.one step_loop) harr⟩
end
end Go.Vm
namespace Go.Vm
def zZ (fr:Fr):List Nat→AV
 | [t]=>aX fr t
 | ts=>.tup (ts.map (aX fr))
def yM (N:Nat) (fr:Fr):List Nat→Bool
 | [t]=>decide (t < N) && (aX fr t).closed
 | ts=>ts.all (fun t=>decide (t < N) && (aX fr t).flat && (aX fr t).closed && (aX fr t).aI6) && nodupB ts
def aJ4 (fr:Fr):Nat→List AV→Prop
 | _,[]=>True
 | i,a :: r=>(aX fr i=a∧a.gZ=true)∧aJ4 fr (i+1) r
def tmpsOf:List ResultVar→Option (List Nat)
 | []=>some []
 | .tmp t :: r=>(tmpsOf r).map (t :: ·)
 | _=>none
section
variable {P:Program} {e:Env} {S:Nat→Prop} {β:Path→Value} {fr:Fr} {w:World} {a:Act} {N:Nat}
def resβ (β:Path→Value) (ts:List Nat):Path→Value:=fun p=>if p.1=aS then (match ts with
  | [t]=>β (t,p.2)
  | _=>match p.2 with
   | 0=>.bool false
   | j+1=>β (ts.getD j 0,0)) else β p
theorem resβ_ne {β:Path→Value} {ts:List Nat} {q:Path} (h:q.1≠aS):resβ β ts q=β q:=by
 unfold resβ
 exact if_neg h
theorem resβ_one {β:Path→Value} {t i:Nat}:resβ β [t] (aS,i)=β (t,i):=by
 unfold resβ
 exact if_pos rfl
theorem resβ_many {β:Path→Value} {t1 t2:Nat} {r:List Nat} {j t:Nat} (h:(t1 :: t2 :: r)[j]? = some t):resβ β (t1 :: t2 :: r) (aS,j+1)=β (t,0):=by
 have e:resβ β (t1 :: t2 :: r) (aS,j+1)=β ((t1 :: t2 :: r).getD j 0,0):=if_pos rfl
 rw [e,List.getD_eq_getElem?_getD,h]
 rfl
theorem cP5 {a:AV} (hf:a.flat=true) (h:a.bV=true):a.aR 0=true:=by
 cases a <;> first | exact h | cases hf
theorem bY0 {a:AV} {q:Path} (hf:a.flat=true) (h:q∈a.jF):q∈a.paths:=by
 cases a <;> first | exact h | cases hf
theorem aY9 {fr:Fr}:∀ {vs:List AV} {i:Nat},aJ4 fr i vs→∀ (j:Nat) (a:AV),vs[j]? = some a→aX fr (i+j)=a∧a.gZ=true
 | [],_,_,j,cs,h=>by simp at h
 | v :: vs,i,h,0,cs,hj=>by
  simp at hj
  subst hj
  exact h.1
 | v :: vs,i,h,j+1,cs,hj=>by
  have:=aY9 h.2 j cs (by simpa using hj)
  rwa [Nat.add_assoc,Nat.add_comm 1 j] at this
theorem bO9 {av:AV} (hb:av.gZ=true):∀ q∈av.paths,q.1≠aS:=by
 intro q hq
 cases av <;> simp only [AV.gZ,AV.rO,reduceCtorEq] at hb
 ·cases hq
 ·cases hq
 ·rename_i cs
  simp only [AV.paths,List.mem_flatMap] at hq
  obtain ⟨c,hc,hq⟩:=hq
  simp only [List.all_eq_true] at hb
  have hbc:=hb c hc
  cases c
  case clo f caps =>
   simp only [Bool.or_eq_true,Bool.and_eq_true,List.isEmpty_iff] at hbc
   rcases hbc with hbc | hbc
   ·rw [hbc.1] at hq; cases hq
   ·simp only [AV.bE3,List.all_eq_true] at hbc
    simp only [AV.jF,AV.nW,List.mem_flatMap] at hq
    obtain ⟨c,hc,hq⟩:=hq
    have:=hbc c hc
    cases c <;> simp only [AV.mA,List.mem_singleton,reduceCtorEq,decide_eq_true_eq] at hq this
    ·cases hq
    ·subst hq
     simp only [aD,aS] at this ⊢
     omega
  all_goals
   simp only [AV.bE3,Bool.or_false,Bool.and_eq_true,List.isEmpty_iff] at hbc
   rw [hbc.1] at hq
   cases hq
 ·cases hq
theorem cC1 (hm:Mem e [] S β fr (bQ e a) w) (hN:a.tmps.size=N) (hNr:N≤aS) {ts:List Nat} (ho:yM N fr ts=true) {vout:List AV} (hv:aJ4 fr aD vout) {u:Value}
  (hu:u=(if h:(ts.map fun t=>a.tmps.getD t undef).length=1 then (ts.map fun t=>a.tmps.getD t undef)[0] else .tuple (ts.map fun t=>a.tmps.getD t undef).toArray)) :
  ∃ S' β',Mem e [] S' β' ((aS,zZ fr ts) :: jG aD vout) (fun x=>if x=aS then some u else e.vp x) w:=by
 have hvals:∀ t,t < N→bQ e a t=some (a.tmps.getD t undef):=by
  intro t ht
  have:=lL (e:=e) (a:=a) (s:=t) (by rw [hN]; exact ht)
  simpa [Act.eval] using this
 -- the parts of the result that own,and where they come from
 have hfb:∀ x,x≠aS→aX ((aS,zZ fr ts) :: jG aD vout) x=if aD≤x∧x < aD+vout.length then vout.getD (x - aD) .junk else .junk:=fun x h=>by
  rw [bL _ _ (Ne.symm h),mM]
 have hbx:∀ x,aD≤x→x < aD+vout.length→aX fr x=vout.getD (x - aD) .junk∧(vout.getD (x - aD) .junk).gZ=true:=by
  intro x h1 h2
  have hg:vout[x - aD]? = some (vout.getD (x - aD) .junk):=by
   rw [List.getD_eq_getElem?_getD,List.getElem?_eq_getElem (by omega)]
   rfl
  have:=aY9 hv _ _ hg
  rwa [show aD+(x - aD)=x by omega] at this
 -- every owner of the new frame is an owner of the old one
 have hsrc:∀ x i,(aX ((aS,zZ fr ts) :: jG aD vout) x).aR i=true→∃ y k,(aX fr y).aR k=true∧resβ β ts (x,i)=β (y,k)∧((x≠aS∧y=x∧k=i∧aD≤x)∨(x=aS∧y < N∧((∃ t,ts=[t]∧y=t∧k=i)∨((∀ t,ts≠[t])∧∃ j,i=j+1∧ts[j]? = some y∧k=0)))):=by
  intro x i h
  by_cases hx:x=aS
  ·subst hx
   rw [aV] at h
   match ts,ho,h with
   | [t],ho,h =>
    simp only [zZ] at h
    simp only [yM,Bool.and_eq_true,decide_eq_true_eq] at ho
    exact ⟨t,i,h,resβ_one,.inr ⟨rfl,ho.1,.inl ⟨t,rfl,rfl,rfl⟩⟩⟩
   | [],ho,h=>cases i <;> simp [zZ,AV.aR,AV.bV] at h
   | t1 :: t2 :: r,ho,h =>
    simp only [zZ] at h
    cases i with
    | zero=>simp [AV.aR,AV.bV] at h
    | succ j =>
     simp only [AV.aR,List.getElem?_map] at h
     cases hj:(t1 :: t2 :: r)[j]? with
     | none=>simp [hj] at h
     | some t =>
      simp only [hj,Option.map_some,Option.getD_some] at h
      simp only [yM,Bool.and_eq_true,List.all_eq_true,decide_eq_true_eq] at ho
      obtain ⟨⟨⟨h1,h2⟩,_⟩,_⟩:=ho.1 t (List.mem_of_getElem? hj)
      refine ⟨t,0,?_,?_,.inr ⟨rfl,h1,.inr ⟨fun t'=>by simp,j,rfl,hj,rfl⟩⟩⟩
      ·exact cP5 h2 h
      ·exact resβ_many hj
  ·rw [hfb x hx] at h
   split at h
   case isFalse=>cases i <;> simp [AV.aR,AV.bV] at h
   rename_i hc
   refine ⟨x,i,?_,resβ_ne hx,.inl ⟨hx,rfl,rfl,hc.1⟩⟩
   rw [(hbx x hc.1 hc.2).1]
   exact h
 refine ⟨S,resβ β ts,fun x=>?_,fun x l av h=>?_,fun x i y j b hx hy hxb hyb=>?_,fun x i b hx hxb=>?_,hm.stb,hm.s0,hm.old,hm.os,hm.tape,hm.output,hm.size⟩
 ·by_cases hx:x=aS
  ·subst hx
   rw [aV]
   refine ⟨u,?_,fun u' h=>by simpa using h.symm⟩
   match ts,ho,hu with
   | [t],ho,hu =>
    simp only [yM,Bool.and_eq_true,decide_eq_true_eq] at ho
    obtain ⟨u0,hr,hu0⟩:=hm.rel t
    have huu:u=u0:=by
     rw [hu]
     exact hu0 _ (by simpa using hvals t ho.1)
    subst huu
    have hcl:(aX fr t).paths=[]:=by
     have:=ho.2
     simp only [AV.closed,Bool.and_eq_true,List.isEmpty_iff] at this
     exact this.1
    exact hr.rename (fun j=>resβ_one) (fun q hq=>by rw [hcl] at hq; cases hq)
   | [],ho,hu =>
    refine ⟨[],?_,rfl,trivial⟩
    rw [hu]
    rfl
   | t1 :: t2 :: r,ho,hu =>
    refine ⟨(t1 :: t2 :: r).map fun t=>a.tmps.getD t undef,?_,?_,?_⟩
    ·rw [hu,dif_neg (by simp)]
    ·simp only [yM,Bool.and_eq_true,List.all_eq_true,decide_eq_true_eq] at ho
     rw [List.all_map,List.all_eq_true]
     exact fun t ht=>(ho.1 t ht).2
    ·refine bI.dJ (by simp) fun j p c hp hc=>?_
     simp only [List.getElem?_map,Option.map_eq_some_iff] at hp hc
     obtain ⟨t,ht,rfl⟩:=hp
     obtain ⟨t',ht',rfl⟩:=hc
     rw [ht] at ht'
     cases ht'
     simp only [yM,Bool.and_eq_true,List.all_eq_true,decide_eq_true_eq] at ho
     obtain ⟨⟨⟨h1,h2⟩,h3⟩,h4⟩:=ho.1 t (List.mem_of_getElem? ht)
     obtain ⟨u0,hr,hu0⟩:=hm.rel t
     have:=hu0 _ (hvals t h1)
     rw [this]
     have hcl:(aX fr t).paths=[]:=by
      simp only [AV.closed,Bool.and_eq_true,List.isEmpty_iff] at h3
      exact h3.1
     refine ((dD h2).1 hr).rename ?_ (.inl h4) fun q hq=>?_
     ·rw [Nat.zero_add]
      exact resβ_many ht
     ·have:q∈(aX fr t).paths:=bY0 h2 (AV.tK _ q hq)
      rw [hcl] at this
      cases this
  ·rw [hfb x hx]
   split
   ·rename_i hc
    obtain ⟨u0,hr,hu0⟩:=hm.rel x
    obtain ⟨hb1,hb2⟩:=hbx x hc.1 hc.2
    rw [hb1] at hr
    refine ⟨u0,hr.turn (fun _ _ _=>rfl) (fun _ h=>h) (fun _ _=>rfl) (fun j=>resβ_ne hx) (fun _ _ _ _=>rfl) (fun q hq=>resβ_ne (bO9 hb2 q hq)),fun u' h=>hu0 u' ?_⟩
    ·have:a.tmps[x]? = none:=Array.getElem?_eq_none (by
      have q1:N≤999999:=hNr
      have q2:1000000≤x:=hc.1
      omega)
     simp only [bQ,this]
     rw [if_pos (show 1000000≤x from hc.1)]; exact h
   ·refine ⟨(e.vp x).getD undef,trivial,fun u' h=>?_⟩
    simp [h]
 ·by_cases hx:x=aS
  ·subst hx
   rw [aV] at h
   match ts,ho,h with
   | [t],ho,h =>
    simp only [yM,Bool.and_eq_true,AV.closed] at ho
    simp only [zZ] at h
    rw [h] at ho
    have:=ho.2.2
    cases this
   | [],ho,h=>cases h
   | t1 :: t2 :: r,ho,h=>cases h
  ·rw [hfb x hx] at h
   split at h
   case isFalse=>cases h
   rename_i hc
   have:=aW0 (hbx x hc.1 hc.2).2
   rw [h] at this
   cases this
 ·obtain ⟨y1,k1,h1,h2,h3⟩:=hsrc x i hx
  obtain ⟨y2,k2,h4,h5,h6⟩:=hsrc y j hy
  rw [h2] at hxb
  rw [h5] at hyb
  obtain ⟨h7,h8⟩:=hm.dis y1 k1 y2 k2 b h1 h4 hxb hyb
  subst h7
  subst h8
  rcases h3 with ⟨g1,g2,g3,g4⟩ | ⟨g1,g2,g3⟩ <;> rcases h6 with ⟨f1,f2,f3,f4⟩ | ⟨f1,f2,f3⟩
  ·exact ⟨g2.symm.trans f2,g3.symm.trans f3⟩
  ·subst g2
   have q1:N≤999999:=hNr
   have q2:1000000≤y1:=g4
   omega
  ·subst f2
   have q1:N≤999999:=hNr
   have q2:1000000≤y1:=f4
   omega
  ·refine ⟨g1.trans f1.symm,?_⟩
   rcases g3 with ⟨t,g3,g4,g5⟩ | ⟨gn,j1,g4,g5,g6⟩ <;> rcases f3 with ⟨t',f3,f4,f5⟩ | ⟨fn,j2,f4,f5,f6⟩
   ·exact g5.symm.trans f5
   ·exact absurd g3 (fn t)
   ·exact absurd f3 (gn t')
   ·have hnd:ts.Nodup:=by
     match ts,ho,gn with
     | [t],_,gn=>exact absurd rfl (gn t)
     | [],_,_=>exact List.nodup_nil
     | t1 :: t2 :: r,ho,_ =>
      simp only [yM,Bool.and_eq_true] at ho
      exact aP9 ho.2
    obtain ⟨p1,q1⟩:=List.getElem?_eq_some_iff.1 g5
    obtain ⟨p2,q2⟩:=List.getElem?_eq_some_iff.1 f5
    have:j1=j2:=(List.getElem_inj (h₀:=p1) (h₁:=p2) hnd).1 (by rw [q1,q2])
    omega
 ·obtain ⟨y1,k1,h1,h2,_⟩:=hsrc x i hx
  rw [h2] at hxb
  exact hm.fre y1 k1 b h1 hxb
def aC9 (P:Program) (fn:Func) (e:Env) (res:AV) (vout:List AV):Exit→Act→World→Prop
 | .ret,a,w | .normal,a,w=>a.defers=e.dfs∧∃ v,(results fn a.tmps).run P w=.ok v w∧∃ u S' β',Ending.returned v=.returned u∧Mem e [] S' β' ((aS,res) :: jG aD vout) (fun x=>if x=aS then some u else e.vp x) w
 | _,_,_=>False
theorem aC9.body {fn:Func} {e:Env} {res:AV} {vout:List AV} (h0:e.dfs=[]):∀ ex a w,aC9 P fn e res vout ex a w→bodyPost P fn (fun e' w'=>∃ u S' β',e'=.returned u∧Mem e [] S' β' ((aS,res) :: jG aD vout) (fun x=>if x=aS then some u else e.vp x) w') ex a w
 | .ret,_,_,h | .normal,_,_,h=>⟨h.1.trans h0,h.2⟩
 | .panic _,_,_,h=>h.elim
 | .exit _,_,_,h=>h.elim
 | .goto _,_,_,h=>h.elim
 | .outgrown,_,_,h=>h.elim
theorem bT1 {fn:Func} {ts:List Nat} (h:tmpsOf fn.results.toList=some ts) (tmps:Array Value) :
  (results fn tmps).run P w=.ok (if h:(ts.map fun t=>tmps.getD t undef).length=1 then (ts.map fun t=>tmps.getD t undef)[0] else .tuple (ts.map fun t=>tmps.getD t undef).toArray) w:=by
 have key:∀ (l:List ResultVar) (ts:List Nat),tmpsOf l=some ts→(l.mapM (m:=Sem) fun
   | .tmp t=>pure (tmps.getD t undef)
   | .cell a t=>do loadVar t (← asAddr (tmps.getD a undef))).run P w=.ok (ts.map fun t=>tmps.getD t undef) w:=by
  intro l
  induction l with
  | nil=>intro ts h; simp only [tmpsOf,Option.some.injEq] at h; subst h; rfl
  | cons r l ih =>
   intro ts h
   cases r with
   | cell a t=>simp [tmpsOf] at h
   | tmp t =>
    simp only [tmpsOf,Option.map_eq_some_iff] at h
    obtain ⟨ts',h1,rfl⟩:=h
    simp only [List.mapM_cons,Sem.run_bind,Sem.run_pure,Result.andThen_ok,ih ts' h1,List.map_cons]
 have hk:=key fn.results.toList ts h
 have e:fn.results=fn.results.toList.toArray:=(Array.toArray_toList).symm
 unfold results
 rw [Sem.run_bind,e,List.mapM_toArray,Sem.run_map]
 exact congrArg (fun r:Result (List Value)=>(r.andThen fun a w'=>Result.ok a.toArray w').andThen fun a w'=>Sem.run P (pure (if h:a.size=1 then a[0] else Value.tuple a)) w') hk
theorem cM1 {fn:Func} (ts:List Nat) (hts:tmpsOf fn.results.toList=some ts) (cs:List Co) {fr fr':Fr} (h:mV cs fr=some fr') (hNr:decide (N≤aS)=true) (ho:yM N fr' ts=true) {res:AV} (hres:zZ fr' ts=res) {vout:List AV} (hv:aJ4 fr' aD vout) :
  ∀ a w,iL e [] N fr a w→aC9 P fn e res vout .ret a w:=by
 intro a w hm
 obtain ⟨h1,h2,S,β,hm'⟩:=hm.co h
 obtain ⟨S',β',hm2⟩:=cC1 hm' h2 (of_decide_eq_true hNr) ho hv rfl
 rw [hres] at hm2
 exact ⟨h1,_,bT1 hts a.tmps,_,S',β',rfl,hm2⟩
theorem aZ4 {fn:Func} (hN:fn.ntmps=N) {args vin:List AV} (hlen':args.length≤N) (hNr':N≤999999) {us:List Value} (hus:us.length=args.length)
  (hm:Mem ⟨w,eD (bO args vin) β,S,bT β vin.length,[]⟩ [] S β (bO args vin) (fun x=>(us[x]?).or (bT β vin.length x)) w) :
  iL ⟨w,eD (bO args vin) β,S,bT β vin.length,[]⟩ [] N (bO args vin) { tmps:=us.toArray++Array.replicate (fn.ntmps - us.toArray.size) undef,defers:=[] } w:=by
 refine ⟨rfl,by simp; omega,S,β,?_⟩
 have hsz:(us.toArray++Array.replicate (fn.ntmps - us.toArray.size) undef).size=N:=by simp; omega
 refine ⟨fun x=>?_,hm.gok,hm.dis,hm.fre,hm.stb,hm.s0,hm.old,hm.os,hm.tape,hm.output,hm.size⟩
 obtain ⟨u,hr,hu⟩:=hm.rel x
 by_cases hx:x < args.length
 ·refine ⟨u,hr,fun u' h=>hu u' ?_⟩
  have h1:us[x]? = some us[x]:=List.getElem?_eq_getElem (by omega)
  simp only [bQ] at h
  rw [Array.getElem?_append_left (by simpa using (by omega:x < us.length))] at h
  simp only [List.getElem?_toArray,h1] at h
  rw [h1]
  simpa using h
 ·by_cases hx2:x < N
  ·-- a slot that holds nothing yet
   have hfr:aX (bO args vin) x=.junk:=fQ (by omega) (by simp only [aD]; omega)
   rw [hfr]
   refine ⟨undef,trivial,fun u' h=>?_⟩
   simp only [bQ] at h
   rw [Array.getElem?_append_right (by simpa using (by omega:us.length≤x))] at h
   rw [Array.getElem?_replicate] at h
   split at h
   ·rename_i h'
    split at h' <;> simp_all
   ·rename_i h'
    rw [if_pos (by simp; omega)] at h'
    cases h'
  ·refine ⟨u,hr,fun u' h=>hu u' ?_⟩
   simp only [bQ] at h
   have hnone:(us.toArray++Array.replicate (fn.ntmps - us.toArray.size) undef)[x]? = none:=Array.getElem?_eq_none (by rw [hsz]; omega)
   rw [hnone] at h
   have h1:us[x]? = none:=List.getElem?_eq_none (by omega)
   rw [h1]
   simp only at h
   by_cases hxv:1000000≤x
   ·rw [if_pos hxv] at h
    simpa using h
   ·rw [if_neg hxv] at h
    cases h
theorem aG.intro {k : Nat} {fn : Func} {c : Code} (hf : P.funcs[k]? = some fn) (hb : fn.body = some c) (hname : (fn.name == "runtime.NumGoroutine") = false) (hN : fn.ntmps = N) {args : List AV} (hlen : decide (args.length ≤ N) = true) (hNr : decide (N ≤ aS) = true) {vin vout : List AV} {res : AV}
  (hT:∀ e:Env,T P e N c (bO args vin) (aC9 P fn e res vout)):aG P k args vin res vout :=
 ⟨⟨fn,hf,by simp [hb],hname⟩,fun w S β us hus hm=>calls_of_wp hf hb (Code.wp_mono (aC9.body rfl) (hT ⟨w,eD (bO args vin) β,S,bT β vin.length,[]⟩ _ w (aZ4 hN (of_decide_eq_true hlen) (of_decide_eq_true hNr) hus hm)))⟩
end
end Go.Vm
namespace Go.Vm
def cI (k:IntKind) (x:Int):List Dat:=[.v (.int k x)]
def cB (x:Bool):List Dat:=[.v (.bool x)]
def cS (x:List UInt8):List Dat:=[.str x]
abbrev aI (k:IntKind) (x:Int):AV:=.d (.v (.int k x))
abbrev aB (x:Bool):AV:=.d (.v (.bool x))
def chk {α:Type} (p:Prop) [Decidable p] (k:Option α):Option α:=if p then k else none
theorem aL {α:Type} {p:Prop} [Decidable p] {k:Option α} {r:α} (h:chk p k=some r):p∧k=some r:=by
 unfold chk at h
 split at h
 ·exact ⟨by assumption,h⟩
 ·cases h
theorem cR7 {α:Type} {b:Bool} {x y:Option α} {r:α} (hb:b=true) (h:(bif b then x else y)=some r):x=some r:=by
 subst hb; exact h
theorem cR8 {α:Type} {b:Bool} {x y:Option α} {r:α} (hb:b=false) (h:(bif b then x else y)=some r):y=some r:=by
 subst hb; exact h
def call {α γ:Type} (m:Option α) (k:α→Option γ):Option γ:=match m with
 | some x=>k x
 | none=>none
theorem aH {α γ:Type} {m:Option α} {k:α→Option γ} {r:γ} (h:call m k=some r):∃ x,m=some x∧k x=some r:=by
 unfold call at h
 split at h
 ·exact ⟨_,rfl,h⟩
 ·cases h
def cL {α:Type} (sz:Nat) (enc:α→List Dat) (x:List α):List Dat:=[.sl sz (x.map enc)]
def dE {α γ:Type} (x:α) (k:α→Option γ):Option γ:=k x
theorem aW {α γ:Type} {x:α} {k:α→Option γ} {r:γ} (h:dE x k=some r):∃ y,x=y∧k y=some r:=⟨x,rfl,h⟩
inductive Out (σ ε:Type) where
 | go (s:σ)
 | esc (e:ε)
def dO {σ ε γ:Type} (m:Option (Out σ ε)) (kr:ε→Option γ) (k:σ→Option γ):Option γ:=match m with
 | some (.go s)=>k s
 | some (.esc e)=>kr e
 | none=>none
theorem bP1 {σ ε γ:Type} {m:Option (Out σ ε)} {kr:ε→Option γ} {k:σ→Option γ} {r:γ} (h:dO m kr k=some r):∃ o,m=some o∧dO (some o) kr k=some r:=by
 cases m with
 | none=>cases h
 | some o=>exact ⟨o,rfl,h⟩
theorem bE {σ ε γ:Type} {x:ε} {kr:ε→Option γ} {k:σ→Option γ} {r:γ} (h:dO (some (.esc x)) kr k=some r):kr x=some r:=h
theorem eG {α:Type} {b:Bool} {m:Option α} {d y:α} (hb:b=true) (h:(bif b then m else some d)=some y):m=some y:=by
 subst hb; exact h
theorem vP {α:Type} {p:Prop} {x y z:α} (h:p∧x=y) (h2:y=z):p∧x=z:=⟨h.1,h.2.trans h2⟩
theorem cO {α:Type} {xs:List α} (enc:α→List Dat):True∧AV.d (.v (.int .i64 ((xs.map enc).length:Int)))=AV.d (.v (.int .i64 (xs.length:Int))):=⟨trivial,by simp⟩
theorem bX {α:Type} {xs:List α} {i:Int} {d:α} (enc:α→List Dat) (h:0≤i∧i < xs.length):0≤i∧(xs.map enc)[i.toNat]? = some (enc (xs.getD i.toNat d)):=by
 refine ⟨h.1,?_⟩
 have:i.toNat < xs.length:=by omega
 simp [List.getD_eq_getElem?_getD,List.getElem?_eq_getElem this]
theorem dQ {α:Type} {xs:List α} {i:Int} (enc:α→List Dat) (h:0≤i∧i < xs.length):0≤i∧i < (xs.map enc).length:=by
 simpa using h
theorem oU {α:Type} {xs:List α} {i:Nat} {x:α} {e:List Dat} (enc:α→List Dat) (h:e=enc x):(xs.map enc).set i e=(xs.set i x).map enc:=by
 rw [h,List.map_set]
theorem gB {α:Type} {xs ys:List α} (enc:α→List Dat) {n:Nat} (h:xs.length+ys.length≤n):(xs.map enc).length+(ys.map enc).length≤n∧xs.map enc++ys.map enc=(xs++ys).map enc:=by
 simpa using h
theorem cA3 {α:Type} {xs:List α} (enc:α→List Dat) {n:Int} (h:0≤n∧n≤(xs.length:Int)):(0≤n∧n≤((xs.map enc).length:Int))∧(xs.map enc).take n.toNat=(xs.take n.toNat).map enc:=⟨by simpa using h,by simp [List.map_take]⟩
theorem zO {α:Type} {n:Nat} {x:α} {e:List Dat} (enc:α→List Dat) (he:e=enc x):List.replicate n e=(List.replicate n x).map enc:=by
 subst he; simp
theorem bF7 {α:Type} (enc:α→List Dat) (sz:Nat) (hsz:∀ a,(enc a).length=sz):∀ (i:Nat) (xs:List α),((xs.map enc).flatten).drop (i * sz)=((xs.drop i).map enc).flatten
 | 0,xs=>by simp
 | i+1,[]=>by simp
 | i+1,x :: xs=>by
  rw [List.map_cons,List.flatten_cons,List.drop_succ_cons,Nat.succ_mul,Nat.add_comm,← List.drop_drop,← hsz x,List.drop_left,hsz x]
  exact bF7 enc sz hsz i xs
theorem bE5 {α:Type} (enc:α→List Dat) (sz:Nat) (hsz:∀ a,(enc a).length=sz):∀ (i:Nat) (xs:List α),((xs.map enc).flatten).take (i * sz)=((xs.take i).map enc).flatten
 | 0,xs=>by simp
 | i+1,[]=>by simp
 | i+1,x :: xs=>by
  rw [List.map_cons,List.flatten_cons,List.take_succ_cons,List.map_cons,List.flatten_cons,Nat.succ_mul,Nat.add_comm,← hsz x,List.take_length_add_append,hsz x,bE5 enc sz hsz i xs]
theorem bF2 {α:Type} {xs:List α} (enc:α→List Dat) (sz:Nat) (hsz:∀ a,(enc a).length=sz) {l r:Int} {n:Nat} (h:(0≤l∧l≤r∧r≤((n:Nat):Int))∧xs.length=n) :
  (0≤l∧l≤r∧r≤((n:Nat):Int))∧((((xs.map enc).flatten).drop (l.toNat * sz)).take ((r.toNat - l.toNat) * sz)=(((xs.drop l.toNat).take (r.toNat - l.toNat)).map enc).flatten∧(((xs.drop l.toNat).take (r.toNat - l.toNat)).map enc).length=r.toNat - l.toNat∧∀ e∈((xs.drop l.toNat).take (r.toNat - l.toNat)).map enc,e.length=sz):=by
 refine ⟨h.1,?_,?_,?_⟩
 ·rw [bF7 enc sz hsz,bE5 enc sz hsz]
 ·rw [List.length_map,List.length_take,List.length_drop]
  omega
 ·intro e he
  obtain ⟨x,_,rfl⟩:=List.mem_map.1 he
  exact hsz x
section
variable {P:Program} {e:Env} {N:Nat} {fr:Fr} {Q:Exit→Act→World→Prop}
theorem oK {id:Nat} {a:Act} {w:World} (h:Q .normal a w):Exit.inBlock id Q (.exit id) a w:=by
 simp [Exit.inBlock,h]
theorem oH {id id':Nat} {a:Act} {w:World} (hne:(id' == id)=false) (h:Q (.exit id') a w):Exit.inBlock id Q (.exit id') a w:=by
 have:id'≠id:=by simpa using hne
 simp [Exit.inBlock,this,h]
theorem bK7 {ι:Type} (I:ι→Fr) (R:Nat→ι→Prop) {body:Code} (h0:∀ i,¬ R 0 i) (round:∀ n i,R (n+1) i→T P e N body (I i) (Exit.then (fun a w=>∃ j,R n j∧iL e [] N (I j) a w) Q)) (n:Nat) (i:ι) (h:R n i):T P e N (.loop body) (I i) Q:=by
 refine cX2 (ι:=Nat×ι) (fun p=>I p.2) (fun p=>R p.1 p.2) (fun p=>p.1) (fun p hp=>?_) (n,i) h
 obtain ⟨m,j⟩:=p
 cases m with
 | zero=>exact absurd hp (h0 j)
 | succ m =>
  intro a w hm
  refine wp_mono (round m j hp a w hm) fun ex a' w' hq=>?_
  cases ex with
  | normal =>
   obtain ⟨j',hj,hm'⟩:=hq
   exact ⟨(m,j'),hj,Nat.lt_succ_self m,hm'⟩
  | exit id=>exact hq
  | goto l=>exact hq
  | ret=>exact hq
  | panic ch=>exact hq
  | outgrown=>exact hq
theorem oJ {id:Nat} {a:Act} {w:World} (h:Q .normal a w):Exit.inBlock id Q .normal a w:=h
theorem qL {id:Nat} {a:Act} {w:World} (h:Q .ret a w):Exit.inBlock id Q .ret a w:=h
theorem vN {K:Act→World→Prop} {a:Act} {w:World} (h:K a w):Exit.then K Q .normal a w:=h
theorem wC {K:Act→World→Prop} {a:Act} {w:World} (h:Q .ret a w):Exit.then K Q .ret a w:=h
theorem vQ {K:Act→World→Prop} {id:Nat} {a:Act} {w:World} (h:Q (.exit id) a w):Exit.then K Q (.exit id) a w:=h
theorem cL1 {σ ρ:Type} {m:Option σ} {k:σ→Option ρ} {r:ρ} (h:call m k=some r) (I:σ→Fr) {x:Code} (hx:∀ s,m=some s→T P e N x fr (Exit.then (fun a w=>iL e [] N (I s) a w) Q)) (hz:∀ s,k s=some r→∀ a w,iL e [] N (I s) a w→Q .normal a w):T P e N x fr Q:=by
 obtain ⟨s,hm,hk⟩:=aH h
 intro a w hw
 refine wp_mono (hx s hm a w hw) fun ex a' w' hq=>?_
 cases ex with
 | normal=>exact hz s hk a' w' hq
 | exit id=>exact hq
 | goto l=>exact hq
 | ret=>exact hq
 | panic ch=>exact hq
 | outgrown=>exact hq
theorem cT1 {σ ρ:Type} {m:Option σ} {k:σ→Option ρ} {r:ρ} (h:call m k=some r) (I:σ→Fr) {x z:Code} (hx:∀ s,m=some s→T P e N x fr (Exit.then (fun a w=>iL e [] N (I s) a w) Q)) (hz:∀ s,k s=some r→T P e N z (I s) Q):T P e N (.seq x z) fr Q:=by
 obtain ⟨s,hm,hk⟩:=aH h
 exact dB2 (I s) (hx s hm) (hz s hk)
theorem bP2 {σ ε ρ:Type} {m:Option (Out σ ε)} {kr:ε→Option ρ} {k:σ→Option ρ} {r:ρ} (h:dO m kr k=some r) (I:σ→Fr) {x:Code} (hx:∀ o,m=some o→dO (some o) kr k=some r→T P e N x fr (Exit.then (fun a w=>∃ s,o=.go s∧iL e [] N (I s) a w) Q)) (hz:∀ s,k s=some r→∀ a w,iL e [] N (I s) a w→Q .normal a w):T P e N x fr Q:=by
 obtain ⟨o,hm,hk⟩:=bP1 h
 intro a w hw
 refine wp_mono (hx o hm hk a w hw) fun ex a' w' hq=>?_
 cases ex with
 | normal =>
  obtain ⟨s,rfl,hq⟩:=hq
  exact hz s hk a' w' hq
 | exit id=>exact hq
 | goto l=>exact hq
 | ret=>exact hq
 | panic ch=>exact hq
 | outgrown=>exact hq
theorem cV4 {σ ε ρ:Type} {m:Option (Out σ ε)} {kr:ε→Option ρ} {k:σ→Option ρ} {r:ρ} (h:dO m kr k=some r) (I:σ→Fr) {x z:Code} (hx:∀ o,m=some o→dO (some o) kr k=some r→T P e N x fr (Exit.then (fun a w=>∃ s,o=.go s∧iL e [] N (I s) a w) Q)) (hz:∀ s,k s=some r→T P e N z (I s) Q):T P e N (.seq x z) fr Q:=by
 obtain ⟨o,hm,hk⟩:=bP1 h
 refine fun a w hw=>wp_seq (wp_mono (hx o hm hk a w hw) fun ex a' w' hq=>?_)
 cases ex with
 | normal =>
  obtain ⟨s,rfl,hq⟩:=hq
  exact hz s hk a' w' hq
 | exit id=>exact hq
 | goto l=>exact hq
 | ret=>exact hq
 | panic ch=>exact hq
 | outgrown=>exact hq
end
end Go.Vm
namespace Go.Vm
theorem rV {α:Type} {xs:List α} {i:Int} {d:α} {enc enc':α→List Dat} (he:∀ x,enc x=enc' x) (h:0≤i∧i < xs.length):0≤i∧(xs.map enc)[i.toNat]? = some (enc' (xs.getD i.toNat d)):=by
 rw [← he]
 exact bX enc h
theorem cV6 {α:Type} {enc enc':α→List Dat} (he:∀ x,enc x=enc' x) (x:α) {rs:List (List Dat)} {r:List α} (hr:rs=r.map enc):enc' x :: rs=(x :: r).map enc:=by
 rw [hr,List.map_cons,he]
end Go.Vm
namespace Go.Vm
def opP (P:Program) (N:Nat) (t:Nat) (fr:Fr) (o:Oper):Option Fr :=
 match o.op with
 | .assign (.tmp s)=>aG4 N true t s fr
 | .move (.tmp s)=>aG4 N false t s fr
 | .assign (.const (.slice none 0 0))=>bI2 P false t o.type fr
 | _=>none
def aI3 (P:Program) (N:Nat) (ops:Array Oper) (i:Nat) (h:Hint) (G:dW) (fr:Fr):Option (dW×Fr×Prop) :=
 match ops[i]? with
 | none=>none
 | some o=>if aU6 N G o.dst then
  match chainOf ops G o,o.dst with
  | some [],some t=>match opP P N t fr o with
   | some fr'=>some (G,fr',True)
   | none=>match bU2 P N G [] h fr o with
    | some r=>if (rwA h r).1.plain then some (aA3 G t [] (rwA h r).1,gM t (rwA h r).1 fr,(rwA h r).2) else none
    | none=>none
  | some (q :: g),some t=>match bU2 P N G (q :: g) h fr o with
   | some r=>if (rwA h r).1.plain then some (aA3 G t (q :: g) (rwA h r).1,gM t (.gd (q :: g) (rwA h r).1) fr,dN G (q :: g)=true→(rwA h r).2) else none
   | none=>none
  | _,_=>none
 else none
def cK5 (P:Program) (N:Nat) (ops:Array Oper) (hs:List (Nat×Hint)):List Nat→Array Bool→dW→Fr→Option (Fr×List Prop)
 | [],listed,_,fr=>if (Region.ready .any ops listed).isEmpty then some (fr,[]) else none
 | i :: r,listed,G,fr=>if Region.free .any ops listed i && (Region.ready .any ops listed).contains i then
   match aI3 P N ops i (rD hs i) G fr with
   | some (G1,fr1,obl)=>match cK5 P N ops hs r (listed.setIfInBounds i true) G1 fr1 with
    | some (f,l)=>some (f,obl :: l)
    | none=>none
   | none=>none
  else none
def cZ4 (P:Program) (N:Nat) (ops:Array Oper) (hs:List (Nat×Hint)) (keep:List Nat) (cs:List Co) (fr:Fr):Option (Fr×List Prop) :=
 if Region.noSelect ops then
 match cK5 P N ops hs (List.range ops.size) (Array.replicate ops.size false) [] fr with
 | some (f,l)=>match kL (.keep keep) f with
  | some f'=>match mV cs f' with
   | some f''=>some (f'',l)
   | none=>none
  | none=>none
 | none=>none
 else none
section
variable {P:Program} {e:Env} {G:dW} {S:Nat→Prop} {β:Path→Value} {fr:Fr} {w:World} {a:Act} {N:Nat}
theorem cY0 (hN:a.tmps.size=N) (hm:Mem e G S β fr (bQ e a) w) {t:Nat} (ht:t < a.tmps.size) {o:Oper} {fr':Fr} (h:opP P N t fr o=some fr') :
  ∃ u,(execOp a.eval o).run P w=.ok (.value u) w∧After e G fr' a t u w:=by
 obtain ⟨dst,op,type,pos,after,guard⟩:=o
 unfold opP at h
 simp only at h
 split at h
 ·exact ⟨_,rfl,zQ hN hm ht h⟩
 ·exact ⟨_,rfl,zQ hN hm ht h⟩
 ·exact ⟨_,rfl,bG6 hm ht h⟩
 ·cases h
theorem aM7 {ops:Array Oper} {i:Nat} {h:Hint} {G':dW} {fr':Fr} {obl:Prop} (hs:aI3 P N ops i h G fr=some (G',fr',obl)) (ho:obl) (hm:uE e G N fr a w) :
  ∃ o u,ops[i]? = some o∧YieldsIf P ops (fun w'=>w'=w) o u a∧uE e G' N fr' (a.put o.dst u) w:=by
 obtain ⟨hd,hN,hI,S,β,hm⟩:=hm
 unfold aI3 at hs
 split at hs
 ·cases hs
 rename_i o hoi
 split at hs
 case isFalse=>cases hs
 rename_i hfree
 have hdst:∀ t,o.dst=some t→t < N∧jV G t=none:=by
  intro t ht
  simpa [aU6,ht] using hfree
 refine ⟨o,?_⟩
 split at hs
 ·-- no guard
  rename_i t hch ht
  obtain ⟨hw,_⟩:=zL hI hch
  rw [vM] at hw
  obtain ⟨htN,htG⟩:=hdst t ht
  have hts:t < a.tmps.size:=by rw [hN]; exact htN
  split at hs
  ·rename_i fr1 hE
   simp only [Option.some.injEq,Prod.mk.injEq] at hs
   obtain ⟨rfl,rfl,rfl⟩:=hs
   obtain ⟨u,hu,S',β',hm'⟩:=cY0 hN hm hts hE
   refine ⟨u,hoi,.inl ⟨hw,fun w' hw'=>by subst hw'; exact hu⟩,?_⟩
   rw [ht]
   exact ⟨by rw [put_defers]; exact hd,by rw [mE]; exact hN,hI.put hN htN htG u,S',β',hm'⟩
  ·split at hs
   case h_2=>cases hs
   rename_i r hR
   split at hs
   case isFalse=>cases hs
   rename_i hpl
   simp only [Option.some.injEq,Prod.mk.injEq] at hs
   obtain ⟨rfl,rfl,rfl⟩:=hs
   obtain ⟨u,hu,hru⟩:=aU7 (P:=P) hN hI hm vM hR ho
   refine ⟨u,hoi,.inl ⟨hw,fun w' hw'=>by subst hw'; exact hu⟩,?_⟩
   rw [ht]
   refine ⟨by rw [put_defers]; exact hd,by rw [mE]; exact hN,?_,S,β,?_⟩
   ·exact qM (hI.put hN htN htG u) htN htG (by simp) (u:=u) (by rw [pK a t u hts,if_pos rfl]) (fun _=>hru) (fun h=>by rw [vM] at h; cases h)
   ·refine qN (hm.nX t _ u _ (fI a t u hts) (fT a t u hts) (aL6 hpl hru) (zH hpl) (fun l a h=>?_)) htG _ _
    rw [h] at hpl
    cases hpl
 ·-- under a guard
  rename_i q g t hch ht
  obtain ⟨hw,hgs⟩:=zL hI hch
  obtain ⟨htN,htG⟩:=hdst t ht
  have hts:t < a.tmps.size:=by rw [hN]; exact htN
  split at hs
  case h_2=>cases hs
  rename_i r hR
  split at hs
  case isFalse=>cases hs
  rename_i hpl
  simp only [Option.some.injEq,Prod.mk.injEq] at hs
  obtain ⟨rfl,rfl,rfl⟩:=hs
  cases hc:dN G (q :: g) with
  | true =>
   obtain ⟨u,hu,hru⟩:=aU7 (P:=P) hN hI hm hc hR (ho hc)
   refine ⟨u,hoi,.inl ⟨by rw [hw,hc],fun w' hw'=>by subst hw'; exact hu⟩,?_⟩
   rw [ht]
   refine ⟨by rw [put_defers]; exact hd,by rw [mE]; exact hN,?_,S,β,?_⟩
   ·exact qM (hI.put hN htN htG u) htN htG hgs (u:=u) (by rw [pK a t u hts,if_pos rfl]) (fun _=>hru) (fun h=>by rw [hc] at h; cases h)
   ·refine qN (hm.nX t _ u _ (fI a t u hts) (fT a t u hts) (show dV (dN G) S w β t (.gd (q :: g) _) u from ⟨fun _=>nN hpl hru,fun h=>by rw [hc] at h; cases h⟩) ?_ (fun l a h=>?_)) htG _ _
    ·intro j
     cases j <;> simp [AV.aR,AV.bV,fJ hpl]
    ·cases h
     exact ⟨fJ hpl,hgs⟩
  | false =>
   refine ⟨undef,hoi,.inr ⟨by rw [hw,hc],rfl⟩,?_⟩
   rw [ht]
   refine ⟨by rw [put_defers]; exact hd,by rw [mE]; exact hN,?_,S,β,?_⟩
   ·exact qM (S:=S) (w:=w) (β:=β) (hI.put hN htN htG undef) htN htG hgs (u:=undef) (by rw [pK a t undef hts,if_pos rfl]) (fun h=>by rw [hc] at h; cases h) (fun _=>rfl)
   ·refine qN (hm.nX t _ undef _ (fI a t undef hts) (fT a t undef hts) (show dV (dN G) S w β t (.gd (q :: g) _) undef from ⟨fun h=>(by rw [hc] at h; cases h),fun _=>rfl⟩) ?_ (fun l a h=>?_)) htG _ _
    ·intro j
     cases j <;> simp [AV.aR,AV.bV,fJ hpl]
    ·cases h
     exact ⟨fJ hpl,hgs⟩
 ·cases hs
theorem cD1 {ops:Array Oper} {hs:List (Nat×Hint)} (hsel:Region.noSelect ops=true) {Q:Exit→Act→World→Prop} (hQp:∀ c a w,¬ Q (.panic c) a w):∀ (l:List Nat) (listed:Array Bool) (G:dW) (fr fr':Fr) (obs:List Prop) (a:Act),cK5 P N ops hs l listed G fr=some (fr',obs)→xY obs→uE e G N fr a w →
  (∀ G' a',uE e G' N fr' a' w→Q .normal a' w)→wpAnyH P .any ops Q (fun w'=>w'=w) l.length listed a w
 | [],listed,G,fr,fr',obs,a,h,_,hm,hQ=>by
  simp only [cK5] at h
  split at h
  case isFalse=>cases h
  rename_i hr
  simp only [Option.some.injEq,Prod.mk.injEq] at h
  obtain ⟨rfl,_⟩:=h
  exact wpAnyH_done (by simpa using hr) (hQ G a hm) _
 | i :: r,listed,G,fr,fr',obs,a,h,ho,hm,hQ=>by
  simp only [cK5] at h
  split at h
  case isFalse=>cases h
  rename_i hfr
  simp only [Bool.and_eq_true] at hfr
  split at h
  case h_2=>cases h
  rename_i G1 fr1 obl hs1
  split at h
  case h_2=>cases h
  rename_i f l hl
  simp only [Option.some.injEq,Prod.mk.injEq] at h
  obtain ⟨rfl,rfl⟩:=h
  obtain ⟨o,u,ho1,hy,hm'⟩:=aM7 hs1 ho.1 hm
  exact wpAnyH_take ho1 hsel hfr.1 hfr.2 (fun c a w h=>absurd h (hQp c _ w)) hy rfl (cD1 hsel hQp r _ G1 fr1 f l _ hl ho.2 hm' hQ)
theorem Mem.drawn {vals:Nat→Option Value} (hm:Mem e G S β fr vals w) (n:Nat):Mem e G S β fr vals { w with drawn:=n }:=by
 have h:Mem e G S β ((0,aX fr 0) :: fr) vals { w with drawn:=n }:=by
  refine hm.change 0 (aX fr 0) (fG 0) (aV 0 _ fr) (fun y hy=>.inl ⟨bL _ _ (Ne.symm hy),fun _=>rfl⟩) (fun _ _ _=>rfl) (fun _ _=>rfl) (fun _ _ _ h=>h) ?_ (hm.gok 0) ?_ ?_ ?_ (fun _ h=>h) (fun _ h=>.inl h) (fun _ _=>rfl) (fun _ _ _ _ _ _=>rfl) (fun _ _ _=>rfl) (Nat.le_refl _) rfl rfl rfl
  ·obtain ⟨u,hr,hu⟩:=hm.rel 0
   exact ⟨u,dV.turn hr (fun _ _ _=>rfl) (fun _ h=>h) (fun _ _=>rfl) (fun _=>rfl) (fun _ _ _ _=>rfl) (fun _ _=>rfl),hu⟩
  ·intro i j b h1 h2 h3 h4
   exact (hm.dis 0 i 0 j b h1 h2 h3 h4).2
  ·intro i y j b h1 hy h2 h3 h4
   exact hy (hm.dis 0 i y j b h1 h2 h3 h4).1.symm
  ·intro i b h1 h2
   exact hm.fre 0 i b h1 h2
 exact h.congr fun x=>by
  by_cases hx:x=0
  ·subst hx; rw [aV]
  ·rw [bL _ _ (Ne.symm hx)]
theorem cV3 {id:Nat} {ops:Array Oper} {hs:List (Nat×Hint)} {keep:List Nat} {cs:List Co} {fr':Fr} {obs:List Prop} {Q:Exit→Act→World→Prop} (hmx:P.follows .mixedOrders=true) (h:cZ4 P N ops hs keep cs fr=some (fr',obs)) (ho:xY obs) (hm:iL e [] N fr a w)
  (hQ:∀ a' w',iL e [] N fr' a' w'→Q .normal a' w'):(Code.region id ops true).wp P Q a w:=by
 unfold cZ4 at h
 split at h
 case isFalse=>cases h
 rename_i hsel
 split at h
 case h_2=>cases h
 rename_i f l hl
 split at h
 case h_2=>cases h
 rename_i f' hk
 split at h
 case h_2=>cases h
 rename_i f'' hc
 simp only [Option.some.injEq,Prod.mk.injEq] at h
 obtain ⟨rfl,rfl⟩:=h
 refine wp_mono (Q:=fun ex a w=>match ex with | .normal=>Q .normal a w | _=>False) ?_ (fun ex a' w' hq=>by cases ex <;> first | exact hq | exact hq.elim)
 refine wp_region_held hmx (S:=fun w'=>w'={ w with drawn:=w.drawn+1 }) ?_
 obtain ⟨h1,h2,S,β,hm⟩:=hm
 have hrun:=cD1 (e:=e) (w:={ w with drawn:=w.drawn+1 }) hsel (Q:=fun ex a w=>match ex with | .normal=>Q .normal a w | _=>False) (fun _ _ _ h=>h) (List.range ops.size) (Array.replicate ops.size false) [] fr f l a hl ho (vU ⟨h1,h2,S,β,hm.drawn _⟩) (fun G' a' hm'=>by
  obtain ⟨g1,g2,_,S',β',hm'⟩:=hm'
  obtain ⟨S'',β'',hm''⟩:=uF cs _ _ S' β' (aF1 hm' hk) hc
  exact hQ a' _ ⟨g1,g2,S'',β'',hm''⟩)
 simpa using hrun
variable {Q:Exit→Act→World→Prop}
theorem mO {id:Nat} {ops:Array Oper} (hmx:P.follows .mixedOrders=true) (hs:List (Nat×Hint)) (keep:List Nat) (cs:List Co) (fr':Fr) (obs:List (Nat×Prop)) (n:Nat) {k:Code} (h:cZ4 P N ops hs keep cs fr=some (fr',owed obs n)) (ho:aQ9 obs) (hk:T P e N k fr' Q):T P e N (.seq (.region id ops true) k) fr Q :=
 fun _ _ hm=>wp_seq (cV3 hmx h ho.all hm fun a' w' hm'=>hk a' w' hm')
end
end Go.Vm
namespace Go.Vm
section
variable {P:Program} {e:Env} {G:dW} {S:Nat→Prop} {β:Path→Value} {fr:Fr} {vals:Nat→Option Value} {w:World}
theorem vZ {args:List AV} {vin:List AV} {i x:Nat} (v:AV) (h:x≠i):aX (bO (args.set i v) vin) x=aX (bO args vin) x:=by
 simp only [bO,pW,List.length_set]
 split
 ·rename_i hx
  simp only [Nat.sub_zero,List.getD_eq_getElem?_getD]
  rw [List.getElem?_set_ne (Ne.symm h)]
 ·rfl
theorem aH3 {args:List AV} {vin:List AV} {i:Nat} (v:AV) (h:i < args.length):aX (bO (args.set i v) vin) i=v:=by
 rw [bY (by simpa using h),List.getD_eq_getElem?_getD]
 simp [h]
theorem dA2 (hm:Mem e G S β fr vals w) {i:Nat} (h:aX fr i=.d (.v (.slice none 0 0))):∀ u,vals i=some u→u=.slice none 0 0:=by
 obtain ⟨u,hr,hu⟩:=hm.rel i
 intro u' hu'
 rw [hu u' hu']
 rw [h] at hr
 exact hr.1
theorem aG.cE4 {k:Nat} {args args':List AV} {vin vout:List AV} {res:AV} {κ:TypeId} {sz:Nat} (i:Nat) (h:aG P k args vin res vout) (hi:args[i]? = some (.own κ sz [])) (he:args'=args.set i (.d (.v (.slice none 0 0)))) (hv:i < aD) (hp:dS i (bO args' vin)=bO args' vin):aG P k args' vin res vout:=by
 obtain ⟨hc,hk⟩:=h
 subst he
 have hil:i < args.length:=(List.getElem?_eq_some_iff.1 hi).1
 have hargs:aX (bO args vin) i=.own κ sz []:=by
  rw [bY hil,List.getD_eq_getElem?_getD,hi]
  rfl
 refine ⟨hc,fun w S β us hus hm=>?_⟩
 have hf:=aH3 (vin:=vin) (.d (.v (.slice none 0 0))) hil
 obtain ⟨β',hβ,hm2⟩:∃ β':Path→Value,(β'=fun p=>if p.1=i then .slice none 0 0 else β p)∧Mem ⟨w,eD (bO (args.set i (.d (.v (.slice none 0 0)))) vin) β,S,bT β vin.length,[]⟩ [] S β' (gM i (.own κ sz []) (bO (args.set i (.d (.v (.slice none 0 0)))) vin)) (fun x=>(us[x]?).or (bT β vin.length x)) w:=by
  refine ⟨_,rfl,?_⟩
  have h1:=hm.uC i (.own κ sz []) (.slice none 0 0) (fun _=>.slice none 0 0) w (fun x=>(us[x]?).or (bT β vin.length x)) (fun _ _=>rfl) (dA2 hm hf) ((dD rfl).2 ⟨by simp,.inl ⟨rfl,rfl⟩⟩) (fun l a h=>by cases h) (by
   intro i b _ hb
   simp [blk] at hb) (by
   intro i j b _ _ hb
   simp [blk] at hb) (fun b _=>.inl rfl) (Nat.le_refl _) rfl rfl rfl
  exact h1
 have hO:eD (bO args vin) β'=eD (bO (args.set i (.d (.v (.slice none 0 0)))) vin) β:=by
  funext b
  refine propext ⟨fun ⟨x,j,h1,h2⟩=>?_,fun ⟨x,j,h1,h2⟩=>?_⟩
  ·by_cases hx:x=i
   ·subst hx
    rw [hβ] at h2
    simp [blk] at h2
   ·exact ⟨x,j,by rw [vZ _ hx]; exact h1,by rw [hβ] at h2; simpa [hx] using h2⟩
  ·by_cases hx:x=i
   ·subst hx
    rw [hf] at h1
    cases j <;> simp [AV.aR,AV.bV] at h1
   ·exact ⟨x,j,by rw [vZ _ hx] at h1; exact h1,by rw [hβ]; simpa [hx] using h2⟩
 have hL:bT β' vin.length=bT β vin.length:=by
  funext x
  simp only [bT]
  split
  ·rename_i hx
   rw [hβ]
   have:x≠i:=by omega
   simp [this]
  ·rfl
 have hm3:=hm2.congr (fr':=bO args vin) fun x=>by
  by_cases hx:x=i
  ·subst hx; rw [dK,hargs]
  ·rw [gM,bL _ _ (Ne.symm hx),hp,vZ _ hx]
 rw [← hO,← hL] at hm3
 have:=hk w S β' us (by simpa using hus) hm3
 rw [hO,hL] at this
 exact this
end
end Go.Vm
namespace Go.Vm
def wpAnyL (P:Program) (ops:Array Oper) (Q:Exit→Act→World→Prop) (m:Nat):Nat→Array Bool→Act→World→Prop
 | 0,listed,a,w=>Region.ready .any ops listed=[]∧Q .normal a w
 | fuel+1,listed,a,w=>(Region.ready .any ops listed=[]→Q .normal a w) ∧
  ∀ i∈Region.ready .any ops listed,wpOp P ops Q i (fun a' w'=>(i < m→w'=w)∧wpAnyL P ops Q m fuel (listed.setIfInBounds i true) a' w') a w
def waits (ops:Array Oper) (m:Nat):Bool:=(List.range ops.size).all fun j=>decide (j < m) || (match ops[j]? with
 | some o=>(List.range m).all fun i=>o.after.any fun e=>Region.binds .any e && e.on == i
 | none=>true)
section
variable {P:Program} {ops:Array Oper} {Q:Exit→Act→World→Prop} {m:Nat}
theorem aZ6:∀ (fuel:Nat) (listed:Array Bool) (a:Act) (w:World),wpAnyL P ops Q m fuel listed a w→wpAny P .any ops Q fuel listed a w
 | 0,_,_,_,h=>h
 | fuel+1,_,_,_,h=>⟨h.1,fun i hi=>wpOp_mono (fun a' w' h'=>aZ6 fuel _ a' w' h'.2) (h.2 i hi)⟩
theorem aO0 {listed:Array Bool} {i:Nat} (h0:listed.getD i true=false):listed.getD i false≠true:=by
 intro h1
 rcases Nat.lt_or_ge i listed.size with h' | h'
 ·simp [h'] at h0 h1
  rw [h0] at h1
  cases h1
 ·simp [Array.getElem?_eq_none h'] at h1
theorem front {listed:Array Bool} {i j:Nat} (hw:waits ops m=true) (hi:i < m) (hr:i∈Region.ready .any ops listed) (hj:j∈Region.ready .any ops listed):j < m:=by
 rcases Nat.lt_or_ge j m with h | h
 ·exact h
 ·exfalso
  obtain ⟨_,oj,hoj,hall⟩:=mem_ready.1 hj
  have hlt:j < ops.size:=(Array.getElem?_eq_some_iff.1 hoj).1
  have h1:=(List.all_eq_true.1 hw) j (List.mem_range.2 hlt)
  simp only [hoj,Bool.or_eq_true,decide_eq_true_eq] at h1
  have h2:=(List.all_eq_true.1 (h1.resolve_left (by omega))) i (List.mem_range.2 hi)
  rw [← Array.any_toList,List.any_eq_true] at h2
  obtain ⟨e,he,hbe⟩:=h2
  simp only [Bool.and_eq_true,beq_iff_eq] at hbe
  obtain ⟨hb,hon⟩:=hbe
  have he:=Array.mem_toList_iff.1 he
  have:=hall e he hb
  rw [hon] at this
  exact aO0 (mem_ready.1 hr).1 this
theorem dA4 {i:Nat} {oi:Oper} {v:Value} (hi:ops[i]? = some oi) (him:i < m) (hw:waits ops m=true) (hsel:Region.noSelect ops=true) (hQp:∀ c a w,¬ Q (.panic c) a w) (w:World) :
  ∀ (fuel:Nat) (listed:Array Bool) (a:Act),Region.free .any ops listed i=true→i∈Region.ready .any ops listed→YieldsIf P ops (fun w'=>w'=w) oi v a →
   wpAnyL P ops Q m fuel (listed.setIfInBounds i true) (a.put oi.dst v) w→wpAnyL P ops Q m (fuel+1) listed a w:=by
 have main:∀ (fuel:Nat) (listed:Array Bool) (a:Act),(∀ j oj,ops[j]? = some oj→j≠i→listed.getD j true=false→(∀ e∈oj.after,Region.binds .any e=true→e.on≠i)→oi.apart ops oj=true)→i∈Region.ready .any ops listed→YieldsIf P ops (fun w'=>w'=w) oi v a →
   wpAnyL P ops Q m fuel (listed.setIfInBounds i true) (a.put oi.dst v) w→wpAnyL P ops Q m (fuel+1) listed a w:=by
  intro fuel
  induction fuel with
  | zero =>
   intro listed a _ hr hy H
   refine ⟨fun h=>(by rw [h] at hr; cases hr),fun j hj=>?_⟩
   by_cases hji:j=i
   ·subst hji
    exact hy.wpOp hi rfl ⟨fun _=>rfl,H⟩
   ·have:=ready_mono hj hji
    rw [H.1] at this
    cases this
  | succ fuel ih =>
   intro listed a hfree hr hy H
   refine ⟨fun h=>(by rw [h] at hr; cases hr),fun j hj=>?_⟩
   by_cases hji:j=i
   ·subst hji
    exact hy.wpOp hi rfl ⟨fun _=>rfl,H⟩
   ·have hjm:=front hw him hr hj
    obtain ⟨hjun,oj,hoj,hall⟩:=mem_ready.1 hj
    have hnot:∀ e∈oj.after,Region.binds .any e=true→e.on≠i:=fun e he hb heq=>by
     have h1:=hall e he hb
     rw [heq] at h1
     exact aO0 (mem_ready.1 hr).1 h1
    have h2:=wpOp_putIf hoj (hfree j oj hoj hji hjun hnot) (fun cs b=>Region.noSelect_spec hsel i oi cs b hi) (fun cs b=>Region.noSelect_spec hsel j oj cs b hoj) (fun c a w h=>absurd h (hQp c _ w)) hy (H.2 j (ready_mono hj hji))
    refine wpOp_mono (fun a' w' h3=>?_) h2
    obtain ⟨h4,h5,h6⟩:=h3
    have hww:=h5 hjm
    subst hww
    refine ⟨fun _=>rfl,ih (listed.setIfInBounds j true) a' (fun k ok hk hki hun hno=>?_) (ready_mono hr (Ne.symm hji)) h4 ?_⟩
    ·refine hfree k ok hk hki ?_ hno
     by_cases hjk:j=k
     ·subst hjk; exact hjun
     ·rw [getD_set_ne true hjk] at hun; exact hun
    ·rw [Array.setIfInBounds_comm _ _ hji]
     exact h6
 intro fuel listed a hf
 exact main fuel listed a (Region.free_spec hi hf)
end
def cE2 (P:Program) (N:Nat) (ops:Array Oper) (hs:List (Nat×Hint)) (m:Nat):List Nat→Array Bool→dW→Fr→Option (Fr×List Prop)
 | [],listed,_,fr=>if (Region.ready .any ops listed).isEmpty then some (fr,[]) else none
 | i :: r,listed,G,fr=>if i < m then
   if Region.free .any ops listed i && (Region.ready .any ops listed).contains i then
    match aI3 P N ops i (rD hs i) G fr with
    | some (G1,fr1,obl)=>match cE2 P N ops hs m r (listed.setIfInBounds i true) G1 fr1 with
     | some (f,l)=>some (f,obl :: l)
     | none=>none
    | none=>none
   else none
  else if Region.ready .any ops listed == [i] then
   match step1 P N ops i (rD hs i) G fr with
   | some (G1,fr1,obl)=>match cE2 P N ops hs m r (listed.setIfInBounds i true) G1 fr1 with
    | some (f,l)=>some (f,obl :: l)
    | none=>none
   | none=>none
  else none
def cA8 (P:Program) (N:Nat) (ops:Array Oper) (hs:List (Nat×Hint)) (m:Nat) (keep:List Nat) (cs:List Co) (fr:Fr):Option (Fr×List Prop) :=
 if Region.noSelect ops && waits ops m then
 match cE2 P N ops hs m (List.range ops.size) (Array.replicate ops.size false) [] fr with
 | some (f,l)=>match kL (.keep keep) f with
  | some f'=>match mV cs f' with
   | some f''=>some (f'',l)
   | none=>none
  | none=>none
 | none=>none
 else none
section
variable {P:Program} {e:Env} {fr:Fr} {w:World} {a:Act} {N:Nat}
theorem bK5 {ops:Array Oper} {hs:List (Nat×Hint)} {m:Nat} (hsel:Region.noSelect ops=true) (hw:waits ops m=true) {Q:Exit→Act→World→Prop} (hQp:∀ c a w,¬ Q (.panic c) a w):∀ (l:List Nat) (listed:Array Bool) (G:dW) (fr fr':Fr) (obs:List Prop) (a:Act) (w:World),cE2 P N ops hs m l listed G fr=some (fr',obs)→xY obs→uE e G N fr a w →
  (∀ G' a' w',uE e G' N fr' a' w'→Q .normal a' w')→wpAnyL P ops Q m l.length listed a w
 | [],listed,G,fr,fr',obs,a,w,h,_,hm,hQ=>by
  simp only [cE2] at h
  split at h
  case isFalse=>cases h
  rename_i hr
  simp only [Option.some.injEq,Prod.mk.injEq] at h
  obtain ⟨rfl,_⟩:=h
  exact ⟨by simpa using hr,hQ G a w hm⟩
 | i :: r,listed,G,fr,fr',obs,a,w,h,ho,hm,hQ=>by
  simp only [cE2] at h
  split at h
  ·rename_i him
   split at h
   case isFalse=>cases h
   rename_i hfr
   simp only [Bool.and_eq_true] at hfr
   split at h
   case h_2=>cases h
   rename_i G1 fr1 obl hs1
   split at h
   case h_2=>cases h
   rename_i f l hl
   simp only [Option.some.injEq,Prod.mk.injEq] at h
   obtain ⟨rfl,rfl⟩:=h
   obtain ⟨o,u,ho1,hy,hm'⟩:=aM7 hs1 ho.1 hm
   exact dA4 ho1 him hw hsel hQp w r.length listed a hfr.1 (by simpa using hfr.2) hy (bK5 hsel hw hQp r _ G1 fr1 f l _ w hl ho.2 hm' hQ)
  ·rename_i him
   split at h
   case isFalse=>cases h
   rename_i hrd
   have hrd':Region.ready .any ops listed=[i]:=by simpa using hrd
   split at h
   case h_2=>cases h
   rename_i G1 fr1 obl hs1
   split at h
   case h_2=>cases h
   rename_i f l hl
   simp only [Option.some.injEq,Prod.mk.injEq] at h
   obtain ⟨rfl,rfl⟩:=h
   refine ⟨fun h=>(by rw [hrd'] at h; cases h),fun j hj=>?_⟩
   rw [hrd',List.mem_singleton] at hj
   subst hj
   obtain ⟨o,ho1,hwt,hnw⟩:=aN5 (K:=fun a' w'=>(j < m→w'=w)∧wpAnyL P ops Q m r.length (listed.setIfInBounds j true) a' w') (Q:=Q) hs1 ho.1 hm fun a' w' hm'=>⟨fun h=>absurd h him,bK5 hsel hw hQp r _ G1 fr1 f l a' w' hl ho.2 hm' hQ⟩
   unfold wpOp
   simp only [ho1]
   by_cases hwant:Region.wanted o (yielded ops a.tmps)=true
   ·rw [if_pos hwant]
    exact .inl (hwt hwant)
   ·rw [if_neg hwant]
    exact ⟨fun _=>trivial,(hnw (by simpa using hwant)).2⟩
theorem bR8 {id:Nat} {ops:Array Oper} {hs:List (Nat×Hint)} {m:Nat} {keep:List Nat} {cs:List Co} {fr':Fr} {obs:List Prop} {Q:Exit→Act→World→Prop} (hmx:P.follows .mixedOrders=true) (h:cA8 P N ops hs m keep cs fr=some (fr',obs)) (ho:xY obs) (hm:iL e [] N fr a w)
  (hQ:∀ a' w',iL e [] N fr' a' w'→Q .normal a' w'):(Code.region id ops true).wp P Q a w:=by
 unfold cA8 at h
 split at h
 case isFalse=>cases h
 rename_i hsw
 simp only [Bool.and_eq_true] at hsw
 split at h
 case h_2=>cases h
 rename_i f l hl
 split at h
 case h_2=>cases h
 rename_i f' hk
 split at h
 case h_2=>cases h
 rename_i f'' hc
 simp only [Option.some.injEq,Prod.mk.injEq] at h
 obtain ⟨rfl,rfl⟩:=h
 refine wp_mono (Q:=fun ex a w=>match ex with | .normal=>Q .normal a w | _=>False) ?_ (fun ex a' w' hq=>by cases ex <;> first | exact hq | exact hq.elim)
 refine wp_region_any hmx (aZ6 (m:=m) _ _ _ _ ?_)
 obtain ⟨h1,h2,S,β,hm⟩:=hm
 have hrun:=bK5 (e:=e) hsw.1 hsw.2 (Q:=fun ex a w=>match ex with | .normal=>Q .normal a w | _=>False) (fun _ _ _ h=>h) (List.range ops.size) (Array.replicate ops.size false) [] fr f l a { w with drawn:=w.drawn+1 } hl ho (vU ⟨h1,h2,S,β,hm.drawn _⟩) (fun G' a' w' hm'=>by
  obtain ⟨g1,g2,_,S',β',hm'⟩:=hm'
  obtain ⟨S'',β'',hm''⟩:=uF cs _ _ S' β' (aF1 hm' hk) hc
  exact hQ a' _ ⟨g1,g2,S'',β'',hm''⟩)
 simpa using hrun
variable {Q:Exit→Act→World→Prop}
theorem cS0 {id:Nat} {ops:Array Oper} (hmx:P.follows .mixedOrders=true) (m:Nat) (hs:List (Nat×Hint)) (keep:List Nat) (cs:List Co) (fr':Fr) (obs:List (Nat×Prop)) (n:Nat) {k:Code} (h:cA8 P N ops hs m keep cs fr=some (fr',owed obs n)) (ho:aQ9 obs) (hk:T P e N k fr' Q):T P e N (.seq (.region id ops true) k) fr Q :=
 fun _ _ hm=>wp_seq (bR8 hmx h ho.all hm fun a' w' hm'=>hk a' w' hm')
theorem aS4 {id:Nat} {ops:Array Oper} (hmx:P.follows .mixedOrders=true) (m:Nat) (hs:List (Nat×Hint)) (keep:List Nat) (cs:List Co) (fr':Fr) (obs:List (Nat×Prop)) (n:Nat) (h:cA8 P N ops hs m keep cs fr=some (fr',owed obs n)) (ho:aQ9 obs) (hk:∀ a w,iL e [] N fr' a w→Q .normal a w):T P e N (.region id ops true) fr Q :=
 fun _ _ hm=>bR8 hmx h ho.all hm hk
end
end Go.Vm
namespace Go.Vm
def Dat.lY:Dat→Bool
 | .v _=>true
 | .str _=>true
 | _=>false
def AV.lY:AV→Bool
 | .d z=>z.lY
 | .bp _ _=>true
 | .ep _ _ _ _=>true
 | _=>false
theorem vH {S S':Nat→Prop} {w w':World} {z:Dat} {u u':Value} (hz:z.lY=true) (h:RD S w z u) (h':RD S' w' z u'):u=u':=by
 cases z <;> simp [Dat.lY] at hz
 ·rw [(zS.1 h).1,(zS.1 h').1]
 ·rw [aZ3.1 h,aZ3.1 h']
theorem nS {S S':Nat→Prop} {w w':World} {z:Dat} {u:Value} (hz:z.lY=true) (h:RD S w z u):RD S' w' z u:=by
 cases z <;> simp [Dat.lY] at hz
 ·exact zS.2 (zS.1 h)
 ·exact aZ3.2 (aZ3.1 h)
theorem xK {S:Nat→Prop} {w w':World} {β:Path→Value} {p p':Path} {z:AV} {u u':Value} (hz:z.lY=true) (h:bA S w β p z u) (h':bA S w' β p' z u'):u=u':=by
 cases z <;> simp only [AV.lY,Bool.false_eq_true] at hz
 ·exact vH hz h h'
 ·obtain ⟨b,h1,h2⟩:=h
  obtain ⟨b',h1',h2'⟩:=h'
  rw [h1] at h1'
  cases h1'
  rw [h2,h2']
 ·obtain ⟨b,o,h1,h2⟩:=h
  obtain ⟨b',o',h1',h2'⟩:=h'
  rcases h1 with ⟨n,c,h1⟩ | h1 <;> rw [h1] at h1' <;> rcases h1' with ⟨n',c',h1'⟩ | h1' <;> cases h1' <;> rw [h2,h2']
theorem uA {S:Nat→Prop} {w w':World} {β:Path→Value} {p:Path} {z:AV} {u:Value} (hz:z.lY=true) (h:bA S w β p z u):bA S w' β p z u:=by
 cases z <;> simp only [AV.lY,Bool.false_eq_true] at hz
 ·exact nS hz h
 ·exact h
 ·exact h
def aR0 (P:Program) (N:Nat) (_G:dW) (hint:Hint) (fr:Fr) (o:Oper):Bool :=
 match o.op with
 | .move _=>true
 | .assign _=>true
 | .binOp _ _ x y _=>(gG N [] fr x).lY && (gG N [] fr y).lY && (match opR P hint (gG N [] fr) fr o with
  | some r=>r.1.lY
  | none=>false)
 | .unOp _ _ x=>(gG N [] fr x).lY && (match opR P hint (gG N [] fr) fr o with
  | some r=>r.1.lY
  | none=>false)
 | .fieldAddr _ x _=>(gG N [] fr x).lY && (match opR P hint (gG N [] fr) fr o with
  | some r=>r.1.lY
  | none=>false)
 | .nilCheck x=>(gG N [] fr x).lY && (match opR P hint (gG N [] fr) fr o with
  | some r=>r.1.lY
  | none=>false)
 | .indexAddr _ x ix=>(match gG N [] fr x with
  | .vw p=>(match fH fr p with
   | .own _ _ _=>true
   | .arr _ _ _=>true
   | _=>false)
  | _=>false) && (gG N [] fr ix).lY && (match opR P hint (gG N [] fr) fr o with
  | some r=>r.1.lY
  | none=>false)
 | .call { callee:=.builtin .max,args:=⟨x :: r⟩,argTypes:=_ }=>(x :: r).all (fun y=>(gG N [] fr y).lY) && (match opR P hint (gG N [] fr) fr o with
  | some r=>r.1.lY
  | none=>false)
 | .call { callee:=.builtin .min,args:=⟨x :: r⟩,argTypes:=_ }=>(x :: r).all (fun y=>(gG N [] fr y).lY) && (match opR P hint (gG N [] fr) fr o with
  | some r=>r.1.lY
  | none=>false)
 | _=>false
def cD0 (P:Program) (N:Nat) (ops:Array Oper) (i:Nat) (h:Hint) (G:dW) (fr:Fr):Option (dW×Fr×Prop) :=
 match ops[i]? with
 | some o=>match chainOf ops G o with
  | some []=>if aR0 P N G h fr o then aI3 P N ops i h G fr else none
  | _=>none
 | none=>none
def bitsOf:List Nat→Nat
 | []=>0
 | i :: r=>2 ^ i ||| bitsOf r
theorem tX:∀ (l:List Nat) (j:Nat),(bitsOf l).testBit j=l.contains j
 | [],j=>by simp [bitsOf]
 | i :: r,j=>by
  simp only [bitsOf,Nat.testBit_or,Nat.testBit_two_pow,tX r j,List.contains_cons]
  congr 1
  rw [Bool.eq_iff_iff]
  simp
  exact eq_comm
def iO (ops:Array Oper):List Nat:=ops.toList.map fun o=>bitsOf ((o.after.toList.filter (Region.binds .any ·)).map (·.on))
def qY (ops:Array Oper):List Nat:=(List.range ops.size).map fun i=>bitsOf ((List.range ops.size).filter fun j=>j != i && !(match ops[i]?,ops[j]? with
 | some oi,some oj=>oj.after.any (fun e=>Region.binds .any e && e.on == i) || oi.apart ops oj
 | _,_=>false))
def vX (needs:List Nat) (mask:Nat):List Nat:=(List.range needs.length).filter fun i => !mask.testBit i && (needs.getD i 0 &&& mask == needs.getD i 0)
def cD8 (confl:List Nat) (mask i:Nat):Bool:=decide (i < confl.length) && ((confl.getD i 0 &&& mask) == confl.getD i 0)
def Rel (ops:Array Oper) (listed:Array Bool) (mask:Nat):Prop:=listed.size=ops.size∧∀ j,listed.getD j false=mask.testBit j
theorem cB9 (x m:Nat):(x &&& m == x)=true↔∀ j,x.testBit j=true→m.testBit j=true:=by
 rw [beq_iff_eq]
 constructor
 ·intro h j hj
  rw [← h,Nat.testBit_and] at hj
  simp only [Bool.and_eq_true] at hj
  exact hj.2
 ·intro h
  apply Nat.eq_of_testBit_eq
  intro j
  rw [Nat.testBit_and]
  cases hx:x.testBit j with
  | false=>rfl
  | true=>rw [h j hx]; rfl
theorem Rel.aO3 {ops:Array Oper} {listed:Array Bool} {mask:Nat} (h:Rel ops listed mask) {j:Nat} (hj:j < ops.size):listed.getD j true=mask.testBit j:=by
 rw [← h.2 j]
 have hs:j < listed.size:=by rw [h.1]; exact hj
 simp [hs]
theorem Rel.ready {ops:Array Oper} {listed:Array Bool} {mask:Nat} (h:Rel ops listed mask):Region.ready .any ops listed=vX (iO ops) mask:=by
 unfold Region.ready vX
 have hl:(iO ops).length=ops.size:=by simp [iO]
 rw [hl]
 apply List.filter_congr
 intro i hi
 have hi:=List.mem_range.1 hi
 rw [h.aO3 hi]
 congr 1
 have hn:(iO ops).getD i 0=bitsOf ((ops[i].after.toList.filter (Region.binds .any ·)).map (·.on)):=by
  rw [List.getD_eq_getElem?_getD]
  simp [iO,hi]
 rw [hn,Array.getElem?_eq_getElem hi]
 simp only [Option.map_some,Option.getD_some]
 rw [Bool.eq_iff_iff,cB9,← Array.all_toList,List.all_eq_true]
 constructor
 ·intro ha j hj
  rw [tX,List.contains_iff_mem,List.mem_map] at hj
  obtain ⟨e,he,rfl⟩:=hj
  obtain ⟨h1,h2⟩:=List.mem_filter.1 he
  have:=ha e h1
  rw [h2] at this
  simpa [h.2] using this
 ·intro ha e he
  cases hb:Region.binds .any e with
  | false=>rfl
  | true =>
   have:=ha e.on (by
    rw [tX,List.contains_iff_mem,List.mem_map]
    exact ⟨e,List.mem_filter.2 ⟨he,hb⟩,rfl⟩)
   simpa [h.2] using this
theorem Rel.free {ops:Array Oper} {listed:Array Bool} {mask i:Nat} (h:Rel ops listed mask) (hf:cD8 (qY ops) mask i=true):Region.free .any ops listed i=true:=by
 unfold cD8 at hf
 simp only [Bool.and_eq_true,decide_eq_true_eq] at hf
 obtain ⟨hi,hs⟩:=hf
 have hi:i < ops.size:=by simpa [qY] using hi
 have hn:(qY ops).getD i 0=bitsOf ((List.range ops.size).filter fun j=>j != i && !(match ops[i]?,ops[j]? with
   | some oi,some oj=>oj.after.any (fun e=>Region.binds .any e && e.on == i) || oi.apart ops oj
   | _,_=>false)):=by
  rw [List.getD_eq_getElem?_getD]
  simp [qY,hi]
 rw [hn] at hs
 rw [cB9] at hs
 unfold Region.free
 rw [Array.getElem?_eq_getElem hi]
 simp only [List.all_eq_true,List.mem_range]
 intro j hj
 by_cases hji:j=i
 ·simp [hji]
 cases hl:listed.getD j true with
 | true=>simp
 | false =>
  have hm:mask.testBit j=false:=by rw [← h.aO3 hj]; exact hl
  have hnot:¬ (bitsOf ((List.range ops.size).filter fun j=>j != i && !(match ops[i]?,ops[j]? with
   | some oi,some oj=>oj.after.any (fun e=>Region.binds .any e && e.on == i) || oi.apart ops oj
   | _,_=>false))).testBit j=true:=fun hc=>by rw [hs j hc] at hm; cases hm
  rw [tX,List.contains_iff_mem,List.mem_filter,List.mem_range,Array.getElem?_eq_getElem hi,Array.getElem?_eq_getElem hj] at hnot
  have hji':(j != i)=true:=by simpa using hji
  simp only [hj,true_and,hji',Bool.true_and,Bool.not_eq_true',Bool.not_eq_false] at hnot
  rw [Array.getElem?_eq_getElem hj]
  simp only [Bool.or_false,Bool.or_eq_true]
  right
  simpa using hnot
theorem Rel.set {ops:Array Oper} {listed:Array Bool} {mask i:Nat} (h:Rel ops listed mask) (hi:i < ops.size):Rel ops (listed.setIfInBounds i true) (mask ||| 2 ^ i):=by
 refine ⟨by simpa using h.1,fun j=>?_⟩
 have hs:i < listed.size:=by rw [h.1]; exact hi
 rw [Nat.testBit_or,Nat.testBit_two_pow,← h.2 j]
 by_cases hij:i=j
 ·subst hij
  simp [hs]
 ·simp [hij]
theorem Rel.start (ops:Array Oper):Rel ops (Array.replicate ops.size false) 0:=by
 refine ⟨by simp,fun j=>?_⟩
 rw [Nat.zero_testBit]
 simp only [Array.getD_eq_getD_getElem?,Array.getElem?_replicate]
 split <;> rfl
inductive bO7 where
 | done
 | take (i:Nat) (p:bO7)
 | all (p:bO7)
 | alt (i:Nat) (p r:bO7)
 | stop
def aZ8 (P:Program) (N:Nat) (ops:Array Oper) (i:Nat) (h:Hint) (G:dW) (fr:Fr):Bool :=
 match ops[i]? with
 | some o=>match chainOf ops G o with
  | some []=>aR0 P N G h fr o
  | _=>false
 | none=>false
def cY9 (needs:List Nat) (mask i:Nat):List Nat→Nat→Nat
 | [],B=>B
 | j :: r,B=>cY9 needs mask i r (if !mask.testBit j && ((needs.getD j 0).testBit i || (needs.getD j 0 &&& B != 0)) then B ||| 2 ^ j else B)
def aV1 (needs:List Nat) (st mask i:Nat):Bool :=
 let B:=cY9 needs mask i (List.range needs.length) 0
 (List.range needs.length).all fun j=>st.testBit j || mask.testBit j || B.testBit j
inductive Blk (ops:Array Oper) (listed:Array Bool) (i:Nat):Nat→Prop
 | one {j:Nat} {oj:Oper} {e:Edge} (hj:ops[j]? = some oj) (he:e∈oj.after) (hb:Region.binds .any e=true) (hon:e.on=i):Blk ops listed i j
 | step {j:Nat} {oj:Oper} {e:Edge} (hj:ops[j]? = some oj) (he:e∈oj.after) (hb:Region.binds .any e=true) (hun:listed.getD e.on true=false) (h:Blk ops listed i e.on):Blk ops listed i j
def cD4 (P:Program) (N:Nat) (ops:Array Oper) (st i:Nat) (h:Hint) (G:dW) (fr:Fr):Option (dW×Fr×Prop) :=
 if st.testBit i then aI3 P N ops i h G fr else step1 P N ops i h G fr
def yH (P:Program) (N:Nat) (ops:Array Oper) (tb:List Nat×List Nat) (st:Nat) (hs:List (Nat×Hint)) (fin:Fr→Option Fr):bO7→Bool→Nat→Nat→dW→Fr→Option (List Nat×List Fr×List Prop)
 | .done,true,_,mask,_,fr=>if (vX tb.1 mask).isEmpty then (fin fr).map fun f=>([],[f],[]) else none
 | .take i p,true,fuel+1,mask,G,fr=>if st.testBit i && cD8 tb.2 mask i && (vX tb.1 mask).contains i && (aZ8 P N ops i (rD hs i) G fr || aV1 tb.1 st mask i) then
   match aI3 P N ops i (rD hs i) G fr with
   | some (G1,fr1,obl)=>match yH P N ops tb st hs fin p true fuel (mask ||| 2 ^ i) G1 fr1 with
    | some (_,f,l)=>some ([],f,obl :: l)
    | none=>none
   | none=>none
  else none
 | .all p,true,fuel+1,mask,G,fr=>match yH P N ops tb st hs fin p false fuel mask G fr with
  | some (is,f,l)=>if vX tb.1 mask == is && !is.isEmpty then some ([],f,l) else none
  | none=>none
 | .alt i p r,false,fuel,mask,G,fr=>match cD4 P N ops st i (rD hs i) G fr with
  | some (G1,fr1,obl)=>match yH P N ops tb st hs fin p true fuel (mask ||| 2 ^ i) G1 fr1 with
   | some (_,f,l)=>match yH P N ops tb st hs fin r false fuel mask G fr with
    | some (is,f',l')=>some (i :: is,f++f',obl :: (l++l'))
    | none=>none
   | none=>none
  | none=>none
 | .stop,false,_,_,_,_=>some ([],[],[])
 | _,_,_,_,_,_=>none
def aQ2 (keep:List Nat) (cs:List Co) (f:Fr):Option Fr:=match kL (.keep keep) f with
 | some f'=>mV cs f'
 | none=>none
section
variable {P:Program} {e:Env} {G:dW} {S:Nat→Prop} {β:Path→Value} {fr:Fr} {w:World} {a:Act} {N:Nat}
theorem qQ {s:Sem Value} {u:Value} (h:s.run P w=.ok u w):(do pure (Next.value (← s)):Sem Next).run P w=.ok (.value u) w:=by
 simp [h]
theorem xV {s:Sem Value} {u r:Value} (h:(do pure (Next.value (← s)):Sem Next).run P w=.ok (.value u) w) (h':s.run P w=.ok r w):u=r:=by
 simp [h'] at h
 exact h.symm
theorem dA0 {N:Nat} {fr:Fr} {x:Operand} {r:List Operand} (h:∀ y∈x :: r,(gG N [] fr y).lY=true) {j:Nat} {y:AV} (hy:(r.map (gG N [] fr))[j]? = some y):y.lY=true:=by
 rw [List.getElem?_map,Option.map_eq_some_iff] at hy
 obtain ⟨z,hz,rfl⟩:=hy
 exact h z (List.mem_cons_of_mem _ (List.mem_of_getElem? hz))
theorem bW2 (hN:a.tmps.size=N) (hm:Mem e G S β fr (bQ e a) w) {hint:Hint} {o:Oper} (hf:aR0 P N G hint fr o=true) (ho:∀ r,opR P hint (gG N [] fr) fr o=some r→(∃ x,o.op=.move x∨o.op=.assign x)∨r.2) {u:Value} (hu:(execOp a.eval o).run P w=.ok (.value u) w) (w':World) :
  (execOp a.eval o).run P w'=.ok (.value u) w':=by
 obtain ⟨dst,op,type,pos,after,guard⟩:=o
 have hval:=fun x=>pR hm hN [] rfl x
 unfold aR0 at hf
 simp only at hf
 split at hf
 ·rename_i x
  have h1:(execOp a.eval ⟨dst,.move x,type,pos,after,guard⟩).run P w=.ok (.value (a.eval x)) w:=rfl
  rw [h1] at hu
  cases hu
  rfl
 ·rename_i x
  have h1:(execOp a.eval ⟨dst,.assign x,type,pos,after,guard⟩).run P w=.ok (.value (a.eval x)) w:=rfl
  rw [h1] at hu
  cases hu
  rfl
 ·rename_i op t x y z
  simp only [Bool.and_eq_true] at hf
  obtain ⟨⟨hx,hy⟩,hz⟩:=hf
  split at hz
  case h_2=>cases hz
  rename_i r hr
  have hob:r.2:=by
   rcases ho r hr with ⟨q,hq⟩ | h
   ·rcases hq with hq | hq <;> cases hq
   ·exact h
  unfold opR at hr
  simp only at hr
  split at hr
  case h_4=>cases hr
  case h_3 =>
   rename_i hA _
   rw [hA] at hx
   cases hx
  case h_2 =>
   rename_i hA _
   rw [hA] at hx
   cases hx
  rename_i A B hA hB
  have h1:=hval x
  have h2:=hval y
  rw [hA] at h1 hx
  rw [hB] at h2 hy
  split at hr
  ·rename_i z ob hzz
   simp only [Option.some.injEq] at hr
   subst hr
   obtain ⟨r1,hr1,hr2⟩:=aX5 P (S:=S) w op t x y A B z ob hzz hob _ _ h1 h2
   obtain ⟨r2,hr3,hr4⟩:=aX5 P (S:=S) w' op t x y A B z ob hzz hob _ _ (nS hx h1) (nS hy h2)
   have:=vH hz hr2 hr4
   subst this
   have:u=r1:=xV hu hr1
   subst this
   exact qQ hr3
  ·split at hr
   case isFalse =>
    simp only [Option.map_eq_some_iff] at hr
    obtain ⟨b,hb,rfl⟩:=hr
    have hr1:=bB4 (X:=x) (w:=w) hb h1 h2
    have hr3:=bB4 (X:=x) (w:=w') hb (nS (w':=w') (S':=S) hx h1) (nS (w':=w') (S':=S) hy h2)
    have:u=.bool b:=xV hu hr1
    subst this
    exact qQ hr3
   rename_i ht
   simp only [Option.map_eq_some_iff] at hr
   obtain ⟨z,hzz,rfl⟩:=hr
   have htt:P.underlying t=some .bool:=by
    unfold bI7 at ht
    split at ht
    ·assumption
    ·cases ht
   obtain ⟨r1,hr1,hr2⟩:=aP7 P (S:=S) w op t x y A B z htt hzz _ _ h1 h2
   obtain ⟨r2,hr3,hr4⟩:=aP7 P (S:=S) w' op t x y A B z htt hzz _ _ (nS hx h1) (nS hy h2)
   have:=vH hz hr2 hr4
   subst this
   have:u=r1:=xV hu hr1
   subst this
   exact qQ hr3
 ·rename_i op t x
  simp only [Bool.and_eq_true] at hf
  obtain ⟨hx,hz⟩:=hf
  split at hz
  case h_2=>cases hz
  rename_i r hr
  unfold opR at hr
  simp only at hr
  split at hr
  case h_2=>cases hr
  rename_i A hA
  have h1:=hval x
  rw [hA] at h1 hx
  simp only [Option.map_eq_some_iff] at hr
  obtain ⟨z,hzz,rfl⟩:=hr
  obtain ⟨r1,hr1,hr2⟩:=bH0 P (S:=S) w op A z hzz _ h1
  obtain ⟨r2,hr3,hr4⟩:=bH0 P (S:=S) w' op A z hzz _ (nS hx h1)
  have:=vH hz hr2 hr4
  subst this
  have:u=r1:=xV hu hr1
  subst this
  exact qQ hr3
 ·rename_i s x f
  simp only [Bool.and_eq_true] at hf
  obtain ⟨hx,hz⟩:=hf
  split at hz
  case h_2=>cases hz
  rename_i r hr
  unfold opR at hr
  simp only [Option.map_eq_some_iff] at hr
  obtain ⟨z,hzz,rfl⟩:=hr
  obtain ⟨r1,hr1,hr2,_⟩:=wY (P:=P) hzz (hval x)
  obtain ⟨r2,hr3,hr4,_⟩:=wY (P:=P) (w:=w') hzz (uA hx (hval x))
  have:=xK hz hr2 hr4
  subst this
  have:u=r1:=xV hu hr1
  subst this
  exact qQ hr3
 ·rename_i x
  simp only [Bool.and_eq_true] at hf
  obtain ⟨hx,hz⟩:=hf
  split at hz
  case h_2=>cases hz
  rename_i r hr
  have h1:=hval x
  unfold opR at hr
  simp only at hr
  split at hr
  ·rename_i y off hxx
   rw [hxx] at h1
   obtain ⟨b,_,hb⟩:=h1
   have key:∀ w,(execOp a.eval ⟨dst,.nilCheck x,type,pos,after,guard⟩).run P w=.ok (.value (a.eval x)) w:=by
    intro w
    simp only [execOp,hb]
    rfl
   rw [key] at hu
   cases hu
   exact key w'
  ·rename_i p sz i off hxx
   rw [hxx] at h1
   obtain ⟨b,_,_,hb⟩:=h1
   have key:∀ w,(execOp a.eval ⟨dst,.nilCheck x,type,pos,after,guard⟩).run P w=.ok (.value (a.eval x)) w:=by
    intro w
    simp only [execOp,hb]
    rfl
   rw [key] at hu
   cases hu
   exact key w'
  ·rename_i cs hxx
   rw [hxx] at hx
   cases hx
  ·rename_i p hxx
   rw [hxx] at hx
   cases hx
  ·cases hr
 ·rename_i t x ix
  simp only [Bool.and_eq_true] at hf
  obtain ⟨⟨hx,hix⟩,hz⟩:=hf
  split at hx
  case h_2=>cases hx
  rename_i p hxp
  split at hz
  case h_2=>cases hz
  rename_i r hr
  have hob:r.2:=by
   rcases ho r hr with ⟨q,hq⟩ | h
   ·rcases hq with hq | hq <;> cases hq
   ·exact h
  unfold opR at hr
  simp only at hr
  have h1:=hval x
  have h2:=hval ix
  rw [hxp] at hr h1
  unfold yO at hr
  split at hr
  ·rename_i k i m size hiv hes
   rw [hiv] at h2
   have hyy:a.eval ix=.int k i:=h2.1
   unfold aC8 at hes
   split at hes
   ·rename_i E hu'
    simp only [Option.map_eq_some_iff,Prod.mk.injEq] at hes
    obtain ⟨ti,hti,_,_,rfl⟩:=hes
    simp only at hr
    split at hx
    case h_3=>cases hx
    case h_2=>rename_i hp; simp only [hp] at hr; cases hr
    rename_i sz es hp
    simp only [hp] at hr
    split at hr
    case isFalse=>cases hr
    rename_i hsz
    subst hsz
    simp only [Option.some.injEq] at hr
    subst hr
    have huu:a.eval x=β p:=h1
    have hown:=jW hm hp
    rcases hown with ⟨_,rfl⟩ | ⟨b,o,c,arr,E',fz,h5,_⟩
    ·obtain ⟨h3,h4⟩:=hob
     simp at h4
     omega
    ·have key:∀ w,(execOp a.eval ⟨dst,.indexAddr t x ix,type,pos,after,guard⟩).run P w=.ok (.value (.pointer (some ⟨b,o+i.toNat * ti.size,none⟩))) w:=by
      intro w
      simp only [execOp]
      rw [huu,h5,hyy]
      exact qQ (wL hu' hti b o es.length c k i hob.1 hob.2)
     rw [key] at hu
     cases hu
     exact key w'
   ·simp only [Option.map_eq_some_iff,Prod.mk.injEq] at hes
    obtain ⟨_,_,h,_⟩:=hes
    cases h
   ·cases hes
  ·rename_i k i n size hiv hes
   rw [hiv] at h2
   have hyy:a.eval ix=.int k i:=h2.1
   unfold aC8 at hes
   split at hes
   ·simp only [Option.map_eq_some_iff,Prod.mk.injEq] at hes
    obtain ⟨_,_,h,_⟩:=hes
    cases h
   ·rename_i n' E hu'
    simp only [Option.map_eq_some_iff,Prod.mk.injEq] at hes
    obtain ⟨ti,hti,_,rfl,rfl⟩:=hes
    simp only at hr
    split at hx
    case h_3=>cases hx
    case h_1=>rename_i hp; simp only [hp] at hr; cases hr
    rename_i sz es hp
    simp only [hp] at hr
    split at hr
    case isFalse=>cases hr
    rename_i hsz
    subst hsz
    simp only [Option.some.injEq] at hr
    subst hr
    have huu:a.eval x=β p:=h1
    obtain ⟨b,arr,h5,_⟩:=wE hm hp
    have hal:P.arrayLen t=n':=by simp [Program.arrayLen,hu']
    have hel:P.elem t=E:=by simp [Program.elem,hu']
    have key:∀ w,(execOp a.eval ⟨dst,.indexAddr t x ix,type,pos,after,guard⟩).run P w=.ok (.value (.pointer (some ⟨b,0+i.toNat * ti.size,none⟩))) w:=by
     intro w
     simp only [execOp]
     rw [huu,h5,hyy]
     refine qQ ?_
     rw [run_indexAt_array w t ⟨b,0,none⟩ k i (by rw [hal,hel]; exact hu'),hal,if_pos hob,hel]
     simp [sizeOf,typeInfo,hti,addr_add]
    rw [key] at hu
    cases hu
    exact key w'
   ·cases hes
  ·cases hr
 ·rename_i x r ts
  simp only [Bool.and_eq_true] at hf
  obtain ⟨hx,hz⟩:=hf
  split at hz
  case h_2=>cases hz
  rename_i q hr
  unfold opR at hr
  simp only [Option.map_eq_some_iff] at hr
  obtain ⟨z,hzz,rfl⟩:=hr
  have hx0:=List.all_eq_true.1 hx
  obtain ⟨v1,hr1,hr2,_⟩:=yP (P:=P) _ _ _ _ _ hzz (hval x) (tZ hval r 0)
  obtain ⟨v2,hr3,hr4,_⟩:=yP (P:=P) (w:=w') _ _ _ _ _ hzz (uA (hx0 x (List.mem_cons_self ..)) (hval x)) (bI.mono (tZ hval r 0) fun j y c hy _ hrr=>uA (dA0 hx0 hy) hrr)
  have:=xK hz hr2 hr4
  subst this
  have key:∀ w,((r.map a.eval).foldlM (if false=true then Builtin.min2 else Builtin.max2) (a.eval x)).run P w=.ok v1 w→(execOp a.eval ⟨dst,.call { callee:=.builtin .max,args:=⟨x :: r⟩,argTypes:=ts },type,pos,after,guard⟩).run P w=.ok (.value v1) w:=by
   intro w hv
   simp only [execOp,resolve,invoke,builtin,Sem.run_bind,Sem.run_pure,Result.andThen_ok,Builtin.max_,List.map_toArray,List.map_cons]
   simp only [Bool.false_eq_true,if_false] at hv
   rw [hv]
   rfl
  rw [key w hr1] at hu
  cases hu
  exact key w' hr3
 ·rename_i x r ts
  simp only [Bool.and_eq_true] at hf
  obtain ⟨hx,hz⟩:=hf
  split at hz
  case h_2=>cases hz
  rename_i q hr
  unfold opR at hr
  simp only [Option.map_eq_some_iff] at hr
  obtain ⟨z,hzz,rfl⟩:=hr
  have hx0:=List.all_eq_true.1 hx
  obtain ⟨v1,hr1,hr2,_⟩:=yP (P:=P) _ _ _ _ _ hzz (hval x) (tZ hval r 0)
  obtain ⟨v2,hr3,hr4,_⟩:=yP (P:=P) (w:=w') _ _ _ _ _ hzz (uA (hx0 x (List.mem_cons_self ..)) (hval x)) (bI.mono (tZ hval r 0) fun j y c hy _ hrr=>uA (dA0 hx0 hy) hrr)
  have:=xK hz hr2 hr4
  subst this
  have key:∀ w,((r.map a.eval).foldlM (if true=true then Builtin.min2 else Builtin.max2) (a.eval x)).run P w=.ok v1 w→(execOp a.eval ⟨dst,.call { callee:=.builtin .min,args:=⟨x :: r⟩,argTypes:=ts },type,pos,after,guard⟩).run P w=.ok (.value v1) w:=by
   intro w hv
   simp only [execOp,resolve,invoke,builtin,Sem.run_bind,Sem.run_pure,Result.andThen_ok,Builtin.min_,List.map_toArray,List.map_cons]
   simp only [if_true] at hv
   rw [hv]
   rfl
  rw [key w hr1] at hu
  cases hu
  exact key w' hr3
 ·cases hf
theorem cJ2 {ops:Array Oper} {i:Nat} {h:Hint} {G':dW} {fr':Fr} {obl:Prop} (hs:cD0 P N ops i h G fr=some (G',fr',obl)) (ho:obl) (hm:uE e G N fr a w) :
  ∃ o u,ops[i]? = some o∧YieldsIf P ops (fun _=>True) o u a∧uE e G' N fr' (a.put o.dst u) w:=by
 unfold cD0 at hs
 split at hs
 case h_2=>cases hs
 rename_i o hoi
 split at hs
 case h_2=>cases hs
 rename_i hch
 split at hs
 case isFalse=>cases hs
 rename_i hf
 obtain ⟨o',u,h1,h2,h3⟩:=aM7 hs ho hm
 rw [hoi] at h1
 cases h1
 refine ⟨o,u,hoi,?_,h3⟩
 rcases h2 with ⟨hw,hr⟩ | h2
 ·refine .inl ⟨hw,fun w' _=>?_⟩
  obtain ⟨hd,hN,hI,S,β,hmm⟩:=hm
  refine bW2 hN hmm hf (fun r hr'=>?_) (hr w rfl) w'
  unfold aI3 at hs
  rw [hoi] at hs
  simp only at hs
  split at hs
  case isFalse=>cases hs
  rw [hch] at hs
  split at hs
  ·rename_i t hc ht
   split at hs
   ·rename_i fr1 hE
    left
    unfold opP at hE
    split at hE
    ·rename_i hop; exact ⟨_,.inr hop⟩
    ·rename_i hop; exact ⟨_,.inl hop⟩
    ·rename_i hop; exact ⟨_,.inr hop⟩
    ·cases hE
   ·split at hs
    case h_2=>cases hs
    rename_i r1 hR
    split at hs
    case isFalse=>cases hs
    simp only [Option.some.injEq,Prod.mk.injEq] at hs
    obtain ⟨_,_,rfl⟩:=hs
    unfold bU2 at hR
    split at hR
    ·rename_i hop
     unfold aR0 at hf
     rw [hop] at hf
     cases hf
    ·rename_i hop
     unfold aR0 at hf
     rw [hop] at hf
     cases hf
    ·rw [hr'] at hR
     cases hR
     right
     unfold rwA at ho
     split at ho
     ·exact ho.1
     ·exact ho
  ·rename_i hc _
   cases hc
  ·cases hs
 ·exact .inr h2
theorem aV3 {ops:Array Oper} {i:Nat} {h:Hint} {G':dW} {fr':Fr} {obl:Prop} (hs:aI3 P N ops i h G fr=some (G',fr',obl)) (ho:obl) (hm:uE e G N fr a w) :
  ∃ o u,ops[i]? = some o∧YieldsIf P ops (fun w'=>aZ8 P N ops i h G fr=true∨w'=w) o u a∧uE e G' N fr' (a.put o.dst u) w:=by
 cases hb:aZ8 P N ops i h G fr with
 | true =>
  have hw:cD0 P N ops i h G fr=some (G',fr',obl):=by
   unfold aZ8 at hb
   unfold cD0
   split at hb
   case h_2=>cases hb
   rename_i o hoi
   split at hb
   case h_2=>cases hb
   rename_i hch
   simp only [hb,if_true]
   exact hs
  obtain ⟨o,u,h1,h2,h3⟩:=cJ2 hw ho hm
  refine ⟨o,u,h1,?_,h3⟩
  rcases h2 with ⟨h4,h5⟩ | h2
  ·exact .inl ⟨h4,fun w' _=>h5 w' trivial⟩
  ·exact .inr h2
 | false =>
  obtain ⟨o,u,h1,h2,h3⟩:=aM7 hs ho hm
  refine ⟨o,u,h1,?_,h3⟩
  rcases h2 with ⟨h4,h5⟩ | h2
  ·exact .inl ⟨h4,fun w' hw'=>h5 w' (hw'.resolve_left (by simp))⟩
  ·exact .inr h2
def aD9 (P:Program) (ops:Array Oper) (Q:Exit→Act→World→Prop) (st:Nat):Nat→Array Bool→Act→World→Prop
 | 0,listed,a,w=>Region.ready .any ops listed=[]∧Q .normal a w
 | fuel+1,listed,a,w=>(Region.ready .any ops listed=[]→Q .normal a w) ∧
  ∀ i∈Region.ready .any ops listed,wpOp P ops Q i (fun a' w'=>(st.testBit i=true→w'=w)∧aD9 P ops Q st fuel (listed.setIfInBounds i true) a' w') a w
theorem aL4 {ops:Array Oper} {Q:Exit→Act→World→Prop} {st:Nat}:∀ (fuel:Nat) (listed:Array Bool) (a:Act) (w:World),aD9 P ops Q st fuel listed a w→wpAny P .any ops Q fuel listed a w
 | 0,_,_,_,h=>h
 | fuel+1,_,_,_,h=>⟨h.1,fun i hi=>wpOp_mono (fun a' w' h'=>aL4 fuel _ a' w' h'.2) (h.2 i hi)⟩
theorem Blk.set {ops:Array Oper} {listed:Array Bool} {i j k:Nat} (hnb:¬ Blk ops listed i j) (h:Blk ops listed i k):Blk ops (listed.setIfInBounds j true) i k:=by
 induction h with
 | one hj he hb hon=>exact .one hj he hb hon
 | step hj he hb hun h ih =>
  refine .step hj he hb ?_ ih
  have hne:j≠_:=fun e=>hnb (e ▸ h)
  rw [getD_set_ne true hne]
  exact hun
theorem cV9 {ops:Array Oper} {Q:Exit→Act→World→Prop} {st i:Nat} {oi:Oper} {v:Value} {b:Bool} (hi:ops[i]? = some oi)
  (hsel:Region.noSelect ops=true) (hQp:∀ (c:List PanicEntry) (a:Act) (w:World) (d:Option Nat) (u:Value),Q (.panic c) (a.put d u) w→Q (.panic c) a w) :
  ∀ (fuel:Nat) (listed:Array Bool) (a:Act) (w:World),(b=false→∀ j oj,ops[j]? = some oj→st.testBit j=false→listed.getD j true=false→Blk ops listed i j)→(∀ j oj,ops[j]? = some oj→j≠i→listed.getD j true=false→(∀ e∈oj.after,Region.binds .any e=true→e.on≠i)→oi.apart ops oj=true)→i∈Region.ready .any ops listed→YieldsIf P ops (fun w'=>b=true∨w'=w) oi v a →
   aD9 P ops Q st fuel (listed.setIfInBounds i true) (a.put oi.dst v) w→aD9 P ops Q st (fuel+1) listed a w:=by
 intro fuel
 induction fuel with
 | zero =>
  intro listed a w _ _ hr hy H
  refine ⟨fun h=>(by rw [h] at hr; cases hr),fun j hj=>?_⟩
  by_cases hji:j=i
  ·subst hji
   exact hy.wpOp hi (.inr rfl) ⟨fun _=>rfl,H⟩
  ·have:=ready_mono hj hji
   rw [H.1] at this
   cases this
 | succ fuel ih =>
  intro listed a w hw hfree hr hy H
  refine ⟨fun h=>(by rw [h] at hr; cases hr),fun j hj=>?_⟩
  by_cases hji:j=i
  ·subst hji
   exact hy.wpOp hi (.inr rfl) ⟨fun _=>rfl,H⟩
  ·obtain ⟨hjun,oj,hoj,hall⟩:=mem_ready.1 hj
   have hnot:∀ e∈oj.after,Region.binds .any e=true→e.on≠i:=fun e he hb heq=>by
    have h1:=hall e he hb
    rw [heq] at h1
    exact aO0 (mem_ready.1 hr).1 h1
   have hnb:¬ Blk ops listed i j:=by
    intro hb
    cases hb with
    | one hj' he hb hon =>
     rw [hoj] at hj'
     cases hj'
     exact hnot _ he hb hon
    | step hj' he hb hun _ =>
     rw [hoj] at hj'
     cases hj'
     exact aO0 hun (hall _ he hb)
   have h2:=wpOp_putIf hoj (hfree j oj hoj hji hjun hnot) (fun cs b=>Region.noSelect_spec hsel i oi cs b hi) (fun cs b=>Region.noSelect_spec hsel j oj cs b hoj) (fun c a w h=>hQp c a w _ _ h) hy (H.2 j (ready_mono hj hji))
   refine wpOp_mono (fun a' w' h3=>?_) h2
   obtain ⟨h4,h5,h6⟩:=h3
   refine ⟨h5,ih (listed.setIfInBounds j true) a' w' (fun hb k ok hk hs hun=>(hw hb k ok hk hs ?_).set hnb) (fun k ok hk hki hun hno=>?_) (ready_mono hr (Ne.symm hji)) ?_ ?_⟩
   ·by_cases hjk:j=k
    ·subst hjk; exact hjun
    ·rw [getD_set_ne true hjk] at hun; exact hun
   ·refine hfree k ok hk hki ?_ hno
    by_cases hjk:j=k
    ·subst hjk; exact hjun
    ·rw [getD_set_ne true hjk] at hun; exact hun
   ·cases b with
    | true =>
     rcases h4 with ⟨h7,h8⟩ | h4
     ·exact .inl ⟨h7,fun w'' _=>h8 w'' (.inl rfl)⟩
     ·exact .inr h4
    | false =>
     have hst:st.testBit j=true:=by
      cases hs:st.testBit j with
      | true=>rfl
      | false =>
       exact absurd (hw rfl j oj hoj hs hjun) hnb
     have:=h5 hst
     subst this
     exact h4
   ·rw [Array.setIfInBounds_comm _ _ hji]
    exact h6
theorem zG:∀ {a b:List Prop},xY (a++b)→xY a∧xY b
 | [],_,h=>⟨trivial,h⟩
 | _ :: _,_,h=>⟨⟨h.1,(zG h.2).1⟩,(zG h.2).2⟩
theorem cD7 {ops:Array Oper} {mask i:Nat} {listed:Array Bool} (hrel:Rel ops listed mask):∀ (l:List Nat) (B:Nat),(∀ j∈l,j < ops.size)→(∀ j,B.testBit j=true→j < ops.size∧mask.testBit j=false∧Blk ops listed i j)→∀ j,(cY9 (iO ops) mask i l B).testBit j=true→j < ops.size∧mask.testBit j=false∧Blk ops listed i j
 | [],B,_,h,j,hj=>h j hj
 | k :: r,B,hl,h,j,hj=>by
  refine cD7 hrel r _ (fun q hq=>hl q (by simp [hq])) (fun q hq=>?_) j hj
  split at hq
  case isFalse=>exact h q hq
  rename_i hc
  simp only [Bool.and_eq_true,Bool.not_eq_true',Bool.or_eq_true,bne_iff_ne,ne_eq] at hc
  rw [Nat.testBit_or,Nat.testBit_two_pow,Bool.or_eq_true,decide_eq_true_eq] at hq
  rcases hq with hq | rfl
  ·exact h q hq
  have hlt:=hl k (by simp)
  refine ⟨hlt,hc.1,?_⟩
  have hk:ops[k]? = some ops[k]:=Array.getElem?_eq_getElem hlt
  have hn:(iO ops).getD k 0=bitsOf ((ops[k].after.toList.filter (Region.binds .any ·)).map (·.on)):=by
   rw [List.getD_eq_getElem?_getD]
   simp [iO,hk]
  have hedge:∀ t,((iO ops).getD k 0).testBit t=true→∃ e∈ops[k].after,Region.binds .any e=true∧e.on=t:=by
   intro t ht
   rw [hn,tX,List.contains_iff_mem,List.mem_map] at ht
   obtain ⟨e,he,hon⟩:=ht
   obtain ⟨h1,h2⟩:=List.mem_filter.1 he
   exact ⟨e,Array.mem_toList_iff.1 h1,h2,hon⟩
  rcases hc.2 with h1 | h1
  ·obtain ⟨e,he,hb,hon⟩:=hedge i h1
   exact .one hk he hb hon
  ·obtain ⟨t,ht⟩:=Nat.exists_testBit_of_ne_zero h1
   rw [Nat.testBit_and,Bool.and_eq_true] at ht
   obtain ⟨e,he,hb,hon⟩:=hedge t ht.1
   obtain ⟨g1,g2,g3⟩:=h t ht.2
   refine .step hk he hb ?_ (by rw [hon]; exact g3)
   rw [hon,hrel.aO3 g1]
   exact g2
theorem aV7 {ops:Array Oper} {st mask i:Nat} {listed:Array Bool} (hrel:Rel ops listed mask) (h:aV1 (iO ops) st mask i=true) {j:Nat} {oj:Oper} (hj:ops[j]? = some oj) (hs:st.testBit j=false) (hun:listed.getD j true=false):Blk ops listed i j:=by
 have hlt:j < ops.size:=(Array.getElem?_eq_some_iff.1 hj).1
 have hnl:(iO ops).length=ops.size:=by simp [iO]
 unfold aV1 at h
 have:=(List.all_eq_true.1 h) j (List.mem_range.2 (by rw [hnl]; exact hlt))
 rw [hrel.aO3 hlt] at hun
 rw [hs,hun,Bool.false_or,Bool.false_or] at this
 exact (cD7 hrel _ 0 (fun q hq=>by rw [hnl] at hq; exact List.mem_range.1 hq) (fun q hq=>by simp at hq) j this).2.2
theorem bP3 {ops:Array Oper} {st i:Nat} {h:Hint} {G':dW} {fr':Fr} {obl:Prop} (hs:cD4 P N ops st i h G fr=some (G',fr',obl)) (ho:obl) (hm:uE e G N fr a w) {K:Act→World→Prop} {Q:Exit→Act→World→Prop}
  (hK:∀ a' w',uE e G' N fr' a' w'→K a' w'):wpOp P ops Q i (fun a' w'=>(st.testBit i=true→w'=w)∧K a' w') a w:=by
 unfold cD4 at hs
 split at hs
 ·obtain ⟨o,u,ho1,hy,hm'⟩:=aV3 hs ho hm
  exact hy.wpOp ho1 (.inr rfl) ⟨fun _=>rfl,hK _ _ hm'⟩
 ·rename_i hns
  obtain ⟨o,ho1,hwt,hnw⟩:=aN5 (K:=fun a' w'=>(st.testBit i=true→w'=w)∧K a' w') (Q:=Q) hs ho hm fun a' w' hm'=>⟨fun h=>absurd h hns,hK a' w' hm'⟩
  unfold wpOp
  simp only [ho1]
  by_cases hwant:Region.wanted o (yielded ops a.tmps)=true
  ·rw [if_pos hwant]
   exact .inl (hwt hwant)
  ·rw [if_neg hwant]
   exact ⟨fun h=>absurd h hns,(hnw (by simpa using hwant)).2⟩
theorem cU8 {ops:Array Oper} {tb:List Nat×List Nat} (htb:tb=(iO ops,qY ops)) {st:Nat} {hs:List (Nat×Hint)} {keep:List Nat} {cs:List Co} (hsel:Region.noSelect ops=true) {Q:Exit→Act→World→Prop} (hQp:∀ c a w,¬ Q (.panic c) a w) {fr':Fr} (hQ:∀ a' w',iL e [] N fr' a' w'→Q .normal a' w'):∀ (p:bO7) (b:Bool) (fuel:Nat) (listed:Array Bool) (mask:Nat) (G:dW) (fr:Fr) (is:List Nat) (frs:List Fr) (obs:List Prop) (a:Act) (w:World),Rel ops listed mask→yH P N ops tb st hs (aQ2 keep cs) p b fuel mask G fr=some (is,frs,obs)→(∀ f∈frs,f=fr')→xY obs→uE e G N fr a w →
  (b=true→aD9 P ops Q st fuel listed a w)∧(b=false→∀ i∈is,i < ops.size→wpOp P ops Q i (fun a' w'=>(st.testBit i=true→w'=w)∧aD9 P ops Q st fuel (listed.setIfInBounds i true) a' w') a w):=by
 subst htb
 intro p
 induction p with
 | done =>
  intro b fuel listed mask G fr is frs obs a w hrel h hf _ hm
  cases b with
  | false=>simp [yH] at h
  | true =>
   simp only [yH] at h
   split at h
   case isFalse=>cases h
   rename_i hr
   simp only [Option.map_eq_some_iff,Prod.mk.injEq] at h
   obtain ⟨f,hfin,_,rfl,_⟩:=h
   have:=hf f (List.mem_singleton.2 rfl)
   subst this
   have hq:Q .normal a w:=by
    refine hQ a w ?_
    unfold aQ2 at hfin
    split at hfin
    case h_2=>cases hfin
    rename_i f' hk
    obtain ⟨g1,g2,_,S',β',hm'⟩:=hm
    obtain ⟨S'',β'',hm''⟩:=uF cs _ _ S' β' (aF1 hm' hk) hfin
    exact ⟨g1,g2,S'',β'',hm''⟩
   have hr':Region.ready .any ops listed=[]:=by rw [hrel.ready]; simpa using hr
   refine ⟨fun _=>?_,fun h=>by cases h⟩
   cases fuel with
   | zero=>exact ⟨hr',hq⟩
   | succ fuel=>exact ⟨fun _=>hq,fun i hi=>(by rw [hr'] at hi; cases hi)⟩
 | stop =>
  intro b fuel listed mask G fr is frs obs a w _ h _ _ _
  cases b with
  | true=>simp [yH] at h
  | false =>
   simp only [yH,Option.some.injEq,Prod.mk.injEq] at h
   obtain ⟨rfl,_⟩:=h
   exact ⟨fun h=>(by cases h),fun _ i hi _=>(by cases hi)⟩
 | take i p ih =>
  intro b fuel listed mask G fr is frs obs a w hrel h hf ho hm
  cases b with
  | false=>simp [yH] at h
  | true =>
   cases fuel with
   | zero=>simp [yH] at h
   | succ fuel =>
    simp only [yH] at h
    split at h
    case isFalse=>cases h
    rename_i hc
    simp only [Bool.and_eq_true,Bool.or_eq_true] at hc
    obtain ⟨⟨⟨hst,hfr⟩,hrd⟩,hcase⟩:=hc
    split at h
    case h_2=>cases h
    rename_i G1 fr1 obl hsp
    split at h
    case h_2=>cases h
    rename_i is2 f2 l2 h2
    simp only [Option.some.injEq,Prod.mk.injEq] at h
    obtain ⟨_,rfl,rfl⟩:=h
    obtain ⟨o,u,ho1,hy,hm'⟩:=aV3 hsp ho.1 hm
    have hready:i∈Region.ready .any ops listed:=by rw [hrel.ready]; simpa using hrd
    exact ⟨fun _=>cV9 (b:=aZ8 P N ops i (rD hs i) G fr) ho1 hsel (fun c a w d v h=>absurd h (hQp c _ w)) fuel listed a w (fun hb j oj hj hs hun=>aV7 hrel (hcase.resolve_left (by rw [hb]; simp)) hj hs hun) (Region.free_spec ho1 (hrel.free hfr)) hready hy ((ih true fuel _ _ G1 fr1 is2 f2 l2 _ w (hrel.set (Array.getElem?_eq_some_iff.1 ho1).1) h2 hf ho.2 hm').1 rfl),fun h=>by cases h⟩
 | all p ih =>
  intro b fuel listed mask G fr is frs obs a w hrel h hf ho hm
  cases b with
  | false=>simp [yH] at h
  | true =>
   cases fuel with
   | zero=>simp [yH] at h
   | succ fuel =>
    simp only [yH] at h
    split at h
    case h_2=>cases h
    rename_i is2 f2 l2 h2
    split at h
    case isFalse=>cases h
    rename_i hc
    simp only [Bool.and_eq_true,beq_iff_eq,Bool.not_eq_true',List.isEmpty_eq_false_iff] at hc
    simp only [Option.some.injEq,Prod.mk.injEq] at h
    obtain ⟨_,rfl,rfl⟩:=h
    have hrd:Region.ready .any ops listed=is2:=hrel.ready.trans hc.1
    refine ⟨fun _=>⟨fun h=>absurd (hrd ▸ h) hc.2,fun j hj=>?_⟩,fun h=>by cases h⟩
    have hj2:j∈is2:=by rw [← hrd]; exact hj
    refine (ih false fuel listed mask G fr is2 f2 l2 a w hrel h2 hf ho hm).2 rfl j hj2 ?_
    obtain ⟨_,o,ho,_⟩:=mem_ready.1 hj
    exact (Array.getElem?_eq_some_iff.1 ho).1
 | alt i p r ihp ihr =>
  intro b fuel listed mask G fr is frs obs a w hrel h hf ho hm
  cases b with
  | true=>simp [yH] at h
  | false =>
   simp only [yH] at h
   split at h
   case h_2=>cases h
   rename_i G1 fr1 obl hs1
   split at h
   case h_2=>cases h
   rename_i is2 f2 l2 h2
   split at h
   case h_2=>cases h
   rename_i is3 f3 l3 h3
   simp only [Option.some.injEq,Prod.mk.injEq] at h
   obtain ⟨rfl,rfl,rfl⟩:=h
   refine ⟨fun h=>(by cases h),fun _ j hj hlt=>?_⟩
   have hob:=zG ho.2
   rcases List.mem_cons.1 hj with rfl | hj
   ·exact bP3 hs1 ho.1 hm fun a' w' hm'=>(ihp true fuel _ _ G1 fr1 is2 f2 l2 a' w' (hrel.set hlt) h2 (fun y hy=>hf y (List.mem_append.2 (.inl hy))) hob.1 hm').1 rfl
   ·exact (ihr false fuel listed mask G fr is3 f3 l3 a w hrel h3 (fun y hy=>hf y (List.mem_append.2 (.inr hy))) hob.2 hm).2 rfl j hj hlt
theorem cA5 {id:Nat} {ops:Array Oper} {hs:List (Nat×Hint)} {keep:List Nat} {cs:List Co} {fr':Fr} {obs:List Prop} {k:Nat} {Q:Exit→Act→World→Prop} (hmx:P.follows .mixedOrders=true) (hsel:Region.noSelect ops=true) {p:bO7} {tb:List Nat×List Nat} {st:Nat} (htb:(iO ops,qY ops)=tb) (h:yH P N ops tb st hs (aQ2 keep cs) p true ops.size 0 [] fr=some ([],List.replicate k fr',obs)) (ho:xY obs) (hm:iL e [] N fr a w)
  (hQ:∀ a' w',iL e [] N fr' a' w'→Q .normal a' w'):(Code.region id ops true).wp P Q a w:=by
 refine wp_mono (Q:=fun ex a w=>match ex with | .normal=>Q .normal a w | _=>False) ?_ (fun ex a' w' hq=>by cases ex <;> first | exact hq | exact hq.elim)
 refine wp_region_any hmx (aL4 (st:=st) _ _ _ _ ?_)
 obtain ⟨h1,h2,S,β,hm⟩:=hm
 exact (cU8 (e:=e) htb.symm hsel (Q:=fun ex a w=>match ex with | .normal=>Q .normal a w | _=>False) (fun _ _ _ h=>h) hQ p true ops.size _ 0 [] fr [] _ obs a { w with drawn:=w.drawn+1 } (Rel.start ops) h (fun f hf=>(List.mem_replicate.1 hf).2) ho (vU ⟨h1,h2,S,β,hm.drawn _⟩)).1 rfl
variable {Q:Exit→Act→World→Prop}
theorem jX {id:Nat} {ops:Array Oper} (hmx:P.follows .mixedOrders=true) (m:Nat) (p:bO7) (tb:List Nat×List Nat) (st:Nat) (hs:List (Nat×Hint)) (keep:List Nat) (cs:List Co) (fr':Fr) (obs:List (Nat×Prop)) (n:Nat) {k:Code} (hsel:Region.noSelect ops=true) (htb:(iO ops,qY ops)=tb) (h:yH P N ops tb st hs (aQ2 keep cs) p true ops.size 0 [] fr=some ([],List.replicate m fr',owed obs n)) (ho:aQ9 obs) (hk:T P e N k fr' Q):T P e N (.seq (.region id ops true) k) fr Q :=
 fun _ _ hm=>wp_seq (cA5 hmx hsel htb h ho.all hm fun a' w' hm'=>hk a' w' hm')
theorem mH {id:Nat} {ops:Array Oper} (hmx:P.follows .mixedOrders=true) (m:Nat) (p:bO7) (tb:List Nat×List Nat) (st:Nat) (hs:List (Nat×Hint)) (keep:List Nat) (cs:List Co) (fr':Fr) (obs:List (Nat×Prop)) (n:Nat) (hsel:Region.noSelect ops=true) (htb:(iO ops,qY ops)=tb) (h:yH P N ops tb st hs (aQ2 keep cs) p true ops.size 0 [] fr=some ([],List.replicate m fr',owed obs n)) (ho:aQ9 obs) (hk:∀ a w,iL e [] N fr' a w→Q .normal a w):T P e N (.region id ops true) fr Q :=
 fun _ _ hm=>cA5 hmx hsel htb h ho.all hm hk
end
end Go.Vm
namespace Go.Vm
def frM (tbl:List (Nat×Nat×AV)) (keep:List Nat) (mask:Nat):Fr :=
 let f:Fr:=(tbl.filter fun t=>(mask * 2+1).testBit t.1).map (·.2)
 keep.map fun x=>(x,aX f x)
abbrev wJ:=Nat×Nat×Option Nat
def cD3 (P:Program) (N:Nat) (ops:Array Oper) (tb:List Nat×List Nat) (st:Nat) (hs:List (Nat×Hint)) (keep:List Nat) (fr:Fr) (mask i:Nat) (take:Bool):Option (Fr×Prop) :=
 if take then
  if st.testBit i && cD8 tb.2 mask i && (vX tb.1 mask).contains i && (aZ8 P N ops i (rD hs i) [] fr || aV1 tb.1 st mask i) then
   match aI3 P N ops i (rD hs i) [] fr with
   | some (_,fr1,obl)=>(kL (.keep keep) fr1).map (·,obl)
   | none=>none
  else none
 else match cD4 P N ops st i (rD hs i) [] fr with
  | some (_,fr1,obl)=>(kL (.keep keep) fr1).map (·,obl)
  | none=>none
def cV2 (rest:List wJ) (fuel mask:Nat):Bool:=rest.any fun n=>n.1+1 == fuel && n.2.1 == mask
def aW4 (P:Program) (N:Nat) (ops:Array Oper) (tb:List Nat×List Nat) (st:Nat) (hs:List (Nat×Hint)) (keep:List Nat) (tbl:List (Nat×Nat×AV)) (rest:List wJ) (fuel:Nat) (fr:Fr) (mask:Nat):List Nat→Option (List Fr×List Fr×List Prop)
 | []=>some ([],[],[])
 | i :: r=>match cD3 P N ops tb st hs keep fr mask i false with
  | some (f,o)=>if cV2 rest fuel (mask ||| 2 ^ i) then match aW4 P N ops tb st hs keep tbl rest fuel fr mask r with
   | some (l1,l2,l)=>some (f :: l1,frM tbl keep (mask ||| 2 ^ i) :: l2,o :: l)
   | none=>none
   else none
  | none=>none
def bG5 (P:Program) (N:Nat) (ops:Array Oper) (tb:List Nat×List Nat) (st:Nat) (hs:List (Nat×Hint)) (keep:List Nat) (tbl:List (Nat×Nat×AV)) (fin:Fr→Option Fr) (fr':Fr) (rest:List wJ):wJ→Option (List Fr×List Fr×List Prop)
  | (fuel,mask,some i)=>match cD3 P N ops tb st hs keep (frM tbl keep mask) mask i true with
    | some (f,o)=>if cV2 rest fuel (mask ||| 2 ^ i) then some ([f],[frM tbl keep (mask ||| 2 ^ i)],[o]) else none
    | none=>none
  | (fuel,mask,none)=>if (vX tb.1 mask).isEmpty then match fin (frM tbl keep mask) with
      | some f=>some ([f],[fr'],[])
      | none=>none
    else if fuel == 0 then none else aW4 P N ops tb st hs keep tbl rest fuel (frM tbl keep mask) mask (vX tb.1 mask)
def bI1 (P:Program) (N:Nat) (ops:Array Oper) (tb:List Nat×List Nat) (st:Nat) (hs:List (Nat×Hint)) (keep:List Nat) (tbl:List (Nat×Nat×AV)) (fin:Fr→Option Fr) (fr':Fr):List wJ→Option (List Fr×List Fr×List Prop)
 | []=>some ([],[],[])
 | n :: rest=>match bG5 P N ops tb st hs keep tbl fin fr' rest n with
  | some (a1,a2,a)=>match bI1 P N ops tb st hs keep tbl fin fr' rest with
   | some (l1,l2,l)=>some (a1++l1,a2++l2,a++l)
   | none=>none
  | none=>none
section
variable {P:Program} {e:Env} {S:Nat→Prop} {β:Path→Value} {fr:Fr} {w:World} {a:Act} {N:Nat}
theorem cO0 {l:List Nat} {fr':Fr} {G:dW} (hm:uE e G N fr a w) (h:kL (.keep l) fr=some fr'):uE e [] N fr' a w:=by
 obtain ⟨h1,h2,_,S,β,h4⟩:=hm
 exact vU ⟨h1,h2,S,β,aF1 h4 h⟩
theorem aD4 {α:Type}:∀ {a b c d:List α},a.length=b.length→a++c=b++d→a=b∧c=d
 | [],[],_,_,_,h=>⟨rfl,h⟩
 | [],_ :: _,_,_,h,_=>by simp at h
 | _ :: _,[],_,_,h,_=>by simp at h
 | x :: a,y :: b,c,d,hl,h=>by
  simp only [List.cons_append,List.cons.injEq] at h
  obtain ⟨h1,h2⟩:=aD4 (a:=a) (b:=b) (by simpa using hl) h.2
  exact ⟨by rw [h.1,h1],h2⟩
theorem bE9 {ops:Array Oper} {tb:List Nat×List Nat} {st:Nat} {hs:List (Nat×Hint)} {keep:List Nat} {tbl:List (Nat×Nat×AV)} {rest:List wJ} {fuel mask:Nat}:∀ (is:List Nat) {l1 l2:List Fr} {l:List Prop},aW4 P N ops tb st hs keep tbl rest fuel fr mask is=some (l1,l2,l)→l1.length=l2.length
 | [],l1,l2,l,h=>by
  simp only [aW4,Option.some.injEq,Prod.mk.injEq] at h
  obtain ⟨rfl,rfl,_⟩:=h
  rfl
 | i :: r,l1,l2,l,h=>by
  simp only [aW4] at h
  split at h
  case h_2=>cases h
  split at h
  case isFalse=>cases h
  split at h
  case h_2=>cases h
  rename_i hr
  simp only [Option.some.injEq,Prod.mk.injEq] at h
  obtain ⟨rfl,rfl,_⟩:=h
  simp [bE9 r hr]
theorem cH6 {ops:Array Oper} {tb:List Nat×List Nat} {st:Nat} {hs:List (Nat×Hint)} {keep:List Nat} {tbl:List (Nat×Nat×AV)} {fin:Fr→Option Fr} {fr':Fr} {rest:List wJ} {n:wJ} {l1 l2:List Fr} {l:List Prop} (h:bG5 P N ops tb st hs keep tbl fin fr' rest n=some (l1,l2,l)):l1.length=l2.length:=by
 obtain ⟨fuel,mask,k⟩:=n
 cases k with
 | some i =>
  simp only [bG5] at h
  split at h
  case h_2=>cases h
  split at h
  case isFalse=>cases h
  simp only [Option.some.injEq,Prod.mk.injEq] at h
  obtain ⟨rfl,rfl,_⟩:=h
  rfl
 | none =>
  simp only [bG5] at h
  split at h
  ·split at h
   case h_2=>cases h
   simp only [Option.some.injEq,Prod.mk.injEq] at h
   obtain ⟨rfl,rfl,_⟩:=h
   rfl
  ·split at h
   case isTrue=>cases h
   exact bE9 _ h
theorem cA1 {rest:List wJ} {fuel mask:Nat} (h:cV2 rest fuel mask=true):∃ n∈rest,n.1+1=fuel∧n.2.1=mask:=by
 unfold cV2 at h
 obtain ⟨n,h1,h2⟩:=List.any_eq_true.1 h
 simp only [Bool.and_eq_true,beq_iff_eq] at h2
 exact ⟨n,h1,h2.1,h2.2⟩
def cL5 (P:Program) (e:Env) (N:Nat) (ops:Array Oper) (Q:Exit→Act→World→Prop) (st:Nat) (keep:List Nat) (tbl:List (Nat×Nat×AV)) (n:wJ):Prop :=
 ∀ (listed:Array Bool) (a:Act) (w:World),Rel ops listed n.2.1→uE e [] N (frM tbl keep n.2.1) a w→aD9 P ops Q st n.1 listed a w
theorem bR9 {ops:Array Oper} {tb:List Nat×List Nat} {st:Nat} {hs:List (Nat×Hint)} {keep:List Nat} {tbl:List (Nat×Nat×AV)} {rest:List wJ} {fuel mask:Nat} {Q:Exit→Act→World→Prop}
  (ih:∀ n∈rest,cL5 P e N ops Q st keep tbl n) {listed:Array Bool} (hrel:Rel ops listed mask) (hm:uE e [] N fr a w) :
  ∀ (is:List Nat) {l1 l2:List Fr} {l:List Prop},aW4 P N ops tb st hs keep tbl rest (fuel+1) fr mask is=some (l1,l2,l)→l1=l2→xY l →
   ∀ i∈is,i < ops.size→wpOp P ops Q i (fun a' w'=>(st.testBit i=true→w'=w)∧aD9 P ops Q st fuel (listed.setIfInBounds i true) a' w') a w
 | [],_,_,_,_,_,_,i,hi,_=>by cases hi
 | j :: r,l1,l2,l,h,he,ho,i,hi,hlt=>by
  simp only [aW4] at h
  split at h
  case h_2=>cases h
  rename_i f o hedge
  split at h
  case isFalse=>cases h
  rename_i hhas
  split at h
  case h_2=>cases h
  rename_i m1 m2 m hr
  simp only [Option.some.injEq,Prod.mk.injEq] at h
  obtain ⟨rfl,rfl,rfl⟩:=h
  simp only [List.cons.injEq] at he
  rcases List.mem_cons.1 hi with rfl | hi'
  ·obtain ⟨n,hn,hnf,hnm⟩:=cA1 hhas
   unfold cD3 at hedge
   simp only [Bool.false_eq_true,if_false] at hedge
   split at hedge
   case h_2=>cases hedge
   rename_i G1 fr1 obl hs1
   simp only [Option.map_eq_some_iff,Prod.mk.injEq] at hedge
   obtain ⟨f',hk,rfl,rfl⟩:=hedge
   have hc:=ih n hn
   exact bP3 hs1 ho.1 hm fun a' w' hm'=>by
    have h2:=hc (listed.setIfInBounds i true) a' w' (by rw [hnm]; exact hrel.set hlt) (by rw [hnm,← he.1]; exact cO0 hm' hk)
    have:n.1=fuel:=by omega
    rw [this] at h2
    exact h2
  ·exact bR9 ih hrel hm r hr he.2 ho.2 i hi' hlt
theorem bZ7 {ops:Array Oper} {tb:List Nat×List Nat} (htb:tb=(iO ops,qY ops)) {st:Nat} {hs:List (Nat×Hint)} {keep0:List Nat} {cs:List Co} {keep:List Nat} {tbl:List (Nat×Nat×AV)} (hsel:Region.noSelect ops=true) {Q:Exit→Act→World→Prop} (hQp:∀ c a w,¬ Q (.panic c) a w) {fr':Fr} (hQ:∀ a' w',iL e [] N fr' a' w'→Q .normal a' w') :
  ∀ (nodes:List wJ) {l1 l2:List Fr} {l:List Prop},bI1 P N ops tb st hs keep tbl (aQ2 keep0 cs) fr' nodes=some (l1,l2,l)→l1=l2→xY l→∀ n∈nodes,cL5 P e N ops Q st keep tbl n
 | [],_,_,_,_,_,_,n,hn=>by cases hn
 | n0 :: rest,l1,l2,l,h,he,ho,n,hn=>by
  simp only [bI1] at h
  split at h
  case h_2=>cases h
  rename_i a1 a2 al hnode
  split at h
  case h_2=>cases h
  rename_i m1 m2 ml hrest
  simp only [Option.some.injEq,Prod.mk.injEq] at h
  obtain ⟨rfl,rfl,rfl⟩:=h
  obtain ⟨ea,em⟩:=aD4 (cH6 hnode) he
  obtain ⟨oa,om⟩:=zG ho
  have ih:=bZ7 htb hsel hQp hQ rest hrest em om
  rcases List.mem_cons.1 hn with rfl | hn'
  case inr=>exact ih n hn'
  obtain ⟨fuel,mask,k⟩:=n
  intro listed a w hrel hm
  simp only at hrel hm
  cases k with
  | some i =>
   simp only [bG5] at hnode
   split at hnode
   case h_2=>cases hnode
   rename_i f o hedge
   split at hnode
   case isFalse=>cases hnode
   rename_i hhas
   simp only [Option.some.injEq,Prod.mk.injEq] at hnode
   obtain ⟨rfl,rfl,rfl⟩:=hnode
   simp only [List.cons.injEq,and_true] at ea
   obtain ⟨n,hnm,hnf,hnk⟩:=cA1 hhas
   unfold cD3 at hedge
   simp only [if_true] at hedge
   split at hedge
   case isFalse=>cases hedge
   rename_i hc
   simp only [Bool.and_eq_true,Bool.or_eq_true] at hc
   obtain ⟨⟨⟨hst,hfr⟩,hrd⟩,hcase⟩:=hc
   split at hedge
   case h_2=>cases hedge
   rename_i G1 fr1 obl hsp
   simp only [Option.map_eq_some_iff,Prod.mk.injEq] at hedge
   obtain ⟨f',hk,rfl,rfl⟩:=hedge
   subst htb
   obtain ⟨o,u,ho1,hy,hm'⟩:=aV3 hsp oa.1 hm
   have hready:i∈Region.ready .any ops listed:=by rw [hrel.ready]; simpa using hrd
   obtain ⟨m,rfl⟩:∃ m,fuel=m+1:=⟨n.1,by omega⟩
   have hnm1:n.1=m:=by omega
   refine cV9 (b:=aZ8 P N ops i (rD hs i) [] (frM tbl keep mask)) ho1 hsel (fun c a w d v h=>absurd h (hQp c _ w)) m listed a w (fun hb j oj hj hs hun=>aV7 hrel (hcase.resolve_left (by rw [hb]; simp)) hj hs hun) (Region.free_spec ho1 (hrel.free hfr)) hready hy ?_
   have h2:=ih n hnm (listed.setIfInBounds i true) (a.put o.dst u) w (by rw [hnk]; exact hrel.set (Array.getElem?_eq_some_iff.1 ho1).1) (by rw [hnk,← ea]; exact cO0 hm' hk)
   rw [hnm1] at h2
   exact h2
  | none =>
   simp only [bG5] at hnode
   split at hnode
   ·rename_i hr
    split at hnode
    case h_2=>cases hnode
    rename_i f hfin
    simp only [Option.some.injEq,Prod.mk.injEq] at hnode
    obtain ⟨rfl,rfl,rfl⟩:=hnode
    simp only [List.cons.injEq,and_true] at ea
    subst ea
    have hq:Q .normal a w:=by
     refine hQ a w ?_
     unfold aQ2 at hfin
     split at hfin
     case h_2=>cases hfin
     rename_i f' hk
     obtain ⟨g1,g2,_,S',β',hm'⟩:=hm
     obtain ⟨S'',β'',hm''⟩:=uF cs _ _ S' β' (aF1 hm' hk) hfin
     exact ⟨g1,g2,S'',β'',hm''⟩
    subst htb
    have hr':Region.ready .any ops listed=[]:=by rw [hrel.ready]; simpa using hr
    cases fuel with
    | zero=>exact ⟨hr',hq⟩
    | succ fuel=>exact ⟨fun _=>hq,fun i hi=>(by rw [hr'] at hi; cases hi)⟩
   ·rename_i hne
    split at hnode
    case isTrue=>cases hnode
    rename_i hf
    subst htb
    obtain ⟨m,rfl⟩:∃ m,fuel=m+1:=⟨fuel - 1,by simp at hf; omega⟩
    have hrd:Region.ready .any ops listed=vX (iO ops) mask:=hrel.ready
    have hne':¬ vX (iO ops) mask=[]:=by simpa using hne
    refine ⟨fun h=>absurd (hrd ▸ h) hne',fun j hj=>?_⟩
    have hj2:j∈vX (iO ops) mask:=by rw [← hrd]; exact hj
    refine bR9 ih hrel hm _ hnode ea oa j hj2 ?_
    obtain ⟨_,o,ho,_⟩:=mem_ready.1 hj
    exact (Array.getElem?_eq_some_iff.1 ho).1
def bW8 (ops:Array Oper) (nodes:List wJ):Bool:=match nodes with
  | (fuel,0,_) :: _=>fuel == ops.size
  | _=>false
theorem cQ7 {id:Nat} {ops:Array Oper} {hs:List (Nat×Hint)} {keep0:List Nat} {cs:List Co} {fr':Fr} {obs:List Prop} {keep:List Nat} {tbl:List (Nat×Nat×AV)} {nodes:List wJ} {Q:Exit→Act→World→Prop} (hmx:P.follows .mixedOrders=true) (hsel:Region.noSelect ops=true) {tb:List Nat×List Nat} {st:Nat} (htb:(iO ops,qY ops)=tb) (hst:bW8 ops nodes=true) (h0:kL (.keep keep) fr=some (frM tbl keep 0))
    (h:(bI1 P N ops tb st hs keep tbl (aQ2 keep0 cs) fr' nodes).map (·.2.2)=some obs) (he:(bI1 P N ops tb st hs keep tbl (aQ2 keep0 cs) fr' nodes).map (·.1)=(bI1 P N ops tb st hs keep tbl (aQ2 keep0 cs) fr' nodes).map (·.2.1)) (ho:xY obs) (hm:iL e [] N fr a w)
    (hQ:∀ a' w',iL e [] N fr' a' w'→Q .normal a' w'):(Code.region id ops true).wp P Q a w:=by
  refine wp_mono (Q:=fun ex a w=>match ex with | .normal=>Q .normal a w | _=>False) ?_ (fun ex a' w' hq=>by cases ex <;> first | exact hq | exact hq.elim)
  refine wp_region_any hmx (aL4 (st:=st) _ _ _ _ ?_)
  obtain ⟨h1,h2,S,β,hm⟩:=hm
  simp only [Option.map_eq_some_iff] at h
  obtain ⟨⟨l1,l2,l⟩,hrun,rfl⟩:=h
  rw [hrun] at he
  simp only [Option.map_some,Option.some.injEq] at he
  match nodes,hst with
  | (fuel,0,k) :: rest,hst =>
    have hfuel:fuel=ops.size:=by simpa [bW8] using hst
    have hc:=bZ7 (e:=e) htb.symm hsel (Q:=fun ex a w=>match ex with | .normal=>Q .normal a w | _=>False) (fun _ _ _ h=>h) hQ _ hrun he ho (fuel,0,k) (List.mem_cons_self ..)
    have:=hc _ a { w with drawn:=w.drawn+1 } (Rel.start ops) (cO0 (vU ⟨h1,h2,S,β,hm.drawn _⟩) h0)
    simp only [hfuel] at this
    exact this
variable {Q:Exit→Act→World→Prop}
theorem cA6 {id:Nat} {ops:Array Oper} (hmx:P.follows .mixedOrders=true) (nodes:List wJ) (tbl:List (Nat×Nat×AV)) (keep:List Nat) (tb:List Nat×List Nat) (st:Nat) (hs:List (Nat×Hint)) (keep0:List Nat) (cs:List Co) (fr':Fr) (obs:List (Nat×Prop)) (n:Nat) {k:Code} (hsel:Region.noSelect ops=true) (htb:(iO ops,qY ops)=tb) (hst:bW8 ops nodes=true) (h0:kL (.keep keep) fr=some (frM tbl keep 0))
  (h:(bI1 P N ops tb st hs keep tbl (aQ2 keep0 cs) fr' nodes).map (·.2.2)=some (owed obs n)) (he:(bI1 P N ops tb st hs keep tbl (aQ2 keep0 cs) fr' nodes).map (·.1)=(bI1 P N ops tb st hs keep tbl (aQ2 keep0 cs) fr' nodes).map (·.2.1)) (ho:aQ9 obs) (hk:T P e N k fr' Q):T P e N (.seq (.region id ops true) k) fr Q :=
 fun _ _ hm=>wp_seq (cQ7 hmx hsel htb hst h0 h he ho.all hm fun a' w' hm'=>hk a' w' hm')
end
end Go.Vm
namespace Go.Vm
def cP6 (ops:Array Oper):Option (Nat×Nat×Nat×TypeId) :=
 match ops.toList with
 | [o1,o2]=>match o1.dst,o1.op,o1.guard,o2.dst,o2.op,o2.guard with
  | some t3,.move (.tmp s),none,some t4,.binOp .eql T (.tmp t3') (.const (.slice none 0 0)) _,none=>if t3'=t3 then some (s,t3,t4,T) else none
  | _,_,_,_,_,_=>none
 | _=>none
def bN2 (P:Program) (t:TypeId):Bool :=
 match P.underlying t with
 | some (.slice _)=>true
 | _=>false
section
variable {P:Program} {e:Env} {fr:Fr} {w:World} {N:Nat} {Q:Exit→Act→World→Prop}
theorem aT9 (d:Nat) {t E:TypeId} {q:Option Addr} {l c:Nat} (h:P.underlying t=some (.slice E)):(Op.equalIn (d+1) t (.slice q l c) (.slice none 0 0)).run P w=.ok q.isNone w:=by
 cases q <;> simp [Op.equalIn,run_underlying h]
theorem run_eql_slice_nil {t E:TypeId} {q:Option Addr} {l c:Nat} {X Y:Operand} (h:P.underlying t=some (.slice E)) :
  (do eqGuard .eql t X Y (.slice q l c) (.slice none 0 0); binOp .eql t (.slice q l c) (.slice none 0 0):Sem Value).run P w=.ok (.bool q.isNone) w:=by
 have hg:eqGuard .eql t X Y (.slice q l c) (.slice none 0 0)=pure ():=rfl
 have he:(Op.equal t (.slice q l c) (.slice none 0 0)).run P w=.ok q.isNone w:=aT9 9999 h
 rw [hg]
 simp only [Sem.run_bind,Sem.run_pure,Result.andThen_ok,binOp]
 simp [he]
theorem aF7 {id:Nat} {ops:Array Oper} (s t3 t4:Nat) (T':TypeId) (hop:cP6 ops=some (s,t3,t4,T')) (hT:bN2 P T'=true) {sz:Nat} {es:List (List Dat)} (hs:gG N [] fr (.tmp s)=.d (.sl sz es)) (hlt:decide (s < N∧t3 < N∧t4 < N∧t3≠t4)=true) (keep:List Nat) (fr':Fr)
  (hk:∀ b,mV [.keep keep] (gM t4 (.d (.v (.bool b))) (gM t3 .junk fr))=some fr') {A B:Code} (hA:es=[]→T P e N A fr' Q) (hB:T P e N B fr' Q):T P e N (.seq (.region id ops false) (.cond (.tmp t4) A B)) fr Q:=by
 intro a w hm
 obtain ⟨hd,hN,S,β,hm⟩:=hm
 obtain ⟨hlt1,hlt2,hlt3,hne⟩:=of_decide_eq_true hlt
 obtain ⟨E,hE⟩:∃ E,P.underlying T'=some (.slice E):=by
  unfold bN2 at hT
  split at hT
  ·exact ⟨_,by assumption⟩
  ·cases hT
 unfold cP6 at hop
 split at hop
 case h_2=>cases hop
 rename_i o1 o2 hol
 split at hop
 case h_2=>cases hop
 rename_i u3 us u4 uT u3' ty h1 h2 h3 h4 h5 h6
 split at hop
 case isFalse=>cases hop
 rename_i heq
 simp only [Option.some.injEq,Prod.mk.injEq] at hop
 obtain ⟨rfl,rfl,rfl,rfl⟩:=hop
 subst heq
 have hops:ops=#[o1,o2]:=by
  apply Array.ext'
  simpa using hol
 subst hops
 have hv:=pR hm hN [] rfl (.tmp us)
 rw [hs] at hv
 obtain ⟨q,n,c,hq,hnil⟩:∃ q n c,a.eval (.tmp us)=.slice q n c∧(q=none→es=[]):=by
  have hv':=hv
  simp only [bA,RD] at hv'
  rcases hv' with ⟨⟨q,h⟩,rfl⟩ | ⟨b,o,c,arr,E',fz,h,_⟩
  ·exact ⟨q,0,0,h,fun _=>rfl⟩
  ·exact ⟨_,_,_,h,fun h=>by cases h⟩
 have hw1:Region.wanted o1 (yielded #[o1,o2] a.tmps)=true:=by unfold Region.wanted; rw [h3]
 refine wp_seq (wp_region ?_)
 show wpOps P #[o1,o2] _ [0,1] a w
 simp only [wpOps,List.getElem?_toArray,List.getElem?_cons_zero,List.getElem?_cons_succ]
 rw [if_pos hw1]
 refine .inl (nQ (u:=.slice q n c) (w':=w) (by simp only [execOp,h2]; rw [hq]; rfl) ?_)
 rw [h1]
 have hw2:Region.wanted o2 (yielded #[o1,o2] (a.put (some u3') (.slice q n c)).tmps)=true:=by unfold Region.wanted; rw [h6]
 rw [if_pos hw2]
 have hts3:u3' < a.tmps.size:=by rw [hN]; exact hlt2
 have he3:(a.put (some u3') (.slice q n c)).eval (.tmp u3')=.slice q n c :=
  Option.some.inj ((lL (e:=e) (by rw [mE]; exact hts3)).symm.trans (bM6 (e:=e) a u3' _ hts3))
 refine .inl (nQ (u:=.bool q.isNone) (w':=w) ?_ ?_)
 ·simp only [execOp,h5,he3]
  exact qQ (run_eql_slice_nil hE)
 rw [h4]
 have hsz2:(a.put (some u3') (.slice q n c)).tmps.size=N:=by rw [mE]; exact hN
 have hts4:u4 < (a.put (some u3') (.slice q n c)).tmps.size:=by rw [hsz2]; exact hlt3
 have hm3:=hm.nX u3' .junk (.slice q n c) _ (fI a u3' _ hts3) (fT a u3' _ hts3) trivial (fun j=>by cases j <;> rfl) (fun l a h=>by cases h)
 have hm4:=hm3.nX u4 (.d (.v (.bool q.isNone))) (.bool q.isNone) _ (fI (a.put (some u3') (.slice q n c)) u4 _ hts4) (fT _ u4 _ hts4) ((dD rfl).2 ⟨rfl,rfl⟩) (fun j=>by cases j <;> rfl) (fun l a h=>by cases h)
 have hm5:iL e [] N (gM u4 (.d (.v (.bool q.isNone))) (gM u3' .junk fr)) ((a.put (some u3') (.slice q n c)).put (some u4) (.bool q.isNone)) w :=
  ⟨by rw [put_defers,put_defers]; exact hd,by rw [mE]; exact hsz2,S,β,hm4⟩
 refine cK3 q.isNone ?_ (fun hb=>?_) (fun hb=>?_) _ w hm5
 ·have hlt4:decide (u4 < N)=true:=decide_eq_true hlt3
  simp only [gG,aX9,cX1,dK,AV.read,AV.under]
  simp [hlt3]
 ·exact cJ1 _ _ (hk q.isNone) (hA (hnil (by simpa using hb)))
 ·exact cJ1 _ _ (hk q.isNone) hB
end
end Go.Vm
namespace Go.Vm
def cellsOf (P:Program) (N0:Nat):List ResultVar→Nat→Fr→Option (List Nat×Nat×Fr)
 | [],N,fr=>some ([],N,fr)
 | .tmp t :: r,N,fr=>if t < N0 then match cellsOf P N0 r N fr with
   | some (ts,N',fr')=>some (t :: ts,N',fr')
   | none=>none
  else none
 | .cell s t :: r,N,fr=>if s < N0 then match aX fr s,bE2 P t {} fr (.bp s 0) with
   | .box _,some (av,_)=>if av.plain then
     match cellsOf P N0 r (N+1) (gM N av fr) with
     | some (ts,N',fr')=>some (N :: ts,N',fr')
     | none=>none
    else none
   | _,_=>none
  else none
section
variable {P:Program} {e:Env} {G:dW} {S:Nat→Prop} {β:Path→Value} {fr:Fr} {w:World} {a:Act} {N:Nat}
theorem cL3 (hm:Mem e G S β fr (bQ e a) w) (hN:a.tmps.size=N) {av:AV} {u:Value} (hp:av.plain=true) (hr:bA S w β (0,0) av u):Mem e G S β (gM N av fr) (bQ e { a with tmps:=a.tmps.push u }) w:=by
 refine hm.nX N av u _ (fun y hy=>?_) (fun u' h=>?_) (aL6 hp hr) (zH hp) (fun l a h=>by rw [h] at hp; cases hp)
 ·simp only [bQ]
  rw [Array.getElem?_push,if_neg (by omega)]
 ·simp only [bQ] at h
  rw [Array.getElem?_push,if_pos (by omega)] at h
  simpa using h.symm
theorem cN2 {t:TypeId} {s:Nat} {av:AV} {obl:Prop} {cs:List AV} (hf:aX fr s=.box cs) (h:bE2 P t {} fr (.bp s 0)=some (av,obl)):obl:=by
 simp only [bE2,hf] at h
 split at h
 ·simp only [Option.map_eq_some_iff,Prod.mk.injEq] at h
  obtain ⟨_,_,_,rfl⟩:=h
  trivial
 ·split at h
  ·split at h
   ·cases h
    trivial
   ·simp only [Option.map_eq_some_iff,Prod.mk.injEq] at h
    obtain ⟨_,_,_,rfl⟩:=h
    trivial
  ·cases h
 ·cases h
theorem bF4 {tmps:Array Value} {u:Value} {t:Nat} (h:t < tmps.size):(tmps.push u).getD t undef=tmps.getD t undef:=by
 simp only [Array.getD_eq_getD_getElem?]
 rw [Array.getElem?_push,if_neg (by omega)]
theorem aV2 {N0:Nat} {tmps0:Array Value}:∀ (rs:List ResultVar) (N:Nat) (fr fr':Fr) (ts:List Nat) (N':Nat) (a:Act),N0≤N→a.tmps.size=N→(∀ t,t < N0→a.tmps.getD t undef=tmps0.getD t undef)→Mem e [] S β fr (bQ e a) w→cellsOf P N0 rs N fr=some (ts,N',fr') →
  ∃ a':Act,a'.tmps.size=N'∧N≤N'∧(∀ t,t < N→a'.tmps.getD t undef=a.tmps.getD t undef)∧Mem e [] S β fr' (bQ e a') w ∧
   (rs.mapM (m:=Sem) fun
    | .tmp t=>pure (tmps0.getD t undef)
    | .cell a t=>do loadVar t (← asAddr (tmps0.getD a undef))).run P w=.ok (ts.map fun t=>a'.tmps.getD t undef) w
 | [],N,fr,fr',ts,N',a,_,hN,_,hm,h=>by
  simp only [cellsOf,Option.some.injEq,Prod.mk.injEq] at h
  obtain ⟨rfl,rfl,rfl⟩:=h
  exact ⟨a,hN,Nat.le_refl _,fun _ _=>rfl,hm,rfl⟩
 | .tmp t :: rs,N,fr,fr',ts,N',a,h0,hN,hold,hm,h=>by
  simp only [cellsOf] at h
  split at h
  case isFalse=>cases h
  rename_i ht
  split at h
  case h_2=>cases h
  rename_i ts1 N1 fr1 h1
  simp only [Option.some.injEq,Prod.mk.injEq] at h
  obtain ⟨rfl,rfl,rfl⟩:=h
  obtain ⟨a',g1,g2,g3,g4,g5⟩:=aV2 (tmps0:=tmps0) rs N fr _ ts1 _ a h0 hN hold hm h1
  refine ⟨a',g1,g2,g3,g4,?_⟩
  simp only [List.mapM_cons,Sem.run_bind,Sem.run_pure,Result.andThen_ok,g5,List.map_cons]
  rw [g3 t (Nat.lt_of_lt_of_le ht h0),hold t ht]
 | .cell s t :: rs,N,fr,fr',ts,N',a,h0,hN,hold,hm,h=>by
  simp only [cellsOf] at h
  split at h
  case isFalse=>cases h
  rename_i hs
  split at h
  case h_2=>cases h
  rename_i cs av obl hf hl
  split at h
  case isFalse=>cases h
  rename_i hp
  split at h
  case h_2=>cases h
  rename_i ts1 N1 fr1 h1
  simp only [Option.some.injEq,Prod.mk.injEq] at h
  obtain ⟨rfl,rfl,rfl⟩:=h
  obtain ⟨u0,hr0,hu0⟩:=hm.rel s
  have hsz:s < a.tmps.size:=by rw [hN]; exact Nat.lt_of_lt_of_le hs h0
  have hev:=hu0 _ (lL (e:=e) hsz)
  rw [hf] at hr0
  have hbp:bA S w β (0,0) (.bp s 0) (a.eval (.tmp s)):=by
   rw [hev]
   exact bZ4 (t:=s) (a:=.box cs) hr0
  obtain ⟨v,hv1,hv2,_⟩:=bT7 (P:=P) hm hl (cN2 hf hl) hbp
  obtain ⟨a',g1,g2,g3,g4,g5⟩:=aV2 (tmps0:=tmps0) rs (N+1) (gM N av fr) _ ts1 _ { a with tmps:=a.tmps.push v } (by omega) (by simp [hN]) (fun t ht=>by
   show (a.tmps.push v).getD t undef=_
   rw [bF4 (by rw [hN]; exact Nat.lt_of_lt_of_le ht h0)]
   exact hold t ht) (cL3 hm hN hp hv2) h1
  refine ⟨a',g1,by omega,fun t ht=>by rw [g3 t (by omega),bF4 (by omega)],g4,?_⟩
  have hN2:a'.tmps.getD N undef=v:=by
   rw [g3 N (by omega)]
   simp only [Array.getD_eq_getD_getElem?]
   rw [Array.getElem?_push,if_pos hN.symm]
   rfl
  have hrun:(do loadVar t (← asAddr (tmps0.getD s undef)):Sem Value).run P w=.ok v w:=by
   rw [← hold s hs]
   have h2:a.tmps.getD s undef=a.eval (.tmp s):=rfl
   rw [h2]
   obtain ⟨b,_,hb⟩:=hbp
   rw [hb] at hv1 ⊢
   exact hv1
  rw [List.mapM_cons,Sem.run_bind,hrun,List.map_cons,hN2]
  simp only [Result.andThen_ok,Sem.run_bind,g5,Sem.run_pure]
theorem cI8 {fn:Func} (cs:List Co) {fr fr':Fr} (h:mV cs fr=some fr') {ts:List Nat} {N':Nat} {fr2:Fr} (hc:cellsOf P N fn.results.toList N fr'=some (ts,N',fr2)) (hNr:decide (N'≤aS)=true) (ho:yM N' fr2 ts=true) {res:AV} (hres:zZ fr2 ts=res) {vout:List AV} (hv:aJ4 fr2 aD vout) :
  ∀ a w,iL e [] N fr a w→aC9 P fn e res vout .ret a w:=by
 intro a w hm
 obtain ⟨h1,h2,S,β,hm'⟩:=hm.co h
 obtain ⟨a',g1,_,_,g4,hk⟩:=aV2 (tmps0:=a.tmps) fn.results.toList N fr' fr2 ts N' a (Nat.le_refl _) h2 (fun _ _=>rfl) hm' hc
 obtain ⟨S',β',hm2⟩:=cC1 g4 g1 (of_decide_eq_true hNr) ho hv rfl
 rw [hres] at hm2
 refine ⟨h1,_,?_,_,S',β',rfl,hm2⟩
 have e:fn.results=fn.results.toList.toArray:=(Array.toArray_toList).symm
 unfold results
 rw [Sem.run_bind,e,List.mapM_toArray,Sem.run_map]
 exact congrArg (fun r:Result (List Value)=>(r.andThen fun a w'=>Result.ok a.toArray w').andThen fun a w'=>Sem.run P (pure (if h:a.size=1 then a[0] else Value.tuple a)) w') hk
end
end Go.Vm
namespace Go.Vm
open Go.ChangeShapes
def AV.jD:AV→Bool
 | .d _=>true
 | .agg _=>true
 | _=>false
structure pQ (W W':World):Prop where
 os:W'.os=W.os
 output:W'.output=W.output
 size:W.heap.size≤W'.heap.size
 heap:∀ b,b < W.heap.size→W'.heap[b]? = W.heap[b]?
theorem pQ.but {W W':World} (h:pQ W W') (may:MemPlace→Prop):W.keptBut W' may:=by
 refine ⟨h.os,h.output,fun i hi=>?_⟩
 rw [h.heap i hi]
 cases W.heap[i]? with
 | none=>trivial
 | some o=>cases o <;> simp
theorem pQ.frozen {W W':World} (h:pQ W W') (a:Addr) (ha:a.block < W.heap.size):W'.frozen? a=W.frozen? a:=by
 simp only [World.frozen?,h.heap _ ha]
def vK (W:World):Nat→Prop:=fun b=>b < W.heap.size
theorem bG0 {W:World} {args:List AV} {us:List Value} (hlen:us.length=args.length) (hd:args.all AV.jD=true) (hr:bI (fun _ a u=>bA (vK W) W (fun _=>.bool false) (0,0) a u) 0 args us) :
  Mem ⟨W,eD (bO args []) (fun _=>.bool false),vK W,bT (fun _=>.bool false) ([]:List AV).length,[]⟩ [] (vK W) (fun _=>.bool false) (bO args []) (fun x=>(us[x]?).or (bT (fun _=>.bool false) ([]:List AV).length x)) W:=by
 have hat:∀ x,(∃ a u,aX (bO args []) x=a∧a.jD=true∧us[x]? = some u∧bA (vK W) W (fun _=>.bool false) (0,0) a u)∨(aX (bO args []) x=.junk∧us[x]? = none):=by
  intro x
  rcases Nat.lt_or_ge x args.length with h | h
  ·left
   obtain ⟨u,hu,hru⟩:=bI.get hr x args[x] (by simp [h])
   refine ⟨args[x],u,?_,?_,by simpa using hu,hru⟩
   ·rw [bY h,List.getD_eq_getElem?_getD]
    simp [h]
   ·exact (List.all_eq_true.1 hd) _ (List.getElem_mem h)
  ·right
   refine ⟨?_,by simp; omega⟩
   rw [bO,pW,if_neg (by omega)]
   rfl
 have hown:∀ x i,(aX (bO args []) x).aR i=false:=by
  intro x i
  rcases hat x with ⟨a,u,h1,h2,_,_⟩ | ⟨h1,_⟩
  ·rw [h1]
   cases a <;> first | (cases i <;> rfl) | (simp [AV.jD] at h2)
  ·rw [h1]
   cases i <;> rfl
 have hlent:∀ x,bT (fun _=>.bool false) ([]:List AV).length x=none:=by
  intro x
  simp only [bT,List.length_nil,Nat.add_zero]
  rw [if_neg (by omega)]
 refine ⟨fun x=>?_,fun x l a h=>?_,fun x i y j b h=>?_,fun x i b h=>?_,fun b hb=>⟨hb,.inl hb⟩,fun _ h=>h,fun _ _ _=>rfl,rfl,rfl,rfl,Nat.le_refl _⟩
 ·rcases hat x with ⟨a,u,h1,h2,h3,h4⟩ | ⟨h1,h2⟩
  ·refine ⟨u,?_,fun u' hu'=>by simp [h3] at hu'; exact hu'.symm⟩
   rw [h1]
   cases a <;> first | exact (dD rfl).2 h4 | (simp [AV.jD] at h2)
  ·refine ⟨undef,?_,fun u' hu'=>by
    simp only [h2,hlent] at hu'
    cases hu'⟩
   rw [h1]
   exact (dD rfl).2 trivial
 ·rcases hat x with ⟨a',u,h1,h2,_,_⟩ | ⟨h1,_⟩
  ·rw [h] at h1
   subst h1
   simp [AV.jD] at h2
  ·rw [h] at h1
   cases h1
 ·rw [hown] at h
  cases h
 ·rw [hown] at h
  cases h
theorem aG.law {P:Program} {k:Nat} {args:List AV} {us:List Value} {W:World} {b:Bool} (h:aG P k args [] (.d (.v (.bool b))) []) (hlen:us.length=args.length) (hd:args.all AV.jD=true) (hr:bI (fun _ a u=>bA (vK W) W (fun _=>.bool false) (0,0) a u) 0 args us) :
  Calls P k us.toArray W fun e W'=>e=.returned (.bool b)∧pQ W W':=by
 refine (h.2 W (vK W) (fun _=>.bool false) us hlen (bG0 hlen hd hr)).mono fun e W' ⟨u,S',β',he,hm⟩=>?_
 obtain ⟨v,hv1,hv2⟩:=hm.rel aS
 have hu:=hv2 u (by simp)
 subst hu
 rw [show aX ((aS,AV.d (.v (.bool b))) :: jG aD []) aS=.d (.v (.bool b)) from aV _ _ _] at hv1
 have hb:u=.bool b:=hv1.1
 refine ⟨by rw [he,hb],hm.os,hm.output,hm.size,fun i hi=>hm.old i hi ?_⟩
 rintro ⟨x,j,hx,_⟩
 have:=(bG0 hlen hd hr).fre x j 0 hx
 have hx':(aX (bO args []) x).aR j=false:=by
  rcases Nat.lt_or_ge x args.length with h | h
  ·have hdx:=(List.all_eq_true.1 hd) _ (List.getElem_mem h)
   rw [bY h,List.getD_eq_getElem?_getD]
   simp only [List.getElem?_eq_getElem h,Option.getD_some]
   cases hc:args[x] <;> rw [hc] at hdx <;> first | (cases j <;> rfl) | (simp [AV.jD] at hdx)
  ·rw [bO,pW,if_neg (by omega)]
   cases j <;> rfl
 rw [hx'] at hx
 cases hx
section
variable {H:Type} {enc:TypeId×Value→H} {P:Program}
theorem cI5 {f:Func} {s:ChangeSpec} {apart fresh handsOn again:Bool} {W W':World} {args:Array Value} {v:Value} {ds gs:List (DataW H)} {before pa pv:List MemPlace}
  (hW:DataW.Whole enc P f.params.toList s.vars apart W args.toList ds gs before) (hk:pQ W W')
  (hres:∀ (b:Nat) (sp:Nat→Bool) (hd:Bool),DataW.TrodAll enc P W' b sp hd f.resultTypes.toList (v.resultList f.resultTypes.size) (s.fn H (ds++gs)).results [])
  (hargs:∀ sp:Nat→Bool,(∀ p∈before,sp p.block=true)→DataW.TrodAll enc P W' 0 sp true f.params.toList args.toList (s.fn H (ds++gs)).args pa)
  (hvars:∀ sp:Nat→Bool,(∀ p∈before,sp p.block=true)→DataW.TrodVars enc P W' sp s.vars (s.fn H (ds++gs)).vars pv)
  (hps:before=pa++pv)
  (hok:∀ (j:Nat) (t:TypeId) (r:Value),f.resultTypes[j]? = some t→(v.resultList f.resultTypes.size)[j]? = some r→Value.okWide P W' .any 0 t r) :
  s.post enc P f apart fresh handsOn again W args v W':=by
 have hlt:=hW.lt
 refine ⟨ds,gs,before,[],pa,pv,hW,hres _ _ _,hargs _ (fun p hp=>by simpa using hlt p hp),hvars _ (fun p hp=>by simpa using hlt p hp),hk.but _,fun _=>?_⟩
 obtain ⟨_,_,_,_,_,hz,hn⟩:=hW
 refine ⟨hok,_,_,([]++pa)++pv,⟨[]++pa,pv,trodAll_append (hargs _ (fun _ _=>rfl)) (hres _ _ _),hvars _ (fun _ _=>rfl),rfl,?_,?_⟩,?_⟩
 ·intro b off hp
  have hb:MemPlace.cell b off∈before:=by rw [hps]; simpa using hp
  rw [hk.frozen _ (hlt _ hb)]
  exact hz b off hb
 ·intro ha
  have:=hn ha
  rw [hps] at this
  simpa using this
 ·intro p hp _
  rw [hps]
  simpa using hp
end
end Go.Vm
namespace Go.Vm
theorem oD {x:Int} (h : -9223372036854775808≤x∧x≤9223372036854775807):IntKind.i64.wrap x=x:=by
 unfold IntKind.wrap
 simp [IntKind.bits,IntKind.signed]
 omega
def up {α:Type} (f:Int→α):Int→Nat→List α
 | _,0=>[]
 | i,m+1=>f i :: up f (i+1) m
theorem bN {α:Type} {p:Prop} [Decidable p] {k:Option α} (h:p):chk p k=k:=if_pos h
theorem aN {α γ:Type} {x:α} {k:α→Option γ}:call (some x) k=k x:=rfl
theorem bR {α γ:Type} {x:α} {k:α→Option γ}:dE x k=k x:=rfl
theorem cK {σ ε γ:Type} {x:σ} {kr:ε→Option γ} {k:σ→Option γ}:dO (some (.go x)) kr k=k x:=rfl
theorem dH {σ ε γ:Type} {x:ε} {kr:ε→Option γ} {k:σ→Option γ}:dO (some (.esc x)) kr k=kr x:=rfl
end Go.Vm
namespace Go.Vm
open Go.ChangeShapes Go.RowKit Go.WideShapes
def vB {α:Type} (P:Program) (t:TypeId) (enc:α→List Dat) (Q:α→Prop):Prop :=
 ∀ (H:Type) (en:TypeId×Value→H) (W:World) (n:Nat) (cs:List Value) (x:DataW H×List MemPlace),
  DataW.trod en P W 0 (fun _=>true) true n t cs=some x→∃ a,Q a∧cs.length=(enc a).length∧RCs (vK W) W (enc a) (fun j=>cs[j]?) 0
section
variable {P:Program} {t:TypeId}
theorem aF8 {k:IntKind} (ht:P.underlying t=some (.int k)):vB P t (cI k) (fun n=>(Lit.int k n).wf=true):=by
 intro H en W n cs x h
 obtain ⟨a,rfl,rfl,hw⟩:=DataW.trod_int ht h
 exact ⟨a,hw,rfl,by simp [cI,RCs,RD,Value.oneCell']⟩
theorem aP3 (ht:P.underlying t=some .string):vB P t cS (fun l=>l.length≤maxLen):=by
 intro H en W n cs x h
 obtain ⟨a,rfl,rfl,hw⟩:=DataW.trod_string ht h
 exact ⟨a.data.toList,by show a.data.toList.length≤maxLen; rw [Array.length_toList]; exact hw,rfl,by simp only [cS,RCs,RD,strOf]; exact ⟨⟨_,rfl,rfl⟩,trivial⟩⟩
theorem aX3 {α:Type} {R:Nat→α→Prop}:∀ (n:Nat),(∀ i,i < n→∃ a,R i a)→∃ l:List α,l.length=n∧∀ i a,l[i]? = some a→R i a
 | 0,_=>⟨[],rfl,fun i a h=>by simp at h⟩
 | n+1,h=>by
  obtain ⟨l,h1,h2⟩:=aX3 n (fun i hi=>h i (by omega))
  obtain ⟨a,ha⟩:=h n (by omega)
  refine ⟨l++[a],by simp [h1],fun i b hb=>?_⟩
  rcases Nat.lt_or_ge i n with hi | hi
  ·rw [List.getElem?_append_left (by omega)] at hb
   exact h2 i b hb
  ·rw [List.getElem?_append_right (by omega),h1] at hb
   have hi0:i - n=0:=by
    rcases Nat.eq_zero_or_pos (i - n) with h0 | h0
    ·exact h0
    ·rw [List.getElem?_eq_none (by simp; omega)] at hb
     cases hb
   rw [hi0] at hb
   simp at hb
   have:i=n:=by omega
   subst this
   subst hb
   exact ha
theorem yI {W:World} {a:Addr} {n:Nat} {cs:List Value} (h:W.cells? 0 a n=some cs) (hn:0 < n):a.spot=none∧cs.length=n∧∃ arr E fz,W.heap[a.block]? = some (.cells arr E fz)∧∀ j,j < n→arr[a.off+j]? = cs[j]? := by
 unfold World.cells? at h
 rw [if_pos (Nat.zero_le _)] at h
 have hl:cs.length=n:=by simpa using mapM_some_length h
 have hg:∀ j,j < n→W.cell? (a.add j)=cs[j]? := fun j hj=>mapM_some_get h j j (by simp [hj])
 have h0:=hg 0 hn
 rw [List.getElem?_eq_getElem (by omega)] at h0
 simp only [Addr.add,if_true,World.cell?] at h0
 split at h0
 ·rename_i arr E fz hb
  split at h0
  ·cases h0
  ·rename_i hs
   have hs':a.spot=none:=by simpa using hs
   refine ⟨hs',hl,arr,E,fz,hb,fun j hj=>?_⟩
   have:=hg j hj
   rw [← this]
   by_cases hj0:j=0
   ·subst hj0
    simp [World.cell?,Addr.add,hb,hs']
   ·simp [World.cell?,Addr.add,hb,hj0]
 ·cases h0
theorem aR8 {α:Type} {e:TypeId} {enc:α→List Dat} {Q:α→Prop} {sz:Nat} (ht:P.underlying t=some (.slice e)) (hsz:P.cellsOf e=sz) (h0:0 < sz) (he:vB P e enc Q):vB P t (cL sz enc) (fun l=>l.length≤maxLen∧∀ a∈l,Q a):=by
 intro H en W n cs x h
 rcases DataW.trod_slice ht h with ⟨rfl,rfl⟩ | ⟨a,len,cap,elems,rest,m,_,rfl,rfl,_,hlc,hcm,hlen,hel,hsp,_⟩
 ·refine ⟨[],⟨Nat.zero_le _,by simp⟩,rfl,?_⟩
  simp only [cL,List.map_nil,RCs,and_true]
  exact ⟨_,rfl,by unfold RD; exact .inl ⟨⟨_,rfl⟩,rfl⟩⟩
 ·obtain ⟨hrl,hre⟩:=hsp rfl
  rw [hsz] at hel hre
  have each:∀ i,i < len→∃ y,Q y∧(enc y).length=sz∧∃ cs',W.cells? 0 (a.add (i * sz)) sz=some cs'∧RCs (vK W) W (enc y) (fun j=>cs'[j]?) 0:=by
   intro i hi
   have h1:=hel i hi
   rw [List.getElem?_eq_getElem (by omega),Option.bind_eq_some_iff] at h1
   obtain ⟨cs',h2,h3⟩:=h1
   obtain ⟨y,hq,hl,hr⟩:=he H en W _ _ _ h3
   exact ⟨y,hq,by rw [← hl,(yI h2 h0).2.1],cs',h2,hr⟩
  obtain ⟨l,hll,hl⟩:=aX3 len each
  have hadd:∀ i,a.spot=none→a.add i=⟨a.block,a.off+i,none⟩:=by
   intro i hs
   obtain ⟨b,o,s⟩:=a
   simp only at hs
   subst hs
   simp only [Addr.add]
   split
   ·rename_i hi; subst hi; rfl
   ·rfl
  refine ⟨l,⟨by omega,fun y hy=>?_⟩,rfl,?_⟩
  ·obtain ⟨i,hi,rfl⟩:=List.getElem_of_mem hy
   exact (hl i _ (List.getElem?_eq_getElem hi)).1
  ·simp only [cL,RCs,and_true]
   refine ⟨_,rfl,?_⟩
   unfold RD
   by_cases hc:cap=0
   ·left
    have:len=0:=by omega
    subst hc
    subst this
    exact ⟨⟨_,rfl⟩,by rw [List.eq_nil_of_length_eq_zero hll]; rfl⟩
   ·right
    have first:∃ cs',W.cells? 0 (a.add 0) sz=some cs':=by
     rcases Nat.eq_zero_or_pos len with hz | hp
     ·have h1:=hre 0 (by omega)
      rw [List.getElem?_eq_getElem (by omega),Option.bind_eq_some_iff] at h1
      obtain ⟨cs',h2,_⟩:=h1
      rw [hz] at h2
      simp only [Nat.zero_add,Nat.zero_mul] at h2
      exact ⟨cs',h2⟩
     ·obtain ⟨_,_,_,cs',h2,_⟩:=each 0 hp
      simp only [Nat.zero_mul] at h2
      exact ⟨cs',h2⟩
    obtain ⟨cs0,hf⟩:=first
    rw [show a.add 0=a from rfl] at hf
    obtain ⟨hspot,_,arr,E,fz,hb,_⟩:=yI hf h0
    refine ⟨a.block,a.off,cap,arr,E,fz,?_,by simp [hll]; omega,?_,hb,REs.dJ _ _ fun j d hd=>?_⟩
    ·rw [List.length_map,hll,show (⟨a.block,a.off,none⟩:Addr)=a.add 0 from (hadd 0 hspot).symm]
     rfl
    ·exact (Array.getElem?_eq_some_iff.1 hb).1
    ·rw [List.getElem?_map,Option.map_eq_some_iff] at hd
     obtain ⟨y,hy,rfl⟩:=hd
     obtain ⟨_,h1,cs',h2,h3⟩:=hl j y hy
     refine ⟨h1,RCs.congr _ 0 _ (fun i hi=>?_) h3⟩
     obtain ⟨_,_,arr',E',fz',hb',hg⟩:=yI h2 h0
     rw [hadd _ hspot] at hb' hg
     simp only at hb' hg
     rw [hb] at hb'
     cases hb'
     rw [hg i (by omega),Nat.zero_add]
theorem vB.map {α γ:Type} {enc:α→List Dat} {enc':γ→List Dat} {Q:α→Prop} {Q':γ→Prop} (h:vB P t enc Q) (f:α→γ) (he:∀ a,enc' (f a)=enc a) (hq:∀ a,Q a→Q' (f a)):vB P t enc' Q':=by
 intro H en W n cs x hx
 obtain ⟨a,h1,h2,h3⟩:=h H en W n cs x hx
 exact ⟨f a,hq a h1,by rw [he]; exact h2,by rw [he]; exact h3⟩
def bM3 {β:Type} (P:Program) (N:Nat) (fs:List Field) (o:Nat) (enc:β→List Dat) (Q:β→Prop):Prop :=
 ∀ (H:Type) (en:TypeId×Value→H) (W:World) (n:Nat) (cs:List Value),cs.length=N →
  (∀ f∈fs,∃ x,DataW.trod en P W 0 (fun _=>true) true n f.type ((cs.drop f.offset).take (P.cellsOf f.type))=some x)→∃ b,Q b∧o+(enc b).length=N∧RCs (vK W) W (enc b) (fun j=>cs[j]?) o
theorem bC0 (P:Program) (N:Nat):bM3 P N [] N (fun _:Unit=>[]) (fun _=>True):=fun _ _ _ _ _ _ _=>⟨(),trivial,by simp,by simp [RCs]⟩
theorem RCs.append' {S:Nat→Prop} {w:World} {g:Nat→Option Value}:∀ (xs ys:List Dat) (o:Nat),RCs S w xs g o→RCs S w ys g (o+xs.length)→RCs S w (xs++ys) g o
 | [],ys,o,_,h=>by simpa using h
 | x :: xs,ys,o,h,h2=>by
  simp only [List.cons_append,RCs] at h ⊢
  refine ⟨h.1,RCs.append' xs ys (o+1) h.2 ?_⟩
  have:o+(x :: xs).length=o+1+xs.length:=by simp; omega
  rwa [this] at h2
theorem uH {α β:Type} {f:Field} {fs:List Field} {N o sz:Nat} {enc:α→List Dat} {encs:β→List Dat} {Q:α→Prop} {Qs:β→Prop} (ho:f.offset=o) (hsz:P.cellsOf f.type=sz) (hN:o+sz≤N)
  (h:vB P f.type enc Q) (hs:bM3 P N fs (o+sz) encs Qs):bM3 P N (f :: fs) o (fun x:α×β=>enc x.1++encs x.2) (fun x=>Q x.1∧Qs x.2):=by
 intro H en W n cs hcs hx
 obtain ⟨b,h1,h2,h3⟩:=hs H en W n cs hcs (fun f' hf=>hx f' (List.mem_cons_of_mem _ hf))
 obtain ⟨x,hx0⟩:=hx f (List.mem_cons_self ..)
 rw [ho,hsz] at hx0
 obtain ⟨a,h4,h5,h6⟩:=h H en W n _ _ hx0
 have hl:(enc a).length=sz:=by
  rw [← h5,List.length_take,List.length_drop]
  omega
 refine ⟨(a,b),⟨h4,h1⟩,by simp [hl]; omega,RCs.append' _ _ _ (RCs.congr _ 0 o (fun j hj=>?_) h6) (by rw [hl]; exact h3)⟩
 simp only [Nat.zero_add,List.getElem?_take,List.getElem?_drop]
 simp only at hj
 rw [if_pos (by omega)]
theorem aN9 {β:Type} {fs:Array Field} {N:Nat} {enc:β→List Dat} {Q:β→Prop} (ht:P.underlying t=some (.struct fs)) (hN:P.cellsOf t=N) (h:bM3 P N fs.toList 0 enc Q):vB P t enc Q:=by
 intro H en W n cs x hx
 obtain ⟨xs,m,_,_,hl,hxl,hf⟩:=DataW.trod_struct ht hx
 obtain ⟨b,h1,h2,h3⟩:=h H en W m cs (by rw [hl,hN]) (fun f hfm=>by
  obtain ⟨i,hi,rfl⟩:=List.getElem_of_mem hfm
  have hi':i < fs.size:=by simpa using hi
  have:=hf i fs[i] (by simp [hi'])
  rw [List.getElem?_eq_getElem (by omega)] at this
  exact ⟨_,by simpa using this⟩)
 exact ⟨b,h1,by rw [hl,hN,← h2]; omega,h3⟩
def yG {β:Type} (P:Program) (ts:List TypeId) (av:β→List AV) (Q:β→Prop):Prop :=
 ∀ (H:Type) (en:TypeId×Value→H) (W:World) (base:Nat) (vs:List Value) (ds:List (DataW H)) (ps:List MemPlace),
  (∀ (j:Nat) t v,ts[j]? = some t→vs[j]? = some v→Value.okWide P W .any base t v)→DataW.TrodAll en P W 0 (fun _=>true) true ts vs ds ps →
  ∃ b,Q b∧vs.length=(av b).length∧(av b).all AV.jD=true∧∀ i,bI (fun _ a u=>bA (vK W) W (fun _=>.bool false) (0,0) a u) i (av b) vs
theorem bD8 (P:Program):yG P [] (fun _:Unit=>[]) (fun _=>True):=by
 intro H en W base vs ds ps _ h
 cases vs with
 | nil=>exact ⟨(),trivial,rfl,rfl,fun _=>by simp [bI]⟩
 | cons v vs=>exact h.elim
theorem bU7 {r:Reach} {b0:Nat} {W:World} {v:Value} {fs:Array Field} (ht:P.underlying t=some (.struct fs)) (ho:Value.okWide P W r b0 t v):∃ cs,v=.agg cs:=by
 simp only [Value.okWide,ht] at ho
 exact ⟨_,ho.choose_spec.1⟩
theorem bC8 {α β:Type} {ts:List TypeId} {fs:Array Field} {enc:α→List Dat} {av:β→List AV} {Q:α→Prop} {Qs:β→Prop} (ht:P.underlying t=some (.struct fs)) (h:vB P t enc Q) (hs:yG P ts av Qs) :
  yG P (t :: ts) (fun z:α×β=>.agg (enc z.1) :: av z.2) (fun z=>Q z.1∧Qs z.2):=by
 intro H en W base vs ds ps hok hd
 cases vs with
 | nil=>exact hd.elim
 | cons v vs =>
  cases ds with
  | nil=>exact hd.elim
  | cons d ds =>
   obtain ⟨p,q,⟨n,h1⟩,h2,_⟩:=hd
   obtain ⟨b,h3,h4,h5,h6⟩:=hs H en W base vs ds q (fun j t' v' ht hv=>hok (j+1) t' v' (by simpa using ht) (by simpa using hv)) h2
   obtain ⟨a,h7,h8,h9⟩:=h H en W n _ _ h1
   obtain ⟨cs,rfl⟩:=bU7 ht (hok 0 t v rfl rfl)
   refine ⟨(a,b),⟨h7,h3⟩,by simp [h4],by simpa [AV.jD] using h5,fun i=>?_⟩
   simp only [bI]
   exact ⟨⟨cs.toList,by simp,h8,h9⟩,h6 _⟩
theorem pQ.below {W W':World} (h:pQ W W'):W.keptBut W' (fun _=>False):=h.but _
theorem pQ.same {W W':World} (h:pQ W W') {p:MemPlace} (hp:p.block < W.heap.size):W.sameAt W' p:=by
 cases p with
 | cell b o=>exact World.cell?_of_block (w:=W) (h.heap b hp)
 | map b=>exact h.heap b hp
theorem aN8 {H:Type} {en:TypeId×Value→H} {W W':World} (hl:laidOutB P=true) (hk:pQ W W') (sp:Nat→Bool):∀ {ts:List TypeId} {vs:List Value} {ds:List (DataW H)} {ps:List MemPlace},
  (ts.all fun t=>P.readableRec t && decide (t < P.types.size))=true→DataW.TrodAll en P W 0 (fun _=>true) true ts vs ds ps→(∀ p∈ps,p.block < W.heap.size)→(∀ p∈ps,sp p.block=true)→DataW.TrodAll en P W' 0 sp true ts vs ds ps
 | [],[],[],_,_,h,_,_=>h
 | [],[],_ :: _,_,_,h,_,_=>h.elim
 | [],_ :: _,_,_,_,h,_,_=>h.elim
 | _ :: _,[],_,_,_,h,_,_=>h.elim
 | _ :: _,_ :: _,[],_,_,h,_,_=>h.elim
 | t :: ts,v :: vs,d :: ds,ps,hr,h,hlt,hsp=>by
  obtain ⟨p,q,h1,h2,rfl⟩:=h
  simp only [List.all_cons,Bool.and_eq_true,decide_eq_true_eq] at hr
  refine ⟨p,q,WideElems.Trod_stays hl hr.1.1 hr.1.2 h1 (fun x hx=>hk.same (hlt x (by simp [hx]))) (fun x hx=>hsp x (by simp [hx])),aN8 hl hk sp hr.2 h2 (fun x hx=>hlt x (by simp [hx])) (fun x hx=>hsp x (by simp [hx])),rfl⟩
end
end Go.Vm
namespace Go.Vm
open Go.ChangeShapes Go.RowKit Go.WideShapes
def rQ {α:Type} (b:Nat) (P:Program) (t:TypeId) (enc:α→List Dat) (Q:α→Prop):Prop :=
 ∀ (H:Type) (en:TypeId×Value→H) (W:World) (n:Nat) (cs:List Value) (x:DataW H×List MemPlace),
  n < b→DataW.trod en P W 0 (fun _=>true) true n t cs=some x→∃ a,Q a∧cs.length=(enc a).length∧RCs (vK W) W (enc a) (fun j=>cs[j]?) 0
section
variable {P:Program} {t:TypeId}
theorem vB.toB {α:Type} {enc:α→List Dat} {Q:α→Prop} (h:vB P t enc Q) (b:Nat):rQ b P t enc Q:=fun H en W n cs x _ hx=>h H en W n cs x hx
theorem rQ.mono {α:Type} {enc:α→List Dat} {Q:α→Prop} {b b':Nat} (h:rQ b P t enc Q) (hb:b'≤b):rQ b' P t enc Q:=fun H en W n cs x hn hx=>h H en W n cs x (by omega) hx
theorem rQ.map {α γ:Type} {b:Nat} {enc:α→List Dat} {enc':γ→List Dat} {Q:α→Prop} {Q':γ→Prop} (h:rQ b P t enc Q) (f:α→γ) (he:∀ a,enc' (f a)=enc a) (hq:∀ a,Q a→Q' (f a)):rQ b P t enc' Q':=by
 intro H en W n cs x hn hx
 obtain ⟨a,h1,h2,h3⟩:=h H en W n cs x hn hx
 exact ⟨f a,hq a h1,by rw [he]; exact h2,by rw [he]; exact h3⟩
theorem cJ0 {α:Type} {enc:α→List Dat} {Q:α→Prop} (h:∀ b,rQ b P t enc Q→rQ (b+1) P t enc Q):vB P t enc Q:=by
 have key:∀ b,rQ b P t enc Q:=by
  intro b
  induction b with
  | zero=>intro H en W n cs x hn; omega
  | succ b ih=>exact h b ih
 exact fun H en W n cs x hx=>key (n+1) H en W n cs x (Nat.lt_succ_self n) hx
theorem bL7 {α:Type} {e:TypeId} {enc:α→List Dat} {Q:α→Prop} {sz b:Nat} (ht:P.underlying t=some (.slice e)) (hsz:P.cellsOf e=sz) (h0:0 < sz) (he:rQ b P e enc Q):rQ (b+1) P t (cL sz enc) (fun l=>l.length≤maxLen∧∀ a∈l,Q a):=by
 intro H en W n cs x hnb h
 rcases DataW.trod_slice ht h with ⟨rfl,rfl⟩ | ⟨a,len,cap,elems,rest,m,hm,rfl,rfl,_,hlc,hcm,hlen,hel,hsp,_⟩
 ·refine ⟨[],⟨Nat.zero_le _,by simp⟩,rfl,?_⟩
  simp only [cL,List.map_nil,RCs,and_true]
  exact ⟨_,rfl,by unfold RD; exact .inl ⟨⟨_,rfl⟩,rfl⟩⟩
 ·obtain ⟨hrl,hre⟩:=hsp rfl
  rw [hsz] at hel hre
  have each:∀ i,i < len→∃ y,Q y∧(enc y).length=sz∧∃ cs',W.cells? 0 (a.add (i * sz)) sz=some cs'∧RCs (vK W) W (enc y) (fun j=>cs'[j]?) 0:=by
   intro i hi
   have h1:=hel i hi
   rw [List.getElem?_eq_getElem (by omega),Option.bind_eq_some_iff] at h1
   obtain ⟨cs',h2,h3⟩:=h1
   obtain ⟨y,hq,hl,hr⟩:=he H en W _ _ _ (by omega) h3
   exact ⟨y,hq,by rw [← hl,(yI h2 h0).2.1],cs',h2,hr⟩
  obtain ⟨l,hll,hl⟩:=aX3 len each
  have hadd:∀ i,a.spot=none→a.add i=⟨a.block,a.off+i,none⟩:=by
   intro i hs
   obtain ⟨b,o,s⟩:=a
   simp only at hs
   subst hs
   simp only [Addr.add]
   split
   ·rename_i hi; subst hi; rfl
   ·rfl
  refine ⟨l,⟨by omega,fun y hy=>?_⟩,rfl,?_⟩
  ·obtain ⟨i,hi,rfl⟩:=List.getElem_of_mem hy
   exact (hl i _ (List.getElem?_eq_getElem hi)).1
  ·simp only [cL,RCs,and_true]
   refine ⟨_,rfl,?_⟩
   unfold RD
   by_cases hc:cap=0
   ·left
    have:len=0:=by omega
    subst hc
    subst this
    exact ⟨⟨_,rfl⟩,by rw [List.eq_nil_of_length_eq_zero hll]; rfl⟩
   ·right
    have first:∃ cs',W.cells? 0 (a.add 0) sz=some cs':=by
     rcases Nat.eq_zero_or_pos len with hz | hp
     ·have h1:=hre 0 (by omega)
      rw [List.getElem?_eq_getElem (by omega),Option.bind_eq_some_iff] at h1
      obtain ⟨cs',h2,_⟩:=h1
      rw [hz] at h2
      simp only [Nat.zero_add,Nat.zero_mul] at h2
      exact ⟨cs',h2⟩
     ·obtain ⟨_,_,_,cs',h2,_⟩:=each 0 hp
      simp only [Nat.zero_mul] at h2
      exact ⟨cs',h2⟩
    obtain ⟨cs0,hf⟩:=first
    rw [show a.add 0=a from rfl] at hf
    obtain ⟨hspot,_,arr,E,fz,hb,_⟩:=yI hf h0
    refine ⟨a.block,a.off,cap,arr,E,fz,?_,by simp [hll]; omega,?_,hb,REs.dJ _ _ fun j d hd=>?_⟩
    ·rw [List.length_map,hll,show (⟨a.block,a.off,none⟩:Addr)=a.add 0 from (hadd 0 hspot).symm]
     rfl
    ·exact (Array.getElem?_eq_some_iff.1 hb).1
    ·rw [List.getElem?_map,Option.map_eq_some_iff] at hd
     obtain ⟨y,hy,rfl⟩:=hd
     obtain ⟨_,h1,cs',h2,h3⟩:=hl j y hy
     refine ⟨h1,RCs.congr _ 0 _ (fun i hi=>?_) h3⟩
     obtain ⟨_,_,arr',E',fz',hb',hg⟩:=yI h2 h0
     rw [hadd _ hspot] at hb' hg
     simp only at hb' hg
     rw [hb] at hb'
     cases hb'
     rw [hg i (by omega),Nat.zero_add]
def aU5 {β:Type} (b:Nat) (P:Program) (N:Nat) (fs:List Field) (o:Nat) (enc:β→List Dat) (Q:β→Prop):Prop :=
 ∀ (H:Type) (en:TypeId×Value→H) (W:World) (n:Nat) (cs:List Value),n < b→cs.length=N →
  (∀ f∈fs,∃ x,DataW.trod en P W 0 (fun _=>true) true n f.type ((cs.drop f.offset).take (P.cellsOf f.type))=some x)→∃ y,Q y∧o+(enc y).length=N∧RCs (vK W) W (enc y) (fun j=>cs[j]?) o
theorem bT4 (b:Nat) (P:Program) (N:Nat):aU5 b P N [] N (fun _:Unit=>[]) (fun _=>True):=fun _ _ _ _ _ _ _ _=>⟨(),trivial,by simp,by simp [RCs]⟩
theorem rT {α β:Type} {f:Field} {fs:List Field} {N o sz b:Nat} {enc:α→List Dat} {encs:β→List Dat} {Q:α→Prop} {Qs:β→Prop} (ho:f.offset=o) (hsz:P.cellsOf f.type=sz) (hN:o+sz≤N)
  (h:rQ b P f.type enc Q) (hs:aU5 b P N fs (o+sz) encs Qs):aU5 b P N (f :: fs) o (fun x:α×β=>enc x.1++encs x.2) (fun x=>Q x.1∧Qs x.2):=by
 intro H en W n cs hnb hcs hx
 obtain ⟨y,h1,h2,h3⟩:=hs H en W n cs hnb hcs (fun f' hf=>hx f' (List.mem_cons_of_mem _ hf))
 obtain ⟨x,hx0⟩:=hx f (List.mem_cons_self ..)
 rw [ho,hsz] at hx0
 obtain ⟨a,h4,h5,h6⟩:=h H en W n _ _ hnb hx0
 have hl:(enc a).length=sz:=by
  rw [← h5,List.length_take,List.length_drop]
  omega
 refine ⟨(a,y),⟨h4,h1⟩,by simp [hl]; omega,RCs.append' _ _ _ (RCs.congr _ 0 o (fun j hj=>?_) h6) (by rw [hl]; exact h3)⟩
 simp only [Nat.zero_add,List.getElem?_take,List.getElem?_drop]
 simp only at hj
 rw [if_pos (by omega)]
theorem bD5 {β:Type} {fs:Array Field} {N b:Nat} {enc:β→List Dat} {Q:β→Prop} (ht:P.underlying t=some (.struct fs)) (hN:P.cellsOf t=N) (h:aU5 b P N fs.toList 0 enc Q):rQ (b+1) P t enc Q:=by
 intro H en W n cs x hnb hx
 obtain ⟨xs,m,hm,_,hl,hxl,hf⟩:=DataW.trod_struct ht hx
 obtain ⟨y,h1,h2,h3⟩:=h H en W m cs (by omega) (by rw [hl,hN]) (fun f hfm=>by
  obtain ⟨i,hi,rfl⟩:=List.getElem_of_mem hfm
  have hi':i < fs.size:=by simpa using hi
  have:=hf i fs[i] (by simp [hi'])
  rw [List.getElem?_eq_getElem (by omega)] at this
  exact ⟨_,by simpa using this⟩)
 exact ⟨y,h1,by rw [hl,hN,← h2]; omega,h3⟩
end
end Go.Vm
namespace Go.Vm
open Go.RowKit (Below)
def cU (x:UInt8):List Dat:=[.v (.int .u8 (x.toNat:Int))]
theorem aC6 {v:Int} (h:0≤v∧v < 256):[Dat.v (.int .u8 v)]=cU (UInt8.ofNat v.toNat):=by
 obtain ⟨k,rfl⟩:=Int.eq_ofNat_of_zero_le h.1
 have:k < 256:=by omega
 simp only [cU,Int.toNat_natCast,UInt8.toNat_ofNat']
 rw [Nat.mod_eq_of_lt (by omega)]
theorem oZ {v:Int} {rs:List (List Dat)} {r:List UInt8} (h:0≤v∧v < 256) (hr:rs=r.map cU):[Dat.v (.int .u8 v)] :: rs=(UInt8.ofNat v.toNat :: r).map cU:=by
 rw [aC6 h,hr]; rfl
section
variable {P:Program} {e:Env} {S:Nat→Prop} {β:Path→Value} {fr:Fr} {vals:Nat→Option Value} {w:World}
theorem Mem.cA4 (hm:Mem e [] S β fr vals w) {vout:List AV} (hv:∀ j a,vout[j]? = some a→aX fr (aD+j)=a∧a.rO=true) {res:AV} {u:Value} (hres:∀ β',dV (dN []) S w β' aS res u) (hown:∀ j,res.aR j=false) (hgd:res.zN=true)
  {L:Nat→Option Value} (hL:∀ x u',aD≤x→L x=some u'→vals x=some u'):Mem e [] S β ((aS,res) :: jG aD vout) (fun x=>if x=aS then some u else L x) w:=by
 have hat:∀ x,x≠aS→(∃ j a,x=aD+j∧vout[j]? = some a∧aX ((aS,res) :: jG aD vout) x=a)∨aX ((aS,res) :: jG aD vout) x=.junk:=by
  intro x hx
  rw [bL _ _ (Ne.symm hx),mM]
  split
  ·rename_i hc
   left
   refine ⟨x - aD,vout.getD (x - aD) .junk,by omega,?_,rfl⟩
   rw [List.getD_eq_getElem?_getD,List.getElem?_eq_getElem (by omega)]
   rfl
  ·exact .inr rfl
 have hsrc:∀ x i,(aX ((aS,res) :: jG aD vout) x).aR i=true→(aX fr x).aR i=true:=by
  intro x i ho
  by_cases hx:x=aS
  ·subst hx; rw [aV,hown] at ho; cases ho
  ·rcases hat x hx with ⟨j,a,rfl,ha,hf⟩ | hf
   ·rw [hf] at ho; rw [(hv j a ha).1]; exact ho
   ·rw [hf] at ho; cases i <;> simp [AV.aR,AV.bV] at ho
 refine ⟨fun x=>?_,fun x l av h=>?_,fun x i y j b h1 h2=>hm.dis x i y j b (hsrc x i h1) (hsrc y j h2),fun x i b h1=>hm.fre x i b (hsrc x i h1),hm.stb,hm.s0,hm.old,hm.os,hm.tape,hm.output,hm.size⟩
 ·by_cases hx:x=aS
  ·subst hx
   exact ⟨u,by rw [aV]; exact hres β,fun u' h=>by simpa using h.symm⟩
  ·rcases hat x hx with ⟨j,a,rfl,ha,hf⟩ | hf
   ·obtain ⟨u0,hr,hu⟩:=hm.rel (aD+j)
    rw [(hv j a ha).1] at hr
    refine ⟨u0,by rw [hf]; exact hr,fun u' h=>hu u' ?_⟩
    rw [if_neg hx] at h
    exact hL _ _ (by omega) h
   ·refine ⟨(L x).getD undef,by rw [hf]; exact trivial,fun u' h=>?_⟩
    rw [if_neg hx] at h
    simp [h]
 ·by_cases hx:x=aS
  ·subst hx; rw [aV] at h; rw [h] at hgd; cases hgd
  ·rcases hat x hx with ⟨j,a,rfl,ha,hf⟩ | hf
   ·have:=cG4 (hv j a ha).2
    rw [hf] at h; rw [h] at this; cases this
   ·rw [hf] at h; cases h
theorem cL7 {off:Nat} {vin:List AV} {us:List Value} (hus:us.length=1) (hm:Mem e [] S β (bO [.bp aD off] vin) (fun x=>(us[x]?).or (bT β vin.length x)) w):∃ b,us=[.pointer (some ⟨b,off,none⟩)]∧β (aD,0)=.pointer (some ⟨b,0,none⟩):=by
 match us,hus with
 | [u],_ =>
  obtain ⟨u0,hr,hu⟩:=hm.rel 0
  rw [bY (by simp)] at hr
  have:=hu u (by simp)
  subst this
  obtain ⟨b,h1,h2⟩:=(dD rfl).1 hr
  exact ⟨b,by rw [h2],h1⟩
theorem cB6 {args:List AV} {cs:List AV} {_us:List Value} (hal:args.length < aS) (hm:Mem e [] S β (bO args [.box cs]) vals w) {b:Nat} (hb:β (aD,0)=.pointer (some ⟨b,0,none⟩)) :
  ∃ l E,w.heap[b]? = some (.cells ⟨l⟩ E (0,0))∧kN S w β aD cs l:=by
 obtain ⟨u0,hr,_⟩:=hm.rel aD
 have hf:aX (bO args [.box cs]) aD=.box cs:=by
  have:=dF (vin:=[.box cs]) (j:=0) hal
  simpa using this
 rw [hf] at hr
 obtain ⟨h0,b',l,E,h1,h2,h3⟩:=hr
 rw [← h0,h1] at hb
 simp only [Value.pointer.injEq,Option.some.injEq,Addr.mk.injEq] at hb
 obtain ⟨rfl,_⟩:=hb
 exact ⟨l,E,h2,h3⟩
theorem aF9 {us:List Value} {n:Nat} (h:us.length≤aD) {x:Nat} {u':Value} (hx:aD≤x) (hl:bT β n x=some u'):((us[x]?).or (bT β n x))=some u':=by
 rw [List.getElem?_eq_none (by omega)]
 simpa using hl
theorem aG.copyCheck {k tb:Nat} (hk:iY P k)
  (used:∀ (b off:Nat) (w:World),w.cell? ⟨b,off,none⟩=some (.pointer (some ⟨b,off,none⟩))→Calls P k #[.pointer (some ⟨b,off,none⟩)] w fun e w'=>e=.returned (.tuple #[])∧w'=w)
  (fresh:∀ (b off E n:Nat) (w:World),w.cell? ⟨b,off,none⟩=some (.pointer none)→w.shape? b=some (E,n)→off < n→liesAt P P.depth E (n / P.cellsOf E) off tb 1=true→w.frozen? ⟨b,off,none⟩=false →
   Calls P k #[.pointer (some ⟨b,off,none⟩)] w fun e w'=>e=.returned (.tuple #[])∧w'=w.setCell ⟨b,off,none⟩ (.pointer (some ⟨b,off,none⟩)))
  {off E:Nat} {cs:List AV} (hc:cs[off]? = some (.slf off E)) (hlies:liesAt P P.depth E (cs.length / P.cellsOf E) off tb 1=true) (hb:(AV.box cs).rO=true) :
  aG P k [.bp aD off] [.box cs] (.tup []) [.box cs]:=by
 refine ⟨hk,fun w S β us hus hm=>?_⟩
 obtain ⟨b,rfl,hβ⟩:=cL7 (by simpa using hus) hm
 obtain ⟨l,E',hb',hparts⟩:=cB6 (_us:=[]) (by simp [aS]) hm hβ
 have hlen:l.length=cs.length:=(bI.len hparts).symm
 obtain ⟨c,hcl,hrc⟩:=bI.get hparts off _ hc
 obtain ⟨_,hty,hcase⟩:=hrc
 have hE:E'=E:=by
  rw [hβ] at hty
  simp only [aE5,hb',Option.some.injEq] at hty
  exact hty
 subst hE
 have hoff:off < l.length:=(List.getElem?_eq_some_iff.1 hcl).1
 have hcell:w.cell? ⟨b,off,none⟩=some c:=by simp [World.cell?,hb',hcl]
 have hfin:∀ w',(∃ S' β',Mem ⟨w,eD (bO [.bp aD off] [.box cs]) β,S,bT β [AV.box cs].length,[]⟩ [] S' β' (bO [.bp aD off] [.box cs]) (fun x=>(([Value.pointer (some ⟨b,off,none⟩)])[x]?).or (bT β [AV.box cs].length x)) w') →
   ∃ u S' β',Ending.returned (.tuple #[])=.returned u∧Mem ⟨w,eD (bO [.bp aD off] [.box cs]) β,S,bT β [AV.box cs].length,[]⟩ [] S' β' ((aS,.tup []) :: jG aD [.box cs]) (fun x=>if x=aS then some u else bT β [AV.box cs].length x) w':=by
  rintro w' ⟨S',β',hm'⟩
  refine ⟨.tuple #[],S',β',rfl,hm'.cA4 (res:=.tup []) (u:=.tuple #[]) (fun j a ha=>?_) (fun β'=>(⟨[],rfl,rfl,trivial⟩:∃ l,Value.tuple #[]=.tuple ⟨l⟩∧([]:List AV).all AV.aI6=true∧kN S' w' β' aS [] l)) (fun j=>by cases j <;> rfl) rfl (fun x u' hx hl=>aF9 (by simp [aD]) hx hl)⟩
  have hj:j=0∧a=.box cs:=by
   cases j with
   | zero=>simp at ha; exact ⟨rfl,ha.symm⟩
   | succ j=>simp at ha
  obtain ⟨rfl,rfl⟩:=hj
  refine ⟨?_,hb⟩
  have:=dF (as:=[.bp aD off]) (vin:=[.box cs]) (j:=0) (by simp [aS])
  simpa using this
 rcases hcase with rfl | ⟨b2,h1,rfl⟩
 ·refine (fresh b off E' cs.length w hcell (by simp [World.shape?,hb',hlen]) (by omega) hlies (by simp [World.frozen?,hb'])).mono ?_
  rintro e w' ⟨rfl,rfl⟩
  refine hfin _ ?_
  rw [setCell_eq_setRow w b off _ _ _ _ hb']
  have hst:=hm.bQ7 (l':=l.set off (.pointer (some ⟨b,off,none⟩))) (cs':=cs) (y:=aD) (b:=b) (by
    have:=dF (as:=[.bp aD off]) (vin:=[.box cs]) (j:=0) (by simp [aS])
    simpa using this) hβ hb' (by simp) ?_ (fun i h=>h)
  ·refine ⟨S,β,?_⟩
   have hl2:(l.toArray.setIfInBounds off (Value.pointer (some ⟨b,off,none⟩)))=(l.set off (.pointer (some ⟨b,off,none⟩))).toArray:=by simp
   rw [hl2]
   refine hst.bA6 fun x=>?_
   by_cases hx:x=aD
   ·subst hx
    rw [aV]
    have:=dF (as:=[.bp aD off]) (vin:=[.box cs]) (j:=0) (by simp [aS])
    simpa using this
   ·rw [bL _ _ (Ne.symm hx)]
  ·refine bI.dJ (by simp; omega) fun j a v ha hv=>?_
   rw [List.getElem?_set] at hv
   by_cases hj:off=j
   ·subst hj
    rw [if_pos rfl,if_pos hoff] at hv
    rw [hc] at ha
    cases hv
    cases ha
    exact ⟨by simp,hty,.inr ⟨b,hβ,rfl⟩⟩
   ·rw [if_neg hj] at hv
    obtain ⟨v',hv',hr⟩:=bI.get hparts j a ha
    rw [hv] at hv'
    cases hv'
    exact hr
 ·rw [hβ] at h1
  simp only [Value.pointer.injEq,Option.some.injEq,Addr.mk.injEq] at h1
  obtain ⟨rfl,_⟩:=h1
  refine (used b off w hcell).mono ?_
  rintro e w' ⟨rfl,rfl⟩
  exact hfin _ ⟨S,β,hm⟩
theorem aC2 (w:World) {pt it ty e:TypeId} (hp:P.underlying pt=some (.pointer e)) (hc:P.cellsOf e=1) (g o cells:Nat) (hsh:w.shape? g=some (e,cells)) (l:List UInt8) (h0:l≠[]) (hn:o+l.length≤cells) (h63:l.length≤9223372036854775807)
  (hcell:∀ j x,l[j]? = some x→w.cell? ((⟨g,o,none⟩:Addr).add j)=some (.int .u8 x.toNat)) :
  (Builtin.unsafeString_ #[pt,it] ty #[.pointer (some ⟨g,o,none⟩),.int .i64 l.length]).run P w=.ok (.string ⟨l.toArray⟩) (w.freeze ⟨g,o,none⟩ l.length):=by
 have hl:l.length≠0:=by simpa using h0
 have hlb:=Lib.run_loadBytes (P:=P) w l ⟨g,o,none⟩ .empty hcell
 have hlies:liesAt P P.depth e (cells / P.cellsOf e) o e l.length=true:=by
  have hd:P.depth=(2 * (P.types.size+Made.depth)+1)+1:=rfl
  rw [hd]
  simp only [liesAt,Bool.or_eq_true]
  left
  rw [hd]
  simp [rowAt,hc,hn,sameLayout,Nat.mod_one]
 have h63':¬ (9223372036854775807:Int) < (l.length:Int):=by omega
 have hdef:Builtin.unsafeString_ #[pt,it] ty #[.pointer (some ⟨g,o,none⟩),.int .i64 l.length] =
   (do
    let n ← asInt (.int .i64 l.length)
    if n < 0 then runtimePanic (.error "unsafe.String: len out of range")
    if n > IntKind.i64.max then unsupported (.unsafePointer "String: a length above the largest int")
    if n=0 then pure (.string .empty)
    else if ← variablesAt ⟨g,o,none⟩ (← elemOf pt) n.toNat then do
     let s ← loadBytes ⟨g,o,none⟩ .empty n.toNat
     freeze ⟨g,o,none⟩ n.toNat
     pure (.string s)
    else unsupported (.unsafePointer "String: not so many bytes at ptr")) := rfl
 rw [hdef]
 have hmax:IntKind.i64.max=9223372036854775807:=rfl
 have hneg:¬ (l.length:Int) < 0:=by omega
 simp [asInt,asIntOf,hmax,h63',hneg,hl,variablesAt,hsh,elemOf,run_underlying hp,hlies,hlb]
theorem bK4 (w:World) {g o n k:Nat} (h:k≠g):(w.freeze ⟨g,o,none⟩ n).heap[k]? = w.heap[k]? := by
 unfold World.freeze
 split
 ·rfl
 ·simp only [Array.getElem?_modify]
  rw [if_neg (Ne.symm h)]
theorem bN4 (w:World) (a:Addr) (n:Nat):(w.freeze a n).heap.size=w.heap.size:=by
 unfold World.freeze
 split
 ·rfl
 ·simp
theorem bQ6 (w:World) (a:Addr) (n:Nat):(w.freeze a n).os=w.os∧(w.freeze a n).tape=w.tape∧(w.freeze a n).output=w.output:=by
 unfold World.freeze
 split <;> exact ⟨rfl,rfl,rfl⟩
theorem aG.cR5 {k tsl tbp ti ts κ:Nat} (hk:iY P k) (hp:P.underlying tbp=some (.pointer κ)) (hcκ:P.cellsOf κ=1) (hκK:decide (κ < 1099511627776)=true)
  (walk:∀ (b off n c:Nat) (q p:Option Addr) (s:ByteArray) (w w1 w2:World),w.drew.cell? ⟨b,off+1,none⟩=some (.slice q n c)→w1.cell? ⟨b,off+1,none⟩=some (.slice q n c) →
   (Builtin.unsafeSliceData_ #[tsl] tbp #[.slice q n c]).run P w.drew=.ok (.pointer p) w1→(Builtin.unsafeString_ #[tbp,ti] ts #[.pointer p,.int .i64 n]).run P w1=.ok (.string s) w2 →
   Calls P k #[.pointer (some ⟨b,off,none⟩)] w fun e w'=>e=.returned (.string s)∧w'=w2)
  {off:Nat} {cs:List AV} {l:List UInt8} (hl63:l.length≤9223372036854775807) (hc:cs[off+1]? = some (.own κ 1 (l.map cU))) (hb:(AV.box (cs.set (off+1) .junk)).rO=true) :
  aG P k [.bp aD off] [.box cs] (.d (.str l)) [.box (cs.set (off+1) .junk)]:=by
 refine ⟨hk,fun w S β us hus hm=>?_⟩
 obtain ⟨b,rfl,hβ⟩:=cL7 (by simpa using hus) hm
 obtain ⟨lv,E',hb',hparts⟩:=cB6 (_us:=[]) (by simp [aS]) hm hβ
 have hfin:aX (bO [.bp aD off] [.box cs]) aD=.box cs:=by
  have:=dF (as:=[.bp aD off]) (vin:=[.box cs]) (j:=0) (by simp [aS])
  simpa using this
 obtain ⟨v,hv,hrv⟩:=bI.get hparts (off+1) _ hc
 simp only [Nat.zero_add] at hrv
 obtain ⟨hvβ,hown⟩:=hrv
 have hpg:fH (bO [.bp aD off] [.box cs]) (aD,off+1+1)=.own κ 1 (l.map cU):=by
  simp only [fH,hfin,List.getD_eq_getElem?_getD,hc,Option.getD_some]
 have hcell:∀ w':World,w'.heap[b]? = w.heap[b]? → w'.cell? ⟨b,off+1,none⟩=some v:=by
  intro w' h
  simp [World.cell?,h,hb',hv]
 have hblt:b < w.heap.size:=iT hb'
 -- the end,once
 have finish:∀ w2:World,Mem ⟨w,eD (bO [.bp aD off] [.box cs]) β,S,bT β [AV.box cs].length,[]⟩ [] S β (Vm.fV (bO [.bp aD off] [.box cs]) (aD,off+1+1) .junk) (fun x=>(([Value.pointer (some ⟨b,off,none⟩)])[x]?).or (bT β [AV.box cs].length x)) w2 →
   ∃ u S' β',Ending.returned (strOf l)=.returned u∧Mem ⟨w,eD (bO [.bp aD off] [.box cs]) β,S,bT β [AV.box cs].length,[]⟩ [] S' β' ((aS,.d (.str l)) :: jG aD [.box (cs.set (off+1) .junk)]) (fun x=>if x=aS then some u else bT β [AV.box cs].length x) w2:=by
  intro w2 hm2
  refine ⟨strOf l,S,β,rfl,hm2.cA4 (res:=.d (.str l)) (u:=strOf l) (fun j a ha=>?_) (fun β'=>(rfl:RD S w2 (.str l) (strOf l))) (fun j=>by cases j <;> rfl) rfl (fun x u' hx hl=>aF9 (by simp [aD]) hx hl)⟩
  have hj:j=0∧a=.box (cs.set (off+1) .junk):=by
   cases j with
   | zero=>simp at ha; exact ⟨rfl,ha.symm⟩
   | succ j=>simp at ha
  obtain ⟨rfl,rfl⟩:=hj
  exact ⟨by simp only [Vm.fV,hfin]; exact aV _ _ _,hb⟩
 have empty:(⟨#[]⟩:ByteArray)=.empty:=rfl
 have stay:Mem ⟨w,eD (bO [.bp aD off] [.box cs]) β,S,bT β [AV.box cs].length,[]⟩ [] S β (Vm.fV (bO [.bp aD off] [.box cs]) (aD,off+1+1) .junk) (fun x=>(([Value.pointer (some ⟨b,off,none⟩)])[x]?).or (bT β [AV.box cs].length x)) w.drew :=
  hm.fV hpg rfl trivial (fun _ h=>h) (fun _ h=>.inl h) (fun _ _=>rfl) rfl rfl rfl rfl
 rcases hown with ⟨rfl,hnil⟩ | ⟨g,o,c,arr,E,fz,rfl,hnc,hroom,hfr,hg,hEκ,hes⟩
 ·have hl0:l=[]:=by simpa using hnil
  subst hl0
  refine (walk b off 0 0 none none .empty w w.drew w.drew (hcell _ rfl) (hcell _ rfl) rfl (Lib.run_unsafeString_none _ _ _ _ _)).mono ?_
  rintro e w' ⟨rfl,rfl⟩
  exact finish _ stay
 ·simp only [List.length_map] at hnc hcell ⊢
  obtain rfl:E=κ:=by
   rcases hEκ.1 with h | h
   ·exact h
   ·exact (h.elim (fun h=>absurd h (Nat.ne_of_gt (Nat.lt_of_lt_of_le (of_decide_eq_true hκK) (Nat.le_add_left _ _)))) fun h=>absurd h (Nat.ne_of_gt (Nat.lt_of_lt_of_le (of_decide_eq_true hκK) (Nat.le_trans (by decide) (Nat.le_add_left _ _)))))
  have hbg:blk (β (aD,off+1+1))=some g:=by rw [← hvβ]; rfl
  have hgb:g≠b:=by
   intro h
   subst h
   have h1:(aX (bO [.bp aD off] [.box cs]) aD).aR (off+1+1)=true:=kH hpg
   have h2:(aX (bO [.bp aD off] [.box cs]) aD).aR 0=true:=by rw [hfin]; rfl
   have:=(hm.dis aD (off+1+1) aD 0 g h1 h2 hbg (by rw [hβ]; rfl)).2
   omega
  by_cases hc0:c=0
  ·subst hc0
   have hl0:l=[]:=by
    have:l.length=0:=by omega
    exact List.eq_nil_of_length_eq_zero this
   subst hl0
   have hsd:=Lib.run_unsafeSliceData_zero (P:=P) w.drew #[tsl] tbp E hp ⟨g,o,none⟩ 0 (E,arr.size) (by
    have hg':w.drew.heap[g]? = some (.cells arr E fz):=hg
    simp [World.shape?,hg'])
   have hold:∀ k,k < w.heap.size→(w.drew.alloc (.view ⟨g,o,none⟩ E)).heap[k]? = w.heap[k]? := fun k hk=>heap_alloc_old w.drew _ hk
   refine (walk b off 0 0 (some ⟨g,o,none⟩) _ .empty w _ _ (hcell _ rfl) (hcell _ (hold b hblt)) hsd (Lib.run_unsafeString_none _ _ _ _ _)).mono ?_
   rintro e w' ⟨rfl,rfl⟩
   refine finish _ (Mem.grow stay _ (fun k hk=>heap_alloc_old w.drew _ hk) (by simp [World.alloc]) rfl rfl rfl)
  ·have hsd:(Builtin.unsafeSliceData_ #[tsl] tbp #[.slice (some ⟨g,o,none⟩) l.length c]).run P w.drew=.ok (.pointer (some ⟨g,o,none⟩)) w.drew:=Lib.run_unsafeSliceData_row _ _ _ _ _ _ hc0
   by_cases hl0:l=[]
   ·subst hl0
    refine (walk b off 0 c (some ⟨g,o,none⟩) _ .empty w w.drew w.drew (hcell _ rfl) (hcell _ rfl) hsd (Lib.run_unsafeString_none _ _ _ _ _)).mono ?_
    rintro e w' ⟨rfl,rfl⟩
    exact finish _ stay
   ·have hus:=aC2 (P:=P) w.drew (it:=ti) (ty:=ts) hp hcκ g o arr.size (by
     have hg':w.drew.heap[g]? = some (.cells arr E fz):=hg
     simp [World.shape?,hg']) l hl0 (by omega) hl63 (fun j x hx=>by
      have hj:=REs.get _ _ j (cU x) hes (by simp [hx])
      have h0:=hj.2
      simp only [cU,RCs,and_true,Nat.mul_one] at h0
      obtain ⟨y,hy,hyx⟩:=h0
      have hyx':y=.int .u8 x.toNat:=hyx.1
      subst hyx'
      have hadd:(⟨g,o,none⟩:Addr).add j=⟨g,o+j,none⟩:=by
       unfold Addr.add
       split
       ·rename_i h; subst h; rfl
       ·rfl
      rw [hadd]
      have hg':w.drew.heap[g]? = some (.cells arr E fz):=hg
      simp [World.cell?,hg',hy])
    refine (walk b off l.length c (some ⟨g,o,none⟩) _ ⟨l.toArray⟩ w w.drew _ (hcell _ rfl) (hcell _ rfl) hsd hus).mono ?_
    rintro e w' ⟨rfl,rfl⟩
    obtain ⟨h1,h2,h3⟩:=bQ6 w.drew ⟨g,o,none⟩ l.length
    refine finish _ (hm.fV hpg rfl trivial (fun _ h=>h) (fun _ h=>.inl h) (fun k hk=>?_) (bN4 _ _ _) h1 h2 h3)
    exact bK4 w.drew fun h=>hk (by rw [h]; exact hbg)
def bB9:AV→Option Value
 | .d (.v x)=>if x.oneCell' then some x else none
 | .d (.str l)=>some (strOf l)
 | .clo f []=>some (.func (.func f) #[] ⟨[]⟩)
 | _=>none
def aD5:List AV→Option (List Value)
 | []=>some []
 | a :: r=>match bB9 a,aD5 r with
  | some u,some us=>some (u :: us)
  | _,_=>none
theorem aN4 {a:AV} {u:Value} (h:bB9 a=some u) {p:Path} {u':Value} (hr:bA S w β p a u'):u'=u:=by
 unfold bB9 at h
 split at h
 ·split at h
  ·cases h; exact hr.1
  ·cases h
 ·cases h; exact hr
 ·cases h
  obtain ⟨l,rfl,hl⟩:=hr
  cases l with
  | nil=>rfl
  | cons _ _=>cases hl
 ·cases h
theorem rE {a:AV} {u:Value} (h:bB9 a=some u) (p:Path):bA S w β p a u∧a.aI6=true∧a.bV=false∧a.flat=true:=by
 unfold bB9 at h
 split at h
 ·split at h
  ·cases h; exact ⟨⟨rfl,by assumption⟩,rfl,rfl,rfl⟩
  ·cases h
 ·cases h; exact ⟨rfl,rfl,rfl,rfl⟩
 ·cases h; exact ⟨⟨[],rfl,trivial⟩,rfl,rfl,rfl⟩
 ·cases h
theorem sN:∀ {as:List AV} {us:List Value},aD5 as=some us→as.length=us.length∧∀ (i:Nat) (a:AV),as[i]? = some a→∃ u,us[i]? = some u∧bB9 a=some u
 | [],us,h=>by
  simp only [aD5,Option.some.injEq] at h
  subst h
  simp
 | a :: as,us,h=>by
  simp only [aD5] at h
  split at h
  case h_2=>cases h
  rename_i u us' h1 h2
  simp only [Option.some.injEq] at h
  subst h
  obtain ⟨h3,h4⟩:=sN h2
  refine ⟨by simp [h3],fun i b hb=>?_⟩
  cases i with
  | zero=>simp at hb; subst hb; exact ⟨u,by simp,h1⟩
  | succ i=>simpa using h4 i b (by simpa using hb)
def aZ7:AV→Option Value
 | .tup vs=>(aD5 vs).map fun us=>.tuple us.toArray
 | a=>bB9 a
theorem xS {a:AV} {u:Value} (h:aZ7 a=some u) (β':Path→Value):dV (dN []) S w β' aS a u∧(∀ j,a.aR j=false)∧a.zN=true:=by
 unfold aZ7 at h
 split at h
 ·rename_i vs
  simp only [Option.map_eq_some_iff] at h
  obtain ⟨us,hus,rfl⟩:=h
  obtain ⟨h1,h2⟩:=sN hus
  refine ⟨⟨us,rfl,?_,bI.dJ h1 fun j a c ha hc=>?_⟩,fun j=>?_,rfl⟩
  ·rw [List.all_eq_true]
   intro a ha
   obtain ⟨i,hi⟩:=List.getElem?_of_mem ha
   obtain ⟨u,_,hu⟩:=h2 i a hi
   exact (rE (S:=S) (w:=w) (β:=β') hu (0,0)).2.1
  ·obtain ⟨u,hu,hv⟩:=h2 j a ha
   rw [hc] at hu
   cases hu
   exact (rE hv _).1
  ·cases j with
   | zero=>rfl
   | succ j =>
    simp only [AV.aR]
    cases hj:vs[j]? with
    | none=>rfl
    | some a =>
     obtain ⟨u,_,hv⟩:=h2 j a hj
     simpa using (rE (S:=S) (w:=w) (β:=β') hv (0,0)).2.2.1
 ·obtain ⟨h1,h2,h3,h4⟩:=rE (S:=S) (w:=w) (β:=β') h (aS,0)
  refine ⟨(dD h4).2 h1,fun j=>?_,?_⟩
  ·cases hj:a.aR j with
   | false=>rfl
   | true =>
    have:=(nR h4 j hj).2
    rw [h3] at this; cases this
  ·cases a <;> first | rfl | cases h4
theorem aG.vJ {k:Nat} (hk:iY P k) {args:List AV} {us:List Value} {res:AV} {u:Value} (hargs:aD5 args=some us) (hal:decide (args.length < aS)=true) (hres:aZ7 res=some u)
  (h:∀ w:World,Calls P k us.toArray w fun e w'=>e=.returned u∧Below w.heap.size w w'):aG P k args [] res []:=by
 have hal':=of_decide_eq_true hal
 refine ⟨hk,fun w S β vs hvs hm=>?_⟩
 obtain ⟨h1,h2⟩:=sN hargs
 have hvu:vs=us:=by
  apply List.ext_getElem?
  intro i
  rcases Nat.lt_or_ge i args.length with hi | hi
  ·have ha:args[i]? = some args[i]:=List.getElem?_eq_getElem hi
   obtain ⟨u',hu',hv⟩:=h2 i _ ha
   obtain ⟨u0,hr,hu0⟩:=hm.rel i
   rw [bY hi,List.getD_eq_getElem?_getD,ha,Option.getD_some] at hr
   have hvi:vs[i]? = some vs[i]:=List.getElem?_eq_getElem (by omega)
   have e1:=hu0 vs[i] (by simp [hvi])
   have hfl:=(rE (S:=S) (w:=w) (β:=β) hv (i,0)).2.2.2
   have e2:=aN4 hv ((dD hfl).1 hr)
   rw [hvi,hu',e1,e2]
  ·rw [List.getElem?_eq_none (by omega),List.getElem?_eq_none (by omega)]
 subst hvu
 refine (h w).mono ?_
 rintro e w' ⟨rfl,hb⟩
 have hg:=Mem.grow hm w' hb.block hb.size hb.os hb.tape hb.output
 have hr:∀ β',dV (dN []) S w' β' aS res u:=fun β'=>(xS hres β').1
 refine ⟨u,S,β,rfl,hg.cA4 (vout:=[]) (fun j a ha=>by simp at ha) hr (xS (S:=S) (w:=w') hres β).2.1 (xS (S:=S) (w:=w') hres β).2.2 (fun x u' hx hl=>aF9 (by rw [← h1]; have:aD=aS+1:=rfl; omega) hx hl)⟩
end
end Go.Vm
namespace Go.Vm
theorem cO2 {α:Type} {d:α} {xs:List α} {i:Int} (enc:α→List Dat) (sz n:Nat) (hl:xs.length=n) (hsz:∀ a,(enc a).length=sz) (h:0≤i∧i < n) :
  AV.d (.pt ((xs.flatMap enc).drop (i.toNat * sz)))=AV.d (.pt (enc (xs.getD i.toNat d)++(xs.flatMap enc).drop (i.toNat * sz+sz))):=by
 obtain ⟨k,rfl⟩:=Int.eq_ofNat_of_zero_le h.1
 have hk:k < xs.length:=by omega
 clear h hl
 simp only [Int.toNat_natCast,AV.d.injEq,Dat.pt.injEq]
 induction xs generalizing k with
 | nil=>simp at hk
 | cons x xs ih =>
  cases k with
  | zero=>simp [← hsz x]
  | succ k =>
   have:=ih k (by simpa using hk)
   have h2:∀ m,(enc x++xs.flatMap enc).drop (sz+m)=(xs.flatMap enc).drop m:=by
    intro m
    rw [← List.drop_drop,← hsz x,List.drop_left]
   rw [List.getD_cons_succ,List.flatMap_cons,Nat.succ_mul,Nat.add_comm (k * sz) sz,h2,Nat.add_assoc,h2]
   exact this
theorem bZ0 {σ α β γ:Type} {x:α} {f:α→Option γ} {g:β→Option γ} {k:σ→Option γ} {r:γ} (h:dO (some (.esc (.inl x))) (Sum.elim f g) k=some r):f x=some r:=h
theorem aZ5 {σ α β γ:Type} {x:β} {f:α→Option γ} {g:β→Option γ} {k:σ→Option γ} {r:γ} (h:dO (some (.esc (.inr x))) (Sum.elim f g) k=some r):g x=some r:=h
end Go.Vm
namespace Go.Vm
theorem aG2 (a b:Bool):(bif a then true else b)=(a || b):=by cases a <;> rfl
theorem aX1 (a b:Bool):(bif a then b else false)=(a && b):=by cases a <;> rfl
theorem eQ {i:Nat} (h:i < 9223372036854775807):IntKind.i64.wrap ((i:Int)+1)=((i+1:Nat):Int):=by
 rw [oD (by omega)]
 rfl
theorem qJ {i:Nat} (h:0 < i) (h2:i < 9223372036854775807):IntKind.i64.wrap ((i:Int) - 1)=((i - 1:Nat):Int):=by
 rw [oD (by omega)]
 omega
theorem dec_lt {i n:Nat} {inst:Decidable ((i:Int) < (n:Int))} (h:i < n):@decide _ inst=true:=by simpa using h
theorem iQ {n:Nat} {inst:Decidable ((n:Int) < (n:Int))}:@decide _ inst=false:=by simp
theorem iM {α:Type} {i n:Nat} (h:i < n) {k:Option α}:chk (0≤(i:Int)∧(i:Int) < (n:Int)) k=k:=bN ⟨by omega,by exact_mod_cast h⟩
end Go.Vm
