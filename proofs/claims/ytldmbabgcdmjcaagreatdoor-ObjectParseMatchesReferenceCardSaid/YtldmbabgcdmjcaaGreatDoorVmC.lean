/-
  THE V-MACHINE,text C: VmCode,VmFunc,VmLib,VmRec,VmDraw,VmNil,VmDraw2,VmDraw3,VmDag,VmTest,VmFunc2,VmEntry,VmMath,VmOpen,VmRecOpen,VmBuild,VmPlain.
-/
import Derived.Test.YtldmbabgcdmjcaaGreatDoorVmB
import Derived.OrdersHeld
import Derived.ProofKit
import Derived.Lib.Builder
import Derived.Lib.UnsafeStr
import Derived.Below
namespace Go.Vm
def lZ:List (Nat×Hint)→Nat→Hint
  | [],_=>{}
  | (j,h) :: r,i=>if j == i then h else lZ r i
def aH1 (P:Program) (N:Nat) (ops:Array Oper) (hs:List (Nat×Hint)):List Nat→dX→Fr→Option (Fr×List Prop)
 | [],_,fr=>some (fr,[])
 | i :: r,G,fr=>match step1 P N ops i (lZ hs i) G fr with
  | some (G',fr',obl)=>match aH1 P N ops hs r G' fr' with
   | some (f,l)=>some (f,obl :: l)
   | none=>none
  | none=>none
inductive Co where
 | frz (p:Path)
 | thaw (x:Nat)
 | claim (x:Nat)
 | nil (x:Nat) (κ:TypeId) (sz:Nat)
 | nild (x sz:Nat)
 | nilc (x off:Nat) (κ:TypeId) (sz:Nat)
 | thawc (x q:Nat)
 | claimc (x q:Nat)
 | keep (l:List Nat)
def jH:Co→Fr→Option Fr
 | .frz p,fr=>match gR fr p with
  | .own _κ sz es=>some (iM fr p (.fz sz es))
  | _=>none
 | .thaw x,fr=>match aU fr x with
  | .fz sz es=>some ((x,.d (.sl sz es)) :: fr)
  | .own _κ sz es=>some ((x,.d (.sl sz es)) :: iM fr (x,0) (.fz sz es))
  | .vw p=>match gR fr p with
   | .own _κ sz es=>some ((x,.d (.sl sz es)) :: iM fr p (.fz sz es))
   | .fz sz es=>some ((x,.d (.sl sz es)) :: fr)
   | _=>none
  | _=>none
 | .claim x,fr=>match aU fr x with
  | .vw (s,0)=>match aU fr s with
   | .own κ sz es=>if s≠x then some (fO x (.own κ sz es) ((s,.junk) :: fr)) else none
   | _=>none
  | .bp s 0=>match aU fr s with
   | .box _cs=>if s≠x then some (fO x ((aU fr s).dO (eZ x)) ((s,.junk) :: fr)) else none
   | _=>none
  | _=>none
 | .nil x κ sz,fr=>match aU fr x with
  | .d (.v (.slice none 0 0))=>some (fO x (.own κ sz []) fr)
  | _=>none
 | .nild x sz,fr=>match aU fr x with
  | .d (.v (.slice none 0 0))=>some ((x,.d (.sl sz [])) :: fr)
  | _=>none
 | .nilc x off κ sz,fr=>match aU fr x with
  | .box cs=>match cs[off]? with
   | some (.d (.v (.slice none 0 0)))=>some ((x,.box ((cs.map (AV.dU (iU x off))).set off (.own κ sz []))) :: tF (iU x off) fr)
   | _=>none
  | _=>none
 | .thawc x q,fr=>match aU fr x with
  | .box cs=>match cs[q]? with
   | some (.fz sz es)=>some ((x,.box (cs.set q (.d (.sl sz es)))) :: fr)
   | _=>none
  | _=>none
 | .claimc x q,fr=>match aU fr x with
  | .box cs=>match cs[q]? with
   | some (.vw (s,0))=>match aU fr s with
    | .own κ sz es=>if s≠x then some ((x,.box ((cs.map (AV.dU (iU x q))).set q (.own κ sz es))) :: tF (iU x q) ((s,.junk) :: fr)) else none
    | _=>none
   | _=>none
  | _=>none
 | .keep l,fr=>if l.all (fun x=>(aU fr x).sZ) then some (l.map fun x=>(x,aU fr x)) else none
def nS:List Co→Fr→Option Fr
 | [],fr=>some fr
 | c :: r,fr=>match jH c fr with
  | some fr'=>nS r fr'
  | none=>none
def bE6 (P:Program) (N:Nat) (ops:Array Oper) (hs:List (Nat×Hint)) (keep:List Nat) (cs:List Co) (fr:Fr):Option (Fr×List Prop) :=
 match aH1 P N ops hs (List.range ops.size) [] fr with
 | some (f,l)=>match jH (.keep keep) f with
  | some f'=>match nS cs f' with
   | some f''=>some (f'',l)
   | none=>none
  | none=>none
 | none=>none
def uI:List Prop→Prop
 | []=>True
 | p :: r=>p∧uI r
def owed:List (Nat×Prop)→Nat→List Prop
  | [],n=>List.replicate n True
  | (k,p) :: r,n=>List.replicate k True++p :: owed r n
def aH9:List (Nat×Prop)→Prop
  | []=>True
  | [(_,p)]=>p
  | (_,p) :: r=>p∧aH9 r
theorem yZ (n:Nat) (l:List Prop) (h:uI l):uI (List.replicate n True++l):=by
 induction n with
 | zero=>simpa using h
 | succ n ih=>simp only [List.replicate_succ,List.cons_append]; exact ⟨trivial,ih⟩
theorem aH9.all:∀ {l:List (Nat×Prop)} {n:Nat},aH9 l→uI (owed l n)
  | [],n,_=>by simpa [owed] using yZ n [] trivial
  | [(k,p)],n,h=>by
    simp only [owed]
    exact yZ k _ ⟨h,by simpa using yZ n [] trivial⟩
  | (k,p) :: q :: r,n,h=>by
    rw [owed]
    exact yZ k _ ⟨h.1,aH9.all h.2⟩
section
variable {P:Program} {e:Env} {G:dX} {S:Nat→Prop} {β:Path→Value} {fr:Fr} {w:World} {a:Act} {N:Nat}
theorem bV2 {ops:Array Oper} {hs:List (Nat×Hint)} {Q:Exit→Act→World→Prop}:∀ (l:List Nat) (G:dX) (fr fr':Fr) (obs:List Prop) (a:Act) (w:World),aH1 P N ops hs l G fr=some (fr',obs)→uI obs→pY e G N fr a w →
  (∀ G' a' w',pY e G' N fr' a' w'→Q .normal a' w')→wpOps P ops Q l a w
 | [],G,fr,fr',obs,a,w,h,_,hm,hQ=>by
  simp only [aH1,Option.some.injEq,Prod.mk.injEq] at h
  obtain ⟨rfl,_⟩:=h
  exact hQ G a w hm
 | i :: r,G,fr,fr',obs,a,w,h,ho,hm,hQ=>by
  simp only [aH1] at h
  split at h
  case h_2=>cases h
  rename_i G1 fr1 obl hs1
  split at h
  case h_2=>cases h
  rename_i f l hl
  simp only [Option.some.injEq,Prod.mk.injEq] at h
  obtain ⟨rfl,rfl⟩:=h
  obtain ⟨o,ho1,hw,hnw⟩:=aE5 (K:=wpOps P ops Q r) (Q:=Q) hs1 ho.1 hm fun a' w' hm'=>bV2 r G1 fr1 f l a' w' hl ho.2 hm' hQ
  simp only [wpOps,ho1]
  by_cases hwant:Region.wanted o (yielded ops a.tmps)=true
  ·rw [if_pos hwant]
   exact .inl (hw hwant)
  ·rw [if_neg hwant]
   exact hnw (by simpa using hwant)
theorem yX (fr:Fr):∀ (l:List Nat) (x:Nat),aU (l.map fun y=>(y,aU fr y)) x=if x∈l then aU fr x else .junk
 | [],x=>by simp [aU]
 | y :: l,x=>by
  simp only [List.map_cons,nP,yX fr l x,List.mem_cons]
  by_cases h:y=x
  ·simp [h]
  ·simp [h,Ne.symm h]
theorem uA {l:List Nat} {fr':Fr} (hm:Mem e G S β fr (bF e a) w) (h:jH (.keep l) fr=some fr'):Mem e [] S β fr' (bF e a) w:=by
 simp only [jH] at h
 split at h
 case isFalse=>cases h
 rename_i hng
 simp only [Option.some.injEq] at h
 subst h
 have hng':∀ x∈l,(aU fr x).sZ=true:=List.all_eq_true.1 hng
 have ho:∀ x i,(aU (l.map fun y=>(y,aU fr y)) x).aJ i=true→(aU fr x).aJ i=true:=by
  intro x i h
  rw [yX] at h
  split at h
  ·exact h
  ·cases i <;> simp [AV.aJ,AV.bN] at h
 refine ⟨fun x=>?_,fun x l' av h=>?_,fun x i y j b h1 h2=>hm.dis x i y j b (ho x i h1) (ho y j h2),fun x i b h1=>hm.fre x i b (ho x i h1),hm.stb,hm.s0,hm.old,hm.os,hm.tape,hm.output,hm.size⟩
 ·obtain ⟨u,hr,hu⟩:=hm.rel x
  refine ⟨u,?_,hu⟩
  rw [yX]
  split
  ·rename_i hx
   exact aI0 (hng' x hx) hr
  ·exact trivial
 ·rw [yX] at h
  split at h
  ·rename_i hx
   have:=hng' x hx
   rw [h] at this
   cases this
  ·cases h
theorem Mem.claim (hm:Mem e G S β fr (bF e a) w) {s x:Nat} (hst:s≠x) (hng:(aU fr s).sZ=true) (hv:∀ u u',dV (dN G) S w β s (aU fr s) u→dV (dN G) S w β x (aU fr x) u'→u'=u) :
  ∃ β',Mem e G S β' (fO x ((aU fr s).dO (eZ x)) ((s,.junk) :: fr)) (bF e a) w:=by
 have hd:=hm.drop s
 have hf:∀ y,y≠s→aU ((s,AV.junk) :: fr) y=aU fr y:=fun y hy=>aZ _ _ (Ne.symm hy)
 have hfs:aU ((s,AV.junk) :: fr) s=.junk:=aO s _ _
 obtain ⟨u0,hr,hu0⟩:=hm.rel s
 obtain ⟨u1,hr1,hu1⟩:=hm.rel x
 have huu:=hv u0 u1 hr hr1
 refine ⟨_,hd.qE x _ u0 (fun j=>β (s,j)) w (bF e a) (fun _ _=>rfl) (fun u' h=>by rw [hu1 u' h,huu]) ?_ ?_ ?_ ?_ (fun _ _=>.inl rfl) (Nat.le_refl _) rfl rfl rfl⟩
 ·refine (hr.dO (eZ x)).rename (fun j=>by simp) fun q hq=>?_
  exact if_neg (vC (AV.rF hq).1)
 ·intro l a h
  have:=AV.aB4 (π:=eZ x) hng
  rw [h] at this
  cases this
 ·intro i b ho hb
  have ho':=AV.eP (eZ x) _ i ho
  have hfr:=hm.fre s i b ho' hb
  refine ⟨hfr.1,hfr.2,fun y j _ hoy hby=>?_⟩
  by_cases hys:y=s
  ·subst hys
   rw [hfs] at hoy
   cases j <;> simp [AV.aJ,AV.bN] at hoy
  ·rw [hf y hys] at hoy
   exact hys (hm.dis y j s i b hoy ho' hby hb).1
 ·intro i j b h1 h2 h3 h4
  exact (hm.dis s i s j b (AV.eP (eZ x) _ i h1) (AV.eP (eZ x) _ j h2) h3 h4).2
theorem Mem.cE6 {G:dX} {vals:Nat→Option Value} (hm:Mem e G S β fr vals w) {x q s:Nat} (hsx:s≠x) {κ:TypeId} {sz:Nat} {es:List (List Dat)} {cs:List AV} (hf:aU fr x=.box cs) (hc:cs[q]? = some (.vw (s,0))) (hs:aU fr s=.own κ sz es) :
  Mem e G S (fun p=>if p=(x,q+1) then β (s,0) else β p) ((x,.box ((cs.map (AV.dU (iU x q))).set q (.own κ sz es))) :: tF (iU x q) ((s,.junk) :: fr)) vals w:=by
 have hd:=hm.drop s
 have hoff:q < cs.length:=(List.getElem?_eq_some_iff.1 hc).1
 obtain ⟨u0,hr0,_⟩:=hm.rel s
 rw [hs] at hr0
 have hown:OwnAt S w (β (s,0)) κ sz es:=by rw [← hr0.1]; exact hr0.2
 have hos:(aU fr s).aJ 0=true:=by rw [hs]; rfl
 have hcase:∀ i,(AV.box ((cs.map (AV.dU (iU x q))).set q (.own κ sz es))).aJ i=true→i=q+1∨(i≠q+1∧(aU fr x).aJ i=true):=by
  intro i h
  rcases gW h with ⟨h1,_⟩ | ⟨h1,h2⟩
  ·exact .inl h1
  ·refine .inr ⟨h1,?_⟩
   rw [hf]
   exact AV.eP (iU x q) (.box cs) i h2
 have hnew:∀ i k,(AV.box ((cs.map (AV.dU (iU x q))).set q (.own κ sz es))).aJ i=true→blk ((fun p=>if p=(x,q+1) then β (s,0) else β p) (x,i))=some k →
   (i=q+1∧blk (β (s,0))=some k)∨(i≠q+1∧(aU fr x).aJ i=true∧blk (β (x,i))=some k):=by
  intro i k h1 h2
  rcases hcase i h1 with rfl | ⟨h3,h4⟩
  ·simp only [if_true] at h2
   exact .inl ⟨rfl,h2⟩
  ·have:(x,i)≠(x,q+1):=by simp; exact h3
   simp only [this,if_false] at h2
   exact .inr ⟨h3,h4,h2⟩
 have hdrop:∀ z j,(aU ((s,AV.junk) :: fr) z).aJ j=true→z≠s∧(aU fr z).aJ j=true:=by
  intro z j h
  by_cases hz:z=s
  ·subst hz
   rw [aO] at h
   cases j <;> simp [AV.aJ,AV.bN] at h
  ·rw [aZ _ _ (Ne.symm hz)] at h
   exact ⟨hz,h⟩
 refine hd.change x (.box ((cs.map (AV.dU (iU x q))).set q (.own κ sz es))) (iU x q) (aO _ _ _) (fun z hz=>.inr ?_) (fun z j hz=>by simp [hz]) (fun p hp=>if_neg (vW hp)) (fun _ _ _ h=>h) ?_ (fun l a h=>by cases h) ?_ ?_ ?_ (fun _ h=>h) (fun _ h=>.inl h) (fun _ _=>rfl) (fun _ _ _ _ _ _=>rfl) (fun _ _ _=>rfl) (Nat.le_refl _) rfl rfl rfl
 ·rw [aZ _ _ (Ne.symm hz)]
  exact mQ _ z _
 ·obtain ⟨u,hr,hu⟩:=hm.rel x
  rw [hf] at hr
  obtain ⟨h0,b,l,E,h1,h2,h3⟩:=hr
  refine ⟨u,⟨by simpa using h0,b,l,E,h1,h2,?_⟩,hu⟩
  refine bC.dD (by simpa using bC.len h3) fun j p c hp hcj=>?_
  rw [List.getElem?_set] at hp
  by_cases hj:q=j
  ·subst hj
   rw [if_pos rfl,if_pos (by simpa using hoff)] at hp
   simp only [Option.some.injEq] at hp
   subst hp
   obtain ⟨c',hc',hrc⟩:=bC.get h3 q _ hc
   rw [hcj] at hc'
   cases hc'
   have hcn:c=β (s,0):=hrc
   subst hcn
   exact ⟨by simp,hown⟩
  ·rw [if_neg hj] at hp
   simp only [List.getElem?_map,Option.map_eq_some_iff] at hp
   obtain ⟨p0,hp0,rfl⟩:=hp
   obtain ⟨c',hc',hrc⟩:=bC.get h3 j p0 hp0
   rw [hcj] at hc'
   cases hc'
   simp only [Nat.zero_add] at hrc ⊢
   refine (hrc.dO (iU x q)).turn (fun _ h=>h) (fun _ _=>rfl) ?_ (fun _ _=>⟨by simp,rfl⟩) (fun ho k hk=>rfl) fun y hy=>?_
   ·have:(x,j+1)≠(x,q+1):=by simp; omega
    simp [this]
   ·exact if_neg (vW (AV.kN (AV.qX _ _ hy)).1)
 ·intro i j k h1 h2 h3 h4
  rcases hnew i k h1 h3 with ⟨rfl,h5⟩ | ⟨_,h5,h6⟩ <;> rcases hnew j k h2 h4 with ⟨rfl,h7⟩ | ⟨_,h7,h8⟩
  ·rfl
  ·exact absurd (hm.dis s 0 x j k hos h7 h5 h8).1 hsx
  ·exact absurd (hm.dis s 0 x i k hos h5 h7 h6).1 hsx
  ·exact (hm.dis x i x j k h5 h7 h6 h8).2
 ·intro i z j k h1 hz h2 h3 h4
  obtain ⟨hzs,hz2⟩:=hdrop z j h2
  rcases hnew i k h1 h3 with ⟨rfl,h5⟩ | ⟨_,h5,h6⟩
  ·exact hzs (hm.dis s 0 z j k hos hz2 h5 h4).1.symm
  ·exact hz (hm.dis x i z j k h5 hz2 h6 h4).1.symm
 ·intro i k h1 h2
  rcases hnew i k h1 h2 with ⟨rfl,h5⟩ | ⟨_,h5,h6⟩
  ·exact hm.fre s 0 k hos h5
  ·exact hm.fre x i k h5 h6
theorem Mem.bC5 (hm:Mem e G S β fr (bF e a) w) {x:Nat} {sz:Nat} {es:List (List Dat)} (hv:∀ u,dV (dN G) S w β x (aU fr x) u→RD S w (.sl sz es) u):Mem e G S β ((x,.d (.sl sz es)) :: fr) (bF e a) w :=
 hm.weaken x _ (fun u hr=>hv u hr) (fun j h=>by cases j <;> simp [AV.aJ,AV.bN] at h) (fun _ _ h=>by cases h)
theorem aB9 {x:Nat} {sz:Nat} {es:List (List Dat)}:aU (iM fr (x,0) (.fz sz es)) x=.fz sz es:=by
 simp [iM,aO]
theorem Mem.cQ2 {G:dX} {vals:Nat→Option Value} (hm:Mem e G S β fr vals w) {x off:Nat} {κ:TypeId} {sz:Nat} {cs:List AV} (hf:aU fr x=.box cs) (hc:cs[off]? = some (.d (.v (.slice none 0 0)))) :
  Mem e G S (fun p=>if p=(x,off+1) then .slice none 0 0 else β p) ((x,.box ((cs.map (AV.dU (iU x off))).set off (.own κ sz []))) :: tF (iU x off) fr) vals w:=by
 have hoff:off < cs.length:=(List.getElem?_eq_some_iff.1 hc).1
 have hcase:∀ i,(AV.box ((cs.map (AV.dU (iU x off))).set off (.own κ sz []))).aJ i=true→i=off+1∨(i≠off+1∧(aU fr x).aJ i=true):=by
  intro i h
  rcases gW h with ⟨h1,_⟩ | ⟨h1,h2⟩
  ·exact .inl h1
  ·refine .inr ⟨h1,?_⟩
   rw [hf]
   exact AV.eP (iU x off) (.box cs) i h2
 have hnew:∀ i k,(AV.box ((cs.map (AV.dU (iU x off))).set off (.own κ sz []))).aJ i=true→blk ((fun p=>if p=(x,off+1) then Value.slice none 0 0 else β p) (x,i))=some k→i≠off+1∧(aU fr x).aJ i=true∧blk (β (x,i))=some k:=by
  intro i k h1 h2
  rcases hcase i h1 with rfl | ⟨h3,h4⟩
  ·simp [blk] at h2
  ·have:(x,i)≠(x,off+1):=by simp; exact h3
   simp only [this,if_false] at h2
   exact ⟨h3,h4,h2⟩
 refine hm.change x (.box ((cs.map (AV.dU (iU x off))).set off (.own κ sz []))) (iU x off) (aO _ _ _) (fun z hz=>.inr ?_) (fun z j hz=>by simp [hz]) (fun p hp=>if_neg (vW hp)) (fun _ _ _ h=>h) ?_ (fun l a h=>by cases h) ?_ ?_ ?_ (fun _ h=>h) (fun _ h=>.inl h) (fun _ _=>rfl) (fun _ _ _ _ _ _=>rfl) (fun _ _ _=>rfl) (Nat.le_refl _) rfl rfl rfl
 ·rw [aZ _ _ (Ne.symm hz)]
  exact mQ _ z _
 ·obtain ⟨u,hr,hu⟩:=hm.rel x
  rw [hf] at hr
  obtain ⟨h0,b,l,E,h1,h2,h3⟩:=hr
  refine ⟨u,⟨by simpa using h0,b,l,E,h1,h2,?_⟩,hu⟩
  refine bC.dD (by simpa using bC.len h3) fun j p c hp hcj=>?_
  rw [List.getElem?_set] at hp
  by_cases hj:off=j
  ·subst hj
   rw [if_pos rfl,if_pos (by simpa using hoff)] at hp
   simp only [Option.some.injEq] at hp
   subst hp
   obtain ⟨c',hc',hrc⟩:=bC.get h3 off _ hc
   rw [hcj] at hc'
   cases hc'
   have hcn:c=.slice none 0 0:=hrc.1
   subst hcn
   exact ⟨by simp,.inl ⟨rfl,rfl⟩⟩
  ·rw [if_neg hj] at hp
   simp only [List.getElem?_map,Option.map_eq_some_iff] at hp
   obtain ⟨p0,hp0,rfl⟩:=hp
   obtain ⟨c',hc',hrc⟩:=bC.get h3 j p0 hp0
   rw [hcj] at hc'
   cases hc'
   simp only [Nat.zero_add] at hrc ⊢
   refine (hrc.dO (iU x off)).turn (fun _ h=>h) (fun _ _=>rfl) ?_ (fun _ _=>⟨by simp,rfl⟩) (fun ho k hk=>rfl) fun q hq=>?_
   ·have:(x,j+1)≠(x,off+1):=by simp; omega
    simp [this]
   ·exact if_neg (vW (AV.kN (AV.qX _ _ hq)).1)
 ·intro i j k h1 h2 h3 h4
  obtain ⟨_,h5,h6⟩:=hnew i k h1 h3
  obtain ⟨_,h7,h8⟩:=hnew j k h2 h4
  exact (hm.dis x i x j k h5 h7 h6 h8).2
 ·intro i z j k h1 hz h2 h3 h4
  obtain ⟨_,h5,h6⟩:=hnew i k h1 h3
  exact hz (hm.dis x i z j k h5 h2 h6 h4).1.symm
 ·intro i k h1 h2
  obtain ⟨_,h5,h6⟩:=hnew i k h1 h2
  exact hm.fre x i k h5 h6
theorem cE2 {c:Co} {fr':Fr} (hm:Mem e [] S β fr (bF e a) w) (h:jH c fr=some fr'):∃ S' β',Mem e [] S' β' fr' (bF e a) w:=by
 cases c with
 | frz p =>
  simp only [jH] at h
  split at h
  ·rename_i sz es hp
   simp only [Option.some.injEq] at h
   subst h
   exact ⟨_,_,hm.freeze hp⟩
  ·cases h
 | keep l=>exact ⟨S,β,uA hm h⟩
 | thawc x q =>
  simp only [jH] at h
  split at h
  case h_2=>cases h
  rename_i cs hf
  split at h
  case h_2=>cases h
  rename_i sz es hc
  simp only [Option.some.injEq] at h
  subst h
  exact ⟨S,β,hm.bL8 hf hc (fun u hu=>hu.2) rfl⟩
 | claimc x q =>
  simp only [jH] at h
  split at h
  case h_2=>cases h
  rename_i cs hf
  split at h
  case h_2=>cases h
  rename_i s hc
  split at h
  case h_2=>cases h
  rename_i κ sz es hs
  split at h
  case isFalse=>cases h
  rename_i hne
  simp only [Option.some.injEq] at h
  subst h
  exact ⟨S,_,hm.cE6 hne hf hc hs⟩
 | thaw x =>
  simp only [jH] at h
  split at h
  ·rename_i sz es hf
   simp only [Option.some.injEq] at h
   subst h
   refine ⟨S,β,hm.bC5 fun u hr=>?_⟩
   rw [hf] at hr
   exact hr.2
  ·rename_i sz es hf
   simp only [Option.some.injEq] at h
   subst h
   have hfz:=hm.freeze (p:=(x,0)) (by simpa [gR] using hf)
   refine ⟨_,β,hfz.bC5 fun u hr=>?_⟩
   rw [aB9] at hr
   exact hr.2
  ·rename_i p hf
   split at h
   ·rename_i sz es hp
    simp only [Option.some.injEq] at h
    subst h
    have hfz:=hm.freeze hp
    have hpp:gR (iM fr p (.fz sz es)) p=.fz sz es:=by
     obtain ⟨y,i⟩:=p
     cases i with
     | zero=>simp [gR,iM,aO]
     | succ j =>
      simp only [gR] at hp
      split at hp
      ·rename_i cs hb
       simp only [iM,hb,gR,aO,List.getD_eq_getElem?_getD]
       simp only [List.getD_eq_getElem?_getD] at hp
       have hlt:j < cs.length:=by
        rcases Nat.lt_or_ge j cs.length with h | h
        ·exact h
        ·rw [List.getElem?_eq_none h] at hp; simp at hp
       simp [hlt]
      ·cases hp
    have hrd:=uK hfz hpp
    refine ⟨_,β,hfz.bC5 fun u hr=>?_⟩
    -- the slot's value is the place's
    obtain ⟨u0,hr0,hu0⟩:=hm.rel x
    by_cases hxp:p=(x,0)
    ·subst hxp
     rw [aB9] at hr
     exact hr.2
    ·have hsame:aU (iM fr p (.fz sz es)) x=.vw p:=by
      obtain ⟨y,i⟩:=p
      have hyx:y≠x:=by
       rintro rfl
       have how:=kE hp
       simp only at how
       rw [hf] at how
       cases i <;> simp [AV.aJ,AV.bN] at how
      cases i with
      | zero=>simp only [iM]; rw [aZ _ _ hyx]; exact hf
      | succ j =>
       simp only [iM]
       split
       ·rw [aZ _ _ hyx]; exact hf
       ·exact hf
     rw [hsame] at hr
     have:u=β p:=hr
     rw [this]; exact hrd
   ·rename_i sz es hp
    simp only [Option.some.injEq] at h
    subst h
    refine ⟨S,β,hm.bC5 fun u hr=>?_⟩
    rw [hf] at hr
    have:u=β p:=hr
    rw [this]
    exact uK hm hp
   ·cases h
  ·cases h
 | nil x κ sz =>
  simp only [jH] at h
  split at h
  ·rename_i hf
   simp only [Option.some.injEq] at h
   subst h
   obtain ⟨β',hm'⟩:=hm.cL5 x κ sz (bF e a) (fun _ _=>rfl) (fun u' hu'=>by
    obtain ⟨u,hr,hu⟩:=hm.rel x
    rw [hu u' hu']
    rw [hf] at hr
    exact hr.1)
   exact ⟨S,β',hm'⟩
  ·cases h
 | nilc x off κ sz =>
  simp only [jH] at h
  split at h
  ·rename_i cs hf
   split at h
   ·rename_i hc
    simp only [Option.some.injEq] at h
    subst h
    exact ⟨S,_,hm.cQ2 hf hc⟩
   ·cases h
  ·cases h
 | nild x sz =>
  simp only [jH] at h
  split at h
  ·rename_i hf
   simp only [Option.some.injEq] at h
   subst h
   refine ⟨S,β,hm.weaken x _ (fun u hr=>?_) (fun j h=>by cases j <;> simp [AV.aJ,AV.bN] at h) (fun _ _ h=>by cases h)⟩
   rw [hf] at hr
   have:u=.slice none 0 0:=hr.1
   subst this
   exact cO2 rfl
  ·cases h
 | claim x =>
  simp only [jH] at h
  split at h
  ·rename_i s hf
   split at h
   ·rename_i sz es hs
    split at h
    case isFalse=>cases h
    rename_i hne
    simp only [Option.some.injEq] at h
    subst h
    obtain ⟨β',hm'⟩:=hm.claim hne (by rw [hs]; rfl) fun u u' h1 h2=>by
     rw [hs] at h1
     rw [hf] at h2
     have h3:u'=β (s,0):=h2
     rw [h3,h1.1]
    rw [hs] at hm'
    exact ⟨S,β',by simpa [AV.dO,AV.dU,AV.gU,AV.lH,AV.kC] using hm'⟩
   ·cases h
  ·rename_i s hf
   split at h
   ·rename_i cs hs
    split at h
    case isFalse=>cases h
    rename_i hne
    simp only [Option.some.injEq] at h
    subst h
    obtain ⟨β',hm'⟩:=hm.claim hne (by rw [hs]; rfl) fun u u' h1 h2=>by
     rw [hs] at h1
     rw [hf] at h2
     obtain ⟨h0,b,l,E,h3,_⟩:=h1
     obtain ⟨b',h4,h5⟩:=h2
     rw [← h0,h3] at h4
     simp only [Value.pointer.injEq,Option.some.injEq,Addr.mk.injEq] at h4
     rw [h5,h3,h4.1]
    exact ⟨S,β',hm'⟩
   ·cases h
  ·cases h
theorem vK:∀ (cs:List Co) (fr fr':Fr) (S:Nat→Prop) (β:Path→Value),Mem e [] S β fr (bF e a) w→nS cs fr=some fr'→∃ S' β',Mem e [] S' β' fr' (bF e a) w
 | [],fr,fr',S,β,hm,h=>by
  simp only [nS,Option.some.injEq] at h
  subst h
  exact ⟨S,β,hm⟩
 | c :: r,fr,fr',S,β,hm,h=>by
  simp only [nS] at h
  split at h
  ·rename_i f hf
   obtain ⟨S',β',hm'⟩:=cE2 hm hf
   exact vK r f fr' S' β' hm' h
  ·cases h
theorem fZ.co {cs:List Co} {fr':Fr} (hm:fZ e [] N fr a w) (h:nS cs fr=some fr'):fZ e [] N fr' a w :=
 let ⟨h1,h2,S,β,hm⟩:=hm
 ⟨h1,h2,vK cs fr fr' S β hm h⟩
theorem rP (hm:fZ e [] N fr a w):pY e [] N fr a w :=
 ⟨hm.1,hm.2.1,fun s l b h=>by simp [jG] at h,hm.2.2⟩
theorem bD9 {id:Nat} {ops:Array Oper} {hs:List (Nat×Hint)} {keep:List Nat} {cs:List Co} {fr':Fr} {obs:List Prop} {Q:Exit→Act→World→Prop} (h:bE6 P N ops hs keep cs fr=some (fr',obs)) (ho:uI obs) (hm:fZ e [] N fr a w)
  (hQ:∀ a' w',fZ e [] N fr' a' w'→Q .normal a' w'):(Code.region id ops false).wp P Q a w:=by
 unfold bE6 at h
 split at h
 case h_2=>cases h
 rename_i f l hl
 split at h
 case h_2=>cases h
 rename_i f' hk
 split at h
 case h_2=>cases h
 rename_i f'' hc
 simp only [Option.some.injEq,Prod.mk.injEq] at h
 obtain ⟨rfl,rfl⟩:=h
 refine wp_region (bV2 _ [] fr f l a w hl ho (rP hm) fun G' a' w' hm'=>hQ a' w' ?_)
 obtain ⟨h1,h2,_,S,β,hm'⟩:=hm'
 exact ⟨h1,h2,vK cs f' f'' S β (uA hm' hk) hc⟩
def T (P:Program) (e:Env) (N:Nat) (c:Code) (fr:Fr) (Q:Exit→Act→World→Prop):Prop:=∀ a w,fZ e [] N fr a w→c.wp P Q a w
def At (e:Env) (N:Nat) (fr:Fr):Act→World→Prop:=fun a w=>fZ e [] N fr a w
variable {Q:Exit→Act→World→Prop}
theorem oC {id:Nat} {ops:Array Oper} (hs:List (Nat×Hint)) (keep:List Nat) (cs:List Co) (fr':Fr) (obs:List (Nat×Prop)) (n:Nat) {k:Code} (h:bE6 P N ops hs keep cs fr=some (fr',owed obs n)) (ho:aH9 obs) (hk:T P e N k fr' Q):T P e N (.seq (.region id ops false) k) fr Q :=
 fun _ _ hm=>wp_seq (bD9 h ho.all hm fun a' w' hm'=>hk a' w' hm')
def cV7 (fr:Fr):Fr→Nat→AV
  | [],x=>aU fr x
  | (y,a) :: r,x=>if y == x then a else cV7 fr r x
def qA:List Nat→Fr→Fr→Fr
 | [],_,_=>[]
 | x :: r,d,fr=>(x,cV7 fr d x) :: qA r d fr
theorem dD1 {x y:Code} (fr1:Fr) (h:T P e N x fr (Exit.then (At e N fr1) Q)) (hk:T P e N y fr1 Q):T P e N (.seq x y) fr Q :=
 fun a w hm=>wp_seq (wp_mono (h a w hm) fun ex a' w' hq=>by
  cases ex <;> first | exact hk a' w' hq | exact hq)
theorem aT {x z:Code} (h:T P e N x fr (Exit.then (fun a w=>z.wp P Q a w) Q)):T P e N (.seq x z) fr Q:=fun a w hm=>wp_seq (h a w hm)
theorem bU2 {c:Operand} {x y:Code} (b:Bool) (hc:gH N [] fr c=.d (.v (.bool b))) (ht:b=true→T P e N x fr Q) (hf:b=false→T P e N y fr Q):T P e N (.cond c x y) fr Q:=by
 intro a w hm
 obtain ⟨h1,h2,S,β,hm'⟩:=hm
 have hv:=nL hm' h2 [] rfl c
 rw [hc] at hv
 exact wp_cond_split hv.1 (fun h=>ht h a w ⟨h1,h2,S,β,hm'⟩) (fun h=>hf h a w ⟨h1,h2,S,β,hm'⟩)
theorem bJ {id:Nat} {c:Code} (h:T P e N c fr (Exit.inBlock id Q)):T P e N (.block id c) fr Q:=fun a w hm=>wp_block (h a w hm)
theorem fD {id:Nat} (h:∀ a w,fZ e [] N fr a w→Q (.exit id) a w):T P e N (.exit id) fr Q:=fun a w hm=>wp_exit (h a w hm)
theorem aR (h:∀ a w,fZ e [] N fr a w→Q .ret a w):T P e N .ret fr Q:=fun a w hm=>wp_ret (h a w hm)
theorem aM (h:∀ a w,fZ e [] N fr a w→Q .normal a w):T P e N .skip fr Q:=fun a w hm=>wp_skip (h a w hm)
theorem dA2 {c:Code} (cs:List Co) (fr':Fr) (h:nS cs fr=some fr') (hk:T P e N c fr' Q):T P e N c fr Q:=fun a w hm=>hk a w (hm.co h)
theorem cX3 {ι:Type} (I:ι→Fr) (pre:ι→Prop) (μ:ι→Nat) {body:Code} (round:∀ i,pre i→T P e N body (I i) (Exit.then (fun a w=>∃ j,pre j∧μ j < μ i∧fZ e [] N (I j) a w) Q)) (i0:ι) (h0:pre i0):T P e N (.loop body) (I i0) Q:=by
 intro a w hm b k cs
 have key:∀ n i a w,μ i=n→pre i→fZ e [] N (I i) a w →
   ∃ ex a' w',Q ex a' w'∧Arrives P (lone (b.at a (.code body :: .inLoop body :: k)) cs w) b k cs ex a' w':=by
  intro n
  induction n using Nat.strongRecOn with
  | _ n ih =>
   intro i a w hn hp hI
   obtain ⟨ex,a₁,w₁,hq,harr⟩:=round i hp a w hI b (.inLoop body :: k) cs
   cases ex with
   | normal =>
    obtain ⟨j,hj,hlt,hI₁⟩:=hq
    obtain ⟨e₂,a₂,w₂,hq₂,harr₂⟩:=ih (μ j) (hn ▸ hlt) j a₁ w₁ rfl hj hI₁
    exact ⟨e₂,a₂,w₂,hq₂,.of_steps (Steps.trans harr (.one step_inLoop)) harr₂⟩
   | exit id=>exact ⟨_,a₁,w₁,hq,.pass (x:=.inLoop body) rfl (fun _ _=>.inl (by simp)) harr⟩
   | goto l=>exact ⟨_,a₁,w₁,hq,.pass (x:=.inLoop body) rfl (fun _ _=>.inl (by simp)) harr⟩
   | ret=>exact ⟨_,a₁,w₁,hq,.pass (x:=.inLoop body) rfl (fun _ _=>.inl (by simp)) harr⟩
   | panic ch=>exact ⟨_,a₁,w₁,hq,.pass (x:=.inLoop body) rfl (fun _ _=>.inl (by simp)) harr⟩
   | outgrown=>exact ⟨_,a₁,w₁,hq,.pass (x:=.inLoop body) rfl (fun _ _=>.inl (by simp)) harr⟩
 obtain ⟨ex,a',w',hq,harr⟩:=key _ i0 a w rfl h0 hm
 exact ⟨ex,a',w',hq,.of_steps (.one step_loop) harr⟩
end
end Go.Vm
namespace Go.Vm
def vX (fr:Fr):List Nat→AV
 | [t]=>aU fr t
 | ts=>.tup (ts.map (aU fr))
def uL (N:Nat) (fr:Fr):List Nat→Bool
 | [t]=>decide (t < N) && (aU fr t).closed
 | ts=>ts.all (fun t=>decide (t < N) && (aU fr t).flat && (aU fr t).closed && (aU fr t).zO) && nodupB ts
def tV (fr:Fr):Nat→List AV→Prop
 | _,[]=>True
 | i,a :: r=>(aU fr i=a∧a.gP=true)∧tV fr (i+1) r
def tmpsOf:List ResultVar→Option (List Nat)
 | []=>some []
 | .tmp t :: r=>(tmpsOf r).map (t :: ·)
 | _=>none
section
variable {P:Program} {e:Env} {S:Nat→Prop} {β:Path→Value} {fr:Fr} {w:World} {a:Act} {N:Nat}
def resβ (β:Path→Value) (ts:List Nat):Path→Value:=fun p=>if p.1=aH then (match ts with
  | [t]=>β (t,p.2)
  | _=>match p.2 with
   | 0=>.bool false
   | j+1=>β (ts.getD j 0,0)) else β p
theorem resβ_ne {β:Path→Value} {ts:List Nat} {q:Path} (h:q.1≠aH):resβ β ts q=β q:=by
 unfold resβ
 exact if_neg h
theorem resβ_one {β:Path→Value} {t i:Nat}:resβ β [t] (aH,i)=β (t,i):=by
 unfold resβ
 exact if_pos rfl
theorem resβ_many {β:Path→Value} {t1 t2:Nat} {r:List Nat} {j t:Nat} (h:(t1 :: t2 :: r)[j]? = some t):resβ β (t1 :: t2 :: r) (aH,j+1)=β (t,0):=by
 have e:resβ β (t1 :: t2 :: r) (aH,j+1)=β ((t1 :: t2 :: r).getD j 0,0):=if_pos rfl
 rw [e,List.getD_eq_getElem?_getD,h]
 rfl
theorem cO7 {a:AV} (hf:a.flat=true) (h:a.bN=true):a.aJ 0=true:=by
 cases a <;> first | exact h | cases hf
theorem bO0 {a:AV} {q:Path} (hf:a.flat=true) (h:q∈a.gU):q∈a.paths:=by
 cases a <;> first | exact h | cases hf
theorem aR8 {fr:Fr}:∀ {vs:List AV} {i:Nat},tV fr i vs→∀ (j:Nat) (a:AV),vs[j]? = some a→aU fr (i+j)=a∧a.gP=true
 | [],_,_,j,cs,h=>by simp at h
 | v :: vs,i,h,0,cs,hj=>by
  simp at hj
  subst hj
  exact h.1
 | v :: vs,i,h,j+1,cs,hj=>by
  have:=aR8 h.2 j cs (by simpa using hj)
  rwa [Nat.add_assoc,Nat.add_comm 1 j] at this
theorem bG4 {av:AV} (hb:av.gP=true):∀ q∈av.paths,q.1≠aH:=by
 intro q hq
 cases av <;> simp only [AV.gP,AV.mA,reduceCtorEq] at hb
 ·cases hq
 ·cases hq
 ·rename_i cs
  simp only [AV.paths,List.mem_flatMap] at hq
  obtain ⟨c,hc,hq⟩:=hq
  simp only [List.all_eq_true] at hb
  have hbc:=hb c hc
  cases c
  case clo f caps =>
   simp only [Bool.or_eq_true,Bool.and_eq_true,List.isEmpty_iff] at hbc
   rcases hbc with hbc | hbc
   ·rw [hbc.1] at hq; cases hq
   ·simp only [AV.aX0,List.all_eq_true] at hbc
    simp only [AV.gU,AV.lH,List.mem_flatMap] at hq
    obtain ⟨c,hc,hq⟩:=hq
    have:=hbc c hc
    cases c <;> simp only [AV.kC,List.mem_singleton,reduceCtorEq,decide_eq_true_eq] at hq this
    ·cases hq
    ·subst hq
     simp only [aF,aH] at this ⊢
     omega
  all_goals
   simp only [AV.aX0,Bool.or_false,Bool.and_eq_true,List.isEmpty_iff] at hbc
   rw [hbc.1] at hq
   cases hq
 ·cases hq
theorem bC3 (hm:Mem e [] S β fr (bF e a) w) (hN:a.tmps.size=N) (hNr:N≤aH) {ts:List Nat} (ho:uL N fr ts=true) {vout:List AV} (hv:tV fr aF vout) {u:Value}
  (hu:u=(if h:(ts.map fun t=>a.tmps.getD t undef).length=1 then (ts.map fun t=>a.tmps.getD t undef)[0] else .tuple (ts.map fun t=>a.tmps.getD t undef).toArray)) :
  ∃ S' β',Mem e [] S' β' ((aH,vX fr ts) :: iA aF vout) (fun x=>if x=aH then some u else e.vp x) w:=by
 have hvals:∀ t,t < N→bF e a t=some (a.tmps.getD t undef):=by
  intro t ht
  have:=kT (e:=e) (a:=a) (s:=t) (by rw [hN]; exact ht)
  simpa [Act.eval] using this
 -- the parts of the result that own,and where they come from
 have hfb:∀ x,x≠aH→aU ((aH,vX fr ts) :: iA aF vout) x=if aF≤x∧x < aF+vout.length then vout.getD (x - aF) .junk else .junk:=fun x h=>by
  rw [aZ _ _ (Ne.symm h),lN]
 have hbx:∀ x,aF≤x→x < aF+vout.length→aU fr x=vout.getD (x - aF) .junk∧(vout.getD (x - aF) .junk).gP=true:=by
  intro x h1 h2
  have hg:vout[x - aF]? = some (vout.getD (x - aF) .junk):=by
   rw [List.getD_eq_getElem?_getD,List.getElem?_eq_getElem (by omega)]
   rfl
  have:=aR8 hv _ _ hg
  rwa [show aF+(x - aF)=x by omega] at this
 -- every owner of the new frame is an owner of the old one
 have hsrc:∀ x i,(aU ((aH,vX fr ts) :: iA aF vout) x).aJ i=true→∃ y k,(aU fr y).aJ k=true∧resβ β ts (x,i)=β (y,k)∧((x≠aH∧y=x∧k=i∧aF≤x)∨(x=aH∧y < N∧((∃ t,ts=[t]∧y=t∧k=i)∨((∀ t,ts≠[t])∧∃ j,i=j+1∧ts[j]? = some y∧k=0)))):=by
  intro x i h
  by_cases hx:x=aH
  ·subst hx
   rw [aO] at h
   match ts,ho,h with
   | [t],ho,h =>
    simp only [vX] at h
    simp only [uL,Bool.and_eq_true,decide_eq_true_eq] at ho
    exact ⟨t,i,h,resβ_one,.inr ⟨rfl,ho.1,.inl ⟨t,rfl,rfl,rfl⟩⟩⟩
   | [],ho,h=>cases i <;> simp [vX,AV.aJ,AV.bN] at h
   | t1 :: t2 :: r,ho,h =>
    simp only [vX] at h
    cases i with
    | zero=>simp [AV.aJ,AV.bN] at h
    | succ j =>
     simp only [AV.aJ,List.getElem?_map] at h
     cases hj:(t1 :: t2 :: r)[j]? with
     | none=>simp [hj] at h
     | some t =>
      simp only [hj,Option.map_some,Option.getD_some] at h
      simp only [uL,Bool.and_eq_true,List.all_eq_true,decide_eq_true_eq] at ho
      obtain ⟨⟨⟨h1,h2⟩,_⟩,_⟩:=ho.1 t (List.mem_of_getElem? hj)
      refine ⟨t,0,?_,?_,.inr ⟨rfl,h1,.inr ⟨fun t'=>by simp,j,rfl,hj,rfl⟩⟩⟩
      ·exact cO7 h2 h
      ·exact resβ_many hj
  ·rw [hfb x hx] at h
   split at h
   case isFalse=>cases i <;> simp [AV.aJ,AV.bN] at h
   rename_i hc
   refine ⟨x,i,?_,resβ_ne hx,.inl ⟨hx,rfl,rfl,hc.1⟩⟩
   rw [(hbx x hc.1 hc.2).1]
   exact h
 refine ⟨S,resβ β ts,fun x=>?_,fun x l av h=>?_,fun x i y j b hx hy hxb hyb=>?_,fun x i b hx hxb=>?_,hm.stb,hm.s0,hm.old,hm.os,hm.tape,hm.output,hm.size⟩
 ·by_cases hx:x=aH
  ·subst hx
   rw [aO]
   refine ⟨u,?_,fun u' h=>by simpa using h.symm⟩
   match ts,ho,hu with
   | [t],ho,hu =>
    simp only [uL,Bool.and_eq_true,decide_eq_true_eq] at ho
    obtain ⟨u0,hr,hu0⟩:=hm.rel t
    have huu:u=u0:=by
     rw [hu]
     exact hu0 _ (by simpa using hvals t ho.1)
    subst huu
    have hcl:(aU fr t).paths=[]:=by
     have:=ho.2
     simp only [AV.closed,Bool.and_eq_true,List.isEmpty_iff] at this
     exact this.1
    exact hr.rename (fun j=>resβ_one) (fun q hq=>by rw [hcl] at hq; cases hq)
   | [],ho,hu =>
    refine ⟨[],?_,rfl,trivial⟩
    rw [hu]
    rfl
   | t1 :: t2 :: r,ho,hu =>
    refine ⟨(t1 :: t2 :: r).map fun t=>a.tmps.getD t undef,?_,?_,?_⟩
    ·rw [hu,dif_neg (by simp)]
    ·simp only [uL,Bool.and_eq_true,List.all_eq_true,decide_eq_true_eq] at ho
     rw [List.all_map,List.all_eq_true]
     exact fun t ht=>(ho.1 t ht).2
    ·refine bC.dD (by simp) fun j p c hp hc=>?_
     simp only [List.getElem?_map,Option.map_eq_some_iff] at hp hc
     obtain ⟨t,ht,rfl⟩:=hp
     obtain ⟨t',ht',rfl⟩:=hc
     rw [ht] at ht'
     cases ht'
     simp only [uL,Bool.and_eq_true,List.all_eq_true,decide_eq_true_eq] at ho
     obtain ⟨⟨⟨h1,h2⟩,h3⟩,h4⟩:=ho.1 t (List.mem_of_getElem? ht)
     obtain ⟨u0,hr,hu0⟩:=hm.rel t
     have:=hu0 _ (hvals t h1)
     rw [this]
     have hcl:(aU fr t).paths=[]:=by
      simp only [AV.closed,Bool.and_eq_true,List.isEmpty_iff] at h3
      exact h3.1
     refine ((dC h2).1 hr).rename ?_ (.inl h4) fun q hq=>?_
     ·rw [Nat.zero_add]
      exact resβ_many ht
     ·have:q∈(aU fr t).paths:=bO0 h2 (AV.qX _ q hq)
      rw [hcl] at this
      cases this
  ·rw [hfb x hx]
   split
   ·rename_i hc
    obtain ⟨u0,hr,hu0⟩:=hm.rel x
    obtain ⟨hb1,hb2⟩:=hbx x hc.1 hc.2
    rw [hb1] at hr
    refine ⟨u0,hr.turn (fun _ _ _=>rfl) (fun _ h=>h) (fun _ _=>rfl) (fun j=>resβ_ne hx) (fun _ _ _ _=>rfl) (fun q hq=>resβ_ne (bG4 hb2 q hq)),fun u' h=>hu0 u' ?_⟩
    ·have:a.tmps[x]? = none:=Array.getElem?_eq_none (by
      have q1:N≤999999:=hNr
      have q2:1000000≤x:=hc.1
      omega)
     simp only [bF,this]
     rw [if_pos (show 1000000≤x from hc.1)]; exact h
   ·refine ⟨(e.vp x).getD undef,trivial,fun u' h=>?_⟩
    simp [h]
 ·by_cases hx:x=aH
  ·subst hx
   rw [aO] at h
   match ts,ho,h with
   | [t],ho,h =>
    simp only [uL,Bool.and_eq_true,AV.closed] at ho
    simp only [vX] at h
    rw [h] at ho
    have:=ho.2.2
    cases this
   | [],ho,h=>cases h
   | t1 :: t2 :: r,ho,h=>cases h
  ·rw [hfb x hx] at h
   split at h
   case isFalse=>cases h
   rename_i hc
   have:=aM3 (hbx x hc.1 hc.2).2
   rw [h] at this
   cases this
 ·obtain ⟨y1,k1,h1,h2,h3⟩:=hsrc x i hx
  obtain ⟨y2,k2,h4,h5,h6⟩:=hsrc y j hy
  rw [h2] at hxb
  rw [h5] at hyb
  obtain ⟨h7,h8⟩:=hm.dis y1 k1 y2 k2 b h1 h4 hxb hyb
  subst h7
  subst h8
  rcases h3 with ⟨g1,g2,g3,g4⟩ | ⟨g1,g2,g3⟩ <;> rcases h6 with ⟨f1,f2,f3,f4⟩ | ⟨f1,f2,f3⟩
  ·exact ⟨g2.symm.trans f2,g3.symm.trans f3⟩
  ·subst g2
   have q1:N≤999999:=hNr
   have q2:1000000≤y1:=g4
   omega
  ·subst f2
   have q1:N≤999999:=hNr
   have q2:1000000≤y1:=f4
   omega
  ·refine ⟨g1.trans f1.symm,?_⟩
   rcases g3 with ⟨t,g3,g4,g5⟩ | ⟨gn,j1,g4,g5,g6⟩ <;> rcases f3 with ⟨t',f3,f4,f5⟩ | ⟨fn,j2,f4,f5,f6⟩
   ·exact g5.symm.trans f5
   ·exact absurd g3 (fn t)
   ·exact absurd f3 (gn t')
   ·have hnd:ts.Nodup:=by
     match ts,ho,gn with
     | [t],_,gn=>exact absurd rfl (gn t)
     | [],_,_=>exact List.nodup_nil
     | t1 :: t2 :: r,ho,_ =>
      simp only [uL,Bool.and_eq_true] at ho
      exact aH3 ho.2
    obtain ⟨p1,q1⟩:=List.getElem?_eq_some_iff.1 g5
    obtain ⟨p2,q2⟩:=List.getElem?_eq_some_iff.1 f5
    have:j1=j2:=(List.getElem_inj (h₀:=p1) (h₁:=p2) hnd).1 (by rw [q1,q2])
    omega
 ·obtain ⟨y1,k1,h1,h2,_⟩:=hsrc x i hx
  rw [h2] at hxb
  exact hm.fre y1 k1 b h1 hxb
def qI (P:Program) (fn:Func) (e:Env) (res:AV) (vout:List AV):Exit→Act→World→Prop
 | .ret,a,w | .normal,a,w=>a.defers=e.dfs∧∃ v,(results fn a.tmps).run P w=.ok v w∧∃ u S' β',Ending.returned v=.returned u∧Mem e [] S' β' ((aH,res) :: iA aF vout) (fun x=>if x=aH then some u else e.vp x) w
 | _,_,_=>False
theorem qI.body {fn:Func} {e:Env} {res:AV} {vout:List AV} (h0:e.dfs=[]):∀ ex a w,qI P fn e res vout ex a w→bodyPost P fn (fun e' w'=>∃ u S' β',e'=.returned u∧Mem e [] S' β' ((aH,res) :: iA aF vout) (fun x=>if x=aH then some u else e.vp x) w') ex a w
 | .ret,_,_,h | .normal,_,_,h=>⟨h.1.trans h0,h.2⟩
 | .panic _,_,_,h=>h.elim
 | .exit _,_,_,h=>h.elim
 | .goto _,_,_,h=>h.elim
 | .outgrown,_,_,h=>h.elim
theorem bL1 {fn:Func} {ts:List Nat} (h:tmpsOf fn.results.toList=some ts) (tmps:Array Value) :
  (results fn tmps).run P w=.ok (if h:(ts.map fun t=>tmps.getD t undef).length=1 then (ts.map fun t=>tmps.getD t undef)[0] else .tuple (ts.map fun t=>tmps.getD t undef).toArray) w:=by
 have key:∀ (l:List ResultVar) (ts:List Nat),tmpsOf l=some ts→(l.mapM (m:=Sem) fun
   | .tmp t=>pure (tmps.getD t undef)
   | .cell a t=>do loadVar t (← asAddr (tmps.getD a undef))).run P w=.ok (ts.map fun t=>tmps.getD t undef) w:=by
  intro l
  induction l with
  | nil=>intro ts h; simp only [tmpsOf,Option.some.injEq] at h; subst h; rfl
  | cons r l ih =>
   intro ts h
   cases r with
   | cell a t=>simp [tmpsOf] at h
   | tmp t =>
    simp only [tmpsOf,Option.map_eq_some_iff] at h
    obtain ⟨ts',h1,rfl⟩:=h
    simp only [List.mapM_cons,Sem.run_bind,Sem.run_pure,Result.andThen_ok,ih ts' h1,List.map_cons]
 have hk:=key fn.results.toList ts h
 have e:fn.results=fn.results.toList.toArray:=(Array.toArray_toList).symm
 unfold results
 rw [Sem.run_bind,e,List.mapM_toArray,Sem.run_map]
 exact congrArg (fun r:Result (List Value)=>(r.andThen fun a w'=>Result.ok a.toArray w').andThen fun a w'=>Sem.run P (pure (if h:a.size=1 then a[0] else Value.tuple a)) w') hk
theorem cH9 {fn:Func} (ts:List Nat) (hts:tmpsOf fn.results.toList=some ts) (cs:List Co) {fr fr':Fr} (h:nS cs fr=some fr') (hNr:decide (N≤aH)=true) (ho:uL N fr' ts=true) {res:AV} (hres:vX fr' ts=res) {vout:List AV} (hv:tV fr' aF vout) :
  ∀ a w,fZ e [] N fr a w→qI P fn e res vout .ret a w:=by
 intro a w hm
 obtain ⟨h1,h2,S,β,hm'⟩:=hm.co h
 obtain ⟨S',β',hm2⟩:=bC3 hm' h2 (of_decide_eq_true hNr) ho hv rfl
 rw [hres] at hm2
 exact ⟨h1,_,bL1 hts a.tmps,_,S',β',rfl,hm2⟩
theorem wR {fn:Func} (hN:fn.ntmps=N) {args vin:List AV} (hlen':args.length≤N) (hNr':N≤999999) {us:List Value} (hus:us.length=args.length)
  (hm:Mem ⟨w,dJ (bO args vin) β,S,bP β vin.length,[]⟩ [] S β (bO args vin) (fun x=>(us[x]?).or (bP β vin.length x)) w) :
  fZ ⟨w,dJ (bO args vin) β,S,bP β vin.length,[]⟩ [] N (bO args vin) { tmps:=us.toArray++Array.replicate (fn.ntmps - us.toArray.size) undef,defers:=[] } w:=by
 refine ⟨rfl,by simp; omega,S,β,?_⟩
 have hsz:(us.toArray++Array.replicate (fn.ntmps - us.toArray.size) undef).size=N:=by simp; omega
 refine ⟨fun x=>?_,hm.gok,hm.dis,hm.fre,hm.stb,hm.s0,hm.old,hm.os,hm.tape,hm.output,hm.size⟩
 obtain ⟨u,hr,hu⟩:=hm.rel x
 by_cases hx:x < args.length
 ·refine ⟨u,hr,fun u' h=>hu u' ?_⟩
  have h1:us[x]? = some us[x]:=List.getElem?_eq_getElem (by omega)
  simp only [bF] at h
  rw [Array.getElem?_append_left (by simpa using (by omega:x < us.length))] at h
  simp only [List.getElem?_toArray,h1] at h
  rw [h1]
  simpa using h
 ·by_cases hx2:x < N
  ·-- a slot that holds nothing yet
   have hfr:aU (bO args vin) x=.junk:=iJ (by omega) (by simp only [aF]; omega)
   rw [hfr]
   refine ⟨undef,trivial,fun u' h=>?_⟩
   simp only [bF] at h
   rw [Array.getElem?_append_right (by simpa using (by omega:us.length≤x))] at h
   rw [Array.getElem?_replicate] at h
   split at h
   ·rename_i h'
    split at h' <;> simp_all
   ·rename_i h'
    rw [if_pos (by simp; omega)] at h'
    cases h'
  ·refine ⟨u,hr,fun u' h=>hu u' ?_⟩
   simp only [bF] at h
   have hnone:(us.toArray++Array.replicate (fn.ntmps - us.toArray.size) undef)[x]? = none:=Array.getElem?_eq_none (by rw [hsz]; omega)
   rw [hnone] at h
   have h1:us[x]? = none:=List.getElem?_eq_none (by omega)
   rw [h1]
   simp only at h
   by_cases hxv:1000000≤x
   ·rw [if_pos hxv] at h
    simpa using h
   ·rw [if_neg hxv] at h
    cases h
theorem aS.intro {k : Nat} {fn : Func} {c : Code} (hf : P.funcs[k]? = some fn) (hb : fn.body = some c) (hname : (fn.name == "runtime.NumGoroutine") = false) (hN : fn.ntmps = N) {args : List AV} (hlen : decide (args.length ≤ N) = true) (hNr : decide (N ≤ aH) = true) {vin vout : List AV} {res : AV}
  (hT:∀ e:Env,T P e N c (bO args vin) (qI P fn e res vout)):aS P k args vin res vout :=
 ⟨⟨fn,hf,by simp [hb],hname⟩,fun w S β us hus hm=>calls_of_wp hf hb (Code.wp_mono (qI.body rfl) (hT ⟨w,dJ (bO args vin) β,S,bP β vin.length,[]⟩ _ w (wR hN (of_decide_eq_true hlen) (of_decide_eq_true hNr) hus hm)))⟩
end
end Go.Vm
namespace Go.Vm
def cI (k:IntKind) (x:Int):List Dat:=[.v (.int k x)]
def cB (x:Bool):List Dat:=[.v (.bool x)]
def cS (x:List UInt8):List Dat:=[.str x]
abbrev aI (k:IntKind) (x:Int):AV:=.d (.v (.int k x))
abbrev aB (x:Bool):AV:=.d (.v (.bool x))
def chk {α:Type} (p:Prop) [Decidable p] (k:Option α):Option α:=if p then k else none
theorem aQ {α:Type} {p:Prop} [Decidable p] {k:Option α} {r:α} (h:chk p k=some r):p∧k=some r:=by
 unfold chk at h
 split at h
 ·exact ⟨by assumption,h⟩
 ·cases h
theorem cU8 {α:Type} {b:Bool} {x y:Option α} {r:α} (hb:b=true) (h:(bif b then x else y)=some r):x=some r:=by
 subst hb; exact h
theorem cT1 {α:Type} {b:Bool} {x y:Option α} {r:α} (hb:b=false) (h:(bif b then x else y)=some r):y=some r:=by
 subst hb; exact h
def call {α γ:Type} (m:Option α) (k:α→Option γ):Option γ:=match m with
 | some x=>k x
 | none=>none
theorem aK {α γ:Type} {m:Option α} {k:α→Option γ} {r:γ} (h:call m k=some r):∃ x,m=some x∧k x=some r:=by
 unfold call at h
 split at h
 ·exact ⟨_,rfl,h⟩
 ·cases h
def cL {α:Type} (sz:Nat) (enc:α→List Dat) (x:List α):List Dat:=[.sl sz (x.map enc)]
def dH {α γ:Type} (x:α) (k:α→Option γ):Option γ:=k x
theorem bB {α γ:Type} {x:α} {k:α→Option γ} {r:γ} (h:dH x k=some r):∃ y,x=y∧k y=some r:=⟨x,rfl,h⟩
inductive Out (σ ε:Type) where
 | go (s:σ)
 | esc (e:ε)
def dA {σ ε γ:Type} (m:Option (Out σ ε)) (kr:ε→Option γ) (k:σ→Option γ):Option γ:=match m with
 | some (.go s)=>k s
 | some (.esc e)=>kr e
 | none=>none
theorem rD {σ ε γ:Type} {m:Option (Out σ ε)} {kr:ε→Option γ} {k:σ→Option γ} {r:γ} (h:dA m kr k=some r):∃ o,m=some o∧dA (some o) kr k=some r:=by
 cases m with
 | none=>cases h
 | some o=>exact ⟨o,rfl,h⟩
theorem aP {σ ε γ:Type} {x:ε} {kr:ε→Option γ} {k:σ→Option γ} {r:γ} (h:dA (some (.esc x)) kr k=some r):kr x=some r:=h
theorem fJ {α:Type} {b:Bool} {m:Option α} {d y:α} (hb:b=true) (h:(bif b then m else some d)=some y):m=some y:=by
 subst hb; exact h
theorem sS {α:Type} {p:Prop} {x y z:α} (h:p∧x=y) (h2:y=z):p∧x=z:=⟨h.1,h.2.trans h2⟩
theorem eW {α:Type} {xs:List α} (enc:α→List Dat):True∧AV.d (.v (.int .i64 ((xs.map enc).length:Int)))=AV.d (.v (.int .i64 (xs.length:Int))):=⟨trivial,by simp⟩
theorem jB {α:Type} {xs:List α} {i:Int} {d:α} (enc:α→List Dat) (h:0≤i∧i < xs.length):0≤i∧(xs.map enc)[i.toNat]? = some (enc (xs.getD i.toNat d)):=by
 refine ⟨h.1,?_⟩
 have:i.toNat < xs.length:=by omega
 simp [List.getD_eq_getElem?_getD,List.getElem?_eq_getElem this]
theorem rC {α:Type} {xs:List α} {i:Int} (enc:α→List Dat) (h:0≤i∧i < xs.length):0≤i∧i < (xs.map enc).length:=by
 simpa using h
theorem jC {α:Type} {xs ys:List α} (enc:α→List Dat) {n:Nat} (h:xs.length+ys.length≤n):(xs.map enc).length+(ys.map enc).length≤n∧xs.map enc++ys.map enc=(xs++ys).map enc:=by
 simpa using h
theorem bV9 {α:Type} {xs:List α} (enc:α→List Dat) (h:0 < xs.length):0 < (xs.map enc).length:=by simpa using h
section
variable {P:Program} {e:Env} {N:Nat} {fr:Fr} {Q:Exit→Act→World→Prop}
theorem nO {id:Nat} {a:Act} {w:World} (h:Q .normal a w):Exit.inBlock id Q (.exit id) a w:=by
 simp [Exit.inBlock,h]
theorem nM {id id':Nat} {a:Act} {w:World} (hne:(id' == id)=false) (h:Q (.exit id') a w):Exit.inBlock id Q (.exit id') a w:=by
 have:id'≠id:=by simpa using hne
 simp [Exit.inBlock,this,h]
theorem aY6 {ι:Type} (I:ι→Fr) (R:Nat→ι→Prop) {body:Code} (h0:∀ i,¬ R 0 i) (round:∀ n i,R (n+1) i→T P e N body (I i) (Exit.then (fun a w=>∃ j,R n j∧fZ e [] N (I j) a w) Q)) (n:Nat) (i:ι) (h:R n i):T P e N (.loop body) (I i) Q:=by
 refine cX3 (ι:=Nat×ι) (fun p=>I p.2) (fun p=>R p.1 p.2) (fun p=>p.1) (fun p hp=>?_) (n,i) h
 obtain ⟨m,j⟩:=p
 cases m with
 | zero=>exact absurd hp (h0 j)
 | succ m =>
  intro a w hm
  refine wp_mono (round m j hp a w hm) fun ex a' w' hq=>?_
  cases ex with
  | normal =>
   obtain ⟨j',hj,hm'⟩:=hq
   exact ⟨(m,j'),hj,Nat.lt_succ_self m,hm'⟩
  | exit id=>exact hq
  | goto l=>exact hq
  | ret=>exact hq
  | panic ch=>exact hq
  | outgrown=>exact hq
theorem nC {id:Nat} {a:Act} {w:World} (h:Q .normal a w):Exit.inBlock id Q .normal a w:=h
theorem oW {id:Nat} {a:Act} {w:World} (h:Q .ret a w):Exit.inBlock id Q .ret a w:=h
theorem sU {K:Act→World→Prop} {a:Act} {w:World} (h:K a w):Exit.then K Q .normal a w:=h
theorem tN {K:Act→World→Prop} {a:Act} {w:World} (h:Q .ret a w):Exit.then K Q .ret a w:=h
theorem sQ {K:Act→World→Prop} {id:Nat} {a:Act} {w:World} (h:Q (.exit id) a w):Exit.then K Q (.exit id) a w:=h
theorem cO3 {σ ρ:Type} {m:Option σ} {k:σ→Option ρ} {r:ρ} (h:call m k=some r) (I:σ→Fr) {x:Code} (hx:∀ s,m=some s→T P e N x fr (Exit.then (fun a w=>fZ e [] N (I s) a w) Q)) (hz:∀ s,k s=some r→∀ a w,fZ e [] N (I s) a w→Q .normal a w):T P e N x fr Q:=by
 obtain ⟨s,hm,hk⟩:=aK h
 intro a w hw
 refine wp_mono (hx s hm a w hw) fun ex a' w' hq=>?_
 cases ex with
 | normal=>exact hz s hk a' w' hq
 | exit id=>exact hq
 | goto l=>exact hq
 | ret=>exact hq
 | panic ch=>exact hq
 | outgrown=>exact hq
theorem cU9 {σ ρ:Type} {m:Option σ} {k:σ→Option ρ} {r:ρ} (h:call m k=some r) (I:σ→Fr) {x z:Code} (hx:∀ s,m=some s→T P e N x fr (Exit.then (fun a w=>fZ e [] N (I s) a w) Q)) (hz:∀ s,k s=some r→T P e N z (I s) Q):T P e N (.seq x z) fr Q:=by
 obtain ⟨s,hm,hk⟩:=aK h
 exact dD1 (I s) (hx s hm) (hz s hk)
theorem cI8 {σ ε ρ:Type} {m:Option (Out σ ε)} {kr:ε→Option ρ} {k:σ→Option ρ} {r:ρ} (h:dA m kr k=some r) (I:σ→Fr) {x:Code} (hx:∀ o,m=some o→dA (some o) kr k=some r→T P e N x fr (Exit.then (fun a w=>∃ s,o=.go s∧fZ e [] N (I s) a w) Q)) (hz:∀ s,k s=some r→∀ a w,fZ e [] N (I s) a w→Q .normal a w):T P e N x fr Q:=by
 obtain ⟨o,hm,hk⟩:=rD h
 intro a w hw
 refine wp_mono (hx o hm hk a w hw) fun ex a' w' hq=>?_
 cases ex with
 | normal =>
  obtain ⟨s,rfl,hq⟩:=hq
  exact hz s hk a' w' hq
 | exit id=>exact hq
 | goto l=>exact hq
 | ret=>exact hq
 | panic ch=>exact hq
 | outgrown=>exact hq
theorem cQ0 {σ ε ρ:Type} {m:Option (Out σ ε)} {kr:ε→Option ρ} {k:σ→Option ρ} {r:ρ} (h:dA m kr k=some r) (I:σ→Fr) {x z:Code} (hx:∀ o,m=some o→dA (some o) kr k=some r→T P e N x fr (Exit.then (fun a w=>∃ s,o=.go s∧fZ e [] N (I s) a w) Q)) (hz:∀ s,k s=some r→T P e N z (I s) Q):T P e N (.seq x z) fr Q:=by
 obtain ⟨o,hm,hk⟩:=rD h
 refine fun a w hw=>wp_seq (wp_mono (hx o hm hk a w hw) fun ex a' w' hq=>?_)
 cases ex with
 | normal =>
  obtain ⟨s,rfl,hq⟩:=hq
  exact hz s hk a' w' hq
 | exit id=>exact hq
 | goto l=>exact hq
 | ret=>exact hq
 | panic ch=>exact hq
 | outgrown=>exact hq
end
end Go.Vm
namespace Go.Vm
theorem aL5 {α:Type} {xs:List α} {i:Int} {d:α} {enc enc':α→List Dat} (he:∀ x,enc x=enc' x) (h:0≤i∧i < xs.length):0≤i∧(xs.map enc)[i.toNat]? = some (enc' (xs.getD i.toNat d)):=by
 rw [← he]
 exact jB enc h
theorem cV9 {α:Type} {enc enc':α→List Dat} (he:∀ x,enc x=enc' x) (x:α) {rs:List (List Dat)} {r:List α} (hr:rs=r.map enc):enc' x :: rs=(x :: r).map enc:=by
 rw [hr,List.map_cons,he]
end Go.Vm
namespace Go.Vm
def opP (P:Program) (N:Nat) (t:Nat) (fr:Fr) (o:Oper):Option Fr :=
 match o.op with
 | .assign (.tmp s)=>yI N true t s fr
 | .move (.tmp s)=>yI N false t s fr
 | .assign (.const (.slice none 0 0))=>bD5 P false t o.type fr
 | _=>none
def zP (P:Program) (N:Nat) (ops:Array Oper) (i:Nat) (h:Hint) (G:dX) (fr:Fr):Option (dX×Fr×Prop) :=
 match ops[i]? with
 | none=>none
 | some o=>if aK3 N G o.dst then
  match chainOf ops G o,o.dst with
  | some [],some t=>match opP P N t fr o with
   | some fr'=>some (G,fr',True)
   | none=>match bP1 P N G [] h fr o with
    | some r=>if (rwA h r).1.plain then some (xB G t [] (rwA h r).1,fO t (rwA h r).1 fr,(rwA h r).2) else none
    | none=>none
  | some (q :: g),some t=>match bP1 P N G (q :: g) h fr o with
   | some r=>if (rwA h r).1.plain then some (xB G t (q :: g) (rwA h r).1,fO t (.gd (q :: g) (rwA h r).1) fr,dN G (q :: g)=true→(rwA h r).2) else none
   | none=>none
  | _,_=>none
 else none
def cL7 (P:Program) (N:Nat) (ops:Array Oper) (hs:List (Nat×Hint)):List Nat→Array Bool→dX→Fr→Option (Fr×List Prop)
 | [],listed,_,fr=>if (Region.ready .any ops listed).isEmpty then some (fr,[]) else none
 | i :: r,listed,G,fr=>if Region.free .any ops listed i && (Region.ready .any ops listed).contains i then
   match zP P N ops i (lZ hs i) G fr with
   | some (G1,fr1,obl)=>match cL7 P N ops hs r (listed.setIfInBounds i true) G1 fr1 with
    | some (f,l)=>some (f,obl :: l)
    | none=>none
   | none=>none
  else none
def cZ0 (P:Program) (N:Nat) (ops:Array Oper) (hs:List (Nat×Hint)) (keep:List Nat) (cs:List Co) (fr:Fr):Option (Fr×List Prop) :=
 if Region.noSelect ops then
 match cL7 P N ops hs (List.range ops.size) (Array.replicate ops.size false) [] fr with
 | some (f,l)=>match jH (.keep keep) f with
  | some f'=>match nS cs f' with
   | some f''=>some (f'',l)
   | none=>none
  | none=>none
 | none=>none
 else none
section
variable {P:Program} {e:Env} {G:dX} {S:Nat→Prop} {β:Path→Value} {fr:Fr} {w:World} {a:Act} {N:Nat}
theorem cY8 (hN:a.tmps.size=N) (hm:Mem e G S β fr (bF e a) w) {t:Nat} (ht:t < a.tmps.size) {o:Oper} {fr':Fr} (h:opP P N t fr o=some fr') :
  ∃ u,(execOp a.eval o).run P w=.ok (.value u) w∧After e G fr' a t u w:=by
 obtain ⟨dst,op,type,pos,after,guard⟩:=o
 unfold opP at h
 simp only at h
 split at h
 ·exact ⟨_,rfl,wI hN hm ht h⟩
 ·exact ⟨_,rfl,wI hN hm ht h⟩
 ·exact ⟨_,rfl,aW7 hm ht h⟩
 ·cases h
theorem aT1 {ops:Array Oper} {i:Nat} {h:Hint} {G':dX} {fr':Fr} {obl:Prop} (hs:zP P N ops i h G fr=some (G',fr',obl)) (ho:obl) (hm:pY e G N fr a w) :
  ∃ o u,ops[i]? = some o∧YieldsIf P ops (fun w'=>w'=w) o u a∧pY e G' N fr' (a.put o.dst u) w:=by
 obtain ⟨hd,hN,hI,S,β,hm⟩:=hm
 unfold zP at hs
 split at hs
 ·cases hs
 rename_i o hoi
 split at hs
 case isFalse=>cases hs
 rename_i hfree
 have hdst:∀ t,o.dst=some t→t < N∧jG G t=none:=by
  intro t ht
  simpa [aK3,ht] using hfree
 refine ⟨o,?_⟩
 split at hs
 ·-- no guard
  rename_i t hch ht
  obtain ⟨hw,_⟩:=wE hI hch
  rw [sV] at hw
  obtain ⟨htN,htG⟩:=hdst t ht
  have hts:t < a.tmps.size:=by rw [hN]; exact htN
  split at hs
  ·rename_i fr1 hE
   simp only [Option.some.injEq,Prod.mk.injEq] at hs
   obtain ⟨rfl,rfl,rfl⟩:=hs
   obtain ⟨u,hu,S',β',hm'⟩:=cY8 hN hm hts hE
   refine ⟨u,hoi,.inl ⟨hw,fun w' hw'=>by subst hw'; exact hu⟩,?_⟩
   rw [ht]
   exact ⟨by rw [put_defers]; exact hd,by rw [kY]; exact hN,hI.put hN htN htG u,S',β',hm'⟩
  ·split at hs
   case h_2=>cases hs
   rename_i r hR
   split at hs
   case isFalse=>cases hs
   rename_i hpl
   simp only [Option.some.injEq,Prod.mk.injEq] at hs
   obtain ⟨rfl,rfl,rfl⟩:=hs
   obtain ⟨u,hu,hru⟩:=aK9 (P:=P) hN hI hm sV hR ho
   refine ⟨u,hoi,.inl ⟨hw,fun w' hw'=>by subst hw'; exact hu⟩,?_⟩
   rw [ht]
   refine ⟨by rw [put_defers]; exact hd,by rw [kY]; exact hN,?_,S,β,?_⟩
   ·exact oP (hI.put hN htN htG u) htN htG (by simp) (u:=u) (by rw [oH a t u hts,if_pos rfl]) (fun _=>hru) (fun h=>by rw [sV] at h; cases h)
   ·refine oU (hm.lT t _ u _ (fM a t u hts) (gL a t u hts) (zV hpl hru) (wG hpl) (fun l a h=>?_)) htG _ _
    rw [h] at hpl
    cases hpl
 ·-- under a guard
  rename_i q g t hch ht
  obtain ⟨hw,hgs⟩:=wE hI hch
  obtain ⟨htN,htG⟩:=hdst t ht
  have hts:t < a.tmps.size:=by rw [hN]; exact htN
  split at hs
  case h_2=>cases hs
  rename_i r hR
  split at hs
  case isFalse=>cases hs
  rename_i hpl
  simp only [Option.some.injEq,Prod.mk.injEq] at hs
  obtain ⟨rfl,rfl,rfl⟩:=hs
  cases hc:dN G (q :: g) with
  | true =>
   obtain ⟨u,hu,hru⟩:=aK9 (P:=P) hN hI hm hc hR (ho hc)
   refine ⟨u,hoi,.inl ⟨by rw [hw,hc],fun w' hw'=>by subst hw'; exact hu⟩,?_⟩
   rw [ht]
   refine ⟨by rw [put_defers]; exact hd,by rw [kY]; exact hN,?_,S,β,?_⟩
   ·exact oP (hI.put hN htN htG u) htN htG hgs (u:=u) (by rw [oH a t u hts,if_pos rfl]) (fun _=>hru) (fun h=>by rw [hc] at h; cases h)
   ·refine oU (hm.lT t _ u _ (fM a t u hts) (gL a t u hts) (show dV (dN G) S w β t (.gd (q :: g) _) u from ⟨fun _=>mV hpl hru,fun h=>by rw [hc] at h; cases h⟩) ?_ (fun l a h=>?_)) htG _ _
    ·intro j
     cases j <;> simp [AV.aJ,AV.bN,fP hpl]
    ·cases h
     exact ⟨fP hpl,hgs⟩
  | false =>
   refine ⟨undef,hoi,.inr ⟨by rw [hw,hc],rfl⟩,?_⟩
   rw [ht]
   refine ⟨by rw [put_defers]; exact hd,by rw [kY]; exact hN,?_,S,β,?_⟩
   ·exact oP (S:=S) (w:=w) (β:=β) (hI.put hN htN htG undef) htN htG hgs (u:=undef) (by rw [oH a t undef hts,if_pos rfl]) (fun h=>by rw [hc] at h; cases h) (fun _=>rfl)
   ·refine oU (hm.lT t _ undef _ (fM a t undef hts) (gL a t undef hts) (show dV (dN G) S w β t (.gd (q :: g) _) undef from ⟨fun h=>(by rw [hc] at h; cases h),fun _=>rfl⟩) ?_ (fun l a h=>?_)) htG _ _
    ·intro j
     cases j <;> simp [AV.aJ,AV.bN,fP hpl]
    ·cases h
     exact ⟨fP hpl,hgs⟩
 ·cases hs
theorem bV4 {ops:Array Oper} {hs:List (Nat×Hint)} (hsel:Region.noSelect ops=true) {Q:Exit→Act→World→Prop} (hQp:∀ c a w,¬ Q (.panic c) a w):∀ (l:List Nat) (listed:Array Bool) (G:dX) (fr fr':Fr) (obs:List Prop) (a:Act),cL7 P N ops hs l listed G fr=some (fr',obs)→uI obs→pY e G N fr a w →
  (∀ G' a',pY e G' N fr' a' w→Q .normal a' w)→wpAnyH P .any ops Q (fun w'=>w'=w) l.length listed a w
 | [],listed,G,fr,fr',obs,a,h,_,hm,hQ=>by
  simp only [cL7] at h
  split at h
  case isFalse=>cases h
  rename_i hr
  simp only [Option.some.injEq,Prod.mk.injEq] at h
  obtain ⟨rfl,_⟩:=h
  exact wpAnyH_done (by simpa using hr) (hQ G a hm) _
 | i :: r,listed,G,fr,fr',obs,a,h,ho,hm,hQ=>by
  simp only [cL7] at h
  split at h
  case isFalse=>cases h
  rename_i hfr
  simp only [Bool.and_eq_true] at hfr
  split at h
  case h_2=>cases h
  rename_i G1 fr1 obl hs1
  split at h
  case h_2=>cases h
  rename_i f l hl
  simp only [Option.some.injEq,Prod.mk.injEq] at h
  obtain ⟨rfl,rfl⟩:=h
  obtain ⟨o,u,ho1,hy,hm'⟩:=aT1 hs1 ho.1 hm
  exact wpAnyH_take ho1 hsel hfr.1 hfr.2 (fun c a w h=>absurd h (hQp c _ w)) hy rfl (bV4 hsel hQp r _ G1 fr1 f l _ hl ho.2 hm' hQ)
theorem Mem.drawn {vals:Nat→Option Value} (hm:Mem e G S β fr vals w) (n:Nat):Mem e G S β fr vals { w with drawn:=n }:=by
 have h:Mem e G S β ((0,aU fr 0) :: fr) vals { w with drawn:=n }:=by
  refine hm.change 0 (aU fr 0) (eZ 0) (aO 0 _ fr) (fun y hy=>.inl ⟨aZ _ _ (Ne.symm hy),fun _=>rfl⟩) (fun _ _ _=>rfl) (fun _ _=>rfl) (fun _ _ _ h=>h) ?_ (hm.gok 0) ?_ ?_ ?_ (fun _ h=>h) (fun _ h=>.inl h) (fun _ _=>rfl) (fun _ _ _ _ _ _=>rfl) (fun _ _ _=>rfl) (Nat.le_refl _) rfl rfl rfl
  ·obtain ⟨u,hr,hu⟩:=hm.rel 0
   exact ⟨u,dV.turn hr (fun _ _ _=>rfl) (fun _ h=>h) (fun _ _=>rfl) (fun _=>rfl) (fun _ _ _ _=>rfl) (fun _ _=>rfl),hu⟩
  ·intro i j b h1 h2 h3 h4
   exact (hm.dis 0 i 0 j b h1 h2 h3 h4).2
  ·intro i y j b h1 hy h2 h3 h4
   exact hy (hm.dis 0 i y j b h1 h2 h3 h4).1.symm
  ·intro i b h1 h2
   exact hm.fre 0 i b h1 h2
 exact h.congr fun x=>by
  by_cases hx:x=0
  ·subst hx; rw [aO]
  ·rw [aZ _ _ (Ne.symm hx)]
theorem cV5 {id:Nat} {ops:Array Oper} {hs:List (Nat×Hint)} {keep:List Nat} {cs:List Co} {fr':Fr} {obs:List Prop} {Q:Exit→Act→World→Prop} (hmx:P.follows .mixedOrders=true) (h:cZ0 P N ops hs keep cs fr=some (fr',obs)) (ho:uI obs) (hm:fZ e [] N fr a w)
  (hQ:∀ a' w',fZ e [] N fr' a' w'→Q .normal a' w'):(Code.region id ops true).wp P Q a w:=by
 unfold cZ0 at h
 split at h
 case isFalse=>cases h
 rename_i hsel
 split at h
 case h_2=>cases h
 rename_i f l hl
 split at h
 case h_2=>cases h
 rename_i f' hk
 split at h
 case h_2=>cases h
 rename_i f'' hc
 simp only [Option.some.injEq,Prod.mk.injEq] at h
 obtain ⟨rfl,rfl⟩:=h
 refine wp_mono (Q:=fun ex a w=>match ex with | .normal=>Q .normal a w | _=>False) ?_ (fun ex a' w' hq=>by cases ex <;> first | exact hq | exact hq.elim)
 refine wp_region_held hmx (S:=fun w'=>w'={ w with drawn:=w.drawn+1 }) ?_
 obtain ⟨h1,h2,S,β,hm⟩:=hm
 have hrun:=bV4 (e:=e) (w:={ w with drawn:=w.drawn+1 }) hsel (Q:=fun ex a w=>match ex with | .normal=>Q .normal a w | _=>False) (fun _ _ _ h=>h) (List.range ops.size) (Array.replicate ops.size false) [] fr f l a hl ho (rP ⟨h1,h2,S,β,hm.drawn _⟩) (fun G' a' hm'=>by
  obtain ⟨g1,g2,_,S',β',hm'⟩:=hm'
  obtain ⟨S'',β'',hm''⟩:=vK cs _ _ S' β' (uA hm' hk) hc
  exact hQ a' _ ⟨g1,g2,S'',β'',hm''⟩)
 simpa using hrun
variable {Q:Exit→Act→World→Prop}
theorem pD {id:Nat} {ops:Array Oper} (hmx:P.follows .mixedOrders=true) (hs:List (Nat×Hint)) (keep:List Nat) (cs:List Co) (fr':Fr) (obs:List (Nat×Prop)) (n:Nat) {k:Code} (h:cZ0 P N ops hs keep cs fr=some (fr',owed obs n)) (ho:aH9 obs) (hk:T P e N k fr' Q):T P e N (.seq (.region id ops true) k) fr Q :=
 fun _ _ hm=>wp_seq (cV5 hmx h ho.all hm fun a' w' hm'=>hk a' w' hm')
end
end Go.Vm
namespace Go.Vm
section
variable {P:Program} {e:Env} {G:dX} {S:Nat→Prop} {β:Path→Value} {fr:Fr} {vals:Nat→Option Value} {w:World}
theorem tH {args:List AV} {vin:List AV} {i x:Nat} (v:AV) (h:x≠i):aU (bO (args.set i v) vin) x=aU (bO args vin) x:=by
 simp only [bO,oM,List.length_set]
 split
 ·rename_i hx
  simp only [Nat.sub_zero,List.getD_eq_getElem?_getD]
  rw [List.getElem?_set_ne (Ne.symm h)]
 ·rfl
theorem zD {args:List AV} {vin:List AV} {i:Nat} (v:AV) (h:i < args.length):aU (bO (args.set i v) vin) i=v:=by
 rw [bW (by simpa using h),List.getD_eq_getElem?_getD]
 simp [h]
theorem dA5 (hm:Mem e G S β fr vals w) {i:Nat} (h:aU fr i=.d (.v (.slice none 0 0))):∀ u,vals i=some u→u=.slice none 0 0:=by
 obtain ⟨u,hr,hu⟩:=hm.rel i
 intro u' hu'
 rw [hu u' hu']
 rw [h] at hr
 exact hr.1
theorem aS.cF2 {k:Nat} {args args':List AV} {vin vout:List AV} {res:AV} {κ:TypeId} {sz:Nat} (i:Nat) (h:aS P k args vin res vout) (hi:args[i]? = some (.own κ sz [])) (he:args'=args.set i (.d (.v (.slice none 0 0)))) (hv:i < aF) (hp:dO i (bO args' vin)=bO args' vin):aS P k args' vin res vout:=by
 obtain ⟨hc,hk⟩:=h
 subst he
 have hil:i < args.length:=(List.getElem?_eq_some_iff.1 hi).1
 have hargs:aU (bO args vin) i=.own κ sz []:=by
  rw [bW hil,List.getD_eq_getElem?_getD,hi]
  rfl
 refine ⟨hc,fun w S β us hus hm=>?_⟩
 have hf:=zD (vin:=vin) (.d (.v (.slice none 0 0))) hil
 obtain ⟨β',hβ,hm2⟩:∃ β':Path→Value,(β'=fun p=>if p.1=i then .slice none 0 0 else β p)∧Mem ⟨w,dJ (bO (args.set i (.d (.v (.slice none 0 0)))) vin) β,S,bP β vin.length,[]⟩ [] S β' (fO i (.own κ sz []) (bO (args.set i (.d (.v (.slice none 0 0)))) vin)) (fun x=>(us[x]?).or (bP β vin.length x)) w:=by
  refine ⟨_,rfl,?_⟩
  have h1:=hm.qE i (.own κ sz []) (.slice none 0 0) (fun _=>.slice none 0 0) w (fun x=>(us[x]?).or (bP β vin.length x)) (fun _ _=>rfl) (dA5 hm hf) ((dC rfl).2 ⟨by simp,.inl ⟨rfl,rfl⟩⟩) (fun l a h=>by cases h) (by
   intro i b _ hb
   simp [blk] at hb) (by
   intro i j b _ _ hb
   simp [blk] at hb) (fun b _=>.inl rfl) (Nat.le_refl _) rfl rfl rfl
  exact h1
 have hO:dJ (bO args vin) β'=dJ (bO (args.set i (.d (.v (.slice none 0 0)))) vin) β:=by
  funext b
  refine propext ⟨fun ⟨x,j,h1,h2⟩=>?_,fun ⟨x,j,h1,h2⟩=>?_⟩
  ·by_cases hx:x=i
   ·subst hx
    rw [hβ] at h2
    simp [blk] at h2
   ·exact ⟨x,j,by rw [tH _ hx]; exact h1,by rw [hβ] at h2; simpa [hx] using h2⟩
  ·by_cases hx:x=i
   ·subst hx
    rw [hf] at h1
    cases j <;> simp [AV.aJ,AV.bN] at h1
   ·exact ⟨x,j,by rw [tH _ hx] at h1; exact h1,by rw [hβ]; simpa [hx] using h2⟩
 have hL:bP β' vin.length=bP β vin.length:=by
  funext x
  simp only [bP]
  split
  ·rename_i hx
   rw [hβ]
   have:x≠i:=by omega
   simp [this]
  ·rfl
 have hm3:=hm2.congr (fr':=bO args vin) fun x=>by
  by_cases hx:x=i
  ·subst hx; rw [bY,hargs]
  ·rw [fO,aZ _ _ (Ne.symm hx),hp,tH _ hx]
 rw [← hO,← hL] at hm3
 have:=hk w S β' us (by simpa using hus) hm3
 rw [hO,hL] at this
 exact this
end
end Go.Vm
namespace Go.Vm
section
variable {P:Program} {ops:Array Oper} {Q:Exit→Act→World→Prop} {m:Nat}
theorem bJ6 {listed:Array Bool} {i:Nat} (h0:listed.getD i true=false):listed.getD i false≠true:=by
 intro h1
 rcases Nat.lt_or_ge i listed.size with h' | h'
 ·simp [h'] at h0 h1
  rw [h0] at h1
  cases h1
 ·simp [Array.getElem?_eq_none h'] at h1
end
section
variable {P:Program} {e:Env} {fr:Fr} {w:World} {a:Act} {N:Nat}
variable {Q:Exit→Act→World→Prop}
end
end Go.Vm
namespace Go.Vm
def Dat.lD:Dat→Bool
 | .v _=>true
 | .str _=>true
 | _=>false
def AV.lD:AV→Bool
 | .d z=>z.lD
 | .bp _ _=>true
 | .ep _ _ _ _=>true
 | _=>false
theorem sO {S S':Nat→Prop} {w w':World} {z:Dat} {u u':Value} (hz:z.lD=true) (h:RD S w z u) (h':RD S' w' z u'):u=u':=by
 cases z <;> simp [Dat.lD] at hz
 ·rw [(aC3.1 h).1,(aC3.1 h').1]
 ·rw [aQ9.1 h,aQ9.1 h']
theorem mM {S S':Nat→Prop} {w w':World} {z:Dat} {u:Value} (hz:z.lD=true) (h:RD S w z u):RD S' w' z u:=by
 cases z <;> simp [Dat.lD] at hz
 ·exact aC3.2 (aC3.1 h)
 ·exact aQ9.2 (aQ9.1 h)
theorem uS {S:Nat→Prop} {w w':World} {β:Path→Value} {p p':Path} {z:AV} {u u':Value} (hz:z.lD=true) (h:aV S w β p z u) (h':aV S w' β p' z u'):u=u':=by
 cases z <;> simp only [AV.lD,Bool.false_eq_true] at hz
 ·exact sO hz h h'
 ·obtain ⟨b,h1,h2⟩:=h
  obtain ⟨b',h1',h2'⟩:=h'
  rw [h1] at h1'
  cases h1'
  rw [h2,h2']
 ·obtain ⟨b,o,h1,h2⟩:=h
  obtain ⟨b',o',h1',h2'⟩:=h'
  rcases h1 with ⟨n,c,h1⟩ | h1 <;> rw [h1] at h1' <;> rcases h1' with ⟨n',c',h1'⟩ | h1' <;> cases h1' <;> rw [h2,h2']
theorem rH {S:Nat→Prop} {w w':World} {β:Path→Value} {p:Path} {z:AV} {u:Value} (hz:z.lD=true) (h:aV S w β p z u):aV S w' β p z u:=by
 cases z <;> simp only [AV.lD,Bool.false_eq_true] at hz
 ·exact mM hz h
 ·exact h
 ·exact h
def aG3 (P:Program) (N:Nat) (_G:dX) (hint:Hint) (fr:Fr) (o:Oper):Bool :=
 match o.op with
 | .move _=>true
 | .assign _=>true
 | .binOp _ _ x y _=>(gH N [] fr x).lD && (gH N [] fr y).lD && (match opR P hint (gH N [] fr) fr o with
  | some r=>r.1.lD
  | none=>false)
 | .unOp _ _ x=>(gH N [] fr x).lD && (match opR P hint (gH N [] fr) fr o with
  | some r=>r.1.lD
  | none=>false)
 | .fieldAddr _ x _=>(gH N [] fr x).lD && (match opR P hint (gH N [] fr) fr o with
  | some r=>r.1.lD
  | none=>false)
 | .nilCheck x=>(gH N [] fr x).lD && (match opR P hint (gH N [] fr) fr o with
  | some r=>r.1.lD
  | none=>false)
 | .indexAddr _ x ix=>(match gH N [] fr x with
  | .vw p=>(match gR fr p with
   | .own _ _ _=>true
   | .arr _ _ _=>true
   | _=>false)
  | _=>false) && (gH N [] fr ix).lD && (match opR P hint (gH N [] fr) fr o with
  | some r=>r.1.lD
  | none=>false)
 | .call { callee:=.builtin .max,args:=⟨x :: r⟩,argTypes:=_ }=>(x :: r).all (fun y=>(gH N [] fr y).lD) && (match opR P hint (gH N [] fr) fr o with
  | some r=>r.1.lD
  | none=>false)
 | .call { callee:=.builtin .min,args:=⟨x :: r⟩,argTypes:=_ }=>(x :: r).all (fun y=>(gH N [] fr y).lD) && (match opR P hint (gH N [] fr) fr o with
  | some r=>r.1.lD
  | none=>false)
 | _=>false
def bX4 (P:Program) (N:Nat) (ops:Array Oper) (i:Nat) (h:Hint) (G:dX) (fr:Fr):Option (dX×Fr×Prop) :=
 match ops[i]? with
 | some o=>match chainOf ops G o with
  | some []=>if aG3 P N G h fr o then zP P N ops i h G fr else none
  | _=>none
 | none=>none
def bitsOf:List Nat→Nat
 | []=>0
 | i :: r=>2 ^ i ||| bitsOf r
theorem rW:∀ (l:List Nat) (j:Nat),(bitsOf l).testBit j=l.contains j
 | [],j=>by simp [bitsOf]
 | i :: r,j=>by
  simp only [bitsOf,Nat.testBit_or,Nat.testBit_two_pow,rW r j,List.contains_cons]
  congr 1
  rw [Bool.eq_iff_iff]
  simp
  exact eq_comm
def gQ (ops:Array Oper):List Nat:=ops.toList.map fun o=>bitsOf ((o.after.toList.filter (Region.binds .any ·)).map (·.on))
def mE (ops:Array Oper):List Nat:=(List.range ops.size).map fun i=>bitsOf ((List.range ops.size).filter fun j=>j != i && !(match ops[i]?,ops[j]? with
 | some oi,some oj=>oj.after.any (fun e=>Region.binds .any e && e.on == i) || oi.apart ops oj
 | _,_=>false))
def qK (needs:List Nat) (mask:Nat):List Nat:=(List.range needs.length).filter fun i => !mask.testBit i && (needs.getD i 0 &&& mask == needs.getD i 0)
def bM8 (confl:List Nat) (mask i:Nat):Bool:=decide (i < confl.length) && ((confl.getD i 0 &&& mask) == confl.getD i 0)
def Rel (ops:Array Oper) (listed:Array Bool) (mask:Nat):Prop:=listed.size=ops.size∧∀ j,listed.getD j false=mask.testBit j
theorem bX9 (x m:Nat):(x &&& m == x)=true↔∀ j,x.testBit j=true→m.testBit j=true:=by
 rw [beq_iff_eq]
 constructor
 ·intro h j hj
  rw [← h,Nat.testBit_and] at hj
  simp only [Bool.and_eq_true] at hj
  exact hj.2
 ·intro h
  apply Nat.eq_of_testBit_eq
  intro j
  rw [Nat.testBit_and]
  cases hx:x.testBit j with
  | false=>rfl
  | true=>rw [h j hx]; rfl
theorem Rel.aD9 {ops:Array Oper} {listed:Array Bool} {mask:Nat} (h:Rel ops listed mask) {j:Nat} (hj:j < ops.size):listed.getD j true=mask.testBit j:=by
 rw [← h.2 j]
 have hs:j < listed.size:=by rw [h.1]; exact hj
 simp [hs]
theorem Rel.ready {ops:Array Oper} {listed:Array Bool} {mask:Nat} (h:Rel ops listed mask):Region.ready .any ops listed=qK (gQ ops) mask:=by
 unfold Region.ready qK
 have hl:(gQ ops).length=ops.size:=by simp [gQ]
 rw [hl]
 apply List.filter_congr
 intro i hi
 have hi:=List.mem_range.1 hi
 rw [h.aD9 hi]
 congr 1
 have hn:(gQ ops).getD i 0=bitsOf ((ops[i].after.toList.filter (Region.binds .any ·)).map (·.on)):=by
  rw [List.getD_eq_getElem?_getD]
  simp [gQ,hi]
 rw [hn,Array.getElem?_eq_getElem hi]
 simp only [Option.map_some,Option.getD_some]
 rw [Bool.eq_iff_iff,bX9,← Array.all_toList,List.all_eq_true]
 constructor
 ·intro ha j hj
  rw [rW,List.contains_iff_mem,List.mem_map] at hj
  obtain ⟨e,he,rfl⟩:=hj
  obtain ⟨h1,h2⟩:=List.mem_filter.1 he
  have:=ha e h1
  rw [h2] at this
  simpa [h.2] using this
 ·intro ha e he
  cases hb:Region.binds .any e with
  | false=>rfl
  | true =>
   have:=ha e.on (by
    rw [rW,List.contains_iff_mem,List.mem_map]
    exact ⟨e,List.mem_filter.2 ⟨he,hb⟩,rfl⟩)
   simpa [h.2] using this
theorem Rel.free {ops:Array Oper} {listed:Array Bool} {mask i:Nat} (h:Rel ops listed mask) (hf:bM8 (mE ops) mask i=true):Region.free .any ops listed i=true:=by
 unfold bM8 at hf
 simp only [Bool.and_eq_true,decide_eq_true_eq] at hf
 obtain ⟨hi,hs⟩:=hf
 have hi:i < ops.size:=by simpa [mE] using hi
 have hn:(mE ops).getD i 0=bitsOf ((List.range ops.size).filter fun j=>j != i && !(match ops[i]?,ops[j]? with
   | some oi,some oj=>oj.after.any (fun e=>Region.binds .any e && e.on == i) || oi.apart ops oj
   | _,_=>false)):=by
  rw [List.getD_eq_getElem?_getD]
  simp [mE,hi]
 rw [hn] at hs
 rw [bX9] at hs
 unfold Region.free
 rw [Array.getElem?_eq_getElem hi]
 simp only [List.all_eq_true,List.mem_range]
 intro j hj
 by_cases hji:j=i
 ·simp [hji]
 cases hl:listed.getD j true with
 | true=>simp
 | false =>
  have hm:mask.testBit j=false:=by rw [← h.aD9 hj]; exact hl
  have hnot:¬ (bitsOf ((List.range ops.size).filter fun j=>j != i && !(match ops[i]?,ops[j]? with
   | some oi,some oj=>oj.after.any (fun e=>Region.binds .any e && e.on == i) || oi.apart ops oj
   | _,_=>false))).testBit j=true:=fun hc=>by rw [hs j hc] at hm; cases hm
  rw [rW,List.contains_iff_mem,List.mem_filter,List.mem_range,Array.getElem?_eq_getElem hi,Array.getElem?_eq_getElem hj] at hnot
  have hji':(j != i)=true:=by simpa using hji
  simp only [hj,true_and,hji',Bool.true_and,Bool.not_eq_true',Bool.not_eq_false] at hnot
  rw [Array.getElem?_eq_getElem hj]
  simp only [Bool.or_false,Bool.or_eq_true]
  right
  simpa using hnot
theorem Rel.set {ops:Array Oper} {listed:Array Bool} {mask i:Nat} (h:Rel ops listed mask) (hi:i < ops.size):Rel ops (listed.setIfInBounds i true) (mask ||| 2 ^ i):=by
 refine ⟨by simpa using h.1,fun j=>?_⟩
 have hs:i < listed.size:=by rw [h.1]; exact hi
 rw [Nat.testBit_or,Nat.testBit_two_pow,← h.2 j]
 by_cases hij:i=j
 ·subst hij
  simp [hs]
 ·simp [hij]
theorem Rel.start (ops:Array Oper):Rel ops (Array.replicate ops.size false) 0:=by
 refine ⟨by simp,fun j=>?_⟩
 rw [Nat.zero_testBit]
 simp only [Array.getD_eq_getD_getElem?,Array.getElem?_replicate]
 split <;> rfl
inductive aJ9 where
 | done
 | take (i:Nat) (p:aJ9)
 | all (p:aJ9)
 | alt (i:Nat) (p r:aJ9)
 | stop
def aE6 (P:Program) (N:Nat) (ops:Array Oper) (i:Nat) (h:Hint) (G:dX) (fr:Fr):Bool :=
 match ops[i]? with
 | some o=>match chainOf ops G o with
  | some []=>aG3 P N G h fr o
  | _=>false
 | none=>false
def cX2 (needs:List Nat) (mask i:Nat):List Nat→Nat→Nat
 | [],B=>B
 | j :: r,B=>cX2 needs mask i r (if !mask.testBit j && ((needs.getD j 0).testBit i || (needs.getD j 0 &&& B != 0)) then B ||| 2 ^ j else B)
def aC8 (needs:List Nat) (st mask i:Nat):Bool :=
 let B:=cX2 needs mask i (List.range needs.length) 0
 (List.range needs.length).all fun j=>st.testBit j || mask.testBit j || B.testBit j
inductive Blk (ops:Array Oper) (listed:Array Bool) (i:Nat):Nat→Prop
 | one {j:Nat} {oj:Oper} {e:Edge} (hj:ops[j]? = some oj) (he:e∈oj.after) (hb:Region.binds .any e=true) (hon:e.on=i):Blk ops listed i j
 | step {j:Nat} {oj:Oper} {e:Edge} (hj:ops[j]? = some oj) (he:e∈oj.after) (hb:Region.binds .any e=true) (hun:listed.getD e.on true=false) (h:Blk ops listed i e.on):Blk ops listed i j
def bL3 (P:Program) (N:Nat) (ops:Array Oper) (st i:Nat) (h:Hint) (G:dX) (fr:Fr):Option (dX×Fr×Prop) :=
 if st.testBit i then zP P N ops i h G fr else step1 P N ops i h G fr
def vF (P:Program) (N:Nat) (ops:Array Oper) (tb:List Nat×List Nat) (st:Nat) (hs:List (Nat×Hint)) (fin:Fr→Option Fr):aJ9→Bool→Nat→Nat→dX→Fr→Option (List Nat×List Fr×List Prop)
 | .done,true,_,mask,_,fr=>if (qK tb.1 mask).isEmpty then (fin fr).map fun f=>([],[f],[]) else none
 | .take i p,true,fuel+1,mask,G,fr=>if st.testBit i && bM8 tb.2 mask i && (qK tb.1 mask).contains i && (aE6 P N ops i (lZ hs i) G fr || aC8 tb.1 st mask i) then
   match zP P N ops i (lZ hs i) G fr with
   | some (G1,fr1,obl)=>match vF P N ops tb st hs fin p true fuel (mask ||| 2 ^ i) G1 fr1 with
    | some (_,f,l)=>some ([],f,obl :: l)
    | none=>none
   | none=>none
  else none
 | .all p,true,fuel+1,mask,G,fr=>match vF P N ops tb st hs fin p false fuel mask G fr with
  | some (is,f,l)=>if qK tb.1 mask == is && !is.isEmpty then some ([],f,l) else none
  | none=>none
 | .alt i p r,false,fuel,mask,G,fr=>match bL3 P N ops st i (lZ hs i) G fr with
  | some (G1,fr1,obl)=>match vF P N ops tb st hs fin p true fuel (mask ||| 2 ^ i) G1 fr1 with
   | some (_,f,l)=>match vF P N ops tb st hs fin r false fuel mask G fr with
    | some (is,f',l')=>some (i :: is,f++f',obl :: (l++l'))
    | none=>none
   | none=>none
  | none=>none
 | .stop,false,_,_,_,_=>some ([],[],[])
 | _,_,_,_,_,_=>none
def aH2 (keep:List Nat) (cs:List Co) (f:Fr):Option Fr:=match jH (.keep keep) f with
 | some f'=>nS cs f'
 | none=>none
section
variable {P:Program} {e:Env} {G:dX} {S:Nat→Prop} {β:Path→Value} {fr:Fr} {w:World} {a:Act} {N:Nat}
theorem qN {s:Sem Value} {u:Value} (h:s.run P w=.ok u w):(do pure (Next.value (← s)):Sem Next).run P w=.ok (.value u) w:=by
 simp [h]
theorem vT {s:Sem Value} {u r:Value} (h:(do pure (Next.value (← s)):Sem Next).run P w=.ok (.value u) w) (h':s.run P w=.ok r w):u=r:=by
 simp [h'] at h
 exact h.symm
theorem dB9 {N:Nat} {fr:Fr} {x:Operand} {r:List Operand} (h:∀ y∈x :: r,(gH N [] fr y).lD=true) {j:Nat} {y:AV} (hy:(r.map (gH N [] fr))[j]? = some y):y.lD=true:=by
 rw [List.getElem?_map,Option.map_eq_some_iff] at hy
 obtain ⟨z,hz,rfl⟩:=hy
 exact h z (List.mem_cons_of_mem _ (List.mem_of_getElem? hz))
theorem bR1 (hN:a.tmps.size=N) (hm:Mem e G S β fr (bF e a) w) {hint:Hint} {o:Oper} (hf:aG3 P N G hint fr o=true) (ho:∀ r,opR P hint (gH N [] fr) fr o=some r→(∃ x,o.op=.move x∨o.op=.assign x)∨r.2) {u:Value} (hu:(execOp a.eval o).run P w=.ok (.value u) w) (w':World) :
  (execOp a.eval o).run P w'=.ok (.value u) w':=by
 obtain ⟨dst,op,type,pos,after,guard⟩:=o
 have hval:=fun x=>nL hm hN [] rfl x
 unfold aG3 at hf
 simp only at hf
 split at hf
 ·rename_i x
  have h1:(execOp a.eval ⟨dst,.move x,type,pos,after,guard⟩).run P w=.ok (.value (a.eval x)) w:=rfl
  rw [h1] at hu
  cases hu
  rfl
 ·rename_i x
  have h1:(execOp a.eval ⟨dst,.assign x,type,pos,after,guard⟩).run P w=.ok (.value (a.eval x)) w:=rfl
  rw [h1] at hu
  cases hu
  rfl
 ·rename_i op t x y z
  simp only [Bool.and_eq_true] at hf
  obtain ⟨⟨hx,hy⟩,hz⟩:=hf
  split at hz
  case h_2=>cases hz
  rename_i r hr
  have hob:r.2:=by
   rcases ho r hr with ⟨q,hq⟩ | h
   ·rcases hq with hq | hq <;> cases hq
   ·exact h
  unfold opR at hr
  simp only at hr
  split at hr
  case h_4=>cases hr
  case h_3 =>
   rename_i hA _
   rw [hA] at hx
   cases hx
  case h_2 =>
   rename_i hA _
   rw [hA] at hx
   cases hx
  rename_i A B hA hB
  have h1:=hval x
  have h2:=hval y
  rw [hA] at h1 hx
  rw [hB] at h2 hy
  split at hr
  ·rename_i z ob hzz
   simp only [Option.some.injEq] at hr
   subst hr
   obtain ⟨r1,hr1,hr2⟩:=aT3 P (S:=S) w op t x y A B z ob hzz hob _ _ h1 h2
   obtain ⟨r2,hr3,hr4⟩:=aT3 P (S:=S) w' op t x y A B z ob hzz hob _ _ (mM hx h1) (mM hy h2)
   have:=sO hz hr2 hr4
   subst this
   have:u=r1:=vT hu hr1
   subst this
   exact qN hr3
  ·split at hr
   case isFalse =>
    simp only [Option.map_eq_some_iff] at hr
    obtain ⟨b,hb,rfl⟩:=hr
    have hr1:=aM5 (X:=x) (w:=w) hb h1 h2
    have hr3:=aM5 (X:=x) (w:=w') hb (mM (w':=w') (S':=S) hx h1) (mM (w':=w') (S':=S) hy h2)
    have:u=.bool b:=vT hu hr1
    subst this
    exact qN hr3
   rename_i ht
   simp only [Option.map_eq_some_iff] at hr
   obtain ⟨z,hzz,rfl⟩:=hr
   have htt:P.underlying t=some .bool:=by
    unfold bB6 at ht
    split at ht
    ·assumption
    ·cases ht
   obtain ⟨r1,hr1,hr2⟩:=aF2 P (S:=S) w op t x y A B z htt hzz _ _ h1 h2
   obtain ⟨r2,hr3,hr4⟩:=aF2 P (S:=S) w' op t x y A B z htt hzz _ _ (mM hx h1) (mM hy h2)
   have:=sO hz hr2 hr4
   subst this
   have:u=r1:=vT hu hr1
   subst this
   exact qN hr3
 ·rename_i op t x
  simp only [Bool.and_eq_true] at hf
  obtain ⟨hx,hz⟩:=hf
  split at hz
  case h_2=>cases hz
  rename_i r hr
  unfold opR at hr
  simp only at hr
  split at hr
  case h_2=>cases hr
  rename_i A hA
  have h1:=hval x
  rw [hA] at h1 hx
  simp only [Option.map_eq_some_iff] at hr
  obtain ⟨z,hzz,rfl⟩:=hr
  obtain ⟨r1,hr1,hr2⟩:=bB8 P (S:=S) w op A z hzz _ h1
  obtain ⟨r2,hr3,hr4⟩:=bB8 P (S:=S) w' op A z hzz _ (mM hx h1)
  have:=sO hz hr2 hr4
  subst this
  have:u=r1:=vT hu hr1
  subst this
  exact qN hr3
 ·rename_i s x f
  simp only [Bool.and_eq_true] at hf
  obtain ⟨hx,hz⟩:=hf
  split at hz
  case h_2=>cases hz
  rename_i r hr
  unfold opR at hr
  simp only [Option.map_eq_some_iff] at hr
  obtain ⟨z,hzz,rfl⟩:=hr
  obtain ⟨r1,hr1,hr2,_⟩:=uT (P:=P) hzz (hval x)
  obtain ⟨r2,hr3,hr4,_⟩:=uT (P:=P) (w:=w') hzz (rH hx (hval x))
  have:=uS hz hr2 hr4
  subst this
  have:u=r1:=vT hu hr1
  subst this
  exact qN hr3
 ·rename_i x
  simp only [Bool.and_eq_true] at hf
  obtain ⟨hx,hz⟩:=hf
  split at hz
  case h_2=>cases hz
  rename_i r hr
  have h1:=hval x
  unfold opR at hr
  simp only at hr
  split at hr
  ·rename_i y off hxx
   rw [hxx] at h1
   obtain ⟨b,_,hb⟩:=h1
   have key:∀ w,(execOp a.eval ⟨dst,.nilCheck x,type,pos,after,guard⟩).run P w=.ok (.value (a.eval x)) w:=by
    intro w
    simp only [execOp,hb]
    rfl
   rw [key] at hu
   cases hu
   exact key w'
  ·rename_i p sz i off hxx
   rw [hxx] at h1
   obtain ⟨b,_,_,hb⟩:=h1
   have key:∀ w,(execOp a.eval ⟨dst,.nilCheck x,type,pos,after,guard⟩).run P w=.ok (.value (a.eval x)) w:=by
    intro w
    simp only [execOp,hb]
    rfl
   rw [key] at hu
   cases hu
   exact key w'
  ·rename_i cs hxx
   rw [hxx] at hx
   cases hx
  ·rename_i p hxx
   rw [hxx] at hx
   cases hx
  ·cases hr
 ·rename_i t x ix
  simp only [Bool.and_eq_true] at hf
  obtain ⟨⟨hx,hix⟩,hz⟩:=hf
  split at hx
  case h_2=>cases hx
  rename_i p hxp
  split at hz
  case h_2=>cases hz
  rename_i r hr
  have hob:r.2:=by
   rcases ho r hr with ⟨q,hq⟩ | h
   ·rcases hq with hq | hq <;> cases hq
   ·exact h
  unfold opR at hr
  simp only at hr
  have h1:=hval x
  have h2:=hval ix
  rw [hxp] at hr h1
  unfold wK at hr
  split at hr
  ·rename_i k i m size hiv hes
   rw [hiv] at h2
   have hyy:a.eval ix=.int k i:=h2.1
   unfold yC at hes
   split at hes
   ·rename_i E hu'
    simp only [Option.map_eq_some_iff,Prod.mk.injEq] at hes
    obtain ⟨ti,hti,_,_,rfl⟩:=hes
    simp only at hr
    split at hx
    case h_3=>cases hx
    case h_2=>rename_i hp; simp only [hp] at hr; cases hr
    rename_i sz es hp
    simp only [hp] at hr
    split at hr
    case isFalse=>cases hr
    rename_i hsz
    subst hsz
    simp only [Option.some.injEq] at hr
    subst hr
    have huu:a.eval x=β p:=h1
    have hown:=jW hm hp
    rcases hown with ⟨_,rfl⟩ | ⟨b,o,c,arr,E',fz,h5,_⟩
    ·obtain ⟨h3,h4⟩:=hob
     simp at h4
     omega
    ·have key:∀ w,(execOp a.eval ⟨dst,.indexAddr t x ix,type,pos,after,guard⟩).run P w=.ok (.value (.pointer (some ⟨b,o+i.toNat * ti.size,none⟩))) w:=by
      intro w
      simp only [execOp]
      rw [huu,h5,hyy]
      exact qN (uF hu' hti b o es.length c k i hob.1 hob.2)
     rw [key] at hu
     cases hu
     exact key w'
   ·simp only [Option.map_eq_some_iff,Prod.mk.injEq] at hes
    obtain ⟨_,_,h,_⟩:=hes
    cases h
   ·cases hes
  ·rename_i k i n size hiv hes
   rw [hiv] at h2
   have hyy:a.eval ix=.int k i:=h2.1
   unfold yC at hes
   split at hes
   ·simp only [Option.map_eq_some_iff,Prod.mk.injEq] at hes
    obtain ⟨_,_,h,_⟩:=hes
    cases h
   ·rename_i n' E hu'
    simp only [Option.map_eq_some_iff,Prod.mk.injEq] at hes
    obtain ⟨ti,hti,_,rfl,rfl⟩:=hes
    simp only at hr
    split at hx
    case h_3=>cases hx
    case h_1=>rename_i hp; simp only [hp] at hr; cases hr
    rename_i sz es hp
    simp only [hp] at hr
    split at hr
    case isFalse=>cases hr
    rename_i hsz
    subst hsz
    simp only [Option.some.injEq] at hr
    subst hr
    have huu:a.eval x=β p:=h1
    obtain ⟨b,arr,h5,_⟩:=uD hm hp
    have hal:P.arrayLen t=n':=by simp [Program.arrayLen,hu']
    have hel:P.elem t=E:=by simp [Program.elem,hu']
    have key:∀ w,(execOp a.eval ⟨dst,.indexAddr t x ix,type,pos,after,guard⟩).run P w=.ok (.value (.pointer (some ⟨b,0+i.toNat * ti.size,none⟩))) w:=by
     intro w
     simp only [execOp]
     rw [huu,h5,hyy]
     refine qN ?_
     rw [run_indexAt_array w t ⟨b,0,none⟩ k i (by rw [hal,hel]; exact hu'),hal,if_pos hob,hel]
     simp [sizeOf,typeInfo,hti,addr_add]
    rw [key] at hu
    cases hu
    exact key w'
   ·cases hes
  ·cases hr
 ·rename_i x r ts
  simp only [Bool.and_eq_true] at hf
  obtain ⟨hx,hz⟩:=hf
  split at hz
  case h_2=>cases hz
  rename_i q hr
  unfold opR at hr
  simp only [Option.map_eq_some_iff] at hr
  obtain ⟨z,hzz,rfl⟩:=hr
  have hx0:=List.all_eq_true.1 hx
  obtain ⟨v1,hr1,hr2,_⟩:=wS (P:=P) _ _ _ _ _ hzz (hval x) (rQ hval r 0)
  obtain ⟨v2,hr3,hr4,_⟩:=wS (P:=P) (w:=w') _ _ _ _ _ hzz (rH (hx0 x (List.mem_cons_self ..)) (hval x)) (bC.mono (rQ hval r 0) fun j y c hy _ hrr=>rH (dB9 hx0 hy) hrr)
  have:=uS hz hr2 hr4
  subst this
  have key:∀ w,((r.map a.eval).foldlM (if false=true then Builtin.min2 else Builtin.max2) (a.eval x)).run P w=.ok v1 w→(execOp a.eval ⟨dst,.call { callee:=.builtin .max,args:=⟨x :: r⟩,argTypes:=ts },type,pos,after,guard⟩).run P w=.ok (.value v1) w:=by
   intro w hv
   simp only [execOp,resolve,invoke,builtin,Sem.run_bind,Sem.run_pure,Result.andThen_ok,Builtin.max_,List.map_toArray,List.map_cons]
   simp only [Bool.false_eq_true,if_false] at hv
   rw [hv]
   rfl
  rw [key w hr1] at hu
  cases hu
  exact key w' hr3
 ·rename_i x r ts
  simp only [Bool.and_eq_true] at hf
  obtain ⟨hx,hz⟩:=hf
  split at hz
  case h_2=>cases hz
  rename_i q hr
  unfold opR at hr
  simp only [Option.map_eq_some_iff] at hr
  obtain ⟨z,hzz,rfl⟩:=hr
  have hx0:=List.all_eq_true.1 hx
  obtain ⟨v1,hr1,hr2,_⟩:=wS (P:=P) _ _ _ _ _ hzz (hval x) (rQ hval r 0)
  obtain ⟨v2,hr3,hr4,_⟩:=wS (P:=P) (w:=w') _ _ _ _ _ hzz (rH (hx0 x (List.mem_cons_self ..)) (hval x)) (bC.mono (rQ hval r 0) fun j y c hy _ hrr=>rH (dB9 hx0 hy) hrr)
  have:=uS hz hr2 hr4
  subst this
  have key:∀ w,((r.map a.eval).foldlM (if true=true then Builtin.min2 else Builtin.max2) (a.eval x)).run P w=.ok v1 w→(execOp a.eval ⟨dst,.call { callee:=.builtin .min,args:=⟨x :: r⟩,argTypes:=ts },type,pos,after,guard⟩).run P w=.ok (.value v1) w:=by
   intro w hv
   simp only [execOp,resolve,invoke,builtin,Sem.run_bind,Sem.run_pure,Result.andThen_ok,Builtin.min_,List.map_toArray,List.map_cons]
   simp only [if_true] at hv
   rw [hv]
   rfl
  rw [key w hr1] at hu
  cases hu
  exact key w' hr3
 ·cases hf
theorem cK2 {ops:Array Oper} {i:Nat} {h:Hint} {G':dX} {fr':Fr} {obl:Prop} (hs:bX4 P N ops i h G fr=some (G',fr',obl)) (ho:obl) (hm:pY e G N fr a w) :
  ∃ o u,ops[i]? = some o∧YieldsIf P ops (fun _=>True) o u a∧pY e G' N fr' (a.put o.dst u) w:=by
 unfold bX4 at hs
 split at hs
 case h_2=>cases hs
 rename_i o hoi
 split at hs
 case h_2=>cases hs
 rename_i hch
 split at hs
 case isFalse=>cases hs
 rename_i hf
 obtain ⟨o',u,h1,h2,h3⟩:=aT1 hs ho hm
 rw [hoi] at h1
 cases h1
 refine ⟨o,u,hoi,?_,h3⟩
 rcases h2 with ⟨hw,hr⟩ | h2
 ·refine .inl ⟨hw,fun w' _=>?_⟩
  obtain ⟨hd,hN,hI,S,β,hmm⟩:=hm
  refine bR1 hN hmm hf (fun r hr'=>?_) (hr w rfl) w'
  unfold zP at hs
  rw [hoi] at hs
  simp only at hs
  split at hs
  case isFalse=>cases hs
  rw [hch] at hs
  split at hs
  ·rename_i t hc ht
   split at hs
   ·rename_i fr1 hE
    left
    unfold opP at hE
    split at hE
    ·rename_i hop; exact ⟨_,.inr hop⟩
    ·rename_i hop; exact ⟨_,.inl hop⟩
    ·rename_i hop; exact ⟨_,.inr hop⟩
    ·cases hE
   ·split at hs
    case h_2=>cases hs
    rename_i r1 hR
    split at hs
    case isFalse=>cases hs
    simp only [Option.some.injEq,Prod.mk.injEq] at hs
    obtain ⟨_,_,rfl⟩:=hs
    unfold bP1 at hR
    split at hR
    ·rename_i hop
     unfold aG3 at hf
     rw [hop] at hf
     cases hf
    ·rename_i hop
     unfold aG3 at hf
     rw [hop] at hf
     cases hf
    ·rw [hr'] at hR
     cases hR
     right
     unfold rwA at ho
     split at ho
     ·exact ho.1
     ·exact ho
  ·rename_i hc _
   cases hc
  ·cases hs
 ·exact .inr h2
theorem aC5 {ops:Array Oper} {i:Nat} {h:Hint} {G':dX} {fr':Fr} {obl:Prop} (hs:zP P N ops i h G fr=some (G',fr',obl)) (ho:obl) (hm:pY e G N fr a w) :
  ∃ o u,ops[i]? = some o∧YieldsIf P ops (fun w'=>aE6 P N ops i h G fr=true∨w'=w) o u a∧pY e G' N fr' (a.put o.dst u) w:=by
 cases hb:aE6 P N ops i h G fr with
 | true =>
  have hw:bX4 P N ops i h G fr=some (G',fr',obl):=by
   unfold aE6 at hb
   unfold bX4
   split at hb
   case h_2=>cases hb
   rename_i o hoi
   split at hb
   case h_2=>cases hb
   rename_i hch
   simp only [hb,if_true]
   exact hs
  obtain ⟨o,u,h1,h2,h3⟩:=cK2 hw ho hm
  refine ⟨o,u,h1,?_,h3⟩
  rcases h2 with ⟨h4,h5⟩ | h2
  ·exact .inl ⟨h4,fun w' _=>h5 w' trivial⟩
  ·exact .inr h2
 | false =>
  obtain ⟨o,u,h1,h2,h3⟩:=aT1 hs ho hm
  refine ⟨o,u,h1,?_,h3⟩
  rcases h2 with ⟨h4,h5⟩ | h2
  ·exact .inl ⟨h4,fun w' hw'=>h5 w' (hw'.resolve_left (by simp))⟩
  ·exact .inr h2
def uB (P:Program) (ops:Array Oper) (Q:Exit→Act→World→Prop) (st:Nat):Nat→Array Bool→Act→World→Prop
 | 0,listed,a,w=>Region.ready .any ops listed=[]∧Q .normal a w
 | fuel+1,listed,a,w=>(Region.ready .any ops listed=[]→Q .normal a w) ∧
  ∀ i∈Region.ready .any ops listed,wpOp P ops Q i (fun a' w'=>(st.testBit i=true→w'=w)∧uB P ops Q st fuel (listed.setIfInBounds i true) a' w') a w
theorem wT {ops:Array Oper} {Q:Exit→Act→World→Prop} {st:Nat}:∀ (fuel:Nat) (listed:Array Bool) (a:Act) (w:World),uB P ops Q st fuel listed a w→wpAny P .any ops Q fuel listed a w
 | 0,_,_,_,h=>h
 | fuel+1,_,_,_,h=>⟨h.1,fun i hi=>wpOp_mono (fun a' w' h'=>wT fuel _ a' w' h'.2) (h.2 i hi)⟩
theorem Blk.set {ops:Array Oper} {listed:Array Bool} {i j k:Nat} (hnb:¬ Blk ops listed i j) (h:Blk ops listed i k):Blk ops (listed.setIfInBounds j true) i k:=by
 induction h with
 | one hj he hb hon=>exact .one hj he hb hon
 | step hj he hb hun h ih =>
  refine .step hj he hb ?_ ih
  have hne:j≠_:=fun e=>hnb (e ▸ h)
  rw [getD_set_ne true hne]
  exact hun
theorem cN7 {ops:Array Oper} {Q:Exit→Act→World→Prop} {st i:Nat} {oi:Oper} {v:Value} {b:Bool} (hi:ops[i]? = some oi)
  (hsel:Region.noSelect ops=true) (hQp:∀ (c:List PanicEntry) (a:Act) (w:World) (d:Option Nat) (u:Value),Q (.panic c) (a.put d u) w→Q (.panic c) a w) :
  ∀ (fuel:Nat) (listed:Array Bool) (a:Act) (w:World),(b=false→∀ j oj,ops[j]? = some oj→st.testBit j=false→listed.getD j true=false→Blk ops listed i j)→(∀ j oj,ops[j]? = some oj→j≠i→listed.getD j true=false→(∀ e∈oj.after,Region.binds .any e=true→e.on≠i)→oi.apart ops oj=true)→i∈Region.ready .any ops listed→YieldsIf P ops (fun w'=>b=true∨w'=w) oi v a →
   uB P ops Q st fuel (listed.setIfInBounds i true) (a.put oi.dst v) w→uB P ops Q st (fuel+1) listed a w:=by
 intro fuel
 induction fuel with
 | zero =>
  intro listed a w _ _ hr hy H
  refine ⟨fun h=>(by rw [h] at hr; cases hr),fun j hj=>?_⟩
  by_cases hji:j=i
  ·subst hji
   exact hy.wpOp hi (.inr rfl) ⟨fun _=>rfl,H⟩
  ·have:=ready_mono hj hji
   rw [H.1] at this
   cases this
 | succ fuel ih =>
  intro listed a w hw hfree hr hy H
  refine ⟨fun h=>(by rw [h] at hr; cases hr),fun j hj=>?_⟩
  by_cases hji:j=i
  ·subst hji
   exact hy.wpOp hi (.inr rfl) ⟨fun _=>rfl,H⟩
  ·obtain ⟨hjun,oj,hoj,hall⟩:=mem_ready.1 hj
   have hnot:∀ e∈oj.after,Region.binds .any e=true→e.on≠i:=fun e he hb heq=>by
    have h1:=hall e he hb
    rw [heq] at h1
    exact bJ6 (mem_ready.1 hr).1 h1
   have hnb:¬ Blk ops listed i j:=by
    intro hb
    cases hb with
    | one hj' he hb hon =>
     rw [hoj] at hj'
     cases hj'
     exact hnot _ he hb hon
    | step hj' he hb hun _ =>
     rw [hoj] at hj'
     cases hj'
     exact bJ6 hun (hall _ he hb)
   have h2:=wpOp_putIf hoj (hfree j oj hoj hji hjun hnot) (fun cs b=>Region.noSelect_spec hsel i oi cs b hi) (fun cs b=>Region.noSelect_spec hsel j oj cs b hoj) (fun c a w h=>hQp c a w _ _ h) hy (H.2 j (ready_mono hj hji))
   refine wpOp_mono (fun a' w' h3=>?_) h2
   obtain ⟨h4,h5,h6⟩:=h3
   refine ⟨h5,ih (listed.setIfInBounds j true) a' w' (fun hb k ok hk hs hun=>(hw hb k ok hk hs ?_).set hnb) (fun k ok hk hki hun hno=>?_) (ready_mono hr (Ne.symm hji)) ?_ ?_⟩
   ·by_cases hjk:j=k
    ·subst hjk; exact hjun
    ·rw [getD_set_ne true hjk] at hun; exact hun
   ·refine hfree k ok hk hki ?_ hno
    by_cases hjk:j=k
    ·subst hjk; exact hjun
    ·rw [getD_set_ne true hjk] at hun; exact hun
   ·cases b with
    | true =>
     rcases h4 with ⟨h7,h8⟩ | h4
     ·exact .inl ⟨h7,fun w'' _=>h8 w'' (.inl rfl)⟩
     ·exact .inr h4
    | false =>
     have hst:st.testBit j=true:=by
      cases hs:st.testBit j with
      | true=>rfl
      | false =>
       exact absurd (hw rfl j oj hoj hs hjun) hnb
     have:=h5 hst
     subst this
     exact h4
   ·rw [Array.setIfInBounds_comm _ _ hji]
    exact h6
theorem uE:∀ {a b:List Prop},uI (a++b)→uI a∧uI b
 | [],_,h=>⟨trivial,h⟩
 | _ :: _,_,h=>⟨⟨h.1,(uE h.2).1⟩,(uE h.2).2⟩
theorem bW9 {ops:Array Oper} {mask i:Nat} {listed:Array Bool} (hrel:Rel ops listed mask):∀ (l:List Nat) (B:Nat),(∀ j∈l,j < ops.size)→(∀ j,B.testBit j=true→j < ops.size∧mask.testBit j=false∧Blk ops listed i j)→∀ j,(cX2 (gQ ops) mask i l B).testBit j=true→j < ops.size∧mask.testBit j=false∧Blk ops listed i j
 | [],B,_,h,j,hj=>h j hj
 | k :: r,B,hl,h,j,hj=>by
  refine bW9 hrel r _ (fun q hq=>hl q (by simp [hq])) (fun q hq=>?_) j hj
  split at hq
  case isFalse=>exact h q hq
  rename_i hc
  simp only [Bool.and_eq_true,Bool.not_eq_true',Bool.or_eq_true,bne_iff_ne,ne_eq] at hc
  rw [Nat.testBit_or,Nat.testBit_two_pow,Bool.or_eq_true,decide_eq_true_eq] at hq
  rcases hq with hq | rfl
  ·exact h q hq
  have hlt:=hl k (by simp)
  refine ⟨hlt,hc.1,?_⟩
  have hk:ops[k]? = some ops[k]:=Array.getElem?_eq_getElem hlt
  have hn:(gQ ops).getD k 0=bitsOf ((ops[k].after.toList.filter (Region.binds .any ·)).map (·.on)):=by
   rw [List.getD_eq_getElem?_getD]
   simp [gQ,hk]
  have hedge:∀ t,((gQ ops).getD k 0).testBit t=true→∃ e∈ops[k].after,Region.binds .any e=true∧e.on=t:=by
   intro t ht
   rw [hn,rW,List.contains_iff_mem,List.mem_map] at ht
   obtain ⟨e,he,hon⟩:=ht
   obtain ⟨h1,h2⟩:=List.mem_filter.1 he
   exact ⟨e,Array.mem_toList_iff.1 h1,h2,hon⟩
  rcases hc.2 with h1 | h1
  ·obtain ⟨e,he,hb,hon⟩:=hedge i h1
   exact .one hk he hb hon
  ·obtain ⟨t,ht⟩:=Nat.exists_testBit_of_ne_zero h1
   rw [Nat.testBit_and,Bool.and_eq_true] at ht
   obtain ⟨e,he,hb,hon⟩:=hedge t ht.1
   obtain ⟨g1,g2,g3⟩:=h t ht.2
   refine .step hk he hb ?_ (by rw [hon]; exact g3)
   rw [hon,hrel.aD9 g1]
   exact g2
theorem aB7 {ops:Array Oper} {st mask i:Nat} {listed:Array Bool} (hrel:Rel ops listed mask) (h:aC8 (gQ ops) st mask i=true) {j:Nat} {oj:Oper} (hj:ops[j]? = some oj) (hs:st.testBit j=false) (hun:listed.getD j true=false):Blk ops listed i j:=by
 have hlt:j < ops.size:=(Array.getElem?_eq_some_iff.1 hj).1
 have hnl:(gQ ops).length=ops.size:=by simp [gQ]
 unfold aC8 at h
 have:=(List.all_eq_true.1 h) j (List.mem_range.2 (by rw [hnl]; exact hlt))
 rw [hrel.aD9 hlt] at hun
 rw [hs,hun,Bool.false_or,Bool.false_or] at this
 exact (bW9 hrel _ 0 (fun q hq=>by rw [hnl] at hq; exact List.mem_range.1 hq) (fun q hq=>by simp at hq) j this).2.2
theorem aQ1 {ops:Array Oper} {st i:Nat} {h:Hint} {G':dX} {fr':Fr} {obl:Prop} (hs:bL3 P N ops st i h G fr=some (G',fr',obl)) (ho:obl) (hm:pY e G N fr a w) {K:Act→World→Prop} {Q:Exit→Act→World→Prop}
  (hK:∀ a' w',pY e G' N fr' a' w'→K a' w'):wpOp P ops Q i (fun a' w'=>(st.testBit i=true→w'=w)∧K a' w') a w:=by
 unfold bL3 at hs
 split at hs
 ·obtain ⟨o,u,ho1,hy,hm'⟩:=aC5 hs ho hm
  exact hy.wpOp ho1 (.inr rfl) ⟨fun _=>rfl,hK _ _ hm'⟩
 ·rename_i hns
  obtain ⟨o,ho1,hwt,hnw⟩:=aE5 (K:=fun a' w'=>(st.testBit i=true→w'=w)∧K a' w') (Q:=Q) hs ho hm fun a' w' hm'=>⟨fun h=>absurd h hns,hK a' w' hm'⟩
  unfold wpOp
  simp only [ho1]
  by_cases hwant:Region.wanted o (yielded ops a.tmps)=true
  ·rw [if_pos hwant]
   exact .inl (hwt hwant)
  ·rw [if_neg hwant]
   exact ⟨fun h=>absurd h hns,(hnw (by simpa using hwant)).2⟩
theorem cQ3 {ops:Array Oper} {tb:List Nat×List Nat} (htb:tb=(gQ ops,mE ops)) {st:Nat} {hs:List (Nat×Hint)} {keep:List Nat} {cs:List Co} (hsel:Region.noSelect ops=true) {Q:Exit→Act→World→Prop} (hQp:∀ c a w,¬ Q (.panic c) a w) {fr':Fr} (hQ:∀ a' w',fZ e [] N fr' a' w'→Q .normal a' w'):∀ (p:aJ9) (b:Bool) (fuel:Nat) (listed:Array Bool) (mask:Nat) (G:dX) (fr:Fr) (is:List Nat) (frs:List Fr) (obs:List Prop) (a:Act) (w:World),Rel ops listed mask→vF P N ops tb st hs (aH2 keep cs) p b fuel mask G fr=some (is,frs,obs)→(∀ f∈frs,f=fr')→uI obs→pY e G N fr a w →
  (b=true→uB P ops Q st fuel listed a w)∧(b=false→∀ i∈is,i < ops.size→wpOp P ops Q i (fun a' w'=>(st.testBit i=true→w'=w)∧uB P ops Q st fuel (listed.setIfInBounds i true) a' w') a w):=by
 subst htb
 intro p
 induction p with
 | done =>
  intro b fuel listed mask G fr is frs obs a w hrel h hf _ hm
  cases b with
  | false=>simp [vF] at h
  | true =>
   simp only [vF] at h
   split at h
   case isFalse=>cases h
   rename_i hr
   simp only [Option.map_eq_some_iff,Prod.mk.injEq] at h
   obtain ⟨f,hfin,_,rfl,_⟩:=h
   have:=hf f (List.mem_singleton.2 rfl)
   subst this
   have hq:Q .normal a w:=by
    refine hQ a w ?_
    unfold aH2 at hfin
    split at hfin
    case h_2=>cases hfin
    rename_i f' hk
    obtain ⟨g1,g2,_,S',β',hm'⟩:=hm
    obtain ⟨S'',β'',hm''⟩:=vK cs _ _ S' β' (uA hm' hk) hfin
    exact ⟨g1,g2,S'',β'',hm''⟩
   have hr':Region.ready .any ops listed=[]:=by rw [hrel.ready]; simpa using hr
   refine ⟨fun _=>?_,fun h=>by cases h⟩
   cases fuel with
   | zero=>exact ⟨hr',hq⟩
   | succ fuel=>exact ⟨fun _=>hq,fun i hi=>(by rw [hr'] at hi; cases hi)⟩
 | stop =>
  intro b fuel listed mask G fr is frs obs a w _ h _ _ _
  cases b with
  | true=>simp [vF] at h
  | false =>
   simp only [vF,Option.some.injEq,Prod.mk.injEq] at h
   obtain ⟨rfl,_⟩:=h
   exact ⟨fun h=>(by cases h),fun _ i hi _=>(by cases hi)⟩
 | take i p ih =>
  intro b fuel listed mask G fr is frs obs a w hrel h hf ho hm
  cases b with
  | false=>simp [vF] at h
  | true =>
   cases fuel with
   | zero=>simp [vF] at h
   | succ fuel =>
    simp only [vF] at h
    split at h
    case isFalse=>cases h
    rename_i hc
    simp only [Bool.and_eq_true,Bool.or_eq_true] at hc
    obtain ⟨⟨⟨hst,hfr⟩,hrd⟩,hcase⟩:=hc
    split at h
    case h_2=>cases h
    rename_i G1 fr1 obl hsp
    split at h
    case h_2=>cases h
    rename_i is2 f2 l2 h2
    simp only [Option.some.injEq,Prod.mk.injEq] at h
    obtain ⟨_,rfl,rfl⟩:=h
    obtain ⟨o,u,ho1,hy,hm'⟩:=aC5 hsp ho.1 hm
    have hready:i∈Region.ready .any ops listed:=by rw [hrel.ready]; simpa using hrd
    exact ⟨fun _=>cN7 (b:=aE6 P N ops i (lZ hs i) G fr) ho1 hsel (fun c a w d v h=>absurd h (hQp c _ w)) fuel listed a w (fun hb j oj hj hs hun=>aB7 hrel (hcase.resolve_left (by rw [hb]; simp)) hj hs hun) (Region.free_spec ho1 (hrel.free hfr)) hready hy ((ih true fuel _ _ G1 fr1 is2 f2 l2 _ w (hrel.set (Array.getElem?_eq_some_iff.1 ho1).1) h2 hf ho.2 hm').1 rfl),fun h=>by cases h⟩
 | all p ih =>
  intro b fuel listed mask G fr is frs obs a w hrel h hf ho hm
  cases b with
  | false=>simp [vF] at h
  | true =>
   cases fuel with
   | zero=>simp [vF] at h
   | succ fuel =>
    simp only [vF] at h
    split at h
    case h_2=>cases h
    rename_i is2 f2 l2 h2
    split at h
    case isFalse=>cases h
    rename_i hc
    simp only [Bool.and_eq_true,beq_iff_eq,Bool.not_eq_true',List.isEmpty_eq_false_iff] at hc
    simp only [Option.some.injEq,Prod.mk.injEq] at h
    obtain ⟨_,rfl,rfl⟩:=h
    have hrd:Region.ready .any ops listed=is2:=hrel.ready.trans hc.1
    refine ⟨fun _=>⟨fun h=>absurd (hrd ▸ h) hc.2,fun j hj=>?_⟩,fun h=>by cases h⟩
    have hj2:j∈is2:=by rw [← hrd]; exact hj
    refine (ih false fuel listed mask G fr is2 f2 l2 a w hrel h2 hf ho hm).2 rfl j hj2 ?_
    obtain ⟨_,o,ho,_⟩:=mem_ready.1 hj
    exact (Array.getElem?_eq_some_iff.1 ho).1
 | alt i p r ihp ihr =>
  intro b fuel listed mask G fr is frs obs a w hrel h hf ho hm
  cases b with
  | true=>simp [vF] at h
  | false =>
   simp only [vF] at h
   split at h
   case h_2=>cases h
   rename_i G1 fr1 obl hs1
   split at h
   case h_2=>cases h
   rename_i is2 f2 l2 h2
   split at h
   case h_2=>cases h
   rename_i is3 f3 l3 h3
   simp only [Option.some.injEq,Prod.mk.injEq] at h
   obtain ⟨rfl,rfl,rfl⟩:=h
   refine ⟨fun h=>(by cases h),fun _ j hj hlt=>?_⟩
   have hob:=uE ho.2
   rcases List.mem_cons.1 hj with rfl | hj
   ·exact aQ1 hs1 ho.1 hm fun a' w' hm'=>(ihp true fuel _ _ G1 fr1 is2 f2 l2 a' w' (hrel.set hlt) h2 (fun y hy=>hf y (List.mem_append.2 (.inl hy))) hob.1 hm').1 rfl
   ·exact (ihr false fuel listed mask G fr is3 f3 l3 a w hrel h3 (fun y hy=>hf y (List.mem_append.2 (.inr hy))) hob.2 hm).2 rfl j hj hlt
theorem bV3 {id:Nat} {ops:Array Oper} {hs:List (Nat×Hint)} {keep:List Nat} {cs:List Co} {fr':Fr} {obs:List Prop} {k:Nat} {Q:Exit→Act→World→Prop} (hmx:P.follows .mixedOrders=true) (hsel:Region.noSelect ops=true) {p:aJ9} {tb:List Nat×List Nat} {st:Nat} (htb:(gQ ops,mE ops)=tb) (h:vF P N ops tb st hs (aH2 keep cs) p true ops.size 0 [] fr=some ([],List.replicate k fr',obs)) (ho:uI obs) (hm:fZ e [] N fr a w)
  (hQ:∀ a' w',fZ e [] N fr' a' w'→Q .normal a' w'):(Code.region id ops true).wp P Q a w:=by
 refine wp_mono (Q:=fun ex a w=>match ex with | .normal=>Q .normal a w | _=>False) ?_ (fun ex a' w' hq=>by cases ex <;> first | exact hq | exact hq.elim)
 refine wp_region_any hmx (wT (st:=st) _ _ _ _ ?_)
 obtain ⟨h1,h2,S,β,hm⟩:=hm
 exact (cQ3 (e:=e) htb.symm hsel (Q:=fun ex a w=>match ex with | .normal=>Q .normal a w | _=>False) (fun _ _ _ h=>h) hQ p true ops.size _ 0 [] fr [] _ obs a { w with drawn:=w.drawn+1 } (Rel.start ops) h (fun f hf=>(List.mem_replicate.1 hf).2) ho (rP ⟨h1,h2,S,β,hm.drawn _⟩)).1 rfl
variable {Q:Exit→Act→World→Prop}
theorem uJ {id:Nat} {ops:Array Oper} (hmx:P.follows .mixedOrders=true) (m:Nat) (p:aJ9) (tb:List Nat×List Nat) (st:Nat) (hs:List (Nat×Hint)) (keep:List Nat) (cs:List Co) (fr':Fr) (obs:List (Nat×Prop)) (n:Nat) {k:Code} (hsel:Region.noSelect ops=true) (htb:(gQ ops,mE ops)=tb) (h:vF P N ops tb st hs (aH2 keep cs) p true ops.size 0 [] fr=some ([],List.replicate m fr',owed obs n)) (ho:aH9 obs) (hk:T P e N k fr' Q):T P e N (.seq (.region id ops true) k) fr Q :=
 fun _ _ hm=>wp_seq (bV3 hmx hsel htb h ho.all hm fun a' w' hm'=>hk a' w' hm')
theorem pA {id:Nat} {ops:Array Oper} (hmx:P.follows .mixedOrders=true) (m:Nat) (p:aJ9) (tb:List Nat×List Nat) (st:Nat) (hs:List (Nat×Hint)) (keep:List Nat) (cs:List Co) (fr':Fr) (obs:List (Nat×Prop)) (n:Nat) (hsel:Region.noSelect ops=true) (htb:(gQ ops,mE ops)=tb) (h:vF P N ops tb st hs (aH2 keep cs) p true ops.size 0 [] fr=some ([],List.replicate m fr',owed obs n)) (ho:aH9 obs) (hk:∀ a w,fZ e [] N fr' a w→Q .normal a w):T P e N (.region id ops true) fr Q :=
 fun _ _ hm=>bV3 hmx hsel htb h ho.all hm hk
end
end Go.Vm
namespace Go.Vm
def frM (tbl:List (Nat×Nat×AV)) (keep:List Nat) (mask:Nat):Fr :=
 let f:Fr:=(tbl.filter fun t=>(mask * 2+1).testBit t.1).map (·.2)
 keep.map fun x=>(x,aU f x)
abbrev uC:=Nat×Nat×Option Nat
def bY0 (P:Program) (N:Nat) (ops:Array Oper) (tb:List Nat×List Nat) (st:Nat) (hs:List (Nat×Hint)) (keep:List Nat) (fr:Fr) (mask i:Nat) (take:Bool):Option (Fr×Prop) :=
 if take then
  if st.testBit i && bM8 tb.2 mask i && (qK tb.1 mask).contains i && (aE6 P N ops i (lZ hs i) [] fr || aC8 tb.1 st mask i) then
   match zP P N ops i (lZ hs i) [] fr with
   | some (_,fr1,obl)=>(jH (.keep keep) fr1).map (·,obl)
   | none=>none
  else none
 else match bL3 P N ops st i (lZ hs i) [] fr with
  | some (_,fr1,obl)=>(jH (.keep keep) fr1).map (·,obl)
  | none=>none
def cU4 (rest:List uC) (fuel mask:Nat):Bool:=rest.any fun n=>n.1+1 == fuel && n.2.1 == mask
def aN7 (P:Program) (N:Nat) (ops:Array Oper) (tb:List Nat×List Nat) (st:Nat) (hs:List (Nat×Hint)) (keep:List Nat) (tbl:List (Nat×Nat×AV)) (rest:List uC) (fuel:Nat) (fr:Fr) (mask:Nat):List Nat→Option (List Fr×List Fr×List Prop)
 | []=>some ([],[],[])
 | i :: r=>match bY0 P N ops tb st hs keep fr mask i false with
  | some (f,o)=>if cU4 rest fuel (mask ||| 2 ^ i) then match aN7 P N ops tb st hs keep tbl rest fuel fr mask r with
   | some (l1,l2,l)=>some (f :: l1,frM tbl keep (mask ||| 2 ^ i) :: l2,o :: l)
   | none=>none
   else none
  | none=>none
def aW6 (P:Program) (N:Nat) (ops:Array Oper) (tb:List Nat×List Nat) (st:Nat) (hs:List (Nat×Hint)) (keep:List Nat) (tbl:List (Nat×Nat×AV)) (fin:Fr→Option Fr) (fr':Fr) (rest:List uC):uC→Option (List Fr×List Fr×List Prop)
  | (fuel,mask,some i)=>match bY0 P N ops tb st hs keep (frM tbl keep mask) mask i true with
    | some (f,o)=>if cU4 rest fuel (mask ||| 2 ^ i) then some ([f],[frM tbl keep (mask ||| 2 ^ i)],[o]) else none
    | none=>none
  | (fuel,mask,none)=>if (qK tb.1 mask).isEmpty then match fin (frM tbl keep mask) with
      | some f=>some ([f],[fr'],[])
      | none=>none
    else if fuel == 0 then none else aN7 P N ops tb st hs keep tbl rest fuel (frM tbl keep mask) mask (qK tb.1 mask)
def bA1 (P:Program) (N:Nat) (ops:Array Oper) (tb:List Nat×List Nat) (st:Nat) (hs:List (Nat×Hint)) (keep:List Nat) (tbl:List (Nat×Nat×AV)) (fin:Fr→Option Fr) (fr':Fr):List uC→Option (List Fr×List Fr×List Prop)
 | []=>some ([],[],[])
 | n :: rest=>match aW6 P N ops tb st hs keep tbl fin fr' rest n with
  | some (a1,a2,a)=>match bA1 P N ops tb st hs keep tbl fin fr' rest with
   | some (l1,l2,l)=>some (a1++l1,a2++l2,a++l)
   | none=>none
  | none=>none
section
variable {P:Program} {e:Env} {S:Nat→Prop} {β:Path→Value} {fr:Fr} {w:World} {a:Act} {N:Nat}
theorem cO5 {l:List Nat} {fr':Fr} {G:dX} (hm:pY e G N fr a w) (h:jH (.keep l) fr=some fr'):pY e [] N fr' a w:=by
 obtain ⟨h1,h2,_,S,β,h4⟩:=hm
 exact rP ⟨h1,h2,S,β,uA h4 h⟩
theorem xX {α:Type}:∀ {a b c d:List α},a.length=b.length→a++c=b++d→a=b∧c=d
 | [],[],_,_,_,h=>⟨rfl,h⟩
 | [],_ :: _,_,_,h,_=>by simp at h
 | _ :: _,[],_,_,h,_=>by simp at h
 | x :: a,y :: b,c,d,hl,h=>by
  simp only [List.cons_append,List.cons.injEq] at h
  obtain ⟨h1,h2⟩:=xX (a:=a) (b:=b) (by simpa using hl) h.2
  exact ⟨by rw [h.1,h1],h2⟩
theorem aV8 {ops:Array Oper} {tb:List Nat×List Nat} {st:Nat} {hs:List (Nat×Hint)} {keep:List Nat} {tbl:List (Nat×Nat×AV)} {rest:List uC} {fuel mask:Nat}:∀ (is:List Nat) {l1 l2:List Fr} {l:List Prop},aN7 P N ops tb st hs keep tbl rest fuel fr mask is=some (l1,l2,l)→l1.length=l2.length
 | [],l1,l2,l,h=>by
  simp only [aN7,Option.some.injEq,Prod.mk.injEq] at h
  obtain ⟨rfl,rfl,_⟩:=h
  rfl
 | i :: r,l1,l2,l,h=>by
  simp only [aN7] at h
  split at h
  case h_2=>cases h
  split at h
  case isFalse=>cases h
  split at h
  case h_2=>cases h
  rename_i hr
  simp only [Option.some.injEq,Prod.mk.injEq] at h
  obtain ⟨rfl,rfl,_⟩:=h
  simp [aV8 r hr]
theorem cA5 {ops:Array Oper} {tb:List Nat×List Nat} {st:Nat} {hs:List (Nat×Hint)} {keep:List Nat} {tbl:List (Nat×Nat×AV)} {fin:Fr→Option Fr} {fr':Fr} {rest:List uC} {n:uC} {l1 l2:List Fr} {l:List Prop} (h:aW6 P N ops tb st hs keep tbl fin fr' rest n=some (l1,l2,l)):l1.length=l2.length:=by
 obtain ⟨fuel,mask,k⟩:=n
 cases k with
 | some i =>
  simp only [aW6] at h
  split at h
  case h_2=>cases h
  split at h
  case isFalse=>cases h
  simp only [Option.some.injEq,Prod.mk.injEq] at h
  obtain ⟨rfl,rfl,_⟩:=h
  rfl
 | none =>
  simp only [aW6] at h
  split at h
  ·split at h
   case h_2=>cases h
   simp only [Option.some.injEq,Prod.mk.injEq] at h
   obtain ⟨rfl,rfl,_⟩:=h
   rfl
  ·split at h
   case isTrue=>cases h
   exact aV8 _ h
theorem bY1 {rest:List uC} {fuel mask:Nat} (h:cU4 rest fuel mask=true):∃ n∈rest,n.1+1=fuel∧n.2.1=mask:=by
 unfold cU4 at h
 obtain ⟨n,h1,h2⟩:=List.any_eq_true.1 h
 simp only [Bool.and_eq_true,beq_iff_eq] at h2
 exact ⟨n,h1,h2.1,h2.2⟩
def cJ2 (P:Program) (e:Env) (N:Nat) (ops:Array Oper) (Q:Exit→Act→World→Prop) (st:Nat) (keep:List Nat) (tbl:List (Nat×Nat×AV)) (n:uC):Prop :=
 ∀ (listed:Array Bool) (a:Act) (w:World),Rel ops listed n.2.1→pY e [] N (frM tbl keep n.2.1) a w→uB P ops Q st n.1 listed a w
theorem bL2 {ops:Array Oper} {tb:List Nat×List Nat} {st:Nat} {hs:List (Nat×Hint)} {keep:List Nat} {tbl:List (Nat×Nat×AV)} {rest:List uC} {fuel mask:Nat} {Q:Exit→Act→World→Prop}
  (ih:∀ n∈rest,cJ2 P e N ops Q st keep tbl n) {listed:Array Bool} (hrel:Rel ops listed mask) (hm:pY e [] N fr a w) :
  ∀ (is:List Nat) {l1 l2:List Fr} {l:List Prop},aN7 P N ops tb st hs keep tbl rest (fuel+1) fr mask is=some (l1,l2,l)→l1=l2→uI l →
   ∀ i∈is,i < ops.size→wpOp P ops Q i (fun a' w'=>(st.testBit i=true→w'=w)∧uB P ops Q st fuel (listed.setIfInBounds i true) a' w') a w
 | [],_,_,_,_,_,_,i,hi,_=>by cases hi
 | j :: r,l1,l2,l,h,he,ho,i,hi,hlt=>by
  simp only [aN7] at h
  split at h
  case h_2=>cases h
  rename_i f o hedge
  split at h
  case isFalse=>cases h
  rename_i hhas
  split at h
  case h_2=>cases h
  rename_i m1 m2 m hr
  simp only [Option.some.injEq,Prod.mk.injEq] at h
  obtain ⟨rfl,rfl,rfl⟩:=h
  simp only [List.cons.injEq] at he
  rcases List.mem_cons.1 hi with rfl | hi'
  ·obtain ⟨n,hn,hnf,hnm⟩:=bY1 hhas
   unfold bY0 at hedge
   simp only [Bool.false_eq_true,if_false] at hedge
   split at hedge
   case h_2=>cases hedge
   rename_i G1 fr1 obl hs1
   simp only [Option.map_eq_some_iff,Prod.mk.injEq] at hedge
   obtain ⟨f',hk,rfl,rfl⟩:=hedge
   have hc:=ih n hn
   exact aQ1 hs1 ho.1 hm fun a' w' hm'=>by
    have h2:=hc (listed.setIfInBounds i true) a' w' (by rw [hnm]; exact hrel.set hlt) (by rw [hnm,← he.1]; exact cO5 hm' hk)
    have:n.1=fuel:=by omega
    rw [this] at h2
    exact h2
  ·exact bL2 ih hrel hm r hr he.2 ho.2 i hi' hlt
theorem bV7 {ops:Array Oper} {tb:List Nat×List Nat} (htb:tb=(gQ ops,mE ops)) {st:Nat} {hs:List (Nat×Hint)} {keep0:List Nat} {cs:List Co} {keep:List Nat} {tbl:List (Nat×Nat×AV)} (hsel:Region.noSelect ops=true) {Q:Exit→Act→World→Prop} (hQp:∀ c a w,¬ Q (.panic c) a w) {fr':Fr} (hQ:∀ a' w',fZ e [] N fr' a' w'→Q .normal a' w') :
  ∀ (nodes:List uC) {l1 l2:List Fr} {l:List Prop},bA1 P N ops tb st hs keep tbl (aH2 keep0 cs) fr' nodes=some (l1,l2,l)→l1=l2→uI l→∀ n∈nodes,cJ2 P e N ops Q st keep tbl n
 | [],_,_,_,_,_,_,n,hn=>by cases hn
 | n0 :: rest,l1,l2,l,h,he,ho,n,hn=>by
  simp only [bA1] at h
  split at h
  case h_2=>cases h
  rename_i a1 a2 al hnode
  split at h
  case h_2=>cases h
  rename_i m1 m2 ml hrest
  simp only [Option.some.injEq,Prod.mk.injEq] at h
  obtain ⟨rfl,rfl,rfl⟩:=h
  obtain ⟨ea,em⟩:=xX (cA5 hnode) he
  obtain ⟨oa,om⟩:=uE ho
  have ih:=bV7 htb hsel hQp hQ rest hrest em om
  rcases List.mem_cons.1 hn with rfl | hn'
  case inr=>exact ih n hn'
  obtain ⟨fuel,mask,k⟩:=n
  intro listed a w hrel hm
  simp only at hrel hm
  cases k with
  | some i =>
   simp only [aW6] at hnode
   split at hnode
   case h_2=>cases hnode
   rename_i f o hedge
   split at hnode
   case isFalse=>cases hnode
   rename_i hhas
   simp only [Option.some.injEq,Prod.mk.injEq] at hnode
   obtain ⟨rfl,rfl,rfl⟩:=hnode
   simp only [List.cons.injEq,and_true] at ea
   obtain ⟨n,hnm,hnf,hnk⟩:=bY1 hhas
   unfold bY0 at hedge
   simp only [if_true] at hedge
   split at hedge
   case isFalse=>cases hedge
   rename_i hc
   simp only [Bool.and_eq_true,Bool.or_eq_true] at hc
   obtain ⟨⟨⟨hst,hfr⟩,hrd⟩,hcase⟩:=hc
   split at hedge
   case h_2=>cases hedge
   rename_i G1 fr1 obl hsp
   simp only [Option.map_eq_some_iff,Prod.mk.injEq] at hedge
   obtain ⟨f',hk,rfl,rfl⟩:=hedge
   subst htb
   obtain ⟨o,u,ho1,hy,hm'⟩:=aC5 hsp oa.1 hm
   have hready:i∈Region.ready .any ops listed:=by rw [hrel.ready]; simpa using hrd
   obtain ⟨m,rfl⟩:∃ m,fuel=m+1:=⟨n.1,by omega⟩
   have hnm1:n.1=m:=by omega
   refine cN7 (b:=aE6 P N ops i (lZ hs i) [] (frM tbl keep mask)) ho1 hsel (fun c a w d v h=>absurd h (hQp c _ w)) m listed a w (fun hb j oj hj hs hun=>aB7 hrel (hcase.resolve_left (by rw [hb]; simp)) hj hs hun) (Region.free_spec ho1 (hrel.free hfr)) hready hy ?_
   have h2:=ih n hnm (listed.setIfInBounds i true) (a.put o.dst u) w (by rw [hnk]; exact hrel.set (Array.getElem?_eq_some_iff.1 ho1).1) (by rw [hnk,← ea]; exact cO5 hm' hk)
   rw [hnm1] at h2
   exact h2
  | none =>
   simp only [aW6] at hnode
   split at hnode
   ·rename_i hr
    split at hnode
    case h_2=>cases hnode
    rename_i f hfin
    simp only [Option.some.injEq,Prod.mk.injEq] at hnode
    obtain ⟨rfl,rfl,rfl⟩:=hnode
    simp only [List.cons.injEq,and_true] at ea
    subst ea
    have hq:Q .normal a w:=by
     refine hQ a w ?_
     unfold aH2 at hfin
     split at hfin
     case h_2=>cases hfin
     rename_i f' hk
     obtain ⟨g1,g2,_,S',β',hm'⟩:=hm
     obtain ⟨S'',β'',hm''⟩:=vK cs _ _ S' β' (uA hm' hk) hfin
     exact ⟨g1,g2,S'',β'',hm''⟩
    subst htb
    have hr':Region.ready .any ops listed=[]:=by rw [hrel.ready]; simpa using hr
    cases fuel with
    | zero=>exact ⟨hr',hq⟩
    | succ fuel=>exact ⟨fun _=>hq,fun i hi=>(by rw [hr'] at hi; cases hi)⟩
   ·rename_i hne
    split at hnode
    case isTrue=>cases hnode
    rename_i hf
    subst htb
    obtain ⟨m,rfl⟩:∃ m,fuel=m+1:=⟨fuel - 1,by simp at hf; omega⟩
    have hrd:Region.ready .any ops listed=qK (gQ ops) mask:=hrel.ready
    have hne':¬ qK (gQ ops) mask=[]:=by simpa using hne
    refine ⟨fun h=>absurd (hrd ▸ h) hne',fun j hj=>?_⟩
    have hj2:j∈qK (gQ ops) mask:=by rw [← hrd]; exact hj
    refine bL2 ih hrel hm _ hnode ea oa j hj2 ?_
    obtain ⟨_,o,ho,_⟩:=mem_ready.1 hj
    exact (Array.getElem?_eq_some_iff.1 ho).1
def bT0 (ops:Array Oper) (nodes:List uC):Bool:=match nodes with
  | (fuel,0,_) :: _=>fuel == ops.size
  | _=>false
theorem cR8 {id:Nat} {ops:Array Oper} {hs:List (Nat×Hint)} {keep0:List Nat} {cs:List Co} {fr':Fr} {obs:List Prop} {keep:List Nat} {tbl:List (Nat×Nat×AV)} {nodes:List uC} {Q:Exit→Act→World→Prop} (hmx:P.follows .mixedOrders=true) (hsel:Region.noSelect ops=true) {tb:List Nat×List Nat} {st:Nat} (htb:(gQ ops,mE ops)=tb) (hst:bT0 ops nodes=true) (h0:jH (.keep keep) fr=some (frM tbl keep 0))
    (h:(bA1 P N ops tb st hs keep tbl (aH2 keep0 cs) fr' nodes).map (·.2.2)=some obs) (he:(bA1 P N ops tb st hs keep tbl (aH2 keep0 cs) fr' nodes).map (·.1)=(bA1 P N ops tb st hs keep tbl (aH2 keep0 cs) fr' nodes).map (·.2.1)) (ho:uI obs) (hm:fZ e [] N fr a w)
    (hQ:∀ a' w',fZ e [] N fr' a' w'→Q .normal a' w'):(Code.region id ops true).wp P Q a w:=by
  refine wp_mono (Q:=fun ex a w=>match ex with | .normal=>Q .normal a w | _=>False) ?_ (fun ex a' w' hq=>by cases ex <;> first | exact hq | exact hq.elim)
  refine wp_region_any hmx (wT (st:=st) _ _ _ _ ?_)
  obtain ⟨h1,h2,S,β,hm⟩:=hm
  simp only [Option.map_eq_some_iff] at h
  obtain ⟨⟨l1,l2,l⟩,hrun,rfl⟩:=h
  rw [hrun] at he
  simp only [Option.map_some,Option.some.injEq] at he
  match nodes,hst with
  | (fuel,0,k) :: rest,hst =>
    have hfuel:fuel=ops.size:=by simpa [bT0] using hst
    have hc:=bV7 (e:=e) htb.symm hsel (Q:=fun ex a w=>match ex with | .normal=>Q .normal a w | _=>False) (fun _ _ _ h=>h) hQ _ hrun he ho (fuel,0,k) (List.mem_cons_self ..)
    have:=hc _ a { w with drawn:=w.drawn+1 } (Rel.start ops) (cO5 (rP ⟨h1,h2,S,β,hm.drawn _⟩) h0)
    simp only [hfuel] at this
    exact this
variable {Q:Exit→Act→World→Prop}
theorem bX5 {id:Nat} {ops:Array Oper} (hmx:P.follows .mixedOrders=true) (nodes:List uC) (tbl:List (Nat×Nat×AV)) (keep:List Nat) (tb:List Nat×List Nat) (st:Nat) (hs:List (Nat×Hint)) (keep0:List Nat) (cs:List Co) (fr':Fr) (obs:List (Nat×Prop)) (n:Nat) {k:Code} (hsel:Region.noSelect ops=true) (htb:(gQ ops,mE ops)=tb) (hst:bT0 ops nodes=true) (h0:jH (.keep keep) fr=some (frM tbl keep 0))
  (h:(bA1 P N ops tb st hs keep tbl (aH2 keep0 cs) fr' nodes).map (·.2.2)=some (owed obs n)) (he:(bA1 P N ops tb st hs keep tbl (aH2 keep0 cs) fr' nodes).map (·.1)=(bA1 P N ops tb st hs keep tbl (aH2 keep0 cs) fr' nodes).map (·.2.1)) (ho:aH9 obs) (hk:T P e N k fr' Q):T P e N (.seq (.region id ops true) k) fr Q :=
 fun _ _ hm=>wp_seq (cR8 hmx hsel htb hst h0 h he ho.all hm fun a' w' hm'=>hk a' w' hm')
end
end Go.Vm
namespace Go.Vm
section
variable {P:Program} {e:Env} {fr:Fr} {w:World} {N:Nat} {Q:Exit→Act→World→Prop}
end
end Go.Vm
namespace Go.Vm
def cellsOf (P:Program) (N0:Nat):List ResultVar→Nat→Fr→Option (List Nat×Nat×Fr)
 | [],N,fr=>some ([],N,fr)
 | .tmp t :: r,N,fr=>if t < N0 then match cellsOf P N0 r N fr with
   | some (ts,N',fr')=>some (t :: ts,N',fr')
   | none=>none
  else none
 | .cell s t :: r,N,fr=>if s < N0 then match aU fr s,aW3 P t {} fr (.bp s 0) with
   | .box _,some (av,_)=>if av.plain then
     match cellsOf P N0 r (N+1) (fO N av fr) with
     | some (ts,N',fr')=>some (N :: ts,N',fr')
     | none=>none
    else none
   | _,_=>none
  else none
section
variable {P:Program} {e:Env} {G:dX} {S:Nat→Prop} {β:Path→Value} {fr:Fr} {w:World} {a:Act} {N:Nat}
theorem bM2 (hm:Mem e G S β fr (bF e a) w) (hN:a.tmps.size=N) {av:AV} {u:Value} (hp:av.plain=true) (hr:aV S w β (0,0) av u):Mem e G S β (fO N av fr) (bF e { a with tmps:=a.tmps.push u }) w:=by
 refine hm.lT N av u _ (fun y hy=>?_) (fun u' h=>?_) (zV hp hr) (wG hp) (fun l a h=>by rw [h] at hp; cases hp)
 ·simp only [bF]
  rw [Array.getElem?_push,if_neg (by omega)]
 ·simp only [bF] at h
  rw [Array.getElem?_push,if_pos (by omega)] at h
  simpa using h.symm
theorem cJ7 {t:TypeId} {s:Nat} {av:AV} {obl:Prop} {cs:List AV} (hf:aU fr s=.box cs) (h:aW3 P t {} fr (.bp s 0)=some (av,obl)):obl:=by
 simp only [aW3,hf] at h
 split at h
 ·simp only [Option.map_eq_some_iff,Prod.mk.injEq] at h
  obtain ⟨_,_,_,rfl⟩:=h
  trivial
 ·split at h
  ·simp only [Option.map_eq_some_iff,Prod.mk.injEq] at h
   obtain ⟨_,_,_,rfl⟩:=h
   trivial
  ·cases h
 ·cases h
theorem aX4 {tmps:Array Value} {u:Value} {t:Nat} (h:t < tmps.size):(tmps.push u).getD t undef=tmps.getD t undef:=by
 simp only [Array.getD_eq_getD_getElem?]
 rw [Array.getElem?_push,if_neg (by omega)]
theorem aO0 {N0:Nat} {tmps0:Array Value}:∀ (rs:List ResultVar) (N:Nat) (fr fr':Fr) (ts:List Nat) (N':Nat) (a:Act),N0≤N→a.tmps.size=N→(∀ t,t < N0→a.tmps.getD t undef=tmps0.getD t undef)→Mem e [] S β fr (bF e a) w→cellsOf P N0 rs N fr=some (ts,N',fr') →
  ∃ a':Act,a'.tmps.size=N'∧N≤N'∧(∀ t,t < N→a'.tmps.getD t undef=a.tmps.getD t undef)∧Mem e [] S β fr' (bF e a') w ∧
   (rs.mapM (m:=Sem) fun
    | .tmp t=>pure (tmps0.getD t undef)
    | .cell a t=>do loadVar t (← asAddr (tmps0.getD a undef))).run P w=.ok (ts.map fun t=>a'.tmps.getD t undef) w
 | [],N,fr,fr',ts,N',a,_,hN,_,hm,h=>by
  simp only [cellsOf,Option.some.injEq,Prod.mk.injEq] at h
  obtain ⟨rfl,rfl,rfl⟩:=h
  exact ⟨a,hN,Nat.le_refl _,fun _ _=>rfl,hm,rfl⟩
 | .tmp t :: rs,N,fr,fr',ts,N',a,h0,hN,hold,hm,h=>by
  simp only [cellsOf] at h
  split at h
  case isFalse=>cases h
  rename_i ht
  split at h
  case h_2=>cases h
  rename_i ts1 N1 fr1 h1
  simp only [Option.some.injEq,Prod.mk.injEq] at h
  obtain ⟨rfl,rfl,rfl⟩:=h
  obtain ⟨a',g1,g2,g3,g4,g5⟩:=aO0 (tmps0:=tmps0) rs N fr _ ts1 _ a h0 hN hold hm h1
  refine ⟨a',g1,g2,g3,g4,?_⟩
  simp only [List.mapM_cons,Sem.run_bind,Sem.run_pure,Result.andThen_ok,g5,List.map_cons]
  rw [g3 t (Nat.lt_of_lt_of_le ht h0),hold t ht]
 | .cell s t :: rs,N,fr,fr',ts,N',a,h0,hN,hold,hm,h=>by
  simp only [cellsOf] at h
  split at h
  case isFalse=>cases h
  rename_i hs
  split at h
  case h_2=>cases h
  rename_i cs av obl hf hl
  split at h
  case isFalse=>cases h
  rename_i hp
  split at h
  case h_2=>cases h
  rename_i ts1 N1 fr1 h1
  simp only [Option.some.injEq,Prod.mk.injEq] at h
  obtain ⟨rfl,rfl,rfl⟩:=h
  obtain ⟨u0,hr0,hu0⟩:=hm.rel s
  have hsz:s < a.tmps.size:=by rw [hN]; exact Nat.lt_of_lt_of_le hs h0
  have hev:=hu0 _ (kT (e:=e) hsz)
  rw [hf] at hr0
  have hbp:aV S w β (0,0) (.bp s 0) (a.eval (.tmp s)):=by
   rw [hev]
   exact bV6 (t:=s) (a:=.box cs) hr0
  obtain ⟨v,hv1,hv2,_⟩:=bM1 (P:=P) hm hl (cJ7 hf hl) hbp
  obtain ⟨a',g1,g2,g3,g4,g5⟩:=aO0 (tmps0:=tmps0) rs (N+1) (fO N av fr) _ ts1 _ { a with tmps:=a.tmps.push v } (by omega) (by simp [hN]) (fun t ht=>by
   show (a.tmps.push v).getD t undef=_
   rw [aX4 (by rw [hN]; exact Nat.lt_of_lt_of_le ht h0)]
   exact hold t ht) (bM2 hm hN hp hv2) h1
  refine ⟨a',g1,by omega,fun t ht=>by rw [g3 t (by omega),aX4 (by omega)],g4,?_⟩
  have hN2:a'.tmps.getD N undef=v:=by
   rw [g3 N (by omega)]
   simp only [Array.getD_eq_getD_getElem?]
   rw [Array.getElem?_push,if_pos hN.symm]
   rfl
  have hrun:(do loadVar t (← asAddr (tmps0.getD s undef)):Sem Value).run P w=.ok v w:=by
   rw [← hold s hs]
   have h2:a.tmps.getD s undef=a.eval (.tmp s):=rfl
   rw [h2]
   obtain ⟨b,_,hb⟩:=hbp
   rw [hb] at hv1 ⊢
   exact hv1
  rw [List.mapM_cons,Sem.run_bind,hrun,List.map_cons,hN2]
  simp only [Result.andThen_ok,Sem.run_bind,g5,Sem.run_pure]
theorem aV5 {fn:Func} (cs:List Co) {fr fr':Fr} (h:nS cs fr=some fr') {ts:List Nat} {N':Nat} {fr2:Fr} (hc:cellsOf P N fn.results.toList N fr'=some (ts,N',fr2)) (hNr:decide (N'≤aH)=true) (ho:uL N' fr2 ts=true) {res:AV} (hres:vX fr2 ts=res) {vout:List AV} (hv:tV fr2 aF vout) :
  ∀ a w,fZ e [] N fr a w→qI P fn e res vout .ret a w:=by
 intro a w hm
 obtain ⟨h1,h2,S,β,hm'⟩:=hm.co h
 obtain ⟨a',g1,_,_,g4,hk⟩:=aO0 (tmps0:=a.tmps) fn.results.toList N fr' fr2 ts N' a (Nat.le_refl _) h2 (fun _ _=>rfl) hm' hc
 obtain ⟨S',β',hm2⟩:=bC3 g4 g1 (of_decide_eq_true hNr) ho hv rfl
 rw [hres] at hm2
 refine ⟨h1,_,?_,_,S',β',rfl,hm2⟩
 have e:fn.results=fn.results.toList.toArray:=(Array.toArray_toList).symm
 unfold results
 rw [Sem.run_bind,e,List.mapM_toArray,Sem.run_map]
 exact congrArg (fun r:Result (List Value)=>(r.andThen fun a w'=>Result.ok a.toArray w').andThen fun a w'=>Sem.run P (pure (if h:a.size=1 then a[0] else Value.tuple a)) w') hk
end
end Go.Vm
namespace Go.Vm
open Go.ChangeShapes
def AV.nT:AV→Bool
 | .d _=>true
 | .agg _=>true
 | _=>false
structure oG (W W':World):Prop where
 os:W'.os=W.os
 output:W'.output=W.output
 size:W.heap.size≤W'.heap.size
 heap:∀ b,b < W.heap.size→W'.heap[b]? = W.heap[b]?
theorem oG.but {W W':World} (h:oG W W') (may:MemPlace→Prop):W.keptBut W' may:=by
 refine ⟨h.os,h.output,fun i hi=>?_⟩
 rw [h.heap i hi]
 cases W.heap[i]? with
 | none=>trivial
 | some o=>cases o <;> simp
theorem oG.frozen {W W':World} (h:oG W W') (a:Addr) (ha:a.block < W.heap.size):W'.frozen? a=W.frozen? a:=by
 simp only [World.frozen?,h.heap _ ha]
def rO (W:World):Nat→Prop:=fun b=>b < W.heap.size
theorem aX3 {W:World} {args:List AV} {us:List Value} (hlen:us.length=args.length) (hd:args.all AV.nT=true) (hr:bC (fun _ a u=>aV (rO W) W (fun _=>.bool false) (0,0) a u) 0 args us) :
  Mem ⟨W,dJ (bO args []) (fun _=>.bool false),rO W,bP (fun _=>.bool false) ([]:List AV).length,[]⟩ [] (rO W) (fun _=>.bool false) (bO args []) (fun x=>(us[x]?).or (bP (fun _=>.bool false) ([]:List AV).length x)) W:=by
 have hat:∀ x,(∃ a u,aU (bO args []) x=a∧a.nT=true∧us[x]? = some u∧aV (rO W) W (fun _=>.bool false) (0,0) a u)∨(aU (bO args []) x=.junk∧us[x]? = none):=by
  intro x
  rcases Nat.lt_or_ge x args.length with h | h
  ·left
   obtain ⟨u,hu,hru⟩:=bC.get hr x args[x] (by simp [h])
   refine ⟨args[x],u,?_,?_,by simpa using hu,hru⟩
   ·rw [bW h,List.getD_eq_getElem?_getD]
    simp [h]
   ·exact (List.all_eq_true.1 hd) _ (List.getElem_mem h)
  ·right
   refine ⟨?_,by simp; omega⟩
   rw [bO,oM,if_neg (by omega)]
   rfl
 have hown:∀ x i,(aU (bO args []) x).aJ i=false:=by
  intro x i
  rcases hat x with ⟨a,u,h1,h2,_,_⟩ | ⟨h1,_⟩
  ·rw [h1]
   cases a <;> first | (cases i <;> rfl) | (simp [AV.nT] at h2)
  ·rw [h1]
   cases i <;> rfl
 have hlent:∀ x,bP (fun _=>.bool false) ([]:List AV).length x=none:=by
  intro x
  simp only [bP,List.length_nil,Nat.add_zero]
  rw [if_neg (by omega)]
 refine ⟨fun x=>?_,fun x l a h=>?_,fun x i y j b h=>?_,fun x i b h=>?_,fun b hb=>⟨hb,.inl hb⟩,fun _ h=>h,fun _ _ _=>rfl,rfl,rfl,rfl,Nat.le_refl _⟩
 ·rcases hat x with ⟨a,u,h1,h2,h3,h4⟩ | ⟨h1,h2⟩
  ·refine ⟨u,?_,fun u' hu'=>by simp [h3] at hu'; exact hu'.symm⟩
   rw [h1]
   cases a <;> first | exact (dC rfl).2 h4 | (simp [AV.nT] at h2)
  ·refine ⟨undef,?_,fun u' hu'=>by
    simp only [h2,hlent] at hu'
    cases hu'⟩
   rw [h1]
   exact (dC rfl).2 trivial
 ·rcases hat x with ⟨a',u,h1,h2,_,_⟩ | ⟨h1,_⟩
  ·rw [h] at h1
   subst h1
   simp [AV.nT] at h2
  ·rw [h] at h1
   cases h1
 ·rw [hown] at h
  cases h
 ·rw [hown] at h
  cases h
theorem aS.law {P:Program} {k:Nat} {args:List AV} {us:List Value} {W:World} {b:Bool} (h:aS P k args [] (.d (.v (.bool b))) []) (hlen:us.length=args.length) (hd:args.all AV.nT=true) (hr:bC (fun _ a u=>aV (rO W) W (fun _=>.bool false) (0,0) a u) 0 args us) :
  Calls P k us.toArray W fun e W'=>e=.returned (.bool b)∧oG W W':=by
 refine (h.2 W (rO W) (fun _=>.bool false) us hlen (aX3 hlen hd hr)).mono fun e W' ⟨u,S',β',he,hm⟩=>?_
 obtain ⟨v,hv1,hv2⟩:=hm.rel aH
 have hu:=hv2 u (by simp)
 subst hu
 rw [show aU ((aH,AV.d (.v (.bool b))) :: iA aF []) aH=.d (.v (.bool b)) from aO _ _ _] at hv1
 have hb:u=.bool b:=hv1.1
 refine ⟨by rw [he,hb],hm.os,hm.output,hm.size,fun i hi=>hm.old i hi ?_⟩
 rintro ⟨x,j,hx,_⟩
 have:=(aX3 hlen hd hr).fre x j 0 hx
 have hx':(aU (bO args []) x).aJ j=false:=by
  rcases Nat.lt_or_ge x args.length with h | h
  ·have hdx:=(List.all_eq_true.1 hd) _ (List.getElem_mem h)
   rw [bW h,List.getD_eq_getElem?_getD]
   simp only [List.getElem?_eq_getElem h,Option.getD_some]
   cases hc:args[x] <;> rw [hc] at hdx <;> first | (cases j <;> rfl) | (simp [AV.nT] at hdx)
  ·rw [bO,oM,if_neg (by omega)]
   cases j <;> rfl
 rw [hx'] at hx
 cases hx
section
variable {H:Type} {enc:TypeId×Value→H} {P:Program}
theorem cA7 {f:Func} {s:ChangeSpec} {apart fresh handsOn again:Bool} {W W':World} {args:Array Value} {v:Value} {ds gs:List (DataW H)} {before pa pv:List MemPlace}
  (hW:DataW.Whole enc P f.params.toList s.vars apart W args.toList ds gs before) (hk:oG W W')
  (hres:∀ (b:Nat) (sp:Nat→Bool) (hd:Bool),DataW.TrodAll enc P W' b sp hd f.resultTypes.toList (v.resultList f.resultTypes.size) (s.fn H (ds++gs)).results [])
  (hargs:∀ sp:Nat→Bool,(∀ p∈before,sp p.block=true)→DataW.TrodAll enc P W' 0 sp true f.params.toList args.toList (s.fn H (ds++gs)).args pa)
  (hvars:∀ sp:Nat→Bool,(∀ p∈before,sp p.block=true)→DataW.TrodVars enc P W' sp s.vars (s.fn H (ds++gs)).vars pv)
  (hps:before=pa++pv)
  (hok:∀ (j:Nat) (t:TypeId) (r:Value),f.resultTypes[j]? = some t→(v.resultList f.resultTypes.size)[j]? = some r→Value.okWide P W' .any 0 t r) :
  s.post enc P f apart fresh handsOn again W args v W':=by
 have hlt:=hW.lt
 refine ⟨ds,gs,before,[],pa,pv,hW,hres _ _ _,hargs _ (fun p hp=>by simpa using hlt p hp),hvars _ (fun p hp=>by simpa using hlt p hp),hk.but _,fun _=>?_⟩
 obtain ⟨_,_,_,_,_,hz,hn⟩:=hW
 refine ⟨hok,_,_,([]++pa)++pv,⟨[]++pa,pv,trodAll_append (hargs _ (fun _ _=>rfl)) (hres _ _ _),hvars _ (fun _ _=>rfl),rfl,?_,?_⟩,?_⟩
 ·intro b off hp
  have hb:MemPlace.cell b off∈before:=by rw [hps]; simpa using hp
  rw [hk.frozen _ (hlt _ hb)]
  exact hz b off hb
 ·intro ha
  have:=hn ha
  rw [hps] at this
  simpa using this
 ·intro p hp _
  rw [hps]
  simpa using hp
end
end Go.Vm
namespace Go.Vm
theorem eF {x:Int} (h : -9223372036854775808≤x∧x≤9223372036854775807):IntKind.i64.wrap x=x:=by
 unfold IntKind.wrap
 simp [IntKind.bits,IntKind.signed]
 omega
theorem aL {α:Type} {p:Prop} [Decidable p] {k:Option α} (h:p):chk p k=k:=if_pos h
theorem aA {α γ:Type} {x:α} {k:α→Option γ}:call (some x) k=k x:=rfl
theorem aY {α γ:Type} {x:α} {k:α→Option γ}:dH x k=k x:=rfl
theorem aW {σ ε γ:Type} {x:σ} {kr:ε→Option γ} {k:σ→Option γ}:dA (some (.go x)) kr k=k x:=rfl
theorem bV {σ ε γ:Type} {x:ε} {kr:ε→Option γ} {k:σ→Option γ}:dA (some (.esc x)) kr k=kr x:=rfl
end Go.Vm
namespace Go.Vm
open Go.ChangeShapes Go.RowKit Go.WideShapes
def bL9 {α:Type} (P:Program) (t:TypeId) (enc:α→List Dat) (Q:α→Prop):Prop :=
 ∀ (H:Type) (en:TypeId×Value→H) (W:World) (n:Nat) (cs:List Value) (x:DataW H×List MemPlace),
  DataW.trod en P W 0 (fun _=>true) true n t cs=some x→∃ a,Q a∧cs.length=(enc a).length∧RCs (rO W) W (enc a) (fun j=>cs[j]?) 0
section
variable {P:Program} {t:TypeId}
theorem cF6 (ht:P.underlying t=some .string):bL9 P t cS (fun l=>l.length≤maxLen):=by
 intro H en W n cs x h
 obtain ⟨a,rfl,rfl,hw⟩:=DataW.trod_string ht h
 exact ⟨a.data.toList,by show a.data.toList.length≤maxLen; rw [Array.length_toList]; exact hw,rfl,by simp only [cS,RCs,RD,strOf]; exact ⟨⟨_,rfl,rfl⟩,trivial⟩⟩
theorem bL9.map {α γ:Type} {enc:α→List Dat} {enc':γ→List Dat} {Q:α→Prop} {Q':γ→Prop} (h:bL9 P t enc Q) (f:α→γ) (he:∀ a,enc' (f a)=enc a) (hq:∀ a,Q a→Q' (f a)):bL9 P t enc' Q':=by
 intro H en W n cs x hx
 obtain ⟨a,h1,h2,h3⟩:=h H en W n cs x hx
 exact ⟨f a,hq a h1,by rw [he]; exact h2,by rw [he]; exact h3⟩
def vM {β:Type} (P:Program) (ts:List TypeId) (av:β→List AV) (Q:β→Prop):Prop :=
 ∀ (H:Type) (en:TypeId×Value→H) (W:World) (base:Nat) (vs:List Value) (ds:List (DataW H)) (ps:List MemPlace),
  (∀ (j:Nat) t v,ts[j]? = some t→vs[j]? = some v→Value.okWide P W .any base t v)→DataW.TrodAll en P W 0 (fun _=>true) true ts vs ds ps →
  ∃ b,Q b∧vs.length=(av b).length∧(av b).all AV.nT=true∧∀ i,bC (fun _ a u=>aV (rO W) W (fun _=>.bool false) (0,0) a u) i (av b) vs
theorem aT8 (P:Program):vM P [] (fun _:Unit=>[]) (fun _=>True):=by
 intro H en W base vs ds ps _ h
 cases vs with
 | nil=>exact ⟨(),trivial,rfl,rfl,fun _=>by simp [bC]⟩
 | cons v vs=>exact h.elim
def plainType (P:Program) (t:TypeId):Bool:=match P.underlying t with
 | some (.struct _) | some (.array _ _)=>false
 | _=>true
theorem bS9 {r:Reach} {b0:Nat} {W:World} {v:Value} (h:plainType P t=true) (ho:Value.okWide P W r b0 t v):v.cells=#[v]:=by
 unfold plainType at h
 unfold Value.okWide at ho
 split at ho
 ·rename_i hu; rw [hu] at h; cases h
 ·rename_i hu; rw [hu] at h; cases h
 ·cases v <;> try rfl
  exfalso
  unfold Cell.okWide at ho
  split at ho <;> try contradiction
  unfold Cell.ok at ho
  split at ho <;> contradiction
theorem aO1 {α β:Type} {ts:List TypeId} {x:α→Dat} {enc:α→List Dat} {av:β→List AV} {Q:α→Prop} {Qs:β→Prop} (hp:plainType P t=true) (he:∀ a,enc a=[x a]) (h:bL9 P t enc Q) (hs:vM P ts av Qs) :
  vM P (t :: ts) (fun z:α×β=>.d (x z.1) :: av z.2) (fun z=>Q z.1∧Qs z.2):=by
 intro H en W base vs ds ps hok hd
 cases vs with
 | nil=>exact hd.elim
 | cons v vs =>
  cases ds with
  | nil=>exact hd.elim
  | cons d ds =>
   obtain ⟨p,q,⟨n,h1⟩,h2,_⟩:=hd
   obtain ⟨b,h3,h4,h5,h6⟩:=hs H en W base vs ds q (fun j t' v' ht hv=>hok (j+1) t' v' (by simpa using ht) (by simpa using hv)) h2
   obtain ⟨a,h7,h8,h9⟩:=h H en W n _ _ h1
   rw [bS9 hp (hok 0 t v rfl rfl),he] at h9
   simp only [RCs,and_true] at h9
   obtain ⟨u,hu,hr⟩:=h9
   have hu:v=u:=by simpa using hu
   subst hu
   refine ⟨(a,b),⟨h7,h3⟩,by simp [h4],by simpa [AV.nT] using h5,fun i=>?_⟩
   simp only [bC]
   exact ⟨hr,h6 _⟩
theorem oG.below {W W':World} (h:oG W W'):W.keptBut W' (fun _=>False):=h.but _
theorem oG.same {W W':World} (h:oG W W') {p:MemPlace} (hp:p.block < W.heap.size):W.sameAt W' p:=by
 cases p with
 | cell b o=>exact World.cell?_of_block (w:=W) (h.heap b hp)
 | map b=>exact h.heap b hp
theorem aC7 {H:Type} {en:TypeId×Value→H} {W W':World} (hl:laidOutB P=true) (hk:oG W W') (sp:Nat→Bool):∀ {ts:List TypeId} {vs:List Value} {ds:List (DataW H)} {ps:List MemPlace},
  (ts.all fun t=>P.readableRec t && decide (t < P.types.size))=true→DataW.TrodAll en P W 0 (fun _=>true) true ts vs ds ps→(∀ p∈ps,p.block < W.heap.size)→(∀ p∈ps,sp p.block=true)→DataW.TrodAll en P W' 0 sp true ts vs ds ps
 | [],[],[],_,_,h,_,_=>h
 | [],[],_ :: _,_,_,h,_,_=>h.elim
 | [],_ :: _,_,_,_,h,_,_=>h.elim
 | _ :: _,[],_,_,_,h,_,_=>h.elim
 | _ :: _,_ :: _,[],_,_,h,_,_=>h.elim
 | t :: ts,v :: vs,d :: ds,ps,hr,h,hlt,hsp=>by
  obtain ⟨p,q,h1,h2,rfl⟩:=h
  simp only [List.all_cons,Bool.and_eq_true,decide_eq_true_eq] at hr
  refine ⟨p,q,WideElems.Trod_stays hl hr.1.1 hr.1.2 h1 (fun x hx=>hk.same (hlt x (by simp [hx]))) (fun x hx=>hsp x (by simp [hx])),aC7 hl hk sp hr.2 h2 (fun x hx=>hlt x (by simp [hx])) (fun x hx=>hsp x (by simp [hx])),rfl⟩
end
end Go.Vm
namespace Go.Vm
open Go.ChangeShapes Go.RowKit Go.WideShapes
def aF3 {α:Type} (b:Nat) (P:Program) (t:TypeId) (enc:α→List Dat) (Q:α→Prop):Prop :=
 ∀ (H:Type) (en:TypeId×Value→H) (W:World) (n:Nat) (cs:List Value) (x:DataW H×List MemPlace),
  n < b→DataW.trod en P W 0 (fun _=>true) true n t cs=some x→∃ a,Q a∧cs.length=(enc a).length∧RCs (rO W) W (enc a) (fun j=>cs[j]?) 0
section
variable {P:Program} {t:TypeId}
theorem aF3.mono {α:Type} {enc:α→List Dat} {Q:α→Prop} {b b':Nat} (h:aF3 b P t enc Q) (hb:b'≤b):aF3 b' P t enc Q:=fun H en W n cs x hn hx=>h H en W n cs x (by omega) hx
theorem aF3.map {α γ:Type} {b:Nat} {enc:α→List Dat} {enc':γ→List Dat} {Q:α→Prop} {Q':γ→Prop} (h:aF3 b P t enc Q) (f:α→γ) (he:∀ a,enc' (f a)=enc a) (hq:∀ a,Q a→Q' (f a)):aF3 b P t enc' Q':=by
 intro H en W n cs x hn hx
 obtain ⟨a,h1,h2,h3⟩:=h H en W n cs x hn hx
 exact ⟨f a,hq a h1,by rw [he]; exact h2,by rw [he]; exact h3⟩
end
end Go.Vm
namespace Go.Vm
open Go.RowKit (Below)
def cU (x:UInt8):List Dat:=[.v (.int .u8 (x.toNat:Int))]
theorem cO9 {v:Int} (h:0≤v∧v < 256):[Dat.v (.int .u8 v)]=cU (UInt8.ofNat v.toNat):=by
 obtain ⟨k,rfl⟩:=Int.eq_ofNat_of_zero_le h.1
 have:k < 256:=by omega
 simp only [cU,Int.toNat_natCast,UInt8.toNat_ofNat']
 rw [Nat.mod_eq_of_lt (by omega)]
theorem gB {v:Int} {rs:List (List Dat)} {r:List UInt8} (h:0≤v∧v < 256) (hr:rs=r.map cU):[Dat.v (.int .u8 v)] :: rs=(UInt8.ofNat v.toNat :: r).map cU:=by
 rw [cO9 h,hr]; rfl
section
variable {P:Program} {e:Env} {S:Nat→Prop} {β:Path→Value} {fr:Fr} {vals:Nat→Option Value} {w:World}
theorem Mem.bU9 (hm:Mem e [] S β fr vals w) {vout:List AV} (hv:∀ j a,vout[j]? = some a→aU fr (aF+j)=a∧a.mA=true) {res:AV} {u:Value} (hres:∀ β',dV (dN []) S w β' aH res u) (hown:∀ j,res.aJ j=false) (hgd:res.sZ=true)
  {L:Nat→Option Value} (hL:∀ x u',aF≤x→L x=some u'→vals x=some u'):Mem e [] S β ((aH,res) :: iA aF vout) (fun x=>if x=aH then some u else L x) w:=by
 have hat:∀ x,x≠aH→(∃ j a,x=aF+j∧vout[j]? = some a∧aU ((aH,res) :: iA aF vout) x=a)∨aU ((aH,res) :: iA aF vout) x=.junk:=by
  intro x hx
  rw [aZ _ _ (Ne.symm hx),lN]
  split
  ·rename_i hc
   left
   refine ⟨x - aF,vout.getD (x - aF) .junk,by omega,?_,rfl⟩
   rw [List.getD_eq_getElem?_getD,List.getElem?_eq_getElem (by omega)]
   rfl
  ·exact .inr rfl
 have hsrc:∀ x i,(aU ((aH,res) :: iA aF vout) x).aJ i=true→(aU fr x).aJ i=true:=by
  intro x i ho
  by_cases hx:x=aH
  ·subst hx; rw [aO,hown] at ho; cases ho
  ·rcases hat x hx with ⟨j,a,rfl,ha,hf⟩ | hf
   ·rw [hf] at ho; rw [(hv j a ha).1]; exact ho
   ·rw [hf] at ho; cases i <;> simp [AV.aJ,AV.bN] at ho
 refine ⟨fun x=>?_,fun x l av h=>?_,fun x i y j b h1 h2=>hm.dis x i y j b (hsrc x i h1) (hsrc y j h2),fun x i b h1=>hm.fre x i b (hsrc x i h1),hm.stb,hm.s0,hm.old,hm.os,hm.tape,hm.output,hm.size⟩
 ·by_cases hx:x=aH
  ·subst hx
   exact ⟨u,by rw [aO]; exact hres β,fun u' h=>by simpa using h.symm⟩
  ·rcases hat x hx with ⟨j,a,rfl,ha,hf⟩ | hf
   ·obtain ⟨u0,hr,hu⟩:=hm.rel (aF+j)
    rw [(hv j a ha).1] at hr
    refine ⟨u0,by rw [hf]; exact hr,fun u' h=>hu u' ?_⟩
    rw [if_neg hx] at h
    exact hL _ _ (by omega) h
   ·refine ⟨(L x).getD undef,by rw [hf]; exact trivial,fun u' h=>?_⟩
    rw [if_neg hx] at h
    simp [h]
 ·by_cases hx:x=aH
  ·subst hx; rw [aO] at h; rw [h] at hgd; cases hgd
  ·rcases hat x hx with ⟨j,a,rfl,ha,hf⟩ | hf
   ·have:=cC9 (hv j a ha).2
    rw [hf] at h; rw [h] at this; cases this
   ·rw [hf] at h; cases h
theorem cH0 {off:Nat} {vin:List AV} {us:List Value} (hus:us.length=1) (hm:Mem e [] S β (bO [.bp aF off] vin) (fun x=>(us[x]?).or (bP β vin.length x)) w):∃ b,us=[.pointer (some ⟨b,off,none⟩)]∧β (aF,0)=.pointer (some ⟨b,0,none⟩):=by
 match us,hus with
 | [u],_ =>
  obtain ⟨u0,hr,hu⟩:=hm.rel 0
  rw [bW (by simp)] at hr
  have:=hu u (by simp)
  subst this
  obtain ⟨b,h1,h2⟩:=(dC rfl).1 hr
  exact ⟨b,by rw [h2],h1⟩
theorem bX7 {args:List AV} {cs:List AV} {_us:List Value} (hal:args.length < aH) (hm:Mem e [] S β (bO args [.box cs]) vals w) {b:Nat} (hb:β (aF,0)=.pointer (some ⟨b,0,none⟩)) :
  ∃ l E,w.heap[b]? = some (.cells ⟨l⟩ E (0,0))∧jZ S w β aF cs l:=by
 obtain ⟨u0,hr,_⟩:=hm.rel aF
 have hf:aU (bO args [.box cs]) aF=.box cs:=by
  have:=dR (vin:=[.box cs]) (j:=0) hal
  simpa using this
 rw [hf] at hr
 obtain ⟨h0,b',l,E,h1,h2,h3⟩:=hr
 rw [← h0,h1] at hb
 simp only [Value.pointer.injEq,Option.some.injEq,Addr.mk.injEq] at hb
 obtain ⟨rfl,_⟩:=hb
 exact ⟨l,E,h2,h3⟩
theorem zC {us:List Value} {n:Nat} (h:us.length≤aF) {x:Nat} {u':Value} (hx:aF≤x) (hl:bP β n x=some u'):((us[x]?).or (bP β n x))=some u':=by
 rw [List.getElem?_eq_none (by omega)]
 simpa using hl
theorem aS.copyCheck {k tb:Nat} (hk:kR P k)
  (used:∀ (b off:Nat) (w:World),w.cell? ⟨b,off,none⟩=some (.pointer (some ⟨b,off,none⟩))→Calls P k #[.pointer (some ⟨b,off,none⟩)] w fun e w'=>e=.returned (.tuple #[])∧w'=w)
  (fresh:∀ (b off E n:Nat) (w:World),w.cell? ⟨b,off,none⟩=some (.pointer none)→w.shape? b=some (E,n)→off < n→liesAt P P.depth E (n / P.cellsOf E) off tb 1=true→w.frozen? ⟨b,off,none⟩=false →
   Calls P k #[.pointer (some ⟨b,off,none⟩)] w fun e w'=>e=.returned (.tuple #[])∧w'=w.setCell ⟨b,off,none⟩ (.pointer (some ⟨b,off,none⟩)))
  {off E:Nat} {cs:List AV} (hc:cs[off]? = some (.slf off E)) (hlies:liesAt P P.depth E (cs.length / P.cellsOf E) off tb 1=true) (hb:(AV.box cs).mA=true) :
  aS P k [.bp aF off] [.box cs] (.tup []) [.box cs]:=by
 refine ⟨hk,fun w S β us hus hm=>?_⟩
 obtain ⟨b,rfl,hβ⟩:=cH0 (by simpa using hus) hm
 obtain ⟨l,E',hb',hparts⟩:=bX7 (_us:=[]) (by simp [aH]) hm hβ
 have hlen:l.length=cs.length:=(bC.len hparts).symm
 obtain ⟨c,hcl,hrc⟩:=bC.get hparts off _ hc
 obtain ⟨_,hty,hcase⟩:=hrc
 have hE:E'=E:=by
  rw [hβ] at hty
  simp only [yD,hb',Option.some.injEq] at hty
  exact hty
 subst hE
 have hoff:off < l.length:=(List.getElem?_eq_some_iff.1 hcl).1
 have hcell:w.cell? ⟨b,off,none⟩=some c:=by simp [World.cell?,hb',hcl]
 have hfin:∀ w',(∃ S' β',Mem ⟨w,dJ (bO [.bp aF off] [.box cs]) β,S,bP β [AV.box cs].length,[]⟩ [] S' β' (bO [.bp aF off] [.box cs]) (fun x=>(([Value.pointer (some ⟨b,off,none⟩)])[x]?).or (bP β [AV.box cs].length x)) w') →
   ∃ u S' β',Ending.returned (.tuple #[])=.returned u∧Mem ⟨w,dJ (bO [.bp aF off] [.box cs]) β,S,bP β [AV.box cs].length,[]⟩ [] S' β' ((aH,.tup []) :: iA aF [.box cs]) (fun x=>if x=aH then some u else bP β [AV.box cs].length x) w':=by
  rintro w' ⟨S',β',hm'⟩
  refine ⟨.tuple #[],S',β',rfl,hm'.bU9 (res:=.tup []) (u:=.tuple #[]) (fun j a ha=>?_) (fun β'=>(⟨[],rfl,rfl,trivial⟩:∃ l,Value.tuple #[]=.tuple ⟨l⟩∧([]:List AV).all AV.zO=true∧jZ S' w' β' aH [] l)) (fun j=>by cases j <;> rfl) rfl (fun x u' hx hl=>zC (by simp [aF]) hx hl)⟩
  have hj:j=0∧a=.box cs:=by
   cases j with
   | zero=>simp at ha; exact ⟨rfl,ha.symm⟩
   | succ j=>simp at ha
  obtain ⟨rfl,rfl⟩:=hj
  refine ⟨?_,hb⟩
  have:=dR (as:=[.bp aF off]) (vin:=[.box cs]) (j:=0) (by simp [aH])
  simpa using this
 rcases hcase with rfl | ⟨b2,h1,rfl⟩
 ·refine (fresh b off E' cs.length w hcell (by simp [World.shape?,hb',hlen]) (by omega) hlies (by simp [World.frozen?,hb'])).mono ?_
  rintro e w' ⟨rfl,rfl⟩
  refine hfin _ ?_
  rw [setCell_eq_setRow w b off _ _ _ _ hb']
  have hst:=hm.bH9 (l':=l.set off (.pointer (some ⟨b,off,none⟩))) (cs':=cs) (y:=aF) (b:=b) (by
    have:=dR (as:=[.bp aF off]) (vin:=[.box cs]) (j:=0) (by simp [aH])
    simpa using this) hβ hb' (by simp) ?_ (fun i h=>h)
  ·refine ⟨S,β,?_⟩
   have hl2:(l.toArray.setIfInBounds off (Value.pointer (some ⟨b,off,none⟩)))=(l.set off (.pointer (some ⟨b,off,none⟩))).toArray:=by simp
   rw [hl2]
   refine hst.aR2 fun x=>?_
   by_cases hx:x=aF
   ·subst hx
    rw [aO]
    have:=dR (as:=[.bp aF off]) (vin:=[.box cs]) (j:=0) (by simp [aH])
    simpa using this
   ·rw [aZ _ _ (Ne.symm hx)]
  ·refine bC.dD (by simp; omega) fun j a v ha hv=>?_
   rw [List.getElem?_set] at hv
   by_cases hj:off=j
   ·subst hj
    rw [if_pos rfl,if_pos hoff] at hv
    rw [hc] at ha
    cases hv
    cases ha
    exact ⟨by simp,hty,.inr ⟨b,hβ,rfl⟩⟩
   ·rw [if_neg hj] at hv
    obtain ⟨v',hv',hr⟩:=bC.get hparts j a ha
    rw [hv] at hv'
    cases hv'
    exact hr
 ·rw [hβ] at h1
  simp only [Value.pointer.injEq,Option.some.injEq,Addr.mk.injEq] at h1
  obtain ⟨rfl,_⟩:=h1
  refine (used b off w hcell).mono ?_
  rintro e w' ⟨rfl,rfl⟩
  exact hfin _ ⟨S,β,hm⟩
theorem xZ (w:World) {pt it ty e:TypeId} (hp:P.underlying pt=some (.pointer e)) (hc:P.cellsOf e=1) (g o cells:Nat) (hsh:w.shape? g=some (e,cells)) (l:List UInt8) (h0:l≠[]) (hn:o+l.length≤cells) (h63:l.length≤9223372036854775807)
  (hcell:∀ j x,l[j]? = some x→w.cell? ((⟨g,o,none⟩:Addr).add j)=some (.int .u8 x.toNat)) :
  (Builtin.unsafeString_ #[pt,it] ty #[.pointer (some ⟨g,o,none⟩),.int .i64 l.length]).run P w=.ok (.string ⟨l.toArray⟩) (w.freeze ⟨g,o,none⟩ l.length):=by
 have hl:l.length≠0:=by simpa using h0
 have hlb:=Lib.run_loadBytes (P:=P) w l ⟨g,o,none⟩ .empty hcell
 have hlies:liesAt P P.depth e (cells / P.cellsOf e) o e l.length=true:=by
  have hd:P.depth=(2 * (P.types.size+Made.depth)+1)+1:=rfl
  rw [hd]
  simp only [liesAt,Bool.or_eq_true]
  left
  rw [hd]
  simp [rowAt,hc,hn,sameLayout,Nat.mod_one]
 have h63':¬ (9223372036854775807:Int) < (l.length:Int):=by omega
 have hdef:Builtin.unsafeString_ #[pt,it] ty #[.pointer (some ⟨g,o,none⟩),.int .i64 l.length] =
   (do
    let n ← asInt (.int .i64 l.length)
    if n < 0 then runtimePanic (.error "unsafe.String: len out of range")
    if n > IntKind.i64.max then unsupported (.unsafePointer "String: a length above the largest int")
    if n=0 then pure (.string .empty)
    else if ← variablesAt ⟨g,o,none⟩ (← elemOf pt) n.toNat then do
     let s ← loadBytes ⟨g,o,none⟩ .empty n.toNat
     freeze ⟨g,o,none⟩ n.toNat
     pure (.string s)
    else unsupported (.unsafePointer "String: not so many bytes at ptr")) := rfl
 rw [hdef]
 have hmax:IntKind.i64.max=9223372036854775807:=rfl
 have hneg:¬ (l.length:Int) < 0:=by omega
 simp [asInt,asIntOf,hmax,h63',hneg,hl,variablesAt,hsh,elemOf,run_underlying hp,hlies,hlb]
theorem bA6 (w:World) {g o n k:Nat} (h:k≠g):(w.freeze ⟨g,o,none⟩ n).heap[k]? = w.heap[k]? := by
 unfold World.freeze
 split
 ·rfl
 ·simp only [Array.getElem?_modify]
  rw [if_neg (Ne.symm h)]
theorem bF6 (w:World) (a:Addr) (n:Nat):(w.freeze a n).heap.size=w.heap.size:=by
 unfold World.freeze
 split
 ·rfl
 ·simp
theorem bK7 (w:World) (a:Addr) (n:Nat):(w.freeze a n).os=w.os∧(w.freeze a n).tape=w.tape∧(w.freeze a n).output=w.output:=by
 unfold World.freeze
 split <;> exact ⟨rfl,rfl,rfl⟩
theorem aS.cV0 {k tsl tbp ti ts κ:Nat} (hk:kR P k) (hp:P.underlying tbp=some (.pointer κ)) (hcκ:P.cellsOf κ=1) (hκK:decide (κ < 1099511627776)=true)
  (walk:∀ (b off n c:Nat) (q p:Option Addr) (s:ByteArray) (w w1 w2:World),w.drew.cell? ⟨b,off+1,none⟩=some (.slice q n c)→w1.cell? ⟨b,off+1,none⟩=some (.slice q n c) →
   (Builtin.unsafeSliceData_ #[tsl] tbp #[.slice q n c]).run P w.drew=.ok (.pointer p) w1→(Builtin.unsafeString_ #[tbp,ti] ts #[.pointer p,.int .i64 n]).run P w1=.ok (.string s) w2 →
   Calls P k #[.pointer (some ⟨b,off,none⟩)] w fun e w'=>e=.returned (.string s)∧w'=w2)
  {off:Nat} {cs:List AV} {l:List UInt8} (hl63:l.length≤9223372036854775807) (hc:cs[off+1]? = some (.own κ 1 (l.map cU))) (hb:(AV.box (cs.set (off+1) .junk)).mA=true) :
  aS P k [.bp aF off] [.box cs] (.d (.str l)) [.box (cs.set (off+1) .junk)]:=by
 refine ⟨hk,fun w S β us hus hm=>?_⟩
 obtain ⟨b,rfl,hβ⟩:=cH0 (by simpa using hus) hm
 obtain ⟨lv,E',hb',hparts⟩:=bX7 (_us:=[]) (by simp [aH]) hm hβ
 have hfin:aU (bO [.bp aF off] [.box cs]) aF=.box cs:=by
  have:=dR (as:=[.bp aF off]) (vin:=[.box cs]) (j:=0) (by simp [aH])
  simpa using this
 obtain ⟨v,hv,hrv⟩:=bC.get hparts (off+1) _ hc
 simp only [Nat.zero_add] at hrv
 obtain ⟨hvβ,hown⟩:=hrv
 have hpg:gR (bO [.bp aF off] [.box cs]) (aF,off+1+1)=.own κ 1 (l.map cU):=by
  simp only [gR,hfin,List.getD_eq_getElem?_getD,hc,Option.getD_some]
 have hcell:∀ w':World,w'.heap[b]? = w.heap[b]? → w'.cell? ⟨b,off+1,none⟩=some v:=by
  intro w' h
  simp [World.cell?,h,hb',hv]
 have hblt:b < w.heap.size:=cZ hb'
 -- the end,once
 have finish:∀ w2:World,Mem ⟨w,dJ (bO [.bp aF off] [.box cs]) β,S,bP β [AV.box cs].length,[]⟩ [] S β (Vm.iM (bO [.bp aF off] [.box cs]) (aF,off+1+1) .junk) (fun x=>(([Value.pointer (some ⟨b,off,none⟩)])[x]?).or (bP β [AV.box cs].length x)) w2 →
   ∃ u S' β',Ending.returned (strOf l)=.returned u∧Mem ⟨w,dJ (bO [.bp aF off] [.box cs]) β,S,bP β [AV.box cs].length,[]⟩ [] S' β' ((aH,.d (.str l)) :: iA aF [.box (cs.set (off+1) .junk)]) (fun x=>if x=aH then some u else bP β [AV.box cs].length x) w2:=by
  intro w2 hm2
  refine ⟨strOf l,S,β,rfl,hm2.bU9 (res:=.d (.str l)) (u:=strOf l) (fun j a ha=>?_) (fun β'=>(rfl:RD S w2 (.str l) (strOf l))) (fun j=>by cases j <;> rfl) rfl (fun x u' hx hl=>zC (by simp [aF]) hx hl)⟩
  have hj:j=0∧a=.box (cs.set (off+1) .junk):=by
   cases j with
   | zero=>simp at ha; exact ⟨rfl,ha.symm⟩
   | succ j=>simp at ha
  obtain ⟨rfl,rfl⟩:=hj
  exact ⟨by simp only [Vm.iM,hfin]; exact aO _ _ _,hb⟩
 have empty:(⟨#[]⟩:ByteArray)=.empty:=rfl
 have stay:Mem ⟨w,dJ (bO [.bp aF off] [.box cs]) β,S,bP β [AV.box cs].length,[]⟩ [] S β (Vm.iM (bO [.bp aF off] [.box cs]) (aF,off+1+1) .junk) (fun x=>(([Value.pointer (some ⟨b,off,none⟩)])[x]?).or (bP β [AV.box cs].length x)) w.drew :=
  hm.iM hpg rfl trivial (fun _ h=>h) (fun _ h=>.inl h) (fun _ _=>rfl) rfl rfl rfl rfl
 rcases hown with ⟨rfl,hnil⟩ | ⟨g,o,c,arr,E,fz,rfl,hnc,hroom,hfr,hg,hEκ,hes⟩
 ·have hl0:l=[]:=by simpa using hnil
  subst hl0
  refine (walk b off 0 0 none none .empty w w.drew w.drew (hcell _ rfl) (hcell _ rfl) rfl (Lib.run_unsafeString_none _ _ _ _ _)).mono ?_
  rintro e w' ⟨rfl,rfl⟩
  exact finish _ stay
 ·simp only [List.length_map] at hnc hcell ⊢
  obtain rfl:E=κ:=by
   rcases hEκ.1 with h | h
   ·exact h
   ·exact (h.elim (fun h=>absurd h (Nat.ne_of_gt (Nat.lt_of_lt_of_le (of_decide_eq_true hκK) (Nat.le_add_left _ _)))) fun h=>absurd h (Nat.ne_of_gt (Nat.lt_of_lt_of_le (of_decide_eq_true hκK) (Nat.le_trans (by decide) (Nat.le_add_left _ _)))))
  have hbg:blk (β (aF,off+1+1))=some g:=by rw [← hvβ]; rfl
  have hgb:g≠b:=by
   intro h
   subst h
   have h1:(aU (bO [.bp aF off] [.box cs]) aF).aJ (off+1+1)=true:=kE hpg
   have h2:(aU (bO [.bp aF off] [.box cs]) aF).aJ 0=true:=by rw [hfin]; rfl
   have:=(hm.dis aF (off+1+1) aF 0 g h1 h2 hbg (by rw [hβ]; rfl)).2
   omega
  by_cases hc0:c=0
  ·subst hc0
   have hl0:l=[]:=by
    have:l.length=0:=by omega
    exact List.eq_nil_of_length_eq_zero this
   subst hl0
   have hsd:=Lib.run_unsafeSliceData_zero (P:=P) w.drew #[tsl] tbp E hp ⟨g,o,none⟩ 0 (E,arr.size) (by
    have hg':w.drew.heap[g]? = some (.cells arr E fz):=hg
    simp [World.shape?,hg'])
   have hold:∀ k,k < w.heap.size→(w.drew.alloc (.view ⟨g,o,none⟩ E)).heap[k]? = w.heap[k]? := fun k hk=>heap_alloc_old w.drew _ hk
   refine (walk b off 0 0 (some ⟨g,o,none⟩) _ .empty w _ _ (hcell _ rfl) (hcell _ (hold b hblt)) hsd (Lib.run_unsafeString_none _ _ _ _ _)).mono ?_
   rintro e w' ⟨rfl,rfl⟩
   refine finish _ (Mem.grow stay _ (fun k hk=>heap_alloc_old w.drew _ hk) (by simp [World.alloc]) rfl rfl rfl)
  ·have hsd:(Builtin.unsafeSliceData_ #[tsl] tbp #[.slice (some ⟨g,o,none⟩) l.length c]).run P w.drew=.ok (.pointer (some ⟨g,o,none⟩)) w.drew:=Lib.run_unsafeSliceData_row _ _ _ _ _ _ hc0
   by_cases hl0:l=[]
   ·subst hl0
    refine (walk b off 0 c (some ⟨g,o,none⟩) _ .empty w w.drew w.drew (hcell _ rfl) (hcell _ rfl) hsd (Lib.run_unsafeString_none _ _ _ _ _)).mono ?_
    rintro e w' ⟨rfl,rfl⟩
    exact finish _ stay
   ·have hus:=xZ (P:=P) w.drew (it:=ti) (ty:=ts) hp hcκ g o arr.size (by
     have hg':w.drew.heap[g]? = some (.cells arr E fz):=hg
     simp [World.shape?,hg']) l hl0 (by omega) hl63 (fun j x hx=>by
      have hj:=REs.get _ _ j (cU x) hes (by simp [hx])
      have h0:=hj.2
      simp only [cU,RCs,and_true,Nat.mul_one] at h0
      obtain ⟨y,hy,hyx⟩:=h0
      have hyx':y=.int .u8 x.toNat:=hyx.1
      subst hyx'
      have hadd:(⟨g,o,none⟩:Addr).add j=⟨g,o+j,none⟩:=by
       unfold Addr.add
       split
       ·rename_i h; subst h; rfl
       ·rfl
      rw [hadd]
      have hg':w.drew.heap[g]? = some (.cells arr E fz):=hg
      simp [World.cell?,hg',hy])
    refine (walk b off l.length c (some ⟨g,o,none⟩) _ ⟨l.toArray⟩ w w.drew _ (hcell _ rfl) (hcell _ rfl) hsd hus).mono ?_
    rintro e w' ⟨rfl,rfl⟩
    obtain ⟨h1,h2,h3⟩:=bK7 w.drew ⟨g,o,none⟩ l.length
    refine finish _ (hm.iM hpg rfl trivial (fun _ h=>h) (fun _ h=>.inl h) (fun k hk=>?_) (bF6 _ _ _) h1 h2 h3)
    exact bA6 w.drew fun h=>hk (by rw [h]; exact hbg)
def aM9:AV→Option Value
 | .d (.v x)=>if x.oneCell' then some x else none
 | .d (.str l)=>some (strOf l)
 | .clo f []=>some (.func (.func f) #[] ⟨[]⟩)
 | _=>none
def xY:List AV→Option (List Value)
 | []=>some []
 | a :: r=>match aM9 a,xY r with
  | some u,some us=>some (u :: us)
  | _,_=>none
theorem aF1 {a:AV} {u:Value} (h:aM9 a=some u) {p:Path} {u':Value} (hr:aV S w β p a u'):u'=u:=by
 unfold aM9 at h
 split at h
 ·split at h
  ·cases h; exact hr.1
  ·cases h
 ·cases h; exact hr
 ·cases h
  obtain ⟨l,rfl,hl⟩:=hr
  cases l with
  | nil=>rfl
  | cons _ _=>cases hl
 ·cases h
theorem pO {a:AV} {u:Value} (h:aM9 a=some u) (p:Path):aV S w β p a u∧a.zO=true∧a.bN=false∧a.flat=true:=by
 unfold aM9 at h
 split at h
 ·split at h
  ·cases h; exact ⟨⟨rfl,by assumption⟩,rfl,rfl,rfl⟩
  ·cases h
 ·cases h; exact ⟨rfl,rfl,rfl,rfl⟩
 ·cases h; exact ⟨⟨[],rfl,trivial⟩,rfl,rfl,rfl⟩
 ·cases h
theorem qQ:∀ {as:List AV} {us:List Value},xY as=some us→as.length=us.length∧∀ (i:Nat) (a:AV),as[i]? = some a→∃ u,us[i]? = some u∧aM9 a=some u
 | [],us,h=>by
  simp only [xY,Option.some.injEq] at h
  subst h
  simp
 | a :: as,us,h=>by
  simp only [xY] at h
  split at h
  case h_2=>cases h
  rename_i u us' h1 h2
  simp only [Option.some.injEq] at h
  subst h
  obtain ⟨h3,h4⟩:=qQ h2
  refine ⟨by simp [h3],fun i b hb=>?_⟩
  cases i with
  | zero=>simp at hb; subst hb; exact ⟨u,by simp,h1⟩
  | succ i=>simpa using h4 i b (by simpa using hb)
def aS9:AV→Option Value
 | .tup vs=>(xY vs).map fun us=>.tuple us.toArray
 | a=>aM9 a
theorem vR {a:AV} {u:Value} (h:aS9 a=some u) (β':Path→Value):dV (dN []) S w β' aH a u∧(∀ j,a.aJ j=false)∧a.sZ=true:=by
 unfold aS9 at h
 split at h
 ·rename_i vs
  simp only [Option.map_eq_some_iff] at h
  obtain ⟨us,hus,rfl⟩:=h
  obtain ⟨h1,h2⟩:=qQ hus
  refine ⟨⟨us,rfl,?_,bC.dD h1 fun j a c ha hc=>?_⟩,fun j=>?_,rfl⟩
  ·rw [List.all_eq_true]
   intro a ha
   obtain ⟨i,hi⟩:=List.getElem?_of_mem ha
   obtain ⟨u,_,hu⟩:=h2 i a hi
   exact (pO (S:=S) (w:=w) (β:=β') hu (0,0)).2.1
  ·obtain ⟨u,hu,hv⟩:=h2 j a ha
   rw [hc] at hu
   cases hu
   exact (pO hv _).1
  ·cases j with
   | zero=>rfl
   | succ j =>
    simp only [AV.aJ]
    cases hj:vs[j]? with
    | none=>rfl
    | some a =>
     obtain ⟨u,_,hv⟩:=h2 j a hj
     simpa using (pO (S:=S) (w:=w) (β:=β') hv (0,0)).2.2.1
 ·obtain ⟨h1,h2,h3,h4⟩:=pO (S:=S) (w:=w) (β:=β') h (aH,0)
  refine ⟨(dC h4).2 h1,fun j=>?_,?_⟩
  ·cases hj:a.aJ j with
   | false=>rfl
   | true =>
    have:=(mT h4 j hj).2
    rw [h3] at this; cases this
  ·cases a <;> first | rfl | cases h4
theorem aS.bD1 {k:Nat} (hk:kR P k) {args:List AV} {us:List Value} {res:AV} {u:Value} (hargs:xY args=some us) (hal:decide (args.length < aH)=true) (hres:aS9 res=some u)
  (h:∀ w:World,Calls P k us.toArray w fun e w'=>e=.returned u∧Below w.heap.size w w'):aS P k args [] res []:=by
 have hal':=of_decide_eq_true hal
 refine ⟨hk,fun w S β vs hvs hm=>?_⟩
 obtain ⟨h1,h2⟩:=qQ hargs
 have hvu:vs=us:=by
  apply List.ext_getElem?
  intro i
  rcases Nat.lt_or_ge i args.length with hi | hi
  ·have ha:args[i]? = some args[i]:=List.getElem?_eq_getElem hi
   obtain ⟨u',hu',hv⟩:=h2 i _ ha
   obtain ⟨u0,hr,hu0⟩:=hm.rel i
   rw [bW hi,List.getD_eq_getElem?_getD,ha,Option.getD_some] at hr
   have hvi:vs[i]? = some vs[i]:=List.getElem?_eq_getElem (by omega)
   have e1:=hu0 vs[i] (by simp [hvi])
   have hfl:=(pO (S:=S) (w:=w) (β:=β) hv (i,0)).2.2.2
   have e2:=aF1 hv ((dC hfl).1 hr)
   rw [hvi,hu',e1,e2]
  ·rw [List.getElem?_eq_none (by omega),List.getElem?_eq_none (by omega)]
 subst hvu
 refine (h w).mono ?_
 rintro e w' ⟨rfl,hb⟩
 have hg:=Mem.grow hm w' hb.block hb.size hb.os hb.tape hb.output
 have hr:∀ β',dV (dN []) S w' β' aH res u:=fun β'=>(vR hres β').1
 refine ⟨u,S,β,rfl,hg.bU9 (vout:=[]) (fun j a ha=>by simp at ha) hr (vR (S:=S) (w:=w') hres β).2.1 (vR (S:=S) (w:=w') hres β).2.2 (fun x u' hx hl=>zC (by rw [← h1]; have:aF=aH+1:=rfl; omega) hx hl)⟩
end
end Go.Vm
namespace Go.Vm
theorem bO1 {σ α β γ:Type} {x:α} {f:α→Option γ} {g:β→Option γ} {k:σ→Option γ} {r:γ} (h:dA (some (.esc (.inl x))) (Sum.elim f g) k=some r):f x=some r:=h
theorem aM8 {σ α β γ:Type} {x:β} {f:α→Option γ} {g:β→Option γ} {k:σ→Option γ} {r:γ} (h:dA (some (.esc (.inr x))) (Sum.elim f g) k=some r):g x=some r:=h
end Go.Vm
namespace Go.Vm
theorem aK7 (a b:Bool):(bif a then true else b)=(a || b):=by cases a <;> rfl
theorem aN0 (a b:Bool):(bif a then b else false)=(a && b):=by cases a <;> rfl
theorem bS {i:Nat} (h:i < 9223372036854775807):IntKind.i64.wrap ((i:Int)+1)=((i+1:Nat):Int):=by
 rw [eF (by omega)]
 rfl
theorem sW {i:Nat} (h:0 < i) (h2:i < 9223372036854775807):IntKind.i64.wrap ((i:Int) - 1)=((i - 1:Nat):Int):=by
 rw [eF (by omega)]
 omega
theorem dec_lt {i n:Nat} {inst:Decidable ((i:Int) < (n:Int))} (h:i < n):@decide _ inst=true:=by simpa using h
theorem fG {n:Nat} {inst:Decidable ((n:Int) < (n:Int))}:@decide _ inst=false:=by simp
theorem eD {α:Type} {i n:Nat} (h:i < n) {k:Option α}:chk (0≤(i:Int)∧(i:Int) < (n:Int)) k=k:=aL ⟨by omega,by exact_mod_cast h⟩
end Go.Vm
