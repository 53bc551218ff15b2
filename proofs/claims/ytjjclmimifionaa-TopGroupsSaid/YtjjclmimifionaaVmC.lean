/-
  THE V-MACHINE,text C: VmCode,VmFunc,VmLib,VmRec,VmDraw,VmNil,VmDraw2,VmDraw3,VmDag,VmTest,VmFunc2,VmEntry,VmMath,VmOpen,VmRecOpen,VmBuild,VmPlain.
-/
import Derived.Test.YtjjclmimifionaaVmB
import Derived.OrdersHeld
import Derived.ProofKit
import Derived.Lib.Builder
import Derived.Lib.UnsafeStr
import Derived.Below
namespace Go.Vm
def hintAt:List (Nat×Hint)→Nat→Hint
  | [],_=>{}
  | (j,h) :: r,i=>if j == i then h else hintAt r i
def runL (P:Program) (N:Nat) (ops:Array Oper) (hs:List (Nat×Hint)):List Nat→GEnv→Fr→Option (Fr×List Prop)
 | [],_,fr=>some (fr,[])
 | i :: r,G,fr=>match step1 P N ops i (hintAt hs i) G fr with
  | some (G',fr',obl)=>match runL P N ops hs r G' fr' with
   | some (f,l)=>some (f,obl :: l)
   | none=>none
  | none=>none
inductive Co where
 | frz (p:Path)
 | thaw (x:Nat)
 | claim (x:Nat)
 | nil (x:Nat) (κ:TypeId) (sz:Nat)
 | nild (x sz:Nat)
 | nilc (x off:Nat) (κ:TypeId) (sz:Nat)
 | thawc (x q:Nat)
 | claimc (x q:Nat)
 | keep (l:List Nat)
def coStep:Co→Fr→Option Fr
 | .frz p,fr=>match pget fr p with
  | .own _κ sz es=>some (pset fr p (.fz sz es))
  | _=>none
 | .thaw x,fr=>match fget fr x with
  | .fz sz es=>some ((x,.d (.sl sz es)) :: fr)
  | .own _κ sz es=>some ((x,.d (.sl sz es)) :: pset fr (x,0) (.fz sz es))
  | .vw p=>match pget fr p with
   | .own _κ sz es=>some ((x,.d (.sl sz es)) :: pset fr p (.fz sz es))
   | .fz sz es=>some ((x,.d (.sl sz es)) :: fr)
   | _=>none
  | _=>none
 | .claim x,fr=>match fget fr x with
  | .vw (s,0)=>match fget fr s with
   | .own κ sz es=>if s≠x then some (setA x (.own κ sz es) ((s,.junk) :: fr)) else none
   | _=>none
  | .bp s 0=>match fget fr s with
   | .box _cs=>if s≠x then some (setA x ((fget fr s).purge (slotP x)) ((s,.junk) :: fr)) else none
   | _=>none
  | _=>none
 | .nil x κ sz,fr=>match fget fr x with
  | .d (.v (.slice none 0 0))=>some (setA x (.own κ sz []) fr)
  | _=>none
 | .nild x sz,fr=>match fget fr x with
  | .d (.v (.slice none 0 0))=>some ((x,.d (.sl sz [])) :: fr)
  | _=>none
 | .nilc x off κ sz,fr=>match fget fr x with
  | .box cs=>match cs[off]? with
   | some (.d (.v (.slice none 0 0)))=>some ((x,.box ((cs.map (AV.purge1 (cellP x off))).set off (.own κ sz []))) :: purgeP (cellP x off) fr)
   | _=>none
  | _=>none
 | .thawc x q,fr=>match fget fr x with
  | .box cs=>match cs[q]? with
   | some (.fz sz es)=>some ((x,.box (cs.set q (.d (.sl sz es)))) :: fr)
   | _=>none
  | _=>none
 | .claimc x q,fr=>match fget fr x with
  | .box cs=>match cs[q]? with
   | some (.vw (s,0))=>match fget fr s with
    | .own κ sz es=>if s≠x then some ((x,.box ((cs.map (AV.purge1 (cellP x q))).set q (.own κ sz es))) :: purgeP (cellP x q) ((s,.junk) :: fr)) else none
    | _=>none
   | _=>none
  | _=>none
 | .keep l,fr=>if l.all (fun x=>(fget fr x).noGd) then some (l.map fun x=>(x,fget fr x)) else none
def coAll:List Co→Fr→Option Fr
 | [],fr=>some fr
 | c :: r,fr=>match coStep c fr with
  | some fr'=>coAll r fr'
  | none=>none
def runR (P:Program) (N:Nat) (ops:Array Oper) (hs:List (Nat×Hint)) (keep:List Nat) (cs:List Co) (fr:Fr):Option (Fr×List Prop) :=
 match runL P N ops hs (List.range ops.size) [] fr with
 | some (f,l)=>match coStep (.keep keep) f with
  | some f'=>match coAll cs f' with
   | some f''=>some (f'',l)
   | none=>none
  | none=>none
 | none=>none
def AllP:List Prop→Prop
 | []=>True
 | p :: r=>p∧AllP r
def owed:List (Nat×Prop)→Nat→List Prop
  | [],n=>List.replicate n True
  | (k,p) :: r,n=>List.replicate k True++p :: owed r n
def Owed:List (Nat×Prop)→Prop
  | []=>True
  | [(_,p)]=>p
  | (_,p) :: r=>p∧Owed r
theorem allP_true (n:Nat) (l:List Prop) (h:AllP l):AllP (List.replicate n True++l):=by
 induction n with
 | zero=>simpa using h
 | succ n ih=>simp only [List.replicate_succ,List.cons_append]; exact ⟨trivial,ih⟩
theorem Owed.all:∀ {l:List (Nat×Prop)} {n:Nat},Owed l→AllP (owed l n)
  | [],n,_=>by simpa [owed] using allP_true n [] trivial
  | [(k,p)],n,h=>by
    simp only [owed]
    exact allP_true k _ ⟨h,by simpa using allP_true n [] trivial⟩
  | (k,p) :: q :: r,n,h=>by
    rw [owed]
    exact allP_true k _ ⟨h.1,Owed.all h.2⟩
section
variable {P:Program} {e:Env} {G:GEnv} {S:Nat→Prop} {β:Path→Value} {fr:Fr} {w:World} {a:Act} {N:Nat}
theorem runL_ok {ops:Array Oper} {hs:List (Nat×Hint)} {Q:Exit→Act→World→Prop}:∀ (l:List Nat) (G:GEnv) (fr fr':Fr) (obs:List Prop) (a:Act) (w:World),runL P N ops hs l G fr=some (fr',obs)→AllP obs→MemG e G N fr a w →
  (∀ G' a' w',MemG e G' N fr' a' w'→Q .normal a' w')→wpOps P ops Q l a w
 | [],G,fr,fr',obs,a,w,h,_,hm,hQ=>by
  simp only [runL,Option.some.injEq,Prod.mk.injEq] at h
  obtain ⟨rfl,_⟩:=h
  exact hQ G a w hm
 | i :: r,G,fr,fr',obs,a,w,h,ho,hm,hQ=>by
  simp only [runL] at h
  split at h
  case h_2=>cases h
  rename_i G1 fr1 obl hs1
  split at h
  case h_2=>cases h
  rename_i f l hl
  simp only [Option.some.injEq,Prod.mk.injEq] at h
  obtain ⟨rfl,rfl⟩:=h
  obtain ⟨o,ho1,hw,hnw⟩:=step1_ok (K:=wpOps P ops Q r) (Q:=Q) hs1 ho.1 hm fun a' w' hm'=>runL_ok r G1 fr1 f l a' w' hl ho.2 hm' hQ
  simp only [wpOps,ho1]
  by_cases hwant:Region.wanted o (yielded ops a.tmps)=true
  ·rw [if_pos hwant]
   exact .inl (hw hwant)
  ·rw [if_neg hwant]
   exact hnw (by simpa using hwant)
theorem fget_keep (fr:Fr):∀ (l:List Nat) (x:Nat),fget (l.map fun y=>(y,fget fr y)) x=if x∈l then fget fr x else .junk
 | [],x=>by simp [fget]
 | y :: l,x=>by
  simp only [List.map_cons,fget_cons,fget_keep fr l x,List.mem_cons]
  by_cases h:y=x
  ·simp [h]
  ·simp [h,Ne.symm h]
theorem coKeep {l:List Nat} {fr':Fr} (hm:Mem e G S β fr (valsOf e a) w) (h:coStep (.keep l) fr=some fr'):Mem e [] S β fr' (valsOf e a) w:=by
 simp only [coStep] at h
 split at h
 case isFalse=>cases h
 rename_i hng
 simp only [Option.some.injEq] at h
 subst h
 have hng':∀ x∈l,(fget fr x).noGd=true:=List.all_eq_true.1 hng
 have ho:∀ x i,(fget (l.map fun y=>(y,fget fr y)) x).ownsAt i=true→(fget fr x).ownsAt i=true:=by
  intro x i h
  rw [fget_keep] at h
  split at h
  ·exact h
  ·cases i <;> simp [AV.ownsAt,AV.isOwn] at h
 refine ⟨fun x=>?_,fun x l' av h=>?_,fun x i y j b h1 h2=>hm.dis x i y j b (ho x i h1) (ho y j h2),fun x i b h1=>hm.fre x i b (ho x i h1),hm.stb,hm.s0,hm.old,hm.os,hm.tape,hm.output,hm.size⟩
 ·obtain ⟨u,hr,hu⟩:=hm.rel x
  refine ⟨u,?_,hu⟩
  rw [fget_keep]
  split
  ·rename_i hx
   exact noGd_slot (hng' x hx) hr
  ·exact trivial
 ·rw [fget_keep] at h
  split at h
  ·rename_i hx
   have:=hng' x hx
   rw [h] at this
   cases this
  ·cases h
theorem Mem.claim (hm:Mem e G S β fr (valsOf e a) w) {s x:Nat} (hst:s≠x) (hng:(fget fr s).noGd=true) (hv:∀ u u',RSlot (condG G) S w β s (fget fr s) u→RSlot (condG G) S w β x (fget fr x) u'→u'=u) :
  ∃ β',Mem e G S β' (setA x ((fget fr s).purge (slotP x)) ((s,.junk) :: fr)) (valsOf e a) w:=by
 have hd:=hm.drop s
 have hf:∀ y,y≠s→fget ((s,AV.junk) :: fr) y=fget fr y:=fun y hy=>fget_cons_ne _ _ (Ne.symm hy)
 have hfs:fget ((s,AV.junk) :: fr) s=.junk:=fget_cons_self s _ _
 obtain ⟨u0,hr,hu0⟩:=hm.rel s
 obtain ⟨u1,hr1,hu1⟩:=hm.rel x
 have huu:=hv u0 u1 hr hr1
 refine ⟨_,hd.make2 x _ u0 (fun j=>β (s,j)) w (valsOf e a) (fun _ _=>rfl) (fun u' h=>by rw [hu1 u' h,huu]) ?_ ?_ ?_ ?_ (fun _ _=>.inl rfl) (Nat.le_refl _) rfl rfl rfl⟩
 ·refine (hr.purge (slotP x)).rename (fun j=>by simp) fun q hq=>?_
  exact if_neg (slotP_ne (AV.purge_paths hq).1)
 ·intro l a h
  have:=AV.purge_noGd (π:=slotP x) hng
  rw [h] at this
  cases this
 ·intro i b ho hb
  have ho':=AV.purge_ownsAt (slotP x) _ i ho
  have hfr:=hm.fre s i b ho' hb
  refine ⟨hfr.1,hfr.2,fun y j _ hoy hby=>?_⟩
  by_cases hys:y=s
  ·subst hys
   rw [hfs] at hoy
   cases j <;> simp [AV.ownsAt,AV.isOwn] at hoy
  ·rw [hf y hys] at hoy
   exact hys (hm.dis y j s i b hoy ho' hby hb).1
 ·intro i j b h1 h2 h3 h4
  exact (hm.dis s i s j b (AV.purge_ownsAt (slotP x) _ i h1) (AV.purge_ownsAt (slotP x) _ j h2) h3 h4).2
theorem Mem.claimCell {G:GEnv} {vals:Nat→Option Value} (hm:Mem e G S β fr vals w) {x q s:Nat} (hsx:s≠x) {κ:TypeId} {sz:Nat} {es:List (List Dat)} {cs:List AV} (hf:fget fr x=.box cs) (hc:cs[q]? = some (.vw (s,0))) (hs:fget fr s=.own κ sz es) :
  Mem e G S (fun p=>if p=(x,q+1) then β (s,0) else β p) ((x,.box ((cs.map (AV.purge1 (cellP x q))).set q (.own κ sz es))) :: purgeP (cellP x q) ((s,.junk) :: fr)) vals w:=by
 have hd:=hm.drop s
 have hoff:q < cs.length:=(List.getElem?_eq_some_iff.1 hc).1
 obtain ⟨u0,hr0,_⟩:=hm.rel s
 rw [hs] at hr0
 have hown:OwnAt S w (β (s,0)) κ sz es:=by rw [← hr0.1]; exact hr0.2
 have hos:(fget fr s).ownsAt 0=true:=by rw [hs]; rfl
 have hcase:∀ i,(AV.box ((cs.map (AV.purge1 (cellP x q))).set q (.own κ sz es))).ownsAt i=true→i=q+1∨(i≠q+1∧(fget fr x).ownsAt i=true):=by
  intro i h
  rcases box_ownsAt_set h with ⟨h1,_⟩ | ⟨h1,h2⟩
  ·exact .inl h1
  ·refine .inr ⟨h1,?_⟩
   rw [hf]
   exact AV.purge_ownsAt (cellP x q) (.box cs) i h2
 have hnew:∀ i k,(AV.box ((cs.map (AV.purge1 (cellP x q))).set q (.own κ sz es))).ownsAt i=true→blk ((fun p=>if p=(x,q+1) then β (s,0) else β p) (x,i))=some k →
   (i=q+1∧blk (β (s,0))=some k)∨(i≠q+1∧(fget fr x).ownsAt i=true∧blk (β (x,i))=some k):=by
  intro i k h1 h2
  rcases hcase i h1 with rfl | ⟨h3,h4⟩
  ·simp only [if_true] at h2
   exact .inl ⟨rfl,h2⟩
  ·have:(x,i)≠(x,q+1):=by simp; exact h3
   simp only [this,if_false] at h2
   exact .inr ⟨h3,h4,h2⟩
 have hdrop:∀ z j,(fget ((s,AV.junk) :: fr) z).ownsAt j=true→z≠s∧(fget fr z).ownsAt j=true:=by
  intro z j h
  by_cases hz:z=s
  ·subst hz
   rw [fget_cons_self] at h
   cases j <;> simp [AV.ownsAt,AV.isOwn] at h
  ·rw [fget_cons_ne _ _ (Ne.symm hz)] at h
   exact ⟨hz,h⟩
 refine hd.change x (.box ((cs.map (AV.purge1 (cellP x q))).set q (.own κ sz es))) (cellP x q) (fget_cons_self _ _ _) (fun z hz=>.inr ?_) (fun z j hz=>by simp [hz]) (fun p hp=>if_neg (cellP_ne hp)) (fun _ _ _ h=>h) ?_ (fun l a h=>by cases h) ?_ ?_ ?_ (fun _ h=>h) (fun _ h=>.inl h) (fun _ _=>rfl) (fun _ _ _ _ _ _=>rfl) (fun _ _ _=>rfl) (Nat.le_refl _) rfl rfl rfl
 ·rw [fget_cons_ne _ _ (Ne.symm hz)]
  exact fget_purgeP _ z _
 ·obtain ⟨u,hr,hu⟩:=hm.rel x
  rw [hf] at hr
  obtain ⟨h0,b,l,E,h1,h2,h3⟩:=hr
  refine ⟨u,⟨by simpa using h0,b,l,E,h1,h2,?_⟩,hu⟩
  refine All2.of_get (by simpa using All2.len h3) fun j p c hp hcj=>?_
  rw [List.getElem?_set] at hp
  by_cases hj:q=j
  ·subst hj
   rw [if_pos rfl,if_pos (by simpa using hoff)] at hp
   simp only [Option.some.injEq] at hp
   subst hp
   obtain ⟨c',hc',hrc⟩:=All2.get h3 q _ hc
   rw [hcj] at hc'
   cases hc'
   have hcn:c=β (s,0):=hrc
   subst hcn
   exact ⟨by simp,hown⟩
  ·rw [if_neg hj] at hp
   simp only [List.getElem?_map,Option.map_eq_some_iff] at hp
   obtain ⟨p0,hp0,rfl⟩:=hp
   obtain ⟨c',hc',hrc⟩:=All2.get h3 j p0 hp0
   rw [hcj] at hc'
   cases hc'
   simp only [Nat.zero_add] at hrc ⊢
   refine (hrc.purge (cellP x q)).turn (fun _ h=>h) (fun _ _=>rfl) ?_ (fun _ _=>⟨by simp,rfl⟩) (fun ho k hk=>rfl) fun y hy=>?_
   ·have:(x,j+1)≠(x,q+1):=by simp; omega
    simp [this]
   ·exact if_neg (cellP_ne (AV.purge1_paths (AV.paths01 _ _ hy)).1)
 ·intro i j k h1 h2 h3 h4
  rcases hnew i k h1 h3 with ⟨rfl,h5⟩ | ⟨_,h5,h6⟩ <;> rcases hnew j k h2 h4 with ⟨rfl,h7⟩ | ⟨_,h7,h8⟩
  ·rfl
  ·exact absurd (hm.dis s 0 x j k hos h7 h5 h8).1 hsx
  ·exact absurd (hm.dis s 0 x i k hos h5 h7 h6).1 hsx
  ·exact (hm.dis x i x j k h5 h7 h6 h8).2
 ·intro i z j k h1 hz h2 h3 h4
  obtain ⟨hzs,hz2⟩:=hdrop z j h2
  rcases hnew i k h1 h3 with ⟨rfl,h5⟩ | ⟨_,h5,h6⟩
  ·exact hzs (hm.dis s 0 z j k hos hz2 h5 h4).1.symm
  ·exact hz (hm.dis x i z j k h5 hz2 h6 h4).1.symm
 ·intro i k h1 h2
  rcases hnew i k h1 h2 with ⟨rfl,h5⟩ | ⟨_,h5,h6⟩
  ·exact hm.fre s 0 k hos h5
  ·exact hm.fre x i k h5 h6
theorem Mem.thawed (hm:Mem e G S β fr (valsOf e a) w) {x:Nat} {sz:Nat} {es:List (List Dat)} (hv:∀ u,RSlot (condG G) S w β x (fget fr x) u→RD S w (.sl sz es) u):Mem e G S β ((x,.d (.sl sz es)) :: fr) (valsOf e a) w :=
 hm.weaken x _ (fun u hr=>hv u hr) (fun j h=>by cases j <;> simp [AV.ownsAt,AV.isOwn] at h) (fun _ _ h=>by cases h)
theorem pset_fz_self {x:Nat} {sz:Nat} {es:List (List Dat)}:fget (pset fr (x,0) (.fz sz es)) x=.fz sz es:=by
 simp [pset,fget_cons_self]
theorem Mem.nilCell {G:GEnv} {vals:Nat→Option Value} (hm:Mem e G S β fr vals w) {x off:Nat} {κ:TypeId} {sz:Nat} {cs:List AV} (hf:fget fr x=.box cs) (hc:cs[off]? = some (.d (.v (.slice none 0 0)))) :
  Mem e G S (fun p=>if p=(x,off+1) then .slice none 0 0 else β p) ((x,.box ((cs.map (AV.purge1 (cellP x off))).set off (.own κ sz []))) :: purgeP (cellP x off) fr) vals w:=by
 have hoff:off < cs.length:=(List.getElem?_eq_some_iff.1 hc).1
 have hcase:∀ i,(AV.box ((cs.map (AV.purge1 (cellP x off))).set off (.own κ sz []))).ownsAt i=true→i=off+1∨(i≠off+1∧(fget fr x).ownsAt i=true):=by
  intro i h
  rcases box_ownsAt_set h with ⟨h1,_⟩ | ⟨h1,h2⟩
  ·exact .inl h1
  ·refine .inr ⟨h1,?_⟩
   rw [hf]
   exact AV.purge_ownsAt (cellP x off) (.box cs) i h2
 have hnew:∀ i k,(AV.box ((cs.map (AV.purge1 (cellP x off))).set off (.own κ sz []))).ownsAt i=true→blk ((fun p=>if p=(x,off+1) then Value.slice none 0 0 else β p) (x,i))=some k→i≠off+1∧(fget fr x).ownsAt i=true∧blk (β (x,i))=some k:=by
  intro i k h1 h2
  rcases hcase i h1 with rfl | ⟨h3,h4⟩
  ·simp [blk] at h2
  ·have:(x,i)≠(x,off+1):=by simp; exact h3
   simp only [this,if_false] at h2
   exact ⟨h3,h4,h2⟩
 refine hm.change x (.box ((cs.map (AV.purge1 (cellP x off))).set off (.own κ sz []))) (cellP x off) (fget_cons_self _ _ _) (fun z hz=>.inr ?_) (fun z j hz=>by simp [hz]) (fun p hp=>if_neg (cellP_ne hp)) (fun _ _ _ h=>h) ?_ (fun l a h=>by cases h) ?_ ?_ ?_ (fun _ h=>h) (fun _ h=>.inl h) (fun _ _=>rfl) (fun _ _ _ _ _ _=>rfl) (fun _ _ _=>rfl) (Nat.le_refl _) rfl rfl rfl
 ·rw [fget_cons_ne _ _ (Ne.symm hz)]
  exact fget_purgeP _ z _
 ·obtain ⟨u,hr,hu⟩:=hm.rel x
  rw [hf] at hr
  obtain ⟨h0,b,l,E,h1,h2,h3⟩:=hr
  refine ⟨u,⟨by simpa using h0,b,l,E,h1,h2,?_⟩,hu⟩
  refine All2.of_get (by simpa using All2.len h3) fun j p c hp hcj=>?_
  rw [List.getElem?_set] at hp
  by_cases hj:off=j
  ·subst hj
   rw [if_pos rfl,if_pos (by simpa using hoff)] at hp
   simp only [Option.some.injEq] at hp
   subst hp
   obtain ⟨c',hc',hrc⟩:=All2.get h3 off _ hc
   rw [hcj] at hc'
   cases hc'
   have hcn:c=.slice none 0 0:=hrc.1
   subst hcn
   exact ⟨by simp,.inl ⟨rfl,rfl⟩⟩
  ·rw [if_neg hj] at hp
   simp only [List.getElem?_map,Option.map_eq_some_iff] at hp
   obtain ⟨p0,hp0,rfl⟩:=hp
   obtain ⟨c',hc',hrc⟩:=All2.get h3 j p0 hp0
   rw [hcj] at hc'
   cases hc'
   simp only [Nat.zero_add] at hrc ⊢
   refine (hrc.purge (cellP x off)).turn (fun _ h=>h) (fun _ _=>rfl) ?_ (fun _ _=>⟨by simp,rfl⟩) (fun ho k hk=>rfl) fun q hq=>?_
   ·have:(x,j+1)≠(x,off+1):=by simp; omega
    simp [this]
   ·exact if_neg (cellP_ne (AV.purge1_paths (AV.paths01 _ _ hq)).1)
 ·intro i j k h1 h2 h3 h4
  obtain ⟨_,h5,h6⟩:=hnew i k h1 h3
  obtain ⟨_,h7,h8⟩:=hnew j k h2 h4
  exact (hm.dis x i x j k h5 h7 h6 h8).2
 ·intro i z j k h1 hz h2 h3 h4
  obtain ⟨_,h5,h6⟩:=hnew i k h1 h3
  exact hz (hm.dis x i z j k h5 h2 h6 h4).1.symm
 ·intro i k h1 h2
  obtain ⟨_,h5,h6⟩:=hnew i k h1 h2
  exact hm.fre x i k h5 h6
theorem coStep_ok {c:Co} {fr':Fr} (hm:Mem e [] S β fr (valsOf e a) w) (h:coStep c fr=some fr'):∃ S' β',Mem e [] S' β' fr' (valsOf e a) w:=by
 cases c with
 | frz p =>
  simp only [coStep] at h
  split at h
  ·rename_i sz es hp
   simp only [Option.some.injEq] at h
   subst h
   exact ⟨_,_,hm.freeze hp⟩
  ·cases h
 | keep l=>exact ⟨S,β,coKeep hm h⟩
 | thawc x q =>
  simp only [coStep] at h
  split at h
  case h_2=>cases h
  rename_i cs hf
  split at h
  case h_2=>cases h
  rename_i sz es hc
  simp only [Option.some.injEq] at h
  subst h
  exact ⟨S,β,hm.weakCell hf hc (fun u hu=>hu.2) rfl⟩
 | claimc x q =>
  simp only [coStep] at h
  split at h
  case h_2=>cases h
  rename_i cs hf
  split at h
  case h_2=>cases h
  rename_i s hc
  split at h
  case h_2=>cases h
  rename_i κ sz es hs
  split at h
  case isFalse=>cases h
  rename_i hne
  simp only [Option.some.injEq] at h
  subst h
  exact ⟨S,_,hm.claimCell hne hf hc hs⟩
 | thaw x =>
  simp only [coStep] at h
  split at h
  ·rename_i sz es hf
   simp only [Option.some.injEq] at h
   subst h
   refine ⟨S,β,hm.thawed fun u hr=>?_⟩
   rw [hf] at hr
   exact hr.2
  ·rename_i sz es hf
   simp only [Option.some.injEq] at h
   subst h
   have hfz:=hm.freeze (p:=(x,0)) (by simpa [pget] using hf)
   refine ⟨_,β,hfz.thawed fun u hr=>?_⟩
   rw [pset_fz_self] at hr
   exact hr.2
  ·rename_i p hf
   split at h
   ·rename_i sz es hp
    simp only [Option.some.injEq] at h
    subst h
    have hfz:=hm.freeze hp
    have hpp:pget (pset fr p (.fz sz es)) p=.fz sz es:=by
     obtain ⟨y,i⟩:=p
     cases i with
     | zero=>simp [pget,pset,fget_cons_self]
     | succ j =>
      simp only [pget] at hp
      split at hp
      ·rename_i cs hb
       simp only [pset,hb,pget,fget_cons_self,List.getD_eq_getElem?_getD]
       simp only [List.getD_eq_getElem?_getD] at hp
       have hlt:j < cs.length:=by
        rcases Nat.lt_or_ge j cs.length with h | h
        ·exact h
        ·rw [List.getElem?_eq_none h] at hp; simp at hp
       simp [hlt]
      ·cases hp
    have hrd:=pget_fz hfz hpp
    refine ⟨_,β,hfz.thawed fun u hr=>?_⟩
    -- the slot's value is the place's
    obtain ⟨u0,hr0,hu0⟩:=hm.rel x
    by_cases hxp:p=(x,0)
    ·subst hxp
     rw [pset_fz_self] at hr
     exact hr.2
    ·have hsame:fget (pset fr p (.fz sz es)) x=.vw p:=by
      obtain ⟨y,i⟩:=p
      have hyx:y≠x:=by
       rintro rfl
       have how:=pget_owns hp
       simp only at how
       rw [hf] at how
       cases i <;> simp [AV.ownsAt,AV.isOwn] at how
      cases i with
      | zero=>simp only [pset]; rw [fget_cons_ne _ _ hyx]; exact hf
      | succ j =>
       simp only [pset]
       split
       ·rw [fget_cons_ne _ _ hyx]; exact hf
       ·exact hf
     rw [hsame] at hr
     have:u=β p:=hr
     rw [this]; exact hrd
   ·rename_i sz es hp
    simp only [Option.some.injEq] at h
    subst h
    refine ⟨S,β,hm.thawed fun u hr=>?_⟩
    rw [hf] at hr
    have:u=β p:=hr
    rw [this]
    exact pget_fz hm hp
   ·cases h
  ·cases h
 | nil x κ sz =>
  simp only [coStep] at h
  split at h
  ·rename_i hf
   simp only [Option.some.injEq] at h
   subst h
   obtain ⟨β',hm'⟩:=hm.newNil x κ sz (valsOf e a) (fun _ _=>rfl) (fun u' hu'=>by
    obtain ⟨u,hr,hu⟩:=hm.rel x
    rw [hu u' hu']
    rw [hf] at hr
    exact hr.1)
   exact ⟨S,β',hm'⟩
  ·cases h
 | nilc x off κ sz =>
  simp only [coStep] at h
  split at h
  ·rename_i cs hf
   split at h
   ·rename_i hc
    simp only [Option.some.injEq] at h
    subst h
    exact ⟨S,_,hm.nilCell hf hc⟩
   ·cases h
  ·cases h
 | nild x sz =>
  simp only [coStep] at h
  split at h
  ·rename_i hf
   simp only [Option.some.injEq] at h
   subst h
   refine ⟨S,β,hm.weaken x _ (fun u hr=>?_) (fun j h=>by cases j <;> simp [AV.ownsAt,AV.isOwn] at h) (fun _ _ h=>by cases h)⟩
   rw [hf] at hr
   have:u=.slice none 0 0:=hr.1
   subst this
   exact RD_nil rfl
  ·cases h
 | claim x =>
  simp only [coStep] at h
  split at h
  ·rename_i s hf
   split at h
   ·rename_i sz es hs
    split at h
    case isFalse=>cases h
    rename_i hne
    simp only [Option.some.injEq] at h
    subst h
    obtain ⟨β',hm'⟩:=hm.claim hne (by rw [hs]; rfl) fun u u' h1 h2=>by
     rw [hs] at h1
     rw [hf] at h2
     have h3:u'=β (s,0):=h2
     rw [h3,h1.1]
    rw [hs] at hm'
    exact ⟨S,β',by simpa [AV.purge,AV.purge1,AV.paths1,AV.paths0,AV.pathsF] using hm'⟩
   ·cases h
  ·rename_i s hf
   split at h
   ·rename_i cs hs
    split at h
    case isFalse=>cases h
    rename_i hne
    simp only [Option.some.injEq] at h
    subst h
    obtain ⟨β',hm'⟩:=hm.claim hne (by rw [hs]; rfl) fun u u' h1 h2=>by
     rw [hs] at h1
     rw [hf] at h2
     obtain ⟨h0,b,l,E,h3,_⟩:=h1
     obtain ⟨b',h4,h5⟩:=h2
     rw [← h0,h3] at h4
     simp only [Value.pointer.injEq,Option.some.injEq,Addr.mk.injEq] at h4
     rw [h5,h3,h4.1]
    exact ⟨S,β',hm'⟩
   ·cases h
  ·cases h
theorem coAll_ok:∀ (cs:List Co) (fr fr':Fr) (S:Nat→Prop) (β:Path→Value),Mem e [] S β fr (valsOf e a) w→coAll cs fr=some fr'→∃ S' β',Mem e [] S' β' fr' (valsOf e a) w
 | [],fr,fr',S,β,hm,h=>by
  simp only [coAll,Option.some.injEq] at h
  subst h
  exact ⟨S,β,hm⟩
 | c :: r,fr,fr',S,β,hm,h=>by
  simp only [coAll] at h
  split at h
  ·rename_i f hf
   obtain ⟨S',β',hm'⟩:=coStep_ok hm hf
   exact coAll_ok r f fr' S' β' hm' h
  ·cases h
theorem MemA.co {cs:List Co} {fr':Fr} (hm:MemA e [] N fr a w) (h:coAll cs fr=some fr'):MemA e [] N fr' a w :=
 let ⟨h1,h2,S,β,hm⟩:=hm
 ⟨h1,h2,coAll_ok cs fr fr' S β hm h⟩
theorem memG_nil (hm:MemA e [] N fr a w):MemG e [] N fr a w :=
 ⟨hm.1,hm.2.1,fun s l b h=>by simp [lookG] at h,hm.2.2⟩
theorem wp_runR {id:Nat} {ops:Array Oper} {hs:List (Nat×Hint)} {keep:List Nat} {cs:List Co} {fr':Fr} {obs:List Prop} {Q:Exit→Act→World→Prop} (h:runR P N ops hs keep cs fr=some (fr',obs)) (ho:AllP obs) (hm:MemA e [] N fr a w)
  (hQ:∀ a' w',MemA e [] N fr' a' w'→Q .normal a' w'):(Code.region id ops false).wp P Q a w:=by
 unfold runR at h
 split at h
 case h_2=>cases h
 rename_i f l hl
 split at h
 case h_2=>cases h
 rename_i f' hk
 split at h
 case h_2=>cases h
 rename_i f'' hc
 simp only [Option.some.injEq,Prod.mk.injEq] at h
 obtain ⟨rfl,rfl⟩:=h
 refine wp_region (runL_ok _ [] fr f l a w hl ho (memG_nil hm) fun G' a' w' hm'=>hQ a' w' ?_)
 obtain ⟨h1,h2,_,S,β,hm'⟩:=hm'
 exact ⟨h1,h2,coAll_ok cs f' f'' S β (coKeep hm' hk) hc⟩
def T (P:Program) (e:Env) (N:Nat) (c:Code) (fr:Fr) (Q:Exit→Act→World→Prop):Prop:=∀ a w,MemA e [] N fr a w→c.wp P Q a w
def At (e:Env) (N:Nat) (fr:Fr):Act→World→Prop:=fun a w=>MemA e [] N fr a w
variable {Q:Exit→Act→World→Prop}
theorem T_region {id:Nat} {ops:Array Oper} (hs:List (Nat×Hint)) (keep:List Nat) (cs:List Co) (fr':Fr) (obs:List (Nat×Prop)) (n:Nat) {k:Code} (h:runR P N ops hs keep cs fr=some (fr',owed obs n)) (ho:Owed obs) (hk:T P e N k fr' Q):T P e N (.seq (.region id ops false) k) fr Q :=
 fun _ _ hm=>wp_seq (wp_runR h ho.all hm fun a' w' hm'=>hk a' w' hm')
theorem T_region_end {id:Nat} {ops:Array Oper} (hs:List (Nat×Hint)) (keep:List Nat) (cs:List Co) (fr':Fr) (obs:List (Nat×Prop)) (n:Nat) (h:runR P N ops hs keep cs fr=some (fr',owed obs n)) (ho:Owed obs) (hk:∀ a w,MemA e [] N fr' a w→Q .normal a w):T P e N (.region id ops false) fr Q :=
 fun _ _ hm=>wp_runR h ho.all hm hk
def fgetD (fr:Fr):Fr→Nat→AV
  | [],x=>fget fr x
  | (y,a) :: r,x=>if y == x then a else fgetD fr r x
def updF:List Nat→Fr→Fr→Fr
 | [],_,_=>[]
 | x :: r,d,fr=>(x,fgetD fr d x) :: updF r d fr
theorem T_reg {id:Nat} {ops:Array Oper} (hs:List (Nat×Hint)) (keep:List Nat) (d:Fr) (obs:List (Nat×Prop)) (n:Nat) {k:Code} (h:runR P N ops hs keep [] fr=some (updF keep d fr,owed obs n)) (ho:Owed obs) (hk:T P e N k (updF keep d fr) Q):T P e N (.seq (.region id ops false) k) fr Q :=
 T_region hs keep [] _ obs n h ho hk
theorem T_reg_end {id:Nat} {ops:Array Oper} (hs:List (Nat×Hint)) (keep:List Nat) (d:Fr) (obs:List (Nat×Prop)) (n:Nat) (h:runR P N ops hs keep [] fr=some (updF keep d fr,owed obs n)) (ho:Owed obs) (hk:∀ a w,MemA e [] N (updF keep d fr) a w→Q .normal a w):T P e N (.region id ops false) fr Q :=
 T_region_end hs keep [] _ obs n h ho hk
theorem T_seq {x y:Code} (fr1:Fr) (h:T P e N x fr (Exit.then (At e N fr1) Q)) (hk:T P e N y fr1 Q):T P e N (.seq x y) fr Q :=
 fun a w hm=>wp_seq (wp_mono (h a w hm) fun ex a' w' hq=>by
  cases ex <;> first | exact hk a' w' hq | exact hq)
theorem T_seqk {x z:Code} (h:T P e N x fr (Exit.then (fun a w=>z.wp P Q a w) Q)):T P e N (.seq x z) fr Q:=fun a w hm=>wp_seq (h a w hm)
theorem T_cond {c:Operand} {x y:Code} (b:Bool) (hc:oval N [] fr c=.d (.v (.bool b))) (ht:b=true→T P e N x fr Q) (hf:b=false→T P e N y fr Q):T P e N (.cond c x y) fr Q:=by
 intro a w hm
 obtain ⟨h1,h2,S,β,hm'⟩:=hm
 have hv:=oval_ok hm' h2 [] rfl c
 rw [hc] at hv
 exact wp_cond_split hv.1 (fun h=>ht h a w ⟨h1,h2,S,β,hm'⟩) (fun h=>hf h a w ⟨h1,h2,S,β,hm'⟩)
theorem T_block {id:Nat} {c:Code} (h:T P e N c fr (Exit.inBlock id Q)):T P e N (.block id c) fr Q:=fun a w hm=>wp_block (h a w hm)
theorem T_exit {id:Nat} (h:∀ a w,MemA e [] N fr a w→Q (.exit id) a w):T P e N (.exit id) fr Q:=fun a w hm=>wp_exit (h a w hm)
theorem T_ret (h:∀ a w,MemA e [] N fr a w→Q .ret a w):T P e N .ret fr Q:=fun a w hm=>wp_ret (h a w hm)
theorem T_skip (h:∀ a w,MemA e [] N fr a w→Q .normal a w):T P e N .skip fr Q:=fun a w hm=>wp_skip (h a w hm)
theorem T_co {c:Code} (cs:List Co) (fr':Fr) (h:coAll cs fr=some fr') (hk:T P e N c fr' Q):T P e N c fr Q:=fun a w hm=>hk a w (hm.co h)
theorem T_loop {ι:Type} (I:ι→Fr) (pre:ι→Prop) (μ:ι→Nat) {body:Code} (round:∀ i,pre i→T P e N body (I i) (Exit.then (fun a w=>∃ j,pre j∧μ j < μ i∧MemA e [] N (I j) a w) Q)) (i0:ι) (h0:pre i0):T P e N (.loop body) (I i0) Q:=by
 intro a w hm b k cs
 have key:∀ n i a w,μ i=n→pre i→MemA e [] N (I i) a w →
   ∃ ex a' w',Q ex a' w'∧Arrives P (lone (b.at a (.code body :: .inLoop body :: k)) cs w) b k cs ex a' w':=by
  intro n
  induction n using Nat.strongRecOn with
  | _ n ih =>
   intro i a w hn hp hI
   obtain ⟨ex,a₁,w₁,hq,harr⟩:=round i hp a w hI b (.inLoop body :: k) cs
   cases ex with
   | normal =>
    obtain ⟨j,hj,hlt,hI₁⟩:=hq
    obtain ⟨e₂,a₂,w₂,hq₂,harr₂⟩:=ih (μ j) (hn ▸ hlt) j a₁ w₁ rfl hj hI₁
    exact ⟨e₂,a₂,w₂,hq₂,.of_steps (Steps.trans harr (.one step_inLoop)) harr₂⟩
   | exit id=>exact ⟨_,a₁,w₁,hq,.pass (x:=.inLoop body) rfl (fun _ _=>.inl (by simp)) harr⟩
   | goto l=>exact ⟨_,a₁,w₁,hq,.pass (x:=.inLoop body) rfl (fun _ _=>.inl (by simp)) harr⟩
   | ret=>exact ⟨_,a₁,w₁,hq,.pass (x:=.inLoop body) rfl (fun _ _=>.inl (by simp)) harr⟩
   | panic ch=>exact ⟨_,a₁,w₁,hq,.pass (x:=.inLoop body) rfl (fun _ _=>.inl (by simp)) harr⟩
   | outgrown=>exact ⟨_,a₁,w₁,hq,.pass (x:=.inLoop body) rfl (fun _ _=>.inl (by simp)) harr⟩
 obtain ⟨ex,a',w',hq,harr⟩:=key _ i0 a w rfl h0 hm
 exact ⟨ex,a',w',hq,.of_steps (.one step_loop) harr⟩
end
end Go.Vm
namespace Go.Vm
def resAV (fr:Fr):List Nat→AV
 | [t]=>fget fr t
 | ts=>.tup (ts.map (fget fr))
def resOk (N:Nat) (fr:Fr):List Nat→Bool
 | [t]=>decide (t < N) && (fget fr t).closed
 | ts=>ts.all (fun t=>decide (t < N) && (fget fr t).flat && (fget fr t).closed && (fget fr t).noSlf) && nodupB ts
def voutOk (fr:Fr):Nat→List AV→Prop
 | _,[]=>True
 | i,a :: r=>(fget fr i=a∧a.backOkC=true)∧voutOk fr (i+1) r
def tmpsOf:List ResultVar→Option (List Nat)
 | []=>some []
 | .tmp t :: r=>(tmpsOf r).map (t :: ·)
 | _=>none
section
variable {P:Program} {e:Env} {S:Nat→Prop} {β:Path→Value} {fr:Fr} {w:World} {a:Act} {N:Nat}
def resβ (β:Path→Value) (ts:List Nat):Path→Value:=fun p=>if p.1=resSlot then (match ts with
  | [t]=>β (t,p.2)
  | _=>match p.2 with
   | 0=>.bool false
   | j+1=>β (ts.getD j 0,0)) else β p
theorem resβ_ne {β:Path→Value} {ts:List Nat} {q:Path} (h:q.1≠resSlot):resβ β ts q=β q:=by
 unfold resβ
 exact if_neg h
theorem resβ_one {β:Path→Value} {t i:Nat}:resβ β [t] (resSlot,i)=β (t,i):=by
 unfold resβ
 exact if_pos rfl
theorem resβ_many {β:Path→Value} {t1 t2:Nat} {r:List Nat} {j t:Nat} (h:(t1 :: t2 :: r)[j]? = some t):resβ β (t1 :: t2 :: r) (resSlot,j+1)=β (t,0):=by
 have e:resβ β (t1 :: t2 :: r) (resSlot,j+1)=β ((t1 :: t2 :: r).getD j 0,0):=if_pos rfl
 rw [e,List.getD_eq_getElem?_getD,h]
 rfl
theorem own_flat {a:AV} (hf:a.flat=true) (h:a.isOwn=true):a.ownsAt 0=true:=by
 cases a <;> first | exact h | cases hf
theorem flat_paths {a:AV} {q:Path} (hf:a.flat=true) (h:q∈a.paths1):q∈a.paths:=by
 cases a <;> first | exact h | cases hf
theorem voutOk_get {fr:Fr}:∀ {vs:List AV} {i:Nat},voutOk fr i vs→∀ (j:Nat) (a:AV),vs[j]? = some a→fget fr (i+j)=a∧a.backOkC=true
 | [],_,_,j,cs,h=>by simp at h
 | v :: vs,i,h,0,cs,hj=>by
  simp at hj
  subst hj
  exact h.1
 | v :: vs,i,h,j+1,cs,hj=>by
  have:=voutOk_get h.2 j cs (by simpa using hj)
  rwa [Nat.add_assoc,Nat.add_comm 1 j] at this
theorem backC_paths {av:AV} (hb:av.backOkC=true):∀ q∈av.paths,q.1≠resSlot:=by
 intro q hq
 cases av <;> simp only [AV.backOkC,AV.backOk,reduceCtorEq] at hb
 ·cases hq
 ·cases hq
 ·rename_i cs
  simp only [AV.paths,List.mem_flatMap] at hq
  obtain ⟨c,hc,hq⟩:=hq
  simp only [List.all_eq_true] at hb
  have hbc:=hb c hc
  cases c
  case clo f caps =>
   simp only [Bool.or_eq_true,Bool.and_eq_true,List.isEmpty_iff] at hbc
   rcases hbc with hbc | hbc
   ·rw [hbc.1] at hq; cases hq
   ·simp only [AV.virtC,List.all_eq_true] at hbc
    simp only [AV.paths1,AV.paths0,List.mem_flatMap] at hq
    obtain ⟨c,hc,hq⟩:=hq
    have:=hbc c hc
    cases c <;> simp only [AV.pathsF,List.mem_singleton,reduceCtorEq,decide_eq_true_eq] at hq this
    ·cases hq
    ·subst hq
     simp only [virtBase,resSlot] at this ⊢
     omega
  all_goals
   simp only [AV.virtC,Bool.or_false,Bool.and_eq_true,List.isEmpty_iff] at hbc
   rw [hbc.1] at hq
   cases hq
 ·cases hq
theorem res_mem (hm:Mem e [] S β fr (valsOf e a) w) (hN:a.tmps.size=N) (hNr:N≤resSlot) {ts:List Nat} (ho:resOk N fr ts=true) {vout:List AV} (hv:voutOk fr virtBase vout) {u:Value}
  (hu:u=(if h:(ts.map fun t=>a.tmps.getD t undef).length=1 then (ts.map fun t=>a.tmps.getD t undef)[0] else .tuple (ts.map fun t=>a.tmps.getD t undef).toArray)) :
  ∃ S' β',Mem e [] S' β' ((resSlot,resAV fr ts) :: boxFr virtBase vout) (fun x=>if x=resSlot then some u else e.vp x) w:=by
 have hvals:∀ t,t < N→valsOf e a t=some (a.tmps.getD t undef):=by
  intro t ht
  have:=eval_tmp (e:=e) (a:=a) (s:=t) (by rw [hN]; exact ht)
  simpa [Act.eval] using this
 -- the parts of the result that own,and where they come from
 have hfb:∀ x,x≠resSlot→fget ((resSlot,resAV fr ts) :: boxFr virtBase vout) x=if virtBase≤x∧x < virtBase+vout.length then vout.getD (x - virtBase) .junk else .junk:=fun x h=>by
  rw [fget_cons_ne _ _ (Ne.symm h),fget_boxFr]
 have hbx:∀ x,virtBase≤x→x < virtBase+vout.length→fget fr x=vout.getD (x - virtBase) .junk∧(vout.getD (x - virtBase) .junk).backOkC=true:=by
  intro x h1 h2
  have hg:vout[x - virtBase]? = some (vout.getD (x - virtBase) .junk):=by
   rw [List.getD_eq_getElem?_getD,List.getElem?_eq_getElem (by omega)]
   rfl
  have:=voutOk_get hv _ _ hg
  rwa [show virtBase+(x - virtBase)=x by omega] at this
 -- every owner of the new frame is an owner of the old one
 have hsrc:∀ x i,(fget ((resSlot,resAV fr ts) :: boxFr virtBase vout) x).ownsAt i=true→∃ y k,(fget fr y).ownsAt k=true∧resβ β ts (x,i)=β (y,k)∧((x≠resSlot∧y=x∧k=i∧virtBase≤x)∨(x=resSlot∧y < N∧((∃ t,ts=[t]∧y=t∧k=i)∨((∀ t,ts≠[t])∧∃ j,i=j+1∧ts[j]? = some y∧k=0)))):=by
  intro x i h
  by_cases hx:x=resSlot
  ·subst hx
   rw [fget_cons_self] at h
   match ts,ho,h with
   | [t],ho,h =>
    simp only [resAV] at h
    simp only [resOk,Bool.and_eq_true,decide_eq_true_eq] at ho
    exact ⟨t,i,h,resβ_one,.inr ⟨rfl,ho.1,.inl ⟨t,rfl,rfl,rfl⟩⟩⟩
   | [],ho,h=>cases i <;> simp [resAV,AV.ownsAt,AV.isOwn] at h
   | t1 :: t2 :: r,ho,h =>
    simp only [resAV] at h
    cases i with
    | zero=>simp [AV.ownsAt,AV.isOwn] at h
    | succ j =>
     simp only [AV.ownsAt,List.getElem?_map] at h
     cases hj:(t1 :: t2 :: r)[j]? with
     | none=>simp [hj] at h
     | some t =>
      simp only [hj,Option.map_some,Option.getD_some] at h
      simp only [resOk,Bool.and_eq_true,List.all_eq_true,decide_eq_true_eq] at ho
      obtain ⟨⟨⟨h1,h2⟩,_⟩,_⟩:=ho.1 t (List.mem_of_getElem? hj)
      refine ⟨t,0,?_,?_,.inr ⟨rfl,h1,.inr ⟨fun t'=>by simp,j,rfl,hj,rfl⟩⟩⟩
      ·exact own_flat h2 h
      ·exact resβ_many hj
  ·rw [hfb x hx] at h
   split at h
   case isFalse=>cases i <;> simp [AV.ownsAt,AV.isOwn] at h
   rename_i hc
   refine ⟨x,i,?_,resβ_ne hx,.inl ⟨hx,rfl,rfl,hc.1⟩⟩
   rw [(hbx x hc.1 hc.2).1]
   exact h
 refine ⟨S,resβ β ts,fun x=>?_,fun x l av h=>?_,fun x i y j b hx hy hxb hyb=>?_,fun x i b hx hxb=>?_,hm.stb,hm.s0,hm.old,hm.os,hm.tape,hm.output,hm.size⟩
 ·by_cases hx:x=resSlot
  ·subst hx
   rw [fget_cons_self]
   refine ⟨u,?_,fun u' h=>by simpa using h.symm⟩
   match ts,ho,hu with
   | [t],ho,hu =>
    simp only [resOk,Bool.and_eq_true,decide_eq_true_eq] at ho
    obtain ⟨u0,hr,hu0⟩:=hm.rel t
    have huu:u=u0:=by
     rw [hu]
     exact hu0 _ (by simpa using hvals t ho.1)
    subst huu
    have hcl:(fget fr t).paths=[]:=by
     have:=ho.2
     simp only [AV.closed,Bool.and_eq_true,List.isEmpty_iff] at this
     exact this.1
    exact hr.rename (fun j=>resβ_one) (fun q hq=>by rw [hcl] at hq; cases hq)
   | [],ho,hu =>
    refine ⟨[],?_,rfl,trivial⟩
    rw [hu]
    rfl
   | t1 :: t2 :: r,ho,hu =>
    refine ⟨(t1 :: t2 :: r).map fun t=>a.tmps.getD t undef,?_,?_,?_⟩
    ·rw [hu,dif_neg (by simp)]
    ·simp only [resOk,Bool.and_eq_true,List.all_eq_true,decide_eq_true_eq] at ho
     rw [List.all_map,List.all_eq_true]
     exact fun t ht=>(ho.1 t ht).2
    ·refine All2.of_get (by simp) fun j p c hp hc=>?_
     simp only [List.getElem?_map,Option.map_eq_some_iff] at hp hc
     obtain ⟨t,ht,rfl⟩:=hp
     obtain ⟨t',ht',rfl⟩:=hc
     rw [ht] at ht'
     cases ht'
     simp only [resOk,Bool.and_eq_true,List.all_eq_true,decide_eq_true_eq] at ho
     obtain ⟨⟨⟨h1,h2⟩,h3⟩,h4⟩:=ho.1 t (List.mem_of_getElem? ht)
     obtain ⟨u0,hr,hu0⟩:=hm.rel t
     have:=hu0 _ (hvals t h1)
     rw [this]
     have hcl:(fget fr t).paths=[]:=by
      simp only [AV.closed,Bool.and_eq_true,List.isEmpty_iff] at h3
      exact h3.1
     refine ((flat_slot h2).1 hr).rename ?_ (.inl h4) fun q hq=>?_
     ·rw [Nat.zero_add]
      exact resβ_many ht
     ·have:q∈(fget fr t).paths:=flat_paths h2 (AV.paths01 _ q hq)
      rw [hcl] at this
      cases this
  ·rw [hfb x hx]
   split
   ·rename_i hc
    obtain ⟨u0,hr,hu0⟩:=hm.rel x
    obtain ⟨hb1,hb2⟩:=hbx x hc.1 hc.2
    rw [hb1] at hr
    refine ⟨u0,hr.turn (fun _ _ _=>rfl) (fun _ h=>h) (fun _ _=>rfl) (fun j=>resβ_ne hx) (fun _ _ _ _=>rfl) (fun q hq=>resβ_ne (backC_paths hb2 q hq)),fun u' h=>hu0 u' ?_⟩
    ·have:a.tmps[x]? = none:=Array.getElem?_eq_none (by
      have q1:N≤999999:=hNr
      have q2:1000000≤x:=hc.1
      omega)
     simp only [valsOf,this]
     rw [if_pos (show 1000000≤x from hc.1)]; exact h
   ·refine ⟨(e.vp x).getD undef,trivial,fun u' h=>?_⟩
    simp [h]
 ·by_cases hx:x=resSlot
  ·subst hx
   rw [fget_cons_self] at h
   match ts,ho,h with
   | [t],ho,h =>
    simp only [resOk,Bool.and_eq_true,AV.closed] at ho
    simp only [resAV] at h
    rw [h] at ho
    have:=ho.2.2
    cases this
   | [],ho,h=>cases h
   | t1 :: t2 :: r,ho,h=>cases h
  ·rw [hfb x hx] at h
   split at h
   case isFalse=>cases h
   rename_i hc
   have:=backC_noGd (hbx x hc.1 hc.2).2
   rw [h] at this
   cases this
 ·obtain ⟨y1,k1,h1,h2,h3⟩:=hsrc x i hx
  obtain ⟨y2,k2,h4,h5,h6⟩:=hsrc y j hy
  rw [h2] at hxb
  rw [h5] at hyb
  obtain ⟨h7,h8⟩:=hm.dis y1 k1 y2 k2 b h1 h4 hxb hyb
  subst h7
  subst h8
  rcases h3 with ⟨g1,g2,g3,g4⟩ | ⟨g1,g2,g3⟩ <;> rcases h6 with ⟨f1,f2,f3,f4⟩ | ⟨f1,f2,f3⟩
  ·exact ⟨g2.symm.trans f2,g3.symm.trans f3⟩
  ·subst g2
   have q1:N≤999999:=hNr
   have q2:1000000≤y1:=g4
   omega
  ·subst f2
   have q1:N≤999999:=hNr
   have q2:1000000≤y1:=f4
   omega
  ·refine ⟨g1.trans f1.symm,?_⟩
   rcases g3 with ⟨t,g3,g4,g5⟩ | ⟨gn,j1,g4,g5,g6⟩ <;> rcases f3 with ⟨t',f3,f4,f5⟩ | ⟨fn,j2,f4,f5,f6⟩
   ·exact g5.symm.trans f5
   ·exact absurd g3 (fn t)
   ·exact absurd f3 (gn t')
   ·have hnd:ts.Nodup:=by
     match ts,ho,gn with
     | [t],_,gn=>exact absurd rfl (gn t)
     | [],_,_=>exact List.nodup_nil
     | t1 :: t2 :: r,ho,_ =>
      simp only [resOk,Bool.and_eq_true] at ho
      exact nodupB_ok ho.2
    obtain ⟨p1,q1⟩:=List.getElem?_eq_some_iff.1 g5
    obtain ⟨p2,q2⟩:=List.getElem?_eq_some_iff.1 f5
    have:j1=j2:=(List.getElem_inj (h₀:=p1) (h₁:=p2) hnd).1 (by rw [q1,q2])
    omega
 ·obtain ⟨y1,k1,h1,h2,_⟩:=hsrc x i hx
  rw [h2] at hxb
  exact hm.fre y1 k1 b h1 hxb
def RPost (P:Program) (fn:Func) (e:Env) (res:AV) (vout:List AV):Exit→Act→World→Prop
 | .ret,a,w | .normal,a,w=>a.defers=e.dfs∧∃ v,(results fn a.tmps).run P w=.ok v w∧∃ u S' β',Ending.returned v=.returned u∧Mem e [] S' β' ((resSlot,res) :: boxFr virtBase vout) (fun x=>if x=resSlot then some u else e.vp x) w
 | _,_,_=>False
theorem RPost.body {fn:Func} {e:Env} {res:AV} {vout:List AV} (h0:e.dfs=[]):∀ ex a w,RPost P fn e res vout ex a w→bodyPost P fn (fun e' w'=>∃ u S' β',e'=.returned u∧Mem e [] S' β' ((resSlot,res) :: boxFr virtBase vout) (fun x=>if x=resSlot then some u else e.vp x) w') ex a w
 | .ret,_,_,h | .normal,_,_,h=>⟨h.1.trans h0,h.2⟩
 | .panic _,_,_,h=>h.elim
 | .exit _,_,_,h=>h.elim
 | .goto _,_,_,h=>h.elim
 | .outgrown,_,_,h=>h.elim
theorem results_run {fn:Func} {ts:List Nat} (h:tmpsOf fn.results.toList=some ts) (tmps:Array Value) :
  (results fn tmps).run P w=.ok (if h:(ts.map fun t=>tmps.getD t undef).length=1 then (ts.map fun t=>tmps.getD t undef)[0] else .tuple (ts.map fun t=>tmps.getD t undef).toArray) w:=by
 have key:∀ (l:List ResultVar) (ts:List Nat),tmpsOf l=some ts→(l.mapM (m:=Sem) fun
   | .tmp t=>pure (tmps.getD t undef)
   | .cell a t=>do loadVar t (← asAddr (tmps.getD a undef))).run P w=.ok (ts.map fun t=>tmps.getD t undef) w:=by
  intro l
  induction l with
  | nil=>intro ts h; simp only [tmpsOf,Option.some.injEq] at h; subst h; rfl
  | cons r l ih =>
   intro ts h
   cases r with
   | cell a t=>simp [tmpsOf] at h
   | tmp t =>
    simp only [tmpsOf,Option.map_eq_some_iff] at h
    obtain ⟨ts',h1,rfl⟩:=h
    simp only [List.mapM_cons,Sem.run_bind,Sem.run_pure,Result.andThen_ok,ih ts' h1,List.map_cons]
 have hk:=key fn.results.toList ts h
 have e:fn.results=fn.results.toList.toArray:=(Array.toArray_toList).symm
 unfold results
 rw [Sem.run_bind,e,List.mapM_toArray,Sem.run_map]
 exact congrArg (fun r:Result (List Value)=>(r.andThen fun a w'=>Result.ok a.toArray w').andThen fun a w'=>Sem.run P (pure (if h:a.size=1 then a[0] else Value.tuple a)) w') hk
theorem T_return {fn:Func} (ts:List Nat) (hts:tmpsOf fn.results.toList=some ts) (cs:List Co) {fr fr':Fr} (h:coAll cs fr=some fr') (hNr:decide (N≤resSlot)=true) (ho:resOk N fr' ts=true) {res:AV} (hres:resAV fr' ts=res) {vout:List AV} (hv:voutOk fr' virtBase vout) :
  ∀ a w,MemA e [] N fr a w→RPost P fn e res vout .ret a w:=by
 intro a w hm
 obtain ⟨h1,h2,S,β,hm'⟩:=hm.co h
 obtain ⟨S',β',hm2⟩:=res_mem hm' h2 (of_decide_eq_true hNr) ho hv rfl
 rw [hres] at hm2
 exact ⟨h1,_,results_run hts a.tmps,_,S',β',rfl,hm2⟩
theorem start_call {fn:Func} (hN:fn.ntmps=N) {args vin:List AV} (hlen':args.length≤N) (hNr':N≤999999) {us:List Value} (hus:us.length=args.length)
  (hm:Mem ⟨w,ownedBy (finFr args vin) β,S,lentAt β vin.length,[]⟩ [] S β (finFr args vin) (fun x=>(us[x]?).or (lentAt β vin.length x)) w) :
  MemA ⟨w,ownedBy (finFr args vin) β,S,lentAt β vin.length,[]⟩ [] N (finFr args vin) { tmps:=us.toArray++Array.replicate (fn.ntmps - us.toArray.size) undef,defers:=[] } w:=by
 refine ⟨rfl,by simp; omega,S,β,?_⟩
 have hsz:(us.toArray++Array.replicate (fn.ntmps - us.toArray.size) undef).size=N:=by simp; omega
 refine ⟨fun x=>?_,hm.gok,hm.dis,hm.fre,hm.stb,hm.s0,hm.old,hm.os,hm.tape,hm.output,hm.size⟩
 obtain ⟨u,hr,hu⟩:=hm.rel x
 by_cases hx:x < args.length
 ·refine ⟨u,hr,fun u' h=>hu u' ?_⟩
  have h1:us[x]? = some us[x]:=List.getElem?_eq_getElem (by omega)
  simp only [valsOf] at h
  rw [Array.getElem?_append_left (by simpa using (by omega:x < us.length))] at h
  simp only [List.getElem?_toArray,h1] at h
  rw [h1]
  simpa using h
 ·by_cases hx2:x < N
  ·-- a slot that holds nothing yet
   have hfr:fget (finFr args vin) x=.junk:=fget_finFr_none (by omega) (by simp only [virtBase]; omega)
   rw [hfr]
   refine ⟨undef,trivial,fun u' h=>?_⟩
   simp only [valsOf] at h
   rw [Array.getElem?_append_right (by simpa using (by omega:us.length≤x))] at h
   rw [Array.getElem?_replicate] at h
   split at h
   ·rename_i h'
    split at h' <;> simp_all
   ·rename_i h'
    rw [if_pos (by simp; omega)] at h'
    cases h'
  ·refine ⟨u,hr,fun u' h=>hu u' ?_⟩
   simp only [valsOf] at h
   have hnone:(us.toArray++Array.replicate (fn.ntmps - us.toArray.size) undef)[x]? = none:=Array.getElem?_eq_none (by rw [hsz]; omega)
   rw [hnone] at h
   have h1:us[x]? = none:=List.getElem?_eq_none (by omega)
   rw [h1]
   simp only at h
   by_cases hxv:1000000≤x
   ·rw [if_pos hxv] at h
    simpa using h
   ·rw [if_neg hxv] at h
    cases h
theorem ACall.intro {k : Nat} {fn : Func} {c : Code} (hf : P.funcs[k]? = some fn) (hb : fn.body = some c) (hname : (fn.name == "runtime.NumGoroutine") = false) (hN : fn.ntmps = N) {args : List AV} (hlen : decide (args.length ≤ N) = true) (hNr : decide (N ≤ resSlot) = true) {vin vout : List AV} {res : AV}
  (hT:∀ e:Env,T P e N c (finFr args vin) (RPost P fn e res vout)):ACall P k args vin res vout :=
 ⟨⟨fn,hf,by simp [hb],hname⟩,fun w S β us hus hm=>calls_of_wp hf hb (Code.wp_mono (RPost.body rfl) (hT ⟨w,ownedBy (finFr args vin) β,S,lentAt β vin.length,[]⟩ _ w (start_call hN (of_decide_eq_true hlen) (of_decide_eq_true hNr) hus hm)))⟩
end
end Go.Vm
namespace Go.Vm
def cI (k:IntKind) (x:Int):List Dat:=[.v (.int k x)]
def cB (x:Bool):List Dat:=[.v (.bool x)]
def cS (x:List UInt8):List Dat:=[.str x]
abbrev aI (k:IntKind) (x:Int):AV:=.d (.v (.int k x))
abbrev aB (x:Bool):AV:=.d (.v (.bool x))
def chk {α:Type} (p:Prop) [Decidable p] (k:Option α):Option α:=if p then k else none
theorem chk_ok {α:Type} {p:Prop} [Decidable p] {k:Option α} {r:α} (h:chk p k=some r):p∧k=some r:=by
 unfold chk at h
 split at h
 ·exact ⟨by assumption,h⟩
 ·cases h
theorem cond_tt {α:Type} {b:Bool} {x y:Option α} {r:α} (hb:b=true) (h:(bif b then x else y)=some r):x=some r:=by
 subst hb; exact h
theorem cond_ff {α:Type} {b:Bool} {x y:Option α} {r:α} (hb:b=false) (h:(bif b then x else y)=some r):y=some r:=by
 subst hb; exact h
def call {α γ:Type} (m:Option α) (k:α→Option γ):Option γ:=match m with
 | some x=>k x
 | none=>none
theorem call_ok {α γ:Type} {m:Option α} {k:α→Option γ} {r:γ} (h:call m k=some r):∃ x,m=some x∧k x=some r:=by
 unfold call at h
 split at h
 ·exact ⟨_,rfl,h⟩
 ·cases h
def cL {α:Type} (sz:Nat) (enc:α→List Dat) (x:List α):List Dat:=[.sl sz (x.map enc)]
def lett {α γ:Type} (x:α) (k:α→Option γ):Option γ:=k x
theorem lett_ok {α γ:Type} {x:α} {k:α→Option γ} {r:γ} (h:lett x k=some r):∃ y,x=y∧k y=some r:=⟨x,rfl,h⟩
inductive Out (σ ε:Type) where
 | go (s:σ)
 | esc (e:ε)
def callE {σ ε γ:Type} (m:Option (Out σ ε)) (kr:ε→Option γ) (k:σ→Option γ):Option γ:=match m with
 | some (.go s)=>k s
 | some (.esc e)=>kr e
 | none=>none
theorem callE_ok {σ ε γ:Type} {m:Option (Out σ ε)} {kr:ε→Option γ} {k:σ→Option γ} {r:γ} (h:callE m kr k=some r):∃ o,m=some o∧callE (some o) kr k=some r:=by
 cases m with
 | none=>cases h
 | some o=>exact ⟨o,rfl,h⟩
theorem callE_esc {σ ε γ:Type} {x:ε} {kr:ε→Option γ} {k:σ→Option γ} {r:γ} (h:callE (some (.esc x)) kr k=some r):kr x=some r:=h
theorem gcall_ok {α:Type} {b:Bool} {m:Option α} {d y:α} (hb:b=true) (h:(bif b then m else some d)=some y):m=some y:=by
 subst hb; exact h
theorem and_trans {α:Type} {p:Prop} {x y z:α} (h:p∧x=y) (h2:y=z):p∧x=z:=⟨h.1,h.2.trans h2⟩
theorem len_ok {α:Type} {xs:List α} (enc:α→List Dat):True∧AV.d (.v (.int .i64 ((xs.map enc).length:Int)))=AV.d (.v (.int .i64 (xs.length:Int))):=⟨trivial,by simp⟩
theorem cutH {α:Type} {xs:List α} (enc:α→List Dat) {l r:Int} {sz:Nat} (h:0≤l∧l≤r∧r≤(xs.length:Int)):(0≤l∧l≤r∧r≤((xs.map enc).length:Int))∧AV.d (.sl sz (((xs.map enc).drop l.toNat).take (r.toNat - l.toNat)))=AV.d (.sl sz (((xs.drop l.toNat).take (r.toNat - l.toNat)).map enc)):=by
 refine ⟨by simpa using h,?_⟩
 simp [List.map_take,List.map_drop]
theorem cutL {α:Type} {xs:List α} (enc:α→List Dat) {l:Int} {sz:Nat} (h:0≤l∧l≤(xs.length:Int)∧(xs.length:Int)≤(xs.length:Int)):(0≤l∧l≤((xs.map enc).length:Int)∧((xs.map enc).length:Int)≤((xs.map enc).length:Int))∧AV.d (.sl sz (((xs.map enc).drop l.toNat).take (((xs.map enc).length:Int).toNat - l.toNat)))=AV.d (.sl sz (((xs.drop l.toNat).take ((xs.length:Int).toNat - l.toNat)).map enc)):=by
 refine ⟨by simpa using h,?_⟩
 simp [List.map_take,List.map_drop]
theorem idx_ok {α:Type} {xs:List α} {i:Int} {d:α} (enc:α→List Dat) (h:0≤i∧i < xs.length):0≤i∧(xs.map enc)[i.toNat]? = some (enc (xs.getD i.toNat d)):=by
 refine ⟨h.1,?_⟩
 have:i.toNat < xs.length:=by omega
 simp [List.getD_eq_getElem?_getD,List.getElem?_eq_getElem this]
theorem arr_ok {α:Type} {d:α} (enc:α→List Dat) (sz n:Nat) (xs:List α) {i:Int} (hl:xs.length=n) (hsz:∀ a,(enc a).length=sz) (h:0≤i∧i < n) {cs:List Dat} (hcs:cs=xs.flatMap enc):enc (xs.getD i.toNat d)=(cs.drop (i.toNat * sz)).take sz:=by
 subst hcs
 obtain ⟨k,rfl⟩:=Int.eq_ofNat_of_zero_le h.1
 have hk:k < xs.length:=by omega
 clear h hl
 rw [Int.toNat_natCast]
 induction xs generalizing k with
 | nil=>simp at hk
 | cons x xs ih =>
  cases k with
  | zero=>simp [← hsz x]
  | succ k =>
   have:=ih k (by simpa using hk)
   rw [List.getD_cons_succ,this,List.flatMap_cons,Nat.succ_mul,Nat.add_comm,← List.drop_drop,← hsz x,List.drop_left]
theorem own_idx {α:Type} {xs:List α} {i:Int} (enc:α→List Dat) (h:0≤i∧i < xs.length):0≤i∧i < (xs.map enc).length:=by
 simpa using h
theorem set_ok {α:Type} {xs:List α} {i:Nat} {x:α} {e:List Dat} (enc:α→List Dat) (h:e=enc x):(xs.map enc).set i e=(xs.set i x).map enc:=by
 rw [h,List.map_set]
theorem app_ok {α:Type} {xs ys:List α} (enc:α→List Dat) {n:Nat} (h:xs.length+ys.length≤n):(xs.map enc).length+(ys.map enc).length≤n∧xs.map enc++ys.map enc=(xs++ys).map enc:=by
 simpa using h
theorem take_ok {α:Type} {xs:List α} (enc:α→List Dat) {n:Int} (h:0≤n∧n≤(xs.length:Int)):(0≤n∧n≤((xs.map enc).length:Int))∧(xs.map enc).take n.toNat=(xs.take n.toNat).map enc:=⟨by simpa using h,by simp [List.map_take]⟩
theorem repl_ok {α:Type} {n:Nat} {x:α} {e:List Dat} (enc:α→List Dat) (he:e=enc x):List.replicate n e=(List.replicate n x).map enc:=by
 subst he; simp
section
variable {P:Program} {e:Env} {N:Nat} {fr:Fr} {Q:Exit→Act→World→Prop}
theorem inBlock_exit {id:Nat} {a:Act} {w:World} (h:Q .normal a w):Exit.inBlock id Q (.exit id) a w:=by
 simp [Exit.inBlock,h]
theorem inBlock_pass {id id':Nat} {a:Act} {w:World} (hne:(id' == id)=false) (h:Q (.exit id') a w):Exit.inBlock id Q (.exit id') a w:=by
 have:id'≠id:=by simpa using hne
 simp [Exit.inBlock,this,h]
theorem T_loopF {ι:Type} (I:ι→Fr) (R:Nat→ι→Prop) {body:Code} (h0:∀ i,¬ R 0 i) (round:∀ n i,R (n+1) i→T P e N body (I i) (Exit.then (fun a w=>∃ j,R n j∧MemA e [] N (I j) a w) Q)) (n:Nat) (i:ι) (h:R n i):T P e N (.loop body) (I i) Q:=by
 refine T_loop (ι:=Nat×ι) (fun p=>I p.2) (fun p=>R p.1 p.2) (fun p=>p.1) (fun p hp=>?_) (n,i) h
 obtain ⟨m,j⟩:=p
 cases m with
 | zero=>exact absurd hp (h0 j)
 | succ m =>
  intro a w hm
  refine wp_mono (round m j hp a w hm) fun ex a' w' hq=>?_
  cases ex with
  | normal =>
   obtain ⟨j',hj,hm'⟩:=hq
   exact ⟨(m,j'),hj,Nat.lt_succ_self m,hm'⟩
  | exit id=>exact hq
  | goto l=>exact hq
  | ret=>exact hq
  | panic ch=>exact hq
  | outgrown=>exact hq
theorem inBlock_norm {id:Nat} {a:Act} {w:World} (h:Q .normal a w):Exit.inBlock id Q .normal a w:=h
theorem inBlock_ret {id:Nat} {a:Act} {w:World} (h:Q .ret a w):Exit.inBlock id Q .ret a w:=h
theorem then_norm {K:Act→World→Prop} {a:Act} {w:World} (h:K a w):Exit.then K Q .normal a w:=h
theorem then_ret {K:Act→World→Prop} {a:Act} {w:World} (h:Q .ret a w):Exit.then K Q .ret a w:=h
theorem then_exit {K:Act→World→Prop} {id:Nat} {a:Act} {w:World} (h:Q (.exit id) a w):Exit.then K Q (.exit id) a w:=h
theorem T_joinct {σ ρ:Type} {m:Option σ} {k:σ→Option ρ} {r:ρ} (h:call m k=some r) (I:σ→Fr) {x:Code} (hx:∀ s,m=some s→T P e N x fr (Exit.then (fun a w=>MemA e [] N (I s) a w) Q)) (hz:∀ s,k s=some r→∀ a w,MemA e [] N (I s) a w→Q .normal a w):T P e N x fr Q:=by
 obtain ⟨s,hm,hk⟩:=call_ok h
 intro a w hw
 refine wp_mono (hx s hm a w hw) fun ex a' w' hq=>?_
 cases ex with
 | normal=>exact hz s hk a' w' hq
 | exit id=>exact hq
 | goto l=>exact hq
 | ret=>exact hq
 | panic ch=>exact hq
 | outgrown=>exact hq
theorem T_joinc {σ ρ:Type} {m:Option σ} {k:σ→Option ρ} {r:ρ} (h:call m k=some r) (I:σ→Fr) {x z:Code} (hx:∀ s,m=some s→T P e N x fr (Exit.then (fun a w=>MemA e [] N (I s) a w) Q)) (hz:∀ s,k s=some r→T P e N z (I s) Q):T P e N (.seq x z) fr Q:=by
 obtain ⟨s,hm,hk⟩:=call_ok h
 exact T_seq (I s) (hx s hm) (hz s hk)
theorem T_joinEt {σ ε ρ:Type} {m:Option (Out σ ε)} {kr:ε→Option ρ} {k:σ→Option ρ} {r:ρ} (h:callE m kr k=some r) (I:σ→Fr) {x:Code} (hx:∀ o,m=some o→callE (some o) kr k=some r→T P e N x fr (Exit.then (fun a w=>∃ s,o=.go s∧MemA e [] N (I s) a w) Q)) (hz:∀ s,k s=some r→∀ a w,MemA e [] N (I s) a w→Q .normal a w):T P e N x fr Q:=by
 obtain ⟨o,hm,hk⟩:=callE_ok h
 intro a w hw
 refine wp_mono (hx o hm hk a w hw) fun ex a' w' hq=>?_
 cases ex with
 | normal =>
  obtain ⟨s,rfl,hq⟩:=hq
  exact hz s hk a' w' hq
 | exit id=>exact hq
 | goto l=>exact hq
 | ret=>exact hq
 | panic ch=>exact hq
 | outgrown=>exact hq
theorem T_joinE {σ ε ρ:Type} {m:Option (Out σ ε)} {kr:ε→Option ρ} {k:σ→Option ρ} {r:ρ} (h:callE m kr k=some r) (I:σ→Fr) {x z:Code} (hx:∀ o,m=some o→callE (some o) kr k=some r→T P e N x fr (Exit.then (fun a w=>∃ s,o=.go s∧MemA e [] N (I s) a w) Q)) (hz:∀ s,k s=some r→T P e N z (I s) Q):T P e N (.seq x z) fr Q:=by
 obtain ⟨o,hm,hk⟩:=callE_ok h
 refine fun a w hw=>wp_seq (wp_mono (hx o hm hk a w hw) fun ex a' w' hq=>?_)
 cases ex with
 | normal =>
  obtain ⟨s,rfl,hq⟩:=hq
  exact hz s hk a' w' hq
 | exit id=>exact hq
 | goto l=>exact hq
 | ret=>exact hq
 | panic ch=>exact hq
 | outgrown=>exact hq
end
end Go.Vm
namespace Go.Vm
end Go.Vm
namespace Go.Vm
def opP (P:Program) (N:Nat) (t:Nat) (fr:Fr) (o:Oper):Option Fr :=
 match o.op with
 | .assign (.tmp s)=>effMove N true t s fr
 | .move (.tmp s)=>effMove N false t s fr
 | .assign (.const (.slice none 0 0))=>effNil P false t o.type fr
 | _=>none
def stepP (P:Program) (N:Nat) (ops:Array Oper) (i:Nat) (h:Hint) (G:GEnv) (fr:Fr):Option (GEnv×Fr×Prop) :=
 match ops[i]? with
 | none=>none
 | some o=>if dstFree N G o.dst then
  match chainOf ops G o,o.dst with
  | some [],some t=>match opP P N t fr o with
   | some fr'=>some (G,fr',True)
   | none=>match opR' P N G [] h fr o with
    | some r=>if (rwA h r).1.plain then some (pushG G t [] (rwA h r).1,setA t (rwA h r).1 fr,(rwA h r).2) else none
    | none=>none
  | some (q :: g),some t=>match opR' P N G (q :: g) h fr o with
   | some r=>if (rwA h r).1.plain then some (pushG G t (q :: g) (rwA h r).1,setA t (.gd (q :: g) (rwA h r).1) fr,condG G (q :: g)=true→(rwA h r).2) else none
   | none=>none
  | _,_=>none
 else none
def runP (P:Program) (N:Nat) (ops:Array Oper) (hs:List (Nat×Hint)):List Nat→Array Bool→GEnv→Fr→Option (Fr×List Prop)
 | [],listed,_,fr=>if (Region.ready .any ops listed).isEmpty then some (fr,[]) else none
 | i :: r,listed,G,fr=>if Region.free .any ops listed i && (Region.ready .any ops listed).contains i then
   match stepP P N ops i (hintAt hs i) G fr with
   | some (G1,fr1,obl)=>match runP P N ops hs r (listed.setIfInBounds i true) G1 fr1 with
    | some (f,l)=>some (f,obl :: l)
    | none=>none
   | none=>none
  else none
def runD (P:Program) (N:Nat) (ops:Array Oper) (hs:List (Nat×Hint)) (keep:List Nat) (cs:List Co) (fr:Fr):Option (Fr×List Prop) :=
 if Region.noSelect ops then
 match runP P N ops hs (List.range ops.size) (Array.replicate ops.size false) [] fr with
 | some (f,l)=>match coStep (.keep keep) f with
  | some f'=>match coAll cs f' with
   | some f''=>some (f'',l)
   | none=>none
  | none=>none
 | none=>none
 else none
section
variable {P:Program} {e:Env} {G:GEnv} {S:Nat→Prop} {β:Path→Value} {fr:Fr} {w:World} {a:Act} {N:Nat}
theorem opP_ok (hN:a.tmps.size=N) (hm:Mem e G S β fr (valsOf e a) w) {t:Nat} (ht:t < a.tmps.size) {o:Oper} {fr':Fr} (h:opP P N t fr o=some fr') :
  ∃ u,(execOp a.eval o).run P w=.ok (.value u) w∧After e G fr' a t u w:=by
 obtain ⟨dst,op,type,pos,after,guard⟩:=o
 unfold opP at h
 simp only at h
 split at h
 ·exact ⟨_,rfl,effMove_ok hN hm ht h⟩
 ·exact ⟨_,rfl,effMove_ok hN hm ht h⟩
 ·exact ⟨_,rfl,effNil_ok hm ht h⟩
 ·cases h
theorem stepP_ok {ops:Array Oper} {i:Nat} {h:Hint} {G':GEnv} {fr':Fr} {obl:Prop} (hs:stepP P N ops i h G fr=some (G',fr',obl)) (ho:obl) (hm:MemG e G N fr a w) :
  ∃ o u,ops[i]? = some o∧YieldsIf P ops (fun w'=>w'=w) o u a∧MemG e G' N fr' (a.put o.dst u) w:=by
 obtain ⟨hd,hN,hI,S,β,hm⟩:=hm
 unfold stepP at hs
 split at hs
 ·cases hs
 rename_i o hoi
 split at hs
 case isFalse=>cases hs
 rename_i hfree
 have hdst:∀ t,o.dst=some t→t < N∧lookG G t=none:=by
  intro t ht
  simpa [dstFree,ht] using hfree
 refine ⟨o,?_⟩
 split at hs
 ·-- no guard
  rename_i t hch ht
  obtain ⟨hw,_⟩:=chainOf_ok hI hch
  rw [condG_nil] at hw
  obtain ⟨htN,htG⟩:=hdst t ht
  have hts:t < a.tmps.size:=by rw [hN]; exact htN
  split at hs
  ·rename_i fr1 hE
   simp only [Option.some.injEq,Prod.mk.injEq] at hs
   obtain ⟨rfl,rfl,rfl⟩:=hs
   obtain ⟨u,hu,S',β',hm'⟩:=opP_ok hN hm hts hE
   refine ⟨u,hoi,.inl ⟨hw,fun w' hw'=>by subst hw'; exact hu⟩,?_⟩
   rw [ht]
   exact ⟨by rw [put_defers]; exact hd,by rw [put_size]; exact hN,hI.put hN htN htG u,S',β',hm'⟩
  ·split at hs
   case h_2=>cases hs
   rename_i r hR
   split at hs
   case isFalse=>cases hs
   rename_i hpl
   simp only [Option.some.injEq,Prod.mk.injEq] at hs
   obtain ⟨rfl,rfl,rfl⟩:=hs
   obtain ⟨u,hu,hru⟩:=opR'_ok (P:=P) hN hI hm condG_nil hR ho
   refine ⟨u,hoi,.inl ⟨hw,fun w' hw'=>by subst hw'; exact hu⟩,?_⟩
   rw [ht]
   refine ⟨by rw [put_defers]; exact hd,by rw [put_size]; exact hN,?_,S,β,?_⟩
   ·exact pushG_inv (hI.put hN htN htG u) htN htG (by simp) (u:=u) (by rw [put_get a t u hts,if_pos rfl]) (fun _=>hru) (fun h=>by rw [condG_nil] at h; cases h)
   ·refine pushG_mem (hm.setPlain t _ u _ (put_old a t u hts) (put_new a t u hts) (plain_slot hpl hru) (plain_ownsAt hpl) (fun l a h=>?_)) htG _ _
    rw [h] at hpl
    cases hpl
 ·-- under a guard
  rename_i q g t hch ht
  obtain ⟨hw,hgs⟩:=chainOf_ok hI hch
  obtain ⟨htN,htG⟩:=hdst t ht
  have hts:t < a.tmps.size:=by rw [hN]; exact htN
  split at hs
  case h_2=>cases hs
  rename_i r hR
  split at hs
  case isFalse=>cases hs
  rename_i hpl
  simp only [Option.some.injEq,Prod.mk.injEq] at hs
  obtain ⟨rfl,rfl,rfl⟩:=hs
  cases hc:condG G (q :: g) with
  | true =>
   obtain ⟨u,hu,hru⟩:=opR'_ok (P:=P) hN hI hm hc hR (ho hc)
   refine ⟨u,hoi,.inl ⟨by rw [hw,hc],fun w' hw'=>by subst hw'; exact hu⟩,?_⟩
   rw [ht]
   refine ⟨by rw [put_defers]; exact hd,by rw [put_size]; exact hN,?_,S,β,?_⟩
   ·exact pushG_inv (hI.put hN htN htG u) htN htG hgs (u:=u) (by rw [put_get a t u hts,if_pos rfl]) (fun _=>hru) (fun h=>by rw [hc] at h; cases h)
   ·refine pushG_mem (hm.setPlain t _ u _ (put_old a t u hts) (put_new a t u hts) (show RSlot (condG G) S w β t (.gd (q :: g) _) u from ⟨fun _=>plain_path hpl hru,fun h=>by rw [hc] at h; cases h⟩) ?_ (fun l a h=>?_)) htG _ _
    ·intro j
     cases j <;> simp [AV.ownsAt,AV.isOwn,plain_isOwn hpl]
    ·cases h
     exact ⟨plain_isOwn hpl,hgs⟩
  | false =>
   refine ⟨undef,hoi,.inr ⟨by rw [hw,hc],rfl⟩,?_⟩
   rw [ht]
   refine ⟨by rw [put_defers]; exact hd,by rw [put_size]; exact hN,?_,S,β,?_⟩
   ·exact pushG_inv (S:=S) (w:=w) (β:=β) (hI.put hN htN htG undef) htN htG hgs (u:=undef) (by rw [put_get a t undef hts,if_pos rfl]) (fun h=>by rw [hc] at h; cases h) (fun _=>rfl)
   ·refine pushG_mem (hm.setPlain t _ undef _ (put_old a t undef hts) (put_new a t undef hts) (show RSlot (condG G) S w β t (.gd (q :: g) _) undef from ⟨fun h=>(by rw [hc] at h; cases h),fun _=>rfl⟩) ?_ (fun l a h=>?_)) htG _ _
    ·intro j
     cases j <;> simp [AV.ownsAt,AV.isOwn,plain_isOwn hpl]
    ·cases h
     exact ⟨plain_isOwn hpl,hgs⟩
 ·cases hs
theorem runP_ok {ops:Array Oper} {hs:List (Nat×Hint)} (hsel:Region.noSelect ops=true) {Q:Exit→Act→World→Prop} (hQp:∀ c a w,¬ Q (.panic c) a w):∀ (l:List Nat) (listed:Array Bool) (G:GEnv) (fr fr':Fr) (obs:List Prop) (a:Act),runP P N ops hs l listed G fr=some (fr',obs)→AllP obs→MemG e G N fr a w →
  (∀ G' a',MemG e G' N fr' a' w→Q .normal a' w)→wpAnyH P .any ops Q (fun w'=>w'=w) l.length listed a w
 | [],listed,G,fr,fr',obs,a,h,_,hm,hQ=>by
  simp only [runP] at h
  split at h
  case isFalse=>cases h
  rename_i hr
  simp only [Option.some.injEq,Prod.mk.injEq] at h
  obtain ⟨rfl,_⟩:=h
  exact wpAnyH_done (by simpa using hr) (hQ G a hm) _
 | i :: r,listed,G,fr,fr',obs,a,h,ho,hm,hQ=>by
  simp only [runP] at h
  split at h
  case isFalse=>cases h
  rename_i hfr
  simp only [Bool.and_eq_true] at hfr
  split at h
  case h_2=>cases h
  rename_i G1 fr1 obl hs1
  split at h
  case h_2=>cases h
  rename_i f l hl
  simp only [Option.some.injEq,Prod.mk.injEq] at h
  obtain ⟨rfl,rfl⟩:=h
  obtain ⟨o,u,ho1,hy,hm'⟩:=stepP_ok hs1 ho.1 hm
  exact wpAnyH_take ho1 hsel hfr.1 hfr.2 (fun c a w h=>absurd h (hQp c _ w)) hy rfl (runP_ok hsel hQp r _ G1 fr1 f l _ hl ho.2 hm' hQ)
theorem Mem.drawn {vals:Nat→Option Value} (hm:Mem e G S β fr vals w) (n:Nat):Mem e G S β fr vals { w with drawn:=n }:=by
 have h:Mem e G S β ((0,fget fr 0) :: fr) vals { w with drawn:=n }:=by
  refine hm.change 0 (fget fr 0) (slotP 0) (fget_cons_self 0 _ fr) (fun y hy=>.inl ⟨fget_cons_ne _ _ (Ne.symm hy),fun _=>rfl⟩) (fun _ _ _=>rfl) (fun _ _=>rfl) (fun _ _ _ h=>h) ?_ (hm.gok 0) ?_ ?_ ?_ (fun _ h=>h) (fun _ h=>.inl h) (fun _ _=>rfl) (fun _ _ _ _ _ _=>rfl) (fun _ _ _=>rfl) (Nat.le_refl _) rfl rfl rfl
  ·obtain ⟨u,hr,hu⟩:=hm.rel 0
   exact ⟨u,RSlot.turn hr (fun _ _ _=>rfl) (fun _ h=>h) (fun _ _=>rfl) (fun _=>rfl) (fun _ _ _ _=>rfl) (fun _ _=>rfl),hu⟩
  ·intro i j b h1 h2 h3 h4
   exact (hm.dis 0 i 0 j b h1 h2 h3 h4).2
  ·intro i y j b h1 hy h2 h3 h4
   exact hy (hm.dis 0 i y j b h1 h2 h3 h4).1.symm
  ·intro i b h1 h2
   exact hm.fre 0 i b h1 h2
 exact h.congr fun x=>by
  by_cases hx:x=0
  ·subst hx; rw [fget_cons_self]
  ·rw [fget_cons_ne _ _ (Ne.symm hx)]
theorem wp_runD {id:Nat} {ops:Array Oper} {hs:List (Nat×Hint)} {keep:List Nat} {cs:List Co} {fr':Fr} {obs:List Prop} {Q:Exit→Act→World→Prop} (hmx:P.follows .mixedOrders=true) (h:runD P N ops hs keep cs fr=some (fr',obs)) (ho:AllP obs) (hm:MemA e [] N fr a w)
  (hQ:∀ a' w',MemA e [] N fr' a' w'→Q .normal a' w'):(Code.region id ops true).wp P Q a w:=by
 unfold runD at h
 split at h
 case isFalse=>cases h
 rename_i hsel
 split at h
 case h_2=>cases h
 rename_i f l hl
 split at h
 case h_2=>cases h
 rename_i f' hk
 split at h
 case h_2=>cases h
 rename_i f'' hc
 simp only [Option.some.injEq,Prod.mk.injEq] at h
 obtain ⟨rfl,rfl⟩:=h
 refine wp_mono (Q:=fun ex a w=>match ex with | .normal=>Q .normal a w | _=>False) ?_ (fun ex a' w' hq=>by cases ex <;> first | exact hq | exact hq.elim)
 refine wp_region_held hmx (S:=fun w'=>w'={ w with drawn:=w.drawn+1 }) ?_
 obtain ⟨h1,h2,S,β,hm⟩:=hm
 have hrun:=runP_ok (e:=e) (w:={ w with drawn:=w.drawn+1 }) hsel (Q:=fun ex a w=>match ex with | .normal=>Q .normal a w | _=>False) (fun _ _ _ h=>h) (List.range ops.size) (Array.replicate ops.size false) [] fr f l a hl ho (memG_nil ⟨h1,h2,S,β,hm.drawn _⟩) (fun G' a' hm'=>by
  obtain ⟨g1,g2,_,S',β',hm'⟩:=hm'
  obtain ⟨S'',β'',hm''⟩:=coAll_ok cs _ _ S' β' (coKeep hm' hk) hc
  exact hQ a' _ ⟨g1,g2,S'',β'',hm''⟩)
 simpa using hrun
variable {Q:Exit→Act→World→Prop}
theorem T_draw {id:Nat} {ops:Array Oper} (hmx:P.follows .mixedOrders=true) (hs:List (Nat×Hint)) (keep:List Nat) (cs:List Co) (fr':Fr) (obs:List (Nat×Prop)) (n:Nat) {k:Code} (h:runD P N ops hs keep cs fr=some (fr',owed obs n)) (ho:Owed obs) (hk:T P e N k fr' Q):T P e N (.seq (.region id ops true) k) fr Q :=
 fun _ _ hm=>wp_seq (wp_runD hmx h ho.all hm fun a' w' hm'=>hk a' w' hm')
end
end Go.Vm
namespace Go.Vm
section
variable {P:Program} {e:Env} {G:GEnv} {S:Nat→Prop} {β:Path→Value} {fr:Fr} {vals:Nat→Option Value} {w:World}
end
end Go.Vm
namespace Go.Vm
def wpAnyL (P:Program) (ops:Array Oper) (Q:Exit→Act→World→Prop) (m:Nat):Nat→Array Bool→Act→World→Prop
 | 0,listed,a,w=>Region.ready .any ops listed=[]∧Q .normal a w
 | fuel+1,listed,a,w=>(Region.ready .any ops listed=[]→Q .normal a w) ∧
  ∀ i∈Region.ready .any ops listed,wpOp P ops Q i (fun a' w'=>(i < m→w'=w)∧wpAnyL P ops Q m fuel (listed.setIfInBounds i true) a' w') a w
def waits (ops:Array Oper) (m:Nat):Bool:=(List.range ops.size).all fun j=>decide (j < m) || (match ops[j]? with
 | some o=>(List.range m).all fun i=>o.after.any fun e=>Region.binds .any e && e.on == i
 | none=>true)
section
variable {P:Program} {ops:Array Oper} {Q:Exit→Act→World→Prop} {m:Nat}
theorem wpAny_of_L:∀ (fuel:Nat) (listed:Array Bool) (a:Act) (w:World),wpAnyL P ops Q m fuel listed a w→wpAny P .any ops Q fuel listed a w
 | 0,_,_,_,h=>h
 | fuel+1,_,_,_,h=>⟨h.1,fun i hi=>wpOp_mono (fun a' w' h'=>wpAny_of_L fuel _ a' w' h'.2) (h.2 i hi)⟩
theorem unlisted {listed:Array Bool} {i:Nat} (h0:listed.getD i true=false):listed.getD i false≠true:=by
 intro h1
 rcases Nat.lt_or_ge i listed.size with h' | h'
 ·simp [h'] at h0 h1
  rw [h0] at h1
  cases h1
 ·simp [Array.getElem?_eq_none h'] at h1
theorem front {listed:Array Bool} {i j:Nat} (hw:waits ops m=true) (hi:i < m) (hr:i∈Region.ready .any ops listed) (hj:j∈Region.ready .any ops listed):j < m:=by
 rcases Nat.lt_or_ge j m with h | h
 ·exact h
 ·exfalso
  obtain ⟨_,oj,hoj,hall⟩:=mem_ready.1 hj
  have hlt:j < ops.size:=(Array.getElem?_eq_some_iff.1 hoj).1
  have h1:=(List.all_eq_true.1 hw) j (List.mem_range.2 hlt)
  simp only [hoj,Bool.or_eq_true,decide_eq_true_eq] at h1
  have h2:=(List.all_eq_true.1 (h1.resolve_left (by omega))) i (List.mem_range.2 hi)
  rw [← Array.any_toList,List.any_eq_true] at h2
  obtain ⟨e,he,hbe⟩:=h2
  simp only [Bool.and_eq_true,beq_iff_eq] at hbe
  obtain ⟨hb,hon⟩:=hbe
  have he:=Array.mem_toList_iff.1 he
  have:=hall e he hb
  rw [hon] at this
  exact unlisted (mem_ready.1 hr).1 this
theorem takeL {i:Nat} {oi:Oper} {v:Value} (hi:ops[i]? = some oi) (him:i < m) (hw:waits ops m=true) (hsel:Region.noSelect ops=true) (hQp:∀ c a w,¬ Q (.panic c) a w) (w:World) :
  ∀ (fuel:Nat) (listed:Array Bool) (a:Act),Region.free .any ops listed i=true→i∈Region.ready .any ops listed→YieldsIf P ops (fun w'=>w'=w) oi v a →
   wpAnyL P ops Q m fuel (listed.setIfInBounds i true) (a.put oi.dst v) w→wpAnyL P ops Q m (fuel+1) listed a w:=by
 have main:∀ (fuel:Nat) (listed:Array Bool) (a:Act),(∀ j oj,ops[j]? = some oj→j≠i→listed.getD j true=false→(∀ e∈oj.after,Region.binds .any e=true→e.on≠i)→oi.apart ops oj=true)→i∈Region.ready .any ops listed→YieldsIf P ops (fun w'=>w'=w) oi v a →
   wpAnyL P ops Q m fuel (listed.setIfInBounds i true) (a.put oi.dst v) w→wpAnyL P ops Q m (fuel+1) listed a w:=by
  intro fuel
  induction fuel with
  | zero =>
   intro listed a _ hr hy H
   refine ⟨fun h=>(by rw [h] at hr; cases hr),fun j hj=>?_⟩
   by_cases hji:j=i
   ·subst hji
    exact hy.wpOp hi rfl ⟨fun _=>rfl,H⟩
   ·have:=ready_mono hj hji
    rw [H.1] at this
    cases this
  | succ fuel ih =>
   intro listed a hfree hr hy H
   refine ⟨fun h=>(by rw [h] at hr; cases hr),fun j hj=>?_⟩
   by_cases hji:j=i
   ·subst hji
    exact hy.wpOp hi rfl ⟨fun _=>rfl,H⟩
   ·have hjm:=front hw him hr hj
    obtain ⟨hjun,oj,hoj,hall⟩:=mem_ready.1 hj
    have hnot:∀ e∈oj.after,Region.binds .any e=true→e.on≠i:=fun e he hb heq=>by
     have h1:=hall e he hb
     rw [heq] at h1
     exact unlisted (mem_ready.1 hr).1 h1
    have h2:=wpOp_putIf hoj (hfree j oj hoj hji hjun hnot) (fun cs b=>Region.noSelect_spec hsel i oi cs b hi) (fun cs b=>Region.noSelect_spec hsel j oj cs b hoj) (fun c a w h=>absurd h (hQp c _ w)) hy (H.2 j (ready_mono hj hji))
    refine wpOp_mono (fun a' w' h3=>?_) h2
    obtain ⟨h4,h5,h6⟩:=h3
    have hww:=h5 hjm
    subst hww
    refine ⟨fun _=>rfl,ih (listed.setIfInBounds j true) a' (fun k ok hk hki hun hno=>?_) (ready_mono hr (Ne.symm hji)) h4 ?_⟩
    ·refine hfree k ok hk hki ?_ hno
     by_cases hjk:j=k
     ·subst hjk; exact hjun
     ·rw [getD_set_ne true hjk] at hun; exact hun
    ·rw [Array.setIfInBounds_comm _ _ hji]
     exact h6
 intro fuel listed a hf
 exact main fuel listed a (Region.free_spec hi hf)
end
def runS (P:Program) (N:Nat) (ops:Array Oper) (hs:List (Nat×Hint)) (m:Nat):List Nat→Array Bool→GEnv→Fr→Option (Fr×List Prop)
 | [],listed,_,fr=>if (Region.ready .any ops listed).isEmpty then some (fr,[]) else none
 | i :: r,listed,G,fr=>if i < m then
   if Region.free .any ops listed i && (Region.ready .any ops listed).contains i then
    match stepP P N ops i (hintAt hs i) G fr with
    | some (G1,fr1,obl)=>match runS P N ops hs m r (listed.setIfInBounds i true) G1 fr1 with
     | some (f,l)=>some (f,obl :: l)
     | none=>none
    | none=>none
   else none
  else if Region.ready .any ops listed == [i] then
   match step1 P N ops i (hintAt hs i) G fr with
   | some (G1,fr1,obl)=>match runS P N ops hs m r (listed.setIfInBounds i true) G1 fr1 with
    | some (f,l)=>some (f,obl :: l)
    | none=>none
   | none=>none
  else none
def runDS (P:Program) (N:Nat) (ops:Array Oper) (hs:List (Nat×Hint)) (m:Nat) (keep:List Nat) (cs:List Co) (fr:Fr):Option (Fr×List Prop) :=
 if Region.noSelect ops && waits ops m then
 match runS P N ops hs m (List.range ops.size) (Array.replicate ops.size false) [] fr with
 | some (f,l)=>match coStep (.keep keep) f with
  | some f'=>match coAll cs f' with
   | some f''=>some (f'',l)
   | none=>none
  | none=>none
 | none=>none
 else none
section
variable {P:Program} {e:Env} {fr:Fr} {w:World} {a:Act} {N:Nat}
theorem runS_ok {ops:Array Oper} {hs:List (Nat×Hint)} {m:Nat} (hsel:Region.noSelect ops=true) (hw:waits ops m=true) {Q:Exit→Act→World→Prop} (hQp:∀ c a w,¬ Q (.panic c) a w):∀ (l:List Nat) (listed:Array Bool) (G:GEnv) (fr fr':Fr) (obs:List Prop) (a:Act) (w:World),runS P N ops hs m l listed G fr=some (fr',obs)→AllP obs→MemG e G N fr a w →
  (∀ G' a' w',MemG e G' N fr' a' w'→Q .normal a' w')→wpAnyL P ops Q m l.length listed a w
 | [],listed,G,fr,fr',obs,a,w,h,_,hm,hQ=>by
  simp only [runS] at h
  split at h
  case isFalse=>cases h
  rename_i hr
  simp only [Option.some.injEq,Prod.mk.injEq] at h
  obtain ⟨rfl,_⟩:=h
  exact ⟨by simpa using hr,hQ G a w hm⟩
 | i :: r,listed,G,fr,fr',obs,a,w,h,ho,hm,hQ=>by
  simp only [runS] at h
  split at h
  ·rename_i him
   split at h
   case isFalse=>cases h
   rename_i hfr
   simp only [Bool.and_eq_true] at hfr
   split at h
   case h_2=>cases h
   rename_i G1 fr1 obl hs1
   split at h
   case h_2=>cases h
   rename_i f l hl
   simp only [Option.some.injEq,Prod.mk.injEq] at h
   obtain ⟨rfl,rfl⟩:=h
   obtain ⟨o,u,ho1,hy,hm'⟩:=stepP_ok hs1 ho.1 hm
   exact takeL ho1 him hw hsel hQp w r.length listed a hfr.1 (by simpa using hfr.2) hy (runS_ok hsel hw hQp r _ G1 fr1 f l _ w hl ho.2 hm' hQ)
  ·rename_i him
   split at h
   case isFalse=>cases h
   rename_i hrd
   have hrd':Region.ready .any ops listed=[i]:=by simpa using hrd
   split at h
   case h_2=>cases h
   rename_i G1 fr1 obl hs1
   split at h
   case h_2=>cases h
   rename_i f l hl
   simp only [Option.some.injEq,Prod.mk.injEq] at h
   obtain ⟨rfl,rfl⟩:=h
   refine ⟨fun h=>(by rw [hrd'] at h; cases h),fun j hj=>?_⟩
   rw [hrd',List.mem_singleton] at hj
   subst hj
   obtain ⟨o,ho1,hwt,hnw⟩:=step1_ok (K:=fun a' w'=>(j < m→w'=w)∧wpAnyL P ops Q m r.length (listed.setIfInBounds j true) a' w') (Q:=Q) hs1 ho.1 hm fun a' w' hm'=>⟨fun h=>absurd h him,runS_ok hsel hw hQp r _ G1 fr1 f l a' w' hl ho.2 hm' hQ⟩
   unfold wpOp
   simp only [ho1]
   by_cases hwant:Region.wanted o (yielded ops a.tmps)=true
   ·rw [if_pos hwant]
    exact .inl (hwt hwant)
   ·rw [if_neg hwant]
    exact ⟨fun _=>trivial,(hnw (by simpa using hwant)).2⟩
theorem wp_runDS {id:Nat} {ops:Array Oper} {hs:List (Nat×Hint)} {m:Nat} {keep:List Nat} {cs:List Co} {fr':Fr} {obs:List Prop} {Q:Exit→Act→World→Prop} (hmx:P.follows .mixedOrders=true) (h:runDS P N ops hs m keep cs fr=some (fr',obs)) (ho:AllP obs) (hm:MemA e [] N fr a w)
  (hQ:∀ a' w',MemA e [] N fr' a' w'→Q .normal a' w'):(Code.region id ops true).wp P Q a w:=by
 unfold runDS at h
 split at h
 case isFalse=>cases h
 rename_i hsw
 simp only [Bool.and_eq_true] at hsw
 split at h
 case h_2=>cases h
 rename_i f l hl
 split at h
 case h_2=>cases h
 rename_i f' hk
 split at h
 case h_2=>cases h
 rename_i f'' hc
 simp only [Option.some.injEq,Prod.mk.injEq] at h
 obtain ⟨rfl,rfl⟩:=h
 refine wp_mono (Q:=fun ex a w=>match ex with | .normal=>Q .normal a w | _=>False) ?_ (fun ex a' w' hq=>by cases ex <;> first | exact hq | exact hq.elim)
 refine wp_region_any hmx (wpAny_of_L (m:=m) _ _ _ _ ?_)
 obtain ⟨h1,h2,S,β,hm⟩:=hm
 have hrun:=runS_ok (e:=e) hsw.1 hsw.2 (Q:=fun ex a w=>match ex with | .normal=>Q .normal a w | _=>False) (fun _ _ _ h=>h) (List.range ops.size) (Array.replicate ops.size false) [] fr f l a { w with drawn:=w.drawn+1 } hl ho (memG_nil ⟨h1,h2,S,β,hm.drawn _⟩) (fun G' a' w' hm'=>by
  obtain ⟨g1,g2,_,S',β',hm'⟩:=hm'
  obtain ⟨S'',β'',hm''⟩:=coAll_ok cs _ _ S' β' (coKeep hm' hk) hc
  exact hQ a' _ ⟨g1,g2,S'',β'',hm''⟩)
 simpa using hrun
variable {Q:Exit→Act→World→Prop}
theorem T_drawS {id:Nat} {ops:Array Oper} (hmx:P.follows .mixedOrders=true) (m:Nat) (hs:List (Nat×Hint)) (keep:List Nat) (cs:List Co) (fr':Fr) (obs:List (Nat×Prop)) (n:Nat) {k:Code} (h:runDS P N ops hs m keep cs fr=some (fr',owed obs n)) (ho:Owed obs) (hk:T P e N k fr' Q):T P e N (.seq (.region id ops true) k) fr Q :=
 fun _ _ hm=>wp_seq (wp_runDS hmx h ho.all hm fun a' w' hm'=>hk a' w' hm')
end
end Go.Vm
namespace Go.Vm
def Dat.rigid:Dat→Bool
 | .v _=>true
 | .str _=>true
 | _=>false
def AV.rigid:AV→Bool
 | .d z=>z.rigid
 | .bp _ _=>true
 | .ep _ _ _ _=>true
 | _=>false
theorem rigid_unique {S S':Nat→Prop} {w w':World} {z:Dat} {u u':Value} (hz:z.rigid=true) (h:RD S w z u) (h':RD S' w' z u'):u=u':=by
 cases z <;> simp [Dat.rigid] at hz
 ·rw [(RD_v.1 h).1,(RD_v.1 h').1]
 ·rw [RD_str.1 h,RD_str.1 h']
theorem rigid_move {S S':Nat→Prop} {w w':World} {z:Dat} {u:Value} (hz:z.rigid=true) (h:RD S w z u):RD S' w' z u:=by
 cases z <;> simp [Dat.rigid] at hz
 ·exact RD_v.2 (RD_v.1 h)
 ·exact RD_str.2 (RD_str.1 h)
theorem rigidA_unique {S:Nat→Prop} {w w':World} {β:Path→Value} {p p':Path} {z:AV} {u u':Value} (hz:z.rigid=true) (h:RFlat S w β p z u) (h':RFlat S w' β p' z u'):u=u':=by
 cases z <;> simp only [AV.rigid,Bool.false_eq_true] at hz
 ·exact rigid_unique hz h h'
 ·obtain ⟨b,h1,h2⟩:=h
  obtain ⟨b',h1',h2'⟩:=h'
  rw [h1] at h1'
  cases h1'
  rw [h2,h2']
 ·obtain ⟨b,o,h1,h2⟩:=h
  obtain ⟨b',o',h1',h2'⟩:=h'
  rcases h1 with ⟨n,c,h1⟩ | h1 <;> rw [h1] at h1' <;> rcases h1' with ⟨n',c',h1'⟩ | h1' <;> cases h1' <;> rw [h2,h2']
theorem rigidA_move {S:Nat→Prop} {w w':World} {β:Path→Value} {p:Path} {z:AV} {u:Value} (hz:z.rigid=true) (h:RFlat S w β p z u):RFlat S w' β p z u:=by
 cases z <;> simp only [AV.rigid,Bool.false_eq_true] at hz
 ·exact rigid_move hz h
 ·exact h
 ·exact h
def freeOp (P:Program) (N:Nat) (_G:GEnv) (hint:Hint) (fr:Fr) (o:Oper):Bool :=
 match o.op with
 | .move _=>true
 | .assign _=>true
 | .binOp _ _ x y _=>(oval N [] fr x).rigid && (oval N [] fr y).rigid && (match opR P hint (oval N [] fr) fr o with
  | some r=>r.1.rigid
  | none=>false)
 | .unOp _ _ x=>(oval N [] fr x).rigid && (match opR P hint (oval N [] fr) fr o with
  | some r=>r.1.rigid
  | none=>false)
 | .fieldAddr _ x _=>(oval N [] fr x).rigid && (match opR P hint (oval N [] fr) fr o with
  | some r=>r.1.rigid
  | none=>false)
 | .nilCheck x=>(oval N [] fr x).rigid && (match opR P hint (oval N [] fr) fr o with
  | some r=>r.1.rigid
  | none=>false)
 | .indexAddr _ x ix=>(match oval N [] fr x with
  | .vw p=>(match pget fr p with
   | .own _ _ _=>true
   | .arr _ _ _=>true
   | _=>false)
  | _=>false) && (oval N [] fr ix).rigid && (match opR P hint (oval N [] fr) fr o with
  | some r=>r.1.rigid
  | none=>false)
 | .call { callee:=.builtin .max,args:=⟨x :: r⟩,argTypes:=_ }=>(x :: r).all (fun y=>(oval N [] fr y).rigid) && (match opR P hint (oval N [] fr) fr o with
  | some r=>r.1.rigid
  | none=>false)
 | .call { callee:=.builtin .min,args:=⟨x :: r⟩,argTypes:=_ }=>(x :: r).all (fun y=>(oval N [] fr y).rigid) && (match opR P hint (oval N [] fr) fr o with
  | some r=>r.1.rigid
  | none=>false)
 | _=>false
def stepW (P:Program) (N:Nat) (ops:Array Oper) (i:Nat) (h:Hint) (G:GEnv) (fr:Fr):Option (GEnv×Fr×Prop) :=
 match ops[i]? with
 | some o=>match chainOf ops G o with
  | some []=>if freeOp P N G h fr o then stepP P N ops i h G fr else none
  | _=>none
 | none=>none
def bitsOf:List Nat→Nat
 | []=>0
 | i :: r=>2 ^ i ||| bitsOf r
theorem bitsOf_test:∀ (l:List Nat) (j:Nat),(bitsOf l).testBit j=l.contains j
 | [],j=>by simp [bitsOf]
 | i :: r,j=>by
  simp only [bitsOf,Nat.testBit_or,Nat.testBit_two_pow,bitsOf_test r j,List.contains_cons]
  congr 1
  rw [Bool.eq_iff_iff]
  simp
  exact eq_comm
def needsOf (ops:Array Oper):List Nat:=ops.toList.map fun o=>bitsOf ((o.after.toList.filter (Region.binds .any ·)).map (·.on))
def conflOf (ops:Array Oper):List Nat:=(List.range ops.size).map fun i=>bitsOf ((List.range ops.size).filter fun j=>j != i && !(match ops[i]?,ops[j]? with
 | some oi,some oj=>oj.after.any (fun e=>Region.binds .any e && e.on == i) || oi.apart ops oj
 | _,_=>false))
def readyM (needs:List Nat) (mask:Nat):List Nat:=(List.range needs.length).filter fun i => !mask.testBit i && (needs.getD i 0 &&& mask == needs.getD i 0)
def freeM (confl:List Nat) (mask i:Nat):Bool:=decide (i < confl.length) && ((confl.getD i 0 &&& mask) == confl.getD i 0)
def Rel (ops:Array Oper) (listed:Array Bool) (mask:Nat):Prop:=listed.size=ops.size∧∀ j,listed.getD j false=mask.testBit j
theorem sub_iff (x m:Nat):(x &&& m == x)=true↔∀ j,x.testBit j=true→m.testBit j=true:=by
 rw [beq_iff_eq]
 constructor
 ·intro h j hj
  rw [← h,Nat.testBit_and] at hj
  simp only [Bool.and_eq_true] at hj
  exact hj.2
 ·intro h
  apply Nat.eq_of_testBit_eq
  intro j
  rw [Nat.testBit_and]
  cases hx:x.testBit j with
  | false=>rfl
  | true=>rw [h j hx]; rfl
theorem Rel.get_true {ops:Array Oper} {listed:Array Bool} {mask:Nat} (h:Rel ops listed mask) {j:Nat} (hj:j < ops.size):listed.getD j true=mask.testBit j:=by
 rw [← h.2 j]
 have hs:j < listed.size:=by rw [h.1]; exact hj
 simp [hs]
theorem Rel.ready {ops:Array Oper} {listed:Array Bool} {mask:Nat} (h:Rel ops listed mask):Region.ready .any ops listed=readyM (needsOf ops) mask:=by
 unfold Region.ready readyM
 have hl:(needsOf ops).length=ops.size:=by simp [needsOf]
 rw [hl]
 apply List.filter_congr
 intro i hi
 have hi:=List.mem_range.1 hi
 rw [h.get_true hi]
 congr 1
 have hn:(needsOf ops).getD i 0=bitsOf ((ops[i].after.toList.filter (Region.binds .any ·)).map (·.on)):=by
  rw [List.getD_eq_getElem?_getD]
  simp [needsOf,hi]
 rw [hn,Array.getElem?_eq_getElem hi]
 simp only [Option.map_some,Option.getD_some]
 rw [Bool.eq_iff_iff,sub_iff,← Array.all_toList,List.all_eq_true]
 constructor
 ·intro ha j hj
  rw [bitsOf_test,List.contains_iff_mem,List.mem_map] at hj
  obtain ⟨e,he,rfl⟩:=hj
  obtain ⟨h1,h2⟩:=List.mem_filter.1 he
  have:=ha e h1
  rw [h2] at this
  simpa [h.2] using this
 ·intro ha e he
  cases hb:Region.binds .any e with
  | false=>rfl
  | true =>
   have:=ha e.on (by
    rw [bitsOf_test,List.contains_iff_mem,List.mem_map]
    exact ⟨e,List.mem_filter.2 ⟨he,hb⟩,rfl⟩)
   simpa [h.2] using this
theorem Rel.free {ops:Array Oper} {listed:Array Bool} {mask i:Nat} (h:Rel ops listed mask) (hf:freeM (conflOf ops) mask i=true):Region.free .any ops listed i=true:=by
 unfold freeM at hf
 simp only [Bool.and_eq_true,decide_eq_true_eq] at hf
 obtain ⟨hi,hs⟩:=hf
 have hi:i < ops.size:=by simpa [conflOf] using hi
 have hn:(conflOf ops).getD i 0=bitsOf ((List.range ops.size).filter fun j=>j != i && !(match ops[i]?,ops[j]? with
   | some oi,some oj=>oj.after.any (fun e=>Region.binds .any e && e.on == i) || oi.apart ops oj
   | _,_=>false)):=by
  rw [List.getD_eq_getElem?_getD]
  simp [conflOf,hi]
 rw [hn] at hs
 rw [sub_iff] at hs
 unfold Region.free
 rw [Array.getElem?_eq_getElem hi]
 simp only [List.all_eq_true,List.mem_range]
 intro j hj
 by_cases hji:j=i
 ·simp [hji]
 cases hl:listed.getD j true with
 | true=>simp
 | false =>
  have hm:mask.testBit j=false:=by rw [← h.get_true hj]; exact hl
  have hnot:¬ (bitsOf ((List.range ops.size).filter fun j=>j != i && !(match ops[i]?,ops[j]? with
   | some oi,some oj=>oj.after.any (fun e=>Region.binds .any e && e.on == i) || oi.apart ops oj
   | _,_=>false))).testBit j=true:=fun hc=>by rw [hs j hc] at hm; cases hm
  rw [bitsOf_test,List.contains_iff_mem,List.mem_filter,List.mem_range,Array.getElem?_eq_getElem hi,Array.getElem?_eq_getElem hj] at hnot
  have hji':(j != i)=true:=by simpa using hji
  simp only [hj,true_and,hji',Bool.true_and,Bool.not_eq_true',Bool.not_eq_false] at hnot
  rw [Array.getElem?_eq_getElem hj]
  simp only [Bool.or_false,Bool.or_eq_true]
  right
  simpa using hnot
theorem Rel.set {ops:Array Oper} {listed:Array Bool} {mask i:Nat} (h:Rel ops listed mask) (hi:i < ops.size):Rel ops (listed.setIfInBounds i true) (mask ||| 2 ^ i):=by
 refine ⟨by simpa using h.1,fun j=>?_⟩
 have hs:i < listed.size:=by rw [h.1]; exact hi
 rw [Nat.testBit_or,Nat.testBit_two_pow,← h.2 j]
 by_cases hij:i=j
 ·subst hij
  simp [hs]
 ·simp [hij]
theorem Rel.start (ops:Array Oper):Rel ops (Array.replicate ops.size false) 0:=by
 refine ⟨by simp,fun j=>?_⟩
 rw [Nat.zero_testBit]
 simp only [Array.getD_eq_getD_getElem?,Array.getElem?_replicate]
 split <;> rfl
inductive Plan where
 | done
 | take (i:Nat) (p:Plan)
 | all (p:Plan)
 | alt (i:Nat) (p r:Plan)
 | stop
def freeW (P:Program) (N:Nat) (ops:Array Oper) (i:Nat) (h:Hint) (G:GEnv) (fr:Fr):Bool :=
 match ops[i]? with
 | some o=>match chainOf ops G o with
  | some []=>freeOp P N G h fr o
  | _=>false
 | none=>false
def blkF (needs:List Nat) (mask i:Nat):List Nat→Nat→Nat
 | [],B=>B
 | j :: r,B=>blkF needs mask i r (if !mask.testBit j && ((needs.getD j 0).testBit i || (needs.getD j 0 &&& B != 0)) then B ||| 2 ^ j else B)
def awaited (needs:List Nat) (st mask i:Nat):Bool :=
 let B:=blkF needs mask i (List.range needs.length) 0
 (List.range needs.length).all fun j=>st.testBit j || mask.testBit j || B.testBit j
inductive Blk (ops:Array Oper) (listed:Array Bool) (i:Nat):Nat→Prop
 | one {j:Nat} {oj:Oper} {e:Edge} (hj:ops[j]? = some oj) (he:e∈oj.after) (hb:Region.binds .any e=true) (hon:e.on=i):Blk ops listed i j
 | step {j:Nat} {oj:Oper} {e:Edge} (hj:ops[j]? = some oj) (he:e∈oj.after) (hb:Region.binds .any e=true) (hun:listed.getD e.on true=false) (h:Blk ops listed i e.on):Blk ops listed i j
def stepA (P:Program) (N:Nat) (ops:Array Oper) (st i:Nat) (h:Hint) (G:GEnv) (fr:Fr):Option (GEnv×Fr×Prop) :=
 if st.testBit i then stepP P N ops i h G fr else step1 P N ops i h G fr
def runX (P:Program) (N:Nat) (ops:Array Oper) (tb:List Nat×List Nat) (st:Nat) (hs:List (Nat×Hint)) (fin:Fr→Option Fr):Plan→Bool→Nat→Nat→GEnv→Fr→Option (List Nat×List Fr×List Prop)
 | .done,true,_,mask,_,fr=>if (readyM tb.1 mask).isEmpty then (fin fr).map fun f=>([],[f],[]) else none
 | .take i p,true,fuel+1,mask,G,fr=>if st.testBit i && freeM tb.2 mask i && (readyM tb.1 mask).contains i && (freeW P N ops i (hintAt hs i) G fr || awaited tb.1 st mask i) then
   match stepP P N ops i (hintAt hs i) G fr with
   | some (G1,fr1,obl)=>match runX P N ops tb st hs fin p true fuel (mask ||| 2 ^ i) G1 fr1 with
    | some (_,f,l)=>some ([],f,obl :: l)
    | none=>none
   | none=>none
  else none
 | .all p,true,fuel+1,mask,G,fr=>match runX P N ops tb st hs fin p false fuel mask G fr with
  | some (is,f,l)=>if readyM tb.1 mask == is && !is.isEmpty then some ([],f,l) else none
  | none=>none
 | .alt i p r,false,fuel,mask,G,fr=>match stepA P N ops st i (hintAt hs i) G fr with
  | some (G1,fr1,obl)=>match runX P N ops tb st hs fin p true fuel (mask ||| 2 ^ i) G1 fr1 with
   | some (_,f,l)=>match runX P N ops tb st hs fin r false fuel mask G fr with
    | some (is,f',l')=>some (i :: is,f++f',obl :: (l++l'))
    | none=>none
   | none=>none
  | none=>none
 | .stop,false,_,_,_,_=>some ([],[],[])
 | _,_,_,_,_,_=>none
def finX (keep:List Nat) (cs:List Co) (f:Fr):Option Fr:=match coStep (.keep keep) f with
 | some f'=>coAll cs f'
 | none=>none
section
variable {P:Program} {e:Env} {G:GEnv} {S:Nat→Prop} {β:Path→Value} {fr:Fr} {w:World} {a:Act} {N:Nat}
theorem run_value {s:Sem Value} {u:Value} (h:s.run P w=.ok u w):(do pure (Next.value (← s)):Sem Next).run P w=.ok (.value u) w:=by
 simp [h]
theorem value_run {s:Sem Value} {u r:Value} (h:(do pure (Next.value (← s)):Sem Next).run P w=.ok (.value u) w) (h':s.run P w=.ok r w):u=r:=by
 simp [h'] at h
 exact h.symm
theorem hx0' {N:Nat} {fr:Fr} {x:Operand} {r:List Operand} (h:∀ y∈x :: r,(oval N [] fr y).rigid=true) {j:Nat} {y:AV} (hy:(r.map (oval N [] fr))[j]? = some y):y.rigid=true:=by
 rw [List.getElem?_map,Option.map_eq_some_iff] at hy
 obtain ⟨z,hz,rfl⟩:=hy
 exact h z (List.mem_cons_of_mem _ (List.mem_of_getElem? hz))
theorem free_indep (hN:a.tmps.size=N) (hm:Mem e G S β fr (valsOf e a) w) {hint:Hint} {o:Oper} (hf:freeOp P N G hint fr o=true) (ho:∀ r,opR P hint (oval N [] fr) fr o=some r→(∃ x,o.op=.move x∨o.op=.assign x)∨r.2) {u:Value} (hu:(execOp a.eval o).run P w=.ok (.value u) w) (w':World) :
  (execOp a.eval o).run P w'=.ok (.value u) w':=by
 obtain ⟨dst,op,type,pos,after,guard⟩:=o
 have hval:=fun x=>oval_ok hm hN [] rfl x
 unfold freeOp at hf
 simp only at hf
 split at hf
 ·rename_i x
  have h1:(execOp a.eval ⟨dst,.move x,type,pos,after,guard⟩).run P w=.ok (.value (a.eval x)) w:=rfl
  rw [h1] at hu
  cases hu
  rfl
 ·rename_i x
  have h1:(execOp a.eval ⟨dst,.assign x,type,pos,after,guard⟩).run P w=.ok (.value (a.eval x)) w:=rfl
  rw [h1] at hu
  cases hu
  rfl
 ·rename_i op t x y z
  simp only [Bool.and_eq_true] at hf
  obtain ⟨⟨hx,hy⟩,hz⟩:=hf
  split at hz
  case h_2=>cases hz
  rename_i r hr
  have hob:r.2:=by
   rcases ho r hr with ⟨q,hq⟩ | h
   ·rcases hq with hq | hq <;> cases hq
   ·exact h
  unfold opR at hr
  simp only at hr
  split at hr
  case h_4=>cases hr
  case h_3 =>
   rename_i hA _
   rw [hA] at hx
   cases hx
  case h_2 =>
   rename_i hA _
   rw [hA] at hx
   cases hx
  rename_i A B hA hB
  have h1:=hval x
  have h2:=hval y
  rw [hA] at h1 hx
  rw [hB] at h2 hy
  split at hr
  ·rename_i z ob hzz
   simp only [Option.some.injEq] at hr
   subst hr
   obtain ⟨r1,hr1,hr2⟩:=binD_run P (S:=S) w op t x y A B z ob hzz hob _ _ h1 h2
   obtain ⟨r2,hr3,hr4⟩:=binD_run P (S:=S) w' op t x y A B z ob hzz hob _ _ (rigid_move hx h1) (rigid_move hy h2)
   have:=rigid_unique hz hr2 hr4
   subst this
   have:u=r1:=value_run hu hr1
   subst this
   exact run_value hr3
  ·split at hr
   case isFalse =>
    simp only [Option.map_eq_some_iff] at hr
    obtain ⟨b,hb,rfl⟩:=hr
    have hr1:=ifCmp_ok (X:=x) (w:=w) hb h1 h2
    have hr3:=ifCmp_ok (X:=x) (w:=w') hb (rigid_move (w':=w') (S':=S) hx h1) (rigid_move (w':=w') (S':=S) hy h2)
    have:u=.bool b:=value_run hu hr1
    subst this
    exact run_value hr3
   rename_i ht
   simp only [Option.map_eq_some_iff] at hr
   obtain ⟨z,hzz,rfl⟩:=hr
   have htt:P.underlying t=some .bool:=by
    unfold isBoolT at ht
    split at ht
    ·assumption
    ·cases ht
   obtain ⟨r1,hr1,hr2⟩:=boolD_run P (S:=S) w op t x y A B z htt hzz _ _ h1 h2
   obtain ⟨r2,hr3,hr4⟩:=boolD_run P (S:=S) w' op t x y A B z htt hzz _ _ (rigid_move hx h1) (rigid_move hy h2)
   have:=rigid_unique hz hr2 hr4
   subst this
   have:u=r1:=value_run hu hr1
   subst this
   exact run_value hr3
 ·rename_i op t x
  simp only [Bool.and_eq_true] at hf
  obtain ⟨hx,hz⟩:=hf
  split at hz
  case h_2=>cases hz
  rename_i r hr
  unfold opR at hr
  simp only at hr
  split at hr
  case h_2=>cases hr
  rename_i A hA
  have h1:=hval x
  rw [hA] at h1 hx
  simp only [Option.map_eq_some_iff] at hr
  obtain ⟨z,hzz,rfl⟩:=hr
  obtain ⟨r1,hr1,hr2⟩:=unD_run P (S:=S) w op A z hzz _ h1
  obtain ⟨r2,hr3,hr4⟩:=unD_run P (S:=S) w' op A z hzz _ (rigid_move hx h1)
  have:=rigid_unique hz hr2 hr4
  subst this
  have:u=r1:=value_run hu hr1
  subst this
  exact run_value hr3
 ·rename_i s x f
  simp only [Bool.and_eq_true] at hf
  obtain ⟨hx,hz⟩:=hf
  split at hz
  case h_2=>cases hz
  rename_i r hr
  unfold opR at hr
  simp only [Option.map_eq_some_iff] at hr
  obtain ⟨z,hzz,rfl⟩:=hr
  obtain ⟨r1,hr1,hr2,_⟩:=fieldAddrR_ok (P:=P) hzz (hval x)
  obtain ⟨r2,hr3,hr4,_⟩:=fieldAddrR_ok (P:=P) (w:=w') hzz (rigidA_move hx (hval x))
  have:=rigidA_unique hz hr2 hr4
  subst this
  have:u=r1:=value_run hu hr1
  subst this
  exact run_value hr3
 ·rename_i x
  simp only [Bool.and_eq_true] at hf
  obtain ⟨hx,hz⟩:=hf
  split at hz
  case h_2=>cases hz
  rename_i r hr
  have h1:=hval x
  unfold opR at hr
  simp only at hr
  split at hr
  ·rename_i y off hxx
   rw [hxx] at h1
   obtain ⟨b,_,hb⟩:=h1
   have key:∀ w,(execOp a.eval ⟨dst,.nilCheck x,type,pos,after,guard⟩).run P w=.ok (.value (a.eval x)) w:=by
    intro w
    simp only [execOp,hb]
    rfl
   rw [key] at hu
   cases hu
   exact key w'
  ·rename_i p sz i off hxx
   rw [hxx] at h1
   obtain ⟨b,_,_,hb⟩:=h1
   have key:∀ w,(execOp a.eval ⟨dst,.nilCheck x,type,pos,after,guard⟩).run P w=.ok (.value (a.eval x)) w:=by
    intro w
    simp only [execOp,hb]
    rfl
   rw [key] at hu
   cases hu
   exact key w'
  ·rename_i cs hxx
   rw [hxx] at hx
   cases hx
  ·rename_i p hxx
   rw [hxx] at hx
   cases hx
  ·cases hr
 ·rename_i t x ix
  simp only [Bool.and_eq_true] at hf
  obtain ⟨⟨hx,hix⟩,hz⟩:=hf
  split at hx
  case h_2=>cases hx
  rename_i p hxp
  split at hz
  case h_2=>cases hz
  rename_i r hr
  have hob:r.2:=by
   rcases ho r hr with ⟨q,hq⟩ | h
   ·rcases hq with hq | hq <;> cases hq
   ·exact h
  unfold opR at hr
  simp only at hr
  have h1:=hval x
  have h2:=hval ix
  rw [hxp] at hr h1
  unfold indexAddrR at hr
  split at hr
  ·rename_i k i m size hiv hes
   rw [hiv] at h2
   have hyy:a.eval ix=.int k i:=h2.1
   unfold elemSize at hes
   split at hes
   ·rename_i E hu'
    simp only [Option.map_eq_some_iff,Prod.mk.injEq] at hes
    obtain ⟨ti,hti,_,_,rfl⟩:=hes
    simp only at hr
    split at hx
    case h_3=>cases hx
    case h_2=>rename_i hp; simp only [hp] at hr; cases hr
    rename_i sz es hp
    simp only [hp] at hr
    split at hr
    case isFalse=>cases hr
    rename_i hsz
    subst hsz
    simp only [Option.some.injEq] at hr
    subst hr
    have huu:a.eval x=β p:=h1
    have hown:=pget_own hm hp
    rcases hown with ⟨_,rfl⟩ | ⟨b,o,c,arr,E',fz,h5,_⟩
    ·obtain ⟨h3,h4⟩:=hob
     simp at h4
     omega
    ·have key:∀ w,(execOp a.eval ⟨dst,.indexAddr t x ix,type,pos,after,guard⟩).run P w=.ok (.value (.pointer (some ⟨b,o+i.toNat * ti.size,none⟩))) w:=by
      intro w
      simp only [execOp]
      rw [huu,h5,hyy]
      exact run_value (run_indexAt_sl hu' hti b o es.length c k i hob.1 hob.2)
     rw [key] at hu
     cases hu
     exact key w'
   ·simp only [Option.map_eq_some_iff,Prod.mk.injEq] at hes
    obtain ⟨_,_,h,_⟩:=hes
    cases h
   ·cases hes
  ·rename_i k i n size hiv hes
   rw [hiv] at h2
   have hyy:a.eval ix=.int k i:=h2.1
   unfold elemSize at hes
   split at hes
   ·simp only [Option.map_eq_some_iff,Prod.mk.injEq] at hes
    obtain ⟨_,_,h,_⟩:=hes
    cases h
   ·rename_i n' E hu'
    simp only [Option.map_eq_some_iff,Prod.mk.injEq] at hes
    obtain ⟨ti,hti,_,rfl,rfl⟩:=hes
    simp only at hr
    split at hx
    case h_3=>cases hx
    case h_1=>rename_i hp; simp only [hp] at hr; cases hr
    rename_i sz es hp
    simp only [hp] at hr
    split at hr
    case isFalse=>cases hr
    rename_i hsz
    subst hsz
    simp only [Option.some.injEq] at hr
    subst hr
    have huu:a.eval x=β p:=h1
    obtain ⟨b,arr,h5,_⟩:=pget_arr hm hp
    have hal:P.arrayLen t=n':=by simp [Program.arrayLen,hu']
    have hel:P.elem t=E:=by simp [Program.elem,hu']
    have key:∀ w,(execOp a.eval ⟨dst,.indexAddr t x ix,type,pos,after,guard⟩).run P w=.ok (.value (.pointer (some ⟨b,0+i.toNat * ti.size,none⟩))) w:=by
     intro w
     simp only [execOp]
     rw [huu,h5,hyy]
     refine run_value ?_
     rw [run_indexAt_array w t ⟨b,0,none⟩ k i (by rw [hal,hel]; exact hu'),hal,if_pos hob,hel]
     simp [sizeOf,typeInfo,hti,addr_add]
    rw [key] at hu
    cases hu
    exact key w'
   ·cases hes
  ·cases hr
 ·rename_i x r ts
  simp only [Bool.and_eq_true] at hf
  obtain ⟨hx,hz⟩:=hf
  split at hz
  case h_2=>cases hz
  rename_i q hr
  unfold opR at hr
  simp only [Option.map_eq_some_iff] at hr
  obtain ⟨z,hzz,rfl⟩:=hr
  have hx0:=List.all_eq_true.1 hx
  obtain ⟨v1,hr1,hr2,_⟩:=maxR_ok (P:=P) _ _ _ _ _ hzz (hval x) (all2_map hval r 0)
  obtain ⟨v2,hr3,hr4,_⟩:=maxR_ok (P:=P) (w:=w') _ _ _ _ _ hzz (rigidA_move (hx0 x (List.mem_cons_self ..)) (hval x)) (All2.mono (all2_map hval r 0) fun j y c hy _ hrr=>rigidA_move (hx0' hx0 hy) hrr)
  have:=rigidA_unique hz hr2 hr4
  subst this
  have key:∀ w,((r.map a.eval).foldlM (if false=true then Builtin.min2 else Builtin.max2) (a.eval x)).run P w=.ok v1 w→(execOp a.eval ⟨dst,.call { callee:=.builtin .max,args:=⟨x :: r⟩,argTypes:=ts },type,pos,after,guard⟩).run P w=.ok (.value v1) w:=by
   intro w hv
   simp only [execOp,resolve,invoke,builtin,Sem.run_bind,Sem.run_pure,Result.andThen_ok,Builtin.max_,List.map_toArray,List.map_cons]
   simp only [Bool.false_eq_true,if_false] at hv
   rw [hv]
   rfl
  rw [key w hr1] at hu
  cases hu
  exact key w' hr3
 ·rename_i x r ts
  simp only [Bool.and_eq_true] at hf
  obtain ⟨hx,hz⟩:=hf
  split at hz
  case h_2=>cases hz
  rename_i q hr
  unfold opR at hr
  simp only [Option.map_eq_some_iff] at hr
  obtain ⟨z,hzz,rfl⟩:=hr
  have hx0:=List.all_eq_true.1 hx
  obtain ⟨v1,hr1,hr2,_⟩:=maxR_ok (P:=P) _ _ _ _ _ hzz (hval x) (all2_map hval r 0)
  obtain ⟨v2,hr3,hr4,_⟩:=maxR_ok (P:=P) (w:=w') _ _ _ _ _ hzz (rigidA_move (hx0 x (List.mem_cons_self ..)) (hval x)) (All2.mono (all2_map hval r 0) fun j y c hy _ hrr=>rigidA_move (hx0' hx0 hy) hrr)
  have:=rigidA_unique hz hr2 hr4
  subst this
  have key:∀ w,((r.map a.eval).foldlM (if true=true then Builtin.min2 else Builtin.max2) (a.eval x)).run P w=.ok v1 w→(execOp a.eval ⟨dst,.call { callee:=.builtin .min,args:=⟨x :: r⟩,argTypes:=ts },type,pos,after,guard⟩).run P w=.ok (.value v1) w:=by
   intro w hv
   simp only [execOp,resolve,invoke,builtin,Sem.run_bind,Sem.run_pure,Result.andThen_ok,Builtin.min_,List.map_toArray,List.map_cons]
   simp only [if_true] at hv
   rw [hv]
   rfl
  rw [key w hr1] at hu
  cases hu
  exact key w' hr3
 ·cases hf
theorem stepW_ok {ops:Array Oper} {i:Nat} {h:Hint} {G':GEnv} {fr':Fr} {obl:Prop} (hs:stepW P N ops i h G fr=some (G',fr',obl)) (ho:obl) (hm:MemG e G N fr a w) :
  ∃ o u,ops[i]? = some o∧YieldsIf P ops (fun _=>True) o u a∧MemG e G' N fr' (a.put o.dst u) w:=by
 unfold stepW at hs
 split at hs
 case h_2=>cases hs
 rename_i o hoi
 split at hs
 case h_2=>cases hs
 rename_i hch
 split at hs
 case isFalse=>cases hs
 rename_i hf
 obtain ⟨o',u,h1,h2,h3⟩:=stepP_ok hs ho hm
 rw [hoi] at h1
 cases h1
 refine ⟨o,u,hoi,?_,h3⟩
 rcases h2 with ⟨hw,hr⟩ | h2
 ·refine .inl ⟨hw,fun w' _=>?_⟩
  obtain ⟨hd,hN,hI,S,β,hmm⟩:=hm
  refine free_indep hN hmm hf (fun r hr'=>?_) (hr w rfl) w'
  unfold stepP at hs
  rw [hoi] at hs
  simp only at hs
  split at hs
  case isFalse=>cases hs
  rw [hch] at hs
  split at hs
  ·rename_i t hc ht
   split at hs
   ·rename_i fr1 hE
    left
    unfold opP at hE
    split at hE
    ·rename_i hop; exact ⟨_,.inr hop⟩
    ·rename_i hop; exact ⟨_,.inl hop⟩
    ·rename_i hop; exact ⟨_,.inr hop⟩
    ·cases hE
   ·split at hs
    case h_2=>cases hs
    rename_i r1 hR
    split at hs
    case isFalse=>cases hs
    simp only [Option.some.injEq,Prod.mk.injEq] at hs
    obtain ⟨_,_,rfl⟩:=hs
    unfold opR' at hR
    split at hR
    ·rename_i hop
     unfold freeOp at hf
     rw [hop] at hf
     cases hf
    ·rename_i hop
     unfold freeOp at hf
     rw [hop] at hf
     cases hf
    ·rw [hr'] at hR
     cases hR
     right
     unfold rwA at ho
     split at ho
     ·exact ho.1
     ·exact ho
  ·rename_i hc _
   cases hc
  ·cases hs
 ·exact .inr h2
theorem stepM_ok {ops:Array Oper} {i:Nat} {h:Hint} {G':GEnv} {fr':Fr} {obl:Prop} (hs:stepP P N ops i h G fr=some (G',fr',obl)) (ho:obl) (hm:MemG e G N fr a w) :
  ∃ o u,ops[i]? = some o∧YieldsIf P ops (fun w'=>freeW P N ops i h G fr=true∨w'=w) o u a∧MemG e G' N fr' (a.put o.dst u) w:=by
 cases hb:freeW P N ops i h G fr with
 | true =>
  have hw:stepW P N ops i h G fr=some (G',fr',obl):=by
   unfold freeW at hb
   unfold stepW
   split at hb
   case h_2=>cases hb
   rename_i o hoi
   split at hb
   case h_2=>cases hb
   rename_i hch
   simp only [hb,if_true]
   exact hs
  obtain ⟨o,u,h1,h2,h3⟩:=stepW_ok hw ho hm
  refine ⟨o,u,h1,?_,h3⟩
  rcases h2 with ⟨h4,h5⟩ | h2
  ·exact .inl ⟨h4,fun w' _=>h5 w' trivial⟩
  ·exact .inr h2
 | false =>
  obtain ⟨o,u,h1,h2,h3⟩:=stepP_ok hs ho hm
  refine ⟨o,u,h1,?_,h3⟩
  rcases h2 with ⟨h4,h5⟩ | h2
  ·exact .inl ⟨h4,fun w' hw'=>h5 w' (hw'.resolve_left (by simp))⟩
  ·exact .inr h2
def wpAnyM (P:Program) (ops:Array Oper) (Q:Exit→Act→World→Prop) (st:Nat):Nat→Array Bool→Act→World→Prop
 | 0,listed,a,w=>Region.ready .any ops listed=[]∧Q .normal a w
 | fuel+1,listed,a,w=>(Region.ready .any ops listed=[]→Q .normal a w) ∧
  ∀ i∈Region.ready .any ops listed,wpOp P ops Q i (fun a' w'=>(st.testBit i=true→w'=w)∧wpAnyM P ops Q st fuel (listed.setIfInBounds i true) a' w') a w
theorem wpAny_of_M {ops:Array Oper} {Q:Exit→Act→World→Prop} {st:Nat}:∀ (fuel:Nat) (listed:Array Bool) (a:Act) (w:World),wpAnyM P ops Q st fuel listed a w→wpAny P .any ops Q fuel listed a w
 | 0,_,_,_,h=>h
 | fuel+1,_,_,_,h=>⟨h.1,fun i hi=>wpOp_mono (fun a' w' h'=>wpAny_of_M fuel _ a' w' h'.2) (h.2 i hi)⟩
theorem Blk.set {ops:Array Oper} {listed:Array Bool} {i j k:Nat} (hnb:¬ Blk ops listed i j) (h:Blk ops listed i k):Blk ops (listed.setIfInBounds j true) i k:=by
 induction h with
 | one hj he hb hon=>exact .one hj he hb hon
 | step hj he hb hun h ih =>
  refine .step hj he hb ?_ ih
  have hne:j≠_:=fun e=>hnb (e ▸ h)
  rw [getD_set_ne true hne]
  exact hun
theorem takeM {ops:Array Oper} {Q:Exit→Act→World→Prop} {st i:Nat} {oi:Oper} {v:Value} {b:Bool} (hi:ops[i]? = some oi)
  (hsel:Region.noSelect ops=true) (hQp:∀ (c:List PanicEntry) (a:Act) (w:World) (d:Option Nat) (u:Value),Q (.panic c) (a.put d u) w→Q (.panic c) a w) :
  ∀ (fuel:Nat) (listed:Array Bool) (a:Act) (w:World),(b=false→∀ j oj,ops[j]? = some oj→st.testBit j=false→listed.getD j true=false→Blk ops listed i j)→(∀ j oj,ops[j]? = some oj→j≠i→listed.getD j true=false→(∀ e∈oj.after,Region.binds .any e=true→e.on≠i)→oi.apart ops oj=true)→i∈Region.ready .any ops listed→YieldsIf P ops (fun w'=>b=true∨w'=w) oi v a →
   wpAnyM P ops Q st fuel (listed.setIfInBounds i true) (a.put oi.dst v) w→wpAnyM P ops Q st (fuel+1) listed a w:=by
 intro fuel
 induction fuel with
 | zero =>
  intro listed a w _ _ hr hy H
  refine ⟨fun h=>(by rw [h] at hr; cases hr),fun j hj=>?_⟩
  by_cases hji:j=i
  ·subst hji
   exact hy.wpOp hi (.inr rfl) ⟨fun _=>rfl,H⟩
  ·have:=ready_mono hj hji
   rw [H.1] at this
   cases this
 | succ fuel ih =>
  intro listed a w hw hfree hr hy H
  refine ⟨fun h=>(by rw [h] at hr; cases hr),fun j hj=>?_⟩
  by_cases hji:j=i
  ·subst hji
   exact hy.wpOp hi (.inr rfl) ⟨fun _=>rfl,H⟩
  ·obtain ⟨hjun,oj,hoj,hall⟩:=mem_ready.1 hj
   have hnot:∀ e∈oj.after,Region.binds .any e=true→e.on≠i:=fun e he hb heq=>by
    have h1:=hall e he hb
    rw [heq] at h1
    exact unlisted (mem_ready.1 hr).1 h1
   have hnb:¬ Blk ops listed i j:=by
    intro hb
    cases hb with
    | one hj' he hb hon =>
     rw [hoj] at hj'
     cases hj'
     exact hnot _ he hb hon
    | step hj' he hb hun _ =>
     rw [hoj] at hj'
     cases hj'
     exact unlisted hun (hall _ he hb)
   have h2:=wpOp_putIf hoj (hfree j oj hoj hji hjun hnot) (fun cs b=>Region.noSelect_spec hsel i oi cs b hi) (fun cs b=>Region.noSelect_spec hsel j oj cs b hoj) (fun c a w h=>hQp c a w _ _ h) hy (H.2 j (ready_mono hj hji))
   refine wpOp_mono (fun a' w' h3=>?_) h2
   obtain ⟨h4,h5,h6⟩:=h3
   refine ⟨h5,ih (listed.setIfInBounds j true) a' w' (fun hb k ok hk hs hun=>(hw hb k ok hk hs ?_).set hnb) (fun k ok hk hki hun hno=>?_) (ready_mono hr (Ne.symm hji)) ?_ ?_⟩
   ·by_cases hjk:j=k
    ·subst hjk; exact hjun
    ·rw [getD_set_ne true hjk] at hun; exact hun
   ·refine hfree k ok hk hki ?_ hno
    by_cases hjk:j=k
    ·subst hjk; exact hjun
    ·rw [getD_set_ne true hjk] at hun; exact hun
   ·cases b with
    | true =>
     rcases h4 with ⟨h7,h8⟩ | h4
     ·exact .inl ⟨h7,fun w'' _=>h8 w'' (.inl rfl)⟩
     ·exact .inr h4
    | false =>
     have hst:st.testBit j=true:=by
      cases hs:st.testBit j with
      | true=>rfl
      | false =>
       exact absurd (hw rfl j oj hoj hs hjun) hnb
     have:=h5 hst
     subst this
     exact h4
   ·rw [Array.setIfInBounds_comm _ _ hji]
    exact h6
theorem allP_split:∀ {a b:List Prop},AllP (a++b)→AllP a∧AllP b
 | [],_,h=>⟨trivial,h⟩
 | _ :: _,_,h=>⟨⟨h.1,(allP_split h.2).1⟩,(allP_split h.2).2⟩
theorem blkF_ok {ops:Array Oper} {mask i:Nat} {listed:Array Bool} (hrel:Rel ops listed mask):∀ (l:List Nat) (B:Nat),(∀ j∈l,j < ops.size)→(∀ j,B.testBit j=true→j < ops.size∧mask.testBit j=false∧Blk ops listed i j)→∀ j,(blkF (needsOf ops) mask i l B).testBit j=true→j < ops.size∧mask.testBit j=false∧Blk ops listed i j
 | [],B,_,h,j,hj=>h j hj
 | k :: r,B,hl,h,j,hj=>by
  refine blkF_ok hrel r _ (fun q hq=>hl q (by simp [hq])) (fun q hq=>?_) j hj
  split at hq
  case isFalse=>exact h q hq
  rename_i hc
  simp only [Bool.and_eq_true,Bool.not_eq_true',Bool.or_eq_true,bne_iff_ne,ne_eq] at hc
  rw [Nat.testBit_or,Nat.testBit_two_pow,Bool.or_eq_true,decide_eq_true_eq] at hq
  rcases hq with hq | rfl
  ·exact h q hq
  have hlt:=hl k (by simp)
  refine ⟨hlt,hc.1,?_⟩
  have hk:ops[k]? = some ops[k]:=Array.getElem?_eq_getElem hlt
  have hn:(needsOf ops).getD k 0=bitsOf ((ops[k].after.toList.filter (Region.binds .any ·)).map (·.on)):=by
   rw [List.getD_eq_getElem?_getD]
   simp [needsOf,hk]
  have hedge:∀ t,((needsOf ops).getD k 0).testBit t=true→∃ e∈ops[k].after,Region.binds .any e=true∧e.on=t:=by
   intro t ht
   rw [hn,bitsOf_test,List.contains_iff_mem,List.mem_map] at ht
   obtain ⟨e,he,hon⟩:=ht
   obtain ⟨h1,h2⟩:=List.mem_filter.1 he
   exact ⟨e,Array.mem_toList_iff.1 h1,h2,hon⟩
  rcases hc.2 with h1 | h1
  ·obtain ⟨e,he,hb,hon⟩:=hedge i h1
   exact .one hk he hb hon
  ·obtain ⟨t,ht⟩:=Nat.exists_testBit_of_ne_zero h1
   rw [Nat.testBit_and,Bool.and_eq_true] at ht
   obtain ⟨e,he,hb,hon⟩:=hedge t ht.1
   obtain ⟨g1,g2,g3⟩:=h t ht.2
   refine .step hk he hb ?_ (by rw [hon]; exact g3)
   rw [hon,hrel.get_true g1]
   exact g2
theorem awaited_ok {ops:Array Oper} {st mask i:Nat} {listed:Array Bool} (hrel:Rel ops listed mask) (h:awaited (needsOf ops) st mask i=true) {j:Nat} {oj:Oper} (hj:ops[j]? = some oj) (hs:st.testBit j=false) (hun:listed.getD j true=false):Blk ops listed i j:=by
 have hlt:j < ops.size:=(Array.getElem?_eq_some_iff.1 hj).1
 have hnl:(needsOf ops).length=ops.size:=by simp [needsOf]
 unfold awaited at h
 have:=(List.all_eq_true.1 h) j (List.mem_range.2 (by rw [hnl]; exact hlt))
 rw [hrel.get_true hlt] at hun
 rw [hs,hun,Bool.false_or,Bool.false_or] at this
 exact (blkF_ok hrel _ 0 (fun q hq=>by rw [hnl] at hq; exact List.mem_range.1 hq) (fun q hq=>by simp at hq) j this).2.2
theorem stepA_ok {ops:Array Oper} {st i:Nat} {h:Hint} {G':GEnv} {fr':Fr} {obl:Prop} (hs:stepA P N ops st i h G fr=some (G',fr',obl)) (ho:obl) (hm:MemG e G N fr a w) {K:Act→World→Prop} {Q:Exit→Act→World→Prop}
  (hK:∀ a' w',MemG e G' N fr' a' w'→K a' w'):wpOp P ops Q i (fun a' w'=>(st.testBit i=true→w'=w)∧K a' w') a w:=by
 unfold stepA at hs
 split at hs
 ·obtain ⟨o,u,ho1,hy,hm'⟩:=stepM_ok hs ho hm
  exact hy.wpOp ho1 (.inr rfl) ⟨fun _=>rfl,hK _ _ hm'⟩
 ·rename_i hns
  obtain ⟨o,ho1,hwt,hnw⟩:=step1_ok (K:=fun a' w'=>(st.testBit i=true→w'=w)∧K a' w') (Q:=Q) hs ho hm fun a' w' hm'=>⟨fun h=>absurd h hns,hK a' w' hm'⟩
  unfold wpOp
  simp only [ho1]
  by_cases hwant:Region.wanted o (yielded ops a.tmps)=true
  ·rw [if_pos hwant]
   exact .inl (hwt hwant)
  ·rw [if_neg hwant]
   exact ⟨fun h=>absurd h hns,(hnw (by simpa using hwant)).2⟩
theorem runX_ok {ops:Array Oper} {tb:List Nat×List Nat} (htb:tb=(needsOf ops,conflOf ops)) {st:Nat} {hs:List (Nat×Hint)} {keep:List Nat} {cs:List Co} (hsel:Region.noSelect ops=true) {Q:Exit→Act→World→Prop} (hQp:∀ c a w,¬ Q (.panic c) a w) {fr':Fr} (hQ:∀ a' w',MemA e [] N fr' a' w'→Q .normal a' w'):∀ (p:Plan) (b:Bool) (fuel:Nat) (listed:Array Bool) (mask:Nat) (G:GEnv) (fr:Fr) (is:List Nat) (frs:List Fr) (obs:List Prop) (a:Act) (w:World),Rel ops listed mask→runX P N ops tb st hs (finX keep cs) p b fuel mask G fr=some (is,frs,obs)→(∀ f∈frs,f=fr')→AllP obs→MemG e G N fr a w →
  (b=true→wpAnyM P ops Q st fuel listed a w)∧(b=false→∀ i∈is,i < ops.size→wpOp P ops Q i (fun a' w'=>(st.testBit i=true→w'=w)∧wpAnyM P ops Q st fuel (listed.setIfInBounds i true) a' w') a w):=by
 subst htb
 intro p
 induction p with
 | done =>
  intro b fuel listed mask G fr is frs obs a w hrel h hf _ hm
  cases b with
  | false=>simp [runX] at h
  | true =>
   simp only [runX] at h
   split at h
   case isFalse=>cases h
   rename_i hr
   simp only [Option.map_eq_some_iff,Prod.mk.injEq] at h
   obtain ⟨f,hfin,_,rfl,_⟩:=h
   have:=hf f (List.mem_singleton.2 rfl)
   subst this
   have hq:Q .normal a w:=by
    refine hQ a w ?_
    unfold finX at hfin
    split at hfin
    case h_2=>cases hfin
    rename_i f' hk
    obtain ⟨g1,g2,_,S',β',hm'⟩:=hm
    obtain ⟨S'',β'',hm''⟩:=coAll_ok cs _ _ S' β' (coKeep hm' hk) hfin
    exact ⟨g1,g2,S'',β'',hm''⟩
   have hr':Region.ready .any ops listed=[]:=by rw [hrel.ready]; simpa using hr
   refine ⟨fun _=>?_,fun h=>by cases h⟩
   cases fuel with
   | zero=>exact ⟨hr',hq⟩
   | succ fuel=>exact ⟨fun _=>hq,fun i hi=>(by rw [hr'] at hi; cases hi)⟩
 | stop =>
  intro b fuel listed mask G fr is frs obs a w _ h _ _ _
  cases b with
  | true=>simp [runX] at h
  | false =>
   simp only [runX,Option.some.injEq,Prod.mk.injEq] at h
   obtain ⟨rfl,_⟩:=h
   exact ⟨fun h=>(by cases h),fun _ i hi _=>(by cases hi)⟩
 | take i p ih =>
  intro b fuel listed mask G fr is frs obs a w hrel h hf ho hm
  cases b with
  | false=>simp [runX] at h
  | true =>
   cases fuel with
   | zero=>simp [runX] at h
   | succ fuel =>
    simp only [runX] at h
    split at h
    case isFalse=>cases h
    rename_i hc
    simp only [Bool.and_eq_true,Bool.or_eq_true] at hc
    obtain ⟨⟨⟨hst,hfr⟩,hrd⟩,hcase⟩:=hc
    split at h
    case h_2=>cases h
    rename_i G1 fr1 obl hsp
    split at h
    case h_2=>cases h
    rename_i is2 f2 l2 h2
    simp only [Option.some.injEq,Prod.mk.injEq] at h
    obtain ⟨_,rfl,rfl⟩:=h
    obtain ⟨o,u,ho1,hy,hm'⟩:=stepM_ok hsp ho.1 hm
    have hready:i∈Region.ready .any ops listed:=by rw [hrel.ready]; simpa using hrd
    exact ⟨fun _=>takeM (b:=freeW P N ops i (hintAt hs i) G fr) ho1 hsel (fun c a w d v h=>absurd h (hQp c _ w)) fuel listed a w (fun hb j oj hj hs hun=>awaited_ok hrel (hcase.resolve_left (by rw [hb]; simp)) hj hs hun) (Region.free_spec ho1 (hrel.free hfr)) hready hy ((ih true fuel _ _ G1 fr1 is2 f2 l2 _ w (hrel.set (Array.getElem?_eq_some_iff.1 ho1).1) h2 hf ho.2 hm').1 rfl),fun h=>by cases h⟩
 | all p ih =>
  intro b fuel listed mask G fr is frs obs a w hrel h hf ho hm
  cases b with
  | false=>simp [runX] at h
  | true =>
   cases fuel with
   | zero=>simp [runX] at h
   | succ fuel =>
    simp only [runX] at h
    split at h
    case h_2=>cases h
    rename_i is2 f2 l2 h2
    split at h
    case isFalse=>cases h
    rename_i hc
    simp only [Bool.and_eq_true,beq_iff_eq,Bool.not_eq_true',List.isEmpty_eq_false_iff] at hc
    simp only [Option.some.injEq,Prod.mk.injEq] at h
    obtain ⟨_,rfl,rfl⟩:=h
    have hrd:Region.ready .any ops listed=is2:=hrel.ready.trans hc.1
    refine ⟨fun _=>⟨fun h=>absurd (hrd ▸ h) hc.2,fun j hj=>?_⟩,fun h=>by cases h⟩
    have hj2:j∈is2:=by rw [← hrd]; exact hj
    refine (ih false fuel listed mask G fr is2 f2 l2 a w hrel h2 hf ho hm).2 rfl j hj2 ?_
    obtain ⟨_,o,ho,_⟩:=mem_ready.1 hj
    exact (Array.getElem?_eq_some_iff.1 ho).1
 | alt i p r ihp ihr =>
  intro b fuel listed mask G fr is frs obs a w hrel h hf ho hm
  cases b with
  | true=>simp [runX] at h
  | false =>
   simp only [runX] at h
   split at h
   case h_2=>cases h
   rename_i G1 fr1 obl hs1
   split at h
   case h_2=>cases h
   rename_i is2 f2 l2 h2
   split at h
   case h_2=>cases h
   rename_i is3 f3 l3 h3
   simp only [Option.some.injEq,Prod.mk.injEq] at h
   obtain ⟨rfl,rfl,rfl⟩:=h
   refine ⟨fun h=>(by cases h),fun _ j hj hlt=>?_⟩
   have hob:=allP_split ho.2
   rcases List.mem_cons.1 hj with rfl | hj
   ·exact stepA_ok hs1 ho.1 hm fun a' w' hm'=>(ihp true fuel _ _ G1 fr1 is2 f2 l2 a' w' (hrel.set hlt) h2 (fun y hy=>hf y (List.mem_append.2 (.inl hy))) hob.1 hm').1 rfl
   ·exact (ihr false fuel listed mask G fr is3 f3 l3 a w hrel h3 (fun y hy=>hf y (List.mem_append.2 (.inr hy))) hob.2 hm).2 rfl j hj hlt
theorem wp_runX {id:Nat} {ops:Array Oper} {hs:List (Nat×Hint)} {keep:List Nat} {cs:List Co} {fr':Fr} {obs:List Prop} {k:Nat} {Q:Exit→Act→World→Prop} (hmx:P.follows .mixedOrders=true) (hsel:Region.noSelect ops=true) {p:Plan} {tb:List Nat×List Nat} {st:Nat} (htb:(needsOf ops,conflOf ops)=tb) (h:runX P N ops tb st hs (finX keep cs) p true ops.size 0 [] fr=some ([],List.replicate k fr',obs)) (ho:AllP obs) (hm:MemA e [] N fr a w)
  (hQ:∀ a' w',MemA e [] N fr' a' w'→Q .normal a' w'):(Code.region id ops true).wp P Q a w:=by
 refine wp_mono (Q:=fun ex a w=>match ex with | .normal=>Q .normal a w | _=>False) ?_ (fun ex a' w' hq=>by cases ex <;> first | exact hq | exact hq.elim)
 refine wp_region_any hmx (wpAny_of_M (st:=st) _ _ _ _ ?_)
 obtain ⟨h1,h2,S,β,hm⟩:=hm
 exact (runX_ok (e:=e) htb.symm hsel (Q:=fun ex a w=>match ex with | .normal=>Q .normal a w | _=>False) (fun _ _ _ h=>h) hQ p true ops.size _ 0 [] fr [] _ obs a { w with drawn:=w.drawn+1 } (Rel.start ops) h (fun f hf=>(List.mem_replicate.1 hf).2) ho (memG_nil ⟨h1,h2,S,β,hm.drawn _⟩)).1 rfl
variable {Q:Exit→Act→World→Prop}
theorem T_drawX {id:Nat} {ops:Array Oper} (hmx:P.follows .mixedOrders=true) (m:Nat) (p:Plan) (tb:List Nat×List Nat) (st:Nat) (hs:List (Nat×Hint)) (keep:List Nat) (cs:List Co) (fr':Fr) (obs:List (Nat×Prop)) (n:Nat) {k:Code} (hsel:Region.noSelect ops=true) (htb:(needsOf ops,conflOf ops)=tb) (h:runX P N ops tb st hs (finX keep cs) p true ops.size 0 [] fr=some ([],List.replicate m fr',owed obs n)) (ho:Owed obs) (hk:T P e N k fr' Q):T P e N (.seq (.region id ops true) k) fr Q :=
 fun _ _ hm=>wp_seq (wp_runX hmx hsel htb h ho.all hm fun a' w' hm'=>hk a' w' hm')
theorem T_drawX_end {id:Nat} {ops:Array Oper} (hmx:P.follows .mixedOrders=true) (m:Nat) (p:Plan) (tb:List Nat×List Nat) (st:Nat) (hs:List (Nat×Hint)) (keep:List Nat) (cs:List Co) (fr':Fr) (obs:List (Nat×Prop)) (n:Nat) (hsel:Region.noSelect ops=true) (htb:(needsOf ops,conflOf ops)=tb) (h:runX P N ops tb st hs (finX keep cs) p true ops.size 0 [] fr=some ([],List.replicate m fr',owed obs n)) (ho:Owed obs) (hk:∀ a w,MemA e [] N fr' a w→Q .normal a w):T P e N (.region id ops true) fr Q :=
 fun _ _ hm=>wp_runX hmx hsel htb h ho.all hm hk
end
end Go.Vm
namespace Go.Vm
def frM (tbl:List (Nat×Nat×AV)) (keep:List Nat) (mask:Nat):Fr :=
 let f:Fr:=(tbl.filter fun t=>(mask * 2+1).testBit t.1).map (·.2)
 keep.map fun x=>(x,fget f x)
abbrev DNode:=Nat×Nat×Option Nat
def edgeG (P:Program) (N:Nat) (ops:Array Oper) (tb:List Nat×List Nat) (st:Nat) (hs:List (Nat×Hint)) (keep:List Nat) (fr:Fr) (mask i:Nat) (take:Bool):Option (Fr×Prop) :=
 if take then
  if st.testBit i && freeM tb.2 mask i && (readyM tb.1 mask).contains i && (freeW P N ops i (hintAt hs i) [] fr || awaited tb.1 st mask i) then
   match stepP P N ops i (hintAt hs i) [] fr with
   | some (_,fr1,obl)=>(coStep (.keep keep) fr1).map (·,obl)
   | none=>none
  else none
 else match stepA P N ops st i (hintAt hs i) [] fr with
  | some (_,fr1,obl)=>(coStep (.keep keep) fr1).map (·,obl)
  | none=>none
def hasD (rest:List DNode) (fuel mask:Nat):Bool:=rest.any fun n=>n.1+1 == fuel && n.2.1 == mask
def altsG (P:Program) (N:Nat) (ops:Array Oper) (tb:List Nat×List Nat) (st:Nat) (hs:List (Nat×Hint)) (keep:List Nat) (tbl:List (Nat×Nat×AV)) (rest:List DNode) (fuel:Nat) (fr:Fr) (mask:Nat):List Nat→Option (List Fr×List Fr×List Prop)
 | []=>some ([],[],[])
 | i :: r=>match edgeG P N ops tb st hs keep fr mask i false with
  | some (f,o)=>if hasD rest fuel (mask ||| 2 ^ i) then match altsG P N ops tb st hs keep tbl rest fuel fr mask r with
   | some (l1,l2,l)=>some (f :: l1,frM tbl keep (mask ||| 2 ^ i) :: l2,o :: l)
   | none=>none
   else none
  | none=>none
def nodeG (P:Program) (N:Nat) (ops:Array Oper) (tb:List Nat×List Nat) (st:Nat) (hs:List (Nat×Hint)) (keep:List Nat) (tbl:List (Nat×Nat×AV)) (fin:Fr→Option Fr) (fr':Fr) (rest:List DNode):DNode→Option (List Fr×List Fr×List Prop)
  | (fuel,mask,some i)=>match edgeG P N ops tb st hs keep (frM tbl keep mask) mask i true with
    | some (f,o)=>if hasD rest fuel (mask ||| 2 ^ i) then some ([f],[frM tbl keep (mask ||| 2 ^ i)],[o]) else none
    | none=>none
  | (fuel,mask,none)=>if (readyM tb.1 mask).isEmpty then match fin (frM tbl keep mask) with
      | some f=>some ([f],[fr'],[])
      | none=>none
    else if fuel == 0 then none else altsG P N ops tb st hs keep tbl rest fuel (frM tbl keep mask) mask (readyM tb.1 mask)
def runG (P:Program) (N:Nat) (ops:Array Oper) (tb:List Nat×List Nat) (st:Nat) (hs:List (Nat×Hint)) (keep:List Nat) (tbl:List (Nat×Nat×AV)) (fin:Fr→Option Fr) (fr':Fr):List DNode→Option (List Fr×List Fr×List Prop)
 | []=>some ([],[],[])
 | n :: rest=>match nodeG P N ops tb st hs keep tbl fin fr' rest n with
  | some (a1,a2,a)=>match runG P N ops tb st hs keep tbl fin fr' rest with
   | some (l1,l2,l)=>some (a1++l1,a2++l2,a++l)
   | none=>none
  | none=>none
section
variable {P:Program} {e:Env} {S:Nat→Prop} {β:Path→Value} {fr:Fr} {w:World} {a:Act} {N:Nat}
theorem keepG {l:List Nat} {fr':Fr} {G:GEnv} (hm:MemG e G N fr a w) (h:coStep (.keep l) fr=some fr'):MemG e [] N fr' a w:=by
 obtain ⟨h1,h2,_,S,β,h4⟩:=hm
 exact memG_nil ⟨h1,h2,S,β,coKeep h4 h⟩
theorem list_eq_of_app {α:Type}:∀ {a b c d:List α},a.length=b.length→a++c=b++d→a=b∧c=d
 | [],[],_,_,_,h=>⟨rfl,h⟩
 | [],_ :: _,_,_,h,_=>by simp at h
 | _ :: _,[],_,_,h,_=>by simp at h
 | x :: a,y :: b,c,d,hl,h=>by
  simp only [List.cons_append,List.cons.injEq] at h
  obtain ⟨h1,h2⟩:=list_eq_of_app (a:=a) (b:=b) (by simpa using hl) h.2
  exact ⟨by rw [h.1,h1],h2⟩
theorem altsG_len {ops:Array Oper} {tb:List Nat×List Nat} {st:Nat} {hs:List (Nat×Hint)} {keep:List Nat} {tbl:List (Nat×Nat×AV)} {rest:List DNode} {fuel mask:Nat}:∀ (is:List Nat) {l1 l2:List Fr} {l:List Prop},altsG P N ops tb st hs keep tbl rest fuel fr mask is=some (l1,l2,l)→l1.length=l2.length
 | [],l1,l2,l,h=>by
  simp only [altsG,Option.some.injEq,Prod.mk.injEq] at h
  obtain ⟨rfl,rfl,_⟩:=h
  rfl
 | i :: r,l1,l2,l,h=>by
  simp only [altsG] at h
  split at h
  case h_2=>cases h
  split at h
  case isFalse=>cases h
  split at h
  case h_2=>cases h
  rename_i hr
  simp only [Option.some.injEq,Prod.mk.injEq] at h
  obtain ⟨rfl,rfl,_⟩:=h
  simp [altsG_len r hr]
theorem nodeG_len {ops:Array Oper} {tb:List Nat×List Nat} {st:Nat} {hs:List (Nat×Hint)} {keep:List Nat} {tbl:List (Nat×Nat×AV)} {fin:Fr→Option Fr} {fr':Fr} {rest:List DNode} {n:DNode} {l1 l2:List Fr} {l:List Prop} (h:nodeG P N ops tb st hs keep tbl fin fr' rest n=some (l1,l2,l)):l1.length=l2.length:=by
 obtain ⟨fuel,mask,k⟩:=n
 cases k with
 | some i =>
  simp only [nodeG] at h
  split at h
  case h_2=>cases h
  split at h
  case isFalse=>cases h
  simp only [Option.some.injEq,Prod.mk.injEq] at h
  obtain ⟨rfl,rfl,_⟩:=h
  rfl
 | none =>
  simp only [nodeG] at h
  split at h
  ·split at h
   case h_2=>cases h
   simp only [Option.some.injEq,Prod.mk.injEq] at h
   obtain ⟨rfl,rfl,_⟩:=h
   rfl
  ·split at h
   case isTrue=>cases h
   exact altsG_len _ h
theorem hasD_ok {rest:List DNode} {fuel mask:Nat} (h:hasD rest fuel mask=true):∃ n∈rest,n.1+1=fuel∧n.2.1=mask:=by
 unfold hasD at h
 obtain ⟨n,h1,h2⟩:=List.any_eq_true.1 h
 simp only [Bool.and_eq_true,beq_iff_eq] at h2
 exact ⟨n,h1,h2.1,h2.2⟩
def ClaimD (P:Program) (e:Env) (N:Nat) (ops:Array Oper) (Q:Exit→Act→World→Prop) (st:Nat) (keep:List Nat) (tbl:List (Nat×Nat×AV)) (n:DNode):Prop :=
 ∀ (listed:Array Bool) (a:Act) (w:World),Rel ops listed n.2.1→MemG e [] N (frM tbl keep n.2.1) a w→wpAnyM P ops Q st n.1 listed a w
theorem altsG_ok {ops:Array Oper} {tb:List Nat×List Nat} {st:Nat} {hs:List (Nat×Hint)} {keep:List Nat} {tbl:List (Nat×Nat×AV)} {rest:List DNode} {fuel mask:Nat} {Q:Exit→Act→World→Prop}
  (ih:∀ n∈rest,ClaimD P e N ops Q st keep tbl n) {listed:Array Bool} (hrel:Rel ops listed mask) (hm:MemG e [] N fr a w) :
  ∀ (is:List Nat) {l1 l2:List Fr} {l:List Prop},altsG P N ops tb st hs keep tbl rest (fuel+1) fr mask is=some (l1,l2,l)→l1=l2→AllP l →
   ∀ i∈is,i < ops.size→wpOp P ops Q i (fun a' w'=>(st.testBit i=true→w'=w)∧wpAnyM P ops Q st fuel (listed.setIfInBounds i true) a' w') a w
 | [],_,_,_,_,_,_,i,hi,_=>by cases hi
 | j :: r,l1,l2,l,h,he,ho,i,hi,hlt=>by
  simp only [altsG] at h
  split at h
  case h_2=>cases h
  rename_i f o hedge
  split at h
  case isFalse=>cases h
  rename_i hhas
  split at h
  case h_2=>cases h
  rename_i m1 m2 m hr
  simp only [Option.some.injEq,Prod.mk.injEq] at h
  obtain ⟨rfl,rfl,rfl⟩:=h
  simp only [List.cons.injEq] at he
  rcases List.mem_cons.1 hi with rfl | hi'
  ·obtain ⟨n,hn,hnf,hnm⟩:=hasD_ok hhas
   unfold edgeG at hedge
   simp only [Bool.false_eq_true,if_false] at hedge
   split at hedge
   case h_2=>cases hedge
   rename_i G1 fr1 obl hs1
   simp only [Option.map_eq_some_iff,Prod.mk.injEq] at hedge
   obtain ⟨f',hk,rfl,rfl⟩:=hedge
   have hc:=ih n hn
   exact stepA_ok hs1 ho.1 hm fun a' w' hm'=>by
    have h2:=hc (listed.setIfInBounds i true) a' w' (by rw [hnm]; exact hrel.set hlt) (by rw [hnm,← he.1]; exact keepG hm' hk)
    have:n.1=fuel:=by omega
    rw [this] at h2
    exact h2
  ·exact altsG_ok ih hrel hm r hr he.2 ho.2 i hi' hlt
theorem runG_ok {ops:Array Oper} {tb:List Nat×List Nat} (htb:tb=(needsOf ops,conflOf ops)) {st:Nat} {hs:List (Nat×Hint)} {keep0:List Nat} {cs:List Co} {keep:List Nat} {tbl:List (Nat×Nat×AV)} (hsel:Region.noSelect ops=true) {Q:Exit→Act→World→Prop} (hQp:∀ c a w,¬ Q (.panic c) a w) {fr':Fr} (hQ:∀ a' w',MemA e [] N fr' a' w'→Q .normal a' w') :
  ∀ (nodes:List DNode) {l1 l2:List Fr} {l:List Prop},runG P N ops tb st hs keep tbl (finX keep0 cs) fr' nodes=some (l1,l2,l)→l1=l2→AllP l→∀ n∈nodes,ClaimD P e N ops Q st keep tbl n
 | [],_,_,_,_,_,_,n,hn=>by cases hn
 | n0 :: rest,l1,l2,l,h,he,ho,n,hn=>by
  simp only [runG] at h
  split at h
  case h_2=>cases h
  rename_i a1 a2 al hnode
  split at h
  case h_2=>cases h
  rename_i m1 m2 ml hrest
  simp only [Option.some.injEq,Prod.mk.injEq] at h
  obtain ⟨rfl,rfl,rfl⟩:=h
  obtain ⟨ea,em⟩:=list_eq_of_app (nodeG_len hnode) he
  obtain ⟨oa,om⟩:=allP_split ho
  have ih:=runG_ok htb hsel hQp hQ rest hrest em om
  rcases List.mem_cons.1 hn with rfl | hn'
  case inr=>exact ih n hn'
  obtain ⟨fuel,mask,k⟩:=n
  intro listed a w hrel hm
  simp only at hrel hm
  cases k with
  | some i =>
   simp only [nodeG] at hnode
   split at hnode
   case h_2=>cases hnode
   rename_i f o hedge
   split at hnode
   case isFalse=>cases hnode
   rename_i hhas
   simp only [Option.some.injEq,Prod.mk.injEq] at hnode
   obtain ⟨rfl,rfl,rfl⟩:=hnode
   simp only [List.cons.injEq,and_true] at ea
   obtain ⟨n,hnm,hnf,hnk⟩:=hasD_ok hhas
   unfold edgeG at hedge
   simp only [if_true] at hedge
   split at hedge
   case isFalse=>cases hedge
   rename_i hc
   simp only [Bool.and_eq_true,Bool.or_eq_true] at hc
   obtain ⟨⟨⟨hst,hfr⟩,hrd⟩,hcase⟩:=hc
   split at hedge
   case h_2=>cases hedge
   rename_i G1 fr1 obl hsp
   simp only [Option.map_eq_some_iff,Prod.mk.injEq] at hedge
   obtain ⟨f',hk,rfl,rfl⟩:=hedge
   subst htb
   obtain ⟨o,u,ho1,hy,hm'⟩:=stepM_ok hsp oa.1 hm
   have hready:i∈Region.ready .any ops listed:=by rw [hrel.ready]; simpa using hrd
   obtain ⟨m,rfl⟩:∃ m,fuel=m+1:=⟨n.1,by omega⟩
   have hnm1:n.1=m:=by omega
   refine takeM (b:=freeW P N ops i (hintAt hs i) [] (frM tbl keep mask)) ho1 hsel (fun c a w d v h=>absurd h (hQp c _ w)) m listed a w (fun hb j oj hj hs hun=>awaited_ok hrel (hcase.resolve_left (by rw [hb]; simp)) hj hs hun) (Region.free_spec ho1 (hrel.free hfr)) hready hy ?_
   have h2:=ih n hnm (listed.setIfInBounds i true) (a.put o.dst u) w (by rw [hnk]; exact hrel.set (Array.getElem?_eq_some_iff.1 ho1).1) (by rw [hnk,← ea]; exact keepG hm' hk)
   rw [hnm1] at h2
   exact h2
  | none =>
   simp only [nodeG] at hnode
   split at hnode
   ·rename_i hr
    split at hnode
    case h_2=>cases hnode
    rename_i f hfin
    simp only [Option.some.injEq,Prod.mk.injEq] at hnode
    obtain ⟨rfl,rfl,rfl⟩:=hnode
    simp only [List.cons.injEq,and_true] at ea
    subst ea
    have hq:Q .normal a w:=by
     refine hQ a w ?_
     unfold finX at hfin
     split at hfin
     case h_2=>cases hfin
     rename_i f' hk
     obtain ⟨g1,g2,_,S',β',hm'⟩:=hm
     obtain ⟨S'',β'',hm''⟩:=coAll_ok cs _ _ S' β' (coKeep hm' hk) hfin
     exact ⟨g1,g2,S'',β'',hm''⟩
    subst htb
    have hr':Region.ready .any ops listed=[]:=by rw [hrel.ready]; simpa using hr
    cases fuel with
    | zero=>exact ⟨hr',hq⟩
    | succ fuel=>exact ⟨fun _=>hq,fun i hi=>(by rw [hr'] at hi; cases hi)⟩
   ·rename_i hne
    split at hnode
    case isTrue=>cases hnode
    rename_i hf
    subst htb
    obtain ⟨m,rfl⟩:∃ m,fuel=m+1:=⟨fuel - 1,by simp at hf; omega⟩
    have hrd:Region.ready .any ops listed=readyM (needsOf ops) mask:=hrel.ready
    have hne':¬ readyM (needsOf ops) mask=[]:=by simpa using hne
    refine ⟨fun h=>absurd (hrd ▸ h) hne',fun j hj=>?_⟩
    have hj2:j∈readyM (needsOf ops) mask:=by rw [← hrd]; exact hj
    refine altsG_ok ih hrel hm _ hnode ea oa j hj2 ?_
    obtain ⟨_,o,ho,_⟩:=mem_ready.1 hj
    exact (Array.getElem?_eq_some_iff.1 ho).1
def startG (ops:Array Oper) (nodes:List DNode):Bool:=match nodes with
  | (fuel,0,_) :: _=>fuel == ops.size
  | _=>false
theorem wp_runG {id:Nat} {ops:Array Oper} {hs:List (Nat×Hint)} {keep0:List Nat} {cs:List Co} {fr':Fr} {obs:List Prop} {keep:List Nat} {tbl:List (Nat×Nat×AV)} {nodes:List DNode} {Q:Exit→Act→World→Prop} (hmx:P.follows .mixedOrders=true) (hsel:Region.noSelect ops=true) {tb:List Nat×List Nat} {st:Nat} (htb:(needsOf ops,conflOf ops)=tb) (hst:startG ops nodes=true) (h0:coStep (.keep keep) fr=some (frM tbl keep 0))
    (h:(runG P N ops tb st hs keep tbl (finX keep0 cs) fr' nodes).map (·.2.2)=some obs) (he:(runG P N ops tb st hs keep tbl (finX keep0 cs) fr' nodes).map (·.1)=(runG P N ops tb st hs keep tbl (finX keep0 cs) fr' nodes).map (·.2.1)) (ho:AllP obs) (hm:MemA e [] N fr a w)
    (hQ:∀ a' w',MemA e [] N fr' a' w'→Q .normal a' w'):(Code.region id ops true).wp P Q a w:=by
  refine wp_mono (Q:=fun ex a w=>match ex with | .normal=>Q .normal a w | _=>False) ?_ (fun ex a' w' hq=>by cases ex <;> first | exact hq | exact hq.elim)
  refine wp_region_any hmx (wpAny_of_M (st:=st) _ _ _ _ ?_)
  obtain ⟨h1,h2,S,β,hm⟩:=hm
  simp only [Option.map_eq_some_iff] at h
  obtain ⟨⟨l1,l2,l⟩,hrun,rfl⟩:=h
  rw [hrun] at he
  simp only [Option.map_some,Option.some.injEq] at he
  match nodes,hst with
  | (fuel,0,k) :: rest,hst =>
    have hfuel:fuel=ops.size:=by simpa [startG] using hst
    have hc:=runG_ok (e:=e) htb.symm hsel (Q:=fun ex a w=>match ex with | .normal=>Q .normal a w | _=>False) (fun _ _ _ h=>h) hQ _ hrun he ho (fuel,0,k) (List.mem_cons_self ..)
    have:=hc _ a { w with drawn:=w.drawn+1 } (Rel.start ops) (keepG (memG_nil ⟨h1,h2,S,β,hm.drawn _⟩) h0)
    simp only [hfuel] at this
    exact this
variable {Q:Exit→Act→World→Prop}
theorem T_drawG {id:Nat} {ops:Array Oper} (hmx:P.follows .mixedOrders=true) (nodes:List DNode) (tbl:List (Nat×Nat×AV)) (keep:List Nat) (tb:List Nat×List Nat) (st:Nat) (hs:List (Nat×Hint)) (keep0:List Nat) (cs:List Co) (fr':Fr) (obs:List (Nat×Prop)) (n:Nat) {k:Code} (hsel:Region.noSelect ops=true) (htb:(needsOf ops,conflOf ops)=tb) (hst:startG ops nodes=true) (h0:coStep (.keep keep) fr=some (frM tbl keep 0))
  (h:(runG P N ops tb st hs keep tbl (finX keep0 cs) fr' nodes).map (·.2.2)=some (owed obs n)) (he:(runG P N ops tb st hs keep tbl (finX keep0 cs) fr' nodes).map (·.1)=(runG P N ops tb st hs keep tbl (finX keep0 cs) fr' nodes).map (·.2.1)) (ho:Owed obs) (hk:T P e N k fr' Q):T P e N (.seq (.region id ops true) k) fr Q :=
 fun _ _ hm=>wp_seq (wp_runG hmx hsel htb hst h0 h he ho.all hm fun a' w' hm'=>hk a' w' hm')
end
end Go.Vm
namespace Go.Vm
def nilOps (ops:Array Oper):Option (Nat×Nat×Nat×TypeId) :=
 match ops.toList with
 | [o1,o2]=>match o1.dst,o1.op,o1.guard,o2.dst,o2.op,o2.guard with
  | some t3,.move (.tmp s),none,some t4,.binOp .eql T (.tmp t3') (.const (.slice none 0 0)) _,none=>if t3'=t3 then some (s,t3,t4,T) else none
  | _,_,_,_,_,_=>none
 | _=>none
def isSliceT (P:Program) (t:TypeId):Bool :=
 match P.underlying t with
 | some (.slice _)=>true
 | _=>false
section
variable {P:Program} {e:Env} {fr:Fr} {w:World} {N:Nat} {Q:Exit→Act→World→Prop}
theorem run_equalIn_nil (d:Nat) {t E:TypeId} {q:Option Addr} {l c:Nat} (h:P.underlying t=some (.slice E)):(Op.equalIn (d+1) t (.slice q l c) (.slice none 0 0)).run P w=.ok q.isNone w:=by
 cases q <;> simp [Op.equalIn,run_underlying h]
theorem run_eql_slice_nil {t E:TypeId} {q:Option Addr} {l c:Nat} {X Y:Operand} (h:P.underlying t=some (.slice E)) :
  (do eqGuard .eql t X Y (.slice q l c) (.slice none 0 0); binOp .eql t (.slice q l c) (.slice none 0 0):Sem Value).run P w=.ok (.bool q.isNone) w:=by
 have hg:eqGuard .eql t X Y (.slice q l c) (.slice none 0 0)=pure ():=rfl
 have he:(Op.equal t (.slice q l c) (.slice none 0 0)).run P w=.ok q.isNone w:=run_equalIn_nil 9999 h
 rw [hg]
 simp only [Sem.run_bind,Sem.run_pure,Result.andThen_ok,binOp]
 simp [he]
theorem T_nilTest {id:Nat} {ops:Array Oper} (s t3 t4:Nat) (T':TypeId) (hop:nilOps ops=some (s,t3,t4,T')) (hT:isSliceT P T'=true) {sz:Nat} {es:List (List Dat)} (hs:oval N [] fr (.tmp s)=.d (.sl sz es)) (hlt:decide (s < N∧t3 < N∧t4 < N∧t3≠t4)=true) (keep:List Nat) (fr':Fr)
  (hk:∀ b,coAll [.keep keep] (setA t4 (.d (.v (.bool b))) (setA t3 .junk fr))=some fr') {A B:Code} (hA:es=[]→T P e N A fr' Q) (hB:T P e N B fr' Q):T P e N (.seq (.region id ops false) (.cond (.tmp t4) A B)) fr Q:=by
 intro a w hm
 obtain ⟨hd,hN,S,β,hm⟩:=hm
 obtain ⟨hlt1,hlt2,hlt3,hne⟩:=of_decide_eq_true hlt
 obtain ⟨E,hE⟩:∃ E,P.underlying T'=some (.slice E):=by
  unfold isSliceT at hT
  split at hT
  ·exact ⟨_,by assumption⟩
  ·cases hT
 unfold nilOps at hop
 split at hop
 case h_2=>cases hop
 rename_i o1 o2 hol
 split at hop
 case h_2=>cases hop
 rename_i u3 us u4 uT u3' ty h1 h2 h3 h4 h5 h6
 split at hop
 case isFalse=>cases hop
 rename_i heq
 simp only [Option.some.injEq,Prod.mk.injEq] at hop
 obtain ⟨rfl,rfl,rfl,rfl⟩:=hop
 subst heq
 have hops:ops=#[o1,o2]:=by
  apply Array.ext'
  simpa using hol
 subst hops
 have hv:=oval_ok hm hN [] rfl (.tmp us)
 rw [hs] at hv
 obtain ⟨q,n,c,hq,hnil⟩:∃ q n c,a.eval (.tmp us)=.slice q n c∧(q=none→es=[]):=by
  have hv':=hv
  simp only [RFlat,RD] at hv'
  rcases hv' with ⟨⟨q,h⟩,rfl⟩ | ⟨b,o,c,arr,E',fz,h,_⟩
  ·exact ⟨q,0,0,h,fun _=>rfl⟩
  ·exact ⟨_,_,_,h,fun h=>by cases h⟩
 have hw1:Region.wanted o1 (yielded #[o1,o2] a.tmps)=true:=by unfold Region.wanted; rw [h3]
 refine wp_seq (wp_region ?_)
 show wpOps P #[o1,o2] _ [0,1] a w
 simp only [wpOps,List.getElem?_toArray,List.getElem?_cons_zero,List.getElem?_cons_succ]
 rw [if_pos hw1]
 refine .inl (wp_value (u:=.slice q n c) (w':=w) (by simp only [execOp,h2]; rw [hq]; rfl) ?_)
 rw [h1]
 have hw2:Region.wanted o2 (yielded #[o1,o2] (a.put (some u3') (.slice q n c)).tmps)=true:=by unfold Region.wanted; rw [h6]
 rw [if_pos hw2]
 have hts3:u3' < a.tmps.size:=by rw [hN]; exact hlt2
 have he3:(a.put (some u3') (.slice q n c)).eval (.tmp u3')=.slice q n c :=
  Option.some.inj ((eval_tmp (e:=e) (by rw [put_size]; exact hts3)).symm.trans (put_at (e:=e) a u3' _ hts3))
 refine .inl (wp_value (u:=.bool q.isNone) (w':=w) ?_ ?_)
 ·simp only [execOp,h5,he3]
  exact run_value (run_eql_slice_nil hE)
 rw [h4]
 have hsz2:(a.put (some u3') (.slice q n c)).tmps.size=N:=by rw [put_size]; exact hN
 have hts4:u4 < (a.put (some u3') (.slice q n c)).tmps.size:=by rw [hsz2]; exact hlt3
 have hm3:=hm.setPlain u3' .junk (.slice q n c) _ (put_old a u3' _ hts3) (put_new a u3' _ hts3) trivial (fun j=>by cases j <;> rfl) (fun l a h=>by cases h)
 have hm4:=hm3.setPlain u4 (.d (.v (.bool q.isNone))) (.bool q.isNone) _ (put_old (a.put (some u3') (.slice q n c)) u4 _ hts4) (put_new _ u4 _ hts4) ((flat_slot rfl).2 ⟨rfl,rfl⟩) (fun j=>by cases j <;> rfl) (fun l a h=>by cases h)
 have hm5:MemA e [] N (setA u4 (.d (.v (.bool q.isNone))) (setA u3' .junk fr)) ((a.put (some u3') (.slice q n c)).put (some u4) (.bool q.isNone)) w :=
  ⟨by rw [put_defers,put_defers]; exact hd,by rw [put_size]; exact hsz2,S,β,hm4⟩
 refine T_cond q.isNone ?_ (fun hb=>?_) (fun hb=>?_) _ w hm5
 ·have hlt4:decide (u4 < N)=true:=decide_eq_true hlt3
  simp only [oval,oval0,unvw,fget_setA_self,AV.read,AV.under]
  simp [hlt3]
 ·exact T_co _ _ (hk q.isNone) (hA (hnil (by simpa using hb)))
 ·exact T_co _ _ (hk q.isNone) hB
end
end Go.Vm
namespace Go.Vm
def cellsOf (P:Program) (N0:Nat):List ResultVar→Nat→Fr→Option (List Nat×Nat×Fr)
 | [],N,fr=>some ([],N,fr)
 | .tmp t :: r,N,fr=>if t < N0 then match cellsOf P N0 r N fr with
   | some (ts,N',fr')=>some (t :: ts,N',fr')
   | none=>none
  else none
 | .cell s t :: r,N,fr=>if s < N0 then match fget fr s,loadR P t {} fr (.bp s 0) with
   | .box _,some (av,_)=>if av.plain then
     match cellsOf P N0 r (N+1) (setA N av fr) with
     | some (ts,N',fr')=>some (N :: ts,N',fr')
     | none=>none
    else none
   | _,_=>none
  else none
section
variable {P:Program} {e:Env} {G:GEnv} {S:Nat→Prop} {β:Path→Value} {fr:Fr} {w:World} {a:Act} {N:Nat}
theorem push_mem (hm:Mem e G S β fr (valsOf e a) w) (hN:a.tmps.size=N) {av:AV} {u:Value} (hp:av.plain=true) (hr:RFlat S w β (0,0) av u):Mem e G S β (setA N av fr) (valsOf e { a with tmps:=a.tmps.push u }) w:=by
 refine hm.setPlain N av u _ (fun y hy=>?_) (fun u' h=>?_) (plain_slot hp hr) (plain_ownsAt hp) (fun l a h=>by rw [h] at hp; cases hp)
 ·simp only [valsOf]
  rw [Array.getElem?_push,if_neg (by omega)]
 ·simp only [valsOf] at h
  rw [Array.getElem?_push,if_pos (by omega)] at h
  simpa using h.symm
theorem loadR_bp {t:TypeId} {s:Nat} {av:AV} {obl:Prop} {cs:List AV} (hf:fget fr s=.box cs) (h:loadR P t {} fr (.bp s 0)=some (av,obl)):obl:=by
 simp only [loadR,hf] at h
 split at h
 ·simp only [Option.map_eq_some_iff,Prod.mk.injEq] at h
  obtain ⟨_,_,_,rfl⟩:=h
  trivial
 ·split at h
  ·simp only [Option.map_eq_some_iff,Prod.mk.injEq] at h
   obtain ⟨_,_,_,rfl⟩:=h
   trivial
  ·cases h
 ·cases h
theorem getD_push {tmps:Array Value} {u:Value} {t:Nat} (h:t < tmps.size):(tmps.push u).getD t undef=tmps.getD t undef:=by
 simp only [Array.getD_eq_getD_getElem?]
 rw [Array.getElem?_push,if_neg (by omega)]
theorem cells_ok {N0:Nat} {tmps0:Array Value}:∀ (rs:List ResultVar) (N:Nat) (fr fr':Fr) (ts:List Nat) (N':Nat) (a:Act),N0≤N→a.tmps.size=N→(∀ t,t < N0→a.tmps.getD t undef=tmps0.getD t undef)→Mem e [] S β fr (valsOf e a) w→cellsOf P N0 rs N fr=some (ts,N',fr') →
  ∃ a':Act,a'.tmps.size=N'∧N≤N'∧(∀ t,t < N→a'.tmps.getD t undef=a.tmps.getD t undef)∧Mem e [] S β fr' (valsOf e a') w ∧
   (rs.mapM (m:=Sem) fun
    | .tmp t=>pure (tmps0.getD t undef)
    | .cell a t=>do loadVar t (← asAddr (tmps0.getD a undef))).run P w=.ok (ts.map fun t=>a'.tmps.getD t undef) w
 | [],N,fr,fr',ts,N',a,_,hN,_,hm,h=>by
  simp only [cellsOf,Option.some.injEq,Prod.mk.injEq] at h
  obtain ⟨rfl,rfl,rfl⟩:=h
  exact ⟨a,hN,Nat.le_refl _,fun _ _=>rfl,hm,rfl⟩
 | .tmp t :: rs,N,fr,fr',ts,N',a,h0,hN,hold,hm,h=>by
  simp only [cellsOf] at h
  split at h
  case isFalse=>cases h
  rename_i ht
  split at h
  case h_2=>cases h
  rename_i ts1 N1 fr1 h1
  simp only [Option.some.injEq,Prod.mk.injEq] at h
  obtain ⟨rfl,rfl,rfl⟩:=h
  obtain ⟨a',g1,g2,g3,g4,g5⟩:=cells_ok (tmps0:=tmps0) rs N fr _ ts1 _ a h0 hN hold hm h1
  refine ⟨a',g1,g2,g3,g4,?_⟩
  simp only [List.mapM_cons,Sem.run_bind,Sem.run_pure,Result.andThen_ok,g5,List.map_cons]
  rw [g3 t (Nat.lt_of_lt_of_le ht h0),hold t ht]
 | .cell s t :: rs,N,fr,fr',ts,N',a,h0,hN,hold,hm,h=>by
  simp only [cellsOf] at h
  split at h
  case isFalse=>cases h
  rename_i hs
  split at h
  case h_2=>cases h
  rename_i cs av obl hf hl
  split at h
  case isFalse=>cases h
  rename_i hp
  split at h
  case h_2=>cases h
  rename_i ts1 N1 fr1 h1
  simp only [Option.some.injEq,Prod.mk.injEq] at h
  obtain ⟨rfl,rfl,rfl⟩:=h
  obtain ⟨u0,hr0,hu0⟩:=hm.rel s
  have hsz:s < a.tmps.size:=by rw [hN]; exact Nat.lt_of_lt_of_le hs h0
  have hev:=hu0 _ (eval_tmp (e:=e) hsz)
  rw [hf] at hr0
  have hbp:RFlat S w β (0,0) (.bp s 0) (a.eval (.tmp s)):=by
   rw [hev]
   exact read_ok (t:=s) (a:=.box cs) hr0
  obtain ⟨v,hv1,hv2,_⟩:=loadR_ok (P:=P) hm hl (loadR_bp hf hl) hbp
  obtain ⟨a',g1,g2,g3,g4,g5⟩:=cells_ok (tmps0:=tmps0) rs (N+1) (setA N av fr) _ ts1 _ { a with tmps:=a.tmps.push v } (by omega) (by simp [hN]) (fun t ht=>by
   show (a.tmps.push v).getD t undef=_
   rw [getD_push (by rw [hN]; exact Nat.lt_of_lt_of_le ht h0)]
   exact hold t ht) (push_mem hm hN hp hv2) h1
  refine ⟨a',g1,by omega,fun t ht=>by rw [g3 t (by omega),getD_push (by omega)],g4,?_⟩
  have hN2:a'.tmps.getD N undef=v:=by
   rw [g3 N (by omega)]
   simp only [Array.getD_eq_getD_getElem?]
   rw [Array.getElem?_push,if_pos hN.symm]
   rfl
  have hrun:(do loadVar t (← asAddr (tmps0.getD s undef)):Sem Value).run P w=.ok v w:=by
   rw [← hold s hs]
   have h2:a.tmps.getD s undef=a.eval (.tmp s):=rfl
   rw [h2]
   obtain ⟨b,_,hb⟩:=hbp
   rw [hb] at hv1 ⊢
   exact hv1
  rw [List.mapM_cons,Sem.run_bind,hrun,List.map_cons,hN2]
  simp only [Result.andThen_ok,Sem.run_bind,g5,Sem.run_pure]
theorem T_returnC {fn:Func} (cs:List Co) {fr fr':Fr} (h:coAll cs fr=some fr') {ts:List Nat} {N':Nat} {fr2:Fr} (hc:cellsOf P N fn.results.toList N fr'=some (ts,N',fr2)) (hNr:decide (N'≤resSlot)=true) (ho:resOk N' fr2 ts=true) {res:AV} (hres:resAV fr2 ts=res) {vout:List AV} (hv:voutOk fr2 virtBase vout) :
  ∀ a w,MemA e [] N fr a w→RPost P fn e res vout .ret a w:=by
 intro a w hm
 obtain ⟨h1,h2,S,β,hm'⟩:=hm.co h
 obtain ⟨a',g1,_,_,g4,hk⟩:=cells_ok (tmps0:=a.tmps) fn.results.toList N fr' fr2 ts N' a (Nat.le_refl _) h2 (fun _ _=>rfl) hm' hc
 obtain ⟨S',β',hm2⟩:=res_mem g4 g1 (of_decide_eq_true hNr) ho hv rfl
 rw [hres] at hm2
 refine ⟨h1,_,?_,_,S',β',rfl,hm2⟩
 have e:fn.results=fn.results.toList.toArray:=(Array.toArray_toList).symm
 unfold results
 rw [Sem.run_bind,e,List.mapM_toArray,Sem.run_map]
 exact congrArg (fun r:Result (List Value)=>(r.andThen fun a w'=>Result.ok a.toArray w').andThen fun a w'=>Sem.run P (pure (if h:a.size=1 then a[0] else Value.tuple a)) w') hk
end
end Go.Vm
namespace Go.Vm
open Go.ChangeShapes
def AV.isData:AV→Bool
 | .d _=>true
 | .agg _=>true
 | _=>false
structure KeptAll (W W':World):Prop where
 os:W'.os=W.os
 output:W'.output=W.output
 size:W.heap.size≤W'.heap.size
 heap:∀ b,b < W.heap.size→W'.heap[b]? = W.heap[b]?
theorem KeptAll.but {W W':World} (h:KeptAll W W') (may:MemPlace→Prop):W.keptBut W' may:=by
 refine ⟨h.os,h.output,fun i hi=>?_⟩
 rw [h.heap i hi]
 cases W.heap[i]? with
 | none=>trivial
 | some o=>cases o <;> simp
theorem KeptAll.frozen {W W':World} (h:KeptAll W W') (a:Addr) (ha:a.block < W.heap.size):W'.frozen? a=W.frozen? a:=by
 simp only [World.frozen?,h.heap _ ha]
def allS (W:World):Nat→Prop:=fun b=>b < W.heap.size
theorem start_mem {W:World} {args:List AV} {us:List Value} (hlen:us.length=args.length) (hd:args.all AV.isData=true) (hr:All2 (fun _ a u=>RFlat (allS W) W (fun _=>.bool false) (0,0) a u) 0 args us) :
  Mem ⟨W,ownedBy (finFr args []) (fun _=>.bool false),allS W,lentAt (fun _=>.bool false) ([]:List AV).length,[]⟩ [] (allS W) (fun _=>.bool false) (finFr args []) (fun x=>(us[x]?).or (lentAt (fun _=>.bool false) ([]:List AV).length x)) W:=by
 have hat:∀ x,(∃ a u,fget (finFr args []) x=a∧a.isData=true∧us[x]? = some u∧RFlat (allS W) W (fun _=>.bool false) (0,0) a u)∨(fget (finFr args []) x=.junk∧us[x]? = none):=by
  intro x
  rcases Nat.lt_or_ge x args.length with h | h
  ·left
   obtain ⟨u,hu,hru⟩:=All2.get hr x args[x] (by simp [h])
   refine ⟨args[x],u,?_,?_,by simpa using hu,hru⟩
   ·rw [fget_finFr_arg h,List.getD_eq_getElem?_getD]
    simp [h]
   ·exact (List.all_eq_true.1 hd) _ (List.getElem_mem h)
  ·right
   refine ⟨?_,by simp; omega⟩
   rw [finFr,fget_argFr,if_neg (by omega)]
   rfl
 have hown:∀ x i,(fget (finFr args []) x).ownsAt i=false:=by
  intro x i
  rcases hat x with ⟨a,u,h1,h2,_,_⟩ | ⟨h1,_⟩
  ·rw [h1]
   cases a <;> first | (cases i <;> rfl) | (simp [AV.isData] at h2)
  ·rw [h1]
   cases i <;> rfl
 have hlent:∀ x,lentAt (fun _=>.bool false) ([]:List AV).length x=none:=by
  intro x
  simp only [lentAt,List.length_nil,Nat.add_zero]
  rw [if_neg (by omega)]
 refine ⟨fun x=>?_,fun x l a h=>?_,fun x i y j b h=>?_,fun x i b h=>?_,fun b hb=>⟨hb,.inl hb⟩,fun _ h=>h,fun _ _ _=>rfl,rfl,rfl,rfl,Nat.le_refl _⟩
 ·rcases hat x with ⟨a,u,h1,h2,h3,h4⟩ | ⟨h1,h2⟩
  ·refine ⟨u,?_,fun u' hu'=>by simp [h3] at hu'; exact hu'.symm⟩
   rw [h1]
   cases a <;> first | exact (flat_slot rfl).2 h4 | (simp [AV.isData] at h2)
  ·refine ⟨undef,?_,fun u' hu'=>by
    simp only [h2,hlent] at hu'
    cases hu'⟩
   rw [h1]
   exact (flat_slot rfl).2 trivial
 ·rcases hat x with ⟨a',u,h1,h2,_,_⟩ | ⟨h1,_⟩
  ·rw [h] at h1
   subst h1
   simp [AV.isData] at h2
  ·rw [h] at h1
   cases h1
 ·rw [hown] at h
  cases h
 ·rw [hown] at h
  cases h
theorem ACall.law {P:Program} {k:Nat} {args:List AV} {us:List Value} {W:World} {b:Bool} (h:ACall P k args [] (.d (.v (.bool b))) []) (hlen:us.length=args.length) (hd:args.all AV.isData=true) (hr:All2 (fun _ a u=>RFlat (allS W) W (fun _=>.bool false) (0,0) a u) 0 args us) :
  Calls P k us.toArray W fun e W'=>e=.returned (.bool b)∧KeptAll W W':=by
 refine (h.2 W (allS W) (fun _=>.bool false) us hlen (start_mem hlen hd hr)).mono fun e W' ⟨u,S',β',he,hm⟩=>?_
 obtain ⟨v,hv1,hv2⟩:=hm.rel resSlot
 have hu:=hv2 u (by simp)
 subst hu
 rw [show fget ((resSlot,AV.d (.v (.bool b))) :: boxFr virtBase []) resSlot=.d (.v (.bool b)) from fget_cons_self _ _ _] at hv1
 have hb:u=.bool b:=hv1.1
 refine ⟨by rw [he,hb],hm.os,hm.output,hm.size,fun i hi=>hm.old i hi ?_⟩
 rintro ⟨x,j,hx,_⟩
 have:=(start_mem hlen hd hr).fre x j 0 hx
 have hx':(fget (finFr args []) x).ownsAt j=false:=by
  rcases Nat.lt_or_ge x args.length with h | h
  ·have hdx:=(List.all_eq_true.1 hd) _ (List.getElem_mem h)
   rw [fget_finFr_arg h,List.getD_eq_getElem?_getD]
   simp only [List.getElem?_eq_getElem h,Option.getD_some]
   cases hc:args[x] <;> rw [hc] at hdx <;> first | (cases j <;> rfl) | (simp [AV.isData] at hdx)
  ·rw [finFr,fget_argFr,if_neg (by omega)]
   cases j <;> rfl
 rw [hx'] at hx
 cases hx
section
variable {H:Type} {enc:TypeId×Value→H} {P:Program}
theorem post_kept {f:Func} {s:ChangeSpec} {apart fresh handsOn again:Bool} {W W':World} {args:Array Value} {v:Value} {ds gs:List (DataW H)} {before pa pv:List MemPlace}
  (hW:DataW.Whole enc P f.params.toList s.vars apart W args.toList ds gs before) (hk:KeptAll W W')
  (hres:∀ (b:Nat) (sp:Nat→Bool) (hd:Bool),DataW.TrodAll enc P W' b sp hd f.resultTypes.toList (v.resultList f.resultTypes.size) (s.fn H (ds++gs)).results [])
  (hargs:∀ sp:Nat→Bool,(∀ p∈before,sp p.block=true)→DataW.TrodAll enc P W' 0 sp true f.params.toList args.toList (s.fn H (ds++gs)).args pa)
  (hvars:∀ sp:Nat→Bool,(∀ p∈before,sp p.block=true)→DataW.TrodVars enc P W' sp s.vars (s.fn H (ds++gs)).vars pv)
  (hps:before=pa++pv)
  (hok:∀ (j:Nat) (t:TypeId) (r:Value),f.resultTypes[j]? = some t→(v.resultList f.resultTypes.size)[j]? = some r→Value.okWide P W' .any 0 t r) :
  s.post enc P f apart fresh handsOn again W args v W':=by
 have hlt:=hW.lt
 refine ⟨ds,gs,before,[],pa,pv,hW,hres _ _ _,hargs _ (fun p hp=>by simpa using hlt p hp),hvars _ (fun p hp=>by simpa using hlt p hp),hk.but _,fun _=>?_⟩
 obtain ⟨_,_,_,_,_,hz,hn⟩:=hW
 refine ⟨hok,_,_,([]++pa)++pv,⟨[]++pa,pv,trodAll_append (hargs _ (fun _ _=>rfl)) (hres _ _ _),hvars _ (fun _ _=>rfl),rfl,?_,?_⟩,?_⟩
 ·intro b off hp
  have hb:MemPlace.cell b off∈before:=by rw [hps]; simpa using hp
  rw [hk.frozen _ (hlt _ hb)]
  exact hz b off hb
 ·intro ha
  have:=hn ha
  rw [hps] at this
  simpa using this
 ·intro p hp _
  rw [hps]
  simpa using hp
end
end Go.Vm
namespace Go.Vm
theorem wrap_id {x:Int} (h : -9223372036854775808≤x∧x≤9223372036854775807):IntKind.i64.wrap x=x:=by
 unfold IntKind.wrap
 simp [IntKind.bits,IntKind.signed]
 omega
def up {α:Type} (f:Int→α):Int→Nat→List α
 | _,0=>[]
 | i,m+1=>f i :: up f (i+1) m
theorem chk_pos {α:Type} {p:Prop} [Decidable p] {k:Option α} (h:p):chk p k=k:=if_pos h
theorem call_some {α γ:Type} {x:α} {k:α→Option γ}:call (some x) k=k x:=rfl
theorem lett_eq {α γ:Type} {x:α} {k:α→Option γ}:lett x k=k x:=rfl
theorem callE_go {σ ε γ:Type} {x:σ} {kr:ε→Option γ} {k:σ→Option γ}:callE (some (.go x)) kr k=k x:=rfl
end Go.Vm
namespace Go.Vm
open Go.ChangeShapes Go.RowKit Go.WideShapes
def Opens {α:Type} (P:Program) (t:TypeId) (enc:α→List Dat) (Q:α→Prop):Prop :=
 ∀ (H:Type) (en:TypeId×Value→H) (W:World) (n:Nat) (cs:List Value) (x:DataW H×List MemPlace),
  DataW.trod en P W 0 (fun _=>true) true n t cs=some x→∃ a,Q a∧cs.length=(enc a).length∧RCs (allS W) W (enc a) (fun j=>cs[j]?) 0
section
variable {P:Program} {t:TypeId}
theorem opens_int {k:IntKind} (ht:P.underlying t=some (.int k)):Opens P t (cI k) (fun n=>(Lit.int k n).wf=true):=by
 intro H en W n cs x h
 obtain ⟨a,rfl,rfl,hw⟩:=DataW.trod_int ht h
 exact ⟨a,hw,rfl,by simp [cI,RCs,RD,Value.oneCell']⟩
theorem opens_bool (ht:P.underlying t=some .bool):Opens P t cB (fun _=>True):=by
 intro H en W n cs x h
 obtain ⟨a,rfl,rfl⟩:=DataW.trod_bool ht h
 exact ⟨a,trivial,rfl,by simp [cB,RCs,RD,Value.oneCell']⟩
theorem opens_str (ht:P.underlying t=some .string):Opens P t cS (fun l=>l.length≤maxLen):=by
 intro H en W n cs x h
 obtain ⟨a,rfl,rfl,hw⟩:=DataW.trod_string ht h
 exact ⟨a.data.toList,by show a.data.toList.length≤maxLen; rw [Array.length_toList]; exact hw,rfl,by simp only [cS,RCs,RD,strOf]; exact ⟨⟨_,rfl,rfl⟩,trivial⟩⟩
theorem lists_of {α:Type} {R:Nat→α→Prop}:∀ (n:Nat),(∀ i,i < n→∃ a,R i a)→∃ l:List α,l.length=n∧∀ i a,l[i]? = some a→R i a
 | 0,_=>⟨[],rfl,fun i a h=>by simp at h⟩
 | n+1,h=>by
  obtain ⟨l,h1,h2⟩:=lists_of n (fun i hi=>h i (by omega))
  obtain ⟨a,ha⟩:=h n (by omega)
  refine ⟨l++[a],by simp [h1],fun i b hb=>?_⟩
  rcases Nat.lt_or_ge i n with hi | hi
  ·rw [List.getElem?_append_left (by omega)] at hb
   exact h2 i b hb
  ·rw [List.getElem?_append_right (by omega),h1] at hb
   have hi0:i - n=0:=by
    rcases Nat.eq_zero_or_pos (i - n) with h0 | h0
    ·exact h0
    ·rw [List.getElem?_eq_none (by simp; omega)] at hb
     cases hb
   rw [hi0] at hb
   simp at hb
   have:i=n:=by omega
   subst this
   subst hb
   exact ha
theorem cells_at {W:World} {a:Addr} {n:Nat} {cs:List Value} (h:W.cells? 0 a n=some cs) (hn:0 < n):a.spot=none∧cs.length=n∧∃ arr E fz,W.heap[a.block]? = some (.cells arr E fz)∧∀ j,j < n→arr[a.off+j]? = cs[j]? := by
 unfold World.cells? at h
 rw [if_pos (Nat.zero_le _)] at h
 have hl:cs.length=n:=by simpa using mapM_some_length h
 have hg:∀ j,j < n→W.cell? (a.add j)=cs[j]? := fun j hj=>mapM_some_get h j j (by simp [hj])
 have h0:=hg 0 hn
 rw [List.getElem?_eq_getElem (by omega)] at h0
 simp only [Addr.add,if_true,World.cell?] at h0
 split at h0
 ·rename_i arr E fz hb
  split at h0
  ·cases h0
  ·rename_i hs
   have hs':a.spot=none:=by simpa using hs
   refine ⟨hs',hl,arr,E,fz,hb,fun j hj=>?_⟩
   have:=hg j hj
   rw [← this]
   by_cases hj0:j=0
   ·subst hj0
    simp [World.cell?,Addr.add,hb,hs']
   ·simp [World.cell?,Addr.add,hb,hj0]
 ·cases h0
theorem opens_slice {α:Type} {e:TypeId} {enc:α→List Dat} {Q:α→Prop} {sz:Nat} (ht:P.underlying t=some (.slice e)) (hsz:P.cellsOf e=sz) (h0:0 < sz) (he:Opens P e enc Q):Opens P t (cL sz enc) (fun l=>l.length≤maxLen∧∀ a∈l,Q a):=by
 intro H en W n cs x h
 rcases DataW.trod_slice ht h with ⟨rfl,rfl⟩ | ⟨a,len,cap,elems,rest,m,_,rfl,rfl,_,hlc,hcm,hlen,hel,hsp,_⟩
 ·refine ⟨[],⟨Nat.zero_le _,by simp⟩,rfl,?_⟩
  simp only [cL,List.map_nil,RCs,and_true]
  exact ⟨_,rfl,by unfold RD; exact .inl ⟨⟨_,rfl⟩,rfl⟩⟩
 ·obtain ⟨hrl,hre⟩:=hsp rfl
  rw [hsz] at hel hre
  have each:∀ i,i < len→∃ y,Q y∧(enc y).length=sz∧∃ cs',W.cells? 0 (a.add (i * sz)) sz=some cs'∧RCs (allS W) W (enc y) (fun j=>cs'[j]?) 0:=by
   intro i hi
   have h1:=hel i hi
   rw [List.getElem?_eq_getElem (by omega),Option.bind_eq_some_iff] at h1
   obtain ⟨cs',h2,h3⟩:=h1
   obtain ⟨y,hq,hl,hr⟩:=he H en W _ _ _ h3
   exact ⟨y,hq,by rw [← hl,(cells_at h2 h0).2.1],cs',h2,hr⟩
  obtain ⟨l,hll,hl⟩:=lists_of len each
  have hadd:∀ i,a.spot=none→a.add i=⟨a.block,a.off+i,none⟩:=by
   intro i hs
   obtain ⟨b,o,s⟩:=a
   simp only at hs
   subst hs
   simp only [Addr.add]
   split
   ·rename_i hi; subst hi; rfl
   ·rfl
  refine ⟨l,⟨by omega,fun y hy=>?_⟩,rfl,?_⟩
  ·obtain ⟨i,hi,rfl⟩:=List.getElem_of_mem hy
   exact (hl i _ (List.getElem?_eq_getElem hi)).1
  ·simp only [cL,RCs,and_true]
   refine ⟨_,rfl,?_⟩
   unfold RD
   by_cases hc:cap=0
   ·left
    have:len=0:=by omega
    subst hc
    subst this
    exact ⟨⟨_,rfl⟩,by rw [List.eq_nil_of_length_eq_zero hll]; rfl⟩
   ·right
    have first:∃ cs',W.cells? 0 (a.add 0) sz=some cs':=by
     rcases Nat.eq_zero_or_pos len with hz | hp
     ·have h1:=hre 0 (by omega)
      rw [List.getElem?_eq_getElem (by omega),Option.bind_eq_some_iff] at h1
      obtain ⟨cs',h2,_⟩:=h1
      rw [hz] at h2
      simp only [Nat.zero_add,Nat.zero_mul] at h2
      exact ⟨cs',h2⟩
     ·obtain ⟨_,_,_,cs',h2,_⟩:=each 0 hp
      simp only [Nat.zero_mul] at h2
      exact ⟨cs',h2⟩
    obtain ⟨cs0,hf⟩:=first
    rw [show a.add 0=a from rfl] at hf
    obtain ⟨hspot,_,arr,E,fz,hb,_⟩:=cells_at hf h0
    refine ⟨a.block,a.off,cap,arr,E,fz,?_,by simp [hll]; omega,?_,hb,REs.of_get _ _ fun j d hd=>?_⟩
    ·rw [List.length_map,hll,show (⟨a.block,a.off,none⟩:Addr)=a.add 0 from (hadd 0 hspot).symm]
     rfl
    ·exact (Array.getElem?_eq_some_iff.1 hb).1
    ·rw [List.getElem?_map,Option.map_eq_some_iff] at hd
     obtain ⟨y,hy,rfl⟩:=hd
     obtain ⟨_,h1,cs',h2,h3⟩:=hl j y hy
     refine ⟨h1,RCs.congr _ 0 _ (fun i hi=>?_) h3⟩
     obtain ⟨_,_,arr',E',fz',hb',hg⟩:=cells_at h2 h0
     rw [hadd _ hspot] at hb' hg
     simp only at hb' hg
     rw [hb] at hb'
     cases hb'
     rw [hg i (by omega),Nat.zero_add]
theorem Opens.map {α γ:Type} {enc:α→List Dat} {enc':γ→List Dat} {Q:α→Prop} {Q':γ→Prop} (h:Opens P t enc Q) (f:α→γ) (he:∀ a,enc' (f a)=enc a) (hq:∀ a,Q a→Q' (f a)):Opens P t enc' Q':=by
 intro H en W n cs x hx
 obtain ⟨a,h1,h2,h3⟩:=h H en W n cs x hx
 exact ⟨f a,hq a h1,by rw [he]; exact h2,by rw [he]; exact h3⟩
def OpensN {β:Type} (P:Program) (N:Nat) (fs:List Field) (o:Nat) (enc:β→List Dat) (Q:β→Prop):Prop :=
 ∀ (H:Type) (en:TypeId×Value→H) (W:World) (n:Nat) (cs:List Value),cs.length=N →
  (∀ f∈fs,∃ x,DataW.trod en P W 0 (fun _=>true) true n f.type ((cs.drop f.offset).take (P.cellsOf f.type))=some x)→∃ b,Q b∧o+(enc b).length=N∧RCs (allS W) W (enc b) (fun j=>cs[j]?) o
theorem opensN_nil (P:Program) (N:Nat):OpensN P N [] N (fun _:Unit=>[]) (fun _=>True):=fun _ _ _ _ _ _ _=>⟨(),trivial,by simp,by simp [RCs]⟩
theorem RCs.append' {S:Nat→Prop} {w:World} {g:Nat→Option Value}:∀ (xs ys:List Dat) (o:Nat),RCs S w xs g o→RCs S w ys g (o+xs.length)→RCs S w (xs++ys) g o
 | [],ys,o,_,h=>by simpa using h
 | x :: xs,ys,o,h,h2=>by
  simp only [List.cons_append,RCs] at h ⊢
  refine ⟨h.1,RCs.append' xs ys (o+1) h.2 ?_⟩
  have:o+(x :: xs).length=o+1+xs.length:=by simp; omega
  rwa [this] at h2
theorem opensN_cons {α β:Type} {f:Field} {fs:List Field} {N o sz:Nat} {enc:α→List Dat} {encs:β→List Dat} {Q:α→Prop} {Qs:β→Prop} (ho:f.offset=o) (hsz:P.cellsOf f.type=sz) (hN:o+sz≤N)
  (h:Opens P f.type enc Q) (hs:OpensN P N fs (o+sz) encs Qs):OpensN P N (f :: fs) o (fun x:α×β=>enc x.1++encs x.2) (fun x=>Q x.1∧Qs x.2):=by
 intro H en W n cs hcs hx
 obtain ⟨b,h1,h2,h3⟩:=hs H en W n cs hcs (fun f' hf=>hx f' (List.mem_cons_of_mem _ hf))
 obtain ⟨x,hx0⟩:=hx f (List.mem_cons_self ..)
 rw [ho,hsz] at hx0
 obtain ⟨a,h4,h5,h6⟩:=h H en W n _ _ hx0
 have hl:(enc a).length=sz:=by
  rw [← h5,List.length_take,List.length_drop]
  omega
 refine ⟨(a,b),⟨h4,h1⟩,by simp [hl]; omega,RCs.append' _ _ _ (RCs.congr _ 0 o (fun j hj=>?_) h6) (by rw [hl]; exact h3)⟩
 simp only [Nat.zero_add,List.getElem?_take,List.getElem?_drop]
 simp only at hj
 rw [if_pos (by omega)]
theorem opens_struct {β:Type} {fs:Array Field} {N:Nat} {enc:β→List Dat} {Q:β→Prop} (ht:P.underlying t=some (.struct fs)) (hN:P.cellsOf t=N) (h:OpensN P N fs.toList 0 enc Q):Opens P t enc Q:=by
 intro H en W n cs x hx
 obtain ⟨xs,m,_,_,hl,hxl,hf⟩:=DataW.trod_struct ht hx
 obtain ⟨b,h1,h2,h3⟩:=h H en W m cs (by rw [hl,hN]) (fun f hfm=>by
  obtain ⟨i,hi,rfl⟩:=List.getElem_of_mem hfm
  have hi':i < fs.size:=by simpa using hi
  have:=hf i fs[i] (by simp [hi'])
  rw [List.getElem?_eq_getElem (by omega)] at this
  exact ⟨_,by simpa using this⟩)
 exact ⟨b,h1,by rw [hl,hN,← h2]; omega,h3⟩
def OpensArgs {β:Type} (P:Program) (ts:List TypeId) (av:β→List AV) (Q:β→Prop):Prop :=
 ∀ (H:Type) (en:TypeId×Value→H) (W:World) (base:Nat) (vs:List Value) (ds:List (DataW H)) (ps:List MemPlace),
  (∀ (j:Nat) t v,ts[j]? = some t→vs[j]? = some v→Value.okWide P W .any base t v)→DataW.TrodAll en P W 0 (fun _=>true) true ts vs ds ps →
  ∃ b,Q b∧vs.length=(av b).length∧(av b).all AV.isData=true∧∀ i,All2 (fun _ a u=>RFlat (allS W) W (fun _=>.bool false) (0,0) a u) i (av b) vs
theorem opensArgs_nil (P:Program):OpensArgs P [] (fun _:Unit=>[]) (fun _=>True):=by
 intro H en W base vs ds ps _ h
 cases vs with
 | nil=>exact ⟨(),trivial,rfl,rfl,fun _=>by simp [All2]⟩
 | cons v vs=>exact h.elim
def plainType (P:Program) (t:TypeId):Bool:=match P.underlying t with
 | some (.struct _) | some (.array _ _)=>false
 | _=>true
theorem okWide_one {r:Reach} {b0:Nat} {W:World} {v:Value} (h:plainType P t=true) (ho:Value.okWide P W r b0 t v):v.cells=#[v]:=by
 unfold plainType at h
 unfold Value.okWide at ho
 split at ho
 ·rename_i hu; rw [hu] at h; cases h
 ·rename_i hu; rw [hu] at h; cases h
 ·cases v <;> try rfl
  exfalso
  unfold Cell.okWide at ho
  split at ho <;> try contradiction
  unfold Cell.ok at ho
  split at ho <;> contradiction
theorem okWide_agg {r:Reach} {b0:Nat} {W:World} {v:Value} {fs:Array Field} (ht:P.underlying t=some (.struct fs)) (ho:Value.okWide P W r b0 t v):∃ cs,v=.agg cs:=by
 simp only [Value.okWide,ht] at ho
 exact ⟨_,ho.choose_spec.1⟩
theorem opensArgs_flat {α β:Type} {ts:List TypeId} {x:α→Dat} {enc:α→List Dat} {av:β→List AV} {Q:α→Prop} {Qs:β→Prop} (hp:plainType P t=true) (he:∀ a,enc a=[x a]) (h:Opens P t enc Q) (hs:OpensArgs P ts av Qs) :
  OpensArgs P (t :: ts) (fun z:α×β=>.d (x z.1) :: av z.2) (fun z=>Q z.1∧Qs z.2):=by
 intro H en W base vs ds ps hok hd
 cases vs with
 | nil=>exact hd.elim
 | cons v vs =>
  cases ds with
  | nil=>exact hd.elim
  | cons d ds =>
   obtain ⟨p,q,⟨n,h1⟩,h2,_⟩:=hd
   obtain ⟨b,h3,h4,h5,h6⟩:=hs H en W base vs ds q (fun j t' v' ht hv=>hok (j+1) t' v' (by simpa using ht) (by simpa using hv)) h2
   obtain ⟨a,h7,h8,h9⟩:=h H en W n _ _ h1
   rw [okWide_one hp (hok 0 t v rfl rfl),he] at h9
   simp only [RCs,and_true] at h9
   obtain ⟨u,hu,hr⟩:=h9
   have hu:v=u:=by simpa using hu
   subst hu
   refine ⟨(a,b),⟨h7,h3⟩,by simp [h4],by simpa [AV.isData] using h5,fun i=>?_⟩
   simp only [All2]
   exact ⟨hr,h6 _⟩
theorem opensArgs_agg {α β:Type} {ts:List TypeId} {fs:Array Field} {enc:α→List Dat} {av:β→List AV} {Q:α→Prop} {Qs:β→Prop} (ht:P.underlying t=some (.struct fs)) (h:Opens P t enc Q) (hs:OpensArgs P ts av Qs) :
  OpensArgs P (t :: ts) (fun z:α×β=>.agg (enc z.1) :: av z.2) (fun z=>Q z.1∧Qs z.2):=by
 intro H en W base vs ds ps hok hd
 cases vs with
 | nil=>exact hd.elim
 | cons v vs =>
  cases ds with
  | nil=>exact hd.elim
  | cons d ds =>
   obtain ⟨p,q,⟨n,h1⟩,h2,_⟩:=hd
   obtain ⟨b,h3,h4,h5,h6⟩:=hs H en W base vs ds q (fun j t' v' ht hv=>hok (j+1) t' v' (by simpa using ht) (by simpa using hv)) h2
   obtain ⟨a,h7,h8,h9⟩:=h H en W n _ _ h1
   obtain ⟨cs,rfl⟩:=okWide_agg ht (hok 0 t v rfl rfl)
   refine ⟨(a,b),⟨h7,h3⟩,by simp [h4],by simpa [AV.isData] using h5,fun i=>?_⟩
   simp only [All2]
   exact ⟨⟨cs.toList,by simp,h8,h9⟩,h6 _⟩
theorem KeptAll.below {W W':World} (h:KeptAll W W'):W.keptBut W' (fun _=>False):=h.but _
theorem KeptAll.same {W W':World} (h:KeptAll W W') {p:MemPlace} (hp:p.block < W.heap.size):W.sameAt W' p:=by
 cases p with
 | cell b o=>exact World.cell?_of_block (w:=W) (h.heap b hp)
 | map b=>exact h.heap b hp
theorem TrodAll_kept {H:Type} {en:TypeId×Value→H} {W W':World} (hl:laidOutB P=true) (hk:KeptAll W W') (sp:Nat→Bool):∀ {ts:List TypeId} {vs:List Value} {ds:List (DataW H)} {ps:List MemPlace},
  (ts.all fun t=>P.readableRec t && decide (t < P.types.size))=true→DataW.TrodAll en P W 0 (fun _=>true) true ts vs ds ps→(∀ p∈ps,p.block < W.heap.size)→(∀ p∈ps,sp p.block=true)→DataW.TrodAll en P W' 0 sp true ts vs ds ps
 | [],[],[],_,_,h,_,_=>h
 | [],[],_ :: _,_,_,h,_,_=>h.elim
 | [],_ :: _,_,_,_,h,_,_=>h.elim
 | _ :: _,[],_,_,_,h,_,_=>h.elim
 | _ :: _,_ :: _,[],_,_,h,_,_=>h.elim
 | t :: ts,v :: vs,d :: ds,ps,hr,h,hlt,hsp=>by
  obtain ⟨p,q,h1,h2,rfl⟩:=h
  simp only [List.all_cons,Bool.and_eq_true,decide_eq_true_eq] at hr
  refine ⟨p,q,WideElems.Trod_stays hl hr.1.1 hr.1.2 h1 (fun x hx=>hk.same (hlt x (by simp [hx]))) (fun x hx=>hsp x (by simp [hx])),TrodAll_kept hl hk sp hr.2 h2 (fun x hx=>hlt x (by simp [hx])) (fun x hx=>hsp x (by simp [hx])),rfl⟩
end
end Go.Vm
namespace Go.Vm
open Go.ChangeShapes Go.RowKit Go.WideShapes
def OpensB {α:Type} (b:Nat) (P:Program) (t:TypeId) (enc:α→List Dat) (Q:α→Prop):Prop :=
 ∀ (H:Type) (en:TypeId×Value→H) (W:World) (n:Nat) (cs:List Value) (x:DataW H×List MemPlace),
  n < b→DataW.trod en P W 0 (fun _=>true) true n t cs=some x→∃ a,Q a∧cs.length=(enc a).length∧RCs (allS W) W (enc a) (fun j=>cs[j]?) 0
section
variable {P:Program} {t:TypeId}
theorem OpensB.mono {α:Type} {enc:α→List Dat} {Q:α→Prop} {b b':Nat} (h:OpensB b P t enc Q) (hb:b'≤b):OpensB b' P t enc Q:=fun H en W n cs x hn hx=>h H en W n cs x (by omega) hx
theorem OpensB.map {α γ:Type} {b:Nat} {enc:α→List Dat} {enc':γ→List Dat} {Q:α→Prop} {Q':γ→Prop} (h:OpensB b P t enc Q) (f:α→γ) (he:∀ a,enc' (f a)=enc a) (hq:∀ a,Q a→Q' (f a)):OpensB b P t enc' Q':=by
 intro H en W n cs x hn hx
 obtain ⟨a,h1,h2,h3⟩:=h H en W n cs x hn hx
 exact ⟨f a,hq a h1,by rw [he]; exact h2,by rw [he]; exact h3⟩
end
end Go.Vm
namespace Go.Vm
open Go.RowKit (Below)
def cU (x:UInt8):List Dat:=[.v (.int .u8 (x.toNat:Int))]
section
variable {P:Program} {e:Env} {S:Nat→Prop} {β:Path→Value} {fr:Fr} {vals:Nat→Option Value} {w:World}
def flatV:AV→Option Value
 | .d (.v x)=>if x.oneCell' then some x else none
 | .d (.str l)=>some (strOf l)
 | .clo f []=>some (.func (.func f) #[] ⟨[]⟩)
 | _=>none
def flatVs:List AV→Option (List Value)
 | []=>some []
 | a :: r=>match flatV a,flatVs r with
  | some u,some us=>some (u :: us)
  | _,_=>none
theorem flatV_ok {a:AV} {u:Value} (h:flatV a=some u) {p:Path} {u':Value} (hr:RFlat S w β p a u'):u'=u:=by
 unfold flatV at h
 split at h
 ·split at h
  ·cases h; exact hr.1
  ·cases h
 ·cases h; exact hr
 ·cases h
  obtain ⟨l,rfl,hl⟩:=hr
  cases l with
  | nil=>rfl
  | cons _ _=>cases hl
 ·cases h
theorem flatV_mk {a:AV} {u:Value} (h:flatV a=some u) (p:Path):RFlat S w β p a u∧a.noSlf=true∧a.isOwn=false∧a.flat=true:=by
 unfold flatV at h
 split at h
 ·split at h
  ·cases h; exact ⟨⟨rfl,by assumption⟩,rfl,rfl,rfl⟩
  ·cases h
 ·cases h; exact ⟨rfl,rfl,rfl,rfl⟩
 ·cases h; exact ⟨⟨[],rfl,trivial⟩,rfl,rfl,rfl⟩
 ·cases h
theorem flatVs_get:∀ {as:List AV} {us:List Value},flatVs as=some us→as.length=us.length∧∀ (i:Nat) (a:AV),as[i]? = some a→∃ u,us[i]? = some u∧flatV a=some u
 | [],us,h=>by
  simp only [flatVs,Option.some.injEq] at h
  subst h
  simp
 | a :: as,us,h=>by
  simp only [flatVs] at h
  split at h
  case h_2=>cases h
  rename_i u us' h1 h2
  simp only [Option.some.injEq] at h
  subst h
  obtain ⟨h3,h4⟩:=flatVs_get h2
  refine ⟨by simp [h3],fun i b hb=>?_⟩
  cases i with
  | zero=>simp at hb; subst hb; exact ⟨u,by simp,h1⟩
  | succ i=>simpa using h4 i b (by simpa using hb)
def flatR:AV→Option Value
 | .tup vs=>(flatVs vs).map fun us=>.tuple us.toArray
 | a=>flatV a
end
end Go.Vm
namespace Go.Vm
end Go.Vm
namespace Go.Vm
theorem or_cond (a b:Bool):(bif a then true else b)=(a || b):=by cases a <;> rfl
theorem and_cond (a b:Bool):(bif a then b else false)=(a && b):=by cases a <;> rfl
theorem wrap_succ {i:Nat} (h:i < 9223372036854775807):IntKind.i64.wrap ((i:Int)+1)=((i+1:Nat):Int):=by
 rw [wrap_id (by omega)]
 rfl
theorem wrap_pred {i:Nat} (h:0 < i) (h2:i < 9223372036854775807):IntKind.i64.wrap ((i:Int) - 1)=((i - 1:Nat):Int):=by
 rw [wrap_id (by omega)]
 omega
theorem dec_lt {i n:Nat} {inst:Decidable ((i:Int) < (n:Int))} (h:i < n):@decide _ inst=true:=by simpa using h
theorem dec_end {n:Nat} {inst:Decidable ((n:Int) < (n:Int))}:@decide _ inst=false:=by simp
theorem chk_in {α:Type} {i n:Nat} (h:i < n) {k:Option α}:chk (0≤(i:Int)∧(i:Int) < (n:Int)) k=k:=chk_pos ⟨by omega,by exact_mod_cast h⟩
end Go.Vm
