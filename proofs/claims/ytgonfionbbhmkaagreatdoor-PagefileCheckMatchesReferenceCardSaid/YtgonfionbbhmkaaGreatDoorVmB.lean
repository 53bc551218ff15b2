/-
  THE V-MACHINE,text B: VmEff2,VmEff3,VmCopy,VmMap,VmCall,VmCall2,VmCall3,VmStr,VmStep,VmRegion,VmRun.
-/
import Derived.Test.YtgonfionbbhmkaaGreatDoorVmA
import Derived.Lib.AppendZerosOnto
import Derived.Laws.IdiomStrings
import Derived.Laws.CopyRow
import Derived.MapKept
import Derived.Laws.BytesString
import Derived.ChangeKeysEq
namespace Go.Vm
def bJ6 (e:Env) (G:dW) (fr':Fr) (a:Act) (w':World):Prop:=∃ S β,Mem e G S β fr' (bQ e a) w'
def kW (y off:Nat):Path→Bool:=fun p=>p.1 == y && p.2 == off+1
theorem xP {y off:Nat} {p:Path} (h:kW y off p=false):p≠(y,off+1):=by
 rintro rfl
 simp [kW] at h
def mR:List AV→List AV→List AV
 | c :: cs,d :: ds=>(match c,d with
  | .slf o E,.d (.v (.pointer none))=>.slf o E
  | _,d=>d) :: mR cs ds
 | _,ds=>ds
theorem aS1:∀ cs ds:List AV,(mR cs ds).length=ds.length
 | [],ds=>by simp [mR]
 | c :: cs,[]=>by simp [mR]
 | c :: cs,d :: ds=>by simp [mR,aS1 cs ds]
theorem aE0:∀ (cs ds:List AV) (j:Nat) (a:AV),(mR cs ds)[j]? = some a→ds[j]? = some a∨(∃ o E,cs[j]? = some (.slf o E)∧ds[j]? = some (.d (.v (.pointer none)))∧a=.slf o E)
 | [],ds,j,a,h=>.inl (by simpa [mR] using h)
 | c :: cs,[],j,a,h=>by simp [mR] at h
 | c :: cs,d :: ds,0,a,h=>by
  simp only [mR,List.getElem?_cons_zero,Option.some.injEq] at h ⊢
  split at h
  ·exact .inr ⟨_,_,rfl,rfl,h.symm⟩
  ·exact .inl h
 | c :: cs,d :: ds,j+1,a,h=>by
  simp only [mR,List.getElem?_cons_succ] at h ⊢
  exact aE0 cs ds j a h
theorem bR3 {cs ds:List AV} {i:Nat} (h:(AV.box (mR cs ds)).aR i=true):(AV.box ds).aR i=true:=by
 cases i with
 | zero=>rfl
 | succ i =>
  simp only [AV.aR] at h ⊢
  cases hg:(mR cs ds)[i]? with
  | none=>simp [hg] at h
  | some a =>
   rw [hg] at h
   rcases aE0 cs ds i a hg with h1 | ⟨o,E,_,_,rfl⟩
   ·rw [h1]; exact h
   ·cases h
def bL4 (fr:Fr) (v:AV):Option (List AV):=match v with
 | .vw p=>match fH fr p with
  | .own _ _ _=>some [.vw p]
  | _=>none
 | v=>bB3 v
def aY1 (P:Program) (N:Nat) (T:TypeId) (hint:Hint) (hes:Option (List (List Dat))) (x:Operand) (addr v:AV) (fr:Fr):Option (Fr×Prop) :=
 match addr,P.info? T with
 | .bp y off,some i =>
  match aX fr y with
  | .box cs =>
   let plainly:Option (Fr×Prop):=match bL4 fr v with
    | some ds=>if ds.length=i.size∧off+ds.length≤cs.length then some ((y,.box (mR cs (spl off ds cs))) :: fr,True) else none
    | none=>none
   match x with
   | .tmp s=>match aX fr s with
    | .own κ sz es=>if s≠y∧s < N∧i.size=1∧off < cs.length then some ((y,.box ((cs.map (AV.dZ (kW y off))).set off (.own κ sz es))) :: vY (kW y off) ((s,.junk) :: fr),True) else none
    | _=>plainly
   | _=>plainly
  | _=>none
 | .ep p sz k off,some i =>
  match fH fr p with
  | .own κ sz' es =>
   match cellsD v with
   | some ds=>if sz=sz'∧ds.length=i.size∧off+ds.length≤sz then
     some (fV fr p (.own κ sz (hes.getD (es.set k (spl off ds hint.cs)))),es[k]? = some hint.cs∧es.set k (spl off ds hint.cs)=hes.getD (es.set k (spl off ds hint.cs)))
    else none
   | none=>none
  | .arr κ sz' es =>
   match cellsD v with
   | some ds=>if sz=sz'∧ds.length=i.size∧off+ds.length≤sz then
     some (fV fr p (.arr κ sz (hes.getD (es.set k (spl off ds hint.cs)))),es[k]? = some hint.cs∧es.set k (spl off ds hint.cs)=hes.getD (es.set k (spl off ds hint.cs)))
    else none
   | none=>none
  | _=>none
 | _,_=>none
section
variable {P:Program} {e:Env} {G:dW} {S:Nat→Prop} {β:Path→Value} {fr:Fr} {w:World} {a:Act}
theorem run_storeVar_row' {T:TypeId} {i:TypeInfo} (hi:P.info? T=some i) (b o:Nat) (arr:Array Value) (E:TypeId) (fz:Nat×Nat) (hb:w.heap[b]? = some (.cells arr E fz)) (hfr:∀ k,k < arr.size→¬ (fz.1≤k∧k < fz.2)) (u:Value) (hsz:u.cells.size=i.size) (hle:o+u.cells.size≤arr.size) (hone:∀ v∈u.cells.toList,v.oneCell'=true) :
  (Instr.storeAt T (.pointer (some ⟨b,o,none⟩)) u).run P w=.ok () (w.setRow b (spl o u.cells.toList arr.toList).toArray):=by
 have:=nC (P:=P) b o E fz u.cells.toList 0 arr w hb hfr (by simpa using hle) hone
 simp only [Instr.storeAt,Instr.sureAddr,Sem.run_bind,Sem.run_pure,Result.andThen_ok,storeVar,sizeOf,typeInfo,run_program,hi,hsz,ne_eq,not_true_eq_false,if_false,this]
 simp [spl]
theorem aS9 {w:World} {b o:Nat} {arr arr':Array Value} {E:TypeId} {fz:Nat×Nat} (hb:w.heap[b]? = some (.cells arr E fz)):aE5 (w.setRow b arr') (.pointer (some ⟨b,o,none⟩))=aE5 w (.pointer (some ⟨b,o,none⟩)):=by
 simp only [aE5,setRow_heap w b _ _ E fz hb,hb]
theorem Mem.bQ7 {vals:Nat→Option Value} (hm:Mem e G S β fr vals w) {y b:Nat} {cs cs':List AV} {l l':List Value} {E:TypeId} (hf:aX fr y=.box cs) (hptr:β (y,0)=.pointer (some ⟨b,0,none⟩)) (hb:w.heap[b]? = some (.cells ⟨l⟩ E (0,0)))
  (_hl:l'.length=l.length) (hparts:kN S w β y cs' l') (hown:∀ i,(AV.box cs').aR i=true→(AV.box cs).aR i=true) :
  Mem e G S β ((y,.box cs') :: fr) vals (w.setRow b ⟨l'⟩):=by
 have hob:(aX fr y).aR 0=true:=by rw [hf]; rfl
 have hbb:blk (β (y,0))=some b:=by rw [hptr]; rfl
 have hother:∀ k,k≠b→(w.setRow b ⟨l'⟩).heap[k]? = w.heap[k]? := fun k hk=>setRow_other w b k _ hk
 have hag:Agree S w (w.setRow b ⟨l'⟩):=fun k hS=>hother k fun h=>(hm.fre y 0 b hob hbb).1 (h ▸ hS)
 have hoth:∀ z j k,(z,j)≠(y,0)→(aX fr z).aR j=true→blk (β (z,j))=some k→(w.setRow b ⟨l'⟩).heap[k]? = w.heap[k]? := by
  intro z j k hne ho hk
  refine hother k fun h=>hne ?_
  subst h
  obtain ⟨h1,h2⟩:=hm.dis z j y 0 k ho hob hk hbb
  rw [h1,h2]
 refine hm.change y (.box cs') (fG y) (aV _ _ _) (fun z hz=>.inl ⟨bL _ _ (Ne.symm hz),fun _=>rfl⟩) (fun _ _ _=>rfl) (fun _ _=>rfl) (fun _ _ _ h=>h) ?_ (fun l a h=>by cases h) ?_ ?_ ?_ (fun _ h=>h) (fun _ h=>.inl h) hag (fun z j k hz ho hk=>hoth z j k (by simp [hz]) ho hk) ?_ (by simp) rfl rfl rfl
 ·obtain ⟨u,hr,hu⟩:=hm.rel y
  rw [hf] at hr
  obtain ⟨h0,b',l0,E',h1,h2,h3⟩:=hr
  refine ⟨u,⟨h0,b,l',E,by rw [h0]; exact hptr,setRow_heap w b _ _ E (0,0) hb,?_⟩,hu⟩
  refine bI.mono hparts fun j c v hc _ hr=>?_
  simp only [Nat.zero_add] at hr ⊢
  refine hr.turn (fun _ h=>h) hag rfl (fun _ _=>⟨rfl,by rw [hptr]; exact aS9 hb⟩) (fun ho k hk=>hoth y (j+1) k (by simp) ?_ hk) (fun _ _=>rfl)
  rw [hf]
  exact hown (j+1) (by simp [AV.aR,hc,ho])
 ·intro i j k h1 h2 h3 h4
  exact (hm.dis y i y j k (by rw [hf]; exact hown i h1) (by rw [hf]; exact hown j h2) h3 h4).2
 ·intro i z j k h1 hz h2 h3 h4
  exact hz (hm.dis y i z j k (by rw [hf]; exact hown i h1) h2 h3 h4).1.symm
 ·intro i k h1 h2
  exact hm.fre y i k (by rw [hf]; exact hown i h1) h2
 ·intro k h1 h2
  refine hother k fun h=>?_
  subst h
  rcases (hm.fre y 0 k hob hbb).2 with h' | h'
  ·omega
  ·exact h2 h'
theorem cI2 {G:dW} {vals:Nat→Option Value} (hm:Mem e G S β fr vals w) {v:AV} {cs:List AV} (h:bL4 fr v=some cs) {u:Value} (hr:bA S w β (0,0) v u) (x:Nat) :
  u.cells.toList.length=cs.length∧kN S w β x cs u.cells.toList∧(∀ c∈cs,c.plain=true)∧∀ v∈u.cells.toList,v.oneCell'=true:=by
 unfold bL4 at h
 split at h
 ·rename_i p
  split at h
  case h_2=>cases h
  rename_i hp
  simp only [Option.some.injEq] at h
  subst h
  have hu:u=β p:=hr
  have ho:=jW hm hp
  rw [← hu] at ho
  have hc:u.cells=#[u]∧u.oneCell'=true:=by
   rcases ho with ⟨h,_⟩ | ⟨b,off,c,arr,E,fz,h,_⟩ <;> (rw [h]; exact ⟨rfl,rfl⟩)
  rw [hc.1]
  exact ⟨rfl,⟨hu,trivial⟩,by simp [AV.plain],by simpa using hc.2⟩
 ·exact bF1 h hr x
theorem bU3 {y:Nat} {cs ds:List AV} {l l':List Value} (h1:kN S w β y cs l) (h2:kN S w β y ds l'):kN S w β y (mR cs ds) l':=by
 refine bI.dJ (by rw [aS1]; exact bI.len h2) fun j a c ha hc=>?_
 rcases aE0 cs ds j a ha with h | ⟨o,E,g1,g2,rfl⟩
 ·obtain ⟨c',hc',hr⟩:=bI.get h2 j a h
  rw [hc] at hc'
  cases hc'
  exact hr
 ·obtain ⟨c1,_,hr1⟩:=bI.get h1 j _ g1
  obtain ⟨c2,hc2,hr2⟩:=bI.get h2 j _ g2
  rw [hc] at hc2
  cases hc2
  exact ⟨hr1.1,hr1.2.1,.inl hr2.1⟩
theorem bO4 {cs ds:List AV} {off:Nat} (h:off+ds.length≤cs.length) {i:Nat} (ho:(AV.box (spl off ds cs)).aR i=true) (hp:∀ c∈ds,c.bV=false):(AV.box cs).aR i=true:=by
 cases i with
 | zero=>rfl
 | succ i =>
  simp only [AV.aR] at ho ⊢
  rw [fB h] at ho
  split at ho
  ·cases hd:ds[i - off]? with
   | none=>simp [hd] at ho
   | some c =>
    have:=hp c (List.mem_of_getElem? hd)
    simp [hd,this] at ho
  ·exact ho
theorem REs.store {S:Nat→Prop} {w:World} {es:List (List Dat)} {ocs ds:List Dat} {arr:Array Value} {l:List Value} {o sz k off:Nat} (hcs:REs S w sz es (fun j=>arr[j]?) o) (hk:es[k]? = some ocs) (hd:RCs S w ds (fun j=>l[j]?) 0) (hl:l.length=ds.length) (hle:off+ds.length≤sz) (hsle:o+(k * sz+off)+l.length≤arr.toList.length) :
  REs S w sz (es.set k (spl off ds ocs)) (fun j=>(spl (o+(k * sz+off)) l arr.toList).toArray[j]?) o:=by
 have hklt:k < es.length:=(List.getElem?_eq_some_iff.1 hk).1
 have hele:=REs.get es o k ocs hcs hk
 refine REs.dJ _ _ fun j x' hj=>?_
 rw [List.getElem?_set] at hj
 by_cases hkj:k=j
 ·subst hkj
  rw [if_pos rfl,if_pos hklt] at hj
  simp only [Option.some.injEq] at hj
  subst hj
  have hsl:off+ds.length≤ocs.length:=by rw [hele.1]; exact hle
  refine ⟨by rw [gN hsl]; exact hele.1,RCs.dJ _ _ fun m y hm'=>?_⟩
  rw [fB hsl] at hm'
  simp only [List.getElem?_toArray]
  rw [fB hsle]
  split at hm'
  ·rename_i hin
   obtain ⟨v,hv,hrv⟩:=RCs.get ds 0 (m - off) y hd hm'
   refine ⟨v,?_,hrv⟩
   rw [if_pos (by omega)]
   simp only [Nat.zero_add] at hv
   rw [← hv]
   congr 1
   omega
  ·rename_i hin
   obtain ⟨v,hv,hrv⟩:=RCs.get ocs _ m y hele.2 hm'
   refine ⟨v,?_,hrv⟩
   rw [if_neg (by omega)]
   simpa using hv
 ·rw [if_neg hkj] at hj
  obtain ⟨h5,h6⟩:=REs.get es o j x' hcs hj
  refine ⟨h5,RCs.congr _ _ _ (fun m hm'=>?_) h6⟩
  simp only [List.getElem?_toArray]
  rw [fB hsle,if_neg]
  ·simp
  ·rw [h5] at hm'
   intro hcon
   rcases Nat.lt_or_ge j k with hlt | hge
   ·have:(j+1) * sz≤k * sz:=Nat.mul_le_mul_right _ hlt
    rw [Nat.add_mul,Nat.one_mul] at this
    omega
   ·have:(k+1) * sz≤j * sz:=Nat.mul_le_mul_right _ (by omega)
    rw [Nat.add_mul,Nat.one_mul] at this
    omega
theorem bO3 {N:Nat} (hN:a.tmps.size=N) (hm:Mem e G S β fr (bQ e a) w) {T:TypeId} {hint:Hint} {hes:Option (List (List Dat))} {x:Operand} {addr:AV} {fr':Fr} {obl:Prop}
  (h:aY1 P N T hint hes x addr (gG N [] fr x) fr=some (fr',obl)) (ho:obl) {u:Value} (hr:bA S w β (0,0) addr u) :
  ∃ w',(Instr.storeAt T u (a.eval x)).run P w=.ok () w'∧bJ6 e G fr' a w':=by
 have hval:=pR hm hN [] rfl x
 unfold aY1 at h
 split at h
 ·rename_i y off i hi
  split at h
  case h_2=>cases h
  rename_i cs hf
  obtain ⟨b,hptr,rfl⟩:=hr
  have hbox:∃ l E,w.heap[b]? = some (.cells ⟨l⟩ E (0,0))∧kN S w β y cs l:=by
   obtain ⟨u',hr',_⟩:=hm.rel y
   rw [hf] at hr'
   obtain ⟨h0,b',l,E,h2,h3,h4⟩:=hr'
   rw [← h0,h2] at hptr
   simp only [Value.pointer.injEq,Option.some.injEq,Addr.mk.injEq] at hptr
   obtain ⟨rfl,_⟩:=hptr
   exact ⟨l,E,h3,h4⟩
  obtain ⟨l,E,hb,hparts⟩:=hbox
  have hlen:l.length=cs.length:=(bI.len hparts).symm
  have plainly:(match bL4 fr (gG N [] fr x) with
    | some ds=>if ds.length=i.size∧off+ds.length≤cs.length then some ((y,AV.box (mR cs (spl off ds cs))) :: fr,True) else none
    | none=>none)=some (fr',obl)→∃ w',(Instr.storeAt T (.pointer (some ⟨b,off,none⟩)) (a.eval x)).run P w=.ok () w'∧bJ6 e G fr' a w':=by
   intro h
   split at h
   case h_2=>cases h
   rename_i ds hds
   split at h
   case isFalse=>cases h
   rename_i hc
   simp only [Option.some.injEq,Prod.mk.injEq] at h
   obtain ⟨rfl,_⟩:=h
   obtain ⟨h1,h2,h3,h4⟩:=cI2 hm hds hval y
   have hl2:(a.eval x).cells.size=ds.length:=by simpa using h1
   have hrun:=run_storeVar_row' hi b off ⟨l⟩ E (0,0) hb (fun k _ h=>by simp at h) (a.eval x) (by rw [hl2]; exact hc.1) (by rw [hl2]; simpa [hlen] using hc.2) h4
   refine ⟨_,hrun,S,β,hm.bQ7 hf hptr hb (gN (by simp; omega)) ?_ (fun i ho=>bO4 hc.2 (bR3 ho) fun c hc=>fJ (h3 c hc))⟩
   refine bU3 hparts ?_
   refine bI.dJ (by rw [gN hc.2,gN (by simp; omega)]; exact bI.len hparts) fun j p c hp hcj=>?_
   rw [fB hc.2] at hp
   rw [fB (by simp; omega)] at hcj
   rw [h1] at hcj
   split at hp
   ·rename_i hin
    rw [if_pos hin] at hcj
    obtain ⟨c',hc',hrc⟩:=bI.get h2 (j - off) p hp
    rw [hcj] at hc'
    cases hc'
    exact nN (h3 p (List.mem_of_getElem? hp)) hrc
   ·rename_i hin
    rw [if_neg hin] at hcj
    obtain ⟨c',hc',hrc⟩:=bI.get hparts j p hp
    rw [hcj] at hc'
    cases hc'
    exact hrc
  simp only at h
  split at h
  case h_2=>exact plainly h
  rename_i s
  split at h
  case h_2=>exact plainly h
  rename_i κ sz es hs
  split at h
  case isFalse=>cases h
  rename_i hc
  obtain ⟨hsy,hsN,hi1,hoff⟩:=hc
  simp only [Option.some.injEq,Prod.mk.injEq] at h
  obtain ⟨rfl,_⟩:=h
  -- the owner of slot s goes into the cell (y,off + 1)
  have hsl:s < a.tmps.size:=by rw [hN]; exact hsN
  have hd:=hm.drop s
  have hfd:aX ((s,AV.junk) :: fr) y=.box cs:=by rw [bL _ _ hsy]; exact hf
  obtain ⟨u0,hr0,hu0⟩:=hm.rel s
  have hus:a.eval (.tmp s)=u0:=hu0 _ (lL hsl)
  rw [hs] at hr0
  have hown:OwnAt S w u0 κ sz es:=hr0.2
  have hub:u0=β (s,0):=hr0.1
  have hcells:(a.eval (.tmp s)).cells=#[u0]:=by
   rw [hus]
   rcases hown with ⟨h,_⟩ | ⟨b,off,c,arr,E,fz,h,_⟩ <;> (rw [h]; rfl)
  have hone:u0.oneCell'=true:=by
   rcases hown with ⟨h,_⟩ | ⟨b,off,c,arr,E,fz,h,_⟩ <;> (rw [h]; rfl)
  have hrun:=run_storeVar_row' hi b off ⟨l⟩ E (0,0) hb (fun k _ h=>by simp at h) (a.eval (.tmp s)) (by rw [hcells,hi1]; rfl) (by rw [hcells]; simp; omega) (by rw [hcells]; simpa using hone)
  rw [hcells] at hrun
  have hob:(aX fr y).aR 0=true:=by rw [hf]; rfl
  have hbb:blk (β (y,0))=some b:=by rw [hptr]; rfl
  have hos:(aX fr s).aR 0=true:=by rw [hs]; rfl
  have hsb:∀ k,blk (β (s,0))=some k→k≠b:=by
   intro k hk h
   subst h
   exact hsy (hm.dis s 0 y 0 k hos hob hk hbb).1
  let w':=w.setRow b (spl off [u0] l).toArray
  have hother:∀ k,k≠b→w'.heap[k]? = w.heap[k]? := fun k hk=>setRow_other w b k _ hk
  have hag:Agree S w w':=fun k hS=>hother k fun h=>(hm.fre y 0 b hob hbb).1 (h ▸ hS)
  have hoth:∀ z j k,(z,j)≠(y,0)→(aX fr z).aR j=true→blk (β (z,j))=some k→w'.heap[k]? = w.heap[k]? := by
   intro z j k hne ho hk
   refine hother k fun h=>hne ?_
   subst h
   obtain ⟨h1,h2⟩:=hm.dis z j y 0 k ho hob hk hbb
   rw [h1,h2]
  have hcase:∀ i,(AV.box ((cs.map (AV.dZ (kW y off))).set off (.own κ sz es))).aR i=true→i=off+1∨(i≠off+1∧(aX fr y).aR i=true):=by
   intro i h
   rcases iG h with ⟨h1,_⟩ | ⟨h1,h2⟩
   ·exact .inl h1
   ·refine .inr ⟨h1,?_⟩
    rw [hf]
    exact AV.fU (kW y off) (.box cs) i h2
  have hdrop:∀ z j,(aX ((s,AV.junk) :: fr) z).aR j=true→z≠s∧(aX fr z).aR j=true:=by
   intro z j h
   by_cases hz:z=s
   ·subst hz
    rw [aV] at h
    cases j <;> simp [AV.aR,AV.bV] at h
   ·rw [bL _ _ (Ne.symm hz)] at h
    exact ⟨hz,h⟩
  have hnew:∀ i k,(AV.box ((cs.map (AV.dZ (kW y off))).set off (.own κ sz es))).aR i=true→blk ((fun p=>if p=(y,off+1) then β (s,0) else β p) (y,i))=some k →
    (i=off+1∧blk (β (s,0))=some k)∨(i≠off+1∧(aX fr y).aR i=true∧blk (β (y,i))=some k):=by
   intro i k h1 h2
   rcases hcase i h1 with rfl | ⟨h3,h4⟩
   ·simp only [if_true] at h2
    exact .inl ⟨rfl,h2⟩
   ·have:(y,i)≠(y,off+1):=by simp; exact h3
    simp only [this,if_false] at h2
    exact .inr ⟨h3,h4,h2⟩
  refine ⟨w',hrun,S,fun p=>if p=(y,off+1) then β (s,0) else β p,?_⟩
  refine hd.change y (.box ((cs.map (AV.dZ (kW y off))).set off (.own κ sz es))) (kW y off) (aV _ _ _) (fun z hz=>.inr ?_) (fun z j hz=>by simp [hz]) (fun p hp=>if_neg (xP hp)) (fun _ _ _ h=>h) ?_ (fun l a h=>by cases h) ?_ ?_ ?_ (fun _ h=>h) (fun _ h=>.inl h) hag (fun z j k hz ho hk=>hoth z j k (by simp [hz]) (hdrop z j ho).2 hk) ?_ (by simp [w']) rfl rfl rfl
  ·rw [bL _ _ (Ne.symm hz)]
   exact nM _ z _
  ·obtain ⟨u,hr,hu⟩:=hm.rel y
   rw [hf] at hr
   obtain ⟨h0,_⟩:=hr
   refine ⟨u,⟨by simpa using h0,b,spl off [u0] l,E,by rw [h0]; exact hptr,setRow_heap w b _ _ E (0,0) hb,?_⟩,hu⟩
   refine bI.dJ (by rw [gN (by simp; omega)]; simpa using bI.len hparts) fun j p c hp hcj=>?_
   rw [List.getElem?_set] at hp
   rw [fB (by simp; omega)] at hcj
   simp only [List.length_cons,List.length_nil,Nat.zero_add] at hcj
   by_cases hj:off=j
   ·subst hj
    rw [if_pos rfl,if_pos (by simp; omega)] at hp
    simp only [Option.some.injEq] at hp
    subst hp
    rw [if_pos (by omega)] at hcj
    simp only [Nat.sub_self,List.getElem?_cons_zero,Option.some.injEq] at hcj
    subst hcj
    refine ⟨by simpa using hub,hown.turn (fun _ h=>h) hag fun k hk=>hother k (hsb k (by rw [← hub]; exact hk))⟩
   ·rw [if_neg hj] at hp
    rw [if_neg (by omega)] at hcj
    simp only [List.getElem?_map,Option.map_eq_some_iff] at hp
    obtain ⟨p0,hp0,rfl⟩:=hp
    obtain ⟨c',hc',hrc⟩:=bI.get hparts j p0 hp0
    rw [hcj] at hc'
    cases hc'
    simp only [Nat.zero_add] at hrc ⊢
    refine (hrc.dS (kW y off)).turn (fun _ h=>h) hag ?_ (fun _ _=>⟨by simp,by rw [hptr]; exact aS9 hb⟩) (fun ho k hk=>hoth y (j+1) k (by simp) ?_ hk) fun q hq=>?_
    ·have:(y,j+1)≠(y,off+1):=by simp; omega
     simp [this]
    ·rw [hf]
     simp [AV.aR,hp0,AV.zK _ _ ho]
    ·exact if_neg (xP (AV.lH (AV.tK _ _ hq)).1)
  ·intro i j k h1 h2 h3 h4
   rcases hnew i k h1 h3 with ⟨rfl,h5⟩ | ⟨_,h5,h6⟩ <;> rcases hnew j k h2 h4 with ⟨rfl,h7⟩ | ⟨_,h7,h8⟩
   ·rfl
   ·exact absurd (hm.dis s 0 y j k hos h7 h5 h8).1 hsy
   ·exact absurd (hm.dis s 0 y i k hos h5 h7 h6).1 hsy
   ·exact (hm.dis y i y j k h5 h7 h6 h8).2
  ·intro i z j k h1 hz h2 h3 h4
   obtain ⟨hzs,h2'⟩:=hdrop z j h2
   rcases hnew i k h1 h3 with ⟨rfl,h5⟩ | ⟨_,h5,h6⟩
   ·exact hzs (hm.dis z j s 0 k h2' hos h4 h5).1
   ·exact hz (hm.dis y i z j k h5 h2' h6 h4).1.symm
  ·intro i k h1 h2
   rcases hnew i k h1 h2 with ⟨rfl,h5⟩ | ⟨_,h5,h6⟩
   ·exact hm.fre s 0 k hos h5
   ·exact hm.fre y i k h5 h6
  ·intro k h1 h2
   refine hother k fun h=>?_
   subst h
   rcases (hm.fre y 0 k hob hbb).2 with h' | h'
   ·omega
   ·exact h2 h'
 ·rename_i p sz k off i hi
  split at h
  ·rename_i κ sz' es hp
   split at h
   case h_2=>cases h
   rename_i ds hds
   split at h
   case isFalse=>cases h
   rename_i hc
   obtain ⟨rfl,hdl,hle⟩:=hc
   simp only [Option.some.injEq,Prod.mk.injEq] at h
   obtain ⟨rfl,rfl⟩:=h
   obtain ⟨ho1,ho2⟩:=ho
   rw [← ho2]
   obtain ⟨b,o,hptr,rfl⟩:=hr
   have hown:=jW hm hp
   rcases hown with ⟨_,rfl⟩ | ⟨b',o',c',arr,E,fz,h1,h2,h3,hfr,hb,hκ,hcs⟩
   ·simp at ho1
   rw [h1] at hptr
   rcases hptr with ⟨n,c,hptr⟩ | hptr
   case inr=>cases hptr
   simp only [Value.slice.injEq,Option.some.injEq,Addr.mk.injEq] at hptr
   obtain ⟨⟨rfl,rfl,_⟩,rfl,rfl⟩:=hptr
   obtain ⟨hd1,hd2⟩:=yK hds hval (fun x v=>xB x v)
   have hl2:(a.eval x).cells.size=ds.length:=by simpa using hd1
   have hk:k < es.length:=(List.getElem?_eq_some_iff.1 ho1).1
   have hks:k * sz+sz≤es.length * sz:=by
    have:(k+1) * sz≤es.length * sz:=Nat.mul_le_mul_right _ hk
    rwa [Nat.add_mul,Nat.one_mul] at this
   have hcap:o'+es.length * sz≤arr.size:=Nat.le_trans (Nat.add_le_add_left (Nat.mul_le_mul_right _ h2) _) h3
   have hsle:o'+(k * sz+off)+(a.eval x).cells.toList.length≤arr.toList.length:=by simp [hl2]; omega
   have hrun:=run_storeVar_row' hi b' (o'+(k * sz+off)) arr E fz hb hfr.out (a.eval x) (by omega) (by simpa using hsle) (RCs.one hd2 hd1)
   have how:=kH hp
   have hbb:blk (β p)=some b':=by rw [h1]; rfl
   have hag:Agree S w (w.setRow b' (spl (o'+(k * sz+off)) (a.eval x).cells.toList arr.toList).toArray):=fun j hS=>setRow_other w b' j _ fun h=>(hm.fre p.1 p.2 b' how hbb).1 (h ▸ hS)
   refine ⟨_,hrun,S,β,hm.fV hp rfl ⟨rfl,.inr ⟨b',o',c',_,E,fz,by rw [h1]; simp,by simpa using h2,?_,?_,setRow_heap w b' _ _ E fz hb,hκ.len (by simp),?_⟩⟩ (fun _ h=>h) (fun _ h=>.inl h) (fun j hj=>setRow_other w b' j _ fun h=>hj (by rw [h]; exact hbb)) (by simp) rfl rfl rfl⟩
   ·rw [List.size_toArray,gN hsle]
    simpa using h3
   ·rw [List.size_toArray,gN hsle]
    simpa using hfr
   ·exact REs.mono (fun _ h=>h) hag _ _ _ _ (REs.store hcs ho1 hd2 hd1 hle hsle)
  ·rename_i κ sz' es hp
   split at h
   case h_2=>cases h
   rename_i ds hds
   split at h
   case isFalse=>cases h
   rename_i hc
   obtain ⟨rfl,hdl,hle⟩:=hc
   simp only [Option.some.injEq,Prod.mk.injEq] at h
   obtain ⟨rfl,rfl⟩:=h
   obtain ⟨ho1,ho2⟩:=ho
   rw [← ho2]
   obtain ⟨b,o,hptr,rfl⟩:=hr
   obtain ⟨b',arr,h1,h2,hb,hcs⟩:=wE hm hp
   rw [h1] at hptr
   rcases hptr with ⟨n,c,hptr⟩ | hptr
   ·cases hptr
   simp only [Value.pointer.injEq,Option.some.injEq,Addr.mk.injEq] at hptr
   obtain ⟨rfl,rfl,_⟩:=hptr
   obtain ⟨hd1,hd2⟩:=yK hds hval (fun x v=>xB x v)
   have hl2:(a.eval x).cells.size=ds.length:=by simpa using hd1
   have hk:k < es.length:=(List.getElem?_eq_some_iff.1 ho1).1
   have hks:k * sz+sz≤es.length * sz:=by
    have:(k+1) * sz≤es.length * sz:=Nat.mul_le_mul_right _ hk
    rwa [Nat.add_mul,Nat.one_mul] at this
   have hsle:0+(k * sz+off)+(a.eval x).cells.toList.length≤arr.toList.length:=by simp [hl2]; omega
   have hrun:=run_storeVar_row' hi b' (0+(k * sz+off)) arr κ (0,0) hb (fun _ _ h=>by simp at h) (a.eval x) (by omega) (by simpa using hsle) (RCs.one hd2 hd1)
   have how:=bW3 (a0:=.arr κ sz es) rfl hp
   have hbb:blk (β p)=some b':=by rw [h1]; rfl
   have hag:Agree S w (w.setRow b' (spl (0+(k * sz+off)) (a.eval x).cells.toList arr.toList).toArray):=fun j hS=>setRow_other w b' j _ fun h=>(hm.fre p.1 p.2 b' how hbb).1 (h ▸ hS)
   refine ⟨_,hrun,S,β,hm.bZ9 (a0:=.arr κ sz es) rfl hp rfl ⟨rfl,b',_,h1,?_,setRow_heap w b' _ _ κ (0,0) hb,?_⟩ (fun _ h=>h) (fun _ h=>.inl h) (fun j hj=>setRow_other w b' j _ fun h=>hj (by rw [h]; exact hbb)) (by simp) rfl rfl rfl⟩
   ·rw [List.size_toArray,gN hsle]
    simpa using h2
   ·exact REs.mono (fun _ h=>h) hag _ _ _ _ (REs.store hcs ho1 hd2 hd1 hle hsle)
  ·cases h
 ·cases h
end
end Go.Vm
namespace Go.Vm
section
variable {P:Program} {e:Env} {G:dW} {S:Nat→Prop} {β:Path→Value} {fr:Fr} {w:World} {a:Act}
def bX9 (P:Program) (t2 size:Nat) (fr:Fr) (v2:AV):Option (List (List Dat)) :=
 match P.underlying t2 with
 | some (.slice _)=>match slv fr v2 with
  | some (sz,es)=>if sz=size then some es else match es with
   | []=>some []
   | _=>none
  | none=>none
 | some .string=>match v2 with
  | .d (.str l)=>if size=1 then some (byteCells l) else none
  | _=>none
 | _=>none
theorem cF2 (hm:Mem e G S β fr (bQ e a) w) {t2 size:Nat} {v2:AV} {nes:List (List Dat)} (h:bX9 P t2 size fr v2=some nes) {x:Value} (hr:bA S w β (0,0) v2 x) :
  ∃ news,Src P w t2 size x nes.length news∧REs S w size nes (fun j=>news[j]?) 0:=by
 unfold bX9 at h
 split at h
 ·rename_i E hu
  split at h
  case h_2=>cases h
  rename_i sz es hs
  have hat:=bV4 hm hs hr
  split at h
  ·rename_i he
   subst he
   simp only [Option.some.injEq] at h
   subst h
   exact cN5 hu hat
  ·split at h
   ·simp only [Option.some.injEq] at h
    subst h
    refine cN5 (sz:=size) hu ?_
    rcases hat with h | ⟨b,o,c,arr,E',fz,h1,h2,h3,_⟩
    ·exact .inl h
    ·exact .inr ⟨b,o,c,arr,E',fz,h1,h2,h3,by simp [REs]⟩
   ·cases h
 ·rename_i hu
  split at h
  ·rename_i l
   split at h
   ·rename_i hs
    subst hs
    simp only [Option.some.injEq] at h
    subst h
    have:x=strOf l:=hr
    subst this
    exact cS3 hu
   ·cases h
  ·cases h
 ·cases h
def aK6 (P:Program) (t1 t2:TypeId) (dst:Nat) (hes:Option (List (List Dat))) (v1 v2:AV) (fr:Fr):Option (Fr×Prop) :=
 match P.underlying t1 with
 | some (.slice E) =>
  match P.info? E,aS6 P E with
  | some i,some _ =>
   match bX9 P t2 i.size fr v2 with
   | some nes =>
    if i.bytes≤32768∧E < 1099511627776 then
     match v1 with
     | .d (.v (.slice none 0 0))=>some (gM dst (.own E i.size (hes.getD nes)) fr,nes.length≤4294967296∧nes=hes.getD nes)
     | .vw p=>match fH fr p with
      | .own κ sz es=>if sz=i.size∧(κ=E∨κ=E+2199023255552) then some (gM dst (.own κ i.size (hes.getD (es++nes))) (fV fr p .junk),es.length+nes.length≤4294967296∧es++nes=hes.getD (es++nes)) else none
      | _=>none
     | _=>none
    else none
   | none=>none
  | _,_=>none
 | _=>none
theorem bK0 (hm:Mem e G S β fr (bQ e a) w) {t1 t2 ty dst:Nat} (ht:dst < a.tmps.size) {hes:Option (List (List Dat))} {v1 v2:AV} {fr':Fr} {obl:Prop}
  (h:aK6 P t1 t2 dst hes v1 v2 fr=some (fr',obl)) (ho:obl) {u x:Value} (h1:bA S w β (0,0) v1 u) (h2:bA S w β (0,0) v2 x) :
  ∃ v w',(Builtin.append_ #[t1,t2] ty #[u,x]).run P w=.ok v w'∧After e G fr' a dst v w':=by
 unfold aK6 at h
 split at h
 case h_2=>cases h
 rename_i E hu
 split at h
 case h_2=>cases h
 rename_i i zs hi hz
 obtain ⟨i',z,hi',hzz,hsz,_⟩:=xW hz
 rw [hi] at hi'
 cases hi'
 split at h
 case h_2=>cases h
 rename_i nes hsrc
 split at h
 case isFalse=>cases h
 rename_i hbytes
 obtain ⟨hbytes,hE40⟩:=hbytes
 obtain ⟨news,hS,hREs⟩:=cF2 hm hsrc h2
 have fits:∀ n:Nat,n≤4294967296→n * i.bytes≤140737488355328:=by
  intro n hn
  have:=Nat.mul_le_mul hn hbytes
  omega
 -- the result of aW7,put into slot dst,over the frame fr0 in which p's place is empty
 have finish:∀ (κ:TypeId),(κ=E∨κ=E+2199023255552)→∀ (fr0:Fr) (es:List (List Dat)),Mem e G S β fr0 (bQ e a) w→OwnAt S w u κ i.size es→(∀ b,blk u=some b→¬ S b∧cJ7 e S β fr0 dst b)→es.length+nes.length≤4294967296 →
   ∃ v w',(Builtin.append_ #[t1,t2] ty #[u,x]).run P w=.ok v w'∧After e G (gM dst (.own κ i.size (es++nes)) fr0) a dst v w':=by
  intro κ hκ0 fr0 es hm0 hown hfree hlen
  obtain ⟨v,w',hrun,hown',hoth,hsize,hos,htape,hout,hblk⟩:=aW7 (ty:=ty) hE40 hκ0 hu hi hzz hsz hown (fun b hb=>(hfree b hb).1) (fun b hb=>(hm.stb b hb).1) hS hREs (by omega) (fits _ hlen)
  refine ⟨v,w',hrun,S,_,hm0.uC dst _ v (fun _=>v) w' _ (fI a dst v ht) (fT a dst v ht) ((dD rfl).2 ⟨by simp,hown'⟩) (fun l a h=>by cases h) ?_ ?_ ?_ hsize hos htape hout⟩
  ·intro j b _ hb
   rcases hblk b hb with h | h
   ·exact (hfree b h).2
   ·subst h
    exact hm0.oW dst _ (Nat.le_refl _)
  ·intro i j b h1 h2 _ _
   cases i <;> cases j <;> simp [AV.aR] at h1 h2 ⊢
  ·intro b hb
   by_cases hbu:blk u=some b
   ·exact .inr (hfree b hbu).2
   ·exact .inl (hoth b hb hbu)
 split at h
 ·simp only [Option.some.injEq,Prod.mk.injEq] at h
  obtain ⟨rfl,rfl⟩:=h
  rw [← ho.2]
  have huu:u=.slice none 0 0:=h1.1
  have:=finish E (.inl rfl) fr [] hm (.inl ⟨huu,rfl⟩) (fun b hb=>by rw [huu] at hb; simp [blk] at hb) (by simpa using ho.1)
  simpa using this
 ·rename_i p
  split at h
  case h_2=>cases h
  rename_i κ sz es hp
  split at h
  case isFalse=>cases h
  rename_i hs
  obtain ⟨rfl,hκ0⟩:=hs
  simp only [Option.some.injEq,Prod.mk.injEq] at h
  obtain ⟨rfl,rfl⟩:=h
  rw [← ho.2]
  have huu:u=β p:=h1
  have how:=kH hp
  refine finish κ hκ0 (fV fr p .junk) es (hm.bX6 hp) (by rw [huu]; exact jW hm hp) (fun b hb=>?_) ho.1
  rw [huu] at hb
  exact ⟨(hm.fre p.1 p.2 b how hb).1,hm.vE hp dst b hb⟩
 ·cases h
def aK4 (P:Program) (t1 t2:TypeId) (dst:Nat) (hes:Option (List (List Dat))) (v1 v2:AV) (fr:Fr):Option (Fr×Prop) :=
 match P.underlying t1,P.underlying t2,v1,v2 with
 | some (.slice E),some (.int _),.d (.v (.slice none 0 0)),.d (.v (.int _ n)) =>
  match P.info? E,aS6 P E with
  | some i,some zs=>if (0 < i.size∧i.bytes≤32768)∧E < 1099511627776 then some (gM dst (.own E i.size (hes.getD (List.replicate n.toNat zs))) fr,(0 < n∧n≤4294967296)∧List.replicate n.toNat zs=hes.getD (List.replicate n.toNat zs)) else none
  | _,_=>none
 | _,_,_,_=>none
theorem bD6 (hm:Mem e G S β fr (bQ e a) w) {t1 t2 ty dst:Nat} (ht:dst < a.tmps.size) {hes:Option (List (List Dat))} {v1 v2:AV} {fr':Fr} {obl:Prop}
  (h:aK4 P t1 t2 dst hes v1 v2 fr=some (fr',obl)) (ho:obl) {u x:Value} (h1:bA S w β (0,0) v1 u) (h2:bA S w β (0,0) v2 x) :
  ∃ v w',(Builtin.append_ #[t1,t2] ty #[u,x]).run P w=.ok v w'∧After e G fr' a dst v w':=by
 unfold aK4 at h
 split at h
 case h_2=>cases h
 rename_i E kn kq n hu hn
 split at h
 case h_2=>cases h
 rename_i i zs hi hz
 obtain ⟨i',z,hi',hzz,hsz,hlen,hone,hcs⟩:=xW hz
 rw [hi] at hi'
 cases hi'
 split at h
 case isFalse=>cases h
 rename_i hc
 obtain ⟨hc,hE40⟩:=hc
 simp only [Option.some.injEq,Prod.mk.injEq] at h
 obtain ⟨rfl,rfl⟩:=h
 obtain ⟨⟨ho1,ho2⟩,ho3⟩:=ho
 have huu:u=.slice none 0 0:=h1.1
 have hxx:x=.int kq n:=h2.1
 subst huu hxx
 obtain ⟨k,rfl⟩:∃ k:Nat,n=k:=⟨n.toNat,by omega⟩
 simp only [Int.toNat_natCast] at ho3 ⊢
 rw [← ho3]
 have hbytes:k * i.bytes≤140737488355328:=by
  have:=Nat.mul_le_mul (show k≤4294967296 by omega) hc.2
  omega
 have hold:(Builtin.firstCells i.size 0 (.slice none 0 0)).run P w.drew=.ok ([]:List Value).toArray w.drew:=by simp [Builtin.firstCells]
 have hr:=Lib.run_append_grow_zeros w t1 t2 ty E i z kq kn hu hn hi hzz none 0 0 [] hold k (by omega) hc.1 (by omega) (by omega) (by omega) (growslice_fits (by omega) (by simpa using hbytes))
 have hge:0+k≤grownCap w (0+k) 0 E:=grownCap_ge w _ _ _
 refine ⟨_,_,hr,S,_,hm.uC dst _ _ (fun _=>.slice (some ⟨w.heap.size,0,none⟩) (0+k) (grownCap w (0+k) 0 E)) _ _ (fI a dst _ ht) (fT a dst _ ht) ((dD rfl).2 ⟨by simp,.inr ⟨w.heap.size,0,grownCap w (0+k) 0 E,_,E,(0,0),by simp,by simpa using hge,?_,?_,heap_alloc_new w.drew _,?_⟩⟩) (fun l a h=>by cases h) ?_ ?_ (fun b hb=>.inl (heap_alloc_old w.drew _ hb)) (by simp) rfl rfl rfl⟩
 ·simp only [Nat.zero_add] at hge
  simp only [Array.size_append,List.size_toArray,size_zeroCells,hsz,List.length_nil,← Nat.add_mul,Nat.zero_add]
  refine Nat.le_of_eq (congrArg (· * i.size) ?_)
  omega
 ·exact .inl rfl
 ·have:=xG (S:=S) (w:=w.drew.alloc (.cells (([]:List Value).toArray++Builtin.zeroCells z.cells k++Builtin.zeroCells z.cells (grownCap w (0+k) 0 E - (0+k))) E)) (hcs S _) hlen (by simp [hsz]) k (fun j=>z.cells[j % z.cells.size]!) (fun j hj=>by
   have hpos:0 < i.size:=hc.1
   have hlt:j % z.cells.size < z.cells.size:=Nat.mod_lt _ (by omega)
   rw [← hsz]
   simp [getElem!_pos,hlt]) k (Nat.le_refl _)
  refine ⟨KOk.new hE40,REs.congr _ 0 0 (fun j hj=>?_) this⟩
  have hj':j < k * i.size:=by simpa using hj
  simp only [Nat.zero_add]
  rw [Array.getElem?_append_left (by simp [size_zeroCells,hsz]; exact hj')]
  simp only [Builtin.zeroCells,hsz,List.getElem?_map]
  congr 1
  rw [List.getElem?_range hj',Array.getElem?_eq_getElem (by simpa using hj')]
  simp
 ·intro j b _ hb
  simp only [blk,Option.some.injEq] at hb
  subst hb
  exact hm.oW dst _ (Nat.le_refl _)
 ·intro i j b h1 h2 _ _
  cases i <;> cases j <;> simp [AV.aR] at h1 h2 ⊢
def bU4 (P:Program) (t:TypeId) (dst:Nat) (hes:Option (List (List Dat))) (v hi:AV) (fr:Fr):Option (Fr×Prop) :=
 match P.underlying t,v,hi with
 | some (.slice E),.vw p,.d (.v (.int _ n)) =>
  match P.info? E,fH fr p with
  | some i,.own κ sz es=>if sz=i.size∧κ < 2199023255552 then some (gM dst (.own κ sz (hes.getD (es.take n.toNat))) (fV fr p .junk),(0≤n∧n≤(es.length:Int))∧es.take n.toNat=hes.getD (es.take n.toNat)) else none
  | _,_=>none
 | _,_,_=>none
theorem cG0 (hm:Mem e G S β fr (bQ e a) w) {t:TypeId} {dst:Nat} (ht:dst < a.tmps.size) {hes:Option (List (List Dat))} {v hi:AV} {fr':Fr} {obl:Prop}
  (h:bU4 P t dst hes v hi fr=some (fr',obl)) (ho:obl) {u x:Value} (h1:bA S w β (0,0) v u) (h2:bA S w β (0,0) hi x) :
  ∃ r,(Instr.sliceAt t u none (some x) none).run P w=.ok r w∧After e G fr' a dst r w:=by
 unfold bU4 at h
 split at h
 case h_2=>cases h
 rename_i E p k n hu
 split at h
 case h_2=>cases h
 rename_i i κ sz es hi' hp
 split at h
 case isFalse=>cases h
 rename_i hsz
 obtain ⟨hsz,hκlt⟩:=hsz
 subst hsz
 simp only [Option.some.injEq,Prod.mk.injEq] at h
 obtain ⟨rfl,rfl⟩:=h
 obtain ⟨⟨ho1,ho2⟩,ho3⟩:=ho
 rw [← ho3]
 have huu:u=β p:=h1
 have how:=kH hp
 have hel:P.elem t=E:=by simp [Program.elem,hu]
 have hrun:∀ (ad:Option Addr) (cap:Nat),es.length≤cap→(Instr.sliceAt t (.slice ad es.length cap) none (some x) none).run P w=.ok (.slice (if cap=0 then ad else ad.map (·.add (0 * i.size))) n.toNat cap) w:=by
  intro ad cap hcap
  have hb:=aF6 (P:=P) (S:=S) (w:=w) (β:=β) (isSlice:=true) (len:=es.length) (cap:=cap) (lo:=none) (hi:=some (.d (.v (.int k n)))) (c:=(0,n)) rfl (by exact ⟨Int.le_refl _,ho1,ho2⟩) hcap (ulo:=none) (uhi:=some x) (fun a h=>by cases h) (fun _=>rfl) (fun a h=>by cases h; exact ⟨x,rfl,h2⟩) (fun h=>by cases h)
  rw [run_sliceAt_slice w t _ none (some x) none (by rw [hel]; exact hu)]
  simp only [Instr.slice,Sem.run_bind,run_underlying hu,Result.andThen_ok,hb,sizeOf,typeInfo,run_program,hi',Sem.run_pure]
  simp
 have hown:=jW hm hp
 have finish:∀ (r:Value),OwnAt S w r κ i.size (es.take n.toNat)→(∀ b,blk r=some b→blk u=some b)→After e G (gM dst (.own κ i.size (es.take n.toNat)) (fV fr p .junk)) a dst r w:=by
  intro r hr hb
  refine ⟨S,_,(hm.bX6 hp).uC dst _ r (fun _=>r) w _ (fI a dst r ht) (fT a dst r ht) ((dD rfl).2 ⟨by simp,hr⟩) (fun l a h=>by cases h) ?_ ?_ (fun b _=>.inl rfl) (Nat.le_refl _) rfl rfl rfl⟩
  ·intro j b _ hbr
   have:=hb b hbr
   rw [huu] at this
   exact hm.vE hp dst b this
  ·intro i j b h1 h2 _ _
   cases i <;> cases j <;> simp [AV.aR] at h1 h2 ⊢
 rw [← huu] at hown
 rcases hown with ⟨rfl,rfl⟩ | ⟨b,off,c,arr,E',fz,rfl,h3,h4,h5,h6,hκ,h7⟩
 ·have hn:n=0:=by simp at ho2; omega
  subst hn
  exact ⟨_,by simpa using hrun none 0 (Nat.le_refl _),finish _ (.inl ⟨rfl,by simp⟩) (fun b h=>by simp [blk] at h)⟩
 ·have hr:=hrun (some ⟨b,off,none⟩) c h3
  have ha:(if c=0 then some (⟨b,off,none⟩:Addr) else (some (⟨b,off,none⟩:Addr)).map (·.add (0 * i.size)))=some ⟨b,off,none⟩:=by
   split
   ·rfl
   ·simp [Addr.add]
  rw [ha] at hr
  have hl:(es.take n.toNat).length=n.toNat:=by simp; omega
  exact ⟨_,hr,finish _ (.inr ⟨b,off,c,arr,E',fz,by rw [hl],by omega,h4,h5,h6,hκ.any hκlt,REs.take _ _ _ h7⟩) (fun b h=>h)⟩
def aG4 (N:Nat) (assign:Bool) (dst s:Nat) (fr:Fr):Option Fr :=
 match aX fr s with
 | .own _ _ _=>if assign∧s≠dst∧s < N then some (gM dst ((aX fr s).dS (fG dst)) ((s,.junk) :: fr)) else none
 | .box _=>if assign∧s≠dst∧s < N then some (gM dst ((aX fr s).dS (fG dst)) ((s,.junk) :: fr)) else none
 | .tup _=>if s≠dst∧s < N then some (gM dst ((aX fr s).dS (fG dst)) ((s,.junk) :: fr)) else none
 | _=>none
theorem zQ {N:Nat} (hN:a.tmps.size=N) (hm:Mem e G S β fr (bQ e a) w) {assign:Bool} {dst s:Nat} (ht:dst < a.tmps.size) {fr':Fr} (h:aG4 N assign dst s fr=some fr'):After e G fr' a dst (a.eval (.tmp s)) w:=by
 have key:s≠dst→s < N→(aX fr s).zN=true→After e G (gM dst ((aX fr s).dS (fG dst)) ((s,.junk) :: fr)) a dst (a.eval (.tmp s)) w:=by
  intro h1 h2 h3
  have hs:s < a.tmps.size:=by rw [hN]; exact h2
  exact ⟨S,_,hm.move h1 h3 (a.eval (.tmp s)) (lL hs) _ (fI a dst _ ht) (fT a dst _ ht)⟩
 unfold aG4 at h
 split at h
 ·rename_i hf
  split at h
  ·rename_i hc
   simp only [Option.some.injEq] at h
   subst h
   exact key hc.2.1 hc.2.2 (by rw [hf]; rfl)
  ·cases h
 ·rename_i hf
  split at h
  ·rename_i hc
   simp only [Option.some.injEq] at h
   subst h
   exact key hc.2.1 hc.2.2 (by rw [hf]; rfl)
  ·cases h
 ·rename_i hf
  split at h
  ·rename_i hc
   simp only [Option.some.injEq] at h
   subst h
   exact key hc.1 hc.2 (by rw [hf]; rfl)
  ·cases h
 ·cases h
def aJ5 (N dst s j:Nat) (fr:Fr):Option Fr :=
 match aX fr s with
 | .tup vs=>match vs[j]? with
  | some (.own κ sz es)=>if s≠dst∧s < N then some (gM dst (.own κ sz es) ((s,.tup (vs.set j .junk)) :: fr)) else none
  | _=>none
 | _=>none
theorem bC5 {N:Nat} (hN:a.tmps.size=N) (hm:Mem e G S β fr (bQ e a) w) {dst s j:Nat} (ht:dst < a.tmps.size) {fr':Fr} (h:aJ5 N dst s j fr=some fr') :
  ∃ u,(Instr.extract (a.eval (.tmp s)) j).run P w=.ok u w∧After e G fr' a dst u w:=by
 unfold aJ5 at h
 split at h
 case h_2=>cases h
 rename_i vs hf
 split at h
 case h_2=>cases h
 rename_i sz es hj
 split at h
 case isFalse=>cases h
 rename_i hc
 simp only [Option.some.injEq] at h
 subst h
 have hs:s < a.tmps.size:=by rw [hN]; exact hc.2
 obtain ⟨u0,hr,hu0⟩:=hm.rel s
 have hev:=hu0 _ (lL hs)
 rw [hf] at hr
 obtain ⟨l,rfl,_,hp⟩:=hr
 obtain ⟨u,hu,_⟩:=bI.get hp j _ hj
 refine ⟨u,?_,S,_,hm.extract hc.1 hf hj l (by rw [lL hs,hev]) u hu _ (fI a dst u ht) (fT a dst u ht)⟩
 rw [hev]
 simp [Instr.extract,hu]
theorem cT4 {N:Nat} (hN:a.tmps.size=N) (hm:Mem e G S β fr (bQ e a) w) {s j:Nat} (hs:s < N) {av:AV} (h:cX7 j (aX fr s)=some av) :
  ∃ u,(Instr.extract (a.eval (.tmp s)) j).run P w=.ok u w∧bA S w β (0,0) av u∧av.bV=false:=by
 have hs':s < a.tmps.size:=by rw [hN]; exact hs
 unfold cX7 at h
 split at h
 case h_2=>cases h
 rename_i vs hf
 obtain ⟨u0,hr,hu0⟩:=hm.rel s
 have hev:=hu0 _ (lL hs')
 rw [hf] at hr
 obtain ⟨l,rfl,_,hp⟩:=hr
 split at h
 ·rename_i x hx
  simp only [Option.some.injEq] at h
  subst h
  obtain ⟨u,hu,hru⟩:=bI.get hp j _ hx
  exact ⟨u,by rw [hev]; simp [Instr.extract,hu],hru,rfl⟩
 ·rename_i x hx
  simp only [Option.some.injEq] at h
  subst h
  obtain ⟨u,hu,hru⟩:=bI.get hp j _ hx
  exact ⟨u,by rw [hev]; simp [Instr.extract,hu],hru,rfl⟩
 ·cases h
def aY7 (P:Program) (src dst:TypeId) (t:Nat) (hes:Option (List (List Dat))) (v:AV) (fr:Fr):Option (Fr×Prop) :=
 match P.underlying src,P.underlying dst,v with
 | some .string,some (.slice E),.d (.str l)=>match P.underlying E with
  | some (.int .u8)=>if E < 1099511627776 then some (gM t (.own E 1 (hes.getD (byteCells l))) fr,byteCells l=hes.getD (byteCells l)) else none
  | _=>none
 | _,_,_=>none
theorem bQ3 (hm:Mem e G S β fr (bQ e a) w) {src dst:TypeId} {t:Nat} (ht:t < a.tmps.size) {hes:Option (List (List Dat))} {v:AV} {fr':Fr} {obl:Prop}
  (h:aY7 P src dst t hes v fr=some (fr',obl)) (ho:obl) {u:Value} (hr:bA S w β (0,0) v u) :
  ∃ r w',(convert src dst u).run P w=.ok r w'∧After e G fr' a t r w':=by
 unfold aY7 at h
 split at h
 case h_2=>cases h
 rename_i E l hs hd
 split at h
 case h_2=>cases h
 rename_i hE
 split at h
 case isFalse=>cases h
 rename_i hlK
 simp only [Option.some.injEq,Prod.mk.injEq] at h
 obtain ⟨rfl,rfl⟩:=h
 rw [← ho]
 have hu:u=strOf l:=hr
 subst hu
 have hrun:=run_bytes_of_string (P:=P) w src dst E ⟨l.toArray⟩ hs hd hE
 have hsz:(⟨l.toArray⟩:ByteArray).size=l.length:=by simp [ByteArray.size]
 rw [hsz] at hrun
 have hge:=grownCap_ge w l.length 0 E
 have hrow:(bytesRow ⟨l.toArray⟩ (grownCap w l.length 0 E)).size=grownCap w l.length 0 E:=by
  simp [bytesRow,hsz]
  omega
 refine ⟨_,_,hrun,S,_,hm.uC t _ _ (fun _=>.slice (some ⟨w.heap.size,0,none⟩) l.length (grownCap w l.length 0 E)) _ _ (fI a t _ ht) (fT a t _ ht) ((dD rfl).2 ⟨by simp,.inr ⟨w.heap.size,0,grownCap w l.length 0 E,_,E,_,by simp [byteCells],by simpa [byteCells] using hge,?_,?_,heap_alloc_new w.drew _,⟨.inl rfl,fun h=>absurd h (Nat.not_le.2 hlK),fun h=>absurd (Nat.le_trans (by decide) h) (Nat.not_le.2 hlK)⟩,?_⟩⟩) (fun l a h=>by cases h) ?_ ?_ (fun b hb=>.inl (heap_alloc_old w.drew _ hb)) (by simp) rfl rfl rfl⟩
 ·rw [hrow]; omega
 ·exact .inr (Nat.le_refl _)
 ·refine REs.dJ _ _ fun j x hj=>?_
  simp only [byteCells,List.getElem?_map,Option.map_eq_some_iff] at hj
  obtain ⟨c,hc,rfl⟩:=hj
  refine ⟨rfl,?_⟩
  simp only [RCs,RD,Nat.zero_add,Nat.mul_one,and_true]
  have hjl:j < l.length:=(List.getElem?_eq_some_iff.1 hc).1
  refine ⟨.int .u8 c.toNat,?_,rfl,rfl⟩
  simp only [bytesRow]
  rw [Array.getElem?_append_left (by simpa using hjl)]
  simp [hc]
 ·intro j b _ hb
  simp only [blk,Option.some.injEq] at hb
  subst hb
  exact hm.oW t _ (Nat.le_refl _)
 ·intro i j b h1 h2 _ _
  cases i <;> cases j <;> simp [AV.aR] at h1 h2 ⊢
def bM4 (P:Program) (N:Nat) (src dst:TypeId) (t s:Nat) (fr:Fr):Option (Fr×Prop) :=
 match P.underlying src,aX fr s with
 | some (.slice E),.own κ sz es=>match P.underlying E with
  | some (.int .u8)=>if (src=dst∧s≠t∧s < N)∧κ < 1099511627776 then some (gM t (.own κ sz es) ((s,.junk) :: fr),0 < es.length) else none
  | _=>none
 | _,_=>none
theorem bY6 {N:Nat} (hN:a.tmps.size=N) (hm:Mem e G S β fr (bQ e a) w) {src dst:TypeId} {t s:Nat} (ht:t < a.tmps.size) {fr':Fr} {obl:Prop}
  (h:bM4 P N src dst t s fr=some (fr',obl)) (ho:obl):∃ r w',(convert src dst (a.eval (.tmp s))).run P w=.ok r w'∧After e G fr' a t r w':=by
 unfold bM4 at h
 split at h
 case h_2=>cases h
 rename_i E κ sz es hs hf
 split at h
 case h_2=>cases h
 rename_i hE
 split at h
 case isFalse=>cases h
 rename_i hc
 simp only [Option.some.injEq,Prod.mk.injEq] at h
 obtain ⟨rfl,rfl⟩:=h
 obtain ⟨⟨rfl,hst,hsN⟩,hlK⟩:=hc
 have hsl:s < a.tmps.size:=by rw [hN]; exact hsN
 have hp:fH fr (s,0)=.own κ sz es:=hf
 have hown:=jW hm hp
 have hval:a.eval (.tmp s)=β (s,0):=by
  obtain ⟨u,hr,hu⟩:=hm.rel s
  rw [hf] at hr
  exact (hu _ (lL hsl)).trans hr.1
 rcases hown with ⟨_,rfl⟩ | ⟨b,off,c,arr,E',fz,h1,h2,h3,hfr,hb,hκ,hcs⟩
 ·simp at ho
 have hsh:w.shape? b=some (E',arr.size):=by simp [World.shape?,hb]
 have hrun:(convert src src (β (s,0))).run P w=.ok (β (s,0)) (w.freeze ⟨b,arr.size,none⟩ 1):=by
  rw [h1]
  simp [convert,run_underlying hs,run_underlying hE,markStringish,hsh]
 have hbl:b < w.heap.size:=iT hb
 have hnew:∃ fz',aR2 fz' arr.size∧(w.freeze ⟨b,arr.size,none⟩ 1).heap[b]? = some (.cells arr E' fz'):=by
  obtain ⟨lo,hi⟩:=fz
  refine ⟨if lo == hi then (arr.size,arr.size+1) else (min lo arr.size,max hi (arr.size+1)),?_,?_⟩
  ·split
   ·exact .inr (Nat.le_refl _)
   ·rename_i hne
    rcases hfr with h | h
    ·exact absurd h (by simpa using hne)
    ·exact .inr (by simp only at h ⊢; omega)
  ·simp only [World.freeze,Nat.one_ne_zero,if_false]
   rw [Array.getElem?_modify,if_pos rfl,hb]
   rfl
 obtain ⟨fz',hfz',hb'⟩:=hnew
 have hother:∀ k,k≠b→(w.freeze ⟨b,arr.size,none⟩ 1).heap[k]? = w.heap[k]? := by
  intro k hk
  simp only [World.freeze,Nat.one_ne_zero,if_false]
  rw [Array.getElem?_modify,if_neg (Ne.symm hk)]
 have hbb:blk (β (s,0))=some b:=by rw [h1]; rfl
 have how:=kH hp
 have hag:Agree S w (w.freeze ⟨b,arr.size,none⟩ 1):=fun k hS=>hother k fun h=>(hm.fre s 0 b how hbb).1 (h ▸ hS)
 have hm2:=hm.fV (a':=.own κ sz es) (w':=w.freeze ⟨b,arr.size,none⟩ 1) hp rfl ⟨rfl,.inr ⟨b,off,c,arr,E',fz',h1,h2,h3,hfz',hb',⟨hκ.1,fun h=>absurd h (Nat.not_le.2 hlK),hκ.2.2⟩,REs.mono (fun _ h=>h) hag _ _ _ _ hcs⟩⟩ (fun _ h=>h) (fun _ h=>.inl h) (fun k hk=>hother k fun h=>hk (by rw [h]; exact hbb)) (by simp [World.freeze]) rfl rfl rfl
 have hfs:aX (fV fr (s,0) (.own κ sz es)) s=.own κ sz es:=by simp [fV,aV]
 have hm3:=hm2.move (t:=t) hst (by rw [hfs]; rfl) (a.eval (.tmp s)) (lL hsl) _ (fI a t _ ht) (fT a t _ ht)
 rw [hval]
 refine ⟨_,_,hrun,S,_,(hval ▸ hm3).bA6 fun x=>?_⟩
 by_cases hx:x=t
 ·subst hx
  rw [dK,dK,hfs]
  rfl
 ·rw [gJ _ _ hx,gJ _ _ hx]
  congr 1
  by_cases hxs:x=s
  ·subst hxs
   rw [aV,aV]
  ·simp only [fV]
   rw [bL _ _ (Ne.symm hxs),bL _ _ (Ne.symm hxs),bL _ _ (Ne.symm hxs)]
end
end Go.Vm
namespace Go.Vm
section
variable {P:Program} {e:Env} {G:dW} {S:Nat→Prop} {β:Path→Value} {fr:Fr} {w:World} {a:Act}
def bL1 (P:Program) (t1 dst:Nat) (hes:Option (List (List Dat))) (v1 v2:AV) (fr:Fr):Option (Fr×Prop) :=
 match v1,v2,P.underlying t1 with
 | .sv p sz lo len,.d (.sl sz2 ds),some (.slice E)=>match fH fr p,P.info? E with
  | .own κ sz3 es,some i=>if sz=1∧sz2=1∧sz3=1∧i.size=1 then
    some (gM dst (.d (.v (.int .i64 ((min ds.length len:Nat):Int)))) (fV fr p (.own κ 1 (hes.getD (spl lo (ds.take len) es)))),(0 < ds.length∧lo+len≤es.length)∧spl lo (ds.take len) es=hes.getD (spl lo (ds.take len) es)) else none
  | _,_=>none
 | _,_,_=>none
theorem bT0 (w:World) (dT sT ty elem:TypeId) (g o dLen dCap:Nat) (ad:Addr) (sLen sCap:Nat) (cur:Array Value) (t:TypeId) (fz:Nat×Nat) (cs:List Value)
  (hu:P.underlying dT=some (.slice elem)) {i:TypeInfo} (hi:P.info? elem=some i) (hs:i.size=1)
  (hg:w.heap[g]? = some (.cells cur t fz)) (hfz:∀ k,k < cur.size→¬ (fz.1≤k∧k < fz.2)) (hn:cs.length=Nat.min sLen dLen)
  (hsrc:∀ j v,cs[j]? = some v→w.cell? (ad.add j)=some v) (hfit:o+cs.length≤cur.size) (h1:∀ v∈cs,v.oneCell'=true) :
  (Builtin.copy_ #[dT,sT] ty #[.slice (some ⟨g,o,none⟩) dLen dCap,.slice (some ad) sLen sCap]).run P w =
   .ok (goInt cs.length) (w.setRow g (cur.toList.take o++cs++cur.toList.drop (o+cs.length)).toArray):=by
 have hl:=run_loadCells_list (P:=P) w ad cs hsrc
 have hst:=nC (P:=P) g o t fz cs 0 cur w hg hfz (by simpa using hfit) h1
 simp [Builtin.copy_,run_underlying hu,Builtin.lenOf,Builtin.firstCells,sizeOf,typeInfo,hi,hs,← hn,hl,hst]
theorem bW1 (hm:Mem e G S β fr (bQ e a) w) {t1 t2 ty dst:Nat} (ht:dst < a.tmps.size) {hes:Option (List (List Dat))} {v1 v2:AV} {fr':Fr} {obl:Prop}
  (h:bL1 P t1 dst hes v1 v2 fr=some (fr',obl)) (ho:obl) {u x:Value} (h1:bA S w β (0,0) v1 u) (h2:bA S w β (0,0) v2 x) :
  ∃ v w',(Builtin.copy_ #[t1,t2] ty #[u,x]).run P w=.ok v w'∧After e G fr' a dst v w':=by
 unfold bL1 at h
 split at h
 case h_2=>cases h
 rename_i p sz lo len sz2 ds E hu
 split at h
 case h_2=>cases h
 rename_i κ sz3 es i hp hi
 split at h
 case isFalse=>cases h
 rename_i hc
 obtain ⟨rfl,rfl,rfl,his⟩:=hc
 simp only [Option.some.injEq,Prod.mk.injEq] at h
 obtain ⟨rfl,rfl⟩:=h
 obtain ⟨⟨ho1,ho2⟩,ho3⟩:=ho
 rw [← ho3]
 obtain ⟨b,o,n,c,c',hβ,rfl,hlc⟩:=h1
 have hx:RD S w (.sl 1 ds) x:=h2
 simp only [RD] at hx
 rcases hx with ⟨_,rfl⟩ | ⟨b2,o2,c2,arr2,E2,fz2,rfl,hlc2,hS2,hb2,hr2⟩
 ·simp at ho1
 rcases jW hm hp with ⟨_,rfl⟩ | ⟨b',o',c0,arr,E',fz,g1,g2,g3,hfr,hb,hκ,hcs⟩
 ·have:lo+len=0:=by simpa using ho2
  rw [hβ] at *
  simp_all
 rw [g1] at hβ
 simp only [Value.slice.injEq,Option.some.injEq,Addr.mk.injEq] at hβ
 obtain ⟨⟨rfl,rfl,_⟩,rfl,rfl⟩:=hβ
 -- the cells that go over
 obtain ⟨k,hk⟩:∃ k,k=min ds.length len:=⟨_,rfl⟩
 have hsrc0:∀ j,j < ds.length→∃ v,arr2[o2+j]? = some v∧∃ d,ds[j]? = some [d]∧RD S w d v:=by
  intro j hj
  have hd:ds[j]? = some ds[j]:=List.getElem?_eq_getElem hj
  obtain ⟨hl,hr⟩:=REs.get ds o2 j _ hr2 hd
  match hdj:ds[j],hl with
  | [d],_ =>
   rw [hdj] at hr
   simp only [RCs,Nat.mul_one,and_true] at hr
   obtain ⟨v,hv,hrd⟩:=hr
   exact ⟨v,hv,d,by rw [hd,hdj],hrd⟩
 let cs:List Value:=(arr2.toList.drop o2).take k
 have hcl:cs.length=k:=by
  obtain ⟨v,hv,_⟩:=hsrc0 (ds.length - 1) (by omega)
  have:=(Array.getElem?_eq_some_iff.1 hv).1
  simp only [cs,List.length_take,List.length_drop,Array.length_toList]
  omega
 have hcg:∀ j,j < k→cs[j]? = arr2[o2+j]? := by
  intro j hj
  simp only [cs,List.getElem?_take,List.getElem?_drop,Array.getElem?_toList]
  rw [if_pos hj]
 have hsz:arr.toList.length=arr.size:=Array.length_toList
 have hfit:o'+lo * 1+cs.length≤arr.size:=by
  have:es.length * 1≤c0 * 1:=Nat.mul_le_mul_right 1 g2
  omega
 have hone:∀ v∈cs,v.oneCell'=true:=by
  intro v hv
  obtain ⟨j,hj⟩:=List.getElem?_of_mem hv
  have hjk:j < k:=by rw [← hcl]; exact (List.getElem?_eq_some_iff.1 hj).1
  obtain ⟨v',hv',d,_,hrd⟩:=hsrc0 j (by omega)
  rw [hcg j hjk,hv'] at hj
  cases hj
  exact xB d v hrd
 have hrun:=bT0 (P:=P) w t1 t2 ty E b' (o'+lo * 1) len c' ⟨b2,o2,none⟩ ds.length c2 arr E' fz cs hu hi his hb hfr.out (by rw [hcl,hk]) (fun j v hj=>by
  have hjk:j < k:=by rw [← hcl]; exact (List.getElem?_eq_some_iff.1 hj).1
  rw [hcg j hjk] at hj
  have e1:(⟨b2,o2,none⟩:Addr).add j=⟨b2,o2+j,none⟩:=by
   unfold Addr.add
   split
   ·rename_i h0; rw [h0]; rfl
   ·rfl
  rw [e1]
  simp only [World.cell?,hb2]
  exact hj) hfit hone
 refine ⟨_,_,hrun,S,β,?_⟩
 have how:=kH hp
 have hbb:blk (β p)=some b':=by rw [g1]; rfl
 have hrow:(arr.toList.take (o'+lo * 1)++cs++arr.toList.drop (o'+lo * 1+cs.length))=spl (o'+lo * 1) cs arr.toList:=rfl
 rw [hrow]
 have hsle:o'+lo * 1+cs.length≤arr.toList.length:=by omega
 have hag:Agree S w (w.setRow b' (spl (o'+lo * 1) cs arr.toList).toArray):=fun j hS=>setRow_other w b' j _ fun h=>(hm.fre p.1 p.2 b' how hbb).1 (h ▸ hS)
 have htl:(ds.take len).length=k:=by rw [List.length_take,hk]; exact Nat.min_comm _ _
 have hsle2:lo+(ds.take len).length≤es.length:=by rw [htl]; omega
 have hm':=hm.fV hp (a':=.own κ 1 (spl lo (ds.take len) es)) rfl ⟨rfl,.inr ⟨b',o',c0,_,E',fz,by rw [g1,gN hsle2],by rw [gN hsle2]; exact g2,by rw [List.size_toArray,gN hsle]; simpa using g3,by rw [List.size_toArray,gN hsle]; simpa using hfr,setRow_heap w b' _ _ E' fz hb,hκ.len (gN hsle2),by
  refine REs.mono (fun _ h=>h) hag _ _ _ _ (REs.dJ _ _ fun j x hj=>?_)
  rw [fB hsle2,htl] at hj
  split at hj
  ·rename_i hin
   rw [List.getElem?_take] at hj
   split at hj
   case isFalse=>cases hj
   obtain ⟨v,hv,d,hd,hrd⟩:=hsrc0 (j - lo) (by omega)
   rw [hd] at hj
   cases hj
   refine ⟨rfl,⟨v,?_,hrd⟩,trivial⟩
   simp only
   rw [List.getElem?_toArray,fB hsle,if_pos (by omega),← hv,← hcg (j - lo) (by omega)]
   congr 1
   omega
  ·rename_i hin
   obtain ⟨h5,h6⟩:=REs.get es o' j x hcs hj
   refine ⟨h5,RCs.congr _ _ _ (fun m hm'=>?_) h6⟩
   rw [List.getElem?_toArray,fB hsle,if_neg (by omega)]
   simp⟩⟩ (fun _ h=>h) (fun _ h=>.inl h) (fun j hj=>setRow_other w b' j _ fun h=>hj (by rw [h]; exact hbb)) (by simp) rfl rfl rfl
 refine hm'.nX dst _ (goInt cs.length) _ (fI a dst _ ht) (fT a dst _ ht) ⟨by rw [hcl,hk]; rfl,rfl⟩ (fun j=>by cases j <;> simp [AV.aR,AV.bV]) (fun _ _ h=>by cases h)
end
end Go.Vm
namespace Go.Vm
def bA7:List (Int×Int)→Int→Option Int
  | [],_=>none
  | (a,b) :: r,k=>bif k == a then some b else bA7 r k
def aM9:List (Int×Int)→Int→Int→List (Int×Int)
  | [],k,v=>[(k,v)]
  | (a,b) :: r,k,v=>bif k == a then (k,v) :: r else (a,b) :: aM9 r k v
theorem aJ3 {kn kk vk:IntKind} (k v:Int):∀ (es:List (Int×Int)) (l:List MapEntry) (i:Nat),l.map (fun m=>(m.key,m.val))=es.map (fun q=>(Value.int kk q.1,Value.int vk q.2)) →
    (bA7 es k=none∧Instr.findNow (.int kn) (.int kk k) l i=some none∧aM9 es k v=es++[(k,v)]) ∨
    ∃ j x,bA7 es k=some x∧Instr.findNow (.int kn) (.int kk k) l i=some (some (i+j,.int vk x))∧es[j]? = some (k,x)∧aM9 es k v=es.set j (k,v)
  | [],l,i,h=>by
    cases l with
    | cons _ _=>simp at h
    | nil=>exact .inl ⟨rfl,rfl,rfl⟩
  | (a,b) :: es,l,i,h=>by
    cases l with
    | nil=>simp at h
    | cons m l =>
      simp only [List.map_cons,List.cons.injEq,Prod.mk.injEq] at h
      obtain ⟨⟨hk,hv⟩,hr⟩:=h
      by_cases hka:k=a
      · subst hka
        refine .inr ⟨0,b,by simp [bA7],?_,rfl,by simp [aM9]⟩
        simp [Instr.findNow,Instr.sameNow,hk,hv]
      · have hne:(k == a)=false:=by simpa using hka
        have hs:Instr.sameNow (.int kn) (.int kk k) m.key=some false:=by simp [Instr.sameNow,hk,hne]
        rcases aJ3 (kn:=kn) k v es l (i+1) hr with ⟨h1,h2,h3⟩ | ⟨j,x,h1,h2,h3,h4⟩
        · exact .inl ⟨by simp [bA7,hne,h1],by simp [Instr.findNow,hs,h2],by simp [aM9,hne,h3]⟩
        · refine .inr ⟨j+1,x,by simp [bA7,hne,h1],?_,by simpa using h3,by simp [aM9,hne,h4]⟩
          simp only [Instr.findNow,hs,h2,show i+1+j=i+(j+1) by omega]
section
variable {P:Program} {e:Env} {G:dW} {S:Nat→Prop} {β:Path→Value} {fr:Fr} {w:World} {a:Act}
def aK7 (P:Program) (t:Nat) (T:TypeId) (fr:Fr):Option Fr :=
 match P.underlying T with
 | some (.map K E)=>match P.underlying K,P.underlying E with
  | some (.int kk),some (.int vk)=>some (gM t (.mp kk vk []) fr)
  | _,_=>none
 | _=>none
theorem bD0 (hm:Mem e G S β fr (bQ e a) w) {t:Nat} (ht:t < a.tmps.size) {T:TypeId} {fr':Fr} (h:aK7 P t T fr=some fr') :
  ∃ u w',(Instr.makeMap T none).run P w=.ok u w'∧After e G fr' a t u w':=by
 unfold aK7 at h
 split at h
 case h_2=>cases h
 split at h
 case h_2=>cases h
 simp only [Option.some.injEq] at h
 subst h
 refine ⟨.map (some w.heap.size),w.alloc (.map #[] 0),rfl,S,_,hm.uC t _ _ (fun _=>.map (some w.heap.size)) _ _ (fI a t _ ht) (fT a t _ ht) ((dD rfl).2 ⟨by simp,w.heap.size,#[],0,rfl,heap_alloc_new w _,rfl⟩) (fun l a h=>by cases h) ?_ ?_ (fun b hb=>.inl (heap_alloc_old w _ hb)) (by simp) rfl rfl rfl⟩
 ·intro j b _ hb
  simp only [blk,Option.some.injEq] at hb
  subst hb
  exact hm.oW t _ (Nat.le_refl _)
 ·intro i j b h1 h2 _ _
  cases i <;> cases j <;> simp [AV.aR] at h1 h2 ⊢
def aP5 (P:Program) (T:TypeId) (m k v:AV) (fr:Fr):Option Fr :=
 match m,k,v,P.underlying T with
 | .vw p,.d (.v (.int k i)),.d (.v (.int v x)),some (.map K _)=>match fH fr p,P.underlying K with
  | .mp kk vk es,some (.int _)=>if k=kk∧v=vk then some (fV fr p (.mp kk vk (aM9 es i x))) else none
  | _,_=>none
 | _,_,_,_=>none
theorem bJ0 (hm:Mem e G S β fr (bQ e a) w) {T:TypeId} {m k v:AV} {um uk uv:Value} (hum:bA S w β (0,0) m um) (huk:bA S w β (0,0) k uk) (huv:bA S w β (0,0) v uv) {fr':Fr} (h:aP5 P T m k v fr=some fr') :
  ∃ w',(Instr.mapUpdate T um uk uv).run P w=.ok () w'∧bJ6 e G fr' a w':=by
 unfold aP5 at h
 split at h
 case h_2=>cases h
 rename_i p kn i vn x K E hT
 split at h
 case h_2=>cases h
 rename_i kk vk es n hp hK
 split at h
 case isFalse=>cases h
 rename_i hc
 obtain ⟨rfl,rfl⟩:=hc
 simp only [Option.some.injEq] at h
 subst h
 have e1:um=β p:=hum
 have e2:uk=.int kn i:=huk.1
 have e3:uv=.int vn x:=huv.1
 subst e2 e3
 obtain ⟨b,arr,clk,hb1,hb2,hb3⟩:=cC4 hm hp
 rw [e1,hb1]
 have hchk:∀ em,(Instr.checkKey em 10000 K (.int kn i)).run P w=.ok () w:=by
  intro em
  unfold Instr.checkKey
  simp only [Sem.run_bind,run_underlying hK,Result.andThen]
  rfl
 have fin:∀ (arr':Array MapEntry) (clk':Nat),arr'.toList.map (fun m=>(m.key,m.val))=(aM9 es i x).map (fun q=>(Value.int kn q.1,Value.int vn q.2))→bJ6 e G (fV fr p (.mp kn vn (aM9 es i x))) a { w with heap:=w.heap.setIfInBounds b (.map arr' clk') }:=by
  intro arr' clk' ha
  refine ⟨S,β,hm.bZ9 (a0:=.mp kn vn es) rfl hp rfl ⟨rfl,b,arr',clk',hb1,(MapKept.heap_set hb2).1,ha⟩ (fun _ h=>h) (fun _ h=>.inl h) (fun j hj=>(MapKept.heap_set hb2).2 j fun h=>hj (by rw [hb1,h]; rfl)) (by simp) rfl rfl rfl⟩
 rcases aJ3 (kn:=n) i x es arr.toList 0 hb3 with ⟨h1,h2,h3⟩ | ⟨j,y,h1,h2,h3,h4⟩
 ·refine ⟨_,?_,fin (arr.push { key:=.int kn i,val:=.int vn x,born:=clk }) (clk+1) ?_⟩
  ·simp [Instr.mapUpdate,run_underlying hT,MapKept.run_getObj_map hb2,hchk,MapKept.run_findKey hK h2,MapKept.run_setObj_map _ hb2,Result.andThen]
  ·rw [h3]
   simp [hb3]
 ·have hj:j < arr.size:=by
   have:=congrArg List.length hb3
   simp only [List.length_map,Array.length_toList] at this
   have:=(List.getElem?_eq_some_iff.1 h3).1
   omega
  have hkey:(arr[j]).key=.int kn i:=by
   have:=congrArg (fun l:List (Value×Value)=>l[j]?) hb3
   simp only [List.getElem?_map,h3,Option.map_some,Array.getElem?_toList,Array.getElem?_eq_getElem hj,Option.some.injEq,Prod.mk.injEq] at this
   exact this.1
  have hstay:(Instr.keyThatStays (((arr[j]?).map (·.key)).getD (.int kn i)) (.int kn i)).run P w=.ok (.int kn i) w:=by
   simp [Array.getElem?_eq_getElem hj,hkey,Instr.keyThatStays,Instr.sameBits]
  refine ⟨_,?_,fin (arr.modify j fun m=>{ m with key:=.int kn i,val:=.int vn x }) clk ?_⟩
  ·simp only [Instr.mapUpdate,Sem.run_bind,run_underlying hT,Result.andThen,MapKept.run_getObj_map hb2,hchk,MapKept.run_findKey hK h2,Nat.zero_add,hstay,MapKept.run_setObj_map _ hb2]
  ·rw [h4]
   apply List.ext_getElem?
   intro q
   have hq:=congrArg (fun l:List (Value×Value)=>l[q]?) hb3
   simp only [List.getElem?_map,Array.getElem?_toList] at hq ⊢
   rw [Array.getElem?_modify,List.getElem?_set]
   by_cases hjq:j=q
   ·subst hjq
    have hl:=(List.getElem?_eq_some_iff.1 h3).1
    simp [hl,Array.getElem?_eq_getElem hj]
   ·rw [if_neg hjq,if_neg hjq]
    exact hq
def bH7 (P:Program) (t:TypeId) (fr:Fr) (x k:AV):Option (IntKind×Option Int) :=
 match x,k,P.underlying t with
 | .vw p,.d (.v (.int k i)),some (.map K E)=>match fH fr p,P.underlying K,(P.info? E).bind (·.zero) with
  | .mp kk vk es,some (.int _),some (.int vz z)=>if k=kk∧vz=vk∧z=0 then some (vk,bA7 es i) else none
  | _,_,_=>none
 | _,_,_=>none
theorem bG3 {vals:Nat→Option Value} (hm:Mem e G S β fr vals w) {t:TypeId} {x k:AV} {ux uk:Value} (hux:bA S w β (0,0) x ux) (huk:bA S w β (0,0) k uk) {vk:IntKind} {r:Option Int} (h:bH7 P t fr x k=some (vk,r)) (ok:Bool) :
  (Instr.lookup t ux uk ok).run P w=.ok (if ok then .tuple #[.int vk (r.getD 0),.bool r.isSome] else .int vk (r.getD 0)) w:=by
 unfold bH7 at h
 split at h
 case h_2=>cases h
 rename_i p kn i K E hT
 split at h
 case h_2=>cases h
 rename_i kk vk' es n vz z hp hK hz
 split at h
 case isFalse=>cases h
 rename_i hc
 obtain ⟨rfl,rfl,rfl⟩:=hc
 simp only [Option.some.injEq,Prod.mk.injEq] at h
 obtain ⟨rfl,rfl⟩:=h
 have e1:ux=β p:=hux
 have e2:uk=.int kn i:=huk.1
 subst e2
 obtain ⟨b,arr,clk,hb1,hb2,hb3⟩:=cC4 hm hp
 rw [e1,hb1]
 have hchk:∀ em,(Instr.checkKey em 10000 K (.int kn i)).run P w=.ok () w:=by
  intro em
  unfold Instr.checkKey
  simp only [Sem.run_bind,run_underlying hK,Result.andThen]
  rfl
 obtain ⟨ie,hie,hzz⟩:∃ ie,P.info? E=some ie∧ie.zero=some (.int vz 0):=by
  cases hi:P.info? E with
  | none=>simp [hi] at hz
  | some ie=>exact ⟨ie,rfl,by simpa [hi] using hz⟩
 rcases aJ3 (kn:=n) i 0 es arr.toList 0 hb3 with ⟨h1,h2,h3⟩ | ⟨j,y,h1,h2,h3,h4⟩
 ·rw [h1]
  simp only [Instr.lookup,Sem.run_bind,run_underlying hT,Result.andThen,MapKept.run_getObj_map hb2,Sem.run_pure,hchk,MapKept.run_findKey hK h2,zeroValue,typeInfo,run_program,hie,hzz]
  cases ok <;> rfl
 ·rw [h1]
  simp only [Instr.lookup,Sem.run_bind,run_underlying hT,Result.andThen,MapKept.run_getObj_map hb2,Sem.run_pure,hchk,MapKept.run_findKey hK h2]
  cases ok <;> rfl
def aR4 (P:Program) (t:Nat) (T:TypeId) (x k:AV) (fr:Fr):Option Fr :=
 (bH7 P T fr x k).map fun q=>gM t (.tup [.d (.v (.int q.1 (q.2.getD 0))),.d (.v (.bool q.2.isSome))]) fr
theorem bH6 (hm:Mem e G S β fr (bQ e a) w) {t:Nat} (ht:t < a.tmps.size) {T:TypeId} {x k:AV} {ux uk:Value} (hux:bA S w β (0,0) x ux) (huk:bA S w β (0,0) k uk) {fr':Fr} (h:aR4 P t T x k fr=some fr') :
  ∃ u,(Instr.lookup T ux uk true).run P w=.ok u w∧After e G fr' a t u w:=by
 unfold aR4 at h
 simp only [Option.map_eq_some_iff] at h
 obtain ⟨⟨vk,r⟩,hl,rfl⟩:=h
 refine ⟨_,bG3 hm hux huk hl true,S,_,hm.uC t _ _ (fun _=>.bool false) _ _ (fI a t _ ht) (fT a t _ ht) ?_ (fun l a h=>by cases h) ?_ ?_ (fun b hb=>.inl rfl) (Nat.le_refl _) rfl rfl rfl⟩
 ·simp only [dV,if_true]
  refine ⟨_,rfl,rfl,?_⟩
  simp [kN,bI,bA,RD,Value.oneCell']
 ·intro j b hj _
  rcases j with _ | _ | _ | j <;> simp [AV.aR,AV.bV] at hj
 ·intro i j b h1 _ _ _
  rcases i with _ | _ | _ | i <;> simp [AV.aR,AV.bV] at h1
end
end Go.Vm
namespace Go.Vm
def aD:Nat:=1000000
def aS:Nat:=999999
def bO2:Nat→List AV→Fr
 | _,[]=>[]
 | i,a :: r=>(i,a) :: bO2 (i+1) r
def jG:Nat→List AV→Fr
 | _,[]=>[]
 | i,a :: r=>(i,a) :: jG (i+1) r
theorem pW (rest:Fr):∀ (as:List AV) (i x:Nat),aX (bO2 i as++rest) x=if i≤x∧x < i+as.length then as.getD (x - i) .junk else aX rest x
 | [],i,x=>by
  simp only [bO2,List.nil_append,List.length_nil,Nat.add_zero]
  rw [if_neg (by omega)]
 | a :: as,i,x=>by
  simp only [bO2,List.cons_append,qR,List.length_cons]
  rw [pW rest as (i+1) x]
  by_cases h:i=x
  ·subst h; simp
  ·rw [if_neg h]
   by_cases h2:i+1≤x∧x < i+1+as.length
   ·rw [if_pos h2,if_pos (by omega),show x - i=(x - (i+1))+1 by omega,List.getD_cons_succ]
   ·rw [if_neg h2,if_neg (by omega)]
theorem mM:∀ (vs:List AV) (i x:Nat),aX (jG i vs) x=if i≤x∧x < i+vs.length then vs.getD (x - i) .junk else .junk
 | [],i,x=>by
  simp only [jG,aX,List.length_nil,Nat.add_zero]
  rw [if_neg (by omega)]
 | a :: as,i,x=>by
  simp only [jG,qR,List.length_cons]
  rw [mM as (i+1) x]
  by_cases h:i=x
  ·subst h; simp
  ·rw [if_neg h]
   by_cases h2:i+1≤x∧x < i+1+as.length
   ·rw [if_pos h2,if_pos (by omega),show x - i=(x - (i+1))+1 by omega,List.getD_cons_succ]
   ·rw [if_neg h2,if_neg (by omega)]
def eD (fr:Fr) (β:Path→Value) (b:Nat):Prop:=∃ x i,(aX fr x).aR i=true∧blk (β (x,i))=some b
def iY (P : Program) (k : Nat) : Prop := ∃ fn,P.funcs[k]? = some fn ∧ fn.body.isNone = false ∧ (fn.name == "runtime.NumGoroutine") = false
def bO (args:List AV) (vin:List AV):Fr:=bO2 0 args++jG aD vin
def bT (β:Path→Value) (n:Nat):Nat→Option Value:=fun x=>if aD≤x∧x < aD+n then some (β (x,0)) else none
def aG (P:Program) (k:Nat) (args:List AV) (vin:List AV) (res:AV) (vout:List AV):Prop :=
 iY P k∧∀ (w:World) (S:Nat→Prop) (β:Path→Value) (us:List Value),us.length=args.length →
  Mem ⟨w,eD (bO args vin) β,S,bT β vin.length,[]⟩ [] S β (bO args vin) (fun x=>(us[x]?).or (bT β vin.length x)) w →
  Calls P k us.toArray w fun e w'=>∃ u S' β',e=.returned u ∧
   Mem ⟨w,eD (bO args vin) β,S,bT β vin.length,[]⟩ [] S' β' ((aS,res) :: jG aD vout) (fun x=>if x=aS then some u else bT β vin.length x) w'
abbrev uD:=Option Nat×AV
def yT (xs:List Nat) (fr:Fr):List AV→Option (List AV×List Path)
 | []=>some ([],[])
 | c :: r=>match yT xs fr r with
  | none=>none
  | some (cs,l)=>match c with
   | .d x=>some (.d x :: cs,l)
   | .bp x off=>(xs.idxOf? x).map fun j=>(.bp (aD+j) off :: cs,l)
   | .vw p=>match fH fr p with
    | .own _κ sz es=>some (.d (.sl sz es) :: cs,p :: l)
    | .fz sz es=>some (.d (.sl sz es) :: cs,l)
    | _=>none
   | _=>none
def trV (xs:List Nat) (fr:Fr):AV→Option (AV×List Path)
 | .d x=>some (.d x,[])
 | .agg cs=>some (.agg cs,[])
 | .vw p=>match xs.idxOf? p.1 with
  | some j=>some (.vw (aD+j,p.2),[])
  | none=>match fH fr p with
   | .own _κ sz es=>some (.d (.sl sz es),[p])
   | .fz sz es=>some (.d (.sl sz es),[])
   | _=>none
 | .bp x off=>(xs.idxOf? x).map fun j=>(.bp (aD+j) off,[])
 | .clo f caps=>(yT xs fr caps).map fun r=>(.clo f r.1,r.2)
 | .agw cs=>match yT xs fr cs with
  | some (as,l)=>(aX8 as).map fun ds=>(.agg ds,l)
  | none=>none
 | _=>none
def nV (N:Nat) (xs:List Nat) (fr:Fr):List uD→Option (List AV×List (Option Nat)×List Path)
  | []=>some ([],[],[])
  | (tk,v) :: r=>match nV N xs fr r with
    | none=>none
    | some (as,ts,l)=>match tk with
      | some s=>match aX fr s with
        | .own κ sz es=>if s < N then some (.own κ sz es :: as,some s :: ts,l) else none
        | _=>none
      | none=>match trV xs fr v with
        | some (a,l')=>some (a :: as,none :: ts,l'++l)
        | none=>none
def aY0 (xs:List Nat):List AV→Option (List AV)
 | []=>some []
 | .bp x off :: r=>match xs.idxOf? x,aY0 xs r with
  | some j,some l=>some (.bp (aD+j) off :: l)
  | _,_=>none
 | .d x :: r=>(aY0 xs r).map (.d x :: ·)
 | _ :: _=>none
def tN (xs:List Nat):List AV→Option (List AV)
 | []=>some []
 | .bp y off :: r=>if aD≤y then match xs[y - aD]?,tN xs r with
  | some x,some l=>some (.bp x off :: l)
  | _,_=>none
  else none
 | .d x :: r=>(tN xs r).map (.d x :: ·)
 | _ :: _=>none
def wI (xs:List Nat):AV→AV
 | .clo f caps=>match tN xs caps with
  | some cs=>.clo f cs
  | none=>.junk
 | a=>a
def mW (xs:List Nat):AV→AV
 | .box cs=>.box (cs.map (wI xs))
 | a=>a
def aC7 (xs:List Nat):AV→AV
 | .d x=>.d x
 | .own κ sz es=>.own κ sz es
 | .fz sz es=>.d (.sl sz es)
 | .slf off E=>.slf off E
 | .clo f caps=>match aY0 xs caps with
  | some cs=>.clo f cs
  | none=>.junk
 | _=>.junk
def aZ0 (xs:List Nat):AV→AV
 | .box cs=>.box (cs.map (aC7 xs))
 | a=>a
def AV.nU:AV→Bool
 | .box _ | .own _ _ _ | .glo _ _ | .arr _ _ _=>true
 | _=>false
def AV.cell:AV→Bool
 | .slf _ _=>true
 | a=>a.flat
def AV.rO:AV→Bool
 | .box cs=>cs.all fun c=>c.jF.isEmpty && c.cell
 | .own _ _ _=>true
 | .arr _ _ _=>true
 | .glo _ _=>true
 | _=>false
def AV.bE3:AV→Bool
 | .clo _ caps=>caps.all fun c=>match c with
  | .bp y _=>decide (aD≤y)
  | .d _=>true
  | _=>false
 | _=>false
def AV.gZ:AV→Bool
 | .box cs=>cs.all fun c=>(c.jF.isEmpty && c.cell) || c.bE3
 | a=>a.rO
def zV (zs:List Nat) (fr:Fr):List Nat→Option (List AV)
 | []=>some []
 | x :: r=>match (aX fr x).nU,zV zs fr r with
  | true,some l=>some (aZ0 zs (aX fr x) :: l)
  | _,_=>none
def AV.bare:AV→Bool
 | .d (.v _) | .d (.str _) | .junk=>true
 | .tup vs=>vs.all fun v=>match v with
  | .d (.v _) | .d (.str _) | .junk=>true
  | _=>false
 | _=>false
def AV.closed (a:AV):Bool:=a.paths.isEmpty && a.zN
def nodupB:List Nat→Bool
 | []=>true
 | x :: r => !r.contains x && nodupB r
theorem aP9:∀ {l:List Nat},nodupB l=true→l.Nodup
 | [],_=>List.nodup_nil
 | x :: r,h=>by
  simp only [nodupB,Bool.and_eq_true,Bool.not_eq_true'] at h
  exact List.nodup_cons.2 ⟨by simpa using h.1,aP9 h.2⟩
def taken (ts:List (Option Nat)):List Nat:=ts.filterMap id
def aL8 (dst:Nat) (xs:List Nat):Path→Bool:=fun p=>p.1 == dst || (p.2 != 0 && xs.contains p.1)
def sK (dst:Nat) (xs tk:List Nat) (res:AV) (vout:List AV) (fr:Fr):Fr :=
 (dst,res) :: vY (aL8 dst xs) (tk.map (fun s=>(s,AV.junk))++(xs.zip vout)++fr)
def methodOf (P:Program) (t:TypeId) (name:String):Option FuncId :=
 match P.info? t,P.underlying t with
 | some i,some (.struct _)=>match i.methods.find? (·.name == name) with
  | some m=>if m.path.toList.isEmpty then match m.func with
   | some (k,false)=>some k
   | _=>none else none
  | none=>none
 | _,_=>none
def bS0 (P:Program) (name:String) (args:List AV) (vin:List AV) (res:AV) (vout:List AV):Prop :=
 ∃ t us as k,args=.d (.v (.iface t (.agg ⟨us⟩))) :: as∧(∀ u∈us,u.oneCell'=true)∧methodOf P t name=some k∧aG P k (.agg (us.map .v) :: as) vin res vout
def aX4 (P:Program) (N dst:Nat) (name:String) (r:AV) (items:List uD) (h:Hint) (fr:Fr):Option (Fr×Prop) :=
 match r with
 | .d x=>match nV N h.xs fr ((none,.d x) :: items),zV h.xs fr h.xs with
  | some (as,ts,lent),some vin =>
   if nodupB (taken ts++h.xs) && !(h.xs.contains dst) && decide (dst < N) && decide (as.length < aS) && h.res.closed && h.vout.all AV.gZ && decide (h.vout.length=h.xs.length)
     && lent.all (fun p => !((taken ts++h.xs).contains p.1)) && (lent.isEmpty || (h.res.bare && h.xs.isEmpty)) then
    some (sK dst h.xs (taken ts) h.res (h.vout.map (mW h.xs)) fr,bS0 P name as vin h.res h.vout)
   else none
  | _,_=>none
 | _=>none
def wV (P:Program) (N dst k:Nat) (items:List uD) (h:Hint) (fr:Fr):Option (Fr×Prop) :=
 match nV N h.xs fr items,zV h.xs fr h.xs with
 | some (as,ts,lent),some vin =>
  if nodupB (taken ts++h.xs) && !(h.xs.contains dst) && decide (dst < N) && decide (as.length < aS) && h.res.closed && h.vout.all AV.gZ && decide (h.vout.length=h.xs.length)
    && lent.all (fun p => !((taken ts++h.xs).contains p.1)) && (lent.isEmpty || (h.res.bare && h.xs.isEmpty)) then
   some (sK dst h.xs (taken ts) h.res (h.vout.map (mW h.xs)) fr,aG P k as vin h.res h.vout)
  else none
 | _,_=>none
section
variable {P:Program} {e:Env} {G:dW} {S:Nat→Prop} {β:Path→Value} {fr:Fr} {w:World} {a:Act}
theorem idxOf?_get {xs:List Nat} {x j:Nat} (h:xs.idxOf? x=some j):xs[j]? = some x:=by
 rw [List.idxOf?_eq_some_iff] at h
 obtain ⟨h1,h2,_⟩:=h
 rw [List.getElem?_eq_getElem h1,h2]
def calleeβ (β:Path→Value) (ts:List (Option Nat)) (xs:List Nat):Path→Value:=fun p =>
 if aD≤p.1 then match xs[p.1 - aD]? with
  | some x=>β (x,p.2)
  | none=>.bool false
 else match (ts[p.1]?).join with
  | some s=>β (s,p.2)
  | none=>.bool false
def nJ (S:Nat→Prop) (β:Path→Value) (lent:List Path):Nat→Prop:=fun b=>S b∨∃ p∈lent,blk (β p)=some b
theorem calleeβ_virt {ts:List (Option Nat)} {xs:List Nat} {j x:Nat} (h:xs[j]? = some x) (i:Nat):calleeβ β ts xs (aD+j,i)=β (x,i):=by
 simp [calleeβ,h]
theorem calleeβ_arg {ts:List (Option Nat)} {xs:List Nat} {i s:Nat} (hi:i < aD) (h:ts[i]? = some (some s)) (j:Nat):calleeβ β ts xs (i,j)=β (s,j):=by
 simp only [calleeβ]
 rw [if_neg (by omega),h]
 rfl
theorem cC0 (hm:Mem e G S β fr (bQ e a) w) {p:Path} {κ:TypeId} {sz:Nat} {es:List (List Dat)} (hp:fH fr p=.own κ sz es) {lent:List Path} (hl:p∈lent):RD (nJ S β lent) w (.sl sz es) (β p):=by
 have ho:=jW hm hp
 simp only [RD]
 rcases ho with h | ⟨b,off,c,arr,E,fz,h1,h2,h3,h4,h5,hκ,h6⟩
 ·exact .inl ⟨⟨_,h.1⟩,h.2⟩
 ·exact .inr ⟨b,off,c,arr,E,fz,h1,h2,.inr ⟨p,hl,by rw [h1]; rfl⟩,h5,REs.mono (fun _ h=>.inl h) (fun _ _=>rfl) sz es _ _ h6⟩
theorem aQ1 (hm:Mem e G S β fr (bQ e a) w) {xs:List Nat} {ts:List (Option Nat)} {lent:List Path}:∀ (caps cs:List AV) (l:List Path) (us:List Value),yT xs fr caps=some (cs,l)→(∀ p∈l,p∈lent) →
  bI (fun _=>rC S w β) 0 caps us→bI (fun _=>rC (nJ S β lent) w (calleeβ β ts xs)) 0 cs us
 | [],cs,l,us,h,_,hr=>by
  simp only [yT,Option.some.injEq,Prod.mk.injEq] at h
  obtain ⟨rfl,rfl⟩:=h
  cases us <;> simp_all [bI]
 | c :: caps,cs,l,us,h,hl,hr=>by
  cases us with
  | nil=>simp [bI] at hr
  | cons u us =>
   simp only [bI] at hr
   simp only [yT] at h
   split at h
   ·cases h
   rename_i cs' l' hrest
   have shift:∀ {cs':List AV},bI (fun _=>rC (nJ S β lent) w (calleeβ β ts xs)) 0 cs' us→bI (fun _=>rC (nJ S β lent) w (calleeβ β ts xs)) (0+1) cs' us:=fun h2 =>
    bI.dJ (bI.len h2) fun k p q hp hq=>by
     obtain ⟨q',hq',hpq⟩:=bI.get h2 k p hp
     rw [hq] at hq'
     cases hq'
     exact hpq
   have hr2:bI (fun _=>rC S w β) 0 caps us:=bI.dJ (bI.len hr.2) fun k p q hp hq=>by
    obtain ⟨q',hq',hpq⟩:=bI.get hr.2 k p hp
    rw [hq] at hq'
    cases hq'
    exact hpq
   have ih:=fun hl'=>shift (aQ1 hm caps cs' l' us hrest hl' hr2)
   split at h
   ·simp only [Option.some.injEq,Prod.mk.injEq] at h
    obtain ⟨rfl,rfl⟩:=h
    exact ⟨RD.mono (fun _ h=>.inl h) (fun _ _=>rfl) _ _ hr.1,ih hl⟩
   ·rename_i x off
    simp only [Option.map_eq_some_iff,Prod.mk.injEq] at h
    obtain ⟨j,hj,rfl,rfl⟩:=h
    refine ⟨?_,ih hl⟩
    obtain ⟨b,h1,h2⟩:=hr.1
    exact ⟨b,by rw [calleeβ_virt (idxOf?_get hj)]; exact h1,h2⟩
   ·rename_i p
    have hu:u=β p:=hr.1
    split at h
    ·rename_i sz es hp
     simp only [Option.some.injEq,Prod.mk.injEq] at h
     obtain ⟨rfl,rfl⟩:=h
     exact ⟨by rw [hu]; exact cC0 hm hp (hl p (by simp)),ih fun q hq=>hl q (by simp [hq])⟩
    ·rename_i sz es hp
     simp only [Option.some.injEq,Prod.mk.injEq] at h
     obtain ⟨rfl,rfl⟩:=h
     exact ⟨by rw [hu]; exact RD.mono (fun _ h=>.inl h) (fun _ _=>rfl) _ _ (wS hm hp),ih hl⟩
    ·cases h
   ·cases h
theorem bA5 {S:Nat→Prop} {w:World} {β:Path→Value}:∀ (as:List AV) (ds:List Dat) (us:List Value) (i:Nat),aX8 as=some ds→bI (fun _=>rC S w β) i as us→us.length=ds.length∧RCs S w ds (fun j=>us[j]?) 0
 | [],ds,us,i,h,hr=>by
  simp only [aX8,Option.some.injEq] at h
  subst h
  cases us with
  | nil=>exact ⟨rfl,by simp [RCs]⟩
  | cons u us=>simp [bI] at hr
 | a :: as,ds,[],i,h,hr=>by simp [bI] at hr
 | a :: as,ds,u :: us,i,h,hr=>by
  simp only [bI] at hr
  cases a <;> simp only [aX8,Option.map_eq_some_iff,reduceCtorEq] at h
  case d y =>
   obtain ⟨r,h1,rfl⟩:=h
   obtain ⟨g1,g2⟩:=bA5 as r us (i+1) h1 hr.2
   refine ⟨by simp [g1],?_⟩
   simp only [RCs]
   exact ⟨⟨u,by simp,hr.1⟩,RCs.congr r 0 1 (fun j _=>by simp [Nat.add_comm 1 j]) g2⟩
  case fz sz es=>exact absurd hr.1 (by simp [rC])
theorem cZ5 (hm:Mem e G S β fr (bQ e a) w) {xs:List Nat} {ts:List (Option Nat)} {lent:List Path} {v av:AV} {l:List Path} (h:trV xs fr v=some (av,l)) (hl:∀ p∈l,p∈lent) {u:Value} (hr:bA S w β (0,0) v u) (q:Path) :
  bA (nJ S β lent) w (calleeβ β ts xs) q av u∧av.bV=false∧av.flat=true:=by
 unfold trV at h
 split at h
 ·simp only [Option.some.injEq,Prod.mk.injEq] at h
  obtain ⟨rfl,rfl⟩:=h
  exact ⟨RD.mono (fun _ h=>.inl h) (fun _ _=>rfl) _ _ hr,rfl,rfl⟩
 ·simp only [Option.some.injEq,Prod.mk.injEq] at h
  obtain ⟨rfl,rfl⟩:=h
  obtain ⟨l,h1,h2,h3⟩:=hr
  exact ⟨⟨l,h1,h2,RCs.mono (fun _ h=>.inl h) (fun _ _=>rfl) _ _ _ h3⟩,rfl,rfl⟩
 ·rename_i p
  have hu:u=β p:=hr
  split at h
  ·rename_i j hj
   simp only [Option.some.injEq,Prod.mk.injEq] at h
   obtain ⟨rfl,rfl⟩:=h
   exact ⟨by rw [hu]; exact (calleeβ_virt (idxOf?_get hj) p.2).symm,rfl,rfl⟩
  split at h
  ·rename_i sz es hp
   simp only [Option.some.injEq,Prod.mk.injEq] at h
   obtain ⟨rfl,rfl⟩:=h
   exact ⟨by rw [hu]; exact cC0 hm hp (hl p (by simp)),rfl,rfl⟩
  ·rename_i sz es hp
   simp only [Option.some.injEq,Prod.mk.injEq] at h
   obtain ⟨rfl,rfl⟩:=h
   exact ⟨by rw [hu]; exact RD.mono (fun _ h=>.inl h) (fun _ _=>rfl) _ _ (wS hm hp),rfl,rfl⟩
  ·cases h
 ·rename_i x off
  simp only [Option.map_eq_some_iff,Prod.mk.injEq] at h
  obtain ⟨j,hj,rfl,rfl⟩:=h
  obtain ⟨b,h1,h2⟩:=hr
  exact ⟨⟨b,by rw [calleeβ_virt (idxOf?_get hj)]; exact h1,h2⟩,rfl,rfl⟩
 ·rename_i f caps
  simp only [Option.map_eq_some_iff,Prod.mk.injEq] at h
  obtain ⟨⟨cs,l'⟩,hc,rfl,rfl⟩:=h
  obtain ⟨us,h1,h2⟩:=hr
  exact ⟨⟨us,h1,aQ1 hm caps cs l' us hc hl h2⟩,rfl,rfl⟩
 ·rename_i cs
  split at h
  ·rename_i as l' hc
   simp only [Option.map_eq_some_iff,Prod.mk.injEq] at h
   obtain ⟨ds,hd,rfl,rfl⟩:=h
   obtain ⟨us,h1,_,h2⟩:=hr
   obtain ⟨g1,g2⟩:=bA5 as ds us 0 hd (aQ1 (ts:=ts) hm cs as _ us hc hl h2)
   exact ⟨⟨us,h1,g1,g2⟩,rfl,rfl⟩
  ·cases h
 ·cases h
def aI4 (_N:Nat) (S:Nat→Prop) (w:World) (β:Path→Value) (a:Act) (it:uD) (u:Value):Prop :=
 match it.1 with
 | some s=>u=a.eval (.tmp s)
 | none=>bA S w β (0,0) it.2 u
theorem aR1 {N:Nat} (hN:a.tmps.size=N) (hm:Mem e G S β fr (bQ e a) w) {xs:List Nat} {lent:List Path} (ts0:List (Option Nat)):∀ (items:List uD) (as:List AV) (ts:List (Option Nat)) (l:List Path) (us:List Value) (i:Nat),
    nV N xs fr items=some (as,ts,l)→(∀ p∈l,p∈lent)→bI (fun _=>aI4 N S w β a) i items us→i+items.length≤aD→(∀ j t,ts[j]? = some t→ts0[i+j]? = some t) →
    as.length=items.length∧ts.length=items.length∧bI (fun j av u=>bA (nJ S β lent) w (calleeβ β ts0 xs) (j,0) av u) i as us ∧
    (∀ (j:Nat) (av:AV),as[j]? = some av→av.flat=true∧(av.bV=true→∃ s,ts[j]? = some (some s)∧s < N∧(aX fr s).bV=true∧(aX fr s).flat=true))
  | [],as,ts,l,us,i,h,_,hr,_,_=>by
    simp only [nV,Option.some.injEq,Prod.mk.injEq] at h
    obtain ⟨rfl,rfl,rfl⟩:=h
    cases us <;> simp_all [bI]
  | (tk,v) :: items,as,ts,l,us,i,h,hl,hr,hi,hts=>by
    cases us with
    | nil=>simp [bI] at hr
    | cons u us =>
      simp only [bI] at hr
      simp only [nV] at h
      split at h
      · cases h
      rename_i as' ts' l' hrest
      simp only [List.length_cons] at hi
      cases tk with
      | some s =>
        simp only at h
        split at h
        case h_2=>cases h
        rename_i sz es hf
        split at h
        case isFalse=>cases h
        rename_i hs
        simp only [Option.some.injEq,Prod.mk.injEq] at h
        obtain ⟨rfl,rfl,rfl⟩:=h
        obtain ⟨h1,h2,h3,h4⟩:=aR1 hN hm ts0 items as' ts' l' us (i+1) hrest hl hr.2 (by omega) (fun j t hj=>by have:=hts (j+1) t (by simpa using hj); rwa [Nat.add_assoc,Nat.add_comm 1 j])
        refine ⟨by simp [h1],by simp [h2],⟨?_,h3⟩,fun j av hj=>?_⟩
        · have hu:u=a.eval (.tmp s):=hr.1
          obtain ⟨u0,hru,hu0⟩:=hm.rel s
          have:=hu0 _ (lL (by rw [hN]; exact hs))
          rw [← hu] at this
          subst this
          rw [hf] at hru
          refine ⟨?_,hru.2.turn (fun _ h=>.inl h) (fun _ _=>rfl) (fun _ _=>rfl)⟩
          rw [calleeβ_arg (s:=s) (by omega) (by have:=hts 0 (some s) (by simp); simpa using this)]
          exact hru.1
        · cases j with
          | zero =>
            simp only [List.getElem?_cons_zero,Option.some.injEq] at hj
            subst hj
            exact ⟨rfl,fun _=>⟨s,by simp,hs,by rw [hf]; rfl,by rw [hf]; rfl⟩⟩
          | succ j=>simpa using h4 j av (by simpa using hj)
      | none =>
        simp only at h
        split at h
        case h_2=>cases h
        rename_i a' l'' hv
        simp only [Option.some.injEq,Prod.mk.injEq] at h
        obtain ⟨rfl,rfl,rfl⟩:=h
        obtain ⟨h1,h2,h3,h4⟩:=aR1 hN hm ts0 items as' ts' l' us (i+1) hrest (fun p hp=>hl p (by simp [hp])) hr.2 (by omega) (fun j t hj=>by have:=hts (j+1) t (by simpa using hj); rwa [Nat.add_assoc,Nat.add_comm 1 j])
        obtain ⟨hv1,hv2,hv3⟩:=cZ5 (ts:=ts0) hm hv (fun p hp=>hl p (by simp [hp])) hr.1 (i,0)
        refine ⟨by simp [h1],by simp [h2],⟨hv1,h3⟩,fun j av hj=>?_⟩
        cases j with
        | zero =>
          simp only [List.getElem?_cons_zero,Option.some.injEq] at hj
          subst hj
          exact ⟨hv3,fun ho=>by rw [hv2] at ho; cases ho⟩
        | succ j=>simpa using h4 j av (by simpa using hj)
theorem bB5 {zs:List Nat}:∀ (xs:List Nat) (vin:List AV),zV zs fr xs=some vin→vin.length=xs.length∧∀ (j x:Nat),xs[j]? = some x→(aX fr x).nU=true∧vin[j]? = some (aZ0 zs (aX fr x))
 | [],vin,h=>by
  simp only [zV,Option.some.injEq] at h
  subst h
  simp
 | x :: xs,vin,h=>by
  simp only [zV] at h
  split at h
  case h_2=>cases h
  rename_i l hf hrest
  simp only [Option.some.injEq] at h
  subst h
  obtain ⟨h1,h2⟩:=bB5 xs l hrest
  refine ⟨by simp [h1],fun j y hj=>?_⟩
  cases j with
  | zero =>
   simp only [List.getElem?_cons_zero,Option.some.injEq] at hj
   subst hj
   exact ⟨hf,by simp⟩
  | succ j=>simpa using h2 j y (by simpa using hj)
theorem aW3 {S':Nat→Prop} {β':Path→Value} {xs:List Nat} (hs:∀ b,S b→S' b) (hx:∀ x j,xs.idxOf? x=some j→β' (aD+j,0)=β (x,0)):∀ (caps cs:List AV) (us:List Value) (i:Nat),aY0 xs caps=some cs→bI (fun _=>rC S w β) i caps us→bI (fun _=>rC S' w β') i cs us
 | [],cs,us,i,h,hr=>by
  simp only [aY0,Option.some.injEq] at h
  subst h
  cases us <;> simp_all [bI]
 | c :: caps,cs,[],i,h,hr=>by simp [bI] at hr
 | c :: caps,cs,u :: us,i,h,hr=>by
  unfold aY0 at h
  split at h
  ·rename_i heq; cases heq
  ·rename_i x off r heq
   cases heq
   split at h
   ·rename_i j l hj hl
    simp only [Option.some.injEq] at h
    subst h
    refine ⟨?_,aW3 hs hx caps l us (i+1) hl hr.2⟩
    obtain ⟨b,h1,h2⟩:=hr.1
    exact ⟨b,(hx x j hj).trans h1,h2⟩
   ·cases h
  ·rename_i x r heq
   cases heq
   simp only [Option.map_eq_some_iff] at h
   obtain ⟨l,hl,rfl⟩:=h
   exact ⟨RD.mono hs (fun _ _=>rfl) _ _ hr.1,aW3 hs hx caps l us (i+1) hl hr.2⟩
  ·cases h
theorem aL1 {β':Path→Value} {xs:List Nat} (hx:∀ x j,xs[j]? = some x→β' (x,0)=β (aD+j,0)):∀ (caps cs:List AV) (us:List Value) (i:Nat),tN xs caps=some cs→bI (fun _=>rC S w β) i caps us→bI (fun _=>rC S w β') i cs us
 | [],cs,us,i,h,hr=>by
  simp only [tN,Option.some.injEq] at h
  subst h
  cases us <;> simp_all [bI]
 | c :: caps,cs,[],i,h,hr=>by simp [bI] at hr
 | c :: caps,cs,u :: us,i,h,hr=>by
  unfold tN at h
  split at h
  ·rename_i heq; cases heq
  ·rename_i y off r heq
   cases heq
   split at h
   case isFalse=>cases h
   rename_i hy
   split at h
   ·rename_i x l hj hl
    simp only [Option.some.injEq] at h
    subst h
    refine ⟨?_,aL1 hx caps l us (i+1) hl hr.2⟩
    obtain ⟨b,h1,h2⟩:=hr.1
    refine ⟨b,?_,h2⟩
    rw [hx x _ hj,show aD+(y - aD)=y by omega]
    exact h1
   ·cases h
  ·rename_i x r heq
   cases heq
   simp only [Option.map_eq_some_iff] at h
   obtain ⟨l,hl,rfl⟩:=h
   exact ⟨hr.1,aL1 hx caps l us (i+1) hl hr.2⟩
  ·cases h
theorem xO {xs:List Nat}:∀ (caps cs:List AV),tN xs caps=some cs→∀ q∈cs.flatMap AV.mA,q.1∈xs∧q.2=0
 | [],cs,h,q,hq=>by
  simp only [tN,Option.some.injEq] at h
  subst h
  cases hq
 | c :: caps,cs,h,q,hq=>by
  unfold tN at h
  split at h
  ·rename_i heq; cases heq
  ·rename_i y off r heq
   cases heq
   split at h
   case isFalse=>cases h
   split at h
   ·rename_i x l hj hl
    simp only [Option.some.injEq] at h
    subst h
    simp only [List.flatMap_cons,AV.mA,List.cons_append,List.nil_append,List.mem_cons] at hq
    rcases hq with rfl | hq
    ·exact ⟨List.mem_of_getElem? hj,rfl⟩
    ·exact xO caps l hl q hq
   ·cases h
  ·rename_i x r heq
   cases heq
   simp only [Option.map_eq_some_iff] at h
   obtain ⟨l,hl,rfl⟩:=h
   exact xO caps l hl q (by simpa [AV.mA] using hq)
  ·cases h
theorem bS3 {S':Nat→Prop} {β':Path→Value} {xs:List Nat} {p q:Path} {c:AV} {u:Value} (h:bA S w β p c u) (hs:∀ b,S b→S' b) (hx:∀ x j,xs.idxOf? x=some j→β' (aD+j,0)=β (x,0)) (hpq:β' q=β p) (hslf:β' (q.1,0)=β (p.1,0)) (hq:q.2≠0):bA S' w β' q (aC7 xs c) u:=by
 cases c
 case clo f caps =>
  obtain ⟨l,h1,h2⟩:=h
  simp only [aC7]
  cases hcs:aY0 xs caps with
  | some cs=>exact ⟨l,h1,aW3 hs hx caps cs l 0 hcs h2⟩
  | none=>trivial
 all_goals simp only [aC7,bA] at h ⊢
 case d=>exact RD.mono hs (fun _ _=>rfl) _ _ h
 case own=>exact ⟨h.1.trans hpq.symm,h.2.turn hs (fun _ _=>rfl) (fun _ _=>rfl)⟩
 case fz=>exact RD.mono hs (fun _ _=>rfl) _ _ h.2
 case slf=>rw [hslf]; exact ⟨hq,h.2⟩
theorem cF6 {xs:List Nat} {c:AV} {i:Nat} (hl:c.nU=true) (h:(aZ0 xs c).aR i=true):c.aR i=true:=by
 cases c <;> simp only [AV.nU,reduceCtorEq] at hl
 case own=>exact h
 case arr=>exact h
 case glo=>exact h
 case box cs =>
  cases i with
  | zero=>rfl
  | succ i =>
   simp only [aZ0,AV.aR,List.getElem?_map,Option.map_map] at h ⊢
   cases hc:cs[i]? with
   | none=>simp [hc] at h
   | some c =>
    simp only [hc,Option.map_some,Function.comp,Option.getD_some] at h ⊢
    cases c
    case clo f caps =>
     simp only [aC7] at h
     split at h <;> cases h
    all_goals first | rfl | exact h | cases h
theorem bL8 {xs:List Nat} {c:AV}:(wI xs c).bV=c.bV:=by
 cases c <;> simp only [wI]
 split <;> rfl
theorem cE6 {xs:List Nat} {c:AV} {i:Nat}:(mW xs c).aR i=c.aR i:=by
 cases c <;> simp only [mW]
 rename_i cs
 cases i with
 | zero=>rfl
 | succ i =>
  simp only [AV.aR,List.getElem?_map]
  cases hc:cs[i]? with
  | none=>simp
  | some c=>simp [bL8]
end
end Go.Vm
namespace Go.Vm
section
variable {P:Program} {e:Env} {G:dW} {S:Nat→Prop} {β:Path→Value} {fr:Fr} {w:World} {a:Act}
theorem xR {ts:List (Option Nat)} {i s:Nat} (h:ts[i]? = some (some s)):s∈taken ts:=by
 simp only [taken,List.mem_filterMap,id]
 exact ⟨some s,List.mem_of_getElem? h,rfl⟩
theorem aQ5:∀ {ts:List (Option Nat)},(taken ts).Nodup→∀ (i j s:Nat),ts[i]? = some (some s)→ts[j]? = some (some s)→i=j
 | [],_,i,j,s,h,_=>by simp at h
 | t :: ts,hn,i,j,s,hi,hj=>by
  cases t with
  | none =>
   have hn':(taken ts).Nodup:=by simpa [taken] using hn
   cases i with
   | zero=>simp at hi
   | succ i=>cases j with
    | zero=>simp at hj
    | succ j=>rw [aQ5 hn' i j s (by simpa using hi) (by simpa using hj)]
  | some t =>
   have hn':t ∉ taken ts∧(taken ts).Nodup:=by simpa [taken] using hn
   cases i with
   | zero =>
    simp at hi
    subst hi
    cases j with
    | zero=>rfl
    | succ j=>exact absurd (xR (by simpa using hj)) hn'.1
   | succ i=>cases j with
    | zero =>
     simp at hj
     subst hj
     exact absurd (xR (by simpa using hi)) hn'.1
    | succ j=>rw [aQ5 hn'.2 i j s (by simpa using hi) (by simpa using hj)]
structure bE4 (fr fin:Fr) (β β':Path→Value) (tk xs:List Nat):Prop where
 src:∀ y i,(aX fin y).aR i=true→∃ z,(aX fr z).aR i=true∧(z∈tk∨z∈xs)∧(∀ b,blk (β' (y,i))=some b→blk (β (z,i))=some b)
 inj:∀ y i z j b,(aX fin y).aR i=true→(aX fin z).aR j=true→blk (β' (y,i))=some b→blk (β' (z,j))=some b→y=z∧i=j
theorem bY {as:List AV} {vin:List AV} {x:Nat} (h:x < as.length):aX (bO as vin) x=as.getD x .junk:=by
 rw [bO,pW,if_pos ⟨Nat.zero_le _,by omega⟩,Nat.sub_zero]
theorem dF {as:List AV} {vin:List AV} {j:Nat} (ha:as.length < aS):aX (bO as vin) (aD+j)=if j < vin.length then vin.getD j .junk else .junk:=by
 rw [bO,pW,if_neg (by simp only [aD,aS] at *; omega),mM]
 by_cases h:j < vin.length
 ·rw [if_pos ⟨by omega,by omega⟩,if_pos h,Nat.add_sub_cancel_left]
 ·rw [if_neg (by omega),if_neg h]
theorem fQ {as:List AV} {vin:List AV} {x:Nat} (h1:as.length≤x) (h2:x < aD):aX (bO as vin) x=.junk:=by
 rw [bO,pW,if_neg (by omega),mM,if_neg (by omega)]
theorem lI (as:List AV) (_vin:List AV) (x:Nat):x < as.length∨(as.length≤x∧x < aD)∨∃ j,x=aD+j:=by
 rcases Nat.lt_or_ge x as.length with h | h
 ·exact .inl h
 ·rcases Nat.lt_or_ge x aD with h2 | h2
  ·exact .inr (.inl ⟨h,h2⟩)
  ·exact .inr (.inr ⟨x - aD,by omega⟩)
theorem calleeOwn (hm:Mem e G S β fr (bQ e a) w) {as:List AV} {ts:List (Option Nat)} {vin:List AV} {xs:List Nat} (hlen:as.length < aS) (hn:(taken ts++xs).Nodup)
  (hargs:∀ (j:Nat) (av:AV),as[j]? = some av→av.flat=true∧(av.bV=true→∃ s,ts[j]? = some (some s)∧(aX fr s).bV=true∧(aX fr s).flat=true))
  (hvl:vin.length=xs.length) (hbox:∀ (j x:Nat),xs[j]? = some x→(aX fr x).nU=true∧vin[j]? = some (aZ0 xs (aX fr x))) :
  bE4 fr (bO as vin) β (calleeβ β ts xs) (taken ts) xs:=by
 have src:∀ y i,(aX (bO as vin) y).aR i=true→∃ z,(aX fr z).aR i=true∧((y < as.length∧ts[y]? = some (some z)∧i=0)∨(∃ j,y=aD+j∧xs[j]? = some z))∧calleeβ β ts xs (y,i)=β (z,i):=by
  intro y i ho
  rcases lI as vin y with hy | ⟨hy1,hy2⟩ | ⟨j,rfl⟩
  ·rw [bY hy] at ho
   have hg:as[y]? = some (as.getD y .junk):=by simp [List.getD_eq_getElem?_getD,List.getElem?_eq_getElem hy]
   obtain ⟨h1,h2⟩:=hargs y _ hg
   obtain ⟨rfl,h3⟩:=nR h1 i ho
   obtain ⟨s,hs,hso,hsf⟩:=h2 h3
   refine ⟨s,?_,.inl ⟨hy,hs,rfl⟩,calleeβ_arg (by simp only [aD,aS] at *; omega) hs 0⟩
   cases hf:aX fr s <;> simp_all [AV.aR,AV.bV,AV.flat]
  ·rw [fQ hy1 hy2] at ho
   cases i <;> simp [AV.aR,AV.bV] at ho
  ·rw [dF hlen] at ho
   split at ho
   case isFalse=>cases i <;> simp [AV.aR,AV.bV] at ho
   rename_i hj
   have hx:xs[j]? = some (xs[j]'(by omega)):=List.getElem?_eq_getElem (by omega)
   obtain ⟨hl,hv⟩:=hbox j _ hx
   refine ⟨xs[j],?_,.inr ⟨j,rfl,hx⟩,calleeβ_virt hx i⟩
   rw [List.getD_eq_getElem?_getD,hv,Option.getD_some] at ho
   exact cF6 hl ho
 refine ⟨fun y i ho=>?_,fun y i z j b hy hz hyb hzb=>?_⟩
 ·obtain ⟨z,h1,h2,h3⟩:=src y i ho
  refine ⟨z,h1,?_,fun b hb=>by rw [← h3]; exact hb⟩
  rcases h2 with ⟨_,h,_⟩ | ⟨j,_,h⟩
  ·exact .inl (xR h)
  ·exact .inr (List.mem_of_getElem? h)
 ·obtain ⟨y',hy1,hy2,hy3⟩:=src y i hy
  obtain ⟨z',hz1,hz2,hz3⟩:=src z j hz
  rw [hy3] at hyb
  rw [hz3] at hzb
  obtain ⟨h1,h2⟩:=hm.dis y' i z' j b hy1 hz1 hyb hzb
  subst h1
  subst h2
  refine ⟨?_,rfl⟩
  rw [List.nodup_append] at hn
  obtain ⟨hn1,hn2,hn3⟩:=hn
  rcases hy2 with ⟨_,hys,_⟩ | ⟨j1,rfl,hyx⟩ <;> rcases hz2 with ⟨_,hzs,_⟩ | ⟨j2,rfl,hzx⟩
  ·exact aQ5 hn1 y z y' hys hzs
  ·exact absurd rfl (hn3 y' (xR hys) y' (List.mem_of_getElem? hzx))
  ·exact absurd rfl (hn3 y' (xR hzs) y' (List.mem_of_getElem? hyx))
  ·have hl1:=(List.getElem?_eq_some_iff.1 hyx)
   have hl2:=(List.getElem?_eq_some_iff.1 hzx)
   obtain ⟨p1,q1⟩:=hl1
   obtain ⟨p2,q2⟩:=hl2
   have:j1=j2:=(List.getElem_inj (h₀:=p1) (h₁:=p2) hn2).1 (by rw [q1,q2])
   rw [this]
theorem cI1 (hm:Mem e G S β fr (bQ e a) w) {as:List AV} {ts:List (Option Nat)} {lent:List Path} {vin:List AV} {xs:List Nat} {us:List Value} (hlen:as.length < aS) (hn:(taken ts++xs).Nodup)
  (hargs:∀ (j:Nat) (av:AV),as[j]? = some av→av.flat=true∧(av.bV=true→∃ s,ts[j]? = some (some s)∧(aX fr s).bV=true∧(aX fr s).flat=true))
  (hrel:bI (fun j av u=>bA (nJ S β lent) w (calleeβ β ts xs) (j,0) av u) 0 as us)
  (hvl:vin.length=xs.length) (hbox:∀ (j x:Nat),xs[j]? = some x→(aX fr x).nU=true∧vin[j]? = some (aZ0 xs (aX fr x)))
  (hlent:∀ p∈lent,p.1 ∉ taken ts++xs∧(aX fr p.1).aR p.2=true) :
  Mem ⟨w,eD (bO as vin) (calleeβ β ts xs),nJ S β lent,bT (calleeβ β ts xs) vin.length,[]⟩ [] (nJ S β lent) (calleeβ β ts xs) (bO as vin) (fun x=>(us[x]?).or (bT (calleeβ β ts xs) vin.length x)) w:=by
 have hco:=calleeOwn hm hlen hn hargs hvl hbox
 have hSnot:∀ b,nJ S β lent b→∀ z i,(aX fr z).aR i=true→(z∈taken ts∨z∈xs)→blk (β (z,i))≠some b:=by
  intro b hb z i ho hz hbl
  rcases hb with h | ⟨p,hp,h⟩
  ·exact (hm.fre z i b ho hbl).1 h
  ·obtain ⟨h1,h2⟩:=hlent p hp
   obtain ⟨h3,_⟩:=hm.dis z i p.1 p.2 b ho h2 hbl h
   subst h3
   exact h1 (by simpa using hz)
 refine ⟨fun x=>?_,fun x l av h=>?_,hco.inj,fun y i b ho hb=>?_,fun b hb=>⟨?_,.inl hb⟩,fun b hb=>hb,fun _ _ _=>rfl,rfl,rfl,rfl,Nat.le_refl _⟩
 ·rcases lI as vin x with hx | ⟨hx1,hx2⟩ | ⟨j,rfl⟩
  ·have hg:as[x]? = some (as.getD x .junk):=by simp [List.getD_eq_getElem?_getD,List.getElem?_eq_getElem hx]
   obtain ⟨u,hu,hr⟩:=bI.get hrel x _ hg
   simp only [Nat.zero_add] at hr
   refine ⟨u,?_,fun u' h'=>by rw [hu] at h'; simpa using h'.symm⟩
   rw [bY hx]
   exact (dD (hargs x _ hg).1).2 hr
  ·rw [fQ hx1 hx2]
   have hnone:us[x]? = none:=List.getElem?_eq_none (by rw [← bI.len hrel]; exact hx1)
   have hla:bT (calleeβ β ts xs) vin.length x=none:=by
    unfold bT
    rw [if_neg (by omega)]
   exact ⟨undef,trivial,fun u' h'=>by rw [hnone,hla] at h'; cases h'⟩
  ·have hnone:us[aD+j]? = none:=List.getElem?_eq_none (by rw [← bI.len hrel]; simp only [aD,aS] at *; omega)
   rw [dF hlen]
   split
   case isFalse =>
    rename_i hj
    have hla:bT (calleeβ β ts xs) vin.length (aD+j)=none:=by
     unfold bT
     rw [if_neg (by omega)]
    exact ⟨undef,trivial,fun u' h'=>by rw [hnone,hla] at h'; cases h'⟩
   rename_i hj
   have hx:xs[j]? = some (xs[j]'(by omega)):=List.getElem?_eq_getElem (by omega)
   obtain ⟨hl,hv⟩:=hbox j _ hx
   obtain ⟨u,hr,_⟩:=hm.rel xs[j]
   rw [List.getD_eq_getElem?_getD,hv,Option.getD_some]
   have hla0:u=β (xs[j],0)→bT (calleeβ β ts xs) vin.length (aD+j)=some u:=by
    intro h0
    unfold bT
    rw [if_pos ⟨by omega,by omega⟩,calleeβ_virt hx,h0]
   cases hf:aX fr xs[j] <;> rw [hf] at hl <;> simp only [AV.nU,reduceCtorEq] at hl
   case own sz es =>
    rw [hf] at hr
    have hla:=hla0 hr.1
    exact ⟨u,⟨by rw [calleeβ_virt hx]; exact hr.1,hr.2.turn (fun _ h=>.inl h) (fun _ _=>rfl) (fun _ _=>rfl)⟩,fun u' h'=>by rw [hnone,hla] at h'; simpa using h'.symm⟩
   case arr sz es =>
    rw [hf] at hr
    have hla:=hla0 hr.1
    exact ⟨u,⟨by rw [calleeβ_virt hx]; exact hr.1,hr.2.turn (fun _ h=>.inl h) (fun _ _=>rfl) (fun _ _=>rfl)⟩,fun u' h'=>by rw [hnone,hla] at h'; simpa using h'.symm⟩
   case glo k cs =>
    rw [hf] at hr
    have hla:=hla0 hr.1
    exact ⟨u,⟨by rw [calleeβ_virt hx]; exact hr.1,hr.2.1,hr.2.2.mono (fun _ h=>.inl h) (fun _ _=>rfl)⟩,fun u' h'=>by rw [hnone,hla] at h'; simpa using h'.symm⟩
   rename_i cs
   rw [hf] at hr
   obtain ⟨h0,b,l,E,h1,h2,h3⟩:=hr
   have hla:=hla0 h0
   refine ⟨u,⟨by rw [calleeβ_virt hx]; exact h0,b,l,E,h1,h2,?_⟩,fun u' h'=>by rw [hnone,hla] at h'; simpa using h'.symm⟩
   refine bI.dJ (by simpa using bI.len h3) fun k av c hk hc=>?_
   simp only [List.getElem?_map,Option.map_eq_some_iff] at hk
   obtain ⟨c0,hc0,rfl⟩:=hk
   obtain ⟨c',hc',hrc⟩:=bI.get h3 k c0 hc0
   rw [hc] at hc'
   cases hc'
   simp only [Nat.zero_add] at hrc ⊢
   exact bS3 hrc (fun _ h=>.inl h) (fun x j hj=>calleeβ_virt (idxOf?_get hj) 0) (calleeβ_virt hx (k+1)) (calleeβ_virt hx 0) (by simp)
 ·rcases lI as vin x with hx | ⟨hx1,hx2⟩ | ⟨j,rfl⟩
  ·rw [bY hx] at h
   have hg:as[x]? = some (as.getD x .junk):=by simp [List.getD_eq_getElem?_getD,List.getElem?_eq_getElem hx]
   have:=(hargs x _ hg).1
   rw [h] at this
   cases this
  ·rw [fQ hx1 hx2] at h; cases h
  ·rw [dF hlen] at h
   split at h
   case isFalse=>cases h
   rename_i hj
   obtain ⟨hl,hv⟩:=hbox j _ (List.getElem?_eq_getElem (l:=xs) (i:=j) (by omega))
   rw [List.getD_eq_getElem?_getD,hv,Option.getD_some] at h
   cases hf:aX fr xs[j] <;> rw [hf] at hl h <;> simp only [AV.nU,reduceCtorEq] at hl <;> cases h
 ·obtain ⟨z,h1,h2,h3⟩:=hco.src y i ho
  exact ⟨fun hb'=>hSnot b hb' z i h1 h2 (h3 b hb),.inr ⟨y,i,ho,hb⟩⟩
 ·rcases hb with h | ⟨p,hp,h⟩
  ·exact (hm.stb b h).1
  ·exact hm.blt (hlent p hp).2 h
end
end Go.Vm
namespace Go.Vm
section
variable {P:Program} {e:Env} {G:dW} {S:Nat→Prop} {β:Path→Value} {fr:Fr} {w:World} {a:Act}
theorem aV0 (r:Fr) (x:Nat):∀ tk:List Nat,aX (tk.map (fun s=>(s,AV.junk))++r) x=if x∈tk then .junk else aX r x
 | []=>by simp
 | t :: tk=>by
  simp only [List.map_cons,List.cons_append,qR,aV0 r x tk,List.mem_cons]
  by_cases h:t=x
  ·simp [h]
  ·simp [h,Ne.symm h]
theorem aO8 (r:Fr) (x:Nat):∀ (xs:List Nat) (vs:List AV),x ∉ xs→aX ((xs.zip vs)++r) x=aX r x
 | [],vs,_=>by simp
 | y :: xs,[],_=>by simp
 | y :: xs,v :: vs,h=>by
  simp only [List.mem_cons,not_or] at h
  simp only [List.zip_cons_cons,List.cons_append]
  rw [bL _ _ (Ne.symm h.1)]
  exact aO8 r x xs vs h.2
theorem aS5 (r:Fr) (x:Nat):∀ (xs:List Nat) (vs:List AV) (j:Nat) (v:AV),xs.Nodup→xs[j]? = some x→vs[j]? = some v→aX ((xs.zip vs)++r) x=v
 | [],vs,j,v,_,h,_=>by simp at h
 | y :: xs,[],j,v,_,_,h=>by simp at h
 | y :: xs,v' :: vs,0,v,_,h1,h2=>by
  simp at h1 h2
  subst h1 h2
  simp [aV]
 | y :: xs,v' :: vs,j+1,v,hn,h1,h2=>by
  have hn':=List.nodup_cons.1 hn
  have hmem:x∈xs:=List.mem_of_getElem? (by simpa using h1)
  simp only [List.zip_cons_cons,List.cons_append]
  have hne:y≠x:=by
   rintro rfl
   exact hn'.1 hmem
  rw [bL _ _ hne]
  exact aS5 r x xs vs j v hn'.2 (by simpa using h1) (by simpa using h2)
theorem aQ8 {g g':List (Nat×Bool)→Bool} {S:Nat→Prop} {w:World} {β:Path→Value} {x:Nat} {av:AV} {u:Value} (hn:av.zN=true) (h:dV g S w β x av u):dV g' S w β x av u:=by
 cases av
 case gd=>cases hn
 all_goals exact h
theorem cG8 {g:List (Nat×Bool)→Bool} {S S':Nat→Prop} {w:World} {β:Path→Value} {x:Nat} {av:AV} {u:Value} (hb:av.bare=true) (h:dV g S w β x av u):dV g S' w β x av u:=by
 have d:∀ (p:Path) (c:AV) (v:Value),(match c with | .d (.v _) | .d (.str _) | .junk=>true | _=>false)=true→bA S w β p c v→bA S' w β p c v:=by
  intro p c v hc hr
  split at hc
  ·exact hr
  ·exact hr
  ·exact trivial
  ·cases hc
 unfold AV.bare at hb
 split at hb
 ·exact h
 ·exact h
 ·exact trivial
 ·rename_i vs
  obtain ⟨l,h1,h0,h2⟩:=h
  refine ⟨l,h1,h0,bI.mono h2 fun j c v hc _ hr=>d _ c v ?_ hr⟩
  exact List.all_eq_true.1 hb c (List.mem_of_getElem? hc)
 ·cases hb
theorem cN8 {g:List (Nat×Bool)→Bool} {S:Nat→Prop} {w:World} {β:Path→Value} {x:Nat} {av:AV} {u:Value} (hb:av.nU=true) (h:dV g S w β x av u):u=β (x,0):=by
 cases av <;> simp only [AV.nU,reduceCtorEq] at hb
 all_goals exact h.1
theorem cG4 {av:AV} (hb:av.rO=true):av.zN=true:=by
 cases av <;> simp only [AV.rO,reduceCtorEq] at hb <;> rfl
theorem bF8 {g:List (Nat×Bool)→Bool} {S:Nat→Prop} {w:World} {β:Path→Value} {x:Nat} {av:AV} {u:Value} (hb:av.gZ=true) (h:dV g S w β x av u):u=β (x,0):=by
 cases av <;> simp only [AV.gZ,AV.rO,reduceCtorEq] at hb
 all_goals exact h.1
theorem aW0 {av:AV} (hb:av.gZ=true):av.zN=true:=by
 cases av <;> simp only [AV.gZ,AV.rO,reduceCtorEq] at hb <;> rfl
theorem bZ1 {xs:List Nat} {av:AV} (hb:av.gZ=true):(mW xs av).zN=true:=by
 cases av <;> simp only [AV.gZ,AV.rO,reduceCtorEq] at hb <;> rfl
theorem aU1 {xs:List Nat} {c:AV} (h:((c.jF.isEmpty && c.cell) || c.bE3)=true):∀ q∈(wI xs c).jF,q.1∈xs∧q.2=0:=by
 intro q hq
 cases c
 case clo f caps =>
  simp only [wI] at hq
  split at hq
  ·rename_i cs hcs
   exact xO caps cs hcs q hq
  ·cases hq
 all_goals
  simp only [AV.bE3,Bool.or_false,Bool.and_eq_true,List.isEmpty_iff] at h
  simp only [wI] at hq
  rw [h.1] at hq
  cases hq
theorem bP8 {xs:List Nat} {dst:Nat} {av:AV} (hd:dst ∉ xs) (hb:av.gZ=true):(mW xs av).dS (aL8 dst xs)=mW xs av:=by
 cases av <;> simp only [AV.gZ,AV.rO,reduceCtorEq] at hb
 ·rfl
 ·rfl
 ·rename_i cs
  simp only [List.all_eq_true] at hb
  simp only [mW,AV.dS,AV.box.injEq,List.map_map]
  refine List.map_congr_left fun c hc=>?_
  have hq:=aU1 (xs:=xs) (hb c hc)
  simp only [Function.comp,AV.dZ]
  rw [if_neg]
  simp only [Bool.not_eq_true,List.any_eq_false,Bool.not_eq_true]
  intro q hq'
  obtain ⟨h1,h2⟩:=hq q hq'
  have:q.1≠dst:=fun h=>hd (h ▸ h1)
  simp [aL8,this,h2]
 ·rfl
theorem bW0 {g:List (Nat×Bool)→Bool} {S:Nat→Prop} {w:World} {β β':Path→Value} {xs:List Nat} {x j:Nat} {av:AV} {u:Value} (hb:av.gZ=true) (hx:∀ x j,xs[j]? = some x→∀ i,β' (x,i)=β (aD+j,i)) (hj:xs[j]? = some x) (h:dV g S w β (aD+j) av u):dV g S w β' x (mW xs av) u:=by
 cases av <;> simp only [AV.gZ,AV.rO,reduceCtorEq] at hb
 case own=>exact h.rename (fun i=>hx x j hj i) fun q hq=>by cases hq
 case arr=>exact h.rename (fun i=>hx x j hj i) fun q hq=>by cases hq
 case glo=>exact h.rename (fun i=>hx x j hj i) fun q hq=>by cases hq
 rename_i cs
 obtain ⟨h0,b,l,E,h1,h2,h3⟩:=h
 refine ⟨h0.trans (hx x j hj 0).symm,b,l,E,h1,h2,bI.map _ h3 fun k c v hc _ hr=>?_⟩
 simp only [List.all_eq_true] at hb
 have hbc:=hb c (List.mem_of_getElem? hc)
 simp only [Nat.zero_add] at hr ⊢
 cases c
 case clo f caps =>
  obtain ⟨l',h4,h5⟩:=hr
  simp only [wI]
  cases hcs:tN xs caps with
  | some cs'=>exact ⟨l',h4,aL1 (fun x j h=>hx x j h 0) caps cs' l' 0 hcs h5⟩
  | none=>trivial
 all_goals
  simp only [AV.bE3,Bool.or_false,Bool.and_eq_true,List.isEmpty_iff] at hbc
  refine hr.rename (hx x j hj _) (.inr ⟨.inr (by simp),hx x j hj 0⟩) fun q hq=>?_
  have:=AV.tK _ q hq
  rw [hbc.1] at this
  cases this
theorem bX8 (hm:Mem e G S β fr (bQ e a) w) {as:List AV} {ts:List (Option Nat)} {lent:List Path} {vin vout:List AV} {xs:List Nat} {res:AV} {dst:Nat} (hdst:dst < a.tmps.size) (_hlen:as.length < aS) (hn:(taken ts++xs).Nodup)
  (hco:bE4 fr (bO as vin) β (calleeβ β ts xs) (taken ts) xs) (hdx:dst ∉ xs)
  (hbox:∀ (j x:Nat),xs[j]? = some x→(aX fr x).nU=true∧vin[j]? = some (aZ0 xs (aX fr x))) (hvl:vin.length=xs.length) (hvo:vout.length=xs.length)
  (hlent:∀ p∈lent,p.1 ∉ taken ts++xs∧(aX fr p.1).aR p.2=true) (hres:res.closed=true) (hvc:∀ a∈vout,a.gZ=true) (hlb:lent=[]∨(res.bare=true∧xs=[]))
  {u:Value} {S':Nat→Prop} {β':Path→Value} {w':World}
  (hm':Mem ⟨w,eD (bO as vin) (calleeβ β ts xs),nJ S β lent,bT (calleeβ β ts xs) vin.length,[]⟩ [] S' β' ((aS,res) :: jG aD vout) (fun x=>if x=aS then some u else bT (calleeβ β ts xs) vin.length x) w') :
  After e G (sK dst xs (taken ts) res (vout.map (mW xs)) fr) a dst u w':=by
 have hptr:∀ j,j < vin.length→β' (aD+j,0)=calleeβ β ts xs (aD+j,0):=by
  intro j hj
  obtain ⟨u0,hr0,hu0⟩:=hm'.rel (aD+j)
  rw [bL _ _ (by simp only [aD,aS]; omega),mM,if_pos ⟨by omega,by omega⟩] at hr0
  have hbk:(vout.getD (aD+j - aD) .junk).gZ=true:=by
   rw [List.getD_eq_getElem?_getD,List.getElem?_eq_getElem (by omega)]
   exact hvc _ (List.getElem_mem _)
  have:=hu0 (calleeβ β ts xs (aD+j,0)) (by
   rw [if_neg (by simp only [aD,aS]; omega)]
   unfold bT
   rw [if_pos ⟨by omega,by omega⟩])
  rw [this,← bF8 hbk hr0]
 obtain ⟨hres1,hres2⟩:res.paths=[]∧res.zN=true:=by simpa [AV.closed] using hres
 have hnt:(taken ts).Nodup∧xs.Nodup∧∀ y∈taken ts,y ∉ xs:=by
  rw [List.nodup_append] at hn
  exact ⟨hn.1,hn.2.1,fun y h1 h2=>hn.2.2 y h1 y h2 rfl⟩
 -- the blocks that the callee was given
 have hA:∀ b,eD (bO as vin) (calleeβ β ts xs) b→∃ z i,(aX fr z).aR i=true∧(z∈taken ts∨z∈xs)∧blk (β (z,i))=some b:=by
  rintro b ⟨y,i,ho,hb⟩
  obtain ⟨z,h1,h2,h3⟩:=hco.src y i ho
  exact ⟨z,i,h1,h2,h3 b hb⟩
 have hSA:∀ b,S b→¬ eD (bO as vin) (calleeβ β ts xs) b:=by
  intro b hS hb
  obtain ⟨z,i,h1,_,h3⟩:=hA b hb
  exact (hm.fre z i b h1 h3).1 hS
 have hag:Agree S w w':=fun b hS=>hm'.old b (hm.stb b hS).1 (hSA b hS)
 have hkeep:∀ y j b,y ∉ taken ts→y ∉ xs→(aX fr y).aR j=true→blk (β (y,j))=some b→b < w.heap.size∧¬ eD (bO as vin) (calleeβ β ts xs) b:=by
  intro y j b h1 h2 ho hb
  refine ⟨hm.blt ho hb,fun hAb=>?_⟩
  obtain ⟨z,i,h3,h4,h5⟩:=hA b hAb
  obtain ⟨h6,_⟩:=hm.dis y j z i b ho h3 hb h5
  subst h6
  rcases h4 with h | h
  ·exact h1 h
  ·exact h2 h
 have hAfre:∀ b,(w.heap.size≤b∨eD (bO as vin) (calleeβ β ts xs) b)→e.w0.heap.size≤b∨e.A b:=by
  rintro b (h | h)
  ·exact .inl (Nat.le_trans hm.size h)
  ·obtain ⟨z,i,h1,_,h3⟩:=hA b h
   exact (hm.fre z i b h1 h3).2
 let S'':Nat→Prop:=fun b=>S' b∧¬ ∃ p∈lent,blk (β p)=some b
 let β'':Path→Value:=fun p=>if p.1=dst then β' (aS,p.2) else match xs.idxOf? p.1 with
  | some j=>β' (aD+j,p.2)
  | none=>β p
 have hSS:∀ b,S b→S'' b:=by
  intro b hS
  refine ⟨hm'.s0 b (.inl hS),?_⟩
  rintro ⟨p,hp,hb⟩
  exact (hm.fre p.1 p.2 b (hlent p hp).2 hb).1 hS
 have hβd:∀ j,β'' (dst,j)=β' (aS,j):=fun j=>by simp [β'']
 have hidx:∀ (j x:Nat),xs[j]? = some x→xs.idxOf? x=some j:=by
  intro j x h
  cases hi:xs.idxOf? x with
  | none =>
   rw [List.idxOf?_eq_none_iff] at hi
   exact absurd (List.mem_of_getElem? h) hi
  | some i =>
   have hg:=idxOf?_get hi
   obtain ⟨p1,q1⟩:=List.getElem?_eq_some_iff.1 hg
   obtain ⟨p2,q2⟩:=List.getElem?_eq_some_iff.1 h
   have:i=j:=(List.getElem_inj (h₀:=p1) (h₁:=p2) hnt.2.1).1 (by rw [q1,q2])
   rw [this]
 have hβx:∀ (j x i:Nat),xs[j]? = some x→β'' (x,i)=β' (aD+j,i):=by
  intro j x i h
  have hne:x≠dst:=fun h'=>hdx (h' ▸ List.mem_of_getElem? h)
  simp only [β'',if_neg hne,hidx j x h]
 have hβo:∀ x i,x≠dst→x ∉ xs→β'' (x,i)=β (x,i):=by
  intro x i h1 h2
  have:xs.idxOf? x=none:=List.idxOf?_eq_none_iff.2 h2
  simp only [β'',if_neg h1,this]
 have hβ0:∀ p,aL8 dst xs p=false→β'' p=β p:=by
  rintro ⟨x,i⟩ h
  simp only [aL8,Bool.or_eq_false_iff,beq_eq_false_iff_ne,ne_eq,Bool.and_eq_false_iff,bne_eq_false_iff_eq] at h
  obtain ⟨h1,h2⟩:=h
  by_cases hx:x∈xs
  ·rcases h2 with h2 | h2
   ·subst h2
    obtain ⟨j,hj⟩:=List.getElem?_of_mem hx
    have hjl:=(List.getElem?_eq_some_iff.1 hj).1
    rw [hβx j x 0 hj,hptr j (by omega),calleeβ_virt hj]
   ·simp [hx] at h2
  ·exact hβo x i h1 hx
 -- the new frame,slot by slot
 have hf1:aX (sK dst xs (taken ts) res (vout.map (mW xs)) fr) dst=res:=aV _ _ _
 have hf0:∀ x,x≠dst→aX (sK dst xs (taken ts) res (vout.map (mW xs)) fr) x=(aX ((taken ts).map (fun s=>(s,AV.junk))++(xs.zip (vout.map (mW xs)))++fr) x).dS (aL8 dst xs):=by
  intro x hx
  rw [sK,bL _ _ (Ne.symm hx),nM]
 have hft:∀ x,x≠dst→x∈taken ts→aX (sK dst xs (taken ts) res (vout.map (mW xs)) fr) x=.junk:=by
  intro x hx ht
  rw [hf0 x hx,List.append_assoc,aV0,if_pos ht]
  rfl
 have hfx:∀ (j x:Nat),xs[j]? = some x→∃ v,vout[j]? = some v∧aX (sK dst xs (taken ts) res (vout.map (mW xs)) fr) x=mW xs v:=by
  intro j x hj
  have hjl:=(List.getElem?_eq_some_iff.1 hj).1
  have hmem:=List.mem_of_getElem? hj
  refine ⟨vout[j]'(by omega),List.getElem?_eq_getElem (by omega),?_⟩
  rw [hf0 x (fun h=>hdx (h ▸ hmem)),List.append_assoc,aV0,if_neg (fun h=>hnt.2.2 x h hmem),aS5 fr x xs (vout.map (mW xs)) j (mW xs (vout[j]'(by omega))) hnt.2.1 hj (by simp [List.getElem?_map,List.getElem?_eq_getElem (show j < vout.length by omega)])]
  exact bP8 hdx (hvc _ (List.getElem_mem _))
 have hfo:∀ x,x≠dst→x ∉ taken ts→x ∉ xs→aX (sK dst xs (taken ts) res (vout.map (mW xs)) fr) x=(aX fr x).dS (aL8 dst xs):=by
  intro x h1 h2 h3
  rw [hf0 x h1,List.append_assoc,aV0,if_neg h2,aO8 fr x xs (vout.map (mW xs)) h3]
 have hgv:∀ (j:Nat) (v:AV),vout[j]? = some v→aX ((aS,res) :: jG aD vout) (aD+j)=v:=by
  intro j v hv
  have hjl:=(List.getElem?_eq_some_iff.1 hv).1
  rw [bL _ _ (by simp only [aD,aS]; omega),mM,if_pos ⟨by omega,by omega⟩,Nat.add_sub_cancel_left,List.getD_eq_getElem?_getD,hv,Option.getD_some]
 have hgr:aX ((aS,res) :: jG aD vout) aS=res:=aV _ _ _
 -- the owners of the new frame
 have hown:∀ x i,(aX (sK dst xs (taken ts) res (vout.map (mW xs)) fr) x).aR i=true →
   (∃ y,(aX ((aS,res) :: jG aD vout) y).aR i=true∧β'' (x,i)=β' (y,i)∧((x=dst∧y=aS)∨∃ j,xs[j]? = some x∧y=aD+j)) ∨
   (x≠dst∧x ∉ taken ts∧x ∉ xs∧(aX fr x).aR i=true∧β'' (x,i)=β (x,i)):=by
  intro x i ho
  by_cases h1:x=dst
  ·subst h1
   rw [hf1] at ho
   exact .inl ⟨aS,by rw [hgr]; exact ho,hβd i,.inl ⟨rfl,rfl⟩⟩
  ·by_cases h2:x∈taken ts
   ·rw [hft x h1 h2] at ho
    cases i <;> simp [AV.aR,AV.bV] at ho
   ·by_cases h3:x∈xs
    ·obtain ⟨j,hj⟩:=List.getElem?_of_mem h3
     obtain ⟨v,hv,hf⟩:=hfx j x hj
     rw [hf,cE6] at ho
     exact .inl ⟨aD+j,by rw [hgv j v hv]; exact ho,hβx j x i hj,.inr ⟨j,hj,rfl⟩⟩
    ·rw [hfo x h1 h2 h3] at ho
     exact .inr ⟨h1,h2,h3,AV.fU _ _ i ho,hβo x i h1 h3⟩
 refine ⟨S'',β'',?_,?_,?_,?_,?_,fun b hb=>hSS b (hm.s0 b hb),?_,hm'.os.trans hm.os,hm'.tape.trans hm.tape,hm'.output.trans hm.output,Nat.le_trans hm.size hm'.size⟩
 ·intro x
  by_cases h1:x=dst
  ·subst h1
   rw [hf1]
   obtain ⟨u0,hr,hu0⟩:=hm'.rel aS
   rw [hgr] at hr
   have huu:u=u0:=hu0 u (by simp)
   subst huu
   refine ⟨u,?_,fT a x u hdst⟩
   have hr1:dV (dN G) S' w' β' aS res u:=aQ8 hres2 hr
   have hr2:dV (dN G) S'' w' β' aS res u:=by
    rcases hlb with h | h
    ·have hS:S''=S':=by
      funext b
      simp [S'',h]
     rw [hS]; exact hr1
    ·exact cG8 h.1 hr1
   exact hr2.rename (fun j=>hβd j) (fun q hq=>by rw [hres1] at hq; cases hq)
  ·by_cases h2:x∈taken ts
   ·rw [hft x h1 h2]
    refine ⟨(bQ e (a.put (some dst) u) x).getD undef,trivial,fun u' h=>?_⟩
    simp only [h,Option.getD_some]
   ·by_cases h3:x∈xs
    ·obtain ⟨j,hj⟩:=List.getElem?_of_mem h3
     obtain ⟨v,hv,hf⟩:=hfx j x hj
     rw [hf]
     obtain ⟨hl0,_⟩:=hbox j x hj
     have hjl:=(List.getElem?_eq_some_iff.1 hj).1
     obtain ⟨u0,hr0,hu0⟩:=hm.rel x
     have hvb:=hvc v (List.mem_of_getElem? hv)
     obtain ⟨ux,hrx,_⟩:=hm'.rel (aD+j)
     rw [hgv j v hv] at hrx
     have hlx:lent=[]:=by
      rcases hlb with h | h
      ·exact h
      ·rw [h.2] at h3; cases h3
     have hS:S''=S':=by
      funext b
      simp [S'',hlx]
     have hux:ux=u0:=by rw [bF8 hvb hrx,cN8 hl0 hr0,hptr j (by omega),calleeβ_virt hj]
     refine ⟨u0,?_,fun u' h=>hu0 u' (by rw [fI a dst u hdst x h1] at h; exact h)⟩
     rw [hS,← hux]
     exact bW0 hvb (fun x j h i=>hβx j x i h) hj (aQ8 (g':=dN G) (aW0 hvb) hrx)
    ·rw [hfo x h1 h2 h3]
     obtain ⟨u0,hr0,hu0⟩:=hm.rel x
     refine ⟨u0,?_,fun u' h=>hu0 u' (by rw [fI a dst u hdst x h1] at h; exact h)⟩
     refine (hr0.dS (aL8 dst xs)).turn (fun _ _ _=>rfl) hSS hag (fun j=>hβo x j h1 h3) (fun j ho b hb=>?_) (fun q hq=>hβ0 q (AV.wU hq).1)
     obtain ⟨h4,h5⟩:=hkeep x j b h2 h3 (AV.fU _ _ j ho) hb
     exact hm'.old b h4 h5
 ·intro x l av hx
  by_cases h1:x=dst
  ·subst h1
   rw [hf1] at hx
   rw [hx] at hres2
   cases hres2
  ·by_cases h2:x∈taken ts
   ·rw [hft x h1 h2] at hx; cases hx
   ·by_cases h3:x∈xs
    ·obtain ⟨j,hj⟩:=List.getElem?_of_mem h3
     obtain ⟨v,hv,hf⟩:=hfx j x hj
     rw [hf] at hx
     have:=bZ1 (xs:=xs) (hvc v (List.mem_of_getElem? hv))
     rw [hx] at this
     cases this
    ·rw [hfo x h1 h2 h3] at hx
     exact hm.gok x l av (AV.aY3 hx)
 ·intro x i y j b hx hy hxb hyb
  rcases hown x i hx with ⟨x',hx1,hx2,hx3⟩ | ⟨hx1,hx2,hx3,hx4,hx5⟩ <;> rcases hown y j hy with ⟨y',hy1,hy2,hy3⟩ | ⟨hy1,hy2,hy3,hy4,hy5⟩
  ·rw [hx2] at hxb
   rw [hy2] at hyb
   obtain ⟨h1,h2⟩:=hm'.dis x' i y' j b hx1 hy1 hxb hyb
   refine ⟨?_,h2⟩
   rcases hx3 with ⟨rfl,rfl⟩ | ⟨j1,hj1,rfl⟩ <;> rcases hy3 with ⟨rfl,rfl⟩ | ⟨j2,hj2,rfl⟩
   ·rfl
   ·simp only [aD,aS] at h1; omega
   ·simp only [aD,aS] at h1; omega
   ·have:j1=j2:=by omega
    rw [this] at hj1
    rw [hj1] at hj2
    exact Option.some.inj hj2
  ·rw [hx2] at hxb
   rw [hy5] at hyb
   have hf:=hm'.fre x' i b hx1 hxb
   obtain ⟨h1,h2⟩:=hkeep y j b hy2 hy3 hy4 hyb
   rcases hf.2 with h | h
   ·simp only at h; omega
   ·exact absurd h h2
  ·rw [hx5] at hxb
   rw [hy2] at hyb
   have hf:=hm'.fre y' j b hy1 hyb
   obtain ⟨h1,h2⟩:=hkeep x i b hx2 hx3 hx4 hxb
   rcases hf.2 with h | h
   ·simp only at h; omega
   ·exact absurd h h2
  ·rw [hx5] at hxb
   rw [hy5] at hyb
   exact hm.dis x i y j b hx4 hy4 hxb hyb
 ·intro x i b hx hxb
  rcases hown x i hx with ⟨x',hx1,hx2,_⟩ | ⟨hx1,hx2,hx3,hx4,hx5⟩
  ·rw [hx2] at hxb
   have hf:=hm'.fre x' i b hx1 hxb
   exact ⟨fun h=>hf.1 h.1,hAfre b hf.2⟩
  ·rw [hx5] at hxb
   have hf:=hm.fre x i b hx4 hxb
   refine ⟨fun h=>?_,hf.2⟩
   obtain ⟨h1,h2⟩:=hkeep x i b hx2 hx3 hx4 hxb
   rcases (hm'.stb b h.1).2 with (h3 | h3) | h3 | h3
   ·exact hf.1 h3
   ·exact h.2 h3
   ·simp only at h3; omega
   ·exact h2 h3
 ·intro b hb
  refine ⟨(hm'.stb b hb.1).1,?_⟩
  rcases (hm'.stb b hb.1).2 with (h3 | h3) | h3
  ·exact (hm.stb b h3).2
  ·exact absurd h3 hb.2
  ·exact .inr (hAfre b h3)
 ·intro b h1 h2
  rw [← hm.old b h1 h2]
  refine hm'.old b (Nat.lt_of_lt_of_le h1 hm.size) fun h=>?_
  obtain ⟨z,i,h3,_,h5⟩:=hA b h
  rcases (hm.fre z i b h3 h5).2 with h' | h'
  ·omega
  ·exact h2 h'
def cV8 (N dst:Nat) (h:Hint) (as:List AV) (ts:List (Option Nat)) (lent:List Path):Bool :=
 nodupB (taken ts++h.xs) && !(h.xs.contains dst) && decide (dst < N) && decide (as.length < aS) && h.res.closed && h.vout.all AV.gZ && decide (h.vout.length=h.xs.length)
  && lent.all (fun p => !((taken ts++h.xs).contains p.1)) && (lent.isEmpty || (h.res.bare && h.xs.isEmpty))
theorem cH3 {N:Nat} (hN:a.tmps.size=N) (hm:Mem e G S β fr (bQ e a) w) {dst:Nat} {items:List uD} {h:Hint} {as:List AV} {ts:List (Option Nat)} {lent:List Path} {vin:List AV} (htr:nV N h.xs fr items=some (as,ts,lent)) (hbx:zV h.xs fr h.xs=some vin)
  (hc:cV8 N dst h as ts lent=true) {us:List Value} (hargs:bI (fun _=>aI4 N S w β a) 0 items us) :
  us.length=as.length∧Mem ⟨w,eD (bO as vin) (calleeβ β ts h.xs),nJ S β lent,bT (calleeβ β ts h.xs) vin.length,[]⟩ [] (nJ S β lent) (calleeβ β ts h.xs) (bO as vin) (fun x=>(us[x]?).or (bT (calleeβ β ts h.xs) vin.length x)) w ∧
  ∀ u S' β' w',Mem ⟨w,eD (bO as vin) (calleeβ β ts h.xs),nJ S β lent,bT (calleeβ β ts h.xs) vin.length,[]⟩ [] S' β' ((aS,h.res) :: jG aD h.vout) (fun x=>if x=aS then some u else bT (calleeβ β ts h.xs) vin.length x) w'→After e G (sK dst h.xs (taken ts) h.res (h.vout.map (mW h.xs)) fr) a dst u w':=by
 unfold cV8 at hc
 simp only [Bool.and_eq_true,decide_eq_true_eq,Bool.not_eq_true',List.all_eq_true,Bool.or_eq_true,List.isEmpty_iff,List.contains_eq_mem,decide_eq_false_iff_not] at hc
 obtain ⟨⟨⟨⟨⟨⟨⟨⟨hnd,hdx⟩,hdN⟩,hal⟩,hres⟩,hvc⟩,hvo⟩,hle⟩,hlb⟩:=hc
 have hnodup:=aP9 hnd
 have hil:items.length≤999999:=by
  have:as.length=items.length:=by
   clear hal hlb hle hnd hnodup hvc hvo hargs
   induction items generalizing as ts lent with
   | nil=>simp only [nV,Option.some.injEq,Prod.mk.injEq] at htr; obtain ⟨rfl,_⟩:=htr; rfl
   | cons it r ih =>
    obtain ⟨tk,v⟩:=it
    simp only [nV] at htr
    split at htr
    ·cases htr
    rename_i as' ts' l' hrest
    have:=ih hrest
    split at htr
    ·split at htr
     case h_2=>cases htr
     split at htr
     case isFalse=>cases htr
     simp only [Option.some.injEq,Prod.mk.injEq] at htr
     obtain ⟨rfl,_⟩:=htr
     simp [this]
    ·split at htr
     case h_2=>cases htr
     simp only [Option.some.injEq,Prod.mk.injEq] at htr
     obtain ⟨rfl,_⟩:=htr
     simp [this]
  rw [← this]
  simp only [aS] at hal
  omega
 obtain ⟨h1,h2,h3,h4⟩:=aR1 hN hm (lent:=lent) ts items as ts lent us 0 htr (fun p hp=>hp) hargs (by simp only [aD]; omega) (fun j t hj=>by simpa using hj)
 obtain ⟨h5,h6⟩:=bB5 h.xs vin hbx
 have h4':∀ (j:Nat) (av:AV),as[j]? = some av→av.flat=true∧(av.bV=true→∃ s,ts[j]? = some (some s)∧(aX fr s).bV=true∧(aX fr s).flat=true):=fun j av hj =>
  ⟨(h4 j av hj).1,fun ho=>let ⟨s,q1,_,q3,q4⟩:=(h4 j av hj).2 ho; ⟨s,q1,q3,q4⟩⟩
 have hlent:∀ p∈lent,p.1 ∉ taken ts++h.xs∧(aX fr p.1).aR p.2=true:=by
  intro p hp
  refine ⟨hle p hp,?_⟩
  -- what is lent is owned
  have capsOwn:∀ (caps cs:List AV) (l:List Path),yT h.xs fr caps=some (cs,l)→∀ p∈l,(aX fr p.1).aR p.2=true:=by
   intro caps
   induction caps with
   | nil=>intro cs l hh p hp; simp only [yT,Option.some.injEq,Prod.mk.injEq] at hh; obtain ⟨_,rfl⟩:=hh; cases hp
   | cons c r ih =>
    intro cs l hh p hp
    simp only [yT] at hh
    split at hh
    ·cases hh
    rename_i cs' l' hrest
    have ih':=ih cs' l' hrest
    split at hh
    ·simp only [Option.some.injEq,Prod.mk.injEq] at hh
     obtain ⟨_,rfl⟩:=hh
     exact ih' p hp
    ·simp only [Option.map_eq_some_iff,Prod.mk.injEq] at hh
     obtain ⟨_,_,_,rfl⟩:=hh
     exact ih' p hp
    ·split at hh
     ·rename_i q sz es hq
      simp only [Option.some.injEq,Prod.mk.injEq] at hh
      obtain ⟨_,rfl⟩:=hh
      rcases List.mem_cons.1 hp with h | h
      ·rw [h]; exact kH hq
      ·exact ih' p h
     ·simp only [Option.some.injEq,Prod.mk.injEq] at hh
      obtain ⟨_,rfl⟩:=hh
      exact ih' p hp
     ·cases hh
    ·cases hh
  have allOwn:∀ (items:List uD) (as:List AV) (ts:List (Option Nat)) (l:List Path),nV N h.xs fr items=some (as,ts,l)→∀ p∈l,(aX fr p.1).aR p.2=true:=by
   intro items
   induction items with
   | nil=>intro as ts l hh p hp; simp only [nV,Option.some.injEq,Prod.mk.injEq] at hh; obtain ⟨_,_,rfl⟩:=hh; cases hp
   | cons it r ih =>
    intro as ts l hh p hp
    obtain ⟨tk,v⟩:=it
    simp only [nV] at hh
    split at hh
    ·cases hh
    rename_i as' ts' l' hrest
    have ih':=ih as' ts' l' hrest
    split at hh
    ·split at hh
     case h_2=>cases hh
     split at hh
     case isFalse=>cases hh
     simp only [Option.some.injEq,Prod.mk.injEq] at hh
     obtain ⟨_,_,rfl⟩:=hh
     exact ih' p hp
    ·split at hh
     case h_2=>cases hh
     rename_i a' l'' hv
     simp only [Option.some.injEq,Prod.mk.injEq] at hh
     obtain ⟨_,_,rfl⟩:=hh
     rcases List.mem_append.1 hp with hp | hp
     ·unfold trV at hv
      split at hv
      ·simp only [Option.some.injEq,Prod.mk.injEq] at hv
       obtain ⟨_,rfl⟩:=hv
       cases hp
      ·simp only [Option.some.injEq,Prod.mk.injEq] at hv
       obtain ⟨_,rfl⟩:=hv
       cases hp
      ·split at hv
       ·simp only [Option.some.injEq,Prod.mk.injEq] at hv
        obtain ⟨_,rfl⟩:=hv
        cases hp
       split at hv
       ·rename_i q sz es hq
        simp only [Option.some.injEq,Prod.mk.injEq] at hv
        obtain ⟨_,rfl⟩:=hv
        simp only [List.mem_singleton] at hp
        rw [hp]; exact kH hq
       ·simp only [Option.some.injEq,Prod.mk.injEq] at hv
        obtain ⟨_,rfl⟩:=hv
        cases hp
       ·cases hv
      ·simp only [Option.map_eq_some_iff,Prod.mk.injEq] at hv
       obtain ⟨_,_,_,rfl⟩:=hv
       cases hp
      ·simp only [Option.map_eq_some_iff,Prod.mk.injEq] at hv
       obtain ⟨⟨cs,l3⟩,hcs,_,rfl⟩:=hv
       exact capsOwn _ cs l3 hcs p hp
      ·split at hv
       ·rename_i cs l3 hcs
        simp only [Option.map_eq_some_iff,Prod.mk.injEq] at hv
        obtain ⟨_,_,_,rfl⟩:=hv
        exact capsOwn _ cs _ hcs p hp
       ·cases hv
      ·cases hv
     ·exact ih' p hp
  exact allOwn items as ts lent htr p hp
 have hmem:=cI1 hm hal hnodup h4' h3 h5 h6 hlent
 have hco:=calleeOwn hm hal hnodup h4' h5 h6
 exact ⟨(bI.len h3).symm,hmem,fun u S' β' w' hm'=>bX8 hm (by rw [hN]; exact hdN) hal hnodup hco hdx h6 h5 hvo hlent hres hvc (by simpa using hlb) hm'⟩
theorem aL2 {N:Nat} (hN:a.tmps.size=N) (hm:Mem e G S β fr (bQ e a) w) {dst k:Nat} {items:List uD} {h:Hint} {fr':Fr} {obl:Prop} (he:wV P N dst k items h fr=some (fr',obl)) (ho:obl) {us:List Value}
  (hargs:bI (fun _=>aI4 N S w β a) 0 items us):iY P k∧Calls P k us.toArray w fun e' w'=>∃ u,e'=.returned u∧After e G fr' a dst u w':=by
 unfold wV at he
 split at he
 case h_2=>cases he
 rename_i as ts lent vin htr hbx
 split at he
 case isFalse=>cases he
 rename_i hc
 simp only [Option.some.injEq,Prod.mk.injEq] at he
 obtain ⟨rfl,rfl⟩:=he
 obtain ⟨hcall,hcon⟩:=ho
 obtain ⟨h1,h2,h3⟩:=cH3 hN hm htr hbx hc hargs
 refine ⟨hcall,(hcon w _ _ us h1 h2).mono ?_⟩
 rintro e' w' ⟨u,S',β',rfl,hm'⟩
 exact ⟨u,rfl,h3 u S' β' w' hm'⟩
theorem bI.shift {α γ:Type} {R:α→γ→Prop}:∀ {i j:Nat} {as:List α} {cs:List γ},bI (fun _=>R) i as cs→bI (fun _=>R) j as cs
 | _,_,[],[],_=>trivial
 | i,j,a :: as,c :: cs,h=>⟨h.1,bI.shift h.2⟩
 | _,_,[],_ :: _,h=>by simp [bI] at h
 | _,_,_ :: _,[],h=>by simp [bI] at h
theorem bS9 {N:Nat} (hN:a.tmps.size=N) (hm:Mem e G S β fr (bQ e a) w) {dst:Nat} {name:String} {r:AV} {items:List uD} {h:Hint} {fr':Fr} {obl:Prop} (he:aX4 P N dst name r items h fr=some (fr',obl)) (ho:obl) {u:Value} (hr:bA S w β (0,0) r u) {us:List Value}
  (hargs:bI (fun _=>aI4 N S w β a) 0 items us):∃ t cs k,u=.iface t (.agg ⟨cs⟩)∧methodOf P t name=some k∧iY P k∧Calls P k (.agg ⟨cs⟩ :: us).toArray w fun e' w'=>∃ u,e'=.returned u∧After e G fr' a dst u w':=by
 unfold aX4 at he
 split at he
 case h_2=>cases he
 rename_i x
 split at he
 case h_2=>cases he
 rename_i as ts lent vin htr hbx
 split at he
 case isFalse=>cases he
 rename_i hc
 simp only [Option.some.injEq,Prod.mk.injEq] at he
 obtain ⟨rfl,rfl⟩:=he
 obtain ⟨t,cs,as',k,h1,h2,h3,h4⟩:=ho
 subst h1
 simp only [nV,trV] at htr
 split at htr
 ·cases htr
 rename_i as2 ts2 l2 hrest
 simp only [Option.some.injEq,Prod.mk.injEq,List.cons.injEq,AV.d.injEq,List.nil_append] at htr
 obtain ⟨⟨rfl,rfl⟩,rfl,rfl⟩:=htr
 have hu:u=.iface t (.agg ⟨cs⟩):=hr.1
 have he2:wV P N dst k ((none,.agg (cs.map .v)) :: items) h fr=some (sK dst h.xs (taken (none :: ts2)) h.res (h.vout.map (mW h.xs)) fr,aG P k (.agg (cs.map .v) :: as2) vin h.res h.vout):=by
  unfold wV
  simp only [nV,trV,hrest,hbx,List.nil_append]
  rw [if_pos]
  simpa using hc
 refine ⟨t,cs,k,hu,h3,?_⟩
 refine aL2 hN hm he2 h4 ⟨⟨cs,rfl,by simp,?_⟩,hargs.shift⟩
 refine RCs.dJ _ _ fun j y hj=>?_
 simp only [List.getElem?_map,Option.map_eq_some_iff] at hj
 obtain ⟨v,hv,rfl⟩:=hj
 exact ⟨v,by simpa using hv,rfl,h2 v (List.mem_of_getElem? hv)⟩
end
end Go.Vm
namespace Go.Vm
def cX9 (P:Program) (hint:Hint) (src dst:TypeId) (fr:Fr) (a:AV):Option (AV×Prop) :=
 match P.underlying src,P.underlying dst with
 | some (.slice E),some .string=>match P.underlying E with
  | some (.int .u8)=>match hint.cs,slv fr a with
   | [.str l],some (1,es)=>some (.d (.str l),es=byteCells l)
   | [.str l],some (0,es)=>some (.d (.str l),es=byteCells l)
   | _,_=>none
  | _=>none
 | _,_=>none
section
variable {P:Program} {e:Env} {G:dW} {S:Nat→Prop} {β:Path→Value} {fr:Fr} {w:World} {vals:Nat→Option Value}
theorem bR4:∀ (l:List UInt8) (s:ByteArray),(l.map fun b=>(b.toNat:Int)).foldl (fun r n=>r.push (UInt8.ofNat n.toNat)) s=⟨s.data++l.toArray⟩
 | [],s=>by simp
 | b :: l,s=>by
  rw [List.map_cons,List.foldl_cons,bR4 l]
  have h1:UInt8.ofNat (b.toNat:Int).toNat=b:=by simp
  rw [h1]
  show ByteArray.mk (s.data.push b++l.toArray)=_
  congr 1
  rw [Array.push_eq_append,Array.append_assoc]
  congr 1
  simp
theorem cT0 (hm:Mem e G S β fr vals w) {hint:Hint} {src dst:TypeId} {a av:AV} {obl:Prop} (h:cX9 P hint src dst fr a=some (av,obl)) (ho:obl) {u:Value} (hr:bA S w β (0,0) a u) :
  ∃ v,(convert src dst u).run P w=.ok v w∧bA S w β (0,0) av v∧av.bV=false:=by
 unfold cX9 at h
 split at h
 case h_2=>cases h
 rename_i E hs hd
 split at h
 case h_2=>cases h
 rename_i hE
 have key:∀ (l:List UInt8) (sz:Nat) (es:List (List Dat)),slv fr a=some (sz,es)→es=byteCells l→(sz=1∨sz=0)→∃ v,(convert src dst u).run P w=.ok v w∧v=strOf l:=by
  intro l sz es hsl hes hsz
  subst hes
  rcases bV4 hm hsl hr with ⟨⟨q,rfl⟩,hn⟩ | ⟨b,o,c,arr,E',fz,rfl,_,hb,hes⟩
  ·have hl:l=[]:=by
    cases l with
    | nil=>rfl
    | cons x l=>cases hn
   subst hl
   refine ⟨strOf [],?_,rfl⟩
   rw [run_convert_bytes_string w src dst E q 0 0 hs hE hd]
   cases q with
   | none =>
    simp only [Conv.bytesToString,Sem.run_pure]
    rfl
   | some q =>
    have:=run_bytesToString (P:=P) w q 0 0 [] (by
     have:=run_loadCells_list (P:=P) (w:=w) q [] (fun j v h=>by simp at h)
     simpa using this)
    rw [this]
    rfl
  ·refine ⟨strOf l,?_,rfl⟩
   have hlen:(byteCells l).length=l.length:=by simp [byteCells]
   rw [hlen,run_convert_bytes_string w src dst E _ _ _ hs hE hd]
   rcases hsz with rfl | rfl
   ·have hload:=run_loadCells_list (P:=P) (w:=w) ⟨b,o,none⟩ (l.map fun x=>(.int .u8 x.toNat:Value)) (fun j v hv=>by
     rw [List.getElem?_map,Option.map_eq_some_iff] at hv
     obtain ⟨x,hx,rfl⟩:=hv
     have h1:=REs.get _ _ j [.v (.int .u8 x.toNat)] hes (by simp [byteCells,hx])
     have h2:=h1.2
     simp only [RCs,RD,and_true] at h2
     obtain ⟨u',hu',rfl,_⟩:=h2
     rw [Nat.mul_one] at hu'
     rw [addr_add]
     simp [World.cell?,hb,hu'])
    rw [List.length_map] at hload
    rw [run_bytesToString (P:=P) w ⟨b,o,none⟩ l.length c (l.map fun x=>(x.toNat:Int)) (by rw [hload]; simp [List.map_map,Function.comp_def]),bR4]
    simp only [strOf]
    congr 3
    show (#[]:Array UInt8)++l.toArray=l.toArray
    simp
   ·cases l with
    | nil =>
     have:=run_bytesToString (P:=P) w ⟨b,o,none⟩ 0 c [] (by
      have:=run_loadCells_list (P:=P) (w:=w) ⟨b,o,none⟩ [] (fun j v h=>by simp at h)
      simpa using this)
     rw [List.length_nil,this]
     rfl
    | cons x l =>
     have h1:=REs.get _ _ 0 [.v (.int .u8 x.toNat)] hes (by simp [byteCells])
     exact absurd h1.1 (by simp)
 split at h
 ·rename_i l es hcs hsl
  simp only [Option.some.injEq,Prod.mk.injEq] at h
  obtain ⟨rfl,rfl⟩:=h
  obtain ⟨v,h1,rfl⟩:=key l 1 es hsl ho (.inl rfl)
  exact ⟨_,h1,rfl,rfl⟩
 ·rename_i l es hcs hsl
  simp only [Option.some.injEq,Prod.mk.injEq] at h
  obtain ⟨rfl,rfl⟩:=h
  obtain ⟨v,h1,rfl⟩:=key l 0 es hsl ho (.inr rfl)
  exact ⟨_,h1,rfl,rfl⟩
 ·cases h
def yE:List Dat→Option (List Value)
 | []=>some []
 | .v x :: r=>(yE r).map (x :: ·)
 | _ :: _=>none
theorem aM5:∀ (cs:List Dat) (us:List Value) (g:Nat→Option Value) (o:Nat),yE cs=some us→RCs S w cs g o→us.length=cs.length∧∀ j u,us[j]? = some u→g (o+j)=some u
 | [],us,g,o,h,_=>by
  simp only [yE,Option.some.injEq] at h
  subst h
  exact ⟨rfl,fun j u h=>by simp at h⟩
 | .v x :: r,us,g,o,h,hr=>by
  simp only [yE,Option.map_eq_some_iff] at h
  obtain ⟨us',h1,rfl⟩:=h
  simp only [RCs,RD] at hr
  obtain ⟨⟨u,hu,rfl,_⟩,hrest⟩:=hr
  obtain ⟨h2,h3⟩:=aM5 r us' g (o+1) h1 hrest
  refine ⟨by simp [h2],fun j u' hj=>?_⟩
  cases j with
  | zero=>simp at hj; subst hj; simpa using hu
  | succ j =>
   have:=h3 j u' (by simpa using hj)
   simpa [Nat.add_assoc,Nat.add_comm 1 j] using this
 | .str _ :: _,us,g,o,h,_=>by cases h
 | .sl _ _ :: _,us,g,o,h,_=>by cases h
 | .pt _ :: _,us,g,o,h,_=>by cases h
def bX7 (P:Program) (t:TypeId) (a:AV):Option AV :=
 match P.underlying t with
 | some (.struct _)=>match a with
  | .agg cs=>(yE cs).map fun us=>.d (.v (.iface t (.agg us.toArray)))
  | _=>none
 | _=>none
theorem cG9 {t:TypeId} {a av:AV} (h:bX7 P t a=some av) {u:Value} (hr:bA S w β (0,0) a u) :
  ∃ v,(Instr.makeInterface t u).run P w=.ok v w∧bA S w β (0,0) av v∧av.bV=false:=by
 unfold bX7 at h
 split at h
 case h_2=>cases h
 rename_i fs hu
 split at h
 case h_2=>cases h
 rename_i cs
 simp only [Option.map_eq_some_iff] at h
 obtain ⟨us,h1,rfl⟩:=h
 obtain ⟨cells,rfl,hl,hc⟩:=hr
 obtain ⟨h2,h3⟩:=aM5 cs us _ 0 h1 hc
 have hcells:cells=us:=by
  refine List.ext_getElem? fun j=>?_
  rcases Nat.lt_or_ge j us.length with hj | hj
  ·have:=h3 j us[j] (List.getElem?_eq_getElem hj)
   rw [Nat.zero_add] at this
   rw [this,List.getElem?_eq_getElem hj]
  ·rw [List.getElem?_eq_none (by omega),List.getElem?_eq_none hj]
 subst hcells
 exact ⟨_,by simp [Instr.makeInterface,run_underlying hu],⟨rfl,rfl⟩,rfl⟩
end
end Go.Vm
namespace Go.Vm
def partAt (places:Nat→Option (Nat×Nat)) (cs:List Dat) (q:Nat×AV):Option (List Dat) :=
 match places q.1,cellsD q.2 with
 | some (off,size),some ds=>if ds.length=size∧off+ds.length≤cs.length then some (spl off ds cs) else none
 | _,_=>none
def bV1 (P:Program) (raw:Bool) (t:TypeId) (parts:List (Nat×AV)):Option (List Dat) :=
 match P.underlying t,cB4 P raw t with
 | some (.struct fs),some zs=>match fs.toList.mapM (fun f=>(P.info? f.type).map fun i=>(f.offset,i.size)) with
  | some places=>parts.foldlM (partAt (places.toArray[·]?)) zs
  | none=>none
 | some (.array _ E),some zs=>match P.info? E with
  | some i=>parts.foldlM (partAt (fun k=>some (k * i.size,i.size))) zs
  | none=>none
 | _,_=>none
def bY4 (fr:Fr):AV→Option (List AV)
 | .vw (s,0)=>match aX fr s with
  | .own _ _ _=>some [.vw (s,0)]
  | _=>none
 | a=>(cellsD a).map (·.map .d)
def bH8 (fr:Fr) (places:Nat→Option (Nat×Nat)) (cs:List AV) (q:Nat×AV):Option (List AV) :=
 match places q.1,bY4 fr q.2 with
 | some (off,size),some ds=>if ds.length=size∧off+ds.length≤cs.length then some (spl off ds cs) else none
 | _,_=>none
def bW7 (P:Program) (raw:Bool) (fr:Fr) (t:TypeId) (parts:List (Nat×AV)):Option (List AV) :=
 match P.underlying t,cB4 P raw t with
 | some (.struct fs),some zs=>match fs.toList.mapM (fun f=>(P.info? f.type).map fun i=>(f.offset,i.size)) with
  | some places=>parts.foldlM (bH8 fr (places.toArray[·]?)) (zs.map .d)
  | none=>none
 | _,_=>none
def aI2 (P:Program) (cs ds:List Dat):List Field→Option Bool
 | []=>some true
 | f :: fs => if f.name ≠ "_" then match sA P f.type cs f.offset,sA P f.type ds f.offset,P.underlying f.type with
   | some (.d (.v (.int k1 a))),some (.d (.v (.int k2 b))),some (.int _)=>if k1=k2 then (aI2 P cs ds fs).map fun r=>((a == b) && r) else none
   | some (.d (.v (.bool a))),some (.d (.v (.bool b))),some .bool=>(aI2 P cs ds fs).map fun r=>((a == b) && r)
   | some (.d (.str a)),some (.d (.str b)),some .string=>(aI2 P cs ds fs).map fun r=>((a == b) && r)
   | _,_,_=>none
  else none
def yN (P:Program) (e:TypeId) (cs ds:List Dat):List Nat→Option Bool
 | []=>some true
 | i :: is=>match sA P e cs i,sA P e ds i,P.underlying e with
   | some (.d (.v (.int k1 a))),some (.d (.v (.int k2 b))),some (.int _)=>if k1=k2 then (yN P e cs ds is).map fun r=>((a == b) && r) else none
   | _,_,_=>none
def bX4 (P:Program) (op:BinOp) (t:TypeId) (cs ds:List Dat):Option Bool :=
 match P.underlying t with
 | some (.array n e)=>if P.cellsOf e=1∧(P.info? e).isSome=true∧P.eqGuardType P.depth t=false then match op with
   | .eql=>yN P e cs ds (List.range n)
   | .neq=>(yN P e cs ds (List.range n)).map fun r => !r
   | _=>none
  else none
 | some (.struct fs)=>if P.stoodInHeld t=false∧P.eqGuardType P.depth t=false then match op with
   | .eql=>aI2 P cs ds fs.toList
   | .neq=>(aI2 P cs ds fs.toList).map fun r => !r
   | _=>none
  else none
 | _=>none
def bI7 (P:Program) (t:TypeId):Bool :=
 match P.underlying t with
 | some .bool=>true
 | _=>false
def bY2 (P:Program) (op:BinOp) (t:TypeId) (fr:Fr) (p:Path):Option Bool :=
 match P.underlying t,fH fr p with
 | some (.slice _),.own κ _ es=>if 2199023255552≤κ then match op with
  | .eql=>some es.isEmpty
  | .neq=>some (!es.isEmpty)
  | _=>none
  else none
 | _,_=>none
def eqB (op:BinOp) (b:Bool):Option Bool:=match op with
 | .eql=>some b
 | .neq=>some (!b)
 | _=>none
def cL6 (P:Program) (op:BinOp) (t:TypeId) (Y:Operand):Dat→Dat→Option Bool
 | .v x,.v y=>match P.underlying t with
  | some (.interface _)=>match x,y with
   | .iface _ _,.nilIface=>eqB op false
   | .nilIface,.nilIface=>match Y with
    | .const _=>eqB op true
    | _=>none
   | _,_=>none
  | _=>none
 | _,_=>none
def opR (P:Program) (hint:Hint) (val:Operand→AV) (fr:Fr) (o:Oper):Option (AV×Prop) :=
 match o.op with
 | .move x=>some (val x,True)
 | .assign x=>some (val x,True)
 | .load t x=>bE2 P t hint fr (val x)
 | .binOp op t x y _=>match val x,val y with
  | .d a,.d b=>match bL6 op a b with
   | some (z,obl)=>some (.d z,obl)
   | none=>if bI7 P t then (aX6 op a b).map fun z=>(.d z,True) else (cL6 P op t y a b).map fun r=>(.d (.v (.bool r)),True)
  | .agg cs,.agg ds=>(bX4 P op t cs ds).map fun r=>(.d (.v (.bool r)),True)
  | .vw p,.d (.v (.slice none 0 0))=>(bY2 P op t fr p).map fun b=>(.d (.v (.bool b)),True)
  | _,_=>none
 | .unOp op _ x=>match val x with
  | .d a=>(unD op a).map fun z=>(.d z,True)
  | _=>none
 | .convert s d x=>match cX9 P hint s d fr (val x) with
  | some r=>some r
  | none=>(cM8 P s d (val x)).map (·,True)
 | .makeInterface t x=>(bX7 P t (val x)).map (·,True)
 | .fieldAddr s x f=>(aJ0 P s f (val x)).map (·,True)
 | .field s x f=>(bU5 P s f (val x)).map (·,True)
 | .indexAddr t x ix=>yO P t hint fr (val x) (val ix)
 | .index t x ix=>bV0 P t hint (val x) (val ix)
 | .slice t x lo hi none=>match bY9 P hint t fr (val x) (lo.map val) (hi.map val) with
  | some r=>some r
  | none=>match bW6 P hint t (val x) (lo.map val) (hi.map val) with
   | some r=>some r
   | none=>bU1 P t (val x) (lo.map val) (hi.map val)
 | .build t parts=>match bV1 P (!hint.take.isEmpty) t (parts.toList.map fun q=>(q.1,val q.2)) with
  | some cs=>some (.agg cs,True)
  | none=>(bW7 P (!hint.take.isEmpty) fr t (parts.toList.map fun q=>(q.1,val q.2))).map fun cs=>(.agw cs,True)
 | .makeFunc (.func f) ⟨[]⟩ caps=>(bP5 (caps.toList.map val)).map fun cs=>(.clo f cs,True)
 | .nilCheck x=>match val x with
  | .bp y off=>some (.bp y off,True)
  | .ep p sz i off=>some (.ep p sz i off,True)
  | .d (.pt cs)=>some (.d (.pt cs),True)
  | .vw p=>match fH fr p with
   | .arr _ _ _=>some (.vw p,True)
   | _=>none
  | _=>none
 | .call { callee:=.builtin .len,args:=⟨[x]⟩,argTypes:=⟨[t]⟩ }=>(cZ7 P t fr (val x)).map (·,True)
 | .call { callee:=.builtin .cap,args:=⟨[x]⟩,argTypes:=⟨[t]⟩ }=>(bU8 P t (val x)).map (·,True)
 | .call { callee:=.builtin .max,args:=⟨x :: r⟩,argTypes:=_ }=>(cF7 false (val x) (r.map val)).map (·,True)
 | .call { callee:=.builtin .min,args:=⟨x :: r⟩,argTypes:=_ }=>(cF7 true (val x) (r.map val)).map (·,True)
 | .lookup t x ix false=>(bH7 P t fr (val x) (val ix)).map fun q=>(.d (.v (.int q.1 (q.2.getD 0))),True)
 | _=>none
section
variable {P:Program} {e:Env} {G:dW} {S:Nat→Prop} {β:Path→Value} {fr:Fr} {w:World} {a:Act}
theorem cE5 {place:Nat→Option (Nat×Nat)} {cs cs':List Dat} {q:Nat×AV} (h:partAt place cs q=some cs'):∃ off size ds,place q.1=some (off,size)∧cellsD q.2=some ds∧ds.length=size∧off+ds.length≤cs.length∧cs'=spl off ds cs:=by
 unfold partAt at h
 split at h
 ·rename_i off size ds h1 h2
  split at h
  ·rename_i hc
   simp only [Option.some.injEq] at h
   exact ⟨off,size,ds,h1,h2,hc.1,hc.2,h.symm⟩
  ·cases h
 ·cases h
theorem aK9 (place:Nat→Option (Nat×Nat)) :
    ∀ (parts:List (Nat×AV)) (us:List (Nat×Value)) (cs cs':List Dat) (cells:Array Value),bI (fun _ (p:Nat×AV) (q:Nat×Value)=>q.1=p.1∧bA S w β (0,0) p.2 q.2) 0 parts us →
    parts.foldlM (partAt place) cs=some cs'→cells.size=cs.length→RCs S w cs (fun j=>cells.toList[j]?) 0 →
    ∃ cells',Instr.fill place cells us=some cells'∧cells'.size=cs'.length∧RCs S w cs' (fun j=>cells'.toList[j]?) 0
  | [],us,cs,cs',cells,hp,h,hl,hr=>by
    cases us with
    | cons _ _=>simp [bI] at hp
    | nil =>
      simp only [List.foldlM_nil,Option.pure_def,Option.some.injEq] at h
      subst h
      exact ⟨cells,rfl,hl,hr⟩
  | (i,v) :: parts,us,cs,cs',cells,hp,h,hl,hr=>by
    cases us with
    | nil=>simp [bI] at hp
    | cons q us =>
      obtain ⟨j,u⟩:=q
      simp only [bI] at hp
      obtain ⟨⟨rfl,hv⟩,hrest⟩:=hp
      simp only [List.foldlM_cons,Option.bind_eq_bind,Option.bind_eq_some_iff] at h
      obtain ⟨cs1,h1,h2⟩:=h
      obtain ⟨off,size,ds,hpl,hds,hdl,hle,rfl⟩:=cE5 h1
      obtain ⟨h3,h4⟩:=yK hds hv (fun x v=>xB x v)
      have hul:u.cells.size=ds.length:=by simpa using h3
      have hsp:u.cells.zipIdx.foldl (fun cs (x:Value×Nat)=>cs.setIfInBounds (off+x.2) x.1) cells=(spl off u.cells.toList cells.toList).toArray:=yZ off u.cells cells (by omega)
      have hr':=RCs.spl (off:=off) hr h4 (by simpa using hl) h3 hle
      obtain ⟨cells',hf,h5,h6⟩:=aK9 place parts us (spl off ds cs) cs' (spl off u.cells.toList cells.toList).toArray (by
          refine bI.dJ (bI.len hrest) fun k p q hp hq=>?_
          obtain ⟨q',hq',hpq⟩:=bI.get hrest k p hp
          rw [hq] at hq'
          cases hq'
          exact hpq) h2 (by
          have e1:(spl off u.cells.toList cells.toList).length=cells.toList.length:=gN (by simp; omega)
          have e2:(spl off ds cs).length=cs.length:=gN hle
          rw [List.size_toArray,e1,e2]
          simpa using hl) (by simpa using hr')
      refine ⟨cells',?_,h5,h6⟩
      simp only [Instr.fill,hpl]
      rw [if_neg (by simp; omega)]
      rw [← hf]
      congr 1
theorem run_build {t:TypeId} {raw:Bool} {parts:List (Nat×AV)} {cs:List Dat} (h:bV1 P raw t parts=some cs) {us:List (Nat×Value)} (hp:bI (fun _ (p:Nat×AV) (q:Nat×Value)=>q.1=p.1∧bA S w β (0,0) p.2 q.2) 0 parts us) :
  ∃ u,(Instr.build t us.toArray).run P w=.ok u w∧bA S w β (0,0) (.agg cs) u:=by
 unfold bV1 at h
 split at h
 ·rename_i fs zs hu hz
  obtain ⟨i,z,hi,hzz,hsz,hlen,hone,hcs⟩:=aW5 hz
  split at h
  case h_2=>cases h
  rename_i places hpl
  obtain ⟨cells',hf,h5,h6⟩:=aK9 (S:=S) (w:=w) (places.toArray[·]?) parts us zs cs z.cells hp h (by omega) (hcs S w)
  refine ⟨.agg cells',Go.run_build w t us.toArray cells' ?_,⟨cells'.toList,rfl,by simpa using h5,h6⟩⟩
  simp only [Program.built,hi,hu,hzz,hpl]
  exact hf
 ·rename_i n E zs hu hz
  obtain ⟨i,z,hi,hzz,hsz,hlen,hone,hcs⟩:=aW5 hz
  split at h
  case h_2=>cases h
  rename_i ei hei
  obtain ⟨cells',hf,h5,h6⟩:=aK9 (S:=S) (w:=w) (fun k=>some (k * ei.size,ei.size)) parts us zs cs z.cells hp h (by omega) (hcs S w)
  refine ⟨.agg cells',Go.run_build w t us.toArray cells' ?_,⟨cells'.toList,rfl,by simpa using h5,h6⟩⟩
  simp only [Program.built,hi,hu,hzz,hei]
  exact hf
 ·cases h
theorem cI0 {G:dW} {vals:Nat→Option Value} (hm:Mem e G S β fr vals w) {a:AV} {cs:List AV} (h:bY4 fr a=some cs) {u:Value} (hr:bA S w β (0,0) a u) :
  u.cells.toList.length=cs.length∧(∀ v∈u.cells.toList,v.oneCell'=true)∧bI (fun _=>rC S w β) 0 cs u.cells.toList:=by
 have hD:∀ {ds:List Dat},cellsD a=some ds→cs=ds.map .d→u.cells.toList.length=cs.length∧(∀ v∈u.cells.toList,v.oneCell'=true)∧bI (fun _=>rC S w β) 0 cs u.cells.toList:=by
  rintro ds hds rfl
  obtain ⟨h1,h2⟩:=yK hds hr (fun x v=>xB x v)
  refine ⟨by simpa using h1,RCs.one h2 h1,bI.dJ (by simpa using h1.symm) fun j b c hb hc=>?_⟩
  simp only [List.getElem?_map,Option.map_eq_some_iff] at hb
  obtain ⟨d,hd,rfl⟩:=hb
  obtain ⟨v,hv,hrd⟩:=RCs.get ds 0 j d h2 hd
  simp only [Nat.zero_add] at hv
  rw [hc] at hv
  cases hv
  exact hrd
 unfold bY4 at h
 split at h
 ·rename_i s
  split at h
  case h_2=>cases h
  rename_i hf
  simp only [Option.some.injEq] at h
  subst h
  obtain ⟨u0,hr0,_⟩:=hm.rel s
  rw [hf] at hr0
  have hu:u=β (s,0):=hr
  have h0:u0=β (s,0):=hr0.1
  rw [← h0] at hu
  subst hu
  have hc:u.cells=#[u]∧u.oneCell'=true:=by
   rcases hr0.2 with ⟨h,_⟩ | ⟨b,off,c,arr,E,fz,h,_⟩ <;> (rw [h]; exact ⟨rfl,rfl⟩)
  rw [hc.1]
  exact ⟨rfl,by simpa using hc.2,h0,trivial⟩
 ·simp only [Option.map_eq_some_iff] at h
  obtain ⟨ds,hds,rfl⟩:=h
  exact hD hds rfl
theorem bI.cX8 {α γ:Type} {R:α→γ→Prop} {as bs:List α} {l m:List γ} {off:Nat} (h1:bI (fun _=>R) 0 as l) (h2:bI (fun _=>R) 0 bs m) (hle:off+bs.length≤as.length):bI (fun _=>R) 0 (spl off bs as) (spl off m l):=by
 have e1:=bI.len h1
 have e2:=bI.len h2
 have hle':off+m.length≤l.length:=by omega
 refine bI.dJ (by rw [gN hle,gN hle']; exact e1) fun j a c ha hc=>?_
 rw [fB hle] at ha
 rw [fB hle'] at hc
 rw [← e2] at hc
 split at ha
 ·rename_i hin
  rw [if_pos hin] at hc
  obtain ⟨c',hc',hr⟩:=bI.get h2 (j - off) a ha
  rw [hc] at hc'
  cases hc'
  exact hr
 ·rename_i hin
  rw [if_neg hin] at hc
  obtain ⟨c',hc',hr⟩:=bI.get h1 j a ha
  rw [hc] at hc'
  cases hc'
  exact hr
theorem aS8 {G:dW} {vals:Nat→Option Value} (hm:Mem e G S β fr vals w) (place:Nat→Option (Nat×Nat)) :
    ∀ (parts:List (Nat×AV)) (us:List (Nat×Value)) (cs cs':List AV) (cells:Array Value),bI (fun _ (p:Nat×AV) (q:Nat×Value)=>q.1=p.1∧bA S w β (0,0) p.2 q.2) 0 parts us →
    parts.foldlM (bH8 fr place) cs=some cs'→(∀ v∈cells.toList,v.oneCell'=true)→bI (fun _=>rC S w β) 0 cs cells.toList →
    ∃ cells',Instr.fill place cells us=some cells'∧(∀ v∈cells'.toList,v.oneCell'=true)∧bI (fun _=>rC S w β) 0 cs' cells'.toList
  | [],us,cs,cs',cells,hp,h,hl,hr=>by
    cases us with
    | cons _ _=>simp [bI] at hp
    | nil =>
      simp only [List.foldlM_nil,Option.pure_def,Option.some.injEq] at h
      subst h
      exact ⟨cells,rfl,hl,hr⟩
  | (i,v) :: parts,us,cs,cs',cells,hp,h,hl,hr=>by
    cases us with
    | nil=>simp [bI] at hp
    | cons q us =>
      obtain ⟨j,u⟩:=q
      simp only [bI] at hp
      obtain ⟨⟨rfl,hv⟩,hrest⟩:=hp
      simp only [List.foldlM_cons,Option.bind_eq_bind,Option.bind_eq_some_iff] at h
      obtain ⟨cs1,h1,h2⟩:=h
      unfold bH8 at h1
      split at h1
      case h_2=>cases h1
      rename_i off size ds hpl hds
      split at h1
      case isFalse=>cases h1
      rename_i hc
      obtain ⟨hdl,hle⟩:=hc
      simp only [Option.some.injEq] at h1
      subst h1
      obtain ⟨h3,h4,h5⟩:=cI0 hm hds hv
      have hul:u.cells.size=ds.length:=by simpa using h3
      have hlen:cells.size=cs.length:=by simpa using (bI.len hr).symm
      have hsp:u.cells.zipIdx.foldl (fun cs (x:Value×Nat)=>cs.setIfInBounds (off+x.2) x.1) cells=(spl off u.cells.toList cells.toList).toArray:=yZ off u.cells cells (by omega)
      obtain ⟨cells',hf,h6,h7⟩:=aS8 hm place parts us (spl off ds cs) cs' (spl off u.cells.toList cells.toList).toArray (by
          refine bI.dJ (bI.len hrest) fun k p q hp hq=>?_
          obtain ⟨q',hq',hpq⟩:=bI.get hrest k p hp
          rw [hq] at hq'
          cases hq'
          exact hpq) h2 (by
          intro v hv
          obtain ⟨k,hk⟩:=List.getElem?_of_mem hv
          rw [List.toList_toArray,fB (by simp; omega)] at hk
          split at hk
          · exact h4 v (List.mem_of_getElem? hk)
          · exact hl v (List.mem_of_getElem? hk)) (by
          rw [List.toList_toArray]
          exact bI.cX8 hr h5 hle)
      refine ⟨cells',?_,h6,h7⟩
      simp only [Instr.fill,hpl]
      rw [if_neg (by simp; omega)]
      rw [← hf]
      congr 1
theorem bZ2 {G:dW} {vals:Nat→Option Value} (hm:Mem e G S β fr vals w) {t:TypeId} {raw:Bool} {parts:List (Nat×AV)} {cs:List AV} (h:bW7 P raw fr t parts=some cs) {us:List (Nat×Value)} (hp:bI (fun _ (p:Nat×AV) (q:Nat×Value)=>q.1=p.1∧bA S w β (0,0) p.2 q.2) 0 parts us) :
  ∃ u,(Instr.build t us.toArray).run P w=.ok u w∧bA S w β (0,0) (.agw cs) u:=by
 unfold bW7 at h
 split at h
 case h_2=>cases h
 rename_i fs zs hu hz
 obtain ⟨i,z,hi,hzz,hsz,hlen,hone,hcs⟩:=aW5 hz
 split at h
 case h_2=>cases h
 rename_i places hpl
 have hzl:z.cells.toList.length=zs.length:=by simpa using (by omega:z.cells.size=zs.length)
 obtain ⟨cells',hf,h5,h6⟩:=aS8 hm (places.toArray[·]?) parts us (zs.map .d) cs z.cells hp h (RCs.one (hcs S w) hzl) (by
  refine bI.dJ (by simpa using hzl.symm) fun j b c hb hc=>?_
  simp only [List.getElem?_map,Option.map_eq_some_iff] at hb
  obtain ⟨d,hd,rfl⟩:=hb
  obtain ⟨v,hv,hrd⟩:=RCs.get zs 0 j d (hcs S w) hd
  simp only [Nat.zero_add] at hv
  rw [hc] at hv
  cases hv
  exact hrd)
 refine ⟨.agg cells',Go.run_build w t us.toArray cells' ?_,⟨cells'.toList,rfl,h5,h6⟩⟩
 simp only [Program.built,hi,hu,hzz,hpl]
 exact hf
theorem tZ {val:Operand→AV} {ρ:Operand→Value} (hval:∀ x,bA S w β (0,0) (val x) (ρ x)):∀ (xs:List Operand) (i:Nat),bI (fun _ x y=>bA S w β (0,0) x y) i (xs.map val) (xs.map ρ)
 | [],_=>trivial
 | x :: xs,i=>⟨hval x,tZ hval xs (i+1)⟩
theorem wB {val:Operand→AV} {ρ:Operand→Value} (hval:∀ x,bA S w β (0,0) (val x) (ρ x)):∀ (xs:List (Nat×Operand)) (i:Nat),bI (fun _ (p:Nat×AV) (q:Nat×Value)=>q.1=p.1∧bA S w β (0,0) p.2 q.2) i (xs.map fun q=>(q.1,val q.2)) (xs.map fun q=>(q.1,ρ q.2))
 | [],_=>trivial
 | x :: xs,i=>⟨⟨rfl,hval x.2⟩,wB hval xs (i+1)⟩
theorem bS4 {cs ds:List Dat} {l m:List Value} (hl:l.length=cs.length) (hm:m.length=ds.length) (hc:RCs S w cs (fun j=>l[j]?) 0) (hd:RCs S w ds (fun j=>m[j]?) 0) (d:Nat):∀ (fs:List Field) {r:Bool},aI2 P cs ds fs=some r→(Op.eqFields (d+1) ⟨l⟩ ⟨m⟩ fs).run P w=.ok r w
 | [],r,h=>by
  simp only [aI2,Option.some.injEq] at h
  subst h
  rfl
 | f :: fs,r,h=>by
  simp only [aI2] at h
  split at h
  case isFalse=>cases h
  rename_i hn
  simp only [Op.eqFields,if_pos hn]
  have fin:∀ {u v:Value} {b r':Bool},(part f.type ⟨l⟩ f.offset).run P w=.ok u w→(part f.type ⟨m⟩ f.offset).run P w=.ok v w→(Op.equalIn (d+1) f.type u v).run P w=.ok b w→aI2 P cs ds fs=some r'→r=(b && r') →
    (do
     let a ← part f.type ⟨l⟩ f.offset
     let b ← part f.type ⟨m⟩ f.offset
     let r ← Op.equalIn (d+1) f.type a b
     if (!r)=true then pure false else Op.eqFields (d+1) ⟨l⟩ ⟨m⟩ fs:Sem Bool).run P w=.ok r w:=by
   intro u v b r' h1 h2 h3 h4 h5
   have ih:=bS4 hl hm hc hd d fs h4
   simp only [Sem.run_bind,h1,h2,h3,Result.andThen_ok]
   subst h5
   cases b with
   | true=>simpa using ih
   | false=>simp
  split at h
  ·rename_i k1 a k2 b k h1 h2 h3
   split at h
   case isFalse=>cases h
   rename_i hk
   subst hk
   simp only [Option.map_eq_some_iff] at h
   obtain ⟨r',h4,rfl⟩:=h
   obtain ⟨u,hu1,hu2,_⟩:=pE (β:=fun _=>.bool false) h1 hl hc
   obtain ⟨v,hv1,hv2,_⟩:=pE (β:=fun _=>.bool false) h2 hm hd
   have e1:u=.int k1 a:=hu2.1
   have e2:v=.int k1 b:=hv2.1
   subst e1 e2
   exact fin hu1 hv1 (run_equalIn_int w d f.type k1 k a b h3) h4 rfl
  ·rename_i a b h1 h2 h3
   simp only [Option.map_eq_some_iff] at h
   obtain ⟨r',h4,rfl⟩:=h
   obtain ⟨u,hu1,hu2,_⟩:=pE (β:=fun _=>.bool false) h1 hl hc
   obtain ⟨v,hv1,hv2,_⟩:=pE (β:=fun _=>.bool false) h2 hm hd
   have e1:u=.bool a:=hu2.1
   have e2:v=.bool b:=hv2.1
   subst e1 e2
   exact fin hu1 hv1 (run_equalIn_bool P w d f.type a b h3) h4 rfl
  ·rename_i a b h1 h2 h3
   simp only [Option.map_eq_some_iff] at h
   obtain ⟨r',h4,rfl⟩:=h
   obtain ⟨u,hu1,hu2,_⟩:=pE (β:=fun _=>.bool false) h1 hl hc
   obtain ⟨v,hv1,hv2,_⟩:=pE (β:=fun _=>.bool false) h2 hm hd
   have e1:u=strOf a:=hu2
   have e2:v=strOf b:=hv2
   subst e1 e2
   have hs:(⟨a.toArray⟩:ByteArray).toList=a:=by rw [ByteArray.toList_eq]
   have hs2:(⟨b.toArray⟩:ByteArray).toList=b:=by rw [ByteArray.toList_eq]
   refine fin hu1 hv1 (run_equalIn_string w d f.type ⟨a.toArray⟩ ⟨b.toArray⟩ h3) h4 ?_
   rw [hs,hs2]
  ·cases h
theorem aY8 {cs ds:List Dat} {l m:List Value} {e:TypeId} (he:P.cellsOf e=1) (hl:l.length=cs.length) (hm:m.length=ds.length) (hc:RCs S w cs (fun j=>l[j]?) 0) (hd:RCs S w ds (fun j=>m[j]?) 0) (d:Nat):∀ (is:List Nat) {r:Bool},yN P e cs ds is=some r→(Op.eqItems (d+1) e (P.cellsOf e) ⟨l⟩ ⟨m⟩ is).run P w=.ok r w
 | [],r,h=>by
  simp only [yN,Option.some.injEq] at h
  subst h
  rfl
 | i :: is,r,h=>by
  simp only [yN] at h
  split at h
  ·rename_i k1 a k2 b k h1 h2 h3
   split at h
   case isFalse=>cases h
   rename_i hk
   subst hk
   simp only [Option.map_eq_some_iff] at h
   obtain ⟨r',h4,rfl⟩:=h
   obtain ⟨u,hu1,hu2,_⟩:=pE (β:=fun _=>.bool false) h1 hl hc
   obtain ⟨v,hv1,hv2,_⟩:=pE (β:=fun _=>.bool false) h2 hm hd
   have e1:u=.int k1 a:=hu2.1
   have e2:v=.int k1 b:=hv2.1
   subst e1 e2
   have ih:=aY8 he hl hm hc hd d is h4
   rw [he] at ih
   simp only [Op.eqItems,he,Nat.mul_one,Sem.run_bind,hu1,hv1,run_equalIn_int w d e k1 k a b h3,Result.andThen_ok]
   cases hab:(a == b) with
   | true=>simpa using ih
   | false=>simp
  ·cases h
theorem cG5 {op:BinOp} {t:TypeId} {cs ds:List Dat} {r:Bool} (h:bX4 P op t cs ds=some r) {X Y:Operand} {u v:Value} (hu:bA S w β (0,0) (.agg cs) u) (hv:bA S w β (0,0) (.agg ds) v) :
  (do eqGuard op t X Y u v; binOp op t u v:Sem Value).run P w=.ok (.bool r) w:=by
 obtain ⟨l,rfl,hl,hc⟩:=hu
 obtain ⟨m,rfl,hm,hd⟩:=hv
 unfold bX4 at h
 split at h
 case h_3=>cases h
 case h_1 =>
  rename_i n e hu
  split at h
  case isFalse=>cases h
  rename_i hh
  obtain ⟨i,hi⟩:=Option.isSome_iff_exists.1 hh.2.1
  have heq:∀ b,yN P e cs ds (List.range n)=some b→(Op.equalIn 10000 t (.agg ⟨l⟩) (.agg ⟨m⟩)).run P w=.ok b w:=by
   intro b hb
   rw [run_equalIn_array w 9999 ⟨l⟩ ⟨m⟩ hu hi]
   exact aY8 hh.1 hl hm hc hd 9998 _ hb
  rw [Sem.run_bind,run_eqGuard_agg w op t X Y _ _ hh.2.2,Result.andThen_ok]
  split at h
  ·rw [run_eql_struct,heq r h]
   rfl
  ·simp only [Option.map_eq_some_iff] at h
   obtain ⟨b,hb,rfl⟩:=h
   rw [run_neq_struct,heq b hb]
   rfl
  ·cases h
 rename_i fs hfs
 split at h
 case isFalse=>cases h
 rename_i hh
 have hf:P.fieldsOf t=fs:=by simp [Program.fieldsOf,hfs]
 have heq:∀ b,aI2 P cs ds fs.toList=some b→(Op.equalIn 10000 t (.agg ⟨l⟩) (.agg ⟨m⟩)).run P w=.ok b w:=by
  intro b hb
  rw [run_equalIn_agg w 9999 t ⟨l⟩ ⟨m⟩ (by rw [hf]; exact hfs) hh.1,hf]
  exact bS4 hl hm hc hd 9998 fs.toList hb
 rw [Sem.run_bind,run_eqGuard_agg w op t X Y _ _ hh.2,Result.andThen_ok]
 split at h
 ·rw [run_eql_struct,heq r h]
  rfl
 ·simp only [Option.map_eq_some_iff] at h
  obtain ⟨b,hb,rfl⟩:=h
  rw [run_neq_struct,heq b hb]
  rfl
 ·cases h
theorem aP0 (d:Nat) {t E:TypeId} {q:Option Addr} {l c:Nat} (h:P.underlying t=some (.slice E)):(Op.equalIn (d+1) t (.slice q l c) (.slice none 0 0)).run P w=.ok q.isNone w:=by
 cases q <;> simp [Op.equalIn,run_underlying h]
theorem cI7 {G:dW} {vals:Nat→Option Value} (hm:Mem e G S β fr vals w) {op:BinOp} {t:TypeId} {p:Path} {b:Bool} (h:bY2 P op t fr p=some b) {X Y:Operand} {u v:Value} (hu:bA S w β (0,0) (.vw p) u) (hv:v=.slice none 0 0) :
  (do eqGuard op t X Y u v; binOp op t u v:Sem Value).run P w=.ok (.bool b) w:=by
 unfold bY2 at h
 split at h
 case h_2=>cases h
 rename_i E κ sz es hE hp
 split at h
 case isFalse=>cases h
 rename_i hκ
 have hu':u=β p:=hu
 have ho:=jW hm hp
 rw [← hu'] at ho
 subst hv
 obtain ⟨q,l,c,rfl,hq⟩:∃ q l c,u=.slice q l c∧q.isNone=es.isEmpty:=by
  rcases ho with ⟨rfl,rfl⟩ | ⟨b,off,c,arr,E',fz,rfl,_,_,_,_,hk,_⟩
  ·exact ⟨none,0,0,rfl,rfl⟩
  ·refine ⟨_,_,_,rfl,?_⟩
   have:=hk.2.2 hκ
   cases es with
   | nil=>exact absurd rfl this
   | cons _ _=>rfl
 have he:(Op.equal t (.slice q l c) (.slice none 0 0)).run P w=.ok q.isNone w:=aP0 9999 hE
 split at h
 ·simp only [Option.some.injEq] at h
  subst h
  have hg:eqGuard .eql t X Y (.slice q l c) (.slice none 0 0)=pure ():=rfl
  rw [hg,← hq]
  simp only [Sem.run_bind,Sem.run_pure,Result.andThen_ok,binOp]
  simp [he]
 ·simp only [Option.some.injEq] at h
  subst h
  have hg:eqGuard .neq t X Y (.slice q l c) (.slice none 0 0)=pure ():=rfl
  rw [hg,← hq]
  simp only [Sem.run_bind,Sem.run_pure,Result.andThen_ok,binOp]
  simp [he]
 ·cases h
theorem bB1 (d:Nat) {t:TypeId} {ms:_} (h:P.underlying t=some (.interface ms)) (t':TypeId) (x':Value):(Op.equalIn (d+1) t (.iface t' x') .nilIface).run P w=.ok false w:=by
 simp [Op.equalIn,run_underlying h]
theorem aT6 (d:Nat) {t:TypeId} {ms:_} (h:P.underlying t=some (.interface ms)):(Op.equalIn (d+1) t .nilIface .nilIface).run P w=.ok true w:=by
 simp [Op.equalIn,run_underlying h]
theorem bB4 {op:BinOp} {t:TypeId} {X Y:Operand} {A B:Dat} {r:Bool} (h:cL6 P op t Y A B=some r) {u v:Value} (hu:RD S w A u) (hv:RD S w B v) :
  (do eqGuard op t X Y u v; binOp op t u v:Sem Value).run P w=.ok (.bool r) w:=by
 unfold cL6 at h
 split at h
 case h_2=>cases h
 rename_i x y
 have hu':u=x:=hu.1
 have hv':v=y:=hv.1
 subst hu' hv'
 split at h
 case h_2=>cases h
 rename_i ms hms
 split at h
 ·rename_i t' x'
  have he:(Op.equal t (.iface t' x') .nilIface).run P w=.ok false w:=bB1 9999 hms t' x'
  unfold eqB at h
  split at h
  ·cases h
   have hg:eqGuard .eql t X Y (.iface t' x') .nilIface=pure ():=rfl
   rw [hg]
   simp only [Sem.run_bind,Sem.run_pure,Result.andThen_ok,binOp]
   simp [he]
  ·cases h
   have hg:eqGuard .neq t X Y (.iface t' x') .nilIface=pure ():=rfl
   rw [hg]
   simp only [Sem.run_bind,Sem.run_pure,Result.andThen_ok,binOp]
   simp [he]
  ·cases h
 ·split at h
  case h_2=>cases h
  rename_i c
  have he:(Op.equal t .nilIface .nilIface).run P w=.ok true w:=aT6 9999 hms
  unfold eqB at h
  split at h
  ·cases h
   have hg:eqGuard .eql t X (.const c) .nilIface .nilIface=pure ():=by simp [eqGuard]
   rw [hg]
   simp only [Sem.run_bind,Sem.run_pure,Result.andThen_ok,binOp]
   simp [he]
  ·cases h
   have hg:eqGuard .neq t X (.const c) .nilIface .nilIface=pure ():=by simp [eqGuard]
   rw [hg]
   simp only [Sem.run_bind,Sem.run_pure,Result.andThen_ok,binOp]
   simp [he]
  ·cases h
 ·cases h
theorem cW6 (hm:Mem e G S β fr (bQ e a) w) {hint:Hint} {val:Operand→AV} (hval:∀ x,bA S w β (0,0) (val x) (a.eval x)) {o:Oper} {av:AV} {obl:Prop} (h:opR P hint val fr o=some (av,obl)) (ho:obl) :
  ∃ u,(execOp a.eval o).run P w=.ok (.value u) w∧bA S w β (0,0) av u:=by
 obtain ⟨dst,op,type,pos,after,guard⟩:=o
 unfold opR at h
 simp only at h
 have fin:∀ {s:Sem Value} {u:Value},s.run P w=.ok u w→(do pure (Next.value (← s)):Sem Next).run P w=.ok (.value u) w:=by
  intro s u hs
  simp [hs]
 split at h
 ·simp only [Option.some.injEq,Prod.mk.injEq] at h
  obtain ⟨rfl,rfl⟩:=h
  exact ⟨_,rfl,hval _⟩
 ·simp only [Option.some.injEq,Prod.mk.injEq] at h
  obtain ⟨rfl,rfl⟩:=h
  exact ⟨_,rfl,hval _⟩
 ·obtain ⟨u,hu,hr,_⟩:=bT7 (P:=P) hm h ho (hval _)
  exact ⟨u,fin hu,hr⟩
 ·rename_i op t x y _
  split at h
  case h_4=>cases h
  case h_3 =>
   rename_i p hA hB
   have h1:=hval x
   have h2:=hval y
   rw [hA] at h1
   rw [hB] at h2
   simp only [Option.map_eq_some_iff,Prod.mk.injEq] at h
   obtain ⟨r,hr,rfl,rfl⟩:=h
   exact ⟨.bool r,fin (cI7 hm hr h1 h2.1),⟨rfl,rfl⟩⟩
  case h_2 =>
   rename_i cs ds hA hB
   have h1:=hval x
   have h2:=hval y
   rw [hA] at h1
   rw [hB] at h2
   simp only [Option.map_eq_some_iff,Prod.mk.injEq] at h
   obtain ⟨r,hr,rfl,rfl⟩:=h
   exact ⟨.bool r,fin (cG5 hr h1 h2),⟨rfl,rfl⟩⟩
  rename_i A B hA hB
  have h1:=hval x
  have h2:=hval y
  rw [hA] at h1
  rw [hB] at h2
  split at h
  ·rename_i z ob hz
   simp only [Option.some.injEq,Prod.mk.injEq] at h
   obtain ⟨rfl,rfl⟩:=h
   obtain ⟨r,hr1,hr2⟩:=aX5 P w op t x y A B z ob hz ho _ _ h1 h2
   exact ⟨r,fin hr1,hr2⟩
  ·split at h
   case isFalse =>
    simp only [Option.map_eq_some_iff,Prod.mk.injEq] at h
    obtain ⟨r,hr,rfl,rfl⟩:=h
    exact ⟨.bool r,fin (bB4 hr h1 h2),⟨rfl,rfl⟩⟩
   rename_i ht
   simp only [Option.map_eq_some_iff,Prod.mk.injEq] at h
   obtain ⟨z,hz,rfl,rfl⟩:=h
   have htt:P.underlying t=some .bool:=by
    unfold bI7 at ht
    split at ht
    ·assumption
    ·cases ht
   obtain ⟨r,hr1,hr2⟩:=aP7 P w op t x y A B z htt hz _ _ h1 h2
   exact ⟨r,fin hr1,hr2⟩
 ·rename_i op t x
  split at h
  case h_2=>cases h
  rename_i A hA
  have h1:=hval x
  rw [hA] at h1
  simp only [Option.map_eq_some_iff,Prod.mk.injEq] at h
  obtain ⟨z,hz,rfl,rfl⟩:=h
  obtain ⟨r,hr1,hr2⟩:=bH0 P w op A z hz _ h1
  exact ⟨r,fin hr1,hr2⟩
 ·split at h
  ·rename_i r hsr
   simp only [Option.some.injEq] at h
   subst h
   obtain ⟨r,hr1,hr2,_⟩:=cT0 hm hsr ho (hval _)
   exact ⟨r,fin hr1,hr2⟩
  ·simp only [Option.map_eq_some_iff,Prod.mk.injEq] at h
   obtain ⟨z,hz,rfl,rfl⟩:=h
   obtain ⟨r,hr1,hr2,_⟩:=cQ1 (P:=P) hz (hval _)
   exact ⟨r,fin hr1,hr2⟩
 ·simp only [Option.map_eq_some_iff,Prod.mk.injEq] at h
  obtain ⟨z,hz,rfl,rfl⟩:=h
  obtain ⟨r,hr1,hr2,_⟩:=cG9 (P:=P) hz (hval _)
  exact ⟨r,fin hr1,hr2⟩
 ·simp only [Option.map_eq_some_iff,Prod.mk.injEq] at h
  obtain ⟨z,hz,rfl,rfl⟩:=h
  obtain ⟨r,hr1,hr2,_⟩:=wY (P:=P) hz (hval _)
  exact ⟨r,fin hr1,hr2⟩
 ·simp only [Option.map_eq_some_iff,Prod.mk.injEq] at h
  obtain ⟨z,hz,rfl,rfl⟩:=h
  obtain ⟨r,hr1,hr2,_⟩:=cE8 (P:=P) hz (hval _)
  exact ⟨r,fin hr1,hr2⟩
 ·obtain ⟨r,hr1,hr2,_⟩:=bD9 (P:=P) hm h ho (hval _) (hval _)
  exact ⟨r,fin hr1,hr2⟩
 ·obtain ⟨r,hr1,hr2,_⟩:=cG1 (P:=P) h ho (hval _) (hval _)
  exact ⟨r,fin hr1,hr2⟩
 ·rename_i t x lo hi
  split at h
  ·rename_i r hsr
   simp only [Option.some.injEq] at h
   subst h
   obtain ⟨r,hr1,hr2⟩:=cH9 (P:=P) (ulo:=lo.map a.eval) (uhi:=hi.map a.eval) hm hsr ho (hval x) (fun b hb=>by
    cases lo with
    | none=>cases hb
    | some l=>simp only [Option.map_some,Option.some.injEq] at hb; subst hb; exact ⟨_,rfl,hval l⟩) (fun hb=>by cases lo <;> simp_all) (fun b hb=>by
    cases hi with
    | none=>cases hb
    | some l=>simp only [Option.map_some,Option.some.injEq] at hb; subst hb; exact ⟨_,rfl,hval l⟩) (fun hb=>by cases hi <;> simp_all)
   exact ⟨r,fin hr1,hr2⟩
  split at h
  ·rename_i r hsr
   simp only [Option.some.injEq] at h
   subst h
   obtain ⟨r,hr1,hr2,_⟩:=cG3 (P:=P) (ulo:=lo.map a.eval) (uhi:=hi.map a.eval) hsr ho (hval x) (fun b hb=>by
    cases lo with
    | none=>cases hb
    | some l=>simp only [Option.map_some,Option.some.injEq] at hb; subst hb; exact ⟨_,rfl,hval l⟩) (fun hb=>by cases lo <;> simp_all) (fun b hb=>by
    cases hi with
    | none=>cases hb
    | some l=>simp only [Option.map_some,Option.some.injEq] at hb; subst hb; exact ⟨_,rfl,hval l⟩) (fun hb=>by cases hi <;> simp_all)
   exact ⟨r,fin hr1,hr2⟩
  obtain ⟨r,hr1,hr2,_⟩:=cH0 (P:=P) (ulo:=lo.map a.eval) (uhi:=hi.map a.eval) h ho (hval x) (fun b hb=>by
   cases lo with
   | none=>cases hb
   | some l=>simp only [Option.map_some,Option.some.injEq] at hb; subst hb; exact ⟨_,rfl,hval l⟩) (fun hb=>by cases lo <;> simp_all) (fun b hb=>by
   cases hi with
   | none=>cases hb
   | some l=>simp only [Option.map_some,Option.some.injEq] at hb; subst hb; exact ⟨_,rfl,hval l⟩) (fun hb=>by cases hi <;> simp_all)
  exact ⟨r,fin hr1,hr2⟩
 ·rename_i t parts
  have key:∃ u,(Instr.build t (parts.toList.map fun q=>(q.1,a.eval q.2)).toArray).run P w=.ok u w∧bA S w β (0,0) av u:=by
   split at h
   ·rename_i cs hcs
    simp only [Option.some.injEq,Prod.mk.injEq] at h
    obtain ⟨rfl,rfl⟩:=h
    exact Vm.run_build (P:=P) (S:=S) (w:=w) (β:=β) hcs (wB hval parts.toList 0)
   ·simp only [Option.map_eq_some_iff,Prod.mk.injEq] at h
    obtain ⟨cs,hcs,rfl,rfl⟩:=h
    exact bZ2 hm hcs (wB hval parts.toList 0)
  obtain ⟨u,hu,hr⟩:=key
  refine ⟨u,?_,hr⟩
  have he:(parts.map fun q=>(q.1,a.eval q.2))=(parts.toList.map fun q=>(q.1,a.eval q.2)).toArray:=by
   apply Array.ext'
   simp
  simp only [execOp]
  rw [he]
  exact fin hu
 ·rename_i f caps
  simp only [Option.map_eq_some_iff,Prod.mk.injEq] at h
  obtain ⟨cs,hcs,rfl,rfl⟩:=h
  refine ⟨.func (.func f) #[] (caps.map a.eval),?_,⟨caps.toList.map a.eval,?_,bN0 _ _ _ hcs (tZ hval caps.toList 0)⟩⟩
  ·simp [execOp,Instr.makeFunc]
  ·congr 1
   apply Array.ext'
   simp
 ·rename_i x
  have h1:=hval x
  split at h
  ·rename_i y off hx
   simp only [Option.some.injEq,Prod.mk.injEq] at h
   obtain ⟨rfl,rfl⟩:=h
   rw [hx] at h1
   have h1':=h1
   obtain ⟨b,_,hb⟩:=h1
   refine ⟨_,?_,h1'⟩
   simp only [execOp,hb]
   rfl
  ·rename_i p sz i off hx
   simp only [Option.some.injEq,Prod.mk.injEq] at h
   obtain ⟨rfl,rfl⟩:=h
   rw [hx] at h1
   have h1':=h1
   obtain ⟨b,_,_,hb⟩:=h1
   refine ⟨_,?_,h1'⟩
   simp only [execOp,hb]
   rfl
  ·rename_i cs hx
   simp only [Option.some.injEq,Prod.mk.injEq] at h
   obtain ⟨rfl,rfl⟩:=h
   rw [hx] at h1
   have h1':=h1
   simp only [bA,RD] at h1
   obtain ⟨b,off,arr,E,fz,hb,_⟩:=h1
   refine ⟨_,?_,h1'⟩
   simp only [execOp,hb]
   rfl
  ·rename_i p hx
   split at h
   case h_2=>cases h
   rename_i κ sz es hp
   simp only [Option.some.injEq,Prod.mk.injEq] at h
   obtain ⟨rfl,rfl⟩:=h
   rw [hx] at h1
   obtain ⟨b,arr,hb,_⟩:=wE hm hp
   have h1':a.eval x=β p:=h1
   refine ⟨_,?_,h1⟩
   simp only [execOp,h1',hb]
   rfl
  ·cases h
 ·rename_i x t
  simp only [Option.map_eq_some_iff,Prod.mk.injEq] at h
  obtain ⟨z,hz,rfl,rfl⟩:=h
  obtain ⟨r,hr1,hr2,_⟩:=cV0 (P:=P) (ty:=type) hm hz (hval x)
  refine ⟨r,?_,hr2⟩
  simp only [execOp,resolve,invoke,builtin,Sem.run_bind,Sem.run_pure,Result.andThen_ok]
  have:(#[x].map a.eval)=#[a.eval x]:=by simp
  rw [this,hr1]
  rfl
 ·rename_i x t
  simp only [Option.map_eq_some_iff,Prod.mk.injEq] at h
  obtain ⟨z,hz,rfl,rfl⟩:=h
  obtain ⟨r,hr1,hr2,_⟩:=cG6 (P:=P) (ty:=type) hz (hval x)
  refine ⟨r,?_,hr2⟩
  simp only [execOp,resolve,invoke,builtin,Sem.run_bind,Sem.run_pure,Result.andThen_ok]
  have:(#[x].map a.eval)=#[a.eval x]:=by simp
  rw [this,hr1]
  rfl
 ·rename_i x r ts
  simp only [Option.map_eq_some_iff,Prod.mk.injEq] at h
  obtain ⟨z,hz,rfl,rfl⟩:=h
  obtain ⟨v,hv1,hv2,_⟩:=yP (P:=P) _ _ _ _ _ hz (hval x) (tZ hval r 0)
  refine ⟨v,?_,hv2⟩
  simp only [execOp,resolve,invoke,builtin,Sem.run_bind,Sem.run_pure,Result.andThen_ok,Builtin.max_,List.map_toArray,List.map_cons]
  simp only [Bool.false_eq_true,if_false] at hv1
  rw [hv1]
  rfl
 ·rename_i x r ts
  simp only [Option.map_eq_some_iff,Prod.mk.injEq] at h
  obtain ⟨z,hz,rfl,rfl⟩:=h
  obtain ⟨v,hv1,hv2,_⟩:=yP (P:=P) _ _ _ _ _ hz (hval x) (tZ hval r 0)
  refine ⟨v,?_,hv2⟩
  simp only [execOp,resolve,invoke,builtin,Sem.run_bind,Sem.run_pure,Result.andThen_ok,Builtin.min_,List.map_toArray,List.map_cons]
  simp only [if_true] at hv1
  rw [hv1]
  rfl
 ·rename_i t x ix
  simp only [Option.map_eq_some_iff,Prod.mk.injEq] at h
  obtain ⟨⟨vk,r⟩,hl,rfl,rfl⟩:=h
  exact ⟨_,fin (bG3 hm (hval x) (hval ix) hl false),⟨rfl,rfl⟩⟩
 ·cases h
end
end Go.Vm
namespace Go.Vm
def bA9 (N:Nat) (fr:Fr) (v:AV) (s:Nat):Nat:=match v with
 | .vw (s',0)=>match aX fr s' with
  | .own _ _ _=>if s' < N then s' else s
  | _=>s
 | _=>s
def sU (N:Nat) (fr:Fr) (take:List Nat) (val:Operand→AV):Nat→List Operand→List uD
 | _,[]=>[]
 | i,x :: r=>(if take.contains i then match x with
   | .tmp s=>(some (bA9 N fr (val x) s),val x)
   | _=>(none,val x)
  else (none,val x)) :: sU N fr take val (i+1) r
def aQ4 (P:Program) (dst:Nat) (T:TypeId) (av:AV) (fr:Fr):Option Fr:=match av with
 | .d (.v (.iface t' (.agg us)))=>if t'=T∧us.toList.all Value.oneCell'=true then match P.underlying T with
   | some (.struct _)=>some (gM dst (.tup [.agg (us.toList.map .v),.d (.v (.bool true))]) fr)
   | _=>none
  else none
 | _=>none
def opE (P:Program) (N:Nat) (hint:Hint) (fr:Fr) (o:Oper):Option (Fr×Prop) :=
 match o.op,o.dst with
 | .assign (.tmp s),some t=>(aG4 N true t s fr).map (·,True)
 | .move (.tmp s),some t=>(aG4 N false t s fr).map (·,True)
 | .assign (.const (.slice none 0 0)),some t=>(bI2 P (!hint.take.isEmpty) t o.type fr).map (·,True)
 | .alloc T,some t=>match hint.es with
  | some es=>bU6 P t T es fr
  | none=>(aW1 P t T hint.slfs fr).map (·,True)
 | .convert s d x,some t=>match aY7 P s d t hint.es (gG N [] fr x) fr with
  | some r=>some r
  | none=>match x with
   | .tmp s'=>bM4 P N s d t s' fr
   | _=>none
 | .call { callee:=.invoke r name,args:=args,argTypes:=_ },some t=>aX4 P N t name (gG N [] fr r) (sU N fr hint.take (gG N [] fr) 0 args.toList) hint fr
 | .box _T x,some t=>(bT9 t N x (gG N [] fr x) fr).map (·,True)
 | .makeSlice T l c,some t=>bL2 P t T hint.es (gG N [] fr l) (gG N [] fr c) fr
 | .buildSlice T len parts,some t=>bA0 P (!hint.take.isEmpty) t T hint.es len (parts.toList.map fun q=>(q.1,gG N [] fr q.2)) fr
 | .extract (.tmp s) j,some t=>(aJ5 N t s j fr).map (·,True)
 | .call { callee:=.builtin .append,args:=⟨[x,y]⟩,argTypes:=⟨[t1,t2]⟩ },some t=>match aK6 P t1 t2 t hint.es (gG N [] fr x) (gG N [] fr y) fr with
  | some r=>some r
  | none=>aK4 P t1 t2 t hint.es (gG N [] fr x) (gG N [] fr y) fr
 | .call { callee:=.builtin .copy,args:=⟨[x,y]⟩,argTypes:=⟨[t1,_]⟩ },some t=>bL1 P t1 t hint.es (gG N [] fr x) (gG N [] fr y) fr
 | .slice T x none (some hi) none,some t=>if hint.take=[] then none else bU4 P T t hint.es (gG N [] fr x) (gG N [] fr hi) fr
 | .call { callee:=.value f,args:=args,argTypes:=_ },some t=>match gG N [] fr f with
  | .clo k caps=>wV P N t k (sU N fr hint.take (gG N [] fr) 0 args.toList++caps.map fun c=>(none,c)) hint fr
  | _=>none
 | .makeMap T none,some t=>(aK7 P t T fr).map (·,True)
 | .typeAssert x _ T true,some t=>(aQ4 P t T (gG N [] fr x) fr).map (·,True)
 | .insert T m k v,none=>(aP5 P T (gG N [] fr m) (gG N [] fr k) (gG N [] fr v) fr).map (·,True)
 | .lookup T x k true,some t=>(aR4 P t T (gG N [] fr x) (gG N [] fr k) fr).map (·,True)
 | .store T addr x,none=>aY1 P N T hint hint.es x (gG N [] fr addr) (gG N [] fr x) fr
 | _,_=>none
def vO:List Path→Fr→Option Fr
 | [],fr=>some fr
 | p :: r,fr=>match fH fr p with
  | .own _κ sz es=>vO r (fV fr p (.fz sz es))
  | .arr _κ _sz es=>vO r (fV fr p (.d (.pt es.flatten)))
  | _=>none
def cU3 (G:dW) (g:List (Nat×Bool)) (c:Operand) (want:Bool):List (Nat×Bool) :=
 match c with
 | .tmp s=>if (jV G s).isSome then (s,want) :: g else g
 | _=>g
def bX3 (N:Nat) (G:dW) (g:List (Nat×Bool)) (fr:Fr) (c x y:Operand):Option (AV×Prop) :=
 match gG N g fr c,gG N (cU3 G g c true) fr x,gG N (cU3 G g c false) fr y with
 | .d (.v (.bool b)),.d X,.d Y=>(bP0 b X Y).map fun z=>(.d z,True)
 | _,_,_=>none
def bU2 (P:Program) (N:Nat) (G:dW) (g:List (Nat×Bool)) (hint:Hint) (fr:Fr) (o:Oper):Option (AV×Prop) :=
 match o.op with
 | .pick c x y=>bX3 N G g fr c x y
 | .extract (.tmp s) j=>if s < N then (cX7 j (aX fr s)).map (·,True) else none
 | _=>match opR P hint (gG N g fr) fr o with
  | some r=>some r
  | none=>none
def rwA (hint:Hint) (r:AV×Prop):AV×Prop :=
 match hint.rw with
 | some av=>(av,r.2∧r.1=av)
 | none=>r
def aA3 (G:dW) (t:Nat) (g:List (Nat×Bool)):AV→dW
 | .d (.v (.bool b))=>(t,g,b) :: G
 | _=>G
def chainOf (ops:Array Oper) (G:dW) (o:Oper):Option (List (Nat×Bool)) :=
 match o.guard with
 | none=>some []
 | some (j,want)=>match (ops[j]?).bind (·.dst) with
  | some s=>match jV G s with
   | some (l,_)=>some ((s,want) :: l)
   | none=>none
  | none=>none
def aU6 (N:Nat) (G:dW):Option Nat→Bool
 | some t=>decide (t < N) && (jV G t).isNone
 | none=>true
def AV.stays:AV→Bool
 | .glo _ _=>true
 | .box cs=>cs.all fun c=>match c with
  | .d _ | .own _ _ _ | .slf _ _=>true
  | _=>false
 | _=>false
def aU9 (fr:Fr) (xs:List Nat):Bool:=xs.all (fun x=>(aX fr x).stays) && fr.all fun q=>q.2.paths.all fun p=>p.2 == 0 || !xs.contains p.1
def dA6 (P:Program) (N:Nat) (g:List (Nat×Bool)) (hint:Hint) (fr:Fr) (o:Oper):Option (AV×Prop) :=
 match o.op,o.dst with
 | .call { callee:=.value f,args:=args,argTypes:=_ },some t=>match gG N g fr f with
  | .clo k caps=>if aU9 fr hint.xs && hint.take.isEmpty then
    (wV P N t k ((args.toList.map fun x=>(none,gG N g fr x))++caps.map fun c=>(none,c)) { hint with vout:=hint.xs.map (aX fr) } fr).map fun r=>(hint.res,r.2)
   else none
  | _=>none
 | _,_=>none
def cX5 (P:Program) (N:Nat) (g:List (Nat×Bool)) (hint:Hint) (fr:Fr) (o:Oper):Option (AV×Prop) :=
 match o.op,o.dst with
 | .buildSlice T len parts,some t=>match bA0 P (!hint.take.isEmpty) t T hint.es len (parts.toList.map fun q=>(q.1,gG N g fr q.2)) fr with
  | some (f,obl)=>match aX f t with
   | .own _κ sz es=>some (.d (.sl sz es),obl)
   | _=>none
  | none=>none
 | _,_=>none
def step1 (P:Program) (N:Nat) (ops:Array Oper) (i:Nat) (h:Hint) (G:dW) (fr:Fr):Option (dW×Fr×Prop) :=
 match ops[i]? with
 | none=>none
 | some o=>if aU6 N G o.dst then
  match chainOf ops G o with
  | none=>none
  | some []=>match vO h.frz fr with
   | none=>none
   | some fr0=>match opE P N h fr0 o with
    | some (fr',obl)=>some (G,fr',obl)
    | none=>match bU2 P N G [] h fr0 o,o.dst with
     | some r,some t=>if (rwA h r).1.plain then some (aA3 G t [] (rwA h r).1,gM t (rwA h r).1 fr0,(rwA h r).2) else none
     | _,_=>none
  | some (q :: g)=>match o.dst with
   | some t=>match bU2 P N G (q :: g) h fr o with
    | some r=>if (rwA h r).1.plain then some (aA3 G t (q :: g) (rwA h r).1,gM t (.gd (q :: g) (rwA h r).1) fr,dN G (q :: g)=true→(rwA h r).2) else none
    | none=>match dA6 P N (q :: g) h fr o with
     | some r=>if r.1.plain then some (aA3 G t (q :: g) r.1,gM t (.gd (q :: g) r.1) fr,dN G (q :: g)=true→r.2) else none
     | none=>match cX5 P N (q :: g) h fr o with
      | some r=>if r.1.plain then some (aA3 G t (q :: g) r.1,gM t (.gd (q :: g) r.1) fr,dN G (q :: g)=true→r.2) else none
      | none=>none
   | none=>none
 else none
def aU2 (N:Nat) (a:Act) (G:dW):Prop:=∀ s l b,jV G s=some (l,b)→s < N∧(∀ q∈l,(jV G q.1).isSome=true)∧(dN G l=true→a.tmps[s]? = some (.bool b))∧(dN G l=false→a.tmps[s]? = some undef)
def uE (e:Env) (G:dW) (N:Nat) (fr:Fr) (a:Act) (w:World):Prop :=
 a.defers=e.dfs∧a.tmps.size=N∧aU2 N a G∧∃ S β,Mem e G S β fr (bQ e a) w
section
variable {P:Program} {e:Env} {G:dW} {S:Nat→Prop} {β:Path→Value} {fr:Fr} {w:World} {a:Act}
theorem aU2.put {N:Nat} (h:aU2 N a G) (hN:a.tmps.size=N) {t:Nat} (ht:t < N) (hf:jV G t=none) (u:Value):aU2 N (a.put (some t) u) G:=by
 intro s l b hs
 obtain ⟨h1,h2,h3,h4⟩:=h s l b hs
 have hne:s≠t:=by
  rintro rfl
  rw [hf] at hs
  cases hs
 have hg:(a.put (some t) u).tmps[s]? = a.tmps[s]? := by rw [pK a t u (by rw [hN]; exact ht),if_neg hne]
 exact ⟨h1,h2,fun h=>by rw [hg]; exact h3 h,fun h=>by rw [hg]; exact h4 h⟩
theorem aU2.push {N:Nat} (h:aU2 N a G) {t:Nat} (ht:t < N) (hf:jV G t=none) {g:List (Nat×Bool)} (hg:∀ q∈g,(jV G q.1).isSome=true) {b:Bool} (h1:dN G g=true→a.tmps[t]? = some (.bool b)) (h2:dN G g=false→a.tmps[t]? = some undef):aU2 N a ((t,g,b) :: G):=by
 have ext:∀ q:Nat×Bool,(jV G q.1).isSome=true→(jV ((t,g,b) :: G) q.1).isSome=true:=by
  intro q hq
  simp only [jV]
  split
  ·rfl
  ·exact hq
 intro s l b' hs
 simp only [jV] at hs
 split at hs
 ·rename_i hst
  simp only [beq_iff_eq] at hst
  subst hst
  simp only [Option.some.injEq,Prod.mk.injEq] at hs
  obtain ⟨rfl,rfl⟩:=hs
  rw [aK0 hf hg]
  exact ⟨ht,fun q hq=>ext q (hg q hq),h1,h2⟩
 ·obtain ⟨h3,h4,h5,h6⟩:=h s l b' hs
  rw [aK0 hf h4]
  exact ⟨h3,fun q hq=>ext q (h4 q hq),h5,h6⟩
theorem qM {N:Nat} (h:aU2 N a G) {t:Nat} (ht:t < N) (hf:jV G t=none) {g:List (Nat×Bool)} (hg:∀ q∈g,(jV G q.1).isSome=true) {av:AV} {u:Value} (hu:a.tmps[t]? = some u) (h1:dN G g=true→bA S w β (0,0) av u) (h2:dN G g=false→u=undef):aU2 N a (aA3 G t g av):=by
 unfold aA3
 split
 ·rename_i b
  refine h.push ht hf hg (fun hc=>?_) (fun hc=>?_)
  ·have:=(h1 hc).1
   rw [hu,this]
  ·rw [hu,h2 hc]
 ·exact h
theorem qN {fr':Fr} {vals:Nat→Option Value} (hm:Mem e G S β fr' vals w) {t:Nat} (hf:jV G t=none) (g:List (Nat×Bool)) (av:AV):Mem e (aA3 G t g av) S β fr' vals w:=by
 unfold aA3
 split
 ·exact hm.guard t g _ hf
 ·exact hm
theorem zL {N:Nat} (hI:aU2 N a G) {ops:Array Oper} {o:Oper} {g:List (Nat×Bool)} (h:chainOf ops G o=some g):Region.wanted o (yielded ops a.tmps)=dN G g∧∀ q∈g,(jV G q.1).isSome=true:=by
 unfold chainOf at h
 split at h
 ·rename_i hg
  simp only [Option.some.injEq] at h
  subst h
  exact ⟨by simp [Region.wanted,hg,dN],by simp⟩
 ·rename_i j want hg
  split at h
  case h_2=>cases h
  rename_i s hs
  split at h
  case h_2=>cases h
  rename_i l b hl
  simp only [Option.some.injEq] at h
  subst h
  obtain ⟨_,h2,h3,h4⟩:=hI s l b hl
  refine ⟨?_,fun q hq=>?_⟩
  ·have hc:dN G ((s,want) :: l)=((b == want) && dN G l):=by simp [dN,hl]
   simp only [Region.wanted,hg,yielded,hs,Option.bind_some,hc]
   cases hcl:dN G l with
   | true =>
    rw [h3 hcl]
    cases b <;> cases want <;> rfl
   | false =>
    rw [h4 hcl]
    simp [undef]
  ·rcases List.mem_cons.1 hq with h | h
   ·subst h; simp [hl]
   ·exact h2 q h
theorem zU:∀ (ps:List Path) (fr fr':Fr) (S:Nat→Prop),Mem e G S β fr (bQ e a) w→vO ps fr=some fr'→∃ S',Mem e G S' β fr' (bQ e a) w
 | [],fr,fr',S,hm,h=>by
  simp only [vO,Option.some.injEq] at h
  subst h
  exact ⟨S,hm⟩
 | p :: ps,fr,fr',S,hm,h=>by
  simp only [vO] at h
  split at h
  ·rename_i sz es hp
   exact zU ps _ fr' _ (hm.freeze hp) h
  ·rename_i sz es hp
   exact zU ps _ fr' _ (hm.cI3 hp) h
  ·cases h
theorem cE0 {N:Nat} (hN:a.tmps.size=N) (hI:aU2 N a G) (hm:Mem e G S β fr (bQ e a) w) {g:List (Nat×Bool)} (hg:dN G g=true) {c x y:Operand} {o:Oper} (hop:o.op=.pick c x y) {av:AV} {obl:Prop} (h:bX3 N G g fr c x y=some (av,obl)) :
  ∃ u,(execOp a.eval o).run P w=.ok (.value u) w∧bA S w β (0,0) av u:=by
 unfold bX3 at h
 split at h
 case h_2=>cases h
 rename_i b X Y hc hx hy
 simp only [Option.map_eq_some_iff,Prod.mk.injEq] at h
 obtain ⟨z,hz,rfl,rfl⟩:=h
 have h1:=pR hm hN g hg c
 rw [hc] at h1
 have hcv:a.eval c=.bool b:=h1.1
 -- the guards that hold on the side that is taken
 have hext:dN G (cU3 G g c b)=true:=by
  unfold cU3
  split
  ·rename_i s
   split
   ·rename_i hs
    obtain ⟨⟨l,bG⟩,hl⟩:=Option.isSome_iff_exists.1 hs
    obtain ⟨h2,_,h3,h4⟩:=hI s l bG hl
    have hev:=bG4 (a:=a) (s:=s) (by rw [hN]; exact h2)
    rw [hcv] at hev
    have hbb:bG=b:=by
     cases hcl:dN G l with
     | true =>
      have:=h3 hcl
      rw [hev] at this
      simp only [Option.some.injEq,Value.bool.injEq] at this
      exact this.symm
     | false =>
      have:=h4 hcl
      rw [hev] at this
      simp [undef] at this
    have:dN G ((s,b) :: g)=((bG == b) && dN G g):=by simp [dN,hl]
    rw [this,hbb,hg]
    simp
   ·exact hg
  ·exact hg
 refine ⟨if b then a.eval x else a.eval y,?_,?_⟩
 ·simp only [execOp,hop,hcv,asBool,Sem.run_bind,Sem.run_pure,Result.andThen_ok]
 ·cases b with
  | true =>
   have h2:=pR hm hN _ hext x
   rw [hx] at h2
   exact bY1 hz h2
  | false =>
   have h2:=pR hm hN _ hext y
   rw [hy] at h2
   exact bS2 hz h2
theorem aU7 {N:Nat} (hN:a.tmps.size=N) (hI:aU2 N a G) (hm:Mem e G S β fr (bQ e a) w) {g:List (Nat×Bool)} (hg:dN G g=true) {hint:Hint} {o:Oper} {r:AV×Prop} (h:bU2 P N G g hint fr o=some r) (ho:(rwA hint r).2) :
  ∃ u,(execOp a.eval o).run P w=.ok (.value u) w∧bA S w β (0,0) (rwA hint r).1 u:=by
 have key:r.2→∃ u,(execOp a.eval o).run P w=.ok (.value u) w∧bA S w β (0,0) r.1 u:=by
  intro ho
  unfold bU2 at h
  split at h
  ·rename_i c x y hop
   exact cE0 hN hI hm hg hop (av:=r.1) (obl:=r.2) h
  ·rename_i s j hop
   split at h
   case isFalse=>cases h
   rename_i hs
   simp only [Option.map_eq_some_iff] at h
   obtain ⟨z,hz,rfl⟩:=h
   obtain ⟨u,hu1,hu2,_⟩:=cT4 (P:=P) hN hm hs hz
   exact ⟨u,by simp [execOp,hop,hu1],hu2⟩
  ·split at h
   ·rename_i r' hr'
    cases h
    exact cW6 hm (fun x=>pR hm hN g hg x) (av:=r.1) (obl:=r.2) hr' ho
   ·cases h
 unfold rwA at ho ⊢
 split
 ·rename_i av hrw
  rw [hrw] at ho
  obtain ⟨u,h1,h2⟩:=key ho.1
  exact ⟨u,h1,by rw [← ho.2]; exact h2⟩
 ·rename_i hrw
  rw [hrw] at ho
  exact key ho
theorem bR6 {N:Nat} (hN:a.tmps.size=N) (hm:Mem e G S β fr (bQ e a) w) {v:AV} {s:Nat} (hv:bA S w β (0,0) v (a.eval (.tmp s))):a.eval (.tmp s)=a.eval (.tmp (bA9 N fr v s)):=by
 unfold bA9
 split
 ·rename_i s'
  split
  ·rename_i sz es hf
   split
   ·rename_i hlt
    obtain ⟨u,hr,hu⟩:=hm.rel s'
    rw [hf] at hr
    have h1:=hu _ (lL (a:=a) (e:=e) (s:=s') (by rw [hN]; exact hlt))
    rw [h1,hr.1]
    exact hv
   ·rfl
  ·rfl
 ·rfl
theorem zB {N:Nat} (hN:a.tmps.size=N) (hm:Mem e G S β fr (bQ e a) w) {take:List Nat} {val:Operand→AV} (hval:∀ x,bA S w β (0,0) (val x) (a.eval x)):∀ (xs:List Operand) (i j:Nat),bI (fun _=>aI4 N S w β a) j (sU N fr take val i xs) (xs.map a.eval)
 | [],_,_=>trivial
 | x :: xs,i,j=>by
  simp only [sU,List.map_cons]
  refine ⟨?_,zB hN hm hval xs (i+1) (j+1)⟩
  split
  ·split
   ·exact bR6 hN hm (hval _)
   ·exact hval _
  ·exact hval x
theorem bL9 {N:Nat}:∀ (caps:List AV) (us:List Value) (i j:Nat),bI (fun _=>rC S w β) i caps us→bI (fun _=>aI4 N S w β a) j (caps.map fun c=>((none,c):uD)) us
 | [],[],_,_,_=>trivial
 | c :: caps,u :: us,i,j,h=>by
  simp only [bI] at h
  refine ⟨?_,bL9 caps us (i+1) (j+1) h.2⟩
  have h1:=h.1
  show bA S w β (0,0) c u
  cases c <;> simp only [rC] at h1 <;> first | exact h1 | exact h1.elim
 | [],_ :: _,_,_,h=>by simp [bI] at h
 | _ :: _,[],_,_,h=>by simp [bI] at h
theorem bI.append {α γ:Type} {R:Nat→α→γ→Prop} (hR:∀ i j a c,R i a c→R j a c):∀ {i:Nat} {as bs:List α} {cs ds:List γ},bI R i as cs→bI R 0 bs ds→bI R i (as++bs) (cs++ds)
 | i,[],bs,[],ds,_,h2=>by
  simp only [List.nil_append]
  exact bI.dJ (bI.len h2) fun j a c ha hc=>by
   obtain ⟨c',hc',hr⟩:=bI.get h2 j a ha
   rw [hc] at hc'
   cases hc'
   exact hR _ _ _ _ hr
 | i,a :: as,bs,c :: cs,ds,h1,h2=>by
  simp only [bI] at h1
  exact ⟨h1.1,bI.append hR h1.2 h2⟩
 | _,[],_,_ :: _,_,h,_=>by simp [bI] at h
 | _,_ :: _,_,[],_,h,_=>by simp [bI] at h
theorem bL3 {t:TypeId} {name:String} {k:FuncId} (h:methodOf P t name=some k) (v:Value) (n:Nat):(method (n+1) t v name).run P w=.ok (k,v) w:=by
 unfold methodOf at h
 split at h
 case h_2=>cases h
 rename_i i fs hi hu
 split at h
 case h_2=>cases h
 rename_i m hm
 split at h
 case isFalse=>cases h
 rename_i hp
 split at h
 case h_2=>cases h
 rename_i k' hf
 simp only [Option.some.injEq] at h
 subst h
 have hpl:m.path.toList=[]:=by simpa using hp
 simp only [method,typeInfo,Sem.run_bind,run_program,hi,Sem.run_pure,Result.andThen_ok,hm,hpl,follow,hf,receiverAt,run_underlying hu,Place.get]
theorem bV7 {o:Oper} {r:Operand} {name:String} {args:Array Operand} {ats:Array TypeId} (hop:o.op=.call { callee:=.invoke r name,args:=args,argTypes:=ats }) {k:Nat} {t:TypeId} {v:Value} (hf:a.eval r=.iface t v) (hk:methodOf P t name=some k) (hc:iY P k) :
  (execOp a.eval o).run P w=.ok (.enter k (v :: args.toList.map a.eval).toArray) w:=by
 obtain ⟨fn,h1,h2,h3⟩:=hc
 have hmm:∀ n:Nat,(method (n+Made.depth) t v name).run P w=.ok (k,v) w:=fun n=>by
  have:∃ d,Made.depth=d+1:=⟨Made.depth - 1,by decide⟩
  obtain ⟨d,hd⟩:=this
  rw [hd,← Nat.add_assoc]
  exact bL3 hk v _
 have hx:(#[Value.iface t v]++args.map a.eval).extract 1 (#[Value.iface t v]++args.map a.eval).size=args.map a.eval:=by
  apply Array.ext'
  simp only [Array.toList_extract,Array.toList_map,Array.size_append,Array.size_map]
  have:(args.toList.map a.eval).length≤args.size:=by rw [List.length_map]; exact Nat.le_of_eq Array.length_toList
  simpa [List.extract] using List.take_of_length_le this
 have h0:(#[Value.iface t v]++args.map a.eval)[0]? = some (Value.iface t v):=by
  rw [Array.getElem?_append_left (xs:=#[Value.iface t v]) (by show 0 < 1; omega)]
  rfl
 simp only [execOp,hop,resolve,hf,Sem.run_bind,Sem.run_pure,Result.andThen_ok,invoke,h0,hx,callMethod,run_program,hmm,callFunc,h1,h3,Bool.false_eq_true,if_false,h2]
 congr 2
 apply Array.ext'
 simp
theorem bQ0 {o:Oper} {f:Operand} {args:Array Operand} {ats:Array TypeId} (hop:o.op=.call { callee:=.value f,args:=args,argTypes:=ats }) {k:Nat} {l:List Value} (hf:a.eval f=.func (.func k) #[] ⟨l⟩) (hc:iY P k) :
  (execOp a.eval o).run P w=.ok (.enter k (args.toList.map a.eval++l).toArray) w:=by
 obtain ⟨fn,h1,h2,h3⟩:=hc
 simp only [execOp,hop,resolve,hf,Deferred.ofValue,invoke,callFunc,Sem.run_bind,Sem.run_pure,Result.andThen_ok,run_program,h1,h3,Bool.false_eq_true,if_false,h2]
 congr 2
 apply Array.ext'
 simp
end
end Go.Vm
namespace Go.Vm
section
variable {P:Program} {e:Env} {G:dW} {S:Nat→Prop} {β:Path→Value} {fr:Fr} {w:World} {a:Act}
theorem nQ {o:Oper} {u:Value} {w':World} (hr:(execOp a.eval o).run P w=.ok (.value u) w') {K:Act→World→Prop} {Q:Exit→Act→World→Prop} (h:K (a.put o.dst u) w'):o.wp P a w K Q:=by
 simp only [Oper.wp,Oper.upon,hr]; exact h
theorem bP4 {o:Oper} {w':World} (hr:(execOp a.eval o).run P w=.ok .skip w') {K:Act→World→Prop} {Q:Exit→Act→World→Prop} (h:K (a.put o.dst undef) w'):o.wp P a w K Q:=by
 simp only [Oper.wp,Oper.upon,hr]; exact h
theorem bB8 {o:Oper} {k:Nat} {us:Array Value} (hr:(execOp a.eval o).run P w=.ok (.enter k us) w) {K:Act→World→Prop} {Q:Exit→Act→World→Prop} {R:Value→World→Prop}
  (hc:Calls P k us w fun e' w'=>∃ u,e'=.returned u∧R u w') (h:∀ u w',R u w'→K (a.put o.dst u) w'):o.wp P a w K Q:=by
 simp only [Oper.wp,Oper.upon,hr]
 refine hc.mono ?_
 rintro e' w' ⟨u,rfl,hR⟩
 exact h u w' hR
theorem aI5:∀ (us:List Value) (g:Nat→Option Value) (o:Nat),(∀ u∈us,u.oneCell'=true)→(∀ j u,us[j]? = some u→g (o+j)=some u)→RCs S w (us.map .v) g o
 | [],_,_,_,_=>trivial
 | u :: us,g,o,h1,h2=>by
  refine ⟨⟨u,by simpa using h2 0 u (by simp),rfl,h1 u (by simp)⟩,aI5 us g (o+1) (fun x hx=>h1 x (by simp [hx])) fun j x hj=>?_⟩
  rw [show o+1+j=o+(j+1) by omega]
  exact h2 (j+1) x (by simpa using hj)
theorem bH1 (hm:Mem e G S β fr (bQ e a) w) {dst:Nat} {xt T:TypeId} {av:AV} {fr':Fr} (ht:dst < a.tmps.size) (h:aQ4 P dst T av fr=some fr') {u:Value} (hr:bA S w β (0,0) av u) :
  ∃ v,(Instr.typeAssert u xt T true).run P w=.ok v w∧After e G fr' a dst v w:=by
 unfold aQ4 at h
 split at h
 case h_2=>cases h
 rename_i t' us
 split at h
 case isFalse=>cases h
 rename_i hc
 obtain ⟨rfl,hone⟩:=hc
 split at h
 case h_2=>cases h
 rename_i fs hfs
 simp only [Option.some.injEq] at h
 subst h
 have hu:u=.iface t' (.agg us):=hr.1
 subst hu
 refine ⟨.tuple #[.agg us,.bool true],?_,S,β,hm.nX dst _ (.tuple #[.agg us,.bool true]) _ (fI a dst _ ht) (fT a dst _ ht) ?_ (fun j=>?_) (fun _ _ h=>by cases h)⟩
 ·simp [Instr.typeAssert,run_underlying hfs]
 ·refine ⟨[.agg us,.bool true],rfl,rfl,?_⟩
  refine ⟨⟨us.toList,by simp,by simp,aI5 _ _ 0 (List.all_eq_true.1 hone) fun j u hj=>by simpa using hj⟩,⟨rfl,rfl⟩,trivial⟩
 ·cases j with
  | zero=>rfl
  | succ j =>
   match j with
   | 0=>rfl
   | 1=>rfl
   | j+2=>rfl
theorem cX4 {N:Nat} (hN:a.tmps.size=N) (hm:Mem e G S β fr (bQ e a) w) {hint:Hint} {o:Oper} {fr':Fr} {obl:Prop} (hdst:∀ t,o.dst=some t→t < N) (h:opE P N hint fr o=some (fr',obl)) (ho:obl) {K:Act→World→Prop} {Q:Exit→Act→World→Prop}
  (hK:∀ a' w',(∃ u,a'=a.put o.dst u)→(∃ S β,Mem e G S β fr' (bQ e a') w')→K a' w'):o.wp P a w K Q:=by
 obtain ⟨dst,op,type,pos,after,guard⟩:=o
 have hval:=fun x=>pR hm hN [] rfl x
 have fin:∀ {t:Nat} {u:Value} {w':World} {s:Sem Value} {pos':String},dst=some t→s.run P w=.ok u w'→(execOp a.eval ⟨dst,op,type,pos,after,guard⟩=do pure (Next.value (← s)))→After e G fr' a t u w'→Oper.wp P ⟨dst,op,type,pos,after,guard⟩ a w K Q:=by
  intro t u w' s _ hd hs he ha
  refine nQ (u:=u) (w':=w') (by rw [he]; simp [hs]) (hK _ _ ⟨u,rfl⟩ ?_)
  simp only [hd]
  exact ha
 unfold opE at h
 simp only at h hdst
 split at h
 ·rename_i s t
  simp only [Option.map_eq_some_iff,Prod.mk.injEq] at h
  obtain ⟨f,hf,rfl,rfl⟩:=h
  have:=zQ hN hm (by rw [hN]; exact hdst t rfl) hf
  exact nQ (u:=a.eval (.tmp s)) (w':=w) rfl (hK _ _ ⟨_,rfl⟩ this)
 ·rename_i s t
  simp only [Option.map_eq_some_iff,Prod.mk.injEq] at h
  obtain ⟨f,hf,rfl,rfl⟩:=h
  have:=zQ hN hm (by rw [hN]; exact hdst t rfl) hf
  exact nQ (u:=a.eval (.tmp s)) (w':=w) rfl (hK _ _ ⟨_,rfl⟩ this)
 ·rename_i t
  simp only [Option.map_eq_some_iff,Prod.mk.injEq] at h
  obtain ⟨f,hf,rfl,rfl⟩:=h
  have:=bG6 hm (by rw [hN]; exact hdst t rfl) hf
  exact nQ (u:=.slice none 0 0) (w':=w) rfl (hK _ _ ⟨_,rfl⟩ this)
 ·rename_i T t
  split at h
  ·obtain ⟨u,w',h1,h2⟩:=cI6 hm (by rw [hN]; exact hdst t rfl) h ho
   exact fin (pos':=pos) rfl h1 rfl h2
  simp only [Option.map_eq_some_iff,Prod.mk.injEq] at h
  obtain ⟨f,hf,rfl,rfl⟩:=h
  obtain ⟨u,w',h1,h2⟩:=bN6 hm (by rw [hN]; exact hdst t rfl) hf
  exact fin (pos':=pos) rfl h1 rfl h2
 ·rename_i s d x t
  split at h
  ·rename_i r hr
   simp only [Option.some.injEq] at h
   subst h
   obtain ⟨u,w',h1,h2⟩:=bQ3 hm (by rw [hN]; exact hdst t rfl) hr ho (hval x)
   exact fin (pos':=pos) rfl h1 rfl h2
  ·split at h
   case h_2=>cases h
   obtain ⟨u,w',h1,h2⟩:=bY6 hN hm (by rw [hN]; exact hdst t rfl) h ho
   exact fin (pos':=pos) rfl h1 rfl h2
 ·rename_i r name args ats t
  have hargs:bI (fun _=>aI4 N S w β a) 0 (sU N fr hint.take (gG N [] fr) 0 args.toList) (args.toList.map a.eval):=zB hN hm hval args.toList 0 0
  obtain ⟨t',cs,k,hu,hk,hc,hcalls⟩:=bS9 hN hm h ho (hval r) hargs
  refine bB8 (bV7 rfl hu hk hc) hcalls fun u w' hR=>hK _ _ ⟨u,rfl⟩ hR
 ·rename_i T x t
  simp only [Option.map_eq_some_iff,Prod.mk.injEq] at h
  obtain ⟨f,hf,rfl,rfl⟩:=h
  obtain ⟨u,w',h1,h2⟩:=cF4 (T:=T) hm hN (by rw [hN]; exact hdst t rfl) hf
  exact fin (pos':=pos) rfl h1 rfl h2
 ·rename_i T l c t
  obtain ⟨u,w',h1,h2⟩:=bY8 hm (by rw [hN]; exact hdst t rfl) h ho (hval l) (hval c)
  exact fin (pos':=pos) rfl h1 rfl h2
 ·rename_i T len parts t
  obtain ⟨u,w',h1,h2⟩:=bG2 hm (by rw [hN]; exact hdst t rfl) h ho (wB hval parts.toList 0)
  have he:(parts.map fun q=>(q.1,a.eval q.2))=(parts.toList.map fun q=>(q.1,a.eval q.2)).toArray:=by
   apply Array.ext'
   simp
  exact fin (pos':=pos) rfl h1 (by simp only [execOp]; rw [he]) h2
 ·rename_i s j t
  simp only [Option.map_eq_some_iff,Prod.mk.injEq] at h
  obtain ⟨f,hf,rfl,rfl⟩:=h
  obtain ⟨u,h1,h2⟩:=bC5 (P:=P) hN hm (by rw [hN]; exact hdst t rfl) hf
  exact fin (pos':=pos) rfl h1 rfl h2
 ·rename_i x y t1 t2 t
  obtain ⟨v,w',h1,h2⟩:∃ v w',(Builtin.append_ #[t1,t2] type #[a.eval x,a.eval y]).run P w=.ok v w'∧After e G fr' a t v w':=by
   split at h
   ·rename_i r hr
    simp only [Option.some.injEq] at h
    subst h
    exact bK0 (P:=P) (ty:=type) hm (by rw [hN]; exact hdst t rfl) hr ho (hval x) (hval y)
   ·exact bD6 (P:=P) (ty:=type) hm (by rw [hN]; exact hdst t rfl) h ho (hval x) (hval y)
  refine nQ (u:=v) (w':=w') ?_ (hK _ _ ⟨v,rfl⟩ h2)
  simp only [execOp,resolve,invoke,builtin,Sem.run_bind,Sem.run_pure,Result.andThen_ok,List.map_toArray,List.map_cons,List.map_nil,h1]
 ·rename_i x y t1 t2 t
  obtain ⟨v,w',h1,h2⟩:=bW1 (P:=P) (t2:=t2) (ty:=type) hm (by rw [hN]; exact hdst t rfl) h ho (hval x) (hval y)
  refine nQ (u:=v) (w':=w') ?_ (hK _ _ ⟨v,rfl⟩ h2)
  simp only [execOp,resolve,invoke,builtin,Sem.run_bind,Sem.run_pure,Result.andThen_ok,List.map_toArray,List.map_cons,List.map_nil,h1]
 ·rename_i T x hi t
  split at h
  case isTrue=>cases h
  obtain ⟨v,h1,h2⟩:=cG0 (P:=P) hm (by rw [hN]; exact hdst t rfl) h ho (hval x) (hval hi)
  exact fin (pos':=pos) rfl h1 rfl h2
 ·rename_i f args ats t
  split at h
  case h_2=>cases h
  rename_i k caps hf
  have hfv:=hval f
  rw [hf] at hfv
  obtain ⟨l,hl,hcaps⟩:=hfv
  have hargs:bI (fun _=>aI4 N S w β a) 0 (sU N fr hint.take (gG N [] fr) 0 args.toList++caps.map fun c=>((none,c):uD)) (args.toList.map a.eval++l) :=
   bI.append (fun _ _ _ _ h=>h) (zB hN hm hval args.toList 0 0) (bL9 caps l 0 0 hcaps)
  obtain ⟨hc,hcalls⟩:=aL2 hN hm h ho hargs
  refine bB8 (bQ0 rfl hl hc) hcalls fun u w' hR=>hK _ _ ⟨u,rfl⟩ hR
 ·rename_i T t
  simp only [Option.map_eq_some_iff,Prod.mk.injEq] at h
  obtain ⟨f,hf,rfl,rfl⟩:=h
  obtain ⟨u,w',h1,h2⟩:=bD0 (P:=P) hm (by rw [hN]; exact hdst t rfl) hf
  exact fin (pos':=pos) rfl h1 rfl h2
 ·rename_i x xt T t
  simp only [Option.map_eq_some_iff,Prod.mk.injEq] at h
  obtain ⟨f,hf,rfl,rfl⟩:=h
  obtain ⟨v,h1,h2⟩:=bH1 (P:=P) (xt:=xt) hm (by rw [hN]; exact hdst t rfl) hf (hval x)
  exact fin (pos':=pos) rfl h1 rfl h2
 ·rename_i T m k v
  simp only [Option.map_eq_some_iff,Prod.mk.injEq] at h
  obtain ⟨f,hf,rfl,rfl⟩:=h
  obtain ⟨w',h1,h2⟩:=bJ0 (P:=P) hm (hval m) (hval k) (hval v) hf
  refine bP4 (w':=w') ?_ (hK _ _ ⟨undef,rfl⟩ h2)
  simp only [execOp]
  simp [h1]
 ·rename_i T x k t
  simp only [Option.map_eq_some_iff,Prod.mk.injEq] at h
  obtain ⟨f,hf,rfl,rfl⟩:=h
  obtain ⟨u,h1,h2⟩:=bH6 (P:=P) hm (by rw [hN]; exact hdst t rfl) (hval x) (hval k) hf
  exact fin (pos':=pos) rfl h1 rfl h2
 ·rename_i T addr x
  obtain ⟨w',h1,h2⟩:=bO3 hN hm h ho (hval addr)
  refine bP4 (w':=w') ?_ (hK _ _ ⟨undef,rfl⟩ h2)
  simp only [execOp]
  simp [h1]
 ·cases h
theorem vM:dN G []=true:=rfl
theorem Mem.congr {fr':Fr} {vals:Nat→Option Value} (hm:Mem e G S β fr vals w) (h:∀ x,aX fr' x=aX fr x):Mem e G S β fr' vals w :=
 ⟨fun x=>by rw [h x]; exact hm.rel x,fun x l a hx=>hm.gok x l a (by rw [← h x]; exact hx),fun x i y j b h1 h2=>hm.dis x i y j b (by rw [← h x]; exact h1) (by rw [← h y]; exact h2),fun x i b h1=>hm.fre x i b (by rw [← h x]; exact h1),hm.stb,hm.s0,hm.old,hm.os,hm.tape,hm.output,hm.size⟩
theorem aS2 {N:Nat} {xs:List Nat}:∀ (items:List uD) (as:List AV) (ts:List (Option Nat)) (l:List Path),nV N xs fr items=some (as,ts,l)→(∀ it∈items,it.1=none)→taken ts=[]
  | [],as,ts,l,h,_=>by
    simp only [nV,Option.some.injEq,Prod.mk.injEq] at h
    obtain ⟨_,rfl,_⟩:=h
    rfl
  | (tk,v) :: r,as,ts,l,h,hn=>by
    have:tk=none:=hn (tk,v) (by simp)
    subst this
    simp only [nV] at h
    split at h
    · cases h
    rename_i as' ts' l' hrest
    split at h
    case h_2=>cases h
    simp only [Option.some.injEq,Prod.mk.injEq] at h
    obtain ⟨_,rfl,_⟩:=h
    have:=aS2 r as' ts' l' hrest (fun it hit=>hn it (by simp [hit]))
    simpa [taken] using this
theorem zR {π π':Path→Bool} {a:AV} (h:∀ q∈a.jF,π q=π' q):a.dZ π=a.dZ π':=by
 have:a.jF.any π=a.jF.any π':=by
  rw [Bool.eq_iff_iff,List.any_eq_true,List.any_eq_true]
  exact ⟨fun ⟨q,hq,hp⟩=>⟨q,hq,by rw [← h q hq]; exact hp⟩,fun ⟨q,hq,hp⟩=>⟨q,hq,by rw [h q hq]; exact hp⟩⟩
 simp only [AV.dZ,this]
theorem bQ4 {π π':Path→Bool} {a:AV} (h:∀ q∈a.paths,π q=π' q):a.dS π=a.dS π':=by
 cases a
 case box cs =>
  simp only [AV.dS,AV.box.injEq]
  exact List.map_congr_left fun c hc=>zR fun q hq=>h q (List.mem_flatMap.2 ⟨c,hc,hq⟩)
 case tup cs =>
  simp only [AV.dS,AV.tup.injEq]
  exact List.map_congr_left fun c hc=>zR fun q hq=>h q (List.mem_flatMap.2 ⟨c,hc,hq⟩)
 all_goals exact zR fun q hq=>h q hq
theorem bT3:∀ (fr:Fr) (x:Nat),aX fr x=.junk∨(x,aX fr x)∈fr
  | [],_=>.inl rfl
  | (y,a) :: r,x=>by
    rw [qR]
    split
    · rename_i h; subst h; exact .inr (List.mem_cons_self ..)
    · exact (bT3 r x).imp id fun h=>List.mem_cons_of_mem _ h
theorem aI7 (x:Nat):∀ (xs:List Nat),aX (xs.zip (xs.map (aX fr))++fr) x=aX fr x
 | []=>rfl
 | y :: xs=>by
  simp only [List.map_cons,List.zip_cons_cons,List.cons_append,qR]
  split
  ·rename_i h; subst h; rfl
  ·exact aI7 x xs
theorem bV5 {N dst k:Nat} {items:List uD} {h:Hint} {frc:Fr} {ob:Prop} (he:wV P N dst k items h fr=some (frc,ob)) (hx:aU9 fr h.xs=true) (hv:h.vout=h.xs.map (aX fr)) (hn:∀ it∈items,it.1=none) (x:Nat):aX frc x=if x=dst then h.res else (aX fr x).dS (fG dst):=by
 unfold wV at he
 split at he
 case h_2=>cases he
 rename_i as ts lent vin htr hbx
 split at he
 case isFalse=>cases he
 simp only [Option.some.injEq,Prod.mk.injEq] at he
 obtain ⟨rfl,_⟩:=he
 have hvb:h.vout.map (mW h.xs)=h.xs.map (aX fr):=by
  rw [hv,List.map_map]
  refine List.map_congr_left fun x hxm=>?_
  simp only [aU9,Bool.and_eq_true,List.all_eq_true] at hx
  have:=hx.1 x hxm
  simp only [Function.comp]
  cases hf:aX fr x <;> rw [hf] at this
  case box cs =>
   simp only [AV.stays,List.all_eq_true] at this
   simp only [mW,AV.box.injEq]
   conv=>rhs; rw [← List.map_id cs]
   refine List.map_congr_left fun c hc=>?_
   have h1:=this c hc
   cases c <;> first | rfl | cases h1
  all_goals first | rfl | cases this
 rw [aS2 items as ts lent htr hn,hvb]
 by_cases hd:x=dst
 ·subst hd; rw [if_pos rfl]; exact aV _ _ _
 ·rw [if_neg hd,sK,bL _ _ (Ne.symm hd),nM]
  simp only [List.map_nil,List.nil_append]
  rw [aI7]
  refine bQ4 fun q hq=>?_
  simp only [aU9,Bool.and_eq_true,List.all_eq_true] at hx
  have hq':(q.2 != 0 && h.xs.contains q.1)=false:=by
   rcases bT3 fr x with hj | hj
   ·rw [hj] at hq; cases hq
   ·have:=hx.2 _ hj q hq
    simp only [Bool.or_eq_true,beq_iff_eq,Bool.not_eq_true'] at this
    rcases this with h | h
    ·simp [h]
    ·rw [h,Bool.and_false]
  simp only [aL8,fG,hq',Bool.or_false]
theorem cT2 {N:Nat} (hN:a.tmps.size=N) (hm:Mem e G S β fr (bQ e a) w) {g:List (Nat×Bool)} (hg:dN G g=true) {t:Nat} (ht:t < N) {hint:Hint} {o:Oper} (hdst:o.dst=some t) {r:AV×Prop} (h:cX5 P N g hint fr o=some r) (ho:r.2) :
  ∃ u w',(execOp a.eval o).run P w=.ok (.value u) w'∧∃ S' β',Mem e G S' β' (gM t r.1 fr) (bQ e (a.put (some t) u)) w':=by
 obtain ⟨dst,op,type,pos,after,guard⟩:=o
 simp only at hdst
 subst hdst
 unfold cX5 at h
 simp only at h
 split at h
 case h_2=>cases h
 rename_i T len parts t' heq
 cases heq
 split at h
 case h_2=>cases h
 rename_i f obl hE
 split at h
 case h_2=>cases h
 rename_i κ sz es hf
 simp only [Option.some.injEq] at h
 subst h
 have hts:t < a.tmps.size:=by rw [hN]; exact ht
 have hval:=fun x=>pR hm hN g hg x
 obtain ⟨u,w',h1,S',β',hm'⟩:=bG2 hm hts hE ho (wB hval parts.toList 0)
 have hfr:f=gM t (.own κ sz es) fr:=by
  unfold bA0 at hE
  split at hE
  case h_2=>cases hE
  split at hE
  case h_2=>cases hE
  split at hE
  case isFalse=>cases hE
  simp only [Option.map_eq_some_iff,Prod.mk.injEq] at hE
  obtain ⟨es',_,rfl,_⟩:=hE
  rw [dK] at hf
  rw [hf]
 subst hfr
 refine ⟨u,w',?_,?_⟩
 ·have he:(parts.map fun q=>(q.1,a.eval q.2))=(parts.toList.map fun q=>(q.1,a.eval q.2)).toArray:=by
   apply Array.ext'
   simp
  simp only [execOp]
  rw [he]
  simp [h1]
 ·have hfz:=hm'.freeze (p:=(t,0)) (sz:=sz) (es:=es) hf
  refine ⟨fun b=>S' b∨blk (β' (t,0))=some b,β',?_⟩
  have hw:=hfz.weaken t (.d (.sl sz es)) (fun v hv=>by
   rw [show aX (fV (gM t (.own κ sz es) fr) (t,0) (.fz sz es)) t=.fz sz es from by simp [fV,aV]] at hv
   exact (dD rfl).2 ((dD rfl).1 hv).2) (fun j hj=>by cases j <;> simp [AV.aR,AV.bV] at hj) (fun l a hh=>by cases hh)
  exact hw.congr fun x=>by
   by_cases hx:x=t
   ·subst hx; rw [aV,dK]
   ·rw [bL _ _ (Ne.symm hx),gJ _ _ hx]
    simp only [fV]
    rw [bL _ _ (Ne.symm hx),gJ _ _ hx]
theorem aN5 {N:Nat} {ops:Array Oper} {i:Nat} {h:Hint} {G':dW} {fr':Fr} {obl:Prop} (hs:step1 P N ops i h G fr=some (G',fr',obl)) (ho:obl) (hm:uE e G N fr a w) {K:Act→World→Prop} {Q:Exit→Act→World→Prop}
  (hK:∀ a' w',uE e G' N fr' a' w'→K a' w') :
  ∃ o,ops[i]? = some o∧(Region.wanted o (yielded ops a.tmps)=true→o.wp P a w K Q)∧(Region.wanted o (yielded ops a.tmps)=false→K (a.put o.dst undef) w):=by
 obtain ⟨hd,hN,hI,S,β,hm⟩:=hm
 unfold step1 at hs
 split at hs
 ·cases hs
 rename_i o hoi
 split at hs
 case isFalse=>cases hs
 rename_i hfree
 refine ⟨o,hoi,?_⟩
 have hdst:∀ t,o.dst=some t→t < N∧jV G t=none:=by
  intro t ht
  simpa [aU6,ht] using hfree
 split at hs
 ·cases hs
 ·-- no guard
  rename_i hch
  obtain ⟨hw,_⟩:=zL hI hch
  rw [vM] at hw
  refine ⟨fun _=>?_,fun h=>by rw [hw] at h; cases h⟩
  split at hs
  ·cases hs
  rename_i fr0 hfz
  obtain ⟨S0,hm0⟩:=zU h.frz fr fr0 S hm hfz
  split at hs
  ·rename_i fr1 ob hE
   simp only [Option.some.injEq,Prod.mk.injEq] at hs
   obtain ⟨rfl,rfl,rfl⟩:=hs
   refine cX4 hN hm0 (fun t ht=>(hdst t ht).1) hE ho fun a' w' ⟨u,hu⟩ hmem=>hK a' w' ⟨?_,?_,?_,hmem⟩
   ·rw [hu,put_defers]; exact hd
   ·rw [hu,mE]; exact hN
   ·rw [hu]
    cases hd':o.dst with
    | none=>exact hI
    | some t=>exact hI.put hN (hdst t hd').1 (hdst t hd').2 u
  ·split at hs
   ·rename_i r t hR ht
    split at hs
    case isFalse=>cases hs
    rename_i hpl
    simp only [Option.some.injEq,Prod.mk.injEq] at hs
    obtain ⟨rfl,rfl,rfl⟩:=hs
    obtain ⟨u,hu,hru⟩:=aU7 (P:=P) hN hI hm0 vM hR ho
    obtain ⟨htN,htG⟩:=hdst t ht
    have hts:t < a.tmps.size:=by rw [hN]; exact htN
    refine nQ hu (hK _ _ ⟨by rw [put_defers]; exact hd,by rw [mE]; exact hN,?_,S0,β,?_⟩)
    ·rw [ht]
     exact qM (hI.put hN htN htG u) htN htG (by simp) (u:=u) (by rw [pK a t u hts,if_pos rfl]) (fun _=>hru) (fun h=>by rw [vM] at h; cases h)
    ·rw [ht]
     refine qN (hm0.nX t _ u _ (fI a t u hts) (fT a t u hts) (aL6 hpl hru) (zH hpl) (fun l a h=>?_)) htG _ _
     rw [h] at hpl
     cases hpl
   ·cases hs
 ·-- under a guard
  rename_i q g hch
  obtain ⟨hw,hgs⟩:=zL hI hch
  split at hs
  case h_2=>cases hs
  rename_i t ht
  obtain ⟨htN,htG⟩:=hdst t ht
  have hts:t < a.tmps.size:=by rw [hN]; exact htN
  have notWanted:∀ (av:AV),av.plain=true→dN G (q :: g)=false→uE e (aA3 G t (q :: g) av) N (gM t (.gd (q :: g) av) fr) (a.put o.dst undef) w:=by
   intro av hpl hc
   rw [ht]
   refine ⟨by rw [put_defers]; exact hd,by rw [mE]; exact hN,?_,S,β,?_⟩
   ·exact qM (S:=S) (w:=w) (β:=β) (hI.put hN htN htG undef) htN htG hgs (u:=undef) (by rw [pK a t undef hts,if_pos rfl]) (fun h=>by rw [hc] at h; cases h) (fun _=>rfl)
   ·refine qN (hm.nX t _ undef _ (fI a t undef hts) (fT a t undef hts) (show dV (dN G) S w β t (.gd (q :: g) av) undef from ⟨fun h=>(by rw [hc] at h; cases h),fun _=>rfl⟩) ?_ (fun l a h=>?_)) htG _ _
    ·intro j
     cases j <;> simp [AV.aR,AV.bV,fJ hpl]
    ·cases h
     exact ⟨fJ hpl,hgs⟩
  have wanted:∀ (av:AV) (u:Value) (w':World),av.plain=true→dN G (q :: g)=true→bA S w β (0,0) av u→uE e (aA3 G t (q :: g) av) N (gM t (.gd (q :: g) av) fr) (a.put o.dst u) w:=by
   intro av u w' hpl hc hru
   rw [ht]
   refine ⟨by rw [put_defers]; exact hd,by rw [mE]; exact hN,?_,S,β,?_⟩
   ·exact qM (hI.put hN htN htG u) htN htG hgs (u:=u) (by rw [pK a t u hts,if_pos rfl]) (fun _=>hru) (fun h=>by rw [hc] at h; cases h)
   ·refine qN (hm.nX t _ u _ (fI a t u hts) (fT a t u hts) (show dV (dN G) S w β t (.gd (q :: g) av) u from ⟨fun _=>nN hpl hru,fun h=>by rw [hc] at h; cases h⟩) ?_ (fun l a h=>?_)) htG _ _
    ·intro j
     cases j <;> simp [AV.aR,AV.bV,fJ hpl]
    ·cases h
     exact ⟨fJ hpl,hgs⟩
  split at hs
  ·rename_i r hR
   split at hs
   case isFalse=>cases hs
   rename_i hpl
   simp only [Option.some.injEq,Prod.mk.injEq] at hs
   obtain ⟨rfl,rfl,rfl⟩:=hs
   refine ⟨fun hwt=>?_,fun hwf=>hK _ _ (notWanted _ hpl (by rw [← hw]; exact hwf))⟩
   rw [hw] at hwt
   obtain ⟨u,hu,hru⟩:=aU7 (P:=P) hN hI hm hwt hR (ho hwt)
   exact nQ hu (hK _ _ (wanted _ u w hpl hwt hru))
  ·split at hs
   rotate_left
   ·split at hs
    case h_2=>cases hs
    rename_i r hC
    split at hs
    case isFalse=>cases hs
    rename_i hpl
    simp only [Option.some.injEq,Prod.mk.injEq] at hs
    obtain ⟨rfl,rfl,rfl⟩:=hs
    refine ⟨fun hwt=>?_,fun hwf=>hK _ _ (notWanted _ hpl (by rw [← hw]; exact hwf))⟩
    rw [hw] at hwt
    obtain ⟨u,w',hu,S',β',hm'⟩:=cT2 hN hm hwt htN ht hC (ho hwt)
    have hm2:=hm'.weaken t (.gd (q :: g) r.1) (fun v hv=>by
      rw [dK] at hv
      exact ⟨fun _=>(dD (by cases hr:r.1 <;> simp_all [AV.plain,AV.flat])).1 hv,fun hc=>by rw [hwt] at hc; cases hc⟩) (fun j hj=>by cases j <;> simp [AV.aR,AV.bV,fJ hpl] at hj) (fun l a hh=>by cases hh; exact ⟨fJ hpl,hgs⟩)
    have hm3:Mem e G S' β' (gM t (.gd (q :: g) r.1) fr) (bQ e (a.put (some t) u)) w':=hm2.congr fun x=>by
     by_cases hx:x=t
     ·subst hx; rw [aV,dK]
     ·rw [bL _ _ (Ne.symm hx),gJ _ _ hx,gJ _ _ hx]
    refine nQ hu (hK _ _ ⟨by rw [put_defers]; exact hd,by rw [mE]; exact hN,?_,S',β',?_⟩)
    ·rw [ht]
     obtain ⟨v,hv1,hv2⟩:=hm3.rel t
     rw [dK] at hv1
     have hput:(a.put (some t) u).tmps[t]? = some u:=by rw [pK a t u hts,if_pos rfl]
     have huv:=hv2 u (bM6 a t u hts)
     subst huv
     exact qM (hI.put hN htN htG u) htN htG hgs hput (fun hc=>nN hpl (hv1.1 hc)) (fun hc=>by rw [hwt] at hc; cases hc)
    ·rw [ht]
     exact qN hm3 htG _ _
   rename_i r hC
   split at hs
   case isFalse=>cases hs
   rename_i hpl
   simp only [Option.some.injEq,Prod.mk.injEq] at hs
   obtain ⟨rfl,rfl,rfl⟩:=hs
   refine ⟨fun hwt=>?_,fun hwf=>hK _ _ (notWanted _ hpl (by rw [← hw]; exact hwf))⟩
   rw [hw] at hwt
   have hval:=fun x=>pR hm hN (q :: g) hwt x
   unfold dA6 at hC
   obtain ⟨dst,op,type,pos,after,guard⟩:=o
   subst ht
   split at hC
   case h_2=>cases hC
   rename_i f args ats t' hop hdt
   simp only [Option.some.injEq] at hdt
   subst hdt
   split at hC
   case h_2=>cases hC
   rename_i k caps hf
   split at hC
   case isFalse=>cases hC
   rename_i hemp
   simp only [Bool.and_eq_true,List.isEmpty_iff] at hemp
   simp only [Option.map_eq_some_iff] at hC
   obtain ⟨⟨frc,ob⟩,hce,rfl⟩:=hC
   have hfv:=hval f
   rw [hf] at hfv
   obtain ⟨l,hl,hcaps⟩:=hfv
   have hitems:∀ (xs:List Operand) (j:Nat),bI (fun _=>aI4 N S w β a) j (xs.map fun x=>((none,gG N (q :: g) fr x):uD)) (xs.map a.eval):=by
    intro xs
    induction xs with
    | nil=>intro j; trivial
    | cons x xs ih=>intro j; exact ⟨hval x,ih (j+1)⟩
   have hargs:bI (fun _=>aI4 N S w β a) 0 ((args.toList.map fun x=>((none,gG N (q :: g) fr x):uD))++caps.map fun c=>((none,c):uD)) (args.toList.map a.eval++l) :=
    bI.append (fun _ _ _ _ h=>h) (hitems _ 0) (bL9 caps l 0 0 hcaps)
   obtain ⟨hcb,hcalls⟩:=aL2 hN hm hce (ho hwt) hargs
   refine bB8 (bQ0 hop hl hcb) hcalls fun u w' hR=>?_
   obtain ⟨S',β',hm'⟩:=hR
   have hfr:=bV5 hce hemp.1 rfl (by
    intro it hit
    rcases List.mem_append.1 hit with h | h
    ·obtain ⟨x,_,rfl⟩:=List.mem_map.1 h
     rfl
    ·obtain ⟨x,_,rfl⟩:=List.mem_map.1 h
     rfl)
   have hm2:=hm'.weaken t (.gd (q :: g) h.res) (fun v hv=>by
     rw [hfr t,if_pos rfl] at hv
     refine ⟨fun _=>?_,fun hc=>by rw [hwt] at hc; cases hc⟩
     have:h.res.flat=true:=by cases hr:h.res <;> simp_all [AV.plain,AV.flat]
     exact (dD this).1 hv) (fun j hj=>by cases j <;> simp [AV.aR,AV.bV,fJ hpl] at hj) (fun l a hh=>by cases hh; exact ⟨fJ hpl,hgs⟩)
   have hm3:Mem e G S' β' (gM t (.gd (q :: g) h.res) fr) (bQ e (a.put (some t) u)) w':=hm2.congr fun x=>by
    by_cases hx:x=t
    ·subst hx; rw [aV,dK]
    ·rw [bL _ _ (Ne.symm hx),hfr x,if_neg hx,gJ _ _ hx]
   refine hK _ _ ⟨by rw [put_defers]; exact hd,by rw [mE]; exact hN,?_,S',β',qN hm3 htG _ _⟩
   obtain ⟨v,hv1,hv2⟩:=hm3.rel t
   rw [dK] at hv1
   have hput:(a.put (some t) u).tmps[t]? = some u:=by rw [pK a t u hts,if_pos rfl]
   have huv:=hv2 u (bM6 a t u hts)
   subst huv
   exact qM (hI.put hN htN htG u) htN htG hgs hput (fun hc=>nN hpl (hv1.1 hc)) (fun hc=>by rw [hwt] at hc; cases hc)
end
end Go.Vm
