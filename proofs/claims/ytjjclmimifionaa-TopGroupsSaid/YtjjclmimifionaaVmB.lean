/-
  THE V-MACHINE,text B: VmEff2,VmEff3,VmCopy,VmMap,VmCall,VmCall2,VmCall3,VmStr,VmStep,VmRegion,VmRun.
-/
import Derived.Test.YtjjclmimifionaaVmA
import Derived.Lib.AppendZerosOnto
import Derived.Laws.IdiomStrings
import Derived.Laws.CopyRow
import Derived.MapKept
import Derived.Laws.BytesString
import Derived.ChangeKeysEq
namespace Go.Vm
def AfterS (e:Env) (G:GEnv) (fr':Fr) (a:Act) (w':World):Prop:=∃ S β,Mem e G S β fr' (valsOf e a) w'
def cellP (y off:Nat):Path→Bool:=fun p=>p.1 == y && p.2 == off+1
theorem cellP_ne {y off:Nat} {p:Path} (h:cellP y off p=false):p≠(y,off+1):=by
 rintro rfl
 simp [cellP] at h
def keepSlf:List AV→List AV→List AV
 | c :: cs,d :: ds=>(match c,d with
  | .slf o E,.d (.v (.pointer none))=>.slf o E
  | _,d=>d) :: keepSlf cs ds
 | _,ds=>ds
theorem keepSlf_len:∀ cs ds:List AV,(keepSlf cs ds).length=ds.length
 | [],ds=>by simp [keepSlf]
 | c :: cs,[]=>by simp [keepSlf]
 | c :: cs,d :: ds=>by simp [keepSlf,keepSlf_len cs ds]
theorem keepSlf_get:∀ (cs ds:List AV) (j:Nat) (a:AV),(keepSlf cs ds)[j]? = some a→ds[j]? = some a∨(∃ o E,cs[j]? = some (.slf o E)∧ds[j]? = some (.d (.v (.pointer none)))∧a=.slf o E)
 | [],ds,j,a,h=>.inl (by simpa [keepSlf] using h)
 | c :: cs,[],j,a,h=>by simp [keepSlf] at h
 | c :: cs,d :: ds,0,a,h=>by
  simp only [keepSlf,List.getElem?_cons_zero,Option.some.injEq] at h ⊢
  split at h
  ·exact .inr ⟨_,_,rfl,rfl,h.symm⟩
  ·exact .inl h
 | c :: cs,d :: ds,j+1,a,h=>by
  simp only [keepSlf,List.getElem?_cons_succ] at h ⊢
  exact keepSlf_get cs ds j a h
theorem keepSlf_own {cs ds:List AV} {i:Nat} (h:(AV.box (keepSlf cs ds)).ownsAt i=true):(AV.box ds).ownsAt i=true:=by
 cases i with
 | zero=>rfl
 | succ i =>
  simp only [AV.ownsAt] at h ⊢
  cases hg:(keepSlf cs ds)[i]? with
  | none=>simp [hg] at h
  | some a =>
   rw [hg] at h
   rcases keepSlf_get cs ds i a hg with h1 | ⟨o,E,_,_,rfl⟩
   ·rw [h1]; exact h
   ·cases h
def cellsF (fr:Fr) (v:AV):Option (List AV):=match v with
 | .vw p=>match pget fr p with
  | .own _ _ _=>some [.vw p]
  | _=>none
 | v=>cellsA v
def effStore (P:Program) (N:Nat) (T:TypeId) (hint:Hint) (hes:Option (List (List Dat))) (x:Operand) (addr v:AV) (fr:Fr):Option (Fr×Prop) :=
 match addr,P.info? T with
 | .bp y off,some i =>
  match fget fr y with
  | .box cs =>
   let plainly:Option (Fr×Prop):=match cellsF fr v with
    | some ds=>if ds.length=i.size∧off+ds.length≤cs.length then some ((y,.box (keepSlf cs (spl off ds cs))) :: fr,True) else none
    | none=>none
   match x with
   | .tmp s=>match fget fr s with
    | .own κ sz es=>if s≠y∧s < N∧i.size=1∧off < cs.length then some ((y,.box ((cs.map (AV.purge1 (cellP y off))).set off (.own κ sz es))) :: purgeP (cellP y off) ((s,.junk) :: fr),True) else none
    | _=>plainly
   | _=>plainly
  | _=>none
 | .ep p sz k off,some i =>
  match pget fr p with
  | .own κ sz' es =>
   match cellsD v with
   | some ds=>if sz=sz'∧ds.length=i.size∧off+ds.length≤sz then
     some (pset fr p (.own κ sz (hes.getD (es.set k (spl off ds hint.cs)))),es[k]? = some hint.cs∧es.set k (spl off ds hint.cs)=hes.getD (es.set k (spl off ds hint.cs)))
    else none
   | none=>none
  | .arr κ sz' es =>
   match cellsD v with
   | some ds=>if sz=sz'∧ds.length=i.size∧off+ds.length≤sz then
     some (pset fr p (.arr κ sz (hes.getD (es.set k (spl off ds hint.cs)))),es[k]? = some hint.cs∧es.set k (spl off ds hint.cs)=hes.getD (es.set k (spl off ds hint.cs)))
    else none
   | none=>none
  | _=>none
 | _,_=>none
section
variable {P:Program} {e:Env} {G:GEnv} {S:Nat→Prop} {β:Path→Value} {fr:Fr} {w:World} {a:Act}
theorem run_storeVar_row' {T:TypeId} {i:TypeInfo} (hi:P.info? T=some i) (b o:Nat) (arr:Array Value) (E:TypeId) (fz:Nat×Nat) (hb:w.heap[b]? = some (.cells arr E fz)) (hfr:∀ k,k < arr.size→¬ (fz.1≤k∧k < fz.2)) (u:Value) (hsz:u.cells.size=i.size) (hle:o+u.cells.size≤arr.size) (hone:∀ v∈u.cells.toList,v.oneCell'=true) :
  (Instr.storeAt T (.pointer (some ⟨b,o,none⟩)) u).run P w=.ok () (w.setRow b (spl o u.cells.toList arr.toList).toArray):=by
 have:=run_storeCells_fz (P:=P) b o E fz u.cells.toList 0 arr w hb hfr (by simpa using hle) hone
 simp only [Instr.storeAt,Instr.sureAddr,Sem.run_bind,Sem.run_pure,Result.andThen_ok,storeVar,sizeOf,typeInfo,run_program,hi,hsz,ne_eq,not_true_eq_false,if_false,this]
 simp [spl]
theorem tyAt_setRow {w:World} {b o:Nat} {arr arr':Array Value} {E:TypeId} {fz:Nat×Nat} (hb:w.heap[b]? = some (.cells arr E fz)):tyAt (w.setRow b arr') (.pointer (some ⟨b,o,none⟩))=tyAt w (.pointer (some ⟨b,o,none⟩)):=by
 simp only [tyAt,setRow_heap w b _ _ E fz hb,hb]
theorem Mem.storeBox {vals:Nat→Option Value} (hm:Mem e G S β fr vals w) {y b:Nat} {cs cs':List AV} {l l':List Value} {E:TypeId} (hf:fget fr y=.box cs) (hptr:β (y,0)=.pointer (some ⟨b,0,none⟩)) (hb:w.heap[b]? = some (.cells ⟨l⟩ E (0,0)))
  (_hl:l'.length=l.length) (hparts:RParts S w β y cs' l') (hown:∀ i,(AV.box cs').ownsAt i=true→(AV.box cs).ownsAt i=true) :
  Mem e G S β ((y,.box cs') :: fr) vals (w.setRow b ⟨l'⟩):=by
 have hob:(fget fr y).ownsAt 0=true:=by rw [hf]; rfl
 have hbb:blk (β (y,0))=some b:=by rw [hptr]; rfl
 have hother:∀ k,k≠b→(w.setRow b ⟨l'⟩).heap[k]? = w.heap[k]? := fun k hk=>setRow_other w b k _ hk
 have hag:Agree S w (w.setRow b ⟨l'⟩):=fun k hS=>hother k fun h=>(hm.fre y 0 b hob hbb).1 (h ▸ hS)
 have hoth:∀ z j k,(z,j)≠(y,0)→(fget fr z).ownsAt j=true→blk (β (z,j))=some k→(w.setRow b ⟨l'⟩).heap[k]? = w.heap[k]? := by
  intro z j k hne ho hk
  refine hother k fun h=>hne ?_
  subst h
  obtain ⟨h1,h2⟩:=hm.dis z j y 0 k ho hob hk hbb
  rw [h1,h2]
 refine hm.change y (.box cs') (slotP y) (fget_cons_self _ _ _) (fun z hz=>.inl ⟨fget_cons_ne _ _ (Ne.symm hz),fun _=>rfl⟩) (fun _ _ _=>rfl) (fun _ _=>rfl) (fun _ _ _ h=>h) ?_ (fun l a h=>by cases h) ?_ ?_ ?_ (fun _ h=>h) (fun _ h=>.inl h) hag (fun z j k hz ho hk=>hoth z j k (by simp [hz]) ho hk) ?_ (by simp) rfl rfl rfl
 ·obtain ⟨u,hr,hu⟩:=hm.rel y
  rw [hf] at hr
  obtain ⟨h0,b',l0,E',h1,h2,h3⟩:=hr
  refine ⟨u,⟨h0,b,l',E,by rw [h0]; exact hptr,setRow_heap w b _ _ E (0,0) hb,?_⟩,hu⟩
  refine All2.mono hparts fun j c v hc _ hr=>?_
  simp only [Nat.zero_add] at hr ⊢
  refine hr.turn (fun _ h=>h) hag rfl (fun _ _=>⟨rfl,by rw [hptr]; exact tyAt_setRow hb⟩) (fun ho k hk=>hoth y (j+1) k (by simp) ?_ hk) (fun _ _=>rfl)
  rw [hf]
  exact hown (j+1) (by simp [AV.ownsAt,hc,ho])
 ·intro i j k h1 h2 h3 h4
  exact (hm.dis y i y j k (by rw [hf]; exact hown i h1) (by rw [hf]; exact hown j h2) h3 h4).2
 ·intro i z j k h1 hz h2 h3 h4
  exact hz (hm.dis y i z j k (by rw [hf]; exact hown i h1) h2 h3 h4).1.symm
 ·intro i k h1 h2
  exact hm.fre y i k (by rw [hf]; exact hown i h1) h2
 ·intro k h1 h2
  refine hother k fun h=>?_
  subst h
  rcases (hm.fre y 0 k hob hbb).2 with h' | h'
  ·omega
  ·exact h2 h'
theorem cellsF_ok {G:GEnv} {vals:Nat→Option Value} (hm:Mem e G S β fr vals w) {v:AV} {cs:List AV} (h:cellsF fr v=some cs) {u:Value} (hr:RFlat S w β (0,0) v u) (x:Nat) :
  u.cells.toList.length=cs.length∧RParts S w β x cs u.cells.toList∧(∀ c∈cs,c.plain=true)∧∀ v∈u.cells.toList,v.oneCell'=true:=by
 unfold cellsF at h
 split at h
 ·rename_i p
  split at h
  case h_2=>cases h
  rename_i hp
  simp only [Option.some.injEq] at h
  subst h
  have hu:u=β p:=hr
  have ho:=pget_own hm hp
  rw [← hu] at ho
  have hc:u.cells=#[u]∧u.oneCell'=true:=by
   rcases ho with ⟨h,_⟩ | ⟨b,off,c,arr,E,fz,h,_⟩ <;> (rw [h]; exact ⟨rfl,rfl⟩)
  rw [hc.1]
  exact ⟨rfl,⟨hu,trivial⟩,by simp [AV.plain],by simpa using hc.2⟩
 ·exact cellsA_ok h hr x
theorem keepSlf_ok {y:Nat} {cs ds:List AV} {l l':List Value} (h1:RParts S w β y cs l) (h2:RParts S w β y ds l'):RParts S w β y (keepSlf cs ds) l':=by
 refine All2.of_get (by rw [keepSlf_len]; exact All2.len h2) fun j a c ha hc=>?_
 rcases keepSlf_get cs ds j a ha with h | ⟨o,E,g1,g2,rfl⟩
 ·obtain ⟨c',hc',hr⟩:=All2.get h2 j a h
  rw [hc] at hc'
  cases hc'
  exact hr
 ·obtain ⟨c1,_,hr1⟩:=All2.get h1 j _ g1
  obtain ⟨c2,hc2,hr2⟩:=All2.get h2 j _ g2
  rw [hc] at hc2
  cases hc2
  exact ⟨hr1.1,hr1.2.1,.inl hr2.1⟩
theorem spl_map_get {cs ds:List AV} {off:Nat} (h:off+ds.length≤cs.length) {i:Nat} (ho:(AV.box (spl off ds cs)).ownsAt i=true) (hp:∀ c∈ds,c.isOwn=false):(AV.box cs).ownsAt i=true:=by
 cases i with
 | zero=>rfl
 | succ i =>
  simp only [AV.ownsAt] at ho ⊢
  rw [spl_get h] at ho
  split at ho
  ·cases hd:ds[i - off]? with
   | none=>simp [hd] at ho
   | some c =>
    have:=hp c (List.mem_of_getElem? hd)
    simp [hd,this] at ho
  ·exact ho
theorem REs.store {S:Nat→Prop} {w:World} {es:List (List Dat)} {ocs ds:List Dat} {arr:Array Value} {l:List Value} {o sz k off:Nat} (hcs:REs S w sz es (fun j=>arr[j]?) o) (hk:es[k]? = some ocs) (hd:RCs S w ds (fun j=>l[j]?) 0) (hl:l.length=ds.length) (hle:off+ds.length≤sz) (hsle:o+(k * sz+off)+l.length≤arr.toList.length) :
  REs S w sz (es.set k (spl off ds ocs)) (fun j=>(spl (o+(k * sz+off)) l arr.toList).toArray[j]?) o:=by
 have hklt:k < es.length:=(List.getElem?_eq_some_iff.1 hk).1
 have hele:=REs.get es o k ocs hcs hk
 refine REs.of_get _ _ fun j x' hj=>?_
 rw [List.getElem?_set] at hj
 by_cases hkj:k=j
 ·subst hkj
  rw [if_pos rfl,if_pos hklt] at hj
  simp only [Option.some.injEq] at hj
  subst hj
  have hsl:off+ds.length≤ocs.length:=by rw [hele.1]; exact hle
  refine ⟨by rw [spl_len hsl]; exact hele.1,RCs.of_get _ _ fun m y hm'=>?_⟩
  rw [spl_get hsl] at hm'
  simp only [List.getElem?_toArray]
  rw [spl_get hsle]
  split at hm'
  ·rename_i hin
   obtain ⟨v,hv,hrv⟩:=RCs.get ds 0 (m - off) y hd hm'
   refine ⟨v,?_,hrv⟩
   rw [if_pos (by omega)]
   simp only [Nat.zero_add] at hv
   rw [← hv]
   congr 1
   omega
  ·rename_i hin
   obtain ⟨v,hv,hrv⟩:=RCs.get ocs _ m y hele.2 hm'
   refine ⟨v,?_,hrv⟩
   rw [if_neg (by omega)]
   simpa using hv
 ·rw [if_neg hkj] at hj
  obtain ⟨h5,h6⟩:=REs.get es o j x' hcs hj
  refine ⟨h5,RCs.congr _ _ _ (fun m hm'=>?_) h6⟩
  simp only [List.getElem?_toArray]
  rw [spl_get hsle,if_neg]
  ·simp
  ·rw [h5] at hm'
   intro hcon
   rcases Nat.lt_or_ge j k with hlt | hge
   ·have:(j+1) * sz≤k * sz:=Nat.mul_le_mul_right _ hlt
    rw [Nat.add_mul,Nat.one_mul] at this
    omega
   ·have:(k+1) * sz≤j * sz:=Nat.mul_le_mul_right _ (by omega)
    rw [Nat.add_mul,Nat.one_mul] at this
    omega
theorem effStore_ok {N:Nat} (hN:a.tmps.size=N) (hm:Mem e G S β fr (valsOf e a) w) {T:TypeId} {hint:Hint} {hes:Option (List (List Dat))} {x:Operand} {addr:AV} {fr':Fr} {obl:Prop}
  (h:effStore P N T hint hes x addr (oval N [] fr x) fr=some (fr',obl)) (ho:obl) {u:Value} (hr:RFlat S w β (0,0) addr u) :
  ∃ w',(Instr.storeAt T u (a.eval x)).run P w=.ok () w'∧AfterS e G fr' a w':=by
 have hval:=oval_ok hm hN [] rfl x
 unfold effStore at h
 split at h
 ·rename_i y off i hi
  split at h
  case h_2=>cases h
  rename_i cs hf
  obtain ⟨b,hptr,rfl⟩:=hr
  have hbox:∃ l E,w.heap[b]? = some (.cells ⟨l⟩ E (0,0))∧RParts S w β y cs l:=by
   obtain ⟨u',hr',_⟩:=hm.rel y
   rw [hf] at hr'
   obtain ⟨h0,b',l,E,h2,h3,h4⟩:=hr'
   rw [← h0,h2] at hptr
   simp only [Value.pointer.injEq,Option.some.injEq,Addr.mk.injEq] at hptr
   obtain ⟨rfl,_⟩:=hptr
   exact ⟨l,E,h3,h4⟩
  obtain ⟨l,E,hb,hparts⟩:=hbox
  have hlen:l.length=cs.length:=(All2.len hparts).symm
  have plainly:(match cellsF fr (oval N [] fr x) with
    | some ds=>if ds.length=i.size∧off+ds.length≤cs.length then some ((y,AV.box (keepSlf cs (spl off ds cs))) :: fr,True) else none
    | none=>none)=some (fr',obl)→∃ w',(Instr.storeAt T (.pointer (some ⟨b,off,none⟩)) (a.eval x)).run P w=.ok () w'∧AfterS e G fr' a w':=by
   intro h
   split at h
   case h_2=>cases h
   rename_i ds hds
   split at h
   case isFalse=>cases h
   rename_i hc
   simp only [Option.some.injEq,Prod.mk.injEq] at h
   obtain ⟨rfl,_⟩:=h
   obtain ⟨h1,h2,h3,h4⟩:=cellsF_ok hm hds hval y
   have hl2:(a.eval x).cells.size=ds.length:=by simpa using h1
   have hrun:=run_storeVar_row' hi b off ⟨l⟩ E (0,0) hb (fun k _ h=>by simp at h) (a.eval x) (by rw [hl2]; exact hc.1) (by rw [hl2]; simpa [hlen] using hc.2) h4
   refine ⟨_,hrun,S,β,hm.storeBox hf hptr hb (spl_len (by simp; omega)) ?_ (fun i ho=>spl_map_get hc.2 (keepSlf_own ho) fun c hc=>plain_isOwn (h3 c hc))⟩
   refine keepSlf_ok hparts ?_
   refine All2.of_get (by rw [spl_len hc.2,spl_len (by simp; omega)]; exact All2.len hparts) fun j p c hp hcj=>?_
   rw [spl_get hc.2] at hp
   rw [spl_get (by simp; omega)] at hcj
   rw [h1] at hcj
   split at hp
   ·rename_i hin
    rw [if_pos hin] at hcj
    obtain ⟨c',hc',hrc⟩:=All2.get h2 (j - off) p hp
    rw [hcj] at hc'
    cases hc'
    exact plain_path (h3 p (List.mem_of_getElem? hp)) hrc
   ·rename_i hin
    rw [if_neg hin] at hcj
    obtain ⟨c',hc',hrc⟩:=All2.get hparts j p hp
    rw [hcj] at hc'
    cases hc'
    exact hrc
  simp only at h
  split at h
  case h_2=>exact plainly h
  rename_i s
  split at h
  case h_2=>exact plainly h
  rename_i κ sz es hs
  split at h
  case isFalse=>cases h
  rename_i hc
  obtain ⟨hsy,hsN,hi1,hoff⟩:=hc
  simp only [Option.some.injEq,Prod.mk.injEq] at h
  obtain ⟨rfl,_⟩:=h
  -- the owner of slot s goes into the cell (y,off + 1)
  have hsl:s < a.tmps.size:=by rw [hN]; exact hsN
  have hd:=hm.drop s
  have hfd:fget ((s,AV.junk) :: fr) y=.box cs:=by rw [fget_cons_ne _ _ hsy]; exact hf
  obtain ⟨u0,hr0,hu0⟩:=hm.rel s
  have hus:a.eval (.tmp s)=u0:=hu0 _ (eval_tmp hsl)
  rw [hs] at hr0
  have hown:OwnAt S w u0 κ sz es:=hr0.2
  have hub:u0=β (s,0):=hr0.1
  have hcells:(a.eval (.tmp s)).cells=#[u0]:=by
   rw [hus]
   rcases hown with ⟨h,_⟩ | ⟨b,off,c,arr,E,fz,h,_⟩ <;> (rw [h]; rfl)
  have hone:u0.oneCell'=true:=by
   rcases hown with ⟨h,_⟩ | ⟨b,off,c,arr,E,fz,h,_⟩ <;> (rw [h]; rfl)
  have hrun:=run_storeVar_row' hi b off ⟨l⟩ E (0,0) hb (fun k _ h=>by simp at h) (a.eval (.tmp s)) (by rw [hcells,hi1]; rfl) (by rw [hcells]; simp; omega) (by rw [hcells]; simpa using hone)
  rw [hcells] at hrun
  have hob:(fget fr y).ownsAt 0=true:=by rw [hf]; rfl
  have hbb:blk (β (y,0))=some b:=by rw [hptr]; rfl
  have hos:(fget fr s).ownsAt 0=true:=by rw [hs]; rfl
  have hsb:∀ k,blk (β (s,0))=some k→k≠b:=by
   intro k hk h
   subst h
   exact hsy (hm.dis s 0 y 0 k hos hob hk hbb).1
  let w':=w.setRow b (spl off [u0] l).toArray
  have hother:∀ k,k≠b→w'.heap[k]? = w.heap[k]? := fun k hk=>setRow_other w b k _ hk
  have hag:Agree S w w':=fun k hS=>hother k fun h=>(hm.fre y 0 b hob hbb).1 (h ▸ hS)
  have hoth:∀ z j k,(z,j)≠(y,0)→(fget fr z).ownsAt j=true→blk (β (z,j))=some k→w'.heap[k]? = w.heap[k]? := by
   intro z j k hne ho hk
   refine hother k fun h=>hne ?_
   subst h
   obtain ⟨h1,h2⟩:=hm.dis z j y 0 k ho hob hk hbb
   rw [h1,h2]
  have hcase:∀ i,(AV.box ((cs.map (AV.purge1 (cellP y off))).set off (.own κ sz es))).ownsAt i=true→i=off+1∨(i≠off+1∧(fget fr y).ownsAt i=true):=by
   intro i h
   rcases box_ownsAt_set h with ⟨h1,_⟩ | ⟨h1,h2⟩
   ·exact .inl h1
   ·refine .inr ⟨h1,?_⟩
    rw [hf]
    exact AV.purge_ownsAt (cellP y off) (.box cs) i h2
  have hdrop:∀ z j,(fget ((s,AV.junk) :: fr) z).ownsAt j=true→z≠s∧(fget fr z).ownsAt j=true:=by
   intro z j h
   by_cases hz:z=s
   ·subst hz
    rw [fget_cons_self] at h
    cases j <;> simp [AV.ownsAt,AV.isOwn] at h
   ·rw [fget_cons_ne _ _ (Ne.symm hz)] at h
    exact ⟨hz,h⟩
  have hnew:∀ i k,(AV.box ((cs.map (AV.purge1 (cellP y off))).set off (.own κ sz es))).ownsAt i=true→blk ((fun p=>if p=(y,off+1) then β (s,0) else β p) (y,i))=some k →
    (i=off+1∧blk (β (s,0))=some k)∨(i≠off+1∧(fget fr y).ownsAt i=true∧blk (β (y,i))=some k):=by
   intro i k h1 h2
   rcases hcase i h1 with rfl | ⟨h3,h4⟩
   ·simp only [if_true] at h2
    exact .inl ⟨rfl,h2⟩
   ·have:(y,i)≠(y,off+1):=by simp; exact h3
    simp only [this,if_false] at h2
    exact .inr ⟨h3,h4,h2⟩
  refine ⟨w',hrun,S,fun p=>if p=(y,off+1) then β (s,0) else β p,?_⟩
  refine hd.change y (.box ((cs.map (AV.purge1 (cellP y off))).set off (.own κ sz es))) (cellP y off) (fget_cons_self _ _ _) (fun z hz=>.inr ?_) (fun z j hz=>by simp [hz]) (fun p hp=>if_neg (cellP_ne hp)) (fun _ _ _ h=>h) ?_ (fun l a h=>by cases h) ?_ ?_ ?_ (fun _ h=>h) (fun _ h=>.inl h) hag (fun z j k hz ho hk=>hoth z j k (by simp [hz]) (hdrop z j ho).2 hk) ?_ (by simp [w']) rfl rfl rfl
  ·rw [fget_cons_ne _ _ (Ne.symm hz)]
   exact fget_purgeP _ z _
  ·obtain ⟨u,hr,hu⟩:=hm.rel y
   rw [hf] at hr
   obtain ⟨h0,_⟩:=hr
   refine ⟨u,⟨by simpa using h0,b,spl off [u0] l,E,by rw [h0]; exact hptr,setRow_heap w b _ _ E (0,0) hb,?_⟩,hu⟩
   refine All2.of_get (by rw [spl_len (by simp; omega)]; simpa using All2.len hparts) fun j p c hp hcj=>?_
   rw [List.getElem?_set] at hp
   rw [spl_get (by simp; omega)] at hcj
   simp only [List.length_cons,List.length_nil,Nat.zero_add] at hcj
   by_cases hj:off=j
   ·subst hj
    rw [if_pos rfl,if_pos (by simp; omega)] at hp
    simp only [Option.some.injEq] at hp
    subst hp
    rw [if_pos (by omega)] at hcj
    simp only [Nat.sub_self,List.getElem?_cons_zero,Option.some.injEq] at hcj
    subst hcj
    refine ⟨by simpa using hub,hown.turn (fun _ h=>h) hag fun k hk=>hother k (hsb k (by rw [← hub]; exact hk))⟩
   ·rw [if_neg hj] at hp
    rw [if_neg (by omega)] at hcj
    simp only [List.getElem?_map,Option.map_eq_some_iff] at hp
    obtain ⟨p0,hp0,rfl⟩:=hp
    obtain ⟨c',hc',hrc⟩:=All2.get hparts j p0 hp0
    rw [hcj] at hc'
    cases hc'
    simp only [Nat.zero_add] at hrc ⊢
    refine (hrc.purge (cellP y off)).turn (fun _ h=>h) hag ?_ (fun _ _=>⟨by simp,by rw [hptr]; exact tyAt_setRow hb⟩) (fun ho k hk=>hoth y (j+1) k (by simp) ?_ hk) fun q hq=>?_
    ·have:(y,j+1)≠(y,off+1):=by simp; omega
     simp [this]
    ·rw [hf]
     simp [AV.ownsAt,hp0,AV.purge1_isOwn _ _ ho]
    ·exact if_neg (cellP_ne (AV.purge1_paths (AV.paths01 _ _ hq)).1)
  ·intro i j k h1 h2 h3 h4
   rcases hnew i k h1 h3 with ⟨rfl,h5⟩ | ⟨_,h5,h6⟩ <;> rcases hnew j k h2 h4 with ⟨rfl,h7⟩ | ⟨_,h7,h8⟩
   ·rfl
   ·exact absurd (hm.dis s 0 y j k hos h7 h5 h8).1 hsy
   ·exact absurd (hm.dis s 0 y i k hos h5 h7 h6).1 hsy
   ·exact (hm.dis y i y j k h5 h7 h6 h8).2
  ·intro i z j k h1 hz h2 h3 h4
   obtain ⟨hzs,h2'⟩:=hdrop z j h2
   rcases hnew i k h1 h3 with ⟨rfl,h5⟩ | ⟨_,h5,h6⟩
   ·exact hzs (hm.dis z j s 0 k h2' hos h4 h5).1
   ·exact hz (hm.dis y i z j k h5 h2' h6 h4).1.symm
  ·intro i k h1 h2
   rcases hnew i k h1 h2 with ⟨rfl,h5⟩ | ⟨_,h5,h6⟩
   ·exact hm.fre s 0 k hos h5
   ·exact hm.fre y i k h5 h6
  ·intro k h1 h2
   refine hother k fun h=>?_
   subst h
   rcases (hm.fre y 0 k hob hbb).2 with h' | h'
   ·omega
   ·exact h2 h'
 ·rename_i p sz k off i hi
  split at h
  ·rename_i κ sz' es hp
   split at h
   case h_2=>cases h
   rename_i ds hds
   split at h
   case isFalse=>cases h
   rename_i hc
   obtain ⟨rfl,hdl,hle⟩:=hc
   simp only [Option.some.injEq,Prod.mk.injEq] at h
   obtain ⟨rfl,rfl⟩:=h
   obtain ⟨ho1,ho2⟩:=ho
   rw [← ho2]
   obtain ⟨b,o,hptr,rfl⟩:=hr
   have hown:=pget_own hm hp
   rcases hown with ⟨_,rfl⟩ | ⟨b',o',c',arr,E,fz,h1,h2,h3,hfr,hb,hκ,hcs⟩
   ·simp at ho1
   rw [h1] at hptr
   rcases hptr with ⟨n,c,hptr⟩ | hptr
   case inr=>cases hptr
   simp only [Value.slice.injEq,Option.some.injEq,Addr.mk.injEq] at hptr
   obtain ⟨⟨rfl,rfl,_⟩,rfl,rfl⟩:=hptr
   obtain ⟨hd1,hd2⟩:=cellsD_ok hds hval (fun x v=>RD_one x v)
   have hl2:(a.eval x).cells.size=ds.length:=by simpa using hd1
   have hk:k < es.length:=(List.getElem?_eq_some_iff.1 ho1).1
   have hks:k * sz+sz≤es.length * sz:=by
    have:(k+1) * sz≤es.length * sz:=Nat.mul_le_mul_right _ hk
    rwa [Nat.add_mul,Nat.one_mul] at this
   have hcap:o'+es.length * sz≤arr.size:=Nat.le_trans (Nat.add_le_add_left (Nat.mul_le_mul_right _ h2) _) h3
   have hsle:o'+(k * sz+off)+(a.eval x).cells.toList.length≤arr.toList.length:=by simp [hl2]; omega
   have hrun:=run_storeVar_row' hi b' (o'+(k * sz+off)) arr E fz hb hfr.out (a.eval x) (by omega) (by simpa using hsle) (RCs.one hd2 hd1)
   have how:=pget_owns hp
   have hbb:blk (β p)=some b':=by rw [h1]; rfl
   have hag:Agree S w (w.setRow b' (spl (o'+(k * sz+off)) (a.eval x).cells.toList arr.toList).toArray):=fun j hS=>setRow_other w b' j _ fun h=>(hm.fre p.1 p.2 b' how hbb).1 (h ▸ hS)
   refine ⟨_,hrun,S,β,hm.pset hp rfl ⟨rfl,.inr ⟨b',o',c',_,E,fz,by rw [h1]; simp,by simpa using h2,?_,?_,setRow_heap w b' _ _ E fz hb,hκ.len (by simp),?_⟩⟩ (fun _ h=>h) (fun _ h=>.inl h) (fun j hj=>setRow_other w b' j _ fun h=>hj (by rw [h]; exact hbb)) (by simp) rfl rfl rfl⟩
   ·rw [List.size_toArray,spl_len hsle]
    simpa using h3
   ·rw [List.size_toArray,spl_len hsle]
    simpa using hfr
   ·exact REs.mono (fun _ h=>h) hag _ _ _ _ (REs.store hcs ho1 hd2 hd1 hle hsle)
  ·rename_i κ sz' es hp
   split at h
   case h_2=>cases h
   rename_i ds hds
   split at h
   case isFalse=>cases h
   rename_i hc
   obtain ⟨rfl,hdl,hle⟩:=hc
   simp only [Option.some.injEq,Prod.mk.injEq] at h
   obtain ⟨rfl,rfl⟩:=h
   obtain ⟨ho1,ho2⟩:=ho
   rw [← ho2]
   obtain ⟨b,o,hptr,rfl⟩:=hr
   obtain ⟨b',arr,h1,h2,hb,hcs⟩:=pget_arr hm hp
   rw [h1] at hptr
   rcases hptr with ⟨n,c,hptr⟩ | hptr
   ·cases hptr
   simp only [Value.pointer.injEq,Option.some.injEq,Addr.mk.injEq] at hptr
   obtain ⟨rfl,rfl,_⟩:=hptr
   obtain ⟨hd1,hd2⟩:=cellsD_ok hds hval (fun x v=>RD_one x v)
   have hl2:(a.eval x).cells.size=ds.length:=by simpa using hd1
   have hk:k < es.length:=(List.getElem?_eq_some_iff.1 ho1).1
   have hks:k * sz+sz≤es.length * sz:=by
    have:(k+1) * sz≤es.length * sz:=Nat.mul_le_mul_right _ hk
    rwa [Nat.add_mul,Nat.one_mul] at this
   have hsle:0+(k * sz+off)+(a.eval x).cells.toList.length≤arr.toList.length:=by simp [hl2]; omega
   have hrun:=run_storeVar_row' hi b' (0+(k * sz+off)) arr κ (0,0) hb (fun _ _ h=>by simp at h) (a.eval x) (by omega) (by simpa using hsle) (RCs.one hd2 hd1)
   have how:=pget_ownsA (a0:=.arr κ sz es) rfl hp
   have hbb:blk (β p)=some b':=by rw [h1]; rfl
   have hag:Agree S w (w.setRow b' (spl (0+(k * sz+off)) (a.eval x).cells.toList arr.toList).toArray):=fun j hS=>setRow_other w b' j _ fun h=>(hm.fre p.1 p.2 b' how hbb).1 (h ▸ hS)
   refine ⟨_,hrun,S,β,hm.psetG (a0:=.arr κ sz es) rfl hp rfl ⟨rfl,b',_,h1,?_,setRow_heap w b' _ _ κ (0,0) hb,?_⟩ (fun _ h=>h) (fun _ h=>.inl h) (fun j hj=>setRow_other w b' j _ fun h=>hj (by rw [h]; exact hbb)) (by simp) rfl rfl rfl⟩
   ·rw [List.size_toArray,spl_len hsle]
    simpa using h2
   ·exact REs.mono (fun _ h=>h) hag _ _ _ _ (REs.store hcs ho1 hd2 hd1 hle hsle)
  ·cases h
 ·cases h
end
end Go.Vm
namespace Go.Vm
section
variable {P:Program} {e:Env} {G:GEnv} {S:Nat→Prop} {β:Path→Value} {fr:Fr} {w:World} {a:Act}
def appSrc (P:Program) (t2 size:Nat) (fr:Fr) (v2:AV):Option (List (List Dat)) :=
 match P.underlying t2 with
 | some (.slice _)=>match slv fr v2 with
  | some (sz,es)=>if sz=size then some es else match es with
   | []=>some []
   | _=>none
  | none=>none
 | some .string=>match v2 with
  | .d (.str l)=>if size=1 then some (byteCells l) else none
  | _=>none
 | _=>none
theorem appSrc_ok (hm:Mem e G S β fr (valsOf e a) w) {t2 size:Nat} {v2:AV} {nes:List (List Dat)} (h:appSrc P t2 size fr v2=some nes) {x:Value} (hr:RFlat S w β (0,0) v2 x) :
  ∃ news,Src P w t2 size x nes.length news∧REs S w size nes (fun j=>news[j]?) 0:=by
 unfold appSrc at h
 split at h
 ·rename_i E hu
  split at h
  case h_2=>cases h
  rename_i sz es hs
  have hat:=slv_ok hm hs hr
  split at h
  ·rename_i he
   subst he
   simp only [Option.some.injEq] at h
   subst h
   exact src_sl hu hat
  ·split at h
   ·simp only [Option.some.injEq] at h
    subst h
    refine src_sl (sz:=size) hu ?_
    rcases hat with h | ⟨b,o,c,arr,E',fz,h1,h2,h3,_⟩
    ·exact .inl h
    ·exact .inr ⟨b,o,c,arr,E',fz,h1,h2,h3,by simp [REs]⟩
   ·cases h
 ·rename_i hu
  split at h
  ·rename_i l
   split at h
   ·rename_i hs
    subst hs
    simp only [Option.some.injEq] at h
    subst h
    have:x=strOf l:=hr
    subst this
    exact src_str hu
   ·cases h
  ·cases h
 ·cases h
def effAppend2 (P:Program) (t1 t2:TypeId) (dst:Nat) (hes:Option (List (List Dat))) (v1 v2:AV) (fr:Fr):Option (Fr×Prop) :=
 match P.underlying t1 with
 | some (.slice E) =>
  match P.info? E,zeroD P E with
  | some i,some _ =>
   match appSrc P t2 i.size fr v2 with
   | some nes =>
    if i.bytes≤32768∧E < 1099511627776 then
     match v1 with
     | .d (.v (.slice none 0 0))=>some (setA dst (.own E i.size (hes.getD nes)) fr,nes.length≤4294967296∧nes=hes.getD nes)
     | .vw p=>match pget fr p with
      | .own κ sz es=>if sz=i.size∧(κ=E∨κ=E+2199023255552) then some (setA dst (.own κ i.size (hes.getD (es++nes))) (pset fr p .junk),es.length+nes.length≤4294967296∧es++nes=hes.getD (es++nes)) else none
      | _=>none
     | _=>none
    else none
   | none=>none
  | _,_=>none
 | _=>none
theorem effAppend_ok (hm:Mem e G S β fr (valsOf e a) w) {t1 t2 ty dst:Nat} (ht:dst < a.tmps.size) {hes:Option (List (List Dat))} {v1 v2:AV} {fr':Fr} {obl:Prop}
  (h:effAppend2 P t1 t2 dst hes v1 v2 fr=some (fr',obl)) (ho:obl) {u x:Value} (h1:RFlat S w β (0,0) v1 u) (h2:RFlat S w β (0,0) v2 x) :
  ∃ v w',(Builtin.append_ #[t1,t2] ty #[u,x]).run P w=.ok v w'∧After e G fr' a dst v w':=by
 unfold effAppend2 at h
 split at h
 case h_2=>cases h
 rename_i E hu
 split at h
 case h_2=>cases h
 rename_i i zs hi hz
 obtain ⟨i',z,hi',hzz,hsz,_⟩:=zeroD_ok hz
 rw [hi] at hi'
 cases hi'
 split at h
 case h_2=>cases h
 rename_i nes hsrc
 split at h
 case isFalse=>cases h
 rename_i hbytes
 obtain ⟨hbytes,hE40⟩:=hbytes
 obtain ⟨news,hS,hREs⟩:=appSrc_ok hm hsrc h2
 have fits:∀ n:Nat,n≤4294967296→n * i.bytes≤140737488355328:=by
  intro n hn
  have:=Nat.mul_le_mul hn hbytes
  omega
 -- the result of own_append,put into slot dst,over the frame fr0 in which p's place is empty
 have finish:∀ (κ:TypeId),(κ=E∨κ=E+2199023255552)→∀ (fr0:Fr) (es:List (List Dat)),Mem e G S β fr0 (valsOf e a) w→OwnAt S w u κ i.size es→(∀ b,blk u=some b→¬ S b∧Free e S β fr0 dst b)→es.length+nes.length≤4294967296 →
   ∃ v w',(Builtin.append_ #[t1,t2] ty #[u,x]).run P w=.ok v w'∧After e G (setA dst (.own κ i.size (es++nes)) fr0) a dst v w':=by
  intro κ hκ0 fr0 es hm0 hown hfree hlen
  obtain ⟨v,w',hrun,hown',hoth,hsize,hos,htape,hout,hblk⟩:=own_append (ty:=ty) hE40 hκ0 hu hi hzz hsz hown (fun b hb=>(hfree b hb).1) (fun b hb=>(hm.stb b hb).1) hS hREs (by omega) (fits _ hlen)
  refine ⟨v,w',hrun,S,_,hm0.make2 dst _ v (fun _=>v) w' _ (put_old a dst v ht) (put_new a dst v ht) ((flat_slot rfl).2 ⟨by simp,hown'⟩) (fun l a h=>by cases h) ?_ ?_ ?_ hsize hos htape hout⟩
  ·intro j b _ hb
   rcases hblk b hb with h | h
   ·exact (hfree b h).2
   ·subst h
    exact hm0.free_new dst _ (Nat.le_refl _)
  ·intro i j b h1 h2 _ _
   cases i <;> cases j <;> simp [AV.ownsAt] at h1 h2 ⊢
  ·intro b hb
   by_cases hbu:blk u=some b
   ·exact .inr (hfree b hbu).2
   ·exact .inl (hoth b hb hbu)
 split at h
 ·simp only [Option.some.injEq,Prod.mk.injEq] at h
  obtain ⟨rfl,rfl⟩:=h
  rw [← ho.2]
  have huu:u=.slice none 0 0:=h1.1
  have:=finish E (.inl rfl) fr [] hm (.inl ⟨huu,rfl⟩) (fun b hb=>by rw [huu] at hb; simp [blk] at hb) (by simpa using ho.1)
  simpa using this
 ·rename_i p
  split at h
  case h_2=>cases h
  rename_i κ sz es hp
  split at h
  case isFalse=>cases h
  rename_i hs
  obtain ⟨rfl,hκ0⟩:=hs
  simp only [Option.some.injEq,Prod.mk.injEq] at h
  obtain ⟨rfl,rfl⟩:=h
  rw [← ho.2]
  have huu:u=β p:=h1
  have how:=pget_owns hp
  refine finish κ hκ0 (pset fr p .junk) es (hm.dropAt hp) (by rw [huu]; exact pget_own hm hp) (fun b hb=>?_) ho.1
  rw [huu] at hb
  exact ⟨(hm.fre p.1 p.2 b how hb).1,hm.free_dropped hp dst b hb⟩
 ·cases h
def effAppMake (P:Program) (t1 t2:TypeId) (dst:Nat) (hes:Option (List (List Dat))) (v1 v2:AV) (fr:Fr):Option (Fr×Prop) :=
 match P.underlying t1,P.underlying t2,v1,v2 with
 | some (.slice E),some (.int _),.d (.v (.slice none 0 0)),.d (.v (.int _ n)) =>
  match P.info? E,zeroD P E with
  | some i,some zs=>if (0 < i.size∧i.bytes≤32768)∧E < 1099511627776 then some (setA dst (.own E i.size (hes.getD (List.replicate n.toNat zs))) fr,(0 < n∧n≤4294967296)∧List.replicate n.toNat zs=hes.getD (List.replicate n.toNat zs)) else none
  | _,_=>none
 | _,_,_,_=>none
theorem effAppMake_ok (hm:Mem e G S β fr (valsOf e a) w) {t1 t2 ty dst:Nat} (ht:dst < a.tmps.size) {hes:Option (List (List Dat))} {v1 v2:AV} {fr':Fr} {obl:Prop}
  (h:effAppMake P t1 t2 dst hes v1 v2 fr=some (fr',obl)) (ho:obl) {u x:Value} (h1:RFlat S w β (0,0) v1 u) (h2:RFlat S w β (0,0) v2 x) :
  ∃ v w',(Builtin.append_ #[t1,t2] ty #[u,x]).run P w=.ok v w'∧After e G fr' a dst v w':=by
 unfold effAppMake at h
 split at h
 case h_2=>cases h
 rename_i E kn kq n hu hn
 split at h
 case h_2=>cases h
 rename_i i zs hi hz
 obtain ⟨i',z,hi',hzz,hsz,hlen,hone,hcs⟩:=zeroD_ok hz
 rw [hi] at hi'
 cases hi'
 split at h
 case isFalse=>cases h
 rename_i hc
 obtain ⟨hc,hE40⟩:=hc
 simp only [Option.some.injEq,Prod.mk.injEq] at h
 obtain ⟨rfl,rfl⟩:=h
 obtain ⟨⟨ho1,ho2⟩,ho3⟩:=ho
 have huu:u=.slice none 0 0:=h1.1
 have hxx:x=.int kq n:=h2.1
 subst huu hxx
 obtain ⟨k,rfl⟩:∃ k:Nat,n=k:=⟨n.toNat,by omega⟩
 simp only [Int.toNat_natCast] at ho3 ⊢
 rw [← ho3]
 have hbytes:k * i.bytes≤140737488355328:=by
  have:=Nat.mul_le_mul (show k≤4294967296 by omega) hc.2
  omega
 have hold:(Builtin.firstCells i.size 0 (.slice none 0 0)).run P w.drew=.ok ([]:List Value).toArray w.drew:=by simp [Builtin.firstCells]
 have hr:=Lib.run_append_grow_zeros w t1 t2 ty E i z kq kn hu hn hi hzz none 0 0 [] hold k (by omega) hc.1 (by omega) (by omega) (by omega) (growslice_fits (by omega) (by simpa using hbytes))
 have hge:0+k≤grownCap w (0+k) 0 E:=grownCap_ge w _ _ _
 refine ⟨_,_,hr,S,_,hm.make2 dst _ _ (fun _=>.slice (some ⟨w.heap.size,0,none⟩) (0+k) (grownCap w (0+k) 0 E)) _ _ (put_old a dst _ ht) (put_new a dst _ ht) ((flat_slot rfl).2 ⟨by simp,.inr ⟨w.heap.size,0,grownCap w (0+k) 0 E,_,E,(0,0),by simp,by simpa using hge,?_,?_,heap_alloc_new w.drew _,?_⟩⟩) (fun l a h=>by cases h) ?_ ?_ (fun b hb=>.inl (heap_alloc_old w.drew _ hb)) (by simp) rfl rfl rfl⟩
 ·simp only [Nat.zero_add] at hge
  simp only [Array.size_append,List.size_toArray,size_zeroCells,hsz,List.length_nil,← Nat.add_mul,Nat.zero_add]
  refine Nat.le_of_eq (congrArg (· * i.size) ?_)
  omega
 ·exact .inl rfl
 ·have:=REs_replicate (S:=S) (w:=w.drew.alloc (.cells (([]:List Value).toArray++Builtin.zeroCells z.cells k++Builtin.zeroCells z.cells (grownCap w (0+k) 0 E - (0+k))) E)) (hcs S _) hlen (by simp [hsz]) k (fun j=>z.cells[j % z.cells.size]!) (fun j hj=>by
   have hpos:0 < i.size:=hc.1
   have hlt:j % z.cells.size < z.cells.size:=Nat.mod_lt _ (by omega)
   rw [← hsz]
   simp [getElem!_pos,hlt]) k (Nat.le_refl _)
  refine ⟨KOk.new hE40,REs.congr _ 0 0 (fun j hj=>?_) this⟩
  have hj':j < k * i.size:=by simpa using hj
  simp only [Nat.zero_add]
  rw [Array.getElem?_append_left (by simp [size_zeroCells,hsz]; exact hj')]
  simp only [Builtin.zeroCells,hsz,List.getElem?_map]
  congr 1
  rw [List.getElem?_range hj',Array.getElem?_eq_getElem (by simpa using hj')]
  simp
 ·intro j b _ hb
  simp only [blk,Option.some.injEq] at hb
  subst hb
  exact hm.free_new dst _ (Nat.le_refl _)
 ·intro i j b h1 h2 _ _
  cases i <;> cases j <;> simp [AV.ownsAt] at h1 h2 ⊢
def effCut (P:Program) (t:TypeId) (dst:Nat) (hes:Option (List (List Dat))) (v hi:AV) (fr:Fr):Option (Fr×Prop) :=
 match P.underlying t,v,hi with
 | some (.slice E),.vw p,.d (.v (.int _ n)) =>
  match P.info? E,pget fr p with
  | some i,.own κ sz es=>if sz=i.size∧κ < 2199023255552 then some (setA dst (.own κ sz (hes.getD (es.take n.toNat))) (pset fr p .junk),(0≤n∧n≤(es.length:Int))∧es.take n.toNat=hes.getD (es.take n.toNat)) else none
  | _,_=>none
 | _,_,_=>none
theorem effCut_ok (hm:Mem e G S β fr (valsOf e a) w) {t:TypeId} {dst:Nat} (ht:dst < a.tmps.size) {hes:Option (List (List Dat))} {v hi:AV} {fr':Fr} {obl:Prop}
  (h:effCut P t dst hes v hi fr=some (fr',obl)) (ho:obl) {u x:Value} (h1:RFlat S w β (0,0) v u) (h2:RFlat S w β (0,0) hi x) :
  ∃ r,(Instr.sliceAt t u none (some x) none).run P w=.ok r w∧After e G fr' a dst r w:=by
 unfold effCut at h
 split at h
 case h_2=>cases h
 rename_i E p k n hu
 split at h
 case h_2=>cases h
 rename_i i κ sz es hi' hp
 split at h
 case isFalse=>cases h
 rename_i hsz
 obtain ⟨hsz,hκlt⟩:=hsz
 subst hsz
 simp only [Option.some.injEq,Prod.mk.injEq] at h
 obtain ⟨rfl,rfl⟩:=h
 obtain ⟨⟨ho1,ho2⟩,ho3⟩:=ho
 rw [← ho3]
 have huu:u=β p:=h1
 have how:=pget_owns hp
 have hel:P.elem t=E:=by simp [Program.elem,hu]
 have hrun:∀ (ad:Option Addr) (cap:Nat),es.length≤cap→(Instr.sliceAt t (.slice ad es.length cap) none (some x) none).run P w=.ok (.slice (if cap=0 then ad else ad.map (·.add (0 * i.size))) n.toNat cap) w:=by
  intro ad cap hcap
  have hb:=cutR_ok (P:=P) (S:=S) (w:=w) (β:=β) (isSlice:=true) (len:=es.length) (cap:=cap) (lo:=none) (hi:=some (.d (.v (.int k n)))) (c:=(0,n)) rfl (by exact ⟨Int.le_refl _,ho1,ho2⟩) hcap (ulo:=none) (uhi:=some x) (fun a h=>by cases h) (fun _=>rfl) (fun a h=>by cases h; exact ⟨x,rfl,h2⟩) (fun h=>by cases h)
  rw [run_sliceAt_slice w t _ none (some x) none (by rw [hel]; exact hu)]
  simp only [Instr.slice,Sem.run_bind,run_underlying hu,Result.andThen_ok,hb,sizeOf,typeInfo,run_program,hi',Sem.run_pure]
  simp
 have hown:=pget_own hm hp
 have finish:∀ (r:Value),OwnAt S w r κ i.size (es.take n.toNat)→(∀ b,blk r=some b→blk u=some b)→After e G (setA dst (.own κ i.size (es.take n.toNat)) (pset fr p .junk)) a dst r w:=by
  intro r hr hb
  refine ⟨S,_,(hm.dropAt hp).make2 dst _ r (fun _=>r) w _ (put_old a dst r ht) (put_new a dst r ht) ((flat_slot rfl).2 ⟨by simp,hr⟩) (fun l a h=>by cases h) ?_ ?_ (fun b _=>.inl rfl) (Nat.le_refl _) rfl rfl rfl⟩
  ·intro j b _ hbr
   have:=hb b hbr
   rw [huu] at this
   exact hm.free_dropped hp dst b this
  ·intro i j b h1 h2 _ _
   cases i <;> cases j <;> simp [AV.ownsAt] at h1 h2 ⊢
 rw [← huu] at hown
 rcases hown with ⟨rfl,rfl⟩ | ⟨b,off,c,arr,E',fz,rfl,h3,h4,h5,h6,hκ,h7⟩
 ·have hn:n=0:=by simp at ho2; omega
  subst hn
  exact ⟨_,by simpa using hrun none 0 (Nat.le_refl _),finish _ (.inl ⟨rfl,by simp⟩) (fun b h=>by simp [blk] at h)⟩
 ·have hr:=hrun (some ⟨b,off,none⟩) c h3
  have ha:(if c=0 then some (⟨b,off,none⟩:Addr) else (some (⟨b,off,none⟩:Addr)).map (·.add (0 * i.size)))=some ⟨b,off,none⟩:=by
   split
   ·rfl
   ·simp [Addr.add]
  rw [ha] at hr
  have hl:(es.take n.toNat).length=n.toNat:=by simp; omega
  exact ⟨_,hr,finish _ (.inr ⟨b,off,c,arr,E',fz,by rw [hl],by omega,h4,h5,h6,hκ.any hκlt,REs.take _ _ _ h7⟩) (fun b h=>h)⟩
def effMove (N:Nat) (assign:Bool) (dst s:Nat) (fr:Fr):Option Fr :=
 match fget fr s with
 | .own _ _ _=>if assign∧s≠dst∧s < N then some (setA dst ((fget fr s).purge (slotP dst)) ((s,.junk) :: fr)) else none
 | .box _=>if assign∧s≠dst∧s < N then some (setA dst ((fget fr s).purge (slotP dst)) ((s,.junk) :: fr)) else none
 | .tup _=>if s≠dst∧s < N then some (setA dst ((fget fr s).purge (slotP dst)) ((s,.junk) :: fr)) else none
 | _=>none
theorem effMove_ok {N:Nat} (hN:a.tmps.size=N) (hm:Mem e G S β fr (valsOf e a) w) {assign:Bool} {dst s:Nat} (ht:dst < a.tmps.size) {fr':Fr} (h:effMove N assign dst s fr=some fr'):After e G fr' a dst (a.eval (.tmp s)) w:=by
 have key:s≠dst→s < N→(fget fr s).noGd=true→After e G (setA dst ((fget fr s).purge (slotP dst)) ((s,.junk) :: fr)) a dst (a.eval (.tmp s)) w:=by
  intro h1 h2 h3
  have hs:s < a.tmps.size:=by rw [hN]; exact h2
  exact ⟨S,_,hm.move h1 h3 (a.eval (.tmp s)) (eval_tmp hs) _ (put_old a dst _ ht) (put_new a dst _ ht)⟩
 unfold effMove at h
 split at h
 ·rename_i hf
  split at h
  ·rename_i hc
   simp only [Option.some.injEq] at h
   subst h
   exact key hc.2.1 hc.2.2 (by rw [hf]; rfl)
  ·cases h
 ·rename_i hf
  split at h
  ·rename_i hc
   simp only [Option.some.injEq] at h
   subst h
   exact key hc.2.1 hc.2.2 (by rw [hf]; rfl)
  ·cases h
 ·rename_i hf
  split at h
  ·rename_i hc
   simp only [Option.some.injEq] at h
   subst h
   exact key hc.1 hc.2 (by rw [hf]; rfl)
  ·cases h
 ·cases h
def effExtract (N dst s j:Nat) (fr:Fr):Option Fr :=
 match fget fr s with
 | .tup vs=>match vs[j]? with
  | some (.own κ sz es)=>if s≠dst∧s < N then some (setA dst (.own κ sz es) ((s,.tup (vs.set j .junk)) :: fr)) else none
  | _=>none
 | _=>none
theorem effExtract_ok {N:Nat} (hN:a.tmps.size=N) (hm:Mem e G S β fr (valsOf e a) w) {dst s j:Nat} (ht:dst < a.tmps.size) {fr':Fr} (h:effExtract N dst s j fr=some fr') :
  ∃ u,(Instr.extract (a.eval (.tmp s)) j).run P w=.ok u w∧After e G fr' a dst u w:=by
 unfold effExtract at h
 split at h
 case h_2=>cases h
 rename_i vs hf
 split at h
 case h_2=>cases h
 rename_i sz es hj
 split at h
 case isFalse=>cases h
 rename_i hc
 simp only [Option.some.injEq] at h
 subst h
 have hs:s < a.tmps.size:=by rw [hN]; exact hc.2
 obtain ⟨u0,hr,hu0⟩:=hm.rel s
 have hev:=hu0 _ (eval_tmp hs)
 rw [hf] at hr
 obtain ⟨l,rfl,_,hp⟩:=hr
 obtain ⟨u,hu,_⟩:=All2.get hp j _ hj
 refine ⟨u,?_,S,_,hm.extract hc.1 hf hj l (by rw [eval_tmp hs,hev]) u hu _ (put_old a dst u ht) (put_new a dst u ht)⟩
 rw [hev]
 simp [Instr.extract,hu]
theorem tupR_ok {N:Nat} (hN:a.tmps.size=N) (hm:Mem e G S β fr (valsOf e a) w) {s j:Nat} (hs:s < N) {av:AV} (h:tupR j (fget fr s)=some av) :
  ∃ u,(Instr.extract (a.eval (.tmp s)) j).run P w=.ok u w∧RFlat S w β (0,0) av u∧av.isOwn=false:=by
 have hs':s < a.tmps.size:=by rw [hN]; exact hs
 unfold tupR at h
 split at h
 case h_2=>cases h
 rename_i vs hf
 obtain ⟨u0,hr,hu0⟩:=hm.rel s
 have hev:=hu0 _ (eval_tmp hs')
 rw [hf] at hr
 obtain ⟨l,rfl,_,hp⟩:=hr
 split at h
 ·rename_i x hx
  simp only [Option.some.injEq] at h
  subst h
  obtain ⟨u,hu,hru⟩:=All2.get hp j _ hx
  exact ⟨u,by rw [hev]; simp [Instr.extract,hu],hru,rfl⟩
 ·rename_i x hx
  simp only [Option.some.injEq] at h
  subst h
  obtain ⟨u,hu,hru⟩:=All2.get hp j _ hx
  exact ⟨u,by rw [hev]; simp [Instr.extract,hu],hru,rfl⟩
 ·cases h
def effBytes (P:Program) (src dst:TypeId) (t:Nat) (hes:Option (List (List Dat))) (v:AV) (fr:Fr):Option (Fr×Prop) :=
 match P.underlying src,P.underlying dst,v with
 | some .string,some (.slice E),.d (.str l)=>match P.underlying E with
  | some (.int .u8)=>if E < 1099511627776 then some (setA t (.own E 1 (hes.getD (byteCells l))) fr,byteCells l=hes.getD (byteCells l)) else none
  | _=>none
 | _,_,_=>none
theorem effBytes_ok (hm:Mem e G S β fr (valsOf e a) w) {src dst:TypeId} {t:Nat} (ht:t < a.tmps.size) {hes:Option (List (List Dat))} {v:AV} {fr':Fr} {obl:Prop}
  (h:effBytes P src dst t hes v fr=some (fr',obl)) (ho:obl) {u:Value} (hr:RFlat S w β (0,0) v u) :
  ∃ r w',(convert src dst u).run P w=.ok r w'∧After e G fr' a t r w':=by
 unfold effBytes at h
 split at h
 case h_2=>cases h
 rename_i E l hs hd
 split at h
 case h_2=>cases h
 rename_i hE
 split at h
 case isFalse=>cases h
 rename_i hlK
 simp only [Option.some.injEq,Prod.mk.injEq] at h
 obtain ⟨rfl,rfl⟩:=h
 rw [← ho]
 have hu:u=strOf l:=hr
 subst hu
 have hrun:=run_bytes_of_string (P:=P) w src dst E ⟨l.toArray⟩ hs hd hE
 have hsz:(⟨l.toArray⟩:ByteArray).size=l.length:=by simp [ByteArray.size]
 rw [hsz] at hrun
 have hge:=grownCap_ge w l.length 0 E
 have hrow:(bytesRow ⟨l.toArray⟩ (grownCap w l.length 0 E)).size=grownCap w l.length 0 E:=by
  simp [bytesRow,hsz]
  omega
 refine ⟨_,_,hrun,S,_,hm.make2 t _ _ (fun _=>.slice (some ⟨w.heap.size,0,none⟩) l.length (grownCap w l.length 0 E)) _ _ (put_old a t _ ht) (put_new a t _ ht) ((flat_slot rfl).2 ⟨by simp,.inr ⟨w.heap.size,0,grownCap w l.length 0 E,_,E,_,by simp [byteCells],by simpa [byteCells] using hge,?_,?_,heap_alloc_new w.drew _,⟨.inl rfl,fun h=>absurd h (Nat.not_le.2 hlK),fun h=>absurd (Nat.le_trans (by decide) h) (Nat.not_le.2 hlK)⟩,?_⟩⟩) (fun l a h=>by cases h) ?_ ?_ (fun b hb=>.inl (heap_alloc_old w.drew _ hb)) (by simp) rfl rfl rfl⟩
 ·rw [hrow]; omega
 ·exact .inr (Nat.le_refl _)
 ·refine REs.of_get _ _ fun j x hj=>?_
  simp only [byteCells,List.getElem?_map,Option.map_eq_some_iff] at hj
  obtain ⟨c,hc,rfl⟩:=hj
  refine ⟨rfl,?_⟩
  simp only [RCs,RD,Nat.zero_add,Nat.mul_one,and_true]
  have hjl:j < l.length:=(List.getElem?_eq_some_iff.1 hc).1
  refine ⟨.int .u8 c.toNat,?_,rfl,rfl⟩
  simp only [bytesRow]
  rw [Array.getElem?_append_left (by simpa using hjl)]
  simp [hc]
 ·intro j b _ hb
  simp only [blk,Option.some.injEq] at hb
  subst hb
  exact hm.free_new t _ (Nat.le_refl _)
 ·intro i j b h1 h2 _ _
  cases i <;> cases j <;> simp [AV.ownsAt] at h1 h2 ⊢
def effMark (P:Program) (N:Nat) (src dst:TypeId) (t s:Nat) (fr:Fr):Option (Fr×Prop) :=
 match P.underlying src,fget fr s with
 | some (.slice E),.own κ sz es=>match P.underlying E with
  | some (.int .u8)=>if (src=dst∧s≠t∧s < N)∧κ < 1099511627776 then some (setA t (.own κ sz es) ((s,.junk) :: fr),0 < es.length) else none
  | _=>none
 | _,_=>none
theorem effMark_ok {N:Nat} (hN:a.tmps.size=N) (hm:Mem e G S β fr (valsOf e a) w) {src dst:TypeId} {t s:Nat} (ht:t < a.tmps.size) {fr':Fr} {obl:Prop}
  (h:effMark P N src dst t s fr=some (fr',obl)) (ho:obl):∃ r w',(convert src dst (a.eval (.tmp s))).run P w=.ok r w'∧After e G fr' a t r w':=by
 unfold effMark at h
 split at h
 case h_2=>cases h
 rename_i E κ sz es hs hf
 split at h
 case h_2=>cases h
 rename_i hE
 split at h
 case isFalse=>cases h
 rename_i hc
 simp only [Option.some.injEq,Prod.mk.injEq] at h
 obtain ⟨rfl,rfl⟩:=h
 obtain ⟨⟨rfl,hst,hsN⟩,hlK⟩:=hc
 have hsl:s < a.tmps.size:=by rw [hN]; exact hsN
 have hp:pget fr (s,0)=.own κ sz es:=hf
 have hown:=pget_own hm hp
 have hval:a.eval (.tmp s)=β (s,0):=by
  obtain ⟨u,hr,hu⟩:=hm.rel s
  rw [hf] at hr
  exact (hu _ (eval_tmp hsl)).trans hr.1
 rcases hown with ⟨_,rfl⟩ | ⟨b,off,c,arr,E',fz,h1,h2,h3,hfr,hb,hκ,hcs⟩
 ·simp at ho
 have hsh:w.shape? b=some (E',arr.size):=by simp [World.shape?,hb]
 have hrun:(convert src src (β (s,0))).run P w=.ok (β (s,0)) (w.freeze ⟨b,arr.size,none⟩ 1):=by
  rw [h1]
  simp [convert,run_underlying hs,run_underlying hE,markStringish,hsh]
 have hbl:b < w.heap.size:=heap_lt hb
 have hnew:∃ fz',FzOk fz' arr.size∧(w.freeze ⟨b,arr.size,none⟩ 1).heap[b]? = some (.cells arr E' fz'):=by
  obtain ⟨lo,hi⟩:=fz
  refine ⟨if lo == hi then (arr.size,arr.size+1) else (min lo arr.size,max hi (arr.size+1)),?_,?_⟩
  ·split
   ·exact .inr (Nat.le_refl _)
   ·rename_i hne
    rcases hfr with h | h
    ·exact absurd h (by simpa using hne)
    ·exact .inr (by simp only at h ⊢; omega)
  ·simp only [World.freeze,Nat.one_ne_zero,if_false]
   rw [Array.getElem?_modify,if_pos rfl,hb]
   rfl
 obtain ⟨fz',hfz',hb'⟩:=hnew
 have hother:∀ k,k≠b→(w.freeze ⟨b,arr.size,none⟩ 1).heap[k]? = w.heap[k]? := by
  intro k hk
  simp only [World.freeze,Nat.one_ne_zero,if_false]
  rw [Array.getElem?_modify,if_neg (Ne.symm hk)]
 have hbb:blk (β (s,0))=some b:=by rw [h1]; rfl
 have how:=pget_owns hp
 have hag:Agree S w (w.freeze ⟨b,arr.size,none⟩ 1):=fun k hS=>hother k fun h=>(hm.fre s 0 b how hbb).1 (h ▸ hS)
 have hm2:=hm.pset (a':=.own κ sz es) (w':=w.freeze ⟨b,arr.size,none⟩ 1) hp rfl ⟨rfl,.inr ⟨b,off,c,arr,E',fz',h1,h2,h3,hfz',hb',⟨hκ.1,fun h=>absurd h (Nat.not_le.2 hlK),hκ.2.2⟩,REs.mono (fun _ h=>h) hag _ _ _ _ hcs⟩⟩ (fun _ h=>h) (fun _ h=>.inl h) (fun k hk=>hother k fun h=>hk (by rw [h]; exact hbb)) (by simp [World.freeze]) rfl rfl rfl
 have hfs:fget (pset fr (s,0) (.own κ sz es)) s=.own κ sz es:=by simp [pset,fget_cons_self]
 have hm3:=hm2.move (t:=t) hst (by rw [hfs]; rfl) (a.eval (.tmp s)) (eval_tmp hsl) _ (put_old a t _ ht) (put_new a t _ ht)
 rw [hval]
 refine ⟨_,_,hrun,S,_,(hval ▸ hm3).congr0 fun x=>?_⟩
 by_cases hx:x=t
 ·subst hx
  rw [fget_setA_self,fget_setA_self,hfs]
  rfl
 ·rw [fget_setA_ne _ _ hx,fget_setA_ne _ _ hx]
  congr 1
  by_cases hxs:x=s
  ·subst hxs
   rw [fget_cons_self,fget_cons_self]
  ·simp only [pset]
   rw [fget_cons_ne _ _ (Ne.symm hxs),fget_cons_ne _ _ (Ne.symm hxs),fget_cons_ne _ _ (Ne.symm hxs)]
end
end Go.Vm
namespace Go.Vm
section
variable {P:Program} {e:Env} {G:GEnv} {S:Nat→Prop} {β:Path→Value} {fr:Fr} {w:World} {a:Act}
def effCopy (P:Program) (t1 dst:Nat) (hes:Option (List (List Dat))) (v1 v2:AV) (fr:Fr):Option (Fr×Prop) :=
 match v1,v2,P.underlying t1 with
 | .sv p sz lo len,.d (.sl sz2 ds),some (.slice E)=>match pget fr p,P.info? E with
  | .own κ sz3 es,some i=>if sz=1∧sz2=1∧sz3=1∧i.size=1 then
    some (setA dst (.d (.v (.int .i64 ((min ds.length len:Nat):Int)))) (pset fr p (.own κ 1 (hes.getD (spl lo (ds.take len) es)))),(0 < ds.length∧lo+len≤es.length)∧spl lo (ds.take len) es=hes.getD (spl lo (ds.take len) es)) else none
  | _,_=>none
 | _,_,_=>none
theorem run_copy_fz (w:World) (dT sT ty elem:TypeId) (g o dLen dCap:Nat) (ad:Addr) (sLen sCap:Nat) (cur:Array Value) (t:TypeId) (fz:Nat×Nat) (cs:List Value)
  (hu:P.underlying dT=some (.slice elem)) {i:TypeInfo} (hi:P.info? elem=some i) (hs:i.size=1)
  (hg:w.heap[g]? = some (.cells cur t fz)) (hfz:∀ k,k < cur.size→¬ (fz.1≤k∧k < fz.2)) (hn:cs.length=Nat.min sLen dLen)
  (hsrc:∀ j v,cs[j]? = some v→w.cell? (ad.add j)=some v) (hfit:o+cs.length≤cur.size) (h1:∀ v∈cs,v.oneCell'=true) :
  (Builtin.copy_ #[dT,sT] ty #[.slice (some ⟨g,o,none⟩) dLen dCap,.slice (some ad) sLen sCap]).run P w =
   .ok (goInt cs.length) (w.setRow g (cur.toList.take o++cs++cur.toList.drop (o+cs.length)).toArray):=by
 have hl:=run_loadCells_list (P:=P) w ad cs hsrc
 have hst:=run_storeCells_fz (P:=P) g o t fz cs 0 cur w hg hfz (by simpa using hfit) h1
 simp [Builtin.copy_,run_underlying hu,Builtin.lenOf,Builtin.firstCells,sizeOf,typeInfo,hi,hs,← hn,hl,hst]
theorem effCopy_ok (hm:Mem e G S β fr (valsOf e a) w) {t1 t2 ty dst:Nat} (ht:dst < a.tmps.size) {hes:Option (List (List Dat))} {v1 v2:AV} {fr':Fr} {obl:Prop}
  (h:effCopy P t1 dst hes v1 v2 fr=some (fr',obl)) (ho:obl) {u x:Value} (h1:RFlat S w β (0,0) v1 u) (h2:RFlat S w β (0,0) v2 x) :
  ∃ v w',(Builtin.copy_ #[t1,t2] ty #[u,x]).run P w=.ok v w'∧After e G fr' a dst v w':=by
 unfold effCopy at h
 split at h
 case h_2=>cases h
 rename_i p sz lo len sz2 ds E hu
 split at h
 case h_2=>cases h
 rename_i κ sz3 es i hp hi
 split at h
 case isFalse=>cases h
 rename_i hc
 obtain ⟨rfl,rfl,rfl,his⟩:=hc
 simp only [Option.some.injEq,Prod.mk.injEq] at h
 obtain ⟨rfl,rfl⟩:=h
 obtain ⟨⟨ho1,ho2⟩,ho3⟩:=ho
 rw [← ho3]
 obtain ⟨b,o,n,c,c',hβ,rfl,hlc⟩:=h1
 have hx:RD S w (.sl 1 ds) x:=h2
 simp only [RD] at hx
 rcases hx with ⟨_,rfl⟩ | ⟨b2,o2,c2,arr2,E2,fz2,rfl,hlc2,hS2,hb2,hr2⟩
 ·simp at ho1
 rcases pget_own hm hp with ⟨_,rfl⟩ | ⟨b',o',c0,arr,E',fz,g1,g2,g3,hfr,hb,hκ,hcs⟩
 ·have:lo+len=0:=by simpa using ho2
  rw [hβ] at *
  simp_all
 rw [g1] at hβ
 simp only [Value.slice.injEq,Option.some.injEq,Addr.mk.injEq] at hβ
 obtain ⟨⟨rfl,rfl,_⟩,rfl,rfl⟩:=hβ
 -- the cells that go over
 obtain ⟨k,hk⟩:∃ k,k=min ds.length len:=⟨_,rfl⟩
 have hsrc0:∀ j,j < ds.length→∃ v,arr2[o2+j]? = some v∧∃ d,ds[j]? = some [d]∧RD S w d v:=by
  intro j hj
  have hd:ds[j]? = some ds[j]:=List.getElem?_eq_getElem hj
  obtain ⟨hl,hr⟩:=REs.get ds o2 j _ hr2 hd
  match hdj:ds[j],hl with
  | [d],_ =>
   rw [hdj] at hr
   simp only [RCs,Nat.mul_one,and_true] at hr
   obtain ⟨v,hv,hrd⟩:=hr
   exact ⟨v,hv,d,by rw [hd,hdj],hrd⟩
 let cs:List Value:=(arr2.toList.drop o2).take k
 have hcl:cs.length=k:=by
  obtain ⟨v,hv,_⟩:=hsrc0 (ds.length - 1) (by omega)
  have:=(Array.getElem?_eq_some_iff.1 hv).1
  simp only [cs,List.length_take,List.length_drop,Array.length_toList]
  omega
 have hcg:∀ j,j < k→cs[j]? = arr2[o2+j]? := by
  intro j hj
  simp only [cs,List.getElem?_take,List.getElem?_drop,Array.getElem?_toList]
  rw [if_pos hj]
 have hsz:arr.toList.length=arr.size:=Array.length_toList
 have hfit:o'+lo * 1+cs.length≤arr.size:=by
  have:es.length * 1≤c0 * 1:=Nat.mul_le_mul_right 1 g2
  omega
 have hone:∀ v∈cs,v.oneCell'=true:=by
  intro v hv
  obtain ⟨j,hj⟩:=List.getElem?_of_mem hv
  have hjk:j < k:=by rw [← hcl]; exact (List.getElem?_eq_some_iff.1 hj).1
  obtain ⟨v',hv',d,_,hrd⟩:=hsrc0 j (by omega)
  rw [hcg j hjk,hv'] at hj
  cases hj
  exact RD_one d v hrd
 have hrun:=run_copy_fz (P:=P) w t1 t2 ty E b' (o'+lo * 1) len c' ⟨b2,o2,none⟩ ds.length c2 arr E' fz cs hu hi his hb hfr.out (by rw [hcl,hk]) (fun j v hj=>by
  have hjk:j < k:=by rw [← hcl]; exact (List.getElem?_eq_some_iff.1 hj).1
  rw [hcg j hjk] at hj
  have e1:(⟨b2,o2,none⟩:Addr).add j=⟨b2,o2+j,none⟩:=by
   unfold Addr.add
   split
   ·rename_i h0; rw [h0]; rfl
   ·rfl
  rw [e1]
  simp only [World.cell?,hb2]
  exact hj) hfit hone
 refine ⟨_,_,hrun,S,β,?_⟩
 have how:=pget_owns hp
 have hbb:blk (β p)=some b':=by rw [g1]; rfl
 have hrow:(arr.toList.take (o'+lo * 1)++cs++arr.toList.drop (o'+lo * 1+cs.length))=spl (o'+lo * 1) cs arr.toList:=rfl
 rw [hrow]
 have hsle:o'+lo * 1+cs.length≤arr.toList.length:=by omega
 have hag:Agree S w (w.setRow b' (spl (o'+lo * 1) cs arr.toList).toArray):=fun j hS=>setRow_other w b' j _ fun h=>(hm.fre p.1 p.2 b' how hbb).1 (h ▸ hS)
 have htl:(ds.take len).length=k:=by rw [List.length_take,hk]; exact Nat.min_comm _ _
 have hsle2:lo+(ds.take len).length≤es.length:=by rw [htl]; omega
 have hm':=hm.pset hp (a':=.own κ 1 (spl lo (ds.take len) es)) rfl ⟨rfl,.inr ⟨b',o',c0,_,E',fz,by rw [g1,spl_len hsle2],by rw [spl_len hsle2]; exact g2,by rw [List.size_toArray,spl_len hsle]; simpa using g3,by rw [List.size_toArray,spl_len hsle]; simpa using hfr,setRow_heap w b' _ _ E' fz hb,hκ.len (spl_len hsle2),by
  refine REs.mono (fun _ h=>h) hag _ _ _ _ (REs.of_get _ _ fun j x hj=>?_)
  rw [spl_get hsle2,htl] at hj
  split at hj
  ·rename_i hin
   rw [List.getElem?_take] at hj
   split at hj
   case isFalse=>cases hj
   obtain ⟨v,hv,d,hd,hrd⟩:=hsrc0 (j - lo) (by omega)
   rw [hd] at hj
   cases hj
   refine ⟨rfl,⟨v,?_,hrd⟩,trivial⟩
   simp only
   rw [List.getElem?_toArray,spl_get hsle,if_pos (by omega),← hv,← hcg (j - lo) (by omega)]
   congr 1
   omega
  ·rename_i hin
   obtain ⟨h5,h6⟩:=REs.get es o' j x hcs hj
   refine ⟨h5,RCs.congr _ _ _ (fun m hm'=>?_) h6⟩
   rw [List.getElem?_toArray,spl_get hsle,if_neg (by omega)]
   simp⟩⟩ (fun _ h=>h) (fun _ h=>.inl h) (fun j hj=>setRow_other w b' j _ fun h=>hj (by rw [h]; exact hbb)) (by simp) rfl rfl rfl
 refine hm'.setPlain dst _ (goInt cs.length) _ (put_old a dst _ ht) (put_new a dst _ ht) ⟨by rw [hcl,hk]; rfl,rfl⟩ (fun j=>by cases j <;> simp [AV.ownsAt,AV.isOwn]) (fun _ _ h=>by cases h)
end
end Go.Vm
namespace Go.Vm
def mpGet:List (Int×Int)→Int→Option Int
  | [],_=>none
  | (a,b) :: r,k=>bif k == a then some b else mpGet r k
def mpSet:List (Int×Int)→Int→Int→List (Int×Int)
  | [],k,v=>[(k,v)]
  | (a,b) :: r,k,v=>bif k == a then (k,v) :: r else (a,b) :: mpSet r k v
theorem findNow_mp {kn kk vk:IntKind} (k v:Int):∀ (es:List (Int×Int)) (l:List MapEntry) (i:Nat),l.map (fun m=>(m.key,m.val))=es.map (fun q=>(Value.int kk q.1,Value.int vk q.2)) →
    (mpGet es k=none∧Instr.findNow (.int kn) (.int kk k) l i=some none∧mpSet es k v=es++[(k,v)]) ∨
    ∃ j x,mpGet es k=some x∧Instr.findNow (.int kn) (.int kk k) l i=some (some (i+j,.int vk x))∧es[j]? = some (k,x)∧mpSet es k v=es.set j (k,v)
  | [],l,i,h=>by
    cases l with
    | cons _ _=>simp at h
    | nil=>exact .inl ⟨rfl,rfl,rfl⟩
  | (a,b) :: es,l,i,h=>by
    cases l with
    | nil=>simp at h
    | cons m l =>
      simp only [List.map_cons,List.cons.injEq,Prod.mk.injEq] at h
      obtain ⟨⟨hk,hv⟩,hr⟩:=h
      by_cases hka:k=a
      · subst hka
        refine .inr ⟨0,b,by simp [mpGet],?_,rfl,by simp [mpSet]⟩
        simp [Instr.findNow,Instr.sameNow,hk,hv]
      · have hne:(k == a)=false:=by simpa using hka
        have hs:Instr.sameNow (.int kn) (.int kk k) m.key=some false:=by simp [Instr.sameNow,hk,hne]
        rcases findNow_mp (kn:=kn) k v es l (i+1) hr with ⟨h1,h2,h3⟩ | ⟨j,x,h1,h2,h3,h4⟩
        · exact .inl ⟨by simp [mpGet,hne,h1],by simp [Instr.findNow,hs,h2],by simp [mpSet,hne,h3]⟩
        · refine .inr ⟨j+1,x,by simp [mpGet,hne,h1],?_,by simpa using h3,by simp [mpSet,hne,h4]⟩
          simp only [Instr.findNow,hs,h2,show i+1+j=i+(j+1) by omega]
section
variable {P:Program} {e:Env} {G:GEnv} {S:Nat→Prop} {β:Path→Value} {fr:Fr} {w:World} {a:Act}
def effMakeMap (P:Program) (t:Nat) (T:TypeId) (fr:Fr):Option Fr :=
 match P.underlying T with
 | some (.map K E)=>match P.underlying K,P.underlying E with
  | some (.int kk),some (.int vk)=>some (setA t (.mp kk vk []) fr)
  | _,_=>none
 | _=>none
theorem effMakeMap_ok (hm:Mem e G S β fr (valsOf e a) w) {t:Nat} (ht:t < a.tmps.size) {T:TypeId} {fr':Fr} (h:effMakeMap P t T fr=some fr') :
  ∃ u w',(Instr.makeMap T none).run P w=.ok u w'∧After e G fr' a t u w':=by
 unfold effMakeMap at h
 split at h
 case h_2=>cases h
 split at h
 case h_2=>cases h
 simp only [Option.some.injEq] at h
 subst h
 refine ⟨.map (some w.heap.size),w.alloc (.map #[] 0),rfl,S,_,hm.make2 t _ _ (fun _=>.map (some w.heap.size)) _ _ (put_old a t _ ht) (put_new a t _ ht) ((flat_slot rfl).2 ⟨by simp,w.heap.size,#[],0,rfl,heap_alloc_new w _,rfl⟩) (fun l a h=>by cases h) ?_ ?_ (fun b hb=>.inl (heap_alloc_old w _ hb)) (by simp) rfl rfl rfl⟩
 ·intro j b _ hb
  simp only [blk,Option.some.injEq] at hb
  subst hb
  exact hm.free_new t _ (Nat.le_refl _)
 ·intro i j b h1 h2 _ _
  cases i <;> cases j <;> simp [AV.ownsAt] at h1 h2 ⊢
def effInsert (P:Program) (T:TypeId) (m k v:AV) (fr:Fr):Option Fr :=
 match m,k,v,P.underlying T with
 | .vw p,.d (.v (.int k i)),.d (.v (.int v x)),some (.map K _)=>match pget fr p,P.underlying K with
  | .mp kk vk es,some (.int _)=>if k=kk∧v=vk then some (pset fr p (.mp kk vk (mpSet es i x))) else none
  | _,_=>none
 | _,_,_,_=>none
theorem effInsert_ok (hm:Mem e G S β fr (valsOf e a) w) {T:TypeId} {m k v:AV} {um uk uv:Value} (hum:RFlat S w β (0,0) m um) (huk:RFlat S w β (0,0) k uk) (huv:RFlat S w β (0,0) v uv) {fr':Fr} (h:effInsert P T m k v fr=some fr') :
  ∃ w',(Instr.mapUpdate T um uk uv).run P w=.ok () w'∧AfterS e G fr' a w':=by
 unfold effInsert at h
 split at h
 case h_2=>cases h
 rename_i p kn i vn x K E hT
 split at h
 case h_2=>cases h
 rename_i kk vk es n hp hK
 split at h
 case isFalse=>cases h
 rename_i hc
 obtain ⟨rfl,rfl⟩:=hc
 simp only [Option.some.injEq] at h
 subst h
 have e1:um=β p:=hum
 have e2:uk=.int kn i:=huk.1
 have e3:uv=.int vn x:=huv.1
 subst e2 e3
 obtain ⟨b,arr,clk,hb1,hb2,hb3⟩:=pget_mp hm hp
 rw [e1,hb1]
 have hchk:∀ em,(Instr.checkKey em 10000 K (.int kn i)).run P w=.ok () w:=by
  intro em
  unfold Instr.checkKey
  simp only [Sem.run_bind,run_underlying hK,Result.andThen]
  rfl
 have fin:∀ (arr':Array MapEntry) (clk':Nat),arr'.toList.map (fun m=>(m.key,m.val))=(mpSet es i x).map (fun q=>(Value.int kn q.1,Value.int vn q.2))→AfterS e G (pset fr p (.mp kn vn (mpSet es i x))) a { w with heap:=w.heap.setIfInBounds b (.map arr' clk') }:=by
  intro arr' clk' ha
  refine ⟨S,β,hm.psetG (a0:=.mp kn vn es) rfl hp rfl ⟨rfl,b,arr',clk',hb1,(MapKept.heap_set hb2).1,ha⟩ (fun _ h=>h) (fun _ h=>.inl h) (fun j hj=>(MapKept.heap_set hb2).2 j fun h=>hj (by rw [hb1,h]; rfl)) (by simp) rfl rfl rfl⟩
 rcases findNow_mp (kn:=n) i x es arr.toList 0 hb3 with ⟨h1,h2,h3⟩ | ⟨j,y,h1,h2,h3,h4⟩
 ·refine ⟨_,?_,fin (arr.push { key:=.int kn i,val:=.int vn x,born:=clk }) (clk+1) ?_⟩
  ·simp [Instr.mapUpdate,run_underlying hT,MapKept.run_getObj_map hb2,hchk,MapKept.run_findKey hK h2,MapKept.run_setObj_map _ hb2,Result.andThen]
  ·rw [h3]
   simp [hb3]
 ·have hj:j < arr.size:=by
   have:=congrArg List.length hb3
   simp only [List.length_map,Array.length_toList] at this
   have:=(List.getElem?_eq_some_iff.1 h3).1
   omega
  have hkey:(arr[j]).key=.int kn i:=by
   have:=congrArg (fun l:List (Value×Value)=>l[j]?) hb3
   simp only [List.getElem?_map,h3,Option.map_some,Array.getElem?_toList,Array.getElem?_eq_getElem hj,Option.some.injEq,Prod.mk.injEq] at this
   exact this.1
  have hstay:(Instr.keyThatStays (((arr[j]?).map (·.key)).getD (.int kn i)) (.int kn i)).run P w=.ok (.int kn i) w:=by
   simp [Array.getElem?_eq_getElem hj,hkey,Instr.keyThatStays,Instr.sameBits]
  refine ⟨_,?_,fin (arr.modify j fun m=>{ m with key:=.int kn i,val:=.int vn x }) clk ?_⟩
  ·simp only [Instr.mapUpdate,Sem.run_bind,run_underlying hT,Result.andThen,MapKept.run_getObj_map hb2,hchk,MapKept.run_findKey hK h2,Nat.zero_add,hstay,MapKept.run_setObj_map _ hb2]
  ·rw [h4]
   apply List.ext_getElem?
   intro q
   have hq:=congrArg (fun l:List (Value×Value)=>l[q]?) hb3
   simp only [List.getElem?_map,Array.getElem?_toList] at hq ⊢
   rw [Array.getElem?_modify,List.getElem?_set]
   by_cases hjq:j=q
   ·subst hjq
    have hl:=(List.getElem?_eq_some_iff.1 h3).1
    simp [hl,Array.getElem?_eq_getElem hj]
   ·rw [if_neg hjq,if_neg hjq]
    exact hq
def lookAt (P:Program) (t:TypeId) (fr:Fr) (x k:AV):Option (IntKind×Option Int) :=
 match x,k,P.underlying t with
 | .vw p,.d (.v (.int k i)),some (.map K E)=>match pget fr p,P.underlying K,(P.info? E).bind (·.zero) with
  | .mp kk vk es,some (.int _),some (.int vz z)=>if k=kk∧vz=vk∧z=0 then some (vk,mpGet es i) else none
  | _,_,_=>none
 | _,_,_=>none
theorem lookAt_ok {vals:Nat→Option Value} (hm:Mem e G S β fr vals w) {t:TypeId} {x k:AV} {ux uk:Value} (hux:RFlat S w β (0,0) x ux) (huk:RFlat S w β (0,0) k uk) {vk:IntKind} {r:Option Int} (h:lookAt P t fr x k=some (vk,r)) (ok:Bool) :
  (Instr.lookup t ux uk ok).run P w=.ok (if ok then .tuple #[.int vk (r.getD 0),.bool r.isSome] else .int vk (r.getD 0)) w:=by
 unfold lookAt at h
 split at h
 case h_2=>cases h
 rename_i p kn i K E hT
 split at h
 case h_2=>cases h
 rename_i kk vk' es n vz z hp hK hz
 split at h
 case isFalse=>cases h
 rename_i hc
 obtain ⟨rfl,rfl,rfl⟩:=hc
 simp only [Option.some.injEq,Prod.mk.injEq] at h
 obtain ⟨rfl,rfl⟩:=h
 have e1:ux=β p:=hux
 have e2:uk=.int kn i:=huk.1
 subst e2
 obtain ⟨b,arr,clk,hb1,hb2,hb3⟩:=pget_mp hm hp
 rw [e1,hb1]
 have hchk:∀ em,(Instr.checkKey em 10000 K (.int kn i)).run P w=.ok () w:=by
  intro em
  unfold Instr.checkKey
  simp only [Sem.run_bind,run_underlying hK,Result.andThen]
  rfl
 obtain ⟨ie,hie,hzz⟩:∃ ie,P.info? E=some ie∧ie.zero=some (.int vz 0):=by
  cases hi:P.info? E with
  | none=>simp [hi] at hz
  | some ie=>exact ⟨ie,rfl,by simpa [hi] using hz⟩
 rcases findNow_mp (kn:=n) i 0 es arr.toList 0 hb3 with ⟨h1,h2,h3⟩ | ⟨j,y,h1,h2,h3,h4⟩
 ·rw [h1]
  simp only [Instr.lookup,Sem.run_bind,run_underlying hT,Result.andThen,MapKept.run_getObj_map hb2,Sem.run_pure,hchk,MapKept.run_findKey hK h2,zeroValue,typeInfo,run_program,hie,hzz]
  cases ok <;> rfl
 ·rw [h1]
  simp only [Instr.lookup,Sem.run_bind,run_underlying hT,Result.andThen,MapKept.run_getObj_map hb2,Sem.run_pure,hchk,MapKept.run_findKey hK h2]
  cases ok <;> rfl
def effLookup (P:Program) (t:Nat) (T:TypeId) (x k:AV) (fr:Fr):Option Fr :=
 (lookAt P T fr x k).map fun q=>setA t (.tup [.d (.v (.int q.1 (q.2.getD 0))),.d (.v (.bool q.2.isSome))]) fr
theorem effLookup_ok (hm:Mem e G S β fr (valsOf e a) w) {t:Nat} (ht:t < a.tmps.size) {T:TypeId} {x k:AV} {ux uk:Value} (hux:RFlat S w β (0,0) x ux) (huk:RFlat S w β (0,0) k uk) {fr':Fr} (h:effLookup P t T x k fr=some fr') :
  ∃ u,(Instr.lookup T ux uk true).run P w=.ok u w∧After e G fr' a t u w:=by
 unfold effLookup at h
 simp only [Option.map_eq_some_iff] at h
 obtain ⟨⟨vk,r⟩,hl,rfl⟩:=h
 refine ⟨_,lookAt_ok hm hux huk hl true,S,_,hm.make2 t _ _ (fun _=>.bool false) _ _ (put_old a t _ ht) (put_new a t _ ht) ?_ (fun l a h=>by cases h) ?_ ?_ (fun b hb=>.inl rfl) (Nat.le_refl _) rfl rfl rfl⟩
 ·simp only [RSlot,if_true]
  refine ⟨_,rfl,rfl,?_⟩
  simp [RParts,All2,RFlat,RD,Value.oneCell']
 ·intro j b hj _
  rcases j with _ | _ | _ | j <;> simp [AV.ownsAt,AV.isOwn] at hj
 ·intro i j b h1 _ _ _
  rcases i with _ | _ | _ | i <;> simp [AV.ownsAt,AV.isOwn] at h1
end
end Go.Vm
namespace Go.Vm
def virtBase:Nat:=1000000
def resSlot:Nat:=999999
def argFr:Nat→List AV→Fr
 | _,[]=>[]
 | i,a :: r=>(i,a) :: argFr (i+1) r
def boxFr:Nat→List AV→Fr
 | _,[]=>[]
 | i,a :: r=>(i,a) :: boxFr (i+1) r
theorem fget_argFr (rest:Fr):∀ (as:List AV) (i x:Nat),fget (argFr i as++rest) x=if i≤x∧x < i+as.length then as.getD (x - i) .junk else fget rest x
 | [],i,x=>by
  simp only [argFr,List.nil_append,List.length_nil,Nat.add_zero]
  rw [if_neg (by omega)]
 | a :: as,i,x=>by
  simp only [argFr,List.cons_append,fget_cons,List.length_cons]
  rw [fget_argFr rest as (i+1) x]
  by_cases h:i=x
  ·subst h; simp
  ·rw [if_neg h]
   by_cases h2:i+1≤x∧x < i+1+as.length
   ·rw [if_pos h2,if_pos (by omega),show x - i=(x - (i+1))+1 by omega,List.getD_cons_succ]
   ·rw [if_neg h2,if_neg (by omega)]
theorem fget_boxFr:∀ (vs:List AV) (i x:Nat),fget (boxFr i vs) x=if i≤x∧x < i+vs.length then vs.getD (x - i) .junk else .junk
 | [],i,x=>by
  simp only [boxFr,fget,List.length_nil,Nat.add_zero]
  rw [if_neg (by omega)]
 | a :: as,i,x=>by
  simp only [boxFr,fget_cons,List.length_cons]
  rw [fget_boxFr as (i+1) x]
  by_cases h:i=x
  ·subst h; simp
  ·rw [if_neg h]
   by_cases h2:i+1≤x∧x < i+1+as.length
   ·rw [if_pos h2,if_pos (by omega),show x - i=(x - (i+1))+1 by omega,List.getD_cons_succ]
   ·rw [if_neg h2,if_neg (by omega)]
def ownedBy (fr:Fr) (β:Path→Value) (b:Nat):Prop:=∃ x i,(fget fr x).ownsAt i=true∧blk (β (x,i))=some b
def Callable (P : Program) (k : Nat) : Prop := ∃ fn,P.funcs[k]? = some fn ∧ fn.body.isNone = false ∧ (fn.name == "runtime.NumGoroutine") = false
def finFr (args:List AV) (vin:List AV):Fr:=argFr 0 args++boxFr virtBase vin
def lentAt (β:Path→Value) (n:Nat):Nat→Option Value:=fun x=>if virtBase≤x∧x < virtBase+n then some (β (x,0)) else none
def ACall (P:Program) (k:Nat) (args:List AV) (vin:List AV) (res:AV) (vout:List AV):Prop :=
 Callable P k∧∀ (w:World) (S:Nat→Prop) (β:Path→Value) (us:List Value),us.length=args.length →
  Mem ⟨w,ownedBy (finFr args vin) β,S,lentAt β vin.length,[]⟩ [] S β (finFr args vin) (fun x=>(us[x]?).or (lentAt β vin.length x)) w →
  Calls P k us.toArray w fun e w'=>∃ u S' β',e=.returned u ∧
   Mem ⟨w,ownedBy (finFr args vin) β,S,lentAt β vin.length,[]⟩ [] S' β' ((resSlot,res) :: boxFr virtBase vout) (fun x=>if x=resSlot then some u else lentAt β vin.length x) w'
abbrev ArgIn:=Option Nat×AV
def trCaps (xs:List Nat) (fr:Fr):List AV→Option (List AV×List Path)
 | []=>some ([],[])
 | c :: r=>match trCaps xs fr r with
  | none=>none
  | some (cs,l)=>match c with
   | .d x=>some (.d x :: cs,l)
   | .bp x off=>(xs.idxOf? x).map fun j=>(.bp (virtBase+j) off :: cs,l)
   | .vw p=>match pget fr p with
    | .own _κ sz es=>some (.d (.sl sz es) :: cs,p :: l)
    | .fz sz es=>some (.d (.sl sz es) :: cs,l)
    | _=>none
   | _=>none
def trV (xs:List Nat) (fr:Fr):AV→Option (AV×List Path)
 | .d x=>some (.d x,[])
 | .agg cs=>some (.agg cs,[])
 | .vw p=>match xs.idxOf? p.1 with
  | some j=>some (.vw (virtBase+j,p.2),[])
  | none=>match pget fr p with
   | .own _κ sz es=>some (.d (.sl sz es),[p])
   | .fz sz es=>some (.d (.sl sz es),[])
   | _=>none
 | .bp x off=>(xs.idxOf? x).map fun j=>(.bp (virtBase+j) off,[])
 | .clo f caps=>(trCaps xs fr caps).map fun r=>(.clo f r.1,r.2)
 | _=>none
def trArgs (N:Nat) (xs:List Nat) (fr:Fr):List ArgIn→Option (List AV×List (Option Nat)×List Path)
  | []=>some ([],[],[])
  | (tk,v) :: r=>match trArgs N xs fr r with
    | none=>none
    | some (as,ts,l)=>match tk with
      | some s=>match fget fr s with
        | .own κ sz es=>if s < N then some (.own κ sz es :: as,some s :: ts,l) else none
        | _=>none
      | none=>match trV xs fr v with
        | some (a,l')=>some (a :: as,none :: ts,l'++l)
        | none=>none
def trBps (xs:List Nat):List AV→Option (List AV)
 | []=>some []
 | .bp x off :: r=>match xs.idxOf? x,trBps xs r with
  | some j,some l=>some (.bp (virtBase+j) off :: l)
  | _,_=>none
 | .d x :: r=>(trBps xs r).map (.d x :: ·)
 | _ :: _=>none
def backBps (xs:List Nat):List AV→Option (List AV)
 | []=>some []
 | .bp y off :: r=>if virtBase≤y then match xs[y - virtBase]?,backBps xs r with
  | some x,some l=>some (.bp x off :: l)
  | _,_=>none
  else none
 | .d x :: r=>(backBps xs r).map (.d x :: ·)
 | _ :: _=>none
def backCell (xs:List Nat):AV→AV
 | .clo f caps=>match backBps xs caps with
  | some cs=>.clo f cs
  | none=>.junk
 | a=>a
def backA (xs:List Nat):AV→AV
 | .box cs=>.box (cs.map (backCell xs))
 | a=>a
def lendCell (xs:List Nat):AV→AV
 | .d x=>.d x
 | .own κ sz es=>.own κ sz es
 | .fz sz es=>.d (.sl sz es)
 | .slf off E=>.slf off E
 | .clo f caps=>match trBps xs caps with
  | some cs=>.clo f cs
  | none=>.junk
 | _=>.junk
def lendA (xs:List Nat):AV→AV
 | .box cs=>.box (cs.map (lendCell xs))
 | a=>a
def AV.lendable:AV→Bool
 | .box _ | .own _ _ _ | .glo _ _ | .arr _ _ _=>true
 | _=>false
def AV.cell:AV→Bool
 | .slf _ _=>true
 | a=>a.flat
def AV.backOk:AV→Bool
 | .box cs=>cs.all fun c=>c.paths1.isEmpty && c.cell
 | .own _ _ _=>true
 | .arr _ _ _=>true
 | .glo _ _=>true
 | _=>false
def AV.virtC:AV→Bool
 | .clo _ caps=>caps.all fun c=>match c with
  | .bp y _=>decide (virtBase≤y)
  | .d _=>true
  | _=>false
 | _=>false
def AV.backOkC:AV→Bool
 | .box cs=>cs.all fun c=>(c.paths1.isEmpty && c.cell) || c.virtC
 | a=>a.backOk
def boxesOf (zs:List Nat) (fr:Fr):List Nat→Option (List AV)
 | []=>some []
 | x :: r=>match (fget fr x).lendable,boxesOf zs fr r with
  | true,some l=>some (lendA zs (fget fr x) :: l)
  | _,_=>none
def AV.bare:AV→Bool
 | .d (.v _) | .d (.str _) | .junk=>true
 | .tup vs=>vs.all fun v=>match v with
  | .d (.v _) | .d (.str _) | .junk=>true
  | _=>false
 | _=>false
def AV.closed (a:AV):Bool:=a.paths.isEmpty && a.noGd
def nodupB:List Nat→Bool
 | []=>true
 | x :: r => !r.contains x && nodupB r
theorem nodupB_ok:∀ {l:List Nat},nodupB l=true→l.Nodup
 | [],_=>List.nodup_nil
 | x :: r,h=>by
  simp only [nodupB,Bool.and_eq_true,Bool.not_eq_true'] at h
  exact List.nodup_cons.2 ⟨by simpa using h.1,nodupB_ok h.2⟩
def taken (ts:List (Option Nat)):List Nat:=ts.filterMap id
def callP (dst:Nat) (xs:List Nat):Path→Bool:=fun p=>p.1 == dst || (p.2 != 0 && xs.contains p.1)
def callFr (dst:Nat) (xs tk:List Nat) (res:AV) (vout:List AV) (fr:Fr):Fr :=
 (dst,res) :: purgeP (callP dst xs) (tk.map (fun s=>(s,AV.junk))++(xs.zip vout)++fr)
def methodOf (P:Program) (t:TypeId) (name:String):Option FuncId :=
 match P.info? t,P.underlying t with
 | some i,some (.struct _)=>match i.methods.find? (·.name == name) with
  | some m=>if m.path.toList.isEmpty then match m.func with
   | some (k,false)=>some k
   | _=>none else none
  | none=>none
 | _,_=>none
def ICall (P:Program) (name:String) (args:List AV) (vin:List AV) (res:AV) (vout:List AV):Prop :=
 ∃ t us as k,args=.d (.v (.iface t (.agg ⟨us⟩))) :: as∧(∀ u∈us,u.oneCell'=true)∧methodOf P t name=some k∧ACall P k (.agg (us.map .v) :: as) vin res vout
def callEffI (P:Program) (N dst:Nat) (name:String) (r:AV) (items:List ArgIn) (h:Hint) (fr:Fr):Option (Fr×Prop) :=
 match r with
 | .d x=>match trArgs N h.xs fr ((none,.d x) :: items),boxesOf h.xs fr h.xs with
  | some (as,ts,lent),some vin =>
   if nodupB (taken ts++h.xs) && !(h.xs.contains dst) && decide (dst < N) && decide (as.length < resSlot) && h.res.closed && h.vout.all AV.backOkC && decide (h.vout.length=h.xs.length)
     && lent.all (fun p => !((taken ts++h.xs).contains p.1)) && (lent.isEmpty || (h.res.bare && h.xs.isEmpty)) then
    some (callFr dst h.xs (taken ts) h.res (h.vout.map (backA h.xs)) fr,ICall P name as vin h.res h.vout)
   else none
  | _,_=>none
 | _=>none
def callEff (P:Program) (N dst k:Nat) (items:List ArgIn) (h:Hint) (fr:Fr):Option (Fr×Prop) :=
 match trArgs N h.xs fr items,boxesOf h.xs fr h.xs with
 | some (as,ts,lent),some vin =>
  if nodupB (taken ts++h.xs) && !(h.xs.contains dst) && decide (dst < N) && decide (as.length < resSlot) && h.res.closed && h.vout.all AV.backOkC && decide (h.vout.length=h.xs.length)
    && lent.all (fun p => !((taken ts++h.xs).contains p.1)) && (lent.isEmpty || (h.res.bare && h.xs.isEmpty)) then
   some (callFr dst h.xs (taken ts) h.res (h.vout.map (backA h.xs)) fr,ACall P k as vin h.res h.vout)
  else none
 | _,_=>none
section
variable {P:Program} {e:Env} {G:GEnv} {S:Nat→Prop} {β:Path→Value} {fr:Fr} {w:World} {a:Act}
theorem idxOf?_get {xs:List Nat} {x j:Nat} (h:xs.idxOf? x=some j):xs[j]? = some x:=by
 rw [List.idxOf?_eq_some_iff] at h
 obtain ⟨h1,h2,_⟩:=h
 rw [List.getElem?_eq_getElem h1,h2]
def calleeβ (β:Path→Value) (ts:List (Option Nat)) (xs:List Nat):Path→Value:=fun p =>
 if virtBase≤p.1 then match xs[p.1 - virtBase]? with
  | some x=>β (x,p.2)
  | none=>.bool false
 else match (ts[p.1]?).join with
  | some s=>β (s,p.2)
  | none=>.bool false
def calleeS (S:Nat→Prop) (β:Path→Value) (lent:List Path):Nat→Prop:=fun b=>S b∨∃ p∈lent,blk (β p)=some b
theorem calleeβ_virt {ts:List (Option Nat)} {xs:List Nat} {j x:Nat} (h:xs[j]? = some x) (i:Nat):calleeβ β ts xs (virtBase+j,i)=β (x,i):=by
 simp [calleeβ,h]
theorem calleeβ_arg {ts:List (Option Nat)} {xs:List Nat} {i s:Nat} (hi:i < virtBase) (h:ts[i]? = some (some s)) (j:Nat):calleeβ β ts xs (i,j)=β (s,j):=by
 simp only [calleeβ]
 rw [if_neg (by omega),h]
 rfl
theorem lent_rd (hm:Mem e G S β fr (valsOf e a) w) {p:Path} {κ:TypeId} {sz:Nat} {es:List (List Dat)} (hp:pget fr p=.own κ sz es) {lent:List Path} (hl:p∈lent):RD (calleeS S β lent) w (.sl sz es) (β p):=by
 have ho:=pget_own hm hp
 simp only [RD]
 rcases ho with h | ⟨b,off,c,arr,E,fz,h1,h2,h3,h4,h5,hκ,h6⟩
 ·exact .inl ⟨⟨_,h.1⟩,h.2⟩
 ·exact .inr ⟨b,off,c,arr,E,fz,h1,h2,.inr ⟨p,hl,by rw [h1]; rfl⟩,h5,REs.mono (fun _ h=>.inl h) (fun _ _=>rfl) sz es _ _ h6⟩
theorem trCaps_ok (hm:Mem e G S β fr (valsOf e a) w) {xs:List Nat} {ts:List (Option Nat)} {lent:List Path}:∀ (caps cs:List AV) (l:List Path) (us:List Value),trCaps xs fr caps=some (cs,l)→(∀ p∈l,p∈lent) →
  All2 (fun _=>RCap S w β) 0 caps us→All2 (fun _=>RCap (calleeS S β lent) w (calleeβ β ts xs)) 0 cs us
 | [],cs,l,us,h,_,hr=>by
  simp only [trCaps,Option.some.injEq,Prod.mk.injEq] at h
  obtain ⟨rfl,rfl⟩:=h
  cases us <;> simp_all [All2]
 | c :: caps,cs,l,us,h,hl,hr=>by
  cases us with
  | nil=>simp [All2] at hr
  | cons u us =>
   simp only [All2] at hr
   simp only [trCaps] at h
   split at h
   ·cases h
   rename_i cs' l' hrest
   have shift:∀ {cs':List AV},All2 (fun _=>RCap (calleeS S β lent) w (calleeβ β ts xs)) 0 cs' us→All2 (fun _=>RCap (calleeS S β lent) w (calleeβ β ts xs)) (0+1) cs' us:=fun h2 =>
    All2.of_get (All2.len h2) fun k p q hp hq=>by
     obtain ⟨q',hq',hpq⟩:=All2.get h2 k p hp
     rw [hq] at hq'
     cases hq'
     exact hpq
   have hr2:All2 (fun _=>RCap S w β) 0 caps us:=All2.of_get (All2.len hr.2) fun k p q hp hq=>by
    obtain ⟨q',hq',hpq⟩:=All2.get hr.2 k p hp
    rw [hq] at hq'
    cases hq'
    exact hpq
   have ih:=fun hl'=>shift (trCaps_ok hm caps cs' l' us hrest hl' hr2)
   split at h
   ·simp only [Option.some.injEq,Prod.mk.injEq] at h
    obtain ⟨rfl,rfl⟩:=h
    exact ⟨RD.mono (fun _ h=>.inl h) (fun _ _=>rfl) _ _ hr.1,ih hl⟩
   ·rename_i x off
    simp only [Option.map_eq_some_iff,Prod.mk.injEq] at h
    obtain ⟨j,hj,rfl,rfl⟩:=h
    refine ⟨?_,ih hl⟩
    obtain ⟨b,h1,h2⟩:=hr.1
    exact ⟨b,by rw [calleeβ_virt (idxOf?_get hj)]; exact h1,h2⟩
   ·rename_i p
    have hu:u=β p:=hr.1
    split at h
    ·rename_i sz es hp
     simp only [Option.some.injEq,Prod.mk.injEq] at h
     obtain ⟨rfl,rfl⟩:=h
     exact ⟨by rw [hu]; exact lent_rd hm hp (hl p (by simp)),ih fun q hq=>hl q (by simp [hq])⟩
    ·rename_i sz es hp
     simp only [Option.some.injEq,Prod.mk.injEq] at h
     obtain ⟨rfl,rfl⟩:=h
     exact ⟨by rw [hu]; exact RD.mono (fun _ h=>.inl h) (fun _ _=>rfl) _ _ (pget_fz hm hp),ih hl⟩
    ·cases h
   ·cases h
theorem trV_ok (hm:Mem e G S β fr (valsOf e a) w) {xs:List Nat} {ts:List (Option Nat)} {lent:List Path} {v av:AV} {l:List Path} (h:trV xs fr v=some (av,l)) (hl:∀ p∈l,p∈lent) {u:Value} (hr:RFlat S w β (0,0) v u) (q:Path) :
  RFlat (calleeS S β lent) w (calleeβ β ts xs) q av u∧av.isOwn=false∧av.flat=true:=by
 unfold trV at h
 split at h
 ·simp only [Option.some.injEq,Prod.mk.injEq] at h
  obtain ⟨rfl,rfl⟩:=h
  exact ⟨RD.mono (fun _ h=>.inl h) (fun _ _=>rfl) _ _ hr,rfl,rfl⟩
 ·simp only [Option.some.injEq,Prod.mk.injEq] at h
  obtain ⟨rfl,rfl⟩:=h
  obtain ⟨l,h1,h2,h3⟩:=hr
  exact ⟨⟨l,h1,h2,RCs.mono (fun _ h=>.inl h) (fun _ _=>rfl) _ _ _ h3⟩,rfl,rfl⟩
 ·rename_i p
  have hu:u=β p:=hr
  split at h
  ·rename_i j hj
   simp only [Option.some.injEq,Prod.mk.injEq] at h
   obtain ⟨rfl,rfl⟩:=h
   exact ⟨by rw [hu]; exact (calleeβ_virt (idxOf?_get hj) p.2).symm,rfl,rfl⟩
  split at h
  ·rename_i sz es hp
   simp only [Option.some.injEq,Prod.mk.injEq] at h
   obtain ⟨rfl,rfl⟩:=h
   exact ⟨by rw [hu]; exact lent_rd hm hp (hl p (by simp)),rfl,rfl⟩
  ·rename_i sz es hp
   simp only [Option.some.injEq,Prod.mk.injEq] at h
   obtain ⟨rfl,rfl⟩:=h
   exact ⟨by rw [hu]; exact RD.mono (fun _ h=>.inl h) (fun _ _=>rfl) _ _ (pget_fz hm hp),rfl,rfl⟩
  ·cases h
 ·rename_i x off
  simp only [Option.map_eq_some_iff,Prod.mk.injEq] at h
  obtain ⟨j,hj,rfl,rfl⟩:=h
  obtain ⟨b,h1,h2⟩:=hr
  exact ⟨⟨b,by rw [calleeβ_virt (idxOf?_get hj)]; exact h1,h2⟩,rfl,rfl⟩
 ·rename_i f caps
  simp only [Option.map_eq_some_iff,Prod.mk.injEq] at h
  obtain ⟨⟨cs,l'⟩,hc,rfl,rfl⟩:=h
  obtain ⟨us,h1,h2⟩:=hr
  exact ⟨⟨us,h1,trCaps_ok hm caps cs l' us hc hl h2⟩,rfl,rfl⟩
 ·cases h
def ArgOk (_N:Nat) (S:Nat→Prop) (w:World) (β:Path→Value) (a:Act) (it:ArgIn) (u:Value):Prop :=
 match it.1 with
 | some s=>u=a.eval (.tmp s)
 | none=>RFlat S w β (0,0) it.2 u
theorem trArgs_ok {N:Nat} (hN:a.tmps.size=N) (hm:Mem e G S β fr (valsOf e a) w) {xs:List Nat} {lent:List Path} (ts0:List (Option Nat)):∀ (items:List ArgIn) (as:List AV) (ts:List (Option Nat)) (l:List Path) (us:List Value) (i:Nat),
    trArgs N xs fr items=some (as,ts,l)→(∀ p∈l,p∈lent)→All2 (fun _=>ArgOk N S w β a) i items us→i+items.length≤virtBase→(∀ j t,ts[j]? = some t→ts0[i+j]? = some t) →
    as.length=items.length∧ts.length=items.length∧All2 (fun j av u=>RFlat (calleeS S β lent) w (calleeβ β ts0 xs) (j,0) av u) i as us ∧
    (∀ (j:Nat) (av:AV),as[j]? = some av→av.flat=true∧(av.isOwn=true→∃ s,ts[j]? = some (some s)∧s < N∧(fget fr s).isOwn=true∧(fget fr s).flat=true))
  | [],as,ts,l,us,i,h,_,hr,_,_=>by
    simp only [trArgs,Option.some.injEq,Prod.mk.injEq] at h
    obtain ⟨rfl,rfl,rfl⟩:=h
    cases us <;> simp_all [All2]
  | (tk,v) :: items,as,ts,l,us,i,h,hl,hr,hi,hts=>by
    cases us with
    | nil=>simp [All2] at hr
    | cons u us =>
      simp only [All2] at hr
      simp only [trArgs] at h
      split at h
      · cases h
      rename_i as' ts' l' hrest
      simp only [List.length_cons] at hi
      cases tk with
      | some s =>
        simp only at h
        split at h
        case h_2=>cases h
        rename_i sz es hf
        split at h
        case isFalse=>cases h
        rename_i hs
        simp only [Option.some.injEq,Prod.mk.injEq] at h
        obtain ⟨rfl,rfl,rfl⟩:=h
        obtain ⟨h1,h2,h3,h4⟩:=trArgs_ok hN hm ts0 items as' ts' l' us (i+1) hrest hl hr.2 (by omega) (fun j t hj=>by have:=hts (j+1) t (by simpa using hj); rwa [Nat.add_assoc,Nat.add_comm 1 j])
        refine ⟨by simp [h1],by simp [h2],⟨?_,h3⟩,fun j av hj=>?_⟩
        · have hu:u=a.eval (.tmp s):=hr.1
          obtain ⟨u0,hru,hu0⟩:=hm.rel s
          have:=hu0 _ (eval_tmp (by rw [hN]; exact hs))
          rw [← hu] at this
          subst this
          rw [hf] at hru
          refine ⟨?_,hru.2.turn (fun _ h=>.inl h) (fun _ _=>rfl) (fun _ _=>rfl)⟩
          rw [calleeβ_arg (s:=s) (by omega) (by have:=hts 0 (some s) (by simp); simpa using this)]
          exact hru.1
        · cases j with
          | zero =>
            simp only [List.getElem?_cons_zero,Option.some.injEq] at hj
            subst hj
            exact ⟨rfl,fun _=>⟨s,by simp,hs,by rw [hf]; rfl,by rw [hf]; rfl⟩⟩
          | succ j=>simpa using h4 j av (by simpa using hj)
      | none =>
        simp only at h
        split at h
        case h_2=>cases h
        rename_i a' l'' hv
        simp only [Option.some.injEq,Prod.mk.injEq] at h
        obtain ⟨rfl,rfl,rfl⟩:=h
        obtain ⟨h1,h2,h3,h4⟩:=trArgs_ok hN hm ts0 items as' ts' l' us (i+1) hrest (fun p hp=>hl p (by simp [hp])) hr.2 (by omega) (fun j t hj=>by have:=hts (j+1) t (by simpa using hj); rwa [Nat.add_assoc,Nat.add_comm 1 j])
        obtain ⟨hv1,hv2,hv3⟩:=trV_ok (ts:=ts0) hm hv (fun p hp=>hl p (by simp [hp])) hr.1 (i,0)
        refine ⟨by simp [h1],by simp [h2],⟨hv1,h3⟩,fun j av hj=>?_⟩
        cases j with
        | zero =>
          simp only [List.getElem?_cons_zero,Option.some.injEq] at hj
          subst hj
          exact ⟨hv3,fun ho=>by rw [hv2] at ho; cases ho⟩
        | succ j=>simpa using h4 j av (by simpa using hj)
theorem boxesOf_ok {zs:List Nat}:∀ (xs:List Nat) (vin:List AV),boxesOf zs fr xs=some vin→vin.length=xs.length∧∀ (j x:Nat),xs[j]? = some x→(fget fr x).lendable=true∧vin[j]? = some (lendA zs (fget fr x))
 | [],vin,h=>by
  simp only [boxesOf,Option.some.injEq] at h
  subst h
  simp
 | x :: xs,vin,h=>by
  simp only [boxesOf] at h
  split at h
  case h_2=>cases h
  rename_i l hf hrest
  simp only [Option.some.injEq] at h
  subst h
  obtain ⟨h1,h2⟩:=boxesOf_ok xs l hrest
  refine ⟨by simp [h1],fun j y hj=>?_⟩
  cases j with
  | zero =>
   simp only [List.getElem?_cons_zero,Option.some.injEq] at hj
   subst hj
   exact ⟨hf,by simp⟩
  | succ j=>simpa using h2 j y (by simpa using hj)
theorem trBps_ok {S':Nat→Prop} {β':Path→Value} {xs:List Nat} (hs:∀ b,S b→S' b) (hx:∀ x j,xs.idxOf? x=some j→β' (virtBase+j,0)=β (x,0)):∀ (caps cs:List AV) (us:List Value) (i:Nat),trBps xs caps=some cs→All2 (fun _=>RCap S w β) i caps us→All2 (fun _=>RCap S' w β') i cs us
 | [],cs,us,i,h,hr=>by
  simp only [trBps,Option.some.injEq] at h
  subst h
  cases us <;> simp_all [All2]
 | c :: caps,cs,[],i,h,hr=>by simp [All2] at hr
 | c :: caps,cs,u :: us,i,h,hr=>by
  unfold trBps at h
  split at h
  ·rename_i heq; cases heq
  ·rename_i x off r heq
   cases heq
   split at h
   ·rename_i j l hj hl
    simp only [Option.some.injEq] at h
    subst h
    refine ⟨?_,trBps_ok hs hx caps l us (i+1) hl hr.2⟩
    obtain ⟨b,h1,h2⟩:=hr.1
    exact ⟨b,(hx x j hj).trans h1,h2⟩
   ·cases h
  ·rename_i x r heq
   cases heq
   simp only [Option.map_eq_some_iff] at h
   obtain ⟨l,hl,rfl⟩:=h
   exact ⟨RD.mono hs (fun _ _=>rfl) _ _ hr.1,trBps_ok hs hx caps l us (i+1) hl hr.2⟩
  ·cases h
theorem backBps_ok {β':Path→Value} {xs:List Nat} (hx:∀ x j,xs[j]? = some x→β' (x,0)=β (virtBase+j,0)):∀ (caps cs:List AV) (us:List Value) (i:Nat),backBps xs caps=some cs→All2 (fun _=>RCap S w β) i caps us→All2 (fun _=>RCap S w β') i cs us
 | [],cs,us,i,h,hr=>by
  simp only [backBps,Option.some.injEq] at h
  subst h
  cases us <;> simp_all [All2]
 | c :: caps,cs,[],i,h,hr=>by simp [All2] at hr
 | c :: caps,cs,u :: us,i,h,hr=>by
  unfold backBps at h
  split at h
  ·rename_i heq; cases heq
  ·rename_i y off r heq
   cases heq
   split at h
   case isFalse=>cases h
   rename_i hy
   split at h
   ·rename_i x l hj hl
    simp only [Option.some.injEq] at h
    subst h
    refine ⟨?_,backBps_ok hx caps l us (i+1) hl hr.2⟩
    obtain ⟨b,h1,h2⟩:=hr.1
    refine ⟨b,?_,h2⟩
    rw [hx x _ hj,show virtBase+(y - virtBase)=y by omega]
    exact h1
   ·cases h
  ·rename_i x r heq
   cases heq
   simp only [Option.map_eq_some_iff] at h
   obtain ⟨l,hl,rfl⟩:=h
   exact ⟨hr.1,backBps_ok hx caps l us (i+1) hl hr.2⟩
  ·cases h
theorem backBps_paths {xs:List Nat}:∀ (caps cs:List AV),backBps xs caps=some cs→∀ q∈cs.flatMap AV.pathsF,q.1∈xs∧q.2=0
 | [],cs,h,q,hq=>by
  simp only [backBps,Option.some.injEq] at h
  subst h
  cases hq
 | c :: caps,cs,h,q,hq=>by
  unfold backBps at h
  split at h
  ·rename_i heq; cases heq
  ·rename_i y off r heq
   cases heq
   split at h
   case isFalse=>cases h
   split at h
   ·rename_i x l hj hl
    simp only [Option.some.injEq] at h
    subst h
    simp only [List.flatMap_cons,AV.pathsF,List.cons_append,List.nil_append,List.mem_cons] at hq
    rcases hq with rfl | hq
    ·exact ⟨List.mem_of_getElem? hj,rfl⟩
    ·exact backBps_paths caps l hl q hq
   ·cases h
  ·rename_i x r heq
   cases heq
   simp only [Option.map_eq_some_iff] at h
   obtain ⟨l,hl,rfl⟩:=h
   exact backBps_paths caps l hl q (by simpa [AV.pathsF] using hq)
  ·cases h
theorem lendCell_ok {S':Nat→Prop} {β':Path→Value} {xs:List Nat} {p q:Path} {c:AV} {u:Value} (h:RFlat S w β p c u) (hs:∀ b,S b→S' b) (hx:∀ x j,xs.idxOf? x=some j→β' (virtBase+j,0)=β (x,0)) (hpq:β' q=β p) (hslf:β' (q.1,0)=β (p.1,0)) (hq:q.2≠0):RFlat S' w β' q (lendCell xs c) u:=by
 cases c
 case clo f caps =>
  obtain ⟨l,h1,h2⟩:=h
  simp only [lendCell]
  cases hcs:trBps xs caps with
  | some cs=>exact ⟨l,h1,trBps_ok hs hx caps cs l 0 hcs h2⟩
  | none=>trivial
 all_goals simp only [lendCell,RFlat] at h ⊢
 case d=>exact RD.mono hs (fun _ _=>rfl) _ _ h
 case own=>exact ⟨h.1.trans hpq.symm,h.2.turn hs (fun _ _=>rfl) (fun _ _=>rfl)⟩
 case fz=>exact RD.mono hs (fun _ _=>rfl) _ _ h.2
 case slf=>rw [hslf]; exact ⟨hq,h.2⟩
theorem lendA_own {xs:List Nat} {c:AV} {i:Nat} (hl:c.lendable=true) (h:(lendA xs c).ownsAt i=true):c.ownsAt i=true:=by
 cases c <;> simp only [AV.lendable,reduceCtorEq] at hl
 case own=>exact h
 case arr=>exact h
 case glo=>exact h
 case box cs =>
  cases i with
  | zero=>rfl
  | succ i =>
   simp only [lendA,AV.ownsAt,List.getElem?_map,Option.map_map] at h ⊢
   cases hc:cs[i]? with
   | none=>simp [hc] at h
   | some c =>
    simp only [hc,Option.map_some,Function.comp,Option.getD_some] at h ⊢
    cases c
    case clo f caps =>
     simp only [lendCell] at h
     split at h <;> cases h
    all_goals first | rfl | exact h | cases h
theorem backCell_own {xs:List Nat} {c:AV}:(backCell xs c).isOwn=c.isOwn:=by
 cases c <;> simp only [backCell]
 split <;> rfl
theorem backA_own {xs:List Nat} {c:AV} {i:Nat}:(backA xs c).ownsAt i=c.ownsAt i:=by
 cases c <;> simp only [backA]
 rename_i cs
 cases i with
 | zero=>rfl
 | succ i =>
  simp only [AV.ownsAt,List.getElem?_map]
  cases hc:cs[i]? with
  | none=>simp
  | some c=>simp [backCell_own]
end
end Go.Vm
namespace Go.Vm
section
variable {P:Program} {e:Env} {G:GEnv} {S:Nat→Prop} {β:Path→Value} {fr:Fr} {w:World} {a:Act}
theorem taken_get {ts:List (Option Nat)} {i s:Nat} (h:ts[i]? = some (some s)):s∈taken ts:=by
 simp only [taken,List.mem_filterMap,id]
 exact ⟨some s,List.mem_of_getElem? h,rfl⟩
theorem taken_inj:∀ {ts:List (Option Nat)},(taken ts).Nodup→∀ (i j s:Nat),ts[i]? = some (some s)→ts[j]? = some (some s)→i=j
 | [],_,i,j,s,h,_=>by simp at h
 | t :: ts,hn,i,j,s,hi,hj=>by
  cases t with
  | none =>
   have hn':(taken ts).Nodup:=by simpa [taken] using hn
   cases i with
   | zero=>simp at hi
   | succ i=>cases j with
    | zero=>simp at hj
    | succ j=>rw [taken_inj hn' i j s (by simpa using hi) (by simpa using hj)]
  | some t =>
   have hn':t ∉ taken ts∧(taken ts).Nodup:=by simpa [taken] using hn
   cases i with
   | zero =>
    simp at hi
    subst hi
    cases j with
    | zero=>rfl
    | succ j=>exact absurd (taken_get (by simpa using hj)) hn'.1
   | succ i=>cases j with
    | zero =>
     simp at hj
     subst hj
     exact absurd (taken_get (by simpa using hi)) hn'.1
    | succ j=>rw [taken_inj hn'.2 i j s (by simpa using hi) (by simpa using hj)]
structure CalleeOwn (fr fin:Fr) (β β':Path→Value) (tk xs:List Nat):Prop where
 src:∀ y i,(fget fin y).ownsAt i=true→∃ z,(fget fr z).ownsAt i=true∧(z∈tk∨z∈xs)∧(∀ b,blk (β' (y,i))=some b→blk (β (z,i))=some b)
 inj:∀ y i z j b,(fget fin y).ownsAt i=true→(fget fin z).ownsAt j=true→blk (β' (y,i))=some b→blk (β' (z,j))=some b→y=z∧i=j
theorem fget_finFr_arg {as:List AV} {vin:List AV} {x:Nat} (h:x < as.length):fget (finFr as vin) x=as.getD x .junk:=by
 rw [finFr,fget_argFr,if_pos ⟨Nat.zero_le _,by omega⟩,Nat.sub_zero]
theorem fget_finFr_virt {as:List AV} {vin:List AV} {j:Nat} (ha:as.length < resSlot):fget (finFr as vin) (virtBase+j)=if j < vin.length then vin.getD j .junk else .junk:=by
 rw [finFr,fget_argFr,if_neg (by simp only [virtBase,resSlot] at *; omega),fget_boxFr]
 by_cases h:j < vin.length
 ·rw [if_pos ⟨by omega,by omega⟩,if_pos h,Nat.add_sub_cancel_left]
 ·rw [if_neg (by omega),if_neg h]
theorem fget_finFr_none {as:List AV} {vin:List AV} {x:Nat} (h1:as.length≤x) (h2:x < virtBase):fget (finFr as vin) x=.junk:=by
 rw [finFr,fget_argFr,if_neg (by omega),fget_boxFr,if_neg (by omega)]
theorem finFr_cases (as:List AV) (_vin:List AV) (x:Nat):x < as.length∨(as.length≤x∧x < virtBase)∨∃ j,x=virtBase+j:=by
 rcases Nat.lt_or_ge x as.length with h | h
 ·exact .inl h
 ·rcases Nat.lt_or_ge x virtBase with h2 | h2
  ·exact .inr (.inl ⟨h,h2⟩)
  ·exact .inr (.inr ⟨x - virtBase,by omega⟩)
theorem calleeOwn (hm:Mem e G S β fr (valsOf e a) w) {as:List AV} {ts:List (Option Nat)} {vin:List AV} {xs:List Nat} (hlen:as.length < resSlot) (hn:(taken ts++xs).Nodup)
  (hargs:∀ (j:Nat) (av:AV),as[j]? = some av→av.flat=true∧(av.isOwn=true→∃ s,ts[j]? = some (some s)∧(fget fr s).isOwn=true∧(fget fr s).flat=true))
  (hvl:vin.length=xs.length) (hbox:∀ (j x:Nat),xs[j]? = some x→(fget fr x).lendable=true∧vin[j]? = some (lendA xs (fget fr x))) :
  CalleeOwn fr (finFr as vin) β (calleeβ β ts xs) (taken ts) xs:=by
 have src:∀ y i,(fget (finFr as vin) y).ownsAt i=true→∃ z,(fget fr z).ownsAt i=true∧((y < as.length∧ts[y]? = some (some z)∧i=0)∨(∃ j,y=virtBase+j∧xs[j]? = some z))∧calleeβ β ts xs (y,i)=β (z,i):=by
  intro y i ho
  rcases finFr_cases as vin y with hy | ⟨hy1,hy2⟩ | ⟨j,rfl⟩
  ·rw [fget_finFr_arg hy] at ho
   have hg:as[y]? = some (as.getD y .junk):=by simp [List.getD_eq_getElem?_getD,List.getElem?_eq_getElem hy]
   obtain ⟨h1,h2⟩:=hargs y _ hg
   obtain ⟨rfl,h3⟩:=flat_ownsAt h1 i ho
   obtain ⟨s,hs,hso,hsf⟩:=h2 h3
   refine ⟨s,?_,.inl ⟨hy,hs,rfl⟩,calleeβ_arg (by simp only [virtBase,resSlot] at *; omega) hs 0⟩
   cases hf:fget fr s <;> simp_all [AV.ownsAt,AV.isOwn,AV.flat]
  ·rw [fget_finFr_none hy1 hy2] at ho
   cases i <;> simp [AV.ownsAt,AV.isOwn] at ho
  ·rw [fget_finFr_virt hlen] at ho
   split at ho
   case isFalse=>cases i <;> simp [AV.ownsAt,AV.isOwn] at ho
   rename_i hj
   have hx:xs[j]? = some (xs[j]'(by omega)):=List.getElem?_eq_getElem (by omega)
   obtain ⟨hl,hv⟩:=hbox j _ hx
   refine ⟨xs[j],?_,.inr ⟨j,rfl,hx⟩,calleeβ_virt hx i⟩
   rw [List.getD_eq_getElem?_getD,hv,Option.getD_some] at ho
   exact lendA_own hl ho
 refine ⟨fun y i ho=>?_,fun y i z j b hy hz hyb hzb=>?_⟩
 ·obtain ⟨z,h1,h2,h3⟩:=src y i ho
  refine ⟨z,h1,?_,fun b hb=>by rw [← h3]; exact hb⟩
  rcases h2 with ⟨_,h,_⟩ | ⟨j,_,h⟩
  ·exact .inl (taken_get h)
  ·exact .inr (List.mem_of_getElem? h)
 ·obtain ⟨y',hy1,hy2,hy3⟩:=src y i hy
  obtain ⟨z',hz1,hz2,hz3⟩:=src z j hz
  rw [hy3] at hyb
  rw [hz3] at hzb
  obtain ⟨h1,h2⟩:=hm.dis y' i z' j b hy1 hz1 hyb hzb
  subst h1
  subst h2
  refine ⟨?_,rfl⟩
  rw [List.nodup_append] at hn
  obtain ⟨hn1,hn2,hn3⟩:=hn
  rcases hy2 with ⟨_,hys,_⟩ | ⟨j1,rfl,hyx⟩ <;> rcases hz2 with ⟨_,hzs,_⟩ | ⟨j2,rfl,hzx⟩
  ·exact taken_inj hn1 y z y' hys hzs
  ·exact absurd rfl (hn3 y' (taken_get hys) y' (List.mem_of_getElem? hzx))
  ·exact absurd rfl (hn3 y' (taken_get hzs) y' (List.mem_of_getElem? hyx))
  ·have hl1:=(List.getElem?_eq_some_iff.1 hyx)
   have hl2:=(List.getElem?_eq_some_iff.1 hzx)
   obtain ⟨p1,q1⟩:=hl1
   obtain ⟨p2,q2⟩:=hl2
   have:j1=j2:=(List.getElem_inj (h₀:=p1) (h₁:=p2) hn2).1 (by rw [q1,q2])
   rw [this]
theorem calleeMem (hm:Mem e G S β fr (valsOf e a) w) {as:List AV} {ts:List (Option Nat)} {lent:List Path} {vin:List AV} {xs:List Nat} {us:List Value} (hlen:as.length < resSlot) (hn:(taken ts++xs).Nodup)
  (hargs:∀ (j:Nat) (av:AV),as[j]? = some av→av.flat=true∧(av.isOwn=true→∃ s,ts[j]? = some (some s)∧(fget fr s).isOwn=true∧(fget fr s).flat=true))
  (hrel:All2 (fun j av u=>RFlat (calleeS S β lent) w (calleeβ β ts xs) (j,0) av u) 0 as us)
  (hvl:vin.length=xs.length) (hbox:∀ (j x:Nat),xs[j]? = some x→(fget fr x).lendable=true∧vin[j]? = some (lendA xs (fget fr x)))
  (hlent:∀ p∈lent,p.1 ∉ taken ts++xs∧(fget fr p.1).ownsAt p.2=true) :
  Mem ⟨w,ownedBy (finFr as vin) (calleeβ β ts xs),calleeS S β lent,lentAt (calleeβ β ts xs) vin.length,[]⟩ [] (calleeS S β lent) (calleeβ β ts xs) (finFr as vin) (fun x=>(us[x]?).or (lentAt (calleeβ β ts xs) vin.length x)) w:=by
 have hco:=calleeOwn hm hlen hn hargs hvl hbox
 have hSnot:∀ b,calleeS S β lent b→∀ z i,(fget fr z).ownsAt i=true→(z∈taken ts∨z∈xs)→blk (β (z,i))≠some b:=by
  intro b hb z i ho hz hbl
  rcases hb with h | ⟨p,hp,h⟩
  ·exact (hm.fre z i b ho hbl).1 h
  ·obtain ⟨h1,h2⟩:=hlent p hp
   obtain ⟨h3,_⟩:=hm.dis z i p.1 p.2 b ho h2 hbl h
   subst h3
   exact h1 (by simpa using hz)
 refine ⟨fun x=>?_,fun x l av h=>?_,hco.inj,fun y i b ho hb=>?_,fun b hb=>⟨?_,.inl hb⟩,fun b hb=>hb,fun _ _ _=>rfl,rfl,rfl,rfl,Nat.le_refl _⟩
 ·rcases finFr_cases as vin x with hx | ⟨hx1,hx2⟩ | ⟨j,rfl⟩
  ·have hg:as[x]? = some (as.getD x .junk):=by simp [List.getD_eq_getElem?_getD,List.getElem?_eq_getElem hx]
   obtain ⟨u,hu,hr⟩:=All2.get hrel x _ hg
   simp only [Nat.zero_add] at hr
   refine ⟨u,?_,fun u' h'=>by rw [hu] at h'; simpa using h'.symm⟩
   rw [fget_finFr_arg hx]
   exact (flat_slot (hargs x _ hg).1).2 hr
  ·rw [fget_finFr_none hx1 hx2]
   have hnone:us[x]? = none:=List.getElem?_eq_none (by rw [← All2.len hrel]; exact hx1)
   have hla:lentAt (calleeβ β ts xs) vin.length x=none:=by
    unfold lentAt
    rw [if_neg (by omega)]
   exact ⟨undef,trivial,fun u' h'=>by rw [hnone,hla] at h'; cases h'⟩
  ·have hnone:us[virtBase+j]? = none:=List.getElem?_eq_none (by rw [← All2.len hrel]; simp only [virtBase,resSlot] at *; omega)
   rw [fget_finFr_virt hlen]
   split
   case isFalse =>
    rename_i hj
    have hla:lentAt (calleeβ β ts xs) vin.length (virtBase+j)=none:=by
     unfold lentAt
     rw [if_neg (by omega)]
    exact ⟨undef,trivial,fun u' h'=>by rw [hnone,hla] at h'; cases h'⟩
   rename_i hj
   have hx:xs[j]? = some (xs[j]'(by omega)):=List.getElem?_eq_getElem (by omega)
   obtain ⟨hl,hv⟩:=hbox j _ hx
   obtain ⟨u,hr,_⟩:=hm.rel xs[j]
   rw [List.getD_eq_getElem?_getD,hv,Option.getD_some]
   have hla0:u=β (xs[j],0)→lentAt (calleeβ β ts xs) vin.length (virtBase+j)=some u:=by
    intro h0
    unfold lentAt
    rw [if_pos ⟨by omega,by omega⟩,calleeβ_virt hx,h0]
   cases hf:fget fr xs[j] <;> rw [hf] at hl <;> simp only [AV.lendable,reduceCtorEq] at hl
   case own sz es =>
    rw [hf] at hr
    have hla:=hla0 hr.1
    exact ⟨u,⟨by rw [calleeβ_virt hx]; exact hr.1,hr.2.turn (fun _ h=>.inl h) (fun _ _=>rfl) (fun _ _=>rfl)⟩,fun u' h'=>by rw [hnone,hla] at h'; simpa using h'.symm⟩
   case arr sz es =>
    rw [hf] at hr
    have hla:=hla0 hr.1
    exact ⟨u,⟨by rw [calleeβ_virt hx]; exact hr.1,hr.2.turn (fun _ h=>.inl h) (fun _ _=>rfl) (fun _ _=>rfl)⟩,fun u' h'=>by rw [hnone,hla] at h'; simpa using h'.symm⟩
   case glo k cs =>
    rw [hf] at hr
    have hla:=hla0 hr.1
    exact ⟨u,⟨by rw [calleeβ_virt hx]; exact hr.1,hr.2.1,hr.2.2.mono (fun _ h=>.inl h) (fun _ _=>rfl)⟩,fun u' h'=>by rw [hnone,hla] at h'; simpa using h'.symm⟩
   rename_i cs
   rw [hf] at hr
   obtain ⟨h0,b,l,E,h1,h2,h3⟩:=hr
   have hla:=hla0 h0
   refine ⟨u,⟨by rw [calleeβ_virt hx]; exact h0,b,l,E,h1,h2,?_⟩,fun u' h'=>by rw [hnone,hla] at h'; simpa using h'.symm⟩
   refine All2.of_get (by simpa using All2.len h3) fun k av c hk hc=>?_
   simp only [List.getElem?_map,Option.map_eq_some_iff] at hk
   obtain ⟨c0,hc0,rfl⟩:=hk
   obtain ⟨c',hc',hrc⟩:=All2.get h3 k c0 hc0
   rw [hc] at hc'
   cases hc'
   simp only [Nat.zero_add] at hrc ⊢
   exact lendCell_ok hrc (fun _ h=>.inl h) (fun x j hj=>calleeβ_virt (idxOf?_get hj) 0) (calleeβ_virt hx (k+1)) (calleeβ_virt hx 0) (by simp)
 ·rcases finFr_cases as vin x with hx | ⟨hx1,hx2⟩ | ⟨j,rfl⟩
  ·rw [fget_finFr_arg hx] at h
   have hg:as[x]? = some (as.getD x .junk):=by simp [List.getD_eq_getElem?_getD,List.getElem?_eq_getElem hx]
   have:=(hargs x _ hg).1
   rw [h] at this
   cases this
  ·rw [fget_finFr_none hx1 hx2] at h; cases h
  ·rw [fget_finFr_virt hlen] at h
   split at h
   case isFalse=>cases h
   rename_i hj
   obtain ⟨hl,hv⟩:=hbox j _ (List.getElem?_eq_getElem (l:=xs) (i:=j) (by omega))
   rw [List.getD_eq_getElem?_getD,hv,Option.getD_some] at h
   cases hf:fget fr xs[j] <;> rw [hf] at hl h <;> simp only [AV.lendable,reduceCtorEq] at hl <;> cases h
 ·obtain ⟨z,h1,h2,h3⟩:=hco.src y i ho
  exact ⟨fun hb'=>hSnot b hb' z i h1 h2 (h3 b hb),.inr ⟨y,i,ho,hb⟩⟩
 ·rcases hb with h | ⟨p,hp,h⟩
  ·exact (hm.stb b h).1
  ·exact hm.blt (hlent p hp).2 h
end
end Go.Vm
namespace Go.Vm
section
variable {P:Program} {e:Env} {G:GEnv} {S:Nat→Prop} {β:Path→Value} {fr:Fr} {w:World} {a:Act}
theorem fget_tk (r:Fr) (x:Nat):∀ tk:List Nat,fget (tk.map (fun s=>(s,AV.junk))++r) x=if x∈tk then .junk else fget r x
 | []=>by simp
 | t :: tk=>by
  simp only [List.map_cons,List.cons_append,fget_cons,fget_tk r x tk,List.mem_cons]
  by_cases h:t=x
  ·simp [h]
  ·simp [h,Ne.symm h]
theorem fget_zip_out (r:Fr) (x:Nat):∀ (xs:List Nat) (vs:List AV),x ∉ xs→fget ((xs.zip vs)++r) x=fget r x
 | [],vs,_=>by simp
 | y :: xs,[],_=>by simp
 | y :: xs,v :: vs,h=>by
  simp only [List.mem_cons,not_or] at h
  simp only [List.zip_cons_cons,List.cons_append]
  rw [fget_cons_ne _ _ (Ne.symm h.1)]
  exact fget_zip_out r x xs vs h.2
theorem fget_zip_in (r:Fr) (x:Nat):∀ (xs:List Nat) (vs:List AV) (j:Nat) (v:AV),xs.Nodup→xs[j]? = some x→vs[j]? = some v→fget ((xs.zip vs)++r) x=v
 | [],vs,j,v,_,h,_=>by simp at h
 | y :: xs,[],j,v,_,_,h=>by simp at h
 | y :: xs,v' :: vs,0,v,_,h1,h2=>by
  simp at h1 h2
  subst h1 h2
  simp [fget_cons_self]
 | y :: xs,v' :: vs,j+1,v,hn,h1,h2=>by
  have hn':=List.nodup_cons.1 hn
  have hmem:x∈xs:=List.mem_of_getElem? (by simpa using h1)
  simp only [List.zip_cons_cons,List.cons_append]
  have hne:y≠x:=by
   rintro rfl
   exact hn'.1 hmem
  rw [fget_cons_ne _ _ hne]
  exact fget_zip_in r x xs vs j v hn'.2 (by simpa using h1) (by simpa using h2)
theorem noGd_slot {g g':List (Nat×Bool)→Bool} {S:Nat→Prop} {w:World} {β:Path→Value} {x:Nat} {av:AV} {u:Value} (hn:av.noGd=true) (h:RSlot g S w β x av u):RSlot g' S w β x av u:=by
 cases av
 case gd=>cases hn
 all_goals exact h
theorem bare_slot {g:List (Nat×Bool)→Bool} {S S':Nat→Prop} {w:World} {β:Path→Value} {x:Nat} {av:AV} {u:Value} (hb:av.bare=true) (h:RSlot g S w β x av u):RSlot g S' w β x av u:=by
 have d:∀ (p:Path) (c:AV) (v:Value),(match c with | .d (.v _) | .d (.str _) | .junk=>true | _=>false)=true→RFlat S w β p c v→RFlat S' w β p c v:=by
  intro p c v hc hr
  split at hc
  ·exact hr
  ·exact hr
  ·exact trivial
  ·cases hc
 unfold AV.bare at hb
 split at hb
 ·exact h
 ·exact h
 ·exact trivial
 ·rename_i vs
  obtain ⟨l,h1,h0,h2⟩:=h
  refine ⟨l,h1,h0,All2.mono h2 fun j c v hc _ hr=>d _ c v ?_ hr⟩
  exact List.all_eq_true.1 hb c (List.mem_of_getElem? hc)
 ·cases hb
theorem lend_ptr {g:List (Nat×Bool)→Bool} {S:Nat→Prop} {w:World} {β:Path→Value} {x:Nat} {av:AV} {u:Value} (hb:av.lendable=true) (h:RSlot g S w β x av u):u=β (x,0):=by
 cases av <;> simp only [AV.lendable,reduceCtorEq] at hb
 all_goals exact h.1
theorem backC_ptr {g:List (Nat×Bool)→Bool} {S:Nat→Prop} {w:World} {β:Path→Value} {x:Nat} {av:AV} {u:Value} (hb:av.backOkC=true) (h:RSlot g S w β x av u):u=β (x,0):=by
 cases av <;> simp only [AV.backOkC,AV.backOk,reduceCtorEq] at hb
 all_goals exact h.1
theorem backC_noGd {av:AV} (hb:av.backOkC=true):av.noGd=true:=by
 cases av <;> simp only [AV.backOkC,AV.backOk,reduceCtorEq] at hb <;> rfl
theorem backA_noGd {xs:List Nat} {av:AV} (hb:av.backOkC=true):(backA xs av).noGd=true:=by
 cases av <;> simp only [AV.backOkC,AV.backOk,reduceCtorEq] at hb <;> rfl
theorem backCell_closed {xs:List Nat} {c:AV} (h:((c.paths1.isEmpty && c.cell) || c.virtC)=true):∀ q∈(backCell xs c).paths1,q.1∈xs∧q.2=0:=by
 intro q hq
 cases c
 case clo f caps =>
  simp only [backCell] at hq
  split at hq
  ·rename_i cs hcs
   exact backBps_paths caps cs hcs q hq
  ·cases hq
 all_goals
  simp only [AV.virtC,Bool.or_false,Bool.and_eq_true,List.isEmpty_iff] at h
  simp only [backCell] at hq
  rw [h.1] at hq
  cases hq
theorem backA_purge {xs:List Nat} {dst:Nat} {av:AV} (hd:dst ∉ xs) (hb:av.backOkC=true):(backA xs av).purge (callP dst xs)=backA xs av:=by
 cases av <;> simp only [AV.backOkC,AV.backOk,reduceCtorEq] at hb
 ·rfl
 ·rfl
 ·rename_i cs
  simp only [List.all_eq_true] at hb
  simp only [backA,AV.purge,AV.box.injEq,List.map_map]
  refine List.map_congr_left fun c hc=>?_
  have hq:=backCell_closed (xs:=xs) (hb c hc)
  simp only [Function.comp,AV.purge1]
  rw [if_neg]
  simp only [Bool.not_eq_true,List.any_eq_false,Bool.not_eq_true]
  intro q hq'
  obtain ⟨h1,h2⟩:=hq q hq'
  have:q.1≠dst:=fun h=>hd (h ▸ h1)
  simp [callP,this,h2]
 ·rfl
theorem backA_slot {g:List (Nat×Bool)→Bool} {S:Nat→Prop} {w:World} {β β':Path→Value} {xs:List Nat} {x j:Nat} {av:AV} {u:Value} (hb:av.backOkC=true) (hx:∀ x j,xs[j]? = some x→∀ i,β' (x,i)=β (virtBase+j,i)) (hj:xs[j]? = some x) (h:RSlot g S w β (virtBase+j) av u):RSlot g S w β' x (backA xs av) u:=by
 cases av <;> simp only [AV.backOkC,AV.backOk,reduceCtorEq] at hb
 case own=>exact h.rename (fun i=>hx x j hj i) fun q hq=>by cases hq
 case arr=>exact h.rename (fun i=>hx x j hj i) fun q hq=>by cases hq
 case glo=>exact h.rename (fun i=>hx x j hj i) fun q hq=>by cases hq
 rename_i cs
 obtain ⟨h0,b,l,E,h1,h2,h3⟩:=h
 refine ⟨h0.trans (hx x j hj 0).symm,b,l,E,h1,h2,All2.map _ h3 fun k c v hc _ hr=>?_⟩
 simp only [List.all_eq_true] at hb
 have hbc:=hb c (List.mem_of_getElem? hc)
 simp only [Nat.zero_add] at hr ⊢
 cases c
 case clo f caps =>
  obtain ⟨l',h4,h5⟩:=hr
  simp only [backCell]
  cases hcs:backBps xs caps with
  | some cs'=>exact ⟨l',h4,backBps_ok (fun x j h=>hx x j h 0) caps cs' l' 0 hcs h5⟩
  | none=>trivial
 all_goals
  simp only [AV.virtC,Bool.or_false,Bool.and_eq_true,List.isEmpty_iff] at hbc
  refine hr.rename (hx x j hj _) (.inr ⟨.inr (by simp),hx x j hj 0⟩) fun q hq=>?_
  have:=AV.paths01 _ q hq
  rw [hbc.1] at this
  cases this
theorem call_after (hm:Mem e G S β fr (valsOf e a) w) {as:List AV} {ts:List (Option Nat)} {lent:List Path} {vin vout:List AV} {xs:List Nat} {res:AV} {dst:Nat} (hdst:dst < a.tmps.size) (_hlen:as.length < resSlot) (hn:(taken ts++xs).Nodup)
  (hco:CalleeOwn fr (finFr as vin) β (calleeβ β ts xs) (taken ts) xs) (hdx:dst ∉ xs)
  (hbox:∀ (j x:Nat),xs[j]? = some x→(fget fr x).lendable=true∧vin[j]? = some (lendA xs (fget fr x))) (hvl:vin.length=xs.length) (hvo:vout.length=xs.length)
  (hlent:∀ p∈lent,p.1 ∉ taken ts++xs∧(fget fr p.1).ownsAt p.2=true) (hres:res.closed=true) (hvc:∀ a∈vout,a.backOkC=true) (hlb:lent=[]∨(res.bare=true∧xs=[]))
  {u:Value} {S':Nat→Prop} {β':Path→Value} {w':World}
  (hm':Mem ⟨w,ownedBy (finFr as vin) (calleeβ β ts xs),calleeS S β lent,lentAt (calleeβ β ts xs) vin.length,[]⟩ [] S' β' ((resSlot,res) :: boxFr virtBase vout) (fun x=>if x=resSlot then some u else lentAt (calleeβ β ts xs) vin.length x) w') :
  After e G (callFr dst xs (taken ts) res (vout.map (backA xs)) fr) a dst u w':=by
 have hptr:∀ j,j < vin.length→β' (virtBase+j,0)=calleeβ β ts xs (virtBase+j,0):=by
  intro j hj
  obtain ⟨u0,hr0,hu0⟩:=hm'.rel (virtBase+j)
  rw [fget_cons_ne _ _ (by simp only [virtBase,resSlot]; omega),fget_boxFr,if_pos ⟨by omega,by omega⟩] at hr0
  have hbk:(vout.getD (virtBase+j - virtBase) .junk).backOkC=true:=by
   rw [List.getD_eq_getElem?_getD,List.getElem?_eq_getElem (by omega)]
   exact hvc _ (List.getElem_mem _)
  have:=hu0 (calleeβ β ts xs (virtBase+j,0)) (by
   rw [if_neg (by simp only [virtBase,resSlot]; omega)]
   unfold lentAt
   rw [if_pos ⟨by omega,by omega⟩])
  rw [this,← backC_ptr hbk hr0]
 obtain ⟨hres1,hres2⟩:res.paths=[]∧res.noGd=true:=by simpa [AV.closed] using hres
 have hnt:(taken ts).Nodup∧xs.Nodup∧∀ y∈taken ts,y ∉ xs:=by
  rw [List.nodup_append] at hn
  exact ⟨hn.1,hn.2.1,fun y h1 h2=>hn.2.2 y h1 y h2 rfl⟩
 -- the blocks that the callee was given
 have hA:∀ b,ownedBy (finFr as vin) (calleeβ β ts xs) b→∃ z i,(fget fr z).ownsAt i=true∧(z∈taken ts∨z∈xs)∧blk (β (z,i))=some b:=by
  rintro b ⟨y,i,ho,hb⟩
  obtain ⟨z,h1,h2,h3⟩:=hco.src y i ho
  exact ⟨z,i,h1,h2,h3 b hb⟩
 have hSA:∀ b,S b→¬ ownedBy (finFr as vin) (calleeβ β ts xs) b:=by
  intro b hS hb
  obtain ⟨z,i,h1,_,h3⟩:=hA b hb
  exact (hm.fre z i b h1 h3).1 hS
 have hag:Agree S w w':=fun b hS=>hm'.old b (hm.stb b hS).1 (hSA b hS)
 have hkeep:∀ y j b,y ∉ taken ts→y ∉ xs→(fget fr y).ownsAt j=true→blk (β (y,j))=some b→b < w.heap.size∧¬ ownedBy (finFr as vin) (calleeβ β ts xs) b:=by
  intro y j b h1 h2 ho hb
  refine ⟨hm.blt ho hb,fun hAb=>?_⟩
  obtain ⟨z,i,h3,h4,h5⟩:=hA b hAb
  obtain ⟨h6,_⟩:=hm.dis y j z i b ho h3 hb h5
  subst h6
  rcases h4 with h | h
  ·exact h1 h
  ·exact h2 h
 have hAfre:∀ b,(w.heap.size≤b∨ownedBy (finFr as vin) (calleeβ β ts xs) b)→e.w0.heap.size≤b∨e.A b:=by
  rintro b (h | h)
  ·exact .inl (Nat.le_trans hm.size h)
  ·obtain ⟨z,i,h1,_,h3⟩:=hA b h
   exact (hm.fre z i b h1 h3).2
 let S'':Nat→Prop:=fun b=>S' b∧¬ ∃ p∈lent,blk (β p)=some b
 let β'':Path→Value:=fun p=>if p.1=dst then β' (resSlot,p.2) else match xs.idxOf? p.1 with
  | some j=>β' (virtBase+j,p.2)
  | none=>β p
 have hSS:∀ b,S b→S'' b:=by
  intro b hS
  refine ⟨hm'.s0 b (.inl hS),?_⟩
  rintro ⟨p,hp,hb⟩
  exact (hm.fre p.1 p.2 b (hlent p hp).2 hb).1 hS
 have hβd:∀ j,β'' (dst,j)=β' (resSlot,j):=fun j=>by simp [β'']
 have hidx:∀ (j x:Nat),xs[j]? = some x→xs.idxOf? x=some j:=by
  intro j x h
  cases hi:xs.idxOf? x with
  | none =>
   rw [List.idxOf?_eq_none_iff] at hi
   exact absurd (List.mem_of_getElem? h) hi
  | some i =>
   have hg:=idxOf?_get hi
   obtain ⟨p1,q1⟩:=List.getElem?_eq_some_iff.1 hg
   obtain ⟨p2,q2⟩:=List.getElem?_eq_some_iff.1 h
   have:i=j:=(List.getElem_inj (h₀:=p1) (h₁:=p2) hnt.2.1).1 (by rw [q1,q2])
   rw [this]
 have hβx:∀ (j x i:Nat),xs[j]? = some x→β'' (x,i)=β' (virtBase+j,i):=by
  intro j x i h
  have hne:x≠dst:=fun h'=>hdx (h' ▸ List.mem_of_getElem? h)
  simp only [β'',if_neg hne,hidx j x h]
 have hβo:∀ x i,x≠dst→x ∉ xs→β'' (x,i)=β (x,i):=by
  intro x i h1 h2
  have:xs.idxOf? x=none:=List.idxOf?_eq_none_iff.2 h2
  simp only [β'',if_neg h1,this]
 have hβ0:∀ p,callP dst xs p=false→β'' p=β p:=by
  rintro ⟨x,i⟩ h
  simp only [callP,Bool.or_eq_false_iff,beq_eq_false_iff_ne,ne_eq,Bool.and_eq_false_iff,bne_eq_false_iff_eq] at h
  obtain ⟨h1,h2⟩:=h
  by_cases hx:x∈xs
  ·rcases h2 with h2 | h2
   ·subst h2
    obtain ⟨j,hj⟩:=List.getElem?_of_mem hx
    have hjl:=(List.getElem?_eq_some_iff.1 hj).1
    rw [hβx j x 0 hj,hptr j (by omega),calleeβ_virt hj]
   ·simp [hx] at h2
  ·exact hβo x i h1 hx
 -- the new frame,slot by slot
 have hf1:fget (callFr dst xs (taken ts) res (vout.map (backA xs)) fr) dst=res:=fget_cons_self _ _ _
 have hf0:∀ x,x≠dst→fget (callFr dst xs (taken ts) res (vout.map (backA xs)) fr) x=(fget ((taken ts).map (fun s=>(s,AV.junk))++(xs.zip (vout.map (backA xs)))++fr) x).purge (callP dst xs):=by
  intro x hx
  rw [callFr,fget_cons_ne _ _ (Ne.symm hx),fget_purgeP]
 have hft:∀ x,x≠dst→x∈taken ts→fget (callFr dst xs (taken ts) res (vout.map (backA xs)) fr) x=.junk:=by
  intro x hx ht
  rw [hf0 x hx,List.append_assoc,fget_tk,if_pos ht]
  rfl
 have hfx:∀ (j x:Nat),xs[j]? = some x→∃ v,vout[j]? = some v∧fget (callFr dst xs (taken ts) res (vout.map (backA xs)) fr) x=backA xs v:=by
  intro j x hj
  have hjl:=(List.getElem?_eq_some_iff.1 hj).1
  have hmem:=List.mem_of_getElem? hj
  refine ⟨vout[j]'(by omega),List.getElem?_eq_getElem (by omega),?_⟩
  rw [hf0 x (fun h=>hdx (h ▸ hmem)),List.append_assoc,fget_tk,if_neg (fun h=>hnt.2.2 x h hmem),fget_zip_in fr x xs (vout.map (backA xs)) j (backA xs (vout[j]'(by omega))) hnt.2.1 hj (by simp [List.getElem?_map,List.getElem?_eq_getElem (show j < vout.length by omega)])]
  exact backA_purge hdx (hvc _ (List.getElem_mem _))
 have hfo:∀ x,x≠dst→x ∉ taken ts→x ∉ xs→fget (callFr dst xs (taken ts) res (vout.map (backA xs)) fr) x=(fget fr x).purge (callP dst xs):=by
  intro x h1 h2 h3
  rw [hf0 x h1,List.append_assoc,fget_tk,if_neg h2,fget_zip_out fr x xs (vout.map (backA xs)) h3]
 have hgv:∀ (j:Nat) (v:AV),vout[j]? = some v→fget ((resSlot,res) :: boxFr virtBase vout) (virtBase+j)=v:=by
  intro j v hv
  have hjl:=(List.getElem?_eq_some_iff.1 hv).1
  rw [fget_cons_ne _ _ (by simp only [virtBase,resSlot]; omega),fget_boxFr,if_pos ⟨by omega,by omega⟩,Nat.add_sub_cancel_left,List.getD_eq_getElem?_getD,hv,Option.getD_some]
 have hgr:fget ((resSlot,res) :: boxFr virtBase vout) resSlot=res:=fget_cons_self _ _ _
 -- the owners of the new frame
 have hown:∀ x i,(fget (callFr dst xs (taken ts) res (vout.map (backA xs)) fr) x).ownsAt i=true →
   (∃ y,(fget ((resSlot,res) :: boxFr virtBase vout) y).ownsAt i=true∧β'' (x,i)=β' (y,i)∧((x=dst∧y=resSlot)∨∃ j,xs[j]? = some x∧y=virtBase+j)) ∨
   (x≠dst∧x ∉ taken ts∧x ∉ xs∧(fget fr x).ownsAt i=true∧β'' (x,i)=β (x,i)):=by
  intro x i ho
  by_cases h1:x=dst
  ·subst h1
   rw [hf1] at ho
   exact .inl ⟨resSlot,by rw [hgr]; exact ho,hβd i,.inl ⟨rfl,rfl⟩⟩
  ·by_cases h2:x∈taken ts
   ·rw [hft x h1 h2] at ho
    cases i <;> simp [AV.ownsAt,AV.isOwn] at ho
   ·by_cases h3:x∈xs
    ·obtain ⟨j,hj⟩:=List.getElem?_of_mem h3
     obtain ⟨v,hv,hf⟩:=hfx j x hj
     rw [hf,backA_own] at ho
     exact .inl ⟨virtBase+j,by rw [hgv j v hv]; exact ho,hβx j x i hj,.inr ⟨j,hj,rfl⟩⟩
    ·rw [hfo x h1 h2 h3] at ho
     exact .inr ⟨h1,h2,h3,AV.purge_ownsAt _ _ i ho,hβo x i h1 h3⟩
 refine ⟨S'',β'',?_,?_,?_,?_,?_,fun b hb=>hSS b (hm.s0 b hb),?_,hm'.os.trans hm.os,hm'.tape.trans hm.tape,hm'.output.trans hm.output,Nat.le_trans hm.size hm'.size⟩
 ·intro x
  by_cases h1:x=dst
  ·subst h1
   rw [hf1]
   obtain ⟨u0,hr,hu0⟩:=hm'.rel resSlot
   rw [hgr] at hr
   have huu:u=u0:=hu0 u (by simp)
   subst huu
   refine ⟨u,?_,put_new a x u hdst⟩
   have hr1:RSlot (condG G) S' w' β' resSlot res u:=noGd_slot hres2 hr
   have hr2:RSlot (condG G) S'' w' β' resSlot res u:=by
    rcases hlb with h | h
    ·have hS:S''=S':=by
      funext b
      simp [S'',h]
     rw [hS]; exact hr1
    ·exact bare_slot h.1 hr1
   exact hr2.rename (fun j=>hβd j) (fun q hq=>by rw [hres1] at hq; cases hq)
  ·by_cases h2:x∈taken ts
   ·rw [hft x h1 h2]
    refine ⟨(valsOf e (a.put (some dst) u) x).getD undef,trivial,fun u' h=>?_⟩
    simp only [h,Option.getD_some]
   ·by_cases h3:x∈xs
    ·obtain ⟨j,hj⟩:=List.getElem?_of_mem h3
     obtain ⟨v,hv,hf⟩:=hfx j x hj
     rw [hf]
     obtain ⟨hl0,_⟩:=hbox j x hj
     have hjl:=(List.getElem?_eq_some_iff.1 hj).1
     obtain ⟨u0,hr0,hu0⟩:=hm.rel x
     have hvb:=hvc v (List.mem_of_getElem? hv)
     obtain ⟨ux,hrx,_⟩:=hm'.rel (virtBase+j)
     rw [hgv j v hv] at hrx
     have hlx:lent=[]:=by
      rcases hlb with h | h
      ·exact h
      ·rw [h.2] at h3; cases h3
     have hS:S''=S':=by
      funext b
      simp [S'',hlx]
     have hux:ux=u0:=by rw [backC_ptr hvb hrx,lend_ptr hl0 hr0,hptr j (by omega),calleeβ_virt hj]
     refine ⟨u0,?_,fun u' h=>hu0 u' (by rw [put_old a dst u hdst x h1] at h; exact h)⟩
     rw [hS,← hux]
     exact backA_slot hvb (fun x j h i=>hβx j x i h) hj (noGd_slot (g':=condG G) (backC_noGd hvb) hrx)
    ·rw [hfo x h1 h2 h3]
     obtain ⟨u0,hr0,hu0⟩:=hm.rel x
     refine ⟨u0,?_,fun u' h=>hu0 u' (by rw [put_old a dst u hdst x h1] at h; exact h)⟩
     refine (hr0.purge (callP dst xs)).turn (fun _ _ _=>rfl) hSS hag (fun j=>hβo x j h1 h3) (fun j ho b hb=>?_) (fun q hq=>hβ0 q (AV.purge_paths hq).1)
     obtain ⟨h4,h5⟩:=hkeep x j b h2 h3 (AV.purge_ownsAt _ _ j ho) hb
     exact hm'.old b h4 h5
 ·intro x l av hx
  by_cases h1:x=dst
  ·subst h1
   rw [hf1] at hx
   rw [hx] at hres2
   cases hres2
  ·by_cases h2:x∈taken ts
   ·rw [hft x h1 h2] at hx; cases hx
   ·by_cases h3:x∈xs
    ·obtain ⟨j,hj⟩:=List.getElem?_of_mem h3
     obtain ⟨v,hv,hf⟩:=hfx j x hj
     rw [hf] at hx
     have:=backA_noGd (xs:=xs) (hvc v (List.mem_of_getElem? hv))
     rw [hx] at this
     cases this
    ·rw [hfo x h1 h2 h3] at hx
     exact hm.gok x l av (AV.purge_gd hx)
 ·intro x i y j b hx hy hxb hyb
  rcases hown x i hx with ⟨x',hx1,hx2,hx3⟩ | ⟨hx1,hx2,hx3,hx4,hx5⟩ <;> rcases hown y j hy with ⟨y',hy1,hy2,hy3⟩ | ⟨hy1,hy2,hy3,hy4,hy5⟩
  ·rw [hx2] at hxb
   rw [hy2] at hyb
   obtain ⟨h1,h2⟩:=hm'.dis x' i y' j b hx1 hy1 hxb hyb
   refine ⟨?_,h2⟩
   rcases hx3 with ⟨rfl,rfl⟩ | ⟨j1,hj1,rfl⟩ <;> rcases hy3 with ⟨rfl,rfl⟩ | ⟨j2,hj2,rfl⟩
   ·rfl
   ·simp only [virtBase,resSlot] at h1; omega
   ·simp only [virtBase,resSlot] at h1; omega
   ·have:j1=j2:=by omega
    rw [this] at hj1
    rw [hj1] at hj2
    exact Option.some.inj hj2
  ·rw [hx2] at hxb
   rw [hy5] at hyb
   have hf:=hm'.fre x' i b hx1 hxb
   obtain ⟨h1,h2⟩:=hkeep y j b hy2 hy3 hy4 hyb
   rcases hf.2 with h | h
   ·simp only at h; omega
   ·exact absurd h h2
  ·rw [hx5] at hxb
   rw [hy2] at hyb
   have hf:=hm'.fre y' j b hy1 hyb
   obtain ⟨h1,h2⟩:=hkeep x i b hx2 hx3 hx4 hxb
   rcases hf.2 with h | h
   ·simp only at h; omega
   ·exact absurd h h2
  ·rw [hx5] at hxb
   rw [hy5] at hyb
   exact hm.dis x i y j b hx4 hy4 hxb hyb
 ·intro x i b hx hxb
  rcases hown x i hx with ⟨x',hx1,hx2,_⟩ | ⟨hx1,hx2,hx3,hx4,hx5⟩
  ·rw [hx2] at hxb
   have hf:=hm'.fre x' i b hx1 hxb
   exact ⟨fun h=>hf.1 h.1,hAfre b hf.2⟩
  ·rw [hx5] at hxb
   have hf:=hm.fre x i b hx4 hxb
   refine ⟨fun h=>?_,hf.2⟩
   obtain ⟨h1,h2⟩:=hkeep x i b hx2 hx3 hx4 hxb
   rcases (hm'.stb b h.1).2 with (h3 | h3) | h3 | h3
   ·exact hf.1 h3
   ·exact h.2 h3
   ·simp only at h3; omega
   ·exact h2 h3
 ·intro b hb
  refine ⟨(hm'.stb b hb.1).1,?_⟩
  rcases (hm'.stb b hb.1).2 with (h3 | h3) | h3
  ·exact (hm.stb b h3).2
  ·exact absurd h3 hb.2
  ·exact .inr (hAfre b h3)
 ·intro b h1 h2
  rw [← hm.old b h1 h2]
  refine hm'.old b (Nat.lt_of_lt_of_le h1 hm.size) fun h=>?_
  obtain ⟨z,i,h3,_,h5⟩:=hA b h
  rcases (hm.fre z i b h3 h5).2 with h' | h'
  ·omega
  ·exact h2 h'
def callC (N dst:Nat) (h:Hint) (as:List AV) (ts:List (Option Nat)) (lent:List Path):Bool :=
 nodupB (taken ts++h.xs) && !(h.xs.contains dst) && decide (dst < N) && decide (as.length < resSlot) && h.res.closed && h.vout.all AV.backOkC && decide (h.vout.length=h.xs.length)
  && lent.all (fun p => !((taken ts++h.xs).contains p.1)) && (lent.isEmpty || (h.res.bare && h.xs.isEmpty))
theorem callX_pre {N:Nat} (hN:a.tmps.size=N) (hm:Mem e G S β fr (valsOf e a) w) {dst:Nat} {items:List ArgIn} {h:Hint} {as:List AV} {ts:List (Option Nat)} {lent:List Path} {vin:List AV} (htr:trArgs N h.xs fr items=some (as,ts,lent)) (hbx:boxesOf h.xs fr h.xs=some vin)
  (hc:callC N dst h as ts lent=true) {us:List Value} (hargs:All2 (fun _=>ArgOk N S w β a) 0 items us) :
  us.length=as.length∧Mem ⟨w,ownedBy (finFr as vin) (calleeβ β ts h.xs),calleeS S β lent,lentAt (calleeβ β ts h.xs) vin.length,[]⟩ [] (calleeS S β lent) (calleeβ β ts h.xs) (finFr as vin) (fun x=>(us[x]?).or (lentAt (calleeβ β ts h.xs) vin.length x)) w ∧
  ∀ u S' β' w',Mem ⟨w,ownedBy (finFr as vin) (calleeβ β ts h.xs),calleeS S β lent,lentAt (calleeβ β ts h.xs) vin.length,[]⟩ [] S' β' ((resSlot,h.res) :: boxFr virtBase h.vout) (fun x=>if x=resSlot then some u else lentAt (calleeβ β ts h.xs) vin.length x) w'→After e G (callFr dst h.xs (taken ts) h.res (h.vout.map (backA h.xs)) fr) a dst u w':=by
 unfold callC at hc
 simp only [Bool.and_eq_true,decide_eq_true_eq,Bool.not_eq_true',List.all_eq_true,Bool.or_eq_true,List.isEmpty_iff,List.contains_eq_mem,decide_eq_false_iff_not] at hc
 obtain ⟨⟨⟨⟨⟨⟨⟨⟨hnd,hdx⟩,hdN⟩,hal⟩,hres⟩,hvc⟩,hvo⟩,hle⟩,hlb⟩:=hc
 have hnodup:=nodupB_ok hnd
 have hil:items.length≤999999:=by
  have:as.length=items.length:=by
   clear hal hlb hle hnd hnodup hvc hvo hargs
   induction items generalizing as ts lent with
   | nil=>simp only [trArgs,Option.some.injEq,Prod.mk.injEq] at htr; obtain ⟨rfl,_⟩:=htr; rfl
   | cons it r ih =>
    obtain ⟨tk,v⟩:=it
    simp only [trArgs] at htr
    split at htr
    ·cases htr
    rename_i as' ts' l' hrest
    have:=ih hrest
    split at htr
    ·split at htr
     case h_2=>cases htr
     split at htr
     case isFalse=>cases htr
     simp only [Option.some.injEq,Prod.mk.injEq] at htr
     obtain ⟨rfl,_⟩:=htr
     simp [this]
    ·split at htr
     case h_2=>cases htr
     simp only [Option.some.injEq,Prod.mk.injEq] at htr
     obtain ⟨rfl,_⟩:=htr
     simp [this]
  rw [← this]
  simp only [resSlot] at hal
  omega
 obtain ⟨h1,h2,h3,h4⟩:=trArgs_ok hN hm (lent:=lent) ts items as ts lent us 0 htr (fun p hp=>hp) hargs (by simp only [virtBase]; omega) (fun j t hj=>by simpa using hj)
 obtain ⟨h5,h6⟩:=boxesOf_ok h.xs vin hbx
 have h4':∀ (j:Nat) (av:AV),as[j]? = some av→av.flat=true∧(av.isOwn=true→∃ s,ts[j]? = some (some s)∧(fget fr s).isOwn=true∧(fget fr s).flat=true):=fun j av hj =>
  ⟨(h4 j av hj).1,fun ho=>let ⟨s,q1,_,q3,q4⟩:=(h4 j av hj).2 ho; ⟨s,q1,q3,q4⟩⟩
 have hlent:∀ p∈lent,p.1 ∉ taken ts++h.xs∧(fget fr p.1).ownsAt p.2=true:=by
  intro p hp
  refine ⟨hle p hp,?_⟩
  -- what is lent is owned
  have capsOwn:∀ (caps cs:List AV) (l:List Path),trCaps h.xs fr caps=some (cs,l)→∀ p∈l,(fget fr p.1).ownsAt p.2=true:=by
   intro caps
   induction caps with
   | nil=>intro cs l hh p hp; simp only [trCaps,Option.some.injEq,Prod.mk.injEq] at hh; obtain ⟨_,rfl⟩:=hh; cases hp
   | cons c r ih =>
    intro cs l hh p hp
    simp only [trCaps] at hh
    split at hh
    ·cases hh
    rename_i cs' l' hrest
    have ih':=ih cs' l' hrest
    split at hh
    ·simp only [Option.some.injEq,Prod.mk.injEq] at hh
     obtain ⟨_,rfl⟩:=hh
     exact ih' p hp
    ·simp only [Option.map_eq_some_iff,Prod.mk.injEq] at hh
     obtain ⟨_,_,_,rfl⟩:=hh
     exact ih' p hp
    ·split at hh
     ·rename_i q sz es hq
      simp only [Option.some.injEq,Prod.mk.injEq] at hh
      obtain ⟨_,rfl⟩:=hh
      rcases List.mem_cons.1 hp with h | h
      ·rw [h]; exact pget_owns hq
      ·exact ih' p h
     ·simp only [Option.some.injEq,Prod.mk.injEq] at hh
      obtain ⟨_,rfl⟩:=hh
      exact ih' p hp
     ·cases hh
    ·cases hh
  have allOwn:∀ (items:List ArgIn) (as:List AV) (ts:List (Option Nat)) (l:List Path),trArgs N h.xs fr items=some (as,ts,l)→∀ p∈l,(fget fr p.1).ownsAt p.2=true:=by
   intro items
   induction items with
   | nil=>intro as ts l hh p hp; simp only [trArgs,Option.some.injEq,Prod.mk.injEq] at hh; obtain ⟨_,_,rfl⟩:=hh; cases hp
   | cons it r ih =>
    intro as ts l hh p hp
    obtain ⟨tk,v⟩:=it
    simp only [trArgs] at hh
    split at hh
    ·cases hh
    rename_i as' ts' l' hrest
    have ih':=ih as' ts' l' hrest
    split at hh
    ·split at hh
     case h_2=>cases hh
     split at hh
     case isFalse=>cases hh
     simp only [Option.some.injEq,Prod.mk.injEq] at hh
     obtain ⟨_,_,rfl⟩:=hh
     exact ih' p hp
    ·split at hh
     case h_2=>cases hh
     rename_i a' l'' hv
     simp only [Option.some.injEq,Prod.mk.injEq] at hh
     obtain ⟨_,_,rfl⟩:=hh
     rcases List.mem_append.1 hp with hp | hp
     ·unfold trV at hv
      split at hv
      ·simp only [Option.some.injEq,Prod.mk.injEq] at hv
       obtain ⟨_,rfl⟩:=hv
       cases hp
      ·simp only [Option.some.injEq,Prod.mk.injEq] at hv
       obtain ⟨_,rfl⟩:=hv
       cases hp
      ·split at hv
       ·simp only [Option.some.injEq,Prod.mk.injEq] at hv
        obtain ⟨_,rfl⟩:=hv
        cases hp
       split at hv
       ·rename_i q sz es hq
        simp only [Option.some.injEq,Prod.mk.injEq] at hv
        obtain ⟨_,rfl⟩:=hv
        simp only [List.mem_singleton] at hp
        rw [hp]; exact pget_owns hq
       ·simp only [Option.some.injEq,Prod.mk.injEq] at hv
        obtain ⟨_,rfl⟩:=hv
        cases hp
       ·cases hv
      ·simp only [Option.map_eq_some_iff,Prod.mk.injEq] at hv
       obtain ⟨_,_,_,rfl⟩:=hv
       cases hp
      ·simp only [Option.map_eq_some_iff,Prod.mk.injEq] at hv
       obtain ⟨⟨cs,l3⟩,hcs,_,rfl⟩:=hv
       exact capsOwn _ cs l3 hcs p hp
      ·cases hv
     ·exact ih' p hp
  exact allOwn items as ts lent htr p hp
 have hmem:=calleeMem hm hal hnodup h4' h3 h5 h6 hlent
 have hco:=calleeOwn hm hal hnodup h4' h5 h6
 exact ⟨(All2.len h3).symm,hmem,fun u S' β' w' hm'=>call_after hm (by rw [hN]; exact hdN) hal hnodup hco hdx h6 h5 hvo hlent hres hvc (by simpa using hlb) hm'⟩
theorem callEff_ok {N:Nat} (hN:a.tmps.size=N) (hm:Mem e G S β fr (valsOf e a) w) {dst k:Nat} {items:List ArgIn} {h:Hint} {fr':Fr} {obl:Prop} (he:callEff P N dst k items h fr=some (fr',obl)) (ho:obl) {us:List Value}
  (hargs:All2 (fun _=>ArgOk N S w β a) 0 items us):Callable P k∧Calls P k us.toArray w fun e' w'=>∃ u,e'=.returned u∧After e G fr' a dst u w':=by
 unfold callEff at he
 split at he
 case h_2=>cases he
 rename_i as ts lent vin htr hbx
 split at he
 case isFalse=>cases he
 rename_i hc
 simp only [Option.some.injEq,Prod.mk.injEq] at he
 obtain ⟨rfl,rfl⟩:=he
 obtain ⟨hcall,hcon⟩:=ho
 obtain ⟨h1,h2,h3⟩:=callX_pre hN hm htr hbx hc hargs
 refine ⟨hcall,(hcon w _ _ us h1 h2).mono ?_⟩
 rintro e' w' ⟨u,S',β',rfl,hm'⟩
 exact ⟨u,rfl,h3 u S' β' w' hm'⟩
theorem All2.shift {α γ:Type} {R:α→γ→Prop}:∀ {i j:Nat} {as:List α} {cs:List γ},All2 (fun _=>R) i as cs→All2 (fun _=>R) j as cs
 | _,_,[],[],_=>trivial
 | i,j,a :: as,c :: cs,h=>⟨h.1,All2.shift h.2⟩
 | _,_,[],_ :: _,h=>by simp [All2] at h
 | _,_,_ :: _,[],h=>by simp [All2] at h
theorem callEffI_ok {N:Nat} (hN:a.tmps.size=N) (hm:Mem e G S β fr (valsOf e a) w) {dst:Nat} {name:String} {r:AV} {items:List ArgIn} {h:Hint} {fr':Fr} {obl:Prop} (he:callEffI P N dst name r items h fr=some (fr',obl)) (ho:obl) {u:Value} (hr:RFlat S w β (0,0) r u) {us:List Value}
  (hargs:All2 (fun _=>ArgOk N S w β a) 0 items us):∃ t cs k,u=.iface t (.agg ⟨cs⟩)∧methodOf P t name=some k∧Callable P k∧Calls P k (.agg ⟨cs⟩ :: us).toArray w fun e' w'=>∃ u,e'=.returned u∧After e G fr' a dst u w':=by
 unfold callEffI at he
 split at he
 case h_2=>cases he
 rename_i x
 split at he
 case h_2=>cases he
 rename_i as ts lent vin htr hbx
 split at he
 case isFalse=>cases he
 rename_i hc
 simp only [Option.some.injEq,Prod.mk.injEq] at he
 obtain ⟨rfl,rfl⟩:=he
 obtain ⟨t,cs,as',k,h1,h2,h3,h4⟩:=ho
 subst h1
 simp only [trArgs,trV] at htr
 split at htr
 ·cases htr
 rename_i as2 ts2 l2 hrest
 simp only [Option.some.injEq,Prod.mk.injEq,List.cons.injEq,AV.d.injEq,List.nil_append] at htr
 obtain ⟨⟨rfl,rfl⟩,rfl,rfl⟩:=htr
 have hu:u=.iface t (.agg ⟨cs⟩):=hr.1
 have he2:callEff P N dst k ((none,.agg (cs.map .v)) :: items) h fr=some (callFr dst h.xs (taken (none :: ts2)) h.res (h.vout.map (backA h.xs)) fr,ACall P k (.agg (cs.map .v) :: as2) vin h.res h.vout):=by
  unfold callEff
  simp only [trArgs,trV,hrest,hbx,List.nil_append]
  rw [if_pos]
  simpa using hc
 refine ⟨t,cs,k,hu,h3,?_⟩
 refine callEff_ok hN hm he2 h4 ⟨⟨cs,rfl,by simp,?_⟩,hargs.shift⟩
 refine RCs.of_get _ _ fun j y hj=>?_
 simp only [List.getElem?_map,Option.map_eq_some_iff] at hj
 obtain ⟨v,hv,rfl⟩:=hj
 exact ⟨v,by simpa using hv,rfl,h2 v (List.mem_of_getElem? hv)⟩
end
end Go.Vm
namespace Go.Vm
def strR (P:Program) (hint:Hint) (src dst:TypeId) (fr:Fr) (a:AV):Option (AV×Prop) :=
 match P.underlying src,P.underlying dst with
 | some (.slice E),some .string=>match P.underlying E with
  | some (.int .u8)=>match hint.cs,slv fr a with
   | [.str l],some (1,es)=>some (.d (.str l),es=byteCells l)
   | [.str l],some (0,es)=>some (.d (.str l),es=byteCells l)
   | _,_=>none
  | _=>none
 | _,_=>none
section
variable {P:Program} {e:Env} {G:GEnv} {S:Nat→Prop} {β:Path→Value} {fr:Fr} {w:World} {vals:Nat→Option Value}
theorem push_all:∀ (l:List UInt8) (s:ByteArray),(l.map fun b=>(b.toNat:Int)).foldl (fun r n=>r.push (UInt8.ofNat n.toNat)) s=⟨s.data++l.toArray⟩
 | [],s=>by simp
 | b :: l,s=>by
  rw [List.map_cons,List.foldl_cons,push_all l]
  have h1:UInt8.ofNat (b.toNat:Int).toNat=b:=by simp
  rw [h1]
  show ByteArray.mk (s.data.push b++l.toArray)=_
  congr 1
  rw [Array.push_eq_append,Array.append_assoc]
  congr 1
  simp
theorem strR_ok (hm:Mem e G S β fr vals w) {hint:Hint} {src dst:TypeId} {a av:AV} {obl:Prop} (h:strR P hint src dst fr a=some (av,obl)) (ho:obl) {u:Value} (hr:RFlat S w β (0,0) a u) :
  ∃ v,(convert src dst u).run P w=.ok v w∧RFlat S w β (0,0) av v∧av.isOwn=false:=by
 unfold strR at h
 split at h
 case h_2=>cases h
 rename_i E hs hd
 split at h
 case h_2=>cases h
 rename_i hE
 have key:∀ (l:List UInt8) (sz:Nat) (es:List (List Dat)),slv fr a=some (sz,es)→es=byteCells l→(sz=1∨sz=0)→∃ v,(convert src dst u).run P w=.ok v w∧v=strOf l:=by
  intro l sz es hsl hes hsz
  subst hes
  rcases slv_ok hm hsl hr with ⟨⟨q,rfl⟩,hn⟩ | ⟨b,o,c,arr,E',fz,rfl,_,hb,hes⟩
  ·have hl:l=[]:=by
    cases l with
    | nil=>rfl
    | cons x l=>cases hn
   subst hl
   refine ⟨strOf [],?_,rfl⟩
   rw [run_convert_bytes_string w src dst E q 0 0 hs hE hd]
   cases q with
   | none =>
    simp only [Conv.bytesToString,Sem.run_pure]
    rfl
   | some q =>
    have:=run_bytesToString (P:=P) w q 0 0 [] (by
     have:=run_loadCells_list (P:=P) (w:=w) q [] (fun j v h=>by simp at h)
     simpa using this)
    rw [this]
    rfl
  ·refine ⟨strOf l,?_,rfl⟩
   have hlen:(byteCells l).length=l.length:=by simp [byteCells]
   rw [hlen,run_convert_bytes_string w src dst E _ _ _ hs hE hd]
   rcases hsz with rfl | rfl
   ·have hload:=run_loadCells_list (P:=P) (w:=w) ⟨b,o,none⟩ (l.map fun x=>(.int .u8 x.toNat:Value)) (fun j v hv=>by
     rw [List.getElem?_map,Option.map_eq_some_iff] at hv
     obtain ⟨x,hx,rfl⟩:=hv
     have h1:=REs.get _ _ j [.v (.int .u8 x.toNat)] hes (by simp [byteCells,hx])
     have h2:=h1.2
     simp only [RCs,RD,and_true] at h2
     obtain ⟨u',hu',rfl,_⟩:=h2
     rw [Nat.mul_one] at hu'
     rw [addr_add]
     simp [World.cell?,hb,hu'])
    rw [List.length_map] at hload
    rw [run_bytesToString (P:=P) w ⟨b,o,none⟩ l.length c (l.map fun x=>(x.toNat:Int)) (by rw [hload]; simp [List.map_map,Function.comp_def]),push_all]
    simp only [strOf]
    congr 3
    show (#[]:Array UInt8)++l.toArray=l.toArray
    simp
   ·cases l with
    | nil =>
     have:=run_bytesToString (P:=P) w ⟨b,o,none⟩ 0 c [] (by
      have:=run_loadCells_list (P:=P) (w:=w) ⟨b,o,none⟩ [] (fun j v h=>by simp at h)
      simpa using this)
     rw [List.length_nil,this]
     rfl
    | cons x l =>
     have h1:=REs.get _ _ 0 [.v (.int .u8 x.toNat)] hes (by simp [byteCells])
     exact absurd h1.1 (by simp)
 split at h
 ·rename_i l es hcs hsl
  simp only [Option.some.injEq,Prod.mk.injEq] at h
  obtain ⟨rfl,rfl⟩:=h
  obtain ⟨v,h1,rfl⟩:=key l 1 es hsl ho (.inl rfl)
  exact ⟨_,h1,rfl,rfl⟩
 ·rename_i l es hcs hsl
  simp only [Option.some.injEq,Prod.mk.injEq] at h
  obtain ⟨rfl,rfl⟩:=h
  obtain ⟨v,h1,rfl⟩:=key l 0 es hsl ho (.inr rfl)
  exact ⟨_,h1,rfl,rfl⟩
 ·cases h
def plainVals:List Dat→Option (List Value)
 | []=>some []
 | .v x :: r=>(plainVals r).map (x :: ·)
 | _ :: _=>none
theorem plainVals_ok:∀ (cs:List Dat) (us:List Value) (g:Nat→Option Value) (o:Nat),plainVals cs=some us→RCs S w cs g o→us.length=cs.length∧∀ j u,us[j]? = some u→g (o+j)=some u
 | [],us,g,o,h,_=>by
  simp only [plainVals,Option.some.injEq] at h
  subst h
  exact ⟨rfl,fun j u h=>by simp at h⟩
 | .v x :: r,us,g,o,h,hr=>by
  simp only [plainVals,Option.map_eq_some_iff] at h
  obtain ⟨us',h1,rfl⟩:=h
  simp only [RCs,RD] at hr
  obtain ⟨⟨u,hu,rfl,_⟩,hrest⟩:=hr
  obtain ⟨h2,h3⟩:=plainVals_ok r us' g (o+1) h1 hrest
  refine ⟨by simp [h2],fun j u' hj=>?_⟩
  cases j with
  | zero=>simp at hj; subst hj; simpa using hu
  | succ j =>
   have:=h3 j u' (by simpa using hj)
   simpa [Nat.add_assoc,Nat.add_comm 1 j] using this
 | .str _ :: _,us,g,o,h,_=>by cases h
 | .sl _ _ :: _,us,g,o,h,_=>by cases h
 | .pt _ :: _,us,g,o,h,_=>by cases h
def ifaceR (P:Program) (t:TypeId) (a:AV):Option AV :=
 match P.underlying t with
 | some (.struct _)=>match a with
  | .agg cs=>(plainVals cs).map fun us=>.d (.v (.iface t (.agg us.toArray)))
  | _=>none
 | _=>none
theorem ifaceR_ok {t:TypeId} {a av:AV} (h:ifaceR P t a=some av) {u:Value} (hr:RFlat S w β (0,0) a u) :
  ∃ v,(Instr.makeInterface t u).run P w=.ok v w∧RFlat S w β (0,0) av v∧av.isOwn=false:=by
 unfold ifaceR at h
 split at h
 case h_2=>cases h
 rename_i fs hu
 split at h
 case h_2=>cases h
 rename_i cs
 simp only [Option.map_eq_some_iff] at h
 obtain ⟨us,h1,rfl⟩:=h
 obtain ⟨cells,rfl,hl,hc⟩:=hr
 obtain ⟨h2,h3⟩:=plainVals_ok cs us _ 0 h1 hc
 have hcells:cells=us:=by
  refine List.ext_getElem? fun j=>?_
  rcases Nat.lt_or_ge j us.length with hj | hj
  ·have:=h3 j us[j] (List.getElem?_eq_getElem hj)
   rw [Nat.zero_add] at this
   rw [this,List.getElem?_eq_getElem hj]
  ·rw [List.getElem?_eq_none (by omega),List.getElem?_eq_none hj]
 subst hcells
 exact ⟨_,by simp [Instr.makeInterface,run_underlying hu],⟨rfl,rfl⟩,rfl⟩
end
end Go.Vm
namespace Go.Vm
def partAt (places:Nat→Option (Nat×Nat)) (cs:List Dat) (q:Nat×AV):Option (List Dat) :=
 match places q.1,cellsD q.2 with
 | some (off,size),some ds=>if ds.length=size∧off+ds.length≤cs.length then some (spl off ds cs) else none
 | _,_=>none
def buildD (P:Program) (raw:Bool) (t:TypeId) (parts:List (Nat×AV)):Option (List Dat) :=
 match P.underlying t,zeroX P raw t with
 | some (.struct fs),some zs=>match fs.toList.mapM (fun f=>(P.info? f.type).map fun i=>(f.offset,i.size)) with
  | some places=>parts.foldlM (partAt (places.toArray[·]?)) zs
  | none=>none
 | some (.array _ E),some zs=>match P.info? E with
  | some i=>parts.foldlM (partAt (fun k=>some (k * i.size,i.size))) zs
  | none=>none
 | _,_=>none
def cellsW (fr:Fr):AV→Option (List AV)
 | .vw (s,0)=>match fget fr s with
  | .own _ _ _=>some [.vw (s,0)]
  | _=>none
 | a=>(cellsD a).map (·.map .d)
def partAtW (fr:Fr) (places:Nat→Option (Nat×Nat)) (cs:List AV) (q:Nat×AV):Option (List AV) :=
 match places q.1,cellsW fr q.2 with
 | some (off,size),some ds=>if ds.length=size∧off+ds.length≤cs.length then some (spl off ds cs) else none
 | _,_=>none
def buildW (P:Program) (raw:Bool) (fr:Fr) (t:TypeId) (parts:List (Nat×AV)):Option (List AV) :=
 match P.underlying t,zeroX P raw t with
 | some (.struct fs),some zs=>match fs.toList.mapM (fun f=>(P.info? f.type).map fun i=>(f.offset,i.size)) with
  | some places=>parts.foldlM (partAtW fr (places.toArray[·]?)) (zs.map .d)
  | none=>none
 | _,_=>none
def aggEq (P:Program) (cs ds:List Dat):List Field→Option Bool
 | []=>some true
 | f :: fs => if f.name ≠ "_" then match partD P f.type cs f.offset,partD P f.type ds f.offset,P.underlying f.type with
   | some (.d (.v (.int k1 a))),some (.d (.v (.int k2 b))),some (.int _)=>if k1=k2 then (aggEq P cs ds fs).map fun r=>((a == b) && r) else none
   | some (.d (.v (.bool a))),some (.d (.v (.bool b))),some .bool=>(aggEq P cs ds fs).map fun r=>((a == b) && r)
   | some (.d (.str a)),some (.d (.str b)),some .string=>(aggEq P cs ds fs).map fun r=>((a == b) && r)
   | _,_,_=>none
  else none
def itemsEq (P:Program) (e:TypeId) (cs ds:List Dat):List Nat→Option Bool
 | []=>some true
 | i :: is=>match partD P e cs i,partD P e ds i,P.underlying e with
   | some (.d (.v (.int k1 a))),some (.d (.v (.int k2 b))),some (.int _)=>if k1=k2 then (itemsEq P e cs ds is).map fun r=>((a == b) && r) else none
   | _,_,_=>none
def binAgg (P:Program) (op:BinOp) (t:TypeId) (cs ds:List Dat):Option Bool :=
 match P.underlying t with
 | some (.array n e)=>if P.cellsOf e=1∧(P.info? e).isSome=true∧P.eqGuardType P.depth t=false then match op with
   | .eql=>itemsEq P e cs ds (List.range n)
   | .neq=>(itemsEq P e cs ds (List.range n)).map fun r => !r
   | _=>none
  else none
 | some (.struct fs)=>if P.stoodInHeld t=false∧P.eqGuardType P.depth t=false then match op with
   | .eql=>aggEq P cs ds fs.toList
   | .neq=>(aggEq P cs ds fs.toList).map fun r => !r
   | _=>none
  else none
 | _=>none
def isBoolT (P:Program) (t:TypeId):Bool :=
 match P.underlying t with
 | some .bool=>true
 | _=>false
def nilCmp (P:Program) (op:BinOp) (t:TypeId) (fr:Fr) (p:Path):Option Bool :=
 match P.underlying t,pget fr p with
 | some (.slice _),.own κ _ es=>if 2199023255552≤κ then match op with
  | .eql=>some es.isEmpty
  | .neq=>some (!es.isEmpty)
  | _=>none
  else none
 | _,_=>none
def eqB (op:BinOp) (b:Bool):Option Bool:=match op with
 | .eql=>some b
 | .neq=>some (!b)
 | _=>none
def ifCmp (P:Program) (op:BinOp) (t:TypeId) (Y:Operand):Dat→Dat→Option Bool
 | .v x,.v y=>match P.underlying t with
  | some (.interface _)=>match x,y with
   | .iface _ _,.nilIface=>eqB op false
   | .nilIface,.nilIface=>match Y with
    | .const _=>eqB op true
    | _=>none
   | _,_=>none
  | _=>none
 | _,_=>none
def opR (P:Program) (hint:Hint) (val:Operand→AV) (fr:Fr) (o:Oper):Option (AV×Prop) :=
 match o.op with
 | .move x=>some (val x,True)
 | .assign x=>some (val x,True)
 | .load t x=>loadR P t hint fr (val x)
 | .binOp op t x y _=>match val x,val y with
  | .d a,.d b=>match binD op a b with
   | some (z,obl)=>some (.d z,obl)
   | none=>if isBoolT P t then (boolD op a b).map fun z=>(.d z,True) else (ifCmp P op t y a b).map fun r=>(.d (.v (.bool r)),True)
  | .agg cs,.agg ds=>(binAgg P op t cs ds).map fun r=>(.d (.v (.bool r)),True)
  | .vw p,.d (.v (.slice none 0 0))=>(nilCmp P op t fr p).map fun b=>(.d (.v (.bool b)),True)
  | _,_=>none
 | .unOp op _ x=>match val x with
  | .d a=>(unD op a).map fun z=>(.d z,True)
  | _=>none
 | .convert s d x=>match strR P hint s d fr (val x) with
  | some r=>some r
  | none=>(convR P s d (val x)).map (·,True)
 | .makeInterface t x=>(ifaceR P t (val x)).map (·,True)
 | .fieldAddr s x f=>(fieldAddrR P s f (val x)).map (·,True)
 | .field s x f=>(fieldR P s f (val x)).map (·,True)
 | .indexAddr t x ix=>indexAddrR P t hint fr (val x) (val ix)
 | .index t x ix=>indexR P t hint (val x) (val ix)
 | .slice t x lo hi none=>match sliceV P hint t fr (val x) (lo.map val) (hi.map val) with
  | some r=>some r
  | none=>match sliceA P hint t (val x) (lo.map val) (hi.map val) with
   | some r=>some r
   | none=>sliceR P t (val x) (lo.map val) (hi.map val)
 | .build t parts=>match buildD P (!hint.take.isEmpty) t (parts.toList.map fun q=>(q.1,val q.2)) with
  | some cs=>some (.agg cs,True)
  | none=>(buildW P (!hint.take.isEmpty) fr t (parts.toList.map fun q=>(q.1,val q.2))).map fun cs=>(.agw cs,True)
 | .makeFunc (.func f) ⟨[]⟩ caps=>(capsR (caps.toList.map val)).map fun cs=>(.clo f cs,True)
 | .nilCheck x=>match val x with
  | .bp y off=>some (.bp y off,True)
  | .ep p sz i off=>some (.ep p sz i off,True)
  | .d (.pt cs)=>some (.d (.pt cs),True)
  | .vw p=>match pget fr p with
   | .arr _ _ _=>some (.vw p,True)
   | _=>none
  | _=>none
 | .call { callee:=.builtin .len,args:=⟨[x]⟩,argTypes:=⟨[t]⟩ }=>(lenR P t fr (val x)).map (·,True)
 | .call { callee:=.builtin .cap,args:=⟨[x]⟩,argTypes:=⟨[t]⟩ }=>(capNil P t (val x)).map (·,True)
 | .call { callee:=.builtin .max,args:=⟨x :: r⟩,argTypes:=_ }=>(maxR false (val x) (r.map val)).map (·,True)
 | .call { callee:=.builtin .min,args:=⟨x :: r⟩,argTypes:=_ }=>(maxR true (val x) (r.map val)).map (·,True)
 | .lookup t x ix false=>(lookAt P t fr (val x) (val ix)).map fun q=>(.d (.v (.int q.1 (q.2.getD 0))),True)
 | _=>none
section
variable {P:Program} {e:Env} {G:GEnv} {S:Nat→Prop} {β:Path→Value} {fr:Fr} {w:World} {a:Act}
theorem partAt_ok {place:Nat→Option (Nat×Nat)} {cs cs':List Dat} {q:Nat×AV} (h:partAt place cs q=some cs'):∃ off size ds,place q.1=some (off,size)∧cellsD q.2=some ds∧ds.length=size∧off+ds.length≤cs.length∧cs'=spl off ds cs:=by
 unfold partAt at h
 split at h
 ·rename_i off size ds h1 h2
  split at h
  ·rename_i hc
   simp only [Option.some.injEq] at h
   exact ⟨off,size,ds,h1,h2,hc.1,hc.2,h.symm⟩
  ·cases h
 ·cases h
theorem run_fillAt (place:Nat→Option (Nat×Nat)) :
    ∀ (parts:List (Nat×AV)) (us:List (Nat×Value)) (cs cs':List Dat) (cells:Array Value),All2 (fun _ (p:Nat×AV) (q:Nat×Value)=>q.1=p.1∧RFlat S w β (0,0) p.2 q.2) 0 parts us →
    parts.foldlM (partAt place) cs=some cs'→cells.size=cs.length→RCs S w cs (fun j=>cells.toList[j]?) 0 →
    ∃ cells',Instr.fill place cells us=some cells'∧cells'.size=cs'.length∧RCs S w cs' (fun j=>cells'.toList[j]?) 0
  | [],us,cs,cs',cells,hp,h,hl,hr=>by
    cases us with
    | cons _ _=>simp [All2] at hp
    | nil =>
      simp only [List.foldlM_nil,Option.pure_def,Option.some.injEq] at h
      subst h
      exact ⟨cells,rfl,hl,hr⟩
  | (i,v) :: parts,us,cs,cs',cells,hp,h,hl,hr=>by
    cases us with
    | nil=>simp [All2] at hp
    | cons q us =>
      obtain ⟨j,u⟩:=q
      simp only [All2] at hp
      obtain ⟨⟨rfl,hv⟩,hrest⟩:=hp
      simp only [List.foldlM_cons,Option.bind_eq_bind,Option.bind_eq_some_iff] at h
      obtain ⟨cs1,h1,h2⟩:=h
      obtain ⟨off,size,ds,hpl,hds,hdl,hle,rfl⟩:=partAt_ok h1
      obtain ⟨h3,h4⟩:=cellsD_ok hds hv (fun x v=>RD_one x v)
      have hul:u.cells.size=ds.length:=by simpa using h3
      have hsp:u.cells.zipIdx.foldl (fun cs (x:Value×Nat)=>cs.setIfInBounds (off+x.2) x.1) cells=(spl off u.cells.toList cells.toList).toArray:=zipIdx_foldl off u.cells cells (by omega)
      have hr':=RCs.spl (off:=off) hr h4 (by simpa using hl) h3 hle
      obtain ⟨cells',hf,h5,h6⟩:=run_fillAt place parts us (spl off ds cs) cs' (spl off u.cells.toList cells.toList).toArray (by
          refine All2.of_get (All2.len hrest) fun k p q hp hq=>?_
          obtain ⟨q',hq',hpq⟩:=All2.get hrest k p hp
          rw [hq] at hq'
          cases hq'
          exact hpq) h2 (by
          have e1:(spl off u.cells.toList cells.toList).length=cells.toList.length:=spl_len (by simp; omega)
          have e2:(spl off ds cs).length=cs.length:=spl_len hle
          rw [List.size_toArray,e1,e2]
          simpa using hl) (by simpa using hr')
      refine ⟨cells',?_,h5,h6⟩
      simp only [Instr.fill,hpl]
      rw [if_neg (by simp; omega)]
      rw [← hf]
      congr 1
theorem run_build {t:TypeId} {raw:Bool} {parts:List (Nat×AV)} {cs:List Dat} (h:buildD P raw t parts=some cs) {us:List (Nat×Value)} (hp:All2 (fun _ (p:Nat×AV) (q:Nat×Value)=>q.1=p.1∧RFlat S w β (0,0) p.2 q.2) 0 parts us) :
  ∃ u,(Instr.build t us.toArray).run P w=.ok u w∧RFlat S w β (0,0) (.agg cs) u:=by
 unfold buildD at h
 split at h
 ·rename_i fs zs hu hz
  obtain ⟨i,z,hi,hzz,hsz,hlen,hone,hcs⟩:=zeroX_ok hz
  split at h
  case h_2=>cases h
  rename_i places hpl
  obtain ⟨cells',hf,h5,h6⟩:=run_fillAt (S:=S) (w:=w) (places.toArray[·]?) parts us zs cs z.cells hp h (by omega) (hcs S w)
  refine ⟨.agg cells',Go.run_build w t us.toArray cells' ?_,⟨cells'.toList,rfl,by simpa using h5,h6⟩⟩
  simp only [Program.built,hi,hu,hzz,hpl]
  exact hf
 ·rename_i n E zs hu hz
  obtain ⟨i,z,hi,hzz,hsz,hlen,hone,hcs⟩:=zeroX_ok hz
  split at h
  case h_2=>cases h
  rename_i ei hei
  obtain ⟨cells',hf,h5,h6⟩:=run_fillAt (S:=S) (w:=w) (fun k=>some (k * ei.size,ei.size)) parts us zs cs z.cells hp h (by omega) (hcs S w)
  refine ⟨.agg cells',Go.run_build w t us.toArray cells' ?_,⟨cells'.toList,rfl,by simpa using h5,h6⟩⟩
  simp only [Program.built,hi,hu,hzz,hei]
  exact hf
 ·cases h
theorem cellsW_ok {G:GEnv} {vals:Nat→Option Value} (hm:Mem e G S β fr vals w) {a:AV} {cs:List AV} (h:cellsW fr a=some cs) {u:Value} (hr:RFlat S w β (0,0) a u) :
  u.cells.toList.length=cs.length∧(∀ v∈u.cells.toList,v.oneCell'=true)∧All2 (fun _=>RCap S w β) 0 cs u.cells.toList:=by
 have hD:∀ {ds:List Dat},cellsD a=some ds→cs=ds.map .d→u.cells.toList.length=cs.length∧(∀ v∈u.cells.toList,v.oneCell'=true)∧All2 (fun _=>RCap S w β) 0 cs u.cells.toList:=by
  rintro ds hds rfl
  obtain ⟨h1,h2⟩:=cellsD_ok hds hr (fun x v=>RD_one x v)
  refine ⟨by simpa using h1,RCs.one h2 h1,All2.of_get (by simpa using h1.symm) fun j b c hb hc=>?_⟩
  simp only [List.getElem?_map,Option.map_eq_some_iff] at hb
  obtain ⟨d,hd,rfl⟩:=hb
  obtain ⟨v,hv,hrd⟩:=RCs.get ds 0 j d h2 hd
  simp only [Nat.zero_add] at hv
  rw [hc] at hv
  cases hv
  exact hrd
 unfold cellsW at h
 split at h
 ·rename_i s
  split at h
  case h_2=>cases h
  rename_i hf
  simp only [Option.some.injEq] at h
  subst h
  obtain ⟨u0,hr0,_⟩:=hm.rel s
  rw [hf] at hr0
  have hu:u=β (s,0):=hr
  have h0:u0=β (s,0):=hr0.1
  rw [← h0] at hu
  subst hu
  have hc:u.cells=#[u]∧u.oneCell'=true:=by
   rcases hr0.2 with ⟨h,_⟩ | ⟨b,off,c,arr,E,fz,h,_⟩ <;> (rw [h]; exact ⟨rfl,rfl⟩)
  rw [hc.1]
  exact ⟨rfl,by simpa using hc.2,h0,trivial⟩
 ·simp only [Option.map_eq_some_iff] at h
  obtain ⟨ds,hds,rfl⟩:=h
  exact hD hds rfl
theorem All2.splice {α γ:Type} {R:α→γ→Prop} {as bs:List α} {l m:List γ} {off:Nat} (h1:All2 (fun _=>R) 0 as l) (h2:All2 (fun _=>R) 0 bs m) (hle:off+bs.length≤as.length):All2 (fun _=>R) 0 (spl off bs as) (spl off m l):=by
 have e1:=All2.len h1
 have e2:=All2.len h2
 have hle':off+m.length≤l.length:=by omega
 refine All2.of_get (by rw [spl_len hle,spl_len hle']; exact e1) fun j a c ha hc=>?_
 rw [spl_get hle] at ha
 rw [spl_get hle'] at hc
 rw [← e2] at hc
 split at ha
 ·rename_i hin
  rw [if_pos hin] at hc
  obtain ⟨c',hc',hr⟩:=All2.get h2 (j - off) a ha
  rw [hc] at hc'
  cases hc'
  exact hr
 ·rename_i hin
  rw [if_neg hin] at hc
  obtain ⟨c',hc',hr⟩:=All2.get h1 j a ha
  rw [hc] at hc'
  cases hc'
  exact hr
theorem run_fillAtW {G:GEnv} {vals:Nat→Option Value} (hm:Mem e G S β fr vals w) (place:Nat→Option (Nat×Nat)) :
    ∀ (parts:List (Nat×AV)) (us:List (Nat×Value)) (cs cs':List AV) (cells:Array Value),All2 (fun _ (p:Nat×AV) (q:Nat×Value)=>q.1=p.1∧RFlat S w β (0,0) p.2 q.2) 0 parts us →
    parts.foldlM (partAtW fr place) cs=some cs'→(∀ v∈cells.toList,v.oneCell'=true)→All2 (fun _=>RCap S w β) 0 cs cells.toList →
    ∃ cells',Instr.fill place cells us=some cells'∧(∀ v∈cells'.toList,v.oneCell'=true)∧All2 (fun _=>RCap S w β) 0 cs' cells'.toList
  | [],us,cs,cs',cells,hp,h,hl,hr=>by
    cases us with
    | cons _ _=>simp [All2] at hp
    | nil =>
      simp only [List.foldlM_nil,Option.pure_def,Option.some.injEq] at h
      subst h
      exact ⟨cells,rfl,hl,hr⟩
  | (i,v) :: parts,us,cs,cs',cells,hp,h,hl,hr=>by
    cases us with
    | nil=>simp [All2] at hp
    | cons q us =>
      obtain ⟨j,u⟩:=q
      simp only [All2] at hp
      obtain ⟨⟨rfl,hv⟩,hrest⟩:=hp
      simp only [List.foldlM_cons,Option.bind_eq_bind,Option.bind_eq_some_iff] at h
      obtain ⟨cs1,h1,h2⟩:=h
      unfold partAtW at h1
      split at h1
      case h_2=>cases h1
      rename_i off size ds hpl hds
      split at h1
      case isFalse=>cases h1
      rename_i hc
      obtain ⟨hdl,hle⟩:=hc
      simp only [Option.some.injEq] at h1
      subst h1
      obtain ⟨h3,h4,h5⟩:=cellsW_ok hm hds hv
      have hul:u.cells.size=ds.length:=by simpa using h3
      have hlen:cells.size=cs.length:=by simpa using (All2.len hr).symm
      have hsp:u.cells.zipIdx.foldl (fun cs (x:Value×Nat)=>cs.setIfInBounds (off+x.2) x.1) cells=(spl off u.cells.toList cells.toList).toArray:=zipIdx_foldl off u.cells cells (by omega)
      obtain ⟨cells',hf,h6,h7⟩:=run_fillAtW hm place parts us (spl off ds cs) cs' (spl off u.cells.toList cells.toList).toArray (by
          refine All2.of_get (All2.len hrest) fun k p q hp hq=>?_
          obtain ⟨q',hq',hpq⟩:=All2.get hrest k p hp
          rw [hq] at hq'
          cases hq'
          exact hpq) h2 (by
          intro v hv
          obtain ⟨k,hk⟩:=List.getElem?_of_mem hv
          rw [List.toList_toArray,spl_get (by simp; omega)] at hk
          split at hk
          · exact h4 v (List.mem_of_getElem? hk)
          · exact hl v (List.mem_of_getElem? hk)) (by
          rw [List.toList_toArray]
          exact All2.splice hr h5 hle)
      refine ⟨cells',?_,h6,h7⟩
      simp only [Instr.fill,hpl]
      rw [if_neg (by simp; omega)]
      rw [← hf]
      congr 1
theorem run_buildW {G:GEnv} {vals:Nat→Option Value} (hm:Mem e G S β fr vals w) {t:TypeId} {raw:Bool} {parts:List (Nat×AV)} {cs:List AV} (h:buildW P raw fr t parts=some cs) {us:List (Nat×Value)} (hp:All2 (fun _ (p:Nat×AV) (q:Nat×Value)=>q.1=p.1∧RFlat S w β (0,0) p.2 q.2) 0 parts us) :
  ∃ u,(Instr.build t us.toArray).run P w=.ok u w∧RFlat S w β (0,0) (.agw cs) u:=by
 unfold buildW at h
 split at h
 case h_2=>cases h
 rename_i fs zs hu hz
 obtain ⟨i,z,hi,hzz,hsz,hlen,hone,hcs⟩:=zeroX_ok hz
 split at h
 case h_2=>cases h
 rename_i places hpl
 have hzl:z.cells.toList.length=zs.length:=by simpa using (by omega:z.cells.size=zs.length)
 obtain ⟨cells',hf,h5,h6⟩:=run_fillAtW hm (places.toArray[·]?) parts us (zs.map .d) cs z.cells hp h (RCs.one (hcs S w) hzl) (by
  refine All2.of_get (by simpa using hzl.symm) fun j b c hb hc=>?_
  simp only [List.getElem?_map,Option.map_eq_some_iff] at hb
  obtain ⟨d,hd,rfl⟩:=hb
  obtain ⟨v,hv,hrd⟩:=RCs.get zs 0 j d (hcs S w) hd
  simp only [Nat.zero_add] at hv
  rw [hc] at hv
  cases hv
  exact hrd)
 refine ⟨.agg cells',Go.run_build w t us.toArray cells' ?_,⟨cells'.toList,rfl,h5,h6⟩⟩
 simp only [Program.built,hi,hu,hzz,hpl]
 exact hf
theorem all2_map {val:Operand→AV} {ρ:Operand→Value} (hval:∀ x,RFlat S w β (0,0) (val x) (ρ x)):∀ (xs:List Operand) (i:Nat),All2 (fun _ x y=>RFlat S w β (0,0) x y) i (xs.map val) (xs.map ρ)
 | [],_=>trivial
 | x :: xs,i=>⟨hval x,all2_map hval xs (i+1)⟩
theorem all2_parts {val:Operand→AV} {ρ:Operand→Value} (hval:∀ x,RFlat S w β (0,0) (val x) (ρ x)):∀ (xs:List (Nat×Operand)) (i:Nat),All2 (fun _ (p:Nat×AV) (q:Nat×Value)=>q.1=p.1∧RFlat S w β (0,0) p.2 q.2) i (xs.map fun q=>(q.1,val q.2)) (xs.map fun q=>(q.1,ρ q.2))
 | [],_=>trivial
 | x :: xs,i=>⟨⟨rfl,hval x.2⟩,all2_parts hval xs (i+1)⟩
theorem aggEq_ok {cs ds:List Dat} {l m:List Value} (hl:l.length=cs.length) (hm:m.length=ds.length) (hc:RCs S w cs (fun j=>l[j]?) 0) (hd:RCs S w ds (fun j=>m[j]?) 0) (d:Nat):∀ (fs:List Field) {r:Bool},aggEq P cs ds fs=some r→(Op.eqFields (d+1) ⟨l⟩ ⟨m⟩ fs).run P w=.ok r w
 | [],r,h=>by
  simp only [aggEq,Option.some.injEq] at h
  subst h
  rfl
 | f :: fs,r,h=>by
  simp only [aggEq] at h
  split at h
  case isFalse=>cases h
  rename_i hn
  simp only [Op.eqFields,if_pos hn]
  have fin:∀ {u v:Value} {b r':Bool},(part f.type ⟨l⟩ f.offset).run P w=.ok u w→(part f.type ⟨m⟩ f.offset).run P w=.ok v w→(Op.equalIn (d+1) f.type u v).run P w=.ok b w→aggEq P cs ds fs=some r'→r=(b && r') →
    (do
     let a ← part f.type ⟨l⟩ f.offset
     let b ← part f.type ⟨m⟩ f.offset
     let r ← Op.equalIn (d+1) f.type a b
     if (!r)=true then pure false else Op.eqFields (d+1) ⟨l⟩ ⟨m⟩ fs:Sem Bool).run P w=.ok r w:=by
   intro u v b r' h1 h2 h3 h4 h5
   have ih:=aggEq_ok hl hm hc hd d fs h4
   simp only [Sem.run_bind,h1,h2,h3,Result.andThen_ok]
   subst h5
   cases b with
   | true=>simpa using ih
   | false=>simp
  split at h
  ·rename_i k1 a k2 b k h1 h2 h3
   split at h
   case isFalse=>cases h
   rename_i hk
   subst hk
   simp only [Option.map_eq_some_iff] at h
   obtain ⟨r',h4,rfl⟩:=h
   obtain ⟨u,hu1,hu2,_⟩:=run_part (β:=fun _=>.bool false) h1 hl hc
   obtain ⟨v,hv1,hv2,_⟩:=run_part (β:=fun _=>.bool false) h2 hm hd
   have e1:u=.int k1 a:=hu2.1
   have e2:v=.int k1 b:=hv2.1
   subst e1 e2
   exact fin hu1 hv1 (run_equalIn_int w d f.type k1 k a b h3) h4 rfl
  ·rename_i a b h1 h2 h3
   simp only [Option.map_eq_some_iff] at h
   obtain ⟨r',h4,rfl⟩:=h
   obtain ⟨u,hu1,hu2,_⟩:=run_part (β:=fun _=>.bool false) h1 hl hc
   obtain ⟨v,hv1,hv2,_⟩:=run_part (β:=fun _=>.bool false) h2 hm hd
   have e1:u=.bool a:=hu2.1
   have e2:v=.bool b:=hv2.1
   subst e1 e2
   exact fin hu1 hv1 (run_equalIn_bool P w d f.type a b h3) h4 rfl
  ·rename_i a b h1 h2 h3
   simp only [Option.map_eq_some_iff] at h
   obtain ⟨r',h4,rfl⟩:=h
   obtain ⟨u,hu1,hu2,_⟩:=run_part (β:=fun _=>.bool false) h1 hl hc
   obtain ⟨v,hv1,hv2,_⟩:=run_part (β:=fun _=>.bool false) h2 hm hd
   have e1:u=strOf a:=hu2
   have e2:v=strOf b:=hv2
   subst e1 e2
   have hs:(⟨a.toArray⟩:ByteArray).toList=a:=by rw [ByteArray.toList_eq]
   have hs2:(⟨b.toArray⟩:ByteArray).toList=b:=by rw [ByteArray.toList_eq]
   refine fin hu1 hv1 (run_equalIn_string w d f.type ⟨a.toArray⟩ ⟨b.toArray⟩ h3) h4 ?_
   rw [hs,hs2]
  ·cases h
theorem itemsEq_ok {cs ds:List Dat} {l m:List Value} {e:TypeId} (he:P.cellsOf e=1) (hl:l.length=cs.length) (hm:m.length=ds.length) (hc:RCs S w cs (fun j=>l[j]?) 0) (hd:RCs S w ds (fun j=>m[j]?) 0) (d:Nat):∀ (is:List Nat) {r:Bool},itemsEq P e cs ds is=some r→(Op.eqItems (d+1) e (P.cellsOf e) ⟨l⟩ ⟨m⟩ is).run P w=.ok r w
 | [],r,h=>by
  simp only [itemsEq,Option.some.injEq] at h
  subst h
  rfl
 | i :: is,r,h=>by
  simp only [itemsEq] at h
  split at h
  ·rename_i k1 a k2 b k h1 h2 h3
   split at h
   case isFalse=>cases h
   rename_i hk
   subst hk
   simp only [Option.map_eq_some_iff] at h
   obtain ⟨r',h4,rfl⟩:=h
   obtain ⟨u,hu1,hu2,_⟩:=run_part (β:=fun _=>.bool false) h1 hl hc
   obtain ⟨v,hv1,hv2,_⟩:=run_part (β:=fun _=>.bool false) h2 hm hd
   have e1:u=.int k1 a:=hu2.1
   have e2:v=.int k1 b:=hv2.1
   subst e1 e2
   have ih:=itemsEq_ok he hl hm hc hd d is h4
   rw [he] at ih
   simp only [Op.eqItems,he,Nat.mul_one,Sem.run_bind,hu1,hv1,run_equalIn_int w d e k1 k a b h3,Result.andThen_ok]
   cases hab:(a == b) with
   | true=>simpa using ih
   | false=>simp
  ·cases h
theorem binAgg_ok {op:BinOp} {t:TypeId} {cs ds:List Dat} {r:Bool} (h:binAgg P op t cs ds=some r) {X Y:Operand} {u v:Value} (hu:RFlat S w β (0,0) (.agg cs) u) (hv:RFlat S w β (0,0) (.agg ds) v) :
  (do eqGuard op t X Y u v; binOp op t u v:Sem Value).run P w=.ok (.bool r) w:=by
 obtain ⟨l,rfl,hl,hc⟩:=hu
 obtain ⟨m,rfl,hm,hd⟩:=hv
 unfold binAgg at h
 split at h
 case h_3=>cases h
 case h_1 =>
  rename_i n e hu
  split at h
  case isFalse=>cases h
  rename_i hh
  obtain ⟨i,hi⟩:=Option.isSome_iff_exists.1 hh.2.1
  have heq:∀ b,itemsEq P e cs ds (List.range n)=some b→(Op.equalIn 10000 t (.agg ⟨l⟩) (.agg ⟨m⟩)).run P w=.ok b w:=by
   intro b hb
   rw [run_equalIn_array w 9999 ⟨l⟩ ⟨m⟩ hu hi]
   exact itemsEq_ok hh.1 hl hm hc hd 9998 _ hb
  rw [Sem.run_bind,run_eqGuard_agg w op t X Y _ _ hh.2.2,Result.andThen_ok]
  split at h
  ·rw [run_eql_struct,heq r h]
   rfl
  ·simp only [Option.map_eq_some_iff] at h
   obtain ⟨b,hb,rfl⟩:=h
   rw [run_neq_struct,heq b hb]
   rfl
  ·cases h
 rename_i fs hfs
 split at h
 case isFalse=>cases h
 rename_i hh
 have hf:P.fieldsOf t=fs:=by simp [Program.fieldsOf,hfs]
 have heq:∀ b,aggEq P cs ds fs.toList=some b→(Op.equalIn 10000 t (.agg ⟨l⟩) (.agg ⟨m⟩)).run P w=.ok b w:=by
  intro b hb
  rw [run_equalIn_agg w 9999 t ⟨l⟩ ⟨m⟩ (by rw [hf]; exact hfs) hh.1,hf]
  exact aggEq_ok hl hm hc hd 9998 fs.toList hb
 rw [Sem.run_bind,run_eqGuard_agg w op t X Y _ _ hh.2,Result.andThen_ok]
 split at h
 ·rw [run_eql_struct,heq r h]
  rfl
 ·simp only [Option.map_eq_some_iff] at h
  obtain ⟨b,hb,rfl⟩:=h
  rw [run_neq_struct,heq b hb]
  rfl
 ·cases h
theorem run_equalIn_nil' (d:Nat) {t E:TypeId} {q:Option Addr} {l c:Nat} (h:P.underlying t=some (.slice E)):(Op.equalIn (d+1) t (.slice q l c) (.slice none 0 0)).run P w=.ok q.isNone w:=by
 cases q <;> simp [Op.equalIn,run_underlying h]
theorem nilCmp_ok {G:GEnv} {vals:Nat→Option Value} (hm:Mem e G S β fr vals w) {op:BinOp} {t:TypeId} {p:Path} {b:Bool} (h:nilCmp P op t fr p=some b) {X Y:Operand} {u v:Value} (hu:RFlat S w β (0,0) (.vw p) u) (hv:v=.slice none 0 0) :
  (do eqGuard op t X Y u v; binOp op t u v:Sem Value).run P w=.ok (.bool b) w:=by
 unfold nilCmp at h
 split at h
 case h_2=>cases h
 rename_i E κ sz es hE hp
 split at h
 case isFalse=>cases h
 rename_i hκ
 have hu':u=β p:=hu
 have ho:=pget_own hm hp
 rw [← hu'] at ho
 subst hv
 obtain ⟨q,l,c,rfl,hq⟩:∃ q l c,u=.slice q l c∧q.isNone=es.isEmpty:=by
  rcases ho with ⟨rfl,rfl⟩ | ⟨b,off,c,arr,E',fz,rfl,_,_,_,_,hk,_⟩
  ·exact ⟨none,0,0,rfl,rfl⟩
  ·refine ⟨_,_,_,rfl,?_⟩
   have:=hk.2.2 hκ
   cases es with
   | nil=>exact absurd rfl this
   | cons _ _=>rfl
 have he:(Op.equal t (.slice q l c) (.slice none 0 0)).run P w=.ok q.isNone w:=run_equalIn_nil' 9999 hE
 split at h
 ·simp only [Option.some.injEq] at h
  subst h
  have hg:eqGuard .eql t X Y (.slice q l c) (.slice none 0 0)=pure ():=rfl
  rw [hg,← hq]
  simp only [Sem.run_bind,Sem.run_pure,Result.andThen_ok,binOp]
  simp [he]
 ·simp only [Option.some.injEq] at h
  subst h
  have hg:eqGuard .neq t X Y (.slice q l c) (.slice none 0 0)=pure ():=rfl
  rw [hg,← hq]
  simp only [Sem.run_bind,Sem.run_pure,Result.andThen_ok,binOp]
  simp [he]
 ·cases h
theorem run_equalIn_if (d:Nat) {t:TypeId} {ms:_} (h:P.underlying t=some (.interface ms)) (t':TypeId) (x':Value):(Op.equalIn (d+1) t (.iface t' x') .nilIface).run P w=.ok false w:=by
 simp [Op.equalIn,run_underlying h]
theorem run_equalIn_ifn (d:Nat) {t:TypeId} {ms:_} (h:P.underlying t=some (.interface ms)):(Op.equalIn (d+1) t .nilIface .nilIface).run P w=.ok true w:=by
 simp [Op.equalIn,run_underlying h]
theorem ifCmp_ok {op:BinOp} {t:TypeId} {X Y:Operand} {A B:Dat} {r:Bool} (h:ifCmp P op t Y A B=some r) {u v:Value} (hu:RD S w A u) (hv:RD S w B v) :
  (do eqGuard op t X Y u v; binOp op t u v:Sem Value).run P w=.ok (.bool r) w:=by
 unfold ifCmp at h
 split at h
 case h_2=>cases h
 rename_i x y
 have hu':u=x:=hu.1
 have hv':v=y:=hv.1
 subst hu' hv'
 split at h
 case h_2=>cases h
 rename_i ms hms
 split at h
 ·rename_i t' x'
  have he:(Op.equal t (.iface t' x') .nilIface).run P w=.ok false w:=run_equalIn_if 9999 hms t' x'
  unfold eqB at h
  split at h
  ·cases h
   have hg:eqGuard .eql t X Y (.iface t' x') .nilIface=pure ():=rfl
   rw [hg]
   simp only [Sem.run_bind,Sem.run_pure,Result.andThen_ok,binOp]
   simp [he]
  ·cases h
   have hg:eqGuard .neq t X Y (.iface t' x') .nilIface=pure ():=rfl
   rw [hg]
   simp only [Sem.run_bind,Sem.run_pure,Result.andThen_ok,binOp]
   simp [he]
  ·cases h
 ·split at h
  case h_2=>cases h
  rename_i c
  have he:(Op.equal t .nilIface .nilIface).run P w=.ok true w:=run_equalIn_ifn 9999 hms
  unfold eqB at h
  split at h
  ·cases h
   have hg:eqGuard .eql t X (.const c) .nilIface .nilIface=pure ():=by simp [eqGuard]
   rw [hg]
   simp only [Sem.run_bind,Sem.run_pure,Result.andThen_ok,binOp]
   simp [he]
  ·cases h
   have hg:eqGuard .neq t X (.const c) .nilIface .nilIface=pure ():=by simp [eqGuard]
   rw [hg]
   simp only [Sem.run_bind,Sem.run_pure,Result.andThen_ok,binOp]
   simp [he]
  ·cases h
 ·cases h
theorem opR_ok (hm:Mem e G S β fr (valsOf e a) w) {hint:Hint} {val:Operand→AV} (hval:∀ x,RFlat S w β (0,0) (val x) (a.eval x)) {o:Oper} {av:AV} {obl:Prop} (h:opR P hint val fr o=some (av,obl)) (ho:obl) :
  ∃ u,(execOp a.eval o).run P w=.ok (.value u) w∧RFlat S w β (0,0) av u:=by
 obtain ⟨dst,op,type,pos,after,guard⟩:=o
 unfold opR at h
 simp only at h
 have fin:∀ {s:Sem Value} {u:Value},s.run P w=.ok u w→(do pure (Next.value (← s)):Sem Next).run P w=.ok (.value u) w:=by
  intro s u hs
  simp [hs]
 split at h
 ·simp only [Option.some.injEq,Prod.mk.injEq] at h
  obtain ⟨rfl,rfl⟩:=h
  exact ⟨_,rfl,hval _⟩
 ·simp only [Option.some.injEq,Prod.mk.injEq] at h
  obtain ⟨rfl,rfl⟩:=h
  exact ⟨_,rfl,hval _⟩
 ·obtain ⟨u,hu,hr,_⟩:=loadR_ok (P:=P) hm h ho (hval _)
  exact ⟨u,fin hu,hr⟩
 ·rename_i op t x y _
  split at h
  case h_4=>cases h
  case h_3 =>
   rename_i p hA hB
   have h1:=hval x
   have h2:=hval y
   rw [hA] at h1
   rw [hB] at h2
   simp only [Option.map_eq_some_iff,Prod.mk.injEq] at h
   obtain ⟨r,hr,rfl,rfl⟩:=h
   exact ⟨.bool r,fin (nilCmp_ok hm hr h1 h2.1),⟨rfl,rfl⟩⟩
  case h_2 =>
   rename_i cs ds hA hB
   have h1:=hval x
   have h2:=hval y
   rw [hA] at h1
   rw [hB] at h2
   simp only [Option.map_eq_some_iff,Prod.mk.injEq] at h
   obtain ⟨r,hr,rfl,rfl⟩:=h
   exact ⟨.bool r,fin (binAgg_ok hr h1 h2),⟨rfl,rfl⟩⟩
  rename_i A B hA hB
  have h1:=hval x
  have h2:=hval y
  rw [hA] at h1
  rw [hB] at h2
  split at h
  ·rename_i z ob hz
   simp only [Option.some.injEq,Prod.mk.injEq] at h
   obtain ⟨rfl,rfl⟩:=h
   obtain ⟨r,hr1,hr2⟩:=binD_run P w op t x y A B z ob hz ho _ _ h1 h2
   exact ⟨r,fin hr1,hr2⟩
  ·split at h
   case isFalse =>
    simp only [Option.map_eq_some_iff,Prod.mk.injEq] at h
    obtain ⟨r,hr,rfl,rfl⟩:=h
    exact ⟨.bool r,fin (ifCmp_ok hr h1 h2),⟨rfl,rfl⟩⟩
   rename_i ht
   simp only [Option.map_eq_some_iff,Prod.mk.injEq] at h
   obtain ⟨z,hz,rfl,rfl⟩:=h
   have htt:P.underlying t=some .bool:=by
    unfold isBoolT at ht
    split at ht
    ·assumption
    ·cases ht
   obtain ⟨r,hr1,hr2⟩:=boolD_run P w op t x y A B z htt hz _ _ h1 h2
   exact ⟨r,fin hr1,hr2⟩
 ·rename_i op t x
  split at h
  case h_2=>cases h
  rename_i A hA
  have h1:=hval x
  rw [hA] at h1
  simp only [Option.map_eq_some_iff,Prod.mk.injEq] at h
  obtain ⟨z,hz,rfl,rfl⟩:=h
  obtain ⟨r,hr1,hr2⟩:=unD_run P w op A z hz _ h1
  exact ⟨r,fin hr1,hr2⟩
 ·split at h
  ·rename_i r hsr
   simp only [Option.some.injEq] at h
   subst h
   obtain ⟨r,hr1,hr2,_⟩:=strR_ok hm hsr ho (hval _)
   exact ⟨r,fin hr1,hr2⟩
  ·simp only [Option.map_eq_some_iff,Prod.mk.injEq] at h
   obtain ⟨z,hz,rfl,rfl⟩:=h
   obtain ⟨r,hr1,hr2,_⟩:=convR_ok (P:=P) hz (hval _)
   exact ⟨r,fin hr1,hr2⟩
 ·simp only [Option.map_eq_some_iff,Prod.mk.injEq] at h
  obtain ⟨z,hz,rfl,rfl⟩:=h
  obtain ⟨r,hr1,hr2,_⟩:=ifaceR_ok (P:=P) hz (hval _)
  exact ⟨r,fin hr1,hr2⟩
 ·simp only [Option.map_eq_some_iff,Prod.mk.injEq] at h
  obtain ⟨z,hz,rfl,rfl⟩:=h
  obtain ⟨r,hr1,hr2,_⟩:=fieldAddrR_ok (P:=P) hz (hval _)
  exact ⟨r,fin hr1,hr2⟩
 ·simp only [Option.map_eq_some_iff,Prod.mk.injEq] at h
  obtain ⟨z,hz,rfl,rfl⟩:=h
  obtain ⟨r,hr1,hr2,_⟩:=fieldR_ok (P:=P) hz (hval _)
  exact ⟨r,fin hr1,hr2⟩
 ·obtain ⟨r,hr1,hr2,_⟩:=indexAddrR_ok (P:=P) hm h ho (hval _) (hval _)
  exact ⟨r,fin hr1,hr2⟩
 ·obtain ⟨r,hr1,hr2,_⟩:=indexR_ok (P:=P) h ho (hval _) (hval _)
  exact ⟨r,fin hr1,hr2⟩
 ·rename_i t x lo hi
  split at h
  ·rename_i r hsr
   simp only [Option.some.injEq] at h
   subst h
   obtain ⟨r,hr1,hr2⟩:=sliceV_ok (P:=P) (ulo:=lo.map a.eval) (uhi:=hi.map a.eval) hm hsr ho (hval x) (fun b hb=>by
    cases lo with
    | none=>cases hb
    | some l=>simp only [Option.map_some,Option.some.injEq] at hb; subst hb; exact ⟨_,rfl,hval l⟩) (fun hb=>by cases lo <;> simp_all) (fun b hb=>by
    cases hi with
    | none=>cases hb
    | some l=>simp only [Option.map_some,Option.some.injEq] at hb; subst hb; exact ⟨_,rfl,hval l⟩) (fun hb=>by cases hi <;> simp_all)
   exact ⟨r,fin hr1,hr2⟩
  split at h
  ·rename_i r hsr
   simp only [Option.some.injEq] at h
   subst h
   obtain ⟨r,hr1,hr2,_⟩:=sliceA_ok (P:=P) (ulo:=lo.map a.eval) (uhi:=hi.map a.eval) hsr ho (hval x) (fun b hb=>by
    cases lo with
    | none=>cases hb
    | some l=>simp only [Option.map_some,Option.some.injEq] at hb; subst hb; exact ⟨_,rfl,hval l⟩) (fun hb=>by cases lo <;> simp_all) (fun b hb=>by
    cases hi with
    | none=>cases hb
    | some l=>simp only [Option.map_some,Option.some.injEq] at hb; subst hb; exact ⟨_,rfl,hval l⟩) (fun hb=>by cases hi <;> simp_all)
   exact ⟨r,fin hr1,hr2⟩
  obtain ⟨r,hr1,hr2,_⟩:=sliceR_ok (P:=P) (ulo:=lo.map a.eval) (uhi:=hi.map a.eval) h ho (hval x) (fun b hb=>by
   cases lo with
   | none=>cases hb
   | some l=>simp only [Option.map_some,Option.some.injEq] at hb; subst hb; exact ⟨_,rfl,hval l⟩) (fun hb=>by cases lo <;> simp_all) (fun b hb=>by
   cases hi with
   | none=>cases hb
   | some l=>simp only [Option.map_some,Option.some.injEq] at hb; subst hb; exact ⟨_,rfl,hval l⟩) (fun hb=>by cases hi <;> simp_all)
  exact ⟨r,fin hr1,hr2⟩
 ·rename_i t parts
  have key:∃ u,(Instr.build t (parts.toList.map fun q=>(q.1,a.eval q.2)).toArray).run P w=.ok u w∧RFlat S w β (0,0) av u:=by
   split at h
   ·rename_i cs hcs
    simp only [Option.some.injEq,Prod.mk.injEq] at h
    obtain ⟨rfl,rfl⟩:=h
    exact Vm.run_build (P:=P) (S:=S) (w:=w) (β:=β) hcs (all2_parts hval parts.toList 0)
   ·simp only [Option.map_eq_some_iff,Prod.mk.injEq] at h
    obtain ⟨cs,hcs,rfl,rfl⟩:=h
    exact run_buildW hm hcs (all2_parts hval parts.toList 0)
  obtain ⟨u,hu,hr⟩:=key
  refine ⟨u,?_,hr⟩
  have he:(parts.map fun q=>(q.1,a.eval q.2))=(parts.toList.map fun q=>(q.1,a.eval q.2)).toArray:=by
   apply Array.ext'
   simp
  simp only [execOp]
  rw [he]
  exact fin hu
 ·rename_i f caps
  simp only [Option.map_eq_some_iff,Prod.mk.injEq] at h
  obtain ⟨cs,hcs,rfl,rfl⟩:=h
  refine ⟨.func (.func f) #[] (caps.map a.eval),?_,⟨caps.toList.map a.eval,?_,capsR_ok _ _ _ hcs (all2_map hval caps.toList 0)⟩⟩
  ·simp [execOp,Instr.makeFunc]
  ·congr 1
   apply Array.ext'
   simp
 ·rename_i x
  have h1:=hval x
  split at h
  ·rename_i y off hx
   simp only [Option.some.injEq,Prod.mk.injEq] at h
   obtain ⟨rfl,rfl⟩:=h
   rw [hx] at h1
   have h1':=h1
   obtain ⟨b,_,hb⟩:=h1
   refine ⟨_,?_,h1'⟩
   simp only [execOp,hb]
   rfl
  ·rename_i p sz i off hx
   simp only [Option.some.injEq,Prod.mk.injEq] at h
   obtain ⟨rfl,rfl⟩:=h
   rw [hx] at h1
   have h1':=h1
   obtain ⟨b,_,_,hb⟩:=h1
   refine ⟨_,?_,h1'⟩
   simp only [execOp,hb]
   rfl
  ·rename_i cs hx
   simp only [Option.some.injEq,Prod.mk.injEq] at h
   obtain ⟨rfl,rfl⟩:=h
   rw [hx] at h1
   have h1':=h1
   simp only [RFlat,RD] at h1
   obtain ⟨b,off,arr,E,fz,hb,_⟩:=h1
   refine ⟨_,?_,h1'⟩
   simp only [execOp,hb]
   rfl
  ·rename_i p hx
   split at h
   case h_2=>cases h
   rename_i κ sz es hp
   simp only [Option.some.injEq,Prod.mk.injEq] at h
   obtain ⟨rfl,rfl⟩:=h
   rw [hx] at h1
   obtain ⟨b,arr,hb,_⟩:=pget_arr hm hp
   have h1':a.eval x=β p:=h1
   refine ⟨_,?_,h1⟩
   simp only [execOp,h1',hb]
   rfl
  ·cases h
 ·rename_i x t
  simp only [Option.map_eq_some_iff,Prod.mk.injEq] at h
  obtain ⟨z,hz,rfl,rfl⟩:=h
  obtain ⟨r,hr1,hr2,_⟩:=lenR_ok (P:=P) (ty:=type) hm hz (hval x)
  refine ⟨r,?_,hr2⟩
  simp only [execOp,resolve,invoke,builtin,Sem.run_bind,Sem.run_pure,Result.andThen_ok]
  have:(#[x].map a.eval)=#[a.eval x]:=by simp
  rw [this,hr1]
  rfl
 ·rename_i x t
  simp only [Option.map_eq_some_iff,Prod.mk.injEq] at h
  obtain ⟨z,hz,rfl,rfl⟩:=h
  obtain ⟨r,hr1,hr2,_⟩:=capNil_ok (P:=P) (ty:=type) hz (hval x)
  refine ⟨r,?_,hr2⟩
  simp only [execOp,resolve,invoke,builtin,Sem.run_bind,Sem.run_pure,Result.andThen_ok]
  have:(#[x].map a.eval)=#[a.eval x]:=by simp
  rw [this,hr1]
  rfl
 ·rename_i x r ts
  simp only [Option.map_eq_some_iff,Prod.mk.injEq] at h
  obtain ⟨z,hz,rfl,rfl⟩:=h
  obtain ⟨v,hv1,hv2,_⟩:=maxR_ok (P:=P) _ _ _ _ _ hz (hval x) (all2_map hval r 0)
  refine ⟨v,?_,hv2⟩
  simp only [execOp,resolve,invoke,builtin,Sem.run_bind,Sem.run_pure,Result.andThen_ok,Builtin.max_,List.map_toArray,List.map_cons]
  simp only [Bool.false_eq_true,if_false] at hv1
  rw [hv1]
  rfl
 ·rename_i x r ts
  simp only [Option.map_eq_some_iff,Prod.mk.injEq] at h
  obtain ⟨z,hz,rfl,rfl⟩:=h
  obtain ⟨v,hv1,hv2,_⟩:=maxR_ok (P:=P) _ _ _ _ _ hz (hval x) (all2_map hval r 0)
  refine ⟨v,?_,hv2⟩
  simp only [execOp,resolve,invoke,builtin,Sem.run_bind,Sem.run_pure,Result.andThen_ok,Builtin.min_,List.map_toArray,List.map_cons]
  simp only [if_true] at hv1
  rw [hv1]
  rfl
 ·rename_i t x ix
  simp only [Option.map_eq_some_iff,Prod.mk.injEq] at h
  obtain ⟨⟨vk,r⟩,hl,rfl,rfl⟩:=h
  exact ⟨_,fin (lookAt_ok hm (hval x) (hval ix) hl false),⟨rfl,rfl⟩⟩
 ·cases h
end
end Go.Vm
namespace Go.Vm
def takeSlot (N:Nat) (fr:Fr) (v:AV) (s:Nat):Nat:=match v with
 | .vw (s',0)=>match fget fr s' with
  | .own _ _ _=>if s' < N then s' else s
  | _=>s
 | _=>s
def callItems (N:Nat) (fr:Fr) (take:List Nat) (val:Operand→AV):Nat→List Operand→List ArgIn
 | _,[]=>[]
 | i,x :: r=>(if take.contains i then match x with
   | .tmp s=>(some (takeSlot N fr (val x) s),val x)
   | _=>(none,val x)
  else (none,val x)) :: callItems N fr take val (i+1) r
def effAssert (P:Program) (dst:Nat) (T:TypeId) (av:AV) (fr:Fr):Option Fr:=match av with
 | .d (.v (.iface t' (.agg us)))=>if t'=T∧us.toList.all Value.oneCell'=true then match P.underlying T with
   | some (.struct _)=>some (setA dst (.tup [.agg (us.toList.map .v),.d (.v (.bool true))]) fr)
   | _=>none
  else none
 | _=>none
def opE (P:Program) (N:Nat) (hint:Hint) (fr:Fr) (o:Oper):Option (Fr×Prop) :=
 match o.op,o.dst with
 | .assign (.tmp s),some t=>(effMove N true t s fr).map (·,True)
 | .move (.tmp s),some t=>(effMove N false t s fr).map (·,True)
 | .assign (.const (.slice none 0 0)),some t=>(effNil P (!hint.take.isEmpty) t o.type fr).map (·,True)
 | .alloc T,some t=>match hint.es with
  | some es=>effArr P t T es fr
  | none=>(effAlloc P t T hint.slfs fr).map (·,True)
 | .convert s d x,some t=>match effBytes P s d t hint.es (oval N [] fr x) fr with
  | some r=>some r
  | none=>match x with
   | .tmp s'=>effMark P N s d t s' fr
   | _=>none
 | .call { callee:=.invoke r name,args:=args,argTypes:=_ },some t=>callEffI P N t name (oval N [] fr r) (callItems N fr hint.take (oval N [] fr) 0 args.toList) hint fr
 | .box _T x,some t=>(effBox t N x (oval N [] fr x) fr).map (·,True)
 | .makeSlice T l c,some t=>effMake P t T hint.es (oval N [] fr l) (oval N [] fr c) fr
 | .buildSlice T len parts,some t=>effLit P (!hint.take.isEmpty) t T hint.es len (parts.toList.map fun q=>(q.1,oval N [] fr q.2)) fr
 | .extract (.tmp s) j,some t=>(effExtract N t s j fr).map (·,True)
 | .call { callee:=.builtin .append,args:=⟨[x,y]⟩,argTypes:=⟨[t1,t2]⟩ },some t=>match effAppend2 P t1 t2 t hint.es (oval N [] fr x) (oval N [] fr y) fr with
  | some r=>some r
  | none=>effAppMake P t1 t2 t hint.es (oval N [] fr x) (oval N [] fr y) fr
 | .call { callee:=.builtin .copy,args:=⟨[x,y]⟩,argTypes:=⟨[t1,_]⟩ },some t=>effCopy P t1 t hint.es (oval N [] fr x) (oval N [] fr y) fr
 | .slice T x none (some hi) none,some t=>if hint.take=[] then none else effCut P T t hint.es (oval N [] fr x) (oval N [] fr hi) fr
 | .call { callee:=.value f,args:=args,argTypes:=_ },some t=>match oval N [] fr f with
  | .clo k caps=>callEff P N t k (callItems N fr hint.take (oval N [] fr) 0 args.toList++caps.map fun c=>(none,c)) hint fr
  | _=>none
 | .makeMap T none,some t=>(effMakeMap P t T fr).map (·,True)
 | .typeAssert x _ T true,some t=>(effAssert P t T (oval N [] fr x) fr).map (·,True)
 | .insert T m k v,none=>(effInsert P T (oval N [] fr m) (oval N [] fr k) (oval N [] fr v) fr).map (·,True)
 | .lookup T x k true,some t=>(effLookup P t T (oval N [] fr x) (oval N [] fr k) fr).map (·,True)
 | .store T addr x,none=>effStore P N T hint hint.es x (oval N [] fr addr) (oval N [] fr x) fr
 | _,_=>none
def freezeAll:List Path→Fr→Option Fr
 | [],fr=>some fr
 | p :: r,fr=>match pget fr p with
  | .own _κ sz es=>freezeAll r (pset fr p (.fz sz es))
  | .arr _κ _sz es=>freezeAll r (pset fr p (.d (.pt es.flatten)))
  | _=>none
def extG (G:GEnv) (g:List (Nat×Bool)) (c:Operand) (want:Bool):List (Nat×Bool) :=
 match c with
 | .tmp s=>if (lookG G s).isSome then (s,want) :: g else g
 | _=>g
def opPick (N:Nat) (G:GEnv) (g:List (Nat×Bool)) (fr:Fr) (c x y:Operand):Option (AV×Prop) :=
 match oval N g fr c,oval N (extG G g c true) fr x,oval N (extG G g c false) fr y with
 | .d (.v (.bool b)),.d X,.d Y=>(pickD b X Y).map fun z=>(.d z,True)
 | _,_,_=>none
def opR' (P:Program) (N:Nat) (G:GEnv) (g:List (Nat×Bool)) (hint:Hint) (fr:Fr) (o:Oper):Option (AV×Prop) :=
 match o.op with
 | .pick c x y=>opPick N G g fr c x y
 | .extract (.tmp s) j=>if s < N then (tupR j (fget fr s)).map (·,True) else none
 | _=>match opR P hint (oval N g fr) fr o with
  | some r=>some r
  | none=>none
def rwA (hint:Hint) (r:AV×Prop):AV×Prop :=
 match hint.rw with
 | some av=>(av,r.2∧r.1=av)
 | none=>r
def pushG (G:GEnv) (t:Nat) (g:List (Nat×Bool)):AV→GEnv
 | .d (.v (.bool b))=>(t,g,b) :: G
 | _=>G
def chainOf (ops:Array Oper) (G:GEnv) (o:Oper):Option (List (Nat×Bool)) :=
 match o.guard with
 | none=>some []
 | some (j,want)=>match (ops[j]?).bind (·.dst) with
  | some s=>match lookG G s with
   | some (l,_)=>some ((s,want) :: l)
   | none=>none
  | none=>none
def dstFree (N:Nat) (G:GEnv):Option Nat→Bool
 | some t=>decide (t < N) && (lookG G t).isNone
 | none=>true
def AV.stays:AV→Bool
 | .glo _ _=>true
 | .box cs=>cs.all fun c=>match c with
  | .d _ | .own _ _ _ | .slf _ _=>true
  | _=>false
 | _=>false
def gloOnly (fr:Fr) (xs:List Nat):Bool:=xs.all (fun x=>(fget fr x).stays) && fr.all fun q=>q.2.paths.all fun p=>p.2 == 0 || !xs.contains p.1
def opGC (P:Program) (N:Nat) (g:List (Nat×Bool)) (hint:Hint) (fr:Fr) (o:Oper):Option (AV×Prop) :=
 match o.op,o.dst with
 | .call { callee:=.value f,args:=args,argTypes:=_ },some t=>match oval N g fr f with
  | .clo k caps=>if gloOnly fr hint.xs && hint.take.isEmpty then
    (callEff P N t k ((args.toList.map fun x=>(none,oval N g fr x))++caps.map fun c=>(none,c)) { hint with vout:=hint.xs.map (fget fr) } fr).map fun r=>(hint.res,r.2)
   else none
  | _=>none
 | _,_=>none
def opGL (P:Program) (N:Nat) (g:List (Nat×Bool)) (hint:Hint) (fr:Fr) (o:Oper):Option (AV×Prop) :=
 match o.op,o.dst with
 | .buildSlice T len parts,some t=>match effLit P (!hint.take.isEmpty) t T hint.es len (parts.toList.map fun q=>(q.1,oval N g fr q.2)) fr with
  | some (f,obl)=>match fget f t with
   | .own _κ sz es=>some (.d (.sl sz es),obl)
   | _=>none
  | none=>none
 | _,_=>none
def step1 (P:Program) (N:Nat) (ops:Array Oper) (i:Nat) (h:Hint) (G:GEnv) (fr:Fr):Option (GEnv×Fr×Prop) :=
 match ops[i]? with
 | none=>none
 | some o=>if dstFree N G o.dst then
  match chainOf ops G o with
  | none=>none
  | some []=>match freezeAll h.frz fr with
   | none=>none
   | some fr0=>match opE P N h fr0 o with
    | some (fr',obl)=>some (G,fr',obl)
    | none=>match opR' P N G [] h fr0 o,o.dst with
     | some r,some t=>if (rwA h r).1.plain then some (pushG G t [] (rwA h r).1,setA t (rwA h r).1 fr0,(rwA h r).2) else none
     | _,_=>none
  | some (q :: g)=>match o.dst with
   | some t=>match opR' P N G (q :: g) h fr o with
    | some r=>if (rwA h r).1.plain then some (pushG G t (q :: g) (rwA h r).1,setA t (.gd (q :: g) (rwA h r).1) fr,condG G (q :: g)=true→(rwA h r).2) else none
    | none=>match opGC P N (q :: g) h fr o with
     | some r=>if r.1.plain then some (pushG G t (q :: g) r.1,setA t (.gd (q :: g) r.1) fr,condG G (q :: g)=true→r.2) else none
     | none=>match opGL P N (q :: g) h fr o with
      | some r=>if r.1.plain then some (pushG G t (q :: g) r.1,setA t (.gd (q :: g) r.1) fr,condG G (q :: g)=true→r.2) else none
      | none=>none
   | none=>none
 else none
def InvG (N:Nat) (a:Act) (G:GEnv):Prop:=∀ s l b,lookG G s=some (l,b)→s < N∧(∀ q∈l,(lookG G q.1).isSome=true)∧(condG G l=true→a.tmps[s]? = some (.bool b))∧(condG G l=false→a.tmps[s]? = some undef)
def MemG (e:Env) (G:GEnv) (N:Nat) (fr:Fr) (a:Act) (w:World):Prop :=
 a.defers=e.dfs∧a.tmps.size=N∧InvG N a G∧∃ S β,Mem e G S β fr (valsOf e a) w
section
variable {P:Program} {e:Env} {G:GEnv} {S:Nat→Prop} {β:Path→Value} {fr:Fr} {w:World} {a:Act}
theorem InvG.put {N:Nat} (h:InvG N a G) (hN:a.tmps.size=N) {t:Nat} (ht:t < N) (hf:lookG G t=none) (u:Value):InvG N (a.put (some t) u) G:=by
 intro s l b hs
 obtain ⟨h1,h2,h3,h4⟩:=h s l b hs
 have hne:s≠t:=by
  rintro rfl
  rw [hf] at hs
  cases hs
 have hg:(a.put (some t) u).tmps[s]? = a.tmps[s]? := by rw [put_get a t u (by rw [hN]; exact ht),if_neg hne]
 exact ⟨h1,h2,fun h=>by rw [hg]; exact h3 h,fun h=>by rw [hg]; exact h4 h⟩
theorem InvG.push {N:Nat} (h:InvG N a G) {t:Nat} (ht:t < N) (hf:lookG G t=none) {g:List (Nat×Bool)} (hg:∀ q∈g,(lookG G q.1).isSome=true) {b:Bool} (h1:condG G g=true→a.tmps[t]? = some (.bool b)) (h2:condG G g=false→a.tmps[t]? = some undef):InvG N a ((t,g,b) :: G):=by
 have ext:∀ q:Nat×Bool,(lookG G q.1).isSome=true→(lookG ((t,g,b) :: G) q.1).isSome=true:=by
  intro q hq
  simp only [lookG]
  split
  ·rfl
  ·exact hq
 intro s l b' hs
 simp only [lookG] at hs
 split at hs
 ·rename_i hst
  simp only [beq_iff_eq] at hst
  subst hst
  simp only [Option.some.injEq,Prod.mk.injEq] at hs
  obtain ⟨rfl,rfl⟩:=hs
  rw [condG_cons hf hg]
  exact ⟨ht,fun q hq=>ext q (hg q hq),h1,h2⟩
 ·obtain ⟨h3,h4,h5,h6⟩:=h s l b' hs
  rw [condG_cons hf h4]
  exact ⟨h3,fun q hq=>ext q (h4 q hq),h5,h6⟩
theorem pushG_inv {N:Nat} (h:InvG N a G) {t:Nat} (ht:t < N) (hf:lookG G t=none) {g:List (Nat×Bool)} (hg:∀ q∈g,(lookG G q.1).isSome=true) {av:AV} {u:Value} (hu:a.tmps[t]? = some u) (h1:condG G g=true→RFlat S w β (0,0) av u) (h2:condG G g=false→u=undef):InvG N a (pushG G t g av):=by
 unfold pushG
 split
 ·rename_i b
  refine h.push ht hf hg (fun hc=>?_) (fun hc=>?_)
  ·have:=(h1 hc).1
   rw [hu,this]
  ·rw [hu,h2 hc]
 ·exact h
theorem pushG_mem {fr':Fr} {vals:Nat→Option Value} (hm:Mem e G S β fr' vals w) {t:Nat} (hf:lookG G t=none) (g:List (Nat×Bool)) (av:AV):Mem e (pushG G t g av) S β fr' vals w:=by
 unfold pushG
 split
 ·exact hm.guard t g _ hf
 ·exact hm
theorem chainOf_ok {N:Nat} (hI:InvG N a G) {ops:Array Oper} {o:Oper} {g:List (Nat×Bool)} (h:chainOf ops G o=some g):Region.wanted o (yielded ops a.tmps)=condG G g∧∀ q∈g,(lookG G q.1).isSome=true:=by
 unfold chainOf at h
 split at h
 ·rename_i hg
  simp only [Option.some.injEq] at h
  subst h
  exact ⟨by simp [Region.wanted,hg,condG],by simp⟩
 ·rename_i j want hg
  split at h
  case h_2=>cases h
  rename_i s hs
  split at h
  case h_2=>cases h
  rename_i l b hl
  simp only [Option.some.injEq] at h
  subst h
  obtain ⟨_,h2,h3,h4⟩:=hI s l b hl
  refine ⟨?_,fun q hq=>?_⟩
  ·have hc:condG G ((s,want) :: l)=((b == want) && condG G l):=by simp [condG,hl]
   simp only [Region.wanted,hg,yielded,hs,Option.bind_some,hc]
   cases hcl:condG G l with
   | true =>
    rw [h3 hcl]
    cases b <;> cases want <;> rfl
   | false =>
    rw [h4 hcl]
    simp [undef]
  ·rcases List.mem_cons.1 hq with h | h
   ·subst h; simp [hl]
   ·exact h2 q h
theorem freezeAll_ok:∀ (ps:List Path) (fr fr':Fr) (S:Nat→Prop),Mem e G S β fr (valsOf e a) w→freezeAll ps fr=some fr'→∃ S',Mem e G S' β fr' (valsOf e a) w
 | [],fr,fr',S,hm,h=>by
  simp only [freezeAll,Option.some.injEq] at h
  subst h
  exact ⟨S,hm⟩
 | p :: ps,fr,fr',S,hm,h=>by
  simp only [freezeAll] at h
  split at h
  ·rename_i sz es hp
   exact freezeAll_ok ps _ fr' _ (hm.freeze hp) h
  ·rename_i sz es hp
   exact freezeAll_ok ps _ fr' _ (hm.freezeArr hp) h
  ·cases h
theorem opPick_ok {N:Nat} (hN:a.tmps.size=N) (hI:InvG N a G) (hm:Mem e G S β fr (valsOf e a) w) {g:List (Nat×Bool)} (hg:condG G g=true) {c x y:Operand} {o:Oper} (hop:o.op=.pick c x y) {av:AV} {obl:Prop} (h:opPick N G g fr c x y=some (av,obl)) :
  ∃ u,(execOp a.eval o).run P w=.ok (.value u) w∧RFlat S w β (0,0) av u:=by
 unfold opPick at h
 split at h
 case h_2=>cases h
 rename_i b X Y hc hx hy
 simp only [Option.map_eq_some_iff,Prod.mk.injEq] at h
 obtain ⟨z,hz,rfl,rfl⟩:=h
 have h1:=oval_ok hm hN g hg c
 rw [hc] at h1
 have hcv:a.eval c=.bool b:=h1.1
 -- the guards that hold on the side that is taken
 have hext:condG G (extG G g c b)=true:=by
  unfold extG
  split
  ·rename_i s
   split
   ·rename_i hs
    obtain ⟨⟨l,bG⟩,hl⟩:=Option.isSome_iff_exists.1 hs
    obtain ⟨h2,_,h3,h4⟩:=hI s l bG hl
    have hev:=eval_tmp0 (a:=a) (s:=s) (by rw [hN]; exact h2)
    rw [hcv] at hev
    have hbb:bG=b:=by
     cases hcl:condG G l with
     | true =>
      have:=h3 hcl
      rw [hev] at this
      simp only [Option.some.injEq,Value.bool.injEq] at this
      exact this.symm
     | false =>
      have:=h4 hcl
      rw [hev] at this
      simp [undef] at this
    have:condG G ((s,b) :: g)=((bG == b) && condG G g):=by simp [condG,hl]
    rw [this,hbb,hg]
    simp
   ·exact hg
  ·exact hg
 refine ⟨if b then a.eval x else a.eval y,?_,?_⟩
 ·simp only [execOp,hop,hcv,asBool,Sem.run_bind,Sem.run_pure,Result.andThen_ok]
 ·cases b with
  | true =>
   have h2:=oval_ok hm hN _ hext x
   rw [hx] at h2
   exact pickD_true hz h2
  | false =>
   have h2:=oval_ok hm hN _ hext y
   rw [hy] at h2
   exact pickD_false hz h2
theorem opR'_ok {N:Nat} (hN:a.tmps.size=N) (hI:InvG N a G) (hm:Mem e G S β fr (valsOf e a) w) {g:List (Nat×Bool)} (hg:condG G g=true) {hint:Hint} {o:Oper} {r:AV×Prop} (h:opR' P N G g hint fr o=some r) (ho:(rwA hint r).2) :
  ∃ u,(execOp a.eval o).run P w=.ok (.value u) w∧RFlat S w β (0,0) (rwA hint r).1 u:=by
 have key:r.2→∃ u,(execOp a.eval o).run P w=.ok (.value u) w∧RFlat S w β (0,0) r.1 u:=by
  intro ho
  unfold opR' at h
  split at h
  ·rename_i c x y hop
   exact opPick_ok hN hI hm hg hop (av:=r.1) (obl:=r.2) h
  ·rename_i s j hop
   split at h
   case isFalse=>cases h
   rename_i hs
   simp only [Option.map_eq_some_iff] at h
   obtain ⟨z,hz,rfl⟩:=h
   obtain ⟨u,hu1,hu2,_⟩:=tupR_ok (P:=P) hN hm hs hz
   exact ⟨u,by simp [execOp,hop,hu1],hu2⟩
  ·split at h
   ·rename_i r' hr'
    cases h
    exact opR_ok hm (fun x=>oval_ok hm hN g hg x) (av:=r.1) (obl:=r.2) hr' ho
   ·cases h
 unfold rwA at ho ⊢
 split
 ·rename_i av hrw
  rw [hrw] at ho
  obtain ⟨u,h1,h2⟩:=key ho.1
  exact ⟨u,h1,by rw [← ho.2]; exact h2⟩
 ·rename_i hrw
  rw [hrw] at ho
  exact key ho
theorem takeSlot_ok {N:Nat} (hN:a.tmps.size=N) (hm:Mem e G S β fr (valsOf e a) w) {v:AV} {s:Nat} (hv:RFlat S w β (0,0) v (a.eval (.tmp s))):a.eval (.tmp s)=a.eval (.tmp (takeSlot N fr v s)):=by
 unfold takeSlot
 split
 ·rename_i s'
  split
  ·rename_i sz es hf
   split
   ·rename_i hlt
    obtain ⟨u,hr,hu⟩:=hm.rel s'
    rw [hf] at hr
    have h1:=hu _ (eval_tmp (a:=a) (e:=e) (s:=s') (by rw [hN]; exact hlt))
    rw [h1,hr.1]
    exact hv
   ·rfl
  ·rfl
 ·rfl
theorem callItems_ok {N:Nat} (hN:a.tmps.size=N) (hm:Mem e G S β fr (valsOf e a) w) {take:List Nat} {val:Operand→AV} (hval:∀ x,RFlat S w β (0,0) (val x) (a.eval x)):∀ (xs:List Operand) (i j:Nat),All2 (fun _=>ArgOk N S w β a) j (callItems N fr take val i xs) (xs.map a.eval)
 | [],_,_=>trivial
 | x :: xs,i,j=>by
  simp only [callItems,List.map_cons]
  refine ⟨?_,callItems_ok hN hm hval xs (i+1) (j+1)⟩
  split
  ·split
   ·exact takeSlot_ok hN hm (hval _)
   ·exact hval _
  ·exact hval x
theorem caps_ok {N:Nat}:∀ (caps:List AV) (us:List Value) (i j:Nat),All2 (fun _=>RCap S w β) i caps us→All2 (fun _=>ArgOk N S w β a) j (caps.map fun c=>((none,c):ArgIn)) us
 | [],[],_,_,_=>trivial
 | c :: caps,u :: us,i,j,h=>by
  simp only [All2] at h
  refine ⟨?_,caps_ok caps us (i+1) (j+1) h.2⟩
  have h1:=h.1
  show RFlat S w β (0,0) c u
  cases c <;> simp only [RCap] at h1 <;> first | exact h1 | exact h1.elim
 | [],_ :: _,_,_,h=>by simp [All2] at h
 | _ :: _,[],_,_,h=>by simp [All2] at h
theorem All2.append {α γ:Type} {R:Nat→α→γ→Prop} (hR:∀ i j a c,R i a c→R j a c):∀ {i:Nat} {as bs:List α} {cs ds:List γ},All2 R i as cs→All2 R 0 bs ds→All2 R i (as++bs) (cs++ds)
 | i,[],bs,[],ds,_,h2=>by
  simp only [List.nil_append]
  exact All2.of_get (All2.len h2) fun j a c ha hc=>by
   obtain ⟨c',hc',hr⟩:=All2.get h2 j a ha
   rw [hc] at hc'
   cases hc'
   exact hR _ _ _ _ hr
 | i,a :: as,bs,c :: cs,ds,h1,h2=>by
  simp only [All2] at h1
  exact ⟨h1.1,All2.append hR h1.2 h2⟩
 | _,[],_,_ :: _,_,h,_=>by simp [All2] at h
 | _,_ :: _,_,[],_,h,_=>by simp [All2] at h
theorem run_methodOf {t:TypeId} {name:String} {k:FuncId} (h:methodOf P t name=some k) (v:Value) (n:Nat):(method (n+1) t v name).run P w=.ok (k,v) w:=by
 unfold methodOf at h
 split at h
 case h_2=>cases h
 rename_i i fs hi hu
 split at h
 case h_2=>cases h
 rename_i m hm
 split at h
 case isFalse=>cases h
 rename_i hp
 split at h
 case h_2=>cases h
 rename_i k' hf
 simp only [Option.some.injEq] at h
 subst h
 have hpl:m.path.toList=[]:=by simpa using hp
 simp only [method,typeInfo,Sem.run_bind,run_program,hi,Sem.run_pure,Result.andThen_ok,hm,hpl,follow,hf,receiverAt,run_underlying hu,Place.get]
theorem run_invoke {o:Oper} {r:Operand} {name:String} {args:Array Operand} {ats:Array TypeId} (hop:o.op=.call { callee:=.invoke r name,args:=args,argTypes:=ats }) {k:Nat} {t:TypeId} {v:Value} (hf:a.eval r=.iface t v) (hk:methodOf P t name=some k) (hc:Callable P k) :
  (execOp a.eval o).run P w=.ok (.enter k (v :: args.toList.map a.eval).toArray) w:=by
 obtain ⟨fn,h1,h2,h3⟩:=hc
 have hmm:∀ n:Nat,(method (n+Made.depth) t v name).run P w=.ok (k,v) w:=fun n=>by
  have:∃ d,Made.depth=d+1:=⟨Made.depth - 1,by decide⟩
  obtain ⟨d,hd⟩:=this
  rw [hd,← Nat.add_assoc]
  exact run_methodOf hk v _
 have hx:(#[Value.iface t v]++args.map a.eval).extract 1 (#[Value.iface t v]++args.map a.eval).size=args.map a.eval:=by
  apply Array.ext'
  simp only [Array.toList_extract,Array.toList_map,Array.size_append,Array.size_map]
  have:(args.toList.map a.eval).length≤args.size:=by rw [List.length_map]; exact Nat.le_of_eq Array.length_toList
  simpa [List.extract] using List.take_of_length_le this
 have h0:(#[Value.iface t v]++args.map a.eval)[0]? = some (Value.iface t v):=by
  rw [Array.getElem?_append_left (xs:=#[Value.iface t v]) (by show 0 < 1; omega)]
  rfl
 simp only [execOp,hop,resolve,hf,Sem.run_bind,Sem.run_pure,Result.andThen_ok,invoke,h0,hx,callMethod,run_program,hmm,callFunc,h1,h3,Bool.false_eq_true,if_false,h2]
 congr 2
 apply Array.ext'
 simp
theorem run_call {o:Oper} {f:Operand} {args:Array Operand} {ats:Array TypeId} (hop:o.op=.call { callee:=.value f,args:=args,argTypes:=ats }) {k:Nat} {l:List Value} (hf:a.eval f=.func (.func k) #[] ⟨l⟩) (hc:Callable P k) :
  (execOp a.eval o).run P w=.ok (.enter k (args.toList.map a.eval++l).toArray) w:=by
 obtain ⟨fn,h1,h2,h3⟩:=hc
 simp only [execOp,hop,resolve,hf,Deferred.ofValue,invoke,callFunc,Sem.run_bind,Sem.run_pure,Result.andThen_ok,run_program,h1,h3,Bool.false_eq_true,if_false,h2]
 congr 2
 apply Array.ext'
 simp
end
end Go.Vm
namespace Go.Vm
section
variable {P:Program} {e:Env} {G:GEnv} {S:Nat→Prop} {β:Path→Value} {fr:Fr} {w:World} {a:Act}
theorem wp_value {o:Oper} {u:Value} {w':World} (hr:(execOp a.eval o).run P w=.ok (.value u) w') {K:Act→World→Prop} {Q:Exit→Act→World→Prop} (h:K (a.put o.dst u) w'):o.wp P a w K Q:=by
 simp only [Oper.wp,Oper.upon,hr]; exact h
theorem wp_skipv {o:Oper} {w':World} (hr:(execOp a.eval o).run P w=.ok .skip w') {K:Act→World→Prop} {Q:Exit→Act→World→Prop} (h:K (a.put o.dst undef) w'):o.wp P a w K Q:=by
 simp only [Oper.wp,Oper.upon,hr]; exact h
theorem wp_enter {o:Oper} {k:Nat} {us:Array Value} (hr:(execOp a.eval o).run P w=.ok (.enter k us) w) {K:Act→World→Prop} {Q:Exit→Act→World→Prop} {R:Value→World→Prop}
  (hc:Calls P k us w fun e' w'=>∃ u,e'=.returned u∧R u w') (h:∀ u w',R u w'→K (a.put o.dst u) w'):o.wp P a w K Q:=by
 simp only [Oper.wp,Oper.upon,hr]
 refine hc.mono ?_
 rintro e' w' ⟨u,rfl,hR⟩
 exact h u w' hR
theorem plainCells_ok:∀ (us:List Value) (g:Nat→Option Value) (o:Nat),(∀ u∈us,u.oneCell'=true)→(∀ j u,us[j]? = some u→g (o+j)=some u)→RCs S w (us.map .v) g o
 | [],_,_,_,_=>trivial
 | u :: us,g,o,h1,h2=>by
  refine ⟨⟨u,by simpa using h2 0 u (by simp),rfl,h1 u (by simp)⟩,plainCells_ok us g (o+1) (fun x hx=>h1 x (by simp [hx])) fun j x hj=>?_⟩
  rw [show o+1+j=o+(j+1) by omega]
  exact h2 (j+1) x (by simpa using hj)
theorem effAssert_ok (hm:Mem e G S β fr (valsOf e a) w) {dst:Nat} {xt T:TypeId} {av:AV} {fr':Fr} (ht:dst < a.tmps.size) (h:effAssert P dst T av fr=some fr') {u:Value} (hr:RFlat S w β (0,0) av u) :
  ∃ v,(Instr.typeAssert u xt T true).run P w=.ok v w∧After e G fr' a dst v w:=by
 unfold effAssert at h
 split at h
 case h_2=>cases h
 rename_i t' us
 split at h
 case isFalse=>cases h
 rename_i hc
 obtain ⟨rfl,hone⟩:=hc
 split at h
 case h_2=>cases h
 rename_i fs hfs
 simp only [Option.some.injEq] at h
 subst h
 have hu:u=.iface t' (.agg us):=hr.1
 subst hu
 refine ⟨.tuple #[.agg us,.bool true],?_,S,β,hm.setPlain dst _ (.tuple #[.agg us,.bool true]) _ (put_old a dst _ ht) (put_new a dst _ ht) ?_ (fun j=>?_) (fun _ _ h=>by cases h)⟩
 ·simp [Instr.typeAssert,run_underlying hfs]
 ·refine ⟨[.agg us,.bool true],rfl,rfl,?_⟩
  refine ⟨⟨us.toList,by simp,by simp,plainCells_ok _ _ 0 (List.all_eq_true.1 hone) fun j u hj=>by simpa using hj⟩,⟨rfl,rfl⟩,trivial⟩
 ·cases j with
  | zero=>rfl
  | succ j =>
   match j with
   | 0=>rfl
   | 1=>rfl
   | j+2=>rfl
theorem opE_ok {N:Nat} (hN:a.tmps.size=N) (hm:Mem e G S β fr (valsOf e a) w) {hint:Hint} {o:Oper} {fr':Fr} {obl:Prop} (hdst:∀ t,o.dst=some t→t < N) (h:opE P N hint fr o=some (fr',obl)) (ho:obl) {K:Act→World→Prop} {Q:Exit→Act→World→Prop}
  (hK:∀ a' w',(∃ u,a'=a.put o.dst u)→(∃ S β,Mem e G S β fr' (valsOf e a') w')→K a' w'):o.wp P a w K Q:=by
 obtain ⟨dst,op,type,pos,after,guard⟩:=o
 have hval:=fun x=>oval_ok hm hN [] rfl x
 have fin:∀ {t:Nat} {u:Value} {w':World} {s:Sem Value} {pos':String},dst=some t→s.run P w=.ok u w'→(execOp a.eval ⟨dst,op,type,pos,after,guard⟩=do pure (Next.value (← s)))→After e G fr' a t u w'→Oper.wp P ⟨dst,op,type,pos,after,guard⟩ a w K Q:=by
  intro t u w' s _ hd hs he ha
  refine wp_value (u:=u) (w':=w') (by rw [he]; simp [hs]) (hK _ _ ⟨u,rfl⟩ ?_)
  simp only [hd]
  exact ha
 unfold opE at h
 simp only at h hdst
 split at h
 ·rename_i s t
  simp only [Option.map_eq_some_iff,Prod.mk.injEq] at h
  obtain ⟨f,hf,rfl,rfl⟩:=h
  have:=effMove_ok hN hm (by rw [hN]; exact hdst t rfl) hf
  exact wp_value (u:=a.eval (.tmp s)) (w':=w) rfl (hK _ _ ⟨_,rfl⟩ this)
 ·rename_i s t
  simp only [Option.map_eq_some_iff,Prod.mk.injEq] at h
  obtain ⟨f,hf,rfl,rfl⟩:=h
  have:=effMove_ok hN hm (by rw [hN]; exact hdst t rfl) hf
  exact wp_value (u:=a.eval (.tmp s)) (w':=w) rfl (hK _ _ ⟨_,rfl⟩ this)
 ·rename_i t
  simp only [Option.map_eq_some_iff,Prod.mk.injEq] at h
  obtain ⟨f,hf,rfl,rfl⟩:=h
  have:=effNil_ok hm (by rw [hN]; exact hdst t rfl) hf
  exact wp_value (u:=.slice none 0 0) (w':=w) rfl (hK _ _ ⟨_,rfl⟩ this)
 ·rename_i T t
  split at h
  ·obtain ⟨u,w',h1,h2⟩:=effArr_ok hm (by rw [hN]; exact hdst t rfl) h ho
   exact fin (pos':=pos) rfl h1 rfl h2
  simp only [Option.map_eq_some_iff,Prod.mk.injEq] at h
  obtain ⟨f,hf,rfl,rfl⟩:=h
  obtain ⟨u,w',h1,h2⟩:=effAlloc_ok hm (by rw [hN]; exact hdst t rfl) hf
  exact fin (pos':=pos) rfl h1 rfl h2
 ·rename_i s d x t
  split at h
  ·rename_i r hr
   simp only [Option.some.injEq] at h
   subst h
   obtain ⟨u,w',h1,h2⟩:=effBytes_ok hm (by rw [hN]; exact hdst t rfl) hr ho (hval x)
   exact fin (pos':=pos) rfl h1 rfl h2
  ·split at h
   case h_2=>cases h
   obtain ⟨u,w',h1,h2⟩:=effMark_ok hN hm (by rw [hN]; exact hdst t rfl) h ho
   exact fin (pos':=pos) rfl h1 rfl h2
 ·rename_i r name args ats t
  have hargs:All2 (fun _=>ArgOk N S w β a) 0 (callItems N fr hint.take (oval N [] fr) 0 args.toList) (args.toList.map a.eval):=callItems_ok hN hm hval args.toList 0 0
  obtain ⟨t',cs,k,hu,hk,hc,hcalls⟩:=callEffI_ok hN hm h ho (hval r) hargs
  refine wp_enter (run_invoke rfl hu hk hc) hcalls fun u w' hR=>hK _ _ ⟨u,rfl⟩ hR
 ·rename_i T x t
  simp only [Option.map_eq_some_iff,Prod.mk.injEq] at h
  obtain ⟨f,hf,rfl,rfl⟩:=h
  obtain ⟨u,w',h1,h2⟩:=effBox_ok (T:=T) hm hN (by rw [hN]; exact hdst t rfl) hf
  exact fin (pos':=pos) rfl h1 rfl h2
 ·rename_i T l c t
  obtain ⟨u,w',h1,h2⟩:=effMake_ok hm (by rw [hN]; exact hdst t rfl) h ho (hval l) (hval c)
  exact fin (pos':=pos) rfl h1 rfl h2
 ·rename_i T len parts t
  obtain ⟨u,w',h1,h2⟩:=effLit_ok hm (by rw [hN]; exact hdst t rfl) h ho (all2_parts hval parts.toList 0)
  have he:(parts.map fun q=>(q.1,a.eval q.2))=(parts.toList.map fun q=>(q.1,a.eval q.2)).toArray:=by
   apply Array.ext'
   simp
  exact fin (pos':=pos) rfl h1 (by simp only [execOp]; rw [he]) h2
 ·rename_i s j t
  simp only [Option.map_eq_some_iff,Prod.mk.injEq] at h
  obtain ⟨f,hf,rfl,rfl⟩:=h
  obtain ⟨u,h1,h2⟩:=effExtract_ok (P:=P) hN hm (by rw [hN]; exact hdst t rfl) hf
  exact fin (pos':=pos) rfl h1 rfl h2
 ·rename_i x y t1 t2 t
  obtain ⟨v,w',h1,h2⟩:∃ v w',(Builtin.append_ #[t1,t2] type #[a.eval x,a.eval y]).run P w=.ok v w'∧After e G fr' a t v w':=by
   split at h
   ·rename_i r hr
    simp only [Option.some.injEq] at h
    subst h
    exact effAppend_ok (P:=P) (ty:=type) hm (by rw [hN]; exact hdst t rfl) hr ho (hval x) (hval y)
   ·exact effAppMake_ok (P:=P) (ty:=type) hm (by rw [hN]; exact hdst t rfl) h ho (hval x) (hval y)
  refine wp_value (u:=v) (w':=w') ?_ (hK _ _ ⟨v,rfl⟩ h2)
  simp only [execOp,resolve,invoke,builtin,Sem.run_bind,Sem.run_pure,Result.andThen_ok,List.map_toArray,List.map_cons,List.map_nil,h1]
 ·rename_i x y t1 t2 t
  obtain ⟨v,w',h1,h2⟩:=effCopy_ok (P:=P) (t2:=t2) (ty:=type) hm (by rw [hN]; exact hdst t rfl) h ho (hval x) (hval y)
  refine wp_value (u:=v) (w':=w') ?_ (hK _ _ ⟨v,rfl⟩ h2)
  simp only [execOp,resolve,invoke,builtin,Sem.run_bind,Sem.run_pure,Result.andThen_ok,List.map_toArray,List.map_cons,List.map_nil,h1]
 ·rename_i T x hi t
  split at h
  case isTrue=>cases h
  obtain ⟨v,h1,h2⟩:=effCut_ok (P:=P) hm (by rw [hN]; exact hdst t rfl) h ho (hval x) (hval hi)
  exact fin (pos':=pos) rfl h1 rfl h2
 ·rename_i f args ats t
  split at h
  case h_2=>cases h
  rename_i k caps hf
  have hfv:=hval f
  rw [hf] at hfv
  obtain ⟨l,hl,hcaps⟩:=hfv
  have hargs:All2 (fun _=>ArgOk N S w β a) 0 (callItems N fr hint.take (oval N [] fr) 0 args.toList++caps.map fun c=>((none,c):ArgIn)) (args.toList.map a.eval++l) :=
   All2.append (fun _ _ _ _ h=>h) (callItems_ok hN hm hval args.toList 0 0) (caps_ok caps l 0 0 hcaps)
  obtain ⟨hc,hcalls⟩:=callEff_ok hN hm h ho hargs
  refine wp_enter (run_call rfl hl hc) hcalls fun u w' hR=>hK _ _ ⟨u,rfl⟩ hR
 ·rename_i T t
  simp only [Option.map_eq_some_iff,Prod.mk.injEq] at h
  obtain ⟨f,hf,rfl,rfl⟩:=h
  obtain ⟨u,w',h1,h2⟩:=effMakeMap_ok (P:=P) hm (by rw [hN]; exact hdst t rfl) hf
  exact fin (pos':=pos) rfl h1 rfl h2
 ·rename_i x xt T t
  simp only [Option.map_eq_some_iff,Prod.mk.injEq] at h
  obtain ⟨f,hf,rfl,rfl⟩:=h
  obtain ⟨v,h1,h2⟩:=effAssert_ok (P:=P) (xt:=xt) hm (by rw [hN]; exact hdst t rfl) hf (hval x)
  exact fin (pos':=pos) rfl h1 rfl h2
 ·rename_i T m k v
  simp only [Option.map_eq_some_iff,Prod.mk.injEq] at h
  obtain ⟨f,hf,rfl,rfl⟩:=h
  obtain ⟨w',h1,h2⟩:=effInsert_ok (P:=P) hm (hval m) (hval k) (hval v) hf
  refine wp_skipv (w':=w') ?_ (hK _ _ ⟨undef,rfl⟩ h2)
  simp only [execOp]
  simp [h1]
 ·rename_i T x k t
  simp only [Option.map_eq_some_iff,Prod.mk.injEq] at h
  obtain ⟨f,hf,rfl,rfl⟩:=h
  obtain ⟨u,h1,h2⟩:=effLookup_ok (P:=P) hm (by rw [hN]; exact hdst t rfl) (hval x) (hval k) hf
  exact fin (pos':=pos) rfl h1 rfl h2
 ·rename_i T addr x
  obtain ⟨w',h1,h2⟩:=effStore_ok hN hm h ho (hval addr)
  refine wp_skipv (w':=w') ?_ (hK _ _ ⟨undef,rfl⟩ h2)
  simp only [execOp]
  simp [h1]
 ·cases h
theorem condG_nil:condG G []=true:=rfl
theorem Mem.congr {fr':Fr} {vals:Nat→Option Value} (hm:Mem e G S β fr vals w) (h:∀ x,fget fr' x=fget fr x):Mem e G S β fr' vals w :=
 ⟨fun x=>by rw [h x]; exact hm.rel x,fun x l a hx=>hm.gok x l a (by rw [← h x]; exact hx),fun x i y j b h1 h2=>hm.dis x i y j b (by rw [← h x]; exact h1) (by rw [← h y]; exact h2),fun x i b h1=>hm.fre x i b (by rw [← h x]; exact h1),hm.stb,hm.s0,hm.old,hm.os,hm.tape,hm.output,hm.size⟩
theorem trArgs_none {N:Nat} {xs:List Nat}:∀ (items:List ArgIn) (as:List AV) (ts:List (Option Nat)) (l:List Path),trArgs N xs fr items=some (as,ts,l)→(∀ it∈items,it.1=none)→taken ts=[]
  | [],as,ts,l,h,_=>by
    simp only [trArgs,Option.some.injEq,Prod.mk.injEq] at h
    obtain ⟨_,rfl,_⟩:=h
    rfl
  | (tk,v) :: r,as,ts,l,h,hn=>by
    have:tk=none:=hn (tk,v) (by simp)
    subst this
    simp only [trArgs] at h
    split at h
    · cases h
    rename_i as' ts' l' hrest
    split at h
    case h_2=>cases h
    simp only [Option.some.injEq,Prod.mk.injEq] at h
    obtain ⟨_,rfl,_⟩:=h
    have:=trArgs_none r as' ts' l' hrest (fun it hit=>hn it (by simp [hit]))
    simpa [taken] using this
theorem purge1_congr {π π':Path→Bool} {a:AV} (h:∀ q∈a.paths1,π q=π' q):a.purge1 π=a.purge1 π':=by
 have:a.paths1.any π=a.paths1.any π':=by
  rw [Bool.eq_iff_iff,List.any_eq_true,List.any_eq_true]
  exact ⟨fun ⟨q,hq,hp⟩=>⟨q,hq,by rw [← h q hq]; exact hp⟩,fun ⟨q,hq,hp⟩=>⟨q,hq,by rw [h q hq]; exact hp⟩⟩
 simp only [AV.purge1,this]
theorem purge_congr {π π':Path→Bool} {a:AV} (h:∀ q∈a.paths,π q=π' q):a.purge π=a.purge π':=by
 cases a
 case box cs =>
  simp only [AV.purge,AV.box.injEq]
  exact List.map_congr_left fun c hc=>purge1_congr fun q hq=>h q (List.mem_flatMap.2 ⟨c,hc,hq⟩)
 case tup cs =>
  simp only [AV.purge,AV.tup.injEq]
  exact List.map_congr_left fun c hc=>purge1_congr fun q hq=>h q (List.mem_flatMap.2 ⟨c,hc,hq⟩)
 all_goals exact purge1_congr fun q hq=>h q hq
theorem fget_mem:∀ (fr:Fr) (x:Nat),fget fr x=.junk∨(x,fget fr x)∈fr
  | [],_=>.inl rfl
  | (y,a) :: r,x=>by
    rw [fget_cons]
    split
    · rename_i h; subst h; exact .inr (List.mem_cons_self ..)
    · exact (fget_mem r x).imp id fun h=>List.mem_cons_of_mem _ h
theorem fget_zip_self (x:Nat):∀ (xs:List Nat),fget (xs.zip (xs.map (fget fr))++fr) x=fget fr x
 | []=>rfl
 | y :: xs=>by
  simp only [List.map_cons,List.zip_cons_cons,List.cons_append,fget_cons]
  split
  ·rename_i h; subst h; rfl
  ·exact fget_zip_self x xs
theorem callEff_fr {N dst k:Nat} {items:List ArgIn} {h:Hint} {frc:Fr} {ob:Prop} (he:callEff P N dst k items h fr=some (frc,ob)) (hx:gloOnly fr h.xs=true) (hv:h.vout=h.xs.map (fget fr)) (hn:∀ it∈items,it.1=none) (x:Nat):fget frc x=if x=dst then h.res else (fget fr x).purge (slotP dst):=by
 unfold callEff at he
 split at he
 case h_2=>cases he
 rename_i as ts lent vin htr hbx
 split at he
 case isFalse=>cases he
 simp only [Option.some.injEq,Prod.mk.injEq] at he
 obtain ⟨rfl,_⟩:=he
 have hvb:h.vout.map (backA h.xs)=h.xs.map (fget fr):=by
  rw [hv,List.map_map]
  refine List.map_congr_left fun x hxm=>?_
  simp only [gloOnly,Bool.and_eq_true,List.all_eq_true] at hx
  have:=hx.1 x hxm
  simp only [Function.comp]
  cases hf:fget fr x <;> rw [hf] at this
  case box cs =>
   simp only [AV.stays,List.all_eq_true] at this
   simp only [backA,AV.box.injEq]
   conv=>rhs; rw [← List.map_id cs]
   refine List.map_congr_left fun c hc=>?_
   have h1:=this c hc
   cases c <;> first | rfl | cases h1
  all_goals first | rfl | cases this
 rw [trArgs_none items as ts lent htr hn,hvb]
 by_cases hd:x=dst
 ·subst hd; rw [if_pos rfl]; exact fget_cons_self _ _ _
 ·rw [if_neg hd,callFr,fget_cons_ne _ _ (Ne.symm hd),fget_purgeP]
  simp only [List.map_nil,List.nil_append]
  rw [fget_zip_self]
  refine purge_congr fun q hq=>?_
  simp only [gloOnly,Bool.and_eq_true,List.all_eq_true] at hx
  have hq':(q.2 != 0 && h.xs.contains q.1)=false:=by
   rcases fget_mem fr x with hj | hj
   ·rw [hj] at hq; cases hq
   ·have:=hx.2 _ hj q hq
    simp only [Bool.or_eq_true,beq_iff_eq,Bool.not_eq_true'] at this
    rcases this with h | h
    ·simp [h]
    ·rw [h,Bool.and_false]
  simp only [callP,slotP,hq',Bool.or_false]
theorem opGL_ok {N:Nat} (hN:a.tmps.size=N) (hm:Mem e G S β fr (valsOf e a) w) {g:List (Nat×Bool)} (hg:condG G g=true) {t:Nat} (ht:t < N) {hint:Hint} {o:Oper} (hdst:o.dst=some t) {r:AV×Prop} (h:opGL P N g hint fr o=some r) (ho:r.2) :
  ∃ u w',(execOp a.eval o).run P w=.ok (.value u) w'∧∃ S' β',Mem e G S' β' (setA t r.1 fr) (valsOf e (a.put (some t) u)) w':=by
 obtain ⟨dst,op,type,pos,after,guard⟩:=o
 simp only at hdst
 subst hdst
 unfold opGL at h
 simp only at h
 split at h
 case h_2=>cases h
 rename_i T len parts t' heq
 cases heq
 split at h
 case h_2=>cases h
 rename_i f obl hE
 split at h
 case h_2=>cases h
 rename_i κ sz es hf
 simp only [Option.some.injEq] at h
 subst h
 have hts:t < a.tmps.size:=by rw [hN]; exact ht
 have hval:=fun x=>oval_ok hm hN g hg x
 obtain ⟨u,w',h1,S',β',hm'⟩:=effLit_ok hm hts hE ho (all2_parts hval parts.toList 0)
 have hfr:f=setA t (.own κ sz es) fr:=by
  unfold effLit at hE
  split at hE
  case h_2=>cases hE
  split at hE
  case h_2=>cases hE
  split at hE
  case isFalse=>cases hE
  simp only [Option.map_eq_some_iff,Prod.mk.injEq] at hE
  obtain ⟨es',_,rfl,_⟩:=hE
  rw [fget_setA_self] at hf
  rw [hf]
 subst hfr
 refine ⟨u,w',?_,?_⟩
 ·have he:(parts.map fun q=>(q.1,a.eval q.2))=(parts.toList.map fun q=>(q.1,a.eval q.2)).toArray:=by
   apply Array.ext'
   simp
  simp only [execOp]
  rw [he]
  simp [h1]
 ·have hfz:=hm'.freeze (p:=(t,0)) (sz:=sz) (es:=es) hf
  refine ⟨fun b=>S' b∨blk (β' (t,0))=some b,β',?_⟩
  have hw:=hfz.weaken t (.d (.sl sz es)) (fun v hv=>by
   rw [show fget (pset (setA t (.own κ sz es) fr) (t,0) (.fz sz es)) t=.fz sz es from by simp [pset,fget_cons_self]] at hv
   exact (flat_slot rfl).2 ((flat_slot rfl).1 hv).2) (fun j hj=>by cases j <;> simp [AV.ownsAt,AV.isOwn] at hj) (fun l a hh=>by cases hh)
  exact hw.congr fun x=>by
   by_cases hx:x=t
   ·subst hx; rw [fget_cons_self,fget_setA_self]
   ·rw [fget_cons_ne _ _ (Ne.symm hx),fget_setA_ne _ _ hx]
    simp only [pset]
    rw [fget_cons_ne _ _ (Ne.symm hx),fget_setA_ne _ _ hx]
theorem step1_ok {N:Nat} {ops:Array Oper} {i:Nat} {h:Hint} {G':GEnv} {fr':Fr} {obl:Prop} (hs:step1 P N ops i h G fr=some (G',fr',obl)) (ho:obl) (hm:MemG e G N fr a w) {K:Act→World→Prop} {Q:Exit→Act→World→Prop}
  (hK:∀ a' w',MemG e G' N fr' a' w'→K a' w') :
  ∃ o,ops[i]? = some o∧(Region.wanted o (yielded ops a.tmps)=true→o.wp P a w K Q)∧(Region.wanted o (yielded ops a.tmps)=false→K (a.put o.dst undef) w):=by
 obtain ⟨hd,hN,hI,S,β,hm⟩:=hm
 unfold step1 at hs
 split at hs
 ·cases hs
 rename_i o hoi
 split at hs
 case isFalse=>cases hs
 rename_i hfree
 refine ⟨o,hoi,?_⟩
 have hdst:∀ t,o.dst=some t→t < N∧lookG G t=none:=by
  intro t ht
  simpa [dstFree,ht] using hfree
 split at hs
 ·cases hs
 ·-- no guard
  rename_i hch
  obtain ⟨hw,_⟩:=chainOf_ok hI hch
  rw [condG_nil] at hw
  refine ⟨fun _=>?_,fun h=>by rw [hw] at h; cases h⟩
  split at hs
  ·cases hs
  rename_i fr0 hfz
  obtain ⟨S0,hm0⟩:=freezeAll_ok h.frz fr fr0 S hm hfz
  split at hs
  ·rename_i fr1 ob hE
   simp only [Option.some.injEq,Prod.mk.injEq] at hs
   obtain ⟨rfl,rfl,rfl⟩:=hs
   refine opE_ok hN hm0 (fun t ht=>(hdst t ht).1) hE ho fun a' w' ⟨u,hu⟩ hmem=>hK a' w' ⟨?_,?_,?_,hmem⟩
   ·rw [hu,put_defers]; exact hd
   ·rw [hu,put_size]; exact hN
   ·rw [hu]
    cases hd':o.dst with
    | none=>exact hI
    | some t=>exact hI.put hN (hdst t hd').1 (hdst t hd').2 u
  ·split at hs
   ·rename_i r t hR ht
    split at hs
    case isFalse=>cases hs
    rename_i hpl
    simp only [Option.some.injEq,Prod.mk.injEq] at hs
    obtain ⟨rfl,rfl,rfl⟩:=hs
    obtain ⟨u,hu,hru⟩:=opR'_ok (P:=P) hN hI hm0 condG_nil hR ho
    obtain ⟨htN,htG⟩:=hdst t ht
    have hts:t < a.tmps.size:=by rw [hN]; exact htN
    refine wp_value hu (hK _ _ ⟨by rw [put_defers]; exact hd,by rw [put_size]; exact hN,?_,S0,β,?_⟩)
    ·rw [ht]
     exact pushG_inv (hI.put hN htN htG u) htN htG (by simp) (u:=u) (by rw [put_get a t u hts,if_pos rfl]) (fun _=>hru) (fun h=>by rw [condG_nil] at h; cases h)
    ·rw [ht]
     refine pushG_mem (hm0.setPlain t _ u _ (put_old a t u hts) (put_new a t u hts) (plain_slot hpl hru) (plain_ownsAt hpl) (fun l a h=>?_)) htG _ _
     rw [h] at hpl
     cases hpl
   ·cases hs
 ·-- under a guard
  rename_i q g hch
  obtain ⟨hw,hgs⟩:=chainOf_ok hI hch
  split at hs
  case h_2=>cases hs
  rename_i t ht
  obtain ⟨htN,htG⟩:=hdst t ht
  have hts:t < a.tmps.size:=by rw [hN]; exact htN
  have notWanted:∀ (av:AV),av.plain=true→condG G (q :: g)=false→MemG e (pushG G t (q :: g) av) N (setA t (.gd (q :: g) av) fr) (a.put o.dst undef) w:=by
   intro av hpl hc
   rw [ht]
   refine ⟨by rw [put_defers]; exact hd,by rw [put_size]; exact hN,?_,S,β,?_⟩
   ·exact pushG_inv (S:=S) (w:=w) (β:=β) (hI.put hN htN htG undef) htN htG hgs (u:=undef) (by rw [put_get a t undef hts,if_pos rfl]) (fun h=>by rw [hc] at h; cases h) (fun _=>rfl)
   ·refine pushG_mem (hm.setPlain t _ undef _ (put_old a t undef hts) (put_new a t undef hts) (show RSlot (condG G) S w β t (.gd (q :: g) av) undef from ⟨fun h=>(by rw [hc] at h; cases h),fun _=>rfl⟩) ?_ (fun l a h=>?_)) htG _ _
    ·intro j
     cases j <;> simp [AV.ownsAt,AV.isOwn,plain_isOwn hpl]
    ·cases h
     exact ⟨plain_isOwn hpl,hgs⟩
  have wanted:∀ (av:AV) (u:Value) (w':World),av.plain=true→condG G (q :: g)=true→RFlat S w β (0,0) av u→MemG e (pushG G t (q :: g) av) N (setA t (.gd (q :: g) av) fr) (a.put o.dst u) w:=by
   intro av u w' hpl hc hru
   rw [ht]
   refine ⟨by rw [put_defers]; exact hd,by rw [put_size]; exact hN,?_,S,β,?_⟩
   ·exact pushG_inv (hI.put hN htN htG u) htN htG hgs (u:=u) (by rw [put_get a t u hts,if_pos rfl]) (fun _=>hru) (fun h=>by rw [hc] at h; cases h)
   ·refine pushG_mem (hm.setPlain t _ u _ (put_old a t u hts) (put_new a t u hts) (show RSlot (condG G) S w β t (.gd (q :: g) av) u from ⟨fun _=>plain_path hpl hru,fun h=>by rw [hc] at h; cases h⟩) ?_ (fun l a h=>?_)) htG _ _
    ·intro j
     cases j <;> simp [AV.ownsAt,AV.isOwn,plain_isOwn hpl]
    ·cases h
     exact ⟨plain_isOwn hpl,hgs⟩
  split at hs
  ·rename_i r hR
   split at hs
   case isFalse=>cases hs
   rename_i hpl
   simp only [Option.some.injEq,Prod.mk.injEq] at hs
   obtain ⟨rfl,rfl,rfl⟩:=hs
   refine ⟨fun hwt=>?_,fun hwf=>hK _ _ (notWanted _ hpl (by rw [← hw]; exact hwf))⟩
   rw [hw] at hwt
   obtain ⟨u,hu,hru⟩:=opR'_ok (P:=P) hN hI hm hwt hR (ho hwt)
   exact wp_value hu (hK _ _ (wanted _ u w hpl hwt hru))
  ·split at hs
   rotate_left
   ·split at hs
    case h_2=>cases hs
    rename_i r hC
    split at hs
    case isFalse=>cases hs
    rename_i hpl
    simp only [Option.some.injEq,Prod.mk.injEq] at hs
    obtain ⟨rfl,rfl,rfl⟩:=hs
    refine ⟨fun hwt=>?_,fun hwf=>hK _ _ (notWanted _ hpl (by rw [← hw]; exact hwf))⟩
    rw [hw] at hwt
    obtain ⟨u,w',hu,S',β',hm'⟩:=opGL_ok hN hm hwt htN ht hC (ho hwt)
    have hm2:=hm'.weaken t (.gd (q :: g) r.1) (fun v hv=>by
      rw [fget_setA_self] at hv
      exact ⟨fun _=>(flat_slot (by cases hr:r.1 <;> simp_all [AV.plain,AV.flat])).1 hv,fun hc=>by rw [hwt] at hc; cases hc⟩) (fun j hj=>by cases j <;> simp [AV.ownsAt,AV.isOwn,plain_isOwn hpl] at hj) (fun l a hh=>by cases hh; exact ⟨plain_isOwn hpl,hgs⟩)
    have hm3:Mem e G S' β' (setA t (.gd (q :: g) r.1) fr) (valsOf e (a.put (some t) u)) w':=hm2.congr fun x=>by
     by_cases hx:x=t
     ·subst hx; rw [fget_cons_self,fget_setA_self]
     ·rw [fget_cons_ne _ _ (Ne.symm hx),fget_setA_ne _ _ hx,fget_setA_ne _ _ hx]
    refine wp_value hu (hK _ _ ⟨by rw [put_defers]; exact hd,by rw [put_size]; exact hN,?_,S',β',?_⟩)
    ·rw [ht]
     obtain ⟨v,hv1,hv2⟩:=hm3.rel t
     rw [fget_setA_self] at hv1
     have hput:(a.put (some t) u).tmps[t]? = some u:=by rw [put_get a t u hts,if_pos rfl]
     have huv:=hv2 u (put_at a t u hts)
     subst huv
     exact pushG_inv (hI.put hN htN htG u) htN htG hgs hput (fun hc=>plain_path hpl (hv1.1 hc)) (fun hc=>by rw [hwt] at hc; cases hc)
    ·rw [ht]
     exact pushG_mem hm3 htG _ _
   rename_i r hC
   split at hs
   case isFalse=>cases hs
   rename_i hpl
   simp only [Option.some.injEq,Prod.mk.injEq] at hs
   obtain ⟨rfl,rfl,rfl⟩:=hs
   refine ⟨fun hwt=>?_,fun hwf=>hK _ _ (notWanted _ hpl (by rw [← hw]; exact hwf))⟩
   rw [hw] at hwt
   have hval:=fun x=>oval_ok hm hN (q :: g) hwt x
   unfold opGC at hC
   obtain ⟨dst,op,type,pos,after,guard⟩:=o
   subst ht
   split at hC
   case h_2=>cases hC
   rename_i f args ats t' hop hdt
   simp only [Option.some.injEq] at hdt
   subst hdt
   split at hC
   case h_2=>cases hC
   rename_i k caps hf
   split at hC
   case isFalse=>cases hC
   rename_i hemp
   simp only [Bool.and_eq_true,List.isEmpty_iff] at hemp
   simp only [Option.map_eq_some_iff] at hC
   obtain ⟨⟨frc,ob⟩,hce,rfl⟩:=hC
   have hfv:=hval f
   rw [hf] at hfv
   obtain ⟨l,hl,hcaps⟩:=hfv
   have hitems:∀ (xs:List Operand) (j:Nat),All2 (fun _=>ArgOk N S w β a) j (xs.map fun x=>((none,oval N (q :: g) fr x):ArgIn)) (xs.map a.eval):=by
    intro xs
    induction xs with
    | nil=>intro j; trivial
    | cons x xs ih=>intro j; exact ⟨hval x,ih (j+1)⟩
   have hargs:All2 (fun _=>ArgOk N S w β a) 0 ((args.toList.map fun x=>((none,oval N (q :: g) fr x):ArgIn))++caps.map fun c=>((none,c):ArgIn)) (args.toList.map a.eval++l) :=
    All2.append (fun _ _ _ _ h=>h) (hitems _ 0) (caps_ok caps l 0 0 hcaps)
   obtain ⟨hcb,hcalls⟩:=callEff_ok hN hm hce (ho hwt) hargs
   refine wp_enter (run_call hop hl hcb) hcalls fun u w' hR=>?_
   obtain ⟨S',β',hm'⟩:=hR
   have hfr:=callEff_fr hce hemp.1 rfl (by
    intro it hit
    rcases List.mem_append.1 hit with h | h
    ·obtain ⟨x,_,rfl⟩:=List.mem_map.1 h
     rfl
    ·obtain ⟨x,_,rfl⟩:=List.mem_map.1 h
     rfl)
   have hm2:=hm'.weaken t (.gd (q :: g) h.res) (fun v hv=>by
     rw [hfr t,if_pos rfl] at hv
     refine ⟨fun _=>?_,fun hc=>by rw [hwt] at hc; cases hc⟩
     have:h.res.flat=true:=by cases hr:h.res <;> simp_all [AV.plain,AV.flat]
     exact (flat_slot this).1 hv) (fun j hj=>by cases j <;> simp [AV.ownsAt,AV.isOwn,plain_isOwn hpl] at hj) (fun l a hh=>by cases hh; exact ⟨plain_isOwn hpl,hgs⟩)
   have hm3:Mem e G S' β' (setA t (.gd (q :: g) h.res) fr) (valsOf e (a.put (some t) u)) w':=hm2.congr fun x=>by
    by_cases hx:x=t
    ·subst hx; rw [fget_cons_self,fget_setA_self]
    ·rw [fget_cons_ne _ _ (Ne.symm hx),hfr x,if_neg hx,fget_setA_ne _ _ hx]
   refine hK _ _ ⟨by rw [put_defers]; exact hd,by rw [put_size]; exact hN,?_,S',β',pushG_mem hm3 htG _ _⟩
   obtain ⟨v,hv1,hv2⟩:=hm3.rel t
   rw [fget_setA_self] at hv1
   have hput:(a.put (some t) u).tmps[t]? = some u:=by rw [put_get a t u hts,if_pos rfl]
   have huv:=hv2 u (put_at a t u hts)
   subst huv
   exact pushG_inv (hI.put hN htN htG u) htN htG hgs hput (fun hc=>plain_path hpl (hv1.1 hc)) (fun hc=>by rw [hwt] at hc; cases hc)
end
end Go.Vm
