/-
  THE V-MACHINE,text A: VmBase,VmMem,VmPure,VmRead,VmRops,VmRops2,VmRops3,VmTrans,VmOwn,VmAppend,VmAlloc,VmMove,VmMake,VmEff.
-/
import Derived.ProofKit
import Derived.WalkKit
import Derived.Laws.AppendOwn
import Derived.Laws.OwnMore
import Derived.Laws.MakeOwn
import Derived.KernelRfl
import Derived.Lib.Strings
namespace Go.Vm
inductive Dat where
 | v (x:Value)
 | str (l:List UInt8)
 | sl (sz:Nat) (es:List (List Dat))
 | pt (cs:List Dat)
abbrev Path:=Nat×Nat
inductive AV where
 | junk
 | d (x:Dat)
 | agg (cs:List Dat)
 | tup (vs:List AV)
 | own (κ:TypeId) (sz:Nat) (es:List (List Dat))
 | fz (sz:Nat) (es:List (List Dat))
 | arr (κ:TypeId) (sz:Nat) (es:List (List Dat))
 | box (cs:List AV)
 | vw (p:Path)
 | bp (x off:Nat)
 | ep (p:Path) (sz i off:Nat)
 | sv (p:Path) (sz lo len:Nat)
 | clo (f:Nat) (caps:List AV)
 | agw (cs:List AV)
 | slf (off:Nat) (E:TypeId)
 | mp (kk vk:IntKind) (es:List (Int×Int))
 | glo (k:Nat) (cs:List Dat)
 | dow (κ:TypeId) (sz:Nat) (ms:List (Nat×TypeId×Nat)) (es:List (List Dat)) (k:Nat) (ex:List (Nat×Nat×Nat))
 | gd (g:List (Nat×Bool)) (a:AV)
def strOf (l:List UInt8):Value:=.string ⟨l.toArray⟩
mutual
def RD (S:Nat→Prop) (w:World):Dat→Value→Prop
 | .v x,u=>u=x∧x.oneCell'=true
 | .str l,u=>u=strOf l
 | .sl sz es,u=>((∃ q,u=.slice q 0 0)∧es=[])∨∃ b off c arr E fz,u=.slice (some ⟨b,off,none⟩) es.length c∧es.length≤c∧S b∧w.heap[b]? = some (.cells arr E fz)∧REs S w sz es (fun j=>arr[j]?) off
 | .pt cs,u=>∃ b off arr E fz,u=.pointer (some ⟨b,off,none⟩)∧S b∧w.heap[b]? = some (.cells arr E fz)∧RCs S w cs (fun j=>arr[j]?) off
def RCs (S:Nat→Prop) (w:World):List Dat→(Nat→Option Value)→Nat→Prop
 | [],_,_=>True
 | x :: xs,g,o=>(∃ u,g o=some u∧RD S w x u)∧RCs S w xs g (o+1)
def REs (S:Nat→Prop) (w:World) (sz:Nat):List (List Dat)→(Nat→Option Value)→Nat→Prop
 | [],_,_=>True
 | e :: es,g,o=>e.length=sz∧RCs S w e g o∧REs S w sz es g (o+sz)
end
def Agree (S:Nat→Prop) (w w':World):Prop:=∀ b,S b→w'.heap[b]? = w.heap[b]?
mutual
theorem RD.mono {S S':Nat→Prop} {w w':World} (hs:∀ b,S b→S' b) (ha:Agree S w w'):∀ (x:Dat) (u:Value),RD S w x u→RD S' w' x u
 | .v _,_,h=>by simpa [RD] using h
 | .str _,_,h=>by simpa [RD] using h
 | .sl sz es,u,h=>by
  simp only [RD] at h ⊢
  rcases h with h | ⟨b,off,c,arr,E,fz,h1,h2,h3,h4,h5⟩
  ·exact .inl h
  ·exact .inr ⟨b,off,c,arr,E,fz,h1,h2,hs b h3,(ha b h3).trans h4,REs.mono hs ha sz es _ _ h5⟩
 | .pt cs,u,h=>by
  simp only [RD] at h ⊢
  obtain ⟨b,off,arr,E,fz,h1,h3,h4,h5⟩:=h
  exact ⟨b,off,arr,E,fz,h1,hs b h3,(ha b h3).trans h4,RCs.mono hs ha cs _ _ h5⟩
theorem RCs.mono {S S':Nat→Prop} {w w':World} (hs:∀ b,S b→S' b) (ha:Agree S w w'):∀ (xs:List Dat) (g:Nat→Option Value) (o:Nat),RCs S w xs g o→RCs S' w' xs g o
 | [],_,_,_=>by simp [RCs]
 | x :: xs,g,o,h=>by
  simp only [RCs] at h ⊢
  obtain ⟨⟨u,h1,h2⟩,h3⟩:=h
  exact ⟨⟨u,h1,RD.mono hs ha x u h2⟩,RCs.mono hs ha xs g _ h3⟩
theorem REs.mono {S S':Nat→Prop} {w w':World} (hs:∀ b,S b→S' b) (ha:Agree S w w'):∀ (sz:Nat) (es:List (List Dat)) (g:Nat→Option Value) (o:Nat),REs S w sz es g o→REs S' w' sz es g o
 | _,[],_,_,_=>by simp [REs]
 | sz,e :: es,g,o,h=>by
  simp only [REs] at h ⊢
  obtain ⟨h1,h2,h3⟩:=h
  exact ⟨h1,RCs.mono hs ha e g o h2,REs.mono hs ha sz es g _ h3⟩
end
theorem RCs.congr {S:Nat→Prop} {w:World} {g g':Nat→Option Value}:∀ (xs:List Dat) (o o':Nat),(∀ j,j < xs.length→g' (o'+j)=g (o+j))→RCs S w xs g o→RCs S w xs g' o'
 | [],_,_,_,_=>by simp [RCs]
 | x :: xs,o,o',h,hr=>by
  simp only [RCs] at hr ⊢
  obtain ⟨⟨u,h1,h2⟩,h3⟩:=hr
  refine ⟨⟨u,?_,h2⟩,RCs.congr xs (o+1) (o'+1) (fun j hj=>?_) h3⟩
  ·have h0:=h 0 (by simp)
   simp only [Nat.add_zero] at h0
   rw [h0]; exact h1
  ·have:=h (j+1) (by simpa using hj)
   simpa [Nat.add_assoc,Nat.add_comm 1 j] using this
theorem REs.congr {S:Nat→Prop} {w:World} {g g':Nat→Option Value} {sz:Nat}:∀ (es:List (List Dat)) (o o':Nat),(∀ j,j < es.length * sz→g' (o'+j)=g (o+j))→REs S w sz es g o→REs S w sz es g' o'
 | [],_,_,_,_=>by simp [REs]
 | e :: es,o,o',h,hr=>by
  simp only [REs] at hr ⊢
  obtain ⟨h1,h2,h3⟩:=hr
  have hl:(e :: es).length * sz=es.length * sz+sz:=by simp [Nat.add_mul]
  refine ⟨h1,RCs.congr e o o' (fun j hj=>h j (by omega)) h2,REs.congr es (o+sz) (o'+sz) (fun j hj=>?_) h3⟩
  have:=h (sz+j) (by omega)
  simpa [Nat.add_assoc] using this
theorem RCs.get {S:Nat→Prop} {w:World} {g:Nat→Option Value}:∀ (xs:List Dat) (o j:Nat) (x:Dat),RCs S w xs g o→xs[j]? = some x→∃ u,g (o+j)=some u∧RD S w x u
 | [],_,_,_,_,h=>by simp at h
 | y :: ys,o,0,x,hr,h=>by
  simp only [RCs] at hr
  simp at h
  subst h
  simpa using hr.1
 | y :: ys,o,j+1,x,hr,h=>by
  simp only [RCs] at hr
  have:=RCs.get ys (o+1) j x hr.2 (by simpa using h)
  simpa [Nat.add_assoc,Nat.add_comm 1 j] using this
theorem REs.get {S:Nat→Prop} {w:World} {g:Nat→Option Value} {sz:Nat}:∀ (es:List (List Dat)) (o j:Nat) (e:List Dat),REs S w sz es g o→es[j]? = some e→e.length=sz∧RCs S w e g (o+j * sz)
 | [],_,_,_,_,h=>by simp at h
 | y :: ys,o,0,x,hr,h=>by
  simp only [REs] at hr
  simp at h
  subst h
  exact ⟨hr.1,by simpa using hr.2.1⟩
 | y :: ys,o,j+1,x,hr,h=>by
  simp only [REs] at hr
  have:=REs.get ys (o+sz) j x hr.2.2 (by simpa using h)
  refine ⟨this.1,?_⟩
  have e:o+sz+j * sz=o+(j+1) * sz:=by rw [Nat.add_mul]; omega
  rw [← e]; exact this.2
theorem RCs.dJ {S:Nat→Prop} {w:World} {g:Nat→Option Value}:∀ (xs:List Dat) (o:Nat),(∀ j x,xs[j]? = some x→∃ u,g (o+j)=some u∧RD S w x u)→RCs S w xs g o
 | [],_,_=>by simp [RCs]
 | x :: xs,o,h=>by
  simp only [RCs]
  refine ⟨by simpa using h 0 x (by simp),RCs.dJ xs (o+1) fun j y hy=>?_⟩
  have:=h (j+1) y (by simpa using hy)
  simpa [Nat.add_assoc,Nat.add_comm 1 j] using this
theorem REs.dJ {S:Nat→Prop} {w:World} {g:Nat→Option Value} {sz:Nat}:∀ (es:List (List Dat)) (o:Nat),(∀ j e,es[j]? = some e→e.length=sz∧RCs S w e g (o+j * sz))→REs S w sz es g o
 | [],_,_=>by simp [REs]
 | x :: xs,o,h=>by
  simp only [REs]
  have h0:=h 0 x (by simp)
  refine ⟨h0.1,by simpa using h0.2,REs.dJ xs (o+sz) fun j y hy=>?_⟩
  have:=h (j+1) y (by simpa using hy)
  refine ⟨this.1,?_⟩
  have e:o+sz+j * sz=o+(j+1) * sz:=by rw [Nat.add_mul]; omega
  rw [e]; exact this.2
theorem REs.len {S:Nat→Prop} {w:World} {g:Nat→Option Value} {sz:Nat} (es:List (List Dat)) (o:Nat) (h:REs S w sz es g o):∀ e∈es,e.length=sz:=by
 intro e he
 obtain ⟨j,hj,rfl⟩:=List.getElem_of_mem he
 exact (REs.get es o j _ h (List.getElem?_eq_getElem hj)).1
theorem REs.defined {S:Nat→Prop} {w:World} {g:Nat→Option Value} {sz:Nat} (es:List (List Dat)) (o:Nat) (h:REs S w sz es g o) (j:Nat) (hj:j < es.length * sz):∃ u,g (o+j)=some u:=by
 have hsz:0 < sz:=by rcases Nat.eq_zero_or_pos sz with h0 | h0 <;> simp_all
 have hq:j / sz < es.length:=Nat.div_lt_of_lt_mul (by rwa [Nat.mul_comm])
 obtain ⟨h1,h2⟩:=REs.get es o (j / sz) _ h (List.getElem?_eq_getElem hq)
 have hr:j % sz < (es[j / sz]).length:=by rw [h1]; exact Nat.mod_lt _ hsz
 obtain ⟨u,hu,_⟩:=RCs.get _ _ (j % sz) _ h2 (List.getElem?_eq_getElem hr)
 refine ⟨u,?_⟩
 have e:o+j / sz * sz+j % sz=o+j:=by
  have:=Nat.div_add_mod j sz
  rw [Nat.mul_comm] at this
  omega
 rwa [e] at hu
theorem REs.nY {S:Nat→Prop} {w:World} {g:Nat→Option Value} {sz:Nat}:∀ (es:List (List Dat)) (o:Nat),REs S w sz es g o→es.flatten.length=es.length * sz
 | [],_,_=>by simp
 | e :: es,o,h=>by
  simp only [REs] at h
  rw [List.flatten_cons,List.length_append,REs.nY es _ h.2.2,h.1,List.length_cons,Nat.add_mul]
  omega
theorem RCs.app {S:Nat→Prop} {w:World} {g:Nat→Option Value}:∀ (xs ys:List Dat) (o:Nat),RCs S w xs g o→RCs S w ys g (o+xs.length)→RCs S w (xs++ys) g o
 | [],ys,o,_,h=>by simpa using h
 | x :: xs,ys,o,h1,h2=>by
  simp only [RCs,List.cons_append] at h1 ⊢
  refine ⟨h1.1,RCs.app xs ys (o+1) h1.2 ?_⟩
  have e:o+1+xs.length=o+(x :: xs).length:=by simp; omega
  rw [e]; exact h2
theorem REs.flat {S:Nat→Prop} {w:World} {g:Nat→Option Value} {sz:Nat}:∀ (es:List (List Dat)) (o:Nat),REs S w sz es g o→RCs S w es.flatten g o
 | [],_,_=>by simp [RCs]
 | e :: es,o,h=>by
  simp only [REs] at h
  rw [List.flatten_cons]
  exact RCs.app e es.flatten o h.2.1 (by rw [h.1]; exact REs.flat es _ h.2.2)
theorem REs.of_flat {S:Nat→Prop} {w:World} {g:Nat→Option Value} {sz:Nat}:∀ (es:List (List Dat)) (o:Nat),(∀ e∈es,e.length=sz)→RCs S w es.flatten g o→REs S w sz es g o
 | [],_,_,_=>by simp [REs]
 | e :: es,o,hl,h=>by
  simp only [REs]
  rw [List.flatten_cons] at h
  have he:=hl e (by simp)
  have key:∀ (xs ys:List Dat) (o:Nat),RCs S w (xs++ys) g o→RCs S w xs g o∧RCs S w ys g (o+xs.length):=by
   intro xs
   induction xs with
   | nil=>intro ys o h; exact ⟨by simp [RCs],by simpa using h⟩
   | cons x xs ih =>
    intro ys o h
    simp only [RCs,List.cons_append] at h ⊢
    obtain ⟨h1,h2⟩:=ih ys (o+1) h.2
    refine ⟨⟨h.1,h1⟩,?_⟩
    have e':o+1+xs.length=o+(x :: xs).length:=by simp; omega
    rw [← e']; exact h2
  obtain ⟨h1,h2⟩:=key e es.flatten o h
  rw [he] at h2
  exact ⟨he,h1,REs.of_flat es _ (fun e' h'=>hl e' (by simp [h'])) h2⟩
end Go.Vm
namespace Go.Vm
abbrev Fr:=List (Nat×AV)
def aX:Fr→Nat→AV
  | [],_=>.junk
  | (y,a) :: r,x=>if y == x then a else aX r x
def AV.bV:AV→Bool
 | .own _ _ _ | .box _ | .arr _ _ _ | .mp _ _ _ | .dow _ _ _ _ _ _=>true
 | .gd _ a=>a.bV
 | _=>false
def AV.mA:AV→List Path
 | .vw p=>[p]
 | .bp y _=>[(y,0)]
 | .ep p _ _ _=>[p]
 | .sv p _ _ _=>[p]
 | .dow _ _ _ _ _ ex=>ex.map fun z=>(z.2.2,0)
 | _=>[]
def AV.nW:AV→List Path
 | .clo _ caps=>caps.flatMap AV.mA
 | .agw cs=>cs.flatMap AV.mA
 | a=>a.mA
def AV.jF:AV→List Path
 | .gd _ a=>a.nW
 | a=>a.nW
def AV.paths:AV→List Path
 | .box cs=>cs.flatMap AV.jF
 | .tup vs=>vs.flatMap AV.jF
 | a=>a.jF
def AV.dZ (π:Path→Bool) (a:AV):AV:=if a.jF.any π then .junk else a
def AV.dS (π:Path→Bool):AV→AV
 | .box cs=>.box (cs.map (AV.dZ π))
 | .tup vs=>.tup (vs.map (AV.dZ π))
 | a=>a.dZ π
def vY (π:Path→Bool) (fr:Fr):Fr:=fr.map fun p=>(p.1,p.2.dS π)
def fG (x:Nat):Path→Bool:=fun p=>p.1 == x
def dS (x:Nat) (fr:Fr):Fr:=vY (fG x) fr
theorem aV (x:Nat) (a:AV) (fr:Fr):aX ((x,a) :: fr) x=a:=by simp [aX]
theorem bL {x y:Nat} (a:AV) (fr:Fr) (h:y≠x):aX ((y,a) :: fr) x=aX fr x:=by simp [aX,h]
theorem qR (x y:Nat) (a:AV) (fr:Fr):aX ((y,a) :: fr) x=if y=x then a else aX fr x:=by simp [aX]
theorem nM (π:Path→Bool) (y:Nat):∀ fr:Fr,aX (vY π fr) y=(aX fr y).dS π
  | []=>by simp [vY,aX,AV.dS,AV.dZ,AV.jF,AV.nW,AV.mA]
  | (z,a) :: r=>by
    have ih:=nM π y r
    simp only [vY] at ih
    simp only [vY,List.map_cons,aX]
    by_cases h:z == y <;> simp [h,ih]
theorem bU9 (x y:Nat) (fr:Fr):aX (dS x fr) y=(aX fr y).dS (fG x):=nM _ y fr
def aR2 (fz:Nat×Nat) (n:Nat):Prop:=fz.1=fz.2∨n≤fz.1
theorem aR2.out {fz:Nat×Nat} {n:Nat} (h:aR2 fz n):∀ o,o < n→¬ (fz.1≤o∧o < fz.2):=by
 intro o ho h'
 rcases h with h | h <;> omega
def KOk (κ E:TypeId) (fz:Nat×Nat) (es:List (List Dat)):Prop:=(E=κ∨E+1099511627776=κ∨E+2199023255552=κ)∧(1099511627776≤κ→fz.1=fz.2)∧(2199023255552≤κ→es≠[])
theorem KOk.new {E:TypeId} (hE:E < 1099511627776) {es:List (List Dat)}:KOk E E (0,0) es:=⟨.inl rfl,fun _=>rfl,fun h=>absurd (Nat.lt_trans hE (by decide)) (Nat.not_lt.2 h)⟩
theorem KOk.lit {E:TypeId} (hE:E < 1099511627776) {es:List (List Dat)}:KOk (E+1099511627776) E (0,0) es:=⟨.inr (.inl rfl),fun _=>rfl,fun h=>absurd (Nat.add_lt_add_right hE 1099511627776) (Nat.not_lt.2 h)⟩
theorem KOk.full (E:TypeId) {es:List (List Dat)} (h:es≠[]):KOk (E+2199023255552) E (0,0) es:=⟨.inr (.inr rfl),fun _=>rfl,fun _=>h⟩
theorem KOk.app {κ E:TypeId} {fz:Nat×Nat} {es nes:List (List Dat)} (h:KOk κ E fz es):KOk κ E fz (es++nes):=⟨h.1,h.2.1,fun hk he=>h.2.2 hk (List.append_eq_nil_iff.1 he).1⟩
theorem KOk.of {κ E:TypeId} (hE:E < 1099511627776) {es:List (List Dat)} (h:κ=E∨κ=E+2199023255552) (hne:es≠[]):KOk κ E (0,0) es:=by
 rcases h with rfl | rfl
 ·exact KOk.new hE
 ·exact KOk.full _ hne
theorem KOk.any {κ E:TypeId} {fz:Nat×Nat} {es es':List (List Dat)} (h:KOk κ E fz es) (hκ:κ < 2199023255552):KOk κ E fz es':=⟨h.1,h.2.1,fun hk=>absurd hκ (Nat.not_lt.2 hk)⟩
theorem KOk.ne {κ E:TypeId} {fz:Nat×Nat} {es es':List (List Dat)} (h:KOk κ E fz es) (hn:es'≠[]):KOk κ E fz es':=⟨h.1,h.2.1,fun _=>hn⟩
theorem KOk.len {κ E:TypeId} {fz:Nat×Nat} {es es':List (List Dat)} (h:KOk κ E fz es) (hl:es'.length=es.length):KOk κ E fz es':=⟨h.1,h.2.1,fun hk he=>h.2.2 hk (by
 subst he
 exact List.length_eq_zero_iff.1 hl.symm)⟩
def OwnAt (S:Nat→Prop) (w:World) (u:Value) (κ:TypeId) (sz:Nat) (es:List (List Dat)):Prop :=
 (u=.slice none 0 0∧es=[])∨∃ b off c arr E fz,u=.slice (some ⟨b,off,none⟩) es.length c∧es.length≤c∧off+c * sz≤arr.size∧aR2 fz arr.size∧w.heap[b]? = some (.cells arr E fz)∧KOk κ E fz es∧REs S w sz es (fun j=>arr[j]?) off
def bB6 (S:Nat→Prop) (w:World) (u:Value) (κ:TypeId) (sz:Nat) (es:List (List Dat)):Prop :=
 ∃ b arr,u=.pointer (some ⟨b,0,none⟩)∧arr.size=es.length * sz∧w.heap[b]? = some (.cells arr κ (0,0))∧REs S w sz es (fun j=>arr[j]?) 0
def blk:Value→Option Nat
 | .slice (some a) _ _=>some a.block
 | .pointer (some a)=>some a.block
 | .map (some r)=>some r
 | _=>none
def bV2 (w:World) (u:Value) (kk vk:IntKind) (es:List (Int×Int)):Prop :=
 ∃ b arr clk,u=.map (some b)∧w.heap[b]? = some (.map arr clk)∧arr.toList.map (fun m=>(m.key,m.val))=es.map fun q=>(Value.int kk q.1,Value.int vk q.2)
def rY (S:Nat→Prop) (w:World) (k:Nat) (cs:List Dat):Prop:=∃ arr E fz,S k∧w.heap[k]? = some (.cells arr E fz)∧arr.size=cs.length∧RCs S w cs (fun j=>arr[j]?) 0
theorem rY.rd {S:Nat→Prop} {w:World} {k:Nat} {cs:List Dat} (h:rY S w k cs):RD S w (.pt cs) (.pointer (some ⟨k,0,none⟩)):=by
 obtain ⟨arr,E,fz,h1,h2,_,h4⟩:=h
 simp only [RD]
 exact ⟨k,0,arr,E,fz,rfl,h1,h2,h4⟩
theorem rY.mono {S S':Nat→Prop} {w w':World} {k:Nat} {cs:List Dat} (h:rY S w k cs) (hs:∀ b,S b→S' b) (ha:Agree S w w'):rY S' w' k cs:=by
 obtain ⟨arr,E,fz,h1,h2,h3,h4⟩:=h
 exact ⟨arr,E,fz,hs k h1,(ha k h1).trans h2,h3,RCs.mono hs ha _ _ _ h4⟩
def aK2 (β:Path→Value):AV→Value→Prop
 | .vw p,u=>u=β p
 | .bp x off,u=>∃ b,β (x,0)=.pointer (some ⟨b,0,none⟩)∧u=.pointer (some ⟨b,off,none⟩)
 | .ep p sz i off,u=>∃ b o,((∃ n c,β p=.slice (some ⟨b,o,none⟩) n c)∨β p=.pointer (some ⟨b,o,none⟩))∧u=.pointer (some ⟨b,o+(i * sz+off),none⟩)
 | .sv p sz lo len,u=>∃ b o n c c',β p=.slice (some ⟨b,o,none⟩) n c∧u=.slice (some ⟨b,o+lo * sz,none⟩) len c'∧len≤c'
 | _,_=>False
def rC (S:Nat→Prop) (w:World) (β:Path→Value):AV→Value→Prop
 | .d x,u=>RD S w x u
 | .vw p,u=>aK2 β (.vw p) u
 | .bp x off,u=>aK2 β (.bp x off) u
 | _,_=>False
def bI {α γ:Type} (R:Nat→α→γ→Prop):Nat→List α→List γ→Prop
 | _,[],[]=>True
 | i,a :: as,c :: cs=>R i a c∧bI R (i+1) as cs
 | _,_,_=>False
def aE5 (w:World):Value→Option TypeId
 | .pointer (some a)=>match w.heap[a.block]? with
  | some (.cells _ E _)=>some E
  | _=>none
 | _=>none
theorem bG9 {w w':World} {v:Value} (h:∀ b,blk v=some b→w'.heap[b]? = w.heap[b]?):aE5 w' v=aE5 w v:=by
 unfold aE5
 split
 ·rename_i a
  rw [h a.block rfl]
 ·rfl
def AV.aI6:AV→Bool
 | .slf _ _=>false
 | _=>true
def bA (S:Nat→Prop) (w:World) (β:Path→Value) (p:Path):AV→Value→Prop
 | .junk,_=>True
 | .d x,u=>RD S w x u
 | .agg cs,u=>∃ l,u=.agg ⟨l⟩∧l.length=cs.length∧RCs S w cs (fun j=>l[j]?) 0
 | .own κ sz es,u=>u=β p∧OwnAt S w u κ sz es
 | .fz sz es,u=>u=β p∧RD S w (.sl sz es) u
 | .arr κ sz es,u=>u=β p∧bB6 S w u κ sz es
 | .mp kk vk es,u=>u=β p∧bV2 w u kk vk es
 | .clo f caps,u=>∃ l,u=.func (.func f) #[] ⟨l⟩∧bI (fun _=>rC S w β) 0 caps l
 | .agw cs,u=>∃ l,u=.agg ⟨l⟩∧(∀ v∈l,v.oneCell'=true)∧bI (fun _=>rC S w β) 0 cs l
 | .vw q,u=>aK2 β (.vw q) u
 | .bp x off,u=>aK2 β (.bp x off) u
 | .ep q sz i off,u=>aK2 β (.ep q sz i off) u
 | .sv q sz lo len,u=>aK2 β (.sv q sz lo len) u
 | .glo k cs,u=>u=β p∧u=.pointer (some ⟨k,0,none⟩)∧rY S w k cs
 | .slf off E,u=>p.2≠0∧aE5 w (β (p.1,0))=some E∧(u=.pointer none∨∃ b,β (p.1,0)=.pointer (some ⟨b,0,none⟩)∧u=.pointer (some ⟨b,off,none⟩))
 | _,_=>False
def kN (S:Nat→Prop) (w:World) (β:Path→Value) (x:Nat) (cs:List AV) (l:List Value):Prop :=
 bI (fun j a u=>bA S w β (x,j+1) a u) 0 cs l
def aO2 (sz:Nat) (ms:List (Nat×TypeId×Nat)) (k:Nat) (ex:List (Nat×Nat×Nat)) (j:Nat):Bool :=
 decide (j < k * sz) && (ms.find? (fun m=>m.1 == j % sz)).isSome && (ex.find? (fun x=>x.1 == j / sz && x.2.1 == j % sz)).isNone
def cD6 (S:Nat→Prop) (w:World) (β:Path→Value) (x sz:Nat) (ms:List (Nat×TypeId×Nat)) (k:Nat) (ex:List (Nat×Nat×Nat)) (i q:Nat) (d:Dat) (v:Value):Prop :=
 match ex.find? (fun x=>x.1 == i && x.2.1 == q) with
 | some z=>v=β (z.2.2,0)∧v.oneCell'=true
 | none=>match ms.find? (fun m=>m.1 == q) with
  | some m=>if i < k then v=β (x,i * sz+q+1)∧∃ es,d=.sl m.2.2 es∧OwnAt S w v m.2.1 m.2.2 es else RD S w d v
  | none=>RD S w d v
def aA0 (S:Nat→Prop) (w:World) (β:Path→Value) (x:Nat) (u:Value) (κ:TypeId) (sz:Nat) (ms:List (Nat×TypeId×Nat)) (es:List (List Dat)) (k:Nat) (ex:List (Nat×Nat×Nat)):Prop :=
 u=β (x,0)∧k≤es.length∧((u=.slice none 0 0∧es=[])∨∃ b off c arr E fz,u=.slice (some ⟨b,off,none⟩) es.length c∧es.length≤c∧off+c * sz≤arr.size∧aR2 fz arr.size∧w.heap[b]? = some (.cells arr E fz)∧KOk κ E fz es ∧
  ∀ i e,es[i]? = some e→e.length=sz∧∀ q d,e[q]? = some d→∃ v,arr[off+(i * sz+q)]? = some v∧cD6 S w β x sz ms k ex i q d v)
def dV (h:List (Nat×Bool)→Bool) (S:Nat→Prop) (w:World) (β:Path→Value) (x:Nat):AV→Value→Prop
 | .gd g a,u=>(h g=true→bA S w β (x,0) a u)∧(h g=false→u=undef)
 | .tup vs,u=>∃ l,u=.tuple ⟨l⟩∧vs.all AV.aI6=true∧kN S w β x vs l
 | .box cs,u=>u=β (x,0)∧∃ b l E,u=.pointer (some ⟨b,0,none⟩)∧w.heap[b]? = some (.cells ⟨l⟩ E (0,0))∧kN S w β x cs l
 | .dow κ sz ms es k ex,u=>aA0 S w β x u κ sz ms es k ex
 | a,u=>bA S w β (x,0) a u
def AV.aR:AV→Nat→Bool
 | .box cs,j+1=>((cs[j]?).map AV.bV).getD false
 | .tup cs,j+1=>((cs[j]?).map AV.bV).getD false
 | .dow _ sz ms _ k ex,j+1=>aO2 sz ms k ex j
 | a,0=>a.bV
 | _,_=>false
theorem bI.len {α γ:Type} {R:Nat→α→γ→Prop}:∀ {i:Nat} {as:List α} {cs:List γ},bI R i as cs→as.length=cs.length
 | _,[],[],_=>rfl
 | i,a :: as,c :: cs,h=>by simp [bI] at h; simp [bI.len h.2]
 | _,[],_ :: _,h=>by simp [bI] at h
 | _,_ :: _,[],h=>by simp [bI] at h
theorem bI.get {α γ:Type} {R:Nat→α→γ→Prop}:∀ {i:Nat} {as:List α} {cs:List γ},bI R i as cs→∀ (j:Nat) (a:α),as[j]? = some a→∃ c,cs[j]? = some c∧R (i+j) a c
 | _,[],[],_,j,a,ha=>by simp at ha
 | i,x :: as,c :: cs,h,0,a,ha=>by
  simp [bI] at h
  simp at ha
  subst ha
  exact ⟨c,by simp,by simpa using h.1⟩
 | i,x :: as,c :: cs,h,j+1,a,ha=>by
  simp [bI] at h
  obtain ⟨c',h1,h2⟩:=bI.get h.2 j a (by simpa using ha)
  exact ⟨c',by simpa using h1,by simpa [Nat.add_assoc,Nat.add_comm 1 j] using h2⟩
 | _,[],_ :: _,h,_,_,_=>by simp [bI] at h
 | _,_ :: _,[],h,_,_,_=>by simp [bI] at h
theorem bI.mono {α γ:Type} {R R':Nat→α→γ→Prop}:∀ {i:Nat} {as:List α} {cs:List γ},bI R i as cs→(∀ j a c,as[j]? = some a→cs[j]? = some c→R (i+j) a c→R' (i+j) a c)→bI R' i as cs
 | _,[],[],_,_=>by simp [bI]
 | i,x :: as,c :: cs,h,k=>by
  simp [bI] at h ⊢
  refine ⟨by simpa using k 0 x c (by simp) (by simp) (by simpa using h.1),bI.mono h.2 fun j a c' ha hc hr=>?_⟩
  have:=k (j+1) a c' (by simpa using ha) (by simpa using hc) (by simpa [Nat.add_assoc,Nat.add_comm 1 j] using hr)
  simpa [Nat.add_assoc,Nat.add_comm 1 j] using this
 | _,[],_ :: _,h,_=>by simp [bI] at h
 | _,_ :: _,[],h,_=>by simp [bI] at h
theorem bI.map {α γ:Type} {R R':Nat→α→γ→Prop} (f:α→α):∀ {i:Nat} {as:List α} {cs:List γ},bI R i as cs→(∀ j a c,as[j]? = some a→cs[j]? = some c→R (i+j) a c→R' (i+j) (f a) c)→bI R' i (as.map f) cs
 | _,[],[],_,_=>by simp [bI]
 | i,x :: as,c :: cs,h,k=>by
  simp [bI] at h ⊢
  refine ⟨by simpa using k 0 x c (by simp) (by simp) (by simpa using h.1),bI.map f h.2 fun j a c' ha hc hr=>?_⟩
  have:=k (j+1) a c' (by simpa using ha) (by simpa using hc) (by simpa [Nat.add_assoc,Nat.add_comm 1 j] using hr)
  simpa [Nat.add_assoc,Nat.add_comm 1 j] using this
 | _,[],_ :: _,h,_=>by simp [bI] at h
 | _,_ :: _,[],h,_=>by simp [bI] at h
theorem bI.dJ {α γ:Type} {R:Nat→α→γ→Prop}:∀ {i:Nat} {as:List α} {cs:List γ},as.length=cs.length→(∀ j a c,as[j]? = some a→cs[j]? = some c→R (i+j) a c)→bI R i as cs
 | _,[],[],_,_=>by simp [bI]
 | i,x :: as,c :: cs,hl,k=>by
  simp only [bI]
  refine ⟨by simpa using k 0 x c (by simp) (by simp),bI.dJ (by simpa using hl) fun j a c' ha hc=>?_⟩
  have:=k (j+1) a c' (by simpa using ha) (by simpa using hc)
  simpa [Nat.add_assoc,Nat.add_comm 1 j] using this
 | _,[],_ :: _,h,_=>by simp at h
 | _,_ :: _,[],h,_=>by simp at h
theorem OwnAt.turn {S S':Nat→Prop} {w w':World} {u:Value} {κ:TypeId} {sz:Nat} {es:List (List Dat)} (h:OwnAt S w u κ sz es) (hs:∀ b,S b→S' b) (ha:Agree S w w') (hb:∀ b,blk u=some b→w'.heap[b]? = w.heap[b]?):OwnAt S' w' u κ sz es:=by
 rcases h with h | ⟨b,off,c,arr,E,fz,h1,h2,h3,hf,h4,hκ,h5⟩
 ·exact .inl h
 ·exact .inr ⟨b,off,c,arr,E,fz,h1,h2,h3,hf,(hb b (by simp [h1,blk])).trans h4,hκ,REs.mono hs ha sz es _ _ h5⟩
theorem bB6.turn {S S':Nat→Prop} {w w':World} {u:Value} {κ:TypeId} {sz:Nat} {es:List (List Dat)} (h:bB6 S w u κ sz es) (hs:∀ b,S b→S' b) (ha:Agree S w w') (hb:∀ b,blk u=some b→w'.heap[b]? = w.heap[b]?):bB6 S' w' u κ sz es:=by
 obtain ⟨b,arr,h1,h2,h3,h4⟩:=h
 exact ⟨b,arr,h1,h2,(hb b (by simp [h1,blk])).trans h3,REs.mono hs ha sz es _ _ h4⟩
theorem bV2.turn {w w':World} {u:Value} {kk vk:IntKind} {es:List (Int×Int)} (h:bV2 w u kk vk es) (hb:∀ b,blk u=some b→w'.heap[b]? = w.heap[b]?):bV2 w' u kk vk es:=by
 obtain ⟨b,arr,clk,h1,h2,h3⟩:=h
 exact ⟨b,arr,clk,h1,(hb b (by simp [h1,blk])).trans h2,h3⟩
theorem aK2.turn {β β':Path→Value} {a:AV} {u:Value} (h:aK2 β a u) (hb:∀ p∈a.mA,β' p=β p):aK2 β' a u:=by
 cases a <;> simp only [aK2] at h ⊢
 case vw p=>rw [hb p (by simp [AV.mA])]; exact h
 case bp x off=>rw [hb (x,0) (by simp [AV.mA])]; exact h
 case ep p sz i off=>rw [hb p (by simp [AV.mA])]; exact h
 case sv p sz lo len=>rw [hb p (by simp [AV.mA])]; exact h
theorem rC.turn {S S':Nat→Prop} {w w':World} {β β':Path→Value} {a:AV} {u:Value} (h:rC S w β a u) (hs:∀ b,S b→S' b) (ha:Agree S w w') (hb:∀ p∈a.mA,β' p=β p):rC S' w' β' a u:=by
 cases a <;> simp only [rC] at h ⊢
 case d x=>exact RD.mono hs ha _ _ h
 case vw p=>exact h.turn hb
 case bp x off=>exact h.turn hb
theorem bA.turn {S S':Nat→Prop} {w w':World} {β β':Path→Value} {p:Path} {a:AV} {u:Value} (h:bA S w β p a u) (hs:∀ b,S b→S' b) (ha:Agree S w w') (hself:β' p=β p) (hslf:p.2≠0→a.aI6=false→β' (p.1,0)=β (p.1,0)∧aE5 w' (β (p.1,0))=aE5 w (β (p.1,0)))
  (hown:a.bV=true→∀ b,blk (β p)=some b→w'.heap[b]? = w.heap[b]?) (hb:∀ q∈a.nW,β' q=β q):bA S' w' β' p a u:=by
 cases a <;> simp only [bA] at h ⊢
 case d x=>exact RD.mono hs ha _ _ h
 case agg cs =>
  obtain ⟨l,h1,h2,h3⟩:=h
  exact ⟨l,h1,h2,RCs.mono hs ha _ _ _ h3⟩
 case own sz es =>
  refine ⟨h.1.trans hself.symm,h.2.turn hs ha fun b hbl=>hown rfl b ?_⟩
  rw [← h.1]; exact hbl
 case fz sz es=>exact ⟨h.1.trans hself.symm,RD.mono hs ha _ _ h.2⟩
 case arr κ sz es =>
  refine ⟨h.1.trans hself.symm,h.2.turn hs ha fun b hbl=>hown rfl b ?_⟩
  rw [← h.1]; exact hbl
 case mp kk vk es =>
  refine ⟨h.1.trans hself.symm,h.2.turn fun b hbl=>hown rfl b ?_⟩
  rw [← h.1]; exact hbl
 case vw q=>exact h.turn hb
 case bp x off=>exact h.turn hb
 case ep q sz i off=>exact h.turn hb
 case sv q sz lo len=>exact h.turn hb
 case glo k cs=>exact ⟨h.1.trans hself.symm,h.2.1,h.2.2.mono hs ha⟩
 case slf off E =>
  obtain ⟨h1,h2⟩:=hslf h.1 rfl
  rw [h1,h2]
  exact h
 case clo f caps =>
  obtain ⟨l,h1,h2⟩:=h
  refine ⟨l,h1,h2.mono fun j a c haj _ hr=>hr.turn hs ha fun q hq=>hb q ?_⟩
  simp only [AV.nW,List.mem_flatMap]
  exact ⟨a,List.mem_of_getElem? haj,hq⟩
 case agw cs =>
  obtain ⟨l,h1,h0,h2⟩:=h
  refine ⟨l,h1,h0,h2.mono fun j a c haj _ hr=>hr.turn hs ha fun q hq=>hb q ?_⟩
  simp only [AV.nW,List.mem_flatMap]
  exact ⟨a,List.mem_of_getElem? haj,hq⟩
theorem cX6 {sz q i:Nat} (h:q < sz):(i * sz+q) / sz=i∧(i * sz+q) % sz=q:=by
 have h0:0 < sz:=by omega
 rw [Nat.mul_comm]
 exact ⟨by rw [Nat.mul_add_div h0,Nat.div_eq_of_lt h,Nat.add_zero],by rw [Nat.mul_add_mod,Nat.mod_eq_of_lt h]⟩
theorem cU6 {sz q i k:Nat} (hq:q < sz) (hi:i < k):i * sz+q < k * sz :=
 Nat.lt_of_lt_of_le (Nat.add_lt_add_left hq _) (by rw [← Nat.succ_mul]; exact Nat.mul_le_mul_right _ hi)
theorem bU0 {sz:Nat} {ms:List (Nat×TypeId×Nat)} {k:Nat} {ex:List (Nat×Nat×Nat)} {i q:Nat} {m:Nat×TypeId×Nat} (hq:q < sz) (hi:i < k) (hm:ms.find? (fun m=>m.1 == q)=some m) (hx:ex.find? (fun x=>x.1 == i && x.2.1 == q)=none):aO2 sz ms k ex (i * sz+q)=true:=by
 obtain ⟨h1,h2⟩:=cX6 (i:=i) hq
 unfold aO2
 rw [h1,h2,hm,hx]
 simp only [Option.isSome_some,Option.isNone_none,Bool.and_true,decide_eq_true_eq]
 exact cU6 hq hi
theorem aA0.turn {S S':Nat→Prop} {w w':World} {β β':Path→Value} {x:Nat} {u:Value} {κ:TypeId} {sz:Nat} {ms:List (Nat×TypeId×Nat)} {es:List (List Dat)} {k:Nat} {ex:List (Nat×Nat×Nat)} (h:aA0 S w β x u κ sz ms es k ex) (hs:∀ b,S b→S' b) (ha:Agree S w w') (hself:∀ j,β' (x,j)=β (x,j))
  (hown:∀ j,(match j with | 0=>true | j+1=>aO2 sz ms k ex j)=true→∀ b,blk (β (x,j))=some b→w'.heap[b]? = w.heap[b]?) (hp:∀ z∈ex,β' (z.2.2,0)=β (z.2.2,0)):aA0 S' w' β' x u κ sz ms es k ex:=by
 obtain ⟨h0,hk,h⟩:=h
 refine ⟨h0.trans (hself 0).symm,hk,?_⟩
 rcases h with h | ⟨b,off,c,arr,E,fz,h1,h2,h3,hf,h4,hκ,h5⟩
 ·exact .inl h
 ·refine .inr ⟨b,off,c,arr,E,fz,h1,h2,h3,hf,(hown 0 rfl b (by rw [← h0,h1]; rfl)).trans h4,hκ,fun i e he=>?_⟩
  obtain ⟨h6,h7⟩:=h5 i e he
  refine ⟨h6,fun q d hd=>?_⟩
  obtain ⟨v,h8,h9⟩:=h7 q d hd
  have hq:q < sz:=by rw [← h6]; exact (List.getElem?_eq_some_iff.1 hd).1
  refine ⟨v,h8,?_⟩
  unfold cD6 at h9 ⊢
  split
  ·rename_i z hz
   rw [hz] at h9
   rw [hp z (List.mem_of_find?_eq_some hz)]
   exact h9
  ·rename_i hx
   rw [hx] at h9
   simp only at h9
   split at h9
   ·rename_i m hm
    by_cases hik:i < k
    ·rw [if_pos hik] at h9 ⊢
     obtain ⟨h10,es',h11,h12⟩:=h9
     refine ⟨by rw [hself]; exact h10,es',h11,h12.turn hs ha fun b' hb'=>hown (i * sz+q+1) (bU0 hq hik hm hx) b' (by rw [← h10]; exact hb')⟩
    ·rw [if_neg hik] at h9 ⊢
     exact RD.mono hs ha _ _ h9
   ·exact RD.mono hs ha _ _ h9
theorem aA0.rename {S:Nat→Prop} {w:World} {β β':Path→Value} {x y:Nat} {u:Value} {κ:TypeId} {sz:Nat} {ms:List (Nat×TypeId×Nat)} {es:List (List Dat)} {k:Nat} {ex:List (Nat×Nat×Nat)} (h:aA0 S w β x u κ sz ms es k ex) (hr:∀ j,β' (y,j)=β (x,j)) (hp:∀ z∈ex,β' (z.2.2,0)=β (z.2.2,0)):aA0 S w β' y u κ sz ms es k ex:=by
 obtain ⟨h0,hk,h⟩:=h
 refine ⟨h0.trans (hr 0).symm,hk,?_⟩
 rcases h with h | ⟨b,off,c,arr,E,fz,h1,h2,h3,hf,h4,hκ,h5⟩
 ·exact .inl h
 ·refine .inr ⟨b,off,c,arr,E,fz,h1,h2,h3,hf,h4,hκ,fun i e he=>?_⟩
  obtain ⟨h6,h7⟩:=h5 i e he
  refine ⟨h6,fun q d hd=>?_⟩
  obtain ⟨v,h8,h9⟩:=h7 q d hd
  refine ⟨v,h8,?_⟩
  unfold cD6 at h9 ⊢
  split
  ·rename_i z hz
   rw [hz] at h9
   rw [hp z (List.mem_of_find?_eq_some hz)]
   exact h9
  ·rename_i hx
   rw [hx] at h9
   simp only [hr]
   exact h9
theorem AV.tK (a:AV) (q:Path) (h:q∈a.nW):q∈a.jF:=by
 cases a <;> simp_all [AV.jF,AV.nW,AV.mA]
theorem dV.turn {g g':List (Nat×Bool)→Bool} {S S':Nat→Prop} {w w':World} {β β':Path→Value} {x:Nat} {a:AV} {u:Value} (h:dV g S w β x a u) (hg:∀ l a0,a=.gd l a0→g' l=g l) (hs:∀ b,S b→S' b) (ha:Agree S w w') (hself:∀ j,β' (x,j)=β (x,j))
  (hown:∀ j,a.aR j=true→∀ b,blk (β (x,j))=some b→w'.heap[b]? = w.heap[b]?) (hb:∀ q∈a.paths,β' q=β q):dV g' S' w' β' x a u:=by
 have parts:∀ (cs:List AV) (l:List Value),(∀ j,((cs[j]?).map AV.bV).getD false=true→∀ b,blk (β (x,j+1))=some b→w'.heap[b]? = w.heap[b]?) →
   (∀ q∈cs.flatMap AV.jF,β' q=β q)→(cs.all AV.aI6=true∨aE5 w' (β (x,0))=aE5 w (β (x,0)))→kN S w β x cs l→kN S' w' β' x cs l:=by
  intro cs l h1 h2 ht h3
  refine bI.mono h3 fun j a c haj _ hr=>?_
  simp only [Nat.zero_add] at hr ⊢
  have hsf:(x,j+1).2≠0→a.aI6=false→β' (x,0)=β (x,0)∧aE5 w' (β (x,0))=aE5 w (β (x,0)):=by
   intro _ hf
   refine ⟨hself 0,?_⟩
   rcases ht with ht | ht
   ·have:=List.all_eq_true.1 ht a (List.mem_of_getElem? haj)
    rw [hf] at this
    cases this
   ·exact ht
  refine hr.turn hs ha (hself _) hsf (fun ho b hbl=>h1 j (by simp [haj,ho]) b hbl) fun q hq=>h2 q ?_
  exact List.mem_flatMap.2 ⟨a,List.mem_of_getElem? haj,AV.tK a q hq⟩
 cases a
 case gd l a0 =>
  simp only [dV] at h ⊢
  rw [hg l a0 rfl]
  refine ⟨fun e=>(h.1 e).turn hs ha (hself 0) (fun h0=>absurd rfl h0) (fun ho=>?_) fun q hq=>hb q (by simpa [AV.paths,AV.jF] using hq),h.2⟩
  exact hown 0 (by simpa [AV.aR,AV.bV] using ho)
 case tup vs =>
  simp only [dV] at h ⊢
  obtain ⟨l,h1,h0,h2⟩:=h
  exact ⟨l,h1,h0,parts _ _ (fun j hj=>hown (j+1) (by simpa [AV.aR] using hj)) (fun q hq=>hb q (by simpa [AV.paths] using hq)) (.inl h0) h2⟩
 case box cs =>
  simp only [dV] at h ⊢
  obtain ⟨h0,b,l,E,h1,h2,h3⟩:=h
  refine ⟨h0.trans (hself 0).symm,b,l,E,h1,?_,parts _ _ (fun j hj=>hown (j+1) (by simpa [AV.aR] using hj)) (fun q hq=>hb q (by simpa [AV.paths] using hq)) (.inr (bG9 (hown 0 (by simp [AV.aR,AV.bV])))) h3⟩
  exact (hown 0 (by simp [AV.aR,AV.bV]) b (by rw [← h0,h1]; rfl)).trans h2
 case dow κ sz ms es k ex =>
  exact aA0.turn h hs ha hself (fun j hj b hb=>hown j (by cases j <;> exact hj) b hb) fun z hz=>hb _ (by simpa [AV.paths,AV.jF,AV.nW,AV.mA] using ⟨z.1,z.2.1,hz⟩)
 all_goals (
  simp only [dV] at h ⊢
  exact h.turn hs ha (hself 0) (fun h0=>absurd rfl h0) (fun ho=>hown 0 ho) fun q hq=>hb q (AV.tK _ q hq))
theorem bA.dS {S:Nat→Prop} {w:World} {β:Path→Value} {p:Path} {a:AV} {u:Value} (π:Path→Bool) (h:bA S w β p a u):bA S w β p (a.dZ π) u:=by
 unfold AV.dZ
 split
 ·simp [bA]
 ·exact h
theorem AV.bJ8 (π:Path→Bool) (a:AV) (h:a.aI6=true):(a.dZ π).aI6=true:=by
 unfold AV.dZ
 split
 ·rfl
 ·exact h
theorem dV.dS {g:List (Nat×Bool)→Bool} {S:Nat→Prop} {w:World} {β:Path→Value} {y:Nat} {a:AV} {u:Value} (π:Path→Bool) (h:dV g S w β y a u):dV g S w β y (a.dS π) u:=by
 cases a
 case tup vs =>
  obtain ⟨l,h1,h0,h2⟩:=h
  refine ⟨l,h1,?_,h2.map _ fun j a c _ _ hr=>hr.dS π⟩
  simp only [List.all_map,List.all_eq_true] at h0 ⊢
  exact fun a ha=>AV.bJ8 π a (h0 a ha)
 case box cs =>
  obtain ⟨h0,b,l,E,h1,h2,h3⟩:=h
  exact ⟨h0,b,l,E,h1,h2,h3.map _ fun j a c _ _ hr=>hr.dS π⟩
 all_goals (
  simp only [AV.dS,AV.dZ]
  split
  ·exact trivial
  ·exact h)
theorem AV.lH {π:Path→Bool} {a:AV} {q:Path} (h:q∈(a.dZ π).jF):π q=false∧q∈a.jF:=by
 unfold AV.dZ at h
 split at h
 ·simp [AV.jF,AV.nW,AV.mA] at h
 ·rename_i hn
  refine ⟨?_,h⟩
  simp only [List.any_eq_true,not_exists,not_and,Bool.not_eq_true] at hn
  exact hn q h
theorem AV.wU {π:Path→Bool} {a:AV} {q:Path} (h:q∈(a.dS π).paths):π q=false∧q∈a.paths:=by
 cases a
 case box cs =>
  simp only [AV.dS,AV.paths,List.mem_flatMap,List.mem_map] at h ⊢
  obtain ⟨_,⟨c,hc,rfl⟩,hq⟩:=h
  exact ⟨(AV.lH hq).1,c,hc,(AV.lH hq).2⟩
 case tup cs =>
  simp only [AV.dS,AV.paths,List.mem_flatMap,List.mem_map] at h ⊢
  obtain ⟨_,⟨c,hc,rfl⟩,hq⟩:=h
  exact ⟨(AV.lH hq).1,c,hc,(AV.lH hq).2⟩
 all_goals (
  simp only [AV.dS,AV.dZ] at h
  split at h
  ·simp [AV.paths,AV.jF,AV.nW,AV.mA] at h
  ·rename_i hn
   simp only [AV.paths] at h ⊢
   refine ⟨?_,h⟩
   simp only [List.any_eq_true,not_exists,not_and,Bool.not_eq_true] at hn
   exact hn q h)
theorem AV.zK (π:Path→Bool) (a:AV):(a.dZ π).bV=true→a.bV=true:=by
 unfold AV.dZ
 split
 ·simp [AV.bV]
 ·exact id
theorem AV.fU (π:Path→Bool) (a:AV) (j:Nat):(a.dS π).aR j=true→a.aR j=true:=by
 cases a
 case box cs =>
  cases j with
  | zero=>simp [AV.dS,AV.aR,AV.bV]
  | succ j =>
   simp only [AV.dS,AV.aR,List.getElem?_map,Option.map_map]
   cases cs[j]? with
   | none=>simp
   | some c=>simpa using AV.zK π c
 case tup cs =>
  cases j with
  | zero=>simp [AV.dS,AV.aR,AV.bV]
  | succ j =>
   simp only [AV.dS,AV.aR,List.getElem?_map,Option.map_map]
   cases cs[j]? with
   | none=>simp
   | some c=>simpa using AV.zK π c
 all_goals (
  simp only [AV.dS,AV.dZ]
  split
  ·cases j <;> simp [AV.aR,AV.bV]
  ·exact id)
theorem AV.aY3 {π:Path→Bool} {a a0:AV} {l:List (Nat×Bool)} (h:a.dS π=.gd l a0):a=.gd l a0:=by
  cases a
  all_goals (
    simp only [AV.dS,AV.dZ] at h
    first
      | (split at h
         · simp at h
         · exact h)
      | (simp at h; done))
abbrev dW:=List (Nat×List (Nat×Bool)×Bool)
def jV:dW→Nat→Option (List (Nat×Bool)×Bool)
  | [],_=>none
  | (s,l,b) :: r,x=>if s == x then some (l,b) else jV r x
def dN (G:dW) (l:List (Nat×Bool)):Bool:=l.all fun q=>match jV G q.1 with
 | some (_,b)=>b == q.2
 | none=>false
structure Env where
 w0:World
 A:Nat→Prop
 S0:Nat→Prop
 vp:Nat→Option Value
 dfs:List Deferred
def bQ (e:Env) (a:Act):Nat→Option Value:=fun x=>match a.tmps[x]? with
 | some v=>some v
 | none=>if 1000000≤x then e.vp x else none
theorem bF0 {e:Env} {a:Act} {x:Nat} {v:Value} (h:a.tmps[x]? = some v):bQ e a x=some v:=by simp [bQ,h]
structure Mem (e:Env) (G:dW) (S:Nat→Prop) (β:Path→Value) (fr:Fr) (vals:Nat→Option Value) (w:World):Prop where
 rel:∀ x,∃ u,dV (dN G) S w β x (aX fr x) u∧(∀ u',vals x=some u'→u'=u)
 gok:∀ x l a,aX fr x=.gd l a→a.bV=false∧∀ q∈l,(jV G q.1).isSome=true
 dis:∀ x i y j b,(aX fr x).aR i=true→(aX fr y).aR j=true→blk (β (x,i))=some b→blk (β (y,j))=some b→x=y∧i=j
 fre:∀ x i b,(aX fr x).aR i=true→blk (β (x,i))=some b→¬ S b∧(e.w0.heap.size≤b∨e.A b)
 stb:∀ b,S b→b < w.heap.size∧(e.S0 b∨e.w0.heap.size≤b∨e.A b)
 s0:∀ b,e.S0 b→S b
 old:∀ b,b < e.w0.heap.size→¬ e.A b→w.heap[b]? = e.w0.heap[b]?
 os:w.os=e.w0.os
 tape:w.tape=e.w0.tape
 output:w.output=e.w0.output
 size:e.w0.heap.size≤w.heap.size
theorem iT {w:World} {b:Nat} {o:Obj} (h:w.heap[b]? = some o):b < w.heap.size:=by
 rcases Nat.lt_or_ge b w.heap.size with h' | h'
 ·exact h'
 ·simp [Array.getElem?_eq_none h'] at h
theorem OwnAt.lt {S:Nat→Prop} {w:World} {u:Value} {κ:TypeId} {sz:Nat} {es:List (List Dat)} (h:OwnAt S w u κ sz es) {b:Nat} (hb:blk u=some b):b < w.heap.size:=by
 rcases h with ⟨rfl,_⟩ | ⟨b',off,c,arr,E,fz,rfl,_,_,_,h4,_⟩
 ·simp [blk] at hb
 ·simp [blk] at hb
  subst hb
  exact iT h4
theorem bB6.lt {S:Nat→Prop} {w:World} {u:Value} {κ:TypeId} {sz:Nat} {es:List (List Dat)} (h:bB6 S w u κ sz es) {b:Nat} (hb:blk u=some b):b < w.heap.size:=by
 obtain ⟨b',arr,rfl,_,h4,_⟩:=h
 simp [blk] at hb
 subst hb
 exact iT h4
theorem bV2.lt {w:World} {u:Value} {kk vk:IntKind} {es:List (Int×Int)} (h:bV2 w u kk vk es) {b:Nat} (hb:blk u=some b):b < w.heap.size:=by
 obtain ⟨b',arr,clk,rfl,h4,_⟩:=h
 simp [blk] at hb
 subst hb
 exact iT h4
theorem bA.lt {S:Nat→Prop} {w:World} {β:Path→Value} {p:Path} {a:AV} {u:Value} (h:bA S w β p a u) (ho:a.bV=true) {b:Nat} (hb:blk (β p)=some b):b < w.heap.size:=by
 cases a <;> simp only [AV.bV] at ho <;> simp only [bA] at h
 case own sz es=>exact h.2.lt (by rw [h.1]; exact hb)
 case arr=>exact h.2.lt (by rw [h.1]; exact hb)
 case mp=>exact h.2.lt (by rw [h.1]; exact hb)
 all_goals simp at ho
theorem aA0.lt {S:Nat→Prop} {w:World} {β:Path→Value} {x:Nat} {u:Value} {κ:TypeId} {sz:Nat} {ms:List (Nat×TypeId×Nat)} {es:List (List Dat)} {k:Nat} {ex:List (Nat×Nat×Nat)} (h:aA0 S w β x u κ sz ms es k ex) {j:Nat} (ho:(AV.dow κ sz ms es k ex).aR j=true) {b:Nat} (hb:blk (β (x,j))=some b):b < w.heap.size:=by
 obtain ⟨h0,hk,h⟩:=h
 cases j with
 | zero =>
  rcases h with ⟨h,_⟩ | ⟨b',off,c,arr,E,fz,h1,h2,h3,hf,h4,_⟩
  ·rw [← h0,h] at hb; cases hb
  ·rw [← h0,h1] at hb
   simp only [blk,Option.some.injEq] at hb
   subst hb
   exact iT h4
 | succ j =>
  simp only [AV.aR,aO2,Bool.and_eq_true,decide_eq_true_eq,Option.isNone_iff_eq_none] at ho
  obtain ⟨⟨h5,h6⟩,h7⟩:=ho
  have hsz:0 < sz:=by
   rcases Nat.eq_zero_or_pos sz with rfl | h
   ·omega
   ·exact h
  have hi:j / sz < k:=(Nat.div_lt_iff_lt_mul hsz).2 h5
  have hq:j % sz < sz:=Nat.mod_lt _ hsz
  have hj:j / sz * sz+j % sz=j:=by rw [Nat.mul_comm]; exact Nat.div_add_mod j sz
  rcases h with ⟨_,rfl⟩ | ⟨b',off,c,arr,E,fz,h1,h2,h3,hf,h4,_,h8⟩
  ·exact absurd (Nat.lt_of_lt_of_le hi hk) (Nat.not_lt_zero _)
  ·obtain ⟨h9,h10⟩:=h8 (j / sz) es[j / sz] (List.getElem?_eq_getElem (by omega))
   obtain ⟨v,_,h12⟩:=h10 (j % sz) es[j / sz][j % sz] (List.getElem?_eq_getElem (by omega))
   unfold cD6 at h12
   rw [h7] at h12
   simp only at h12
   obtain ⟨m,hm⟩:=Option.isSome_iff_exists.1 h6
   rw [hm] at h12
   simp only [if_pos hi] at h12
   obtain ⟨h13,es',h14,h15⟩:=h12
   rw [hj] at h13
   exact h15.lt (by rw [h13]; exact hb)
theorem dV.lt {g:List (Nat×Bool)→Bool} {S:Nat→Prop} {w:World} {β:Path→Value} {x:Nat} {a:AV} {u:Value} (h:dV g S w β x a u) {j:Nat} (ho:a.aR j=true) (hn:∀ l a0,a≠.gd l a0) {b:Nat} (hb:blk (β (x,j))=some b):b < w.heap.size:=by
 have parts:∀ (cs:List AV) (l:List Value) (i:Nat),kN S w β x cs l→((cs[i]?).map AV.bV).getD false=true→blk (β (x,i+1))=some b→b < w.heap.size:=by
  intro cs l i h1 h2 h3
  cases hc:cs[i]? with
  | none=>simp [hc] at h2
  | some c =>
   simp [hc] at h2
   obtain ⟨u,_,hr⟩:=bI.get h1 i c hc
   exact bA.lt hr h2 (by simpa using h3)
 cases a
 case gd l a0=>exact absurd rfl (hn l a0)
 case tup vs =>
  obtain ⟨l,h1,_,h2⟩:=h
  cases j with
  | zero=>simp [AV.aR,AV.bV] at ho
  | succ j=>exact parts vs l j h2 (by simpa [AV.aR] using ho) hb
 case box cs =>
  obtain ⟨h0,b',l,E,h1,h2,h3⟩:=h
  cases j with
  | zero =>
   rw [← h0,h1] at hb
   simp [blk] at hb
   subst hb
   exact iT h2
  | succ j=>exact parts cs l j h3 (by simpa [AV.aR] using ho) hb
 case dow κ sz ms es k ex=>exact aA0.lt h ho hb
 all_goals (
  simp only [dV] at h
  cases j with
  | zero=>exact bA.lt h ho hb
  | succ j=>simp [AV.aR] at ho)
theorem Mem.change {e:Env} {G:dW} {S S':Nat→Prop} {β β':Path→Value} {fr fr':Fr} {vals vals':Nat→Option Value} {w w':World} (hm:Mem e G S β fr vals w)
  (x:Nat) (av':AV) (π:Path→Bool) (hx:aX fr' x=av') (hy:∀ y,y≠x→aX fr' y=aX fr y∧(∀ p,β' p=β p)∨aX fr' y=(aX fr y).dS π)
  (hβ:∀ y j,y≠x→β' (y,j)=β (y,j)) (hπ:∀ p,π p=false→β' p=β p) (hv:∀ y,y≠x→∀ u,vals' y=some u→vals y=some u)
  (hrel:∃ u,dV (dN G) S' w' β' x av' u∧∀ u',vals' x=some u'→u'=u)
  (hgok:∀ l a,av'=.gd l a→a.bV=false∧∀ q∈l,(jV G q.1).isSome=true)
  (hdis1:∀ i j b,av'.aR i=true→av'.aR j=true→blk (β' (x,i))=some b→blk (β' (x,j))=some b→i=j)
  (hdis2:∀ i y j b,av'.aR i=true→y≠x→(aX fr y).aR j=true→blk (β' (x,i))=some b→blk (β (y,j))≠some b)
  (hfre:∀ i b,av'.aR i=true→blk (β' (x,i))=some b→¬ S' b∧(e.w0.heap.size≤b∨e.A b))
  (hsub:∀ b,S b→S' b) (hS:∀ b,S' b→S b∨(b < w'.heap.size∧(e.w0.heap.size≤b∨e.A b)∧∀ y j,y≠x→(aX fr y).aR j=true→blk (β (y,j))≠some b))
  (hag:Agree S w w') (hoth:∀ y j b,y≠x→(aX fr y).aR j=true→blk (β (y,j))=some b→w'.heap[b]? = w.heap[b]?)
  (hold:∀ b,b < e.w0.heap.size→¬ e.A b→w'.heap[b]? = w.heap[b]?) (hsize:w.heap.size≤w'.heap.size)
  (hos:w'.os=w.os) (htape:w'.tape=w.tape) (hout:w'.output=w.output):Mem e G S' β' fr' vals' w':=by
 have howns:∀ y j,y≠x→(aX fr' y).aR j=true→(aX fr y).aR j=true:=by
  intro y j hne ho
  rcases hy y hne with ⟨h,_⟩ | h
  ·rwa [h] at ho
  ·rw [h] at ho; exact AV.fU π _ j ho
 refine ⟨fun y=>?_,fun y l a hl=>?_,fun y i z j b h1 h2 h3 h4=>?_,fun y i b h1 h2=>?_,fun b hb=>?_,fun b hb=>hsub b (hm.s0 b hb),fun b h1 h2=>(hold b h1 h2).trans (hm.old b h1 h2),hos.trans hm.os,htape.trans hm.tape,hout.trans hm.output,Nat.le_trans hm.size hsize⟩
 ·by_cases hne:y=x
  ·subst hne
   rw [hx]; exact hrel
  ·obtain ⟨u,hr,hu⟩:=hm.rel y
   refine ⟨u,?_,fun u' h'=>hu u' (hv y hne u' h')⟩
   have key:∀ a,dV (dN G) S w β y a u→(∀ j,a.aR j=true→(aX fr y).aR j=true)→(∀ q∈a.paths,β' q=β q)→dV (dN G) S' w' β' y a u:=by
    intro a ha hao hrf
    exact ha.turn (fun _ _ _=>rfl) hsub hag (fun j=>hβ y j hne) (fun j ho b hb=>hoth y j b hne (hao j ho) hb) hrf
   rcases hy y hne with ⟨h,hb⟩ | h
   ·rw [h]; exact key _ hr (fun _ h=>h) (fun q _=>hb q)
   ·rw [h]; exact key _ (hr.dS π) (fun j ho=>AV.fU π _ j ho) (fun q hq=>hπ q (AV.wU hq).1)
 ·by_cases hne:y=x
  ·subst hne
   rw [hx] at hl
   exact hgok l a hl
  ·rcases hy y hne with ⟨h,_⟩ | h
   ·rw [h] at hl; exact hm.gok y l a hl
   ·rw [h] at hl; exact hm.gok y l a (AV.aY3 hl)
 ·by_cases hyx:y=x <;> by_cases hzx:z=x
  ·subst hyx; subst hzx
   rw [hx] at h1 h2
   exact ⟨rfl,hdis1 i j b h1 h2 h3 h4⟩
  ·subst hyx
   rw [hx] at h1
   rw [hβ z j hzx] at h4
   exact absurd h4 (hdis2 i z j b h1 hzx (howns z j hzx h2) h3)
  ·subst hzx
   rw [hx] at h2
   rw [hβ y i hyx] at h3
   exact absurd h3 (hdis2 j y i b h2 hyx (howns y i hyx h1) h4)
  ·rw [hβ y i hyx] at h3
   rw [hβ z j hzx] at h4
   exact hm.dis y i z j b (howns y i hyx h1) (howns z j hzx h2) h3 h4
 ·by_cases hyx:y=x
  ·subst hyx
   rw [hx] at h1
   exact hfre i b h1 h2
  ·rw [hβ y i hyx] at h2
   have h1':=howns y i hyx h1
   have:=hm.fre y i b h1' h2
   refine ⟨fun hs=>?_,this.2⟩
   rcases hS b hs with h | ⟨_,_,h⟩
   ·exact this.1 h
   ·exact h y i hyx h1' h2
 ·rcases hS b hb with h | ⟨h1,h2,_⟩
  ·exact ⟨Nat.lt_of_lt_of_le (hm.stb b h).1 hsize,(hm.stb b h).2⟩
  ·exact ⟨h1,.inr h2⟩
end Go.Vm
namespace Go.Vm
def aF4:BinOp→Bool
 | .shl | .shr=>true
 | _=>false
def intD (op:BinOp) (k:IntKind) (a b:Int):Option (Dat×Prop) :=
 match op with
 | .add=>some (.v (.int k (k.wrap (a+b))),True)
 | .sub=>some (.v (.int k (k.wrap (a - b))),True)
 | .mul=>some (.v (.int k (k.wrap (a * b))),True)
 | .quo=>some (.v (.int k (k.wrap (a.tdiv b))),b≠0)
 | .rem=>some (.v (.int k (a.tmod b)),b≠0)
 | .and=>some (.v (.int k (k.wrap (BitVec.ofInt k.bits a &&& BitVec.ofInt k.bits b).toNat)),True)
 | .or=>some (.v (.int k (k.wrap (BitVec.ofInt k.bits a ||| BitVec.ofInt k.bits b).toNat)),True)
 | .xor=>some (.v (.int k (k.wrap (BitVec.ofInt k.bits a ^^^ BitVec.ofInt k.bits b).toNat)),True)
 | .andNot=>some (.v (.int k (k.wrap (BitVec.ofInt k.bits a &&& ~~~ BitVec.ofInt k.bits b).toNat)),True)
 | .eql=>some (.v (.bool (a == b)),True)
 | .neq=>some (.v (.bool (a != b)),True)
 | .lss=>some (.v (.bool (decide (a < b))),True)
 | .leq=>some (.v (.bool (decide (a≤b))),True)
 | .gtr=>some (.v (.bool (decide (b < a))),True)
 | .geq=>some (.v (.bool (decide (b≤a))),True)
 | _=>none
def cW8 (op:BinOp) (a b:List UInt8):Option (Dat×Prop) :=
 match op with
 | .add=>some (.str (a++b),a.length+b.length≤9223372036854775807)
 | .eql=>some (.v (.bool (a == b)),True)
 | .neq=>some (.v (.bool (!(a == b))),True)
 | .lss=>some (.v (.bool (Op.bytesLess a b)),True)
 | .leq=>some (.v (.bool (Op.bytesLess a b || a == b)),True)
 | .gtr=>some (.v (.bool (!(Op.bytesLess a b || a == b))),True)
 | .geq=>some (.v (.bool (!(Op.bytesLess a b))),True)
 | _=>none
def bL6 (op:BinOp):Dat→Dat→Option (Dat×Prop)
 | .v (.int k a),.v (.int k' b) =>
  match op with
  | .shl=>some (.v (.int k (k.wrap (a * 2 ^ (min b.toNat k.bits)))),0≤b)
  | .shr=>some (.v (.int k (a.fdiv (2 ^ (min b.toNat k.bits)))),0≤b)
  | _=>if k=k' then intD op k a b else none
 | .str a,.str b=>cW8 op a b
 | _,_=>none
def aX6 (op:BinOp):Dat→Dat→Option Dat
 | .v (.bool a),.v (.bool b) =>
  match op with
  | .eql=>some (.v (.bool (a == b)))
  | .neq=>some (.v (.bool (!(a == b))))
  | _=>none
 | _,_=>none
theorem zS {S:Nat→Prop} {w:World} {x u:Value}:RD S w (.v x) u↔u=x∧x.oneCell'=true:=by simp [RD]
theorem aZ3 {S:Nat→Prop} {w:World} {l:List UInt8} {u:Value}:RD S w (.str l) u↔u=strOf l:=by simp [RD]
theorem cQ5 (P:Program) {S:Nat→Prop} (w:World) (op:BinOp) (t:TypeId) (k:IntKind) (a b:Int) (z:Dat) (obl:Prop) (hs:aF4 op=false) (h:intD op k a b=some (z,obl)) (ho:obl) :
    ∃ r,(binOp op t (.int k a) (.int k b)).run P w=.ok r w∧RD S w z r:=by
  cases op <;> simp only [intD,aF4,Option.some.injEq,Prod.mk.injEq,reduceCtorEq] at h hs <;> try (exact h.elim)
  all_goals (
    obtain ⟨rfl,rfl⟩:=h
    refine ⟨_,?_,zS.2 ⟨rfl,rfl⟩⟩
    first
      | (simp only [binOp,Op.intArith,ne_eq,not_true_eq_false,if_false,Sem.run_pure]; done)
      | (simp only [binOp,Op.intDiv,if_neg ho,ne_eq,not_true_eq_false,if_false,Sem.run_pure]; done)
      | (simp only [binOp,Op.intBits,ne_eq,not_true_eq_false,if_false,Sem.run_pure]; done)
      | (simp only [binOp,Op.intCmp,ne_eq,not_true_eq_false,if_false,Sem.run_pure,gt_iff_lt,ge_iff_le]; done))
theorem cJ9 (P:Program) {S:Nat→Prop} (w:World) (op:BinOp) (t:TypeId) (a b:List UInt8) (z:Dat) (obl:Prop) (h:cW8 op a b=some (z,obl)) (ho:obl) :
  ∃ r,(binOp op t (strOf a) (strOf b)).run P w=.ok r w∧RD S w z r:=by
 cases op <;> simp only [cW8,Option.some.injEq,Prod.mk.injEq,reduceCtorEq] at h <;> try (exact h.elim)
 case add =>
  obtain ⟨rfl,rfl⟩:=h
  refine ⟨strOf (a++b),?_,by simp [RD]⟩
  have h1:¬ (IntKind.i64.max < (((⟨a.toArray⟩:ByteArray).size+(⟨b.toArray⟩:ByteArray).size:Nat):Int)):=by
   rw [IntKind.max_i64]
   simp only [ByteArray.size,List.size_toArray]
   omega
  have h2:(⟨a.toArray⟩:ByteArray)++⟨b.toArray⟩=⟨(a++b).toArray⟩:=by
   apply ByteArray.ext
   simp [ByteArray.data_append]
  simp only [strOf,binOp,Op.stringOp,gt_iff_lt,h1,if_false,h2]
  rfl
 all_goals (
  obtain ⟨rfl,rfl⟩:=h
  refine ⟨_,?_,zS.2 ⟨rfl,rfl⟩⟩
  simp [binOp,Op.stringOp,strOf])
theorem aX5 (P:Program) {S:Nat→Prop} (w:World) (op:BinOp) (t:TypeId) (X Y:Operand) (x y z:Dat) (obl:Prop) (h:bL6 op x y=some (z,obl)) (ho:obl) (u v:Value) (hu:RD S w x u) (hv:RD S w y v) :
  ∃ r,(do eqGuard op t X Y u v; binOp op t u v:Sem Value).run P w=.ok r w∧RD S w z r:=by
 cases x <;> try (simp [bL6] at h; done)
 case v x =>
  cases x <;> try (simp [bL6] at h; done)
  rename_i k a
  cases y <;> try (simp [bL6] at h; done)
  rename_i y
  cases y <;> try (simp [bL6] at h; done)
  rename_i k' b
  replace hu:=(zS.1 hu).1
  replace hv:=(zS.1 hv).1
  subst hu hv
  rw [eqGuard_at_int]
  simp only [Sem.run_bind,Sem.run_pure,Result.andThen_ok]
  by_cases hsh:aF4 op=true
  ·cases op <;> simp only [aF4,Bool.false_eq_true] at hsh
   all_goals (
    simp only [bL6,Option.some.injEq,Prod.mk.injEq] at h
    obtain ⟨rfl,rfl⟩:=h
    refine ⟨_,?_,zS.2 ⟨rfl,rfl⟩⟩
    simp [binOp,Op.shift,Int.not_lt.2 ho])
  ·have hsh':aF4 op=false:=by simpa using hsh
   have h':k=k'∧intD op k a b=some (z,obl):=by
    cases op <;> simp only [aF4,Bool.true_eq_false] at hsh' <;> (
     simp only [bL6] at h
     split at h
     ·exact ⟨by assumption,h⟩
     ·cases h)
   obtain ⟨rfl,h'⟩:=h'
   exact cQ5 P w op t k a b z obl hsh' h' ho
 case str a =>
  cases y <;> try (simp [bL6] at h; done)
  rename_i b
  rw [aZ3] at hu hv
  subst hu hv
  simp only [strOf,eqGuard_at_string,Sem.run_bind,Sem.run_pure,Result.andThen_ok]
  exact cJ9 P w op t a b z obl h ho
theorem run_equalIn_bool (P:Program) (w:World) (d:Nat) (t:TypeId) (a b:Bool) (ht:P.underlying t=some .bool):(Op.equalIn (d+1) t (.bool a) (.bool b)).run P w=.ok (a == b) w:=by
 simp [Op.equalIn,run_underlying ht]
theorem aP7 (P:Program) {S:Nat→Prop} (w:World) (op:BinOp) (t:TypeId) (X Y:Operand) (x y z:Dat) (ht:P.underlying t=some .bool) (h:aX6 op x y=some z) (u v:Value) (hu:RD S w x u) (hv:RD S w y v) :
  ∃ r,(do eqGuard op t X Y u v; binOp op t u v:Sem Value).run P w=.ok r w∧RD S w z r:=by
 cases x <;> try (simp [aX6] at h; done)
 rename_i x
 cases x <;> try (simp [aX6] at h; done)
 rename_i a
 cases y <;> try (simp [aX6] at h; done)
 rename_i y
 cases y <;> try (simp [aX6] at h; done)
 rename_i b
 replace hu:=(zS.1 hu).1
 replace hv:=(zS.1 hv).1
 subst hu hv
 rw [eqGuard_at_bool]
 have he:(Op.equal t (.bool a) (.bool b)).run P w=.ok (a == b) w:=by
  exact run_equalIn_bool P w 9999 t a b ht
 cases op <;> simp only [aX6,Option.some.injEq,reduceCtorEq] at h
 all_goals (
  subst h
  refine ⟨_,?_,zS.2 ⟨rfl,rfl⟩⟩
  simp [binOp,he])
def unD (op:UnOp):Dat→Option Dat
 | .v (.int k n) =>
  match op with
  | .neg=>some (.v (.int k (k.wrap (0 - n))))
  | .xor=>some (.v (.int k (k.wrap (BitVec.ofInt k.bits (if k.signed then -1 else k.max) ^^^ BitVec.ofInt k.bits n).toNat)))
  | _=>none
 | .v (.bool b) =>
  match op with
  | .not=>some (.v (.bool (!b)))
  | _=>none
 | _=>none
theorem bH0 (P:Program) {S:Nat→Prop} (w:World) (op:UnOp) (x z:Dat) (h:unD op x=some z) (u:Value) (hu:RD S w x u) :
    ∃ r,(Op.unary op u).run P w=.ok r w∧RD S w z r:=by
  cases x <;> try (simp [unD] at h; done)
  rename_i x
  cases x <;> try (simp [unD] at h; done)
  all_goals (
    replace hu:=(zS.1 hu).1
    subst hu
    cases op <;> simp only [unD,Option.some.injEq,reduceCtorEq] at h
    all_goals (
      subst h
      refine ⟨_,?_,zS.2 ⟨rfl,rfl⟩⟩
      first
        | (simp only [Op.unary,Op.intArith,Sem.run_pure]; done)
        | (simp only [Op.unary,Op.intBits,Sem.run_pure]; done)
        | (simp only [Op.unary,Sem.run_pure]; done)))
def bP0 (b:Bool):Dat→Dat→Option Dat
 | .v (.bool p),.v (.bool q)=>some (.v (.bool (bif b then p else q)))
 | .v (.int k m),.v (.int k' n)=>if k=k' then some (.v (.int k (bif b then m else n))) else none
 | .str l,.str m=>some (.str (bif b then l else m))
 | _,_=>none
theorem bY1 {S:Nat→Prop} {w:World} {x y z:Dat} {u:Value} (h:bP0 true x y=some z) (hu:RD S w x u):RD S w z u:=by
 unfold bP0 at h
 split at h
 ·simp at h; subst h; simpa [RD] using hu
 ·split at h
  ·simp at h; subst h; simpa [RD] using hu
  ·cases h
 ·simp at h; subst h; simpa [RD] using hu
 ·cases h
theorem bS2 {S:Nat→Prop} {w:World} {x y z:Dat} {u:Value} (h:bP0 false x y=some z) (hu:RD S w y u):RD S w z u:=by
 unfold bP0 at h
 split at h
 ·simp at h; subst h; simpa [RD] using hu
 ·split at h
  ·rename_i hk
   simp at h; subst h; subst hk; simpa [RD] using hu
  ·cases h
 ·simp at h; subst h; simpa [RD] using hu
 ·cases h
end Go.Vm
namespace Go.Vm
def AV.read (s:Nat):AV→AV
 | .own _ _ _=>.vw (s,0)
 | .arr _ _ _=>.vw (s,0)
 | .mp _ _ _=>.vw (s,0)
 | .dow _ _ _ _ _ _=>.vw (s,0)
 | .box _=>.bp s 0
 | .fz sz es=>.d (.sl sz es)
 | .tup _=>.junk
 | .gd _ _=>.junk
 | .slf _ _=>.junk
 | .glo _ cs=>.d (.pt cs)
 | a=>a
def AV.under (g:List (Nat×Bool)):AV→AV
 | .gd l a=>if l.all (fun q=>g.any fun r=>r.1 == q.1 && r.2 == q.2) then a else .junk
 | a=>a
def cD5:Value→AV
 | .string s=>.d (.str s.data.toList)
 | .func (.func f) ⟨[]⟩ ⟨[]⟩=>.clo f []
 | v=>if v.oneCell' then .d (.v v) else .junk
def cC8 (fr:Fr) (k:Nat):Option (List Dat):=[0,1,2,3,4,5,6,7].findSome? fun j=>match aX fr (1000000+j) with
 | .glo k' cs=>if k'=k then some cs else none
 | _=>none
def aX9 (N:Nat) (g:List (Nat×Bool)) (fr:Fr):Operand→AV
 | .tmp t=>if t < N then ((aX fr t).under g).read t else .junk
 | .const v=>cD5 v
 | .global k=>match cC8 fr k with
  | some cs=>.d (.pt cs)
  | none=>.d (.v (.pointer (some ⟨k,0,none⟩)))
 | .func f=>.clo f []
def iL (e:Env) (G:dW) (N:Nat) (fr:Fr) (a:Act) (w:World):Prop :=
 a.defers=e.dfs∧a.tmps.size=N∧∃ S β,Mem e G S β fr (bQ e a) w
theorem bZ4 {h:List (Nat×Bool)→Bool} {S:Nat→Prop} {w:World} {β:Path→Value} {t:Nat} {a:AV} {u:Value} (hr:dV h S w β t a u):bA S w β (0,0) (a.read t) u:=by
 cases a <;> simp only [AV.read,bA,aK2,dV] at hr ⊢
 case d=>exact hr
 case agg=>exact hr
 case own=>exact hr.1
 case arr=>exact hr.1
 case mp=>exact hr.1
 case dow=>exact hr.1
 case fz=>exact hr.2
 case glo=>rw [hr.2.1]; exact hr.2.2.rd
 case box =>
  obtain ⟨h0,b,l,E,h1,_⟩:=hr
  exact ⟨b,by rw [← h0,h1],h1⟩
 case vw=>exact hr
 case bp=>exact hr
 case ep=>exact hr
 case sv=>exact hr
 case clo=>exact hr
 case agw=>exact hr
theorem bT8 {S:Nat→Prop} {w:World} {β:Path→Value} {t:Nat} {a:AV} {u:Value} (hr:bA S w β (t,0) a u):bA S w β (0,0) (a.read t) u:=by
 cases a <;> simp only [AV.read,bA,aK2] at hr ⊢
 case d=>exact hr
 case agg=>exact hr
 case own=>exact hr.1
 case arr=>exact hr.1
 case mp=>exact hr.1
 case fz=>exact hr.2
 case glo=>rw [hr.2.1]; exact hr.2.2.rd
 case vw=>exact hr
 case bp=>exact hr
 case ep=>exact hr
 case sv=>exact hr
 case clo=>exact hr
 case agw=>exact hr
theorem cG2 {G:dW} {l g:List (Nat×Bool)} (hs:l.all (fun q=>g.any fun r=>r.1 == q.1 && r.2 == q.2)=true) (hg:dN G g=true):dN G l=true:=by
 simp only [dN,List.all_eq_true] at hg ⊢
 intro q hq
 have:=List.all_eq_true.1 hs q hq
 obtain ⟨r,hr,he⟩:=List.any_eq_true.1 this
 simp only [Bool.and_eq_true,beq_iff_eq] at he
 have hgr:=hg r hr
 obtain ⟨r1,r2⟩:=r
 obtain ⟨q1,q2⟩:=q
 simp only at he
 obtain ⟨rfl,rfl⟩:=he
 exact hgr
theorem cN4 {e:Env} {G:dW} {S:Nat→Prop} {β:Path→Value} {fr:Fr} {a:Act} {w:World} {N:Nat} (hm:Mem e G S β fr (bQ e a) w) (hN:a.tmps.size=N) (g:List (Nat×Bool)) (hg:dN G g=true) (x:Operand) :
  bA S w β (0,0) (aX9 N g fr x) (a.eval x):=by
 cases x
 case tmp t =>
  simp only [aX9]
  split
  ·rename_i ht
   obtain ⟨u,hr,hu⟩:=hm.rel t
   have he:a.eval (.tmp t)=u:=by
    have hlt:t < a.tmps.size:=by rw [hN]; exact ht
    have:a.tmps[t]? = some (a.tmps[t]'hlt):=Array.getElem?_eq_getElem hlt
    have h2:=hu _ (bF0 this)
    simp only [Act.eval,Array.getD_eq_getD_getElem?,this,Option.getD_some]
    exact h2
   rw [he]
   cases hf:aX fr t
   case gd l a0 =>
    rw [hf] at hr
    simp only [AV.under]
    split
    ·rename_i hs
     exact bT8 (hr.1 (cG2 hs hg))
    ·exact trivial
   all_goals (
    rw [hf] at hr
    exact bZ4 hr)
  ·exact trivial
 case const v =>
  simp only [aX9,cD5,Act.eval]
  split
  ·simp [bA,RD,strOf]
  ·exact ⟨[],rfl,trivial⟩
  ·split
   ·rename_i h; simp [bA,RD,h]
   ·exact trivial
 case global k =>
  simp only [aX9,Act.eval]
  split
  ·rename_i cs hf
   unfold cC8 at hf
   obtain ⟨j,_,hj⟩:=List.exists_of_findSome?_eq_some hf
   split at hj
   ·rename_i k' cs' hfj
    split at hj
    ·rename_i hk
     cases hj
     subst hk
     obtain ⟨u,hr,_⟩:=hm.rel (1000000+j)
     rw [hfj] at hr
     have h2:u=.pointer (some ⟨k',0,none⟩):=hr.2.1
     have h3:RD S w (.pt cs) _:=hr.2.2.rd
     exact h3
    ·cases hj
   ·cases hj
  ·simp [bA,RD,Value.oneCell']
 case func f=>exact ⟨[],rfl,trivial⟩
def fH (fr:Fr):Path→AV
  | (x,0)=>aX fr x
  | (x,j+1)=>match aX fr x with
    | .box cs=>cs.getD j .junk
    | _=>.junk
theorem aU4 {e:Env} {G:dW} {S:Nat→Prop} {β:Path→Value} {fr:Fr} {vals:Nat→Option Value} {w:World} (hm:Mem e G S β fr vals w) (p:Path) :
  (∃ l a,fH fr p=.gd l a)∨(∃ vs,fH fr p=.tup vs)∨(∃ cs,fH fr p=.box cs)∨(∃ κ sz ms es k ex,fH fr p=.dow κ sz ms es k ex)∨∃ u,bA S w β p (fH fr p) u:=by
 obtain ⟨x,j⟩:=p
 cases j with
 | zero =>
  simp only [fH]
  obtain ⟨u,hr,_⟩:=hm.rel x
  cases hf:aX fr x
  case gd l a=>exact .inl ⟨l,a,rfl⟩
  case tup vs=>exact .inr (.inl ⟨vs,rfl⟩)
  case box cs=>exact .inr (.inr (.inl ⟨cs,rfl⟩))
  case dow κ sz ms es k ex=>exact .inr (.inr (.inr (.inl ⟨κ,sz,ms,es,k,ex,rfl⟩)))
  all_goals (
   rw [hf] at hr
   exact .inr (.inr (.inr (.inr ⟨u,hr⟩))))
 | succ j =>
  simp only [fH]
  obtain ⟨u,hr,_⟩:=hm.rel x
  cases hf:aX fr x
  case box cs =>
   rw [hf] at hr
   obtain ⟨_,b,l,E,_,_,h3⟩:=hr
   simp only [List.getD_eq_getElem?_getD]
   cases hc:cs[j]? with
   | none=>exact .inr (.inr (.inr (.inr ⟨u,trivial⟩)))
   | some c =>
    obtain ⟨u',_,h5⟩:=bI.get h3 j c hc
    rw [Nat.zero_add] at h5
    exact .inr (.inr (.inr (.inr ⟨u',h5⟩)))
  all_goals exact .inr (.inr (.inr (.inr ⟨u,trivial⟩)))
theorem jW {e:Env} {G:dW} {S:Nat→Prop} {β:Path→Value} {fr:Fr} {vals:Nat→Option Value} {w:World} (hm:Mem e G S β fr vals w) {p:Path} {κ:TypeId} {sz:Nat} {es:List (List Dat)} (h:fH fr p=.own κ sz es):OwnAt S w (β p) κ sz es:=by
 rcases aU4 hm p with ⟨l,a,h'⟩ | ⟨vs,h'⟩ | ⟨cs,h'⟩ | ⟨κ',sz',ms',es',k',ex',h'⟩ | ⟨u,h'⟩ <;> rw [h] at h' <;> try (cases h'; done)
 rw [← h'.1]; exact h'.2
theorem wS {e:Env} {G:dW} {S:Nat→Prop} {β:Path→Value} {fr:Fr} {vals:Nat→Option Value} {w:World} (hm:Mem e G S β fr vals w) {p:Path} {sz:Nat} {es:List (List Dat)} (h:fH fr p=.fz sz es):RD S w (.sl sz es) (β p):=by
 rcases aU4 hm p with ⟨l,a,h'⟩ | ⟨vs,h'⟩ | ⟨cs,h'⟩ | ⟨κ',sz',ms',es',k',ex',h'⟩ | ⟨u,h'⟩ <;> rw [h] at h' <;> try (cases h'; done)
 rw [← h'.1]; exact h'.2
theorem wE {e:Env} {G:dW} {S:Nat→Prop} {β:Path→Value} {fr:Fr} {vals:Nat→Option Value} {w:World} (hm:Mem e G S β fr vals w) {p:Path} {κ:TypeId} {sz:Nat} {es:List (List Dat)} (h:fH fr p=.arr κ sz es):bB6 S w (β p) κ sz es:=by
 rcases aU4 hm p with ⟨l,a,h'⟩ | ⟨vs,h'⟩ | ⟨cs,h'⟩ | ⟨κ',sz',ms',es',k',ex',h'⟩ | ⟨u,h'⟩ <;> rw [h] at h' <;> try (cases h'; done)
 rw [← h'.1]; exact h'.2
theorem cC4 {e:Env} {G:dW} {S:Nat→Prop} {β:Path→Value} {fr:Fr} {vals:Nat→Option Value} {w:World} (hm:Mem e G S β fr vals w) {p:Path} {kk vk:IntKind} {es:List (Int×Int)} (h:fH fr p=.mp kk vk es):bV2 w (β p) kk vk es:=by
 rcases aU4 hm p with ⟨l,a,h'⟩ | ⟨vs,h'⟩ | ⟨cs,h'⟩ | ⟨κ',sz',ms',es',k',ex',h'⟩ | ⟨u,h'⟩ <;> rw [h] at h' <;> try (cases h'; done)
 rw [← h'.1]; exact h'.2
def cX1 (fr:Fr):AV→AV
 | .vw p=>match fH fr p with
  | .fz sz es=>.d (.sl sz es)
  | _=>.vw p
 | a=>a
def gG (N:Nat) (g:List (Nat×Bool)) (fr:Fr) (x:Operand):AV:=cX1 fr (aX9 N g fr x)
theorem pR {e:Env} {G:dW} {S:Nat→Prop} {β:Path→Value} {fr:Fr} {a:Act} {w:World} {N:Nat} (hm:Mem e G S β fr (bQ e a) w) (hN:a.tmps.size=N) (g:List (Nat×Bool)) (hg:dN G g=true) (x:Operand) :
  bA S w β (0,0) (gG N g fr x) (a.eval x):=by
 have h:=cN4 hm hN g hg x
 unfold gG
 generalize aX9 N g fr x=av at h
 unfold cX1
 split
 ·rename_i p
  split
  ·rename_i sz es hp
   have h1:=wS hm hp
   have h2:a.eval x=β p:=h
   rw [h2]
   exact h1
  ·exact h
 ·exact h
def slv (fr:Fr):AV→Option (Nat×List (List Dat))
 | .d (.sl sz es)=>some (sz,es)
 | .d (.v (.slice none 0 0))=>some (0,[])
 | .vw p=>match fH fr p with
  | .own _κ sz es=>some (sz,es)
  | .fz sz es=>some (sz,es)
  | _=>none
 | _=>none
def cK0 (S:Nat→Prop) (w:World) (u:Value) (sz:Nat) (es:List (List Dat)):Prop :=
 ((∃ q,u=.slice q 0 0)∧es=[])∨∃ b off c arr E fz,u=.slice (some ⟨b,off,none⟩) es.length c∧es.length≤c∧w.heap[b]? = some (.cells arr E fz)∧REs S w sz es (fun j=>arr[j]?) off
theorem aJ9 {S:Nat→Prop} {w:World} {u:Value} {sz:Nat} {es:List (List Dat)} (h:RD S w (.sl sz es) u):cK0 S w u sz es:=by
 simp only [RD] at h
 rcases h with h | ⟨b,off,c,arr,E,fz,h1,h2,_,h4,h5⟩
 ·exact .inl h
 ·exact .inr ⟨b,off,c,arr,E,fz,h1,h2,h4,h5⟩
theorem aT1 {S:Nat→Prop} {w:World} {u:Value} {κ:TypeId} {sz:Nat} {es:List (List Dat)} (h:OwnAt S w u κ sz es):cK0 S w u sz es:=by
 rcases h with h | ⟨b,off,c,arr,E,fz,h1,h2,_,_,h4,_,h5⟩
 ·exact .inl ⟨⟨_,h.1⟩,h.2⟩
 ·exact .inr ⟨b,off,c,arr,E,fz,h1,h2,h4,h5⟩
theorem bV4 {e:Env} {G:dW} {S:Nat→Prop} {β:Path→Value} {fr:Fr} {vals:Nat→Option Value} {w:World} (hm:Mem e G S β fr vals w) {a:AV} {u:Value} {sz:Nat} {es:List (List Dat)} (h:slv fr a=some (sz,es)) (hr:bA S w β (0,0) a u):cK0 S w u sz es:=by
 unfold slv at h
 split at h
 ·simp at h
  obtain ⟨rfl,rfl⟩:=h
  exact aJ9 hr
 ·simp at h
  obtain ⟨rfl,rfl⟩:=h
  simp only [bA,RD] at hr
  exact .inl ⟨⟨_,hr.1⟩,rfl⟩
 ·simp only [bA,aK2] at hr
  subst hr
  split at h
  ·rename_i hp
   simp at h
   obtain ⟨rfl,rfl⟩:=h
   exact aT1 (jW hm hp)
  ·rename_i hp
   simp at h
   obtain ⟨rfl,rfl⟩:=h
   exact aJ9 (wS hm hp)
  ·cases h
 ·cases h
end Go.Vm
namespace Go.Vm
structure Hint where
 cs:List Dat:=[]
 rw:Option AV:=none
 es:Option (List (List Dat)):=none
 frz:List Path:=[]
 xs:List Nat:=[]
 take:List Nat:=[]
 res:AV:=.junk
 vout:List AV:=[]
 slfs:List (Nat×Nat):=[]
def sA (P:Program) (t:TypeId) (cs:List Dat) (off:Nat):Option AV :=
 match P.underlying t,P.info? t with
 | some (.struct _),some i=>if off+i.size≤cs.length then some (.agg ((cs.drop off).take i.size)) else none
 | some (.array _ _),some i=>if off+i.size≤cs.length then some (.agg ((cs.drop off).take i.size)) else none
 | some _,some _=>(cs[off]?).map .d
 | _,_=>none
def aX8:List AV→Option (List Dat)
 | []=>some []
 | .d x :: r=>(aX8 r).map (x :: ·)
 | .fz sz es :: r=>(aX8 r).map (.sl sz es :: ·)
 | _ :: _=>none
def AV.aO9 (x j:Nat):AV→AV
 | .own _ _ _=>.vw (x,j+1)
 | .arr _ _ _=>.vw (x,j+1)
 | .mp _ _ _=>.vw (x,j+1)
 | .fz sz es=>.d (.sl sz es)
 | .box _=>.junk
 | .tup _=>.junk
 | .gd _ _=>.junk
 | .slf _ _=>.junk
 | .glo _ _=>.junk
 | a=>a
def rR (P:Program) (t:TypeId):Option Bool :=
 match P.underlying t with
 | some (.struct _)=>some true
 | some (.array _ _)=>some true
 | some _=>some false
 | none=>none
def tY (x:Nat):Nat→List AV→Option (List AV)
 | _,[]=>some []
 | j,.d y :: r=>(tY x (j+1) r).map (.d y :: ·)
 | j,.own _ _ _ :: r=>(tY x (j+1) r).map (.vw (x,j+1) :: ·)
 | j,.fz sz es :: r=>(tY x (j+1) r).map (.d (.sl sz es) :: ·)
 | _,_ :: _=>none
def bE2 (P:Program) (t:TypeId) (hint:Hint) (fr:Fr):AV→Option (AV×Prop)
 | .d (.pt cs)=>(sA P t cs 0).map (·,True)
 | .bp x off =>
  match aX fr x,rR P t,P.info? t with
  | .box cs,some false,some _=>(cs[off]?).map fun c=>(c.aO9 x off,True)
  | .box cs,some true,some i=>if off+i.size≤cs.length then (match aX8 ((cs.drop off).take i.size) with
   | some l=>some (.agg l,True)
   | none=>(tY x off ((cs.drop off).take i.size)).map fun l=>(.agw l,True)) else none
  | _,_,_=>none
 | .ep p sz i off =>
  match fH fr p with
  | .own _κ sz' es=>if sz=sz' then (sA P t hint.cs off).map (·,es[i]? = some hint.cs) else none
  | .fz sz' es=>if sz=sz' then (sA P t hint.cs off).map (·,es[i]? = some hint.cs) else none
  | .arr _κ sz' es=>if sz=sz' then (sA P t hint.cs off).map (·,es[i]? = some hint.cs) else none
  | _=>none
 | .vw p =>
  match fH fr p,rR P t,P.info? t with
  | .arr _κ sz es,some true,some i=>some (.agg es.flatten,i.size=es.length * sz)
  | _,_,_=>none
 | _=>none
theorem sD {P:Program} {t:TypeId} {b:Bool} (h:rR P t=some b) (w:World):(isAgg t).run P w=.ok b w:=by
 unfold rR at h
 split at h <;> simp only [Option.some.injEq,reduceCtorEq] at h
 ·rename_i hu; subst h; simp [isAgg,run_underlying hu]
 ·rename_i hu; subst h; simp [isAgg,run_underlying hu]
 ·rename_i d n1 n2 hu
  subst h
  cases d
  case struct f=>exact absurd rfl (n1 f)
  case array n t=>exact absurd rfl (n2 n t)
  all_goals simp [isAgg,run_underlying hu]
theorem addr_add (b o n:Nat):Addr.add ⟨b,o,none⟩ n=⟨b,o+n,none⟩:=Addr.add_lit b o n
theorem lN (P:Program) (w:World) (b o:Nat) (arr:Array Value) (E:TypeId) (fz:Nat×Nat) (hb:w.heap[b]? = some (.cells arr E fz)) (n:Nat) (hn:o+n≤arr.size) :
  (loadCells ⟨b,o,none⟩ n).run P w=.ok (arr.extract o (o+n)) w:=by
 have hl:((arr.extract o (o+n)).toList).length=n:=by simp; omega
 have:=run_loadCells_list (P:=P) (w:=w) ⟨b,o,none⟩ (arr.extract o (o+n)).toList (fun j v hj=>by
  rw [addr_add,cell_of_row w b (o+j) arr E fz hb]
  have hjn:j < n:=by
   rcases Nat.lt_or_ge j n with h | h
   ·exact h
   ·rw [List.getElem?_eq_none (by omega)] at hj; cases hj
  rw [Array.getElem?_toList,Array.getElem?_extract] at hj
  split at hj
  ·exact hj
  ·cases hj)
 rw [hl] at this
 simpa only [Array.toArray_toList] using this
theorem RCs.le {S:Nat→Prop} {w:World} {g:Nat→Option Value} (cs:List Dat) (o:Nat) (h:RCs S w cs g o) (arr:Array Value) (hg:∀ j,g j=arr[j]?) (hne:cs≠[]):o+cs.length≤arr.size:=by
 have hpos:0 < cs.length:=List.length_pos_iff.2 hne
 obtain ⟨u,hu,_⟩:=RCs.get cs o (cs.length - 1) _ h (List.getElem?_eq_getElem (by omega))
 rw [hg] at hu
 have:=(Array.getElem?_eq_some_iff.1 hu).1
 omega
theorem RCs.drop {S:Nat→Prop} {w:World} {g:Nat→Option Value} (cs:List Dat) (o k:Nat) (h:RCs S w cs g o):RCs S w (cs.drop k) g (o+k):=by
 refine RCs.dJ _ _ fun j x hj=>?_
 rw [List.getElem?_drop] at hj
 obtain ⟨u,hu,hr⟩:=RCs.get cs o (k+j) x h hj
 exact ⟨u,by rw [Nat.add_assoc]; exact hu,hr⟩
theorem RCs.take {S:Nat→Prop} {w:World} {g:Nat→Option Value} (cs:List Dat) (o k:Nat) (h:RCs S w cs g o):RCs S w (cs.take k) g o:=by
 refine RCs.dJ _ _ fun j x hj=>?_
 rw [List.getElem?_take] at hj
 split at hj
 ·exact RCs.get cs o j x h hj
 ·cases hj
theorem aE8 {P:Program} {S:Nat→Prop} {w:World} {β:Path→Value} {t:TypeId} {cs:List Dat} {off:Nat} {av:AV} (h:sA P t cs off=some av) {b o:Nat} {arr:Array Value} {E:TypeId} {fz:Nat×Nat}
  (hb:w.heap[b]? = some (.cells arr E fz)) (hc:RCs S w cs (fun j=>arr[j]?) o):∃ u,(loadVar t ⟨b,o+off,none⟩).run P w=.ok u w∧bA S w β (0,0) av u∧av.bV=false:=by
 have agg:∀ (i:TypeInfo),P.info? t=some i→rR P t=some true→(if off+i.size≤cs.length then some (AV.agg ((cs.drop off).take i.size)) else none)=some av →
   ∃ u,(loadVar t ⟨b,o+off,none⟩).run P w=.ok u w∧bA S w β (0,0) av u∧av.bV=false:=by
  intro i hi ha h
  split at h
  case isFalse=>cases h
  case isTrue hle =>
   simp only [Option.some.injEq] at h
   subst h
   have hsz:o+off+i.size≤arr.size∨i.size=0:=by
    by_cases h0:i.size=0
    ·exact .inr h0
    ·have:=RCs.le cs o hc arr (fun _=>rfl) (by intro e; subst e; simp at hle; omega)
     exact .inl (by omega)
   have hl:(loadCells ⟨b,o+off,none⟩ i.size).run P w=.ok (arr.extract (o+off) (o+off+i.size)) w:=by
    rcases hsz with h1 | h1
    ·exact lN P w b (o+off) arr E fz hb i.size h1
    ·rw [h1]
     have:arr.extract (o+off) (o+off+0)=#[]:=by apply Array.eq_empty_of_size_eq_zero; simp; omega
     rw [this]
     rfl
   refine ⟨.agg (arr.extract (o+off) (o+off+i.size)),?_,⟨(arr.extract (o+off) (o+off+i.size)).toList,rfl,?_,?_⟩,rfl⟩
   ·simp only [loadVar,Sem.run_bind,sD ha,Result.andThen_ok,if_true,sizeOf,typeInfo,run_program,hi,Sem.run_pure,hl]
   ·simp only [Array.length_toList,Array.size_extract,List.length_take,List.length_drop]
    rcases hsz with h1 | h1 <;> omega
   ·refine RCs.congr _ (o+off) 0 (fun j hj=>?_) ((hc.drop cs o off).take _ _ _)
    simp only [List.length_take,List.length_drop] at hj
    simp only [Nat.zero_add,Array.getElem?_toList,Array.getElem?_extract]
    rcases hsz with h1 | h1
    ·rw [if_pos (by omega)]
    ·omega
 unfold sA at h
 split at h
 ·rename_i hu hi
  exact agg _ hi (by simp [rR,hu]) h
 ·rename_i hu hi
  exact agg _ hi (by simp [rR,hu]) h
 ·rename_i d i hu hi h1 h2
  have ha:rR P t=some false:=by
   unfold rR
   rw [h1]
   split
   ·rename_i e; simp only [Option.some.injEq] at e; exact absurd e (hu _)
   ·rename_i e; simp only [Option.some.injEq] at e; exact absurd e (hi _ _)
   ·rfl
   ·rename_i e; cases e
  cases hcs:cs[off]? with
  | none=>simp [hcs] at h
  | some c =>
   simp [hcs] at h
   subst h
   obtain ⟨u,hu,hr⟩:=RCs.get cs o off c hc hcs
   refine ⟨u,?_,hr,rfl⟩
   have hcell:w.cell? ⟨b,o+off,none⟩=some u:=by rw [cell_of_row w b (o+off) arr E fz hb]; exact hu
   simp [loadVar,sD ha,hcell]
 ·cases h
end Go.Vm
namespace Go.Vm
section
variable {P:Program} {e:Env} {G:dW} {S:Nat→Prop} {β:Path→Value} {fr:Fr} {vals:Nat→Option Value} {w:World}
theorem bD4 {x j:Nat} {a:AV} {u:Value} (hr:bA S w β (x,j+1) a u):bA S w β (0,0) (a.aO9 x j) u∧(a.aO9 x j).bV=false:=by
 cases a <;> simp only [AV.aO9,bA,aK2,AV.bV,and_true] at hr ⊢
 case d=>exact hr
 case agg=>exact hr
 case own=>exact hr.1
 case arr=>exact hr.1
 case mp=>exact hr.1
 case fz=>exact hr.2
 case vw=>exact hr
 case bp=>exact hr
 case ep=>exact hr
 case sv=>exact hr
 case clo=>exact hr
 case agw=>exact hr
theorem cC6 {x:Nat}:∀ (cs:List AV) (ds:List Dat) (l:List Value) (i:Nat),aX8 cs=some ds→bI (fun j a u=>bA S w β (x,j+1) a u) i cs l→ds.length=cs.length∧RCs S w ds (fun j=>l[j]?) 0
 | [],ds,l,i,h,hr=>by
  simp [aX8] at h
  subst h
  simp [RCs]
 | c :: cs,ds,[],i,h,hr=>by simp [bI] at hr
 | c :: cs,ds,u :: l,i,h,hr=>by
  simp only [bI] at hr
  have key:∀ (y:Dat) (r:List Dat),RD S w y u→aX8 cs=some r→(y :: r).length=(c :: cs).length∧RCs S w (y :: r) (fun j=>(u :: l)[j]?) 0:=by
   intro y r hy hr'
   obtain ⟨h1,h2⟩:=cC6 cs r l (i+1) hr' hr.2
   refine ⟨by simp [h1],?_⟩
   simp only [RCs]
   refine ⟨⟨u,by simp,hy⟩,?_⟩
   exact RCs.congr r 0 1 (fun j _=>by simp [Nat.add_comm 1 j]) h2
  cases c <;> simp only [aX8,Option.map_eq_some_iff,reduceCtorEq] at h
  case d y =>
   obtain ⟨r,hr',rfl⟩:=h
   exact key y r hr.1 hr'
  case fz sz es =>
   obtain ⟨r,hr',rfl⟩:=h
   exact key _ r hr.1.2 hr'
theorem cC2 {S:Nat→Prop} {w:World} (x:Dat) (v:Value) (h:RD S w x v):v.oneCell'=true:=by
 cases x <;> simp only [RD] at h
 case v x=>rw [h.1]; exact h.2
 case str l=>rw [h]; rfl
 case sl sz es =>
  rcases h with ⟨⟨q,rfl⟩,_⟩ | ⟨b,off,c,arr,E,fz,rfl,_⟩ <;> rfl
 case pt cs =>
  obtain ⟨b,off,arr,E,fz,rfl,_⟩:=h
  rfl
theorem aT3 {x:Nat}:∀ (cs as:List AV) (l:List Value) (i k:Nat),tY x i cs=some as→bI (fun j a u=>bA S w β (x,j+1) a u) i cs l→bI (fun _=>rC S w β) k as l∧∀ v∈l,v.oneCell'=true
 | [],as,l,i,k,h,hr=>by
  simp only [tY,Option.some.injEq] at h
  subst h
  cases l with
  | nil=>exact ⟨trivial,fun v hv=>by cases hv⟩
  | cons v l=>simp [bI] at hr
 | c :: cs,as,[],i,k,h,hr=>by simp [bI] at hr
 | c :: cs,as,u :: l,i,k,h,hr=>by
  simp only [bI] at hr
  have key:∀ (a:AV) (r:List AV),rC S w β a u→u.oneCell'=true→tY x (i+1) cs=some r→as=a :: r→bI (fun _=>rC S w β) k as (u :: l)∧∀ v∈u :: l,v.oneCell'=true:=by
   intro a r ha h1 hr' he
   obtain ⟨g1,g2⟩:=aT3 cs r l (i+1) (k+1) hr' hr.2
   subst he
   refine ⟨⟨ha,g1⟩,fun v hv=>?_⟩
   rcases List.mem_cons.1 hv with rfl | hv
   ·exact h1
   ·exact g2 v hv
  cases c <;> simp only [tY,Option.map_eq_some_iff,reduceCtorEq] at h
  case d y =>
   obtain ⟨r,h1,rfl⟩:=h
   exact key (.d y) r hr.1 (cC2 _ _ hr.1) h1 rfl
  case own κ sz es =>
   obtain ⟨r,h1,rfl⟩:=h
   refine key (.vw (x,i+1)) r hr.1.1 ?_ h1 rfl
   rcases hr.1.2 with ⟨rfl,_⟩ | ⟨_,_,_,_,_,_,rfl,_⟩ <;> rfl
  case fz sz es =>
   obtain ⟨r,h1,rfl⟩:=h
   exact key (.d (.sl sz es)) r hr.1.2 (cC2 _ _ hr.1.2) h1 rfl
theorem bT7 (hm:Mem e G S β fr vals w) {t:TypeId} {hint:Hint} {a av:AV} {obl:Prop} (h:bE2 P t hint fr a=some (av,obl)) (ho:obl) {u:Value} (hr:bA S w β (0,0) a u) :
  ∃ v,(Instr.loadAt t u).run P w=.ok v w∧bA S w β (0,0) av v∧av.bV=false:=by
 have elem0:∀ (b o sz i off:Nat) (es:List (List Dat)) (arr:Array Value) (E:TypeId) (fz:Nat×Nat),u=.pointer (some ⟨b,o+(i * sz+off),none⟩)→w.heap[b]? = some (.cells arr E fz)→REs S w sz es (fun j=>arr[j]?) o→(sA P t hint.cs off).map (·,es[i]? = some hint.cs)=some (av,obl) →
   ∃ v,(Instr.loadAt t u).run P w=.ok v w∧bA S w β (0,0) av v∧av.bV=false:=by
  intro b o sz i off es arr E fz h2 h6 h7 h
  simp only [Option.map_eq_some_iff,Prod.mk.injEq] at h
  obtain ⟨av',h3,rfl,rfl⟩:=h
  obtain ⟨_,h8⟩:=REs.get es o i hint.cs h7 ho
  obtain ⟨v,hv⟩:=aE8 (P:=P) (β:=β) h3 h6 h8
  refine ⟨v,?_,hv.2⟩
  subst h2
  simp only [Instr.loadAt,Instr.sureAddr,Sem.run_bind,Sem.run_pure,Result.andThen_ok]
  rw [← Nat.add_assoc]
  exact hv.1
 have elem:∀ (p:Path) (sz i off:Nat) (es:List (List Dat)),aK2 β (.ep p sz i off) u→cK0 S w (β p) sz es→(sA P t hint.cs off).map (·,es[i]? = some hint.cs)=some (av,obl) →
   ∃ v,(Instr.loadAt t u).run P w=.ok v w∧bA S w β (0,0) av v∧av.bV=false:=by
  intro p sz i off es hr hs h
  obtain ⟨b,o,h1,h2⟩:=hr
  have h':=h
  simp only [Option.map_eq_some_iff,Prod.mk.injEq] at h'
  obtain ⟨_,_,_,rfl⟩:=h'
  rcases hs with ⟨_,rfl⟩ | ⟨b',o',c',arr,E,fz,h4,h5,h6,h7⟩
  ·simp at ho
  ·rw [h4] at h1
   rcases h1 with ⟨n,c,h1⟩ | h1
   ·simp only [Value.slice.injEq,Option.some.injEq,Addr.mk.injEq] at h1
    obtain ⟨⟨rfl,rfl,_⟩,rfl,rfl⟩:=h1
    exact elem0 _ _ sz i off es arr E fz h2 h6 h7 h
   ·cases h1
 unfold bE2 at h
 split at h
 ·rename_i cs
  simp only [Option.map_eq_some_iff,Prod.mk.injEq] at h
  obtain ⟨av',h1,rfl,rfl⟩:=h
  simp only [bA,RD] at hr
  obtain ⟨b,o,arr,E,fz,rfl,_,hb,hc⟩:=hr
  obtain ⟨v,hv⟩:=aE8 (P:=P) (β:=β) h1 hb hc
  refine ⟨v,?_,hv.2⟩
  simp only [Instr.loadAt,Instr.sureAddr,Sem.run_bind,Sem.run_pure,Result.andThen_ok]
  exact hv.1
 ·rename_i x off
  obtain ⟨b,h1,rfl⟩:=hr
  have box:∀ cs,aX fr x=.box cs→∃ l E,w.heap[b]? = some (.cells ⟨l⟩ E (0,0))∧kN S w β x cs l:=by
   intro cs hf
   obtain ⟨u',hr',_⟩:=hm.rel x
   rw [hf] at hr'
   obtain ⟨h0,b',l,E,h2,h3,h4⟩:=hr'
   rw [← h0,h2] at h1
   simp only [Value.pointer.injEq,Option.some.injEq,Addr.mk.injEq] at h1
   obtain ⟨rfl,_⟩:=h1
   exact ⟨l,E,h3,h4⟩
  split at h
  ·rename_i cs i hf ha hi
   obtain ⟨l,E,h3,h4⟩:=box cs hf
   simp only [Option.map_eq_some_iff,Prod.mk.injEq] at h
   obtain ⟨c,hc,rfl,rfl⟩:=h
   obtain ⟨v,hv,hrv⟩:=bI.get h4 off c hc
   rw [Nat.zero_add] at hrv
   refine ⟨v,?_,bD4 hrv⟩
   have hcell:w.cell? ⟨b,off,none⟩=some v:=by rw [cell_of_row w b off ⟨l⟩ E (0,0) h3]; simpa using hv
   simp [Instr.loadAt,Instr.sureAddr,loadVar,sD ha,hcell]
  ·rename_i cs i hf ha hi
   obtain ⟨l,E,h3,h4⟩:=box cs hf
   split at h
   case isFalse=>cases h
   case isTrue hle =>
    have hlen:l.length=cs.length:=(bI.len h4).symm
    have hsub:bI (fun j a u=>bA S w β (x,j+1) a u) off ((cs.drop off).take i.size) ((l.drop off).take i.size):=by
     refine bI.dJ (by simp; omega) fun j a c ha' hc=>?_
     rw [List.getElem?_take] at ha' hc
     have hj:j < i.size:=by
      rcases Nat.lt_or_ge j i.size with h | h
      ·exact h
      ·rw [if_neg (by omega)] at ha'; cases ha'
     rw [if_pos hj] at hc ha'
     rw [List.getElem?_drop] at ha' hc
     obtain ⟨v,hv,hrv⟩:=bI.get h4 (off+j) a ha'
     rw [Nat.zero_add] at hrv
     rw [hv] at hc
     cases hc
     exact hrv
    have hrun:(Instr.loadAt t (.pointer (some ⟨b,off,none⟩))).run P w=.ok (.agg ((l.drop off).take i.size).toArray) w:=by
     have hld:=lN P w b off ⟨l⟩ E (0,0) h3 i.size (by simp; omega)
     have he:(⟨l⟩:Array Value).extract off (off+i.size)=((l.drop off).take i.size).toArray:=by
      apply Array.ext'
      simp [List.extract]
     rw [he] at hld
     simp only [Instr.loadAt,Instr.sureAddr,loadVar,Sem.run_bind,Sem.run_pure,Result.andThen_ok,sD ha,if_true,sizeOf,typeInfo,run_program,hi,hld]
    split at h
    ·rename_i ds hd
     simp only [Option.some.injEq,Prod.mk.injEq] at h
     obtain ⟨rfl,rfl⟩:=h
     obtain ⟨hl1,hl2⟩:=cC6 _ _ _ off hd hsub
     exact ⟨.agg ((l.drop off).take i.size).toArray,hrun,⟨_,rfl,by simp [hl1]; omega,hl2⟩,rfl⟩
    ·simp only [Option.map_eq_some_iff,Prod.mk.injEq] at h
     obtain ⟨ds,hd,rfl,rfl⟩:=h
     obtain ⟨hl1,hl2⟩:=aT3 _ _ _ off 0 hd hsub
     exact ⟨.agg ((l.drop off).take i.size).toArray,hrun,⟨_,rfl,hl2,hl1⟩,rfl⟩
  ·cases h
 ·rename_i p sz i off
  split at h
  ·rename_i sz' es hp
   split at h
   ·rename_i he
    subst he
    exact elem p sz i off es hr (aT1 (jW hm hp)) h
   ·cases h
  ·rename_i sz' es hp
   split at h
   ·rename_i he
    subst he
    exact elem p sz i off es hr (aJ9 (wS hm hp)) h
   ·cases h
  ·rename_i sz' es hp
   split at h
   ·rename_i he
    subst he
    obtain ⟨b,o,h1,h2⟩:=hr
    obtain ⟨b',arr,h4,_,h6,h7⟩:=wE hm hp
    rw [h4] at h1
    rcases h1 with ⟨n,c,h1⟩ | h1
    ·cases h1
    ·simp only [Value.pointer.injEq,Option.some.injEq,Addr.mk.injEq] at h1
     obtain ⟨rfl,rfl,_⟩:=h1
     exact elem0 _ _ sz i off es arr _ _ h2 h6 h7 h
   ·cases h
  ·cases h
 ·rename_i p
  split at h
  case h_2=>cases h
  rename_i κ sz es i hp ha hi
  simp only [Option.some.injEq,Prod.mk.injEq] at h
  obtain ⟨rfl,rfl⟩:=h
  obtain ⟨b,arr,h4,h5,h6,h7⟩:=wE hm hp
  have hu:u=β p:=hr
  subst hu
  rw [h4]
  have hld:=lN P w b 0 arr κ (0,0) h6 i.size (by rw [ho,h5]; omega)
  have he:arr.extract 0 (0+i.size)=arr:=by
   rw [Nat.zero_add,ho,← h5]
   simp
  rw [he] at hld
  refine ⟨.agg arr,?_,⟨arr.toList,rfl,?_,?_⟩,rfl⟩
  ·simp only [Instr.loadAt,Instr.sureAddr,loadVar,Sem.run_bind,Sem.run_pure,Result.andThen_ok,sD ha,if_true,sizeOf,typeInfo,run_program,hi,hld]
  ·rw [REs.nY _ _ h7]
   simpa using h5
  ·simpa using REs.flat es 0 h7
 ·cases h
def yF (P:Program) (s:TypeId) (f:Nat):Option (Nat×TypeId) :=
 match P.underlying s with
 | some (.struct fs)=>match fs[f]? with
  | some x=>match P.info? x.type with
   | some i=>if i.size=0 then none else some (x.offset,x.type)
   | none=>none
  | none=>none
 | _=>none
def aJ0 (P:Program) (s:TypeId) (f:Nat):AV→Option AV
 | .bp x off=>(yF P s f).map fun o=>.bp x (off+o.1)
 | .ep p sz i off=>(yF P s f).map fun o=>.ep p sz i (off+o.1)
 | .d (.pt cs)=>(yF P s f).map fun o=>.d (.pt (cs.drop o.1))
 | _=>none
theorem bM9 {s:TypeId} {f:Nat} {o:Nat×TypeId} (h:yF P s f=some o):∃ fs x i,P.underlying s=some (.struct fs)∧fs[f]? = some x∧x.offset=o.1∧x.type=o.2∧P.info? x.type=some i∧i.size≠0:=by
 unfold yF at h
 split at h
 ·rename_i fs hu
  split at h
  ·rename_i x hx
   split at h
   ·rename_i i hi
    split at h
    ·cases h
    ·rename_i hz
     simp only [Option.some.injEq] at h
     subst h
     exact ⟨fs,x,i,hu,hx,rfl,rfl,hi,hz⟩
   ·cases h
  ·cases h
 ·cases h
theorem aC3 {s:TypeId} {f:Nat} {o:Nat×TypeId} (h:yF P s f=some o) (b off:Nat):(Instr.fieldAt s (.pointer (some ⟨b,off,none⟩)) f).run P w=.ok (.pointer (some ⟨b,off+o.1,none⟩)) w:=by
 obtain ⟨fs,x,i,h1,h2,h3,h4,h5,h6⟩:=bM9 h
 simp only [Instr.fieldAt,Sem.run_bind,run_underlying h1,Result.andThen_ok,h2,Instr.sureAddr,Sem.run_pure,fieldPlace,sizeOf,typeInfo,run_program,h5,Sem.run_ite,if_neg h6,addr_add,h3]
theorem wY {s:TypeId} {f:Nat} {a av:AV} (h:aJ0 P s f a=some av) {u:Value} (hr:bA S w β (0,0) a u) :
  ∃ v,(Instr.fieldAt s u f).run P w=.ok v w∧bA S w β (0,0) av v∧av.bV=false:=by
 unfold aJ0 at h
 split at h
 ·rename_i x off
  simp only [Option.map_eq_some_iff] at h
  obtain ⟨o,ho,rfl⟩:=h
  obtain ⟨b,h1,rfl⟩:=hr
  exact ⟨_,aC3 ho b off,⟨b,h1,rfl⟩,rfl⟩
 ·rename_i p sz i off
  simp only [Option.map_eq_some_iff] at h
  obtain ⟨o,ho,rfl⟩:=h
  obtain ⟨b,o',h1,rfl⟩:=hr
  refine ⟨_,aC3 ho b _,⟨b,o',h1,?_⟩,rfl⟩
  simp only [Nat.add_assoc]
 ·rename_i cs
  simp only [Option.map_eq_some_iff] at h
  obtain ⟨o,ho,rfl⟩:=h
  simp only [bA,RD] at hr
  obtain ⟨b,o',arr,E,fz,rfl,hS,hb,hc⟩:=hr
  refine ⟨_,aC3 ho b _,?_,rfl⟩
  simp only [bA,RD]
  exact ⟨b,o'+o.1,arr,E,fz,rfl,hS,hb,hc.drop cs o' o.1⟩
 ·cases h
def bU5 (P:Program) (s:TypeId) (f:Nat):AV→Option AV
 | .agg cs=>match P.underlying s with
  | some (.struct fs)=>match fs[f]? with
   | some x=>sA P x.type cs x.offset
   | none=>none
  | _=>none
 | _=>none
theorem pE {cs:List Dat} {off:Nat} {t:TypeId} {av:AV} (h:sA P t cs off=some av) {l:List Value} (hl:l.length=cs.length) (hc:RCs S w cs (fun j=>l[j]?) 0) :
  ∃ v,(part t ⟨l⟩ off).run P w=.ok v w∧bA S w β (0,0) av v∧av.bV=false:=by
 have agg:∀ (i:TypeInfo),P.info? t=some i→rR P t=some true→(if off+i.size≤cs.length then some (AV.agg ((cs.drop off).take i.size)) else none)=some av →
   ∃ v,(part t ⟨l⟩ off).run P w=.ok v w∧bA S w β (0,0) av v∧av.bV=false:=by
  intro i hi ha h
  split at h
  case isFalse=>cases h
  case isTrue hle =>
   simp only [Option.some.injEq] at h
   subst h
   have he:(⟨l⟩:Array Value).extract off (off+i.size)=((l.drop off).take i.size).toArray:=by
    apply Array.ext'
    simp [List.extract]
   refine ⟨.agg ((l.drop off).take i.size).toArray,?_,⟨_,rfl,by simp [hl],?_⟩,rfl⟩
   ·simp only [part,Sem.run_bind,sD ha,Result.andThen_ok,if_true,sizeOf,typeInfo,run_program,hi,Sem.run_pure,he]
   ·refine RCs.congr _ off 0 (fun j hj=>?_) ((hc.drop cs 0 off).take _ _ _ |> fun h=>by simpa using h)
    simp only [List.length_take,List.length_drop] at hj
    rw [List.getElem?_take,if_pos (by omega),List.getElem?_drop,Nat.zero_add]
 unfold sA at h
 split at h
 ·rename_i hu hi
  exact agg _ hi (by simp [rR,hu]) h
 ·rename_i hu hi
  exact agg _ hi (by simp [rR,hu]) h
 ·rename_i d i hu hi h1 h2
  have ha:rR P t=some false:=by
   unfold rR
   rw [h1]
   split
   ·rename_i e; simp only [Option.some.injEq] at e; exact absurd e (hu _)
   ·rename_i e; simp only [Option.some.injEq] at e; exact absurd e (hi _ _)
   ·rfl
   ·rename_i e; cases e
  cases hcs:cs[off]? with
  | none=>simp [hcs] at h
  | some c =>
   simp [hcs] at h
   subst h
   obtain ⟨u,hu,hr⟩:=RCs.get cs 0 off c hc hcs
   refine ⟨u,?_,hr,rfl⟩
   simp only [Nat.zero_add] at hu
   simp [part,sD ha,hu]
 ·cases h
theorem cE8 {s:TypeId} {f:Nat} {a av:AV} (h:bU5 P s f a=some av) {u:Value} (hr:bA S w β (0,0) a u) :
  ∃ v,(Instr.field s u f).run P w=.ok v w∧bA S w β (0,0) av v∧av.bV=false:=by
 unfold bU5 at h
 split at h
 ·rename_i cs
  split at h
  ·rename_i fs hu
   split at h
   ·rename_i x hx
    obtain ⟨l,rfl,hl,hc⟩:=hr
    obtain ⟨v,hv,hrv⟩:=pE (β:=β) h hl hc
    refine ⟨v,?_,hrv⟩
    simp only [Instr.field,Sem.run_bind,run_underlying hu,Result.andThen_ok,hx,asAgg,Sem.run_pure,hv]
   ·cases h
  ·cases h
 ·cases h
def aC8 (P:Program) (t:TypeId):Option (Bool×Nat×Nat) :=
 match P.underlying t with
 | some (.slice E)=>(P.info? E).map fun i=>(true,0,i.size)
 | some (.array n E)=>(P.info? E).map fun i=>(false,n,i.size)
 | _=>none
def yO (P:Program) (t:TypeId) (hint:Hint) (fr:Fr) (a ix:AV):Option (AV×Prop) :=
 match ix,aC8 P t with
 | .d (.v (.int _ i)),some (true,_,size) =>
  match a with
  | .d (.sl sz es)=>if sz=size then some (.d (.pt hint.cs),0≤i∧es[i.toNat]? = some hint.cs) else none
  | .vw p=>match fH fr p with
   | .own _κ sz es=>if sz=size then some (.ep p sz i.toNat 0,0≤i∧i < es.length) else none
   | .fz sz es=>if sz=size then some (.d (.pt hint.cs),0≤i∧es[i.toNat]? = some hint.cs) else none
   | _=>none
  | _=>none
 | .d (.v (.int _ i)),some (false,n,size) =>
  match a with
  | .bp x off=>some (.bp x (off+i.toNat * size),0≤i∧i < n)
  | .vw p=>match fH fr p with
   | .arr _κ sz _es=>if sz=size then some (.ep p sz i.toNat 0,0≤i∧i < n) else none
   | _=>none
  | .d (.pt cs)=>some (.d (.pt (cs.drop (i.toNat * size))),0≤i∧i < n)
  | _=>none
 | _,_=>none
theorem wL {t E:TypeId} {i:TypeInfo} (hu:P.underlying t=some (.slice E)) (hi:P.info? E=some i) (b o n c:Nat) (k:IntKind) (x:Int) (h0:0≤x) (h1:x < n) :
  (Instr.indexAt t (.slice (some ⟨b,o,none⟩) n c) (.int k x)).run P w=.ok (.pointer (some ⟨b,o+x.toNat * i.size,none⟩)) w:=by
 have he:P.elem t=E:=by simp [Program.elem,hu]
 rw [run_indexAt_slice w t ⟨b,o,none⟩ n c k x (by rw [he]; exact hu),if_pos ⟨h0,h1⟩,he]
 simp [sizeOf,typeInfo,hi,addr_add]
theorem bD9 (hm:Mem e G S β fr vals w) {t:TypeId} {hint:Hint} {a ix av:AV} {obl:Prop} (h:yO P t hint fr a ix=some (av,obl)) (ho:obl) {u y:Value} (hr:bA S w β (0,0) a u) (hy:bA S w β (0,0) ix y) :
  ∃ v,(Instr.indexAt t u y).run P w=.ok v w∧bA S w β (0,0) av v∧av.bV=false:=by
 have imm:∀ (E:TypeId) (ti:TypeInfo) (k:IntKind) (i:Int) (es:List (List Dat)),P.underlying t=some (.slice E)→P.info? E=some ti→y=.int k i→RD S w (.sl ti.size es) u→(0≤i∧es[i.toNat]? = some hint.cs) →
   ∃ v,(Instr.indexAt t u y).run P w=.ok v w∧bA S w β (0,0) (.d (.pt hint.cs)) v∧(AV.d (.pt hint.cs)).bV=false:=by
  intro E ti k i es hu hi hyy hrd hob
  subst hyy
  simp only [RD] at hrd
  rcases hrd with ⟨_,rfl⟩ | ⟨b,o,c,arr,E',fz,rfl,h2,hS,hb,hc⟩
  ·simp at hob
  ·have hlt:i.toNat < es.length:=(List.getElem?_eq_some_iff.1 hob.2).1
   refine ⟨_,wL hu hi b o es.length c k i hob.1 (by omega),?_,rfl⟩
   simp only [bA,RD]
   exact ⟨b,_,arr,E',fz,rfl,hS,hb,(REs.get es o i.toNat _ hc hob.2).2⟩
 unfold yO at h
 split at h
 ·rename_i k i m size hes
  have hyy:y=.int k i:=hy.1
  unfold aC8 at hes
  split at hes
  ·rename_i E hu
   simp only [Option.map_eq_some_iff,Prod.mk.injEq] at hes
   obtain ⟨ti,hi,_,_,rfl⟩:=hes
   split at h
   ·rename_i sz es
    split at h
    ·rename_i hsz
     subst hsz
     simp only [Option.some.injEq,Prod.mk.injEq] at h
     obtain ⟨rfl,rfl⟩:=h
     exact imm E ti k i es hu hi hyy hr ho
    ·cases h
   ·rename_i p
    split at h
    ·rename_i sz es hp
     split at h
     ·rename_i hsz
      subst hsz
      simp only [Option.some.injEq,Prod.mk.injEq] at h
      obtain ⟨rfl,rfl⟩:=h
      have hown:=jW hm hp
      have hup:u=β p:=hr
      subst hyy
      rcases hown with ⟨_,rfl⟩ | ⟨b,o,c,arr,E',fz,h1,h2,_,_,hb,_,hc⟩
      ·simp at ho; omega
      ·rw [hup,h1]
       refine ⟨_,wL hu hi b o es.length c k i ho.1 ho.2,?_,rfl⟩
       exact ⟨b,o,.inl ⟨es.length,c,h1⟩,by simp⟩
     ·cases h
    ·rename_i sz es hp
     split at h
     ·rename_i hsz
      subst hsz
      simp only [Option.some.injEq,Prod.mk.injEq] at h
      obtain ⟨rfl,rfl⟩:=h
      have hup:u=β p:=hr
      exact imm E ti k i es hu hi hyy (by rw [hup]; exact wS hm hp) ho
     ·cases h
    ·cases h
   ·cases h
  ·simp only [Option.map_eq_some_iff,Prod.mk.injEq] at hes
   obtain ⟨ti,hi,h',_⟩:=hes
   cases h'
  ·cases hes
 ·rename_i k i n size hes
  have hyy:y=.int k i:=hy.1
  subst hyy
  unfold aC8 at hes
  split at hes
  ·simp only [Option.map_eq_some_iff,Prod.mk.injEq] at hes
   obtain ⟨ti,hi,h',_⟩:=hes
   cases h'
  ·rename_i n' E hu
   simp only [Option.map_eq_some_iff,Prod.mk.injEq] at hes
   obtain ⟨ti,hi,_,rfl,rfl⟩:=hes
   have hal:P.arrayLen t=n':=by simp [Program.arrayLen,hu]
   have hel:P.elem t=E:=by simp [Program.elem,hu]
   have hrun:∀ (b o:Nat),(0≤i∧i < n')→(Instr.indexAt t (.pointer (some ⟨b,o,none⟩)) (.int k i)).run P w=.ok (.pointer (some ⟨b,o+i.toNat * ti.size,none⟩)) w:=by
    intro b o hb
    rw [run_indexAt_array w t ⟨b,o,none⟩ k i (by rw [hal,hel]; exact hu),hal,if_pos hb,hel]
    simp [sizeOf,typeInfo,hi,addr_add]
   split at h
   ·rename_i x off
    simp only [Option.some.injEq,Prod.mk.injEq] at h
    obtain ⟨rfl,rfl⟩:=h
    obtain ⟨b,h1,rfl⟩:=hr
    exact ⟨_,hrun b off ho,⟨b,h1,rfl⟩,rfl⟩
   ·rename_i p
    split at h
    case h_2=>cases h
    rename_i κ sz es hp
    split at h
    case isFalse=>cases h
    rename_i hsz
    subst hsz
    simp only [Option.some.injEq,Prod.mk.injEq] at h
    obtain ⟨rfl,rfl⟩:=h
    obtain ⟨b,arr,h4,_,_,_⟩:=wE hm hp
    have hu':u=β p:=hr
    subst hu'
    rw [h4]
    exact ⟨_,hrun b 0 ho,⟨b,0,.inr h4,by simp⟩,rfl⟩
   ·rename_i cs
    simp only [Option.some.injEq,Prod.mk.injEq] at h
    obtain ⟨rfl,rfl⟩:=h
    simp only [bA,RD] at hr
    obtain ⟨b,o,arr,E',fz,rfl,hS,hb,hc⟩:=hr
    refine ⟨_,hrun b o ho,?_,rfl⟩
    simp only [bA,RD]
    exact ⟨b,_,arr,E',fz,rfl,hS,hb,hc.drop cs o _⟩
   ·cases h
  ·cases hes
 ·cases h
end
end Go.Vm
namespace Go.Vm
def bV0 (P:Program) (t:TypeId) (hint:Hint) (a ix:AV):Option (AV×Prop) :=
 match ix,a,P.underlying t with
 | .d (.v (.int _ i)),.d (.str l),some .string=>some (.d (.v (.int .u8 ((l.getD i.toNat 0).toNat))),0≤i∧i < l.length)
 | .d (.v (.int _ i)),.agg cs,some (.array n E) =>
  match P.info? E with
  | some ei=>(sA P E hint.cs 0).map fun av=>(av,(0≤i∧i < n)∧hint.cs=(cs.drop (i.toNat * ei.size)).take ei.size)
  | none=>none
 | _,_,_=>none
def cZ7 (P:Program) (t:TypeId) (fr:Fr) (a:AV):Option AV :=
 match P.underlying t with
 | some .string=>match a with
  | .d (.str l)=>some (.d (.v (.int .i64 l.length)))
  | _=>none
 | some (.array n _)=>some (.d (.v (.int .i64 n)))
 | some (.slice _)=>(slv fr a).map fun x=>.d (.v (.int .i64 x.2.length))
 | _=>none
def bU8 (P:Program) (t:TypeId) (a:AV):Option AV :=
 match P.underlying t,a with
 | some (.slice _),.d (.v (.slice none 0 0))=>some (.d (.v (.int .i64 0)))
 | _,_=>none
def maxD (lo:Bool):AV→AV→Option AV
 | .d (.v (.int k x)),.d (.v (.int k' y))=>if k=k' then some (.d (.v (.int k (if lo then (if y < x then y else x) else (if x < y then y else x))))) else none
 | _,_=>none
def cF7 (lo:Bool):AV→List AV→Option AV
 | a,[]=>match a with
  | .d (.v (.int k x))=>some (.d (.v (.int k x)))
  | _=>none
 | a,b :: r=>match maxD lo a b with
  | some c=>cF7 lo c r
  | none=>none
def intOf? : AV→Option Int
 | .d (.v (.int _ i))=>some i
 | _=>none
def bK8 (len:Nat) (lo hi:Option AV):Option (Int×Int) :=
 match lo,hi with
 | none,none=>some (0,len)
 | some a,none=>(intOf? a).map fun i=>(i,(len:Int))
 | none,some b=>(intOf? b).map fun j=>(0,j)
 | some a,some b=>match intOf? a,intOf? b with
  | some i,some j=>some (i,j)
  | _,_=>none
def bW6 (P:Program) (hint:Hint) (t:TypeId) (a:AV) (lo hi:Option AV):Option (AV×Prop) :=
 match P.underlying t,a,hint.es with
 | some (.array n E),.d (.pt cs),some es=>match P.info? E,bK8 n lo hi with
  | some i,some c=>some (.d (.sl i.size es),(0≤c.1∧c.1≤c.2∧c.2≤(n:Int))∧((cs.drop (c.1.toNat * i.size)).take ((c.2.toNat - c.1.toNat) * i.size)=es.flatten∧es.length=c.2.toNat - c.1.toNat∧∀ e∈es,e.length=i.size))
  | _,_=>none
 | _,_,_=>none
def bU1 (P:Program) (t:TypeId) (a:AV) (lo hi:Option AV):Option (AV×Prop) :=
 match P.underlying t with
 | some .string=>match a with
  | .d (.str l)=>(bK8 l.length lo hi).map fun c=>(.d (.str ((l.drop c.1.toNat).take (c.2.toNat - c.1.toNat))),0≤c.1∧c.1≤c.2∧c.2≤(l.length:Int))
  | _=>none
 | some (.slice E)=>match a,P.info? E with
  | .d (.sl sz es),some i=>if sz=i.size then (bK8 es.length lo hi).map fun c=>(.d (.sl sz ((es.drop c.1.toNat).take (c.2.toNat - c.1.toNat))),0≤c.1∧c.1≤c.2∧c.2≤(es.length:Int)) else none
  | .d (.v (.slice none 0 0)),some _=>(bK8 0 lo hi).map fun c=>(.d (.v (.slice none 0 0)),0≤c.1∧c.1≤c.2∧c.2≤0)
  | _,_=>none
 | _=>none
def bY9 (P:Program) (hint:Hint) (t:TypeId) (fr:Fr) (x:AV) (lo hi:Option AV):Option (AV×Prop) :=
 if hint.slfs.isEmpty then none else match P.underlying t with
 | some (.slice E)=>match P.info? E,x with
  | some i,.vw p=>match fH fr p with
   | .own _ sz es=>if sz=i.size then (bK8 es.length lo hi).map fun c=>(.sv p sz c.1.toNat (c.2.toNat - c.1.toNat),0≤c.1∧c.1 < c.2∧c.2≤(es.length:Int)) else none
   | _=>none
  | some i,.sv p sz off len=>if sz=i.size then (bK8 len lo hi).map fun c=>(.sv p sz (off+c.1.toNat) (c.2.toNat - c.1.toNat),0≤c.1∧c.1 < c.2∧c.2≤(len:Int)) else none
  | _,_=>none
 | _=>none
def cM8 (P:Program) (src dst:TypeId) (a:AV):Option AV :=
 match P.underlying src,P.underlying dst with
 | some (.int _),some (.int k)=>match a with
  | .d (.v (.int _ n))=>some (.d (.v (.int k (k.wrap n))))
  | _=>none
 | some .string,some .string=>match a with
  | .d (.str l)=>some (.d (.str l))
  | _=>none
 | _,_=>none
def dA8:AV→Option AV
 | .d x=>some (.d x)
 | .vw p=>some (.vw p)
 | .bp x off=>some (.bp x off)
 | _=>none
def bP5:List AV→Option (List AV)
 | []=>some []
 | a :: r=>match dA8 a,bP5 r with
  | some c,some cs=>some (c :: cs)
  | _,_=>none
def cX7 (i:Nat):AV→Option AV
 | .tup vs=>match vs[i]? with
  | some (.d x)=>some (.d x)
  | some (.agg cs)=>some (.agg cs)
  | _=>none
 | _=>none
section
variable {P:Program} {e:Env} {G:dW} {S:Nat→Prop} {β:Path→Value} {fr:Fr} {vals:Nat→Option Value} {w:World}
theorem cG1 {t:TypeId} {hint:Hint} {a ix av:AV} {obl:Prop} (h:bV0 P t hint a ix=some (av,obl)) (ho:obl) {u y:Value} (hr:bA S w β (0,0) a u) (hy:bA S w β (0,0) ix y) :
  ∃ v,(Instr.index t u y).run P w=.ok v w∧bA S w β (0,0) av v∧av.bV=false:=by
 unfold bV0 at h
 split at h
 ·rename_i k i l hu
  simp only [Option.some.injEq,Prod.mk.injEq] at h
  obtain ⟨rfl,rfl⟩:=h
  have hyy:y=.int k i:=hy.1
  have huu:u=strOf l:=hr
  subst hyy huu
  have hlt:i.toNat < l.length:=by omega
  refine ⟨.int .u8 ((l.getD i.toNat 0).toNat),?_,⟨rfl,rfl⟩,rfl⟩
  ·simp only [Instr.index,asIntOf,Sem.run_bind,Sem.run_pure,Result.andThen_ok,run_underlying hu,strOf,if_pos ho.1]
   have:(⟨l.toArray⟩:ByteArray)[i.toNat]? = some (l[i.toNat]'hlt):=by
    rw [getElem?_pos (⟨l.toArray⟩:ByteArray) i.toNat (by simpa [ByteArray.size] using hlt)]
    rfl
   rw [this]
   simp [List.getD_eq_getElem?_getD,List.getElem?_eq_getElem hlt]
 ·rename_i k i cs n E hu
  split at h
  ·rename_i ei hei
   simp only [Option.map_eq_some_iff,Prod.mk.injEq] at h
   obtain ⟨av',hp,rfl,rfl⟩:=h
   obtain ⟨ho1,ho2⟩:=ho
   have hyy:y=.int k i:=hy.1
   subst hyy
   obtain ⟨l,rfl,hl,hc⟩:=hr
   have hp':sA P E cs (i.toNat * ei.size)=some av':=by
    rw [ho2] at hp
    unfold sA at hp ⊢
    split at hp
    ·rename_i a1 a2
     simp only [Nat.zero_add,List.drop_zero] at hp ⊢
     rw [hei] at a2
     cases a2
     split at hp
     ·rename_i hle
      simp only [List.length_take,List.length_drop] at hle
      by_cases h0:i.toNat * ei.size≤cs.length
      ·rw [if_pos (by omega)]
       simpa [List.take_take] using hp
      ·have hz:ei.size=0:=by omega
       simp [hz] at h0
     ·cases hp
    ·rename_i a1 a2
     simp only [Nat.zero_add,List.drop_zero] at hp ⊢
     rw [hei] at a2
     cases a2
     split at hp
     ·rename_i hle
      simp only [List.length_take,List.length_drop] at hle
      by_cases h0:i.toNat * ei.size≤cs.length
      ·rw [if_pos (by omega)]
       simpa [List.take_take] using hp
      ·have hz:ei.size=0:=by omega
       simp [hz] at h0
     ·cases hp
    ·rename_i d i' hu' hi' h1 h2
     try rw [h1,h2]
     try simp only
     rw [List.getElem?_take] at hp
     split at hp
     ·simpa [List.getElem?_drop] using hp
     ·cases hp
    ·cases hp
   obtain ⟨v,hv,hrv⟩:=pE (β:=β) hp' hl hc
   refine ⟨v,?_,hrv⟩
   simp only [Instr.index,asIntOf,Sem.run_bind,Sem.run_pure,Result.andThen_ok,run_underlying hu,if_pos ho1,sizeOf,typeInfo,run_program,hei,hv]
  ·cases h
 ·cases h
theorem cV0 (hm:Mem e G S β fr vals w) {t ty:TypeId} {a av:AV} (h:cZ7 P t fr a=some av) {u:Value} (hr:bA S w β (0,0) a u) :
  ∃ v,(Builtin.len_ #[t] ty #[u]).run P w=.ok v w∧bA S w β (0,0) av v∧av.bV=false:=by
 unfold cZ7 at h
 split at h
 ·rename_i hu
  split at h
  ·rename_i l
   simp only [Option.some.injEq] at h
   subst h
   have huu:u=strOf l:=hr
   subst huu
   refine ⟨.int .i64 l.length,?_,⟨rfl,rfl⟩,rfl⟩
   have hsz:(⟨l.toArray⟩:ByteArray).size=l.length:=by simp [ByteArray.size]
   simp only [Builtin.len_,List.getElem?_toArray,List.getElem?_cons_zero,Sem.run_bind,run_underlying hu,Result.andThen_ok,strOf,hsz,goInt,Sem.run_pure]
  ·cases h
 ·rename_i n E hu
  simp only [Option.some.injEq] at h
  subst h
  refine ⟨goInt n,?_,⟨rfl,rfl⟩,rfl⟩
  simp [Builtin.len_,run_underlying hu]
 ·rename_i E hu
  simp only [Option.map_eq_some_iff] at h
  obtain ⟨⟨sz,es⟩,hs,rfl⟩:=h
  rcases bV4 hm hs hr with ⟨⟨q,rfl⟩,rfl⟩ | ⟨b,o,c,arr,E',fz,rfl,_⟩
  ·exact ⟨goInt 0,by simp [Builtin.len_,run_underlying hu],⟨rfl,rfl⟩,rfl⟩
  ·exact ⟨goInt es.length,by simp [Builtin.len_,run_underlying hu],⟨rfl,rfl⟩,rfl⟩
 ·cases h
theorem cG6 {t ty:TypeId} {a av:AV} (h:bU8 P t a=some av) {u:Value} (hr:bA S w β (0,0) a u) :
  ∃ v,(Builtin.cap_ #[t] ty #[u]).run P w=.ok v w∧bA S w β (0,0) av v∧av.bV=false:=by
 unfold bU8 at h
 split at h
 ·rename_i E hu
  simp only [Option.some.injEq] at h
  subst h
  have huu:u=.slice none 0 0:=hr.1
  subst huu
  exact ⟨goInt 0,by simp [Builtin.cap_,run_underlying hu],⟨rfl,rfl⟩,rfl⟩
 ·cases h
theorem cV1 {lo:Bool} {a b av:AV} (h:maxD lo a b=some av) {u v:Value} (hu:bA S w β (0,0) a u) (hv:bA S w β (0,0) b v) :
  ∃ r,(if lo then Builtin.min2 u v else Builtin.max2 u v).run P w=.ok r w∧bA S w β (0,0) av r:=by
 unfold maxD at h
 split at h
 ·rename_i k x k' y
  split at h
  ·rename_i hk
   subst hk
   simp only [Option.some.injEq] at h
   subst h
   have h1:u=.int k x:=hu.1
   have h2:v=.int k y:=hv.1
   subst h1 h2
   cases lo
   ·exact ⟨_,rfl,rfl,rfl⟩
   ·exact ⟨_,rfl,rfl,rfl⟩
  ·cases h
 ·cases h
theorem yP {lo:Bool}:∀ (r:List AV) (us:List Value) (a av:AV) (u:Value),cF7 lo a r=some av→bA S w β (0,0) a u→bI (fun _ x y=>bA S w β (0,0) x y) 0 r us →
  ∃ v,(us.foldlM (if lo then Builtin.min2 else Builtin.max2) u).run P w=.ok v w∧bA S w β (0,0) av v∧av.bV=false
 | [],us,a,av,u,h,hu,hr=>by
  cases us with
  | cons _ _=>simp [bI] at hr
  | nil =>
   simp only [cF7] at h
   split at h
   ·simp only [Option.some.injEq] at h
    subst h
    exact ⟨u,rfl,hu,rfl⟩
   ·cases h
 | b :: r,us,a,av,u,h,hu,hr=>by
  cases us with
  | nil=>simp [bI] at hr
  | cons v us =>
   simp only [bI] at hr
   simp only [cF7] at h
   split at h
   ·rename_i c hc
    obtain ⟨x,hx,hrx⟩:=cV1 (P:=P) hc hu hr.1
    obtain ⟨z,hz,hrz⟩:=yP r us c av x h hrx (by
     have:=hr.2
     refine bI.dJ (bI.len this) fun j p q hp hq=>?_
     obtain ⟨q',hq',hpq⟩:=bI.get this j p hp
     rw [hq] at hq'
     cases hq'
     exact hpq)
    refine ⟨z,?_,hrz⟩
    simp only [List.foldlM_cons,Sem.run_bind]
    have hx':((if lo=true then Builtin.min2 else Builtin.max2) u v).run P w=.ok x w:=by cases lo <;> exact hx
    rw [hx']
    exact hz
   ·cases h
theorem intOf?_ok {a:AV} {i:Int} (h:intOf? a=some i) {u:Value} (hr:bA S w β (0,0) a u):∃ k,u=.int k i:=by
 unfold intOf? at h
 split at h
 ·simp only [Option.some.injEq] at h
  subst h
  exact ⟨_,hr.1⟩
 ·cases h
theorem aF6 {isSlice:Bool} {len cap:Nat} {lo hi:Option AV} {c:Int×Int} (h:bK8 len lo hi=some c) (hob:0≤c.1∧c.1≤c.2∧c.2≤len) (hcap:len≤cap) {ulo uhi:Option Value}
  (hlo:∀ a,lo=some a→∃ u,ulo=some u∧bA S w β (0,0) a u) (hlo0:lo=none→ulo=none) (hhi:∀ a,hi=some a→∃ u,uhi=some u∧bA S w β (0,0) a u) (hhi0:hi=none→uhi=none) :
  (Instr.sliceBounds isSlice len cap ulo uhi none).run P w=.ok (c.1.toNat,c.2.toNat,cap) w:=by
 have bound:∀ (k:IntKind) (i:Int) (y:Nat) (code:BoundsCode),0≤i→i≤y→(Instr.sliceBound (.int k i) y code).run P w=.ok i.toNat w:=by
  intro k i y code h0 h1
  simp [Instr.sliceBound,asIntOf,h0,h1]
 unfold bK8 at h
 split at h
 ·simp only [Option.some.injEq] at h
  subst h
  rw [hlo0 rfl,hhi0 rfl]
  simp [Instr.sliceBounds]
 ·rename_i a
  simp only [Option.map_eq_some_iff] at h
  obtain ⟨i,hi',rfl⟩:=h
  obtain ⟨u,rfl,hu⟩:=hlo a rfl
  obtain ⟨k,rfl⟩:=intOf?_ok hi' hu
  rw [hhi0 rfl]
  simp only [Instr.sliceBounds,Sem.run_bind,Sem.run_pure,Result.andThen_ok,Option.isSome_none,Bool.false_eq_true,if_false,bound k i len .sliceB hob.1 (by simpa using hob.2.1)]
  simp
 ·rename_i b
  simp only [Option.map_eq_some_iff] at h
  obtain ⟨j,hj,rfl⟩:=h
  obtain ⟨u,rfl,hu⟩:=hhi b rfl
  obtain ⟨k,rfl⟩:=intOf?_ok hj hu
  rw [hlo0 rfl]
  simp only [Instr.sliceBounds,Sem.run_bind,Sem.run_pure,Result.andThen_ok,bound k j cap _ (by simpa using hob.2.1) (by have:=hob.2.2; simp only at this; omega)]
  simp
 ·rename_i a b
  split at h
  ·rename_i i j hi' hj
   simp only [Option.some.injEq] at h
   subst h
   obtain ⟨u,rfl,hu⟩:=hlo a rfl
   obtain ⟨k,rfl⟩:=intOf?_ok hi' hu
   obtain ⟨v,rfl,hv⟩:=hhi b rfl
   obtain ⟨k',rfl⟩:=intOf?_ok hj hv
   simp only [] at hob
   simp only [Instr.sliceBounds,Sem.run_bind,Sem.run_pure,Result.andThen_ok,Option.isSome_none,Bool.false_eq_true,if_false,bound k' j cap _ (by omega) (by omega),bound k i j.toNat .sliceB (by omega) (by omega)]
  ·cases h
theorem REs.drop {g:Nat→Option Value} {sz:Nat} (es:List (List Dat)) (o k:Nat) (h:REs S w sz es g o):REs S w sz (es.drop k) g (o+k * sz):=by
 refine REs.dJ _ _ fun j x hj=>?_
 rw [List.getElem?_drop] at hj
 obtain ⟨h1,h2⟩:=REs.get es o (k+j) x h hj
 refine ⟨h1,?_⟩
 have e:o+k * sz+j * sz=o+(k+j) * sz:=by rw [Nat.add_mul]; omega
 rw [e]; exact h2
theorem REs.take {g:Nat→Option Value} {sz:Nat} (es:List (List Dat)) (o k:Nat) (h:REs S w sz es g o):REs S w sz (es.take k) g o:=by
 refine REs.dJ _ _ fun j x hj=>?_
 rw [List.getElem?_take] at hj
 split at hj
 ·exact REs.get es o j x h hj
 ·cases hj
theorem cK6 {sz:Nat} {es:List (List Dat)} {q:Option Addr} (h:es=[]):RD S w (.sl sz es) (.slice q 0 0):=by
 unfold RD
 exact .inl ⟨⟨_,rfl⟩,h⟩
theorem cG3 {hint:Hint} {t:TypeId} {a av:AV} {lo hi:Option AV} {obl:Prop} (h:bW6 P hint t a lo hi=some (av,obl)) (ho:obl) {u:Value} (hr:bA S w β (0,0) a u) {ulo uhi:Option Value}
  (hlo:∀ a,lo=some a→∃ u,ulo=some u∧bA S w β (0,0) a u) (hlo0:lo=none→ulo=none) (hhi:∀ a,hi=some a→∃ u,uhi=some u∧bA S w β (0,0) a u) (hhi0:hi=none→uhi=none) :
  ∃ v,(Instr.sliceAt t u ulo uhi none).run P w=.ok v w∧bA S w β (0,0) av v∧av.bV=false:=by
 unfold bW6 at h
 split at h
 case h_2=>cases h
 rename_i n E cs es hu _
 split at h
 case h_2=>cases h
 rename_i i c hi' hc
 simp only [Option.some.injEq,Prod.mk.injEq] at h
 obtain ⟨rfl,rfl⟩:=h
 obtain ⟨hb,ho1,ho2,ho3⟩:=ho
 have hb0:=aF6 (P:=P) (isSlice:=false) (cap:=n) hc hb (Nat.le_refl _) hlo hlo0 hhi hhi0
 simp only [bA,RD] at hr
 obtain ⟨b,o,arr,E',fz,rfl,hS,hbb,hcs⟩:=hr
 refine ⟨.slice (some (if n=c.1.toNat then ⟨b,o,none⟩ else ⟨b,o+c.1.toNat * i.size,none⟩)) (c.2.toNat - c.1.toNat) (n - c.1.toNat),?_,?_,rfl⟩
 ·simp only [Instr.sliceAt,Sem.run_bind,run_underlying hu,Result.andThen_ok,Instr.sureAddr,Sem.run_pure,hb0,sizeOf,typeInfo,run_program,hi',addr_add]
 ·simp only [bA,RD]
  have hd:=(hcs.drop cs o (c.1.toNat * i.size)).take _ _ ((c.2.toNat - c.1.toNat) * i.size)
  rw [ho1] at hd
  have hes:=REs.of_flat es _ ho3 hd
  by_cases hk:n=c.1.toNat
  ·have he:es=[]:=by
    apply List.eq_nil_of_length_eq_zero; rw [ho2]; omega
   rw [if_pos hk]
   refine .inr ⟨b,o,n - c.1.toNat,arr,E',fz,by rw [ho2],by rw [ho2]; omega,hS,hbb,?_⟩
   rw [he]; simp [REs]
  ·rw [if_neg hk]
   exact .inr ⟨b,o+c.1.toNat * i.size,n - c.1.toNat,arr,E',fz,by rw [ho2],by rw [ho2]; omega,hS,hbb,hes⟩
theorem cH0 {t:TypeId} {a av:AV} {lo hi:Option AV} {obl:Prop} (h:bU1 P t a lo hi=some (av,obl)) (ho:obl) {u:Value} (hr:bA S w β (0,0) a u) {ulo uhi:Option Value}
  (hlo:∀ a,lo=some a→∃ u,ulo=some u∧bA S w β (0,0) a u) (hlo0:lo=none→ulo=none) (hhi:∀ a,hi=some a→∃ u,uhi=some u∧bA S w β (0,0) a u) (hhi0:hi=none→uhi=none) :
  ∃ v,(Instr.sliceAt t u ulo uhi none).run P w=.ok v w∧bA S w β (0,0) av v∧av.bV=false:=by
 unfold bU1 at h
 split at h
 ·rename_i hu
  split at h
  ·rename_i l
   simp only [Option.map_eq_some_iff,Prod.mk.injEq] at h
   obtain ⟨c,hc,rfl,rfl⟩:=h
   have huu:u=strOf l:=hr
   subst huu
   have hsz:(⟨l.toArray⟩:ByteArray).size=l.length:=by simp [ByteArray.size]
   have hb:=aF6 (P:=P) (isSlice:=false) hc ho (Nat.le_refl _) hlo hlo0 hhi hhi0
   refine ⟨strOf ((l.drop c.1.toNat).take (c.2.toNat - c.1.toNat)),?_,rfl,rfl⟩
   rw [run_sliceAt_string w t _ ulo uhi none hu]
   simp only [Instr.slice,strOf,Sem.run_bind,run_underlying hu,Result.andThen_ok,Option.isSome_none,Bool.false_eq_true,if_false,Sem.run_pure,hsz,hb,Lib.extract_eq]
  ·cases h
 ·rename_i E hu
  have hel:P.elem t=E:=by simp [Program.elem,hu]
  split at h
  ·rename_i sz es i hi'
   split at h
   ·rename_i hsz
    subst hsz
    simp only [Option.map_eq_some_iff,Prod.mk.injEq] at h
    obtain ⟨c,hc,rfl,rfl⟩:=h
    simp only [bA,RD] at hr
    have hrun:∀ (ad:Option Addr) (cap:Nat),es.length≤cap→(Instr.sliceAt t (.slice ad es.length cap) ulo uhi none).run P w=.ok (.slice (if cap=c.1.toNat then ad else ad.map (·.add (c.1.toNat * i.size))) (c.2.toNat - c.1.toNat) (cap - c.1.toNat)) w:=by
     intro ad cap hcap
     have hb:=aF6 (P:=P) (isSlice:=true) hc ho hcap hlo hlo0 hhi hhi0
     rw [run_sliceAt_slice w t _ ulo uhi none (by rw [hel]; exact hu)]
     simp only [Instr.slice,Sem.run_bind,run_underlying hu,Result.andThen_ok,hb,sizeOf,typeInfo,run_program,hi',Sem.run_pure]
    rcases hr with ⟨⟨q,rfl⟩,rfl⟩ | ⟨b,o,cap,arr,E',fz,rfl,h2,hS,hb,hcs⟩
    ·have:=hrun q 0 (by simp)
     obtain ⟨h1,h2,h3⟩:=ho
     simp only [List.length_nil,Int.natCast_zero] at h3
     have e1:c.1=0:=by omega
     have e2:c.2=0:=by omega
     simp only [e1,e2,List.length_nil,Int.toNat_zero,if_true,Nat.sub_self] at this
     exact ⟨_,this,cK6 (by simp),rfl⟩
    ·have:=hrun (some ⟨b,o,none⟩) cap h2
     refine ⟨_,this,?_,rfl⟩
     simp only [bA,RD]
     obtain ⟨h1,h3,h4⟩:=ho
     have hlen:((es.drop c.1.toNat).take (c.2.toNat - c.1.toNat)).length=c.2.toNat - c.1.toNat:=by
      simp only [List.length_take,List.length_drop]; omega
     have hd:=(REs.drop es o c.1.toNat hcs).take _ _ (c.2.toNat - c.1.toNat)
     by_cases hk:cap=c.1.toNat
     ·have he:(es.drop c.1.toNat).take (c.2.toNat - c.1.toNat)=[]:=by
       apply List.eq_nil_of_length_eq_zero; rw [hlen]; omega
      rw [if_pos hk]
      refine .inr ⟨b,o,cap - c.1.toNat,arr,E',fz,by rw [hlen],by rw [hlen]; omega,hS,hb,?_⟩
      rw [he]; simp [REs]
     ·rw [if_neg hk]
      refine .inr ⟨b,o+c.1.toNat * i.size,cap - c.1.toNat,arr,E',fz,?_,by rw [hlen]; omega,hS,hb,hd⟩
      rw [hlen]
      simp [addr_add]
   ·cases h
  ·rename_i i hi'
   simp only [Option.map_eq_some_iff,Prod.mk.injEq] at h
   obtain ⟨c,hc,rfl,rfl⟩:=h
   simp only [bA,RD] at hr
   replace hr:=hr.1
   subst hr
   have hb:=aF6 (P:=P) (isSlice:=true) (len:=0) (cap:=0) hc (by simpa using ho) (Nat.le_refl _) hlo hlo0 hhi hhi0
   obtain ⟨h1,h2,h3⟩:=ho
   have e1:c.1=0:=by omega
   have e2:c.2=0:=by omega
   refine ⟨.slice none 0 0,?_,?_,rfl⟩
   ·rw [run_sliceAt_slice w t _ ulo uhi none (by rw [hel]; exact hu)]
    simp only [Instr.slice,Sem.run_bind,run_underlying hu,Result.andThen_ok,hb,sizeOf,typeInfo,run_program,hi',Sem.run_pure,e1,e2]
    simp
   ·exact ⟨rfl,rfl⟩
  ·cases h
 ·cases h
theorem cQ1 {src dst:TypeId} {a av:AV} (h:cM8 P src dst a=some av) {u:Value} (hr:bA S w β (0,0) a u) :
  ∃ v,(convert src dst u).run P w=.ok v w∧bA S w β (0,0) av v∧av.bV=false:=by
 unfold cM8 at h
 split at h
 ·rename_i k' k hs hd
  split at h
  ·rename_i k0 n
   simp only [Option.some.injEq] at h
   subst h
   have huu:u=.int k0 n:=hr.1
   subst huu
   refine ⟨.int k (k.wrap n),?_,⟨rfl,rfl⟩,rfl⟩
   simp [convert,run_underlying hs,run_underlying hd,Conv.intToInt]
  ·cases h
 ·rename_i hs hd
  split at h
  ·rename_i l
   simp only [Option.some.injEq] at h
   subst h
   have huu:u=strOf l:=hr
   subst huu
   refine ⟨strOf l,?_,rfl,rfl⟩
   simp [convert,run_underlying hs,run_underlying hd,strOf]
  ·cases h
 ·cases h
theorem bN0:∀ (as cs:List AV) (us:List Value),bP5 as=some cs→bI (fun _ x y=>bA S w β (0,0) x y) 0 as us→bI (fun _=>rC S w β) 0 cs us
 | [],cs,us,h,hr=>by
  simp [bP5] at h
  subst h
  cases us <;> simp_all [bI]
 | a :: r,cs,us,h,hr=>by
  cases us with
  | nil=>simp [bI] at hr
  | cons u us =>
   simp only [bI] at hr
   simp only [bP5] at h
   split at h
   ·rename_i c cs' hc hcs
    simp only [Option.some.injEq] at h
    subst h
    have hrest:=bN0 r cs' us hcs (bI.dJ (bI.len hr.2) fun j p q hp hq=>by
     obtain ⟨q',hq',hpq⟩:=bI.get hr.2 j p hp
     rw [hq] at hq'
     cases hq'
     exact hpq)
    simp only [bI]
    refine ⟨?_,bI.dJ (bI.len hrest) fun j p q hp hq=>by
     obtain ⟨q',hq',hpq⟩:=bI.get hrest j p hp
     rw [hq] at hq'
     cases hq'
     exact hpq⟩
    have h1:=hr.1
    unfold dA8 at hc
    split at hc <;> simp only [Option.some.injEq,reduceCtorEq] at hc
    all_goals (subst hc; exact h1)
   ·cases h
theorem cH9 {e:Env} {G:dW} {fr:Fr} {vals:Nat→Option Value} (hm:Mem e G S β fr vals w) {hint:Hint} {t:TypeId} {a av:AV} {lo hi:Option AV} {obl:Prop} (h:bY9 P hint t fr a lo hi=some (av,obl)) (ho:obl) {u:Value} (hr:bA S w β (0,0) a u) {ulo uhi:Option Value}
  (hlo:∀ a,lo=some a→∃ u,ulo=some u∧bA S w β (0,0) a u) (hlo0:lo=none→ulo=none) (hhi:∀ a,hi=some a→∃ u,uhi=some u∧bA S w β (0,0) a u) (hhi0:hi=none→uhi=none) :
  ∃ v,(Instr.sliceAt t u ulo uhi none).run P w=.ok v w∧bA S w β (0,0) av v:=by
 unfold bY9 at h
 split at h
 ·cases h
 split at h
 case h_2=>cases h
 rename_i E hu
 have hel:P.elem t=E:=by simp [Program.elem,hu]
 have hrun:∀ (i:TypeInfo) (c:Int×Int) (n:Nat) (b o cap:Nat),P.info? E=some i→bK8 n lo hi=some c→0≤c.1∧c.1 < c.2∧c.2≤(n:Int)→n≤cap→(Instr.sliceAt t (.slice (some ⟨b,o,none⟩) n cap) ulo uhi none).run P w=.ok (.slice (some ⟨b,o+c.1.toNat * i.size,none⟩) (c.2.toNat - c.1.toNat) (cap - c.1.toNat)) w:=by
  intro i c n b o cap hi' hc hob hcap
  have hb:=aF6 (P:=P) (w:=w) (isSlice:=true) hc (by omega) hcap hlo hlo0 hhi hhi0
  rw [run_sliceAt_slice w t _ ulo uhi none (by rw [hel]; exact hu)]
  simp only [Instr.slice,Sem.run_bind,run_underlying hu,Result.andThen_ok,hb,sizeOf,typeInfo,run_program,hi',Sem.run_pure]
  rw [if_neg (by omega)]
  simp only [Option.map_some]
  congr 3
  unfold Addr.add
  split
  ·rename_i h0
   rw [h0]
   rfl
  ·rfl
 split at h
 ·rename_i i p hi'
  split at h
  case h_2=>cases h
  rename_i κ sz es hp
  split at h
  case isFalse=>cases h
  rename_i hsz
  subst hsz
  simp only [Option.map_eq_some_iff,Prod.mk.injEq] at h
  obtain ⟨c,hc,rfl,rfl⟩:=h
  have huu:u=β p:=hr
  rcases jW hm hp with ⟨_,rfl⟩ | ⟨b,o,cap,arr,E',fz,h1,h2,_⟩
  ·simp only [List.length_nil,Int.natCast_zero] at ho
   omega
  ·rw [huu,h1]
   exact ⟨_,hrun i c _ b o cap hi' hc ho h2,b,o,_,cap,_,h1,rfl,by omega⟩
 ·rename_i i p sz off len hi'
  split at h
  case isFalse=>cases h
  rename_i hsz
  subst hsz
  simp only [Option.map_eq_some_iff,Prod.mk.injEq] at h
  obtain ⟨c,hc,rfl,rfl⟩:=h
  obtain ⟨b,o,n,c0,c',h1,h2,h3⟩:=hr
  rw [h2]
  exact ⟨_,hrun i c _ b _ c' hi' hc ho h3,b,o,n,c0,c' - c.1.toNat,h1,by rw [Nat.add_mul,Nat.add_assoc],by omega⟩
 ·cases h
end
end Go.Vm
namespace Go.Vm
def AV.plain:AV→Bool
 | .junk | .d _ | .agg _ | .vw _ | .bp _ _ | .ep _ _ _ _ | .sv _ _ _ _ | .clo _ _ | .agw _=>true
 | _=>false
def gM (t:Nat) (a:AV) (fr:Fr):Fr:=(t,a) :: dS t fr
theorem nN {S:Nat→Prop} {w:World} {β:Path→Value} {p q:Path} {a:AV} {u:Value} (hp:a.plain=true) (h:bA S w β p a u):bA S w β q a u:=by
 cases a <;> simp_all [AV.plain,bA]
theorem aL6 {g:List (Nat×Bool)→Bool} {S:Nat→Prop} {w:World} {β:Path→Value} {p:Path} {t:Nat} {a:AV} {u:Value} (hp:a.plain=true) (h:bA S w β p a u):dV g S w β t a u:=by
 cases a <;> simp_all [AV.plain,bA,dV]
theorem zH {a:AV} (hp:a.plain=true) (j:Nat):a.aR j=false:=by
 cases a <;> simp_all [AV.plain] <;> cases j <;> simp [AV.aR,AV.bV]
theorem pK (a:Act) (t:Nat) (u:Value) (ht:t < a.tmps.size) (y:Nat):(a.put (some t) u).tmps[y]? = if y=t then some u else a.tmps[y]? := by
 simp only [Act.put,Array.getElem?_setIfInBounds]
 by_cases h:t=y
 ·subst h; simp [ht]
 ·rw [if_neg h,if_neg (fun e=>h e.symm)]
theorem aN2 {t:Nat} {p:Path} (h:fG t p=false):¬ p.1=t:=by
 simpa [fG] using h
theorem dK (t:Nat) (a:AV) (fr:Fr):aX (gM t a fr) t=a:=aV t a _
theorem gJ {t y:Nat} (a:AV) (fr:Fr) (h:y≠t):aX (gM t a fr) y=(aX fr y).dS (fG t):=by
 rw [gM,bL _ _ (Ne.symm h),bU9]
section
variable {P:Program} {e:Env} {G:dW} {S:Nat→Prop} {β:Path→Value} {fr:Fr} {vals:Nat→Option Value} {w:World}
theorem Mem.nX (hm:Mem e G S β fr vals w) (t:Nat) (av:AV) (u:Value) (vals':Nat→Option Value) (hv:∀ y,y≠t→vals' y=vals y) (hvt:∀ u',vals' t=some u'→u'=u)
  (hrel:dV (dN G) S w β t av u) (hown:∀ j,av.aR j=false) (hgok:∀ l a,av=.gd l a→a.bV=false∧∀ q∈l,(jV G q.1).isSome=true):Mem e G S β (gM t av fr) vals' w:=by
 refine hm.change t av (fG t) (dK t av fr) (fun y hy=>.inr (gJ av fr hy)) (fun _ _ _=>rfl) (fun _ _=>rfl) (fun y hy u' h=>by rw [← hv y hy]; exact h) ⟨u,hrel,hvt⟩ hgok ?_ ?_ ?_ (fun _ h=>h) (fun _ h=>.inl h) (fun _ _=>rfl) (fun _ _ _ _ _ _=>rfl) (fun _ _ _=>rfl) (Nat.le_refl _) rfl rfl rfl
 ·intro i j b h1; rw [hown] at h1; cases h1
 ·intro i y j b h1; rw [hown] at h1; cases h1
 ·intro i b h1; rw [hown] at h1; cases h1
theorem Mem.weaken (hm:Mem e G S β fr vals w) (t:Nat) (av:AV) (hrel:∀ u,dV (dN G) S w β t (aX fr t) u→dV (dN G) S w β t av u) (hown:∀ j,av.aR j=true→(aX fr t).aR j=true) (hgok:∀ l a,av=.gd l a→a.bV=false∧∀ q∈l,(jV G q.1).isSome=true):Mem e G S β ((t,av) :: fr) vals w:=by
 refine hm.change t av (fG t) (aV t av fr) (fun y hy=>.inl ⟨bL _ _ (Ne.symm hy),fun _=>rfl⟩) (fun _ _ _=>rfl) (fun _ _=>rfl) (fun _ _ _ h=>h) ?_ hgok ?_ ?_ ?_ (fun _ h=>h) (fun _ h=>.inl h) (fun _ _=>rfl) (fun _ _ _ _ _ _=>rfl) (fun _ _ _=>rfl) (Nat.le_refl _) rfl rfl rfl
 ·obtain ⟨u,hr,hu⟩:=hm.rel t
  exact ⟨u,hrel u hr,hu⟩
 ·intro i j b h1 h2 h3 h4
  exact (hm.dis t i t j b (hown i h1) (hown j h2) h3 h4).2
 ·intro i y j b h1 hy h2 h3 h4
  exact hy (hm.dis t i y j b (hown i h1) h2 h3 h4).1.symm
 ·intro i b h1 h2
  exact hm.fre t i b (hown i h1) h2
theorem Mem.drop (hm:Mem e G S β fr vals w) (t:Nat):Mem e G S β ((t,.junk) :: fr) vals w :=
 hm.weaken t .junk (fun _ _=>trivial) (fun j h=>by cases j <;> simp [AV.aR,AV.bV] at h) (fun _ _ h=>by cases h)
theorem aK0 {G:dW} {s:Nat} {l:List (Nat×Bool)} {b:Bool} {g:List (Nat×Bool)} (hs:jV G s=none) (hg:∀ q∈g,(jV G q.1).isSome=true):dN ((s,l,b) :: G) g=dN G g:=by
 simp only [dN]
 rw [Bool.eq_iff_iff,List.all_eq_true,List.all_eq_true]
 have key:∀ q∈g,jV ((s,l,b) :: G) q.1=jV G q.1:=by
  intro q hq
  have:=hg q hq
  simp only [jV]
  split
  ·rename_i h
   simp only [beq_iff_eq] at h
   subst h
   rw [hs] at this
   cases this
  ·rfl
 exact ⟨fun h q hq=>by rw [← key q hq]; exact h q hq,fun h q hq=>by rw [key q hq]; exact h q hq⟩
theorem Mem.guard (hm:Mem e G S β fr vals w) (s:Nat) (l:List (Nat×Bool)) (b:Bool) (hs:jV G s=none):Mem e ((s,l,b) :: G) S β fr vals w:=by
 refine ⟨fun x=>?_,fun x l' a h=>⟨(hm.gok x l' a h).1,fun q hq=>?_⟩,hm.dis,hm.fre,hm.stb,hm.s0,hm.old,hm.os,hm.tape,hm.output,hm.size⟩
 ·obtain ⟨u,hr,hu⟩:=hm.rel x
  refine ⟨u,?_,hu⟩
  refine hr.turn (fun l' a0 h=>aK0 hs (hm.gok x l' a0 h).2) (fun _ h=>h) (fun _ _=>rfl) (fun _=>rfl) (fun _ _ _ _=>rfl) (fun _ _=>rfl)
 ·have:=(hm.gok x l' a h).2 q hq
  simp only [jV]
  split
  ·rfl
  ·exact this
theorem Mem.grow (hm:Mem e G S β fr vals w) (w':World) (hb:∀ b,b < w.heap.size→w'.heap[b]? = w.heap[b]?) (hsize:w.heap.size≤w'.heap.size) (hos:w'.os=w.os) (htape:w'.tape=w.tape) (hout:w'.output=w.output) :
  Mem e G S β fr vals w':=by
 refine ⟨fun x=>?_,hm.gok,hm.dis,hm.fre,fun b h=>⟨Nat.lt_of_lt_of_le (hm.stb b h).1 hsize,(hm.stb b h).2⟩,hm.s0,fun b h1 h2=>?_,hos.trans hm.os,htape.trans hm.tape,hout.trans hm.output,Nat.le_trans hm.size hsize⟩
 ·obtain ⟨u,hr,hu⟩:=hm.rel x
  refine ⟨u,?_,hu⟩
  by_cases hg:∃ l a,aX fr x=.gd l a
  ·obtain ⟨l,a,hg⟩:=hg
   rw [hg] at hr ⊢
   refine ⟨fun h=>?_,hr.2⟩
   have hf:=hr.1 h
   exact hf.turn (fun _ h=>h) (fun b hS=>hb b (hm.stb b hS).1) rfl (fun h0=>absurd rfl h0) (fun ho b hbl=>hb b (hf.lt ho hbl)) (fun _ _=>rfl)
  ·exact hr.turn (fun _ _ _=>rfl) (fun _ h=>h) (fun b hS=>hb b (hm.stb b hS).1) (fun _=>rfl) (fun j ho b hbl=>hb b (hr.lt ho (fun l a h=>hg ⟨l,a,h⟩) hbl)) (fun _ _=>rfl)
 ·rw [hb b (Nat.lt_of_lt_of_le h1 hm.size)]
  exact hm.old b h1 h2
def AV.zN:AV→Bool
 | .gd _ _=>false
 | _=>true
theorem Mem.lt (hm:Mem e G S β fr vals w) {x j b:Nat} (ho:(aX fr x).aR j=true) (hb:blk (β (x,j))=some b) (hn:(aX fr x).zN=true):b < w.heap.size:=by
 obtain ⟨u,hr,_⟩:=hm.rel x
 exact hr.lt ho (fun l a h=>by rw [h] at hn; cases hn) hb
end
end Go.Vm
namespace Go.Vm
def fV (fr:Fr) (p:Path) (a:AV):Fr :=
  match p with
  | (x,0)=>(x,a) :: fr
  | (x,j+1)=>match aX fr x with
    | .box cs=>(x,.box (cs.set j a)) :: fr
    | _=>fr
def cJ7 (e:Env) (S:Nat→Prop) (β:Path→Value) (fr:Fr) (t b:Nat):Prop :=
 ¬ S b∧(e.w0.heap.size≤b∨e.A b)∧∀ y j,y≠t→(aX fr y).aR j=true→blk (β (y,j))≠some b
section
variable {P:Program} {e:Env} {G:dW} {S:Nat→Prop} {β:Path→Value} {fr:Fr} {vals:Nat→Option Value} {w:World}
theorem Mem.blt (hm:Mem e G S β fr vals w) {x j b:Nat} (ho:(aX fr x).aR j=true) (hb:blk (β (x,j))=some b):b < w.heap.size:=by
 by_cases hn:(aX fr x).zN=true
 ·exact hm.lt ho hb hn
 ·cases hf:aX fr x <;> rw [hf] at hn ho <;> simp only [AV.zN,not_true_eq_false] at hn
  rename_i l a
  have:=(hm.gok x l a hf).1
  cases j <;> simp [AV.aR,AV.bV,this] at ho
theorem Mem.oW (hm:Mem e G S β fr vals w) (t b:Nat) (h:w.heap.size≤b):cJ7 e S β fr t b:=by
 refine ⟨fun hS=>?_,.inl (Nat.le_trans hm.size h),fun y j _ ho hb=>?_⟩
 ·have:=(hm.stb b hS).1; omega
 ·have:=hm.blt ho hb; omega
theorem Mem.uC (hm:Mem e G S β fr vals w) (t:Nat) (av:AV) (u:Value) (γ:Nat→Value) (w':World) (vals':Nat→Option Value) (hv:∀ y,y≠t→vals' y=vals y) (hvt:∀ u',vals' t=some u'→u'=u)
  (hrel:dV (dN G) S w' (fun p=>if p.1=t then γ p.2 else β p) t av u) (hgok:∀ l a,av=.gd l a→a.bV=false∧∀ q∈l,(jV G q.1).isSome=true)
  (hfree:∀ i b,av.aR i=true→blk (γ i)=some b→cJ7 e S β fr t b)
  (hdis:∀ i j b,av.aR i=true→av.aR j=true→blk (γ i)=some b→blk (γ j)=some b→i=j)
  (hb:∀ b,b < w.heap.size→w'.heap[b]? = w.heap[b]? ∨ cJ7 e S β fr t b) (hsize:w.heap.size≤w'.heap.size) (hos:w'.os=w.os) (htape:w'.tape=w.tape) (hout:w'.output=w.output) :
  Mem e G S (fun p=>if p.1=t then γ p.2 else β p) (gM t av fr) vals' w':=by
 refine hm.change t av (fG t) (dK t av fr) (fun y hy=>.inr (gJ av fr hy)) (fun y j hy=>by simp [hy]) (fun p hp=>if_neg (aN2 hp)) (fun y hy u' h=>by rw [← hv y hy]; exact h) ⟨u,hrel,hvt⟩ hgok ?_ ?_ ?_ (fun _ h=>h) (fun _ h=>.inl h) ?_ ?_ ?_ hsize hos htape hout
 ·intro i j b h1 h2 h3 h4
  simp only [if_true] at h3 h4
  exact hdis i j b h1 h2 h3 h4
 ·intro i y j b h1 hy h2 h3
  simp only [if_true] at h3
  exact (hfree i b h1 h3).2.2 y j hy h2
 ·intro i b h1 h2
  simp only [if_true] at h2
  exact ⟨(hfree i b h1 h2).1,(hfree i b h1 h2).2.1⟩
 ·intro b hS
  rcases hb b (hm.stb b hS).1 with h | h
  ·exact h
  ·exact absurd hS h.1
 ·intro y j b hy ho hbl
  rcases hb b (hm.blt ho hbl) with h | h
  ·exact h
  ·exact absurd hbl (h.2.2 y j hy ho)
 ·intro b h1 h2
  rcases hb b (Nat.lt_of_lt_of_le h1 hm.size) with h | h
  ·exact h
  ·rcases h.2.1 with h' | h'
   ·omega
   ·exact absurd h' h2
def AV.flat:AV→Bool
 | .gd _ _ | .box _ | .tup _ | .slf _ _ | .dow _ _ _ _ _ _=>false
 | _=>true
theorem dD {g:List (Nat×Bool)→Bool} {x:Nat} {a:AV} {u:Value} (hf:a.flat=true):dV g S w β x a u↔bA S w β (x,0) a u:=by
 cases a <;> simp_all [AV.flat,dV]
theorem nR {a:AV} (hf:a.flat=true) (j:Nat):a.aR j=true→j=0∧a.bV=true:=by
 cases a <;> cases j <;> simp_all [AV.flat,AV.aR,AV.bV]
theorem iG {cs:List AV} {j:Nat} {a:AV} {i:Nat} (h:(AV.box (cs.set j a)).aR i=true):(i=j+1∧a.bV=true)∨(i≠j+1∧(AV.box cs).aR i=true):=by
 cases i with
 | zero=>exact .inr ⟨by omega,rfl⟩
 | succ i =>
  simp only [AV.aR,List.getElem?_set] at h
  by_cases hij:j=i
  ·subst hij
   left
   refine ⟨rfl,?_⟩
   rw [if_pos rfl] at h
   split at h
   ·simpa using h
   ·simp at h
  ·rw [if_neg hij] at h
   exact .inr ⟨by omega,h⟩
def AV.aG1:AV→Bool
 | .own _ _ _ | .arr _ _ _ | .mp _ _ _=>true
 | _=>false
theorem aI0 {a:AV} (h:a.aG1=true):a.bV=true:=by cases a <;> first | rfl | cases h
theorem aM4 {a:AV} (h:a.aG1=true):a.aR 0=true:=by cases a <;> first | rfl | cases h
theorem aS0 {a:AV} (h:a.aG1=true) {p:Path} {u:Value} (hr:bA S w β p a u):u=β p:=by cases a <;> first | exact hr.1 | cases h
theorem bM0 {a:AV} (h:a.aG1=true):a.flat=true:=by cases a <;> first | rfl | cases h
theorem Mem.bZ9 (hm:Mem e G S β fr vals w) {p:Path} {a0:AV} (ha0:a0.aG1=true) (hp:fH fr p=a0) {a':AV} (hf:a'.flat=true) {S':Nat→Prop} {w':World}
  (hrel:bA S' w' β p a' (β p)) (hsub:∀ b,S b→S' b) (hS:∀ b,S' b→S b∨(blk (β p)=some b∧a'.bV=false))
  (hw:∀ b,blk (β p)≠some b→w'.heap[b]? = w.heap[b]?) (hsize:w'.heap.size=w.heap.size) (hos:w'.os=w.os) (htape:w'.tape=w.tape) (hout:w'.output=w.output) :
  Mem e G S' β (fV fr p a') vals w':=by
 obtain ⟨x,i⟩:=p
 have hox:(aX fr x).aR i=true:=by
  cases i with
  | zero=>simp only [fH] at hp; rw [hp]; exact aM4 ha0
  | succ j =>
   simp only [fH] at hp
   split at hp
   ·rename_i cs hb
    rw [hb]
    simp only [List.getD_eq_getElem?_getD] at hp
    cases hc:cs[j]? with
    | none=>simp [hc] at hp; subst hp; cases ha0
    | some c=>simp [hc] at hp; simp [AV.aR,hc,hp,aI0 ha0]
   ·subst hp; cases ha0
 have hag:Agree S w w':=fun b hS'=>hw b fun hbl=>(hm.fre x i b hox hbl).1 hS'
 have hoth:∀ y j b,(y,j)≠(x,i)→(aX fr y).aR j=true→blk (β (y,j))=some b→w'.heap[b]? = w.heap[b]? := by
  intro y j b hne ho hbl
  refine hw b fun h=>hne ?_
  obtain ⟨h1,h2⟩:=hm.dis y j x i b ho hox hbl h
  rw [h1,h2]
 have hSnew:∀ b,S' b→S b∨(b < w'.heap.size∧(e.w0.heap.size≤b∨e.A b)∧∀ y j,y≠x→(aX fr y).aR j=true→blk (β (y,j))≠some b):=by
  intro b hb
  rcases hS b hb with h | ⟨h,_⟩
  ·exact .inl h
  ·refine .inr ⟨by rw [hsize]; exact hm.blt hox h,(hm.fre x i b hox h).2,fun y j hy ho hbl=>?_⟩
   exact hy (hm.dis y j x i b ho hox hbl h).1
 have hold:∀ b,b < e.w0.heap.size→¬ e.A b→w'.heap[b]? = w.heap[b]? := by
  intro b h1 h2
  refine hw b fun h=>?_
  rcases (hm.fre x i b hox h).2 with h' | h'
  ·omega
  ·exact h2 h'
 cases i with
 | zero =>
  simp only [fH] at hp
  have hslot:∃ u,dV (dN G) S' w' β x a' u∧∀ u',vals x=some u'→u'=u:=by
   obtain ⟨u,hr,hu⟩:=hm.rel x
   rw [hp] at hr
   have hub:u=β (x,0):=aS0 ha0 ((dD (bM0 ha0)).1 hr)
   exact ⟨u,(dD hf).2 (by rw [hub]; exact hrel),hu⟩
  refine hm.change x a' (fG x) (by simp [Vm.fV,aV]) (fun y hy=>.inl ⟨by simp only [Vm.fV]; exact bL _ _ (Ne.symm hy),fun _=>rfl⟩) (fun _ _ _=>rfl) (fun _ _=>rfl) (fun _ _ _ h=>h) hslot (fun l a h=>by subst h; simp [AV.flat] at hf) ?_ ?_ ?_ hsub hSnew hag (fun y j b hy ho hbl=>hoth y j b (by simp [hy]) ho hbl) hold (Nat.le_of_eq hsize.symm) hos htape hout
  ·intro i j b h1 h2 _ _
   rw [(nR hf i h1).1,(nR hf j h2).1]
  ·intro i y j b h1 hy h2 h3 h4
   obtain ⟨rfl,_⟩:=nR hf i h1
   exact hy (hm.dis x 0 y j b hox h2 h3 h4).1.symm
  ·intro i b h1 h2
   obtain ⟨rfl,h3⟩:=nR hf i h1
   refine ⟨fun hb=>?_,(hm.fre x 0 b hox h2).2⟩
   rcases hS b hb with h | ⟨_,h⟩
   ·exact (hm.fre x 0 b hox h2).1 h
   ·rw [h] at h3; cases h3
 | succ k =>
  simp only [fH] at hp
  split at hp
  case h_2=>subst hp; cases ha0
  rename_i cs hbox
  simp only [List.getD_eq_getElem?_getD] at hp
  have hc:cs[k]? = some a0:=by
   cases hc:cs[k]? with
   | none=>simp [hc] at hp; subst hp; cases ha0
   | some c=>simp [hc] at hp; rw [hp]
  have hslot:∃ u,dV (dN G) S' w' β x (.box (cs.set k a')) u∧∀ u',vals x=some u'→u'=u:=by
   obtain ⟨u,hr,hu⟩:=hm.rel x
   rw [hbox] at hr
   obtain ⟨h0,b,l,E,h1,h2,h3⟩:=hr
   refine ⟨u,⟨h0,b,l,E,h1,?_,?_⟩,hu⟩
   ·rw [hoth x 0 b (by simp) (by rw [hbox]; rfl) (by rw [← h0,h1]; rfl)]
    exact h2
   ·refine bI.dJ (by simpa using bI.len h3) fun j a c ha hcj=>?_
    simp only [Nat.zero_add]
    rw [List.getElem?_set] at ha
    by_cases hkj:k=j
    ·subst hkj
     rw [if_pos rfl] at ha
     split at ha
     ·simp only [Option.some.injEq] at ha
      subst ha
      obtain ⟨c',hc',hrc⟩:=bI.get h3 k _ hc
      rw [hcj] at hc'
      cases hc'
      simp only [Nat.zero_add] at hrc
      have:c=β (x,k+1):=aS0 ha0 hrc
      rw [this]; exact hrel
     ·cases ha
    ·rw [if_neg hkj] at ha
     obtain ⟨c',hc',hrc⟩:=bI.get h3 j a ha
     rw [hcj] at hc'
     cases hc'
     simp only [Nat.zero_add] at hrc
     refine hrc.turn hsub hag rfl (fun _ _=>⟨rfl,bG9 fun b hbl=>hoth x 0 b (by simp) (by rw [hbox]; rfl) hbl⟩) (fun ho b hbl=>hoth x (j+1) b (by simp; omega) (by rw [hbox]; simp [AV.aR,ha,ho]) hbl) (fun _ _=>rfl)
  have hfg:aX (Vm.fV fr (x,k+1) a') x=.box (cs.set k a'):=by simp [Vm.fV,hbox,aV]
  refine hm.change x (.box (cs.set k a')) (fG x) hfg (fun y hy=>.inl ⟨by simp only [Vm.fV,hbox]; exact bL _ _ (Ne.symm hy),fun _=>rfl⟩) (fun _ _ _=>rfl) (fun _ _=>rfl) (fun _ _ _ h=>h) hslot (fun l a h=>by cases h) ?_ ?_ ?_ hsub hSnew hag (fun y j b hy ho hbl=>hoth y j b (by simp [hy]) ho hbl) hold (Nat.le_of_eq hsize.symm) hos htape hout
  ·intro i j b h1 h2 h3 h4
   have hi:(aX fr x).aR i=true:=by
    rcases iG h1 with ⟨rfl,_⟩ | ⟨_,h⟩
    ·exact hox
    ·rw [hbox]; exact h
   have hj:(aX fr x).aR j=true:=by
    rcases iG h2 with ⟨rfl,_⟩ | ⟨_,h⟩
    ·exact hox
    ·rw [hbox]; exact h
   exact (hm.dis x i x j b hi hj h3 h4).2
  ·intro i y j b h1 hy h2 h3 h4
   have hi:(aX fr x).aR i=true:=by
    rcases iG h1 with ⟨rfl,_⟩ | ⟨_,h⟩
    ·exact hox
    ·rw [hbox]; exact h
   exact hy (hm.dis x i y j b hi h2 h3 h4).1.symm
  ·intro i b h1 h2
   rcases iG h1 with ⟨rfl,ha⟩ | ⟨hne,h⟩
   ·refine ⟨fun hb=>?_,(hm.fre x _ b hox h2).2⟩
    rcases hS b hb with h | ⟨_,h⟩
    ·exact (hm.fre x _ b hox h2).1 h
    ·rw [h] at ha; cases ha
   ·have hi:(aX fr x).aR i=true:=by rw [hbox]; exact h
    refine ⟨fun hb=>?_,(hm.fre x i b hi h2).2⟩
    rcases hS b hb with h' | ⟨h',_⟩
    ·exact (hm.fre x i b hi h2).1 h'
    ·exact hne (hm.dis x i x (k+1) b hi hox h2 h').2
theorem Mem.fV (hm:Mem e G S β fr vals w) {p:Path} {κ:TypeId} {sz:Nat} {es:List (List Dat)} (hp:fH fr p=.own κ sz es) {a':AV} (hf:a'.flat=true) {S':Nat→Prop} {w':World}
  (hrel:bA S' w' β p a' (β p)) (hsub:∀ b,S b→S' b) (hS:∀ b,S' b→S b∨(blk (β p)=some b∧a'.bV=false))
  (hw:∀ b,blk (β p)≠some b→w'.heap[b]? = w.heap[b]?) (hsize:w'.heap.size=w.heap.size) (hos:w'.os=w.os) (htape:w'.tape=w.tape) (hout:w'.output=w.output) :
  Mem e G S' β (Vm.fV fr p a') vals w':=hm.bZ9 rfl hp hf hrel hsub hS hw hsize hos htape hout
theorem Mem.cI3 (hm:Mem e G S β fr vals w) {p:Path} {κ:TypeId} {sz:Nat} {es:List (List Dat)} (hp:fH fr p=.arr κ sz es):Mem e G (fun b=>S b∨blk (β p)=some b) β (Vm.fV fr p (.d (.pt es.flatten))) vals w:=by
 refine hm.bZ9 (a0:=.arr κ sz es) rfl hp rfl (S':=fun b=>S b∨blk (β p)=some b) ?_ (fun _ h=>.inl h) (fun b h=>h.imp id fun h=>⟨h,rfl⟩) (fun _ _=>rfl) rfl rfl rfl rfl
 obtain ⟨b,arr,h1,h2,h3,h4⟩:=wE hm hp
 simp only [bA,RD]
 exact ⟨b,0,arr,κ,(0,0),h1,.inr (by rw [h1]; rfl),h3,RCs.mono (fun _ h=>.inl h) (fun _ _=>rfl) _ _ _ (REs.flat es 0 h4)⟩
theorem Mem.freeze (hm:Mem e G S β fr vals w) {p:Path} {κ:TypeId} {sz:Nat} {es:List (List Dat)} (hp:fH fr p=.own κ sz es):Mem e G (fun b=>S b∨blk (β p)=some b) β (Vm.fV fr p (.fz sz es)) vals w:=by
 refine hm.fV hp rfl (S':=fun b=>S b∨blk (β p)=some b) ⟨rfl,?_⟩ (fun _ h=>.inl h) (fun b h=>h.imp id fun h=>⟨h,rfl⟩) (fun _ _=>rfl) rfl rfl rfl rfl
 have ho:=jW hm hp
 simp only [RD]
 rcases ho with h | ⟨b,off,c,arr,E,fz,h1,h2,h3,h4,h5,hκ,h6⟩
 ·exact .inl ⟨⟨_,h.1⟩,h.2⟩
 ·exact .inr ⟨b,off,c,arr,E,fz,h1,h2,.inr (by rw [h1]; rfl),h5,REs.mono (fun _ h=>.inl h) (fun _ _=>rfl) sz es _ _ h6⟩
theorem Mem.bX6 (hm:Mem e G S β fr vals w) {p:Path} {κ:TypeId} {sz:Nat} {es:List (List Dat)} (hp:fH fr p=.own κ sz es):Mem e G S β (Vm.fV fr p .junk) vals w :=
 hm.fV hp rfl trivial (fun _ h=>h) (fun _ h=>.inl h) (fun _ _=>rfl) rfl rfl rfl rfl
theorem bW3 {p:Path} {a0:AV} (ha0:a0.aG1=true) (hp:fH fr p=a0):(aX fr p.1).aR p.2=true:=by
 obtain ⟨x,i⟩:=p
 cases i with
 | zero=>simp only [fH] at hp; rw [hp]; exact aM4 ha0
 | succ j =>
  simp only [fH] at hp
  split at hp
  ·rename_i cs hb
   simp only at hb ⊢
   rw [hb]
   simp only [List.getD_eq_getElem?_getD] at hp
   cases hc:cs[j]? with
   | none=>simp [hc] at hp; subst hp; cases ha0
   | some c=>simp [hc] at hp; simp [AV.aR,hc,hp,aI0 ha0]
  ·subst hp; cases ha0
theorem kH {p:Path} {κ:TypeId} {sz:Nat} {es:List (List Dat)} (hp:fH fr p=.own κ sz es):(aX fr p.1).aR p.2=true:=by
 obtain ⟨x,i⟩:=p
 cases i with
 | zero=>simp only [fH] at hp; rw [hp]; rfl
 | succ j =>
  simp only [fH] at hp
  split at hp
  ·rename_i cs hb
   simp only at hb ⊢
   rw [hb]
   simp only [List.getD_eq_getElem?_getD] at hp
   cases hc:cs[j]? with
   | none=>simp [hc] at hp
   | some c=>simp [hc] at hp; simp [AV.aR,hc,hp,AV.bV]
  ·cases hp
theorem Mem.vE (hm:Mem e G S β fr vals w) {p:Path} {κ:TypeId} {sz:Nat} {es:List (List Dat)} (hp:fH fr p=.own κ sz es) (t b:Nat) (hb:blk (β p)=some b):cJ7 e S β (Vm.fV fr p .junk) t b:=by
 have ho:=kH hp
 have hf:=hm.fre p.1 p.2 b ho hb
 refine ⟨hf.1,hf.2,fun y j _ hoy hby=>?_⟩
 obtain ⟨x,i⟩:=p
 have hsub:(y,j)≠(x,i)∧(aX fr y).aR j=true:=by
  cases i with
  | zero =>
   simp only [Vm.fV,qR] at hoy
   split at hoy
   ·cases j <;> simp [AV.aR,AV.bV] at hoy
   ·rename_i hne
    exact ⟨fun h=>hne (by cases h; rfl),hoy⟩
  | succ k =>
   simp only [fH] at hp
   split at hp
   case h_2=>cases hp
   rename_i cs hbox
   simp only [Vm.fV,hbox,qR] at hoy
   split at hoy
   ·rename_i hxy
    subst hxy
    rcases iG hoy with ⟨_,h⟩ | ⟨h1,h2⟩
    ·cases h
    ·exact ⟨fun h=>h1 (by cases h; rfl),by rw [hbox]; exact h2⟩
   ·rename_i hne
    exact ⟨fun h=>hne (by cases h; rfl),hoy⟩
 obtain ⟨h1,h2⟩:=hm.dis y j x i b hsub.2 ho hby hb
 exact hsub.1 (by rw [h1,h2])
end
end Go.Vm
namespace Go.Vm
section
variable {P:Program} {e:Env} {G:dW} {S:Nat→Prop} {β:Path→Value} {fr:Fr} {vals:Nat→Option Value} {w:World}
theorem nC (g o:Nat) (t:TypeId) (fz:Nat×Nat):∀ (vs:List Value) (i:Nat) (cur:Array Value) (w:World),w.heap[g]? = some (.cells cur t fz)→(∀ k,k < cur.size→¬ (fz.1≤k∧k < fz.2))→o+i+vs.length≤cur.size→(∀ v∈vs,v.oneCell'=true) →
  (storeCells ⟨g,o,none⟩ vs i).run P w=.ok () (w.setRow g (cur.toList.take (o+i)++vs++cur.toList.drop (o+i+vs.length)).toArray)
 | [],i,cur,w,hg,_,_,_=>by
  simp only [storeCells,List.append_nil,List.length_nil,Nat.add_zero,List.take_append_drop,Array.toArray_toList]
  rw [setRow_self w g cur t fz hg]
  rfl
 | v :: rest,i,cur,w,hg,hfr,hl,h1=>by
  have hi:o+i < cur.size:=by simp at hl; omega
  have hadd:(⟨g,o,none⟩:Addr).add i=⟨g,o+i,none⟩:=addr_add g o i
  have hcell:w.cell? ⟨g,o+i,none⟩=some cur[o+i]:=by simp [World.cell?,hg,hi]
  have hfro:w.frozen? ⟨g,o+i,none⟩=false:=by
   simp only [World.frozen?,hg]
   have:=hfr (o+i) hi
   simp only [Bool.and_eq_false_iff,decide_eq_false_iff_not]
   omega
  have hst:(store ((⟨g,o,none⟩:Addr).add i) v).run P w=.ok () (w.setRow g (cur.setIfInBounds (o+i) v)):=by
   rw [hadd,run_store P w _ v _ (h1 v (by simp)),hcell]
   simp [hfro,setCell_eq_setRow w g (o+i) cur t fz v hg]
  have ih:=nC g o t fz rest (i+1) (cur.setIfInBounds (o+i) v) (w.setRow g (cur.setIfInBounds (o+i) v)) (setRow_heap w g cur _ t _ hg) (by simpa using hfr) (by simp at hl ⊢; omega) (fun x hx=>h1 x (by simp [hx]))
  simp only [storeCells,Sem.run_bind,hst,Result.andThen_ok,ih,setRow_setRow]
  congr 3
  have e:=list_seg_step cur.toList (o+i) v rest (by simp at hl ⊢; omega)
  simpa [Array.toList_setIfInBounds,Nat.add_assoc] using e
structure Src (P:Program) (w:World) (t2:TypeId) (size:Nat) (x:Value) (m:Nat) (news:List Value):Prop where
 ty:(∃ E,P.underlying t2=some (.slice E))∨P.underlying t2=some .string
 len:(Builtin.lenOf x).run P w=.ok m w
 first:∀ w':World,w'.heap=w.heap→(Builtin.firstCells size m x).run P w'=.ok news.toArray w'
 count:news.length=m * size
 one:∀ v∈news,v.oneCell'=true
theorem run_append_room' (t t2 ty E:TypeId) (i:TypeInfo) (ht:P.underlying t=some (.slice E)) (hi:P.info? E=some i) (b:Option Addr) (n c:Nat) {x:Value} {m:Nat} {news:List Value} (hx:Src P w t2 i.size x m news) (hroom:n+m≤c) :
  (Builtin.append_ #[t,t2] ty #[.slice b n c,x]).run P w =
   match b with
   | some a=>((storeCells (a.add (n * i.size)) news).run P w).andThen fun _ w'=>.ok (.slice (some a) (n+m) c) w'
   | none=>.ok (.slice none (n+m) c) w:=by
 have hf:=hx.first w rfl
 have hl:=hx.len
 rcases hx.ty with ⟨E2,h2⟩ | h2 <;> cases b <;> simp [Builtin.append_,run_underlying ht,run_underlying h2,sizeOf,typeInfo,hi,hl,hroom,hf]
theorem run_append_grow' (t t2 ty E:TypeId) (i:TypeInfo) (z:Value) (ht:P.underlying t=some (.slice E)) (hi:P.info? E=some i) (hz:i.zero=some z) (b:Option Addr) (n c:Nat) (olds:List Value)
  (hold:∀ w':World,w'.heap=w.heap→(Builtin.firstCells i.size n (.slice b n c)).run P w'=.ok olds.toArray w') {x:Value} {m:Nat} {news:List Value} (hx:Src P w t2 i.size x m news) (hg:c < n+m) (h63:n+m≤9223372036854775807) (hfit:(n+m) * i.bytes≤140737488355328) :
  (Builtin.append_ #[t,t2] ty #[.slice b n c,x]).run P w =
   .ok (.slice (some ⟨w.heap.size,0,none⟩) (n+m) (grownCap w (n+m) c E)) (w.drew.alloc (.cells (olds.toArray++news.toArray++Builtin.zeroCells z.cells (grownCap w (n+m) c E - (n+m))) E)):=by
 have hf:=hx.first w.drew rfl
 have hfo:=hold w.drew rfl
 have hl:=hx.len
 have hn:¬ (n+m≤c):=by omega
 have h63':¬ (9223372036854775807 < ((n:Int)+(m:Int))):=by omega
 have h48':¬ (281474976710656 < Builtin.nextslicecap (n+m) c * i.bytes):=by have:=growslice_fits hg hfit; omega
 rcases hx.ty with ⟨E2,h2⟩ | h2
 all_goals (
  simp only [Builtin.append_,List.getElem?_toArray,List.getElem?_cons_zero,List.getElem?_cons_succ,Sem.run_bind,run_underlying ht,run_underlying h2,Result.andThen_ok,sizeOf,typeInfo,run_program,hi,Sem.run_pure,hl,hn,if_false,Bool.false_eq_true]
  simp [h63',h48',Question.forced,hf,hfo,newRow,grownCap,zeroValue,typeInfo,hi,hz]
  try (congr 2; apply Array.ext'; simp [List.append_assoc]))
theorem REs.append {g:Nat→Option Value} {sz:Nat}:∀ (es nes:List (List Dat)) (o:Nat),REs S w sz es g o→REs S w sz nes g (o+es.length * sz)→REs S w sz (es++nes) g o
 | [],nes,o,_,h=>by simpa using h
 | x :: es,nes,o,h1,h2=>by
  simp only [REs,List.cons_append] at h1 ⊢
  refine ⟨h1.1,h1.2.1,REs.append es nes (o+sz) h1.2.2 ?_⟩
  have e:o+sz+es.length * sz=o+(x :: es).length * sz:=by simp [Nat.add_mul]; omega
  rw [e]; exact h2
theorem cF0 (b o n c:Nat):blk (.slice (some ⟨b,o,none⟩) n c)=some b:=rfl
theorem aW7 {t t2 ty E κ:TypeId} (hE40:E < 1099511627776) (hκ0:κ=E∨κ=E+2199023255552) {i:TypeInfo} {z:Value} (ht:P.underlying t=some (.slice E)) (hi:P.info? E=some i) (hz:i.zero=some z) (hzs:z.cells.size=i.size)
  {u:Value} {es:List (List Dat)} (hu:OwnAt S w u κ i.size es) (hSu:∀ b,blk u=some b→¬ S b) (hSlt:∀ b,S b→b < w.heap.size) {x:Value} {nes:List (List Dat)} {news:List Value} (hx:Src P w t2 i.size x nes.length news)
  (hn:REs S w i.size nes (fun j=>news[j]?) 0) (h63:es.length+nes.length≤9223372036854775807) (hfit:(es.length+nes.length) * i.bytes≤140737488355328) :
  ∃ v w',(Builtin.append_ #[t,t2] ty #[u,x]).run P w=.ok v w'∧OwnAt S w' v κ i.size (es++nes)∧(∀ b,b < w.heap.size→blk u≠some b→w'.heap[b]? = w.heap[b]?)∧w.heap.size≤w'.heap.size∧w'.os=w.os∧w'.tape=w.tape∧w'.output=w.output ∧
   (∀ b,blk v=some b→blk u=some b∨b=w.heap.size):=by
 -- the growing case,once
 have grow:∀ (b:Option Addr) (c:Nat) (olds:List Value),olds.length=es.length * i.size→c < es.length+nes.length →
   (∀ w':World,w'.heap=w.heap→(Builtin.firstCells i.size es.length (.slice b es.length c)).run P w'=.ok olds.toArray w')→REs S w i.size es (fun j=>olds[j]?) 0→u=.slice b es.length c →
   ∃ v w',(Builtin.append_ #[t,t2] ty #[u,x]).run P w=.ok v w'∧OwnAt S w' v κ i.size (es++nes)∧(∀ b,b < w.heap.size→blk u≠some b→w'.heap[b]? = w.heap[b]?)∧w.heap.size≤w'.heap.size∧w'.os=w.os∧w'.tape=w.tape∧w'.output=w.output ∧
    (∀ b,blk v=some b→blk u=some b∨b=w.heap.size):=by
  intro b c olds hlo hg hold hro huu
  have hr:=run_append_grow' (w:=w) t t2 ty E i z ht hi hz b es.length c olds hold hx hg h63 hfit
  have hnz:(es++nes).length≠0:=by rw [List.length_append]; omega
  have hge:es.length+nes.length≤grownCap w (es.length+nes.length) c E:=grownCap_ge w _ _ _
  subst huu
  have hag:Agree S w (w.drew.alloc (.cells (olds.toArray++news.toArray++Builtin.zeroCells z.cells (grownCap w (es.length+nes.length) c E - (es.length+nes.length))) E)):=fun b hS=>heap_alloc_old w.drew _ (hSlt b hS)
  refine ⟨_,_,hr,.inr ⟨w.heap.size,0,grownCap w (es.length+nes.length) c E,_,E,(0,0),by simp,by simpa using hge,?_,?_,heap_alloc_new w.drew _,?_⟩,fun k hk _=>heap_alloc_old w.drew _ hk,by simp,rfl,rfl,rfl,fun k hk=>.inr ?_⟩
  ·simp only [Array.size_append,List.size_toArray,size_zeroCells,hzs,hlo,hx.count,← Nat.add_mul,Nat.zero_add]
   refine Nat.le_of_eq (congrArg (· * i.size) ?_)
   omega
  ·exact .inl rfl
  ·refine ⟨KOk.of hE40 hκ0 fun h=>by rw [h] at hnz; exact hnz rfl,REs.append es nes 0 ?_ ?_⟩
   ·refine REs.mono (fun _ h=>h) hag _ _ _ _ (REs.congr es 0 0 (fun j hj=>?_) hro)
    rw [← hlo] at hj
    simp only [Nat.zero_add,Array.append_assoc]
    rw [Array.getElem?_append_left (by simpa using hj)]
    simp
   ·refine REs.mono (fun _ h=>h) hag _ _ _ _ (REs.congr nes 0 _ (fun j hj=>?_) hn)
    simp only [Nat.zero_add]
    have h1:olds.length≤es.length * i.size+j:=by omega
    rw [← hx.count] at hj
    rw [Array.getElem?_append_left (by simp; omega),Array.getElem?_append_right (by simpa using h1)]
    simp [hlo]
  ·simp only [cF0,Option.some.injEq] at hk
   exact hk.symm
 rcases hu with ⟨rfl,rfl⟩ | ⟨b,off,c,arr,E',fz,rfl,h2,h3,hfr,hb,hκ,hc⟩
 ·by_cases hm:nes.length=0
  ·have hnil:nes=[]:=List.eq_nil_of_length_eq_zero hm
   have hr:=run_append_room' (w:=w) t t2 ty E i ht hi none 0 0 hx (by omega)
   refine ⟨.slice none 0 0,w,by rw [hr]; simp [hm],.inl ⟨rfl,by simp [hnil]⟩,fun _ _ _=>rfl,Nat.le_refl _,rfl,rfl,rfl,fun b h=>by simp [blk] at h⟩
  ·exact grow none 0 [] (by simp) (by simp; omega) (fun w' _=>by simp [Builtin.firstCells]) (by simp [REs]) (by simp)
 ·have hoff:off+es.length * i.size≤arr.size:=Nat.le_trans (Nat.add_le_add_left (Nat.mul_le_mul_right _ h2) _) h3
  by_cases hroom:es.length+nes.length≤c
  ·have hr:=run_append_room' (w:=w) t t2 ty E i ht hi (some ⟨b,off,none⟩) es.length c hx hroom
   have hle:off+es.length * i.size+news.length≤arr.size:=by
    rw [hx.count,Nat.add_assoc,← Nat.add_mul]
    exact Nat.le_trans (Nat.add_le_add_left (Nat.mul_le_mul_right _ hroom) _) h3
   simp only [addr_add] at hr
   rw [nC (P:=P) b (off+es.length * i.size) E' fz news 0 arr w hb hfr.out (by simpa using hle) hx.one] at hr
   simp only [Nat.add_zero,Result.andThen_ok] at hr
   have hag:Agree S w (w.setRow b (arr.toList.take (off+es.length * i.size)++news++arr.toList.drop (off+es.length * i.size+news.length)).toArray):=by
    intro k hS
    exact setRow_other w b k _ (fun h=>hSu b rfl (h ▸ hS))
   refine ⟨_,_,hr,.inr ⟨b,off,c,_,E',fz,by simp,by simpa using hroom,?_,?_,setRow_heap w b arr _ E' fz hb,hκ.app,?_⟩,fun k _ hk=>setRow_other w b k _ (fun h=>hk (by rw [h]; rfl)),by simp,rfl,rfl,rfl,fun k hk=>.inl hk⟩
   ·simp only [List.size_toArray,List.length_append,List.length_take,List.length_drop,Array.length_toList]
    omega
   ·refine (congrArg (aR2 fz) ?_).mp hfr
    simp only [List.size_toArray,List.length_append,List.length_take,List.length_drop,Array.length_toList]
    omega
   ·have hlt:(arr.toList.take (off+es.length * i.size)).length=off+es.length * i.size:=by simp; omega
    refine REs.append es nes off ?_ ?_
    ·refine REs.mono (fun _ h=>h) hag _ _ _ _ (REs.congr es off off (fun j hj=>?_) hc)
     simp only [List.getElem?_toArray,List.append_assoc]
     rw [List.getElem?_append_left (by rw [hlt]; omega),List.getElem?_take,if_pos (by omega)]
     simp
    ·refine REs.mono (fun _ h=>h) hag _ _ _ _ (REs.congr nes 0 _ (fun j hj=>?_) hn)
     rw [← hx.count] at hj
     simp only [List.getElem?_toArray,List.append_assoc,Nat.zero_add]
     rw [List.getElem?_append_right (by rw [hlt]; omega),hlt,List.getElem?_append_left (by omega)]
     congr 1
     omega
  ·refine grow (some ⟨b,off,none⟩) c (arr.extract off (off+es.length * i.size)).toList (by simp; omega) (by omega) (fun w' hw'=>?_) ?_ rfl
   ·simp only [Builtin.firstCells]
    have:=lN P w' b off arr E' fz (by rw [hw']; exact hb) (es.length * i.size) hoff
    simpa only [Array.toArray_toList] using this
   ·refine REs.congr es off 0 (fun j hj=>?_) hc
    simp only [Nat.zero_add,Array.getElem?_toList,Array.getElem?_extract]
    rw [if_pos (by omega)]
end
end Go.Vm
namespace Go.Vm
def spl {α:Type} (off:Nat) (vs cells:List α):List α:=cells.take off++vs++cells.drop (off+vs.length)
theorem gN {α:Type} {off:Nat} {vs cells:List α} (h:off+vs.length≤cells.length):(spl off vs cells).length=cells.length:=by
 simp [spl]; omega
theorem fB {α:Type} {off:Nat} {vs cells:List α} (h:off+vs.length≤cells.length) (j:Nat):(spl off vs cells)[j]? = if off≤j∧j < off+vs.length then vs[j - off]? else cells[j]? := by
 have h1:(cells.take off).length=off:=by simp; omega
 simp only [spl,List.append_assoc]
 by_cases ha:j < off
 ·rw [List.getElem?_append_left (by omega),List.getElem?_take,if_pos ha,if_neg (by omega)]
 ·rw [List.getElem?_append_right (by omega),h1]
  by_cases hb:j < off+vs.length
  ·rw [List.getElem?_append_left (by omega),if_pos ⟨by omega,hb⟩]
  ·rw [List.getElem?_append_right (by omega),if_neg (by omega),List.getElem?_drop]
   congr 1
   omega
def bN8:Value→Dat
 | .string s=>.str s.data.toList
 | v=>.v v
theorem aW8 {S:Nat→Prop} {w:World} {v:Value} (h:v.oneCell'=true):RD S w (bN8 v) v:=by
 cases v <;> simp_all [bN8,RD,strOf,Value.oneCell']
theorem yA (off:Nat):∀ (vs:List Value) (k:Nat) (cells:Array Value) (j:Nat),off+k+vs.length≤cells.size →
  ((vs.zipIdx k).foldl (fun cs p=>cs.setIfInBounds (off+p.2) p.1) cells).toList[j]? = if off+k≤j∧j < off+k+vs.length then vs[j - (off+k)]? else cells.toList[j]?
 | [],k,cells,j,_=>by simp; intro h1 h2; omega
 | v :: vs,k,cells,j,h=>by
  simp only [List.length_cons] at h
  simp only [List.zipIdx_cons,List.foldl_cons]
  rw [yA off vs (k+1) _ j (by simp; omega)]
  simp only [List.length_cons,Array.toList_setIfInBounds]
  by_cases h1:off+(k+1)≤j∧j < off+(k+1)+vs.length
  ·rw [if_pos h1,if_pos (by omega),show j - (off+k)=(j - (off+(k+1)))+1 by omega,List.getElem?_cons_succ]
  ·rw [if_neg h1,List.getElem?_set]
   by_cases h2:off+k=j
   ·rw [if_pos h2,if_pos (by simp; omega),if_pos (by omega)]
    simp [h2]
   ·rw [if_neg h2,if_neg (by omega)]
theorem yZ (off:Nat) (vs cells:Array Value) (h:off+vs.size≤cells.size):vs.zipIdx.foldl (fun cs (x:Value×Nat)=>cs.setIfInBounds (off+x.2) x.1) cells=(spl off vs.toList cells.toList).toArray:=by
 have h0:vs.zipIdx.foldl (fun cs (x:Value×Nat)=>cs.setIfInBounds (off+x.2) x.1) cells=(vs.toList.zipIdx 0).foldl (fun cs p=>cs.setIfInBounds (off+p.2) p.1) cells:=by
  rw [← Array.foldl_toList,Array.toList_zipIdx]
 rw [h0]
 apply Array.ext'
 apply List.ext_getElem?
 intro j
 rw [yA off vs.toList 0 cells j (by simpa using h),fB (by simpa using h)]
 simp
section
variable {S:Nat→Prop} {w:World}
theorem RCs.spl {cs ds:List Dat} {l dl:List Value} {off:Nat} (hc:RCs S w cs (fun j=>l[j]?) 0) (hd:RCs S w ds (fun j=>dl[j]?) 0) (hl:l.length=cs.length) (hdl:dl.length=ds.length) (h:off+ds.length≤cs.length) :
  RCs S w (Vm.spl off ds cs) (fun j=>(Vm.spl off dl l)[j]?) 0:=by
 refine RCs.dJ _ _ fun j x hj=>?_
 rw [fB h] at hj
 simp only [Nat.zero_add]
 rw [fB (by omega),hdl]
 split at hj
 ·rename_i hin
  rw [if_pos hin]
  have:=RCs.get ds 0 (j - off) x hd hj
  simpa using this
 ·rename_i hin
  rw [if_neg hin]
  have:=RCs.get cs 0 j x hc hj
  simpa using this
theorem REs.set {es:List (List Dat)} {e:List Dat} {l el:List Value} {sz i:Nat} (hc:REs S w sz es (fun j=>l[j]?) 0) (he:e.length=sz) (hd:RCs S w e (fun j=>el[j]?) 0) (hel:el.length=e.length) (hi:i < es.length) (hl:es.length * sz≤l.length) :
  REs S w sz (es.set i e) (fun j=>(Vm.spl (i * sz) el l)[j]?) 0:=by
 have hle:i * sz+el.length≤l.length:=by
  rw [hel,he]
  have:i * sz+sz=(i+1) * sz:=by rw [Nat.add_mul,Nat.one_mul]
  rw [this]
  exact Nat.le_trans (Nat.mul_le_mul_right _ hi) hl
 refine REs.dJ _ _ fun j x hj=>?_
 rw [List.getElem?_set] at hj
 by_cases hij:i=j
 ·subst hij
  rw [if_pos rfl,if_pos hi] at hj
  simp only [Option.some.injEq] at hj
  subst hj
  refine ⟨he,RCs.congr _ 0 _ (fun k hk=>?_) hd⟩
  simp only [Nat.zero_add]
  rw [fB hle,if_pos (by omega)]
  congr 1
  omega
 ·rw [if_neg hij] at hj
  obtain ⟨h1,h2⟩:=REs.get es 0 j x hc hj
  refine ⟨h1,RCs.congr _ _ _ (fun k hk=>?_) h2⟩
  simp only [Nat.zero_add]
  rw [fB hle,if_neg]
  rw [hel,he]
  rw [h1] at hk
  intro hcon
  rcases Nat.lt_or_ge j i with hlt | hge
  ·have:(j+1) * sz≤i * sz:=Nat.mul_le_mul_right _ hlt
   rw [Nat.add_mul,Nat.one_mul] at this
   omega
  ·have:(i+1) * sz≤j * sz:=Nat.mul_le_mul_right _ (by omega)
   rw [Nat.add_mul,Nat.one_mul] at this
   omega
end
def zA (P:Program):Nat→TypeId→List (Option (Nat×Nat))
 | 0,_=>[]
 | n+1,t=>match P.underlying t with
  | some (.slice E)=>[(P.info? E).map fun i=>(E,i.size)]
  | some (.struct fs)=>fs.toList.flatMap fun f=>zA P n f.type
  | some (.array k E)=>(List.replicate k (zA P n E)).flatten
  | _=>[none]
def zeroCell (v:Value) (h:Option (Nat×Nat)):Dat :=
 match v,h with
 | .slice none 0 0,some (_,sz)=>.sl sz []
 | v,_=>bN8 v
theorem bN3 {S:Nat→Prop} {w:World} {v:Value} (h:Option (Nat×Nat)) (hv:v.oneCell'=true):RD S w (zeroCell v h) v:=by
 unfold zeroCell
 split
 ·unfold RD
  exact .inl ⟨⟨_,rfl⟩,rfl⟩
 ·exact aW8 hv
def zeroV (P:Program) (t:TypeId):Option (List (Value×Option (Nat×Nat))) :=
 match P.info? t with
 | some i=>match i.zero with
  | some z=>if z.cells.toList.all Value.oneCell' && z.cells.toList.length == i.size && (zA P 8 t).length == i.size then some (z.cells.toList.zip (zA P 8 t)) else none
  | none=>none
 | none=>none
def aS6 (P:Program) (t:TypeId):Option (List Dat):=(zeroV P t).map fun l=>l.map fun q=>zeroCell q.1 q.2
theorem aZ9 {P:Program} {t:TypeId} {l:List (Value×Option (Nat×Nat))} (h:zeroV P t=some l):∃ i z,P.info? t=some i∧i.zero=some z∧z.cells.size=i.size∧l.length=i.size∧(∀ v∈z.cells.toList,v.oneCell'=true)∧l.map Prod.fst=z.cells.toList:=by
 unfold zeroV at h
 split at h
 ·rename_i i hi
  split at h
  ·rename_i z hz
   split at h
   ·rename_i hb
    simp only [Bool.and_eq_true,List.all_eq_true,beq_iff_eq] at hb
    simp only [Option.some.injEq] at h
    subst h
    refine ⟨i,z,hi,hz,by simpa using hb.1.2,by rw [List.length_zip]; omega,hb.1.1,?_⟩
    rw [List.map_fst_zip]
    omega
   ·cases h
  ·cases h
 ·cases h
theorem xW {P:Program} {t:TypeId} {zs:List Dat} (h:aS6 P t=some zs):∃ i z,P.info? t=some i∧i.zero=some z∧z.cells.size=i.size∧zs.length=i.size∧(∀ v∈z.cells.toList,v.oneCell'=true)∧∀ (S:Nat→Prop) (w:World),RCs S w zs (fun j=>z.cells.toList[j]?) 0:=by
 simp only [aS6,Option.map_eq_some_iff] at h
 obtain ⟨l,hl,rfl⟩:=h
 obtain ⟨i,z,hi,hz,h1,h2,h3,h4⟩:=aZ9 hl
 refine ⟨i,z,hi,hz,h1,by simpa using h2,h3,fun S w=>RCs.dJ _ _ fun j x hj=>?_⟩
 simp only [List.getElem?_map,Option.map_eq_some_iff] at hj
 obtain ⟨q,hq,rfl⟩:=hj
 have hv:z.cells.toList[j]? = some q.1:=by rw [← h4,List.getElem?_map,hq]; rfl
 exact ⟨q.1,by simpa using hv,bN3 q.2 (h3 q.1 (List.mem_of_getElem? hv))⟩
def cB4 (P:Program) (raw:Bool) (t:TypeId):Option (List Dat):=if raw then (zeroV P t).map fun l=>l.map fun q=>bN8 q.1 else aS6 P t
theorem aW5 {P:Program} {raw:Bool} {t:TypeId} {zs:List Dat} (h:cB4 P raw t=some zs):∃ i z,P.info? t=some i∧i.zero=some z∧z.cells.size=i.size∧zs.length=i.size∧(∀ v∈z.cells.toList,v.oneCell'=true)∧∀ (S:Nat→Prop) (w:World),RCs S w zs (fun j=>z.cells.toList[j]?) 0:=by
 unfold cB4 at h
 split at h
 ·simp only [Option.map_eq_some_iff] at h
  obtain ⟨l,hl,rfl⟩:=h
  obtain ⟨i,z,hi,hz,h1,h2,h3,h4⟩:=aZ9 hl
  refine ⟨i,z,hi,hz,h1,by simpa using h2,h3,fun S w=>RCs.dJ _ _ fun j x hj=>?_⟩
  simp only [List.getElem?_map,Option.map_eq_some_iff] at hj
  obtain ⟨q,hq,rfl⟩:=hj
  have hv:z.cells.toList[j]? = some q.1:=by rw [← h4,List.getElem?_map,hq]; rfl
  exact ⟨q.1,by simpa using hv,aW8 (h3 q.1 (List.mem_of_getElem? hv))⟩
 ·exact xW h
def cellsD:AV→Option (List Dat)
 | .d x=>some [x]
 | .agg cs=>some cs
 | _=>none
theorem yK {S:Nat→Prop} {w:World} {β:Path→Value} {p:Path} {a:AV} {cs:List Dat} (h:cellsD a=some cs) {u:Value} (hr:bA S w β p a u) (hone:∀ x v,RD S w x v→v.oneCell'=true) :
  u.cells.toList.length=cs.length∧RCs S w cs (fun j=>u.cells.toList[j]?) 0:=by
 cases a <;> simp only [cellsD,Option.some.injEq,reduceCtorEq] at h
 case d x =>
  subst h
  have h1:=hone x u hr
  have hu:u.cells=#[u]:=by cases u <;> simp_all [Value.cells,Value.oneCell']
  rw [hu]
  exact ⟨rfl,by simp only [RCs]; exact ⟨⟨u,rfl,hr⟩,trivial⟩⟩
 case agg ds =>
  subst h
  obtain ⟨l,rfl,hl,hc⟩:=hr
  exact ⟨hl,hc⟩
theorem xB {S:Nat→Prop} {w:World} (x:Dat) (v:Value) (h:RD S w x v):v.oneCell'=true:=by
 cases x <;> simp only [RD] at h
 case v x=>rw [h.1]; exact h.2
 case str l=>rw [h]; rfl
 case sl sz es =>
  rcases h with ⟨⟨q,rfl⟩,_⟩ | ⟨b,off,c,arr,E,fz,rfl,_⟩ <;> rfl
 case pt cs =>
  obtain ⟨b,off,arr,E,fz,rfl,_⟩:=h
  rfl
theorem RCs.one {S:Nat→Prop} {w:World} {cs:List Dat} {l:List Value} (h:RCs S w cs (fun j=>l[j]?) 0) (hl:l.length=cs.length):∀ v∈l,v.oneCell'=true:=by
 intro v hv
 obtain ⟨j,hj,rfl⟩:=List.getElem_of_mem hv
 obtain ⟨u,hu,hr⟩:=RCs.get cs 0 j _ h (List.getElem?_eq_getElem (by omega))
 simp only [Nat.zero_add,List.getElem?_eq_getElem hj,Option.some.injEq] at hu
 rw [hu]
 exact xB _ _ hr
theorem REs.one {S:Nat→Prop} {w:World} {sz:Nat} {es:List (List Dat)} {l:List Value} (h:REs S w sz es (fun j=>l[j]?) 0) (hl:l.length=es.length * sz):∀ v∈l,v.oneCell'=true:=by
 intro v hv
 obtain ⟨j,hj,rfl⟩:=List.getElem_of_mem hv
 have hsz:0 < sz:=by
  rcases Nat.eq_zero_or_pos sz with h0 | h0
  ·subst h0
   omega
  ·exact h0
 have hq:j / sz < es.length:=Nat.div_lt_of_lt_mul (by rw [Nat.mul_comm]; omega)
 obtain ⟨h1,h2⟩:=REs.get es 0 (j / sz) _ h (List.getElem?_eq_getElem hq)
 have hr:j % sz < (es[j / sz]).length:=by rw [h1]; exact Nat.mod_lt _ hsz
 obtain ⟨u,hu,hr'⟩:=RCs.get _ _ (j % sz) _ h2 (List.getElem?_eq_getElem hr)
 have e:0+j / sz * sz+j % sz=j:=by
  have:=Nat.div_add_mod j sz
  rw [Nat.mul_comm] at this
  omega
 simp only [e,List.getElem?_eq_getElem hj,Option.some.injEq] at hu
 rw [hu]
 exact xB _ _ hr'
theorem cN5 {P:Program} {S:Nat→Prop} {w:World} {t2 E:TypeId} {sz:Nat} {x:Value} {es:List (List Dat)} (ht:P.underlying t2=some (.slice E)) (h:cK0 S w x sz es):∃ news,Src P w t2 sz x es.length news∧REs S w sz es (fun j=>news[j]?) 0:=by
 rcases h with ⟨⟨q,rfl⟩,rfl⟩ | ⟨b,o,c,arr,E',fz,rfl,h2,hb,hc⟩
 ·exact ⟨[],⟨.inl ⟨E,ht⟩,rfl,fun w' _=>by cases q <;> simp [Builtin.firstCells,loadCells,loadCellsFrom],by simp,by simp⟩,by simp [REs]⟩
 ·by_cases h0:es.length * sz=0
  ·refine ⟨[],⟨.inl ⟨E,ht⟩,rfl,fun w' _=>?_,by simp [h0],by simp⟩,REs.congr es o 0 (fun j hj=>by omega) hc⟩
   simp [Builtin.firstCells,h0,loadCells,loadCellsFrom]
  ·have hle:o+es.length * sz≤arr.size:=by
    obtain ⟨u,hu⟩:=REs.defined es o hc (es.length * sz - 1) (by omega)
    have:=(Array.getElem?_eq_some_iff.1 hu).1
    omega
   have hr:REs S w sz es (fun j=>(arr.extract o (o+es.length * sz)).toList[j]?) 0:=by
    refine REs.congr es o 0 (fun j hj=>?_) hc
    simp only [Nat.zero_add,Array.getElem?_toList,Array.getElem?_extract]
    rw [if_pos (by omega)]
   have hl:(arr.extract o (o+es.length * sz)).toList.length=es.length * sz:=by simp; omega
   refine ⟨(arr.extract o (o+es.length * sz)).toList,⟨.inl ⟨E,ht⟩,rfl,fun w' hw'=>?_,hl,REs.one hr hl⟩,hr⟩
   simp only [Builtin.firstCells]
   have:=lN P w' b o arr E' fz (by rw [hw']; exact hb) (es.length * sz) hle
   simpa only [Array.toArray_toList] using this
def byteCells (l:List UInt8):List (List Dat):=l.map fun c=>[.v (.int .u8 c.toNat)]
theorem cS3 {P:Program} {S:Nat→Prop} {w:World} {t2:TypeId} {l:List UInt8} (ht:P.underlying t2=some .string):∃ news,Src P w t2 1 (strOf l) (byteCells l).length news∧REs S w 1 (byteCells l) (fun j=>news[j]?) 0:=by
 refine ⟨l.map fun b=>.int .u8 b.toNat,⟨.inr ht,?_,fun w' _=>?_,by simp [byteCells],?_⟩,REs.dJ _ _ fun j e hj=>?_⟩
 ·simp [Builtin.lenOf,strOf,byteCells,ByteArray.size]
 ·have hsz:(⟨l.toArray⟩:ByteArray).extract 0 (byteCells l).length=⟨l.toArray⟩:=by
   rw [Lib.extract_eq]
   simp [byteCells]
  simp only [Builtin.firstCells,strOf,hsz,Sem.run_pure]
  simp
 ·intro v hv
  obtain ⟨b,_,rfl⟩:=List.mem_map.1 hv
  rfl
 ·simp only [byteCells,List.getElem?_map,Option.map_eq_some_iff] at hj
  obtain ⟨b,hb,rfl⟩:=hj
  refine ⟨rfl,?_⟩
  simp only [RCs,RD,Nat.zero_add,Nat.mul_one,List.getElem?_map,hb]
  exact ⟨⟨_,rfl,rfl,rfl⟩,trivial⟩
end Go.Vm
namespace Go.Vm
section
variable {P:Program} {e:Env} {G:dW} {S:Nat→Prop} {β:Path→Value} {fr:Fr} {vals:Nat→Option Value} {w:World}
theorem bA.rename {β':Path→Value} {p q:Path} {a:AV} {u:Value} (h:bA S w β p a u) (hs:β' q=β p) (hslf:a.aI6=true∨(p.2=0∨q.2≠0)∧β' (q.1,0)=β (p.1,0)) (hr:∀ q∈a.nW,β' q=β q):bA S w β' q a u:=by
 cases a <;> simp only [bA] at h ⊢
 case d=>exact h
 case agg=>exact h
 case own=>exact ⟨h.1.trans hs.symm,h.2⟩
 case arr=>exact ⟨h.1.trans hs.symm,h.2⟩
 case mp=>exact ⟨h.1.trans hs.symm,h.2⟩
 case fz=>exact ⟨h.1.trans hs.symm,h.2⟩
 case vw=>exact h.turn hr
 case bp=>exact h.turn hr
 case ep=>exact h.turn hr
 case sv=>exact h.turn hr
 case glo k cs=>exact ⟨h.1.trans hs.symm,h.2⟩
 case slf off E =>
  rcases hslf with h' | ⟨h1,h2⟩
  ·cases h'
  ·rw [h2]
   exact ⟨h1.resolve_left h.1,h.2⟩
 case clo f caps =>
  obtain ⟨l,h1,h2⟩:=h
  refine ⟨l,h1,h2.mono fun j a c haj _ hrr=>hrr.turn (fun _ h=>h) (fun _ _=>rfl) fun y hy=>hr y ?_⟩
  simp only [AV.nW,List.mem_flatMap]
  exact ⟨a,List.mem_of_getElem? haj,hy⟩
 case agw cs =>
  obtain ⟨l,h1,h0,h2⟩:=h
  refine ⟨l,h1,h0,h2.mono fun j a c haj _ hrr=>hrr.turn (fun _ h=>h) (fun _ _=>rfl) fun y hy=>hr y ?_⟩
  simp only [AV.nW,List.mem_flatMap]
  exact ⟨a,List.mem_of_getElem? haj,hy⟩
theorem dV.rename {g:List (Nat×Bool)→Bool} {β':Path→Value} {s t:Nat} {a:AV} {u:Value} (h:dV g S w β s a u) (hs:∀ j,β' (t,j)=β (s,j)) (hr:∀ q∈a.paths,β' q=β q):dV g S w β' t a u:=by
 have parts:∀ (cs:List AV) (l:List Value),(∀ q∈cs.flatMap AV.jF,β' q=β q)→kN S w β s cs l→kN S w β' t cs l:=by
  intro cs l h1 h2
  refine bI.mono h2 fun j a c haj _ hrr=>?_
  simp only [Nat.zero_add] at hrr ⊢
  refine hrr.rename (hs _) (.inr ⟨.inr (by simp),hs 0⟩) fun y hy=>h1 y ?_
  exact List.mem_flatMap.2 ⟨a,List.mem_of_getElem? haj,AV.tK a y hy⟩
 cases a
 case gd l a0=>exact ⟨fun e=>(h.1 e).rename (hs 0) (.inr ⟨.inl rfl,hs 0⟩) fun y hy=>hr y (by simpa [AV.paths,AV.jF] using hy),h.2⟩
 case tup vs =>
  obtain ⟨l,h1,h0,h2⟩:=h
  exact ⟨l,h1,h0,parts _ _ (fun y hy=>hr y (by simpa [AV.paths] using hy)) h2⟩
 case box cs =>
  obtain ⟨h0,b,l,E,h1,h2,h3⟩:=h
  exact ⟨h0.trans (hs 0).symm,b,l,E,h1,h2,parts _ _ (fun y hy=>hr y (by simpa [AV.paths] using hy)) h3⟩
 case dow κ sz ms es k ex=>exact aA0.rename h hs fun z hz=>hr _ (by simpa [AV.paths,AV.jF,AV.nW,AV.mA] using ⟨z.1,z.2.1,hz⟩)
 all_goals (
  simp only [dV] at h ⊢
  exact h.rename (hs 0) (.inr ⟨.inl rfl,hs 0⟩) fun y hy=>hr y (AV.tK _ y hy))
theorem AV.aX0 {π:Path→Bool} {a:AV} (h:a.zN=true):(a.dS π).zN=true:=by
 cases hp:a.dS π <;> simp only [AV.zN]
 have:=AV.aY3 hp
 rw [this] at h
 cases h
theorem Mem.move (hm:Mem e G S β fr vals w) {s t:Nat} (hst:s≠t) (hng:(aX fr s).zN=true) (u:Value) (hu:vals s=some u) (vals':Nat→Option Value) (hv:∀ y,y≠t→vals' y=vals y) (hvt:∀ u',vals' t=some u'→u'=u) :
  Mem e G S (fun p=>if p.1=t then β (s,p.2) else β p) (gM t ((aX fr s).dS (fG t)) ((s,.junk) :: fr)) vals' w:=by
 have hd:=hm.drop s
 have hf:∀ y,y≠s→aX ((s,AV.junk) :: fr) y=aX fr y:=fun y hy=>bL _ _ (Ne.symm hy)
 have hfs:aX ((s,AV.junk) :: fr) s=.junk:=aV s _ _
 refine hd.uC t _ u (fun j=>β (s,j)) w vals' hv hvt ?_ ?_ ?_ ?_ (fun _ _=>.inl rfl) (Nat.le_refl _) rfl rfl rfl
 ·obtain ⟨u0,hr,hu0⟩:=hm.rel s
  have:u=u0:=hu0 u hu
  subst this
  refine (hr.dS (fG t)).rename (fun j=>by simp) fun q hq=>?_
  exact if_neg (aN2 (AV.wU hq).1)
 ·intro l a h
  have:=AV.aX0 (π:=fG t) hng
  rw [h] at this
  cases this
 ·intro i b ho hb
  have ho':=AV.fU (fG t) _ i ho
  have hfr:=hm.fre s i b ho' hb
  refine ⟨hfr.1,hfr.2,fun y j _ hoy hby=>?_⟩
  by_cases hys:y=s
  ·subst hys
   rw [hfs] at hoy
   cases j <;> simp [AV.aR,AV.bV] at hoy
  ·rw [hf y hys] at hoy
   exact hys (hm.dis y j s i b hoy ho' hby hb).1
 ·intro i j b h1 h2 h3 h4
  exact (hm.dis s i s j b (AV.fU (fG t) _ i h1) (AV.fU (fG t) _ j h2) h3 h4).2
def AV.without (j:Nat):AV→AV
 | .tup vs=>.tup (vs.set j .junk)
 | .box vs=>.box (vs.set j .junk)
 | a=>a
theorem aC0 {cs:List AV} {j i:Nat} (h:((AV.tup cs).without j).aR i=true):i≠j+1∧(AV.tup cs).aR i=true:=by
 cases i with
 | zero=>simp [AV.without,AV.aR,AV.bV] at h
 | succ i =>
  simp only [AV.without,AV.aR,List.getElem?_set] at h
  by_cases hij:j=i
  ·subst hij
   rw [if_pos rfl] at h
   split at h <;> simp [AV.bV] at h
  ·rw [if_neg hij] at h
   exact ⟨by omega,h⟩
theorem Mem.extract (hm:Mem e G S β fr vals w) {s t j:Nat} (hst:s≠t) {vs:List AV} (hs:aX fr s=.tup vs) {κ:TypeId} {sz:Nat} {es:List (List Dat)} (hj:vs[j]? = some (.own κ sz es)) (l:List Value) (hu:vals s=some (.tuple ⟨l⟩)) (u:Value) (hl:l[j]? = some u)
  (vals':Nat→Option Value) (hv:∀ y,y≠t→vals' y=vals y) (hvt:∀ u',vals' t=some u'→u'=u) :
  Mem e G S (fun p=>if p.1=t then β (s,j+1) else β p) (gM t (.own κ sz es) ((s,.tup (vs.set j .junk)) :: fr)) vals' w:=by
 have hd:Mem e G S β ((s,.tup (vs.set j .junk)) :: fr) vals w:=by
  refine hm.weaken s _ (fun u hr=>?_) (fun i h=>?_) (fun l a h=>by cases h)
  ·rw [hs] at hr
   obtain ⟨l,h1,h0,h2⟩:=hr
   refine ⟨l,h1,?_,bI.dJ (by simpa using bI.len h2) fun i a c ha hc=>?_⟩
   ·rw [List.all_eq_true] at h0 ⊢
    intro a ha
    rcases List.mem_or_eq_of_mem_set ha with h | h
    ·exact h0 a h
    ·rw [h]; rfl
   rw [List.getElem?_set] at ha
   by_cases hij:j=i
   ·rw [if_pos hij] at ha
    split at ha
    ·simp only [Option.some.injEq] at ha
     subst ha
     exact trivial
    ·cases ha
   ·rw [if_neg hij] at ha
    obtain ⟨c',hc',hr⟩:=bI.get h2 i a ha
    rw [hc] at hc'
    cases hc'
    exact hr
  ·rw [hs]
   exact (aC0 (j:=j) h).2
 have how:(aX fr s).aR (j+1)=true:=by rw [hs]; simp [AV.aR,hj,AV.bV]
 refine hd.uC t _ u (fun _=>β (s,j+1)) w vals' hv hvt ?_ (fun l a h=>by cases h) ?_ ?_ (fun _ _=>.inl rfl) (Nat.le_refl _) rfl rfl rfl
 ·obtain ⟨u0,hr,hu0⟩:=hm.rel s
  rw [hs] at hr
  obtain ⟨l',h1,_,h2⟩:=hr
  have:=hu0 _ hu
  rw [h1] at this
  simp only [Value.tuple.injEq,Array.mk.injEq] at this
  subst this
  obtain ⟨c,hc,hrc⟩:=bI.get h2 j _ hj
  rw [hl] at hc
  cases hc
  simp only [Nat.zero_add] at hrc
  exact (dD rfl).2 ⟨by simpa using hrc.1,hrc.2⟩
 ·intro i b ho hb
  have hfr:=hm.fre s (j+1) b how hb
  refine ⟨hfr.1,hfr.2,fun y k _ hoy hby=>?_⟩
  by_cases hys:y=s
  ·subst hys
   rw [aV] at hoy
   obtain ⟨h1,h2⟩:=aC0 (j:=j) hoy
   exact h1 (hm.dis y k y (j+1) b (by rw [hs]; exact h2) how hby hb).2
  ·rw [bL _ _ (Ne.symm hys)] at hoy
   exact hys (hm.dis y k s (j+1) b hoy how hby hb).1
 ·intro i j b h1 h2 _ _
  cases i <;> cases j <;> simp [AV.aR] at h1 h2 ⊢
end
end Go.Vm
namespace Go.Vm
def bB3:AV→Option (List AV)
 | .d x=>some [.d x]
 | .agg cs=>some (cs.map .d)
 | .clo f caps=>some [.clo f caps]
 | .agw cs=>some cs
 | .bp x off=>some [.bp x off]
 | _=>none
section
variable {P:Program} {e:Env} {G:dW} {S:Nat→Prop} {β:Path→Value} {fr:Fr} {vals:Nat→Option Value} {w:World}
theorem bQ5 {x:Nat} {ds:List Dat} {l:List Value} (h:RCs S w ds (fun j=>l[j]?) 0) (hl:l.length=ds.length):kN S w β x (ds.map .d) l:=by
 refine bI.dJ (by simp [hl]) fun j a c ha hc=>?_
 simp only [List.getElem?_map,Option.map_eq_some_iff] at ha
 obtain ⟨d,hd,rfl⟩:=ha
 obtain ⟨u,hu,hr⟩:=RCs.get ds 0 j d h hd
 simp only [Nat.zero_add] at hu
 rw [hc] at hu
 cases hu
 exact hr
theorem bF1 {a:AV} {cs:List AV} (h:bB3 a=some cs) {u:Value} (hr:bA S w β (0,0) a u) (x:Nat) :
  u.cells.toList.length=cs.length∧kN S w β x cs u.cells.toList∧(∀ c∈cs,c.plain=true)∧∀ v∈u.cells.toList,v.oneCell'=true:=by
 cases a <;> simp only [bB3,Option.some.injEq,reduceCtorEq] at h
 case d y =>
  subst h
  have h1:=xB y u hr
  have hu:u.cells=#[u]:=by cases u <;> simp_all [Value.cells,Value.oneCell']
  rw [hu]
  exact ⟨rfl,⟨hr,trivial⟩,by simp [AV.plain],by simpa using h1⟩
 case agg ds =>
  subst h
  obtain ⟨l,rfl,hl,hc⟩:=hr
  refine ⟨by simpa [Value.cells] using hl,bQ5 hc hl,?_,RCs.one hc hl⟩
  intro c hc
  obtain ⟨d,_,rfl⟩:=List.mem_map.1 hc
  rfl
 case clo f caps =>
  subst h
  have hr':=hr
  obtain ⟨l,rfl,hl⟩:=hr
  exact ⟨rfl,⟨hr',trivial⟩,by simp [AV.plain],by simp [Value.cells,Value.oneCell']⟩
 case bp y off =>
  subst h
  have hr':=hr
  obtain ⟨b,h1,rfl⟩:=hr
  exact ⟨rfl,⟨hr',trivial⟩,by simp [AV.plain],by simp [Value.cells,Value.oneCell']⟩
 case agw ds =>
  subst h
  obtain ⟨l,rfl,h1,h2⟩:=hr
  have hcap:∀ (j:Nat) (a:AV),ds[j]? = some a→a.plain=true:=by
   intro j a ha
   obtain ⟨c,_,hr⟩:=bI.get h2 j a ha
   cases a <;> simp_all [rC,AV.plain]
  refine ⟨(bI.len h2).symm,h2.mono fun j a c ha _ hr=>?_,?_,h1⟩
  ·cases a <;> simp_all [rC,bA]
  ·intro c hc
   obtain ⟨j,hj⟩:=List.getElem?_of_mem hc
   exact hcap j c hj
theorem vI {π:Path→Bool} {a:AV} (h:a.plain=true):(a.dZ π).plain=true:=by
 unfold AV.dZ
 split
 ·rfl
 ·exact h
theorem fJ {a:AV} (h:a.plain=true):a.bV=false:=by cases a <;> simp_all [AV.plain,AV.bV]
theorem bX5 {S':Nat→Prop} {w':World} {β':Path→Value} {x y:Nat} {cs:List AV} {l:List Value} (h:kN S w β x cs l) (hp:∀ c∈cs,c.plain=true) (hs:∀ b,S b→S' b) (ha:Agree S w w') (hb:∀ z,z≠y→∀ j,β' (z,j)=β (z,j)) :
  kN S' w' β' y (cs.map (AV.dZ (fG y))) l:=by
 refine bI.dJ (by simpa using bI.len h) fun j a c hj hc=>?_
 simp only [List.getElem?_map,Option.map_eq_some_iff] at hj
 obtain ⟨a0,ha0,rfl⟩:=hj
 obtain ⟨c',hc',hr⟩:=bI.get h j a0 ha0
 rw [hc] at hc'
 cases hc'
 have hpl:=hp a0 (List.mem_of_getElem? ha0)
 have h1:bA S w β (y,0+j+1) (a0.dZ (fG y)) c:=(nN hpl hr).dS (fG y)
 have hown:=fJ (vI (π:=fG y) hpl)
 have h2:=nN (q:=(y+1,0)) (vI (π:=fG y) hpl) h1
 refine nN (vI (π:=fG y) hpl) (h2.turn hs ha (hb _ (by omega) _) (fun h0=>absurd rfl h0) (fun ho=>by rw [hown] at ho; cases ho) fun q hq=>?_)
 obtain ⟨z,k⟩:=q
 exact hb z (aN2 (AV.lH (AV.tK _ _ hq)).1) k
theorem Mem.cZ6 (hm:Mem e G S β fr vals w) (t:Nat) (cs:List AV) (l:List Value) (E:TypeId) (hp:kN S w β t cs l) (hpl:∀ c∈cs,c.plain=true) (vals':Nat→Option Value) (hv:∀ y,y≠t→vals' y=vals y) (hvt:∀ u',vals' t=some u'→u'=.pointer (some ⟨w.heap.size,0,none⟩)) :
  ∃ β',Mem e G S β' (gM t (.box (cs.map (AV.dZ (fG t)))) fr) vals' (w.alloc (.cells ⟨l⟩ E)):=by
 have hown:∀ i,(AV.box (cs.map (AV.dZ (fG t)))).aR i=true→i=0:=by
  intro i h
  cases i with
  | zero=>rfl
  | succ i =>
   simp only [AV.aR,List.getElem?_map,Option.map_map] at h
   cases hc:cs[i]? with
   | none=>simp [hc] at h
   | some c =>
    have:=fJ (vI (π:=fG t) (hpl c (List.mem_of_getElem? hc)))
    simp [hc,this] at h
 refine ⟨_,hm.uC t _ _ (fun _=>.pointer (some ⟨w.heap.size,0,none⟩)) _ vals' hv hvt ?_ (fun l a h=>by cases h) ?_ ?_ (fun b hb=>.inl (heap_alloc_old w _ hb)) (by simp) rfl rfl rfl⟩
 ·refine ⟨by simp,w.heap.size,l,E,rfl,heap_alloc_new w _,?_⟩
  exact bX5 hp hpl (fun _ h=>h) (fun b hS=>heap_alloc_old w _ (hm.stb b hS).1) (fun z hz j=>by simp [hz])
 ·intro i b _ hb
  simp only [blk,Option.some.injEq] at hb
  subst hb
  exact hm.oW t _ (Nat.le_refl _)
 ·intro i j b h1 h2 _ _
  rw [hown i h1,hown j h2]
def bN5 (v:Value) (h:Option (Nat×Nat)):AV :=
 match v,h with
 | .slice none 0 0,some (κ,sz)=>.own κ sz []
 | v,_=>.d (bN8 v)
theorem Mem.cS7 (hm:Mem e G S β fr vals w) (t:Nat) (l:List (Value×Option (Nat×Nat))) (h1:∀ v∈l.map Prod.fst,v.oneCell'=true) (E:TypeId) (vals':Nat→Option Value) (hv:∀ y,y≠t→vals' y=vals y) (hvt:∀ u',vals' t=some u'→u'=.pointer (some ⟨w.heap.size,0,none⟩)) :
  ∃ β',Mem e G S β' (gM t (.box (l.map fun q=>bN5 q.1 q.2)) fr) vals' (w.alloc (.cells (l.map Prod.fst).toArray E)):=by
 have hown:∀ i b,(AV.box (l.map fun q=>bN5 q.1 q.2)).aR i=true→blk ((fun j=>if j=0 then Value.pointer (some ⟨w.heap.size,0,none⟩) else .slice none 0 0) i)=some b→i=0:=by
  intro i b _ hb
  cases i with
  | zero=>rfl
  | succ i=>simp [blk] at hb
 refine ⟨_,hm.uC t _ _ (fun j=>if j=0 then .pointer (some ⟨w.heap.size,0,none⟩) else .slice none 0 0) _ vals' hv hvt ?_ (fun l a h=>by cases h) ?_ ?_ (fun b hb=>.inl (heap_alloc_old w _ hb)) (by simp) rfl rfl rfl⟩
 ·refine ⟨by simp,w.heap.size,l.map Prod.fst,E,rfl,heap_alloc_new w _,?_⟩
  refine bI.dJ (by simp) fun j a c ha hc=>?_
  simp only [List.getElem?_map,Option.map_eq_some_iff] at ha hc
  obtain ⟨q,hq,rfl⟩:=ha
  obtain ⟨q',hq',rfl⟩:=hc
  rw [hq] at hq'
  cases hq'
  unfold bN5
  split
  ·rename_i sz hv1 _
   rw [hv1]
   exact ⟨by simp,.inl ⟨rfl,rfl⟩⟩
  ·exact aW8 (h1 q.1 (List.mem_map.2 ⟨q,List.mem_of_getElem? hq,rfl⟩))
 ·intro i b ho hb
  have:=hown i b ho hb
  subst this
  simp only [if_true,blk,Option.some.injEq] at hb
  subst hb
  exact hm.oW t _ (Nat.le_refl _)
 ·intro i j b h2 h3 h4 h5
  rw [hown i b h2 h4,hown j b h3 h5]
theorem Mem.cM6 (hm:Mem e G S β fr vals w) (t:Nat) (κ:TypeId) (sz:Nat) (vals':Nat→Option Value) (hv:∀ y,y≠t→vals' y=vals y) (hvt:∀ u',vals' t=some u'→u'=.slice none 0 0):∃ β',Mem e G S β' (gM t (.own κ sz []) fr) vals' w:=by
 refine ⟨_,hm.uC t _ _ (fun _=>.slice none 0 0) _ vals' hv hvt ((dD rfl).2 ⟨by simp,.inl ⟨rfl,rfl⟩⟩) (fun l a h=>by cases h) ?_ ?_ (fun b _=>.inl rfl) (Nat.le_refl _) rfl rfl rfl⟩
 ·intro i b _ hb
  simp [blk] at hb
 ·intro i j b _ _ hb
  simp [blk] at hb
theorem Mem.cI4 (hm:Mem e G S β fr vals w) {s t:Nat} (hst:s≠t) {κ:TypeId} {sz:Nat} {es:List (List Dat)} (hs:aX fr s=.own κ sz es) (u:Value) (hu:vals s=some u) (E:TypeId) (vals':Nat→Option Value) (hv:∀ y,y≠t→vals' y=vals y) (hvt:∀ u',vals' t=some u'→u'=.pointer (some ⟨w.heap.size,0,none⟩)) :
  ∃ β',Mem e G S β' (gM t (.box [.own κ sz es]) ((s,.junk) :: fr)) vals' (w.alloc (.cells #[u] E)):=by
 have hd:=hm.drop s
 obtain ⟨u0,hr,hu0⟩:=hm.rel s
 have huu:u=u0:=hu0 u hu
 subst huu
 rw [hs] at hr
 have hlt:∀ b,blk u=some b→b < w.heap.size:=fun b hb=>hr.2.lt hb
 refine ⟨_,hd.uC t _ _ (fun j=>if j=1 then β (s,0) else .pointer (some ⟨w.heap.size,0,none⟩)) _ vals' hv hvt ?_ (fun l a h=>by cases h) ?_ ?_ (fun b hb=>.inl (heap_alloc_old w _ hb)) (by simp) rfl rfl rfl⟩
 ·refine ⟨by simp,w.heap.size,[u],E,rfl,heap_alloc_new w _,?_,trivial⟩
  refine ⟨by simpa using hr.1,hr.2.turn (fun _ h=>h) (fun b hS=>heap_alloc_old w _ (hm.stb b hS).1) fun b hb=>heap_alloc_old w _ (hlt b hb)⟩
 ·intro i b ho hb
  have hi:i=0∨i=1:=by
   match i,ho with
   | 0,_=>exact .inl rfl
   | 1,_=>exact .inr rfl
   | i+2,ho=>simp [AV.aR] at ho
  rcases hi with rfl | rfl
  ·simp only [blk] at hb
   rw [if_neg (by decide)] at hb
   simp only [Option.some.injEq] at hb
   subst hb
   exact hd.oW t _ (Nat.le_refl _)
  ·rw [if_pos rfl] at hb
   have hfr:=hm.fre s 0 b (by rw [hs]; rfl) hb
   refine ⟨hfr.1,hfr.2,fun y j _ hoy hby=>?_⟩
   by_cases hys:y=s
   ·subst hys
    rw [aV] at hoy
    cases j <;> simp [AV.aR,AV.bV] at hoy
   ·rw [bL _ _ (Ne.symm hys)] at hoy
    exact hys (hm.dis y j s 0 b hoy (by rw [hs]; rfl) hby hb).1
 ·intro i j b h1 h2 h3 h4
  have hi:∀ i,(AV.box [.own κ sz es]).aR i=true→i=0∨i=1:=by
   intro i ho
   match i,ho with
   | 0,_=>exact .inl rfl
   | 1,_=>exact .inr rfl
   | i+2,ho=>simp [AV.aR] at ho
  have hne:blk (β (s,0))≠some w.heap.size:=by
   intro h
   rw [← hr.1] at h
   have:=hlt _ h
   omega
  rcases hi i h1 with rfl | rfl <;> rcases hi j h2 with rfl | rfl
  ·rfl
  ·rw [if_neg (by decide)] at h3
   rw [if_pos rfl] at h4
   simp only [blk,Option.some.injEq] at h3
   subst h3
   exact absurd h4 hne
  ·rw [if_pos rfl] at h3
   rw [if_neg (by decide)] at h4
   simp only [blk,Option.some.injEq] at h4
   subst h4
   exact absurd h3 hne
  ·rfl
theorem Mem.cN9 (hm:Mem e G S β fr vals w) (t:Nat) (sz:Nat) (es:List (List Dat)) (l:List Value) (n c:Nat) (E:TypeId) (fz:Nat×Nat) (hn:n=es.length) (hnc:n≤c) (hl:l.length=c * sz) (hfz:aR2 fz l.length) (hr:REs S w sz es (fun j=>l[j]?) 0) (κ:TypeId) (hk:KOk κ E fz es)
  (vals':Nat→Option Value) (hv:∀ y,y≠t→vals' y=vals y) (hvt:∀ u',vals' t=some u'→u'=.slice (some ⟨w.heap.size,0,none⟩) n c) :
  ∃ β',Mem e G S β' (gM t (.own κ sz es) fr) vals' (w.alloc (.cells ⟨l⟩ E fz)):=by
 subst hn
 refine ⟨_,hm.uC t _ _ (fun _=>.slice (some ⟨w.heap.size,0,none⟩) es.length c) _ vals' hv hvt ?_ (fun l a h=>by cases h) ?_ ?_ (fun b hb=>.inl (heap_alloc_old w _ hb)) (by simp) rfl rfl rfl⟩
 ·refine (dD rfl).2 ⟨by simp,.inr ⟨w.heap.size,0,c,⟨l⟩,E,fz,rfl,hnc,by simp [hl],by simpa using hfz,heap_alloc_new w _,hk,?_⟩⟩
  refine REs.mono (fun _ h=>h) (fun b hS=>heap_alloc_old w _ (hm.stb b hS).1) _ _ _ _ (REs.congr es 0 0 (fun j _=>by simp) hr)
 ·intro i b _ hb
  simp only [blk,Option.some.injEq] at hb
  subst hb
  exact hm.oW t _ (Nat.le_refl _)
 ·intro i j b h1 h2 _ _
  cases i <;> cases j <;> simp [AV.aR] at h1 h2 ⊢
theorem xG {sz:Nat} {zs:List Dat} {z:List Value} (hz:RCs S w zs (fun j=>z[j]?) 0) (hzl:zs.length=sz) (hzl':z.length=sz) (n:Nat) (f:Nat→Value) (hf:∀ j,j < n * sz→some (f j)=z[j % sz]?) (m:Nat) (hm:n≤m) :
  REs S w sz (List.replicate n zs) (fun j=>((List.range (m * sz)).map f)[j]?) 0:=by
 refine REs.dJ _ _ fun j x hj=>?_
 rw [List.getElem?_replicate] at hj
 split at hj
 case isFalse=>cases hj
 rename_i hjn
 simp only [Option.some.injEq] at hj
 subst hj
 refine ⟨hzl,RCs.congr _ 0 _ (fun k hk=>?_) hz⟩
 rw [hzl] at hk
 have hlt:j * sz+k < n * sz:=by
  have:(j+1) * sz≤n * sz:=Nat.mul_le_mul_right _ hjn
  rw [Nat.add_mul,Nat.one_mul] at this
  omega
 have hlt2:j * sz+k < m * sz:=Nat.lt_of_lt_of_le hlt (Nat.mul_le_mul_right _ hm)
 simp only [Nat.zero_add]
 rw [List.getElem?_map,List.getElem?_range hlt2]
 simp only [Option.map_some]
 rw [hf _ hlt]
 congr 1
 rw [Nat.mul_comm,Nat.mul_add_mod,Nat.mod_eq_of_lt hk]
end
end Go.Vm
namespace Go.Vm
section
variable {P:Program} {e:Env} {G:dW} {S:Nat→Prop} {β:Path→Value} {fr:Fr} {w:World} {a:Act}
theorem fI (a:Act) (t:Nat) (u:Value) (ht:t < a.tmps.size):∀ y,y≠t→bQ e (a.put (some t) u) y=bQ e a y:=fun y hy=>by simp only [bQ]; rw [pK a t u ht,if_neg hy]
theorem fT (a:Act) (t:Nat) (u:Value) (ht:t < a.tmps.size):∀ u',bQ e (a.put (some t) u) t=some u'→u'=u:=fun u' h=>by simp only [bQ] at h; rw [pK a t u ht,if_pos rfl] at h; exact (Option.some.inj h).symm
theorem bM6 (a:Act) (t:Nat) (u:Value) (ht:t < a.tmps.size):bQ e (a.put (some t) u) t=some u:=by simp only [bQ]; rw [pK a t u ht,if_pos rfl]
theorem mE (a:Act) (d:Option Nat) (u:Value):(a.put d u).tmps.size=a.tmps.size:=by cases d <;> simp [Act.put]
theorem put_defers (a:Act) (d:Option Nat) (u:Value):(a.put d u).defers=a.defers:=by cases d <;> rfl
def After (e:Env) (G:dW) (fr':Fr) (a:Act) (t:Nat) (u:Value) (w':World):Prop:=∃ S β,Mem e G S β fr' (bQ e (a.put (some t) u)) w'
theorem Mem.bR5 {G:dW} {vals:Nat→Option Value} (hm:Mem e G S β fr vals w) {x q:Nat} {cs:List AV} {a b:AV} (hf:aX fr x=.box cs) (hc:cs[q]? = some a) (hw:∀ u,bA S w β (x,q+1) a u→bA S w β (x,q+1) b u) (hb:b.bV=false):Mem e G S β ((x,.box (cs.set q b)) :: fr) vals w:=by
 refine hm.weaken x _ (fun u hr=>?_) (fun j hj=>?_) (fun _ _ h=>by cases h)
 ·rw [hf] at hr
  obtain ⟨h0,k,l,E,h1,h2,h3⟩:=hr
  refine ⟨h0,k,l,E,h1,h2,bI.dJ (by simpa using bI.len h3) fun j p c hp hcj=>?_⟩
  rw [List.getElem?_set] at hp
  by_cases hj:q=j
  ·subst hj
   rw [if_pos rfl] at hp
   split at hp
   case isFalse=>cases hp
   simp only [Option.some.injEq] at hp
   subst hp
   obtain ⟨c',hc',hrc⟩:=bI.get h3 q a hc
   rw [hcj] at hc'
   cases hc'
   simp only [Nat.zero_add] at hrc ⊢
   exact hw _ hrc
  ·rw [if_neg hj] at hp
   obtain ⟨c',hc',hrc⟩:=bI.get h3 j p hp
   rw [hcj] at hc'
   cases hc'
   exact hrc
 ·rw [hf]
  rcases iG hj with ⟨h1,h2⟩ | ⟨h1,h2⟩
  ·rw [hb] at h2; cases h2
  ·exact h2
theorem Mem.bA6 {G:dW} {vals:Nat→Option Value} {fr':Fr} (hm:Mem e G S β fr vals w) (h:∀ x,aX fr' x=aX fr x):Mem e G S β fr' vals w :=
 ⟨fun x=>by rw [h x]; exact hm.rel x,fun x l a hx=>hm.gok x l a (by rw [← h x]; exact hx),fun x i y j b h1 h2=>hm.dis x i y j b (by rw [← h x]; exact h1) (by rw [← h y]; exact h2),fun x i b h1=>hm.fre x i b (by rw [← h x]; exact h1),hm.stb,hm.s0,hm.old,hm.os,hm.tape,hm.output,hm.size⟩
def xD (T:TypeId):List (Nat×Nat)→List AV→List AV
  | [],cs=>cs
  | (q,off) :: r,cs=>match cs[q]? with
    | some (.d (.v (.pointer none)))=>xD T r (cs.set q (.slf off T))
    | _=>xD T r cs
theorem Mem.xD {G:dW} {vals:Nat→Option Value} {t:Nat} {T:TypeId} (hty:aE5 w (β (t,0))=some T):∀ (l:List (Nat×Nat)) (cs:List AV) (fr:Fr),Mem e G S β fr vals w→aX fr t=.box cs→Mem e G S β ((t,.box (Vm.xD T l cs)) :: fr) vals w
  | [],cs,fr,hm,hf=>hm.bA6 fun x=>by
      by_cases hx:x=t
      · subst hx; rw [aV,hf]; rfl
      · rw [bL _ _ (Ne.symm hx)]
  | (q,off) :: r,cs,fr,hm,hf=>by
    simp only [Vm.xD]
    split
    · rename_i hc
      have h1:=hm.bR5 (b:=.slf off T) hf hc (fun u hu=>⟨by simp,hty,.inl hu.1⟩) rfl
      exact (Mem.xD hty r _ _ h1 (aV _ _ _)).bA6 fun x=>by
        by_cases hx:x=t
        · subst hx; rw [aV,aV]
        · rw [bL _ _ (Ne.symm hx),bL _ _ (Ne.symm hx),bL _ _ (Ne.symm hx)]
    · exact Mem.xD hty r _ _ hm hf
def aW1 (P:Program) (t:Nat) (T:TypeId) (sl:List (Nat×Nat)) (fr:Fr):Option Fr:=(zeroV P T).map fun l=>gM t (.box (xD T sl (l.map fun q=>bN5 q.1 q.2))) fr
theorem bN6 (hm:Mem e G S β fr (bQ e a) w) {t:Nat} (ht:t < a.tmps.size) {T:TypeId} {sl:List (Nat×Nat)} {fr':Fr} (h:aW1 P t T sl fr=some fr') :
  ∃ u w',(Instr.alloc T true (.tuple #[])).run P w=.ok u w'∧After e G fr' a t u w':=by
 simp only [aW1,Option.map_eq_some_iff] at h
 obtain ⟨l,hl,rfl⟩:=h
 obtain ⟨i,z,hi,hzz,hsz,hlen,hone,hfst⟩:=aZ9 hl
 obtain ⟨β',hm'⟩:=hm.cS7 t l (by rw [hfst]; exact hone) T (bQ e (a.put (some t) (.pointer (some ⟨w.heap.size,0,none⟩)))) (fI a t _ ht) (fT a t _ ht)
 rw [hfst,Array.toArray_toList] at hm'
 have hty:aE5 (w.alloc (.cells z.cells T)) (β' (t,0))=some T:=by
  obtain ⟨u0,hr0,hu0⟩:=hm'.rel t
  rw [dK] at hr0
  have hp:=hu0 _ (bM6 a t _ ht)
  rw [← hr0.1,← hp]
  simp only [aE5,heap_alloc_new]
 have hm2:=(Mem.xD hty sl _ _ hm' (dK t _ _)).bA6 (fr':=gM t (.box (xD T sl (l.map fun q=>bN5 q.1 q.2))) fr) fun x=>by
  by_cases hx:x=t
  ·subst hx; rw [dK,aV]
  ·rw [bL _ _ (Ne.symm hx),gJ _ _ hx,gJ _ _ hx]
 refine ⟨_,_,?_,S,β',hm2⟩
 simp [Instr.alloc,zeroValue,typeInfo,hi,hzz,newVar,newRow]
def aF3 (P:Program) (T:TypeId) (n:Nat) (E:TypeId):Prop :=
 ((P.info? T).bind (·.zero)).map Value.cells=some (((List.replicate n ((((P.info? E).bind (·.zero)).map fun z=>z.cells.toList).getD [])).flatten).toArray)
def bU6 (P:Program) (t:Nat) (T:TypeId) (es:List (List Dat)) (fr:Fr):Option (Fr×Prop) :=
 match P.underlying T,P.info? T with
 | some (.array n E),some it=>match P.info? E,aS6 P E with
  | some i,some zs=>if it.size=n * i.size then some (gM t (.arr T i.size es) fr,aF3 P T n E∧List.replicate n zs=es) else none
  | _,_=>none
 | _,_=>none
theorem cI6 (hm:Mem e G S β fr (bQ e a) w) {t:Nat} (ht:t < a.tmps.size) {T:TypeId} {es:List (List Dat)} {fr':Fr} {obl:Prop} (h:bU6 P t T es fr=some (fr',obl)) (ho:obl) :
  ∃ u w',(Instr.alloc T true (.tuple #[])).run P w=.ok u w'∧After e G fr' a t u w':=by
 unfold bU6 at h
 split at h
 case h_2=>cases h
 rename_i n E it hu hit
 split at h
 case h_2=>cases h
 rename_i i zs hi hz
 split at h
 case isFalse=>cases h
 simp only [Option.some.injEq,Prod.mk.injEq] at h
 obtain ⟨rfl,rfl⟩:=h
 obtain ⟨hc2,ho⟩:=ho
 subst ho
 obtain ⟨i',z,hi',hzz,hsz,hlen,hone,hcs⟩:=xW hz
 rw [hi] at hi'
 cases hi'
 unfold aF3 at hc2
 rw [hit,hi] at hc2
 simp only [Option.bind_some,hzz,Option.map_some,Option.getD_some,Option.map_eq_some_iff] at hc2
 obtain ⟨zt,hzt,hzc⟩:=hc2
 have hfl:∀ k:Nat,(List.replicate k z.cells.toList).flatten.length=k * i.size:=by
  intro k
  simp [hsz]
 have hREs:∀ (k o:Nat) (g:Nat→Option Value),(∀ j,j < k * i.size→g (o+j)=(List.replicate k z.cells.toList).flatten[j]?)→REs S w i.size (List.replicate k zs) g o:=by
  intro k
  induction k with
  | zero=>intro o g _; simp [REs]
  | succ k ih =>
   intro o g hg
   simp only [List.replicate_succ,REs]
   have hzl:z.cells.toList.length=i.size:=by simpa using hsz
   refine ⟨hlen,RCs.congr zs 0 o (fun j hj=>?_) (hcs S w),ih _ g fun j hj=>?_⟩
   ·rw [hg j (by rw [hlen] at hj; rw [Nat.add_mul]; omega)]
    simp only [List.replicate_succ,List.flatten_cons]
    rw [List.getElem?_append_left (by rw [hzl,← hlen]; exact hj),Nat.zero_add]
   ·have:=hg (i.size+j) (by rw [Nat.add_mul]; omega)
    rw [Nat.add_assoc,this]
    simp only [List.replicate_succ,List.flatten_cons]
    rw [List.getElem?_append_right (by rw [hzl]; omega),hzl,Nat.add_sub_cancel_left]
 refine ⟨.pointer (some ⟨w.heap.size,0,none⟩),w.alloc (.cells zt.cells T),?_,S,_,hm.uC t _ _ (fun _=>.pointer (some ⟨w.heap.size,0,none⟩)) _ _ (fI a t _ ht) (fT a t _ ht) ((dD rfl).2 ⟨by simp,w.heap.size,zt.cells,rfl,?_,heap_alloc_new w _,?_⟩) (fun l a h=>by cases h) ?_ ?_ (fun b hb=>.inl (heap_alloc_old w _ hb)) (by simp) rfl rfl rfl⟩
 ·simp [Instr.alloc,zeroValue,typeInfo,hit,hzt,newVar,newRow]
 ·rw [hzc]
  simp [hsz]
 ·refine REs.mono (fun _ h=>h) (fun b hS=>heap_alloc_old w _ (hm.stb b hS).1) _ _ _ _ (hREs n 0 _ fun j hj=>?_)
  rw [hzc,Nat.zero_add]
  simp
 ·intro j b _ hb
  simp only [blk,Option.some.injEq] at hb
  subst hb
  exact hm.oW t _ (Nat.le_refl _)
 ·intro i j b h1 h2 _ _
  cases i <;> cases j <;> simp [AV.aR] at h1 h2 ⊢
def bI2 (P:Program) (nn:Bool) (t:Nat) (T:TypeId) (fr:Fr):Option Fr :=
 match P.underlying T with
 | some (.slice E)=>(P.info? E).map fun i=>gM t (.own (bif nn then E+2199023255552 else E) i.size []) fr
 | _=>none
theorem bG6 (hm:Mem e G S β fr (bQ e a) w) {t:Nat} (ht:t < a.tmps.size) {nn:Bool} {T:TypeId} {fr':Fr} (h:bI2 P nn t T fr=some fr'):After e G fr' a t (.slice none 0 0) w:=by
 unfold bI2 at h
 split at h
 ·simp only [Option.map_eq_some_iff] at h
  obtain ⟨i,_,rfl⟩:=h
  obtain ⟨β',hm'⟩:=hm.cM6 t _ i.size (bQ e (a.put (some t) (.slice none 0 0))) (fI a t _ ht) (fT a t _ ht)
  exact ⟨S,β',hm'⟩
 ·cases h
def bT9 (t N:Nat) (x:Operand) (v:AV) (fr:Fr):Option Fr :=
 let plainly:Option Fr:=(bB3 v).map fun cs=>gM t (.box (cs.map (AV.dZ (fG t)))) fr
 match x with
 | .tmp s=>match aX fr s with
  | .own κ sz es=>if s≠t∧s < N then some (gM t (.box [.own κ sz es]) ((s,.junk) :: fr)) else none
  | _=>plainly
 | _=>plainly
theorem cB8 (T:TypeId) (u:Value):(Instr.box T u).run P w=.ok (.pointer (some ⟨w.heap.size,0,none⟩)) (w.alloc (.cells u.cells T)):=by
 simp [Instr.box,newVar,newRow]
theorem bG4 {s:Nat} (hs:s < a.tmps.size):a.tmps[s]? = some (a.eval (.tmp s)):=by
 simp [Act.eval,Array.getD_eq_getD_getElem?,Array.getElem?_eq_getElem hs]
theorem lL {s:Nat} (hs:s < a.tmps.size):bQ e a s=some (a.eval (.tmp s)):=bF0 (bG4 hs)
theorem cF4 (hm:Mem e G S β fr (bQ e a) w) {t N:Nat} (hN:a.tmps.size=N) (ht:t < a.tmps.size) {T:TypeId} {x:Operand} {fr':Fr} (h:bT9 t N x (gG N [] fr x) fr=some fr') :
  ∃ u w',(Instr.box T (a.eval x)).run P w=.ok u w'∧After e G fr' a t u w':=by
 have hval:=pR hm hN [] rfl x
 have plainly:(bB3 (gG N [] fr x)).map (fun cs=>gM t (.box (cs.map (AV.dZ (fG t)))) fr)=some fr'→∃ u w',(Instr.box T (a.eval x)).run P w=.ok u w'∧After e G fr' a t u w':=by
  intro h
  simp only [Option.map_eq_some_iff] at h
  obtain ⟨cs,hcs,rfl⟩:=h
  obtain ⟨h1,h2,h3,h4⟩:=bF1 hcs hval t
  obtain ⟨β',hm'⟩:=hm.cZ6 t cs (a.eval x).cells.toList T h2 h3 (bQ e (a.put (some t) (.pointer (some ⟨w.heap.size,0,none⟩)))) (fI a t _ ht) (fT a t _ ht)
  exact ⟨_,_,cB8 T _,S,β',hm'⟩
 unfold bT9 at h
 simp only at h
 split at h
 ·rename_i s
  split at h
  ·rename_i sz es hf
   split at h
   ·rename_i hc
    simp only [Option.some.injEq] at h
    subst h
    have hs:s < a.tmps.size:=by rw [hN]; exact hc.2
    obtain ⟨β',hm'⟩:=hm.cI4 hc.1 hf (a.eval (.tmp s)) (lL hs) T (bQ e (a.put (some t) (.pointer (some ⟨w.heap.size,0,none⟩)))) (fI a t _ ht) (fT a t _ ht)
    refine ⟨_,_,cB8 T _,S,β',?_⟩
    have hu:(a.eval (.tmp s)).cells=#[a.eval (.tmp s)]:=by
     obtain ⟨u,hr,hu⟩:=hm.rel s
     have:=hu _ (lL hs)
     rw [this]
     rw [hf] at hr
     rcases hr.2 with ⟨h,_⟩ | ⟨b,off,c,arr,E,fz,h,_⟩ <;> (rw [h]; rfl)
    rw [hu]
    exact hm'
   ·cases h
  ·exact plainly h
 ·exact plainly h
def bL2 (P:Program) (t:Nat) (T:TypeId) (hes:Option (List (List Dat))) (l c:AV) (fr:Fr):Option (Fr×Prop) :=
 match l,c,P.underlying T with
 | .d (.v (.int _ l)),.d (.v (.int _ c)),some (.slice E) =>
  match P.info? E,aS6 P E with
  | some i,some zs=>if E < 1099511627776 then some (gM t (.own E i.size (hes.getD (List.replicate l.toNat zs))) fr,(0≤l∧l≤c∧c≤9223372036854775807∧(i.bytes:Int) * c≤281474976710656)∧List.replicate l.toNat zs=hes.getD (List.replicate l.toNat zs)) else none
  | _,_=>none
 | _,_,_=>none
theorem bY8 (hm:Mem e G S β fr (bQ e a) w) {t:Nat} (ht:t < a.tmps.size) {T:TypeId} {hes:Option (List (List Dat))} {l c:AV} {fr':Fr} {obl:Prop} (h:bL2 P t T hes l c fr=some (fr',obl)) (ho:obl) {ul uc:Value} (hl:bA S w β (0,0) l ul) (hc:bA S w β (0,0) c uc) :
  ∃ u w',(Instr.makeSlice T ul uc).run P w=.ok u w'∧After e G fr' a t u w':=by
 unfold bL2 at h
 split at h
 ·rename_i kl l kc c E hu
  split at h
  ·rename_i i zs hi hz
   split at h
   case isFalse=>cases h
   rename_i hE40
   simp only [Option.some.injEq,Prod.mk.injEq] at h
   obtain ⟨rfl,rfl⟩:=h
   obtain ⟨⟨h0,h1,h2,h3⟩,h4⟩:=ho
   obtain ⟨i',z,hi',hzz,hsz,hlen,hone,hcs⟩:=xW hz
   rw [hi] at hi'
   cases hi'
   have e1:ul=.int kl l:=hl.1
   have e2:uc=.int kc c:=hc.1
   subst e1 e2
   have hr:=run_make (P:=P) w T E i z hu hi hzz kl kc l c h0 h1 h3 h2
   have hlc:l.toNat≤c.toNat:=by omega
   have hREs:REs S w i.size (List.replicate l.toNat zs) (fun j=>(madeCells z.cells (c.toNat * i.size)).toList[j]?) 0:=by
    have:=xG (S:=S) (w:=w) (hcs S w) hlen (by simp [hsz]) l.toNat (fun j=>z.cells[j % z.cells.size]!) (fun j hj=>by
     have hpos:0 < i.size:=by
      rcases Nat.eq_zero_or_pos i.size with h | h
      ·rw [h] at hj; omega
      ·exact h
     have hlt:j % z.cells.size < z.cells.size:=Nat.mod_lt _ (by omega)
     rw [← hsz]
     simp [getElem!_pos,hlt]) c.toNat hlc
    simpa [madeCells] using this
   rw [h4] at hREs
   have hlen2:(hes.getD (List.replicate l.toNat zs)).length=l.toNat:=by rw [← h4]; simp
   obtain ⟨β',hm'⟩:=hm.cN9 t i.size (hes.getD (List.replicate l.toNat zs)) (madeCells z.cells (c.toNat * i.size)).toList l.toNat c.toNat E (0,0) hlen2.symm hlc (by simp [madeCells]) (.inl rfl) hREs E (KOk.new hE40) (bQ e (a.put (some t) (.slice (some ⟨w.heap.size,0,none⟩) l.toNat c.toNat))) (fI a t _ ht) (fT a t _ ht)
   exact ⟨_,_,hr,S,β',hm'⟩
  ·cases h
 ·cases h
def bA2 (size len:Nat):List (Nat×AV)→List (List Dat)→Option (List (List Dat))
  | [],es=>some es
  | (i,v) :: r,es=>match cellsD v with
    | some ds=>if ds.length=size∧i < len then bA2 size len r (es.set i ds) else none
    | none=>none
def cZ1 (lit:Bool) (E:TypeId):TypeId:=bif lit then E+1099511627776 else E
theorem cS5 (lit:Bool) {E:TypeId} (hE:E < 1099511627776) {es:List (List Dat)}:KOk (cZ1 lit E) E (0,0) es:=by
 cases lit
 ·exact KOk.new hE
 ·exact KOk.lit hE
def bA0 (P:Program) (lit:Bool) (t:Nat) (T:TypeId) (hes:Option (List (List Dat))) (len:Nat) (parts:List (Nat×AV)) (fr:Fr):Option (Fr×Prop) :=
 match P.underlying T with
 | some (.slice E) =>
  match P.info? E,aS6 P E with
  | some i,some zs=>if len * i.size≤16777216∧E < 1099511627776 then
    (bA2 i.size len parts (List.replicate len zs)).map fun es=>(gM t (.own (cZ1 lit E) i.size (hes.getD es)) fr,es=hes.getD es)
   else none
  | _,_=>none
 | _=>none
theorem cB5 {len size:Nat}:∀ (parts:List (Nat×AV)) (us:List (Nat×Value)) (es es':List (List Dat)) (cells:Array Value),bI (fun _ (p:Nat×AV) (q:Nat×Value)=>q.1=p.1∧bA S w β (0,0) p.2 q.2) 0 parts us →
    bA2 size len parts es=some es'→es.length=len→cells.size=len * size→REs S w size es (fun j=>cells.toList[j]?) 0 →
    ∃ cells',Instr.fill (fun i=>some (i * size,size)) cells us=some cells'∧es'.length=len∧cells'.size=len * size∧REs S w size es' (fun j=>cells'.toList[j]?) 0
  | [],us,es,es',cells,hp,h,hl,hs,hr=>by
    cases us with
    | cons _ _=>simp [bI] at hp
    | nil =>
      simp only [bA2,Option.some.injEq] at h
      subst h
      exact ⟨cells,rfl,hl,hs,hr⟩
  | (i,v) :: parts,us,es,es',cells,hp,h,hl,hs,hr=>by
    cases us with
    | nil=>simp [bI] at hp
    | cons q us =>
      obtain ⟨j,u⟩:=q
      simp only [bI] at hp
      obtain ⟨⟨rfl,hv⟩,hrest⟩:=hp
      simp only [bA2] at h
      split at h
      case h_2=>cases h
      rename_i ds hds
      split at h
      case isFalse=>cases h
      rename_i hc
      obtain ⟨h1,h2⟩:=yK hds hv (fun x v=>xB x v)
      have hdl:u.cells.size=size:=by
        have:=h1
        simp only [Array.length_toList] at this
        omega
      have hle:j * size+size≤len * size:=by
        have:(j+1) * size≤len * size:=Nat.mul_le_mul_right _ hc.2
        rwa [Nat.add_mul,Nat.one_mul] at this
      have hsp:u.cells.zipIdx.foldl (fun cs (x:Value×Nat)=>cs.setIfInBounds (j * size+x.2) x.1) cells=(spl (j * size) u.cells.toList cells.toList).toArray:=yZ (j * size) u.cells cells (by omega)
      have hr':=REs.set (i:=j) hr hc.1 h2 h1 (by omega) (by simp [hs,hl])
      obtain ⟨cells',hf,h3,h4,h5⟩:=cB5 parts us (es.set j ds) es' (spl (j * size) u.cells.toList cells.toList).toArray (by
          refine bI.dJ (bI.len hrest) fun k p q hp hq=>?_
          obtain ⟨q',hq',hpq⟩:=bI.get hrest k p hp
          rw [hq] at hq'
          cases hq'
          exact hpq) h (by simpa using hl) (by
          have:(spl (j * size) u.cells.toList cells.toList).length=cells.toList.length:=gN (by simp; omega)
          simpa [hs] using this) (by simpa using hr')
      refine ⟨cells',?_,h3,h4,h5⟩
      simp only [Instr.fill]
      rw [if_neg (by simp; omega)]
      rw [← hf]
      congr 1
theorem bG2 (hm:Mem e G S β fr (bQ e a) w) {lit:Bool} {t:Nat} (ht:t < a.tmps.size) {T:TypeId} {hes:Option (List (List Dat))} {len:Nat} {parts:List (Nat×AV)} {fr':Fr} {obl:Prop} (h:bA0 P lit t T hes len parts fr=some (fr',obl)) (ho:obl) {us:List (Nat×Value)}
  (hp:bI (fun _ (p:Nat×AV) (q:Nat×Value)=>q.1=p.1∧bA S w β (0,0) p.2 q.2) 0 parts us) :
  ∃ u w',(Instr.buildSlice T len us.toArray).run P w=.ok u w'∧After e G fr' a t u w':=by
 unfold bA0 at h
 split at h
 case h_2=>cases h
 rename_i E hu
 split at h
 case h_2=>cases h
 rename_i i zs hi hz
 split at h
 case isFalse=>cases h
 rename_i hle
 obtain ⟨hle,hE40⟩:=hle
 simp only [Option.map_eq_some_iff,Prod.mk.injEq] at h
 obtain ⟨es,hes',rfl,rfl⟩:=h
 obtain ⟨i',z,hi',hzz,hsz,hlen,hone,hcs⟩:=xW hz
 rw [hi] at hi'
 cases hi'
 have hREs:REs S w i.size (List.replicate len zs) (fun j=>(((Array.range (len * i.size)).map (fun j=>z.cells[j % z.cells.size]!)).toList)[j]?) 0:=by
  have:=xG (S:=S) (w:=w) (hcs S w) hlen (by simp [hsz]) len (fun j=>z.cells[j % z.cells.size]!) (fun j hj=>by
   have hpos:0 < i.size:=by
    rcases Nat.eq_zero_or_pos i.size with h | h
    ·rw [h] at hj; omega
    ·exact h
   have hlt:j % z.cells.size < z.cells.size:=Nat.mod_lt _ (by omega)
   rw [← hsz]
   simp [getElem!_pos,hlt]) len (Nat.le_refl _)
  simpa using this
 obtain ⟨cells',hf,h3,h4,h5⟩:=cB5 parts us _ es ((Array.range (len * i.size)).map (fun j=>z.cells[j % z.cells.size]!)) hp hes' (by simp) (by simp) hREs
 have hrun:(Instr.buildSlice T len us.toArray).run P w=.ok (.slice (some ⟨w.heap.size,0,none⟩) len len) (w.alloc (.cells cells' E)):=by
  have hn:¬ (2 ^ 24 < len * i.size):=by omega
  by_cases h0:len * i.size=0
  ·have hf0:Instr.fill (fun i_1=>some (i_1 * i.size,i.size)) (Array.map (fun x=>(#[]:Array Value)[x % (#[]:Array Value).size]!) (Array.range (len * i.size))) us=some cells':=by
    rw [h0] at hf ⊢
    simpa [Array.range_zero'] using hf
   simp only [Instr.buildSlice,Sem.run_bind,run_underlying hu,Result.andThen_ok,sizeOf,typeInfo,run_program,hi,Sem.run_pure,gt_iff_lt,h0,if_true]
   rw [h0] at hf0
   simp only [Nat.not_lt_zero,if_false,Sem.run_bind,Sem.run_pure,Result.andThen_ok,hf0,newRow,run_newObj,World.alloc]
  ·simp only [Instr.buildSlice,Sem.run_bind,run_underlying hu,Result.andThen_ok,sizeOf,typeInfo,run_program,hi,Sem.run_pure,gt_iff_lt,hn,if_false,h0,zeroValue,hzz]
   simp only [hf,newRow,Sem.run_bind,run_newObj,Result.andThen_ok,Sem.run_pure,World.alloc]
 rw [ho] at h5 h3
 obtain ⟨β',hm'⟩:=hm.cN9 t i.size (hes.getD es) cells'.toList len len E (0,0) h3.symm (Nat.le_refl _) (by simpa using h4) (.inl rfl) h5 (cZ1 lit E) (cS5 lit hE40) (bQ e (a.put (some t) (.slice (some ⟨w.heap.size,0,none⟩) len len))) (fI a t _ ht) (fT a t _ ht)
 exact ⟨_,_,hrun,S,β',hm'⟩
end
end Go.Vm
