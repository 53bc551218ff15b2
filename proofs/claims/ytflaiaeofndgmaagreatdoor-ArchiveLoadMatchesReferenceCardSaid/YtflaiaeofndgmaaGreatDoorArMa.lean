/-
  archive.Load: maps and rows in a world. (No program in sight.)
-/
import Derived.Test.YtflaiaeofndgmaaGreatDoorVmA
import Derived.Test.YtflaiaeofndgmaaGreatDoorVmC
import Derived.Below
import Derived.MapKept
import Derived.Maps.AppendAt
set_option linter.unusedSectionVars false
namespace Go.Vm.ArzM
open Go.RowKit
section
variable {α:Type} [DecidableEq α]
/-- The place of a key. -/
def pos:List α→α→Option Nat
 | [],_=>none
 | k :: r,a=>if k=a then some 0 else (pos r a).map (·+1)
theorem pos_get {a:α}:∀ {ks:List α} {i:Nat},pos ks a=some i→ks[i]? = some a
 | [],i,h=>by cases h
 | k :: r,i,h=>by
  simp only [pos] at h
  split at h
  ·rename_i hk
   cases h
   simp [hk]
  ·cases hp:pos r a with
   | none=>simp [hp] at h
   | some j =>
    simp only [hp,Option.map_some,Option.some.injEq] at h
    subst h
    simpa using pos_get hp
theorem pos_lt {a:α} {ks:List α} {i:Nat} (h:pos ks a=some i):i < ks.length:=(List.getElem?_eq_some_iff.1 (pos_get h)).1
def putK (ks:List α) (a:α):List α:=match pos ks a with
 | some _=>ks
 | none=>ks++[a]
def putI (ks:List α) (a:α):Nat:=(pos ks a).getD ks.length
def upd {β:Type} (vs:Nat→β) (i:Nat) (v:β):Nat→β:=fun j=>if j=i then v else vs j
theorem upd_same {β:Type} (vs:Nat→β) (i:Nat) (v:β):upd vs i v i=v:=if_pos rfl
theorem upd_other {β:Type} (vs:Nat→β) {i j:Nat} (v:β) (h:j≠i):upd vs i v j=vs j:=if_neg h
theorem putI_lt (ks:List α) (a:α):putI ks a < (putK ks a).length:=by
 unfold putI putK
 cases h:pos ks a with
 | none=>simp
 | some i=>simpa using pos_lt h
theorem putK_len (ks:List α) (a:α):(putK ks a).length≤ks.length+1∧ks.length≤(putK ks a).length:=by
 unfold putK
 cases h:pos ks a <;> simp
/-- The entries of a map. -/
def ents (mk:α→Value) (vs:Nat→Value):List α→Nat→List MapEntry
 | [],_=>[]
 | k :: r,i=>⟨mk k,vs i,i⟩ :: ents mk vs r (i+1)
theorem ents_get {mk:α→Value} {vs:Nat→Value}:∀ {ks:List α} {o i:Nat} {k:α},ks[i]? = some k→(ents mk vs ks o)[i]? = some ⟨mk k,vs (o+i),o+i⟩
 | [],o,i,k,h=>by simp at h
 | k' :: r,o,0,k,h=>by
  simp at h
  simp [ents,h]
 | k' :: r,o,i+1,k,h=>by
  simp at h
  have:=ents_get (mk:=mk) (vs:=vs) (o:=o+1) h
  simp only [ents,List.getElem?_cons_succ,this]
  rw [show o+1+i=o+(i+1) by omega]
theorem ents_congr {mk:α→Value} {vs vs':Nat→Value}:∀ {ks:List α} {o:Nat},(∀ j,o≤j→j < o+ks.length→vs' j=vs j)→ents mk vs' ks o=ents mk vs ks o
 | [],o,h=>rfl
 | k :: r,o,h=>by
  simp only [ents]
  rw [h o (Nat.le_refl _) (by simp),ents_congr fun j h1 h2=>h j (by omega) (by simp; omega)]
theorem ents_append (mk:α→Value) (vs:Nat→Value):∀ (ks ks':List α) (o:Nat),ents mk vs (ks++ks') o=ents mk vs ks o++ents mk vs ks' (o+ks.length)
 | [],ks',o=>by simp [ents]
 | k :: r,ks',o=>by
  simp only [List.cons_append,ents,ents_append mk vs r,List.length_cons]
  rw [show o+1+r.length=o+(r.length+1) by omega]
theorem ents_set {mk:α→Value} {vs:Nat→Value} {v:Value}:∀ {ks:List α} {o i:Nat} {k:α},ks[i]? = some k→(ents mk vs ks o).set i ⟨mk k,v,o+i⟩=ents mk (upd vs (o+i) v) ks o
 | [],o,i,k,h=>by simp at h
 | k' :: r,o,0,k,h=>by
  simp at h
  subst h
  simp only [ents,List.set_cons_zero,Nat.add_zero,upd_same]
  rw [ents_congr fun j h1 h2=>upd_other vs v (by omega)]
 | k' :: r,o,i+1,k,h=>by
  simp at h
  simp only [ents,List.set_cons_succ]
  rw [upd_other vs v (by omega),show o+(i+1)=(o+1)+i by omega,ents_set h]
/-- A map's type,and how its keys lie. -/
structure MT (P:Program) (t kt et:TypeId) (d:TypeDesc) (mk:α→Value) (z:Value):Prop where
 um:P.underlying t=some (.map kt et)
 uk:P.underlying kt=some d
 key:∀ a,MapKept.IsKey d (mk a)
 inj:∀ a b,mk a=mk b→a=b
 zero:∀ w,(zeroValue et).run P w=.ok z w
section
variable {P:Program} {t kt et:TypeId} {d:TypeDesc} {mk:α→Value} {z:Value} {w:World} {b:Nat} {ks:List α} {vs:Nat→Value}
theorem MT.same (m:MT P t kt et d mk z) (a c:α):Instr.sameNow d (mk a) (mk c)=some (decide (c=a)):=by
 obtain ⟨r,h1,h2⟩:=MapKept.sameNow_of_keys (m.key a) (m.key c)
 rw [h1]
 by_cases h:c=a
 ·subst h
  simp [h2.2 rfl]
 ·have:r≠true:=fun hr=>h (m.inj _ _ (h2.1 hr)).symm
  simp [h,this]
theorem MT.find (m:MT P t kt et d mk z) (a:α) (vs:Nat→Value):∀ (ks:List α) (o:Nat),Instr.findNow d (mk a) (ents mk vs ks o) o=some ((pos ks a).map fun i=>(o+i,vs (o+i)))
 | [],o=>rfl
 | k :: r,o=>by
  simp only [ents,Instr.findNow,m.same a k,pos]
  by_cases h:k=a
  ·simp [h]
  ·simp only [h,decide_false,if_false]
   rw [m.find a vs r (o+1)]
   cases pos r a with
   | none=>rfl
   | some i =>
    simp only [Option.map_some,Option.some.injEq,Prod.mk.injEq]
    exact ⟨by omega,by rw [show o+1+i=o+(i+1) by omega]⟩
def MapAt (mk:α→Value) (w:World) (b:Nat) (ks:List α) (vs:Nat→Value):Prop:=w.heap[b]? = some (.map (ents mk vs ks 0).toArray ks.length)
/-- The value at a key. -/
def valAt (z:Value) (ks:List α) (vs:Nat→Value) (a:α):Value:=((pos ks a).map vs).getD z
theorem MapAt.look (h:MapAt mk w b ks vs) (m:MT P t kt et d mk z) (a:α) (ok:Bool):(Instr.lookup t (.map (some b)) (mk a) ok).run P w=.ok (if ok then .tuple #[valAt z ks vs a,.bool (pos ks a).isSome] else valAt z ks vs a) w:=by
 have hf:=m.find a vs ks 0
 have hg:=MapKept.run_getObj_map (P:=P) h
 have hc:=fun e=>MapKept.run_checkKey (P:=P) (w:=w) m.uk (m.key a) e 9999
 unfold valAt
 cases hp:pos ks a with
 | none =>
  rw [hp] at hf
  cases ok <;> simp [Instr.lookup,run_underlying m.um,hc,hg,MapKept.run_findKey m.uk hf,m.zero]
 | some i =>
  rw [hp] at hf
  cases ok <;> simp [Instr.lookup,run_underlying m.um,hc,hg,MapKept.run_findKey m.uk hf]
def setO (w:World) (b:Nat) (o:Obj):World:={ w with heap:=w.heap.setIfInBounds b o }
theorem setO_get {w:World} {B:Nat} (h:B < w.heap.size) (o:Obj):(setO w B o).heap[B]? = some o:=by
 simp [setO,Array.getElem?_setIfInBounds,h]
theorem setO_other (w:World) {B k:Nat} (o:Obj) (h:k≠B):(setO w B o).heap[k]? = w.heap[k]? := by
 simp [setO,Array.getElem?_setIfInBounds,h.symm]
theorem setO_size (w:World) (B:Nat) (o:Obj):(setO w B o).heap.size=w.heap.size:=by simp [setO]
/-- A map with one more or one turned entry. -/
def putO (mk:α→Value) (ks:List α) (vs:Nat→Value) (a:α) (v:Value):Obj:=.map (ents mk (upd vs (putI ks a) v) (putK ks a) 0).toArray (putK ks a).length
theorem MapAt.put (h:MapAt mk w b ks vs) (m:MT P t kt et d mk z) (a:α) (v:Value):(Instr.mapUpdate t (.map (some b)) (mk a) v).run P w=.ok () (setO w b (putO mk ks vs a v)):=by
 have hf:=m.find a vs ks 0
 have hg:=MapKept.run_getObj_map (P:=P) h
 have hc:=MapKept.run_checkKey (P:=P) (w:=w) m.uk (m.key a) false 9999
 unfold putO putI putK
 cases hp:pos ks a with
 | none =>
  rw [hp] at hf
  simp only [Option.map_none] at hf
  have e:(ents mk (upd vs ks.length v) (ks++[a]) 0)=ents mk vs ks 0++[⟨mk a,v,ks.length⟩]:=by
   rw [ents_append,ents_congr fun j _ h2=>upd_other vs v (by omega)]
   simp [ents,upd_same]
  simp [Instr.mapUpdate,run_underlying m.um,hc,hg,MapKept.run_findKey m.uk hf,MapKept.run_setObj_map _ h,setO,e]
 | some i =>
  rw [hp] at hf
  simp only [Option.map_some,Nat.zero_add] at hf
  have hk:=pos_get hp
  have hge:=ents_get (mk:=mk) (vs:=vs) (o:=0) hk
  have e:(ents mk vs ks 0).toArray.modify i (fun e=>{ e with key:=mk a,val:=v })=(ents mk (upd vs i v) ks 0).toArray:=by
   rw [Nat.zero_add] at hge
   have h1:=ents_set (mk:=mk) (vs:=vs) (v:=v) (o:=0) hk
   rw [Nat.zero_add] at h1
   rw [← h1]
   apply Array.ext'
   apply List.ext_getElem?
   intro j
   simp only [Array.getElem?_toList,Array.getElem?_modify,List.getElem?_toArray,List.getElem?_set]
   by_cases hij:i=j
   ·subst hij
    rw [if_pos rfl,if_pos rfl,if_pos (List.getElem?_eq_some_iff.1 hge).1,hge]
    rfl
   ·rw [if_neg hij,if_neg hij]
  simp [Instr.mapUpdate,run_underlying m.um,hc,hg,MapKept.run_findKey m.uk hf,MapKept.run_setObj_map _ h,setO,hge,MapKept.run_keyThatStays (m.key a),-List.modify_toArray,e]
theorem MapAt.next {w':World} (h:MapAt mk w b ks vs) (hb:w'.heap[b]? = w.heap[b]?):MapAt mk w' b ks vs:=hb.trans h
theorem MapAt.lt (h:MapAt mk w b ks vs):b < w.heap.size:=heap_lt h
theorem MapAt.done (hb:b < w.heap.size) (a:α) (v:Value):MapAt mk (setO w b (putO mk ks vs a v)) b (putK ks a) (upd vs (putI ks a) v):=setO_get hb _
end
end
section
variable {w w':World} {lo:Nat} {e:TypeId} {sz n:Nat} {v:Value} {xs:List Value}
theorem own_congr (h:w.ownsRow lo e sz v n xs) (hb:∀ b,v.ownBlock=some b→w'.heap[b]? = w.heap[b]?):w'.ownsRow lo e sz v n xs:=by
 obtain ⟨h1,h2⟩:=h
 refine ⟨h1,?_⟩
 rcases h2 with h2 | ⟨g,cap,cur,q1,q2,q3,q4⟩
 ·exact .inl h2
 ·subst q1
  exact .inr ⟨g,cap,cur,rfl,q2,(hb g rfl).trans q3,q4⟩
theorem own_rd {β:Type} {f:β→Value} {c:β→List Dat} {l:List β} (h:w.ownsRow lo e 1 v l.length (l.map f)) (hc:∀ x S g (o:Nat),g o=some (f x)→(c x).length=1∧RCs S w (c x) g o):RD (allS w) w (.sl 1 (l.map c)) v:=by
 have hlt:=h.lt
 obtain ⟨h1,h2⟩:=h
 have key:∀ (S:Nat→Prop) (g:Nat→Option Value) (l:List β) (o:Nat),(∀ j x,l[j]? = some x→g (o+j)=some (f x))→REs S w 1 (l.map c) g o:=by
  intro S g l
  induction l with
  | nil=>exact fun _ _=>trivial
  | cons x l ih =>
   intro o hg
   have h0:=hc x S g o (by simpa using hg 0 x rfl)
   exact ⟨h0.1,h0.2,ih (o+1) fun j y hy=>by
    have:=hg (j+1) y (by simpa using hy)
    rwa [show o+(j+1)=o+1+j by omega] at this⟩
 simp only [RD]
 rcases h2 with ⟨rfl,h2⟩ | ⟨g,cap,cur,rfl,q2,q3,q4,q5,q6,q7⟩
 ·exact .inl ⟨⟨_,rfl⟩,by rw [List.length_eq_zero_iff.1 h2]; rfl⟩
 ·refine .inr ⟨g,0,cap,cur,e,(0,0),by rw [List.length_map],by rw [List.length_map]; exact q4,(hlt g rfl).2,q3,key _ _ l 0 fun j x hx=>?_⟩
  have hj:j < l.length:=(List.getElem?_eq_some_iff.1 hx).1
  have:(cur.toList.take (l.length * 1))[j]? = some (f x):=by rw [q7,List.getElem?_map,hx]; rfl
  rw [List.getElem?_take_of_lt (by omega)] at this
  simpa using this
theorem own_strs {l:List (List UInt8)} (h:w.ownsRow lo e 1 v l.length (l.map strOf)):RD (allS w) w (.sl 1 (l.map cS)) v :=
 own_rd h fun x S g o hg=>⟨rfl,⟨_,hg,rfl⟩,trivial⟩
theorem own_cell {g j:Nat} {u:Value} (h:w.ownsRow lo e 1 v n xs) (hv:v.ownBlock=some g) (hj:xs[j]? = some u):w.cell? ⟨g,j,none⟩=some u:=by
 have:=h.cells hv j u hj
 simp only [Addr.add] at this
 split at this
 ·rename_i h0
  have h0':j=0:=by simpa using h0
  subst h0'
  exact this
 ·simpa using this
theorem own_slice (h:w.ownsRow lo e 1 v n xs) (hn:0 < n):∃ g c,v=.slice (some ⟨g,0,none⟩) n c∧v.ownBlock=some g∧n≤c:=by
 rcases h.2 with ⟨_,h2⟩ | ⟨g,cap,cur,h2,_,_,h3,_⟩
 ·omega
 ·exact ⟨g,cap,h2,by rw [h2]; rfl,h3⟩
theorem own_val (h:w.ownsRow lo e 1 v n xs):∃ q c,v=.slice q n c:=by
 rcases h.2 with ⟨h1,h2⟩ | ⟨g,cap,cur,h2,_⟩
 ·exact ⟨none,0,by rw [h1,h2]⟩
 ·exact ⟨_,cap,h2⟩
end
/-- Outside the blocks O nothing turns; the blocks O' are old ones of O or new. -/
structure Mv (w w':World) (O O':Nat→Prop):Prop where
 os:w'.os=w.os
 tape:w'.tape=w.tape
 output:w'.output=w.output
 size:w.heap.size≤w'.heap.size
 block:∀ b,b < w.heap.size→¬ O b→w'.heap[b]? = w.heap[b]?
 own:∀ b,O' b→O b∨w.heap.size≤b
section
variable {w w1 w2:World} {O O1 O2:Nat→Prop}
theorem Mv.trans (h:Mv w w1 O O1) (k:Mv w1 w2 O1 O2):Mv w w2 O O2:=by
 refine ⟨k.os.trans h.os,k.tape.trans h.tape,k.output.trans h.output,Nat.le_trans h.size k.size,fun b hb hO=>?_,fun b hb=>?_⟩
 ·rw [k.block b (Nat.lt_of_lt_of_le hb h.size) fun h1=>(h.own b h1).elim hO fun h2=>by omega,h.block b hb hO]
 ·rcases k.own b hb with h1 | h1
  ·exact h.own b h1
  ·exact .inr (Nat.le_trans h.size h1)
theorem Mv.of (h:Below w.heap.size w w1):Mv w w1 O O:=⟨h.os,h.tape,h.output,h.size,fun b hb _=>h.block b hb,fun b hb=>.inl hb⟩
theorem Mv.refl:Mv w w O O:=⟨rfl,rfl,rfl,Nat.le_refl _,fun _ _ _=>rfl,fun _ hb=>.inl hb⟩
theorem Mv.grown {row:Option Nat} (h:w.grownBy w1 row) (hr:∀ b,row=some b→O b):Mv w w1 O O :=
 ⟨h.os,h.tape,h.output,h.size,fun b hb hO=>h.block b hb fun e=>hO (hr b e.symm),fun _ hb=>.inl hb⟩
theorem Mv.weak {O' O1':Nat→Prop} (h:Mv w w1 O O1) (h1:∀ b,O b→O' b) (h2:∀ b,O1' b→O1 b∨O' b∨w.heap.size≤b):Mv w w1 O' O1' :=
 ⟨h.os,h.tape,h.output,h.size,fun b hb hO=>h.block b hb fun h3=>hO (h1 b h3),fun b hb=>by
  rcases h2 b hb with h3 | h3 | h3
  ·exact (h.own b h3).imp (h1 b) id
  ·exact .inl h3
  ·exact .inr h3⟩
theorem Mv.below {lo:Nat} (h:Mv w w1 O O1) (hO:∀ b,O b→lo≤b) (hlo:lo≤w.heap.size):Below lo w w1 :=
 ⟨h.os,h.tape,h.output,h.size,fun b hb=>h.block b (Nat.lt_of_lt_of_le hb hlo) fun h1=>by have:=hO b h1; omega⟩
end
end Go.Vm.ArzM
