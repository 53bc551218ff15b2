/-
  R.Object's walk by hand: given (function 23) on the stack.
-/
import Derived.Test.YtldmbabgcdmjcaaGreatDoorObjRf
import Derived.Test.YtldmbabgcdmjcaaGreatDoorObjRb
namespace Go.Vm.ObjR
open Go.Proofs
open Go.RowKit
/-- The cells of an object,as data. -/
def aV2 (x:List Dat):Prop:=∃ a b t ks ds,x=[.v (.int .i64 a),.v (.int .i64 b),.str t,.sl 1 ks,.sl 5 ds]
/-- The values of objects that lie in D. -/
structure qR (D:Nat→Prop) (w:World) (kids:List (List Dat)) (ovs:List OV):Prop where
 len:kids.length=ovs.length
 at_:∀ (i:Nat) (x:List Dat) (o:OV),kids[i]? = some x→ovs[i]? = some o→RCs D w x (fun j=>o.cells[j]?) 0
section
variable {D D':Nat→Prop} {w w':World} {lo n:Nat} {dv kv:Value} {kids:List (List Dat)} {ovs:List OV} {x:List Dat} {o:OV} {keys:List (List UInt8)}
theorem aD0 {sz:Nat} {es:List (List Dat)} {u:Value} (h:RD D w (.sl sz es) u):∃ q l c,u=.slice q l c:=by
 simp only [RD] at h
 rcases h with ⟨⟨q,rfl⟩,_⟩ | ⟨b,off,c,_,_,_,rfl,_⟩
 ·exact ⟨_,_,_,rfl⟩
 ·exact ⟨_,_,_,rfl⟩
/-- The values of an object's cells. -/
theorem dC5 {g:Nat→Option Value} {p:Nat} (hx:aV2 x) (h:RCs D w x g p):∃ o:OV,(∀ j,j < 5→g (p+j)=o.cells[j]?)∧RCs D w x (fun j=>o.cells[j]?) 0:=by
 obtain ⟨a,b,t,ks,ds,rfl⟩:=hx
 simp only [RCs] at h
 obtain ⟨⟨u0,e0,r0⟩,⟨u1,e1,r1⟩,⟨u2,e2,r2⟩,⟨u3,e3,r3⟩,⟨u4,e4,r4⟩,_⟩:=h
 obtain ⟨q3,l3,p3,rfl⟩:=aD0 r3
 obtain ⟨q4,l4,p4,rfl⟩:=aD0 r4
 have s0:u0=.int .i64 a:=by simp only [RD] at r0; exact r0.1
 have s1:u1=.int .i64 b:=by simp only [RD] at r1; exact r1.1
 have s2:u2=strOf t:=by simpa only [RD] using r2
 subst s0 s1 s2
 refine ⟨⟨a,b,⟨t.toArray⟩,q3,l3,p3,q4,l4,p4⟩,fun j hj=>?_,?_⟩
 ·match j,hj with
  | 0,_=>exact e0
  | 1,_=>exact e1
  | 2,_=>exact e2
  | 3,_=>exact e3
  | 4,_=>exact e4
 ·simp only [RCs]
  exact ⟨⟨_,rfl,r0⟩,⟨_,rfl,r1⟩,⟨_,rfl,r2⟩,⟨_,rfl,r3⟩,⟨_,rfl,r4⟩,trivial⟩
theorem bW7 {g:Nat→Option Value}:∀ (kids:List (List Dat)) (p:Nat),REs D w 5 kids g p→(∀ x∈kids,aV2 x)→∃ ovs,qR D w kids ovs∧∀ j,j < kids.length * 5→g (p+j)=(ovs.flatMap OV.cells)[j]?
 | [],p,_,_=>⟨[],⟨rfl,by simp⟩,by simp⟩
 | x :: kids,p,h,hs=>by
  simp only [REs] at h
  obtain ⟨h1,h2,h3⟩:=h
  obtain ⟨o,e1,e2⟩:=dC5 (hs x (by simp)) h2
  obtain ⟨ovs,k1,k2⟩:=bW7 kids (p+5) h3 fun y hy=>hs y (by simp [hy])
  refine ⟨o :: ovs,⟨by simp [k1.len],fun i y z hy hz=>?_⟩,fun j hj=>?_⟩
  ·match i,hy,hz with
   | 0,hy,hz =>
    simp at hy hz
    subst hy hz
    exact e2
   | i+1,hy,hz=>exact k1.at_ i y z (by simpa using hy) (by simpa using hz)
  ·rw [List.flatMap_cons]
   by_cases hj5:j < 5
   ·rw [List.getElem?_append_left (by simp [OV.cells]; omega)]
    exact e1 j hj5
   ·rw [List.getElem?_append_right (by simp [OV.cells]; omega)]
    have hl:o.cells.length=5:=rfl
    rw [hl,← k2 (j - 5) (by simp at hj; omega)]
    congr 1
    omega
theorem qR.cK3 (h:uH lo 26 5 D w kids dv) (hs:∀ x∈kids,aV2 x):∃ ovs,w.ownsRow lo 26 5 dv kids.length (ovs.flatMap OV.cells)∧qR D w kids ovs:=by
 obtain ⟨xs,h1,h2⟩:=h
 obtain ⟨ovs,k1,k2⟩:=bW7 kids 0 h2 hs
 have e:xs=ovs.flatMap OV.cells:=by
  apply List.ext_getElem?
  intro j
  have hl:=h1.1
  have hl2:=aZ3 ovs
  rw [← k1.len] at hl2
  rcases Nat.lt_or_ge j (kids.length * 5) with hj | hj
  ·have:=k2 j hj
   rwa [Nat.zero_add] at this
  ·rw [List.getElem?_eq_none (by omega),List.getElem?_eq_none (by omega)]
 exact ⟨ovs,e ▸ h1,k1⟩
theorem qR.own (k:qR D w kids ovs) (h:w.ownsRow lo 26 5 dv n (ovs.flatMap OV.cells)) (hs:∀ x∈kids,aV2 x):uH lo 26 5 D w kids dv:=by
 have hn:n=kids.length:=by have:=h.1; rw [aZ3] at this; have:=k.len; omega
 subst hn
 refine ⟨_,h,REs.dD _ _ fun i x hx=>?_⟩
 have hi:=(List.getElem?_eq_some_iff.1 hx).1
 obtain ⟨o,ho⟩:∃ o,ovs[i]? = some o:=⟨_,List.getElem?_eq_getElem (by rw [← k.len]; exact hi)⟩
 have hlen:x.length=5:=by obtain ⟨a,b,t,ks,ds,rfl⟩:=hs x (List.mem_of_getElem? hx); rfl
 refine ⟨hlen,RCs.congr x 0 _ (fun j hj=>?_) (k.at_ i x o hx ho)⟩
 rw [Nat.zero_add,Nat.zero_add]
 exact bS6 ovs i j o ho (by omega)
theorem qR.mono (k:qR D w kids ovs) (ha:Agree D w w'):qR D w' kids ovs:=⟨k.len,fun i x o hx ho=>RCs.mono (fun _ h=>h) ha x _ _ (k.at_ i x o hx ho)⟩
theorem bX1 {α:Type} (l:List α) (p i:Nat) (x:α) (hp:p≤l.length):(l.take p++x :: l.drop p)[i]? = if i < p then l[i]? else if i=p then some x else l[i - 1]? := by
 have htl:(l.take p).length=p:=by rw [List.length_take]; omega
 rcases Nat.lt_trichotomy i p with h | h | h
 ·rw [if_pos h,List.getElem?_append_left (by omega),List.getElem?_take_of_lt h]
 ·subst h
  rw [if_neg (Nat.lt_irrefl _),if_pos rfl,List.getElem?_append_right (by omega),htl,Nat.sub_self]
  rfl
 ·rw [if_neg (by omega),if_neg (by omega),List.getElem?_append_right (by omega),htl,show i - p=(i - p - 1)+1 by omega,List.getElem?_cons_succ,List.getElem?_drop]
  congr 1
  omega
theorem qR.insert (k:qR D w kids ovs) (hx:RCs D w x (fun j=>o.cells[j]?) 0) {p:Nat} (hp:p≤kids.length):qR D w (kids.take p++x :: kids.drop p) (ovs.take p++o :: ovs.drop p):=by
 have hl:=k.len
 refine ⟨by simp [hl],fun i y z hy hz=>?_⟩
 rw [bX1 _ _ _ _ hp] at hy
 rw [bX1 _ _ _ _ (by omega)] at hz
 split at hy
 ·rename_i h
  rw [if_pos h] at hz
  exact k.at_ i y z hy hz
 ·rename_i h
  rw [if_neg h] at hz
  split at hy
  ·rename_i h2
   rw [if_pos h2] at hz
   cases hy
   cases hz
   exact hx
  ·rename_i h2
   rw [if_neg h2] at hz
   exact k.at_ (i - 1) y z hy hz
theorem cR0 (h:uH lo 9 1 D w (keys.map cS) kv):w.ownsRow lo 9 1 kv keys.length (keys.map strOf):=by
 obtain ⟨xs,h1,h2⟩:=h
 rw [List.length_map] at h1
 have e:xs=keys.map strOf:=by
  apply List.ext_getElem?
  intro j
  have hl:=h1.1
  rcases Nat.lt_or_ge j keys.length with hj | hj
  ·obtain ⟨_,h3⟩:=REs.get _ 0 j _ h2 (by rw [List.getElem?_map,List.getElem?_eq_getElem hj]; rfl)
   obtain ⟨u,h4,h5⟩:=RCs.get _ _ 0 (.str keys[j]) h3 rfl
   have h6:u=strOf keys[j]:=by simpa only [RD] using h5
   rw [h6] at h4
   rw [List.getElem?_map,List.getElem?_eq_getElem hj]
   simpa using h4
  ·rw [List.getElem?_eq_none (by omega),List.getElem?_eq_none (by simpa using hj)]
 exact e ▸ h1
theorem cN5 (h:w.ownsRow lo 9 1 kv n (keys.map strOf)):uH lo 9 1 D w (keys.map cS) kv:=by
 have hn:n=keys.length:=by simpa using h.1.symm
 subst hn
 refine ⟨_,by rw [List.length_map]; exact h,REs.dD _ _ fun i e he=>?_⟩
 rw [List.getElem?_map,Option.map_eq_some_iff] at he
 obtain ⟨s,hs,rfl⟩:=he
 refine ⟨rfl,?_⟩
 simp only [cS,RCs]
 exact ⟨⟨strOf s,by simp [List.getElem?_map,hs],by simp [RD]⟩,trivial⟩
/-- A row whose block has one cell turned. -/
theorem cG5 {e sz g cp j:Nat} {xs:List Value} {cur:Array Value} {u:Value} (h:w.ownsRow lo e sz (.slice (some ⟨g,0,none⟩) n cp) n xs) (hg:w.heap[g]? = some (.cells cur e (0,0))) (hj:j < n * sz) (hg':w'.heap[g]? = some (.cells (cur.setIfInBounds j u) e (0,0))):w'.ownsRow lo e sz (.slice (some ⟨g,0,none⟩) n cp) n (xs.set j u) :=
 jD (iL h hj) fun b hb=>by cases hb; exact hg'.trans (fK hg).symm
end
end Go.Vm.ObjR
