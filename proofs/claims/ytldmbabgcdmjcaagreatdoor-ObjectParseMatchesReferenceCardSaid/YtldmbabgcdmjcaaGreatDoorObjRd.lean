/-
  R.Object's walk by hand: given (function 23),the dictionary's case: what it works on.
-/
import Derived.Test.YtldmbabgcdmjcaaGreatDoorObjRc
namespace Go.Vm.ObjR
open Go.Proofs
open Go.RowKit
/-- The values of an object's cells. -/
structure OV where
 z0:Int
 z1:Int
 s2:ByteArray
 q3:Option Addr
 l3:Nat
 p3:Nat
 q4:Option Addr
 l4:Nat
 p4:Nat
def OV.cells (o:OV):List Value:=[.int .i64 o.z0,.int .i64 o.z1,.string o.s2,.slice o.q3 o.l3 o.p3,.slice o.q4 o.l4 o.p4]
def OV.zero:OV:=⟨0,0,⟨#[]⟩,none,0,0,none,0,0⟩
theorem aZ3 (l:List OV):(l.flatMap OV.cells).length=l.length * 5:=by
 induction l with
 | nil=>rfl
 | cons f l ih=>rw [List.flatMap_cons,List.length_append,ih]; simp [OV.cells]; omega
theorem bS6:∀ (l:List OV) (i j:Nat) (f:OV),l[i]? = some f→j < 5→(l.flatMap OV.cells)[i * 5+j]? = f.cells[j]?
 | f0 :: l,0,j,f,h,hj=>by
  simp at h
  subst h
  rw [List.flatMap_cons,List.getElem?_append_left (by simp [OV.cells]; omega)]
  simp
 | f0 :: l,i+1,j,f,h,hj=>by
  rw [List.flatMap_cons,List.getElem?_append_right (by simp [OV.cells]; omega),← bS6 l i j f (by simpa using h) hj]
  congr 1
  simp [OV.cells]
  omega
 | [],i,j,f,h,hj=>by simp at h
theorem cK1:∀ (l:List OV) (i:Nat) (o:OV),i < l.length→(((((l.flatMap OV.cells).set (i * 5) (.int .i64 o.z0)).set (i * 5+1) (.int .i64 o.z1)).set (i * 5+2) (.string o.s2)).set (i * 5+3) (.slice o.q3 o.l3 o.p3)).set (i * 5+4) (.slice o.q4 o.l4 o.p4)=(l.set i o).flatMap OV.cells
 | f :: l,0,o,_=>by simp [OV.cells]
 | f :: l,i+1,o,h=>by
  rw [List.set_cons_succ,List.flatMap_cons,List.flatMap_cons,← cK1 l i o (by simpa using h)]
  have e:∀ (c:Nat) (ys:List Value) (u:Value),(f.cells++ys).set ((i+1) * 5+c) u=f.cells++ys.set (i * 5+c) u:=fun c ys u=>by
   rw [List.set_append,if_neg (by simp [OV.cells]; omega)]
   congr 2
   simp [OV.cells]
   omega
  have e0:∀ (ys:List Value) (u:Value),(f.cells++ys).set ((i+1) * 5) u=f.cells++ys.set (i * 5) u:=fun ys u=>e 0 ys u
  rw [e0,e,e,e,e]
 | [],i,o,h=>absurd h (by simp)
theorem aV7 {α:Type} {K:List α} {i:Nat} {x:α} (hi:i+1 < K.length) (hx:K[i]? = some x):(K.set (i+1) x).eraseIdx i=K.eraseIdx (i+1):=by
 apply List.ext_getElem?
 intro j
 rw [List.getElem?_eraseIdx,List.getElem?_eraseIdx]
 rcases Nat.lt_trichotomy j i with h | h | h
 ·rw [if_pos h,if_pos (by omega),List.getElem?_set_ne (by omega)]
 ·subst h
  rw [if_neg (by omega),if_pos (by omega),List.getElem?_set_self hi,hx]
 ·rw [if_neg (by omega)]
  by_cases h2:j < i+1
  ·omega
  ·rw [if_neg h2,List.getElem?_set_ne (by omega)]
theorem aW0 {α:Type} {K l:List α} {p:Nat} {x:α} (hp:p < K.length) (h:K.eraseIdx p=l):K.set p x=l.take p++x :: l.drop p:=by
 subst h
 apply List.ext_getElem?
 intro j
 have hl:(K.eraseIdx p).length=K.length - 1:=List.length_eraseIdx_of_lt hp
 have htl:((K.eraseIdx p).take p).length=p:=by rw [List.length_take,hl]; omega
 rcases Nat.lt_trichotomy j p with h | h | h
 ·rw [List.getElem?_set_ne (by omega),List.getElem?_append_left (by omega),List.getElem?_take_of_lt h,List.getElem?_eraseIdx,if_pos h]
 ·subst h
  rw [List.getElem?_set_self hp,List.getElem?_append_right (by omega),htl,Nat.sub_self]
  rfl
 ·rw [List.getElem?_set_ne (by omega),List.getElem?_append_right (by omega),htl,show j - p=(j - p - 1)+1 by omega,List.getElem?_cons_succ,List.getElem?_drop,List.getElem?_eraseIdx,if_neg (by omega)]
  congr 1
  omega
/-- A dictionary's rows while a pair is put in. -/
structure DSt (W:World) (o:OV) (base g0 m k:Nat) (kv dv:Value) (cur:Array Value) (w:World) (kb kc db dc:Nat) (K:List (List UInt8)) (D:List OV):Prop where
 row:w.heap[g0]? = some (.cells ((cur.setIfInBounds (m+3) (.slice (some ⟨kb,0,none⟩) (k+1) kc)).setIfInBounds (m+4) (.slice (some ⟨db,0,none⟩) (k+1) dc)) 57 (0,0))
 ok:w.ownsRow base 9 1 (.slice (some ⟨kb,0,none⟩) (k+1) kc) (k+1) (K.map strOf)
 od:w.ownsRow base 26 5 (.slice (some ⟨db,0,none⟩) (k+1) dc) (k+1) (D.flatMap OV.cells)
 kg:kb≠g0
 dg:db≠g0
 kd:kb≠db
 kfrom:kv.ownBlock=some kb∨W.heap.size≤kb
 dfrom:dv.ownBlock=some db∨W.heap.size≤db
 keep:∀ b,b < W.heap.size→b≠g0→some b≠kv.ownBlock→some b≠dv.ownBlock→w.heap[b]? = W.heap[b]?
 below:Below base W w
 size:m+7≤cur.size
 par:w.heap[W.heap.size]? = some (.cells #[.int .i64 o.z0,.int .i64 o.z1,.string o.s2,.slice o.q3 o.l3 o.p3,.slice o.q4 o.l4 o.p4] 26 (0,0))
 kp:kb≠W.heap.size
 dp:db≠W.heap.size
section
variable {W w:World} {o:OV} {base g0 m k:Nat} {kv dv:Value} {cur:Array Value} {kb kc db dc:Nat} {K:List (List UInt8)} {D:List OV}
theorem DSt.drew (h:DSt W o base g0 m k kv dv cur w kb kc db dc K D):DSt W o base g0 m k kv dv cur w.drew kb kc db dc K D:=⟨h.row,h.ok,h.od,h.kg,h.dg,h.kd,h.kfrom,h.dfrom,h.keep,h.below.drew,h.size,h.par,h.kp,h.dp⟩
theorem DSt.cN9 (h:DSt W o base g0 m k kv dv cur w kb kc db dc K D):K.length=k+1:=by
 have:=h.ok.1
 simpa using this
theorem DSt.cB7 (h:DSt W o base g0 m k kv dv cur w kb kc db dc K D):D.length=k+1:=by
 have:=h.od.1
 rw [aZ3] at this
 omega
theorem DSt.cells (h:DSt W o base g0 m k kv dv cur w kb kc db dc K D):w.cell? ⟨g0,m+3,none⟩=some (.slice (some ⟨kb,0,none⟩) (k+1) kc)∧w.cell? ⟨g0,m+4,none⟩=some (.slice (some ⟨db,0,none⟩) (k+1) dc)∧w.cell? ⟨g0,m+5,none⟩=cur[m+5]? ∧ ∀ j,w.frozen? ⟨g0,j,none⟩=false:=by
 have hs:=h.size
 refine ⟨?_,?_,?_,fun j=>by simp [World.frozen?,h.row]⟩
 ·simp only [World.cell?,h.row,Option.isSome_none,Bool.false_eq_true,if_false]
  rw [Array.getElem?_setIfInBounds_ne (by omega),Array.getElem?_setIfInBounds_self_of_lt (by omega)]
 ·simp only [World.cell?,h.row,Option.isSome_none,Bool.false_eq_true,if_false]
  rw [Array.getElem?_setIfInBounds_self_of_lt (by rw [Array.size_setIfInBounds]; omega)]
 ·simp only [World.cell?,h.row,Option.isSome_none,Bool.false_eq_true,if_false]
  rw [Array.getElem?_setIfInBounds_ne (by omega),Array.getElem?_setIfInBounds_ne (by omega)]
theorem DSt.cJ5 (h:DSt W o base g0 m k kv dv cur w kb kc db dc K D) {i:Nat} {x:List UInt8} (hx:K[i]? = some x):w.cell? ⟨kb,i,none⟩=some (strOf x):=by
 have:=h.ok.cells (g:=kb) rfl i (strOf x) (by rw [List.getElem?_map,hx]; rfl)
 rw [aZ0] at this
 exact this
theorem DSt.aR7 {o':OV} (h:DSt W o' base g0 m k kv dv cur w kb kc db dc K D) {i:Nat} {o:OV} (ho:D[i]? = some o):w.cell? ⟨db,i * 5,none⟩=some (.int .i64 o.z0)∧w.cell? ⟨db,i * 5+1,none⟩=some (.int .i64 o.z1)∧w.cell? ⟨db,i * 5+2,none⟩=some (.string o.s2)∧w.cell? ⟨db,i * 5+3,none⟩=some (.slice o.q3 o.l3 o.p3)∧w.cell? ⟨db,i * 5+4,none⟩=some (.slice o.q4 o.l4 o.p4):=by
 have key:∀ j u,j < 5→o.cells[j]? = some u→w.cell? ⟨db,i * 5+j,none⟩=some u:=fun j u hj hu=>by
  have:=h.od.cells (g:=db) rfl (i * 5+j) u (by rw [bS6 D i j o ho hj,hu])
  rw [aZ0] at this
  exact this
 exact ⟨key 0 _ (by omega) rfl,key 1 _ (by omega) rfl,key 2 _ (by omega) rfl,key 3 _ (by omega) rfl,key 4 _ (by omega) rfl⟩
theorem aS4 {base e g n cp sz:Nat} {xs:List Value} (h:w.ownsRow base e sz (.slice (some ⟨g,0,none⟩) n cp) n xs) (j:Nat):w.frozen? ⟨g,j,none⟩=false:=by
 rcases h.2 with ⟨h0,_⟩ | ⟨g',cap,cur,h0,_,h2,_⟩
 ·cases h0
 ·cases h0
  simp [World.frozen?,h2]
theorem DSt.frozen (h:DSt W o base g0 m k kv dv cur w kb kc db dc K D):(∀ j,w.frozen? ⟨kb,j,none⟩=false)∧∀ j,w.frozen? ⟨db,j,none⟩=false:=⟨aS4 h.ok,aS4 h.od⟩
theorem bS2 {base e g n cp sz:Nat} {xs:List Value} (h:w.ownsRow base e sz (.slice (some ⟨g,0,none⟩) n cp) n xs):base≤g:=(h.lt g rfl).1
/-- A key is written. -/
theorem DSt.cP7 (h:DSt W o base g0 m k kv dv cur w kb kc db dc K D) {i:Nat} (hi:i≤k) (x:List UInt8):DSt W o base g0 m k kv dv cur (w.setCell ⟨kb,i,none⟩ (strOf x)) kb kc db dc (K.set i x) D:=by
 have hb:=bS2 h.ok
 refine ⟨(Below.heap_setCell _ _ _ _ (Ne.symm h.kg)).trans h.row,?_,jD h.od fun b hb=>Below.heap_setCell _ _ _ _ (by cases hb; exact Ne.symm h.kd),h.kg,h.dg,h.kd,h.kfrom,h.dfrom,fun b hb hg hk hd=>?_,h.below.setCell hb _,h.size,(Below.heap_setCell _ _ _ _ (Ne.symm h.kp)).trans h.par,h.kp,h.dp⟩
 ·rw [List.map_set]
  exact iL h.ok (by omega)
 ·rw [Below.heap_setCell _ _ _ _ ?_]
  ·exact h.keep b hb hg hk hd
  ·rintro rfl
   rcases h.kfrom with e | e
   ·exact hk e.symm
   ·omega
/-- An object is written. -/
theorem DSt.dA6 {o':OV} (h:DSt W o' base g0 m k kv dv cur w kb kc db dc K D) {i:Nat} (hi:i≤k) (o:OV):DSt W o' base g0 m k kv dv cur (((((w.setCell ⟨db,i * 5,none⟩ (.int .i64 o.z0)).setCell ⟨db,i * 5+1,none⟩ (.int .i64 o.z1)).setCell ⟨db,i * 5+2,none⟩ (.string o.s2)).setCell ⟨db,i * 5+3,none⟩ (.slice o.q3 o.l3 o.p3)).setCell ⟨db,i * 5+4,none⟩ (.slice o.q4 o.l4 o.p4)) kb kc db dc K (D.set i o):=by
 have hb:=bS2 h.od
 have five:∀ b,b≠db→(((((w.setCell ⟨db,i * 5,none⟩ (.int .i64 o.z0)).setCell ⟨db,i * 5+1,none⟩ (.int .i64 o.z1)).setCell ⟨db,i * 5+2,none⟩ (.string o.s2)).setCell ⟨db,i * 5+3,none⟩ (.slice o.q3 o.l3 o.p3)).setCell ⟨db,i * 5+4,none⟩ (.slice o.q4 o.l4 o.p4)).heap[b]? = w.heap[b]? := fun b hb=>by
  rw [Below.heap_setCell _ _ _ _ hb,Below.heap_setCell _ _ _ _ hb,Below.heap_setCell _ _ _ _ hb,Below.heap_setCell _ _ _ _ hb,Below.heap_setCell _ _ _ _ hb]
 refine ⟨(five g0 (Ne.symm h.dg)).trans h.row,jD h.ok fun b hb=>five b (by cases hb; exact h.kd),?_,h.kg,h.dg,h.kd,h.kfrom,h.dfrom,fun b hb hg hk hd=>?_,((((h.below.setCell hb _).setCell hb _).setCell hb _).setCell hb _).setCell hb _,h.size,(five _ (Ne.symm h.dp)).trans h.par,h.kp,h.dp⟩
 ·rw [← cK1 D i o (by rw [h.cB7]; omega)]
  exact iL (iL (iL (iL (iL h.od (by omega)) (by omega)) (by omega)) (by omega)) (by omega)
 ·rw [five b ?_]
  ·exact h.keep b hb hg hk hd
  ·rintro rfl
   rcases h.dfrom with e | e
   ·exact hd e.symm
   ·omega
theorem DSt.iU (h:DSt W o base g0 m k kv dv cur w kb kc db dc K D):w.cell? ⟨W.heap.size,0,none⟩=some (.int .i64 o.z0)∧w.cell? ⟨W.heap.size,1,none⟩=some (.int .i64 o.z1)∧w.cell? ⟨W.heap.size,2,none⟩=some (.string o.s2)∧w.cell? ⟨W.heap.size,3,none⟩=some (.slice o.q3 o.l3 o.p3)∧w.cell? ⟨W.heap.size,4,none⟩=some (.slice o.q4 o.l4 o.p4):=by
 simp [World.cell?,h.par]
end
/-- The keys' row is longer by one,the objects' row is as it was. -/
structure KSt (W:World) (o:OV) (base g0 m k:Nat) (kv dv:Value) (cur:Array Value) (w:World) (kb kc:Nat) (K:List (List UInt8)) (D:List OV):Prop where
 row:w.heap[g0]? = some (.cells (cur.setIfInBounds (m+3) (.slice (some ⟨kb,0,none⟩) (k+1) kc)) 57 (0,0))
 ok:w.ownsRow base 9 1 (.slice (some ⟨kb,0,none⟩) (k+1) kc) (k+1) (K.map strOf)
 od:w.ownsRow base 26 5 dv k (D.flatMap OV.cells)
 kg:kb≠g0
 dg:dv.ownBlock≠some g0
 kd:dv.ownBlock≠some kb
 kfrom:kv.ownBlock=some kb∨W.heap.size≤kb
 dlt:∀ b,dv.ownBlock=some b→b < W.heap.size
 keep:∀ b,b < W.heap.size→b≠g0→some b≠kv.ownBlock→w.heap[b]? = W.heap[b]?
 below:Below base W w
 size:m+7≤cur.size
 par:w.heap[W.heap.size]? = some (.cells #[.int .i64 o.z0,.int .i64 o.z1,.string o.s2,.slice o.q3 o.l3 o.p3,.slice o.q4 o.l4 o.p4] 26 (0,0))
 kp:kb≠W.heap.size
section
variable {W w w':World} {o:OV} {base g0 m k:Nat} {kv dv:Value} {cur:Array Value} {kb kc db dc:Nat} {K:List (List UInt8)} {D:List OV}
theorem KSt.cS3 (h:KSt W o base g0 m k kv dv cur w kb kc K D) (hdv:cur[m+4]? = some dv):w.cell? ⟨g0,m+4,none⟩=some dv∧∀ j,w.frozen? ⟨g0,j,none⟩=false:=by
 refine ⟨?_,fun j=>by simp [World.frozen?,h.row]⟩
 simp only [World.cell?,h.row,Option.isSome_none,Bool.false_eq_true,if_false]
 rw [Array.getElem?_setIfInBounds_ne (by omega),hdv]
/-- The objects' row is made longer,too. -/
theorem KSt.toD (h:KSt W o base g0 m k kv dv cur w kb kc K D) (hown:w'.ownsRow base 26 5 (.slice (some ⟨db,0,none⟩) (k+1) dc) (k+1) ((D++[OV.zero]).flatMap OV.cells)) (hfrom:dv.ownBlock=some db∨w.heap.size≤db)
  (hrow:w'.heap[g0]? = some (.cells ((cur.setIfInBounds (m+3) (.slice (some ⟨kb,0,none⟩) (k+1) kc)).setIfInBounds (m+4) (.slice (some ⟨db,0,none⟩) (k+1) dc)) 57 (0,0)))
  (hkeep:∀ b,b < w.heap.size→b≠g0→some b≠dv.ownBlock→w'.heap[b]? = w.heap[b]?) (hb:Below base w w'):DSt W o base g0 m k kv dv cur w' kb kc db dc K (D++[OV.zero]):=by
 have hsz:=h.below.size
 have hkl:=(h.ok.lt kb rfl).2
 have hgl:=cZ h.row
 have hpl:=cZ h.par
 have hne:∀ b,b < w.heap.size→dv.ownBlock≠some b→db≠b:=fun b hb hd e=>by
  subst e
  rcases hfrom with q | q
  ·exact hd q
  ·omega
 refine ⟨hrow,jD h.ok fun b hb=>by cases hb; exact hkeep kb hkl h.kg (Ne.symm h.kd),hown,h.kg,hne g0 hgl h.dg,fun e=>hne kb hkl h.kd e.symm,h.kfrom,hfrom.imp id fun e=>by omega,fun b hb hg hk hd=>(hkeep b (by omega) hg hd).trans (h.keep b hb hg hk),h.below.trans hb,h.size,?_,h.kp,hne _ hpl fun e=>by have:=h.dlt _ e; omega⟩
 refine (hkeep _ hpl (fun e=>?_) fun e=>?_).trans h.par
 ·have:=h.row
  rw [← e,h.par] at this
  simp at this
 ·have:=h.dlt _ e.symm
  omega
end
end Go.Vm.ObjR
