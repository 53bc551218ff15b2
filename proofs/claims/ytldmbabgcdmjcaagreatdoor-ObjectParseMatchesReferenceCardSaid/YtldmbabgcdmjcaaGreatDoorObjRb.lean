/-
  R.Object's walk by hand: the stack of open lists and dictionaries in a world. (No program in sight.)
-/
import Derived.Test.YtldmbabgcdmjcaaGreatDoorObjRa
import Derived.Test.YtldmbabgcdmjcaaGreatDoorVmC
namespace Go.Vm.ObjR
open Go.RowKit
/-- An open list or dictionary: what it holds,and the values of its two rows. -/
structure Fm where
 kind:Int
 keys:List (List UInt8)
 kids:List (List Dat)
 key:List UInt8
 has:Bool
 kv:Value
 dv:Value
def Fm.cells (f:Fm):List Value:=[.int .i64 f.kind,.int .i64 0,.string ⟨#[]⟩,f.kv,f.dv,strOf f.key,.bool f.has]
def Fm.dat (f:Fm):List Dat:=[.v (.int .i64 f.kind),.v (.int .i64 0),.str [],.sl 1 (f.keys.map cS),.sl 5 f.kids,.str f.key,.v (.bool f.has)]
def Fm.Has (f:Fm) (b:Nat):Prop:=f.kv.ownBlock=some b∨f.dv.ownBlock=some b
theorem kS (l:List Fm):(l.flatMap Fm.cells).length=l.length * 7:=by
 induction l with
 | nil=>rfl
 | cons f l ih=>rw [List.flatMap_cons,List.length_append,ih]; simp [Fm.cells]; omega
theorem aP0:∀ (l:List Fm) (i j:Nat) (f:Fm),l[i]? = some f→j < 7→(l.flatMap Fm.cells)[i * 7+j]? = f.cells[j]?
 | f0 :: l,0,j,f,h,hj=>by
  simp at h
  subst h
  rw [List.flatMap_cons,List.getElem?_append_left (by simp [Fm.cells]; omega)]
  simp
 | f0 :: l,i+1,j,f,h,hj=>by
  rw [List.flatMap_cons,List.getElem?_append_right (by simp [Fm.cells]; omega),← aP0 l i j f (by simpa using h) hj]
  congr 1
  simp [Fm.cells]
  omega
 | [],i,j,f,h,hj=>by simp at h
/-- The stack in a world: its row,and the rows of each of its frames; blocks apart from each other and from D,where the finished objects lie. -/
structure Stk (E lo:Nat) (D:Nat→Prop) (w:World) (v:Value) (l:List Fm):Prop where
 row:w.ownsRow lo 57 7 v l.length (l.flatMap Fm.cells)
 each:∀ f∈l,uH lo E 1 D w (f.keys.map cS) f.kv∧uH lo 26 5 D w f.kids f.dv
 a1:∀ f∈l,∀ b,v.ownBlock=some b→¬ f.Has b
 a2:l.Pairwise (fun f f'=>∀ b,f.Has b→¬ f'.Has b)
 a3:∀ f∈l,∀ b,f.kv.ownBlock=some b→f.dv.ownBlock≠some b
 nov:∀ b,v.ownBlock=some b→¬ D b
 nof:∀ f∈l,∀ b,f.Has b→¬ D b
 inD:∀ b,D b→lo≤b∧b < w.heap.size
section
variable {E lo:Nat} {D:Nat→Prop} {w w':World} {v v':Value} {l r:List Fm} {f f':Fm}
theorem Stk.nil (hD:∀ b,D b→lo≤b∧b < w.heap.size):Stk E lo D w (.slice none 0 0) [] :=
 ⟨World.ownsRow_nil _ _ _ _,(by simp),(by simp),List.Pairwise.nil,(by simp),(fun b h=>by cases h),(by simp),hD⟩
theorem Stk.aH8 (h:Stk E lo D w v l) (hf:f∈l) {b:Nat} (hb:f.Has b):lo≤b∧b < w.heap.size :=
 hb.elim (fun e=>(h.each f hf).1.lt b e) (fun e=>(h.each f hf).2.lt b e)
theorem Stk.cZ2 (h:Stk E lo D w v l) {b:Nat} (hb:v.ownBlock=some b):lo≤b∧b < w.heap.size:=h.row.lt b hb
/-- The blocks of the stack and of D are as they were. -/
theorem Stk.keep (h:Stk E lo D w v l) (hk:∀ b,b < w.heap.size→w'.heap[b]? = w.heap[b]?) (hs:w.heap.size≤w'.heap.size):Stk E lo D w' v l :=
 ⟨jD h.row fun b hb=>hk b (h.cZ2 hb).2,fun f hf=>⟨(h.each f hf).1.congr (fun _ h=>h) (fun b hb=>hk b (h.inD b hb).2) fun b hb=>hk b ((h.each f hf).1.lt b hb).2,(h.each f hf).2.congr (fun _ h=>h) (fun b hb=>hk b (h.inD b hb).2) fun b hb=>hk b ((h.each f hf).2.lt b hb).2⟩,
  h.a1,h.a2,h.a3,h.nov,h.nof,fun b hb=>⟨(h.inD b hb).1,Nat.lt_of_lt_of_le (h.inD b hb).2 hs⟩⟩
theorem Stk.drew (h:Stk E lo D w v l):Stk E lo D w.drew v l:=h.keep (fun _ _=>rfl) (Nat.le_refl _)
theorem Stk.alloc (h:Stk E lo D w v l) (o:Obj):Stk E lo D (w.alloc o) v l:=h.keep (fun b hb=>Below.heap_alloc _ _ _ hb) (by rw [World.size_alloc]; omega)
theorem Stk.below (h:Stk E lo D w v l) (hb:Below w.heap.size w w'):Stk E lo D w' v l:=h.keep (fun b hb'=>hb.block b hb') hb.size
/-- The top's cells. -/
theorem Stk.top (h:Stk E lo D w v (r++[f])):∃ g cap cur,v=.slice (some ⟨g,0,none⟩) (r.length+1) cap∧lo≤g∧w.heap[g]? = some (.cells cur 57 (0,0))∧r.length * 7+7≤cur.size∧r.length+1≤cap ∧
  cur[r.length * 7]? = some (.int .i64 f.kind)∧cur[r.length * 7+1]? = some (.int .i64 0)∧cur[r.length * 7+2]? = some (.string ⟨#[]⟩)∧cur[r.length * 7+3]? = some f.kv∧cur[r.length * 7+4]? = some f.dv∧cur[r.length * 7+5]? = some (strOf f.key)∧cur[r.length * 7+6]? = some (.bool f.has):=by
 obtain ⟨h1,h2⟩:=h.row
 rcases h2 with ⟨rfl,h2⟩ | ⟨g,cap,cur,q1,q2,q3,q4,q5,q6,q7⟩
 ·simp at h2
 ·rw [List.length_append,List.length_singleton] at q1 q4 q7
  have hg:∀ j,j < 7→cur[r.length * 7+j]? = f.cells[j]? := fun j hj=>by
   rw [← aP0 (r++[f]) r.length j f (by simp) hj,← q7,List.getElem?_take_of_lt (by omega),Array.getElem?_toList]
  exact ⟨g,cap,cur,q1,q2,q3,by rw [q6]; have:=Nat.mul_le_mul_right 7 q4; omega,q4,hg 0 (by omega),hg 1 (by omega),hg 2 (by omega),hg 3 (by omega),hg 4 (by omega),hg 5 (by omega),hg 6 (by omega)⟩
/-- The top turns. -/
theorem Stk.cK5 (h:Stk E lo D w v (r++[f])) (hrow:w'.ownsRow lo 57 7 v' (r.length+1) (r.flatMap Fm.cells++f'.cells)) (hk:uH lo E 1 D w' (f'.keys.map cS) f'.kv) (hd:uH lo 26 5 D w' f'.kids f'.dv)
  (hv:∀ b,v'.ownBlock=some b→v.ownBlock=some b) (hk':∀ b,f'.kv.ownBlock=some b→f.kv.ownBlock=some b∨w.heap.size≤b) (hd':∀ b,f'.dv.ownBlock=some b→f.dv.ownBlock=some b∨w.heap.size≤b)
  (hkd:∀ b,f'.kv.ownBlock=some b→f'.dv.ownBlock≠some b) (hkeep:∀ b,b < w.heap.size→v.ownBlock≠some b→¬ f.Has b→w'.heap[b]? = w.heap[b]?) (hsz:w.heap.size≤w'.heap.size):Stk E lo D w' v' (r++[f']):=by
 have hmem:∀ x∈r,x∈r++[f]:=fun x hx=>List.mem_append_left _ hx
 have hfm:f∈r++[f]:=by simp
 have hHas:∀ b,f'.Has b→f.Has b∨w.heap.size≤b:=fun b hb=>hb.elim (fun e=>(hk' b e).imp .inl id) (fun e=>(hd' b e).imp .inr id)
 obtain ⟨p1,p2,p3⟩:=List.pairwise_append.1 h.a2
 have hDk:∀ b,D b→w'.heap[b]? = w.heap[b]? := fun b hb=>hkeep b (h.inD b hb).2 (fun e=>h.nov b e hb) (fun e=>h.nof f hfm b e hb)
 have hrk:∀ x∈r,∀ b,x.Has b→w'.heap[b]? = w.heap[b]? := fun x hx b hb=>hkeep b (h.aH8 (hmem x hx) hb).2 (fun e=>h.a1 x (hmem x hx) b e hb) (p3 x hx f (by simp) b hb)
 refine ⟨by simpa using hrow,fun x hx=>?_,fun x hx b hb hb'=>?_,?_,fun x hx=>?_,fun b hb=>h.nov b (hv b hb),fun x hx b hb hD=>?_,fun b hb=>⟨(h.inD b hb).1,Nat.lt_of_lt_of_le (h.inD b hb).2 hsz⟩⟩
 ·rcases List.mem_append.1 hx with hx | hx
  ·exact ⟨(h.each x (hmem x hx)).1.congr (fun _ h=>h) hDk fun b hb=>hrk x hx b (.inl hb),(h.each x (hmem x hx)).2.congr (fun _ h=>h) hDk fun b hb=>hrk x hx b (.inr hb)⟩
  ·rw [List.mem_singleton.1 hx]
   exact ⟨hk,hd⟩
 ·rcases List.mem_append.1 hx with hx | hx
  ·exact h.a1 x (hmem x hx) b (hv b hb) hb'
  ·rw [List.mem_singleton.1 hx] at hb'
   rcases hHas b hb' with q | q
   ·exact h.a1 f hfm b (hv b hb) q
   ·have:=(h.cZ2 (hv b hb)).2
    omega
 ·refine List.pairwise_append.2 ⟨p1,List.pairwise_singleton _ _,fun x hx y hy b hb hb'=>?_⟩
  rw [List.mem_singleton.1 hy] at hb'
  rcases hHas b hb' with q | q
  ·exact p3 x hx f (by simp) b hb q
  ·have:=(h.aH8 (hmem x hx) hb).2
   omega
 ·rcases List.mem_append.1 hx with hx | hx
  ·exact h.a3 x (hmem x hx)
  ·rw [List.mem_singleton.1 hx]
   exact hkd
 ·rcases List.mem_append.1 hx with hx | hx
  ·exact h.nof x (hmem x hx) b hb hD
  ·rw [List.mem_singleton.1 hx] at hb
   rcases hHas b hb with q | q
   ·exact h.nof f hfm b q hD
   ·have:=(h.inD b hD).2
    omega
/-- A frame more. -/
theorem Stk.push (h:Stk E lo D w v l) (hrow:w'.ownsRow lo 57 7 v' (l.length+1) (l.flatMap Fm.cells++f'.cells)) (hk:f'.kv=.slice none 0 0∧f'.keys=[]) (hd:f'.dv=.slice none 0 0∧f'.kids=[])
  (hv:∀ b,v'.ownBlock=some b→v.ownBlock=some b∨w.heap.size≤b) (hkeep:∀ b,b < w.heap.size→v.ownBlock≠some b→w'.heap[b]? = w.heap[b]?) (hsz:w.heap.size≤w'.heap.size):Stk E lo D w' v' (l++[f']):=by
 have hno:∀ b,¬ f'.Has b:=fun b hb=>by
  unfold Fm.Has at hb
  rw [hk.1,hd.1] at hb
  rcases hb with hb | hb <;> cases hb
 have hDk:∀ b,D b→w'.heap[b]? = w.heap[b]? := fun b hb=>hkeep b (h.inD b hb).2 (fun e=>h.nov b e hb)
 have hrk:∀ x∈l,∀ b,x.Has b→w'.heap[b]? = w.heap[b]? := fun x hx b hb=>hkeep b (h.aH8 hx hb).2 (fun e=>h.a1 x hx b e hb)
 refine ⟨by simpa using hrow,fun x hx=>?_,fun x hx b hb hb'=>?_,?_,fun x hx b hb=>?_,fun b hb hD=>?_,fun x hx b hb hD=>?_,fun b hb=>⟨(h.inD b hb).1,Nat.lt_of_lt_of_le (h.inD b hb).2 hsz⟩⟩
 ·rcases List.mem_append.1 hx with hx | hx
  ·exact ⟨(h.each x hx).1.congr (fun _ h=>h) hDk fun b hb=>hrk x hx b (.inl hb),(h.each x hx).2.congr (fun _ h=>h) hDk fun b hb=>hrk x hx b (.inr hb)⟩
  ·rw [List.mem_singleton.1 hx,hk.1,hk.2,hd.1,hd.2]
   exact ⟨uH.nil _,uH.nil _⟩
 ·rcases List.mem_append.1 hx with hx | hx
  ·rcases hv b hb with q | q
   ·exact h.a1 x hx b q hb'
   ·have:=(h.aH8 hx hb').2
    omega
  ·rw [List.mem_singleton.1 hx] at hb'
   exact hno b hb'
 ·refine List.pairwise_append.2 ⟨h.a2,List.pairwise_singleton _ _,fun x hx y hy b hb hb'=>?_⟩
  rw [List.mem_singleton.1 hy] at hb'
  exact hno b hb'
 ·rcases List.mem_append.1 hx with hx | hx
  ·exact h.a3 x hx b hb
  ·rw [List.mem_singleton.1 hx] at hb
   exact absurd (Or.inl hb) (hno b)
 ·rcases hv b hb with q | q
  ·exact h.nov b q hD
  ·have:=(h.inD b hD).2
   omega
 ·rcases List.mem_append.1 hx with hx | hx
  ·exact h.nof x hx b hb hD
  ·rw [List.mem_singleton.1 hx] at hb
   exact hno b hb
/-- The top is taken off: its rows go to the finished objects. -/
theorem Stk.pop {g cap:Nat} (h:Stk E lo D w (.slice (some ⟨g,0,none⟩) (r.length+1) cap) (r++[f])):Stk E lo (fun b=>D b∨f.Has b) w (.slice (some ⟨g,0,none⟩) r.length cap) r ∧
  RCs (fun b=>D b∨f.Has b) w [.v (.int .i64 f.kind),.v (.int .i64 0),.str [],.sl 1 (f.keys.map cS),.sl 5 f.kids] (fun j=>[Value.int .i64 f.kind,.int .i64 0,.string ⟨#[]⟩,f.kv,f.dv][j]?) 0:=by
 have hmem:∀ x∈r,x∈r++[f]:=fun x hx=>List.mem_append_left _ hx
 have hfm:f∈r++[f]:=by simp
 obtain ⟨p1,p2,p3⟩:=List.pairwise_append.1 h.a2
 refine ⟨⟨?_,fun x hx=>?_,fun x hx=>h.a1 x (hmem x hx),p1,fun x hx=>h.a3 x (hmem x hx),fun b hb hD=>?_,fun x hx b hb hD=>?_,fun b hb=>hb.elim (h.inD b) (h.aH8 hfm)⟩,?_⟩
 ·obtain ⟨h1,h2⟩:=h.row
  rcases h2 with ⟨q1,h2⟩ | ⟨g',cap',cur,q1,q2,q3,q4,q5,q6,q7⟩
  ·cases q1
  ·rw [List.length_append,List.length_singleton] at q1 q4
   cases q1
   refine ⟨kS r,.inr ⟨g,cap,cur,rfl,q2,q3,by omega,q5,q6,?_⟩⟩
   have e:r.length * 7≤(r++[f]).length * 7:=by simp; omega
   rw [← Nat.min_eq_left e,← List.take_take,q7,List.flatMap_append,List.take_left' (kS r)]
 ·exact ⟨(h.each x (hmem x hx)).1.congr (fun _ h=>.inl h) (fun _ _=>rfl) (fun _ _=>rfl),(h.each x (hmem x hx)).2.congr (fun _ h=>.inl h) (fun _ _=>rfl) (fun _ _=>rfl)⟩
 ·rcases hD with hD | hD
  ·exact h.nov b hb hD
  ·exact h.a1 f hfm b hb hD
 ·rcases hD with hD | hD
  ·exact h.nof x (hmem x hx) b hb hD
  ·exact p3 x hx f (by simp) b hb hD
 ·simp only [RCs,RD]
  exact ⟨⟨_,rfl,rfl,rfl⟩,⟨_,rfl,rfl,rfl⟩,⟨_,rfl,rfl⟩,⟨_,rfl,by simpa only [RD] using (h.each f hfm).1.rd (D':=fun b=>D b∨f.Has b) (fun _ h=>.inl h) (fun b hb=>.inr (.inl hb))⟩,⟨_,rfl,by simpa only [RD] using (h.each f hfm).2.rd (D':=fun b=>D b∨f.Has b) (fun _ h=>.inl h) (fun b hb=>.inr (.inr hb))⟩,trivial⟩
/-- The stack,read as data. -/
theorem Stk.rd (h:Stk E lo D w v l):RD (fun b=>b < w.heap.size) w (.sl 7 (l.map Fm.dat)) v:=by
 obtain ⟨h1,h2⟩:=h.row
 simp only [RD]
 rcases h2 with ⟨rfl,h2⟩ | ⟨g,cap,cur,rfl,q2,q3,q4,q5,q6,q7⟩
 ·exact .inl ⟨⟨_,rfl⟩,by rw [List.length_eq_zero_iff.1 h2]; rfl⟩
 ·refine .inr ⟨g,0,cap,cur,_,_,by rw [List.length_map],by rw [List.length_map]; exact q4,cZ q3,q3,REs.dD _ _ fun i e he=>?_⟩
  rw [List.getElem?_map,Option.map_eq_some_iff] at he
  obtain ⟨f,hf,rfl⟩:=he
  have hi:i < l.length:=(List.getElem?_eq_some_iff.1 hf).1
  have hfm:f∈l:=List.mem_of_getElem? hf
  have hg:∀ j,j < 7→cur[0+i * 7+j]? = f.cells[j]? := fun j hj=>by
   rw [Nat.zero_add,← aP0 l i j f hf hj,← q7,List.getElem?_take_of_lt (by omega),Array.getElem?_toList]
  refine ⟨rfl,?_⟩
  have o1:=(h.each f hfm).1.rd (D':=fun b=>b < w.heap.size) (fun b hb=>(h.inD b hb).2) (fun b hb=>((h.each f hfm).1.lt b hb).2)
  have o2:=(h.each f hfm).2.rd (D':=fun b=>b < w.heap.size) (fun b hb=>(h.inD b hb).2) (fun b hb=>((h.each f hfm).2.lt b hb).2)
  unfold Fm.dat
  simp only [RCs]
  refine ⟨⟨_,hg 0 (by omega),by simp [RD,Value.oneCell']⟩,⟨_,hg 1 (by omega),by simp [RD,Value.oneCell']⟩,⟨_,hg 2 (by omega),by simp [RD,strOf]⟩,⟨_,hg 3 (by omega),o1⟩,⟨_,hg 4 (by omega),o2⟩,⟨_,hg 5 (by omega),by simp [RD]⟩,⟨_,hg 6 (by omega),by simp [RD,Value.oneCell']⟩,trivial⟩
end
end Go.Vm.ObjR
