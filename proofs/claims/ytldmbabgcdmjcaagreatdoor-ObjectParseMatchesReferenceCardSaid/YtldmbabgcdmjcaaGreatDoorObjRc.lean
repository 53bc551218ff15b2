/-
  R.Object's walk by hand: given (function 23),the list's case.
-/
import Derived.Test.YtldmbabgcdmjcaaGreatDoorObjRa
import Derived.Recover
import Derived.WalkKit
import Derived.OwnWalk
import Derived.Deep.AppendLies
import Derived.Deep.RegionLaw
import Derived.Deep.RegionHeld3
import Derived.Deep.LoopGhost
import Derived.TacticsInMore
import Derived.StillTailTactics
import Derived.Test.YtldmbabgcdmjcaaGreatDoorProg
namespace Go.Vm.ObjR
open Go.Proofs
open Go.RowKit
theorem aZ0 (g j:Nat):(⟨g,0,none⟩:Addr).add j=⟨g,j,none⟩:=by
 simp only [Addr.add]
 split
 ·rename_i h
  rw [h]
 ·simp
theorem bY6 {w:World} {base e g k cp:Nat} {xs:List Value} {z0 z1 z2 z3 z4:Value} (h:w.ownsRow base e 5 (.slice (some ⟨g,0,none⟩) (k+1) cp) (k+1) (xs++[z0,z1,z2,z3,z4])) :
  (w.cell? ⟨g,k * 5,none⟩=some z0∧w.cell? ⟨g,k * 5+1,none⟩=some z1∧w.cell? ⟨g,k * 5+2,none⟩=some z2∧w.cell? ⟨g,k * 5+3,none⟩=some z3∧w.cell? ⟨g,k * 5+4,none⟩=some z4)∧(w.frozen? ⟨g,k * 5,none⟩=false∧w.frozen? ⟨g,k * 5+1,none⟩=false∧w.frozen? ⟨g,k * 5+2,none⟩=false∧w.frozen? ⟨g,k * 5+3,none⟩=false∧w.frozen? ⟨g,k * 5+4,none⟩=false):=by
 have hl:=h.1
 have hx:xs.length=k * 5:=by simp at hl; omega
 have hc:=h.cells (g:=g) rfl
 rcases h.2 with ⟨h0,_⟩ | ⟨g',cap,cur,h0,_,h2,_⟩
 ·cases h0
 ·cases h0
  have key:∀ j u,(xs++[z0,z1,z2,z3,z4])[k * 5+j]? = some u→w.cell? ⟨g,k * 5+j,none⟩=some u:=fun j u hu=>by
   have:=hc _ _ hu
   rw [aZ0] at this
   exact this
  have g5:∀ j,(xs++[z0,z1,z2,z3,z4])[k * 5+j]? = [z0,z1,z2,z3,z4][j]? := fun j=>by
   rw [List.getElem?_append_right (by omega),show k * 5+j - xs.length=j by omega]
  refine ⟨⟨key 0 _ (g5 0),key 1 _ (g5 1),key 2 _ (g5 2),key 3 _ (g5 3),key 4 _ (g5 4)⟩,?_⟩
  simp [World.frozen?,h2]
theorem dA4 {v:Value} {g0 gg N:Nat} (h:v.ownBlock≠some g0) (hlt:g0 < N) (hat:v.ownBlock=some gg∨gg=N+2):gg≠g0:=by
 rintro rfl
 rcases hat with h1 | h1
 ·exact h h1
 ·omega
theorem after {W w1:World} {base g0 n k cd gg cp:Nat} {q:Option Addr} {xs:List Value} {cur:Array Value} {c0 c1 c2 c3 c4:Value} {o:Obj} (hT:Aside ((Value.slice q k cd).ownBlock≠some g0∧W.ownsRow base 26 5 (.slice q k cd) k xs∧W.heap[g0]? = some (.cells cur 57 (0,0))∧n * 7+7≤cur.size∧cur[n * 7+4]? = some (.slice q k cd)))
  (hlt:g0 < W.heap.size) (hown1:w1.ownsRow base 26 5 (.slice (some ⟨gg,0,none⟩) (k+1) cp) (k+1) (xs++[.int .i64 0,.int .i64 0,.string ⟨#[]⟩,.slice none 0 0,.slice none 0 0])) (hgrow:(((W.alloc (.cells #[c0,c1,c2,c3,c4] 26)).alloc o).drew).grownBy w1 (Value.slice q k cd).ownBlock)
  (hat:(Value.slice q k cd).ownBlock=some gg∨gg=W.heap.size+2) :
  (w1.cell? ⟨gg,k * 5,none⟩=some (.int .i64 0)∧w1.cell? ⟨gg,k * 5+1,none⟩=some (.int .i64 0)∧w1.cell? ⟨gg,k * 5+2,none⟩=some (.string ⟨#[]⟩)∧w1.cell? ⟨gg,k * 5+3,none⟩=some (.slice none 0 0)∧w1.cell? ⟨gg,k * 5+4,none⟩=some (.slice none 0 0)) ∧
  (w1.frozen? ⟨gg,k * 5,none⟩=false∧w1.frozen? ⟨gg,k * 5+1,none⟩=false∧w1.frozen? ⟨gg,k * 5+2,none⟩=false∧w1.frozen? ⟨gg,k * 5+3,none⟩=false∧w1.frozen? ⟨gg,k * 5+4,none⟩=false) ∧
  w1.cell? ⟨g0,n * 7+4,none⟩=some (.slice q k cd)∧w1.frozen? ⟨g0,n * 7+4,none⟩=false ∧
  (w1.cell? ⟨W.heap.size,0,none⟩=some c0∧w1.cell? ⟨W.heap.size,1,none⟩=some c1∧w1.cell? ⟨W.heap.size,2,none⟩=some c2∧w1.cell? ⟨W.heap.size,3,none⟩=some c3∧w1.cell? ⟨W.heap.size,4,none⟩=some c4)∧gg≠g0∧gg≠W.heap.size:=by
 obtain ⟨h1,h2,h3,h4,h5⟩:=hT
 obtain ⟨a,b⟩:=bY6 hown1
 have hg:w1.heap[g0]? = some (.cells cur 57 (0,0)):=(hgrow.block g0 (by show g0 < ((W.alloc _).alloc _).heap.size; rw [World.size_alloc,World.size_alloc]; omega) (Ne.symm h1)).trans ((Below.heap_alloc _ _ _ (by rw [World.size_alloc]; omega)).trans ((Below.heap_alloc _ _ _ hlt).trans h3))
 have hb:w1.heap[W.heap.size]? = some (.cells #[c0,c1,c2,c3,c4] 26 (0,0)):=(hgrow.block W.heap.size (by show W.heap.size < ((W.alloc _).alloc _).heap.size; rw [World.size_alloc,World.size_alloc]; omega) (fun e=>by have:=(h2.lt _ e.symm).2; omega)).trans ((Below.heap_alloc _ _ _ (by rw [World.size_alloc]; omega)).trans (heap_alloc_new _ _))
 refine ⟨a,b,by simp [World.cell?,hg,h5],by simp [World.frozen?,hg],by simp [World.cell?,hb],dA4 h1 hlt hat,hat.elim (fun h=>Nat.ne_of_lt (h2.lt _ h).2) fun h=>by omega⟩
theorem fK {w:World} {g j:Nat} {cur:Array Value} {e:TypeId} {fz:Nat×Nat} {u:Value} (h:w.heap[g]? = some (.cells cur e fz)):(w.setCell ⟨g,j,none⟩ u).heap[g]? = some (.cells (cur.setIfInBounds j u) e fz):=by
 unfold World.setCell
 simp only [Array.getElem?_modify,if_pos,h,Option.map_some,Option.isSome_none,Bool.false_eq_true,if_false]
theorem iL {w:World} {base e g n cp sz j:Nat} {xs:List Value} {u:Value} (h:w.ownsRow base e sz (.slice (some ⟨g,0,none⟩) n cp) n xs) (hj:j < n * sz):(w.setCell ⟨g,j,none⟩ u).ownsRow base e sz (.slice (some ⟨g,0,none⟩) n cp) n (xs.set j u):=by
 obtain ⟨h1,h2⟩:=h
 refine ⟨by rw [List.length_set]; exact h1,?_⟩
 rcases h2 with ⟨h0,_⟩ | ⟨g',cap,cur,h0,h3,h4,h5,h6,h7,h8⟩
 ·cases h0
 ·cases h0
  refine .inr ⟨g,cp,cur.setIfInBounds j u,rfl,h3,fK h4,h5,h6,by rw [Array.size_setIfInBounds]; exact h7,?_⟩
  rw [Array.toList_setIfInBounds,List.take_set,h8]
theorem bN0 {W w1:World} {base g0 n k cd gg cp:Nat} {q:Option Addr} {xs:List Value} {cur:Array Value} {c0 c1 c2 c3 c4 u0 u1 u2 u3 u4:Value} {o:Obj} (hT:Aside ((Value.slice q k cd).ownBlock≠some g0∧W.ownsRow base 26 5 (.slice q k cd) k xs∧W.heap[g0]? = some (.cells cur 57 (0,0))∧n * 7+7≤cur.size∧cur[n * 7+4]? = some (.slice q k cd)))
  (hlt:g0 < W.heap.size) (hown1:w1.ownsRow base 26 5 (.slice (some ⟨gg,0,none⟩) (k+1) cp) (k+1) (xs++[.int .i64 0,.int .i64 0,.string ⟨#[]⟩,.slice none 0 0,.slice none 0 0])) (hgrow:(((W.alloc (.cells #[c0,c1,c2,c3,c4] 26)).alloc o).drew).grownBy w1 (Value.slice q k cd).ownBlock)
  (hat:(Value.slice q k cd).ownBlock=some gg∨gg=W.heap.size+2) (hbase:base≤W.heap.size) (hb0:base≤g0) :
  ((((((w1.setCell ⟨gg,k * 5,none⟩ u0).setCell ⟨gg,k * 5+1,none⟩ u1).setCell ⟨gg,k * 5+2,none⟩ u2).setCell ⟨gg,k * 5+3,none⟩ u3).setCell ⟨gg,k * 5+4,none⟩ u4).setCell ⟨g0,n * 7+4,none⟩ (.slice (some ⟨gg,0,none⟩) (k+1) cp)).ownsRow base 26 5 (.slice (some ⟨gg,0,none⟩) (k+1) cp) (k+1) (xs++[u0,u1,u2,u3,u4]) ∧
  ((Value.slice q k cd).ownBlock=some gg∨W.heap.size≤gg) ∧
  ((((((w1.setCell ⟨gg,k * 5,none⟩ u0).setCell ⟨gg,k * 5+1,none⟩ u1).setCell ⟨gg,k * 5+2,none⟩ u2).setCell ⟨gg,k * 5+3,none⟩ u3).setCell ⟨gg,k * 5+4,none⟩ u4).setCell ⟨g0,n * 7+4,none⟩ (.slice (some ⟨gg,0,none⟩) (k+1) cp)).heap[g0]? = some (.cells (cur.setIfInBounds (n * 7+4) (.slice (some ⟨gg,0,none⟩) (k+1) cp)) 57 (0,0)) ∧
  (∀ b,b < W.heap.size→b≠g0→some b≠(Value.slice q k cd).ownBlock→((((((w1.setCell ⟨gg,k * 5,none⟩ u0).setCell ⟨gg,k * 5+1,none⟩ u1).setCell ⟨gg,k * 5+2,none⟩ u2).setCell ⟨gg,k * 5+3,none⟩ u3).setCell ⟨gg,k * 5+4,none⟩ u4).setCell ⟨g0,n * 7+4,none⟩ (.slice (some ⟨gg,0,none⟩) (k+1) cp)).heap[b]? = W.heap[b]?) ∧
  Below base W ((((((w1.setCell ⟨gg,k * 5,none⟩ u0).setCell ⟨gg,k * 5+1,none⟩ u1).setCell ⟨gg,k * 5+2,none⟩ u2).setCell ⟨gg,k * 5+3,none⟩ u3).setCell ⟨gg,k * 5+4,none⟩ u4).setCell ⟨g0,n * 7+4,none⟩ (.slice (some ⟨gg,0,none⟩) (k+1) cp)):=by
 have ha:=after hT hlt hown1 hgrow hat
 obtain ⟨h1,h2,h3,h4,h5⟩:=hT
 have hgg:=ha.2.2.2.2.2.1
 have hsz2:((W.alloc (.cells #[c0,c1,c2,c3,c4] 26)).alloc o).drew.heap.size=W.heap.size+2:=by show ((W.alloc _).alloc _).heap.size=_; rw [World.size_alloc,World.size_alloc]
 have hold:∀ b,b < W.heap.size→some b≠(Value.slice q k cd).ownBlock→w1.heap[b]? = W.heap[b]? := fun b hb hn =>
  (hgrow.block b (by rw [hsz2]; omega) hn).trans ((Below.heap_alloc _ _ _ (by rw [World.size_alloc]; omega)).trans (Below.heap_alloc _ _ _ hb))
 have hgb:base≤gg:=hat.elim (fun h=>(h2.lt _ h).1) fun h=>by omega
 have hx:xs.length=k * 5:=h2.1
 have five:∀ b,b≠gg→(((((w1.setCell ⟨gg,k * 5,none⟩ u0).setCell ⟨gg,k * 5+1,none⟩ u1).setCell ⟨gg,k * 5+2,none⟩ u2).setCell ⟨gg,k * 5+3,none⟩ u3).setCell ⟨gg,k * 5+4,none⟩ u4).heap[b]? = w1.heap[b]? := fun b hb=>by
  rw [Below.heap_setCell _ _ _ _ hb,Below.heap_setCell _ _ _ _ hb,Below.heap_setCell _ _ _ _ hb,Below.heap_setCell _ _ _ _ hb,Below.heap_setCell _ _ _ _ hb]
 refine ⟨?_,hat.imp id fun h=>by omega,fK ((five g0 (Ne.symm hgg)).trans ((hold g0 hlt (Ne.symm h1)).trans h3)),fun b hb hbg hbn=>?_,?_⟩
 ·have o5:=iL (u:=u4) (j:=k * 5+4) (iL (u:=u3) (j:=k * 5+3) (iL (u:=u2) (j:=k * 5+2) (iL (u:=u1) (j:=k * 5+1) (iL (u:=u0) (j:=k * 5) hown1 (by omega)) (by omega)) (by omega)) (by omega)) (by omega)
  have e:(((((xs++[Value.int .i64 0,Value.int .i64 0,Value.string ⟨#[]⟩,Value.slice none 0 0,Value.slice none 0 0]).set (k * 5) u0).set (k * 5+1) u1).set (k * 5+2) u2).set (k * 5+3) u3).set (k * 5+4) u4=xs++[u0,u1,u2,u3,u4]:=by
   rw [← hx]
   simp [List.set_append]
  rw [e] at o5
  exact jD o5 fun b hb=>Below.heap_setCell _ _ _ _ (by cases hb; exact hgg)
 ·rw [Below.heap_setCell _ _ _ _ hbg,five b (fun e=>by subst e; exact hat.elim (fun h=>hbn h.symm) fun h=>by omega),hold b hb hbn]
 ·refine ((((((⟨hgrow.os,hgrow.tape,hgrow.output,by have:=hgrow.size; rw [hsz2] at this; omega,fun b hb=>hold b (by omega) fun e=>by have:=(h2.lt _ e.symm).1; omega⟩:Below base W w1).setCell hgb _).setCell hgb _).setCell hgb _).setCell hgb _).setCell hgb _).setCell hb0 _
theorem iV (w:World) {a b:Nat} (h:a≠b) (i j:Nat) (u v:Value):(w.setCell ⟨a,i,none⟩ u).setCell ⟨b,j,none⟩ v=(w.setCell ⟨b,j,none⟩ v).setCell ⟨a,i,none⟩ u:=by
 unfold World.setCell
 congr 1
 apply Array.ext'
 apply List.ext_getElem?
 intro k
 simp only [Array.getElem?_toList,Array.getElem?_modify]
 by_cases h1:a=k
 ·subst h1
  simp [Ne.symm h]
 ·by_cases h2:b=k
  ·simp [h1,h2]
  ·simp [h1,h2]
/-- What stands behind the region of an append. -/
def Fin (W w2:World) (base g0 n k gg cp:Nat) (dv:Value) (cur:Array Value) (ys:List Value):Prop :=
 w2.ownsRow base 26 5 (.slice (some ⟨gg,0,none⟩) (k+1) cp) (k+1) ys∧(dv.ownBlock=some gg∨W.heap.size≤gg)∧w2.heap[g0]? = some (.cells (cur.setIfInBounds (n * 7+4) (.slice (some ⟨gg,0,none⟩) (k+1) cp)) 57 (0,0)) ∧
  (∀ b,b < W.heap.size→b≠g0→some b≠dv.ownBlock→w2.heap[b]? = W.heap[b]?)∧Below base W w2
theorem cA2 {W w1:World} {base g0 n k cd gg cp:Nat} {q:Option Addr} {xs:List Value} {cur:Array Value} {c0 c1 c2 c3 c4 u0 u1 u2 u3 u4:Value} {o:Obj} (hT:Aside ((Value.slice q k cd).ownBlock≠some g0∧W.ownsRow base 26 5 (.slice q k cd) k xs∧W.heap[g0]? = some (.cells cur 57 (0,0))∧n * 7+7≤cur.size∧cur[n * 7+4]? = some (.slice q k cd)))
  (hlt:g0 < W.heap.size) (hown1:w1.ownsRow base 26 5 (.slice (some ⟨gg,0,none⟩) (k+1) cp) (k+1) (xs++[.int .i64 0,.int .i64 0,.string ⟨#[]⟩,.slice none 0 0,.slice none 0 0])) (hgrow:(((W.alloc (.cells #[c0,c1,c2,c3,c4] 26)).alloc o).drew).grownBy w1 (Value.slice q k cd).ownBlock)
  (hat:(Value.slice q k cd).ownBlock=some gg∨gg=W.heap.size+2) (hbase:base≤W.heap.size) (hb0:base≤g0) (hgg:gg≠g0) :
  Fin W ((((((w1.setCell ⟨g0,n * 7+4,none⟩ (.slice (some ⟨gg,0,none⟩) (k+1) cp)).setCell ⟨gg,k * 5,none⟩ u0).setCell ⟨gg,k * 5+1,none⟩ u1).setCell ⟨gg,k * 5+2,none⟩ u2).setCell ⟨gg,k * 5+3,none⟩ u3).setCell ⟨gg,k * 5+4,none⟩ u4) base g0 n k gg cp (.slice q k cd) cur (xs++[u0,u1,u2,u3,u4]):=by
 rw [iV _ (Ne.symm hgg),iV _ (Ne.symm hgg),iV _ (Ne.symm hgg),iV _ (Ne.symm hgg),iV _ (Ne.symm hgg)]
 exact bN0 hT hlt hown1 hgrow hat hbase hb0
theorem cG6 {A G:Nat→Nat→World→Prop} {C:Prop} (h1:(∀ gg cp w2,A gg cp w2→G gg cp w2)→C) (h2:∀ gg cp w2,A gg cp w2→G gg cp w2):C:=h1 h2
theorem cL9:(Tryz.prog.info? 26).map (fun i=>(i.zero,i.size,i.bytes))=some (some (.agg #[.int .i64 0,.int .i64 0,.string ⟨#[]⟩,.slice none 0 0,.slice none 0 0]),5,80):=by kernel_rfl
set_option maxRecDepth 100000 in
set_option maxHeartbeats 4000000 in
theorem bP7 {W:World} {base g0 n m cap k:Nat} {dv:Value} {xs:List Value} {cur:Array Value} {z0 z1:Int} {s2:ByteArray} {q3 q4:Option Addr} {l3 p3 l4 p4:Nat}
    (hrow:W.heap[g0]? = some (.cells cur 57 (0,0))) (hm:m=n * 7) (hsz:m+7≤cur.size) (hk:cur[m]? = some (.int .i64 6)) (hd:cur[m+4]? = some dv) (hown:W.ownsRow base 26 5 dv k xs) (hne:dv.ownBlock≠some g0)
    (hkb:k+1≤1000000) (hnb:n≤1000000) (hbase:base≤W.heap.size) (hb0:base≤g0) :
    Calls Tryz.prog 23 #[.slice (some ⟨g0,0,none⟩) (n+1) cap,.agg #[.int .i64 z0,.int .i64 z1,.string s2,.slice q3 l3 p3,.slice q4 l4 p4]] W fun e W'=>∃ gg cp,e=.returned (.tuple #[])∧W'.ownsRow base 26 5 (.slice (some ⟨gg,0,none⟩) (k+1) cp) (k+1) (xs++[.int .i64 z0,.int .i64 z1,.string s2,.slice q3 l3 p3,.slice q4 l4 p4]) ∧
      (dv.ownBlock=some gg∨W.heap.size≤gg)∧W'.heap[g0]? = some (.cells (cur.setIfInBounds (m+4) (.slice (some ⟨gg,0,none⟩) (k+1) cp)) 57 (0,0))∧(∀ b,b < W.heap.size→b≠g0→some b≠dv.ownBlock→W'.heap[b]? = W.heap[b]?)∧Below base W W':=by
  obtain ⟨i0,hi0,hz0,hz1,hz2⟩:=info_parts cL9
  have hwn:wrap64 (n:Int)=n:=by unfold wrap64; omega
  have hn0:(0:Int)≤(n:Int):=Int.natCast_nonneg _
  have hn1:(n:Int) < (n:Int)+1:=by omega
  subst hm
  obtain ⟨q,cd,rfl⟩:∃ q cd,dv=.slice q k cd:=by
    rcases hown.2 with ⟨h,h'⟩ | ⟨g,cp,cu,h,_⟩
    · exact ⟨none,0,by rw [h,h']⟩
    · exact ⟨_,cp,h⟩
  have hk0:(0:Int)≤(k:Int):=Int.natCast_nonneg _
  have hk1:(k:Int) < (k:Int)+1:=by omega
  have hlt:=cZ hrow
  have hrowA:(W.alloc (.cells #[.int .i64 z0,.int .i64 z1,.string s2,.slice q3 l3 p3,.slice q4 l4 p4] 26)).heap[g0]? = some (.cells cur 57 (0,0)):=(Below.heap_alloc _ _ _ hlt).trans hrow
  have hc0:(W.alloc (.cells #[.int .i64 z0,.int .i64 z1,.string s2,.slice q3 l3 p3,.slice q4 l4 p4] 26)).cell? ⟨g0,n * 7,none⟩=some (.int .i64 6):=by simp [World.cell?,hrowA,hk]
  have hc4:(W.alloc (.cells #[.int .i64 z0,.int .i64 z1,.string s2,.slice q3 l3 p3,.slice q4 l4 p4] 26)).cell? ⟨g0,n * 7+4,none⟩=some (.slice q k cd):=by simp [World.cell?,hrowA,hd]
  have hf4:(W.alloc (.cells #[.int .i64 z0,.int .i64 z1,.string s2,.slice q3 l3 p3,.slice q4 l4 p4] 26)).frozen? ⟨g0,n * 7+4,none⟩=false:=by simp [World.frozen?,hrowA]
  have hf4a:∀ o,((W.alloc (.cells #[.int .i64 z0,.int .i64 z1,.string s2,.slice q3 l3 p3,.slice q4 l4 p4] 26)).alloc o).frozen? ⟨g0,n * 7+4,none⟩=false:=fun o=>by
    have:=(Below.heap_alloc (W.alloc (.cells #[.int .i64 z0,.int .i64 z1,.string s2,.slice q3 l3 p3,.slice q4 l4 p4] 26)) o g0 (cZ hrowA)).trans hrowA
    simp [World.frozen?,this]
  have hc4b:∀ o,((W.alloc (.cells #[.int .i64 z0,.int .i64 z1,.string s2,.slice q3 l3 p3,.slice q4 l4 p4] 26)).alloc o).drew.cell? ⟨g0,n * 7+4,none⟩=some (.slice q k cd):=fun o=>by
    have:((W.alloc (.cells #[.int .i64 z0,.int .i64 z1,.string s2,.slice q3 l3 p3,.slice q4 l4 p4] 26)).alloc o).drew.heap[g0]? = _:=(Below.heap_alloc (W.alloc (.cells #[.int .i64 z0,.int .i64 z1,.string s2,.slice q3 l3 p3,.slice q4 l4 p4] 26)) o g0 (cZ hrowA)).trans hrowA
    simp [World.cell?,this,hd]
  have hf4b:∀ o,((W.alloc (.cells #[.int .i64 z0,.int .i64 z1,.string s2,.slice q3 l3 p3,.slice q4 l4 p4] 26)).alloc o).drew.frozen? ⟨g0,n * 7+4,none⟩=false:=fun o=>hf4a o
  have hT:Aside ((Value.slice q k cd).ownBlock≠some g0∧W.ownsRow base 26 5 (.slice q k cd) k xs∧W.heap[g0]? = some (.cells cur 57 (0,0))∧n * 7+7≤cur.size∧cur[n * 7+4]? = some (.slice q k cd)):=⟨hne,hown,hrow,hsz,hd⟩
  clear hk hd hown hne hrow hrowA hsz
  go_enter Tryz.func23,Tryz.ntmps23
  go_wp2_with fail
  apply cG6 (A:=fun gg cp w2=>Fin W w2 base g0 n k gg cp (.slice q k cd) cur (xs++[.int .i64 z0,.int .i64 z1,.string s2,.slice q3 l3 p3,.slice q4 l4 p4]))
  case h1 =>
    intro key
    go_region_law
      ((refine step_append_lies _ (by rfl) _ _ _ (by rfl) base 26 i0 _ 5 80 Tryz.underlying24 hi0 hz0 hz1 hz2 rfl (by omega) (.slice q k cd) k xs (by rfl) (((hT.out.2.1.alloc _).alloc _).drew)
          ⟨W.heap.size+1,0,none⟩ 1 1 [.int .i64 0,.int .i64 0,.string ⟨#[]⟩,.slice none 0 0,.slice none 0 0] (by rfl) (by rfl) (World.news_of_block (cs:=#[.int .i64 0,.int .i64 0,.string ⟨#[]⟩,.slice none 0 0,.slice none 0 0]) (t:=26) (fr:=(0,0)) (show (((W.alloc (.cells #[.int .i64 z0,.int .i64 z1,.string s2,.slice q3 l3 p3,.slice q4 l4 p4] 26)).alloc (.cells #[.int .i64 0,.int .i64 0,.string ⟨#[]⟩,.slice none 0 0,.slice none 0 0] 26)).drew).heap[W.heap.size+1]? = _ by have:=heap_alloc_new (W.alloc (.cells #[.int .i64 z0,.int .i64 z1,.string s2,.slice q3 l3 p3,.slice q4 l4 p4] 26)) (.cells #[.int .i64 0,.int .i64 0,.string ⟨#[]⟩,.slice none 0 0,.slice none 0 0] 26); rw [World.size_alloc] at this; exact this)) (by simp [Value.oneCell'])
          (by omega) (by simp [maxLen]; omega) (by omega) (by simp; omega) (W.heap.size+2) (by simp) ?_; intro gg cp w1 hown1 hgrow hat hlt1; obtain ⟨⟨e0,e1,e2,e3,e4⟩,⟨f0,f1,f2,f3,f4⟩,eg,fg,⟨b0,b1,b2,b3,b4⟩,hgg,hgb⟩:=after hT hlt hown1 hgrow hat))
    all_goals (try clear e0 e1 e2 e3 e4 f0 f1 f2 f3 f4 eg fg b0 b1 b2 b3 b4)
    all_goals
      first
      | (have hf:=bN0 (u0:=.int .i64 z0) (u1:=.int .i64 z1) (u2:=.string s2) (u3:=.slice q3 l3 p3) (u4:=.slice q4 l4 p4) hT hlt hown1 hgrow hat hbase hb0
         change Fin W _ base g0 n k gg cp (.slice q k cd) cur _ at hf
         revert hf
         generalize World.setCell _ _ (.slice (some ⟨gg,0,none⟩) (k+1) cp)=w2
         intro hf
         with_reducible exact key gg cp w2 hf)
      | (have hf:=cA2 (u0:=.int .i64 z0) (u1:=.int .i64 z1) (u2:=.string s2) (u3:=.slice q3 l3 p3) (u4:=.slice q4 l4 p4) hT hlt hown1 hgrow hat hbase hb0 hgg
         revert hf
         generalize World.setCell _ _ (.slice q4 l4 p4)=w2
         intro hf
         with_reducible exact key gg cp w2 hf)
  case h2 =>
    rintro gg cp w1 ⟨r1,r2,r3,r4,r5⟩
    go_wp2
    (try simp only [Exit.inBlock,Exit.then])
    refine bodyPost_ret (results_none (by rfl) _ _ _) (by rfl) ?_
    exact ⟨gg,cp,rfl,r1,r2,r3,r4,r5⟩
end Go.Vm.ObjR
