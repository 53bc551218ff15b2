/-
  pagefile.copied,by hand: clones,and rows of data whose cells are put anew (as for list.copied).
-/
import Derived.WalkKit
import Derived.Deep.LoopGhost
import Derived.Test.YtgonfionbbhmkaaGreatDoorVmD
import Derived.Test.YtgonfionbbhmkaaGreatDoorProg
import Derived.Test.YtgonfionbbhmkaaGreatDoorF
import Derived.Deep.MidRow
namespace Go.Vm.PgfG
open Go.Proofs
open Go.RowKit
theorem cell_of {w:World} {b:Nat} {arr:Array Value} {E:TypeId} {fz:Nat×Nat} (h:w.heap[b]? = some (.cells arr E fz)) (i:Nat):w.cell? ⟨b,i,none⟩=arr[i]? := by simp [World.cell?,h]
theorem aS7 (w:World) (b i:Nat) (u:Value) {arr:Array Value} {E:TypeId} {fz:Nat×Nat} (h:w.heap[b]? = some (.cells arr E fz)):(w.setCell ⟨b,i,none⟩ u).heap[b]? = some (.cells (arr.setIfInBounds i u) E fz):=by
 unfold World.setCell
 simp [Array.getElem?_modify,h]
/-- What a clone hands back. -/
theorem bF5 {k κ sz:Nat} {es:List (List Dat)} (hc:aG Tryz.prog k [.d (.sl sz es)] [] (.own κ sz es) []) (w:World) {D:Nat→Prop} (hD:∀ b,D b→b < w.heap.size) {u:Value} (hu:RD D w (.sl sz es) u) :
  Calls Tryz.prog k #[u] w fun e w'=>∃ v D',e=.returned v∧Below w.heap.size w w'∧(∀ b,D b→D' b)∧(∀ b,D' b→b < w'.heap.size∧(D b∨w.heap.size≤b))∧OwnAt D' w' v κ sz es∧∀ b,blk v=some b→¬ D' b∧w.heap.size≤b:=by
 refine (cZ2 (us:=[u]) hc rfl (show 1 < aS by decide) rfl hD ⟨hu,trivial⟩).mono ?_
 rintro e W' ⟨v,S',β',rfl,h⟩
 have hv:v=β' (aS,0)∧OwnAt S' W' v κ sz es:=h.val
 refine ⟨v,S',rfl,h.below,h.sub,h.bnd,hv.2,fun b hb=>h.own 0 b rfl (by rw [← hv.1]; exact hb)⟩
/-- A row that is owned,opened. -/
structure aH8 (D:Nat→Prop) (w:World) (R off:Nat) (arr:Array Value) (E:TypeId) (fz:Nat×Nat) (sz:Nat) (es:List (List Dat)):Prop where
 size:off+es.length * sz≤arr.size
 fzo:aR2 fz arr.size
 at_:w.heap[R]? = some (.cells arr E fz)
 cs:REs D w sz es (fun j=>arr[j]?) off
theorem aH8.cell {D:Nat→Prop} {w:World} {R off:Nat} {arr:Array Value} {E:TypeId} {fz:Nat×Nat} {sz:Nat} {es:List (List Dat)} (h:aH8 D w R off arr E fz sz es) {i k:Nat} {e:List Dat} {x:Dat} (he:es[i]? = some e) (hx:e[k]? = some x) :
  ∃ u,w.cell? ⟨R,off+i * sz+k,none⟩=some u∧RD D w x u∧w.frozen? ⟨R,off+i * sz+k,none⟩=false∧off+i * sz+k < arr.size:=by
 obtain ⟨h1,h2⟩:=REs.get es off i e h.cs he
 obtain ⟨u,h3,h4⟩:=RCs.get e (off+i * sz) k x h2 hx
 have hlt:off+i * sz+k < arr.size:=by
  rcases Nat.lt_or_ge (off+i * sz+k) arr.size with h' | h'
  ·exact h'
  ·rw [Array.getElem?_eq_none h'] at h3; cases h3
 refine ⟨u,by rw [cell_of h.at_]; exact h3,h4,?_,hlt⟩
 have:=h.fzo.out _ hlt
 simp only [World.frozen?,h.at_]
 simpa using this
theorem aH8.mono {D D':Nat→Prop} {w w':World} {R off:Nat} {arr:Array Value} {E:TypeId} {fz:Nat×Nat} {sz:Nat} {es:List (List Dat)} (h:aH8 D w R off arr E fz sz es) (hs:∀ b,D b→D' b) (ha:Agree D w w') (hR:w'.heap[R]? = w.heap[R]?):aH8 D' w' R off arr E fz sz es :=
 ⟨h.size,h.fzo,hR.trans h.at_,REs.mono hs ha sz es _ _ h.cs⟩
/-- A cell is put anew by a value of the same datum. -/
theorem aH8.put {D:Nat→Prop} {w:World} {R off:Nat} {arr:Array Value} {E:TypeId} {fz:Nat×Nat} {sz:Nat} {es:List (List Dat)} (h:aH8 D w R off arr E fz sz es) (hR:¬ D R) {i k:Nat} {e:List Dat} {x:Dat} (he:es[i]? = some e) (hx:e[k]? = some x) {u:Value} (hu:RD D w x u) :
  aH8 D (w.setCell ⟨R,off+i * sz+k,none⟩ u) R off (arr.setIfInBounds (off+i * sz+k) u) E fz sz es:=by
 have hag:Agree D w (w.setCell ⟨R,off+i * sz+k,none⟩ u):=fun b hb=>Below.heap_setCell _ _ _ _ (fun e=>hR (by have e:b=R:=e; rw [← e]; exact hb))
 refine ⟨by simpa using h.size,by simpa using h.fzo,aS7 _ _ _ _ h.at_,REs.dJ es off fun j e' he'=>?_⟩
 obtain ⟨h1,h2⟩:=REs.get es off j e' h.cs he'
 refine ⟨h1,RCs.dJ e' _ fun l y hy=>?_⟩
 obtain ⟨v,hv,hr⟩:=RCs.get e' (off+j * sz) l y h2 hy
 have hk:k < sz:=by rw [← (REs.get es off i e h.cs he).1]; exact (List.getElem?_eq_some_iff.1 hx).1
 have hl:l < sz:=by rw [← h1]; exact (List.getElem?_eq_some_iff.1 hy).1
 by_cases hjl:off+i * sz+k=off+j * sz+l
 ·have hij:i=j:=by
   rcases Nat.lt_trichotomy i j with h' | h' | h'
   ·have:(i+1) * sz≤j * sz:=Nat.mul_le_mul_right sz h'
    rw [Nat.add_mul] at this; omega
   ·exact h'
   ·have:(j+1) * sz≤i * sz:=Nat.mul_le_mul_right sz h'
    rw [Nat.add_mul] at this; omega
  subst hij
  have hkl:k=l:=by omega
  subst hkl
  rw [he] at he'
  cases he'
  rw [hx] at hy
  cases hy
  refine ⟨u,?_,RD.mono (fun _ h=>h) hag _ _ hu⟩
  have:off+i * sz+k < arr.size:=by
   rcases Nat.lt_or_ge (off+i * sz+k) arr.size with h' | h'
   ·exact h'
   ·simp only [Array.getElem?_eq_none h'] at hv; cases hv
  simp [this]
 ·refine ⟨v,?_,RD.mono (fun _ h=>h) hag _ _ hr⟩
  show (arr.setIfInBounds _ u)[_]? = _
  rw [Array.getElem?_setIfInBounds_ne hjl]
  exact hv
theorem cD2 {D:Nat→Prop} {w:World} {v:Value} {κ:TypeId} {sz:Nat} {es:List (List Dat)} (h:OwnAt D w v κ sz es) (hne:es≠[]):∃ R off c arr E fz,v=.slice (some ⟨R,off,none⟩) es.length c∧es.length≤c∧aH8 D w R off arr E fz sz es:=by
 rcases h with ⟨rfl,h⟩ | ⟨b,off,c,arr,E,fz,rfl,h1,h2,h3,h4,h5,h6⟩
 ·exact absurd h hne
 ·refine ⟨b,off,c,arr,E,fz,rfl,h1,?_,h3,h4,h6⟩
  have:=Nat.mul_le_mul_right sz h1
  omega
end Go.Vm.PgfG
namespace Go.Vm.PgfG
open Go.Proofs
open Go.RowKit
abbrev bF6:List Dat:=aA.flatMap (cI .u64)
theorem rd_some {S:Nat→Prop} {w:World} {sz:Nat} {e:List Dat} {es:List (List Dat)} {v:Value} (h:RD S w (.sl sz (e :: es)) v):∃ b off c arr E fz,v=.slice (some ⟨b,off,none⟩) (es.length+1) c∧S b∧w.heap[b]? = some (.cells arr E fz)∧REs S w sz (e :: es) (fun j=>arr[j]?) off:=by
 simp only [RD] at h
 rcases h with ⟨_,h⟩ | ⟨b,off,c,arr,E,fz,rfl,h1,h2,h3,h4⟩
 ·cases h
 ·exact ⟨b,off,c,arr,E,fz,rfl,h2,h3,h4⟩
theorem bL0 {k:Nat} (h:iY Tryz.prog k) (args:Array Value) (W:World):(callFunc k args).run Tryz.prog W=.ok (.enter k args) W:=by
 obtain ⟨fn,h1,h2,h3⟩:=h
 simp only [callFunc,Sem.run_bind,run_program,Result.andThen_ok,h1,h3,Bool.false_eq_true,if_false,h2,Sem.run_pure]
theorem keep {w0 w:World} {b:Nat} {o:Obj} (hw:Below w0.heap.size w0 w) (h:w0.heap[b]? = some o):w.heap[b]? = some o:=(hw.block _ (iT h)).trans h
theorem aM0 {α:Type} {f:α→List Dat} {D:Nat→Prop} {w:World} {sz:Nat} {l:List α} {v:Value} (h:RD D w (.sl sz (l.map f)) v):∃ q c,v=.slice q l.length c:=by
 simp only [RD] at h
 rcases h with ⟨⟨q,rfl⟩,h⟩ | ⟨b,off,c,arr,E,fz,rfl,_⟩
 ·obtain rfl:=List.map_eq_nil_iff.1 h
  exact ⟨q,0,rfl⟩
 ·exact ⟨_,c,by rw [List.length_map]⟩
theorem aZ1 {D:Nat→Prop} {w:World} {num:Int} {o:aC} {dt:List UInt8} {g:Nat→Option Value} {i:Nat} (h:REs D w 7 [aF ⟨num,o,dt⟩] g i) :
  ∃ kv qv,g i=some (.int .i64 num)∧g (i+1)=some (.int .i64 o.f0)∧g (i+2)=some (.int .i64 o.f1)∧g (i+3)=some (.string ⟨o.f2.toArray⟩)∧g (i+4)=some kv∧RD D w (.sl 1 (o.f3.map cS)) kv∧g (i+5)=some qv∧RD D w (.sl 5 (o.f4.map bD)) qv∧g (i+6)=some (.string ⟨dt.toArray⟩):=by
 simp only [REs] at h
 obtain ⟨-,h,-⟩:=h
 change RCs D w [.v (.int .i64 num),.v (.int .i64 o.f0),.v (.int .i64 o.f1),.str o.f2,.sl 1 (o.f3.map cS),.sl 5 (o.f4.map bD),.str dt] g i at h
 simp only [RCs,zS] at h
 obtain ⟨⟨a0,g0,rfl,-⟩,⟨a1,g1,rfl,-⟩,⟨a2,g2,rfl,-⟩,⟨a3,g3,h3⟩,⟨a4,g4,h4⟩,⟨a5,g5,h5⟩,⟨a6,g6,h6⟩,-⟩:=h
 simp only [RD] at h3 h6
 have e3:a3=.string ⟨o.f2.toArray⟩:=h3
 have e6:a6=.string ⟨dt.toArray⟩:=h6
 subst e3
 subst e6
 exact ⟨a4,a5,g0,g1,g2,g3,g4,h4,g5,h5,g6⟩
theorem cW5 {o:Nat} {vs l:List Value} {k:Nat} (h:k < o) (hl:o≤l.length):(spl o vs l)[k]? = l[k]? := by
 unfold spl
 rw [List.append_assoc,List.getElem?_append_left (by rw [List.length_take]; omega),List.getElem?_take,if_pos h]
theorem aX7 {o:Nat} {vs l:List Value} {j:Nat} (h:j < vs.length) (hl:o≤l.length):(spl o vs l)[o+j]? = vs[j]? := by
 unfold spl
 have e:(l.take o).length=o:=by rw [List.length_take]; omega
 rw [List.append_assoc,List.getElem?_append_right (by omega),e,Nat.add_sub_cancel_left,List.getElem?_append_left h]
theorem cZ9 {o:Nat} {vs l:List Value} {k:Nat} (h:o+vs.length≤k) (hl:o+vs.length≤l.length):(spl o vs l)[k]? = l[k]? := by
 unfold spl
 have e:(l.take o).length=o:=by rw [List.length_take]; omega
 rw [List.append_assoc,List.getElem?_append_right (by omega),e,List.getElem?_append_right (by omega),List.getElem?_drop]
 congr 1
 omega
/-- What Get hands back. -/
theorem cF3 {ee:Int} {S:Nat→Prop} {w:World} {β:Path→Value} {y:aC} {v:Value} (h:dV (dN []) S w β aS (.tup [.agg (aZ y),.d (.v (.int .i64 ee))]) v) :
  ∃ p c q d,v=.tuple #[.agg #[.int .i64 y.f0,.int .i64 y.f1,.string ⟨y.f2.toArray⟩,.slice p y.f3.length c,.slice q y.f4.length d],.int .i64 ee]∧RD S w (.sl 1 (y.f3.map cS)) (.slice p y.f3.length c)∧RD S w (.sl 5 (y.f4.map bD)) (.slice q y.f4.length d):=by
 obtain ⟨l,rfl,-,hp⟩:=h
 match l,hp with
 | [a,b],hp =>
  obtain ⟨h1,h2,-⟩:=hp
  have e2:b=.int .i64 ee:=by
   have:=h2
   simp only [bA,RD] at this
   exact this.1
  obtain ⟨m,rfl,hm,hc⟩:=h1
  change RCs S w [.v (.int .i64 y.f0),.v (.int .i64 y.f1),.str y.f2,.sl 1 (y.f3.map cS),.sl 5 (y.f4.map bD)] _ 0 at hc
  match m,hm with
  | [m0,m1,m2,m3,m4],_ =>
   simp only [RCs,zS] at hc
   obtain ⟨⟨a0,g0,rfl,-⟩,⟨a1,g1,rfl,-⟩,⟨a2,g2,h2'⟩,⟨a3,g3,h3⟩,⟨a4,g4,h4⟩,-⟩:=hc
   simp only [RD] at h2'
   have e2':a2=.string ⟨y.f2.toArray⟩:=h2'
   subst e2'
   obtain rfl:m0=_:=Option.some.inj g0
   obtain rfl:m1=_:=Option.some.inj g1
   obtain rfl:m2=_:=Option.some.inj g2
   obtain rfl:m3=a3:=Option.some.inj g3
   obtain rfl:m4=a4:=Option.some.inj g4
   obtain ⟨p,c,rfl⟩:=aM0 h3
   obtain ⟨q,d,rfl⟩:=aM0 h4
   exact ⟨p,c,q,d,by rw [e2],h3,h4⟩
 | [],hp=>exact hp.elim
 | [_],hp=>exact hp.2.elim
 | _ :: _ :: _ :: _,hp=>exact hp.2.2.elim
/-- The copy,read. -/
theorem cU7 {D:Nat→Prop} {w:World} {R off c R2 off3 c3:Nat} {arr arr':Array Value} {E E3:TypeId} {fz fz3:Nat×Nat} {root num:Int} {y:aC} {dt:List UInt8} {ks qs:Value}
  (hc:1≤c) (hc3:1≤c3) (hDR:D R) (hDR2:D R2) (hR:w.heap[R]? = some (.cells arr E fz)) (h0:arr[off]? = some (.int .i64 root)) (h1:arr[off+1]? = some (.slice (some ⟨R2,off3,none⟩) 1 c3))
  (hR2:w.heap[R2]? = some (.cells arr' E3 fz3)) (g0:arr'[off3]? = some (.int .i64 num)) (g1:arr'[off3+1]? = some (.int .i64 y.f0)) (g2:arr'[off3+2]? = some (.int .i64 y.f1)) (g3:arr'[off3+3]? = some (.string ⟨y.f2.toArray⟩)) (g4:arr'[off3+4]? = some ks) (g5:arr'[off3+5]? = some qs) (g6:arr'[off3+6]? = some (.string ⟨dt.toArray⟩))
  (r4:RD D w (.sl 1 (y.f3.map cS)) ks) (r5:RD D w (.sl 5 (y.f4.map bD)) qs):RD D w (.sl 2 [bP ⟨root,[⟨num,y,dt⟩]⟩]) (.slice (some ⟨R,off,none⟩) 1 c):=by
 have hin:RD D w (.sl 7 [aF ⟨num,y,dt⟩]) (.slice (some ⟨R2,off3,none⟩) 1 c3):=by
  simp only [RD]
  refine .inr ⟨R2,off3,c3,arr',E3,fz3,rfl,hc3,hDR2,hR2,?_⟩
  simp only [REs]
  refine ⟨rfl,?_,trivial⟩
  change RCs D w [.v (.int .i64 num),.v (.int .i64 y.f0),.v (.int .i64 y.f1),.str y.f2,.sl 1 (y.f3.map cS),.sl 5 (y.f4.map bD),.str dt] _ off3
  simp only [RCs,zS]
  refine ⟨⟨_,g0,rfl,rfl⟩,⟨_,g1,rfl,rfl⟩,⟨_,g2,rfl,rfl⟩,⟨_,g3,?_⟩,⟨_,g4,r4⟩,⟨_,g5,r5⟩,⟨_,g6,?_⟩,trivial⟩
  ·simp only [RD]; rfl
  ·simp only [RD]; rfl
 simp only [RD]
 refine .inr ⟨R,off,c,arr,E,fz,rfl,hc,hDR,hR,?_⟩
 simp only [REs]
 refine ⟨rfl,?_,trivial⟩
 change RCs D w [.v (.int .i64 root),.sl 7 [aF ⟨num,y,dt⟩]] _ off
 simp only [RCs,zS]
 exact ⟨⟨_,h0,rfl,rfl⟩,⟨_,h1,hin⟩,trivial⟩
set_option maxRecDepth 100000 in
set_option maxHeartbeats 4000000 in
theorem cH5 (hc52:∀ l:List bC,l.length≤1→aG Tryz.prog 52 [.d (.sl 2 (l.map bP))] [] (.own 24 2 (l.map bP)) [])
  (hc44:∀ l:List aJ,l.length≤1→aG Tryz.prog 44 [.d (.sl 7 (l.map aF))] [] (.own 49 7 (l.map aF)) [])
  (W:World) {S:Nat→Prop} (hS:∀ b,S b→b < W.heap.size) (hG:rY S W 6 bF6) {root num ee:Int} {o y:aC} {dt:List UInt8}
  (hget:aG Tryz.prog 53 [.agg (aZ o),.d (.sl 1 [])] [.glo 6 bF6] (.tup [.agg (aZ y),.d (.v (.int .i64 ee))]) [.glo 6 bF6])
  {u:Value} (hu:RD S W (.sl 2 [bP ⟨root,[⟨num,o,dt⟩]⟩]) u) :
  Calls Tryz.prog 31 #[u] W fun e W'=>∃ v,e=.returned v∧Below W.heap.size W W'∧RD (fun b=>S b∨(W.heap.size≤b∧b < W'.heap.size)) W' (.sl 2 [bP ⟨root,[⟨num,y,dt⟩]⟩]) v:=by
 obtain ⟨b0,off0,c0,_,_,_,hu0,-,-,-⟩:=rd_some hu
 subst hu0
 go_enter Tryz.func31,Tryz.ntmps31
 go_wp2_with (go_at_fn 52)
 refine (bF5 (hc52 [⟨root,[⟨num,o,dt⟩]⟩] (by simp)) W hS hu).mono ?_
 rintro e w1 ⟨v3,D1,rfl,hb1,hs1,hd1,hv3,hn3⟩
 obtain ⟨R,off,c,arr,E,fz,rfl,hc,hrow⟩:=cD2 hv3 (by simp)
 have hR:=hn3 R rfl
 obtain ⟨u1,hk0,hr0,hf0,hlt0⟩:=hrow.cell (i:=0) (k:=0) (e:=bP ⟨root,[⟨num,o,dt⟩]⟩) (x:=.v (.int .i64 root)) rfl rfl
 obtain ⟨u2,hk1,hr1,hf1,hlt1⟩:=hrow.cell (i:=0) (k:=1) (e:=bP ⟨root,[⟨num,o,dt⟩]⟩) (x:=.sl 7 [aF ⟨num,o,dt⟩]) rfl rfl
 obtain ⟨rfl,-⟩:=hr0
 obtain ⟨b2,off2,c2,arr2,E2,fz2,rfl,hb2,ha2,he2⟩:=rd_some hr1
 simp only [Nat.zero_mul,Nat.add_zero] at hk0 hk1 hf0 hf1 hlt0 hlt1
 simp only [List.map_cons,List.map_nil,List.length_cons,List.length_nil,Nat.zero_add] at hc ⊢
 have hA5:(w1.alloc (.cells #[.int .i64 0,.slice none 0 0] 24 (0,0))).heap[w1.heap.size]? = some (.cells #[.int .i64 0,.slice none 0 0] 24 (0,0)):=heap_alloc_new _ _
 go_wp2
 refine wp_loop_rounds 2 ?_
 rw [rounds_succ]
 go_wp2_with (go_at_fn 44)
 have hA5':(w1.alloc (.cells #[.int .i64 root,.slice (some ⟨b2,off2,none⟩) 1 c2] 24 (0,0))).heap[w1.heap.size]? = some (.cells #[.int .i64 root,.slice (some ⟨b2,off2,none⟩) 1 c2] 24 (0,0)):=heap_alloc_new _ _
 have hb12:Below w1.heap.size w1 (w1.alloc (.cells #[.int .i64 root,.slice (some ⟨b2,off2,none⟩) 1 c2] 24 (0,0))):=(Below.refl _ _).alloc (Nat.le_refl _) _
 have hsz2:w1.heap.size < (w1.alloc (.cells #[.int .i64 root,.slice (some ⟨b2,off2,none⟩) 1 c2] 24 (0,0))).heap.size:=iT hA5'
 revert hA5' hb12 hsz2
 generalize w1.alloc (.cells #[.int .i64 root,.slice (some ⟨b2,off2,none⟩) 1 c2] 24 (0,0))=w2
 intro hA5' hb12 hsz2
 have hRlt:R < w1.heap.size:=iT hrow.at_
 have hag12:Agree D1 w1 w2:=fun b hb=>hb12.block b (hd1 b hb).1
 have hD1:∀ b,D1 b→b < w2.heap.size:=fun b hb=>Nat.lt_of_lt_of_le (hd1 b hb).1 hb12.size
 refine (bF5 (hc44 [⟨num,o,dt⟩] (by simp)) w2 hD1 (RD.mono (fun _ h=>h) hag12 _ _ hr1)).mono ?_
 rintro e w3 ⟨v4,D2,rfl,hb23,hs2,hd2,hv4,hn4⟩
 obtain ⟨R2,off3,c3,arr3,E3,fz3,rfl,hc3,hrow3⟩:=cD2 hv4 (by simp)
 have hR2:=hn4 R2 rfl
 have hb13:Below w1.heap.size w1 w3:=hb12.trans (hb23.mono hb12.size)
 have hrowR:aH8 D1 w3 R off arr E fz 2 _:=hrow.mono (fun _ h=>h) (fun b hb=>hb13.block b (hd1 b hb).1) (hb13.block R hRlt)
 have hA53:=(hb23.block _ hsz2).trans hA5'
 have hf13:w3.frozen? ⟨R,off+1,none⟩=false:=by
  have:=hrowR.fzo.out _ hlt1
  simp only [World.frozen?,hrowR.at_]
  simpa using this
 have hk13:w3.cell? ⟨R,off+1,none⟩=some (.slice (some ⟨b2,off2,none⟩) 1 c2):=by
  rw [cell_of hrowR.at_,← cell_of hrow.at_]; exact hk1
 simp only [List.map_cons,List.map_nil,List.length_cons,List.length_nil,Nat.zero_add] at hc3 ⊢
 have hne2:b2≠R:=fun e=>hR.1 (e ▸ hb2)
 have hneA:w1.heap.size≠R:=by omega
 have hA54:=(Below.heap_setCell w3 ⟨R,off+1,none⟩ (.slice (some ⟨R2,off3,none⟩) 1 c3) w1.heap.size hneA).trans hA53
 have hcA:=cell_of hA54
 have hb24:(w3.setCell ⟨R,off+1,none⟩ (.slice (some ⟨R2,off3,none⟩) 1 c3)).heap[b2]? = some (.cells arr2 E2 fz2):=by
  rw [Below.heap_setCell w3 ⟨R,off+1,none⟩ _ b2 hne2,hb13.block b2 (hd1 b2 hb2).1]; exact ha2
 obtain ⟨kv,qv,i0,i1,i2,i3,i4,i4r,i5,i5r,i6⟩:=aZ1 he2
 obtain ⟨kq,kc,rfl⟩:=aM0 i4r
 obtain ⟨qq,qc,rfl⟩:=aM0 i5r
 have hci:=cell_of hb24
 go_wp2
 refine wp_loop_rounds 2 ?_
 rw [rounds_succ]
 have j0:=(hci off2).trans i0
 have j1:=(hci (off2+1)).trans i1
 have j2:=(hci (off2+2)).trans i2
 have j3:=(hci (off2+3)).trans i3
 have j4:=(hci (off2+4)).trans i4
 have j5:=(hci (off2+5)).trans i5
 have j6:=(hci (off2+6)).trans i6
 go_wp2
 have hA7:((w3.setCell ⟨R,off+1,none⟩ (.slice (some ⟨R2,off3,none⟩) 1 c3)).alloc (.cells #[.int .i64 num,.int .i64 o.f0,.int .i64 o.f1,.string ⟨o.f2.toArray⟩,.slice kq o.f3.length kc,.slice qq o.f4.length qc,.string ⟨dt.toArray⟩] 49 (0,0))).heap[w3.heap.size]? = some (.cells #[.int .i64 num,.int .i64 o.f0,.int .i64 o.f1,.string ⟨o.f2.toArray⟩,.slice kq o.f3.length kc,.slice qq o.f4.length qc,.string ⟨dt.toArray⟩] 49 (0,0)):=by
  have:=heap_alloc_new (w3.setCell ⟨R,off+1,none⟩ (.slice (some ⟨R2,off3,none⟩) 1 c3)) (.cells #[.int .i64 num,.int .i64 o.f0,.int .i64 o.f1,.string ⟨o.f2.toArray⟩,.slice kq o.f3.length kc,.slice qq o.f4.length qc,.string ⟨dt.toArray⟩] 49 (0,0))
  rwa [World.size_setCell] at this
 have hRR5:((w3.setCell ⟨R,off+1,none⟩ (.slice (some ⟨R2,off3,none⟩) 1 c3)).alloc (.cells #[.int .i64 num,.int .i64 o.f0,.int .i64 o.f1,.string ⟨o.f2.toArray⟩,.slice kq o.f3.length kc,.slice qq o.f4.length qc,.string ⟨dt.toArray⟩] 49 (0,0))).heap[R]? = some (.cells (arr.setIfInBounds (off+1) (.slice (some ⟨R2,off3,none⟩) 1 c3)) E fz):=by
  rw [Below.heap_alloc _ _ _ (by rw [World.size_setCell]; exact iT hrowR.at_)]
  exact aS7 w3 R (off+1) _ hrowR.at_
 have hR25:((w3.setCell ⟨R,off+1,none⟩ (.slice (some ⟨R2,off3,none⟩) 1 c3)).alloc (.cells #[.int .i64 num,.int .i64 o.f0,.int .i64 o.f1,.string ⟨o.f2.toArray⟩,.slice kq o.f3.length kc,.slice qq o.f4.length qc,.string ⟨dt.toArray⟩] 49 (0,0))).heap[R2]? = some (.cells arr3 E3 fz3):=by
  rw [Below.heap_alloc _ _ _ (by rw [World.size_setCell]; exact iT hrow3.at_),Below.heap_setCell _ _ _ _ (show R2≠R by omega)]
  exact hrow3.at_
 have hag35:Agree D2 w3 ((w3.setCell ⟨R,off+1,none⟩ (.slice (some ⟨R2,off3,none⟩) 1 c3)).alloc (.cells #[.int .i64 num,.int .i64 o.f0,.int .i64 o.f1,.string ⟨o.f2.toArray⟩,.slice kq o.f3.length kc,.slice qq o.f4.length qc,.string ⟨dt.toArray⟩] 49 (0,0))):=fun b hb=>by
  rw [Below.heap_alloc _ _ _ (by rw [World.size_setCell]; exact (hd2 b hb).1),Below.heap_setCell _ _ _ _ (fun e=>by
   have e:b=R:=e
   rcases (hd2 b hb).2 with h | h
   ·exact hR.1 (e ▸ h)
   ·omega)]
 have hsz5:w3.heap.size < ((w3.setCell ⟨R,off+1,none⟩ (.slice (some ⟨R2,off3,none⟩) 1 c3)).alloc (.cells #[.int .i64 num,.int .i64 o.f0,.int .i64 o.f1,.string ⟨o.f2.toArray⟩,.slice kq o.f3.length kc,.slice qq o.f4.length qc,.string ⟨dt.toArray⟩] 49 (0,0))).heap.size:=iT hA7
 have hB5:Below W.heap.size W ((w3.setCell ⟨R,off+1,none⟩ (.slice (some ⟨R2,off3,none⟩) 1 c3)).alloc (.cells #[.int .i64 num,.int .i64 o.f0,.int .i64 o.f1,.string ⟨o.f2.toArray⟩,.slice kq o.f3.length kc,.slice qq o.f4.length qc,.string ⟨dt.toArray⟩] 49 (0,0))) :=
  (((hb1.trans (hb13.mono hb1.size)).setCell (show W.heap.size≤(⟨R,off+1,none⟩:Addr).block from hR.2) _)).alloc (by rw [World.size_setCell]; exact Nat.le_trans hb1.size hb13.size) _
 clear hci hcA hb24 hA54 j0 j1 j2 j3 j4 j5 j6 hk13 hf13 hA53
 revert hA7 hRR5 hR25 hag35 hsz5 hB5
 generalize (w3.setCell ⟨R,off+1,none⟩ (.slice (some ⟨R2,off3,none⟩) 1 c3)).alloc _=w5
 intro hA7 hRR5 hR25 hag35 hsz5 hB5
 refine bE0 [(0,4),(1,4),(2,4),(3,4),(4,0),(5,4),(6,4),(7,0),(8,1),(9,4),(10,4),(11,4),(12,4),(13,4),(14,2)] 8 (fun w=>Below w5.heap.size w5 w) (by kernel_rfl) (by kernel_rfl) (Below.refl _ _).drew ?_
 iterate 2 (refine Ord.still _ rfl rfl (fun w=>by go_simp; rfl) ?_; go_simp)
 refine Ord.still (.pointer (some ⟨R,off,none⟩)) rfl rfl (fun w=>by go_simp) ?_
 go_simp
 refine Ord.still _ rfl rfl (fun w=>by go_simp; rfl) ?_
 go_simp
 refine Ord.pure (.slice (some ⟨R2,off3,none⟩) 1 c3) rfl rfl (fun w hw=>by
  have hc:=cell_of (keep hw hRR5) (off+1)
  rw [show (arr.setIfInBounds (off+1) (.slice (some ⟨R2,off3,none⟩) 1 c3))[off+1]? = some (.slice (some ⟨R2,off3,none⟩) 1 c3) by simp [hlt1]] at hc
  simp [go_sem,hc]) ?_
 go_simp
 iterate 2 (refine Ord.still _ rfl rfl (fun w=>by go_simp; rfl) ?_; go_simp)
 refine Ord.pure (.agg #[.int .i64 o.f0,.int .i64 o.f1,.string ⟨o.f2.toArray⟩,.slice kq o.f3.length kc,.slice qq o.f4.length qc]) rfl rfl (fun w hw=>by
  have hc:=cell_of (keep hw hA7)
  simp [go_sem,hc]) ?_
 go_simp
 refine Ord.eff (fun u=>∃ p k q d,u=.tuple #[.agg #[.int .i64 y.f0,.int .i64 y.f1,.string ⟨y.f2.toArray⟩,.slice p y.f3.length k,.slice q y.f4.length d],.int .i64 ee])
  (fun u w=>Below w5.heap.size w5 w∧∃ D3:Nat→Prop,(∀ b,D3 b→b < w.heap.size∧(D2 b∨w5.heap.size≤b))∧∀ p k q d,u=.tuple #[.agg #[.int .i64 y.f0,.int .i64 y.f1,.string ⟨y.f2.toArray⟩,.slice p y.f3.length k,.slice q y.f4.length d],.int .i64 ee]→RD D3 w (.sl 1 (y.f3.map cS)) (.slice p y.f3.length k)∧RD D3 w (.sl 5 (y.f4.map bD)) (.slice q y.f4.length d))
  (by decide) rfl rfl (fun w hw=>.call 53 #[.agg #[.int .i64 o.f0,.int .i64 o.f1,.string ⟨o.f2.toArray⟩,.slice kq o.f3.length kc,.slice qq o.f4.length qc],.slice none 0 0] ?_ ?_) (fun _ u w h=>h.1) ?_
 ·have:=bL0 (k:=53) ⟨_,Tryz.func53,by kernel_rfl,by kernel_rfl⟩ #[.agg #[.int .i64 o.f0,.int .i64 o.f1,.string ⟨o.f2.toArray⟩,.slice kq o.f3.length kc,.slice qq o.f4.length qc],.slice none 0 0] w
  go_simp
 ·have hD2w:∀ b,D2 b→b < w.heap.size:=fun b hb=>Nat.lt_of_lt_of_le (Nat.lt_trans (hd2 b hb).1 hsz5) hw.size
  have hagw:Agree D1 w1 w:=fun b hb=>by
   have h2:=hs2 b hb
   rw [hw.block b (Nat.lt_trans (hd2 b h2).1 hsz5),hag35 b h2]
   exact hb13.block b (hd1 b hb).1
  have hagW:Agree S W w:=fun b hb=>by rw [hagw b (hs1 b hb)]; exact hb1.block b (hS b hb)
  have hr4:=RD.mono hs2 hagw _ _ i4r
  have hr5:=RD.mono hs2 hagw _ _ i5r
  refine (cU9 (gs:=[(6,bF6)]) (S:=D2) (us:=[.agg #[.int .i64 o.f0,.int .i64 o.f1,.string ⟨o.f2.toArray⟩,.slice kq o.f3.length kc,.slice qq o.f4.length qc],.slice none 0 0]) hget rfl (show 2 < aS by decide) rfl hD2w ⟨⟨_,rfl,rfl,?_⟩,?_,trivial⟩ ?_).mono ?_
  ·change RCs D2 w [.v (.int .i64 o.f0),.v (.int .i64 o.f1),.str o.f2,.sl 1 (o.f3.map cS),.sl 5 (o.f4.map bD)] _ 0
   simp only [RCs,zS]
   refine ⟨⟨_,rfl,rfl,rfl⟩,⟨_,rfl,rfl,rfl⟩,⟨_,rfl,?_⟩,⟨_,rfl,hr4⟩,⟨_,rfl,hr5⟩,trivial⟩
   simp only [RD]
   rfl
  ·show RD D2 w (.sl 1 []) (.slice none 0 0)
   simp only [RD]
   exact .inl ⟨⟨none,rfl⟩,trivial⟩
  ·intro g hg
   rw [List.mem_singleton.1 hg]
   exact hG.mono (fun b hb=>hs2 b (hs1 b hb)) hagW
  ·rintro e w' ⟨v,D3,β',rfl,h⟩
   obtain ⟨p,k,q,d,rfl,e4,e5⟩:=cF3 h.val
   refine ⟨_,rfl,⟨p,k,q,d,rfl⟩,hw.trans (h.below.mono hw.size),D3,fun b hb=>⟨(h.bnd b hb).1,(h.bnd b hb).2.imp id fun h=>Nat.le_trans hw.size h⟩,fun p' k' q' d' he=>?_⟩
   simp only [Value.tuple.injEq,Array.mk.injEq,List.cons.injEq,Value.agg.injEq,Value.slice.injEq,and_true,true_and] at he
   obtain ⟨⟨rfl,rfl⟩,rfl,rfl⟩:=he
   exact ⟨e4,e5⟩
 rintro u ⟨p,k,q,d,rfl⟩
 go_simp
 iterate 3 (refine Ord.still _ rfl rfl (fun w=>by go_simp; rfl) ?_; go_simp)
 refine Ord.still (.pointer (some ⟨R2,off3,none⟩)) rfl rfl (fun w=>by go_simp) ?_
 go_simp
 refine Ord.still _ rfl rfl (fun w=>by go_simp; rfl) ?_
 go_simp
 have hl3:off3+7≤arr3.size:=by
  have:=hrow3.size
  simpa using this
 refine Ord.eff (fun u=>u=undef) (fun _ w'=>Below W.heap.size W w'∧RD (fun b=>S b∨(W.heap.size≤b∧b < w'.heap.size)) w' (.sl 2 [bP ⟨root,[⟨num,y,dt⟩]⟩]) (.slice (some ⟨R,off,none⟩) 1 c)) (by decide) rfl rfl (fun w hw=>?_) (fun h=>by cases h) ?_
 ·obtain ⟨hw,D3,hD3,hrd⟩:=hw
  obtain ⟨e4,e5⟩:=hrd p k q d rfl rfl rfl rfl
  have hR2w:=keep hw hR25
  have hRw:=keep hw hRR5
  have hfz:∀ j,j < 7→w.frozen? ⟨R2,off3+j,none⟩=false:=fun j hj=>by
   have:=hrow3.fzo.out (off3+j) (by omega)
   simp only [World.frozen?,hR2w]
   simpa using this
  have hth:w.there R2 (off3+1) (#[.int .i64 y.f0,.int .i64 y.f1,.string ⟨y.f2.toArray⟩,.slice p y.f3.length k,.slice q y.f4.length d]:Array Value).size:=fun j hj=>by
   have hj:j < 5:=hj
   refine ⟨?_,by rw [Nat.add_assoc]; exact hfz (1+j) (by omega)⟩
   rw [cell_of hR2w,Array.getElem?_eq_getElem (show off3+1+j < _ by omega)]
   rfl
  have hst:=run_storeAt_mid (P:=Tryz.prog) w R2 (off3+1) 47 #[.int .i64 y.f0,.int .i64 y.f1,.string ⟨y.f2.toArray⟩,.slice p y.f3.length k,.slice q y.f4.length d] hth (by kernel_rfl) (by simp [Value.oneCell'])
  have hspl:=mP R2 E3 fz3 [.int .i64 y.f0,.int .i64 y.f1,.string ⟨y.f2.toArray⟩,.slice p y.f3.length k,.slice q y.f4.length d] (off3+1) arr3 w hR2w (by simp only [List.length_cons,List.length_nil]; omega)
  refine .skip (bR0 rfl hst) ⟨rfl,?_⟩
  change Below _ _ (w.setCells R2 (off3+1) [.int .i64 y.f0,.int .i64 y.f1,.string ⟨y.f2.toArray⟩,.slice p y.f3.length k,.slice q y.f4.length d])∧RD (fun b=>S b∨(W.heap.size≤b∧b < (w.setCells R2 (off3+1) [.int .i64 y.f0,.int .i64 y.f1,.string ⟨y.f2.toArray⟩,.slice p y.f3.length k,.slice q y.f4.length d]).heap.size)) (w.setCells R2 (off3+1) [.int .i64 y.f0,.int .i64 y.f1,.string ⟨y.f2.toArray⟩,.slice p y.f3.length k,.slice q y.f4.length d]) _ _
  rw [hspl]
  have hWw:Below W.heap.size W w:=hB5.trans (hw.mono hB5.size)
  have hsz:(w.setRow R2 (spl (off3+1) [.int .i64 y.f0,.int .i64 y.f1,.string ⟨y.f2.toArray⟩,.slice p y.f3.length k,.slice q y.f4.length d] arr3.toList).toArray).heap.size=w.heap.size:=by simp [World.setRow]
  have hot:∀ b,b≠R2→(w.setRow R2 (spl (off3+1) [.int .i64 y.f0,.int .i64 y.f1,.string ⟨y.f2.toArray⟩,.slice p y.f3.length k,.slice q y.f4.length d] arr3.toList).toArray).heap[b]? = w.heap[b]? := fun b hb=>by simp [World.setRow,Array.getElem?_modify,Ne.symm hb]
  have hge:(w.setRow R2 (spl (off3+1) [.int .i64 y.f0,.int .i64 y.f1,.string ⟨y.f2.toArray⟩,.slice p y.f3.length k,.slice q y.f4.length d] arr3.toList).toArray).heap[R2]? = some (.cells (spl (off3+1) [.int .i64 y.f0,.int .i64 y.f1,.string ⟨y.f2.toArray⟩,.slice p y.f3.length k,.slice q y.f4.length d] arr3.toList).toArray E3 fz3):=by simp [World.setRow,Array.getElem?_modify,hR2w]
  have hR2W:W.heap.size≤R2:=Nat.le_trans hb1.size (Nat.le_trans hb12.size hR2.2)
  have hBF:Below W.heap.size W (w.setRow R2 (spl (off3+1) [.int .i64 y.f0,.int .i64 y.f1,.string ⟨y.f2.toArray⟩,.slice p y.f3.length k,.slice q y.f4.length d] arr3.toList).toArray) :=
   hWw.trans ⟨rfl,rfl,rfl,by rw [hsz]; exact Nat.le_refl _,fun b hb=>hot b (by omega)⟩
  refine ⟨hBF,?_⟩
  rw [hsz]
  have hnR2:¬ D3 R2:=fun hd=>by
   rcases (hD3 R2 hd).2 with h | h
   ·exact hR2.1 h
   ·have:=iT hR25; omega
  have hsub:∀ b,D3 b→S b∨(W.heap.size≤b∧b < w.heap.size):=fun b hb=>by
   rcases (hD3 b hb).2 with h | h
   ·rcases (hd2 b h).2 with h' | h'
    ·rcases (hd1 b h').2 with h'' | h''
     ·exact .inl h''
     ·exact .inr ⟨h'',(hD3 b hb).1⟩
    ·exact .inr ⟨Nat.le_trans hb1.size (Nat.le_trans hb12.size h'),(hD3 b hb).1⟩
   ·exact .inr ⟨Nat.le_trans hB5.size h,(hD3 b hb).1⟩
  have hagD:Agree D3 w (w.setRow R2 (spl (off3+1) [.int .i64 y.f0,.int .i64 y.f1,.string ⟨y.f2.toArray⟩,.slice p y.f3.length k,.slice q y.f4.length d] arr3.toList).toArray):=fun b hb=>hot b (fun e=>hnR2 (e ▸ hb))
  have hl3':off3+7≤arr3.toList.length:=by simpa using hl3
  have hlv:([.int .i64 y.f0,.int .i64 y.f1,.string ⟨y.f2.toArray⟩,.slice p y.f3.length k,.slice q y.f4.length d]:List Value).length=5:=rfl
  obtain ⟨kv',qv',t0,t1,t2,t3,t4,-,t5,-,t6⟩:=aZ1 hrow3.cs
  have hgt:∀ j,(spl (off3+1) [.int .i64 y.f0,.int .i64 y.f1,.string ⟨y.f2.toArray⟩,.slice p y.f3.length k,.slice q y.f4.length d] arr3.toList).toArray[j]? = (spl (off3+1) [.int .i64 y.f0,.int .i64 y.f1,.string ⟨y.f2.toArray⟩,.slice p y.f3.length k,.slice q y.f4.length d] arr3.toList)[j]? := fun j=>List.getElem?_toArray
  have hRlt5:R < w.heap.size:=iT hRw
  exact cU7 (R2:=R2) (off3:=off3) (c3:=c3) hc hc3 (.inr ⟨hR.2,hRlt5⟩) (.inr ⟨hR2W,iT hR2w⟩) ((hot R (by omega)).trans hRw) (by
    rw [Array.getElem?_setIfInBounds_ne (by omega),← cell_of hrow.at_ off]
    exact hk0) (by simp [hlt1]) hge
   (by rw [hgt,cW5 (by omega) (by omega)]; simpa using t0)
   (by rw [hgt,show off3+1=off3+1+0 from rfl,aX7 (by rw [hlv]; omega) (by omega)]; rfl)
   (by rw [hgt,show off3+2=off3+1+1 from rfl,aX7 (by rw [hlv]; omega) (by omega)]; rfl)
   (by rw [hgt,show off3+3=off3+1+2 from rfl,aX7 (by rw [hlv]; omega) (by omega)]; rfl)
   (by rw [hgt,show off3+4=off3+1+3 from rfl,aX7 (by rw [hlv]; omega) (by omega)]; rfl)
   (by rw [hgt,show off3+5=off3+1+4 from rfl,aX7 (by rw [hlv]; omega) (by omega)]; rfl)
   (by rw [hgt,cZ9 (by rw [hlv]; omega) (by rw [hlv]; omega)]; simpa using t6)
   (RD.mono hsub hagD _ _ e4) (RD.mono hsub hagD _ _ e5)
 rintro u rfl w' ⟨f1,f2⟩
 have HF:=(show Aside _ from And.intro f1 f2)
 clear f1 f2
 go_wp2
 rw [rounds_succ]
 go_wp2
 rw [rounds_succ]
 go_wp2
 go_ret
 exact ⟨_,rfl,HF.out⟩
end Go.Vm.PgfG
