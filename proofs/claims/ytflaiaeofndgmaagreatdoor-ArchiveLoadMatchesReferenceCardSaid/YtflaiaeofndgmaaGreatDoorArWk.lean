/-
  archive.Stats: at the archive of the law's first lines.
-/
import Derived.Test.YtflaiaeofndgmaaGreatDoorArWj
import Derived.Laws.IdiomRangeMap
namespace Go.Vm.ArzG
open Go.Proofs
open Go.RowKit Go.Shelf Go.Vm.ArzM
section
variable {P:Program} {w:World} {it m:Nat} {k v:Value}
theorem next_first (h1:w.heap[it]? = some (.mapIter (some m) 1 #[] 1)) (h2:w.heap[m]? = some (.map #[⟨k,v,0⟩] 1)) (ty:TypeId) :
  (Instr.next (.pointer (some ⟨it,0,none⟩)) false ty).run P w=.ok (.tuple #[.bool true,k,v]) (setO w it (.mapIter (some m) 1 #[0] 1)):=by
 simp [Instr.next,getObj,Sem.run,h1,h2,choose,Question.forced,setObj,Result.andThen,setO]
theorem next_last (h1:w.heap[it]? = some (.mapIter (some m) 1 #[0] 1)) (h2:w.heap[m]? = some (.map #[⟨k,v,0⟩] 1)) (ty:TypeId) :
  (Instr.next (.pointer (some ⟨it,0,none⟩)) false ty).run P w=.ok (.tuple #[.bool false]) w:=by
 simp [Instr.next,getObj,Sem.run,h1,h2,choose,Question.forced,setObj,Result.andThen]
theorem entry_one (h1:w.heap[it]? = some (.mapIter (some m) 1 #[0] 1)) (h2:w.heap[m]? = some (.map #[⟨k,v,0⟩] 1)) :
  (Instr.entry (.pointer (some ⟨it,0,none⟩))).run P w=.ok (.tuple #[k,v]) w:=by
 simp [Instr.entry,getObj,Sem.run,h1,h2,Result.andThen]
end
theorem cell_at {w:World} {b:Nat} {arr:Array Value} {E:TypeId} {fz:Nat×Nat} (h:w.heap[b]? = some (.cells arr E fz)) (i:Nat):w.cell? ⟨b,i,none⟩=arr[i]? := by
 simp [World.cell?,h]
theorem setCell_get (w:World) (b i:Nat) (u:Value) {arr:Array Value} {E:TypeId} {fz:Nat×Nat} (h:w.heap[b]? = some (.cells arr E fz)):(w.setCell ⟨b,i,none⟩ u).heap[b]? = some (.cells (arr.setIfInBounds i u) E fz):=by
 unfold World.setCell
 simp [Array.getElem?_modify,h]
structure St (A:ArV) (w0 w:World) (mp mq:Obj):Prop where
 hp:w.heap[A.bp]? = some mp
 hq:w.heap[A.bn]? = some mq
 hx:w.heap[A.a]? = some (.cells #[.map (some A.bp),.map (some A.bn),A.ov] 65 (0,0))
 lp:A.bp < w0.heap.size
 ln:A.bn < w0.heap.size
 la:A.a < w0.heap.size
theorem St.other {A:ArV} {w0 w w':World} {mp mq:Obj} (h:St A w0 w mp mq) (hk:∀ k,k < w0.heap.size→w'.heap[k]? = w.heap[k]?):St A w0 w' mp mq :=
 ⟨(hk _ h.lp).trans h.hp,(hk _ h.ln).trans h.hq,(hk _ h.la).trans h.hx,h.lp,h.ln,h.la⟩
theorem St.cells {A:ArV} {w0 w:World} {mp mq:Obj} (h:St A w0 w mp mq):w.cell? ⟨A.a,0,none⟩=some (.map (some A.bp))∧w.cell? ⟨A.a,1,none⟩=some (.map (some A.bn))∧w.cell? ⟨A.a,2,none⟩=some A.ov:=by
 refine ⟨?_,?_,?_⟩ <;> rw [cell_at h.hx] <;> rfl
structure Sx (A:ArV) (w0 w:World) (mp mq:Obj) (acc:Array Value):Prop where
 st:St A w0 w mp mq
 below:Below w0.heap.size w0 w
 res:w.heap[w0.heap.size]? = some (.cells #[.int .i64 0,.int .i64 0,.int .i64 0,.int .i64 0] 43 (0,0))
 acc:w.heap[w0.heap.size+1]? = some (.cells acc 43 (0,0))
section
variable {A:ArV} {w0 w w':World} {mp mq:Obj} {acc:Array Value}
theorem Sx.next (h:Sx A w0 w mp mq acc) (hb:Below w.heap.size w w'):Sx A w0 w' mp mq acc :=
 ⟨h.st.other fun k hk=>hb.block k (Nat.lt_of_lt_of_le hk h.below.size),h.below.trans (hb.mono h.below.size),(hb.block _ (heap_lt h.res)).trans h.res,(hb.block _ (heap_lt h.acc)).trans h.acc⟩
theorem Sx.alloc (h:Sx A w0 w mp mq acc) (o:Obj):Sx A w0 (w.alloc o) mp mq acc:=h.next ((Below.refl _ _).alloc (Nat.le_refl _) o)
theorem Sx.it (h:Sx A w0 w mp mq acc) {it:Nat} (hi:w0.heap.size+2≤it) (o:Obj):Sx A w0 (setO w it o) mp mq acc:=by
 have hk:∀ k,k≠it→(setO w it o).heap[k]? = w.heap[k]? := fun k hk=>setO_other _ _ hk
 exact ⟨h.st.other fun k hlt=>hk k (by omega),⟨h.below.os,h.below.tape,h.below.output,by rw [setO_size]; exact h.below.size,fun k hlt=>(hk k (by omega)).trans (h.below.block k hlt)⟩,(hk _ (by omega)).trans h.res,(hk _ (by omega)).trans h.acc⟩
theorem Sx.set (h:Sx A w0 w mp mq acc) (i:Nat) (u:Value):Sx A w0 (w.setCell ⟨w0.heap.size+1,i,none⟩ u) mp mq (acc.setIfInBounds i u):=by
 have hk:∀ k,k≠w0.heap.size+1→(w.setCell ⟨w0.heap.size+1,i,none⟩ u).heap[k]? = w.heap[k]? := fun k hk=>Below.heap_setCell _ _ _ _ hk
 have hs:(w.setCell ⟨w0.heap.size+1,i,none⟩ u).heap.size=w.heap.size:=by simp [World.setCell]
 exact ⟨h.st.other fun k hlt=>hk k (by omega),⟨h.below.os,h.below.tape,h.below.output,by rw [hs]; exact h.below.size,fun j hj=>(hk j (by omega)).trans (h.below.block j hj)⟩,(hk _ (by omega)).trans h.res,setCell_get _ _ _ _ h.acc⟩
theorem Sx.cells {a b c d:Value} (h:Sx A w0 w mp mq #[a,b,c,d]):w.cell? ⟨w0.heap.size+1,0,none⟩=some a∧w.cell? ⟨w0.heap.size+1,1,none⟩=some b∧w.cell? ⟨w0.heap.size+1,2,none⟩=some c∧w.cell? ⟨w0.heap.size+1,3,none⟩=some d ∧
  ∀ i,w.frozen? ⟨w0.heap.size+1,i,none⟩=false:=by
 refine ⟨?_,?_,?_,?_,fun i=>by simp [World.frozen?,h.acc]⟩ <;> rw [cell_at h.acc] <;> rfl
end
set_option maxRecDepth 100000 in
set_option maxHeartbeats 4000000 in
theorem Stats_at {lo:Nat} {w:World} {A:ArV} {K:Int} {ks ia:List Int} {O:List (List UInt8)} (hA:ArAt lo w A ⟨[(K,[[120]])],[([97],ks,ia,1)],O⟩):Calls Tryz.prog 15 #[.pointer (some ⟨A.a,0,none⟩)] w fun e w'=>e=.returned (.agg #[.int .i64 1,.int .i64 1,.int .i64 1,.int .i64 1])∧Below w.heap.size w w':=by
 have hrow:=hA.prow 0 _ rfl
 obtain ⟨pb,pc,hpv,hpb0,_⟩:=own_slice hrow (show 0 < 1 from Nat.zero_lt_one)
 have hcp:=own_cell hrow hpb0 (show ([[120]].map strOf)[0]? = some (strOf [120]) from rfl)
 have hpb:=(hrow.lt pb hpb0).2
 obtain ⟨kq,kn,kc,hkv⟩:=own_lit (hA.krow 0 _ rfl)
 obtain ⟨aq,an,ac,hav⟩:=own_lit (hA.arow 0 _ rfl)
 have h:St A w w (.map #[⟨.int .u32 K,.slice (some ⟨pb,0,none⟩) 1 pc,0⟩] 1) (.map #[⟨.string ⟨#[97]⟩,.agg #[.slice kq kn kc,.slice aq an ac,.int .i64 1],0⟩] 1):=by
  have h1:w.heap[A.bp]? = some (.map #[⟨.int .u32 K,A.pv 0,0⟩] 1):=hA.pm
  have h2:w.heap[A.bn]? = some (.map #[⟨.string ⟨#[97]⟩,.agg #[A.kv 0,A.av 0,.int .i64 1],0⟩] 1):=hA.nm
  have e1:A.pv 0=.slice (some ⟨pb,0,none⟩) 1 pc:=hpv
  rw [e1] at h1
  rw [hkv,hav] at h2
  exact ⟨h1,h2,hA.cell,heap_lt h1,heap_lt h2,heap_lt hA.cell⟩
 have h2:St A w ((w.alloc (Obj.cells #[Value.int .i64 0,Value.int .i64 0,Value.int .i64 0,Value.int .i64 0] 43)).alloc (Obj.cells #[Value.int .i64 0,Value.int .i64 0,Value.int .i64 0,Value.int .i64 0] 43)) _ _:=h.other fun k hk=>(Below.heap_alloc _ _ _ (by rw [World.size_alloc]; omega)).trans (Below.heap_alloc _ _ _ hk)
 obtain ⟨c0,c1,c2⟩:=h2.cells
 have rg:=run_range_map (P:=Tryz.prog) _ 63 9 69 _ _ _ mtN.um h2.hq
 go_enter Tryz.func15,Tryz.ntmps15
 go_wp2
 have h3:Sx A w (((w.alloc (Obj.cells #[Value.int .i64 0,Value.int .i64 0,Value.int .i64 0,Value.int .i64 0] 43)).alloc (Obj.cells #[Value.int .i64 0,Value.int .i64 0,Value.int .i64 0,Value.int .i64 0] 43)).alloc (Obj.mapIter (some A.bn) 1 #[] 1)) (.map #[⟨.int .u32 K,.slice (some ⟨pb,0,none⟩) 1 pc,0⟩] 1) (.map #[⟨.string ⟨#[97]⟩,.agg #[.slice kq kn kc,.slice aq an ac,.int .i64 1],0⟩] 1) #[.int .i64 0,.int .i64 0,.int .i64 0,.int .i64 0]:=by
  refine ⟨h2.other fun k hk=>Below.heap_alloc _ _ _ (by rw [World.size_alloc,World.size_alloc]; omega),(((Below.refl _ _).alloc (Nat.le_refl _) _).alloc (by simp) _).alloc (by simp; omega) _,?_,?_⟩
  ·show (((w.heap.push _).push _).push _)[w.heap.size]? = _
   rw [Array.getElem?_push,if_neg (by simp; omega),Array.getElem?_push,if_neg (by simp),Array.getElem?_push,if_pos rfl]
  ·show (((w.heap.push _).push _).push _)[w.heap.size+1]? = _
   rw [Array.getElem?_push,if_neg (by simp),Array.getElem?_push,if_pos (by simp)]
 have hit:(((w.alloc (Obj.cells #[Value.int .i64 0,Value.int .i64 0,Value.int .i64 0,Value.int .i64 0] 43)).alloc (Obj.cells #[Value.int .i64 0,Value.int .i64 0,Value.int .i64 0,Value.int .i64 0] 43)).alloc (Obj.mapIter (some A.bn) 1 #[] 1)).heap[w.heap.size+1+1]? = some (Obj.mapIter (some A.bn) 1 #[] 1):=by
  show (((w.heap.push _).push _).push _)[w.heap.size+1+1]? = _
  rw [Array.getElem?_push,if_pos (by simp)]
 revert h3 hit
 generalize (World.alloc (World.alloc (World.alloc _ _) _) _)=w3
 intro h3 hit
 clear c0 c1 c2 rg h2
 refine wp_loop_rounds 2 ?_
 rw [rounds_succ]
 have nx:=fun ty=>next_first (P:=Tryz.prog) hit h3.st.hq ty
 have h4:=h3.it (it:=w.heap.size+1+1) (by omega) (.mapIter (some A.bn) 1 #[0] 1)
 have hit4:=setO_get (heap_lt hit) (.mapIter (some A.bn) 1 #[0] 1)
 have en:=entry_one (P:=Tryz.prog) hit4 h4.st.hq
 have h5:=fun o=>(h4.alloc o).cells
 have f0:=fun o=>(h5 o).1
 have f1:=fun o=>(h5 o).2.1
 have f4:=fun o i=>(h5 o).2.2.2.2 i
 go_wp2
 have h6:Sx A w ((((setO w3 (w.heap.size+1+1) (Obj.mapIter (some A.bn) 1 #[0] 1)).alloc (Obj.cells #[Value.slice kq kn kc,Value.slice aq an ac,Value.int IntKind.i64 1] 69)).setCell ⟨w.heap.size+1,0,none⟩ (.int .i64 1)).setCell ⟨w.heap.size+1,1,none⟩ (.int .i64 1)) (.map #[⟨.int .u32 K,.slice (some ⟨pb,0,none⟩) 1 pc,0⟩] 1) (.map #[⟨.string ⟨#[97]⟩,.agg #[.slice kq kn kc,.slice aq an ac,.int .i64 1],0⟩] 1) #[.int .i64 1,.int .i64 1,.int .i64 0,.int .i64 0] :=
  ((h4.alloc (Obj.cells #[Value.slice kq kn kc,Value.slice aq an ac,Value.int IntKind.i64 1] 69)).set 0 (.int .i64 1)).set 1 (.int .i64 1)
 have hit6:((((setO w3 (w.heap.size+1+1) (Obj.mapIter (some A.bn) 1 #[0] 1)).alloc (Obj.cells #[Value.slice kq kn kc,Value.slice aq an ac,Value.int IntKind.i64 1] 69)).setCell ⟨w.heap.size+1,0,none⟩ (.int .i64 1)).setCell ⟨w.heap.size+1,1,none⟩ (.int .i64 1)).heap[w.heap.size+1+1]? = some (.mapIter (some A.bn) 1 #[0] 1):=by
  rw [Below.heap_setCell _ _ _ _ (by simp),Below.heap_setCell _ _ _ _ (by simp),Below.heap_alloc _ _ _ (heap_lt hit4)]
  exact hit4
 revert h6 hit6
 generalize World.setCell (World.setCell _ _ _) _ _=w6
 intro h6 hit6
 clear h5 f0 f1 f4 en nx h4 hit4 h3 hit
 have nx:=fun ty=>next_last (P:=Tryz.prog) hit6 h6.st.hq ty
 obtain ⟨c0,c1,c2⟩:=h6.st.cells
 have rg:=run_range_map (P:=Tryz.prog) _ 62 56 24 _ _ _ mtP.um h6.st.hp
 rw [rounds_succ]
 go_wp2
 have h7:=h6.alloc (.mapIter (some A.bp) 1 #[] 1)
 have hit7:(w6.alloc (.mapIter (some A.bp) 1 #[] 1)).heap[w6.heap.size]? = some (.mapIter (some A.bp) 1 #[] 1):=by
  show (w6.heap.push _)[w6.heap.size]? = _
  rw [Array.getElem?_push,if_pos rfl]
 have hs6:w.heap.size+2≤w6.heap.size:=by have:=heap_lt hit6; omega
 revert h7 hit7
 generalize w6.alloc _=w7
 intro h7 hit7
 refine wp_loop_rounds 2 ?_
 rw [rounds_succ]
 have nx:=fun ty=>next_first (P:=Tryz.prog) hit7 h7.st.hp ty
 have h8:=h7.it (it:=w6.heap.size) hs6 (.mapIter (some A.bp) 1 #[0] 1)
 have hit8:=setO_get (heap_lt hit7) (.mapIter (some A.bp) 1 #[0] 1)
 have en:=entry_one (P:=Tryz.prog) hit8 h8.st.hp
 go_wp2
 revert h8 hit8
 clear en nx
 generalize setO w7 _ _=w8
 intro h8 hit8
 have cp:=(World.cell?_of_block (a:=⟨pb,0,none⟩) (h8.below.block pb hpb)).trans hcp
 unfold strOf at cp
 obtain ⟨_,_,g2,g3,g4⟩:=h8.cells
 refine wp_loop_rounds 2 ?_
 rw [rounds_succ]
 go_wp2
 rw [rounds_succ]
 have h9:Sx A w ((w8.setCell ⟨w.heap.size+1,2,none⟩ (.int .i64 1)).setCell ⟨w.heap.size+1,3,none⟩ (.int .i64 1)) (.map #[⟨.int .u32 K,.slice (some ⟨pb,0,none⟩) 1 pc,0⟩] 1) (.map #[⟨.string ⟨#[97]⟩,.agg #[.slice kq kn kc,.slice aq an ac,.int .i64 1],0⟩] 1) #[.int .i64 1,.int .i64 1,.int .i64 1,.int .i64 1] :=
  (h8.set 2 (.int .i64 1)).set 3 (.int .i64 1)
 have hit9:((w8.setCell ⟨w.heap.size+1,2,none⟩ (.int .i64 1)).setCell ⟨w.heap.size+1,3,none⟩ (.int .i64 1)).heap[w6.heap.size]? = some (.mapIter (some A.bp) 1 #[0] 1):=by
  rw [Below.heap_setCell _ _ _ _ (by simp; omega),Below.heap_setCell _ _ _ _ (by simp; omega)]
  exact hit8
 revert h9 hit9
 generalize World.setCell (World.setCell _ _ _) _ _=w9
 intro h9 hit9
 clear cp g2 g3 g4 h8 hit8
 go_wp2
 rw [rounds_succ]
 have nx:=fun ty=>next_last (P:=Tryz.prog) hit9 h9.st.hp ty
 obtain ⟨g0,g1,g2,g3,g4⟩:=h9.cells
 have r0:w9.cell? ⟨w.heap.size,0,none⟩=some (.int .i64 0):=by rw [cell_at h9.res]; rfl
 have r1:w9.cell? ⟨w.heap.size,1,none⟩=some (.int .i64 0):=by rw [cell_at h9.res]; rfl
 have r2:w9.cell? ⟨w.heap.size,2,none⟩=some (.int .i64 0):=by rw [cell_at h9.res]; rfl
 have r3:w9.cell? ⟨w.heap.size,3,none⟩=some (.int .i64 0):=by rw [cell_at h9.res]; rfl
 have r4:∀ i,w9.frozen? ⟨w.heap.size,i,none⟩=false:=fun i=>by simp [World.frozen?,h9.res]
 go_wp2
 have hF:((((w9.setCell ⟨w.heap.size,0,none⟩ (.int .i64 1)).setCell ⟨w.heap.size,1,none⟩ (.int .i64 1)).setCell ⟨w.heap.size,2,none⟩ (.int .i64 1)).setCell ⟨w.heap.size,3,none⟩ (.int .i64 1)).heap[w.heap.size]? = some (.cells #[.int .i64 1,.int .i64 1,.int .i64 1,.int .i64 1] 43 (0,0)) :=
  setCell_get _ _ _ _ (setCell_get _ _ _ _ (setCell_get _ _ _ _ (setCell_get _ _ _ _ h9.res)))
 have hb9:Below w.heap.size w ((((w9.setCell ⟨w.heap.size,0,none⟩ (.int .i64 1)).setCell ⟨w.heap.size,1,none⟩ (.int .i64 1)).setCell ⟨w.heap.size,2,none⟩ (.int .i64 1)).setCell ⟨w.heap.size,3,none⟩ (.int .i64 1)) :=
  (((h9.below.setCell (Nat.le_refl _) _).setCell (Nat.le_refl _) _).setCell (Nat.le_refl _) _).setCell (Nat.le_refl _) _
 revert hF hb9
 generalize World.setCell (World.setCell (World.setCell _ _ _) _ _) _ _=wF
 intro hF hb9
 have q0:wF.cell? ⟨w.heap.size,0,none⟩=some (.int .i64 1):=by rw [cell_at hF]; rfl
 have q1:wF.cell? ⟨w.heap.size,1,none⟩=some (.int .i64 1):=by rw [cell_at hF]; rfl
 have q2:wF.cell? ⟨w.heap.size,2,none⟩=some (.int .i64 1):=by rw [cell_at hF]; rfl
 have q3:wF.cell? ⟨w.heap.size,3,none⟩=some (.int .i64 1):=by rw [cell_at hF]; rfl
 have r11:Tryz.f15.results=#[ResultVar.cell 2 43]:=by kernel_rfl
 refine bodyPost_ret (v:=.agg #[.int .i64 1,.int .i64 1,.int .i64 1,.int .i64 1]) (by simp [results,r11,go_sem,q0,q1,q2,q3]) rfl ⟨rfl,hb9⟩
end Go.Vm.ArzG
