import Derived.Test.YtflaiaeofndgmaaDoorArcWg
import Derived.Laws.IdiomRangeMap
namespace Go.Vm.ArcG
open Go.Proofs
open Go.RowKit Go.Shelf
section
variable {P:Program} {w:World} {it m:Nat} {k v:Value}
theorem next_first (h1:w.heap[it]? = some (.mapIter (some m) 1 #[] 1)) (h2:w.heap[m]? = some (.map #[⟨k,v,0⟩] 1)) (ty:TypeId) :
    (Instr.next (.pointer (some ⟨it,0,none⟩)) false ty).run P w=.ok (.tuple #[.bool true,k,v]) (setO w it (.mapIter (some m) 1 #[0] 1)):=by
  simp [Instr.next,getObj,Sem.run,h1,h2,choose,Question.forced,setObj,Result.andThen,setO]
theorem next_last (h1:w.heap[it]? = some (.mapIter (some m) 1 #[0] 1)) (h2:w.heap[m]? = some (.map #[⟨k,v,0⟩] 1)) (ty:TypeId) :
    (Instr.next (.pointer (some ⟨it,0,none⟩)) false ty).run P w=.ok (.tuple #[.bool false]) w:=by
  simp [Instr.next,getObj,Sem.run,h1,h2,choose,Question.forced,setObj,Result.andThen]
theorem entry_one (h1:w.heap[it]? = some (.mapIter (some m) 1 #[0] 1)) (h2:w.heap[m]? = some (.map #[⟨k,v,0⟩] 1)) :
    (Instr.entry (.pointer (some ⟨it,0,none⟩))).run P w=.ok (.tuple #[k,v]) w:=by
  simp [Instr.entry,getObj,Sem.run,h1,h2,Result.andThen]
end
structure Sx (W w0 w:World) (mp mq:Obj) (ord:Value) (acc:Array Value):Prop where
  st:St W w mp mq ord
  below:Below w0.heap.size w0 w
  res:w.heap[w0.heap.size]? = some (.cells #[.int .i64 0,.int .i64 0,.int .i64 0,.int .i64 0] 36 (0,0))
  acc:w.heap[w0.heap.size+1]? = some (.cells acc 36 (0,0))
theorem Sx.next {W w0 w w':World} {mp mq:Obj} {ord:Value} {acc:Array Value} (h:Sx W w0 w mp mq ord acc) (hb:Below w.heap.size w w'):Sx W w0 w' mp mq ord acc :=
  ⟨h.st.next hb,h.below.trans (hb.mono h.below.size),(hb.block _ (heap_lt h.res)).trans h.res,(hb.block _ (heap_lt h.acc)).trans h.acc⟩
theorem Sx.alloc {W w0 w:World} {mp mq:Obj} {ord:Value} {acc:Array Value} (h:Sx W w0 w mp mq ord acc) (o:Obj):Sx W w0 (w.alloc o) mp mq ord acc:=h.next ((Below.refl _ _).alloc (Nat.le_refl _) o)
theorem Sx.it {W w0 w:World} {mp mq:Obj} {ord:Value} {acc:Array Value} (h:Sx W w0 w mp mq ord acc) (hw:W.heap.size+3≤w0.heap.size) {it:Nat} (hi:w0.heap.size+2≤it) (o:Obj):Sx W w0 (setO w it o) mp mq ord acc:=by
  have k:=Kept1.setO w it o
  exact ⟨h.st.other k (by omega),⟨k.os.trans h.below.os,k.tape.trans h.below.tape,k.output.trans h.below.output,Nat.le_trans h.below.size k.size,fun i hlt=>(k.block i (Nat.lt_of_lt_of_le hlt h.below.size) (by omega)).trans (h.below.block i hlt)⟩,
    (k.block _ (heap_lt h.res) (by omega)).trans h.res,(k.block _ (heap_lt h.acc) (by omega)).trans h.acc⟩
theorem Sx.set {W w0 w:World} {mp mq:Obj} {ord:Value} {acc:Array Value} (h:Sx W w0 w mp mq ord acc) (hw:W.heap.size+3≤w0.heap.size) (i:Nat) (u:Value):Sx W w0 (w.setCell ⟨w0.heap.size+1,i,none⟩ u) mp mq ord (acc.setIfInBounds i u):=by
  have hk:∀ k,k≠w0.heap.size+1→(w.setCell ⟨w0.heap.size+1,i,none⟩ u).heap[k]? = w.heap[k]? := fun k hk=>Below.heap_setCell _ _ _ _ hk
  have hs:(w.setCell ⟨w0.heap.size+1,i,none⟩ u).heap.size=w.heap.size:=by simp [World.setCell]
  have k:Kept1 (w0.heap.size+1) w (w.setCell ⟨w0.heap.size+1,i,none⟩ u):=⟨rfl,rfl,rfl,Nat.le_of_eq hs.symm,fun j _ hj=>hk j hj⟩
  exact ⟨h.st.other k (by omega),⟨h.below.os,h.below.tape,h.below.output,by rw [hs]; exact h.below.size,fun j hj=>(hk j (by omega)).trans (h.below.block j hj)⟩,(hk _ (by omega)).trans h.res,setCell_get _ _ _ _ h.acc⟩
theorem Sx.cells {W w0 w:World} {mp mq:Obj} {ord a b c d:Value} (h:Sx W w0 w mp mq ord #[a,b,c,d]):w.cell? ⟨w0.heap.size+1,0,none⟩=some a∧w.cell? ⟨w0.heap.size+1,1,none⟩=some b∧w.cell? ⟨w0.heap.size+1,2,none⟩=some c∧w.cell? ⟨w0.heap.size+1,3,none⟩=some d ∧
    ∀ i,w.frozen? ⟨w0.heap.size+1,i,none⟩=false:=by
  refine ⟨?_,?_,?_,?_,fun i=>by simp [World.frozen?,h.acc]⟩ <;> rw [cell_at h.acc] <;> rfl
set_option maxRecDepth 100000 in
set_option maxHeartbeats 4000000 in
theorem Stats_at {W w:World} (h:Done W w):Calls Tryd.prog 11 #[.pointer (some ⟨W.heap.size+2,0,none⟩)] w fun e w'=>e=.returned (.agg #[.int .i64 1,.int .i64 1,.int .i64 1,.int .i64 1])∧Below w.heap.size w w':=by
  obtain ⟨pb,pc,parr,pE,pf,kb,ko,kc,karr,kE,kf,ab,ao,ac,aarr,aE,af,ord,h,hpb,hp0,hkb,hk0,hab,ha0⟩:=h
  have h2:=(h.alloc1 (Obj.cells #[Value.int .i64 0,Value.int .i64 0,Value.int .i64 0,Value.int .i64 0] 36)).alloc1 (Obj.cells #[Value.int .i64 0,Value.int .i64 0,Value.int .i64 0,Value.int .i64 0] 36)
  obtain ⟨c0,c1,c2⟩:=h2.cells
  have rg:=run_range_map (P:=Tryd.prog) _ 40 9 48 _ _ _ und40 h2.hq
  go_enter Tryd.func11,Tryd.ntmps11
  go_wp2
  have hw:W.heap.size+3≤w.heap.size:=heap_lt h.hx
  have h3:Sx W w (((w.alloc (Obj.cells #[Value.int .i64 0,Value.int .i64 0,Value.int .i64 0,Value.int .i64 0] 36)).alloc (Obj.cells #[Value.int .i64 0,Value.int .i64 0,Value.int .i64 0,Value.int .i64 0] 36)).alloc (Obj.mapIter (some (W.heap.size+1)) 1 #[] 1)) (.map #[⟨.int .u32 2363233923,.slice (some ⟨pb,0,none⟩) 1 pc,0⟩] 1) (.map #[⟨.string ⟨#[97]⟩,.agg #[.slice (some ⟨kb,ko,none⟩) 1 kc,.slice (some ⟨ab,ao,none⟩) 1 ac,.int .i64 1],0⟩] 1) ord #[.int .i64 0,.int .i64 0,.int .i64 0,.int .i64 0]:=by
    refine ⟨h2.alloc1 _,(((Below.refl _ _).alloc (Nat.le_refl _) _).alloc (by simp) _).alloc (by simp; omega) _,?_,?_⟩
    · show (((w.heap.push _).push _).push _)[w.heap.size]? = _
      rw [Array.getElem?_push,if_neg (by simp; omega),Array.getElem?_push,if_neg (by simp),Array.getElem?_push,if_pos rfl]
    · show (((w.heap.push _).push _).push _)[w.heap.size+1]? = _
      rw [Array.getElem?_push,if_neg (by simp),Array.getElem?_push,if_pos (by simp)]
  have hit:(((w.alloc (Obj.cells #[Value.int .i64 0,Value.int .i64 0,Value.int .i64 0,Value.int .i64 0] 36)).alloc (Obj.cells #[Value.int .i64 0,Value.int .i64 0,Value.int .i64 0,Value.int .i64 0] 36)).alloc (Obj.mapIter (some (W.heap.size+1)) 1 #[] 1)).heap[w.heap.size+1+1]? = some (Obj.mapIter (some (W.heap.size+1)) 1 #[] 1):=by
    show (((w.heap.push _).push _).push _)[w.heap.size+1+1]? = _
    rw [Array.getElem?_push,if_pos (by simp)]
  revert h3 hit
  generalize (World.alloc (World.alloc (World.alloc _ _) _) _)=w3
  intro h3 hit
  clear c0 c1 c2 rg h2
  refine wp_loop_rounds 2 ?_
  rw [rounds_succ]
  have nx:=fun ty=>next_first (P:=Tryd.prog) hit h3.st.hq ty
  have h4:=h3.it hw (it:=w.heap.size+1+1) (by omega) (.mapIter (some (W.heap.size+1)) 1 #[0] 1)
  have hit4:=setO_get (heap_lt hit) (.mapIter (some (W.heap.size+1)) 1 #[0] 1)
  have en:=entry_one (P:=Tryd.prog) hit4 h4.st.hq
  have h5:=fun o=>(h4.alloc o).cells
  have f0:=fun o=>(h5 o).1
  have f1:=fun o=>(h5 o).2.1
  have f4:=fun o i=>(h5 o).2.2.2.2 i
  go_wp2
  have h6:Sx W w ((((setO w3 (w.heap.size+1+1) (Obj.mapIter (some (W.heap.size+1)) 1 #[0] 1)).alloc (Obj.cells #[Value.slice (some ⟨kb,ko,none⟩) 1 kc,Value.slice (some ⟨ab,ao,none⟩) 1 ac,Value.int IntKind.i64 1] 48)).setCell ⟨w.heap.size+1,0,none⟩ (.int .i64 1)).setCell ⟨w.heap.size+1,1,none⟩ (.int .i64 1)) (.map #[⟨.int .u32 2363233923,.slice (some ⟨pb,0,none⟩) 1 pc,0⟩] 1) (.map #[⟨.string ⟨#[97]⟩,.agg #[.slice (some ⟨kb,ko,none⟩) 1 kc,.slice (some ⟨ab,ao,none⟩) 1 ac,.int .i64 1],0⟩] 1) ord #[.int .i64 1,.int .i64 1,.int .i64 0,.int .i64 0] :=
    ((h4.alloc (Obj.cells #[Value.slice (some ⟨kb,ko,none⟩) 1 kc,Value.slice (some ⟨ab,ao,none⟩) 1 ac,Value.int IntKind.i64 1] 48)).set hw 0 (.int .i64 1)).set hw 1 (.int .i64 1)
  have hit6:((((setO w3 (w.heap.size+1+1) (Obj.mapIter (some (W.heap.size+1)) 1 #[0] 1)).alloc (Obj.cells #[Value.slice (some ⟨kb,ko,none⟩) 1 kc,Value.slice (some ⟨ab,ao,none⟩) 1 ac,Value.int IntKind.i64 1] 48)).setCell ⟨w.heap.size+1,0,none⟩ (.int .i64 1)).setCell ⟨w.heap.size+1,1,none⟩ (.int .i64 1)).heap[w.heap.size+1+1]? = some (.mapIter (some (W.heap.size+1)) 1 #[0] 1):=by
    rw [Below.heap_setCell _ _ _ _ (by simp),Below.heap_setCell _ _ _ _ (by simp),Below.heap_alloc _ _ _ (heap_lt hit4)]
    exact hit4
  revert h6 hit6
  generalize World.setCell (World.setCell _ _ _) _ _=w6
  intro h6 hit6
  clear h5 f0 f1 f4 en nx h4 hit4 h3 hit
  have nx:=fun ty=>next_last (P:=Tryd.prog) hit6 h6.st.hq ty
  obtain ⟨c0,c1,c2⟩:=h6.st.cells
  have rg:=run_range_map (P:=Tryd.prog) _ 39 49 41 _ _ _ und39 h6.st.hp
  rw [rounds_succ]
  go_wp2
  have h7:=h6.alloc (.mapIter (some W.heap.size) 1 #[] 1)
  have hit7:(w6.alloc (.mapIter (some W.heap.size) 1 #[] 1)).heap[w6.heap.size]? = some (.mapIter (some W.heap.size) 1 #[] 1):=by
    show (w6.heap.push _)[w6.heap.size]? = _
    rw [Array.getElem?_push,if_pos rfl]
  have hs6:w.heap.size+2≤w6.heap.size:=by have:=heap_lt hit6; omega
  revert h7 hit7
  generalize w6.alloc _=w7
  intro h7 hit7
  refine wp_loop_rounds 2 ?_
  rw [rounds_succ]
  have nx:=fun ty=>next_first (P:=Tryd.prog) hit7 h7.st.hp ty
  have h8:=h7.it hw (it:=w6.heap.size) hs6 (.mapIter (some W.heap.size) 1 #[0] 1)
  have hit8:=setO_get (heap_lt hit7) (.mapIter (some W.heap.size) 1 #[0] 1)
  have en:=entry_one (P:=Tryd.prog) hit8 h8.st.hp
  go_wp2
  revert h8 hit8
  clear en nx
  generalize setO w7 _ _=w8
  intro h8 hit8
  have cp:=(cell_at ((h8.below.block pb (heap_lt hpb)).trans hpb) 0).trans hp0
  obtain ⟨_,_,g2,g3,g4⟩:=h8.cells
  refine wp_loop_rounds 2 ?_
  rw [rounds_succ]
  go_wp2
  rw [rounds_succ]
  have h9:Sx W w ((w8.setCell ⟨w.heap.size+1,2,none⟩ (.int .i64 1)).setCell ⟨w.heap.size+1,3,none⟩ (.int .i64 1)) (.map #[⟨.int .u32 2363233923,.slice (some ⟨pb,0,none⟩) 1 pc,0⟩] 1) (.map #[⟨.string ⟨#[97]⟩,.agg #[.slice (some ⟨kb,ko,none⟩) 1 kc,.slice (some ⟨ab,ao,none⟩) 1 ac,.int .i64 1],0⟩] 1) ord #[.int .i64 1,.int .i64 1,.int .i64 1,.int .i64 1] :=
    (h8.set hw 2 (.int .i64 1)).set hw 3 (.int .i64 1)
  have hit9:((w8.setCell ⟨w.heap.size+1,2,none⟩ (.int .i64 1)).setCell ⟨w.heap.size+1,3,none⟩ (.int .i64 1)).heap[w6.heap.size]? = some (.mapIter (some W.heap.size) 1 #[0] 1):=by
    rw [Below.heap_setCell _ _ _ _ (by simp; omega),Below.heap_setCell _ _ _ _ (by simp; omega)]
    exact hit8
  revert h9 hit9
  generalize World.setCell (World.setCell _ _ _) _ _=w9
  intro h9 hit9
  clear cp g2 g3 g4 h8 hit8
  go_wp2
  rw [rounds_succ]
  have nx:=fun ty=>next_last (P:=Tryd.prog) hit9 h9.st.hp ty
  obtain ⟨g0,g1,g2,g3,g4⟩:=h9.cells
  have r0:w9.cell? ⟨w.heap.size,0,none⟩=some (.int .i64 0):=by rw [cell_at h9.res]; rfl
  have r1:w9.cell? ⟨w.heap.size,1,none⟩=some (.int .i64 0):=by rw [cell_at h9.res]; rfl
  have r2:w9.cell? ⟨w.heap.size,2,none⟩=some (.int .i64 0):=by rw [cell_at h9.res]; rfl
  have r3:w9.cell? ⟨w.heap.size,3,none⟩=some (.int .i64 0):=by rw [cell_at h9.res]; rfl
  have r4:∀ i,w9.frozen? ⟨w.heap.size,i,none⟩=false:=fun i=>by simp [World.frozen?,h9.res]
  go_wp2
  have hF:((((w9.setCell ⟨w.heap.size,0,none⟩ (.int .i64 1)).setCell ⟨w.heap.size,1,none⟩ (.int .i64 1)).setCell ⟨w.heap.size,2,none⟩ (.int .i64 1)).setCell ⟨w.heap.size,3,none⟩ (.int .i64 1)).heap[w.heap.size]? = some (.cells #[.int .i64 1,.int .i64 1,.int .i64 1,.int .i64 1] 36 (0,0)) :=
    setCell_get _ _ _ _ (setCell_get _ _ _ _ (setCell_get _ _ _ _ (setCell_get _ _ _ _ h9.res)))
  have hb9:Below w.heap.size w ((((w9.setCell ⟨w.heap.size,0,none⟩ (.int .i64 1)).setCell ⟨w.heap.size,1,none⟩ (.int .i64 1)).setCell ⟨w.heap.size,2,none⟩ (.int .i64 1)).setCell ⟨w.heap.size,3,none⟩ (.int .i64 1)) :=
    (((h9.below.setCell (Nat.le_refl _) _).setCell (Nat.le_refl _) _).setCell (Nat.le_refl _) _).setCell (Nat.le_refl _) _
  revert hF hb9
  generalize World.setCell (World.setCell (World.setCell _ _ _) _ _) _ _=wF
  intro hF hb9
  have q0:wF.cell? ⟨w.heap.size,0,none⟩=some (.int .i64 1):=by rw [cell_at hF]; rfl
  have q1:wF.cell? ⟨w.heap.size,1,none⟩=some (.int .i64 1):=by rw [cell_at hF]; rfl
  have q2:wF.cell? ⟨w.heap.size,2,none⟩=some (.int .i64 1):=by rw [cell_at hF]; rfl
  have q3:wF.cell? ⟨w.heap.size,3,none⟩=some (.int .i64 1):=by rw [cell_at hF]; rfl
  have r11:Tryd.f11.results=#[ResultVar.cell 2 36]:=by kernel_rfl
  refine bodyPost_ret (v:=.agg #[.int .i64 1,.int .i64 1,.int .i64 1,.int .i64 1]) (by simp [results,r11,go_sem,q0,q1,q2,q3]) rfl ⟨rfl,hb9⟩
end Go.Vm.ArcG
