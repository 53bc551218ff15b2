import Derived.Test.YtflaiaeofndgmaaDoorArcWb
namespace Go.Vm.ArcG
open Go.Proofs
open Go.RowKit Go.Shelf
/-- The archive in a world: its maps and its list of names. -/
structure St (W w:World) (mp mq:Obj) (ord:Value):Prop where
  below:Below W.heap.size W w
  hp:w.heap[W.heap.size]? = some mp
  hq:w.heap[W.heap.size+1]? = some mq
  hx:w.heap[W.heap.size+2]? = some (.cells #[.map (some W.heap.size),.map (some (W.heap.size+1)),ord] 43 (0,0))
theorem St.next {W w w':World} {mp mq:Obj} {ord:Value} (h:St W w mp mq ord) (hb:Below w.heap.size w w'):St W w' mp mq ord:=by
  obtain ⟨h1,h2,h3,h4⟩:=h
  have s2:=heap_lt h2
  have s3:=heap_lt h3
  have s4:=heap_lt h4
  exact ⟨h1.trans (hb.mono h1.size),(hb.block _ s2).trans h2,(hb.block _ s3).trans h3,(hb.block _ s4).trans h4⟩
theorem cell_at {w:World} {b:Nat} {arr:Array Value} {E:TypeId} {fz:Nat×Nat} (h:w.heap[b]? = some (.cells arr E fz)) (i:Nat):w.cell? ⟨b,i,none⟩=arr[i]? := by
  simp [World.cell?,h]
theorem St.glo {W w:World} {mp mq:Obj} {ord:Value} (h:St W w mp mq ord) (hg:GloAt (allS W) W 0 (glob_filter_steps.flatMap (cI .u32))):GloAt (allS w) w 0 (glob_filter_steps.flatMap (cI .u32)) :=
  hg.mono (fun b hb=>Nat.lt_of_lt_of_le hb h.below.size) (fun b hb=>h.below.block b hb)
theorem St.cells {W w:World} {mp mq:Obj} {ord:Value} (h:St W w mp mq ord):w.cell? ⟨W.heap.size+2,0,none⟩=some (.map (some W.heap.size))∧w.cell? ⟨W.heap.size+2,1,none⟩=some (.map (some (W.heap.size+1)))∧w.cell? ⟨W.heap.size+2,2,none⟩=some ord:=by
  refine ⟨?_,?_,?_⟩ <;> rw [cell_at h.hx] <;> rfl
/-- All but the block B is kept. -/
structure Kept1 (B:Nat) (w w':World):Prop where
  os:w'.os=w.os
  tape:w'.tape=w.tape
  output:w'.output=w.output
  size:w.heap.size≤w'.heap.size
  block:∀ k,k < w.heap.size→k≠B→w'.heap[k]? = w.heap[k]?
theorem Kept1.of {B:Nat} {w w':World} (h:Below w.heap.size w w'):Kept1 B w w':=⟨h.os,h.tape,h.output,h.size,fun k hk _=>h.block k hk⟩
theorem Kept1.trans {B:Nat} {a b c:World} (h:Kept1 B a b) (k:Kept1 B b c):Kept1 B a c :=
  ⟨k.os.trans h.os,k.tape.trans h.tape,k.output.trans h.output,Nat.le_trans h.size k.size,fun i hi hn=>(k.block i (Nat.lt_of_lt_of_le hi h.size) hn).trans (h.block i hi hn)⟩
theorem Kept1.setO (w:World) (B:Nat) (o:Obj):Kept1 B w (setO w B o) :=
  ⟨rfl,rfl,rfl,by simp [ArcG.setO],fun k _ hn=>by simp [ArcG.setO,Array.getElem?_setIfInBounds,hn.symm]⟩
theorem setO_get {w:World} {B:Nat} (h:B < w.heap.size) (o:Obj):(setO w B o).heap[B]? = some o:=by
  simp [setO,Array.getElem?_setIfInBounds,h]
theorem St.alloc2 {W w:World} {mp mq:Obj} {ord:Value} (h:St W w mp mq ord) (o1 o2:Obj):St W ((w.alloc o1).alloc o2).drew mp mq ord :=
  h.next (((Below.refl _ _).alloc (Nat.le_refl _) o1).alloc (by simp) o2).drew
theorem St.alloc1 {W w:World} {mp mq:Obj} {ord:Value} (h:St W w mp mq ord) (o1:Obj):St W (w.alloc o1) mp mq ord :=
  h.next ((Below.refl _ _).alloc (Nat.le_refl _) o1)
theorem setO_cell (w:World) (B:Nat) (o:Obj) {p:Addr} (h:p.block≠B):(setO w B o).cell? p=w.cell? p :=
  World.cell?_of_block (by simp [setO,Array.getElem?_setIfInBounds,h.symm])
theorem setO_x (w:World) (B:Nat) (o:Obj):(setO w B o).cell? ⟨B+2,0,none⟩=w.cell? ⟨B+2,0,none⟩:=setO_cell w B o (Nat.ne_of_gt (Nat.lt_add_of_pos_right (by decide)))
/-- Behind a store into one of the archive's maps. -/
theorem St.piece {W w w':World} {mp mq:Obj} {ord:Value} (h:St W w mp mq ord) (hk:Kept1 W.heap.size w w') {mp':Obj} (hp:w'.heap[W.heap.size]? = some mp'):St W w' mp' mq ord:=by
  obtain ⟨h1,h2,h3,h4⟩:=h
  exact ⟨⟨hk.os.trans h1.os,hk.tape.trans h1.tape,hk.output.trans h1.output,Nat.le_trans h1.size hk.size,fun k hlt=>(hk.block k (Nat.lt_of_lt_of_le hlt h1.size) (Nat.ne_of_lt hlt)).trans (h1.block k hlt)⟩,hp,
    (hk.block _ (heap_lt h3) (by omega)).trans h3,(hk.block _ (heap_lt h4) (by omega)).trans h4⟩
theorem first_cell (v:Value) (z:Array Value):(#[v]++z)[0]? = some v:=by
  rw [Array.getElem?_append_left (by simp)]
  rfl
theorem piece_done {W w2:World} {mq:Obj} {ord:Value} (h2:St W w2 (.map #[] 0) mq ord) (o1:Obj) (arr:Array Value) (c:Nat) (K:Int):let w':=setO ((w2.alloc o1).alloc (.cells arr 9)).drew W.heap.size (.map #[⟨.int .u32 K,.slice (some ⟨w2.heap.size+1,0,none⟩) 1 c,0⟩] 1)
    St W w' (.map #[⟨.int .u32 K,.slice (some ⟨w2.heap.size+1,0,none⟩) 1 c,0⟩] 1) mq ord∧W.heap.size+3≤w2.heap.size+1∧w'.heap[w2.heap.size+1]? = some (.cells arr 9)∧Kept1 W.heap.size w2 w':=by
  intro w'
  have hk:Kept1 W.heap.size w2 w':=(Kept1.of (((Below.refl _ _).alloc (Nat.le_refl _) _).alloc (by simp) _).drew).trans (Kept1.setO _ _ _)
  have hx:=heap_lt h2.hx
  refine ⟨h2.piece hk (setO_get (heap_lt (h2.alloc2 _ _).hp) _),by omega,?_,hk⟩
  show (((w2.alloc o1).alloc (.cells arr 9)).heap.setIfInBounds W.heap.size _)[w2.heap.size+1]? = _
  rw [Array.getElem?_setIfInBounds,if_neg (by omega)]
  show ((w2.heap.push o1).push (.cells arr 9))[w2.heap.size+1]? = _
  rw [Array.getElem?_push,if_pos (by simp)]
set_option maxRecDepth 100000 in
set_option maxHeartbeats 4000000 in
theorem keep_at {W w:World} {mq:Obj} {ord:Value} (h:St W w (.map #[] 0) mq ord) (hg:GloAt (allS W) W 0 (glob_filter_steps.flatMap (cI .u32))):Calls Tryd.prog 16 #[.pointer (some ⟨W.heap.size+2,0,none⟩),.string ⟨#[120]⟩] w fun e w'=>e=.returned (.tuple ⟨[.int .u32 2363233923,.int .i64 0]⟩)∧Kept1 W.heap.size w w'∧∃ b c arr E fz,
      St W w' (.map #[⟨.int .u32 2363233923,.slice (some ⟨b,0,none⟩) 1 c,0⟩] 1) mq ord∧w.heap.size≤b∧w'.heap[b]? = some (.cells arr E fz)∧arr[0]? = some (.string ⟨#[120]⟩):=by
  go_enter Tryd.func16,Tryd.ntmps16
  go_wp2_with (go_at_fn 22)
  refine (Sum_at (s:=[120]) w (h.glo hg) Sum_x).mono ?_
  rintro e w1 ⟨rfl,hb⟩
  have h1:=h.next hb
  have k1:Kept1 W.heap.size w w1:=Kept1.of hb
  clear hb h
  obtain ⟨c0,c1,c2⟩:=h1.cells
  have lk:=look_none h1.hp 2363233923
  go_wp2
  refine wp_loop_rounds 1 ?_
  rw [rounds_succ]
  go_wp2
  have mixed:Tryd.prog.follows .mixedOrders=true:=by kernel_rfl
  have h14:∀ args w,(callFunc 24 args).run Tryd.prog w=.ok (.enter 24 args) w:=enters_of Tryd.func24 (by kernel_rfl) rfl
  have h1d:St W w1.drew (.map #[] 0) mq ord:=h1.next (Below.refl _ _).drew
  obtain ⟨b0,b1,b2⟩:=h1d.cells
  have lkd:=look_none h1d.hp 2363233923
  go_region_held3 (fun w'=>w'.cell? ⟨W.heap.size+2,0,none⟩=some (.map (some W.heap.size))) (first | exact h1d.cells.1 | exact h2.cells.1 | exact (h2.alloc1 _).cells.1 | exact (h2.alloc2 _ _).cells.1 | exact (setO_x _ _ _).trans (h2.alloc2 _ _).cells.1)
    (first | (go_at_call 24; refine (Clone_at (s:=[120]) w1.drew Clone_x).mono ?_; rintro e w2 ⟨rfl,hk⟩; have h2:=h1d.next hk; have lk2:=look_none h2.hp 2363233923; have lk3:=fun o=>look_none (h2.alloc1 o).hp 2363233923; have mu:=fun o1 o2 k v=>put_piece (h2.alloc2 o1 o2).hp k v; dsimp only [strOf]))
  all_goals
    go_wp2
    go_ret2
    have k2:Kept1 W.heap.size w w2:=k1.trans ⟨hk.os,hk.tape,hk.output,hk.size,fun k hlt _=>hk.block k hlt⟩
    exact ⟨rfl,k2.trans (piece_done h2 _ _ _ _).2.2.2,_,_,_,_,_,(piece_done h2 _ _ _ _).1,Nat.le_succ_of_le k2.size,(piece_done h2 _ _ _ _).2.2.1,first_cell _ _⟩
end Go.Vm.ArcG
