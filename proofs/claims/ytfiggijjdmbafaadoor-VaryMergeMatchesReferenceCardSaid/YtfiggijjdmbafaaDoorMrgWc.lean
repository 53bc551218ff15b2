import Derived.Test.YtfiggijjdmbafaaDoorMrgB
import Derived.Test.YtfiggijjdmbafaaDoorMrgWb
namespace Go.Vm.MrgG
open Go.Proofs
open Go.RowKit Go.Shelf
/-- The world behind the law's first region,and on: its blocks,all that was before it kept. -/
structure St (W w:World) (x y:List UInt8):Prop where
  kept:KeptAll W w
  blk:Blk w W.heap.size (W.heap.size+1) (W.heap.size+1+1) (W.heap.size+1+1+1) x y
  box:w.heap[W.heap.size+1+1+1+1]? = some (.cells #[.slice (some ⟨W.heap.size,0,none⟩) 2 2,.slice (some ⟨W.heap.size+1+1+1,0,none⟩) 2 2] 26 (0,0))
  size:W.heap.size+5≤w.heap.size
theorem alloc_get (w:World) (o:Obj) (b:Nat):(w.alloc o).heap[b]? = if b=w.heap.size then some o else w.heap[b]? := by
  unfold World.alloc
  exact Array.getElem?_push
theorem alloc_size (w:World) (o:Obj):(w.alloc o).heap.size=w.heap.size+1:=by
  unfold World.alloc
  exact Array.size_push _
theorem kept_alloc {W w:World} (h:KeptAll W w) (o:Obj):KeptAll W (w.alloc o) :=
  ⟨h.os,h.output,by rw [alloc_size]; exact Nat.le_succ_of_le h.size,fun b hb=>by rw [alloc_get,if_neg (Nat.ne_of_lt (Nat.lt_of_lt_of_le hb h.size))]; exact h.heap b hb⟩
theorem St.next {W w w':World} {x y:List UInt8} (h:St W w x y) (hk:KeptAll w w'):St W w' x y:=by
  have hs:=h.size
  have key:∀ i,i < W.heap.size+5→w'.heap[i]? = w.heap[i]? := fun i hi=>hk.heap i (by omega)
  obtain ⟨h1,h2,h3,h4⟩:=h.blk
  refine ⟨⟨hk.os.trans h.kept.os,hk.output.trans h.kept.output,Nat.le_trans h.kept.size hk.size,fun i hi=>(hk.heap i (by omega)).trans (h.kept.heap i hi)⟩,⟨?_,?_,?_,?_⟩,?_,Nat.le_trans hs hk.size⟩
  · rw [key _ (by omega)]; exact h1
  · rw [key _ (by omega)]; exact h2
  · rw [key _ (by omega)]; exact h3
  · rw [key _ (by omega)]; exact h4
  · rw [key _ (by omega)]; exact h.box
theorem five {W:World} {o1 o2 o3 o4 o5:Obj}:let w:=((((W.alloc o1).alloc o2).alloc o3).alloc o4).alloc o5
    KeptAll W w∧w.heap[W.heap.size]? = some o1∧w.heap[W.heap.size+1]? = some o2∧w.heap[W.heap.size+1+1]? = some o3∧w.heap[W.heap.size+1+1+1]? = some o4∧w.heap[W.heap.size+1+1+1+1]? = some o5∧W.heap.size+5≤w.heap.size:=by
  refine ⟨kept_alloc (kept_alloc (kept_alloc (kept_alloc (kept_alloc ⟨rfl,rfl,Nat.le_refl _,fun _ _=>rfl⟩ o1) o2) o3) o4) o5,?_,?_,?_,?_,?_,?_⟩
  · rw [alloc_get,alloc_get,alloc_get,alloc_get,alloc_get]; simp only [alloc_size]
    rw [if_neg (by omega),if_neg (by omega),if_neg (by omega),if_neg (by omega),if_pos trivial]
  · rw [alloc_get,alloc_get,alloc_get,alloc_get]; simp only [alloc_size]
    rw [if_neg (by omega),if_neg (by omega),if_neg (by omega),if_pos trivial]
  · rw [alloc_get,alloc_get,alloc_get]; simp only [alloc_size]
    rw [if_neg (by omega),if_neg (by omega),if_pos trivial]
  · rw [alloc_get,alloc_get]; simp only [alloc_size]
    rw [if_neg (by omega),if_pos trivial]
  · rw [alloc_get]; simp only [alloc_size]
    rw [if_pos trivial]
  · simp only [alloc_size]; omega
theorem St.start (W:World):St W (((((W.alloc (Obj.cells #[Value.string { data:=#[97] },Value.string { data:=#[98,50] }] 9)).alloc
                  (Obj.cells #[Value.string { data:=#[120] },Value.string { data:=#[] }] 9)).alloc
              (Obj.cells #[Value.string { data:=#[] },Value.string { data:=#[123,97,125] }] 9)).alloc
          (Obj.cells
            #[Value.slice (some { block:=W.heap.size+1,off:=0 }) 2 2,
              Value.slice (some { block:=W.heap.size+1+1,off:=0 }) 2 2]
            23)).alloc
      (Obj.cells
        #[Value.slice (some { block:=W.heap.size,off:=0 }) 2 2,
          Value.slice (some { block:=W.heap.size+1+1+1,off:=0 }) 2 2]
        26)) [] [123,97,125]:=by
  obtain ⟨h1,h2,h3,h4,h5,h6,h7⟩:=@five W (Obj.cells #[Value.string { data:=#[97] },Value.string { data:=#[98,50] }] 9) (Obj.cells #[Value.string { data:=#[120] },Value.string { data:=#[] }] 9) (Obj.cells #[Value.string { data:=#[] },Value.string { data:=#[123,97,125] }] 9) (Obj.cells #[Value.slice (some { block:=W.heap.size+1,off:=0 }) 2 2,Value.slice (some { block:=W.heap.size+1+1,off:=0 }) 2 2] 23) (Obj.cells #[Value.slice (some { block:=W.heap.size,off:=0 }) 2 2,Value.slice (some { block:=W.heap.size+1+1+1,off:=0 }) 2 2] 26)
  exact ⟨h1,⟨h2,h3,h4,h5⟩,h6,h7⟩
theorem St.glo {gm0:Int} {W w:World} {x y:List UInt8} (h:St W w x y) (hg:∀ g∈([(0,[gm0].flatMap (cI .i64))]:Glos),GloAt (allS W) W g.1 g.2):∀ g∈([(0,[gm0].flatMap (cI .i64))]:Glos),GloAt (allS w) w g.1 g.2:=by
  intro g hgm
  exact (hg g hgm).mono (fun b hb=>Nat.lt_of_lt_of_le hb h.kept.size) (fun b hb=>h.kept.heap b hb)
theorem cell_at {w:World} {b:Nat} {arr:Array Value} {E:TypeId} (h:w.heap[b]? = some (.cells arr E (0,0))) (i:Nat):w.cell? ⟨b,i,none⟩=arr[i]? := by
  simp [World.cell?,h]
theorem St.cells {W w:World} {x y:List UInt8} (h:St W w x y):w.cell? ⟨W.heap.size+1+1+1+1,0,none⟩=some (.slice (some ⟨W.heap.size,0,none⟩) 2 2)∧w.cell? ⟨W.heap.size+1+1+1+1,1,none⟩=some (.slice (some ⟨W.heap.size+1+1+1,0,none⟩) 2 2) ∧
    w.cell? ⟨W.heap.size+1+1+1,1,none⟩=some (.slice (some ⟨W.heap.size+1+1,0,none⟩) 2 2):=by
  refine ⟨?_,?_,?_⟩
  · rw [cell_at h.box]; rfl
  · rw [cell_at h.box]; rfl
  · rw [cell_at h.blk.2.2.2]; rfl
theorem St.fresh {W w:World} {x y:List UInt8} (h:St W w x y):(∀ i,i=0∨i=1→∃ u,w.cell? ⟨W.heap.size+1+1,i,none⟩=some u)∧∀ i,w.frozen? ⟨W.heap.size+1+1,i,none⟩=false:=by
  refine ⟨fun i hi=>?_,fun i=>by simp [World.frozen?,h.blk.2.2.1]⟩
  rw [cell_at h.blk.2.2.1]
  rcases hi with rfl | rfl
  · exact ⟨_,rfl⟩
  · exact ⟨_,rfl⟩
theorem setCell_get (w:World) (b i:Nat) (u:Value) {arr:Array Value} {E:TypeId} {fz:Nat×Nat} (h:w.heap[b]? = some (.cells arr E fz)):(w.setCell ⟨b,i,none⟩ u).heap[b]? = some (.cells (arr.setIfInBounds i u) E fz):=by
  unfold World.setCell
  simp [Array.getElem?_modify,h]
theorem St.set {W w:World} {x y x' y':List UInt8} (h:St W w x y) (i:Nat) (u:Value) (hu:(#[strOf x,strOf y]:Array Value).setIfInBounds i u=#[strOf x',strOf y']):St W (w.setCell ⟨W.heap.size+1+1,i,none⟩ u) x' y':=by
  have key:∀ k,k≠W.heap.size+1+1→(w.setCell ⟨W.heap.size+1+1,i,none⟩ u).heap[k]? = w.heap[k]? := fun k hk=>Below.heap_setCell _ _ _ _ hk
  have hsz:(w.setCell ⟨W.heap.size+1+1,i,none⟩ u).heap.size=w.heap.size:=by simp [World.setCell]
  obtain ⟨h1,h2,h3,h4⟩:=h.blk
  refine ⟨⟨h.kept.os,h.kept.output,by rw [hsz]; exact h.kept.size,fun b hb=>(key b (by omega)).trans (h.kept.heap b hb)⟩,⟨?_,?_,?_,?_⟩,?_,by rw [hsz]; exact h.size⟩
  · rw [key _ (by omega)]; exact h1
  · rw [key _ (by omega)]; exact h2
  · rw [setCell_get _ _ _ _ h3,hu]
  · rw [key _ (by omega)]; exact h4
  · rw [key _ (by omega)]; exact h.box
theorem cut_str (v:List UInt8):Value.string ((⟨v.toArray⟩:ByteArray).extract 0 (min (v.length:Int) 1000).toNat)=strOf (v.take 1000):=by
  unfold strOf
  congr 1
  apply ByteArray.ext
  rw [ByteArray.data_extract]
  apply Array.ext'
  simp only [Array.toList_extract,List.extract,List.drop_zero,Nat.sub_zero]
  rcases Nat.lt_or_ge v.length 1000 with h | h
  · rw [show (min (v.length:Int) 1000).toNat=v.length by omega,List.take_of_length_le (by simp),List.take_of_length_le (by omega)]
  · rw [show (min (v.length:Int) 1000).toNat=1000 by omega]
set_option maxRecDepth 100000 in
set_option maxHeartbeats 4000000 in
theorem law4a {gm0:Int} (W:World) (s:List UInt8) (p:Option Addr) (cap:Nat) (hg:∀ g∈([(0,[gm0].flatMap (cI .i64))]:Glos),GloAt (allS W) W g.1 g.2):Calls Tryd.prog 4 #[.string ⟨s.toArray⟩,.slice p 0 cap] W fun e W'=>e=.returned (.bool true)∧KeptAll W W':=by
  go_enter Tryd.func4,Tryd.ntmps4
  go_wp2_with (go_at_fn 13)
  have h5:=St.start W
  revert h5
  generalize (World.alloc (World.alloc _ _) _)=W5
  intro h5
  refine (at_merge h5.blk ⟨8301,merge_fact 8301 (by decide)⟩ (h5.glo hg)).mono ?_
  rintro e W6 ⟨rfl,hk⟩
  have h6:=h5.next hk
  clear hk h5
  dsimp only [strOf]
  go_wp2
  refine wp_loop_rounds 1 ?_
  rw [rounds_succ]
  obtain ⟨hc0,hc1,hc2⟩:=h6.cells
  go_wp2_with (go_at_fn 13)
  by_cases hs:s.length≤8192
  · obtain ⟨q1,q2⟩:=merge_law 8301 s [] [123,97,125] (by simp) (by simp) (by decide)
    rw [decide_eq_false (by omega),cond_false] at q1
    replace q2:=q2 hs
    obtain ⟨⟨o,f⟩,hof⟩:∃ z,filled (MG [[],[123,97,125]] s [true] [])=z:=⟨_,rfl⟩
    rw [hof] at q1 q2
    refine (at_merge h6.blk ⟨8301,q1⟩ (h6.glo hg)).mono ?_
    rintro e W7 ⟨rfl,hk⟩
    have h7:=h6.next hk
    clear hk h6
    obtain ⟨hd0,hd1,hd2⟩:=h7.cells
    dsimp only [strOf]
    have hle:¬ (s.toArray.size:Int) > 8192:=by simp; omega
    have mixed:Tryd.prog.follows .mixedOrders=true:=by kernel_rfl
    go_wp2
    have h14:∀ args w,(callFunc 14 args).run Tryd.prog w=.ok (.enter 14 args) w:=enters_of Tryd.func14 (by kernel_rfl) rfl
    have h7d:St W W7.drew [] [123,97,125]:=h7.next ⟨rfl,rfl,Nat.le_refl _,fun _ _=>rfl⟩
    go_region_with (go_at_call 14; refine (at_merged h7d.blk.1 h7d.blk.2.2.1 ⟨8301,q2⟩).mono ?_; rintro e W8 ⟨rfl,hk⟩; have h8:=h7d.next hk; dsimp only [strOf])
    go_wp2
    all_goals
      go_ret
      exact ⟨rfl,h8.kept⟩
  · obtain ⟨q1,q2⟩:=merge_law 8301 s [] [123,97,125] (by simp) (by simp) (by decide)
    rw [decide_eq_true (by omega),cond_true] at q1
    refine (at_merge h6.blk ⟨8301,q1⟩ (h6.glo hg)).mono ?_
    rintro e W7 ⟨rfl,hk⟩
    have h7:=h6.next hk
    clear hk h6
    obtain ⟨hd0,hd1,hd2⟩:=h7.cells
    dsimp only [strOf]
    have hle:(s.toArray.size:Int) > 8192:=by simp; omega
    go_wp2
    all_goals
      go_ret
      exact ⟨rfl,h7.kept⟩
set_option maxRecDepth 100000 in
set_option maxHeartbeats 4000000 in
theorem law4b {gm0:Int} (W:World) (s v0:List UInt8) (vb vo cap:Nat) (hlc:1≤cap) (hg:∀ g∈([(0,[gm0].flatMap (cI .i64))]:Glos),GloAt (allS W) W g.1 g.2) (hv0:W.cell? ⟨vb,vo,none⟩=some (strOf v0)) (hvb:vb < W.heap.size):Calls Tryd.prog 4 #[.string ⟨s.toArray⟩,.slice (some ⟨vb,vo,none⟩) 1 cap] W fun e W'=>e=.returned (.bool true)∧KeptAll W W':=by
  go_enter Tryd.func4,Tryd.ntmps4
  go_wp2_with (go_at_fn 13)
  have h5:=St.start W
  revert h5
  generalize (World.alloc (World.alloc _ _) _)=W5
  intro h5
  refine (at_merge h5.blk ⟨8301,merge_fact 8301 (by decide)⟩ (h5.glo hg)).mono ?_
  rintro e W6 ⟨rfl,hk⟩
  have h6:=h5.next hk
  clear hk h5
  dsimp only [strOf]
  go_wp2
  refine wp_loop_rounds 2 ?_
  rw [rounds_succ]
  obtain ⟨hc0,hc1,hc2⟩:=h6.cells
  have hw0:W6.cell? ⟨vb,vo,none⟩=some (.string ⟨v0.toArray⟩):=(World.cell?_of_block (h6.kept.heap vb hvb)).trans hv0
  obtain ⟨u0,hc3⟩:=h6.fresh.1 0 (by omega)
  have hf3:=h6.fresh.2 0
  have hcut1:(0:Int)≤min (v0.length:Int) 1000:=by omega
  have hcut2:min (v0.length:Int) 1000≤(v0.length:Int):=by omega
  go_wp2
  go_region
  have hcu:=cut_str v0
  rw [hcu]
  have h6n:St W (W6.setCell ⟨W.heap.size+1+1,0,none⟩ (strOf (v0.take 1000))).drew (v0.take 1000) [123,97,125]:=(h6.set 0 _ rfl).next ⟨rfl,rfl,Nat.le_refl _,fun _ _=>rfl⟩
  revert h6n
  generalize hWg:World.drew (World.setCell W6 _ _)=W6'
  intro h6n
  clear hWg hc0 hc1 hc2 hc3 hf3 hw0 hcut1 hcut2 hcu h6
  clear W6
  obtain ⟨W6,rfl⟩:∃ x,x=W6':=⟨W6',rfl⟩
  have h6:=h6n
  clear h6n
  obtain ⟨hc0,hc1,hc2⟩:=h6.cells
  go_wp2
  rw [rounds_succ]
  go_wp2_with (go_at_fn 13)
  by_cases hs:s.length≤8192
  · obtain ⟨q1,q2⟩:=merge_law 8301 s (v0.take 1000) [123,97,125] (List.length_take_le ..) (by simp) (by decide)
    rw [decide_eq_false (by omega),cond_false] at q1
    replace q2:=q2 hs
    obtain ⟨⟨o,f⟩,hof⟩:∃ z,filled (MG [(v0.take 1000),[123,97,125]] s [true] [])=z:=⟨_,rfl⟩
    rw [hof] at q1 q2
    refine (at_merge h6.blk ⟨8301,q1⟩ (h6.glo hg)).mono ?_
    rintro e W7 ⟨rfl,hk⟩
    have h7:=h6.next hk
    clear hk h6
    obtain ⟨hd0,hd1,hd2⟩:=h7.cells
    dsimp only [strOf]
    have hle:¬ (s.toArray.size:Int) > 8192:=by simp; omega
    have mixed:Tryd.prog.follows .mixedOrders=true:=by kernel_rfl
    go_wp2
    have h14:∀ args w,(callFunc 14 args).run Tryd.prog w=.ok (.enter 14 args) w:=enters_of Tryd.func14 (by kernel_rfl) rfl
    have h7d:St W W7.drew (v0.take 1000) [123,97,125]:=h7.next ⟨rfl,rfl,Nat.le_refl _,fun _ _=>rfl⟩
    go_region_with (go_at_call 14; refine (at_merged h7d.blk.1 h7d.blk.2.2.1 ⟨8301,q2⟩).mono ?_; rintro e W8 ⟨rfl,hk⟩; have h8:=h7d.next hk; dsimp only [strOf])
    go_wp2
    all_goals
      go_ret
      exact ⟨rfl,h8.kept⟩
  · obtain ⟨q1,q2⟩:=merge_law 8301 s (v0.take 1000) [123,97,125] (List.length_take_le ..) (by simp) (by decide)
    rw [decide_eq_true (by omega),cond_true] at q1
    refine (at_merge h6.blk ⟨8301,q1⟩ (h6.glo hg)).mono ?_
    rintro e W7 ⟨rfl,hk⟩
    have h7:=h6.next hk
    clear hk h6
    obtain ⟨hd0,hd1,hd2⟩:=h7.cells
    dsimp only [strOf]
    have hle:(s.toArray.size:Int) > 8192:=by simp; omega
    go_wp2
    all_goals
      go_ret
      exact ⟨rfl,h7.kept⟩
set_option maxRecDepth 100000 in
set_option maxHeartbeats 4000000 in
theorem law4c {gm0:Int} (W:World) (s v0 v1:List UInt8) (vb vo len cap:Nat) (hl2:2≤len) (hlc:len≤cap) (hg:∀ g∈([(0,[gm0].flatMap (cI .i64))]:Glos),GloAt (allS W) W g.1 g.2) (hv0:W.cell? ⟨vb,vo,none⟩=some (strOf v0)) (hv1:W.cell? ⟨vb,vo+1,none⟩=some (strOf v1)) (hvb:vb < W.heap.size):Calls Tryd.prog 4 #[.string ⟨s.toArray⟩,.slice (some ⟨vb,vo,none⟩) len cap] W fun e W'=>e=.returned (.bool true)∧KeptAll W W':=by
  go_enter Tryd.func4,Tryd.ntmps4
  go_wp2_with (go_at_fn 13)
  have h5:=St.start W
  revert h5
  generalize (World.alloc (World.alloc _ _) _)=W5
  intro h5
  refine (at_merge h5.blk ⟨8301,merge_fact 8301 (by decide)⟩ (h5.glo hg)).mono ?_
  rintro e W6 ⟨rfl,hk⟩
  have h6:=h5.next hk
  clear hk h5
  dsimp only [strOf]
  have hmin:min (len:Int) 2=2:=by omega
  have h2c:2≤cap:=by omega
  have h2c':(2:Int)≤(cap:Int):=by omega
  have hlc':(len:Int)≤(cap:Int):=by omega
  go_wp2
  refine wp_loop_rounds 3 ?_
  rw [rounds_succ]
  obtain ⟨hc0,hc1,hc2⟩:=h6.cells
  have hw0:W6.cell? ⟨vb,vo,none⟩=some (.string ⟨v0.toArray⟩):=(World.cell?_of_block (h6.kept.heap vb hvb)).trans hv0
  obtain ⟨u0,hc3⟩:=h6.fresh.1 0 (by omega)
  have hf3:=h6.fresh.2 0
  have hcut1:(0:Int)≤min (v0.length:Int) 1000:=by omega
  have hcut2:min (v0.length:Int) 1000≤(v0.length:Int):=by omega
  go_wp2
  go_region
  have hcu:=cut_str v0
  rw [hcu]
  have h6n:St W (W6.setCell ⟨W.heap.size+1+1,0,none⟩ (strOf (v0.take 1000))).drew (v0.take 1000) [123,97,125]:=(h6.set 0 _ rfl).next ⟨rfl,rfl,Nat.le_refl _,fun _ _=>rfl⟩
  revert h6n
  generalize hWg:World.drew (World.setCell W6 _ _)=W6'
  intro h6n
  clear hWg hc0 hc1 hc2 hc3 hf3 hw0 hcut1 hcut2 hcu h6
  clear W6
  obtain ⟨W6,rfl⟩:∃ x,x=W6':=⟨W6',rfl⟩
  have h6:=h6n
  clear h6n
  obtain ⟨hc0,hc1,hc2⟩:=h6.cells
  go_wp2
  rw [rounds_succ]
  have hw1:W6.cell? ⟨vb,vo+1,none⟩=some (.string ⟨v1.toArray⟩):=(World.cell?_of_block (h6.kept.heap vb hvb)).trans hv1
  obtain ⟨u1,hc3⟩:=h6.fresh.1 1 (by omega)
  have hf3:=h6.fresh.2 1
  have hcut1:(0:Int)≤min (v1.length:Int) 1000:=by omega
  have hcut2:min (v1.length:Int) 1000≤(v1.length:Int):=by omega
  go_wp2
  go_region
  have hcu:=cut_str v1
  rw [hcu]
  have h6n:St W (W6.setCell ⟨W.heap.size+1+1,1,none⟩ (strOf (v1.take 1000))).drew (v0.take 1000) (v1.take 1000):=(h6.set 1 _ rfl).next ⟨rfl,rfl,Nat.le_refl _,fun _ _=>rfl⟩
  revert h6n
  generalize hWg:World.drew (World.setCell W6 _ _)=W6'
  intro h6n
  clear hWg hc0 hc1 hc2 hc3 hf3 hw1 hcut1 hcut2 hcu h6
  clear W6
  obtain ⟨W6,rfl⟩:∃ x,x=W6':=⟨W6',rfl⟩
  have h6:=h6n
  clear h6n
  obtain ⟨hc0,hc1,hc2⟩:=h6.cells
  go_wp2
  rw [rounds_succ]
  go_wp2_with (go_at_fn 13)
  by_cases hs:s.length≤8192
  · obtain ⟨q1,q2⟩:=merge_law 8301 s (v0.take 1000) (v1.take 1000) (List.length_take_le ..) (List.length_take_le ..) (by decide)
    rw [decide_eq_false (by omega),cond_false] at q1
    replace q2:=q2 hs
    obtain ⟨⟨o,f⟩,hof⟩:∃ z,filled (MG [(v0.take 1000),(v1.take 1000)] s [true] [])=z:=⟨_,rfl⟩
    rw [hof] at q1 q2
    refine (at_merge h6.blk ⟨8301,q1⟩ (h6.glo hg)).mono ?_
    rintro e W7 ⟨rfl,hk⟩
    have h7:=h6.next hk
    clear hk h6
    obtain ⟨hd0,hd1,hd2⟩:=h7.cells
    dsimp only [strOf]
    have hle:¬ (s.toArray.size:Int) > 8192:=by simp; omega
    have mixed:Tryd.prog.follows .mixedOrders=true:=by kernel_rfl
    go_wp2
    have h14:∀ args w,(callFunc 14 args).run Tryd.prog w=.ok (.enter 14 args) w:=enters_of Tryd.func14 (by kernel_rfl) rfl
    have h7d:St W W7.drew (v0.take 1000) (v1.take 1000):=h7.next ⟨rfl,rfl,Nat.le_refl _,fun _ _=>rfl⟩
    go_region_with (go_at_call 14; refine (at_merged h7d.blk.1 h7d.blk.2.2.1 ⟨8301,q2⟩).mono ?_; rintro e W8 ⟨rfl,hk⟩; have h8:=h7d.next hk; dsimp only [strOf])
    go_wp2
    all_goals
      go_ret
      exact ⟨rfl,h8.kept⟩
  · obtain ⟨q1,q2⟩:=merge_law 8301 s (v0.take 1000) (v1.take 1000) (List.length_take_le ..) (List.length_take_le ..) (by decide)
    rw [decide_eq_true (by omega),cond_true] at q1
    refine (at_merge h6.blk ⟨8301,q1⟩ (h6.glo hg)).mono ?_
    rintro e W7 ⟨rfl,hk⟩
    have h7:=h6.next hk
    clear hk h6
    obtain ⟨hd0,hd1,hd2⟩:=h7.cells
    dsimp only [strOf]
    have hle:(s.toArray.size:Int) > 8192:=by simp; omega
    go_wp2
    all_goals
      go_ret
      exact ⟨rfl,h7.kept⟩
end Go.Vm.MrgG
