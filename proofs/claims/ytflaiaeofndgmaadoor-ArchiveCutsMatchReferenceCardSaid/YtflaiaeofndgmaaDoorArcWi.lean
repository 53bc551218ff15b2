import Derived.Test.YtflaiaeofndgmaaDoorArcWh
namespace Go.Vm.ArcG
open Go.Proofs
open Go.RowKit Go.Shelf
theorem Done.next {W w w':World} (h:Done W w) (hb:Below w.heap.size w w'):Done W w':=by
  obtain ⟨pb,pc,parr,pE,pf,kb,ko,kc,karr,kE,kf,ab,ao,ac,aarr,aE,af,ord,h,hpb,hp0,hkb,hk0,hab,ha0⟩:=h
  exact ⟨pb,pc,parr,pE,pf,kb,ko,kc,karr,kE,kf,ab,ao,ac,aarr,aE,af,ord,h.next hb,(hb.block _ (heap_lt hpb)).trans hpb,hp0,(hb.block _ (heap_lt hkb)).trans hkb,hk0,(hb.block _ (heap_lt hab)).trans hab,ha0⟩
theorem Done.below {W w:World} (h:Done W w):Below W.heap.size W w:=by
  obtain ⟨pb,pc,parr,pE,pf,kb,ko,kc,karr,kE,kf,ab,ao,ac,aarr,aE,af,ord,h,_⟩:=h
  exact h.below
theorem St.new (W:World):St W (((W.alloc (.map #[] 0)).alloc (.map #[] 0)).alloc (.cells #[.map (some W.heap.size),.map (some (W.heap.size+1)),.slice none 0 0] 43 (0,0))) (.map #[] 0) (.map #[] 0) (.slice none 0 0):=by
  refine ⟨(((Below.refl _ _).alloc (Nat.le_refl _) _).alloc (by simp) _).alloc (by simp; omega) _,?_,?_,?_⟩
  · show (((W.heap.push _).push _).push _)[W.heap.size]? = _
    rw [Array.getElem?_push,if_neg (by simp; omega),Array.getElem?_push,if_neg (by simp),Array.getElem?_push,if_pos rfl]
  · show (((W.heap.push _).push _).push _)[W.heap.size+1]? = _
    rw [Array.getElem?_push,if_neg (by simp),Array.getElem?_push,if_pos (by simp)]
  · show (((W.heap.push _).push _).push _)[W.heap.size+2]? = _
    rw [Array.getElem?_push,if_pos (by simp)]
set_option maxRecDepth 100000 in
set_option maxHeartbeats 4000000 in
theorem fact_at (W:World) (hg:GloAt (allS W) W 0 (glob_filter_steps.flatMap (cI .u32))):Calls Tryd.prog 4 #[] W fun e W'=>e=.returned (.bool true)∧Below W.heap.size W W':=by
  go_enter Tryd.func4,Tryd.ntmps4
  go_wp2_with (go_at_fn 8)
  refine (New_at W).mono ?_
  rintro e w1 ⟨rfl,rfl⟩
  have h1:=St.new W
  revert h1
  generalize (World.alloc (World.alloc (World.alloc _ _) _) _)=w1
  intro h1
  go_wp2_with (go_at_fn 9)
  refine (Put_at h1 hg).mono ?_
  rintro e w2 ⟨rfl,h2⟩
  clear h1
  go_wp2_with (go_at_fn 10)
  refine (Get_at h2).mono ?_
  rintro e w3 ⟨rfl,hb⟩
  have h3:=h2.next hb
  clear h2 hb
  go_wp2_with (go_at_fn 5)
  refine (Cuts_at w3 Cuts_20 (by simp)).mono ?_
  rintro e w4 ⟨v,rfl,hv,hb⟩
  have h4:=h3.next hb
  clear h3 hb
  obtain ⟨b,off,c,arr,E,fz,rfl,hbb,hbk,hcell⟩:=hv
  have hc0:w4.cell? ⟨b,off,none⟩=some (.int .i64 20):=(cell_at hbk off).trans (hcell 0 (by simp))
  go_wp2
  have h5:Done W (w4.alloc (Obj.cells #[Value.int .i64 20] 3)):=h4.next ((Below.refl _ _).alloc (Nat.le_refl _) _)
  have e1:(w4.alloc (Obj.cells #[Value.int .i64 20] 3)).drew.cell? ⟨b,off,none⟩=some (.int .i64 20):=by
    rw [show (w4.alloc (Obj.cells #[Value.int .i64 20] 3)).drew.cell? ⟨b,off,none⟩=(w4.alloc (Obj.cells #[Value.int .i64 20] 3)).cell? ⟨b,off,none⟩ from rfl,World.cell?_of_block (w:=w4) (Below.heap_alloc _ _ _ (heap_lt hbk))]
    exact hc0
  have e2:(w4.alloc (Obj.cells #[Value.int .i64 20] 3)).drew.cell? ⟨w4.heap.size,0,none⟩=some (.int .i64 20):=by
    have hz:(w4.alloc (Obj.cells #[Value.int .i64 20] 3)).heap[w4.heap.size]? = some (.cells #[.int .i64 20] 3 (0,0)):=by
      show (w4.heap.push _)[w4.heap.size]? = _
      rw [Array.getElem?_push,if_pos rfl]
    exact (cell_at (w:=(w4.alloc (Obj.cells #[Value.int .i64 20] 3)).drew) hz 0).trans rfl
  revert h5 e1 e2
  generalize w4.alloc _=w5
  intro h5 e1 e2
  have mixed:Tryd.prog.follows .mixedOrders=true:=by kernel_rfl
  refine wp_loop_rounds 2 ?_
  rw [rounds_succ]
  go_wp2
  go_still_tail 8,(by kernel_rfl)
  change wpList _ _ _ _ _ w5.drew
  go_wp2
  rw [rounds_succ]
  go_wp2_with (go_at_fn 11)
  have h6:Done W w5.drew:=h5.next (Below.refl _ _).drew
  refine (Stats_at h6).mono ?_
  rintro e w7 ⟨rfl,hb⟩
  have h7:=h6.next hb
  go_wp2
  go_ret
  exact ⟨rfl,h7.below⟩
theorem glo_all {S:Nat→Prop} {w:World} {g:Nat} {l:List Int} {k:IntKind} (h:GloAt S w g (l.flatMap (cI k))):GloAt (allS w) w g (l.flatMap (cI k)):=by
  obtain ⟨arr,E,fz,h1,h2,h3,h4⟩:=h
  refine ⟨arr,E,fz,heap_lt h2,h2,h3,RCs.of_get _ _ fun j d hd=>?_⟩
  obtain ⟨u,hu,hr⟩:=RCs.get _ _ j d h4 hd
  refine ⟨u,hu,?_⟩
  have hm:=List.mem_of_getElem? hd
  obtain ⟨x,_,hx⟩:=List.mem_flatMap.1 hm
  have:d=.v (.int k x):=by simpa [cI] using hx
  subst this
  exact hr
theorem fact_ok:ACall Tryd.prog 4 [] [.glo 0 (glob_filter_steps.flatMap (cI .u32))] (.d (.v (.bool true))) [.glo 0 (glob_filter_steps.flatMap (cI .u32))] :=
  ACall.ofBelowG ⟨_,Tryd.func4,by kernel_rfl,by kernel_rfl⟩ (us:=[]) (u:=.bool true) rfl (by decide) rfl fun w S h=>fact_at w (glo_all h)
end Go.Vm.ArcG
