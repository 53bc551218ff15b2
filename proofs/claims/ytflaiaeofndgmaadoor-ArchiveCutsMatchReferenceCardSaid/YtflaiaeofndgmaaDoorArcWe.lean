import Derived.Test.YtflaiaeofndgmaaDoorArcWd
namespace Go.Vm.ArcG
open Go.Proofs
open Go.RowKit Go.Shelf
set_option maxRecDepth 100000 in
set_option maxHeartbeats 4000000 in
theorem Put_at {W w:World} (h:St W w (.map #[] 0) (.map #[] 0) (.slice none 0 0)) (hg:GloAt (allS W) W 0 (glob_filter_steps.flatMap (cI .u32))):Calls Tryd.prog 9 #[.pointer (some ⟨W.heap.size+2,0,none⟩),.string ⟨#[97]⟩,.string ⟨#[120]⟩] w fun e w'=>e=.returned (.int .i64 0)∧Done W w':=by
  go_enter Tryd.func9,Tryd.ntmps9
  go_wp2_with (go_at_fn 5)
  refine (Cuts_at (s:=[120]) w Cuts_x (by simp)).mono ?_
  rintro e w1 ⟨v,rfl,hv,hb⟩
  have h1:=h.next hb
  have k1:Kept1 W.heap.size w w1:=Kept1.of hb
  have hsz:=hb.size
  clear hb h
  obtain ⟨b,off,c,arr,E,fz,rfl,hbb,hbk,hcell⟩:=hv
  go_wp2_with (go_at_fn 14)
  refine (plain_at (s:=[97]) w1 plain_a).mono ?_
  rintro e w2 ⟨rfl,hb⟩
  have h2:=h1.next hb
  obtain ⟨c0,c1,c2⟩:=h2.cells
  go_wp2
  refine wp_loop_rounds 1 ?_
  rw [rounds_succ]
  go_wp2
  have hX:=heap_lt h2.hx
  have h3:=h2.alloc1 (Obj.cells #[Value.slice none 0 0,Value.slice none 0 0,Value.int IntKind.i64 1] 48)
  have hXX:(w2.alloc (Obj.cells #[Value.slice none 0 0,Value.slice none 0 0,Value.int IntKind.i64 1] 48)).heap[w2.heap.size]? = some (.cells #[Value.slice none 0 0,Value.slice none 0 0,Value.int IntKind.i64 1] 48 (0,0)):=by
    show (w2.heap.push _)[w2.heap.size]? = _
    rw [Array.getElem?_push,if_pos rfl]
  have hB1:=heap_lt hbk
  have hbX:b < w2.heap.size:=Nat.lt_of_lt_of_le hB1 hb.size
  have hbb3:(w2.alloc (Obj.cells #[Value.slice none 0 0,Value.slice none 0 0,Value.int IntKind.i64 1] 48)).cell? ⟨b,off,none⟩=some (.int .i64 1):=by
    rw [World.cell?_of_block (w:=w1) (by rw [Below.heap_alloc _ _ _ hbX]; exact hb.block b hB1),cell_at hbk]
    exact hcell 0 (by simp)
  have k3:=k1.trans ((Kept1.of hb).trans (Kept1.of ((Below.refl _ _).alloc (Nat.le_refl _) (Obj.cells #[Value.slice none 0 0,Value.slice none 0 0,Value.int IntKind.i64 1] 48))))
  revert h3 hXX hbb3 k3
  generalize w2.alloc _=w3
  generalize w2.heap.size=X at *
  intro h3 hXX hbb3 k3
  clear hcell hbk h1 h2 c0 c1 c2 hb
  refine wp_loop_rounds 2 ?_
  rw [rounds_succ]
  go_wp2_with (go_at_fn 16)
  refine (keep_at h3 hg).mono ?_
  rintro e w4 ⟨rfl,k4,pb,pc,parr,pE,pfz,h4,hpb,hpk,hp0⟩
  have hX4:w4.heap[X]? = some (.cells #[Value.slice none 0 0,Value.slice none 0 0,Value.int IntKind.i64 1] 48 (0,0)):=(k4.block X (heap_lt hXX) (by omega)).trans hXX
  go_wp2
  have mixed:Tryd.prog.follows .mixedOrders=true:=by kernel_rfl
  have hp1:(([]:List Int)).length+([(2363233923:Int)]).length≤4294967296:=by decide
  have hp2:(([]:List Int)).length+([(0:Int)]).length≤4294967296:=by decide
  let R:List (Nat×Value):=[(0,.pointer (some ⟨W.heap.size+2,0,none⟩)),(1,.string ⟨#[97]⟩),(2,.string ⟨#[120]⟩),(6,.int .i64 0),(9,.int .i64 0),(13,.int .i64 1),(14,.int .u32 2363233923),(15,.int .i64 0),(46,.slice (some ⟨b,off,none⟩) 1 c),(47,.int .i64 1),(48,.int .i64 0)]
  have hRn:∀ z∈R,z.1≠11∧z.1 < 93:=by
    intro z hz
    simp only [R,List.mem_cons,List.not_mem_nil,or_false] at hz
    rcases hz with rfl | rfl | rfl | rfl | rfl | rfl | rfl | rfl | rfl | rfl | rfl <;> (constructor <;> (dsimp only; decide))
  have hRd:(R.map (·.1)).Nodup:=(by decide:[0,1,2,6,9,13,14,15,46,47,48].Nodup)
  refine (?_:T Tryd.prog (envX w4 X) 93 (.region 16 _ true) (frX [] [] R) _) _ w4 (memX (N:=93) (r:=R) hX4 rfl rfl rfl ?_ (by decide))
  rotate_left
  ·
    intro z hz
    simp only [R,List.mem_cons,List.not_mem_nil,or_false] at hz
    rcases hz with rfl | rfl | rfl | rfl | rfl | rfl | rfl | rfl | rfl | rfl | rfl <;> exact ⟨rfl,rfl⟩
  refine T_drawX_end mixed 38 (.take 0 (.take 2 (.take 5 (.take 7 (.all (.alt 1 (.all (.alt 3 (.all (.alt 4 (.all (.alt 6 (.take 10 (.all (.alt 8 (.all (.alt 9 (.all (.alt 11 (.take 12 (.all (.alt 13 .done .stop))) .stop)) .stop)) .stop))) (.alt 8 (.take 6 (.take 10 (.all (.alt 9 (.all (.alt 11 (.take 12 (.all (.alt 13 .done .stop))) .stop)) .stop)))) .stop))) (.alt 6 (.all (.alt 4 (.take 10 (.all (.alt 8 (.all (.alt 9 (.all (.alt 11 (.take 12 (.all (.alt 13 .done .stop))) .stop)) .stop)) .stop))) (.alt 8 (.all (.alt 4 (.take 10 (.all (.alt 9 (.all (.alt 11 (.take 12 (.all (.alt 13 .done .stop))) .stop)) .stop))) .stop)) .stop))) (.alt 8 (.all (.alt 4 (.take 6 (.take 10 (.all (.alt 9 (.all (.alt 11 (.take 12 (.all (.alt 13 .done .stop))) .stop)) .stop)))) (.alt 6 (.all (.alt 4 (.take 10 (.all (.alt 9 (.all (.alt 11 (.take 12 (.all (.alt 13 .done .stop))) .stop)) .stop))) .stop)) .stop))) .stop)))) (.alt 6 (.all (.alt 3 (.all (.alt 4 (.take 10 (.all (.alt 8 (.all (.alt 9 (.all (.alt 11 (.take 12 (.all (.alt 13 .done .stop))) .stop)) .stop)) .stop))) (.alt 8 (.all (.alt 4 (.take 10 (.all (.alt 9 (.all (.alt 11 (.take 12 (.all (.alt 13 .done .stop))) .stop)) .stop))) .stop)) .stop))) (.alt 8 (.all (.alt 3 (.all (.alt 4 (.take 10 (.all (.alt 9 (.all (.alt 11 (.take 12 (.all (.alt 13 .done .stop))) .stop)) .stop))) .stop)) .stop)) .stop))) (.alt 8 (.all (.alt 3 (.all (.alt 4 (.take 6 (.take 10 (.all (.alt 9 (.all (.alt 11 (.take 12 (.all (.alt 13 .done .stop))) .stop)) .stop)))) (.alt 6 (.all (.alt 4 (.take 10 (.all (.alt 9 (.all (.alt 11 (.take 12 (.all (.alt 13 .done .stop))) .stop)) .stop))) .stop)) .stop))) (.alt 6 (.all (.alt 3 (.all (.alt 4 (.take 10 (.all (.alt 9 (.all (.alt 11 (.take 12 (.all (.alt 13 .done .stop))) .stop)) .stop))) .stop)) .stop)) .stop))) .stop)))) (.alt 3 (.all (.alt 1 (.all (.alt 4 (.all (.alt 6 (.take 10 (.all (.alt 8 (.all (.alt 9 (.all (.alt 11 (.take 12 (.all (.alt 13 .done .stop))) .stop)) .stop)) .stop))) (.alt 8 (.take 6 (.take 10 (.all (.alt 9 (.all (.alt 11 (.take 12 (.all (.alt 13 .done .stop))) .stop)) .stop)))) .stop))) (.alt 6 (.all (.alt 4 (.take 10 (.all (.alt 8 (.all (.alt 9 (.all (.alt 11 (.take 12 (.all (.alt 13 .done .stop))) .stop)) .stop)) .stop))) (.alt 8 (.all (.alt 4 (.take 10 (.all (.alt 9 (.all (.alt 11 (.take 12 (.all (.alt 13 .done .stop))) .stop)) .stop))) .stop)) .stop))) (.alt 8 (.all (.alt 4 (.take 6 (.take 10 (.all (.alt 9 (.all (.alt 11 (.take 12 (.all (.alt 13 .done .stop))) .stop)) .stop)))) (.alt 6 (.all (.alt 4 (.take 10 (.all (.alt 9 (.all (.alt 11 (.take 12 (.all (.alt 13 .done .stop))) .stop)) .stop))) .stop)) .stop))) .stop)))) (.alt 6 (.all (.alt 1 (.all (.alt 4 (.take 10 (.all (.alt 8 (.all (.alt 9 (.all (.alt 11 (.take 12 (.all (.alt 13 .done .stop))) .stop)) .stop)) .stop))) (.alt 8 (.all (.alt 4 (.take 10 (.all (.alt 9 (.all (.alt 11 (.take 12 (.all (.alt 13 .done .stop))) .stop)) .stop))) .stop)) .stop))) (.alt 8 (.take 1 (.all (.alt 4 (.take 10 (.all (.alt 9 (.all (.alt 11 (.take 12 (.all (.alt 13 .done .stop))) .stop)) .stop))) .stop))) .stop))) (.alt 8 (.take 1 (.all (.alt 4 (.take 6 (.take 10 (.all (.alt 9 (.all (.alt 11 (.take 12 (.all (.alt 13 .done .stop))) .stop)) .stop)))) (.alt 6 (.all (.alt 4 (.take 10 (.all (.alt 9 (.all (.alt 11 (.take 12 (.all (.alt 13 .done .stop))) .stop)) .stop))) .stop)) .stop)))) .stop)))) (.alt 6 (.all (.alt 1 (.all (.alt 3 (.all (.alt 4 (.take 10 (.all (.alt 8 (.all (.alt 9 (.all (.alt 11 (.take 12 (.all (.alt 13 .done .stop))) .stop)) .stop)) .stop))) (.alt 8 (.all (.alt 4 (.take 10 (.all (.alt 9 (.all (.alt 11 (.take 12 (.all (.alt 13 .done .stop))) .stop)) .stop))) .stop)) .stop))) (.alt 8 (.all (.alt 3 (.all (.alt 4 (.take 10 (.all (.alt 9 (.all (.alt 11 (.take 12 (.all (.alt 13 .done .stop))) .stop)) .stop))) .stop)) .stop)) .stop))) (.alt 3 (.all (.alt 1 (.all (.alt 4 (.take 10 (.all (.alt 8 (.all (.alt 9 (.all (.alt 11 (.take 12 (.all (.alt 13 .done .stop))) .stop)) .stop)) .stop))) (.alt 8 (.all (.alt 4 (.take 10 (.all (.alt 9 (.all (.alt 11 (.take 12 (.all (.alt 13 .done .stop))) .stop)) .stop))) .stop)) .stop))) (.alt 8 (.take 1 (.all (.alt 4 (.take 10 (.all (.alt 9 (.all (.alt 11 (.take 12 (.all (.alt 13 .done .stop))) .stop)) .stop))) .stop))) .stop))) (.alt 8 (.all (.alt 1 (.all (.alt 3 (.all (.alt 4 (.take 10 (.all (.alt 9 (.all (.alt 11 (.take 12 (.all (.alt 13 .done .stop))) .stop)) .stop))) .stop)) .stop)) (.alt 3 (.take 1 (.all (.alt 4 (.take 10 (.all (.alt 9 (.all (.alt 11 (.take 12 (.all (.alt 13 .done .stop))) .stop)) .stop))) .stop))) .stop))) .stop)))) (.alt 8 (.all (.alt 1 (.all (.alt 3 (.all (.alt 4 (.take 6 (.take 10 (.all (.alt 9 (.all (.alt 11 (.take 12 (.all (.alt 13 .done .stop))) .stop)) .stop)))) (.alt 6 (.all (.alt 4 (.take 10 (.all (.alt 9 (.all (.alt 11 (.take 12 (.all (.alt 13 .done .stop))) .stop)) .stop))) .stop)) .stop))) (.alt 6 (.all (.alt 3 (.all (.alt 4 (.take 10 (.all (.alt 9 (.all (.alt 11 (.take 12 (.all (.alt 13 .done .stop))) .stop)) .stop))) .stop)) .stop)) .stop))) (.alt 3 (.take 1 (.all (.alt 4 (.take 6 (.take 10 (.all (.alt 9 (.all (.alt 11 (.take 12 (.all (.alt 13 .done .stop))) .stop)) .stop)))) (.alt 6 (.all (.alt 4 (.take 10 (.all (.alt 9 (.all (.alt 11 (.take 12 (.all (.alt 13 .done .stop))) .stop)) .stop))) .stop)) .stop)))) (.alt 6 (.all (.alt 1 (.all (.alt 3 (.all (.alt 4 (.take 10 (.all (.alt 9 (.all (.alt 11 (.take 12 (.all (.alt 13 .done .stop))) .stop)) .stop))) .stop)) .stop)) (.alt 3 (.take 1 (.all (.alt 4 (.take 10 (.all (.alt 9 (.all (.alt 11 (.take 12 (.all (.alt 13 .done .stop))) .stop)) .stop))) .stop))) .stop))) .stop)))) .stop))))))))) ([0,1,0,4,10,0,32,0,128,336,127,1663,4095,8191],[0,1,0,4,10,0,32,0,128,320,0,1040,0,4608]) 5351 [(3,{ es:=some (([(2363233923:Int)]).map (cI .u32)) }),(4,{ es:=some (([(2363233923:Int)]:List Int).map (cI .u32)) }),(8,{ es:=some (([(0:Int)]).map (cI .i64)) }),(9,{ es:=some (([(0:Int)]:List Int).map (cI .i64)) })] [virtBase,11,0,1,2,6,9,13,14,15,46,47,48] [] (frX [[.v (.int .u32 2363233923)]] [[.v (.int .i64 0)]] R) ((fun (o3:Prop)=>fun (o4:Prop)=>fun (o8:Prop)=>fun (o9:Prop)=>[(5,o3),(0,o4),(2,o8),(0,o9),(3,o8),(2,o9),(4,o4),(1,o8),(0,o9),(3,o8),(0,o4),(1,o9),(3,o8),(0,o4),(2,o9),(4,o4),(1,o9),(4,o3),(0,o4),(1,o8),(0,o9),(3,o8),(0,o4),(1,o9),(3,o8),(0,o3),(0,o4),(1,o9),(3,o8),(0,o3),(0,o4),(2,o9),(4,o4),(1,o9),(4,o3),(0,o4),(1,o9),(3,o3),(1,o4),(2,o8),(0,o9),(3,o8),(2,o9),(4,o4),(1,o8),(0,o9),(3,o8),(0,o4),(1,o9),(3,o8),(0,o4),(2,o9),(4,o4),(1,o9),(5,o4),(1,o8),(0,o9),(3,o8),(0,o4),(1,o9),(3,o8),(1,o4),(1,o9),(3,o8),(1,o4),(2,o9),(4,o4),(1,o9),(5,o3),(0,o4),(1,o8),(0,o9),(3,o8),(0,o4),(1,o9),(3,o8),(0,o3),(0,o4),(1,o9),(3,o3),(1,o4),(1,o8),(0,o9),(3,o8),(0,o4),(1,o9),(3,o8),(1,o4),(1,o9),(3,o8),(1,o3),(0,o4),(1,o9),(3,o3),(1,o4),(1,o9),(3,o8),(1,o3),(0,o4),(2,o9),(4,o4),(1,o9),(4,o3),(0,o4),(1,o9),(3,o3),(1,o4),(2,o9),(4,o4),(1,o9),(5,o3),(0,o4),(1,o9),(3,o3),(1,o4),(1,o9)]) ((([(2363233923:Int)]).map (cI .u32))=(([(2363233923:Int)]).map (cI .u32))) ((([]:List Int).map (cI .u32)).length+(([(2363233923:Int)]).map (cI .u32)).length≤4294967296∧(([]:List Int).map (cI .u32))++(([(2363233923:Int)]).map (cI .u32))=(([(2363233923:Int)]:List Int).map (cI .u32))) ((([(0:Int)]).map (cI .i64))=(([(0:Int)]).map (cI .i64))) ((([]:List Int).map (cI .i64)).length+(([(0:Int)]).map (cI .i64)).length≤4294967296∧(([]:List Int).map (cI .i64))++(([(0:Int)]).map (cI .i64))=(([(0:Int)]:List Int).map (cI .i64)))) 3 (by kernel_rfl) (by kernel_rfl) (by kernel_rfl) (have p3:=rfl; have p4:(([]:List Int).map (cI .u32)).length+(([(2363233923:Int)]:List Int).map (cI .u32)).length≤4294967296∧(([]:List Int).map (cI .u32))++(([(2363233923:Int)]:List Int).map (cI .u32))=(([(2363233923:Int)]:List Int).map (cI .u32)):=app_ok (cI .u32) hp1; have p8:=rfl; have p9:(([]:List Int).map (cI .i64)).length+(([(0:Int)]:List Int).map (cI .i64)).length≤4294967296∧(([]:List Int).map (cI .i64))++(([(0:Int)]:List Int).map (cI .i64))=(([(0:Int)]:List Int).map (cI .i64)):=app_ok (cI .i64) hp2; ⟨p3,p4,p8,p9,p8,p9,p4,p8,p9,p8,p4,p9,p8,p4,p9,p4,p9,p3,p4,p8,p9,p8,p4,p9,p8,p3,p4,p9,p8,p3,p4,p9,p4,p9,p3,p4,p9,p3,p4,p8,p9,p8,p9,p4,p8,p9,p8,p4,p9,p8,p4,p9,p4,p9,p4,p8,p9,p8,p4,p9,p8,p4,p9,p8,p4,p9,p4,p9,p3,p4,p8,p9,p8,p4,p9,p8,p3,p4,p9,p3,p4,p8,p9,p8,p4,p9,p8,p4,p9,p8,p3,p4,p9,p3,p4,p9,p8,p3,p4,p9,p4,p9,p3,p4,p9,p3,p4,p9,p4,p9,p3,p4,p9,p3,p4,p9⟩) ?_
  intro a5 w5 hm5
  obtain ⟨hd5,hN5,hr5,h115,k5,kb,ko,kc,karr,kE,kf,ab,ao,ac,aarr,aE,af,E5,hX5,hkb,hkk,hk0,hab,haa,ha0⟩:=outX (heap_lt hX4) hm5 hRn (by decide) hRd
  obtain ⟨tm,df⟩:=a5
  obtain ⟨J,rfl,hJ⟩:=lit93 tm hN5
  have hd5':df=[]:=hd5
  subst hd5'
  have j11:=hJ 11 _ (h115 (by decide))
  have hJr:∀ z∈R,J z.1=z.2:=fun z hz=>hJ _ _ (hr5 z hz)
  simp only [R,List.forall_mem_cons] at hJr
  obtain ⟨j0,j1,j2,j6,j9,j13,j14,j15,j46,j47,j48,_⟩:=hJr
  have eJ:((List.range 93).map J).toArray=#[J 0,J 1,J 2,J 3,J 4,J 5,J 6,J 7,J 8,J 9,J 10,J 11,J 12,J 13,J 14,J 15,J 16,J 17,J 18,J 19,J 20,J 21,J 22,J 23,J 24,J 25,J 26,J 27,J 28,J 29,J 30,J 31,J 32,J 33,J 34,J 35,J 36,J 37,J 38,J 39,J 40,J 41,J 42,J 43,J 44,J 45,J 46,J 47,J 48,J 49,J 50,J 51,J 52,J 53,J 54,J 55,J 56,J 57,J 58,J 59,J 60,J 61,J 62,J 63,J 64,J 65,J 66,J 67,J 68,J 69,J 70,J 71,J 72,J 73,J 74,J 75,J 76,J 77,J 78,J 79,J 80,J 81,J 82,J 83,J 84,J 85,J 86,J 87,J 88,J 89,J 90,J 91,J 92]:=rfl
  rw [eJ,j11,j0,j1,j2,j6,j9,j13,j14,j15,j46,j47,j48]
  clear eJ hm5 hd5 hN5 hr5 h115 hJ j0 j1 j2 j6 j9 j13 j14 j15 j46 j47 j48 j11 hRn hRd hp1 hp2 R
  go_wp2
  rw [rounds_succ]
  have h5:=h4.other k5 (by omega)
  have hX5d:w5.drew.heap[X]? = some (.cells #[.slice (some ⟨kb,ko,none⟩) 1 kc,.slice (some ⟨ab,ao,none⟩) 1 ac,.int .i64 1] E5 (0,0)):=hX5
  have h5d:St W w5.drew _ _ _:=h5.next (Below.refl _ _).drew
  have x0:=cell_at hX5d 0
  have x1:=cell_at hX5d 1
  have x2:=cell_at hX5d 2
  have y1:=h5d.cells.2.1
  have mu:=fun v=>put_name h5d.hq ⟨#[97]⟩ v
  go_wp2
  go_region_with (fail)
  all_goals
    have h6:=h5d.name (mq':=Obj.map #[⟨.string ⟨#[97]⟩,.agg #[.slice (some ⟨kb,ko,none⟩) 1 kc,.slice (some ⟨ab,ao,none⟩) 1 ac,.int .i64 1],0⟩] 1)
    have k6:=Kept1.setO w5.drew (W.heap.size+1) (Obj.map #[⟨.string ⟨#[97]⟩,.agg #[.slice (some ⟨kb,ko,none⟩) 1 kc,.slice (some ⟨ab,ao,none⟩) 1 ac,.int .i64 1],0⟩] 1)
    clear mu
    revert h6 k6
    generalize setO w5.drew _ _=w6
    intro h6 k6
    obtain ⟨d0,d1,d2⟩:=h6.cells
    have d3:=fun o1 o2=>(h6.alloc2 o1 o2).cells.2.2
    have d4:=fun o1 o2=>(h6.alloc2 o1 o2).frozen 2
    go_wp2
    go_ret
    refine ⟨rfl,?_⟩
    have s4:W.heap.size+2 < w4.heap.size:=heap_lt h4.hx
    have s5:w4.heap.size≤w5.heap.size:=k5.size
    have hX3:=heap_lt hXX
    have q1:w6.heap[pb]? = some (.cells parr pE pfz):=(k6.block pb (Nat.lt_of_lt_of_le (heap_lt hpk) s5) (by omega)).trans ((k5.block pb (heap_lt hpk) (by omega)).trans hpk)
    have q2:w6.heap[kb]? = some (.cells karr kE kf):=(k6.block kb (heap_lt hkk) (by omega)).trans hkk
    have q3:w6.heap[ab]? = some (.cells aarr aE af):=(k6.block ab (heap_lt haa) (by omega)).trans haa
    have q4:=fun o1 o2 v=>(h6.list o1 o2 v).2
    exact ⟨pb,pc,parr,pE,pfz,kb,ko,kc,karr,kE,kf,ab,ao,ac,aarr,aE,af,_,(h6.list _ _ _).1,(q4 _ _ _ pb (heap_lt q1) (by omega)).trans q1,hp0,(q4 _ _ _ kb (heap_lt q2) (by omega)).trans q2,hk0,(q4 _ _ _ ab (heap_lt q3) (by omega)).trans q3,ha0⟩
end Go.Vm.ArcG
