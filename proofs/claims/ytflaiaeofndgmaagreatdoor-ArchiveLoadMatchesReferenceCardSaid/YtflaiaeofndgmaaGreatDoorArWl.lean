/-
  archiveFact: data are stored and read.
-/
import Derived.Test.YtflaiaeofndgmaaGreatDoorArWk
namespace Go.Vm.ArzG
open Go.Proofs
open Go.RowKit Go.Shelf Go.Vm.ArzM
def st1:Ar:=⟨[(2363233923,[[120]])],[([97],[2363233923],[0],1)],[[97]]⟩
theorem put_x:putF 100 ⟨[],[],[]⟩ [97] [120]=some (0,st1):=by kernel_rfl
theorem get_x:getF st1 [97]=some ([120],0):=by kernel_rfl
theorem Cuts_20:archive_Cuts 100 [116,119,101,110,116,121,32,98,121,116,101,115,32,111,102,32,100,97,116,97]=some ([20],0):=by decide +kernel
set_option maxRecDepth 100000 in
set_option maxHeartbeats 4000000 in
theorem fact_at (W:World) (hg:Tbl W):Calls Tryz.prog 4 #[] W fun e W'=>e=.returned (.bool true)∧Below W.heap.size W W':=by
 have hb0:Below W.heap.size W (((W.alloc (.map #[] 0)).alloc (.map #[] 0)).alloc (.cells #[.map (some W.heap.size),.map (some (W.heap.size+1)),.slice none 0 0] 65 (0,0))) :=
  (((Below.refl _ _).alloc (Nat.le_refl _) _).alloc (by simp only [World.size_alloc]; omega) _).alloc (by simp only [World.size_alloc]; omega) _
 have hA:=ArAt.new W
 go_enter Tryz.func4,Tryz.ntmps4
 go_wp2_with (go_at_fn 11)
 refine (New_at W).mono ?_
 rintro e w1 ⟨rfl,rfl⟩
 revert hA hb0
 generalize (World.alloc (World.alloc (World.alloc _ _) _) _)=w1
 intro hb0 hA
 have hP:=Put_at hb0 hg hA put_x
 go_wp2_with (go_at_fn 12)
 refine hP.mono ?_
 rintro e w2 ⟨rfl,A',ka,h2,m2⟩
 have hb2:Below W.heap.size W w2:=hb0.trans (m2.below (fun b hb=>hA.from_ b hb) hb0.size)
 clear hP m2 hA
 have hG:=Get_at h2 get_x
 rw [ka] at hG
 go_wp2_with (go_at_fn 10)
 refine hG.mono ?_
 rintro e w3 ⟨rfl,hb3⟩
 have h3:=h2.keep hb3 (Nat.le_refl _)
 have hbW3:Below W.heap.size W w3:=hb2.trans (hb3.mono hb2.size)
 clear h2 hb3 hG hb2 hb0
 go_wp2_with (go_at_fn 13)
 refine (Cuts_at w3 Cuts_20).mono ?_
 rintro e w4 ⟨v,rfl,⟨q,c,rfl,hq⟩,hb4⟩
 have h4:=h3.keep hb4 (Nat.le_refl _)
 have hbW4:Below W.heap.size W w4:=hbW3.trans (hb4.mono hbW3.size)
 clear h3 hb4 hbW3
 obtain ⟨b,off,rfl,hbb,hbk,hcell⟩:=hq (by simp)
 have hc0:w4.cell? ⟨b,off,none⟩=some (.int .i64 20):=hcell 0 20 rfl
 clear hq hcell
 unfold strOf
 go_wp2
 have h5:ArAt W.heap.size (w4.alloc (Obj.cells #[Value.int .i64 20] 3)) A' st1:=h4.alloc _
 have hbW5:Below W.heap.size W (w4.alloc (Obj.cells #[Value.int .i64 20] 3)):=hbW4.trans (((Below.refl w4.heap.size _).alloc (Nat.le_refl _) _).mono hbW4.size)
 have e1:(w4.alloc (Obj.cells #[Value.int .i64 20] 3)).drew.cell? ⟨b,off,none⟩=some (.int .i64 20):=by
  rw [show (w4.alloc (Obj.cells #[Value.int .i64 20] 3)).drew.cell? ⟨b,off,none⟩=(w4.alloc (Obj.cells #[Value.int .i64 20] 3)).cell? ⟨b,off,none⟩ from rfl,World.cell?_of_block (w:=w4) (Below.heap_alloc _ _ _ hbk)]
  exact hc0
 have e2:(w4.alloc (Obj.cells #[Value.int .i64 20] 3)).drew.cell? ⟨w4.heap.size,0,none⟩=some (.int .i64 20) :=
  (cell_at (w:=(w4.alloc (Obj.cells #[Value.int .i64 20] 3)).drew) (heap_alloc_new w4 (.cells #[.int .i64 20] 3)) 0).trans rfl
 revert h5 e1 e2 hbW5
 generalize w4.alloc _=w5
 intro h5 hbW5 e1 e2
 have mixed:Tryz.prog.follows .mixedOrders=true:=by kernel_rfl
 refine wp_loop_rounds 2 ?_
 rw [rounds_succ]
 go_wp2
 go_still_tail 8,(by kernel_rfl)
 change wpList _ _ _ _ _ w5.drew
 go_wp2
 rw [rounds_succ]
 have h6:ArAt W.heap.size w5.drew A' st1:=h5.drew
 have hS:=Stats_at h6
 rw [ka] at hS
 go_wp2_with (go_at_fn 15)
 refine hS.mono ?_
 rintro e w7 ⟨rfl,hb7⟩
 go_wp2
 go_ret
 exact ⟨rfl,hbW5.drew.trans (hb7.mono hbW5.size)⟩
end Go.Vm.ArzG
