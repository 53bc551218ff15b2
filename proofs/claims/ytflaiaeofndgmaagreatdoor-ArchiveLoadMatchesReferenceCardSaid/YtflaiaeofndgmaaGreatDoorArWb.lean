/-
  archive.keep: a piece is kept once.
-/
import Derived.Test.YtflaiaeofndgmaaGreatDoorArWa
import Derived.Recover
import Derived.WalkKit
import Derived.OwnWalk
import Derived.Deep.AppendLies
import Derived.Deep.RegionLaw
import Derived.TacticsInMore
import Derived.StillTailTactics
namespace Go.Vm.ArzG
open Go.Proofs
open Go.RowKit Go.Shelf Go.Vm.ArzM
theorem info9:(Tryz.prog.info? 9).map (fun i=>(i.zero,i.size,i.bytes))=some (some (.string ⟨#[]⟩),1,16):=by kernel_rfl
section
variable {lo:Nat} {w w1:World} {A:ArV} {st:Ar} {k:Int} {o:Obj} {q:Option Addr} {n c:Nat}
theorem ArAt.alloc (h:ArAt lo w A st) (o:Obj):ArAt lo (w.alloc o) A st:=h.keep ((Below.refl _ _).alloc (Nat.le_refl _) o) (Nat.le_refl _)
theorem ArAt.drew (h:ArAt lo w A st):ArAt lo w.drew A st:=h.keep (Below.refl w.heap.size _).drew (Nat.le_refl _)
theorem ArAt.grown (h:ArAt lo w A st) (hv:valAt (.slice none 0 0) (st.P.map (·.1)) A.pv k=.slice q n c) (hg:(w.alloc o).grownBy w1 (Value.slice q n c).ownBlock) :
  w1.cell? ⟨A.a,0,none⟩=some (.map (some A.bp))∧MapAt mkU w1 A.bp (st.P.map (·.1)) A.pv∧Mv w w1 (fun b=>(valAt (.slice none 0 0) (st.P.map (·.1)) A.pv k).ownBlock=some b) (fun b=>(valAt (.slice none 0 0) (st.P.map (·.1)) A.pv k).ownBlock=some b):=by
 have hb:∀ s b,A.blk st s=some b→(∀ i,s≠.pc i)→w1.heap[b]? = w.heap[b]? := fun s b hs hi=>by
  have hl:=h.lt ⟨s,hs⟩
  refine (hg.block b ?_ fun e=>?_).trans (Below.heap_alloc _ _ _ hl)
  ·show b < (w.alloc o).heap.size
   rw [World.size_alloc]
   omega
  ·rw [← hv] at e
   obtain ⟨i,_,h2⟩:=h.rowBlk k e.symm
   exact hi i (h.inj _ _ _ hs h2)
 refine ⟨?_,h.pm.next (hb .p _ rfl fun i e=>by cases e),?_⟩
 ·rw [World.cell?_of_block (hb .a _ rfl fun i e=>by cases e)]
  exact h.cells.1
 ·refine ⟨hg.os,hg.tape,hg.output,Nat.le_trans (by show w.heap.size≤(w.alloc o).heap.size; rw [World.size_alloc]; omega) hg.size,fun b hb hO=>(hg.block b (by show b < (w.alloc o).heap.size; rw [World.size_alloc]; omega) fun e=>hO (by rw [hv]; exact e.symm)).trans (Below.heap_alloc _ _ _ hb),fun b hb=>.inl hb⟩
end
theorem keep_end {lo:Nat} {w w1:World} {A:ArV} {st:Ar} {k:Int} {o:Obj} {q:Option Addr} {n c gg cp:Nat} {s:List UInt8} (h:ArAt lo w A st) (hv:valAt (.slice none 0 0) (st.P.map (·.1)) A.pv k=.slice q n c) (hg:(w.alloc o).grownBy w1 (Value.slice q n c).ownBlock)
  (hat:(Value.slice q n c).ownBlock=some gg∨gg=w.heap.size+1) (hown:w1.ownsRow lo 9 1 (.slice (some ⟨gg,0,none⟩) ((st.rowAt k).length+1) cp) ((st.rowAt k).length+1) ((st.rowAt k).map strOf++[strOf s])) (hlo:lo≤w.heap.size) :
  ∃ pv',ArAt lo (setO w1 A.bp (putO mkU (st.P.map (·.1)) A.pv k (.slice (some ⟨gg,0,none⟩) ((st.rowAt k).length+1) cp))) { A with pv:=pv' } (st.putRow k (st.rowAt k++[s])) ∧
   Mv w (setO w1 A.bp (putO mkU (st.P.map (·.1)) A.pv k (.slice (some ⟨gg,0,none⟩) ((st.rowAt k).length+1) cp))) (st.Own A) ((st.putRow k (st.rowAt k++[s])).Own { A with pv:=pv' }):=by
 obtain ⟨_,_,m⟩:=h.grown hv hg
 refine ⟨_,h.putRow ⟨m.os,m.tape,m.output,m.size,m.block,fun b hb=>?_⟩ hlo (by simpa using hown)⟩
 have e:gg=b:=by simpa [Value.ownBlock] using hb
 subst e
 rw [hv]
 exact hat.imp id fun h=>by omega
/-- What keep makes. -/
def keepTo (st:Ar) (k i:Int) (s:List UInt8):Int×Ar:=if i < 0 then (((st.rowAt k).length:Int),st.putRow k (st.rowAt k++[s])) else (i,st)
set_option maxRecDepth 100000 in
set_option maxHeartbeats 4000000 in
theorem keep_at {W0 w:World} {A:ArV} {st:Ar} {s:List UInt8} {k i:Int} {F:Nat} (h0:Below W0.heap.size W0 w) (hg:Tbl W0) (h:ArAt W0.heap.size w A st) (hk:filter_Sum F s=some k) (hi:slices_Index_string F (st.rowAt k) s=some i)
    (hn:(st.rowAt k).length≤1000000) (hs:s.length≤281474976710656) :
    Calls Tryz.prog 35 #[.pointer (some ⟨A.a,0,none⟩),strOf s] w fun e w'=>e=.returned (.tuple ⟨[.int .u32 k,.int .i64 (keepTo st k i s).1]⟩)∧∃ pv',ArAt W0.heap.size w' { A with pv:=pv' } (keepTo st k i s).2∧Mv w w' (st.Own A) ((keepTo st k i s).2.Own { A with pv:=pv' }):=by
  obtain ⟨i9,hi9,hz0,hz1,hz2⟩:=info_parts info9
  go_enter Tryz.func35,Tryz.ntmps35
  go_wp2_with (go_at_fn 40)
  refine (Sum_at w (hg.next h0) hk).mono ?_
  rintro e w1 ⟨rfl,hb⟩
  have h1:=h.keep hb (Nat.le_refl _)
  have m1:Mv w w1 (st.Own A) (st.Own A):=Mv.of hb
  have hsz:W0.heap.size≤w1.heap.size:=Nat.le_trans h0.size hb.size
  clear hb h
  obtain ⟨c0,_,_,_⟩:=h1.cells
  have lk:=h1.pm.look mtP k false
  obtain ⟨q,c,hv⟩:=own_val (h1.row k)
  have hrow:=h1.row k
  simp only [Bool.false_eq_true,if_false,hv,mkU] at lk hrow
  go_wp2_with (go_at_fn 53)
  refine (Index_at hrow hi).mono ?_
  rintro e w2 ⟨rfl,hb⟩
  have h2:=h1.keep hb (Nat.le_refl _)
  have m2:Mv w w2 (st.Own A) (st.Own A):=m1.trans (Mv.of hb)
  have hsz2:W0.heap.size≤w2.heap.size:=Nat.le_trans hsz hb.size
  clear hb h1 c0 lk m1 hrow
  obtain ⟨c0,_,_,_⟩:=h2.cells
  have lk:=h2.pm.look mtP k false
  simp only [Bool.false_eq_true,if_false,hv,mkU] at lk
  by_cases hneg:i < 0
  · have e1:keepTo st k i s=(((st.rowAt k).length:Int),st.putRow k (st.rowAt k++[s])):=if_pos hneg
    go_wp2
    have mixed:Tryz.prog.follows .mixedOrders=true:=by kernel_rfl
    have h14:∀ args w,(callFunc 54 args).run Tryz.prog w=.ok (.enter 54 args) w:=enters_of Tryz.func54 (by kernel_rfl) rfl
    have h2d:=h2.drew
    obtain ⟨d0,_,_,_⟩:=h2d.cells
    have lkd:=h2d.pm.look mtP k false
    have hrow:=h2d.row k
    simp only [Bool.false_eq_true,if_false,hv,mkU] at lkd hrow
    have hcl:strings_Clone F s=some s:=by unfold strings_Clone; rw [chk,if_pos hs]
    go_region_law
      (first
       | (refine step_append_lies _ (by rfl) _ _ _ (by rfl) W0.heap.size 9 i9 _ 1 16 Tryz.underlying24 hi9 hz0 hz1 hz2 rfl (by omega) (.slice q (st.rowAt k).length c) (st.rowAt k).length ((st.rowAt k).map strOf) (by rfl) (hrow3.alloc _)
              ⟨w3.heap.size,0,none⟩ 1 1 [strOf s] (by rfl) (by rfl) (cell_one_new _ _ _) (by simp [Value.oneCell',strOf])
              (by omega) (by simp [maxLen]; omega) (by omega) (by rw [World.size_alloc]; exact Nat.le_succ_of_le (Nat.le_trans hsz2 hk3.size)) (w3.heap.size+1) (World.size_alloc _ _) ?_; intro gg cp w4 hown4 hgrow hat hlt4; obtain ⟨g0,g1,g2⟩:=h3.grown hv hgrow; have mu:(Instr.mapUpdate 62 (.map (some A.bp)) (.int .u32 k) (.slice (some ⟨gg,0,none⟩) ((st.rowAt k).length+1) cp)).run Tryz.prog w4=_:=g1.put mtP k (.slice (some ⟨gg,0,none⟩) ((st.rowAt k).length+1) cp))
       | (go_simp; go_at_call 54; refine (Clone_at (s:=s) w2.drew hcl).mono ?_; rintro e w3 ⟨rfl,hk3⟩; have h3:=h2d.keep hk3 (Nat.le_refl _); obtain ⟨d3,_,_,_⟩:=h3.cells; have d4:=fun o=>(h3.alloc o).cells.1; have lk3:=h3.pm.look mtP k false; have lk4:=fun o=>(h3.alloc o).pm.look mtP k false; have hrow3:=h3.row k; simp only [Bool.false_eq_true,if_false,hv,mkU] at lk3 lk4 hrow3; dsimp only [strOf]))
    all_goals
      have hf:=keep_end (s:=s) h3 hv hgrow hat hown4 (Nat.le_trans hsz2 hk3.size)
      have m3:Mv w w3 (st.Own A) (st.Own A):=m2.trans (Mv.of ⟨hk3.os,hk3.tape,hk3.output,hk3.size,hk3.block⟩)
      revert hf
      generalize setO w4 _ _=w5
      rintro ⟨pv',f1,f2⟩
      go_wp2
      go_ret2
      (try rw [e1])
      exact ⟨rfl,pv',f1,m3.trans f2⟩
  · have e1:keepTo st k i s=(i,st):=if_neg hneg
    go_wp2
    go_ret2
    rw [e1]
    exact ⟨rfl,A.pv,h2,m2⟩
end Go.Vm.ArzG
