/-
  R.Object's walk by hand: the loop's state.
-/
import Derived.Test.YtldmbabgcdmjcaaGreatDoorObjV
namespace Go.Vm.ObjM
open Go.Proofs
open Go.RowKit Go.Vm.ObjR
/-- A frame's plain words. -/
structure FOf (f:Fm) (x:bE):Prop where
 kind:f.kind=x.f0.f0
 n:x.f0.f1=0
 t:x.f0.f2=[]
 keys:f.keys=x.f0.f3
 kids:f.kids=x.f0.f4.map bK
 key:f.key=x.f1
 has:f.has=x.f2
theorem cB6 (o:aG):aV2 (bK o):=by
 obtain ⟨x0,x1,x2,x3,x4⟩:=o
 exact ⟨x0,x1,x2,x3.map cS,wH x4,rfl⟩
theorem FOf.dat {f:Fm} {x:bE} (h:FOf f x):f.dat=fE x:=by
 unfold Fm.dat fE bA
 rw [h.kind,h.keys,h.kids,h.key,h.has,h.n,h.t]
 rfl
theorem FOf.cB6 {f:Fm} {x:bE} (h:FOf f x):∀ y∈f.kids,aV2 y:=by
 intro y hy
 rw [h.kids] at hy
 obtain ⟨o,_,rfl⟩:=List.mem_map.1 hy
 exact ObjM.cB6 o
def nU:Obj:=.cells #[.int .i64 0,.int .i64 0,.string ⟨#[]⟩,.slice none 0 0,.slice none 0 0] 26 (0,0)
/-- The state of R.Object's loop. -/
structure LSt (W:World) (D:Nat→Prop) (w:World) (v:Value) (ps:List (Fm×bE)):Prop where
 stk:Stk 9 (W.heap.size+1) D w v (ps.map (·.1)).reverse
 fof:∀ p∈ps,FOf p.1 p.2
 below:Below W.heap.size W w
 res:w.heap[W.heap.size]? = some nU
section
variable {W w w':World} {D:Nat→Prop} {v:Value} {ps qs:List (Fm×bE)} {p:Fm×bE}
theorem LSt.lt (h:LSt W D w v ps):W.heap.size+1≤w.heap.size:=cZ h.res
theorem LSt.keep (h:LSt W D w v ps) (hb:Below w.heap.size w w'):LSt W D w' v ps :=
 ⟨h.stk.below hb,h.fof,h.below.trans (hb.mono h.below.size),(hb.block _ h.lt).trans h.res⟩
theorem LSt.alloc (h:LSt W D w v ps) (o:Obj):LSt W D (w.alloc o) v ps:=h.keep ((Below.refl _ _).alloc (Nat.le_refl _) _)
theorem LSt.drew (h:LSt W D w v ps):LSt W D w.drew v ps:=⟨h.stk.drew,h.fof,h.below.drew,h.res⟩
theorem LSt.rd (h:LSt W D w v ps):RD (rO w) w (.sl 7 ((ps.map (·.2)).reverse.map fE)) v:=by
 have:=h.stk.rd
 have e:(ps.map (·.1)).reverse.map Fm.dat=(ps.map (·.2)).reverse.map fE:=by
  rw [List.map_reverse,List.map_reverse,List.map_map,List.map_map]
  congr 1
  exact List.map_congr_left fun p hp=>(h.fof p hp).dat
 rw [← e]
 exact this
theorem LSt.cons (h:LSt W D w v (p :: qs)):Stk 9 (W.heap.size+1) D w v ((qs.map (·.1)).reverse++[p.1]):=by
 have:=h.stk
 rwa [List.map_cons,List.reverse_cons] at this
theorem LSt.of_cons (h:Stk 9 (W.heap.size+1) D w v ((qs.map (·.1)).reverse++[p.1])) (hf:∀ q∈p :: qs,FOf q.1 q.2) (hb:Below W.heap.size W w) (hr:w.heap[W.heap.size]? = some nU):LSt W D w v (p :: qs) :=
 ⟨by rw [List.map_cons,List.reverse_cons]; exact h,hf,hb,hr⟩
/-- Behind a step that leaves all below W.heap.size + 1 as it was. -/
theorem LSt.next (h:LSt W D w v ps) (hb:Below (W.heap.size+1) w w'):Below W.heap.size W w'∧w'.heap[W.heap.size]? = some nU :=
 ⟨h.below.trans (hb.mono (Nat.le_succ _)),(hb.block _ (Nat.lt_succ_self _)).trans h.res⟩
/-- The top's values. -/
theorem LSt.top (h:LSt W D w v (p :: qs)):∃ g cap cur qk lk ck qd ld cd,v=.slice (some ⟨g,0,none⟩) (qs.length+1) cap∧p.1.kv=.slice qk lk ck∧p.1.dv=.slice qd ld cd∧w.heap[g]? = some (.cells cur 57 (0,0)) ∧
  w.cell? ⟨g,qs.length * 7,none⟩=some (.int .i64 p.2.f0.f0)∧w.cell? ⟨g,qs.length * 7+1,none⟩=some (.int .i64 0)∧w.cell? ⟨g,qs.length * 7+2,none⟩=some (.string ⟨#[]⟩)∧w.cell? ⟨g,qs.length * 7+3,none⟩=some (.slice qk lk ck)∧w.cell? ⟨g,qs.length * 7+4,none⟩=some (.slice qd ld cd) ∧
  w.cell? ⟨g,qs.length * 7+5,none⟩=some (strOf p.2.f1)∧w.cell? ⟨g,qs.length * 7+6,none⟩=some (.bool p.2.f2)∧(∀ j,w.frozen? ⟨g,j,none⟩=false)∧W.heap.size+1≤g∧qs.length+1≤cap:=by
 have hs:=h.cons
 obtain ⟨g,cap,cur,e1,e2,e3,e4,e5,c0,c1,c2,c3,c4,c5,c6⟩:=hs.top
 have hf:=h.fof p (by simp)
 have hfm:p.1∈(qs.map (·.1)).reverse++[p.1]:=by simp
 obtain ⟨qk,lk,ck,ek⟩:=aD0 ((hs.each _ hfm).1.rd (D':=fun _=>True) (fun _ _=>trivial) fun _ _=>trivial)
 obtain ⟨qd,ld,cd,ed⟩:=aD0 ((hs.each _ hfm).2.rd (D':=fun _=>True) (fun _ _=>trivial) fun _ _=>trivial)
 have hn:((qs.map (·.1)).reverse).length=qs.length:=by simp
 rw [hn] at e1 e4 e5 c0 c1 c2 c3 c4 c5 c6
 rw [hf.kind] at c0
 rw [hf.key] at c5
 rw [hf.has] at c6
 rw [ek] at c3
 rw [ed] at c4
 have hc:∀ j,w.cell? ⟨g,j,none⟩=cur[j]? := fun j=>by simp [World.cell?,e3]
 exact ⟨g,cap,cur,qk,lk,ck,qd,ld,cd,e1,ek,ed,e3,(hc _).trans c0,(hc _).trans c1,(hc _).trans c2,(hc _).trans c3,(hc _).trans c4,(hc _).trans c5,(hc _).trans c6,fun j=>by simp [World.frozen?,e3],e2,e5⟩
/-- An object that is done. -/
structure Done (D:Nat→Prop) (w:World) (o:aG) (ov:OV):Prop where
 rc:RCs D w (bA o) (fun j=>ov.cells[j]?) 0
/-- The top is closed. -/
theorem LSt.close {g cap:Nat} {qk qd:Option Addr} {lk ck ld cd:Nat} (h:LSt W D w (.slice (some ⟨g,0,none⟩) (qs.length+1) cap) (p :: qs)) (hk:p.1.kv=.slice qk lk ck) (hd:p.1.dv=.slice qd ld cd) :
  LSt W (fun b=>D b∨p.1.Has b) w (.slice (some ⟨g,0,none⟩) qs.length cap) qs∧RCs (fun b=>D b∨p.1.Has b) w (bA p.2.f0) (fun j=>(OV.mk p.2.f0.f0 0 ⟨#[]⟩ qk lk ck qd ld cd).cells[j]?) 0:=by
 have hs:=h.cons
 have hn:((qs.map (·.1)).reverse).length=qs.length:=by simp
 rw [← hn] at hs
 obtain ⟨h1,h2⟩:=hs.pop
 have hf:=h.fof p (by simp)
 rw [hn] at h1
 refine ⟨⟨h1,fun q hq=>h.fof q (by simp [hq]),h.below,h.res⟩,?_⟩
 rw [hf.kind,hf.keys,hf.kids,hk,hd] at h2
 have e:bA p.2.f0=[.v (.int .i64 p.2.f0.f0),.v (.int .i64 0),.str [],.sl 1 (p.2.f0.f3.map cS),.sl 5 (p.2.f0.f4.map bK)]:=by
  unfold bA
  rw [hf.n,hf.t]
  rfl
 rw [e]
 exact h2
/-- A key is set. -/
theorem LSt.bS7 {g cap:Nat} (h:LSt W D w (.slice (some ⟨g,0,none⟩) (qs.length+1) cap) (p :: qs)) (hg:W.heap.size+1≤g) (key:List UInt8) :
  LSt W D ((w.setCell ⟨g,qs.length * 7+5,none⟩ (strOf key)).setCell ⟨g,qs.length * 7+6,none⟩ (.bool true)) (.slice (some ⟨g,0,none⟩) (qs.length+1) cap) (({ p.1 with key:=key,has:=true },{ p.2 with f1:=key,f2:=true }) :: qs):=by
 have hs:=h.cons
 have hn:((qs.map (·.1)).reverse).length=qs.length:=by simp
 rw [← hn] at hs
 have h1:=hs.bS7 key true
 rw [hn] at h1
 have hf:=h.fof p (by simp)
 have hb:Below (W.heap.size+1) w ((w.setCell ⟨g,qs.length * 7+5,none⟩ (strOf key)).setCell ⟨g,qs.length * 7+6,none⟩ (.bool true)):=((Below.refl _ _).setCell hg _).setCell hg _
 refine LSt.of_cons h1 (fun q hq=>?_) (h.next hb).1 (h.next hb).2
 rcases List.mem_cons.1 hq with rfl | hq
 ·exact ⟨hf.kind,hf.n,hf.t,hf.keys,hf.kids,rfl,rfl⟩
 ·exact h.fof q (by simp [hq])
/-- The stack's blocks lie ahead of a new one. -/
theorem LSt.ahead (h:LSt W D w v ps):(∀ b,D b→b < w.heap.size)∧∀ p∈ps,∀ b,p.1.Has b→b < w.heap.size :=
 ⟨fun b hb=>(h.stk.inD b hb).2,fun p hp b hb=>(h.stk.aH8 (List.mem_reverse.2 (List.mem_map_of_mem hp)) hb).2⟩
theorem aO4:∀ (l:List (List UInt8)) (key:List UInt8),dQ l key=kP l key
 | [],_=>rfl
 | x :: r,key=>by rw [dQ,kP,aO4 r key]
/-- An object is put into the top. -/
theorem LSt.give {o:aG} {ov:OV} {x':bE} (h:LSt W D w v (p :: qs)) (hr:RCs D w (bA o) (fun j=>ov.cells[j]?) 0) (hp:uQ p.2 o=some x') (hq:qs.length≤1000) :
  Calls Tryz.prog 23 #[v,ov.val] w fun e w'=>e=.returned (.tuple #[])∧∃ f',LSt W D w' v ((f',x') :: qs)∧Below (W.heap.size+1) w w':=by
 have hs:=h.cons
 have hn:((qs.map (·.1)).reverse).length=qs.length:=by simp
 have hf:=h.fof p (by simp)
 have hlk:p.1.kids.length=p.2.f0.f4.length:=by rw [hf.kids,List.length_map]
 rw [← lI] at hr
 unfold uQ at hp
 cases hl:decide (1000≤p.2.f0.f4.length) with
 | true=>rw [hl,cond_true] at hp; cases hp
 | false =>
  rw [hl,cond_false] at hp
  have hl':=of_decide_eq_false hl
  cases h6:(p.2.f0.f0 == 6) with
  | true =>
   rw [h6,cond_true] at hp
   have hx:=Option.some.inj hp
   refine (aU8 hs (by rw [hf.kind]; simpa using h6) hf.cB6 hr (cB6 o) (by omega) (by omega) h.lt).mono ?_
   rintro e w' ⟨rfl,dv',h1,hb⟩
   refine ⟨rfl,{ p.1 with kids:=p.1.kids++[bK o],dv:=dv' },LSt.of_cons h1 (fun q hq=>?_) (h.next hb).1 (h.next hb).2,hb⟩
   rcases List.mem_cons.1 hq with rfl | hq
   ·subst hx
    exact ⟨hf.kind,hf.n,hf.t,hf.keys,by simp [hf.kids],hf.key,hf.has⟩
   ·exact h.fof q (by simp [hq])
  | false =>
   rw [h6,cond_false] at hp
   cases h7:(p.2.f0.f0 == 7 && p.2.f0.f3.length == p.2.f0.f4.length) with
   | false=>rw [h7,cond_false] at hp; cases hp
   | true =>
    rw [h7,cond_true] at hp
    have hx:=Option.some.inj hp
    simp only [Bool.and_eq_true,beq_iff_eq] at h7
    refine (aT9 hs (by rw [hf.kind]; exact h7.1) hf.cB6 (by rw [hf.keys,hlk]; exact h7.2) hr (cB6 o) (by omega) (by omega) h.lt).mono ?_
    rintro e w' ⟨rfl,kv',dv',h1,hb⟩
    refine ⟨rfl,{ bV8 p.1 (bK o) with kv:=kv',dv:=dv' },LSt.of_cons h1 (fun q hq=>?_) (h.next hb).1 (h.next hb).2,hb⟩
    rcases List.mem_cons.1 hq with rfl | hq
    ·subst hx
     refine ⟨hf.kind,hf.n,hf.t,?_,?_,hf.key,rfl⟩
     ·simp only [bV8,hf.keys,hf.key,aO4]
     ·simp only [bV8,hf.keys,hf.key,hf.kids,aO4,List.map_append,List.map_cons,List.map_take,List.map_drop]
    ·exact h.fof q (by simp [hq])
end
end Go.Vm.ObjM
