/-
  R.Object's walk by hand.
-/
import Derived.Test.YtldmbabgcdmjcaaGreatDoorObjU
import Derived.Deep.LoopGhost
import Derived.TacticsInMore
namespace Go.Vm.ObjM
open Go.Proofs
open Go.RowKit Go.Vm.ObjR
theorem cK {fn:Func} {p u v:Tmp} {ty:TypeId} (h:fn.results=#[.cell p ty,.tmp u,.tmp v]) (tmps:Array Value) (P:Program) (w:World) :
  (results fn tmps).run P w =
   ((asAddr (tmps.getD p undef)).run P w).andThen fun a w₁=>((loadVar ty a).run P w₁).andThen fun x w₂=>.ok (.tuple #[x,tmps.getD u undef,tmps.getD v undef]) w₂:=by
 simp only [results,h]
 simp [Sem.run_bind,Result.andThen]
/-- What R.Object hands back. -/
def Post (W:World) (r:aG×Int×Int) (e:Ending) (W':World):Prop :=
 ∃ (ov:OV) (D:Nat→Prop),e=.returned (.tuple #[ov.val,.int .i64 r.2.1,.int .i64 r.2.2])∧Below W.heap.size W W'∧(∀ b,D b→W.heap.size≤b∧b < W'.heap.size)∧RCs D W' (bA r.1) (fun j=>ov.cells[j]?) 0
theorem cR3 (D:Nat→Prop) (w:World):RCs D w (bA sD) (fun j=>OV.zero.cells[j]?) 0:=by
 unfold bA sD
 simp only [cI,cS,cL,List.map_nil,List.cons_append,List.nil_append,RCs,RD]
 exact ⟨⟨_,rfl,rfl,rfl⟩,⟨_,rfl,rfl,rfl⟩,⟨_,rfl,rfl⟩,⟨_,rfl,.inl ⟨⟨_,rfl⟩,trivial⟩⟩,⟨_,rfl,.inl ⟨⟨_,rfl⟩,trivial⟩⟩,trivial⟩
theorem kF {W W':World} {x y:Int} (hb:Below W.heap.size W W'):Post W (sD,x,y) (.returned (.tuple #[.agg #[.int .i64 0,.int .i64 0,.string ⟨#[]⟩,.slice none 0 0,.slice none 0 0],.int .i64 x,.int .i64 y])) W' :=
 ⟨OV.zero,fun _=>False,rfl,hb,fun _ h=>h.elim,cR3 _ _⟩
theorem LSt.bX6 {W w:World} {D:Nat→Prop} {v:Value} {ps:List (Fm×bE)} (h:LSt W D w v ps):(w.cell? ⟨W.heap.size,0,none⟩=some (.int .i64 0)∧w.cell? ⟨W.heap.size,1,none⟩=some (.int .i64 0)∧w.cell? ⟨W.heap.size,2,none⟩=some (.string ⟨#[]⟩)∧w.cell? ⟨W.heap.size,3,none⟩=some (.slice none 0 0)∧w.cell? ⟨W.heap.size,4,none⟩=some (.slice none 0 0)) ∧
  (w.frozen? ⟨W.heap.size,0,none⟩=false∧w.frozen? ⟨W.heap.size,1,none⟩=false∧w.frozen? ⟨W.heap.size,2,none⟩=false∧w.frozen? ⟨W.heap.size,3,none⟩=false∧w.frozen? ⟨W.heap.size,4,none⟩=false):=by
 have:=h.res
 unfold nU at this
 simp [World.cell?,World.frozen?,this]
/-- The result's box is written. -/
theorem kD {W w:World} (h:Below W.heap.size W w) (u0 u1 u2 u3 u4:Value):Below W.heap.size W (((((w.setCell ⟨W.heap.size,0,none⟩ u0).setCell ⟨W.heap.size,1,none⟩ u1).setCell ⟨W.heap.size,2,none⟩ u2).setCell ⟨W.heap.size,3,none⟩ u3).setCell ⟨W.heap.size,4,none⟩ u4) :=
 ((((h.setCell (Nat.le_refl _) _).setCell (Nat.le_refl _) _).setCell (Nat.le_refl _) _).setCell (Nat.le_refl _) _).setCell (Nat.le_refl _) _
theorem dD7 (W:World):LSt W (fun _=>False) (W.alloc nU) (.slice none 0 0) [] :=
 ⟨Stk.nil fun _ h=>h.elim,by simp,(Below.refl _ _).alloc (Nat.le_refl _) _,heap_alloc_new _ _⟩
theorem cells5 {w:World} {T:Nat} {a b c d e:Value} {ty:TypeId} (h:w.heap[T]? = some (.cells #[a,b,c,d,e] ty (0,0))):(w.cell? ⟨T,0,none⟩=some a∧w.cell? ⟨T,1,none⟩=some b∧w.cell? ⟨T,2,none⟩=some c∧w.cell? ⟨T,3,none⟩=some d∧w.cell? ⟨T,4,none⟩=some e) ∧
  (w.frozen? ⟨T,0,none⟩=false∧w.frozen? ⟨T,1,none⟩=false∧w.frozen? ⟨T,2,none⟩=false∧w.frozen? ⟨T,3,none⟩=false∧w.frozen? ⟨T,4,none⟩=false):=by
 simp [World.cell?,World.frozen?,h]
theorem mJ {w:World} {T:Nat} (a b c d e:Value) {k:Nat} (hk:k≠T):(((((w.setCell ⟨T,0,none⟩ a).setCell ⟨T,1,none⟩ b).setCell ⟨T,2,none⟩ c).setCell ⟨T,3,none⟩ d).setCell ⟨T,4,none⟩ e).heap[k]? = w.heap[k]? := by
 rw [Below.heap_setCell _ _ _ _ hk,Below.heap_setCell _ _ _ _ hk,Below.heap_setCell _ _ _ _ hk,Below.heap_setCell _ _ _ _ hk,Below.heap_setCell _ _ _ _ hk]
theorem mW {W w:World} {T:Nat} (h:Below W.heap.size W w) (hT:W.heap.size≤T) (u0 u1 u2 u3 u4:Value):Below W.heap.size W (((((w.setCell ⟨T,0,none⟩ u0).setCell ⟨T,1,none⟩ u1).setCell ⟨T,2,none⟩ u2).setCell ⟨T,3,none⟩ u3).setCell ⟨T,4,none⟩ u4) :=
 ((((h.setCell hT _).setCell hT _).setCell hT _).setCell hT _).setCell hT _
theorem bF3 {W w:World} {D:Nat→Prop} {o:aG} {ov:OV} (hb:Below W.heap.size W w) (hD:∀ b,D b→W.heap.size+1≤b∧b < w.heap.size) (hr:RCs D w (bA o) (fun j=>ov.cells[j]?) 0) :
  Post W (o,0,0) (.returned (.tuple #[ov.val,.int .i64 0,.int .i64 0])) (((((w.setCell ⟨W.heap.size,0,none⟩ (.int .i64 ov.z0)).setCell ⟨W.heap.size,1,none⟩ (.int .i64 ov.z1)).setCell ⟨W.heap.size,2,none⟩ (.string ov.s2)).setCell ⟨W.heap.size,3,none⟩ (.slice ov.q3 ov.l3 ov.p3)).setCell ⟨W.heap.size,4,none⟩ (.slice ov.q4 ov.l4 ov.p4)) :=
 ⟨ov,D,rfl,kD hb _ _ _ _ _,fun b h=>⟨by have:=(hD b h).1; omega,by simpa [World.setCell] using (hD b h).2⟩,RCs.mono (fun _ h=>h) (fun b h=>mJ _ _ _ _ _ (by have:=(hD b h).1; omega)) _ _ _ hr⟩
theorem bB4 (D:Nat→Prop) (w:World) {o:aG} (h3:o.f3=[]) (h4:o.f4=[]):RCs D w (bA o) (fun j=>(bM9 o).cells[j]?) 0:=by
 unfold bA
 rw [h3,h4]
 simp only [cI,cS,cL,List.map_nil,List.cons_append,List.nil_append,RCs,RD]
 exact ⟨⟨_,rfl,rfl,rfl⟩,⟨_,rfl,rfl,rfl⟩,⟨_,rfl,rfl⟩,⟨_,rfl,.inl ⟨⟨_,rfl⟩,trivial⟩⟩,⟨_,rfl,.inl ⟨⟨_,rfl⟩,trivial⟩⟩,trivial⟩
theorem cX7:(Tryz.prog.info? 57).map (fun i=>(i.zero,i.size,i.bytes))=some (some (.agg #[.int .i64 0,.int .i64 0,.string ⟨#[]⟩,.slice none 0 0,.slice none 0 0,.string ⟨#[]⟩,.bool false]),7,104):=by kernel_rfl
theorem yQ:∃ i,Tryz.prog.info? 57=some i∧i.zero=some (.agg #[.int .i64 0,.int .i64 0,.string ⟨#[]⟩,.slice none 0 0,.slice none 0 0,.string ⟨#[]⟩,.bool false])∧i.size=7∧i.bytes=104:=by
 have h:=cX7
 cases hi:Tryz.prog.info? 57 with
 | none=>rw [hi] at h; cases h
 | some i =>
  rw [hi] at h
  simp only [Option.map_some,Option.some.injEq,Prod.mk.injEq] at h
  exact ⟨i,rfl,h.1,h.2.1,h.2.2⟩
theorem aW5:Tryz.prog.underlying 51=some (.slice 57):=by kernel_rfl
theorem LSt.push {W w w5:World} {D:Nat→Prop} {v:Value} {ps:List (Fm×bE)} (h:LSt W D w v ps) (kd:Int) {g cp:Nat} (hown:w5.ownsRow (W.heap.size+1) 57 7 (.slice (some ⟨g,0,none⟩) (ps.length+1) cp) (ps.length+1) (((ps.map (·.1)).reverse).flatMap Fm.cells++[.int .i64 kd,.int .i64 0,.string ⟨#[]⟩,.slice none 0 0,.slice none 0 0,.string ⟨#[]⟩,.bool false]))
  {ob:Obj} (hgrow:(w.alloc ob).grownBy w5 v.ownBlock) (hat:v.ownBlock=some g∨g=w.heap.size+1):LSt W D w5 (.slice (some ⟨g,0,none⟩) (ps.length+1) cp) ((⟨kd,[],[],[],false,.slice none 0 0,.slice none 0 0⟩,⟨⟨kd,0,[],[],[]⟩,[],false⟩) :: ps):=by
 have hn:((ps.map (·.1)).reverse).length=ps.length:=by simp
 have hsz:=hgrow.size
 rw [World.size_alloc] at hsz
 have hold:∀ b,b < w.heap.size→v.ownBlock≠some b→w5.heap[b]? = w.heap[b]? := fun b hb hv=>(hgrow.block b (by rw [World.size_alloc]; omega) (Ne.symm hv)).trans (Below.heap_alloc _ _ _ hb)
 have hW:=h.lt
 have hvW:∀ b,v.ownBlock=some b→W.heap.size+1≤b:=fun b hb=>(h.stk.cZ2 hb).1
 refine LSt.of_cons ?_ (fun q hq=>?_) ?_ ((hold _ h.lt fun e=>by have:=hvW _ e; omega).trans h.res)
 ·refine Stk.push h.stk (f':=⟨kd,[],[],[],false,.slice none 0 0,.slice none 0 0⟩) (by rw [hn]; exact hown) ⟨rfl,rfl⟩ ⟨rfl,rfl⟩ (fun b hb=>?_) hold (by omega)
  cases hb
  exact hat.imp id fun e=>by show w.heap.size≤g; omega
 ·rcases List.mem_cons.1 hq with rfl | hq
  ·exact ⟨rfl,rfl,rfl,rfl,rfl,rfl,rfl⟩
  ·exact h.fof q hq
 ·exact (h.below.alloc h.below.size _).grown hgrow (by rw [World.size_alloc]; omega) fun j hj=>Nat.le_of_succ_le (hvW j hj)
theorem LSt.shape {W w:World} {D:Nat→Prop} {v:Value} {ps:List (Fm×bE)} (h:LSt W D w v ps):∃ q cp,v=.slice q ps.length cp∧w.ownsRow (W.heap.size+1) 57 7 v ps.length (((ps.map (·.1)).reverse).flatMap Fm.cells):=by
 have hn:((ps.map (·.1)).reverse).length=ps.length:=by simp
 have hr:=h.stk.row
 rw [hn] at hr
 rcases hr.2 with ⟨e,e'⟩ | ⟨g,cp,cu,e,_⟩
 ·exact ⟨none,0,by rw [e,e'],hr⟩
 ·exact ⟨_,cp,e,hr⟩
set_option maxRecDepth 100000 in
set_option maxHeartbeats 8000000 in
theorem cA4 {W:World} {F:Nat} {s:List UInt8} {r:aG×Int×Int} (h:cM8 F s=some r):Calls Tryz.prog 8 #[.string ⟨s.toArray⟩] W (Post W r):=by
 unfold cM8 at h
 cases h8:decide (8192 < s.length) with
 | true =>
  rw [h8,cond_true] at h
  cases Option.some.inj h
  have hl:=of_decide_eq_true h8
  have hl':(8192:Int) < (s.length:Int):=by omega
  go_enter Tryz.func8,Tryz.ntmps8
  go_wp2
  refine bodyPost_ret_by (by rw [cK rfl]; go_simp; rfl) rfl ?_
  exact kF ((Below.refl _ _).alloc (Nat.le_refl _) _)
 | false =>
  rw [h8,cond_false] at h
  have hl:=of_decide_eq_false h8
  have hl':¬ (8192:Int) < (s.length:Int):=by omega
  clear h8
  have HO:Aside (jY F s F [] 0=some r):=h
  clear h
  go_enter Tryz.func8,Tryz.ntmps8
  have L0:=dD7 W
  unfold nU at L0
  go_wp2
  revert L0
  generalize World.alloc _ _=w0
  intro L0
  go_loopg [5,6] F (fun g v5 v6 wx=>∃ (a:Int) (D:Nat→Prop) (ps:List (Fm×bE)),v6=.int .i64 a∧ps.length≤1000∧LSt W D wx v5 ps∧jY F s g (ps.map (·.2)) a=some r)
  case atStart=>exact ⟨0,_,[],rfl,by simp,L0,HO.out⟩
  case round =>
   obtain ⟨a,D,ps,rfl,hlen,hL,hgo⟩:=hrel
   obtain ⟨n,rfl⟩:∃ n,gk=n+1:=by
    cases gk with
    | zero=>cases hgo
    | succ n=>exact ⟨n,rfl⟩
   unfold jY aK2 at hgo
   cases hlex:lC F s a with
   | none=>rw [hlex] at hgo; cases hgo
   | some q =>
    obtain ⟨⟨t0,t1,t2,t3,t4⟩,from_,e⟩:=q
    rw [hlex] at hgo
    dsimp only at hgo
    have HG:Aside _:=hgo
    clear hgo
    clear L0 HO
    go_wp2_with (go_at_fn 20)
    refine (bT7 wr hlex).mono ?_
    rintro _ w1 ⟨rfl,hb1⟩
    unfold aV3
    dsimp only
    have h1:=hL.keep hb1
    clear hL hb1 hlex
    have h2:=h1.alloc (.cells #[.int .i64 t0,.int .i64 t1,.string ⟨t2.toArray⟩,.int .i64 t3,.int .i64 t4] 46)
    have hcs:∀ j,(w1.alloc (.cells #[.int .i64 t0,.int .i64 t1,.string ⟨t2.toArray⟩,.int .i64 t3,.int .i64 t4] 46)).cell? ⟨w1.heap.size,j,none⟩=(#[.int .i64 t0,.int .i64 t1,.string ⟨t2.toArray⟩,.int .i64 t3,.int .i64 t4]:Array Value)[j]? := fun j=>World.cell?_alloc_new _ _ _ _
    by_cases he:e=0
    ·subst he
     have hgo:=HG.out
     rw [show ((0:Int) != 0)=false from rfl,cond_false] at hgo
     clear HG
     cases hst:dK F (ps.map (·.2)).reverse ⟨t0,t1,t2,t3,t4⟩ with
     | none=>rw [hst] at hgo; cases hgo
     | some q =>
      obtain ⟨end_,e⟩:=q
      rw [hst] at hgo
      dsimp only at hgo
      have HG:Aside _:=hgo
      have HC:Aside _:=hcs
      clear hgo hcs
      go_wp2_with (go_at_fn 21)
      refine (cV4 _ hst h2.rd).mono ?_
      rintro _ w3 ⟨rfl,hb3⟩
      have h3:=h2.keep hb3
      have hT:w3.heap[w1.heap.size]? = some (.cells #[.int .i64 t0,.int .i64 t1,.string ⟨t2.toArray⟩,.int .i64 t3,.int .i64 t4] 46 (0,0)):=(hb3.block _ (by rw [World.size_alloc]; omega)).trans (heap_alloc_new _ _)
      have hah:=h1.ahead
      have hWT:W.heap.size+1≤w1.heap.size:=h1.lt
      clear hb3 h2 h1 HC hst
      revert hT hah hWT
      generalize w1.heap.size=T
      intro hT hah hWT
      have HAh:Aside _:=hah
      clear hah
      by_cases he:e=0
      ·subst he
       have hgo:=HG.out
       clear HG
       rw [show ((0:Int) != 0)=false from rfl,cond_false] at hgo
       have h4:=h3.alloc nU
       have hT4:(w3.alloc nU).heap[T]? = _:=(Below.heap_alloc _ _ _ (cZ hT)).trans hT
       have hO:(w3.alloc nU).heap[w3.heap.size]? = some nU:=heap_alloc_new _ _
       have hTO:T≠w3.heap.size:=Nat.ne_of_lt (cZ hT)
       have tk:∀ j,(w3.alloc nU).cell? ⟨T,j,none⟩=(#[.int .i64 t0,.int .i64 t1,.string ⟨t2.toArray⟩,.int .i64 t3,.int .i64 t4]:Array Value)[j]? := fun j=>by simp [World.cell?,hT4]
       cases end_ with
       | true =>
        rw [cond_true] at hgo
        cases ps with
        | nil=>cases hgo
        | cons p qs =>
         rw [List.map_cons] at hgo
         dsimp only at hgo
         obtain ⟨g,cap,cur,qk,lk,ck,qd,ld,cd,rfl,ek,ed,hg,c0,c1,c2,c3,c4,_,_,cf,hgl,hcap⟩:=h4.top
         have hn0:(0:Int)≤(qs.length:Int):=Int.natCast_nonneg _
         have hn1:(qs.length:Int) < (qs.length:Int)+1:=by omega
         have hwn:wrap64 (qs.length:Int)=(qs.length:Int):=by simp at hlen; unfold wrap64; omega
         have hcp:(qs.length:Int)≤(cap:Int):=by omega
         have hq:qs.length≤1000:=by simp at hlen; omega
         have hgood:(p.2.f0.f1 == 0 && p.2.f0.f2.isEmpty)=true:=by have hf:=h3.fof p (by simp); rw [hf.n,hf.t]; rfl
         rw [hgood,cond_true] at hgo
         obtain ⟨hA,hR⟩:=h3.close ek ed
         replace hA:=hA.alloc (.cells #[.int .i64 p.2.f0.f0,.int .i64 0,.string ⟨#[]⟩,.slice qk lk ck,.slice qd ld cd] 26)
         replace hR:=RCs.mono (w':=w3.alloc (.cells #[.int .i64 p.2.f0.f0,.int .i64 0,.string ⟨#[]⟩,.slice qk lk ck,.slice qd ld cd] 26)) (fun _ h=>h) (fun b hb=>Below.heap_alloc _ _ _ (hb.elim (fun h=>(h3.stk.inD b h).2) fun h=>(h3.ahead.2 p (by simp) b h))) _ _ _ hR
         have hTA:(w3.alloc (.cells #[.int .i64 p.2.f0.f0,.int .i64 0,.string ⟨#[]⟩,.slice qk lk ck,.slice qd ld cd] 26)).heap[T]? = _:=(Below.heap_alloc _ _ _ (cZ hT)).trans hT
         have hOA:(w3.alloc (.cells #[.int .i64 p.2.f0.f0,.int .i64 0,.string ⟨#[]⟩,.slice qk lk ck,.slice qd ld cd] 26)).heap[w3.heap.size]? = _:=heap_alloc_new _ _
         have hDT:∀ b,(D b∨p.1.Has b)→b < T:=fun b hb=>hb.elim (HAh.out.1 b) (HAh.out.2 p (by simp) b)
         unfold nU at c0 c1 c2 c3 c4
         clear h4 hT4 hO tk hg cf h3 hT HAh hgood
         cases qs with
         | nil =>
          simp only [List.length_nil,Nat.zero_mul,Nat.zero_add] at c0 c1 c2 c3 c4
          clear hwn hn0 hn1
          unfold kM at hgo
          try dsimp only [List.map_nil] at hgo
          cases hl2:lC F s t4 with
          | none=>rw [hl2] at hgo; cases hgo
          | some q2 =>
           obtain ⟨⟨a0,a1,a2,a3,a4⟩,from2,e2⟩:=q2
           rw [hl2] at hgo
           dsimp only at hgo
           have HG:Aside _:=hgo
           have HA:Aside _:=hA
           have HR:Aside (RCs (fun b=>D b∨p.1.Has b) (w3.alloc (.cells #[.int .i64 p.2.f0.f0,.int .i64 0,.string ⟨#[]⟩,.slice qk lk ck,.slice qd ld cd] 26)) (bA p.2.f0) (fun j=>(⟨p.2.f0.f0,0,⟨#[]⟩,qk,lk,ck,qd,ld,cd⟩:OV).cells[j]?) 0):=hR
           have HTA:Aside _:=hTA
           have HOA:Aside _:=hOA
           clear hgo
           go_wp2_with (go_at_fn 20)
           refine (bT7 _ hl2).mono ?_
           rintro _ w5 ⟨rfl,hb5⟩
           unfold aV3
           dsimp only
           have h5:=HA.out.keep hb5
           have hT5:=(hb5.block _ (cZ HTA.out)).trans HTA.out
           have hO5:=(hb5.block _ (cZ HOA.out)).trans HOA.out
           have hR5:=RCs.mono (fun _ h=>h) (fun b hb=>hb5.block b (HA.out.stk.inD b hb).2) _ _ _ HR.out
           obtain ⟨⟨k0,k1,k2,k3,k4⟩,l0,l1,l2,l3,l4⟩:=cells5 hT5
           obtain ⟨⟨o0,o1,o2,o3,o4⟩,_⟩:=cells5 hO5
           obtain ⟨⟨c0,c1,c2,c3,c4⟩,f0,f1,f2,f3,f4⟩:=h5.bX6
           have n1:T≠W.heap.size:=Nat.ne_of_gt hWT
           have n2:W.heap.size≠T:=Nat.ne_of_lt hWT
           have n3:w3.heap.size≠T:=Ne.symm hTO
           have H5:Aside _:=h5
           have HR5:Aside (RCs (fun b=>D b∨p.1.Has b) w5 (bA p.2.f0) (fun j=>(⟨p.2.f0.f0,0,⟨#[]⟩,qk,lk,ck,qd,ld,cd⟩:OV).cells[j]?) 0):=hR5
           have HDT:Aside _:=hDT
           have HO5:Aside _:=hO5
           clear h5 hR5 hT5 hO5 hb5 hl2 hDT
           by_cases he2:e2=0
           ·subst he2
            have hgo:=HG.out
            clear HG
            rw [show ((0:Int) != 0)=false from rfl,cond_false] at hgo
            by_cases hk2:a0=0
            ·subst hk2
             rw [show ((0:Int) != 0)=false from rfl,cond_false] at hgo
             cases hsh:nA F p.2.f0 with
             | none=>rw [hsh] at hgo; cases hgo
             | some q3 =>
              obtain ⟨txt,e3⟩:=q3
              rw [hsh] at hgo
              dsimp only at hgo
              have HG:Aside _:=hgo
              clear hgo
              go_wp2_with (go_at_fn 11)
              have ag:∀ b,(D b∨p.1.Has b)→(((((w5.setCell ⟨T,0,none⟩ (.int .i64 0)).setCell ⟨T,1,none⟩ (.int .i64 a1)).setCell ⟨T,2,none⟩ (.string ⟨a2.toArray⟩)).setCell ⟨T,3,none⟩ (.int .i64 a3)).setCell ⟨T,4,none⟩ (.int .i64 a4)).heap[b]? = w5.heap[b]? := fun b hb=>mJ _ _ _ _ _ (Nat.ne_of_lt (HDT.out b hb))
              have hD5:∀ b,(D b∨p.1.Has b)→W.heap.size+1≤b∧b < (((((w5.setCell ⟨T,0,none⟩ (.int .i64 0)).setCell ⟨T,1,none⟩ (.int .i64 a1)).setCell ⟨T,2,none⟩ (.string ⟨a2.toArray⟩)).setCell ⟨T,3,none⟩ (.int .i64 a3)).setCell ⟨T,4,none⟩ (.int .i64 a4)).heap.size:=fun b hb=>by simpa [World.setCell] using H5.out.stk.inD b hb
              have r6:=RCs.mono (fun _ h=>h) ag _ _ _ HR5.out
              refine (bG7 _ hsh (ov:=⟨p.2.f0.f0,0,⟨#[]⟩,qk,lk,ck,qd,ld,cd⟩) (RCs.mono (fun b hb=>(hD5 b hb).2) (fun _ _=>rfl) _ _ _ r6)).mono ?_
              rintro _ w7 ⟨rfl,hb7⟩
              have r7:=RCs.mono (fun _ h=>h) (fun b hb=>hb7.block b (hD5 b hb).2) _ _ _ r6
              have hD7:∀ b,(D b∨p.1.Has b)→W.heap.size+1≤b∧b < w7.heap.size:=fun b hb=>⟨(hD5 b hb).1,Nat.lt_of_lt_of_le (hD5 b hb).2 hb7.size⟩
              have b7:Below W.heap.size W w7:=(mW H5.out.below (Nat.le_of_lt hWT) _ _ _ _ _).trans (hb7.mono (mW H5.out.below (Nat.le_of_lt hWT) _ _ _ _ _).size)
              have hs6:(((((w5.setCell ⟨T,0,none⟩ (.int .i64 0)).setCell ⟨T,1,none⟩ (.int .i64 a1)).setCell ⟨T,2,none⟩ (.string ⟨a2.toArray⟩)).setCell ⟨T,3,none⟩ (.int .i64 a3)).setCell ⟨T,4,none⟩ (.int .i64 a4)).heap.size=w5.heap.size:=by simp [World.setCell]
              have hO7:=(hb7.block _ (by rw [hs6]; exact cZ HO5.out)).trans ((mJ (.int .i64 0) (.int .i64 a1) (.string ⟨a2.toArray⟩) (.int .i64 a3) (.int .i64 a4) n3).trans HO5.out)
              have hr7:=(hb7.block _ (by rw [hs6]; exact cZ H5.out.res)).trans ((mJ (.int .i64 0) (.int .i64 a1) (.string ⟨a2.toArray⟩) (.int .i64 a3) (.int .i64 a4) n2).trans H5.out.res)
              unfold nU at hr7
              obtain ⟨⟨o0,o1,o2,o3,o4⟩,_⟩:=cells5 hO7
              obtain ⟨⟨c0,c1,c2,c3,c4⟩,f0,f1,f2,f3,f4⟩:=cells5 hr7
              have HR7:Aside (RCs (fun b=>D b∨p.1.Has b) w7 (bA p.2.f0) (fun j=>(⟨p.2.f0.f0,0,⟨#[]⟩,qk,lk,ck,qd,ld,cd⟩:OV).cells[j]?) 0):=r7
              have HD7:Aside _:=hD7
              have B7:Aside _:=b7
              clear r7 hD7 b7 hO7 hr7 hs6 hb7 r6 hD5 ag k0 k1 k2 k3 k4 l0 l1 l2 l3 l4
              by_cases he3:e3=0
              ·subst he3
               have hgo:=HG.out
               try dsimp only [List.map_nil] at hgo
               rw [show ((0:Int) != 0)=false from rfl,cond_false] at hgo
               cases Option.some.inj hgo
               clear hgo HG
               go_wp2
               refine bodyPost_ret_by (by rw [cK rfl]; go_simp; rfl) rfl ?_
               exact bF3 B7.out HD7.out HR7.out
              ·have hgo:=HG.out
               try dsimp only [List.map_nil] at hgo
               have hne:(e3 != 0)=true:=by simpa using he3
               rw [hne,cond_true] at hgo
               cases Option.some.inj hgo
               clear hgo HG
               go_wp2
               refine bodyPost_ret_by (by rw [cK rfl]; go_simp; rfl) rfl ?_
               exact kF (kD B7.out _ _ _ _ _)
            ·have hne:(a0 != 0)=true:=by simpa using hk2
             rw [hne,cond_true] at hgo
             cases Option.some.inj hgo
             clear hgo HR5
             go_wp2
             refine bodyPost_ret_by (by rw [cK rfl]; go_simp; rfl) rfl ?_
             exact kF (kD (mW H5.out.below (Nat.le_of_lt hWT) _ _ _ _ _) _ _ _ _ _)
           ·have hgo:=HG.out
            have hne:(e2 != 0)=true:=by simpa using he2
            rw [hne,cond_true] at hgo
            cases Option.some.inj hgo
            clear hgo HG HR5
            go_wp2
            refine bodyPost_ret_by (by rw [cK rfl]; go_simp; rfl) rfl ?_
            exact kF (kD (mW H5.out.below (Nat.le_of_lt hWT) _ _ _ _ _) _ _ _ _ _)
         | cons q qs =>
          unfold kM at hgo
          try rw [List.map_cons] at hgo
          dsimp only at hgo
          cases hput:uQ q.2 p.2.f0 with
          | none=>rw [hput] at hgo; cases hgo
          | some x' =>
           rw [hput] at hgo
           dsimp only at hgo
           try simp only [List.length_cons] at c0 c1 c2 c3 c4 hA hlen hq hcap
           have m0:(0:Int)≤(qs.length:Int)+1:=by omega
           have m1:(qs.length:Int)+1 < (qs.length:Int)+1+1:=by omega
           have m2:wrap64 ((qs.length:Int)+1)=(qs.length:Int)+1:=by unfold wrap64; omega
           have m3:(qs.length:Int)+1≤(cap:Int):=by omega
           have m4:(0:Int) < (qs.length:Int)+1:=by omega
           have HA:Aside _:=hA
           have HR:Aside (RCs (fun b=>D b∨p.1.Has b) (w3.alloc (.cells #[.int .i64 p.2.f0.f0,.int .i64 0,.string ⟨#[]⟩,.slice qk lk ck,.slice qd ld cd] 26)) (bA p.2.f0) (fun j=>(⟨p.2.f0.f0,0,⟨#[]⟩,qk,lk,ck,qd,ld,cd⟩:OV).cells[j]?) 0):=hR
           have HG:Aside _:=hgo
           have HQ:Aside (qs.length+1≤1000):=by first | exact hq | exact hlen
           clear hgo hA hR hTA hOA hDT hlen hq hcap hn0 hn1 hwn hcp
           go_wp2_with (go_at_fn 23)
           refine (LSt.give (ov:=⟨p.2.f0.f0,0,⟨#[]⟩,qk,lk,ck,qd,ld,cd⟩) HA.out HR.out hput (Nat.le_of_succ_le HQ.out)).mono ?_
           rintro _ w5 ⟨rfl,f',h5,hb5⟩
           go_wp2
           go_roundg n
           case measure=>exact Nat.lt_succ_self _
           case rel=>exact ⟨t4,_,(f',x') :: qs,rfl,by rw [List.length_cons]; exact HQ.out,h5,HG.out⟩
       | false =>
        rw [cond_false] at hgo
        cases ps with
        | nil =>
         obtain ⟨qv,cv,rfl,hown⟩:=h4.shape
         unfold nU at h4 hown hO hT4
         simp only [List.map_nil] at hgo
         rw [cond_false] at hgo
         simp only [List.length_nil] at h4 h3 hown hlen ⊢
         obtain ⟨⟨tk0,tk1,tk2,tk3,tk4⟩,_⟩:=cells5 hT4
         by_cases h6:t0=6
         ·subst h6
          cases hd10:decide (1000≤([]:List bE).length) with
          | true=>simp only [show ((6:Int) == 6)=true from rfl,hd10,cond_true] at hgo; cases hgo
          | false =>
           simp only [show ((6:Int) == 6)=true from rfl,hd10,cond_false,cond_true] at hgo
           have hd11:=of_decide_eq_false hd10
           simp only [List.length_nil,List.length_cons,List.length_map] at hd11
           have HG:Aside _:=hgo
           have H4:Aside (LSt W D (w3.alloc (.cells #[.int .i64 0,.int .i64 0,.string ⟨#[]⟩,.slice none 0 0,.slice none 0 0] 26)) (.slice qv 0 cv) ([]:List (Fm×bE))):=h4
           have HO4:Aside ((w3.alloc (.cells #[.int .i64 0,.int .i64 0,.string ⟨#[]⟩,.slice none 0 0,.slice none 0 0] 26)).ownsRow (W.heap.size+1) 57 7 (.slice qv 0 cv) 0 (((([]:List (Fm×bE)).map (·.1)).reverse).flatMap Fm.cells)):=hown
           have HL:Aside (0≤1000∧¬ 1000≤0):=⟨hlen,hd11⟩
           clear hgo h4 hown hd10 hd11 hlen
           obtain ⟨i57,j1,j2,j3,j4⟩:=yQ
           go_wp2_with (first | (at_builtin; (refine wpList_append_lies _ rfl _ _ 51 rfl (W.heap.size+1) 57 i57 _ 7 104 aW5 j1 j2 j3 j4 rfl (by omega) ((.slice qv 0 cv)) 0 _ (by rfl) (World.ownsRow.alloc HO4.out _) ⟨w3.heap.size+1,0,none⟩ 1 1 [.int .i64 6,.int .i64 0,.string ⟨#[]⟩,.slice none 0 0,.slice none 0 0,.string ⟨#[]⟩,.bool false] (by rfl) (by rfl) (World.news_of_block (cs:=#[.int .i64 6,.int .i64 0,.string ⟨#[]⟩,.slice none 0 0,.slice none 0 0,.string ⟨#[]⟩,.bool false]) (t:=57) (fr:=(0,0)) (by have:=heap_alloc_new (w3.alloc (.cells #[.int .i64 0,.int .i64 0,.string ⟨#[]⟩,.slice none 0 0,.slice none 0 0] 26)) (.cells #[.int .i64 6,.int .i64 0,.string ⟨#[]⟩,.slice none 0 0,.slice none 0 0,.string ⟨#[]⟩,.bool false] 57); rw [World.size_alloc] at this; exact this)) (by simp [Value.oneCell']) (by omega) (by have:=HL.out.1; simp [maxLen] <;> omega) (by have:=HL.out.1; omega) (by have:=H4.out.lt; rw [World.size_alloc]; omega) (w3.heap.size+2) (by simp) ?_)) | fail)
           intro g5 cp5 w5 hown5 hgrow5 hat5 hlt5
           have h5:=LSt.push H4.out 6 (by first | exact hown5 | simpa using hown5) hgrow5 (by rw [World.size_alloc]; exact hat5)
           clear hown5 hgrow5 hat5 hlt5 j1 j2 j3 j4
           go_wp2
           go_roundg n
           case measure=>exact Nat.lt_succ_self _
           case rel=>exact ⟨t4,_,_,rfl,by have:=HL.out.2; simp only [List.length_cons,List.length_nil]; omega,h5,HG.out⟩
         ·have h6':=h6
          by_cases h8:t0=8
          ·subst h8
           cases hd10:decide (1000≤([]:List bE).length) with
           | true=>simp only [show ((8:Int) == 6)=false from rfl,show ((8:Int) == 8)=true from rfl,cond_false,hd10,cond_true] at hgo; cases hgo
           | false =>
            simp only [show ((8:Int) == 6)=false from rfl,show ((8:Int) == 8)=true from rfl,cond_false,hd10,cond_false,cond_true] at hgo
            have hd11:=of_decide_eq_false hd10
            simp only [List.length_nil,List.length_cons,List.length_map] at hd11
            have HG:Aside _:=hgo
            have H4:Aside (LSt W D (w3.alloc (.cells #[.int .i64 0,.int .i64 0,.string ⟨#[]⟩,.slice none 0 0,.slice none 0 0] 26)) (.slice qv 0 cv) ([]:List (Fm×bE))):=h4
            have HO4:Aside ((w3.alloc (.cells #[.int .i64 0,.int .i64 0,.string ⟨#[]⟩,.slice none 0 0,.slice none 0 0] 26)).ownsRow (W.heap.size+1) 57 7 (.slice qv 0 cv) 0 (((([]:List (Fm×bE)).map (·.1)).reverse).flatMap Fm.cells)):=hown
            have HL:Aside (0≤1000∧¬ 1000≤0):=⟨hlen,hd11⟩
            clear hgo h4 hown hd10 hd11 hlen
            obtain ⟨i57,j1,j2,j3,j4⟩:=yQ
            go_wp2_with (first | (at_builtin; (refine wpList_append_lies _ rfl _ _ 51 rfl (W.heap.size+1) 57 i57 _ 7 104 aW5 j1 j2 j3 j4 rfl (by omega) ((.slice qv 0 cv)) 0 _ (by rfl) (World.ownsRow.alloc HO4.out _) ⟨w3.heap.size+1,0,none⟩ 1 1 [.int .i64 7,.int .i64 0,.string ⟨#[]⟩,.slice none 0 0,.slice none 0 0,.string ⟨#[]⟩,.bool false] (by rfl) (by rfl) (World.news_of_block (cs:=#[.int .i64 7,.int .i64 0,.string ⟨#[]⟩,.slice none 0 0,.slice none 0 0,.string ⟨#[]⟩,.bool false]) (t:=57) (fr:=(0,0)) (by have:=heap_alloc_new (w3.alloc (.cells #[.int .i64 0,.int .i64 0,.string ⟨#[]⟩,.slice none 0 0,.slice none 0 0] 26)) (.cells #[.int .i64 7,.int .i64 0,.string ⟨#[]⟩,.slice none 0 0,.slice none 0 0,.string ⟨#[]⟩,.bool false] 57); rw [World.size_alloc] at this; exact this)) (by simp [Value.oneCell']) (by omega) (by have:=HL.out.1; simp [maxLen] <;> omega) (by have:=HL.out.1; omega) (by have:=H4.out.lt; rw [World.size_alloc]; omega) (w3.heap.size+2) (by simp) ?_)) | fail)
            intro g5 cp5 w5 hown5 hgrow5 hat5 hlt5
            have h5:=LSt.push H4.out 7 (by first | exact hown5 | simpa using hown5) hgrow5 (by rw [World.size_alloc]; exact hat5)
            clear hown5 hgrow5 hat5 hlt5 j1 j2 j3 j4
            go_wp2
            go_roundg n
            case measure=>exact Nat.lt_succ_self _
            case rel=>exact ⟨t4,_,_,rfl,by have:=HL.out.2; simp only [List.length_cons,List.length_nil]; omega,h5,HG.out⟩
          ·have g6:(t0 == 6)=false:=by simpa using h6
           have g8:(t0 == 8)=false:=by simpa using h8
           simp only [g6,g8,cond_false] at hgo
           cases hlf:jM F ⟨t0,t1,t2,t3,t4⟩ with
           | none=>rw [hlf] at hgo; cases hgo
           | some ql =>
            obtain ⟨lo,le⟩:=ql
            rw [hlf] at hgo
            dsimp only at hgo
            have HG:Aside _:=hgo
            clear hgo
            go_wp2_with (go_at_fn 22)
            refine (aF4 _ hlf).mono ?_
            rintro _ w5 ⟨rfl,hb5,hf3,hf4⟩
            unfold bM9 OV.val
            dsimp only at hf3 hf4 ⊢
            have hO5:=(hb5.block _ (by rw [World.size_alloc]; exact Nat.lt_succ_self _)).trans hO
            have hbX:Below w3.heap.size w3 (((((w5.setCell ⟨w3.heap.size,0,none⟩ (.int .i64 lo.f0)).setCell ⟨w3.heap.size,1,none⟩ (.int .i64 lo.f1)).setCell ⟨w3.heap.size,2,none⟩ (.string ⟨lo.f2.toArray⟩)).setCell ⟨w3.heap.size,3,none⟩ (.slice none 0 0)).setCell ⟨w3.heap.size,4,none⟩ (.slice none 0 0)):=(((((((Below.refl _ _).alloc (Nat.le_refl _) _).trans (hb5.mono (by rw [World.size_alloc]; exact Nat.le_succ _))).setCell (Nat.le_refl _) _).setCell (Nat.le_refl _) _).setCell (Nat.le_refl _) _).setCell (Nat.le_refl _) _).setCell (Nat.le_refl _) _
            have hA:=h3.keep hbX
            have hTA:=(hbX.block _ (cZ hT)).trans hT
            have hOA:(((((w5.setCell ⟨w3.heap.size,0,none⟩ (.int .i64 lo.f0)).setCell ⟨w3.heap.size,1,none⟩ (.int .i64 lo.f1)).setCell ⟨w3.heap.size,2,none⟩ (.string ⟨lo.f2.toArray⟩)).setCell ⟨w3.heap.size,3,none⟩ (.slice none 0 0)).setCell ⟨w3.heap.size,4,none⟩ (.slice none 0 0)).heap[w3.heap.size]? = some (.cells #[.int .i64 lo.f0,.int .i64 lo.f1,.string ⟨lo.f2.toArray⟩,.slice none 0 0,.slice none 0 0] 26 (0,0)):=fK (fK (fK (fK (fK hO5))))
            have hR:=bB4 D (((((w5.setCell ⟨w3.heap.size,0,none⟩ (.int .i64 lo.f0)).setCell ⟨w3.heap.size,1,none⟩ (.int .i64 lo.f1)).setCell ⟨w3.heap.size,2,none⟩ (.string ⟨lo.f2.toArray⟩)).setCell ⟨w3.heap.size,3,none⟩ (.slice none 0 0)).setCell ⟨w3.heap.size,4,none⟩ (.slice none 0 0)) hf3 hf4
            have hr5:=(hb5.block _ (cZ h4.res)).trans h4.res
            have nWO:W.heap.size≠w3.heap.size:=Nat.ne_of_lt h3.lt
            have nOW:w3.heap.size≠W.heap.size:=Nat.ne_of_gt h3.lt
            have hDT:=HAh.out.1
            obtain ⟨⟨d0,d1,d2,d3,d4⟩,e0,e1,e2,e3,e4⟩:=cells5 hO5
            obtain ⟨⟨r0,r1,r2,r3,r4⟩,s0,s1,s2,s3,s4⟩:=cells5 hr5
            have HX:Aside _:=hA.below
            clear hbX hb5 hr5 hO5 h3 h4 hO hT4 tk hT hf3 hf4 hlf
            by_cases he5:le=0
            ·subst he5
             have hgo:=HG.out
             clear HG
             rw [show ((0:Int) != 0)=false from rfl,cond_false] at hgo
             clear r0 r1 r2 r3 r4 s0 s1 s2 s3 s4
             unfold kM at hgo
             try dsimp only [List.map_nil] at hgo
             cases hl2:lC F s t4 with
             | none=>rw [hl2] at hgo; cases hgo
             | some q2 =>
              obtain ⟨⟨a0,a1,a2,a3,a4⟩,from2,e2⟩:=q2
              rw [hl2] at hgo
              dsimp only at hgo
              have HG:Aside _:=hgo
              have HA:Aside _:=hA
              have HR:Aside (RCs (D) (((((w5.setCell ⟨w3.heap.size,0,none⟩ (.int .i64 lo.f0)).setCell ⟨w3.heap.size,1,none⟩ (.int .i64 lo.f1)).setCell ⟨w3.heap.size,2,none⟩ (.string ⟨lo.f2.toArray⟩)).setCell ⟨w3.heap.size,3,none⟩ (.slice none 0 0)).setCell ⟨w3.heap.size,4,none⟩ (.slice none 0 0)) (bA lo) (fun j=>(⟨lo.f0,lo.f1,⟨lo.f2.toArray⟩,none,0,0,none,0,0⟩:OV).cells[j]?) 0):=hR
              have HTA:Aside _:=hTA
              have HOA:Aside _:=hOA
              clear hgo
              go_wp2_with (go_at_fn 20)
              refine (bT7 _ hl2).mono ?_
              rintro _ w6 ⟨rfl,hb5⟩
              unfold aV3
              dsimp only
              have h5:=HA.out.keep hb5
              have hT5:=(hb5.block _ (cZ HTA.out)).trans HTA.out
              have hO5:=(hb5.block _ (cZ HOA.out)).trans HOA.out
              have hR5:=RCs.mono (fun _ h=>h) (fun b hb=>hb5.block b (HA.out.stk.inD b hb).2) _ _ _ HR.out
              obtain ⟨⟨k0,k1,k2,k3,k4⟩,l0,l1,l2,l3,l4⟩:=cells5 hT5
              obtain ⟨⟨o0,o1,o2,o3,o4⟩,_⟩:=cells5 hO5
              obtain ⟨⟨c0,c1,c2,c3,c4⟩,f0,f1,f2,f3,f4⟩:=h5.bX6
              have n1:T≠W.heap.size:=Nat.ne_of_gt hWT
              have n2:W.heap.size≠T:=Nat.ne_of_lt hWT
              have n3:w3.heap.size≠T:=Ne.symm hTO
              have H5:Aside _:=h5
              have HR5:Aside (RCs (D) w6 (bA lo) (fun j=>(⟨lo.f0,lo.f1,⟨lo.f2.toArray⟩,none,0,0,none,0,0⟩:OV).cells[j]?) 0):=hR5
              have HDT:Aside _:=hDT
              have HO5:Aside _:=hO5
              clear h5 hR5 hT5 hO5 hb5 hl2 hDT
              by_cases he2:e2=0
              ·subst he2
               have hgo:=HG.out
               clear HG
               rw [show ((0:Int) != 0)=false from rfl,cond_false] at hgo
               by_cases hk2:a0=0
               ·subst hk2
                rw [show ((0:Int) != 0)=false from rfl,cond_false] at hgo
                cases hsh:nA F lo with
                | none=>rw [hsh] at hgo; cases hgo
                | some q3 =>
                 obtain ⟨txt,e3⟩:=q3
                 rw [hsh] at hgo
                 dsimp only at hgo
                 have HG:Aside _:=hgo
                 clear hgo
                 go_wp2_with (go_at_fn 11)
                 have ag:∀ b,D b→(((((w6.setCell ⟨T,0,none⟩ (.int .i64 0)).setCell ⟨T,1,none⟩ (.int .i64 a1)).setCell ⟨T,2,none⟩ (.string ⟨a2.toArray⟩)).setCell ⟨T,3,none⟩ (.int .i64 a3)).setCell ⟨T,4,none⟩ (.int .i64 a4)).heap[b]? = w6.heap[b]? := fun b hb=>mJ _ _ _ _ _ (Nat.ne_of_lt (HDT.out b hb))
                 have hD5:∀ b,D b→W.heap.size+1≤b∧b < (((((w6.setCell ⟨T,0,none⟩ (.int .i64 0)).setCell ⟨T,1,none⟩ (.int .i64 a1)).setCell ⟨T,2,none⟩ (.string ⟨a2.toArray⟩)).setCell ⟨T,3,none⟩ (.int .i64 a3)).setCell ⟨T,4,none⟩ (.int .i64 a4)).heap.size:=fun b hb=>by simpa [World.setCell] using H5.out.stk.inD b hb
                 have r6:=RCs.mono (fun _ h=>h) ag _ _ _ HR5.out
                 refine (bG7 _ hsh (ov:=⟨lo.f0,lo.f1,⟨lo.f2.toArray⟩,none,0,0,none,0,0⟩) (RCs.mono (fun b hb=>(hD5 b hb).2) (fun _ _=>rfl) _ _ _ r6)).mono ?_
                 rintro _ w8 ⟨rfl,hb7⟩
                 have r7:=RCs.mono (fun _ h=>h) (fun b hb=>hb7.block b (hD5 b hb).2) _ _ _ r6
                 have hD7:∀ b,D b→W.heap.size+1≤b∧b < w8.heap.size:=fun b hb=>⟨(hD5 b hb).1,Nat.lt_of_lt_of_le (hD5 b hb).2 hb7.size⟩
                 have b7:Below W.heap.size W w8:=(mW H5.out.below (Nat.le_of_lt hWT) _ _ _ _ _).trans (hb7.mono (mW H5.out.below (Nat.le_of_lt hWT) _ _ _ _ _).size)
                 have hs6:(((((w6.setCell ⟨T,0,none⟩ (.int .i64 0)).setCell ⟨T,1,none⟩ (.int .i64 a1)).setCell ⟨T,2,none⟩ (.string ⟨a2.toArray⟩)).setCell ⟨T,3,none⟩ (.int .i64 a3)).setCell ⟨T,4,none⟩ (.int .i64 a4)).heap.size=w6.heap.size:=by simp [World.setCell]
                 have hO7:=(hb7.block _ (by rw [hs6]; exact cZ HO5.out)).trans ((mJ (.int .i64 0) (.int .i64 a1) (.string ⟨a2.toArray⟩) (.int .i64 a3) (.int .i64 a4) n3).trans HO5.out)
                 have hr7:=(hb7.block _ (by rw [hs6]; exact cZ H5.out.res)).trans ((mJ (.int .i64 0) (.int .i64 a1) (.string ⟨a2.toArray⟩) (.int .i64 a3) (.int .i64 a4) n2).trans H5.out.res)
                 unfold nU at hr7
                 obtain ⟨⟨o0,o1,o2,o3,o4⟩,_⟩:=cells5 hO7
                 obtain ⟨⟨c0,c1,c2,c3,c4⟩,f0,f1,f2,f3,f4⟩:=cells5 hr7
                 have HR7:Aside (RCs (D) w8 (bA lo) (fun j=>(⟨lo.f0,lo.f1,⟨lo.f2.toArray⟩,none,0,0,none,0,0⟩:OV).cells[j]?) 0):=r7
                 have HD7:Aside _:=hD7
                 have B7:Aside _:=b7
                 clear r7 hD7 b7 hO7 hr7 hs6 hb7 r6 hD5 ag k0 k1 k2 k3 k4 l0 l1 l2 l3 l4
                 by_cases he3:e3=0
                 ·subst he3
                  have hgo:=HG.out
                  try dsimp only [List.map_nil] at hgo
                  rw [show ((0:Int) != 0)=false from rfl,cond_false] at hgo
                  cases Option.some.inj hgo
                  clear hgo HG
                  go_wp2
                  refine bodyPost_ret_by (by rw [cK rfl]; go_simp; rfl) rfl ?_
                  exact bF3 B7.out HD7.out HR7.out
                 ·have hgo:=HG.out
                  try dsimp only [List.map_nil] at hgo
                  have hne:(e3 != 0)=true:=by simpa using he3
                  rw [hne,cond_true] at hgo
                  cases Option.some.inj hgo
                  clear hgo HG
                  go_wp2
                  refine bodyPost_ret_by (by rw [cK rfl]; go_simp; rfl) rfl ?_
                  exact kF (kD B7.out _ _ _ _ _)
               ·have hne:(a0 != 0)=true:=by simpa using hk2
                rw [hne,cond_true] at hgo
                cases Option.some.inj hgo
                clear hgo HR5
                go_wp2
                refine bodyPost_ret_by (by rw [cK rfl]; go_simp; rfl) rfl ?_
                exact kF (kD (mW H5.out.below (Nat.le_of_lt hWT) _ _ _ _ _) _ _ _ _ _)
              ·have hgo:=HG.out
               have hne:(e2 != 0)=true:=by simpa using he2
               rw [hne,cond_true] at hgo
               cases Option.some.inj hgo
               clear hgo HG HR5
               go_wp2
               refine bodyPost_ret_by (by rw [cK rfl]; go_simp; rfl) rfl ?_
               exact kF (kD (mW H5.out.below (Nat.le_of_lt hWT) _ _ _ _ _) _ _ _ _ _)
            ·have hgo:=HG.out
             have hne:(le != 0)=true:=by simpa using he5
             rw [hne,cond_true] at hgo
             cases Option.some.inj hgo
             clear hgo HG hA hTA hOA hR hDT
             go_wp2
             refine bodyPost_ret_by (by rw [cK rfl]; go_simp; rfl) rfl ?_
             exact kF (kD HX.out _ _ _ _ _)
        | cons p qs =>
         obtain ⟨g,cap,cur,qk,lk,ck,qd,ld,cd,rfl,ek,ed,hg,c0,c1,c2,c3,c4,c5,c6,cf,hgl,hcap⟩:=h4.top
         obtain ⟨_,_,_,hown⟩:=h4.shape
         unfold nU at h4 hown hO hT4 c0 c1 c2 c3 c4 c5 c6 cf
         simp only [List.map_cons] at hgo
         simp only [List.length_cons] at hown hlen
         have f5:=cf (qs.length * 7+5)
         have f6:=cf (qs.length * 7+6)
         have hn0:(0:Int)≤(qs.length:Int):=Int.natCast_nonneg _
         have hn1:(qs.length:Int) < (qs.length:Int)+1:=by omega
         have hwn:wrap64 (qs.length:Int)=(qs.length:Int):=by unfold wrap64; omega
         have hcp:(0:Int) < (qs.length:Int)+1:=by omega
         have hq:qs.length≤1000:=by omega
         obtain ⟨⟨tk0,tk1,tk2,tk3,tk4⟩,_⟩:=cells5 hT4
         unfold strOf at c5
         clear cf hg ek ed
         cases hk7:(p.2.f0.f0 == 7 && !p.2.f2) with
         | true =>
          rw [hk7,cond_true] at hgo
          have hk8:=hk7
          simp only [Bool.and_eq_true,beq_iff_eq,Bool.not_eq_true'] at hk8
          rw [hk8.1] at c0
          rw [hk8.2] at c6
          have H4:Aside (LSt W D (w3.alloc (.cells #[.int .i64 0,.int .i64 0,.string ⟨#[]⟩,.slice none 0 0,.slice none 0 0] 26)) (.slice (some ⟨g,0,none⟩) (qs.length+1) cap) (p :: qs)):=h4
          have HG:Aside _:=hgo
          clear h3 h4 hown hT hT4 hO tk hk7 hk8 hgo
          go_wp2
          go_roundg n
          case measure=>exact Nat.lt_succ_self _
          case rel=>exact ⟨t4,D,(⟨p.1.kind,p.1.keys,p.1.kids,t2,true,p.1.kv,p.1.dv⟩,⟨p.2.f0,t2,true⟩) :: qs,rfl,by simpa using hlen,H4.out.bS7 hgl t2,HG.out⟩
         | false =>
          rw [hk7,cond_false] at hgo
          by_cases e7:p.2.f0.f0=7
          ·have ef:p.2.f2=true:=by rw [e7] at hk7; simpa using hk7
           rw [e7] at c0
           rw [ef] at c6
           clear hk7
           by_cases h6:t0=6
           ·subst h6
            cases hd10:decide (1000≤(p.2 :: qs.map (fun x=>x.2)).length) with
            | true=>simp only [show ((6:Int) == 6)=true from rfl,hd10,cond_true] at hgo; cases hgo
            | false =>
             simp only [show ((6:Int) == 6)=true from rfl,hd10,cond_false,cond_true] at hgo
             have hd11:=of_decide_eq_false hd10
             simp only [List.length_nil,List.length_cons,List.length_map] at hd11
             have HG:Aside _:=hgo
             have H4:Aside (LSt W D (w3.alloc (.cells #[.int .i64 0,.int .i64 0,.string ⟨#[]⟩,.slice none 0 0,.slice none 0 0] 26)) (.slice (some ⟨g,0,none⟩) (qs.length+1) cap) (p :: qs)):=h4
             have HO4:Aside ((w3.alloc (.cells #[.int .i64 0,.int .i64 0,.string ⟨#[]⟩,.slice none 0 0,.slice none 0 0] 26)).ownsRow (W.heap.size+1) 57 7 (.slice (some ⟨g,0,none⟩) (qs.length+1) cap) (qs.length+1) ((((p :: qs).map (·.1)).reverse).flatMap Fm.cells)):=hown
             have HL:Aside ((qs.length+1)≤1000∧¬ 1000≤(qs.length+1)):=⟨hlen,hd11⟩
             clear hgo h4 hown hd10 hd11 hlen
             obtain ⟨i57,j1,j2,j3,j4⟩:=yQ
             go_wp2_with (first | (at_builtin; (refine wpList_append_lies _ rfl _ _ 51 rfl (W.heap.size+1) 57 i57 _ 7 104 aW5 j1 j2 j3 j4 rfl (by omega) ((.slice (some ⟨g,0,none⟩) (qs.length+1) cap)) (qs.length+1) _ (by rfl) (World.ownsRow.alloc HO4.out _) ⟨w3.heap.size+1,0,none⟩ 1 1 [.int .i64 6,.int .i64 0,.string ⟨#[]⟩,.slice none 0 0,.slice none 0 0,.string ⟨#[]⟩,.bool false] (by rfl) (by rfl) (World.news_of_block (cs:=#[.int .i64 6,.int .i64 0,.string ⟨#[]⟩,.slice none 0 0,.slice none 0 0,.string ⟨#[]⟩,.bool false]) (t:=57) (fr:=(0,0)) (by have:=heap_alloc_new (w3.alloc (.cells #[.int .i64 0,.int .i64 0,.string ⟨#[]⟩,.slice none 0 0,.slice none 0 0] 26)) (.cells #[.int .i64 6,.int .i64 0,.string ⟨#[]⟩,.slice none 0 0,.slice none 0 0,.string ⟨#[]⟩,.bool false] 57); rw [World.size_alloc] at this; exact this)) (by simp [Value.oneCell']) (by omega) (by have:=HL.out.1; simp [maxLen] <;> omega) (by have:=HL.out.1; omega) (by have:=H4.out.lt; rw [World.size_alloc]; omega) (w3.heap.size+2) (by simp) ?_)) | fail)
             intro g5 cp5 w5 hown5 hgrow5 hat5 hlt5
             have h5:=LSt.push H4.out 6 (by first | exact hown5 | simpa using hown5) hgrow5 (by rw [World.size_alloc]; exact hat5)
             clear hown5 hgrow5 hat5 hlt5 j1 j2 j3 j4
             go_wp2
             go_roundg n
             case measure=>exact Nat.lt_succ_self _
             case rel=>exact ⟨t4,_,_,rfl,by have:=HL.out.2; simp only [List.length_cons,List.length_nil]; omega,h5,HG.out⟩
           ·have h6':=h6
            by_cases h8:t0=8
            ·subst h8
             cases hd10:decide (1000≤(p.2 :: qs.map (fun x=>x.2)).length) with
             | true=>simp only [show ((8:Int) == 6)=false from rfl,show ((8:Int) == 8)=true from rfl,cond_false,hd10,cond_true] at hgo; cases hgo
             | false =>
              simp only [show ((8:Int) == 6)=false from rfl,show ((8:Int) == 8)=true from rfl,cond_false,hd10,cond_false,cond_true] at hgo
              have hd11:=of_decide_eq_false hd10
              simp only [List.length_nil,List.length_cons,List.length_map] at hd11
              have HG:Aside _:=hgo
              have H4:Aside (LSt W D (w3.alloc (.cells #[.int .i64 0,.int .i64 0,.string ⟨#[]⟩,.slice none 0 0,.slice none 0 0] 26)) (.slice (some ⟨g,0,none⟩) (qs.length+1) cap) (p :: qs)):=h4
              have HO4:Aside ((w3.alloc (.cells #[.int .i64 0,.int .i64 0,.string ⟨#[]⟩,.slice none 0 0,.slice none 0 0] 26)).ownsRow (W.heap.size+1) 57 7 (.slice (some ⟨g,0,none⟩) (qs.length+1) cap) (qs.length+1) ((((p :: qs).map (·.1)).reverse).flatMap Fm.cells)):=hown
              have HL:Aside ((qs.length+1)≤1000∧¬ 1000≤(qs.length+1)):=⟨hlen,hd11⟩
              clear hgo h4 hown hd10 hd11 hlen
              obtain ⟨i57,j1,j2,j3,j4⟩:=yQ
              go_wp2_with (first | (at_builtin; (refine wpList_append_lies _ rfl _ _ 51 rfl (W.heap.size+1) 57 i57 _ 7 104 aW5 j1 j2 j3 j4 rfl (by omega) ((.slice (some ⟨g,0,none⟩) (qs.length+1) cap)) (qs.length+1) _ (by rfl) (World.ownsRow.alloc HO4.out _) ⟨w3.heap.size+1,0,none⟩ 1 1 [.int .i64 7,.int .i64 0,.string ⟨#[]⟩,.slice none 0 0,.slice none 0 0,.string ⟨#[]⟩,.bool false] (by rfl) (by rfl) (World.news_of_block (cs:=#[.int .i64 7,.int .i64 0,.string ⟨#[]⟩,.slice none 0 0,.slice none 0 0,.string ⟨#[]⟩,.bool false]) (t:=57) (fr:=(0,0)) (by have:=heap_alloc_new (w3.alloc (.cells #[.int .i64 0,.int .i64 0,.string ⟨#[]⟩,.slice none 0 0,.slice none 0 0] 26)) (.cells #[.int .i64 7,.int .i64 0,.string ⟨#[]⟩,.slice none 0 0,.slice none 0 0,.string ⟨#[]⟩,.bool false] 57); rw [World.size_alloc] at this; exact this)) (by simp [Value.oneCell']) (by omega) (by have:=HL.out.1; simp [maxLen] <;> omega) (by have:=HL.out.1; omega) (by have:=H4.out.lt; rw [World.size_alloc]; omega) (w3.heap.size+2) (by simp) ?_)) | fail)
              intro g5 cp5 w5 hown5 hgrow5 hat5 hlt5
              have h5:=LSt.push H4.out 7 (by first | exact hown5 | simpa using hown5) hgrow5 (by rw [World.size_alloc]; exact hat5)
              clear hown5 hgrow5 hat5 hlt5 j1 j2 j3 j4
              go_wp2
              go_roundg n
              case measure=>exact Nat.lt_succ_self _
              case rel=>exact ⟨t4,_,_,rfl,by have:=HL.out.2; simp only [List.length_cons,List.length_nil]; omega,h5,HG.out⟩
            ·have g6:(t0 == 6)=false:=by simpa using h6
             have g8:(t0 == 8)=false:=by simpa using h8
             simp only [g6,g8,cond_false] at hgo
             cases hlf:jM F ⟨t0,t1,t2,t3,t4⟩ with
             | none=>rw [hlf] at hgo; cases hgo
             | some ql =>
              obtain ⟨lo,le⟩:=ql
              rw [hlf] at hgo
              dsimp only at hgo
              have HG:Aside _:=hgo
              clear hgo
              go_wp2_with (go_at_fn 22)
              refine (aF4 _ hlf).mono ?_
              rintro _ w5 ⟨rfl,hb5,hf3,hf4⟩
              unfold bM9 OV.val
              dsimp only at hf3 hf4 ⊢
              have hO5:=(hb5.block _ (by rw [World.size_alloc]; exact Nat.lt_succ_self _)).trans hO
              have hbX:Below w3.heap.size w3 (((((w5.setCell ⟨w3.heap.size,0,none⟩ (.int .i64 lo.f0)).setCell ⟨w3.heap.size,1,none⟩ (.int .i64 lo.f1)).setCell ⟨w3.heap.size,2,none⟩ (.string ⟨lo.f2.toArray⟩)).setCell ⟨w3.heap.size,3,none⟩ (.slice none 0 0)).setCell ⟨w3.heap.size,4,none⟩ (.slice none 0 0)):=(((((((Below.refl _ _).alloc (Nat.le_refl _) _).trans (hb5.mono (by rw [World.size_alloc]; exact Nat.le_succ _))).setCell (Nat.le_refl _) _).setCell (Nat.le_refl _) _).setCell (Nat.le_refl _) _).setCell (Nat.le_refl _) _).setCell (Nat.le_refl _) _
              have hA:=h3.keep hbX
              have hTA:=(hbX.block _ (cZ hT)).trans hT
              have hOA:(((((w5.setCell ⟨w3.heap.size,0,none⟩ (.int .i64 lo.f0)).setCell ⟨w3.heap.size,1,none⟩ (.int .i64 lo.f1)).setCell ⟨w3.heap.size,2,none⟩ (.string ⟨lo.f2.toArray⟩)).setCell ⟨w3.heap.size,3,none⟩ (.slice none 0 0)).setCell ⟨w3.heap.size,4,none⟩ (.slice none 0 0)).heap[w3.heap.size]? = some (.cells #[.int .i64 lo.f0,.int .i64 lo.f1,.string ⟨lo.f2.toArray⟩,.slice none 0 0,.slice none 0 0] 26 (0,0)):=fK (fK (fK (fK (fK hO5))))
              have hR:=bB4 D (((((w5.setCell ⟨w3.heap.size,0,none⟩ (.int .i64 lo.f0)).setCell ⟨w3.heap.size,1,none⟩ (.int .i64 lo.f1)).setCell ⟨w3.heap.size,2,none⟩ (.string ⟨lo.f2.toArray⟩)).setCell ⟨w3.heap.size,3,none⟩ (.slice none 0 0)).setCell ⟨w3.heap.size,4,none⟩ (.slice none 0 0)) hf3 hf4
              have hr5:=(hb5.block _ (cZ h4.res)).trans h4.res
              have nWO:W.heap.size≠w3.heap.size:=Nat.ne_of_lt h3.lt
              have nOW:w3.heap.size≠W.heap.size:=Nat.ne_of_gt h3.lt
              have hDT:=HAh.out.1
              obtain ⟨⟨d0,d1,d2,d3,d4⟩,e0,e1,e2,e3,e4⟩:=cells5 hO5
              obtain ⟨⟨r0,r1,r2,r3,r4⟩,s0,s1,s2,s3,s4⟩:=cells5 hr5
              have HX:Aside _:=hA.below
              clear hbX hb5 hr5 hO5 h3 h4 hO hT4 tk hT hf3 hf4 hlf
              by_cases he5:le=0
              ·subst he5
               have hgo:=HG.out
               clear HG
               rw [show ((0:Int) != 0)=false from rfl,cond_false] at hgo
               clear r0 r1 r2 r3 r4 s0 s1 s2 s3 s4
               unfold kM at hgo
               try rw [List.map_cons] at hgo
               dsimp only at hgo
               cases hput:uQ p.2 lo with
               | none=>rw [hput] at hgo; cases hgo
               | some x' =>
                rw [hput] at hgo
                dsimp only at hgo
                try simp only [List.length_cons] at c0 c1 c2 c3 c4 hA hlen hq hcap
                have m0:(0:Int)≤(qs.length:Int)+1:=by omega
                have m1:(qs.length:Int)+1 < (qs.length:Int)+1+1:=by omega
                have m2:wrap64 ((qs.length:Int)+1)=(qs.length:Int)+1:=by unfold wrap64; omega
                have m3:(qs.length:Int)+1≤(cap:Int):=by omega
                have m4:(0:Int) < (qs.length:Int)+1:=by omega
                have HA:Aside _:=hA
                have HR:Aside (RCs (D) (((((w5.setCell ⟨w3.heap.size,0,none⟩ (.int .i64 lo.f0)).setCell ⟨w3.heap.size,1,none⟩ (.int .i64 lo.f1)).setCell ⟨w3.heap.size,2,none⟩ (.string ⟨lo.f2.toArray⟩)).setCell ⟨w3.heap.size,3,none⟩ (.slice none 0 0)).setCell ⟨w3.heap.size,4,none⟩ (.slice none 0 0)) (bA lo) (fun j=>(⟨lo.f0,lo.f1,⟨lo.f2.toArray⟩,none,0,0,none,0,0⟩:OV).cells[j]?) 0):=hR
                have HG:Aside _:=hgo
                have HQ:Aside (qs.length+1≤1000):=by first | exact hq | exact hlen
                clear hgo hA hR hTA hOA hDT hlen hq hcap hn0 hn1 hwn hcp
                go_wp2_with (go_at_fn 23)
                refine (LSt.give (ov:=⟨lo.f0,lo.f1,⟨lo.f2.toArray⟩,none,0,0,none,0,0⟩) HA.out HR.out hput (Nat.le_of_succ_le HQ.out)).mono ?_
                rintro _ w6 ⟨rfl,f',h5,hb5⟩
                go_wp2
                go_roundg n
                case measure=>exact Nat.lt_succ_self _
                case rel=>exact ⟨t4,_,(f',x') :: qs,rfl,by rw [List.length_cons]; exact HQ.out,h5,HG.out⟩
              ·have hgo:=HG.out
               have hne:(le != 0)=true:=by simpa using he5
               rw [hne,cond_true] at hgo
               cases Option.some.inj hgo
               clear hgo HG hA hTA hOA hR hDT
               go_wp2
               refine bodyPost_ret_by (by rw [cK rfl]; go_simp; rfl) rfl ?_
               exact kF (kD HX.out _ _ _ _ _)
          ·have b7:(p.2.f0.f0 == 7)=false:=by simpa using e7
           clear hk7
           by_cases h6:t0=6
           ·subst h6
            cases hd10:decide (1000≤(p.2 :: qs.map (fun x=>x.2)).length) with
            | true=>simp only [show ((6:Int) == 6)=true from rfl,hd10,cond_true] at hgo; cases hgo
            | false =>
             simp only [show ((6:Int) == 6)=true from rfl,hd10,cond_false,cond_true] at hgo
             have hd11:=of_decide_eq_false hd10
             simp only [List.length_nil,List.length_cons,List.length_map] at hd11
             have HG:Aside _:=hgo
             have H4:Aside (LSt W D (w3.alloc (.cells #[.int .i64 0,.int .i64 0,.string ⟨#[]⟩,.slice none 0 0,.slice none 0 0] 26)) (.slice (some ⟨g,0,none⟩) (qs.length+1) cap) (p :: qs)):=h4
             have HO4:Aside ((w3.alloc (.cells #[.int .i64 0,.int .i64 0,.string ⟨#[]⟩,.slice none 0 0,.slice none 0 0] 26)).ownsRow (W.heap.size+1) 57 7 (.slice (some ⟨g,0,none⟩) (qs.length+1) cap) (qs.length+1) ((((p :: qs).map (·.1)).reverse).flatMap Fm.cells)):=hown
             have HL:Aside ((qs.length+1)≤1000∧¬ 1000≤(qs.length+1)):=⟨hlen,hd11⟩
             clear hgo h4 hown hd10 hd11 hlen
             obtain ⟨i57,j1,j2,j3,j4⟩:=yQ
             go_wp2_with (first | (at_builtin; (refine wpList_append_lies _ rfl _ _ 51 rfl (W.heap.size+1) 57 i57 _ 7 104 aW5 j1 j2 j3 j4 rfl (by omega) ((.slice (some ⟨g,0,none⟩) (qs.length+1) cap)) (qs.length+1) _ (by rfl) (World.ownsRow.alloc HO4.out _) ⟨w3.heap.size+1,0,none⟩ 1 1 [.int .i64 6,.int .i64 0,.string ⟨#[]⟩,.slice none 0 0,.slice none 0 0,.string ⟨#[]⟩,.bool false] (by rfl) (by rfl) (World.news_of_block (cs:=#[.int .i64 6,.int .i64 0,.string ⟨#[]⟩,.slice none 0 0,.slice none 0 0,.string ⟨#[]⟩,.bool false]) (t:=57) (fr:=(0,0)) (by have:=heap_alloc_new (w3.alloc (.cells #[.int .i64 0,.int .i64 0,.string ⟨#[]⟩,.slice none 0 0,.slice none 0 0] 26)) (.cells #[.int .i64 6,.int .i64 0,.string ⟨#[]⟩,.slice none 0 0,.slice none 0 0,.string ⟨#[]⟩,.bool false] 57); rw [World.size_alloc] at this; exact this)) (by simp [Value.oneCell']) (by omega) (by have:=HL.out.1; simp [maxLen] <;> omega) (by have:=HL.out.1; omega) (by have:=H4.out.lt; rw [World.size_alloc]; omega) (w3.heap.size+2) (by simp) ?_)) | fail)
             intro g5 cp5 w5 hown5 hgrow5 hat5 hlt5
             have h5:=LSt.push H4.out 6 (by first | exact hown5 | simpa using hown5) hgrow5 (by rw [World.size_alloc]; exact hat5)
             clear hown5 hgrow5 hat5 hlt5 j1 j2 j3 j4
             go_wp2
             go_roundg n
             case measure=>exact Nat.lt_succ_self _
             case rel=>exact ⟨t4,_,_,rfl,by have:=HL.out.2; simp only [List.length_cons,List.length_nil]; omega,h5,HG.out⟩
           ·have h6':=h6
            by_cases h8:t0=8
            ·subst h8
             cases hd10:decide (1000≤(p.2 :: qs.map (fun x=>x.2)).length) with
             | true=>simp only [show ((8:Int) == 6)=false from rfl,show ((8:Int) == 8)=true from rfl,cond_false,hd10,cond_true] at hgo; cases hgo
             | false =>
              simp only [show ((8:Int) == 6)=false from rfl,show ((8:Int) == 8)=true from rfl,cond_false,hd10,cond_false,cond_true] at hgo
              have hd11:=of_decide_eq_false hd10
              simp only [List.length_nil,List.length_cons,List.length_map] at hd11
              have HG:Aside _:=hgo
              have H4:Aside (LSt W D (w3.alloc (.cells #[.int .i64 0,.int .i64 0,.string ⟨#[]⟩,.slice none 0 0,.slice none 0 0] 26)) (.slice (some ⟨g,0,none⟩) (qs.length+1) cap) (p :: qs)):=h4
              have HO4:Aside ((w3.alloc (.cells #[.int .i64 0,.int .i64 0,.string ⟨#[]⟩,.slice none 0 0,.slice none 0 0] 26)).ownsRow (W.heap.size+1) 57 7 (.slice (some ⟨g,0,none⟩) (qs.length+1) cap) (qs.length+1) ((((p :: qs).map (·.1)).reverse).flatMap Fm.cells)):=hown
              have HL:Aside ((qs.length+1)≤1000∧¬ 1000≤(qs.length+1)):=⟨hlen,hd11⟩
              clear hgo h4 hown hd10 hd11 hlen
              obtain ⟨i57,j1,j2,j3,j4⟩:=yQ
              go_wp2_with (first | (at_builtin; (refine wpList_append_lies _ rfl _ _ 51 rfl (W.heap.size+1) 57 i57 _ 7 104 aW5 j1 j2 j3 j4 rfl (by omega) ((.slice (some ⟨g,0,none⟩) (qs.length+1) cap)) (qs.length+1) _ (by rfl) (World.ownsRow.alloc HO4.out _) ⟨w3.heap.size+1,0,none⟩ 1 1 [.int .i64 7,.int .i64 0,.string ⟨#[]⟩,.slice none 0 0,.slice none 0 0,.string ⟨#[]⟩,.bool false] (by rfl) (by rfl) (World.news_of_block (cs:=#[.int .i64 7,.int .i64 0,.string ⟨#[]⟩,.slice none 0 0,.slice none 0 0,.string ⟨#[]⟩,.bool false]) (t:=57) (fr:=(0,0)) (by have:=heap_alloc_new (w3.alloc (.cells #[.int .i64 0,.int .i64 0,.string ⟨#[]⟩,.slice none 0 0,.slice none 0 0] 26)) (.cells #[.int .i64 7,.int .i64 0,.string ⟨#[]⟩,.slice none 0 0,.slice none 0 0,.string ⟨#[]⟩,.bool false] 57); rw [World.size_alloc] at this; exact this)) (by simp [Value.oneCell']) (by omega) (by have:=HL.out.1; simp [maxLen] <;> omega) (by have:=HL.out.1; omega) (by have:=H4.out.lt; rw [World.size_alloc]; omega) (w3.heap.size+2) (by simp) ?_)) | fail)
              intro g5 cp5 w5 hown5 hgrow5 hat5 hlt5
              have h5:=LSt.push H4.out 7 (by first | exact hown5 | simpa using hown5) hgrow5 (by rw [World.size_alloc]; exact hat5)
              clear hown5 hgrow5 hat5 hlt5 j1 j2 j3 j4
              go_wp2
              go_roundg n
              case measure=>exact Nat.lt_succ_self _
              case rel=>exact ⟨t4,_,_,rfl,by have:=HL.out.2; simp only [List.length_cons,List.length_nil]; omega,h5,HG.out⟩
            ·have g6:(t0 == 6)=false:=by simpa using h6
             have g8:(t0 == 8)=false:=by simpa using h8
             simp only [g6,g8,cond_false] at hgo
             cases hlf:jM F ⟨t0,t1,t2,t3,t4⟩ with
             | none=>rw [hlf] at hgo; cases hgo
             | some ql =>
              obtain ⟨lo,le⟩:=ql
              rw [hlf] at hgo
              dsimp only at hgo
              have HG:Aside _:=hgo
              clear hgo
              go_wp2_with (go_at_fn 22)
              refine (aF4 _ hlf).mono ?_
              rintro _ w5 ⟨rfl,hb5,hf3,hf4⟩
              unfold bM9 OV.val
              dsimp only at hf3 hf4 ⊢
              have hO5:=(hb5.block _ (by rw [World.size_alloc]; exact Nat.lt_succ_self _)).trans hO
              have hbX:Below w3.heap.size w3 (((((w5.setCell ⟨w3.heap.size,0,none⟩ (.int .i64 lo.f0)).setCell ⟨w3.heap.size,1,none⟩ (.int .i64 lo.f1)).setCell ⟨w3.heap.size,2,none⟩ (.string ⟨lo.f2.toArray⟩)).setCell ⟨w3.heap.size,3,none⟩ (.slice none 0 0)).setCell ⟨w3.heap.size,4,none⟩ (.slice none 0 0)):=(((((((Below.refl _ _).alloc (Nat.le_refl _) _).trans (hb5.mono (by rw [World.size_alloc]; exact Nat.le_succ _))).setCell (Nat.le_refl _) _).setCell (Nat.le_refl _) _).setCell (Nat.le_refl _) _).setCell (Nat.le_refl _) _).setCell (Nat.le_refl _) _
              have hA:=h3.keep hbX
              have hTA:=(hbX.block _ (cZ hT)).trans hT
              have hOA:(((((w5.setCell ⟨w3.heap.size,0,none⟩ (.int .i64 lo.f0)).setCell ⟨w3.heap.size,1,none⟩ (.int .i64 lo.f1)).setCell ⟨w3.heap.size,2,none⟩ (.string ⟨lo.f2.toArray⟩)).setCell ⟨w3.heap.size,3,none⟩ (.slice none 0 0)).setCell ⟨w3.heap.size,4,none⟩ (.slice none 0 0)).heap[w3.heap.size]? = some (.cells #[.int .i64 lo.f0,.int .i64 lo.f1,.string ⟨lo.f2.toArray⟩,.slice none 0 0,.slice none 0 0] 26 (0,0)):=fK (fK (fK (fK (fK hO5))))
              have hR:=bB4 D (((((w5.setCell ⟨w3.heap.size,0,none⟩ (.int .i64 lo.f0)).setCell ⟨w3.heap.size,1,none⟩ (.int .i64 lo.f1)).setCell ⟨w3.heap.size,2,none⟩ (.string ⟨lo.f2.toArray⟩)).setCell ⟨w3.heap.size,3,none⟩ (.slice none 0 0)).setCell ⟨w3.heap.size,4,none⟩ (.slice none 0 0)) hf3 hf4
              have hr5:=(hb5.block _ (cZ h4.res)).trans h4.res
              have nWO:W.heap.size≠w3.heap.size:=Nat.ne_of_lt h3.lt
              have nOW:w3.heap.size≠W.heap.size:=Nat.ne_of_gt h3.lt
              have hDT:=HAh.out.1
              obtain ⟨⟨d0,d1,d2,d3,d4⟩,e0,e1,e2,e3,e4⟩:=cells5 hO5
              obtain ⟨⟨r0,r1,r2,r3,r4⟩,s0,s1,s2,s3,s4⟩:=cells5 hr5
              have HX:Aside _:=hA.below
              clear hbX hb5 hr5 hO5 h3 h4 hO hT4 tk hT hf3 hf4 hlf
              by_cases he5:le=0
              ·subst he5
               have hgo:=HG.out
               clear HG
               rw [show ((0:Int) != 0)=false from rfl,cond_false] at hgo
               clear r0 r1 r2 r3 r4 s0 s1 s2 s3 s4
               unfold kM at hgo
               try rw [List.map_cons] at hgo
               dsimp only at hgo
               cases hput:uQ p.2 lo with
               | none=>rw [hput] at hgo; cases hgo
               | some x' =>
                rw [hput] at hgo
                dsimp only at hgo
                try simp only [List.length_cons] at c0 c1 c2 c3 c4 hA hlen hq hcap
                have m0:(0:Int)≤(qs.length:Int)+1:=by omega
                have m1:(qs.length:Int)+1 < (qs.length:Int)+1+1:=by omega
                have m2:wrap64 ((qs.length:Int)+1)=(qs.length:Int)+1:=by unfold wrap64; omega
                have m3:(qs.length:Int)+1≤(cap:Int):=by omega
                have m4:(0:Int) < (qs.length:Int)+1:=by omega
                have HA:Aside _:=hA
                have HR:Aside (RCs (D) (((((w5.setCell ⟨w3.heap.size,0,none⟩ (.int .i64 lo.f0)).setCell ⟨w3.heap.size,1,none⟩ (.int .i64 lo.f1)).setCell ⟨w3.heap.size,2,none⟩ (.string ⟨lo.f2.toArray⟩)).setCell ⟨w3.heap.size,3,none⟩ (.slice none 0 0)).setCell ⟨w3.heap.size,4,none⟩ (.slice none 0 0)) (bA lo) (fun j=>(⟨lo.f0,lo.f1,⟨lo.f2.toArray⟩,none,0,0,none,0,0⟩:OV).cells[j]?) 0):=hR
                have HG:Aside _:=hgo
                have HQ:Aside (qs.length+1≤1000):=by first | exact hq | exact hlen
                clear hgo hA hR hTA hOA hDT hlen hq hcap hn0 hn1 hwn hcp
                go_wp2_with (go_at_fn 23)
                refine (LSt.give (ov:=⟨lo.f0,lo.f1,⟨lo.f2.toArray⟩,none,0,0,none,0,0⟩) HA.out HR.out hput (Nat.le_of_succ_le HQ.out)).mono ?_
                rintro _ w6 ⟨rfl,f',h5,hb5⟩
                go_wp2
                go_roundg n
                case measure=>exact Nat.lt_succ_self _
                case rel=>exact ⟨t4,_,(f',x') :: qs,rfl,by rw [List.length_cons]; exact HQ.out,h5,HG.out⟩
              ·have hgo:=HG.out
               have hne:(le != 0)=true:=by simpa using he5
               rw [hne,cond_true] at hgo
               cases Option.some.inj hgo
               clear hgo HG hA hTA hOA hR hDT
               go_wp2
               refine bodyPost_ret_by (by rw [cK rfl]; go_simp; rfl) rfl ?_
               exact kF (kD HX.out _ _ _ _ _)
      ·have hgo:=HG.out
       have hne:(e != 0)=true:=by simpa using he
       rw [hne,cond_true] at hgo
       cases Option.some.inj hgo
       have HH:Aside _:=h3
       obtain ⟨⟨c0,c1,c2,c3,c4⟩,f0,f1,f2,f3,f4⟩:=h3.bX6
       clear hgo HG h3 hT
       go_wp2
       refine bodyPost_ret_by (by rw [cK rfl]; go_simp; rfl) rfl ?_
       exact kF (kD HH.out.below _ _ _ _ _)
    ·have hgo:=HG.out
     have hne:(e != 0)=true:=by simpa using he
     rw [hne,cond_true] at hgo
     cases Option.some.inj hgo
     have HH:Aside _:=h2
     obtain ⟨⟨c0,c1,c2,c3,c4⟩,f0,f1,f2,f3,f4⟩:=h2.bX6
     clear hgo HG hcs h2 h1
     go_wp2
     refine bodyPost_ret_by (by rw [cK rfl]; go_simp; rfl) rfl ?_
     exact kF (kD HH.out.below _ _ _ _ _)
/-- A function of data that is read: what it returns is data,too,some of it new. -/
theorem cM6 {P:Program} {k:Nat} (hk:kR P k) {args:List AV} {res:AV} (hown:∀ j,res.aJ j=false) (hgd:∀ l a,res≠.gd l a) (hal:decide (args.length < aH)=true)
  (h:∀ (w:World) (S:Nat→Prop) (us:List Value),us.length=args.length→(∀ b,S b→b < w.heap.size)→(∀ (i:Nat) (x:Dat) (v:Value),args[i]? = some (.d x)→us[i]? = some v→RD S w x v) →
   Calls P k us.toArray w fun e w'=>∃ u,e=.returned u∧Below w.heap.size w w'∧∀ β,dV (dN []) (fun b=>S b∨(w.heap.size≤b∧b < w'.heap.size)) w' β aH res u):aS P k args [] res []:=by
 have hal':=of_decide_eq_true hal
 refine ⟨hk,fun w S β vs hvs hm=>?_⟩
 refine (h w S vs hvs (fun b hb=>(hm.stb b hb).1) fun i x v hi hv=>?_).mono ?_
 ·obtain ⟨u0,hr,hu0⟩:=hm.rel i
  have hlt:=(List.getElem?_eq_some_iff.1 hi).1
  rw [bW hlt,List.getD_eq_getElem?_getD,hi,Option.getD_some] at hr
  have e1:=hu0 v (by simp [hv])
  rw [e1]
  exact hr
 rintro e w' ⟨u,rfl,hb,hr⟩
 have hj:∀ x,x≠aH→aU ((aH,res) :: iA aF []) x=.junk:=fun x hx=>by
  rw [aZ _ _ (Ne.symm hx),lN,if_neg (by simp)]
 have hno:∀ x i,(aU ((aH,res) :: iA aF []) x).aJ i=false:=fun x i=>by
  by_cases hx:x=aH
  ·rw [hx,aO]
   exact hown i
  ·rw [hj x hx]
   cases i <;> rfl
 refine ⟨u,fun b=>S b∨(w.heap.size≤b∧b < w'.heap.size),β,rfl,⟨fun x=>?_,fun x l a hx=>?_,fun x i y j b hx=>?_,fun x i b hx=>?_,fun b hb'=>?_,fun b hb'=>.inl hb',fun b hb' _=>hb.block b hb',hb.os,hb.tape,hb.output,hb.size⟩⟩
 ·by_cases hx:x=aH
  ·refine ⟨u,?_,fun u' h=>?_⟩
   ·rw [hx,aO]
    exact hr β
   ·rw [if_pos hx] at h
    exact (Option.some.inj h).symm
  ·refine ⟨(bP β ([]:List AV).length x).getD undef,?_,fun u' h=>?_⟩
   ·rw [hj x hx]
    trivial
   ·rw [if_neg hx] at h
    rw [h]
    rfl
 ·by_cases hx':x=aH
  ·rw [hx',aO] at hx
   exact absurd hx (hgd l a)
  ·rw [hj x hx'] at hx
   cases hx
 ·rw [hno] at hx; cases hx
 ·rw [hno] at hx; cases hx
 ·rcases hb' with h1 | h1
  ·exact ⟨Nat.lt_of_lt_of_le (hm.stb b h1).1 hb.size,(hm.stb b h1).2⟩
  ·exact ⟨h1.2,.inr (.inl h1.1)⟩
theorem aR3 {F:Nat} {a0:List UInt8} {r:aG×Int×Int} (h:xN F a0=some r):aS Tryz.prog 8 [.d (.str a0)] [] (.tup [.agg (bA r.1),.d (.v (.int .i64 r.2.1)),.d (.v (.int .i64 r.2.2))]) []:=by
 refine cM6 ⟨_,Tryz.func8,by kernel_rfl,by kernel_rfl⟩ (fun j=>?_) (fun l a e=>by cases e) rfl ?_
 ·match j with
  | 0=>rfl
  | 1=>rfl
  | 2=>rfl
  | 3=>rfl
  | j+4=>rfl
 intro w S us hus hS hrd
 match us,hus with
 | [a],_ =>
  have ha:a=strOf a0:=by simpa only [RD] using hrd 0 (.str a0) a rfl rfl
  subst ha
  refine (cA4 (W:=w) (F:=F) (s:=a0) h).mono ?_
  rintro e w' ⟨ov,D,rfl,hb,hD,hr⟩
  refine ⟨_,rfl,hb,fun β=>⟨[ov.val,.int .i64 r.2.1,.int .i64 r.2.2],rfl,rfl,?_,⟨rfl,rfl⟩,⟨rfl,rfl⟩,trivial⟩⟩
  exact ⟨_,rfl,rfl,RCs.mono (fun b hb=>.inr (hD b hb)) (fun _ _=>rfl) _ _ _ hr⟩
end Go.Vm.ObjM
