/-
  The functions of the modes: function values by what they answer.
-/
import Derived.Test.YtjjclmimifionaaCa
import Derived.Deep.LoopGhost
import Derived.Laws.EntriesVeiled
import Derived.WideLaws
import Derived.Deep.WholeRow
import Derived.Deep.MidRow
namespace Go.Vm.TopG
open Go.Proofs
open Go.RowKit
theorem callable_run {k:Nat} (h:Callable Try.prog k) (args:Array Value) (W:World):(callFunc k args).run Try.prog W=.ok (.enter k args) W:=by
 obtain ⟨fn,h1,h2,h3⟩:=h
 have h3' : ¬ fn.name = "runtime.NumGoroutine" := by simpa using h3
 have h2':¬ fn.body=none:=fun e=>by rw [e] at h2; cases h2
 unfold callFunc
 simp [go_sem,h1,h2',h3']
theorem u8w (x:Int):IntKind.u8.wrap x=x % 256:=by
 unfold IntKind.wrap
 simp [show IntKind.u8.signed=false from rfl,show IntKind.u8.bits=8 from rfl]
theorem belowI {k:Nat} {a b r:Int} (h:ACall Try.prog k [.d (.v (.int .i64 a)),.d (.v (.int .i64 b))] [] (.d (.v (.int .i64 r))) []) (W:World):Calls Try.prog k #[.int .i64 a,.int .i64 b] W fun e W'=>e=.returned (.int .i64 r)∧Below W.heap.size W W':=by
 refine (belowD (us:=[.int .i64 a,.int .i64 b]) h rfl (show 2 < resSlot by decide) rfl ⟨flat_int ..,flat_int ..,trivial⟩).mono ?_
 rintro e W' ⟨u,S',β',rfl,hu,hb⟩
 rw [int_res hu]
 exact ⟨rfl,hb⟩
def modeFn (k:Nat):Nat:=[81,82,83,84,86,87,88,89,85,90,91,92].getD k 0
theorem mode_at {F k:Nat} (hk:k < 12) {a b r:Int} (h:mode1 F k a b=some r) (W:World):Calls Try.prog (modeFn k) #[.int .i64 a,.int .i64 b] W fun e W'=>e=.returned (.int .i64 r)∧Below W.heap.size W W':=by
 obtain rfl | rfl | rfl | rfl | rfl | rfl | rfl | rfl | rfl | rfl | rfl | rfl:k=0∨k=1∨k=2∨k=3∨k=4∨k=5∨k=6∨k=7∨k=8∨k=9∨k=10∨k=11:=by omega
 ·exact belowI (blend_modes_c1_ok (F:=F) h) W
 ·exact belowI (blend_mul_ok (F:=F) h) W
 ·exact belowI (blend_modes_c2_ok (F:=F) h) W
 ·exact belowI (blend_modes_c3_ok (F:=F) h) W
 ·exact belowI (blend_modes_c4_ok (F:=F) h) W
 ·exact belowI (blend_modes_c5_ok (F:=F) h) W
 ·exact belowI (blend_dodge_ok (F:=F) h) W
 ·exact belowI (blend_burn_ok (F:=F) h) W
 ·exact belowI (blend_hard_ok (F:=F) h) W
 ·exact belowI (blend_modes_c6_ok (F:=F) h) W
 ·exact belowI (blend_modes_c7_ok (F:=F) h) W
 ·exact belowI (blend_modes_c8_ok (F:=F) h) W
theorem mode_call {k:Nat} (hk:k < 12):Callable Try.prog (modeFn k):=by
 obtain rfl | rfl | rfl | rfl | rfl | rfl | rfl | rfl | rfl | rfl | rfl | rfl:k=0∨k=1∨k=2∨k=3∨k=4∨k=5∨k=6∨k=7∨k=8∨k=9∨k=10∨k=11:=by omega
 ·exact ⟨_,Try.func81,by kernel_rfl,by kernel_rfl⟩
 ·exact ⟨_,Try.func82,by kernel_rfl,by kernel_rfl⟩
 ·exact ⟨_,Try.func83,by kernel_rfl,by kernel_rfl⟩
 ·exact ⟨_,Try.func84,by kernel_rfl,by kernel_rfl⟩
 ·exact ⟨_,Try.func86,by kernel_rfl,by kernel_rfl⟩
 ·exact ⟨_,Try.func87,by kernel_rfl,by kernel_rfl⟩
 ·exact ⟨_,Try.func88,by kernel_rfl,by kernel_rfl⟩
 ·exact ⟨_,Try.func89,by kernel_rfl,by kernel_rfl⟩
 ·exact ⟨_,Try.func85,by kernel_rfl,by kernel_rfl⟩
 ·exact ⟨_,Try.func90,by kernel_rfl,by kernel_rfl⟩
 ·exact ⟨_,Try.func91,by kernel_rfl,by kernel_rfl⟩
 ·exact ⟨_,Try.func92,by kernel_rfl,by kernel_rfl⟩
/-- A function value that mixes as mode k does. -/
def MixV (F k:Nat) (g:Value) (w:World):Prop:=∃ f caps,g=.func (.func f) #[] caps∧Callable Try.prog f∧∀ W,Below w.heap.size w W→∀ a b r,mixF F k a b=some r→Calls Try.prog f (#[.int .u8 a,.int .u8 b]++caps) W fun e W'=>e=.returned (.int .u8 r)∧Below W.heap.size W W'
theorem MixV.mono {F k:Nat} {g:Value} {w w':World} (h:MixV F k g w) (hb:Below w.heap.size w w'):MixV F k g w':=by
 obtain ⟨k,caps,rfl,hc,h⟩:=h
 exact ⟨k,caps,rfl,hc,fun W hW=>h W (hb.trans (hW.mono hb.size))⟩
set_option maxRecDepth 100000 in
set_option maxHeartbeats 4000000 in
theorem mode75_at {F k:Nat} (hk:k < 12) {a b r:Int} (h:mode1 F k (IntKind.i64.wrap a) (IntKind.i64.wrap b)=some r) (W:World) {p:Nat} (hp:W.cell? ⟨p,0,none⟩=some (.func (.func (modeFn k)) #[] #[])) :
  Calls Try.prog 75 #[.int .u8 a,.int .u8 b,.pointer (some ⟨p,0,none⟩)] W fun e W'=>e=.returned (.int .u8 (IntKind.u8.wrap r))∧Below W.heap.size W W':=by
 have hm:=mode_at hk h
 simp only [wrap64_eq] at hm
 have hr:=callable_run (mode_call hk)
 revert hp hm hr
 generalize modeFn k=fn
 intro hp hm hr
 go_enter Try.func75,Try.ntmps75
 go_wp2
 refine (hm W).mono ?_
 rintro e W' ⟨rfl,hb⟩
 go_wp2
 go_ret
 exact ⟨by simp [u8w],hb⟩
set_option maxRecDepth 100000 in
set_option maxHeartbeats 4000000 in
theorem mix61_at {F k:Nat} (hk:k < 12) {a b r:Int} (h:mixF F k a b=some r) (W:World) {p q:Nat} (hp:W.cell? ⟨p,0,none⟩=some (.func (.func 75) #[] #[.pointer (some ⟨q,0,none⟩)])) (hq:W.cell? ⟨q,0,none⟩=some (.func (.func (modeFn k)) #[] #[])) :
  Calls Try.prog 61 #[.int .u8 a,.int .u8 b,.pointer (some ⟨p,0,none⟩)] W fun e W'=>e=.returned (.int .u8 r)∧Below W.heap.size W W':=by
 unfold mixF at h
 obtain ⟨x,hx,h⟩:=call_ok h
 cases h
 have hm:=fun W (hq:W.cell? ⟨q,0,none⟩=some (.func (.func (modeFn k)) #[] #[]))=>mode75_at hk hx W hq
 go_enter Try.func61,Try.ntmps61
 go_wp2_with (go_at_fn 75)
 refine (hm W hq).mono ?_
 rintro e W' ⟨rfl,hb⟩
 go_wp2
 go_ret
 exact ⟨by simp [u8w],hb⟩
/-- A type of so many cells. -/
def rowTy (P:Program) (ty n:Nat):Bool:=(match P.underlying ty with | some d=>d.isRow | none=>false) && ((P.info? ty).map (·.size) == some n)
theorem rowTy_ok {P:Program} {ty n:Nat} (h:rowTy P ty n=true):∃ d,P.underlying ty=some d∧d.isRow=true∧(P.info? ty).map (·.size)=some n:=by
 unfold rowTy at h
 simp only [Bool.and_eq_true,beq_iff_eq] at h
 obtain ⟨h1,h2⟩:=h
 split at h1
 ·rename_i d hd; exact ⟨d,hd,h1,h2⟩
 ·cases h1
theorem load_row {ty b n:Nat} {w:World} {cs:Array Value} {E:TypeId} {fz:Nat×Nat} (ht:rowTy Try.prog ty n=true) (hn:cs.size=n) (hg:w.heap[b]? = some (.cells cs E fz)):(loadVar ty ⟨b,0,none⟩).run Try.prog w=.ok (.agg cs) w:=by
 obtain ⟨d,h1,h2,h3⟩:=rowTy_ok ht
 exact run_loadVar_row w b E ty cs fz d hg h1 (by cases d <;> first | rfl | cases h2) (by rw [h3,hn])
/-- A struct or an array in a result's cell is handed back. -/
theorem ret_row {fn:Func} {R:Ending→World→Prop} {w:World} {a:Act} (p:Nat) (ty:TypeId) (n:Nat) {b:Nat} {cs:Array Value} {E:TypeId} {fz:Nat×Nat} (hres:fn.results=#[.cell p ty]) (ht:rowTy Try.prog ty n=true) (hn:cs.size=n) (hg:w.heap[b]? = some (.cells cs E fz))
  (hp:a.tmps.getD p undef=.pointer (some ⟨b,0,none⟩)) (hd:a.defers=[]) (hR:R (.returned (.agg cs)) w):bodyPost Try.prog fn R .ret a w:=by
 refine bodyPost_ret (v:=.agg cs) ?_ hd hR
 rw [results_cell1 hres,hp]
 simp only [asAddr,Sem.run_pure,Result.andThen,load_row ht hn hg]
theorem ret_row2 {fn:Func} {R:Ending→World→Prop} {w:World} {a:Act} (p q:Nat) (ty:TypeId) (n:Nat) {b:Nat} {cs:Array Value} {E:TypeId} {fz:Nat×Nat} {u:Value} (hres:fn.results=#[.cell p ty,.tmp q]) (ht:rowTy Try.prog ty n=true) (hn:cs.size=n) (hg:w.heap[b]? = some (.cells cs E fz))
  (hp:a.tmps.getD p undef=.pointer (some ⟨b,0,none⟩)) (hq:a.tmps.getD q undef=u) (hd:a.defers=[]) (hR:R (.returned (.tuple #[.agg cs,u])) w):bodyPost Try.prog fn R .ret a w:=by
 refine bodyPost_ret (v:=.tuple #[.agg cs,u]) ?_ hd hR
 rw [results_cell_tmp hres,hp,hq]
 simp only [asAddr,Sem.run_pure,Result.andThen,load_row ht hn hg]
/-- The element of an array of single cells. -/
def arrTy (P:Program) (T n:Nat):Bool:=match P.underlying T with | some (.array m e)=>m == n && (match P.underlying e with | some d => !d.isRow | none=>false) && ((P.info? e).map (·.size) == some 1) | _=>false
theorem index_arr {T n:Nat} (ht:arrTy Try.prog T n=true) {cs:Array Value} {k:IntKind} {i:Nat} {v:Value} (hi:i < n) (hv:cs[i]? = some v) (w:World):(Instr.index T (.agg cs) (.int k (i:Int))).run Try.prog w=.ok v w:=by
 unfold arrTy at ht
 split at ht
 case h_2=>cases ht
 rename_i m e hu
 simp only [Bool.and_eq_true,beq_iff_eq] at ht
 obtain ⟨⟨rfl,h1⟩,h2⟩:=ht
 split at h1
 case h_2=>cases h1
 rename_i d hd
 cases hq:Try.prog.info? e with
 | none=>simp [hq] at h2
 | some inf =>
  have hs:inf.size=1:=by simpa [hq] using h2
  have hagg:(isAgg e).run Try.prog w=.ok false w:=by
   unfold isAgg
   rw [Sem.run_bind,run_underlying hd w]
   cases d <;> simp_all
  simp only [Instr.index,asIntOf,Sem.run_bind,Sem.run_pure,Result.andThen_ok,run_underlying hu]
  rw [if_pos ⟨Int.natCast_nonneg _,by exact_mod_cast hi⟩]
  simp [part,sizeOf,typeInfo,Sem.run_bind,hq,hs,hagg,hv]
def modeV (k:Nat):Value:=.func (.func (modeFn k)) #[] #[]
def modesA:Array Value:=#[modeV 0,modeV 1,modeV 2,modeV 3,modeV 4,modeV 5,modeV 6,modeV 7,modeV 8,modeV 9,modeV 10,modeV 11]
set_option maxRecDepth 100000 in
set_option maxHeartbeats 4000000 in
theorem modes_at (W:World):Calls Try.prog 74 #[] W fun e W'=>e=.returned (.agg modesA)∧Below W.heap.size W W':=by
 go_enter Try.func74,Try.ntmps74
 go_wp2
 exact ret_row 0 143 12 (by kernel_rfl) (by kernel_rfl) rfl (heap_alloc_new _ _) rfl rfl ⟨rfl,(Below.refl _ _).alloc (Nat.le_refl _) _⟩
end Go.Vm.TopG
namespace Go.Vm.TopG
open Go.Proofs
open Go.RowKit
def stA (s:S_State):Array Value:=#[.int .u8 s.f0,.int .u8 s.f1.f0,.int .u8 s.f1.f1,.int .u8 s.f1.f2,.int .u8 s.f1.f3,.int .u8 s.f1.f4,.int .u8 s.f1.f5,.int .u8 s.f1.f6,.int .u8 s.f1.f7]
def stV (s:S_State):Value:=.agg (stA s)
/-- Amounts by number. -/
def ink (v:S_Inks) (j:Nat):Int:=(inkL v).getD j 0
theorem inkM_get {f:Int→Int→Option Int} {a b v:S_Inks} (h:inkM f a b=some v):∀ j,j < 8→f (ink a j) (ink b j)=some (ink v j):=by
 unfold inkM at h
 obtain ⟨x0,h0,h⟩:=call_ok h
 obtain ⟨x1,h1,h⟩:=call_ok h
 obtain ⟨x2,h2,h⟩:=call_ok h
 obtain ⟨x3,h3,h⟩:=call_ok h
 obtain ⟨x4,h4,h⟩:=call_ok h
 obtain ⟨x5,h5,h⟩:=call_ok h
 obtain ⟨x6,h6,h⟩:=call_ok h
 obtain ⟨x7,h7,h⟩:=call_ok h
 cases h
 intro j hj
 obtain rfl | rfl | rfl | rfl | rfl | rfl | rfl | rfl:j=0∨j=1∨j=2∨j=3∨j=4∨j=5∨j=6∨j=7:=by omega
 ·exact h0
 ·exact h1
 ·exact h2
 ·exact h3
 ·exact h4
 ·exact h5
 ·exact h6
 ·exact h7
/-- A state of which the first j amounts are there. -/
def part8 (z:Int) (v:S_Inks) (j:Nat):Array Value:=#[.int .u8 z,.int .u8 (if 0 < j then v.f0 else 0),.int .u8 (if 1 < j then v.f1 else 0),.int .u8 (if 2 < j then v.f2 else 0),.int .u8 (if 3 < j then v.f3 else 0),.int .u8 (if 4 < j then v.f4 else 0),.int .u8 (if 5 < j then v.f5 else 0),.int .u8 (if 6 < j then v.f6 else 0),.int .u8 (if 7 < j then v.f7 else 0)]
theorem part8_done (z:Int) (v:S_Inks):part8 z v 8=stA ⟨z,v⟩:=rfl
theorem part8_set (z:Int) (v:S_Inks) {j:Nat} (hj:j < 8):(part8 z v j).setIfInBounds (1+j) (.int .u8 (ink v j))=part8 z v (j+1):=by
 obtain rfl | rfl | rfl | rfl | rfl | rfl | rfl | rfl:j=0∨j=1∨j=2∨j=3∨j=4∨j=5∨j=6∨j=7:=by omega
 all_goals rfl
theorem part8_some (z:Int) (v:S_Inks) {j:Nat} (hj:j < 8):∃ u,(part8 z v j)[1+j]? = some u:=by
 obtain rfl | rfl | rfl | rfl | rfl | rfl | rfl | rfl:j=0∨j=1∨j=2∨j=3∨j=4∨j=5∨j=6∨j=7:=by omega
 all_goals exact ⟨_,rfl⟩
theorem inkA_get (v:S_Inks) {j:Nat} (hj:j < 8):(inkA v)[j]? = some (.int .u8 (ink v j)):=by
 obtain rfl | rfl | rfl | rfl | rfl | rfl | rfl | rfl:j=0∨j=1∨j=2∨j=3∨j=4∨j=5∨j=6∨j=7:=by omega
 all_goals rfl
theorem paintC_cases {F:Nat} {k:Int} {st r:S_State} {ik:S_Inks} {al:Int} {over:Bool} (h:paintC F st ik al k over=some r) :
  ∃ a q all,wrap64 st.f0=a∧wrap64 al=q∧wrap64 (wrap64 (255 * wrap64 (a+q)) - wrap64 (a * q))=all ∧
   ((all=0∧r=⟨0,ink0⟩)∨(¬ all=0∧∃ z v,num_Near F all 255=some z∧(∀ j,j < 8→mix1 F k over a q all (ink st.f1 j) (ink ik j)=some (ink v j))∧r=⟨IntKind.u8.wrap z,v⟩)):=by
 unfold paintC at h
 simp only [wrap64_eq] at h
 obtain ⟨a,ha,h⟩:=lett_ok h
 obtain ⟨q,hq,h⟩:=lett_ok h
 obtain ⟨all,hall,h⟩:=lett_ok h
 refine ⟨a,q,all,ha,hq,hall,?_⟩
 by_cases h0:all=0
 ·rw [show (all == 0)=true by simpa using h0] at h
  cases h
  exact .inl ⟨h0,rfl⟩
 ·rw [show (all == 0)=false by simpa using h0,cond_false] at h
  obtain ⟨z,hz,h⟩:=call_ok h
  obtain ⟨v,hv,h⟩:=call_ok h
  cases h
  exact .inr ⟨h0,z,v,hz,inkM_get hv,rfl⟩
theorem mix1_cases {F:Nat} {k:Int} {over:Bool} {a q all c i x:Int} (h:mix1 F k over a q all c i=some x) :
  ((over=true∧i=0∧a > 0)∧x=c)∨(¬ (over=true∧i=0∧a > 0)∧∃ b z,mixF F k c i=some b∧num_Near F (wrap64 (wrap64 (wrap64 (wrap64 (255 - q) * a) * wrap64 c)+wrap64 (q * wrap64 (wrap64 (wrap64 (255 - a) * wrap64 i)+wrap64 (a * wrap64 b))))) all=some z∧x=IntKind.u8.wrap z):=by
 unfold mix1 at h
 simp only [wrap64_eq] at h
 by_cases hc:over=true∧i=0∧a > 0
 ·obtain ⟨rfl,rfl,h3⟩:=hc
  simp [h3] at h
  exact .inl ⟨⟨rfl,rfl,h3⟩,h.symm⟩
 ·have:(over && ((i == 0) && decide (a > 0)))=false:=by
   cases over with
   | false=>rfl
   | true =>
    simp only [true_and,Bool.true_and] at hc ⊢
    by_cases h1:i=0
    ·subst h1
     simp only [true_and] at hc
     simp [hc]
    ·simp [h1]
  rw [this,cond_false] at h
  obtain ⟨b,hb,h⟩:=call_ok h
  obtain ⟨z,hz,h⟩:=call_ok h
  cases h
  exact .inr ⟨hc,b,z,hb,hz,rfl⟩
theorem wrap64_0:wrap64 0=0:=by unfold wrap64; omega
theorem three_new (W:World) (o p q:Obj):(((W.alloc o).alloc p).alloc q).heap[W.heap.size]? = some o∧(((W.alloc o).alloc p).alloc q).heap[W.heap.size+1]? = some p∧(((W.alloc o).alloc p).alloc q).heap[W.heap.size+1+1]? = some q∧Below W.heap.size W (((W.alloc o).alloc p).alloc q):=by
 obtain ⟨h1,h2⟩:=two_new W o p
 have h3:=heap_alloc_new ((W.alloc o).alloc p) q
 refine ⟨(Below.heap_alloc _ _ _ (heap_lt h1)).trans h1,(Below.heap_alloc _ _ _ (heap_lt h2)).trans h2,?_,(two_below W o p).alloc (by simp; omega) q⟩
 simpa only [World.size_alloc] using h3
/-- The state of painting: the amounts are put in one by one. -/
structure PaintSt (W:World) (N:Nat) (ik v:S_Inks) (zz:Int) (j:Nat) (w:World):Prop where
 below:Below W.heap.size W w
 hI:w.heap[W.heap.size+1]? = some (.cells (inkA ik) 35 (0,0))
 hO:w.heap[W.heap.size+1+1]? = some (.cells (stA ⟨0,ink0⟩) 83 (0,0))
 hN:w.heap[N]? = some (.cells (part8 zz v j) 83 (0,0))
 lt:W.heap.size+1+1 < N
theorem PaintSt.put {W w:World} {N j:Nat} {ik v:S_Inks} {zz:Int} (h:PaintSt W N ik v zz j w) (hj:j < 8):PaintSt W N ik v zz (j+1) (w.setCell ⟨N,1+j,none⟩ (.int .u8 (ink v j))):=by
 have hlt:=h.lt
 refine ⟨h.below.setCell (show W.heap.size≤N by omega) _,(Below.heap_setCell _ _ _ _ (show W.heap.size+1≠N by omega)).trans h.hI,(Below.heap_setCell _ _ _ _ (show W.heap.size+1+1≠N by omega)).trans h.hO,?_,h.lt⟩
 have:=setCell_get w N (1+j) (.int .u8 (ink v j)) h.hN
 rw [part8_set zz v hj] at this
 exact this
theorem PaintSt.next {W w w':World} {N j:Nat} {ik v:S_Inks} {zz:Int} (h:PaintSt W N ik v zz j w) (hb:Below w.heap.size w w'):PaintSt W N ik v zz j w' :=
 ⟨h.below.trans (hb.mono h.below.size),(hb.block _ (heap_lt h.hI)).trans h.hI,(hb.block _ (heap_lt h.hO)).trans h.hO,(hb.block _ (heap_lt h.hN)).trans h.hN,h.lt⟩
theorem set9 {w:World} {b:Nat} {a0 a1 a2 a3 a4 a5 a6 a7 a8:Value} {E:TypeId} (h:w.heap[b]? = some (.cells #[a0,a1,a2,a3,a4,a5,a6,a7,a8] E (0,0))) (v0 v1 v2 v3 v4 v5 v6 v7 v8:Value):(((((((((w.setCell ⟨b,0,none⟩ v0).setCell ⟨b,1,none⟩ v1).setCell ⟨b,2,none⟩ v2).setCell ⟨b,3,none⟩ v3).setCell ⟨b,4,none⟩ v4).setCell ⟨b,5,none⟩ v5).setCell ⟨b,6,none⟩ v6).setCell ⟨b,7,none⟩ v7).setCell ⟨b,8,none⟩ v8).heap[b]? = some (.cells #[v0,v1,v2,v3,v4,v5,v6,v7,v8] E (0,0)):=by
 have h:=setCell_get _ b 0 v0 h
 have h:=setCell_get _ b 1 v1 h
 have h:=setCell_get _ b 2 v2 h
 have h:=setCell_get _ b 3 v3 h
 have h:=setCell_get _ b 4 v4 h
 have h:=setCell_get _ b 5 v5 h
 have h:=setCell_get _ b 6 v6 h
 have h:=setCell_get _ b 7 v7 h
 have h:=setCell_get _ b 8 v8 h
 exact h.trans (by kernel_rfl)
theorem below9 {B:Nat} {W w:World} {b:Nat} (h:Below B W w) (hb:B≤b) (v0 v1 v2 v3 v4 v5 v6 v7 v8:Value):Below B W (((((((((w.setCell ⟨b,0,none⟩ v0).setCell ⟨b,1,none⟩ v1).setCell ⟨b,2,none⟩ v2).setCell ⟨b,3,none⟩ v3).setCell ⟨b,4,none⟩ v4).setCell ⟨b,5,none⟩ v5).setCell ⟨b,6,none⟩ v6).setCell ⟨b,7,none⟩ v7).setCell ⟨b,8,none⟩ v8):=by
 iterate 9 refine Below.setCell ?_ (show B≤b from hb) _
 exact h
set_option maxRecDepth 100000 in
set_option maxHeartbeats 4000000 in
theorem Paint_zero (W:World) {a q:Int} {st:S_State} {ik:S_Inks} {al:Int} {over:Bool} {g:Value} (ha:wrap64 st.f0=a) (hq:wrap64 al=q) (hall:wrap64 (wrap64 (255 * wrap64 (a+q)) - wrap64 (a * q))=0) :
  Calls Try.prog 47 #[stV st,inkV ik,.int .u8 al,g,.bool over] W fun e W'=>e=.returned (stV ⟨0,ink0⟩)∧Below W.heap.size W W':=by
 unfold stV stA inkV inkA
 go_enter Try.func47,Try.ntmps47
 go_wp2_with (go_at_fn 64)
 obtain ⟨h1,h2,h3,hb⟩:=three_new W (.cells (stA st) 83 (0,0)) (.cells (inkA ik) 35 (0,0)) (.cells (stA ⟨0,ink0⟩) 83 (0,0))
 exact ret_row 10 83 9 (by kernel_rfl) (by kernel_rfl) rfl h3 rfl rfl ⟨rfl,hb⟩
set_option maxRecDepth 100000 in
set_option maxHeartbeats 4000000 in
theorem Paint_main (W:World) {F k:Nat} {a q all z:Int} {st:S_State} {ik v:S_Inks} {al:Int} {over:Bool} {g:Value} (hg:MixV F k g W) (ha:wrap64 st.f0=a) (hq:wrap64 al=q) (hall:wrap64 (wrap64 (255 * wrap64 (a+q)) - wrap64 (a * q))=all) (h0:¬ all=0)
  (hz:num_Near F all 255=some z) (hv:∀ j,j < 8→mix1 F k over a q all (ink st.f1 j) (ink ik j)=some (ink v j)) :
  Calls Try.prog 47 #[stV st,inkV ik,.int .u8 al,g,.bool over] W fun e W'=>e=.returned (stV ⟨IntKind.u8.wrap z,v⟩)∧Below W.heap.size W W':=by
 obtain ⟨gf,gc,rfl,hcl,hgc⟩:=hg
 have hr:=callable_run hcl
 have HG:Aside (∀ W_1:World,Below W.heap.size W W_1→∀ a b r,mixF F k a b=some r→Calls Try.prog gf (#[.int .u8 a,.int .u8 b]++gc) W_1 fun e W'=>e=.returned (.int .u8 r)∧Below W_1.heap.size W_1 W'):=hgc
 clear hgc
 have HV:Aside (∀ j,j < 8→mix1 F k over a q all (ink st.f1 j) (ink ik j)=some (ink v j)):=hv
 clear hv hcl
 unfold stV stA inkV inkA
 go_enter Try.func47,Try.ntmps47
 go_wp2_with (go_at_fn 64)
 refine (Near_at _ hz).mono ?_
 rintro e w1 ⟨rfl,hb1⟩
 obtain ⟨h1,h2,h3,hb⟩:=three_new W (.cells (stA st) 83 (0,0)) (.cells (inkA ik) 35 (0,0)) (.cells (stA ⟨0,ink0⟩) 83 (0,0))
 have hAc:∀ o i,(w1.alloc o).cell? ⟨W.heap.size,i,none⟩=(stA st)[i]? := fun o i=>cell_of ((Below.heap_alloc _ _ _ (Nat.lt_of_lt_of_le (heap_lt h1) hb1.size)).trans ((hb1.block _ (heap_lt h1)).trans h1)) i
 unfold stA at hAc
 have hI:w1.heap[W.heap.size+1]? = some (.cells (inkA ik) 35 (0,0)):=(hb1.block _ (heap_lt h2)).trans h2
 have hO:w1.heap[W.heap.size+1+1]? = some (.cells (stA ⟨0,ink0⟩) 83 (0,0)):=(hb1.block _ (heap_lt h3)).trans h3
 have hB:Below W.heap.size W w1:=hb.trans (hb1.mono hb.size)
 clear hb1 h1 h2 h3 hb
 go_wp2
 clear hAc
 have hP:PaintSt W w1.heap.size ik v (z % 256) 0 (w1.alloc (.cells (part8 (z % 256) v 0) 83 (0,0))) :=
  ⟨hB.alloc hB.size _,(Below.heap_alloc w1 _ _ (heap_lt hI)).trans hI,(Below.heap_alloc w1 _ _ (heap_lt hO)).trans hO,heap_alloc_new _ _,heap_lt hO⟩
 generalize w1.heap.size=N at hP ⊢
 have HP:Aside _:=hP
 clear hP hI hO hB
 go_loopg [40] 8 (fun g v40 wx=>∃ j:Nat,g+j=8∧v40=.int .i64 (j:Int)∧PaintSt W N ik v (z % 256) j wx)
 case atStart=>exact ⟨0,rfl,rfl,HP.out⟩
 case round =>
  obtain ⟨j,hgj,rfl,hP⟩:=hrel
  clear HP
  by_cases hj:j < 8
  ·have hix:=index_arr (T:=35) (n:=8) (by kernel_rfl) (k:=.i64) hj (inkA_get st.f1 hj)
   have hIc:=(cell_of hP.hI j).trans (inkA_get ik hj)
   obtain ⟨u,hu⟩:=part8_some (z % 256) v hj
   have hNc:=(cell_of hP.hN (1+j)).trans hu
   have hNf:=frz_of hP.hN (1+j)
   have hwk:=wrap_suc hj (show 8≤4294967296 by decide)
   have hj8:(j:Int) < 8:=by omega
   have hP1:=hP.put hj
   unfold inkA at hix
   rcases mix1_cases (HV.out j hj) with ⟨⟨rfl,hi0,ha0⟩,hx⟩ | ⟨hno,b,y,hb,hy,hx⟩
   ·rw [hi0] at hIc
    rw [hx] at hP1
    have HP1:Aside _:=hP1
    clear hP1 hP hu
    go_wp2
    obtain ⟨g',rfl⟩:∃ g',gk=g'+1:=⟨gk - 1,by omega⟩
    go_roundg g'
    case measure=>exact Nat.lt_succ_self _
    case rel=>exact ⟨j+1,by omega,by first | rfl | exact congrArg (Value.int .i64) hwk,HP1.out⟩
   ·have HP:Aside _:=hP
    clear hP1 hP hu hNc hNf
    have hov:over=false∨(over=true∧¬ ink ik j=0)∨(over=true∧ink ik j=0∧¬ a > 0):=by
     cases over with
     | false=>exact .inl rfl
     | true =>
      by_cases h1:ink ik j=0
      ·exact .inr (.inr ⟨rfl,h1,fun h2=>hno ⟨rfl,h1,h2⟩⟩)
      ·exact .inr (.inl ⟨rfl,h1⟩)
    clear hno
    rcases hov with rfl | ⟨rfl,hi0⟩ | ⟨rfl,hi0,ha0⟩
    ·go_wp2
     refine (HG.out wr HP.out.below _ _ _ hb).mono ?_
     rintro e w2 ⟨rfl,hb2⟩
     have hP2:=HP.out.next hb2
     have hIc:=(cell_of hP2.hI j).trans (inkA_get ik hj)
     clear hix HG
     go_wp2_with (go_at_fn 64)
     refine (Near_at _ hy).mono ?_
     rintro e w3 ⟨rfl,hb3⟩
     have hP3:=hP2.next hb3
     obtain ⟨u,hu⟩:=part8_some (z % 256) v hj
     have hNc:=(cell_of hP3.hN (1+j)).trans hu
     have hNf:=frz_of hP3.hN (1+j)
     have hP4:=hP3.put hj
     rw [hx,u8w] at hP4
     have HP4:Aside _:=hP4
     clear hP4 hP3 hP2 hu hIc hb2 hb3
     go_wp2
     obtain ⟨g',rfl⟩:∃ g',gk=g'+1:=⟨gk - 1,by omega⟩
     go_roundg g'
     case measure=>exact Nat.lt_succ_self _
     case rel=>exact ⟨j+1,by omega,by first | rfl | exact congrArg (Value.int .i64) hwk,HP4.out⟩
    ·go_wp2
     refine (HG.out wr HP.out.below _ _ _ hb).mono ?_
     rintro e w2 ⟨rfl,hb2⟩
     have hP2:=HP.out.next hb2
     have hIc:=(cell_of hP2.hI j).trans (inkA_get ik hj)
     clear hix HG
     go_wp2_with (go_at_fn 64)
     refine (Near_at _ hy).mono ?_
     rintro e w3 ⟨rfl,hb3⟩
     have hP3:=hP2.next hb3
     obtain ⟨u,hu⟩:=part8_some (z % 256) v hj
     have hNc:=(cell_of hP3.hN (1+j)).trans hu
     have hNf:=frz_of hP3.hN (1+j)
     have hP4:=hP3.put hj
     rw [hx,u8w] at hP4
     have HP4:Aside _:=hP4
     clear hP4 hP3 hP2 hu hIc hb2 hb3
     go_wp2
     obtain ⟨g',rfl⟩:∃ g',gk=g'+1:=⟨gk - 1,by omega⟩
     go_roundg g'
     case measure=>exact Nat.lt_succ_self _
     case rel=>exact ⟨j+1,by omega,by first | rfl | exact congrArg (Value.int .i64) hwk,HP4.out⟩
    ·go_wp2
     rw [hi0] at hb hy
     rw [show wrap64 (wrap64 (255 - a) * wrap64 0)=0 by rw [wrap64_0,Int.mul_zero,wrap64_0],Int.zero_add] at hy
     refine (HG.out wr HP.out.below _ _ _ hb).mono ?_
     rintro e w2 ⟨rfl,hb2⟩
     have hP2:=HP.out.next hb2
     have hIc:=(cell_of hP2.hI j).trans (inkA_get ik hj)
     clear hix HG
     go_wp2_with (go_at_fn 64)
     refine (Near_at _ hy).mono ?_
     rintro e w3 ⟨rfl,hb3⟩
     have hP3:=hP2.next hb3
     obtain ⟨u,hu⟩:=part8_some (z % 256) v hj
     have hNc:=(cell_of hP3.hN (1+j)).trans hu
     have hNf:=frz_of hP3.hN (1+j)
     have hP4:=hP3.put hj
     rw [hx,u8w] at hP4
     have HP4:Aside _:=hP4
     clear hP4 hP3 hP2 hu hIc hb2 hb3
     go_wp2
     obtain ⟨g',rfl⟩:∃ g',gk=g'+1:=⟨gk - 1,by omega⟩
     go_roundg g'
     case measure=>exact Nat.lt_succ_self _
     case rel=>exact ⟨j+1,by omega,by first | rfl | exact congrArg (Value.int .i64) hwk,HP4.out⟩
  ·obtain rfl:j=8:=by omega
   have hNc:=cell_of hP.hN
   have hOc:=cell_of hP.hO
   have hOf:=frz_of hP.hO
   rw [part8_done] at hNc
   unfold stA at hNc hOc
   go_wp2
   exact ret_row 10 83 9 (by kernel_rfl) (by kernel_rfl) rfl (set9 hP.hO _ _ _ _ _ _ _ _ _) rfl rfl ⟨by simp [u8w],below9 hP.below (by omega) _ _ _ _ _ _ _ _ _⟩
theorem Paint_at (W:World) {F k:Nat} {st r:S_State} {ik:S_Inks} {al:Int} {over:Bool} {g:Value} (hg:MixV F k g W) (h:paintC F st ik al k over=some r) :
  Calls Try.prog 47 #[stV st,inkV ik,.int .u8 al,g,.bool over] W fun e W'=>e=.returned (stV r)∧Below W.heap.size W W':=by
 obtain ⟨a,q,all,ha,hq,hall,⟨h0,rfl⟩ | ⟨h0,z,v,hz,hv,rfl⟩⟩:=paintC_cases h
 ·exact Paint_zero W ha hq (hall.trans h0)
 ·exact Paint_main W hg ha hq hall h0 hz hv
end Go.Vm.TopG
