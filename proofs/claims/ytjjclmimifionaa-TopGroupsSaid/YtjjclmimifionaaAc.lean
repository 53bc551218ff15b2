/-
  Sources: function values by what they answer.
-/
import Derived.Test.YtjjclmimifionaaAb
import Derived.Test.YtjjclmimifionaaVmD
namespace Go.Vm.TopG
open Go.Proofs
open Go.RowKit
/-- A function value that answers as a source does in a world. -/
def SrcA (F:Nat) (s:S_Source) (g:Value) (W:World):Prop:=∃ f caps,g=.func (.func f) #[] caps∧Callable Try.prog f∧∀ x y r,srcF F s x y=some r→Calls Try.prog f (#[.int .i64 x,.int .i64 y]++caps) W fun e W'=>e=.returned (.tuple #[inkV r.1,.int .u8 r.2])∧Below W.heap.size W W'
/-- .. in every world in which the blocks D stand. -/
def SrcD (F:Nat) (s:S_Source) (g:Value) (D:Nat→Prop) (w:World):Prop:=(∀ b,D b→b < w.heap.size)∧∀ W,w.heap.size≤W.heap.size→Agree D w W→SrcA F s g W
def MixD (F k:Nat) (g:Value) (D:Nat→Prop) (w:World):Prop:=(∀ b,D b→b < w.heap.size)∧∀ W,w.heap.size≤W.heap.size→Agree D w W→MixV F k g W
theorem Agree.trans {D:Nat→Prop} {a b c:World} (h:Agree D a b) (k:Agree D b c):Agree D a c:=fun x hx=>(k x hx).trans (h x hx)
theorem SrcD.mono {F:Nat} {s:S_Source} {g:Value} {D D':Nat→Prop} {w w':World} (h:SrcD F s g D w) (hs:w.heap.size≤w'.heap.size) (ha:Agree D w w') (h1:∀ b,D b→D' b) (h2:∀ b,D' b→b < w'.heap.size):SrcD F s g D' w' :=
 ⟨h2,fun W hW hA=>h.2 W (Nat.le_trans hs hW) (Agree.trans ha fun b hb=>hA b (h1 b hb))⟩
theorem MixD.mono {F k:Nat} {g:Value} {D D':Nat→Prop} {w w':World} (h:MixD F k g D w) (hs:w.heap.size≤w'.heap.size) (ha:Agree D w w') (h1:∀ b,D b→D' b) (h2:∀ b,D' b→b < w'.heap.size):MixD F k g D' w' :=
 ⟨h2,fun W hW hA=>h.2 W (Nat.le_trans hs hW) (Agree.trans ha fun b hb=>hA b (h1 b hb))⟩
/-- A whole variable is loaded out of a block. -/
theorem load_at {ty b o n:Nat} {w:World} {cs:Array Value} (ht:rowTy Try.prog ty n=true) (hn:cs.size=n) (hg:∀ j,j < n→w.cell? ⟨b,o+j,none⟩=cs[j]?):(Instr.loadAt ty (.pointer (some ⟨b,o,none⟩))).run Try.prog w=.ok (.agg cs) w:=by
 obtain ⟨d,h1,h2,h3⟩:=rowTy_ok ht
 have:=run_loadAt_mid (P:=Try.prog) w b o ty cs.toList d (fun j v hv=>by
  have hj:j < cs.size:=by
   have:=(List.getElem?_eq_some_iff.1 hv).1
   simpa using this
  rw [hg j (hn ▸ hj)]
  simpa using hv) h1 h2 (by rw [h3]; simp [hn])
 simpa using this
theorem store_at {ty b n:Nat} {w:World} {old cs:Array Value} {E:TypeId} (ht:rowTy Try.prog ty n=true) (hn:cs.size=n) (hg:w.heap[b]? = some (.cells old E (0,0))) (ho:old.size=n) (h1:cs.all (·.oneCell')=true):(Instr.storeAt ty (.pointer (some ⟨b,0,none⟩)) (.agg cs)).run Try.prog w=.ok () (w.setRow b cs):=by
 obtain ⟨d,_,_,h3⟩:=rowTy_ok ht
 simp only [Instr.storeAt,Instr.sureAddr,Sem.run_bind,Sem.run_pure,Result.andThen_ok,run_storeVar_row w b E ty old cs hg (by rw [h3,hn]) (by rw [ho,hn]) h1]
theorem setRow_get {w:World} {b:Nat} {old cs:Array Value} {E:TypeId} {fz:Nat×Nat} (h:w.heap[b]? = some (.cells old E fz)):(w.setRow b cs).heap[b]? = some (.cells cs E fz):=by
 simp [World.setRow,Array.getElem?_modify,h]
theorem setRow_other {w:World} {b k:Nat} {cs:Array Value} (h:k≠b):(w.setRow b cs).heap[k]? = w.heap[k]? := by
 simp [World.setRow,Array.getElem?_modify,Ne.symm h]
theorem setRow_below {W w:World} {b B:Nat} {cs:Array Value} (h:Below B W w) (hb:B≤b):Below B W (w.setRow b cs) :=
 h.trans ⟨rfl,rfl,rfl,by simp [World.setRow],fun k hk=>setRow_other (by omega)⟩
theorem size_setRow {w:World} {b:Nat} {cs:Array Value}:(w.setRow b cs).heap.size=w.heap.size:=by simp [World.setRow]
/-- The cells of a row of data. -/
def CsAt (S:Nat→Prop) (w:World) (b o:Nat) (ds:List Dat):Prop:=∃ arr E fz,w.heap[b]? = some (.cells arr E fz)∧RCs S w ds (fun j=>arr[j]?) o
theorem CsAt.mono {S S':Nat→Prop} {w w':World} {b o:Nat} {ds:List Dat} (h:CsAt S w b o ds) (hb:w'.heap[b]? = w.heap[b]?) (hs:∀ b,S b→S' b) (ha:Agree S w w'):CsAt S' w' b o ds:=by
 obtain ⟨arr,E,fz,h1,h2⟩:=h
 exact ⟨arr,E,fz,hb.trans h1,RCs.mono hs ha ds _ _ h2⟩
theorem CsAt.lt {S:Nat→Prop} {w:World} {b o:Nat} {ds:List Dat} (h:CsAt S w b o ds):b < w.heap.size:=by
 obtain ⟨arr,E,fz,h1,h2⟩:=h
 exact heap_lt h1
theorem CsAt.cell {S:Nat→Prop} {w:World} {b o:Nat} {ds:List Dat} (h:CsAt S w b o ds) {k:Nat} {d:Dat} (hd:ds[k]? = some d):∃ v,w.cell? ⟨b,o+k,none⟩=some v∧RD S w d v:=by
 obtain ⟨arr,E,fz,h1,h2⟩:=h
 obtain ⟨u,h3,h4⟩:=RCs.get ds o k d h2 hd
 exact ⟨u,by rw [cell_of h1]; exact h3,h4⟩
/-- The values of the cells,as an array. -/
theorem CsAt.vals {S:Nat→Prop} {w:World} {b o:Nat} {ds:List Dat} (h:CsAt S w b o ds):∃ cs:Array Value,cs.size=ds.length∧(∀ j,j < ds.length→w.cell? ⟨b,o+j,none⟩=cs[j]?)∧RCs S w ds (fun j=>cs[j]?) 0:=by
 obtain ⟨arr,E,fz,h1,h2⟩:=h
 have key:∀ (ds:List Dat) (o:Nat),RCs S w ds (fun j=>arr[j]?) o→∃ l:List Value,l.length=ds.length∧(∀ j,j < ds.length→arr[o+j]? = l[j]?)∧∀ (pre:List Value),RCs S w ds (fun j=>(pre++l)[j]?) pre.length:=by
  intro ds
  induction ds with
  | nil=>exact fun o _=>⟨[],rfl,fun j hj=>absurd hj (Nat.not_lt_zero _),fun _=>trivial⟩
  | cons d r ih =>
   intro o h
   obtain ⟨⟨v,hv,hd⟩,hr⟩:=h
   obtain ⟨l,l1,l2,l3⟩:=ih (o+1) hr
   refine ⟨v :: l,by simp [l1],fun j hj=>?_,fun pre=>⟨⟨v,by simp,hd⟩,?_⟩⟩
   ·cases j with
    | zero=>simpa using hv
    | succ j=>simpa [Nat.add_comm,Nat.add_left_comm] using l2 j (by simpa using hj)
   ·have:=l3 (pre++[v])
    simpa using this
 obtain ⟨l,l1,l2,l3⟩:=key ds o h2
 refine ⟨l.toArray,by simpa using l1,fun j hj=>?_,?_⟩
 ·rw [cell_of h1,l2 j hj]
  simp
 ·have:=l3 []
  simpa using this
/-- The plain source's function: the ink of the source. -/
theorem src_ink (s:S_Source) {k:Nat} (hk:k < 8):(cS_Source s)[1+k]? = some (.v (.int .u8 (ink s.f1 k))):=by
 obtain rfl | rfl | rfl | rfl | rfl | rfl | rfl | rfl:k=0∨k=1∨k=2∨k=3∨k=4∨k=5∨k=6∨k=7:=by omega
 all_goals kernel_rfl
theorem inkA_one (v:S_Inks):(inkA v).all (·.oneCell')=true:=by simp [inkA,Value.oneCell']
set_option maxRecDepth 100000 in
set_option maxHeartbeats 4000000 in
theorem src54_at (W:World) {S:Nat→Prop} {s:S_Source} {b o:Nat} (hs:CsAt S W b o (cS_Source s)) (x y:Int) :
  Calls Try.prog 54 #[.int .i64 x,.int .i64 y,.pointer (some ⟨b,o,none⟩)] W fun e W'=>e=.returned (.tuple #[inkV s.f1,.int .u8 255])∧Below W.heap.size W W':=by
 have hL:∀ p,(Instr.loadAt 35 (.pointer (some ⟨b,o+1,none⟩))).run Try.prog (W.alloc p)=.ok (.agg (inkA s.f1)) (W.alloc p):=fun p=>load_at (n:=8) (by kernel_rfl) rfl fun k hk=>by
  obtain ⟨v,h1,h2⟩:=hs.cell (src_ink s hk)
  simp only [RD] at h2
  rw [inkA_get s.f1 hk,← h2.1,← h1,Nat.add_assoc]
  exact World.cell?_of_block (Below.heap_alloc _ _ _ hs.lt)
 have hn:=heap_alloc_new W (.cells z8 35 (0,0))
 have hst:=store_at (ty:=35) (n:=8) (by kernel_rfl) (cs:=inkA s.f1) rfl hn rfl (inkA_one _)
 have hw:=(Below.refl W.heap.size W).alloc (Nat.le_refl _) (.cells z8 35 (0,0))
 unfold z8 at hst
 revert hL hst
 unfold inkV
 generalize hv:inkA s.f1=vs
 intro hL hst
 go_enter Try.func54,Try.ntmps54
 go_wp2_with (first | ((with_reducible apply ld); exact (hL _)) | ((with_reducible apply st); exact hst))
 exact ret_row2 5 6 35 8 (by kernel_rfl) (by kernel_rfl) (by rw [← hv]; rfl) (setRow_get hn) rfl rfl rfl ⟨rfl,setRow_below hw (Nat.le_refl _)⟩
theorem place_at (W:World) {S:Nat→Prop} (hS:∀ b,S b→b < W.heap.size) {F:Nat} {s:S_Source} {cs:Array Value} (hn:cs.size=(cS_Source s).length) (hcs:RCs S W (cS_Source s) (fun j=>cs[j]?) 0) {x y t:Int} (h:gradient_place F s x y=some t) :
  Calls Try.prog 73 #[.agg cs,.int .i64 x,.int .i64 y] W fun e W'=>e=.returned (.int .i64 t)∧Below W.heap.size W W':=by
 refine (belowD (us:=[.agg cs,.int .i64 x,.int .i64 y]) (gradient_place_ok h) rfl (show 3 < resSlot by decide) rfl ⟨⟨cs.toList,by simp,by simpa using hn,?_⟩,flat_int ..,flat_int ..,trivial⟩).mono ?_
 ·have:=RCs.mono (S':=allS W) hS (fun _ _=>rfl) _ _ _ hcs
  simpa only [Array.getElem?_toList] using this
 rintro e W' ⟨u,S',β',rfl,hu,hb⟩
 rw [int_res hu]
 exact ⟨rfl,hb⟩
theorem keep {w0 w:World} {b:Nat} {o:Obj} (hw:Below w0.heap.size w0 w) (h:w0.heap[b]? = some o):w.heap[b]? = some o:=(hw.block _ (heap_lt h)).trans h
theorem two_at (W:World) (o p:Obj):((W.alloc o).alloc p).heap[W.heap.size]? = some o∧((W.alloc o).alloc p).heap[W.heap.size+1]? = some p∧Below W.heap.size W ((W.alloc o).alloc p):=by
 obtain ⟨h1,h2⟩:=two_new W o p
 exact ⟨h1,h2,two_below W o p⟩
theorem load_whole {ty b n:Nat} {w:World} {cs:Array Value} {E:TypeId} {fz:Nat×Nat} (ht:rowTy Try.prog ty n=true) (hn:cs.size=n) (hg:w.heap[b]? = some (.cells cs E fz)):(Instr.loadAt ty (.pointer (some ⟨b,0,none⟩))).run Try.prog w=.ok (.agg cs) w :=
 load_at ht hn fun j _=>by rw [Nat.zero_add]; exact cell_of hg j
set_option maxRecDepth 100000 in
set_option maxHeartbeats 4000000 in
theorem Paint59_at (W:World) {S:Nat→Prop} (hS:∀ b,S b→b < W.heap.size) {F:Nat} {s:S_Source} {cs:Array Value} (hn:cs.size=27) (hcs:RCs S W (cS_Source s) (fun j=>cs[j]?) 0) {x y t:Int} {r:S_Inks} (h:gradient_place F s x y=some t) (h2:rampF F s.f5 t=some r) (hl:s.f5.length≤4294967296) :
  Calls Try.prog 59 #[.agg cs,.int .i64 x,.int .i64 y] W fun e W'=>e=.returned (inkV r)∧Below W.heap.size W W':=by
 obtain ⟨u5,hc5,hr5⟩:=RCs.get _ 0 14 (.sl 9 (s.f5.map cS_Stop)) hcs rfl
 have hc5:cs[14]? = some u5:=by simpa using hc5
 obtain ⟨hA,hO,hb0⟩:=two_at W (.cells cs 46 (0,0)) (.cells z8 35 (0,0))
 have hSA:Aside _:=hS
 have hcsA:Aside _:=hcs
 have hcA:Aside _:=hc5
 have hrA:Aside _:=hr5
 clear hS hcs hc5 hr5
 go_enter Try.func59,Try.ntmps59
 go_wp2_with (with_reducible apply halt_region 1)
 revert hA hO hb0
 unfold z8
 generalize (W.alloc _).alloc _=w0
 intro hA hO hb0
 have hS:=hSA.out
 have hcs:=hcsA.out
 have hag:∀ w,Below w0.heap.size w0 w→Agree S W w:=fun w hw b hb=>(hw.block b (Nat.lt_of_lt_of_le (hS b hb) hb0.size)).trans (hb0.block b (hS b hb))
 have hlt:∀ w,Below w0.heap.size w0 w→∀ b,S b→b < w.heap.size:=fun w hw b hb=>Nat.lt_of_lt_of_le (hS b hb) (Nat.le_trans hb0.size hw.size)
 have HL:=fun w (hw:Below w0.heap.size w0 w)=>load_whole (ty:=46) (n:=27) (by kernel_rfl) hn (keep hw hA)
 have HC:=fun w (hw:Below w0.heap.size w0 w)=>(cell_of (keep hw hA) 14).trans hcA.out
 refine wp_region_ord [(0,0),(1,0),(2,0),(3,0),(4,0),(5,1),(6,1),(7,2)] 3 (fun w=>Below w0.heap.size w0 w) (by kernel_rfl) (by kernel_rfl) (Below.refl _ _).drew ?_
 refine Ord.pure _ rfl rfl (fun w hw=>by go_simp; rfl) ?_
 go_simp
 refine Ord.pure u5 rfl rfl (fun w hw=>by have h1:=HC w hw; clear HC HL hrA hcA; go_simp) ?_
 go_simp
 refine Ord.pure (.agg cs) rfl rfl (fun w hw=>ex_load rfl (HL w hw)) ?_
 go_simp
 iterate 2 (refine Ord.pure _ rfl rfl (fun w hw=>by go_simp; rfl) ?_; go_simp)
 refine Ord.det (.int .i64 t) rfl rfl (fun w hw=>.call 73 #[.agg cs,.int .i64 x,.int .i64 y] (by go_simp) ((place_at w (hlt w hw) hn (RCs.mono (fun _ h=>h) (hag w hw) _ _ _ hcs) h).mono ?_)) ?_
 ·rintro e w' ⟨rfl,hb⟩
  exact ⟨_,rfl,rfl,hw.trans (hb.mono hw.size)⟩
 go_simp
 refine Ord.det (inkV r) rfl rfl (fun w hw=>.call 72 #[u5,.int .i64 t] (by go_simp) ((ramp_at w (RD.mono (fun _ h=>h) (hag w hw) _ _ hrA.out) hl h2).mono ?_)) ?_
 ·rintro e w' ⟨rfl,hb⟩
  exact ⟨_,rfl,rfl,hw.trans (hb.mono hw.size)⟩
 go_simp
 refine Ord.eff (fun _=>True) (fun _ w'=>∃ w,Below w0.heap.size w0 w∧w'=w.setRow (W.heap.size+1) (inkA r)) (by decide) rfl rfl (fun w hw=>.skip (ex_store rfl (store_at (n:=8) (by kernel_rfl) rfl (keep hw hO) rfl (inkA_one r))) ⟨trivial,w,hw,rfl⟩) (fun h=>by cases h) ?_
 rintro u - w2 ⟨w,hw,rfl⟩
 have hO2:=setRow_get (cs:=inkA r) (keep hw hO)
 have hb2:=setRow_below (cs:=inkA r) (hb0.trans (hw.mono hb0.size)) (show W.heap.size≤W.heap.size+1 from Nat.le_succ _)
 clear HC HL hag hlt hrA hcA hcs hcsA hSA hS hO hA
 go_wp2
 exact ret_row 6 35 8 (by kernel_rfl) (by kernel_rfl) rfl hO2 rfl rfl ⟨rfl,hb2⟩
/-- A box that holds a source. -/
structure SrcBox (S:Nat→Prop) (w:World) (b:Nat) (s:S_Source) (cs:Array Value):Prop where
 size:cs.size=27
 at_:w.heap[b]? = some (.cells cs 46 (0,0))
 rd:RCs S w (cS_Source s) (fun j=>cs[j]?) 0
set_option maxRecDepth 100000 in
set_option maxHeartbeats 4000000 in
theorem src58_at (W:World) {S:Nat→Prop} (hS:∀ b,S b→b < W.heap.size) {F:Nat} {s:S_Source} {cs:Array Value} {b:Nat} (hs:SrcBox S W b s cs) {x y t:Int} {r:S_Inks} (h:gradient_place F s x y=some t) (h2:rampF F s.f5 t=some r) (hl:s.f5.length≤4294967296) :
  Calls Try.prog 58 #[.int .i64 x,.int .i64 y,.pointer (some ⟨b,0,none⟩)] W fun e W'=>e=.returned (.tuple #[inkV r,.int .u8 255])∧Below W.heap.size W W':=by
 have hL:=load_whole (ty:=46) (n:=27) (by kernel_rfl) hs.size ((Below.heap_alloc W (.cells z8 35 (0,0)) _ (heap_lt hs.at_)).trans hs.at_)
 have hb0:=(Below.refl W.heap.size W).alloc (Nat.le_refl _) (.cells z8 35 (0,0))
 have hO:=heap_alloc_new W (.cells z8 35 (0,0))
 have hcs:=RCs.mono (fun _ h=>h) (fun b hb=>hb0.block b (hS b hb)) _ _ _ hs.rd
 have hS0:∀ b,S b→b < (W.alloc (.cells z8 35 (0,0))).heap.size:=fun b hb=>Nat.lt_of_lt_of_le (hS b hb) hb0.size
 have hsz:=hs.size
 have hle:Aside _:=hl
 clear hs hl
 have hC:=Paint59_at (W.alloc (.cells z8 35 (0,0))) hS0 hsz hcs h h2 hle.out
 have HC:Aside _:=hC
 clear hC hcs hS0 hS
 unfold z8 at hL
 go_enter Try.func58,Try.ntmps58
 go_wp2_with (((with_reducible apply ld); exact hL))
 refine Calls.mono HC.out ?_
 rintro e w' ⟨rfl,hb⟩
 have hO:=keep hb hO
 have hst:=store_at (ty:=35) (n:=8) (by kernel_rfl) (cs:=inkA r) rfl hO rfl (inkA_one r)
 have hb:=hb0.trans (hb.mono hb0.size)
 unfold inkV
 clear HC hL
 go_wp2_with (((with_reducible apply st); exact hst))
 exact ret_row2 5 6 35 8 (by kernel_rfl) (by kernel_rfl) rfl (setRow_get hO) rfl rfl rfl ⟨rfl,setRow_below hb (Nat.le_refl _)⟩
end Go.Vm.TopG
namespace Go.Vm.TopG
open Go.Proofs
open Go.RowKit
theorem aside {p:Prop} (h:p):Aside p:=h
theorem pair_res {S':Nat→Prop} {W':World} {β':Path→Value} {v:S_Inks} {x:Int} {l:List Value} (h:RParts S' W' β' resSlot [AV.agg (cS_Inks v),AV.d (.v (.int .u8 x))] l):l=[inkV v,.int .u8 x]:=by
 match l,h with
 | [a,b],⟨h1,h2,_⟩=>rw [ink_val h1,h2.1]
theorem sample_at (W:World) {S:Nat→Prop} (hS:∀ b,S b→b < W.heap.size) {F:Nat} {i:S_Image} {cs:Array Value} (hn:cs.size=(cS_Image i).length) (hcs:RCs S W (cS_Image i) (fun j=>cs[j]?) 0) {x y:Int} {r:S_Inks×Int} (h:image_sample F i x y=some r) :
  Calls Try.prog 71 #[.agg cs,.int .i64 x,.int .i64 y] W fun e W'=>e=.returned (.tuple #[inkV r.1,.int .u8 r.2])∧Below W.heap.size W W':=by
 refine (belowD (us:=[.agg cs,.int .i64 x,.int .i64 y]) (image_sample_ok h) rfl (show 3 < resSlot by decide) rfl ⟨⟨cs.toList,by simp,by simpa using hn,?_⟩,flat_int ..,flat_int ..,trivial⟩).mono ?_
 ·have:=RCs.mono (S':=allS W) hS (fun _ _=>rfl) _ _ _ hcs
  simpa only [Array.getElem?_toList] using this
 rintro e W' ⟨u,S',β',rfl,⟨l,rfl,-,hu⟩,hb⟩
 have:=pair_res hu
 subst this
 exact ⟨rfl,hb⟩
def sumA (v:S_Inks):Array Value:=#[.int .i64 v.f0,.int .i64 v.f1,.int .i64 v.f2,.int .i64 v.f3,.int .i64 v.f4,.int .i64 v.f5,.int .i64 v.f6,.int .i64 v.f7]
/-- The first j amounts are new. -/
def partI (old new:S_Inks) (j:Nat):S_Inks:=⟨if 0 < j then new.f0 else old.f0,if 1 < j then new.f1 else old.f1,if 2 < j then new.f2 else old.f2,if 3 < j then new.f3 else old.f3,if 4 < j then new.f4 else old.f4,if 5 < j then new.f5 else old.f5,if 6 < j then new.f6 else old.f6,if 7 < j then new.f7 else old.f7⟩
theorem sumA_set (old new:S_Inks) {j:Nat} (hj:j < 8):(sumA (partI old new j)).setIfInBounds j (.int .i64 (ink new j))=sumA (partI old new (j+1)):=by
 obtain rfl | rfl | rfl | rfl | rfl | rfl | rfl | rfl:j=0∨j=1∨j=2∨j=3∨j=4∨j=5∨j=6∨j=7:=by omega
 all_goals rfl
theorem sumA_get (old new:S_Inks) {j:Nat} (hj:j < 8):(sumA (partI old new j))[j]? = some (.int .i64 (ink old j)):=by
 obtain rfl | rfl | rfl | rfl | rfl | rfl | rfl | rfl:j=0∨j=1∨j=2∨j=3∨j=4∨j=5∨j=6∨j=7:=by omega
 all_goals rfl
theorem sumA_get' (v:S_Inks) {j:Nat} (hj:j < 8):(sumA v)[j]? = some (.int .i64 (ink v j)):=by
 obtain rfl | rfl | rfl | rfl | rfl | rfl | rfl | rfl:j=0∨j=1∨j=2∨j=3∨j=4∨j=5∨j=6∨j=7:=by omega
 all_goals rfl
theorem sumI_ink (w s:Int) (a v:S_Inks) {j:Nat} (hj:j < 8):ink (sumI w s a v) j=wrap64 (ink a j+wrap64 (wrap64 (w * wrap64 s) * wrap64 (ink v j))):=by
 obtain rfl | rfl | rfl | rfl | rfl | rfl | rfl | rfl:j=0∨j=1∨j=2∨j=3∨j=4∨j=5∨j=6∨j=7:=by omega
 all_goals (simp only [← wrap64_eq]; rfl)
structure SmSt (W:World) (pc:Array Value) (sm:S_Inks) (w:World):Prop where
 below:Below W.heap.size W w
 hP:w.heap[W.heap.size]? = some (.cells pc 122 (0,0))
 hO:w.heap[W.heap.size+1]? = some (.cells z8 35 (0,0))
 hS:w.heap[W.heap.size+1+1]? = some (.cells (sumA sm) 148 (0,0))
theorem SmSt.next {W w w':World} {pc:Array Value} {sm:S_Inks} (h:SmSt W pc sm w) (hb:Below w.heap.size w w'):SmSt W pc sm w' :=
 ⟨h.below.trans (hb.mono h.below.size),keep hb h.hP,keep hb h.hO,keep hb h.hS⟩
theorem SmSt.put {W w:World} {pc:Array Value} {old new:S_Inks} {j:Nat} (h:SmSt W pc (partI old new j) w) (hj:j < 8):SmSt W pc (partI old new (j+1)) (w.setCell ⟨W.heap.size+1+1,j,none⟩ (.int .i64 (ink new j))):=by
 refine ⟨h.below.setCell (show W.heap.size≤W.heap.size+1+1 by omega) _,(Below.heap_setCell _ _ _ _ (show W.heap.size≠W.heap.size+1+1 by omega)).trans h.hP,(Below.heap_setCell _ _ _ _ (show W.heap.size+1≠W.heap.size+1+1 by omega)).trans h.hO,?_⟩
 have:=setCell_get w (W.heap.size+1+1) j (.int .i64 (ink new j)) h.hS
 rw [sumA_set old new hj] at this
 exact this
theorem three_at (W:World) (o p q:Obj):(((W.alloc o).alloc p).alloc q).heap[W.heap.size]? = some o∧(((W.alloc o).alloc p).alloc q).heap[W.heap.size+1]? = some p∧(((W.alloc o).alloc p).alloc q).heap[W.heap.size+1+1]? = some q∧Below W.heap.size W (((W.alloc o).alloc p).alloc q):=three_new W o p q
theorem four_ix (w0 w1 w2 w3:Int) (w:World):(Instr.index 146 (.agg #[.int .i64 w0,.int .i64 w1,.int .i64 w2,.int .i64 w3]) (.int .i64 0)).run Try.prog w=.ok (.int .i64 w0) w∧(Instr.index 146 (.agg #[.int .i64 w0,.int .i64 w1,.int .i64 w2,.int .i64 w3]) (.int .i64 1)).run Try.prog w=.ok (.int .i64 w1) w ∧
  (Instr.index 146 (.agg #[.int .i64 w0,.int .i64 w1,.int .i64 w2,.int .i64 w3]) (.int .i64 2)).run Try.prog w=.ok (.int .i64 w2) w∧(Instr.index 146 (.agg #[.int .i64 w0,.int .i64 w1,.int .i64 w2,.int .i64 w3]) (.int .i64 3)).run Try.prog w=.ok (.int .i64 w3) w:=by
 have h:arrTy Try.prog 146 4=true:=by kernel_rfl
 exact ⟨index_arr (i:=0) h (by decide) rfl w,index_arr (i:=1) h (by decide) rfl w,index_arr (i:=2) h (by decide) rfl w,index_arr (i:=3) h (by decide) rfl w⟩
structure TlSt (W:World) (pc:Array Value) (sm o:S_Inks) (N j:Nat) (w:World):Prop where
 st:SmSt W pc sm w
 hN:w.heap[N]? = some (.cells (part9 o j) 35 (0,0))
 lt:W.heap.size+1+1 < N
theorem TlSt.next {W w w':World} {pc:Array Value} {sm o:S_Inks} {N j:Nat} (h:TlSt W pc sm o N j w) (hb:Below w.heap.size w w'):TlSt W pc sm o N j w':=⟨h.st.next hb,keep hb h.hN,h.lt⟩
theorem TlSt.put {W w:World} {pc:Array Value} {sm o:S_Inks} {N j:Nat} (h:TlSt W pc sm o N j w) (hj:j < 8):TlSt W pc sm o N (j+1) (w.setCell ⟨N,j,none⟩ (.int .u8 (ink o j))):=by
 have hlt:=h.lt
 refine ⟨⟨h.st.below.setCell (show W.heap.size≤N by omega) _,(Below.heap_setCell _ _ _ _ (show W.heap.size≠N by omega)).trans h.st.hP,(Below.heap_setCell _ _ _ _ (show W.heap.size+1≠N by omega)).trans h.st.hO,(Below.heap_setCell _ _ _ _ (show W.heap.size+1+1≠N by omega)).trans h.st.hS⟩,?_,h.lt⟩
 have:=setCell_get w N j (.int .u8 (ink o j)) h.hN
 rw [part9_set o hj] at this
 exact this
set_option maxRecDepth 100000 in
set_option maxHeartbeats 4000000 in
theorem smooth_main (W:World) {S:Nat→Prop} (hS:∀ b,S b→b < W.heap.size) {F:Nat} {i:S_Image} {m:S_Matrix} {ic:Array Value} (hic:ic.size=12) (hrd:RCs S W (cS_Image i) (fun j=>ic[j]?) 0) {s t U V A B w0 w1 w2 w3:Int}
  (hU:wrap64 (s - 4096) / 8192=U) (hV:wrap64 (t - 4096) / 8192=V) (hA:wrap64 (wrap64 (s - 4096) - wrap64 (U * 8192))=A) (hB:wrap64 (wrap64 (t - 4096) - wrap64 (V * 8192))=B)
  (hw0:wrap64 (wrap64 (8192 - A) * wrap64 (8192 - B))=w0) (hw1:wrap64 (A * wrap64 (8192 - B))=w1) (hw2:wrap64 (wrap64 (8192 - A) * B)=w2) (hw3:wrap64 (A * B)=w3) {s0 s1 s2 s3:S_Inks×Int}
  (hs0:image_sample F i (wrap64 U) (wrap64 V)=some s0) (hs1:image_sample F i (wrap64 (U+1)) (wrap64 V)=some s1) (hs2:image_sample F i (wrap64 U) (wrap64 (V+1))=some s2) (hs3:image_sample F i (wrap64 (U+1)) (wrap64 (V+1))=some s3)
  {acc:Nat→Int} (ha0:acc 0=0) (ha1:acc 1=wrap64 (acc 0+wrap64 (w0 * wrap64 s0.2))) (ha2:acc 2=wrap64 (acc 1+wrap64 (w1 * wrap64 s1.2))) (ha3:acc 3=wrap64 (acc 2+wrap64 (w2 * wrap64 s2.2))) (ha4:acc 4=wrap64 (acc 3+wrap64 (w3 * wrap64 s3.2)))
  {sm:Nat→S_Inks} (hm0:sm 0=ink0) (hm1:sm 1=sumI w0 s0.2 (sm 0) s0.1) (hm2:sm 2=sumI w1 s1.2 (sm 1) s1.1) (hm3:sm 3=sumI w2 s2.2 (sm 2) s2.1) (hm4:sm 4=sumI w3 s3.2 (sm 3) s3.1) {z:Int} (hz:num_Near F (acc 4) 67108864=some z) {r:S_Inks×Int} (hr:(z % 256=0∧r=(ink0,0))∨(¬ z % 256=0∧r.2=z % 256∧∀ j,j < 8→∃ y,num_Near F (ink (sm 4) j) (acc 4)=some y∧ink r.1 j=y % 256)) :
  Calls Try.prog 70 #[.agg (ic++matA m),.int .i64 s,.int .i64 t] W fun e W'=>e=.returned (.tuple #[inkV r.1,.int .u8 r.2])∧Below W.heap.size W W':=by
 have HZ:=aside hz
 have HR:=aside hr
 clear hz hr
 obtain ⟨e1,e2,e3,e4⟩:=three_at W (.cells (ic++matA m) 122 (0,0)) (.cells z8 35 (0,0)) (.cells (sumA ink0) 148 (0,0))
 have hT:SmSt W (ic++matA m) ink0 _:=⟨e4,e1,e2,e3⟩
 clear e1 e2 e3 e4
 have HA0:=aside ha0
 have HA1:=aside ha1
 have HA2:=aside ha2
 have HA3:=aside ha3
 have HA4:=aside ha4
 have HM0:=aside hm0
 have HM1:=aside hm1
 have HM2:=aside hm2
 have HM3:=aside hm3
 have HM4:=aside hm4
 have HS:=aside hS
 have HRD:=aside hrd
 have HIC:=aside hic
 clear ha0 ha1 ha2 ha3 ha4 hm0 hm1 hm2 hm3 hm4 hS hrd hic
 revert hT
 generalize hpc:ic++matA m=pc
 have HPC:=aside hpc
 clear hpc
 intro hT
 have HT:=aside hT
 clear hT
 unfold z8 sumA ink0 at HT
 go_enter Try.func70,Try.ntmps70
 go_wp2
 revert HT
 generalize ((W.alloc _).alloc _).alloc _=ww
 intro HT
 go_loopg [13,57] 4 (fun g v13 v57 wx=>∃ k:Nat,g+k=4∧v57=.int .i64 (k:Int)∧v13=.int .i64 (acc k)∧SmSt W pc (sm k) wx)
 case atStart=>exact ⟨0,rfl,rfl,by rw [HA0.out],by rw [HM0.out]; exact HT.out⟩
 case round =>
  obtain ⟨k,hgk,rfl,rfl,hP⟩:=hrel
  clear HT
  by_cases hk:k < 4
  ·obtain ⟨wk,bk,ck,sk,hix,hbk,hck,hsk,hak,hmk⟩:∃ (wk bk ck:Int) (sk:S_Inks×Int),(∀ w,(Instr.index 146 (.agg #[.int .i64 w0,.int .i64 w1,.int .i64 w2,.int .i64 w3]) (.int .i64 (k:Int))).run Try.prog w=.ok (.int .i64 wk) w)∧bits BinOp.and .i64 (k:Int) 1=bk∧(k:Int) / 2=ck ∧
     image_sample F i (wrap64 (U+bk)) (wrap64 (V+ck))=some sk∧acc (k+1)=wrap64 (acc k+wrap64 (wk * wrap64 sk.2))∧sm (k+1)=sumI wk sk.2 (sm k) sk.1:=by
    obtain rfl | rfl | rfl | rfl:k=0∨k=1∨k=2∨k=3:=by omega
    ·exact ⟨w0,0,0,s0,fun w=>(four_ix w0 w1 w2 w3 w).1,by decide,by decide,by simpa using hs0,HA1.out,HM1.out⟩
    ·exact ⟨w1,1,0,s1,fun w=>(four_ix w0 w1 w2 w3 w).2.1,by decide,by decide,by simpa using hs1,HA2.out,HM2.out⟩
    ·exact ⟨w2,0,1,s2,fun w=>(four_ix w0 w1 w2 w3 w).2.2.1,by decide,by decide,by simpa using hs2,HA3.out,HM3.out⟩
    ·exact ⟨w3,1,1,s3,fun w=>(four_ix w0 w1 w2 w3 w).2.2.2,by decide,by decide,by simpa using hs3,HA4.out,HM4.out⟩
   have HP:=aside hP
   have hag:Agree S W wr:=fun b hb=>hP.below.block b (HS.out b hb)
   have hlt:∀ b,S b→b < wr.heap.size:=fun b hb=>Nat.lt_of_lt_of_le (HS.out b hb) hP.below.size
   have hL:=load_at (ty:=44) (b:=W.heap.size) (o:=0) (n:=12) (w:=wr) (cs:=ic) (by kernel_rfl) HIC.out fun j hj=>by
    rw [Nat.zero_add,cell_of hP.hP,← HPC.out,Array.getElem?_append_left (by rw [HIC.out]; exact hj)]
   have hrd:=RCs.mono (fun _ h=>h) hag _ _ _ HRD.out
   have HSM:=aside (sample_at wr hlt (F:=F) (HIC.out.trans (by rfl)) hrd hsk)
   have HAK:=aside hak
   have HMK:=aside hmk
   have hk4:(k:Int) < 4:=Int.ofNat_lt.2 hk
   have hkn:¬ (k:Int) < 0:=Int.not_lt.2 (Int.natCast_nonneg k)
   clear hrd hlt hag hP hs0 hs1 hs2 hs3 hak hmk hsk HA0 HA1 HA2 HA3 HA4 HM0 HM1 HM2 HM3 HM4 hw0 hw1 hw2 hw3 hU hV hA hB
   go_wp2_with (((with_reducible apply ld); exact hL))
   refine Calls.mono HSM.out ?_
   rintro e w' ⟨rfl,hb⟩
   clear hix hbk hck hL HSM
   have hP1:=HP.out.next hb
   clear HP
   have hst:=store_at (ty:=35) (n:=8) (by kernel_rfl) (cs:=inkA sk.1) rfl (heap_alloc_new w' (.cells z8 35 (0,0))) rfl (inkA_one _)
   have hL2:=load_whole (ty:=35) (n:=8) (by kernel_rfl) rfl (setRow_get (cs:=inkA sk.1) (heap_alloc_new w' (.cells z8 35 (0,0))))
   have hP2:SmSt W pc (sm k) ((w'.alloc (.cells z8 35 (0,0))).setRow w'.heap.size (inkA sk.1)):=hP1.next (setRow_below ((Below.refl _ _).alloc (Nat.le_refl _) _) (Nat.le_refl _))
   have HP2:=aside hP2
   clear hP1 hP2 hb
   revert hst hL2 HP2
   unfold z8 inkV
   generalize hv:inkA sk.1=vs
   intro hst hL2 HP2
   have HV:=aside hv
   clear hv
   go_wp2_with (first | ((with_reducible apply st); exact hst) | ((with_reducible apply ld); exact hL2))
   have hk1:=aside (wrap_suc hk (show 4≤4294967296 by decide))
   obtain ⟨g0,rfl⟩:=g_pos hgk hk
   clear hst hL2 hk4 hkn
   have hP2:=HP2.out
   clear HP2
   revert hP2
   generalize (w'.alloc _).setRow _ _=w2
   generalize w'.heap.size=n2
   intro hP2
   have HP2:=aside hP2
   clear hP2
   go_loopg [82] 8 (fun g v82 wx=>∃ j:Nat,g+j=8∧v82=.int .i64 (j:Int)∧SmSt W pc (partI (sm k) (sm (k+1)) j) wx)
   case atStart=>exact ⟨0,rfl,rfl,HP2.out⟩
   case round =>
    obtain ⟨j,hgj,rfl,hQ⟩:=hrel
    clear HP2
    by_cases hj:j < 8
    ·have hix:=index_arr (T:=35) (n:=8) (by kernel_rfl) (k:=.i64) hj ((congrArg (·[j]?) HV.out).symm.trans (inkA_get sk.1 hj))
     have hNc:=(cell_of hQ.hS j).trans (sumA_get (sm k) (sm (k+1)) hj)
     have hNf:=frz_of hQ.hS j
     have hQ1:=hQ.put hj
     rw [HMK.out,sumI_ink wk sk.2 (sm k) sk.1 hj,← HMK.out] at hQ1
     have HQ1:=aside hQ1
     have hwk:=wrap_suc hj (show 8≤4294967296 by decide)
     have hj8:(j:Int) < 8:=Int.ofNat_lt.2 hj
     clear hQ hQ1
     go_wp2
     obtain ⟨g',rfl⟩:=g_pos hgj hj
     go_roundg g'
     case measure=>exact Nat.lt_succ_self _
     case rel=>exact ⟨j+1,g_next hgj,by first | rfl | exact congrArg (Value.int .i64) hwk,HQ1.out⟩
    ·obtain rfl:j=8:=g_end hgj hj
     have HQ:=aside hQ
     have hwk:=hk1.out
     clear hQ
     go_wp2
     go_roundg g0
     case measure=>exact Nat.lt_succ_self _
     case rel=>exact ⟨k+1,g_next hgk,by first | rfl | exact congrArg (Value.int .i64) hwk,by rw [HAK.out],HQ.out⟩
  ·obtain rfl:k=4:=g_end hgk hk
   have HP:=aside hP
   clear hP hU hV hA hB hw0 hw1 hw2 hw3 hs0 hs1 hs2 hs3
   go_wp2_with (go_at_fn 64)
   refine (Near_at wr HZ.out).mono ?_
   rintro e w' ⟨rfl,hb⟩
   have hP1:=HP.out.next hb
   clear HP hb
   obtain ⟨hz0,rfl⟩ | ⟨hz0,hr2,ho⟩:=HR.out
   ·have hL:=load_whole (ty:=35) (n:=8) (by kernel_rfl) rfl (heap_alloc_new w' (.cells z8 35 (0,0)))
    have hO1:=(Below.heap_alloc w' (.cells z8 35 (0,0)) _ (heap_lt hP1.hO)).trans hP1.hO
    have hst:=store_at (ty:=35) (n:=8) (by kernel_rfl) (cs:=z8) rfl hO1 rfl (inkA_one ink0)
    have hbb:=setRow_below (cs:=z8) (hP1.below.alloc hP1.below.size (.cells z8 35 (0,0))) (Nat.le_succ W.heap.size)
    have hO2:=setRow_get (cs:=z8) hO1
    revert hL hst hbb hO2
    unfold z8
    intro hL hst hbb hO2
    have HB:=aside hbb
    clear hP1 hO1 hbb HR HZ
    go_wp2_with (first | ((with_reducible apply st); exact hst) | ((with_reducible apply ld); exact hL))
    exact ret_row2 6 7 35 8 (by kernel_rfl) (by kernel_rfl) rfl hO2 rfl rfl rfl ⟨rfl,HB.out⟩
   ·have hT:TlSt W pc (sm 4) r.1 w'.heap.size 0 (w'.alloc (.cells z8 35 (0,0))):=⟨hP1.next ((Below.refl _ _).alloc (Nat.le_refl _) _),heap_alloc_new _ _,heap_lt hP1.hS⟩
    have hL:=load_whole (ty:=148) (n:=8) (by kernel_rfl) rfl hT.st.hS
    have HO:=aside ho
    have HT:=aside hT
    clear ho hT hP1 HR
    revert hL HT
    unfold z8
    generalize hss:sumA (sm 4)=ss
    intro hL HT
    have HSS:=aside hss
    clear hss
    go_wp2_with (((with_reducible apply ld); exact hL))
    clear hL
    revert HT
    generalize w'.alloc _=w2
    generalize w'.heap.size=N
    intro HT
    go_loopg [107] 8 (fun g v107 wx=>∃ j:Nat,g+j=8∧v107=.int .i64 (j:Int)∧TlSt W pc (sm 4) r.1 N j wx)
    case atStart=>exact ⟨0,rfl,rfl,HT.out⟩
    case round =>
     obtain ⟨j,hgj,rfl,hQ⟩:=hrel
     clear HT
     by_cases hj:j < 8
     ·have hix:=index_arr (T:=148) (n:=8) (by kernel_rfl) (k:=.i64) hj ((congrArg (·[j]?) HSS.out).symm.trans (sumA_get' (sm 4) hj))
      obtain ⟨y,hy,hoy⟩:=HO.out j hj
      have HQ:=aside hQ
      have hwk:=wrap_suc hj (show 8≤4294967296 by decide)
      have hj8:(j:Int) < 8:=Int.ofNat_lt.2 hj
      clear hQ
      go_wp2_with (go_at_fn 64)
      refine (Near_at _ hy).mono ?_
      rintro e w3 ⟨rfl,hb⟩
      have hQ1:=HQ.out.next hb
      obtain ⟨u,hu⟩:=part9_some r.1 hj
      have hNc:=(cell_of hQ1.hN j).trans hu
      have hNf:=frz_of hQ1.hN j
      have hQ2:=hQ1.put hj
      rw [hoy] at hQ2
      have HQ2:=aside hQ2
      clear hQ1 hQ2 hb HQ hu hix
      go_wp2
      obtain ⟨g',rfl⟩:=g_pos hgj hj
      go_roundg g'
      case measure=>exact Nat.lt_succ_self _
      case rel=>exact ⟨j+1,g_next hgj,by first | rfl | exact congrArg (Value.int .i64) hwk,HQ2.out⟩
     ·obtain rfl:j=8:=g_end hgj hj
      have hL:=load_whole (ty:=35) (n:=8) (by kernel_rfl) rfl hQ.hN
      have hst:=store_at (ty:=35) (n:=8) (by kernel_rfl) (cs:=part9 r.1 8) rfl hQ.st.hO rfl (inkA_one r.1)
      have hbb:=setRow_below (cs:=part9 r.1 8) hQ.st.below (Nat.le_succ W.heap.size)
      have hO2:=setRow_get (cs:=part9 r.1 8) hQ.st.hO
      have HB:=aside hbb
      have hv:=part9_done r.1
      revert hL hst hO2 HB
      rw [hv]
      intro hL hst hO2 HB
      clear hQ hbb hv HO HZ
      generalize hvs:inkA r.1=vs at hL hst hO2 HB
      have HVS:=aside hvs
      have HR2:=aside hr2
      clear hvs hr2
      go_wp2_with (first | ((with_reducible apply st); exact hst) | ((with_reducible apply ld); exact hL))
      exact ret_row2 6 7 35 8 (by kernel_rfl) (by kernel_rfl) (by rw [← HVS.out]; rfl) hO2 rfl rfl rfl ⟨by rw [← HVS.out,HR2.out]; rfl,HB.out⟩
end Go.Vm.TopG
