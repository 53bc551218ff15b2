/-
  A row of ink vectors; the sheet's first state. 
-/
import Derived.Test.YtjjclmimifionaaRe
import Derived.Test.YtjjclmimifionaaVmB
namespace Go.Vm.TopG
open Go.Proofs
open Go.RowKit
mutual
theorem nest_at {F:Nat} {y x0 x1:Int} {n:Nat} (hs:StripOk x0 x1 n):∀ a,Mb.ok a→NestP F y x0 x1 n a
 | .fill x,_=>fun x' l he=>by cases he
 | .grp x l,h=>by
  have hc:=cover_at (F:=F) (y:=y) hs (.grp x l) h
  unfold Mb.ok at h
  exact nested48_at hs (paint32_at hs (nests_at hs l h.2)) hc
theorem nests_at {F:Nat} {y x0 x1:Int} {n:Nat} (hs:StripOk x0 x1 n):∀ l,Mb.oks l→∀ a∈l,NestP F y x0 x1 n a
 | [],_=>fun a h=>by cases h
 | b :: l,h=>by
  unfold Mb.oks at h
  have h1:=nest_at (F:=F) (y:=y) hs b h.1
  have h2:=nests_at (F:=F) (y:=y) hs l h.2
  intro a ha
  rcases List.mem_cons.1 ha with rfl | ha
  ·exact h1
  ·exact h2 a ha
end
theorem paints_at {F:Nat} {y x0 x1:Int} {n:Nat} (hs:StripOk x0 x1 n) {l:List Mb} (h:Mb.oks l):PaintP F y x0 x1 n l:=paint32_at hs (nests_at hs l h)
def paper:S_State:=⟨255,ink0⟩
def kL (r:List S_Inks):List Value:=r.flatMap fun v=>(inkA v).toList
theorem inkA_len (v:S_Inks):(inkA v).toList.length=8:=rfl
theorem kL_cons (s:S_Inks) (st:List S_Inks):kL (s :: st)=(inkA s).toList++kL st:=rfl
theorem kL_app (a b:List S_Inks):kL (a++b)=kL a++kL b:=by simp [kL]
theorem kL_len:∀ st:List S_Inks,(kL st).length=st.length * 8
 | []=>rfl
 | s :: st=>by rw [kL_cons,List.length_append,kL_len st,inkA_len,List.length_cons]; omega
theorem k_split {st:List S_Inks} {i:Nat} {s:S_Inks} (h:st[i]? = some s):st=st.take i++s :: st.drop (i+1):=by
 obtain ⟨hi,rfl⟩:=List.getElem?_eq_some_iff.1 h
 rw [← List.drop_eq_getElem_cons hi,List.take_append_drop]
theorem kL_get {st:List S_Inks} {i:Nat} {s:S_Inks} (h:st[i]? = some s) {j:Nat} (hj:j < 8):(kL st)[i * 8+j]? = (inkA s)[j]? := by
 have hi:=(List.getElem?_eq_some_iff.1 h).1
 have hl:(kL (st.take i)).length=i * 8:=by rw [kL_len,List.length_take_of_le (Nat.le_of_lt hi)]
 have:kL st=kL (st.take i)++((inkA s).toList++kL (st.drop (i+1))):=by
  rw [← kL_cons,← kL_app,← k_split h]
 rw [this,List.getElem?_append_right (by omega),hl,Nat.add_sub_cancel_left,List.getElem?_append_left (by rw [inkA_len]; exact hj)]
 simp
theorem cut_cells (v:S_Inks) {k:Nat} (hk:k≤8):(inkA v).toList.take k++(inkA ink0).toList.drop k=(inkA (inkCut v k)).toList:=by
 obtain rfl | rfl | rfl | rfl | rfl | rfl | rfl | rfl | rfl:k=0∨k=1∨k=2∨k=3∨k=4∨k=5∨k=6∨k=7∨k=8:=by omega
 all_goals rfl
/-- The first k cells of one that was nought. -/
theorem kL_cut {st:List S_Inks} {i:Nat} (h:st[i]? = some ink0) (v:S_Inks) {k:Nat} (hk:k≤8):(kL st).take (i * 8)++(inkA v).toList.take k++(kL st).drop (i * 8+k)=kL (st.set i (inkCut v k)):=by
 have hi:=(List.getElem?_eq_some_iff.1 h).1
 have hl:(kL (st.take i)).length=i * 8:=by rw [kL_len,List.length_take_of_le (Nat.le_of_lt hi)]
 have e1:kL st=kL (st.take i)++((inkA ink0).toList++kL (st.drop (i+1))):=by
  rw [← kL_cons,← kL_app,← k_split h]
 have e2:st.set i (inkCut v k)=st.take i++inkCut v k :: st.drop (i+1):=by rw [List.set_eq_take_append_cons_drop,if_pos hi]
 rw [e2,kL_app,kL_cons,← cut_cells v hk,e1,← hl]
 rw [List.take_left,List.drop_length_add_append,List.drop_append_of_le_length (by rw [inkA_len]; exact hk)]
 simp [List.append_assoc]
def InkAt (w:World) (b:Nat) (r:List S_Inks):Prop:=w.heap[b]? = some (.cells (kL r).toArray 35 (0,0))
theorem InkAt.load {w:World} {b:Nat} {r:List S_Inks} (h:InkAt w b r) {i:Nat} {s:S_Inks} (hs:r[i]? = some s):(Instr.loadAt 35 (.pointer (some ⟨b,i * 8,none⟩))).run Try.prog w=.ok (inkV s) w :=
 load_at (ty:=35) (n:=8) (by kernel_rfl) rfl fun j hj=>by
  rw [cell_of h,List.getElem?_toArray]
  exact kL_get hs hj
theorem info35:(Try.prog.info? 35).map (fun i=>(i.zero,i.size,i.bytes))=some (some (inkV ink0),8,8):=by kernel_rfl
set_option maxRecDepth 100000 in
theorem mk_inks {n:Nat} (hn:n≤1000000000) (w:World):(Instr.makeSlice 39 (.int .i64 (n:Int)) (.int .i64 (n:Int))).run Try.prog w=.ok (.slice (some ⟨w.heap.size,0,none⟩) n n) (w.alloc (.cells (kL (List.replicate n ink0)).toArray 35 (0,0))):=by
 obtain ⟨i,hq,h2⟩:=Option.map_eq_some_iff.1 info35
 simp only [Prod.mk.injEq] at h2
 obtain ⟨hz,hs,hb⟩:=h2
 have:=run_make (P:=Try.prog) w 39 35 i (inkV ink0) (by kernel_rfl) hq hz .i64 .i64 (n:Int) (n:Int) (by omega) (Int.le_refl _) (by rw [hb]; omega) (by omega)
 rw [this,Int.toNat_natCast,hs]
 congr 4
 apply Array.ext
 ·simp [size_madeCells,kL_len]
 ·intro j h1 h2
  have hj:j < n * 8:=by simpa [size_madeCells] using h1
  have hg:=kL_get (st:=List.replicate n ink0) (i:=j / 8) (s:=ink0) (by rw [List.getElem?_replicate,if_pos (by omega)]) (j:=j % 8) (Nat.mod_lt _ (by decide))
  rw [Nat.div_add_mod' j 8] at hg
  have h3:(kL (List.replicate n ink0)).toArray[j]? = (inkA ink0)[j % 8]? := by rw [List.getElem?_toArray]; exact hg
  have h4:(madeCells (inkV ink0).cells (n * 8))[j]? = (inkA ink0)[j % 8]? := by
   have h9:j % 8 < (inkA ink0).size:=Nat.mod_lt _ (by decide)
   have e9:(inkA ink0).size=8:=rfl
   simp only [madeCells,inkV,Value.cells,e9,Array.getElem?_map,Array.getElem?_range,hj,if_pos,Option.map_some]
   rw [Array.getElem?_eq_getElem h9,getElem!_pos (inkA ink0) (j % 8) h9]
  rw [Array.getElem?_eq_getElem h2] at h3
  rw [Array.getElem?_eq_getElem h1] at h4
  exact Option.some.inj (h4.trans h3.symm)
theorem info5:(Try.prog.info? 5).map (fun i=>i.size)=some 1:=by kernel_rfl
/-- The inks of a state,copied into a row. -/
theorem copy_inks {w:World} {rb b i k:Nat} {r:List S_Inks} {s:S_State} (hr:InkAt w rb r) (hi:r[i]? = some ink0) (hs:w.heap[b]? = some (.cells (stA s) 83 (0,0))) (hk:k≤8) (ty:TypeId):∃ v w',(Builtin.copy_ #[40,40] ty #[.slice (some ⟨rb,i * 8,none⟩) k 8,.slice (some ⟨b,1,none⟩) k 8]).run Try.prog w=.ok v w'∧InkAt w' rb (r.set i (inkCut s.f1 k))∧Chg (·=rb) w w':=by
 obtain ⟨i5,hq,h2⟩:=Option.map_eq_some_iff.1 info5
 have hil:=(List.getElem?_eq_some_iff.1 hi).1
 have hl:((inkA s.f1).toList.take k).length=k:=by rw [List.length_take_of_le (by rw [inkA_len]; exact hk)]
 have:=run_copy_fz (P:=Try.prog) w 40 40 ty 5 rb (i * 8) k 8 ⟨b,1,none⟩ k 8 _ 35 (0,0) ((inkA s.f1).toList.take k) (by kernel_rfl) hq h2 hr (fun k _=>by simp) (by rw [hl]; exact (Nat.min_self k).symm) (fun j v hv=>by
   have hj:j < k:=by have:=(List.getElem?_eq_some_iff.1 hv).1; omega
   rw [List.getElem?_take_of_lt hj] at hv
   have e:(Addr.add ⟨b,1,none⟩ j)=⟨b,1+j,none⟩:=by cases j <;> simp [Addr.add]
   rw [e,cell_of hs]
   have hj8:j < 8:=by omega
   obtain rfl | rfl | rfl | rfl | rfl | rfl | rfl | rfl:j=0∨j=1∨j=2∨j=3∨j=4∨j=5∨j=6∨j=7:=by omega
   all_goals exact hv) (by rw [hl]; simp [kL_len]; omega) (fun v hv=>(Array.all_eq_true_iff_forall_mem.1 (inkA_one s.f1)) v (by simpa using List.mem_of_mem_take hv))
 refine ⟨_,_,this,?_,?_⟩
 ·refine (setRow_get hr).trans ?_
  rw [hl,List.toList_toArray,kL_cut hi s.f1 hk]
 ·exact ⟨rfl,rfl,rfl,by rw [size_setRow]; exact Nat.le_refl _,fun k _ hk=>setRow_other hk⟩
set_option maxRecDepth 100000 in
set_option maxHeartbeats 4000000 in
theorem Paper_at (W:World):Calls Try.prog 31 #[] W fun e W'=>e=.returned (stV paper)∧Below W.heap.size W W':=by
 go_enter Try.func31,Try.ntmps31
 go_wp2
 exact ret_row 0 83 9 (cs:=stA paper) (by kernel_rfl) (by kernel_rfl) rfl (heap_alloc_new W _) rfl rfl ⟨rfl,(Below.refl W.heap.size W).alloc (Nat.le_refl _) _⟩
end Go.Vm.TopG
namespace Go.Vm.TopG
open Go.Proofs
open Go.RowKit
theorem PageAt.mono {F:Nat} {D:Nat→Prop} {w w':World} {b:Nat} {l:List Mb} (hs:w.heap.size≤w'.heap.size) (ha:Agree D w w') (h2:∀ b,D b→b < w'.heap.size) (h:PageAt F D w b l):PageAt F D w' b l:=by
 obtain ⟨xs,a,mx,ms,vs,h0,h1,h3,h4⟩:=h
 exact ⟨xs,a,mx,ms,vs,h0,⟨(ha b h0).trans h1.blk,h1.size,RCs.mono (fun _ h=>h) ha _ _ _ h1.rd⟩,h3.mono ha fun _ h=>h,MbsAt.mono hs ha (fun _ h=>h) h2 _ _ h4⟩
/-- What has become of the states at first. -/
def PapI (n i:Nat) (ss:List S_State):Prop:=ss.length=n∧ss.take i=List.replicate i paper
theorem PapI.step {n i:Nat} {ss:List S_State} (h:PapI n i ss) (hi:i < n):PapI n (i+1) (ss.set i paper):=by
 refine ⟨by rw [List.length_set]; exact h.1,?_⟩
 rw [List.set_eq_take_append_cons_drop,if_pos (by rw [h.1]; exact hi),List.take_append,h.2,List.length_replicate,List.take_of_length_le (by simp)]
 rw [show i+1 - i=1 by omega]
 simp [List.replicate_succ']
theorem PapI.end_ {n:Nat} {ss:List S_State} (h:PapI n n ss):ss=List.replicate n paper:=by
 rw [← h.2,List.take_of_length_le (by rw [h.1]; exact Nat.le_refl _)]
/-- .. and of the vectors. -/
def VecI (st:List S_State) (k n i:Nat) (r:List S_Inks):Prop:=r.length=n∧r.take i=(st.take i).map (fun s=>inkCut s.f1 k)∧∀ j,i≤j→j < n→r[j]? = some ink0
theorem VecI.step {st:List S_State} {k n i:Nat} {r:List S_Inks} (h:VecI st k n i r) (hi:i < n) {s:S_State} (hs:st[i]? = some s):VecI st k n (i+1) (r.set i (inkCut s.f1 k)):=by
 obtain ⟨h1,h2,h3⟩:=h
 have hl:st.take (i+1)=st.take i++[s]:=by
  obtain ⟨hlt,rfl⟩:=List.getElem?_eq_some_iff.1 hs
  rw [List.take_succ_eq_append_getElem hlt]
 refine ⟨by rw [List.length_set]; exact h1,?_,fun j hj hjn=>?_⟩
 ·rw [List.set_eq_take_append_cons_drop,if_pos (by rw [h1]; exact hi),List.take_append,h2,hl,List.take_of_length_le (by simp; omega)]
  have:i+1 - (List.map (fun s=>inkCut s.f1 k) (st.take i)).length=1:=by
   have:=(List.getElem?_eq_some_iff.1 hs).1
   rw [List.length_map,List.length_take_of_le (by omega)]; omega
  rw [this]
  simp
 ·rw [List.getElem?_set_ne (by omega)]
  exact h3 j (by omega) hjn
theorem VecI.end_ {st:List S_State} {k n:Nat} {r:List S_Inks} (h:VecI st k n n r) (hs:st.length=n):r=st.map fun s=>inkCut s.f1 k:=by
 have h2:=h.2.1
 rw [List.take_of_length_le (by rw [h.1]; exact Nat.le_refl _),List.take_of_length_le (by omega)] at h2
 exact h2
set_option maxRecDepth 100000 in
set_option maxHeartbeats 4000000 in
theorem row_at (W:World) {F:Nat} {D:Nat→Prop} (hD:∀ b,D b→b < W.heap.size) {y x0 x1:Int} {n:Nat} (hs:StripOk x0 x1 n) {p k:Nat} (hk:k≤8) {ms:List Mb} (hp:PageAt F D W p ms) (hlen:ms.length≤1000000) (hok:Mb.oks ms) {r:List S_Inks} (h:rowF F ms k y x0 x1=some r) :
  Calls Try.prog 17 #[.agg #[ptr p,.int .i64 (k:Int)],.int .i64 y,.int .i64 x0,.int .i64 x1] W fun e W'=>∃ rb,e=.returned (.slice (some ⟨rb,0,none⟩) n n)∧Below W.heap.size W W'∧InkAt W' rb r∧W.heap.size≤rb∧r.length=n:=by
 unfold rowF at h
 obtain ⟨st,hst,h⟩:=call_ok h
 cases h
 have hn9:n≤1000000000:=by have:=hs.h0; have:=hs.h1; have:=hs.hx; omega
 have hw:wrap64 (x1 - x0)=(n:Int):=by rw [hs.hx]; exact wrap_nat (by omega)
 have hxn:(x1 - x0).toNat=n:=by rw [hs.hx,Int.toNat_natCast]
 rw [hxn] at hst
 have e1:=heap_alloc_new W (.cells #[ptr p,.int .i64 (k:Int)] 59 (0,0))
 have hb1:=(Below.refl W.heap.size W).alloc (Nat.le_refl _) (.cells #[ptr p,.int .i64 (k:Int)] 59 (0,0))
 have hms:=mk_states hn9 (W.alloc (.cells #[ptr p,.int .i64 (k:Int)] 59 (0,0)))
 have e2:=heap_alloc_new (W.alloc (.cells #[ptr p,.int .i64 (k:Int)] 59 (0,0))) (.cells (stL (List.replicate n state0)).toArray 83 (0,0))
 have hb2:=hb1.alloc hb1.size (.cells (stL (List.replicate n state0)).toArray 83 (0,0))
 have e1':=keep ((Below.refl _ _).alloc (Nat.le_refl _) (.cells (stL (List.replicate n state0)).toArray 83 (0,0))) e1
 rw [World.size_alloc] at hms e2
 unfold ptr at e1 e1' hb1 hms e2 hb2 ⊢
 have HE:=aside (And.intro e1' (And.intro e2 hb2))
 have HA:=aside (And.intro hD (And.intro hs (And.intro hk (And.intro hp (And.intro hlen (And.intro hok hn9))))))
 have HST:=aside hst
 clear e1 e1' hb1 e2 hb2 hD hs hk hp hlen hok hst hn9 hxn
 go_enter Try.func17,Try.ntmps17
 go_wp2
 clear hw hms
 have hslW:W.heap.size+1 < ((W.alloc (.cells #[.pointer (some ⟨p,0,none⟩),.int .i64 (k:Int)] 59 (0,0))).alloc (.cells (stL (List.replicate n state0)).toArray 83 (0,0))).heap.size:=heap_lt HE.out.2.1
 revert HE
 generalize (W.alloc (.cells #[.pointer (some ⟨p,0,none⟩),.int .i64 (k:Int)] 59 (0,0))).alloc (.cells (stL (List.replicate n state0)).toArray 83 (0,0))=W1 at hslW ⊢
 intro HE
 go_loopg [20] n (fun m v20 wx=>∃ (i:Nat) (ss:List S_State),v20=.int .i64 (i:Int)∧n≤m+i∧i≤n∧PapI n i ss∧StAt wx (W.heap.size+1) ss∧Chg (·=W.heap.size+1) W1 wx)
 case atStart=>exact ⟨0,List.replicate n state0,rfl,Nat.le_add_right _ _,Nat.zero_le _,⟨by simp,by simp⟩,⟨[],83,by simpa using HE.out.2.1⟩,Chg.refl _ _⟩
 case round =>
  obtain ⟨i,ss,rfl,hgi,hin,hN,hS,hC⟩:=hrel
  have HGI:=aside hgi
  have HIN:=aside hin
  have HNI:=aside hN
  have HS:=aside hS
  have HCG:=aside hC
  clear hgi hin hN hS hC
  by_cases hil:i < n
  ·have hil':(i:Int) < (n:Int):=Int.ofNat_lt.2 hil
   have hi0:(0:Int)≤(i:Int):=Int.natCast_nonneg _
   have HIL:=aside hil
   have HWK:=aside (wrap_suc hil (Nat.le_trans HA.out.2.2.2.2.2.2 (by decide)))
   go_wp2_with (go_at_fn 31)
   refine (Paper_at wr).mono ?_
   rintro e w1 ⟨rfl,hb⟩
   obtain ⟨w2,f1,f2,f3⟩:=(HS.out.keep' (hb.block _ HS.out.lt)).store (i:=i) (by rw [HNI.out.1]; exact hil) paper
   have HFF:=aside (And.intro f2 (HCG.out.trans ((Chg.of hb).trans f3)))
   clear f2 f3 hb
   go_wp2_with ((with_reducible apply Go.Vm.st (ty:=83)); exact f1)
   clear f1
   obtain ⟨g0,rfl⟩:∃ g0,gk=g0+1:=⟨gk - 1,by have:=HGI.out; omega⟩
   go_roundg g0
   case measure=>exact Nat.lt_succ_self _
   case rel=>exact ⟨i+1,_,by rw [HWK.out],by have:=HGI.out; omega,HIL.out,HNI.out.step HIL.out,HFF.out.1,HFF.out.2⟩
  ·have hil':¬ (i:Int) < (n:Int):=fun h=>hil (Int.ofNat_lt.1 h)
   obtain rfl:i=n:=by have:=HIN.out; omega
   have hpe:=HNI.out.end_
   have hS:=HS.out
   rw [hpe] at hS
   have HS2:=aside hS
   clear hS hpe hil HGI HIN HNI HS
   have hbR:Below W.heap.size W wr:=HE.out.2.2.trans (HCG.out.below (Nat.le_succ _) HE.out.2.2.size)
   have hbx:=HCG.out.keep (by omega) HE.out.1
   have hc0:=cell_of hbx 0
   have hag:Agree D W wr:=fun b hb=>hbR.block b (HA.out.1 b hb)
   have hlt:∀ b,D b→b < wr.heap.size:=fun b hb=>Nat.lt_of_lt_of_le (HA.out.1 b hb) hbR.size
   obtain ⟨xs,a,mx,mss,vs,p0,p1,p3,p4⟩:=HA.out.2.2.2.1.mono hbR.size hag hlt
   have HPT:=aside (paints_at HA.out.2.1 HA.out.2.2.2.2.2.1 wr D hlt (W.heap.size+1) i p item0 xs a mx mss vs _ st HS2.out (by simp) (fun hd=>by have:=HA.out.1 _ hd; omega) p0 p1 p3 p4 HA.out.2.2.2.2.1 HA.out.2.2.2.2.2.1 HST.out)
   unfold ptr stripA at HPT
   have HR:=aside (And.intro hbR hbx)
   clear hbR hbx hag hlt p0 p1 p3 p4
   go_wp2_with (go_at_fn 32)
   refine HPT.out.mono ?_
   rintro e w2 ⟨rfl,k1,k2,k3⟩
   have hmi:=mk_inks HA.out.2.2.2.2.2.2 w2
   have hbI:=(Below.refl w2.heap.size w2).alloc (Nat.le_refl _) (.cells (kL (List.replicate i ink0)).toArray 35 (0,0))
   have hI:=heap_alloc_new w2 (.cells (kL (List.replicate i ink0)).toArray 35 (0,0))
   have hB2:Below W.heap.size W w2:=HR.out.1.trans (k1.below (Nat.le_succ _) HR.out.1.size)
   have HW3:=aside (show Below W.heap.size W (w2.alloc (.cells (kL (List.replicate i ink0)).toArray 35 (0,0)))∧(w2.alloc (.cells (kL (List.replicate i ink0)).toArray 35 (0,0))).heap[W.heap.size]? = some (.cells #[.pointer (some ⟨p,0,none⟩),.int .i64 (k:Int)] 59 (0,0))∧StAt (w2.alloc (.cells (kL (List.replicate i ink0)).toArray 35 (0,0))) (W.heap.size+1) st∧InkAt (w2.alloc (.cells (kL (List.replicate i ink0)).toArray 35 (0,0))) w2.heap.size (List.replicate i ink0)∧st.length=i∧W.heap.size+1 < w2.heap.size from
    ⟨hB2.trans (hbI.mono hB2.size),keep hbI (k1.keep (by omega) HR.out.2),k2.keep' (hbI.block _ k2.lt),hI,k3,k2.lt⟩)
   clear hbI hI hB2 k1 k2 k3 hc0 HPT HS2
   revert hmi HW3
   generalize hrb:w2.heap.size=rb
   generalize w2.alloc (.cells (kL (List.replicate i ink0)).toArray 35 (0,0))=W3
   intro hmi HW3
   go_wp2
   clear hmi
   go_loopg [41] i (fun m v41 wx=>∃ (j:Nat) (rr:List S_Inks),v41=.int .i64 (j:Int)∧i≤m+j∧j≤i∧VecI st k i j rr∧InkAt wx rb rr∧Chg (·=rb) W3 wx)
   case atStart=>exact ⟨0,List.replicate i ink0,rfl,Nat.le_add_right _ _,Nat.zero_le _,⟨by simp,by simp,fun j _ hj=>by rw [List.getElem?_replicate,if_pos hj]⟩,HW3.out.2.2.2.1,Chg.refl _ _⟩
   case round =>
    obtain ⟨j,rr,rfl,hgi,hin,hN,hS,hC⟩:=hrel
    have HGI:=aside hgi
    have HIN:=aside hin
    have HNI:=aside hN
    have HS:=aside hS
    have HCH:=aside hC
    clear hgi hin hN hS hC
    by_cases hjl:j < i
    ·have hil':(j:Int) < (i:Int):=Int.ofNat_lt.2 hjl
     have hi0:(0:Int)≤(j:Int):=Int.natCast_nonneg _
     have hk0:(0:Int)≤(k:Int):=Int.natCast_nonneg _
     have hk8:(k:Int)≤8:=by have:=HA.out.2.2.1; omega
     have HIL:=aside hjl
     have HWK:=aside (wrap_suc hjl (Nat.le_trans HA.out.2.2.2.2.2.2 (by decide)))
     obtain ⟨s,hsx⟩:∃ s,st[j]? = some s:=⟨_,List.getElem?_eq_getElem (by rw [HW3.out.2.2.2.2.1]; exact hjl)⟩
     have HSX:=aside hsx
     have hst:=HW3.out.2.2.1.keep' (HCH.out.block _ HW3.out.2.2.1.lt (by have:=HW3.out.2.2.2.2.2; omega))
     have hld:=hst.load hsx
     have hbox:=HCH.out.keep (by have:=HW3.out.2.2.2.2.2; omega) HW3.out.2.1
     have hst2:=store_at (ty:=83) (n:=9) (by kernel_rfl) (cs:=stA s) rfl (heap_alloc_new wr (.cells (stA state0) 83 (0,0))) rfl (stA_one _)
     have hbA:=setRow_below (cs:=stA s) ((Below.refl wr.heap.size wr).alloc (Nat.le_refl _) (.cells (stA state0) 83 (0,0))) (Nat.le_refl _)
     have hnA:=setRow_get (cs:=stA s) (heap_alloc_new wr (.cells (stA state0) 83 (0,0)))
     have HBX:=aside (And.intro hbA (And.intro hnA hbox))
     clear hbA hnA hbox hst hsx hjl
     revert hst2 HBX
     generalize hwA:(wr.alloc (.cells (stA state0) 83 (0,0))).setRow wr.heap.size (stA s)=wA
     intro hst2 HBX
     have hZ:stA state0=#[.int .u8 0,.int .u8 0,.int .u8 0,.int .u8 0,.int .u8 0,.int .u8 0,.int .u8 0,.int .u8 0,.int .u8 0]:=rfl
     rw [hZ] at hst2
     unfold stV at hld
     generalize hcs:stA s=cs at hst2 hld
     have HCS:=aside hcs
     clear hcs hwA hZ
     go_wp2_with (first | ((with_reducible apply ld (ty:=83)); exact hld) | ((with_reducible apply Go.Vm.st (ty:=83)); exact hst2) | with_reducible apply halt_region 12)
     obtain ⟨hbA,hnA,hbox⟩:=HBX.out
     refine wp_region_ord [(0,4),(1,4),(2,4),(3,4),(4,0),(5,4),(6,4),(7,4),(8,0),(9,4),(10,2)] 8 (fun w=>Below wA.heap.size wA w) (by kernel_rfl) (by kernel_rfl) (Below.refl _ _).drew ?_
     iterate 2 (refine Ord.still _ rfl rfl (fun w=>by go_simp; rfl) ?_; go_simp)
     refine Ord.still (.pointer (some ⟨rb,j * 8,none⟩)) rfl rfl (fun w=>by go_simp) ?_
     go_simp
     refine Ord.still _ rfl rfl (fun w=>by go_simp; rfl) ?_
     go_simp
     have hlb:=fun w (hw:Below wA.heap.size wA w)=>load_one (ty:=3) (by kernel_rfl) (cell_of (keep (hbA.trans (hw.mono hbA.size)) hbox) 1)
     refine Ord.pure (.int .i64 (k:Int)) rfl rfl (fun w hw=>ex_load rfl (hlb w hw)) ?_
     go_simp
     refine Ord.still (.slice (some ⟨rb,j * 8,none⟩) k 8) rfl rfl (fun w=>by go_simp) ?_
     go_simp
     iterate 2 (refine Ord.still _ rfl rfl (fun w=>by go_simp; rfl) ?_; go_simp)
     refine Ord.pure (.int .i64 (k:Int)) rfl rfl (fun w hw=>ex_load rfl (hlb w hw)) ?_
     go_simp
     refine Ord.still (.slice (some ⟨wr.heap.size,1,none⟩) k 8) rfl rfl (fun w=>by go_simp) ?_
     go_simp
     refine Ord.eff (fun _=>True) (fun _ w'=>InkAt w' rb (rr.set j (inkCut s.f1 k))∧Chg (·=rb) wr w') (by decide) rfl rfl (fun w hw=>?_) (fun h=>by cases h) ?_
     ·have hB:=hbA.trans (hw.mono hbA.size)
      have hin:InkAt w rb rr:=(hB.block _ (heap_lt HS.out)).trans HS.out
      obtain ⟨v,w',f1,f2,f3⟩:=copy_inks hin (HNI.out.2.2 j (Nat.le_refl _) HIL.out) (keep hw hnA) HA.out.2.2.1 3
      exact .value v (ex_copy rfl f1) ⟨trivial,f2,(Chg.of hB).trans f3⟩
     rintro u - w' ⟨k1,k2⟩
     have HFF:=aside (And.intro k1 (HCH.out.trans k2))
     clear k1 k2 hbA hnA hbox hlb
     go_wp2
     obtain ⟨g0,rfl⟩:∃ g0,gk=g0+1:=⟨gk - 1,by have:=HGI.out; omega⟩
     go_roundg g0
     case measure=>exact Nat.lt_succ_self _
     case rel=>exact ⟨j+1,_,by rw [HWK.out],by have:=HGI.out; omega,HIL.out,HNI.out.step HIL.out HSX.out,HFF.out.1,HFF.out.2⟩
    ·have hil':¬ (j:Int) < (i:Int):=fun h=>hjl (Int.ofNat_lt.1 h)
     obtain rfl:j=i:=by have:=HIN.out; omega
     have hve:=HNI.out.end_ HW3.out.2.2.2.2.1
     have hl:=HNI.out.1
     clear hjl
     go_wp2
     go_ret
     exact ⟨rb,rfl,HW3.out.1.trans (HCH.out.below (by have:=HW3.out.2.2.2.2.2; omega) HW3.out.1.size),hve ▸ HS.out,by have:=HW3.out.2.2.2.2.2; omega,by have:=HW3.out.2.2.2.2.1; simpa using this⟩
end Go.Vm.TopG
namespace Go.Vm.TopG
open Go.Proofs
open Go.RowKit
theorem oks_snoc:∀ {l:List Mb} {a:Mb},Mb.oks l→Mb.ok a→Mb.oks (l++[a])
 | [],a,_,h=>by simp only [List.nil_append,Mb.oks]; exact ⟨h,trivial⟩
 | b :: l,a,h,ha=>by
  simp only [List.cons_append,Mb.oks] at h ⊢
  exact ⟨h.1,oks_snoc h.2 ha⟩
/-- The open groups' members,behind i items. -/
def StkOk (i:Nat) (st:List (S_Item×List Mb)):Prop:=∀ p∈st,Mb.oks p.2∧p.2.length≤i
theorem stk_ok {F:Nat}:∀ (l:List S_Item) (i:Nat) (st z:List (S_Item×List Mb)),l.all (itemOk F)=true→i+l.length≤1000000→StkOk i st→treeF l st=some z→StkOk 1000000 z
  | [],i,st,z,_,hi,hs,h=>by
    unfold treeF at h
    cases h
    exact fun p hp=>⟨(hs p hp).1,by have:=(hs p hp).2; simp at hi; omega⟩
  | x :: l,i,st,z,ha,hi,hs,h=>by
    unfold treeF at h
    obtain ⟨s2,h1,h2⟩:=call_ok h
    simp only [List.all_cons,Bool.and_eq_true] at ha
    simp only [List.length_cons] at hi
    refine stk_ok l (i+1) s2 z ha.2 (by omega) ?_ h2
    unfold treeStep at h1
    match st,hs,h1 with
    | [],_,h1=>cases h1
    | (g,m) :: r,hs,h1 =>
      have hg:=hs (g,m) (List.mem_cons_self ..)
      have hr:∀ p∈r,Mb.oks p.2∧p.2.length≤i:=fun p hp=>hs p (List.mem_cons_of_mem _ hp)
      simp only at h1
      by_cases h0:x.f0=0
      · rw [show (x.f0 == 0)=true by simpa using h0,cond_true] at h1
        cases h1
        intro p hp
        rcases List.mem_cons.1 hp with rfl | hp
        · refine ⟨oks_snoc hg.1 ?_,by simp; have:=hg.2; simp at this; omega⟩
          have:=ha.1
          unfold itemOk at this
          simp only [Bool.and_eq_true,decide_eq_true_eq] at this
          unfold Mb.ok
          exact this.1.1.1.1
        · exact ⟨(hr p hp).1,Nat.le_succ_of_le (hr p hp).2⟩
      · rw [show (x.f0 == 0)=false by simpa using h0,cond_false] at h1
        by_cases h3:x.f0=1
        · rw [show (x.f0 == 1)=true by simpa using h3,cond_true] at h1
          cases h1
          intro p hp
          rcases List.mem_cons.1 hp with rfl | hp
          · exact ⟨trivial,Nat.zero_le _⟩
          · exact ⟨(hs p hp).1,Nat.le_succ_of_le (hs p hp).2⟩
        · rw [show (x.f0 == 1)=false by simpa using h3,cond_false] at h1
          match r,hr,h1 with
          | [],_,h1=>cases h1
          | (k,n) :: r,hr,h1 =>
            cases h1
            intro p hp
            have hk:=hr (k,n) (List.mem_cons_self ..)
            rcases List.mem_cons.1 hp with rfl | hp
            · refine ⟨oks_snoc hk.1 ?_,by simp; have:=hk.2; simp at this; omega⟩
              unfold Mb.ok
              exact ⟨by have:=hg.2; simp at this; omega,hg.1⟩
            · exact ⟨(hr p (List.mem_cons_of_mem _ hp)).1,Nat.le_succ_of_le (hr p (List.mem_cons_of_mem _ hp)).2⟩
theorem call30:Callable Try.prog 30:=⟨_,Try.func30,by kernel_rfl,by kernel_rfl⟩
set_option maxRecDepth 100000 in
set_option maxHeartbeats 4000000 in
theorem of_at (W:World) {S:Nat→Prop} (hS:∀ b,S b→b < W.heap.size) {F:Nat} {a b:Int} {names:List (List UInt8)} {l:List S_Item} {u2 u3:Value} (hu2:RD S W (.sl 1 (names.map cS)) u2) (hu:RD S W (.sl 34 (l.map cS_Item)) u3) (hok:l.all (itemOk F)=true) (hlen:l.length≤1000000) {ms:List Mb} {x0:S_Item} (ht:treeF l [(item0,[])]=some [(x0,ms)]) :
  Calls Try.prog 16 #[.agg #[.int .i64 a,.int .i64 b,u2,u3]] W fun e W'=>∃ p D,e=.returned (.agg #[ptr p,.int .i64 (names.length:Int)])∧Below W.heap.size W W'∧PageAt F D W' p ms∧(∀ x,D x→x < W'.heap.size):=by
 obtain ⟨q2,c2,rfl⟩:=rd_slice hu2
 obtain ⟨q3,c3,rfl⟩:=rd_slice hu
 have hl2:(names.map cS).length=names.length:=List.length_map ..
 have hl3:(l.map cS_Item).length=l.length:=List.length_map ..
 obtain ⟨e1,e2,e3⟩:=two_at W (.cells #[.int .i64 a,.int .i64 b,.slice q2 names.length c2,.slice q3 l.length c3] 25 (0,0)) (.cells #[.pointer none,.int .i64 0] 59 (0,0))
 have HE:=aside (And.intro e1 (And.intro e2 e3))
 have HA:=aside (And.intro hS (And.intro hu (And.intro hok (And.intro hlen ht))))
 clear e1 e2 e3 hl2 hl3 hS hu hu2 hok hlen ht
 go_enter Try.func16,Try.ntmps16
 go_wp2_with (with_reducible apply halt_region 1)
 have hsz:((W.alloc (.cells #[.int .i64 a,.int .i64 b,.slice q2 names.length c2,.slice q3 l.length c3] 25 (0,0))).alloc (.cells #[.pointer none,.int .i64 0] 59 (0,0))).heap.size=W.heap.size+1+1:=by rw [World.size_alloc,World.size_alloc]
 have HSZ:=aside hsz
 clear hsz
 revert HE HSZ
 generalize (W.alloc (.cells #[.int .i64 a,.int .i64 b,.slice q2 names.length c2,.slice q3 l.length c3] 25 (0,0))).alloc (.cells #[.pointer none,.int .i64 0] 59 (0,0))=W1
 intro HE HSZ
 refine wp_region_ord [(0,0),(2,4),(3,0),(4,4),(1,1),(5,4),(6,2)] 8 (fun w=>Below W1.heap.size W1 w) (by kernel_rfl) (by kernel_rfl) (Below.refl _ _).drew ?_
 refine Ord.pure (.agg #[.int .i64 a,.int .i64 b,.slice q2 names.length c2,.slice q3 l.length c3]) rfl rfl (fun w hw=>ex_load rfl (load_whole (ty:=25) (n:=4) (by kernel_rfl) rfl (keep hw HE.out.1))) ?_
 go_simp
 refine Ord.still _ rfl rfl (fun w=>by go_simp; rfl) ?_
 go_simp
 refine Ord.pure (.slice q2 names.length c2) rfl rfl (fun w hw=>ex_load rfl (load_one (by kernel_rfl) (cell_of (keep hw HE.out.1) 2))) ?_
 go_simp
 refine Ord.still (.int .i64 (names.length:Int)) rfl rfl (fun w=>by go_simp) ?_
 go_simp
 refine Ord.eff (fun u=>∃ p,u=ptr p) (fun u w'=>Below W1.heap.size W1 w'∧∃ p D,u=ptr p∧PageAt F D w' p ms∧(∀ x,D x→x < w'.heap.size)∧∀ x,D x→S x∨W1.heap.size≤x) (by decide) rfl rfl (fun w hw=>.call 30 #[.agg #[.int .i64 a,.int .i64 b,.slice q2 names.length c2,.slice q3 l.length c3]] ?_ ?_) (fun _ _ _ h=>h.1) ?_
 ·have:=callable_run call30 #[.agg #[.int .i64 a,.int .i64 b,.slice q2 names.length c2,.slice q3 l.length c3]] w
  go_simp
 ·have hb:=HE.out.2.2.trans (hw.mono HE.out.2.2.size)
  refine (tree_at w (S:=S) (fun b hb'=>Nat.lt_of_lt_of_le (HA.out.1 b hb') hb.size) (RD.mono (fun _ h=>h) (fun b hb'=>hb.block b (HA.out.1 b hb')) _ _ HA.out.2.1) HA.out.2.2.1 HA.out.2.2.2.1 HA.out.2.2.2.2).mono ?_
  rintro e w' ⟨p,D,rfl,k1,k2,k3,k4,k5⟩
  exact ⟨_,rfl,⟨p,rfl⟩,hw.trans (k1.mono hw.size),p,D,rfl,k2,k3,fun x hx=>(k5 x hx).imp id fun h=>Nat.le_trans hw.size h⟩
 rintro u ⟨p,rfl⟩
 unfold ptr
 go_simp
 refine Ord.still (.agg #[.pointer (some ⟨p,0,none⟩),.int .i64 (names.length:Int)]) rfl rfl (fun w=>by go_simp) ?_
 go_simp
 refine Ord.eff (fun _=>True) (fun _ w'=>Below W.heap.size W w'∧w'.heap[W.heap.size+1]? = some (.cells #[.pointer (some ⟨p,0,none⟩),.int .i64 (names.length:Int)] 59 (0,0))∧∃ D,PageAt F D w' p ms∧(∀ x,D x→x < w'.heap.size)) (by decide) rfl rfl (fun w hw=>?_) (fun h=>by cases h) ?_
 ·obtain ⟨hb,D,k2,k3,k4⟩:=hw
  have hx:=keep hb HE.out.2.1
  have hnD:¬ D (W.heap.size+1):=fun hd=>by
   have h2:=HSZ.out
   rcases k4 _ hd with h | h
   ·have:=HA.out.1 _ h; omega
   ·omega
  refine .skip (ex_store rfl (store_at (ty:=59) (n:=2) (by kernel_rfl) (cs:=#[.pointer (some ⟨p,0,none⟩),.int .i64 (names.length:Int)]) rfl hx rfl (by simp [Value.oneCell']))) ⟨trivial,setRow_below (HE.out.2.2.trans (hb.mono HE.out.2.2.size)) (Nat.le_succ _),setRow_get hx,D,?_,?_⟩
  ·exact k2.mono (by rw [size_setRow]; exact Nat.le_refl _) (fun x hx=>setRow_other fun e=>hnD (e ▸ hx)) (fun x hx=>by rw [size_setRow]; exact k3 x hx)
  ·intro x hx
   rw [size_setRow]
   exact k3 x hx
 rintro u - w' ⟨k1,k2,D,k3,k4⟩
 go_wp2
 exact ret_row 2 59 2 (by kernel_rfl) (by kernel_rfl) rfl k2 rfl rfl ⟨p,D,rfl,k1,k3,k4⟩
end Go.Vm.TopG
