/-
  image.Painter.At and image.Of,by hand.
-/
import Derived.Test.YtjjclmimifionaaAc
namespace Go.Vm.TopG
open Go.Proofs
open Go.RowKit
theorem arr12 {α:Type} {a:Array α} (h:a.size=12):∃ x0 x1 x2 x3 x4 x5 x6 x7 x8 x9 x10 x11,a=#[x0,x1,x2,x3,x4,x5,x6,x7,x8,x9,x10,x11]:=by
 obtain ⟨l⟩:=a
 match l,h with
 | x0 :: x1 :: x2 :: x3 :: x4 :: x5 :: x6 :: x7 :: x8 :: x9 :: x10 :: x11 :: [],_=>exact ⟨x0,x1,x2,x3,x4,x5,x6,x7,x8,x9,x10,x11,rfl⟩
theorem arr34 {α:Type} {a:Array α} (h:a.size=34):∃ x0 x1 x2 x3 x4 x5 x6 x7 x8 x9 x10 x11 x12 x13 x14 x15 x16 x17 x18 x19 x20 x21 x22 x23 x24 x25 x26 x27 x28 x29 x30 x31 x32 x33,a=#[x0,x1,x2,x3,x4,x5,x6,x7,x8,x9,x10,x11,x12,x13,x14,x15,x16,x17,x18,x19,x20,x21,x22,x23,x24,x25,x26,x27,x28,x29,x30,x31,x32,x33]:=by
 obtain ⟨l⟩:=a
 match l,h with
 | x0 :: x1 :: x2 :: x3 :: x4 :: x5 :: x6 :: x7 :: x8 :: x9 :: x10 :: x11 :: x12 :: x13 :: x14 :: x15 :: x16 :: x17 :: x18 :: x19 :: x20 :: x21 :: x22 :: x23 :: x24 :: x25 :: x26 :: x27 :: x28 :: x29 :: x30 :: x31 :: x32 :: x33 :: [],_=>exact ⟨x0,x1,x2,x3,x4,x5,x6,x7,x8,x9,x10,x11,x12,x13,x14,x15,x16,x17,x18,x19,x20,x21,x22,x23,x24,x25,x26,x27,x28,x29,x30,x31,x32,x33,rfl⟩
theorem built122 {ic:Array Value} (h:ic.size=12) (m:S_Matrix):Try.prog.built 122 [(0,.agg ic),(1,.agg (matA m))]=some (ic++matA m):=by
 obtain ⟨x0,x1,x2,x3,x4,x5,x6,x7,x8,x9,x10,x11,rfl⟩:=arr12 h
 kernel_rfl
theorem fdiv_pow (x:Int):x.fdiv 8192=x / 8192:=Int.fdiv_eq_ediv_of_nonneg x (by decide)
theorem smooth_at (W:World) {S:Nat→Prop} (hS:∀ b,S b→b < W.heap.size) {F:Nat} {i:S_Image} {m:S_Matrix} {ic:Array Value} (hic:ic.size=12) (hrd:RCs S W (cS_Image i) (fun j=>ic[j]?) 0) {s t:Int} {r:S_Inks×Int} (h:smoothF F i s t=some r) :
  Calls Try.prog 70 #[.agg (ic++matA m),.int .i64 s,.int .i64 t] W fun e W'=>e=.returned (.tuple #[inkV r.1,.int .u8 r.2])∧Below W.heap.size W W':=by
 unfold smoothF at h
 simp only [wrap64_eq,u8w,fdiv_pow] at h
 obtain ⟨U,hU,h⟩:=lett_ok h
 obtain ⟨V,hV,h⟩:=lett_ok h
 obtain ⟨A,hA,h⟩:=lett_ok h
 obtain ⟨B,hB,h⟩:=lett_ok h
 obtain ⟨w0,hw0,h⟩:=lett_ok h
 obtain ⟨w1,hw1,h⟩:=lett_ok h
 obtain ⟨w2,hw2,h⟩:=lett_ok h
 obtain ⟨w3,hw3,h⟩:=lett_ok h
 obtain ⟨s0,hs0,h⟩:=call_ok h
 obtain ⟨s1,hs1,h⟩:=call_ok h
 obtain ⟨s2,hs2,h⟩:=call_ok h
 obtain ⟨s3,hs3,h⟩:=call_ok h
 obtain ⟨all,hall,h⟩:=lett_ok h
 obtain ⟨sums,hsums,h⟩:=lett_ok h
 obtain ⟨z,hz,h⟩:=call_ok h
 simp only [Int.add_zero] at hs0 hs1 hs2 hs3
 refine smooth_main W hS hic hrd hU hV hA hB hw0 hw1 hw2 hw3 hs0 hs1 hs2 hs3 (z:=z)
  (acc:=fun k=>match k with
   | 0=>0
   | 1=>wrap64 (0+wrap64 (w0 * wrap64 s0.2))
   | 2=>wrap64 (wrap64 (0+wrap64 (w0 * wrap64 s0.2))+wrap64 (w1 * wrap64 s1.2))
   | 3=>wrap64 (wrap64 (wrap64 (0+wrap64 (w0 * wrap64 s0.2))+wrap64 (w1 * wrap64 s1.2))+wrap64 (w2 * wrap64 s2.2))
   | _=>wrap64 (wrap64 (wrap64 (wrap64 (0+wrap64 (w0 * wrap64 s0.2))+wrap64 (w1 * wrap64 s1.2))+wrap64 (w2 * wrap64 s2.2))+wrap64 (w3 * wrap64 s3.2))) rfl rfl rfl rfl rfl
  (sm:=fun k=>match k with
   | 0=>ink0
   | 1=>sumI w0 s0.2 ink0 s0.1
   | 2=>sumI w1 s1.2 (sumI w0 s0.2 ink0 s0.1) s1.1
   | 3=>sumI w2 s2.2 (sumI w1 s1.2 (sumI w0 s0.2 ink0 s0.1) s1.1) s2.1
   | _=>sumI w3 s3.2 (sumI w2 s2.2 (sumI w1 s1.2 (sumI w0 s0.2 ink0 s0.1) s1.1) s2.1) s3.1) rfl rfl rfl rfl rfl ?_ ?_
 ·show num_Near F _ 67108864=some z
  rw [hall]
  exact hz
 ·show (z % 256=0∧r=(ink0,0))∨(¬ z % 256=0∧r.2=z % 256∧∀ j,j < 8→∃ y,num_Near F (ink _ j) _=some y∧ink r.1 j=y % 256)
  rw [hall,hsums]
  by_cases hz0:z % 256=0
  ·rw [show (z % 256 == 0)=true by simp [hz0],cond_true] at h
   exact .inl ⟨hz0,(Option.some.inj h).symm⟩
  ·rw [show (z % 256 == 0)=false by simp [hz0],cond_false] at h
   obtain ⟨o,ho,h⟩:=call_ok h
   cases h
   refine .inr ⟨hz0,rfl,fun j hj=>?_⟩
   have:=inkM_get ho j hj
   obtain ⟨y,hy,h2⟩:=call_ok this
   exact ⟨y,hy,(Option.some.inj h2).symm⟩
theorem img_10 (i:S_Image):(cS_Image i)[10]? = some (.v (.bool i.f5)):=by kernel_rfl
theorem app_lo {ic:Array Value} (h:ic.size=12) (m:S_Matrix) {j:Nat} (hj:j < 12):(ic++matA m)[j]? = ic[j]? := Array.getElem?_append_left (by rw [h]; exact hj)
theorem app_hi {ic:Array Value} (h:ic.size=12) (m:S_Matrix) (j:Nat):(ic++matA m)[12+j]? = (matA m)[j]? := by
 rw [Array.getElem?_append_right (by rw [h]; exact Nat.le_add_right _ _),h,Nat.add_sub_cancel_left]
theorem matA_one (m:S_Matrix):(matA m).all (·.oneCell')=true:=by simp [matA,Value.oneCell']
set_option maxRecDepth 100000 in
set_option maxHeartbeats 4000000 in
theorem At56_main (W:World) {S:Nat→Prop} (hS:∀ b,S b→b < W.heap.size) {F:Nat} {i:S_Image} {m:S_Matrix} {ic:Array Value} (hic:ic.size=12) (hrd:RCs S W (cS_Image i) (fun j=>ic[j]?) 0) {x y s t:Int} {r:S_Inks×Int}
  (hs:wrap64 (wrap64 (wrap64 (m.f0 * wrap64 (wrap64 (2 * x)+1))+wrap64 (m.f2 * wrap64 (wrap64 (2 * y)+1)))+wrap64 (2 * m.f4))=s)
  (ht:wrap64 (wrap64 (wrap64 (m.f1 * wrap64 (wrap64 (2 * x)+1))+wrap64 (m.f3 * wrap64 (wrap64 (2 * y)+1)))+wrap64 (2 * m.f5))=t)
  (h:(i.f5=true∧smoothF F i s t=some r)∨(i.f5=false∧image_sample F i (s / 8192) (t / 8192)=some r)) :
  Calls Try.prog 56 #[.agg (ic++matA m),.int .i64 x,.int .i64 y] W fun e W'=>e=.returned (.tuple #[inkV r.1,.int .u8 r.2])∧Below W.heap.size W W':=by
 subst hs ht
 obtain ⟨e1,e2,e3,e4⟩:=three_at W (.cells (ic++matA m) 122 (0,0)) (.cells z8 35 (0,0)) (.cells #[.int .i64 0,.int .i64 0,.int .i64 0,.int .i64 0,.int .i64 0,.int .i64 0] 42 (0,0))
 have hL:=load_at (ty:=42) (b:=W.heap.size) (o:=12) (n:=6) (w:=(W.alloc (.cells (ic++matA m) 122 (0,0))).alloc (.cells z8 35 (0,0))) (cs:=matA m) (by kernel_rfl) rfl fun j _=>(cell_of (two_at W (.cells (ic++matA m) 122 (0,0)) (.cells z8 35 (0,0))).1 (12+j)).trans (app_hi hic m j)
 have hst:=store_at (ty:=42) (n:=6) (by kernel_rfl) (cs:=matA m) rfl e3 rfl (matA_one m)
 have g1:=(setRow_other (cs:=matA m) (show W.heap.size≠W.heap.size+1+1 by omega)).trans e1
 have g2:=(setRow_other (cs:=matA m) (show W.heap.size+1≠W.heap.size+1+1 by omega)).trans e2
 have g3:=setRow_get (cs:=matA m) e3
 have g4:=setRow_below (cs:=matA m) e4 (show W.heap.size≤W.heap.size+1+1 by omega)
 have hcm:=cell_of g3
 have hL44:=load_at (ty:=44) (b:=W.heap.size) (o:=0) (n:=12) (cs:=ic) (by kernel_rfl) hic fun j hj=>by
  rw [Nat.zero_add]
  exact (cell_of g1 j).trans (app_lo hic m hj)
 have hL122:=load_whole (ty:=122) (n:=18) (by kernel_rfl) (by rw [Array.size_append,hic]; rfl) g1
 have hag:Agree S W _:=fun b hb=>g4.block b (hS b hb)
 have hlt:=fun b hb=>Nat.lt_of_lt_of_le (hS b hb) g4.size
 have hrd2:=RCs.mono (fun _ h=>h) hag _ _ _ hrd
 obtain ⟨u10,hc10,hr10⟩:=RCs.get _ 0 10 _ hrd (img_10 i)
 have hc10:=(cell_of g1 10).trans ((app_lo hic m (show 10 < 12 by decide)).trans hc10)
 have HH:=aside h
 have HIC:=aside hic
 have HG2:=aside g2
 have HG4:=aside g4
 have HLT:=aside hlt
 have HRD2:=aside hrd2
 simp only [RD] at hr10
 obtain ⟨rfl,-⟩:=hr10
 clear e1 e2 e3 e4 g1 g2 g3 g4 h hS hrd hic hag hlt hrd2
 have HCM:=aside hcm
 have HC10:=aside hc10
 have HL44:=aside hL44
 have HL122:=aside hL122
 clear hcm hc10 hL44 hL122
 revert hL hst HCM HC10 HL44 HL122 HG2 HG4 HLT HRD2
 unfold z8
 generalize hpc:ic++matA m=pc
 have HPC:=aside hpc
 clear hpc
 intro hL hst HG2 HG4 HLT HRD2 HCM HC10 HL44 HL122
 go_enter Try.func56,Try.ntmps56
 go_wp2_with (first | ((with_reducible apply st (ty:=42)); exact hst) | ((with_reducible apply ld (ty:=42)); exact hL) | with_reducible refine hlt 13 ?_)
 clear hL hst
 revert HCM HC10 HL44 HL122 HG2 HG4 HLT HRD2
 generalize World.setRow _ _ _=w0
 intro HG2 HG4 HLT HRD2 HCM HC10 HL44 HL122
 have hcm:=HCM.out
 unfold matA at hcm
 have hc10:=HC10.out
 have hL44:=HL44.out
 have hL122:=HL122.out
 unfold Halt
 go_wp2_with (first | ((with_reducible apply ld (ty:=44)); exact hL44) | ((with_reducible apply ld (ty:=122)); exact hL122))
 all_goals clear hcm hc10 hL44 hL122
 ·rcases HH.out with ⟨hf,h⟩ | ⟨hf,h⟩
  ·rw [← HPC.out]
   refine (smooth_at w0 HLT.out HIC.out HRD2.out h).mono ?_
   rintro e w' ⟨rfl,hb⟩
   have hO:=keep hb HG2.out
   have HB:=aside (HG4.out.trans (hb.mono HG4.out.size))
   have hst:=store_at (ty:=35) (n:=8) (by kernel_rfl) (cs:=inkA r.1) rfl hO rfl (inkA_one _)
   clear hb HH HLT HRD2 h
   unfold inkV
   go_wp2_with ((with_reducible apply st (ty:=35)); exact hst)
   exact ret_row2 6 7 35 8 (by kernel_rfl) (by kernel_rfl) rfl (setRow_get hO) rfl rfl rfl ⟨rfl,setRow_below HB.out (Nat.le_succ _)⟩
  ·simp_all
 ·rcases HH.out with ⟨hf,h⟩ | ⟨hf,h⟩
  ·simp_all
  ·refine (sample_at w0 HLT.out (HIC.out.trans (by rfl)) HRD2.out h).mono ?_
   rintro e w' ⟨rfl,hb⟩
   have hO:=keep hb HG2.out
   have HB:=aside (HG4.out.trans (hb.mono HG4.out.size))
   have hst:=store_at (ty:=35) (n:=8) (by kernel_rfl) (cs:=inkA r.1) rfl hO rfl (inkA_one _)
   clear hb HH HLT HRD2 h
   unfold inkV
   go_wp2_with ((with_reducible apply st (ty:=35)); exact hst)
   exact ret_row2 6 7 35 8 (by kernel_rfl) (by kernel_rfl) rfl (setRow_get hO) rfl rfl rfl ⟨rfl,setRow_below HB.out (Nat.le_succ _)⟩
theorem At56_at (W:World) {S:Nat→Prop} (hS:∀ b,S b→b < W.heap.size) {F:Nat} {i:S_Image} {m:S_Matrix} {ic:Array Value} (hic:ic.size=12) (hrd:RCs S W (cS_Image i) (fun j=>ic[j]?) 0) {x y:Int} {r:S_Inks×Int} (h:imgF F i m x y=some r) :
  Calls Try.prog 56 #[.agg (ic++matA m),.int .i64 x,.int .i64 y] W fun e W'=>e=.returned (.tuple #[inkV r.1,.int .u8 r.2])∧Below W.heap.size W W':=by
 unfold imgF at h
 simp only [wrap64_eq,fdiv_pow] at h
 obtain ⟨s,hs,h⟩:=lett_ok h
 obtain ⟨t,ht,h⟩:=lett_ok h
 refine At56_main (F:=F) W hS hic hrd hs ht ?_
 cases hf:i.f5 with
 | true=>rw [hf,cond_true] at h; exact .inl ⟨rfl,h⟩
 | false=>rw [hf,cond_false] at h; exact .inr ⟨rfl,h⟩
theorem rcs_one {S:Nat→Prop} {w:World} {ds:List Dat} {cs:Array Value} (h:RCs S w ds (fun j=>cs[j]?) 0) (hn:cs.size=ds.length):cs.all (·.oneCell')=true:=by
 have:=RCs.one (l:=cs.toList) (by simpa using h) (by simpa using hn)
 rw [← Array.all_toList]
 exact List.all_eq_true.2 this
theorem ap_app {a b:Array Value} (ha:a.all (·.oneCell')=true) (hb:b.all (·.oneCell')=true):(a++b).all (·.oneCell')=true:=by
 rw [Array.all_append,ha,hb]; rfl
def z18:Array Value:=#[.int .i64 0,.int .i64 0,.slice none 0 0,.slice none 0 0,.int .i64 0,.int .i64 0,.int .i64 0,.int .i64 0,.int .i64 0,.int .i64 0,.bool false,.bool false,.int .i64 0,.int .i64 0,.int .i64 0,.int .i64 0,.int .i64 0,.int .i64 0]
theorem img_place (i:S_Image) {j:Nat} (hj:j < 6):(cS_Image i)[4+j]? = some (.v (.int .i64 ((matL i.f4).getD j 0))):=by
 obtain rfl | rfl | rfl | rfl | rfl | rfl:j=0∨j=1∨j=2∨j=3∨j=4∨j=5:=by omega
 all_goals kernel_rfl
theorem matA_get (m:S_Matrix) {j:Nat} (hj:j < 6):(matA m)[j]? = some (.int .i64 ((matL m).getD j 0)):=by
 obtain rfl | rfl | rfl | rfl | rfl | rfl:j=0∨j=1∨j=2∨j=3∨j=4∨j=5:=by omega
 all_goals rfl
set_option maxRecDepth 100000 in
set_option maxHeartbeats 4000000 in
theorem Of55_at (W:World) {S:Nat→Prop} {F:Nat} {i:S_Image} {ic:Array Value} (hic:ic.size=12) (hrd:RCs S W (cS_Image i) (fun j=>ic[j]?) 0) {r:S_Matrix×Int} (h:affine_Invert F i.f4=some r) :
  Calls Try.prog 55 #[.agg ic] W fun e W'=>e=.returned (.agg (ic++matA r.1))∧Below W.heap.size W W':=by
 obtain ⟨e1,e2,e3⟩:=two_at W (.cells ic 44 (0,0)) (.cells z18 122 (0,0))
 have hL:=load_at (ty:=42) (b:=W.heap.size) (o:=4) (n:=6) (w:=(W.alloc (.cells ic 44 (0,0))).alloc (.cells z18 122 (0,0))) (cs:=matA i.f4) (by kernel_rfl) rfl fun j hj=>by
  obtain ⟨u,h1,h2⟩:=RCs.get _ 0 (4+j) _ hrd (img_place i hj)
  simp only [RD] at h2
  rw [cell_of e1,matA_get i.f4 hj,← h2.1,← h1,Nat.zero_add]
 have HI:=aside (Invert_at ((W.alloc (.cells ic 44 (0,0))).alloc (.cells z18 122 (0,0))) h)
 have H1:=aside e1
 have H2:=aside e2
 have H3:=aside e3
 have HN:=aside hic
 have HR:=aside hrd
 clear e1 e2 e3 hic hrd h
 revert hL HI H1 H2 H3
 unfold z18
 intro hL HI H1 H2 H3
 go_enter Try.func55,Try.ntmps55
 go_wp2_with ((with_reducible apply ld (ty:=42)); exact hL)
 refine Calls.mono HI.out ?_
 rintro e w1 ⟨rfl,hb⟩
 have g1:=keep hb H1.out
 have g2:=keep hb H2.out
 have g3:=H3.out.trans (hb.mono H3.out.size)
 have HA:=aside (heap_alloc_new w1 (.cells #[.int .i64 0,.int .i64 0,.int .i64 0,.int .i64 0,.int .i64 0,.int .i64 0] 42 (0,0)))
 have hst:=store_at (ty:=42) (n:=6) (by kernel_rfl) (cs:=matA r.1) rfl HA.out rfl (matA_one r.1)
 have k1:=(setRow_other (cs:=matA r.1) (Nat.ne_of_lt (heap_lt g1))).trans ((Below.heap_alloc w1 (.cells #[.int .i64 0,.int .i64 0,.int .i64 0,.int .i64 0,.int .i64 0,.int .i64 0] 42 (0,0)) _ (heap_lt g1)).trans g1)
 have k2:=(setRow_other (cs:=matA r.1) (Nat.ne_of_lt (heap_lt g2))).trans ((Below.heap_alloc w1 (.cells #[.int .i64 0,.int .i64 0,.int .i64 0,.int .i64 0,.int .i64 0,.int .i64 0] 42 (0,0)) _ (heap_lt g2)).trans g2)
 have k3:=setRow_get (cs:=matA r.1) HA.out
 have k4:=setRow_below (cs:=matA r.1) (g3.alloc g3.size (.cells #[.int .i64 0,.int .i64 0,.int .i64 0,.int .i64 0,.int .i64 0,.int .i64 0] 42 (0,0))) g3.size
 have K1:=aside k1
 have K2:=aside k2
 have K3:=aside k3
 have K4:=aside k4
 clear k1 k2 k3 k4 g1 g2 g3 hb hL HI HA
 unfold matV
 generalize hm:matA r.1=mc at hst K1 K2 K3 K4 ⊢
 have HM:=aside hm
 clear hm
 go_wp2_with (first | ((with_reducible apply st (ty:=42)); exact hst) | with_reducible refine hlt 11 ?_)
 revert K1 K2 K3 K4
 generalize World.setRow _ _ _=w2
 intro K1 K2 K3 K4
 have hL1:=load_whole (ty:=44) (n:=12) (by kernel_rfl) HN.out K1.out
 have hL2:=load_whole (ty:=42) (n:=6) (by kernel_rfl) (by rw [← HM.out]; rfl) K3.out
 have hbd:Try.prog.built 122 [(0,.agg ic),(1,.agg mc)]=some (ic++mc):=by rw [← HM.out]; exact built122 HN.out r.1
 have hsz:(ic++mc).size=18:=by rw [Array.size_append,HN.out,← HM.out]; rfl
 have hst2:=store_at (ty:=122) (n:=18) (by kernel_rfl) (cs:=ic++mc) hsz K2.out rfl (ap_app (rcs_one HR.out (HN.out.trans rfl)) (by rw [← HM.out]; exact matA_one _))
 have HS:=aside hsz
 clear hst hsz
 unfold Halt
 go_wp2_with (first | ((with_reducible apply st (ty:=122)); exact hst2) | ((with_reducible apply ld (ty:=44)); exact hL1) | ((with_reducible apply ld (ty:=42)); exact hL2) | ((with_reducible apply bd (ty:=122)); exact hbd))
 exact ret_row 2 122 18 (by kernel_rfl) (by kernel_rfl) HS.out (setRow_get K2.out) rfl rfl ⟨by rw [HM.out],setRow_below K4.out (Nat.le_succ _)⟩
end Go.Vm.TopG
namespace Go.Vm.TopG
open Go.Proofs
open Go.RowKit
/-- A new variable,and a whole value stored in it. -/
theorem newrow (w:World) (z vs:Array Value) (E:TypeId):((w.alloc (.cells z E (0,0))).setRow w.heap.size vs).heap[w.heap.size]? = some (.cells vs E (0,0))∧Below w.heap.size w ((w.alloc (.cells z E (0,0))).setRow w.heap.size vs) :=
 ⟨setRow_get (heap_alloc_new _ _),setRow_below ((Below.refl _ _).alloc (Nat.le_refl _) _) (Nat.le_refl _)⟩
set_option maxRecDepth 100000 in
set_option maxHeartbeats 4000000 in
theorem src57_at (W:World) {S:Nat→Prop} (hS:∀ b,S b→b < W.heap.size) {F:Nat} {i:S_Image} {m:S_Matrix} {ic:Array Value} (hic:ic.size=12) (hrd:RCs S W (cS_Image i) (fun j=>ic[j]?) 0) {b:Nat} (hb:W.heap[b]? = some (.cells #[.func (.func 56) #[.agg (ic++matA m)] #[]] 101 (0,0))) {x y:Int} {r:S_Inks×Int} (h:imgF F i m x y=some r) :
  Calls Try.prog 57 #[.int .i64 x,.int .i64 y,.pointer (some ⟨b,0,none⟩)] W fun e W'=>e=.returned (.tuple #[inkV (bif r.2 == 0 then ink0 else r.1),.int .u8 r.2])∧Below W.heap.size W W':=by
 have hb0:=(Below.refl W.heap.size W).alloc (Nat.le_refl _) (.cells z8 35 (0,0))
 have hO:=heap_alloc_new W (.cells z8 35 (0,0))
 have hlt:∀ b,S b→b < (W.alloc (.cells z8 35 (0,0))).heap.size:=fun b hb=>Nat.lt_of_lt_of_le (hS b hb) hb0.size
 have hcs:=RCs.mono (fun _ h=>h) (fun b hb=>hb0.block b (hS b hb)) _ _ _ hrd
 have HC:=aside (At56_at _ hlt hic hcs h)
 have hc:=cell_of ((Below.heap_alloc W (.cells z8 35 (0,0)) _ (heap_lt hb)).trans hb) 0
 have hr:=fun args w=>callable_run (k:=56) ⟨_,Try.func56,by kernel_rfl,by kernel_rfl⟩ args w
 have HB:=aside hb0
 have HO:=aside hO
 clear hb0 hO hlt hcs hS hrd hic h hb
 revert HC hc HB HO
 unfold z8
 generalize ic++matA m=pc
 intro HC hc HB HO
 go_enter Try.func57,Try.ntmps57
 go_wp2_with (go_at_fn 56)
 refine Calls.mono HC.out ?_
 rintro e w1 ⟨rfl,hb⟩
 clear hc hr
 have g1:=keep hb HO.out
 have HB1:=aside (HB.out.trans (hb.mono HB.out.size))
 have hst:=store_at (ty:=35) (n:=8) (by kernel_rfl) (cs:=inkA r.1) rfl (heap_alloc_new w1 (.cells z8 35 (0,0))) rfl (inkA_one _)
 obtain ⟨n1,n2⟩:=newrow w1 z8 (inkA r.1) 35
 have K:=aside (show _∧_∧_ from ⟨n1,n2,g1⟩)
 clear g1 hb n1 n2
 revert hst K
 unfold z8 inkV
 generalize hv:inkA r.1=vs
 intro hst K
 have HV:=aside hv
 clear hv
 go_wp2_with (first | ((with_reducible apply st (ty:=35)); exact hst) | with_reducible refine hlt 17 ?_)
 revert K
 generalize World.setRow _ _ _=w2
 intro K
 obtain ⟨n1,n2,g1⟩:=K.out
 have hO2:=keep n2 g1
 have HB2:=aside (HB1.out.trans (n2.mono HB1.out.size))
 have hb8:Try.prog.built 35 []=some (inkA ink0):=by kernel_rfl
 by_cases h0:r.2=0
 ·have hst2:=store_at (ty:=35) (n:=8) (by kernel_rfl) (cs:=inkA ink0) rfl n1 (by rw [← HV.out]; rfl) (inkA_one _)
  have k1:=setRow_get (cs:=inkA ink0) n1
  have k2:=(setRow_other (cs:=inkA ink0) (Nat.ne_of_lt (heap_lt g1))).trans hO2
  have k3:=setRow_below (cs:=inkA ink0) HB2.out (show W.heap.size≤w1.heap.size from HB1.out.size)
  have K3:=aside (show _∧_∧_ from ⟨k1,k2,k3⟩)
  clear k1 k2 k3 hst
  have hr2:(bif r.2 == 0 then ink0 else r.1)=ink0:=by rw [h0]; rfl
  have HR2:=aside hr2
  clear hr2
  generalize hv0:inkA ink0=v0 at hst2 K3 hb8
  have HV0:=aside hv0
  clear hv0
  unfold Halt
  go_wp2_with (first | ((with_reducible apply st (ty:=35)); exact hst2) | ((with_reducible apply bd (ty:=35)); exact hb8) | with_reducible refine hlt 19 ?_)
  revert K3
  generalize World.setRow _ _ _=w3
  intro K3
  obtain ⟨k1,k2,k3⟩:=K3.out
  have hL:=load_whole (ty:=35) (n:=8) (by kernel_rfl) (by rw [← HV0.out]; rfl) k1
  have hst3:=store_at (ty:=35) (n:=8) (by kernel_rfl) (cs:=v0) (by rw [← HV0.out]; rfl) k2 rfl (by rw [← HV0.out]; exact inkA_one _)
  clear hst2 hb8
  unfold Halt
  go_wp2_with (first | ((with_reducible apply st (ty:=35)); exact hst3) | ((with_reducible apply ld (ty:=35)); exact hL))
  exact ret_row2 5 6 35 8 (by kernel_rfl) (by kernel_rfl) (by rw [← HV0.out]; rfl) (setRow_get k2) rfl rfl rfl ⟨by rw [HR2.out,← HV0.out,h0]; rfl,setRow_below k3 (Nat.le_refl _)⟩
 ·have hL:=load_whole (ty:=35) (n:=8) (by kernel_rfl) (by rw [← HV.out]; rfl) n1
  have hst3:=store_at (ty:=35) (n:=8) (by kernel_rfl) (cs:=vs) (by rw [← HV.out]; rfl) hO2 rfl (by rw [← HV.out]; exact inkA_one _)
  have hr2:(bif r.2 == 0 then ink0 else r.1)=r.1:=by
   rw [show (r.2 == 0)=false by simpa using h0]; rfl
  have HR2:=aside hr2
  clear hr2 hst hb8
  unfold Halt
  go_wp2_with (first | ((with_reducible apply st (ty:=35)); exact hst3) | ((with_reducible apply ld (ty:=35)); exact hL))
  exact ret_row2 5 6 35 8 (by kernel_rfl) (by kernel_rfl) (by rw [← HV.out]; rfl) (setRow_get hO2) rfl rfl rfl ⟨by rw [HR2.out,← HV.out]; rfl,setRow_below HB2.out (Nat.le_refl _)⟩
theorem call54:Callable Try.prog 54:=⟨_,Try.func54,by kernel_rfl,by kernel_rfl⟩
theorem call57:Callable Try.prog 57:=⟨_,Try.func57,by kernel_rfl,by kernel_rfl⟩
theorem call58:Callable Try.prog 58:=⟨_,Try.func58,by kernel_rfl,by kernel_rfl⟩
theorem SrcBox.mono {S S':Nat→Prop} {w w':World} {b:Nat} {s:S_Source} {cs:Array Value} (h:SrcBox S w b s cs) (hb:w'.heap[b]? = w.heap[b]?) (hs:∀ b,S b→S' b) (ha:Agree S w w'):SrcBox S' w' b s cs :=
 ⟨h.size,hb.trans h.at_,RCs.mono hs ha _ _ _ h.rd⟩
theorem SrcBox.csAt {S:Nat→Prop} {w:World} {b:Nat} {s:S_Source} {cs:Array Value} (h:SrcBox S w b s cs):CsAt S w b 0 (cS_Source s):=⟨cs,46,(0,0),h.at_,h.rd⟩
theorem srcD54 {F:Nat} {s:S_Source} {D:Nat→Prop} {w:World} {b:Nat} {cs:Array Value} (hD:∀ x,D x→x < w.heap.size) (hb:D b) (h:SrcBox D w b s cs) (h0:s.f0=0):SrcD F s (.func (.func 54) #[] #[.pointer (some ⟨b,0,none⟩)]) D w :=
 ⟨hD,fun W hW hA=>⟨54,#[.pointer (some ⟨b,0,none⟩)],rfl,call54,fun x y r hr=>by
  unfold srcF at hr
  rw [h0] at hr
  obtain rfl:(s.f1,(255:Int))=r:=by simpa using hr
  exact src54_at W (h.mono (hA b hb) (fun _ h=>h) hA).csAt x y⟩⟩
theorem srcD58 {F:Nat} {s:S_Source} {D:Nat→Prop} {w:World} {b:Nat} {cs:Array Value} (hD:∀ x,D x→x < w.heap.size) (hb:D b) (h:SrcBox D w b s cs) (h0:¬ s.f0=0) (h3:¬ s.f0=3) (hl:s.f5.length≤4294967296):SrcD F s (.func (.func 58) #[] #[.pointer (some ⟨b,0,none⟩)]) D w :=
 ⟨hD,fun W hW hA=>⟨58,#[.pointer (some ⟨b,0,none⟩)],rfl,call58,fun x y r hr=>by
  unfold srcF at hr
  rw [show (s.f0 == 0)=false by simpa using h0,show (s.f0 == 3)=false by simpa using h3,cond_false,cond_false] at hr
  obtain ⟨t,ht,hr⟩:=call_ok hr
  obtain ⟨v,hv,hr⟩:=call_ok hr
  cases hr
  exact src58_at W (fun x hx=>Nat.lt_of_lt_of_le (hD x hx) hW) (h.mono (hA b hb) (fun _ h=>h) hA) ht hv hl⟩⟩
theorem srcD57 {F:Nat} {s:S_Source} {D:Nat→Prop} {w:World} {b:Nat} {ic:Array Value} {m:S_Matrix×Int} (hD:∀ x,D x→x < w.heap.size) (hb:D b) (hic:ic.size=12) (hrd:RCs D w (cS_Image s.f6) (fun j=>ic[j]?) 0) (h:w.heap[b]? = some (.cells #[.func (.func 56) #[.agg (ic++matA m.1)] #[]] 101 (0,0)))
  (h3:s.f0=3) (hm:affine_Invert F s.f6.f4=some m):SrcD F s (.func (.func 57) #[] #[.pointer (some ⟨b,0,none⟩)]) D w :=
 ⟨hD,fun W hW hA=>⟨57,#[.pointer (some ⟨b,0,none⟩)],rfl,call57,fun x y r hr=>by
  unfold srcF at hr
  rw [h3,hm] at hr
  obtain ⟨p,hp,hr⟩:=call_ok (show call (imgF F s.f6 m.1 x y) (fun p=>bif p.2 == 0 then some (ink0,p.2) else some p)=some r from hr)
  have:=src57_at W (fun x hx=>Nat.lt_of_lt_of_le (hD x hx) hW) hic (RCs.mono (fun _ h=>h) hA _ _ _ hrd) ((hA b hb).trans h) hp
  by_cases h0:p.2=0
  ·rw [h0] at hr
   obtain rfl:(ink0,(0:Int))=r:=by simpa using hr
   rw [h0] at this
   exact this
  ·rw [show (p.2 == 0)=false by simpa using h0,cond_false] at hr this
   cases hr
   exact this⟩⟩
theorem src_kind (s:S_Source):(cS_Source s)[0]? = some (.v (.int .i64 s.f0)):=by kernel_rfl
theorem src_img (s:S_Source):(cS_Source s).drop 15=cS_Image s.f6:=by kernel_rfl
theorem ext_get {cs:Array Value} (hn:cs.size=27) {j:Nat} (hj:j < 12):(cs.extract 15 27)[j]? = cs[15+j]? := by
 rw [Array.getElem?_extract,if_pos (by rw [hn]; omega)]
set_option maxRecDepth 100000 in
set_option maxHeartbeats 4000000 in
theorem sourceOf_at (W:World) {S:Nat→Prop} (hS:∀ b,S b→b < W.heap.size) {F:Nat} {s:S_Source} {cs:Array Value} (hn:cs.size=27) (hcs:RCs S W (cS_Source s) (fun j=>cs[j]?) 0) (hl:s.f5.length≤4294967296) (hinv:s.f0=3→∃ m,affine_Invert F s.f6.f4=some m) :
  Calls Try.prog 41 #[.agg cs] W fun e W'=>∃ g,e=.returned g∧Below W.heap.size W W'∧SrcD F s g (fun b=>S b∨(W.heap.size≤b∧b < W'.heap.size)) W':=by
 obtain ⟨u0,hc0,hr0⟩:=RCs.get _ 0 0 _ hcs (src_kind s)
 simp only [RD] at hr0
 obtain ⟨rfl,-⟩:=hr0
 have hA:=heap_alloc_new W (.cells cs 46 (0,0))
 have hb:=(Below.refl W.heap.size W).alloc (Nat.le_refl _) (.cells cs 46 (0,0))
 have hc0:=(cell_of hA 0).trans hc0
 have hag:Agree S W (W.alloc (.cells cs 46 (0,0))):=fun b hb'=>hb.block b (hS b hb')
 have HB:=aside (show SrcBox S (W.alloc (.cells cs 46 (0,0))) W.heap.size s cs from ⟨hn,hA,RCs.mono (fun _ h=>h) hag _ _ _ hcs⟩)
 have HW:=aside hb
 have HS:=aside hS
 have HL:=aside hl
 have HI:=aside hinv
 have hsz:=World.size_alloc W (.cells cs 46 (0,0))
 have HZ:=aside hsz
 clear hA hb hag hS hl hinv hsz hn hcs
 by_cases h0:s.f0=0
 ·have h0':=aside h0
  rw [h0] at hc0
  clear h0
  go_enter Try.func41,Try.ntmps41
  go_wp2
  go_ret
  refine ⟨_,rfl,HW.out,srcD54 (cs:=cs) (fun x hx=>?_) (.inr ⟨Nat.le_refl _,by rw [HZ.out]; exact Nat.lt_succ_self _⟩) (HB.out.mono rfl (fun _=>.inl) fun _ _=>rfl) h0'.out⟩
  rcases hx with hx | hx
  ·exact Nat.lt_of_lt_of_le (HS.out x hx) HW.out.size
  ·exact hx.2
 ·by_cases h3:s.f0=3
  ·obtain ⟨m,hm⟩:=HI.out h3
   have hbx:=HB.out
   have hN:=hbx.size
   have hg:=hbx.at_
   have hL:=load_at (ty:=44) (b:=W.heap.size) (o:=15) (n:=12) (cs:=cs.extract 15 27) (by kernel_rfl) (by simp [hN]) fun j hj=>(cell_of hg (15+j)).trans (ext_get hN hj).symm
   have hrd:RCs S (W.alloc (.cells cs 46 (0,0))) (cS_Image s.f6) (fun j=>(cs.extract 15 27)[j]?) 0:=by
    have:=RCs.drop _ 0 15 hbx.rd
    rw [src_img] at this
    refine RCs.congr _ _ _ (fun j hj=>?_) this
    have hj:j < 12:=hj
    rw [Nat.zero_add]
    exact ext_get hN hj
   have hsz:(cs.extract 15 27).size=12:=by simp [hN]
   have HC:=aside (Of55_at (W.alloc (.cells cs 46 (0,0))) hsz hrd hm)
   have HRD:=aside hrd
   have HSZ:=aside hsz
   have H3:=aside h3
   have HM:=aside hm
   rw [h3] at hc0
   clear hrd hsz hm hg hN hbx h3 h0
   generalize cs.extract 15 27=ic at hL HC HRD HSZ
   go_enter Try.func41,Try.ntmps41
   go_wp2_with ((with_reducible apply ld (ty:=44)); exact hL)
   refine Calls.mono HC.out ?_
   rintro e w1 ⟨rfl,hb⟩
   clear hL hc0
   have HBB:=aside hb
   clear hb HC
   generalize hpc:ic++matA m.1=pc
   have HPC:=aside hpc
   clear hpc
   have hA:=heap_alloc_new w1 (.cells #[.nilFunc] 101 (0,0))
   have hAc:=cell_of hA
   have hAf:=frz_of hA
   go_wp2
   clear hA hAc hAf
   go_ret
   have hw1:=HW.out.trans (HBB.out.mono HW.out.size)
   have hw2:=hw1.alloc hw1.size (.cells #[.func (.func 56) #[.agg pc] #[]] 101 (0,0))
   have hsz:=World.size_alloc w1 (.cells #[.func (.func 56) #[.agg pc] #[]] 101 (0,0))
   refine ⟨_,rfl,hw2,srcD57 (ic:=ic) (m:=m) (fun x hx=>?_) (.inr ⟨hw1.size,by rw [hsz]; exact Nat.lt_succ_self _⟩) HSZ.out (RCs.mono (fun _=>.inl) (fun x hx=>?_) _ _ _ HRD.out) (by rw [HPC.out]; exact heap_alloc_new _ _) H3.out HM.out⟩
   ·rcases hx with hx | hx
    ·exact Nat.lt_of_lt_of_le (HS.out x hx) hw2.size
    ·exact hx.2
   ·exact (hw2.block x (HS.out x hx)).trans (HW.out.block x (HS.out x hx)).symm
  ·have h0':=aside h0
   have h3':=aside h3
   have e0:(s.f0 == 0)=false:=by simpa using h0
   have e3:(s.f0 == 3)=false:=by simpa using h3
   clear h0 h3
   go_enter Try.func41,Try.ntmps41
   go_wp2
   go_ret
   refine ⟨_,rfl,HW.out,srcD58 (cs:=cs) (fun x hx=>?_) (.inr ⟨Nat.le_refl _,by rw [HZ.out]; exact Nat.lt_succ_self _⟩) (HB.out.mono rfl (fun _=>.inl) fun _ _=>rfl) h0'.out h3'.out HL.out⟩
   rcases hx with hx | hx
   ·exact Nat.lt_of_lt_of_le (HS.out x hx) HW.out.size
   ·exact hx.2
end Go.Vm.TopG
