/-
  affine.Invert: the region with the six calls (printed by mkI.py).
-/
import Derived.Test.YtjjclmimifionaaHa
namespace Go.Vm.TopG
open Go.Proofs
open Go.RowKit
def findRegion (id:Nat):Code→Option Code
 | .seq a b=>(findRegion id a).orElse fun _=>findRegion id b
 | .cond _ a b=>(findRegion id a).orElse fun _=>findRegion id b
 | .block _ a=>findRegion id a
 | .loop a=>findRegion id a
 | .region i ops d=>if i=id then some (.region i ops d) else none
 | _=>none
def regionAt (f:Func) (id:Nat):Code:=((f.body).bind (findRegion id)).getD .skip
structure S10 (w2:World) (b p q:Nat) (m:S_Matrix) (s d:Int) (x:Option Value) (w:World):Prop where
 below:Below w2.heap.size w2 w
 hb:w2.heap[b]? = some (.cells (matA m) 42 (0,0))
 hp:w2.heap[p]? = some (.cells #[.int .i64 s] 3 (0,0))
 hq:w2.heap[q]? = some (.cells #[.int .i64 d] 3 (0,0))
 nb:∀ u,x=some u→∃ n,u=.pointer (some ⟨n,0,none⟩)∧w2.heap.size≤n∧w.heap[n]? = some (.cells #[.int .i64 0,.int .i64 0,.int .i64 0,.int .i64 0,.int .i64 0,.int .i64 0] 42 (0,0))
theorem S10.next {w2 w w':World} {b p q:Nat} {m:S_Matrix} {s d:Int} {x:Option Value} (h:S10 w2 b p q m s d x w) (hb:Below w.heap.size w w'):S10 w2 b p q m s d x w' :=
 ⟨h.below.trans (hb.mono h.below.size),h.hb,h.hp,h.hq,fun u hu=>by
  obtain ⟨n,h1,h2,h3⟩:=h.nb u hu
  exact ⟨n,h1,h2,(hb.block _ (heap_lt h3)).trans h3⟩⟩
theorem S10.mat {w2 w:World} {b p q:Nat} {m:S_Matrix} {s d:Int} {x:Option Value} (h:S10 w2 b p q m s d x w) (i:Nat):w.cell? ⟨b,i,none⟩=(matA m)[i]? := cell_of ((h.below.block _ (heap_lt h.hb)).trans h.hb) i
theorem S10.sg {w2 w:World} {b p q:Nat} {m:S_Matrix} {s d:Int} {x:Option Value} (h:S10 w2 b p q m s d x w):w.cell? ⟨p,0,none⟩=some (.int .i64 s):=cell_of ((h.below.block _ (heap_lt h.hp)).trans h.hp) 0
theorem S10.dt {w2 w:World} {b p q:Nat} {m:S_Matrix} {s d:Int} {x:Option Value} (h:S10 w2 b p q m s d x w):w.cell? ⟨q,0,none⟩=some (.int .i64 d):=cell_of ((h.below.block _ (heap_lt h.hq)).trans h.hq) 0
theorem S10.new {w2 w:World} {b p q:Nat} {m:S_Matrix} {s d:Int} (h:S10 w2 b p q m s d none w):S10 w2 b p q m s d (some (.pointer (some ⟨w.heap.size,0,none⟩))) (w.alloc (.cells #[.int .i64 0,.int .i64 0,.int .i64 0,.int .i64 0,.int .i64 0,.int .i64 0] 42 (0,0))) :=
 ⟨h.below.alloc h.below.size _,h.hb,h.hp,h.hq,fun u hu=>⟨w.heap.size,(Option.some.inj hu).symm,h.below.size,heap_alloc_new _ _⟩⟩
theorem S10.old {w2 w:World} {b p q:Nat} {m:S_Matrix} {s d:Int} {x:Option Value} (h:S10 w2 b p q m s d x w):S10 w2 b p q m s d none w:=⟨h.below,h.hb,h.hp,h.hq,fun u hu=>by cases hu⟩
def act10 (b p q:Nat) (m:S_Matrix) (x0 x1 x2 x3 x4 x5:Int) (j0 j2 j3 j4 j5 j6 j8 j9 j10 j11 j12 j13 j14 j15 j16 j17 j18 j19 j20 j21 j22 j23 j24 j25 j26 j27 j28 j29 j30 j31 j32 j33 j34 j35 j36 j37 j38 j39 j40 j41 j42 j43 j44 j45 j46 j47 j48 j49 j50 j51 j52 j53 j54 j55 j56 j57 j58 j59 j60 j61 j62 j63 j64 j65 j66 j67 j68 j69 j70 j71 j72 j73 j74 j75 j76 j77 j78 j79 j80 j81 j82 j83 j84 j85 j86 j87:Value) (u:Value):Act:=⟨List.toArray (j0 :: (.pointer (some ⟨b,0,none⟩)) :: j2 :: j3 :: j4 :: j5 :: j6 :: (.func (.func 69) #[] #[.pointer (some ⟨p,0,none⟩),.pointer (some ⟨q,0,none⟩)]) :: u :: j9 :: j10 :: j11 :: j12 :: j13 :: j14 :: j15 :: j16 :: j17 :: j18 :: j19 :: j20 :: j21 :: j22 :: j23 :: j24 :: j25 :: j26 :: j27 :: j28 :: j29 :: j30 :: j31 :: j32 :: j33 :: (.func (.func 69) #[] #[.pointer (some ⟨p,0,none⟩),.pointer (some ⟨q,0,none⟩)]) :: (.pointer (some ⟨b,3,none⟩)) :: (.int .i64 m.f3) :: (.int .i64 (wrap64 (16777216 * m.f3))) :: (.int .i64 x0) :: (.func (.func 69) #[] #[.pointer (some ⟨p,0,none⟩),.pointer (some ⟨q,0,none⟩)]) :: (.pointer (some ⟨b,1,none⟩)) :: (.int .i64 m.f1) :: (.int .i64 (wrap64 ((-16777216) * m.f1))) :: (.int .i64 x1) :: (.func (.func 69) #[] #[.pointer (some ⟨p,0,none⟩),.pointer (some ⟨q,0,none⟩)]) :: (.pointer (some ⟨b,2,none⟩)) :: (.int .i64 m.f2) :: (.int .i64 (wrap64 ((-16777216) * m.f2))) :: (.int .i64 x2) :: (.func (.func 69) #[] #[.pointer (some ⟨p,0,none⟩),.pointer (some ⟨q,0,none⟩)]) :: (.pointer (some ⟨b,0,none⟩)) :: (.int .i64 m.f0) :: (.int .i64 (wrap64 (16777216 * m.f0))) :: (.int .i64 x3) :: (.func (.func 69) #[] #[.pointer (some ⟨p,0,none⟩),.pointer (some ⟨q,0,none⟩)]) :: (.pointer (some ⟨b,2,none⟩)) :: (.int .i64 m.f2) :: (.pointer (some ⟨b,5,none⟩)) :: (.int .i64 m.f5) :: (.int .i64 (wrap64 (m.f2 * m.f5))) :: (.pointer (some ⟨b,3,none⟩)) :: (.int .i64 m.f3) :: (.pointer (some ⟨b,4,none⟩)) :: (.int .i64 m.f4) :: (.int .i64 (wrap64 (m.f3 * m.f4))) :: (.int .i64 (wrap64 ((wrap64 (m.f2 * m.f5)) - (wrap64 (m.f3 * m.f4))))) :: (.int .i64 (wrap64 (4096 * (wrap64 ((wrap64 (m.f2 * m.f5)) - (wrap64 (m.f3 * m.f4))))))) :: (.int .i64 x4) :: (.func (.func 69) #[] #[.pointer (some ⟨p,0,none⟩),.pointer (some ⟨q,0,none⟩)]) :: (.pointer (some ⟨b,1,none⟩)) :: (.int .i64 m.f1) :: (.pointer (some ⟨b,4,none⟩)) :: (.int .i64 m.f4) :: (.int .i64 (wrap64 (m.f1 * m.f4))) :: (.pointer (some ⟨b,0,none⟩)) :: (.int .i64 m.f0) :: (.pointer (some ⟨b,5,none⟩)) :: (.int .i64 m.f5) :: (.int .i64 (wrap64 (m.f0 * m.f5))) :: (.int .i64 (wrap64 ((wrap64 (m.f1 * m.f4)) - (wrap64 (m.f0 * m.f5))))) :: (.int .i64 (wrap64 (4096 * (wrap64 ((wrap64 (m.f1 * m.f4)) - (wrap64 (m.f0 * m.f5))))))) :: (.int .i64 x5) :: (.agg #[.int .i64 x0,.int .i64 x1,.int .i64 x2,.int .i64 x3,.int .i64 x4,.int .i64 x5]) :: j83 :: j84 :: j85 :: j86 :: j87 :: []),[]⟩
set_option maxRecDepth 100000 in
set_option maxHeartbeats 4000000 in
theorem region10 {w2:World} {b p q F:Nat} {m:S_Matrix} {s d x0 x1 x2 x3 x4 x5:Int} (h0:num_Near F (wrap64 (s * (wrap64 (16777216 * m.f3)))) d=some x0) (h1:num_Near F (wrap64 (s * (wrap64 ((-16777216) * m.f1)))) d=some x1) (h2:num_Near F (wrap64 (s * (wrap64 ((-16777216) * m.f2)))) d=some x2) (h3:num_Near F (wrap64 (s * (wrap64 (16777216 * m.f0)))) d=some x3) (h4:num_Near F (wrap64 (s * (wrap64 (4096 * (wrap64 ((wrap64 (m.f2 * m.f5)) - (wrap64 (m.f3 * m.f4)))))))) d=some x4) (h5:num_Near F (wrap64 (s * (wrap64 (4096 * (wrap64 ((wrap64 (m.f1 * m.f4)) - (wrap64 (m.f0 * m.f5)))))))) d=some x5) {Q:Exit→Act→World→Prop} {j0 j2 j3 j4 j5 j6 j8 j9 j10 j11 j12 j13 j14 j15 j16 j17 j18 j19 j20 j21 j22 j23 j24 j25 j26 j27 j28 j29 j30 j31 j32 j33 j34 j35 j36 j37 j38 j39 j40 j41 j42 j43 j44 j45 j46 j47 j48 j49 j50 j51 j52 j53 j54 j55 j56 j57 j58 j59 j60 j61 j62 j63 j64 j65 j66 j67 j68 j69 j70 j71 j72 j73 j74 j75 j76 j77 j78 j79 j80 j81 j82 j83 j84 j85 j86 j87:Value} {w:World} (hS:S10 w2 b p q m s d none { w with drawn:=w.drawn+1 })
  (hQ:∀ n w,w2.heap.size≤n→w.heap[n]? = some (.cells #[.int .i64 x0,.int .i64 x1,.int .i64 x2,.int .i64 x3,.int .i64 x4,.int .i64 x5] 42 (0,0))→S10 w2 b p q m s d none w→Q .normal (act10 b p q m x0 x1 x2 x3 x4 x5 j0 j2 j3 j4 j5 j6 j8 j9 j10 j11 j12 j13 j14 j15 j16 j17 j18 j19 j20 j21 j22 j23 j24 j25 j26 j27 j28 j29 j30 j31 j32 j33 j34 j35 j36 j37 j38 j39 j40 j41 j42 j43 j44 j45 j46 j47 j48 j49 j50 j51 j52 j53 j54 j55 j56 j57 j58 j59 j60 j61 j62 j63 j64 j65 j66 j67 j68 j69 j70 j71 j72 j73 j74 j75 j76 j77 j78 j79 j80 j81 j82 j83 j84 j85 j86 j87 (.pointer (some ⟨n,0,none⟩))) w) :
  (regionAt Try.f53 10).wp Try.prog Q ⟨List.toArray (j0 :: (.pointer (some ⟨b,0,none⟩)) :: j2 :: j3 :: j4 :: j5 :: j6 :: (.func (.func 69) #[] #[.pointer (some ⟨p,0,none⟩),.pointer (some ⟨q,0,none⟩)]) :: j8 :: j9 :: j10 :: j11 :: j12 :: j13 :: j14 :: j15 :: j16 :: j17 :: j18 :: j19 :: j20 :: j21 :: j22 :: j23 :: j24 :: j25 :: j26 :: j27 :: j28 :: j29 :: j30 :: j31 :: j32 :: j33 :: j34 :: j35 :: j36 :: j37 :: j38 :: j39 :: j40 :: j41 :: j42 :: j43 :: j44 :: j45 :: j46 :: j47 :: j48 :: j49 :: j50 :: j51 :: j52 :: j53 :: j54 :: j55 :: j56 :: j57 :: j58 :: j59 :: j60 :: j61 :: j62 :: j63 :: j64 :: j65 :: j66 :: j67 :: j68 :: j69 :: j70 :: j71 :: j72 :: j73 :: j74 :: j75 :: j76 :: j77 :: j78 :: j79 :: j80 :: j81 :: j82 :: j83 :: j84 :: j85 :: j86 :: j87 :: []),[]⟩ w:=by
 show Code.wp _ (Code.region 10 _ true) _ _ _
 refine wp_region_det (n:=88) (af:=act10 b p q m x0 x1 x2 x3 x4 x5 j0 j2 j3 j4 j5 j6 j8 j9 j10 j11 j12 j13 j14 j15 j16 j17 j18 j19 j20 j21 j22 j23 j24 j25 j26 j27 j28 j29 j30 j31 j32 j33 j34 j35 j36 j37 j38 j39 j40 j41 j42 j43 j44 j45 j46 j47 j48 j49 j50 j51 j52 j53 j54 j55 j56 j57 j58 j59 j60 j61 j62 j63 j64 j65 j66 j67 j68 j69 j70 j71 j72 j73 j74 j75 j76 j77 j78 j79 j80 j81 j82 j83 j84 j85 j86 j87) (by kernel_rfl) 50 49 [(.func (.func 69) #[] #[.pointer (some ⟨p,0,none⟩),.pointer (some ⟨q,0,none⟩)]),(.pointer (some ⟨b,3,none⟩)),(.int .i64 m.f3),(.int .i64 (wrap64 (16777216 * m.f3))),(.int .i64 x0),(.func (.func 69) #[] #[.pointer (some ⟨p,0,none⟩),.pointer (some ⟨q,0,none⟩)]),(.pointer (some ⟨b,1,none⟩)),(.int .i64 m.f1),(.int .i64 (wrap64 ((-16777216) * m.f1))),(.int .i64 x1),(.func (.func 69) #[] #[.pointer (some ⟨p,0,none⟩),.pointer (some ⟨q,0,none⟩)]),(.pointer (some ⟨b,2,none⟩)),(.int .i64 m.f2),(.int .i64 (wrap64 ((-16777216) * m.f2))),(.int .i64 x2),(.func (.func 69) #[] #[.pointer (some ⟨p,0,none⟩),.pointer (some ⟨q,0,none⟩)]),(.pointer (some ⟨b,0,none⟩)),(.int .i64 m.f0),(.int .i64 (wrap64 (16777216 * m.f0))),(.int .i64 x3),(.func (.func 69) #[] #[.pointer (some ⟨p,0,none⟩),.pointer (some ⟨q,0,none⟩)]),(.pointer (some ⟨b,2,none⟩)),(.int .i64 m.f2),(.pointer (some ⟨b,5,none⟩)),(.int .i64 m.f5),(.int .i64 (wrap64 (m.f2 * m.f5))),(.pointer (some ⟨b,3,none⟩)),(.int .i64 m.f3),(.pointer (some ⟨b,4,none⟩)),(.int .i64 m.f4),(.int .i64 (wrap64 (m.f3 * m.f4))),(.int .i64 (wrap64 ((wrap64 (m.f2 * m.f5)) - (wrap64 (m.f3 * m.f4))))),(.int .i64 (wrap64 (4096 * (wrap64 ((wrap64 (m.f2 * m.f5)) - (wrap64 (m.f3 * m.f4))))))),(.int .i64 x4),(.func (.func 69) #[] #[.pointer (some ⟨p,0,none⟩),.pointer (some ⟨q,0,none⟩)]),(.pointer (some ⟨b,1,none⟩)),(.int .i64 m.f1),(.pointer (some ⟨b,4,none⟩)),(.int .i64 m.f4),(.int .i64 (wrap64 (m.f1 * m.f4))),(.pointer (some ⟨b,0,none⟩)),(.int .i64 m.f0),(.pointer (some ⟨b,5,none⟩)),(.int .i64 m.f5),(.int .i64 (wrap64 (m.f0 * m.f5))),(.int .i64 (wrap64 ((wrap64 (m.f1 * m.f4)) - (wrap64 (m.f0 * m.f5))))),(.int .i64 (wrap64 (4096 * (wrap64 ((wrap64 (m.f1 * m.f4)) - (wrap64 (m.f0 * m.f5))))))),(.int .i64 x5),(.agg #[.int .i64 x0,.int .i64 x1,.int .i64 x2,.int .i64 x3,.int .i64 x4,.int .i64 x5]),undef] (S10 w2 b p q m s d) (by kernel_rfl) (Nat.le_refl _) (fun x=>by kernel_rfl) hS (fun u x i o hi hic ho=>?_) (fun o _ ho w hw=>?_) fun fuel u w3 hf hS3=>?_
 ·unfold act10
  match i,hi,ho with
  | 0,_,ho=>obtain rfl:=Option.some.inj ho; intro w hw; exact .inl ⟨w,by go_simp,hw⟩
  | 1,_,ho=>obtain rfl:=Option.some.inj ho; intro w hw; exact .inl ⟨w,by go_simp,hw⟩
  | 2,_,ho=>obtain rfl:=Option.some.inj ho; intro w hw; have hc:w.cell? ⟨b,3,none⟩=some (.int .i64 m.f3):=hw.mat 3; exact .inl ⟨w,by go_simp,hw⟩
  | 3,_,ho=>obtain rfl:=Option.some.inj ho; intro w hw; exact .inl ⟨w,by go_simp; exact IntWalk.i64_left _,hw⟩
  | 4,_,ho=>obtain rfl:=Option.some.inj ho; intro w hw; exact .inr ⟨69,#[.int .i64 (wrap64 (16777216 * m.f3)),.pointer (some ⟨p,0,none⟩),.pointer (some ⟨q,0,none⟩)],w,by go_simp,(over_at w hw.sg hw.dt h0).mono fun e w' ⟨he,hb⟩=>⟨he,hw.next hb⟩⟩
  | 5,_,ho=>obtain rfl:=Option.some.inj ho; intro w hw; exact .inl ⟨w,by go_simp,hw⟩
  | 6,_,ho=>obtain rfl:=Option.some.inj ho; intro w hw; exact .inl ⟨w,by go_simp,hw⟩
  | 7,_,ho=>obtain rfl:=Option.some.inj ho; intro w hw; have hc:w.cell? ⟨b,1,none⟩=some (.int .i64 m.f1):=hw.mat 1; exact .inl ⟨w,by go_simp,hw⟩
  | 8,_,ho=>obtain rfl:=Option.some.inj ho; intro w hw; exact .inl ⟨w,by go_simp; exact IntWalk.i64_left _,hw⟩
  | 9,_,ho=>obtain rfl:=Option.some.inj ho; intro w hw; exact .inr ⟨69,#[.int .i64 (wrap64 ((-16777216) * m.f1)),.pointer (some ⟨p,0,none⟩),.pointer (some ⟨q,0,none⟩)],w,by go_simp,(over_at w hw.sg hw.dt h1).mono fun e w' ⟨he,hb⟩=>⟨he,hw.next hb⟩⟩
  | 10,_,ho=>obtain rfl:=Option.some.inj ho; intro w hw; exact .inl ⟨w,by go_simp,hw⟩
  | 11,_,ho=>obtain rfl:=Option.some.inj ho; intro w hw; exact .inl ⟨w,by go_simp,hw⟩
  | 12,_,ho=>obtain rfl:=Option.some.inj ho; intro w hw; have hc:w.cell? ⟨b,2,none⟩=some (.int .i64 m.f2):=hw.mat 2; exact .inl ⟨w,by go_simp,hw⟩
  | 13,_,ho=>obtain rfl:=Option.some.inj ho; intro w hw; exact .inl ⟨w,by go_simp; exact IntWalk.i64_left _,hw⟩
  | 14,_,ho=>obtain rfl:=Option.some.inj ho; intro w hw; exact .inr ⟨69,#[.int .i64 (wrap64 ((-16777216) * m.f2)),.pointer (some ⟨p,0,none⟩),.pointer (some ⟨q,0,none⟩)],w,by go_simp,(over_at w hw.sg hw.dt h2).mono fun e w' ⟨he,hb⟩=>⟨he,hw.next hb⟩⟩
  | 15,_,ho=>obtain rfl:=Option.some.inj ho; intro w hw; exact .inl ⟨w,by go_simp,hw⟩
  | 16,_,ho=>obtain rfl:=Option.some.inj ho; intro w hw; exact .inl ⟨w,by go_simp,hw⟩
  | 17,_,ho=>obtain rfl:=Option.some.inj ho; intro w hw; have hc:w.cell? ⟨b,0,none⟩=some (.int .i64 m.f0):=hw.mat 0; exact .inl ⟨w,by go_simp,hw⟩
  | 18,_,ho=>obtain rfl:=Option.some.inj ho; intro w hw; exact .inl ⟨w,by go_simp; exact IntWalk.i64_left _,hw⟩
  | 19,_,ho=>obtain rfl:=Option.some.inj ho; intro w hw; exact .inr ⟨69,#[.int .i64 (wrap64 (16777216 * m.f0)),.pointer (some ⟨p,0,none⟩),.pointer (some ⟨q,0,none⟩)],w,by go_simp,(over_at w hw.sg hw.dt h3).mono fun e w' ⟨he,hb⟩=>⟨he,hw.next hb⟩⟩
  | 20,_,ho=>obtain rfl:=Option.some.inj ho; intro w hw; exact .inl ⟨w,by go_simp,hw⟩
  | 21,_,ho=>obtain rfl:=Option.some.inj ho; intro w hw; exact .inl ⟨w,by go_simp,hw⟩
  | 22,_,ho=>obtain rfl:=Option.some.inj ho; intro w hw; have hc:w.cell? ⟨b,2,none⟩=some (.int .i64 m.f2):=hw.mat 2; exact .inl ⟨w,by go_simp,hw⟩
  | 23,_,ho=>obtain rfl:=Option.some.inj ho; intro w hw; exact .inl ⟨w,by go_simp,hw⟩
  | 24,_,ho=>obtain rfl:=Option.some.inj ho; intro w hw; have hc:w.cell? ⟨b,5,none⟩=some (.int .i64 m.f5):=hw.mat 5; exact .inl ⟨w,by go_simp,hw⟩
  | 25,_,ho=>obtain rfl:=Option.some.inj ho; intro w hw; exact .inl ⟨w,by go_simp; exact IntWalk.i64_left _,hw⟩
  | 26,_,ho=>obtain rfl:=Option.some.inj ho; intro w hw; exact .inl ⟨w,by go_simp,hw⟩
  | 27,_,ho=>obtain rfl:=Option.some.inj ho; intro w hw; have hc:w.cell? ⟨b,3,none⟩=some (.int .i64 m.f3):=hw.mat 3; exact .inl ⟨w,by go_simp,hw⟩
  | 28,_,ho=>obtain rfl:=Option.some.inj ho; intro w hw; exact .inl ⟨w,by go_simp,hw⟩
  | 29,_,ho=>obtain rfl:=Option.some.inj ho; intro w hw; have hc:w.cell? ⟨b,4,none⟩=some (.int .i64 m.f4):=hw.mat 4; exact .inl ⟨w,by go_simp,hw⟩
  | 30,_,ho=>obtain rfl:=Option.some.inj ho; intro w hw; exact .inl ⟨w,by go_simp; exact IntWalk.i64_left _,hw⟩
  | 31,_,ho=>obtain rfl:=Option.some.inj ho; intro w hw; exact .inl ⟨w,by go_simp; exact IntWalk.i64_left _,hw⟩
  | 32,_,ho=>obtain rfl:=Option.some.inj ho; intro w hw; exact .inl ⟨w,by go_simp; exact IntWalk.i64_left _,hw⟩
  | 33,_,ho=>obtain rfl:=Option.some.inj ho; intro w hw; exact .inr ⟨69,#[.int .i64 (wrap64 (4096 * (wrap64 ((wrap64 (m.f2 * m.f5)) - (wrap64 (m.f3 * m.f4)))))),.pointer (some ⟨p,0,none⟩),.pointer (some ⟨q,0,none⟩)],w,by go_simp,(over_at w hw.sg hw.dt h4).mono fun e w' ⟨he,hb⟩=>⟨he,hw.next hb⟩⟩
  | 34,_,ho=>obtain rfl:=Option.some.inj ho; intro w hw; exact .inl ⟨w,by go_simp,hw⟩
  | 35,_,ho=>obtain rfl:=Option.some.inj ho; intro w hw; exact .inl ⟨w,by go_simp,hw⟩
  | 36,_,ho=>obtain rfl:=Option.some.inj ho; intro w hw; have hc:w.cell? ⟨b,1,none⟩=some (.int .i64 m.f1):=hw.mat 1; exact .inl ⟨w,by go_simp,hw⟩
  | 37,_,ho=>obtain rfl:=Option.some.inj ho; intro w hw; exact .inl ⟨w,by go_simp,hw⟩
  | 38,_,ho=>obtain rfl:=Option.some.inj ho; intro w hw; have hc:w.cell? ⟨b,4,none⟩=some (.int .i64 m.f4):=hw.mat 4; exact .inl ⟨w,by go_simp,hw⟩
  | 39,_,ho=>obtain rfl:=Option.some.inj ho; intro w hw; exact .inl ⟨w,by go_simp; exact IntWalk.i64_left _,hw⟩
  | 40,_,ho=>obtain rfl:=Option.some.inj ho; intro w hw; exact .inl ⟨w,by go_simp,hw⟩
  | 41,_,ho=>obtain rfl:=Option.some.inj ho; intro w hw; have hc:w.cell? ⟨b,0,none⟩=some (.int .i64 m.f0):=hw.mat 0; exact .inl ⟨w,by go_simp,hw⟩
  | 42,_,ho=>obtain rfl:=Option.some.inj ho; intro w hw; exact .inl ⟨w,by go_simp,hw⟩
  | 43,_,ho=>obtain rfl:=Option.some.inj ho; intro w hw; have hc:w.cell? ⟨b,5,none⟩=some (.int .i64 m.f5):=hw.mat 5; exact .inl ⟨w,by go_simp,hw⟩
  | 44,_,ho=>obtain rfl:=Option.some.inj ho; intro w hw; exact .inl ⟨w,by go_simp; exact IntWalk.i64_left _,hw⟩
  | 45,_,ho=>obtain rfl:=Option.some.inj ho; intro w hw; exact .inl ⟨w,by go_simp; exact IntWalk.i64_left _,hw⟩
  | 46,_,ho=>obtain rfl:=Option.some.inj ho; intro w hw; exact .inl ⟨w,by go_simp; exact IntWalk.i64_left _,hw⟩
  | 47,_,ho=>obtain rfl:=Option.some.inj ho; intro w hw; exact .inr ⟨69,#[.int .i64 (wrap64 (4096 * (wrap64 ((wrap64 (m.f1 * m.f4)) - (wrap64 (m.f0 * m.f5)))))),.pointer (some ⟨p,0,none⟩),.pointer (some ⟨q,0,none⟩)],w,by go_simp,(over_at w hw.sg hw.dt h5).mono fun e w' ⟨he,hb⟩=>⟨he,hw.next hb⟩⟩
  | 48,_,ho=>obtain rfl:=Option.some.inj ho; intro w hw; exact .inl ⟨w,by go_simp,hw⟩
  | 49,_,_=>exact absurd rfl hic
  | i+50,hi,_=>exact absurd hi (by omega)
 ·obtain rfl:=Option.some.inj ho
  exact ⟨_,_,by unfold act10; go_simp,hw.new⟩
 ·obtain ⟨n,rfl,hn,hc⟩:=(show S10 w2 b p q m s d (some u) w3 from hS3).nb u rfl
  refine wpAny_last rfl rfl (by kernel_rfl) (by kernel_rfl) hf ?_
  have hR:=cell_of hc
  have hf:=frz_of hc
  have hb:=below6 hS3.below hn (.int .i64 x0) (.int .i64 x1) (.int .i64 x2) (.int .i64 x3) (.int .i64 x4) (.int .i64 x5)
  have h6:=set6 hc (.int .i64 x0) (.int .i64 x1) (.int .i64 x2) (.int .i64 x3) (.int .i64 x4) (.int .i64 x5)
  have hQ:=hQ n _ hn h6 ⟨hb,hS3.hb,hS3.hp,hS3.hq,fun u hu=>by cases hu⟩
  unfold act10 at hQ ⊢
  go_wp2
  exact hQ
end Go.Vm.TopG
