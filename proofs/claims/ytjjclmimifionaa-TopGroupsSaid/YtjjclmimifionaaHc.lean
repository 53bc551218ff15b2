/-
  affine.Invert,by hand: the map has an inverse.
-/
import Derived.Test.YtjjclmimifionaaHb
namespace Go.Vm.TopG
open Go.Proofs
open Go.RowKit
set_option maxRecDepth 100000 in
set_option maxHeartbeats 4000000 in
theorem Invert_main (W:World) {F:Nat} {m:S_Matrix} {det d s x0 x1 x2 x3 x4 x5 e2:Int} (he1:affine_Check F m=some 0) (hdet:wrap64 (wrap64 (m.f0 * m.f3) - wrap64 (m.f1 * m.f2))=det) (hne:¬ det=0)
  (hpos:¬ det < 0) (hd:det=d) (hs:s=1) (h0:num_Near F (wrap64 (s * (wrap64 (16777216 * m.f3)))) d=some x0) (h1:num_Near F (wrap64 (s * (wrap64 ((-16777216) * m.f1)))) d=some x1) (h2:num_Near F (wrap64 (s * (wrap64 ((-16777216) * m.f2)))) d=some x2) (h3:num_Near F (wrap64 (s * (wrap64 (16777216 * m.f0)))) d=some x3) (h4:num_Near F (wrap64 (s * (wrap64 (4096 * (wrap64 ((wrap64 (m.f2 * m.f5)) - (wrap64 (m.f3 * m.f4)))))))) d=some x4) (h5:num_Near F (wrap64 (s * (wrap64 (4096 * (wrap64 ((wrap64 (m.f1 * m.f4)) - (wrap64 (m.f0 * m.f5)))))))) d=some x5)
  (he2:affine_Check F ⟨x0,x1,x2,x3,x4,x5⟩=some e2) {v:S_Matrix} {r:Int} (hbad:¬ e2=0→v=mat0∧r=10) (hgood:e2=0→v=⟨x0,x1,x2,x3,x4,x5⟩∧r=0) :
  Calls Try.prog 53 #[matV m] W fun e W'=>e=.returned (.tuple #[matV v,.int .i64 r])∧Below W.heap.size W W':=by
 have h00:∀ o p,Below W.heap.size W ((W.alloc o).alloc p):=fun o p=>((Below.refl _ _).alloc (Nat.le_refl _) o).alloc (by simp) p
 unfold matV matA
 go_enter Try.func53,Try.ntmps53
 go_wp2_with (go_at_fn 68)
 refine (MCheck_at _ he1).mono ?_
 rintro e w1 ⟨rfl,hb1⟩
 obtain ⟨hA,hR⟩:=two_new W (.cells #[.int .i64 m.f0,.int .i64 m.f1,.int .i64 m.f2,.int .i64 m.f3,.int .i64 m.f4,.int .i64 m.f5] 42 (0,0)) (.cells #[.int .i64 0,.int .i64 0,.int .i64 0,.int .i64 0,.int .i64 0,.int .i64 0] 42 (0,0))
 have hR1:=(hb1.block _ (heap_lt hR)).trans hR
 have hA1:=(hb1.block _ (heap_lt hA)).trans hA
 have hRc:=cell_of hR1
 have hRf:=frz_of hR1
 have hAc:=cell_of hA1
 have hB1:=(h00 _ _).trans (hb1.mono (h00 _ _).size)
 subst hs
 go_wp2
 rename_i K hK
 obtain ⟨hP,hQ⟩:=two_new w1 (.cells #[.int .i64 d] 3 (0,0)) (.cells #[.int .i64 1] 3 (0,0))
 have hB2:=((Below.refl w1.heap.size w1).alloc (Nat.le_refl _) (.cells #[.int .i64 d] 3 (0,0))).alloc (by simp) (.cells #[.int .i64 1] 3 (0,0))
 have hA2:=(hB2.block _ (heap_lt hA1)).trans hA1
 have hR2:=(hB2.block _ (heap_lt hR1)).trans hR1
 have hB3:=hB1.trans (hB2.mono hB1.size)
 clear hRc hRf hAc hR hA hb1
 revert hP hQ hA2 hR2 hB3
 generalize (w1.alloc (.cells #[.int .i64 d] 3 (0,0))).alloc (.cells #[.int .i64 1] 3 (0,0))=w2
 intro hP hQ hA2 hR2 hB3
 show (regionAt Try.f53 10).wp _ _ _ _
 refine region10 (w:=w2) (w2:={ w2 with drawn:=w2.drawn+1 }) (b:=W.heap.size) (p:=w1.heap.size+1) (q:=w1.heap.size) h0 h1 h2 h3 h4 h5 ⟨Below.refl _ _,hA2,hQ,hP,fun u hu=>by cases hu⟩ ?_
 intro n w hn hc hS
 refine hK _ _ ?_
 have hB4:=(hB3.trans (⟨rfl,rfl,rfl,Nat.le_refl _,fun _ _=>rfl⟩:Below W.heap.size w2 { w2 with drawn:=w2.drawn+1 })).trans (hS.below.mono (hB3.size))
 have hR4:=(hS.below.block _ (heap_lt hR2)).trans hR2
 have hNc:=cell_of hc
 unfold act10
 go_wp2_with (go_at_fn 68)
 refine (MCheck_at _ he2).mono ?_
 rintro e w5 ⟨rfl,hb5⟩
 have hR5:=(hb5.block _ (heap_lt hR4)).trans hR4
 have hRc:=cell_of hR5
 have hRf:=frz_of hR5
 have hN5:=(hb5.block _ (heap_lt hc)).trans hc
 have hNc:=cell_of hN5
 have hB5:=hB4.trans (hb5.mono hB4.size)
 go_wp2
 ·rename_i h
  obtain ⟨rfl,rfl⟩:=hbad (by simpa using h)
  have hF:=set6 hR5 (.int .i64 0) (.int .i64 0) (.int .i64 0) (.int .i64 0) (.int .i64 0) (.int .i64 0)
  have hb9:=below6 hB5 (Nat.le_succ W.heap.size) (.int .i64 0) (.int .i64 0) (.int .i64 0) (.int .i64 0) (.int .i64 0) (.int .i64 0)
  revert hF hb9
  generalize World.setCell (World.setCell (World.setCell (World.setCell (World.setCell (World.setCell _ _ _) _ _) _ _) _ _) _ _) _ _=wF
  intro hF hb9
  exact ret_mat hF rfl rfl rfl ⟨rfl,hb9⟩
 ·rename_i h
  obtain ⟨rfl,rfl⟩:=hgood (by simpa using h)
  have hF:=set6 hR5 (.int .i64 x0) (.int .i64 x1) (.int .i64 x2) (.int .i64 x3) (.int .i64 x4) (.int .i64 x5)
  have hb9:=below6 hB5 (Nat.le_succ W.heap.size) (.int .i64 x0) (.int .i64 x1) (.int .i64 x2) (.int .i64 x3) (.int .i64 x4) (.int .i64 x5)
  revert hF hb9
  generalize World.setCell (World.setCell (World.setCell (World.setCell (World.setCell (World.setCell _ _ _) _ _) _ _) _ _) _ _) _ _=wF
  intro hF hb9
  exact ret_mat hF rfl rfl rfl ⟨rfl,hb9⟩
set_option maxRecDepth 100000 in
set_option maxHeartbeats 4000000 in
theorem Invert_neg (W:World) {F:Nat} {m:S_Matrix} {det d s x0 x1 x2 x3 x4 x5 e2:Int} (he1:affine_Check F m=some 0) (hdet:wrap64 (wrap64 (m.f0 * m.f3) - wrap64 (m.f1 * m.f2))=det) (hne:¬ det=0)
  (hpos:det < 0) (hd:wrap64 (-det)=d) (hs:s = -1) (h0:num_Near F (wrap64 (s * (wrap64 (16777216 * m.f3)))) d=some x0) (h1:num_Near F (wrap64 (s * (wrap64 ((-16777216) * m.f1)))) d=some x1) (h2:num_Near F (wrap64 (s * (wrap64 ((-16777216) * m.f2)))) d=some x2) (h3:num_Near F (wrap64 (s * (wrap64 (16777216 * m.f0)))) d=some x3) (h4:num_Near F (wrap64 (s * (wrap64 (4096 * (wrap64 ((wrap64 (m.f2 * m.f5)) - (wrap64 (m.f3 * m.f4)))))))) d=some x4) (h5:num_Near F (wrap64 (s * (wrap64 (4096 * (wrap64 ((wrap64 (m.f1 * m.f4)) - (wrap64 (m.f0 * m.f5)))))))) d=some x5)
  (he2:affine_Check F ⟨x0,x1,x2,x3,x4,x5⟩=some e2) {v:S_Matrix} {r:Int} (hbad:¬ e2=0→v=mat0∧r=10) (hgood:e2=0→v=⟨x0,x1,x2,x3,x4,x5⟩∧r=0) :
  Calls Try.prog 53 #[matV m] W fun e W'=>e=.returned (.tuple #[matV v,.int .i64 r])∧Below W.heap.size W W':=by
 have h00:∀ o p,Below W.heap.size W ((W.alloc o).alloc p):=fun o p=>((Below.refl _ _).alloc (Nat.le_refl _) o).alloc (by simp) p
 unfold matV matA
 go_enter Try.func53,Try.ntmps53
 go_wp2_with (go_at_fn 68)
 refine (MCheck_at _ he1).mono ?_
 rintro e w1 ⟨rfl,hb1⟩
 obtain ⟨hA,hR⟩:=two_new W (.cells #[.int .i64 m.f0,.int .i64 m.f1,.int .i64 m.f2,.int .i64 m.f3,.int .i64 m.f4,.int .i64 m.f5] 42 (0,0)) (.cells #[.int .i64 0,.int .i64 0,.int .i64 0,.int .i64 0,.int .i64 0,.int .i64 0] 42 (0,0))
 have hR1:=(hb1.block _ (heap_lt hR)).trans hR
 have hA1:=(hb1.block _ (heap_lt hA)).trans hA
 have hRc:=cell_of hR1
 have hRf:=frz_of hR1
 have hAc:=cell_of hA1
 have hB1:=(h00 _ _).trans (hb1.mono (h00 _ _).size)
 subst hs
 go_wp2
 rename_i K hK
 obtain ⟨hP,hQ⟩:=two_new w1 (.cells #[.int .i64 d] 3 (0,0)) (.cells #[.int .i64 (-1)] 3 (0,0))
 have hB2:=((Below.refl w1.heap.size w1).alloc (Nat.le_refl _) (.cells #[.int .i64 d] 3 (0,0))).alloc (by simp) (.cells #[.int .i64 (-1)] 3 (0,0))
 have hA2:=(hB2.block _ (heap_lt hA1)).trans hA1
 have hR2:=(hB2.block _ (heap_lt hR1)).trans hR1
 have hB3:=hB1.trans (hB2.mono hB1.size)
 clear hRc hRf hAc hR hA hb1
 revert hP hQ hA2 hR2 hB3
 generalize (w1.alloc (.cells #[.int .i64 d] 3 (0,0))).alloc (.cells #[.int .i64 (-1)] 3 (0,0))=w2
 intro hP hQ hA2 hR2 hB3
 show (regionAt Try.f53 10).wp _ _ _ _
 refine region10 (w:=w2) (w2:={ w2 with drawn:=w2.drawn+1 }) (b:=W.heap.size) (p:=w1.heap.size+1) (q:=w1.heap.size) h0 h1 h2 h3 h4 h5 ⟨Below.refl _ _,hA2,hQ,hP,fun u hu=>by cases hu⟩ ?_
 intro n w hn hc hS
 refine hK _ _ ?_
 have hB4:=(hB3.trans (⟨rfl,rfl,rfl,Nat.le_refl _,fun _ _=>rfl⟩:Below W.heap.size w2 { w2 with drawn:=w2.drawn+1 })).trans (hS.below.mono (hB3.size))
 have hR4:=(hS.below.block _ (heap_lt hR2)).trans hR2
 have hNc:=cell_of hc
 unfold act10
 go_wp2_with (go_at_fn 68)
 refine (MCheck_at _ he2).mono ?_
 rintro e w5 ⟨rfl,hb5⟩
 have hR5:=(hb5.block _ (heap_lt hR4)).trans hR4
 have hRc:=cell_of hR5
 have hRf:=frz_of hR5
 have hN5:=(hb5.block _ (heap_lt hc)).trans hc
 have hNc:=cell_of hN5
 have hB5:=hB4.trans (hb5.mono hB4.size)
 go_wp2
 ·rename_i h
  obtain ⟨rfl,rfl⟩:=hbad (by simpa using h)
  have hF:=set6 hR5 (.int .i64 0) (.int .i64 0) (.int .i64 0) (.int .i64 0) (.int .i64 0) (.int .i64 0)
  have hb9:=below6 hB5 (Nat.le_succ W.heap.size) (.int .i64 0) (.int .i64 0) (.int .i64 0) (.int .i64 0) (.int .i64 0) (.int .i64 0)
  revert hF hb9
  generalize World.setCell (World.setCell (World.setCell (World.setCell (World.setCell (World.setCell _ _ _) _ _) _ _) _ _) _ _) _ _=wF
  intro hF hb9
  exact ret_mat hF rfl rfl rfl ⟨rfl,hb9⟩
 ·rename_i h
  obtain ⟨rfl,rfl⟩:=hgood (by simpa using h)
  have hF:=set6 hR5 (.int .i64 x0) (.int .i64 x1) (.int .i64 x2) (.int .i64 x3) (.int .i64 x4) (.int .i64 x5)
  have hb9:=below6 hB5 (Nat.le_succ W.heap.size) (.int .i64 x0) (.int .i64 x1) (.int .i64 x2) (.int .i64 x3) (.int .i64 x4) (.int .i64 x5)
  revert hF hb9
  generalize World.setCell (World.setCell (World.setCell (World.setCell (World.setCell (World.setCell _ _ _) _ _) _ _) _ _) _ _) _ _=wF
  intro hF hb9
  exact ret_mat hF rfl rfl rfl ⟨rfl,hb9⟩
set_option maxRecDepth 100000 in
set_option maxHeartbeats 4000000 in
theorem Invert_zero (W:World) {F:Nat} {m:S_Matrix} (he1:affine_Check F m=some 0) (hdet:wrap64 (wrap64 (m.f0 * m.f3) - wrap64 (m.f1 * m.f2))=0) :
  Calls Try.prog 53 #[matV m] W fun e W'=>e=.returned (.tuple #[matV mat0,.int .i64 8])∧Below W.heap.size W W':=by
 have h00:∀ o p,Below W.heap.size W ((W.alloc o).alloc p):=fun o p=>((Below.refl _ _).alloc (Nat.le_refl _) o).alloc (by simp) p
 unfold matV matA
 go_enter Try.func53,Try.ntmps53
 go_wp2_with (go_at_fn 68)
 refine (MCheck_at _ he1).mono ?_
 rintro e w1 ⟨rfl,hb1⟩
 obtain ⟨hA,hR⟩:=two_new W (.cells #[.int .i64 m.f0,.int .i64 m.f1,.int .i64 m.f2,.int .i64 m.f3,.int .i64 m.f4,.int .i64 m.f5] 42 (0,0)) (.cells #[.int .i64 0,.int .i64 0,.int .i64 0,.int .i64 0,.int .i64 0,.int .i64 0] 42 (0,0))
 have hR1:=(hb1.block _ (heap_lt hR)).trans hR
 have hA1:=(hb1.block _ (heap_lt hA)).trans hA
 have hRc:=cell_of hR1
 have hRf:=frz_of hR1
 have hAc:=cell_of hA1
 have hB1:=(h00 _ _).trans (hb1.mono (h00 _ _).size)
 have hB2:=((Below.refl w1.heap.size w1).alloc (Nat.le_refl _) (.cells #[.int .i64 0] 3 (0,0))).alloc (by simp) (.cells #[.int .i64 1] 3 (0,0))
 have hR2:=(hB2.block _ (heap_lt hR1)).trans hR1
 have hB3:=hB1.trans (hB2.mono hB1.size)
 have hRc2:=cell_of hR2
 have hRf2:=frz_of hR2
 clear hRc hRf
 go_wp2
 revert hR2 hB3
 generalize (w1.alloc (.cells #[.int .i64 0] 3 (0,0))).alloc (.cells #[.int .i64 1] 3 (0,0))=w2
 intro hR2 hB3
 have hF:=set6 hR2 (.int .i64 0) (.int .i64 0) (.int .i64 0) (.int .i64 0) (.int .i64 0) (.int .i64 0)
 have hb9:=below6 hB3 (Nat.le_succ W.heap.size) (.int .i64 0) (.int .i64 0) (.int .i64 0) (.int .i64 0) (.int .i64 0) (.int .i64 0)
 revert hF hb9
 generalize World.setCell (World.setCell (World.setCell (World.setCell (World.setCell (World.setCell _ _ _) _ _) _ _) _ _) _ _) _ _=wF
 intro hF hb9
 exact ret_mat hF rfl rfl rfl ⟨rfl,hb9⟩
theorem wrap64_eq (x:Int):IntKind.i64.wrap x=wrap64 x:=IntWalk.i64_left x
theorem Invert_at (W:World) {F:Nat} {m:S_Matrix} {r:S_Matrix×Int} (h:affine_Invert F m=some r):Calls Try.prog 53 #[matV m] W fun e W'=>e=.returned (.tuple #[matV r.1,.int .i64 r.2])∧Below W.heap.size W W':=by
 unfold affine_Invert invF at h
 simp only [wrap64_eq] at h
 obtain ⟨e1,he1,h⟩:=call_ok h
 by_cases hz:e1=0
 case neg =>
  rw [show (e1 != 0)=true by simpa using hz] at h
  cases h
  exact Invert_bad W he1 hz
 subst hz
 rw [show ((0:Int) != 0)=false from rfl,cond_false] at h
 obtain ⟨det,hdet,h⟩:=lett_ok h
 by_cases hz:det=0
 case pos =>
  subst hz
  rw [show ((0:Int) == 0)=true from rfl] at h
  cases h
  exact Invert_zero W he1 hdet
 rw [show (det == 0)=false by simpa using hz,cond_false] at h
 obtain ⟨d,hd,h⟩:=lett_ok h
 obtain ⟨s,hs,h⟩:=lett_ok h
 obtain ⟨x0,h0,h⟩:=call_ok h
 obtain ⟨x1,h1,h⟩:=call_ok h
 obtain ⟨x2,h2,h⟩:=call_ok h
 obtain ⟨x3,h3,h⟩:=call_ok h
 obtain ⟨x4,h4,h⟩:=call_ok h
 obtain ⟨x5,h5,h⟩:=call_ok h
 obtain ⟨e2,he2,h⟩:=call_ok h
 have hbad:¬ e2=0→r.1=mat0∧r.2=10:=fun hn=>by
  rw [show (e2 != 0)=true by simpa using hn] at h
  cases h
  exact ⟨rfl,rfl⟩
 have hgood:e2=0→r.1=⟨x0,x1,x2,x3,x4,x5⟩∧r.2=0:=fun hn=>by
  subst hn
  cases h
  exact ⟨rfl,rfl⟩
 by_cases hp:det < 0
 ·rw [show decide (det < 0)=true by simpa using hp] at hd hs
  exact Invert_neg W he1 hdet hz hp hd hs.symm h0 h1 h2 h3 h4 h5 he2 hbad hgood
 ·rw [show decide (det < 0)=false by simpa using hp] at hd hs
  exact Invert_main W he1 hdet hz hp hd hs.symm h0 h1 h2 h3 h4 h5 he2 hbad hgood
end Go.Vm.TopG
