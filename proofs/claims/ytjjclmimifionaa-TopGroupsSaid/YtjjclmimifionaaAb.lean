/-
  compose.Between,by hand.
-/
import Derived.Test.YtjjclmimifionaaAa
import Derived.Test.YtjjclmimifionaaVmD
namespace Go.Vm.TopG
open Go.Proofs
open Go.RowKit
def z9:Array Value:=#[.int .u8 0,.int .u8 0,.int .u8 0,.int .u8 0,.int .u8 0,.int .u8 0,.int .u8 0,.int .u8 0,.int .u8 0]
theorem betweenC_cases {F:Nat} {a b r:S_State} {t:Int} (h:betweenC F a b t=some r) :
  ∃ p q z,wrap64 (wrap64 ((255 - t) % 256) * wrap64 a.f0)=p∧wrap64 (wrap64 t * wrap64 b.f0)=q∧num_Near F (wrap64 (p+q)) 255=some z ∧
   ((z % 256=0∧r=⟨0,ink0⟩)∨(¬ z % 256=0∧∃ v,(∀ j,j < 8→betw1 F p q (ink a.f1 j) (ink b.f1 j)=some (ink v j))∧r=⟨z % 256,v⟩)):=by
 unfold betweenC at h
 simp only [wrap64_eq,u8w] at h
 obtain ⟨p,hp,h⟩:=lett_ok h
 obtain ⟨q,hq,h⟩:=lett_ok h
 obtain ⟨z,hz,h⟩:=call_ok h
 refine ⟨p,q,z,hp,hq,hz,?_⟩
 by_cases h0:z % 256=0
 ·rw [show (z % 256 == 0)=true by simpa using h0] at h
  cases h
  exact .inl ⟨h0,rfl⟩
 ·rw [show (z % 256 == 0)=false by simpa using h0,cond_false] at h
  obtain ⟨v,hv,h⟩:=call_ok h
  cases h
  exact .inr ⟨h0,v,inkM_get hv,rfl⟩
theorem betw1_cases {F:Nat} {p q c i x:Int} (h:betw1 F p q c i=some x):∃ y,num_Near F (wrap64 (wrap64 (p * wrap64 c)+wrap64 (q * wrap64 i))) (wrap64 (p+q))=some y∧x=IntKind.u8.wrap y:=by
 unfold betw1 at h
 simp only [wrap64_eq] at h
 obtain ⟨y,hy,h⟩:=call_ok h
 cases h
 exact ⟨y,hy,rfl⟩
theorem stA_get (s:S_State) {j:Nat} (hj:j < 8):(stA s)[1+j]? = some (.int .u8 (ink s.f1 j)):=by
 obtain rfl | rfl | rfl | rfl | rfl | rfl | rfl | rfl:j=0∨j=1∨j=2∨j=3∨j=4∨j=5∨j=6∨j=7:=by omega
 all_goals rfl
structure BtSt (W:World) (N:Nat) (a b:S_State) (v:S_Inks) (zz:Int) (j:Nat) (w:World):Prop where
 below:Below W.heap.size W w
 hA:w.heap[W.heap.size]? = some (.cells (stA a) 83 (0,0))
 hB:w.heap[W.heap.size+1]? = some (.cells (stA b) 83 (0,0))
 hO:w.heap[W.heap.size+1+1]? = some (.cells z9 83 (0,0))
 hN:w.heap[N]? = some (.cells (part8 zz v j) 83 (0,0))
 lt:W.heap.size+1+1 < N
theorem BtSt.put {W w:World} {N j:Nat} {a b:S_State} {v:S_Inks} {zz:Int} (h:BtSt W N a b v zz j w) (hj:j < 8):BtSt W N a b v zz (j+1) (w.setCell ⟨N,1+j,none⟩ (.int .u8 (ink v j))):=by
 have hlt:=h.lt
 refine ⟨h.below.setCell (show W.heap.size≤N by omega) _,(Below.heap_setCell _ _ _ _ (show W.heap.size≠N by omega)).trans h.hA,(Below.heap_setCell _ _ _ _ (show W.heap.size+1≠N by omega)).trans h.hB,(Below.heap_setCell _ _ _ _ (show W.heap.size+1+1≠N by omega)).trans h.hO,?_,h.lt⟩
 have:=setCell_get w N (1+j) (.int .u8 (ink v j)) h.hN
 rw [part8_set zz v hj] at this
 exact this
theorem BtSt.next {W w w':World} {N j:Nat} {a b:S_State} {v:S_Inks} {zz:Int} (h:BtSt W N a b v zz j w) (hb:Below w.heap.size w w'):BtSt W N a b v zz j w' :=
 ⟨h.below.trans (hb.mono h.below.size),(hb.block _ (heap_lt h.hA)).trans h.hA,(hb.block _ (heap_lt h.hB)).trans h.hB,(hb.block _ (heap_lt h.hO)).trans h.hO,(hb.block _ (heap_lt h.hN)).trans h.hN,h.lt⟩
set_option maxRecDepth 100000 in
set_option maxHeartbeats 4000000 in
theorem Between_main (W:World) {F:Nat} {a b:S_State} {t p q z:Int} (hp:wrap64 (wrap64 ((255 - t) % 256) * wrap64 a.f0)=p) (hq:wrap64 (wrap64 t * wrap64 b.f0)=q) (hz:num_Near F (wrap64 (p+q)) 255=some z) {v:S_Inks} (h0:¬ z % 256=0) (hv:∀ j,j < 8→betw1 F p q (ink a.f1 j) (ink b.f1 j)=some (ink v j)) :
  Calls Try.prog 67 #[stV a,stV b,.int .u8 t] W fun e W'=>e=.returned (stV ⟨z % 256,v⟩)∧Below W.heap.size W W':=by
 have HV:Aside (∀ j,j < 8→betw1 F p q (ink a.f1 j) (ink b.f1 j)=some (ink v j)):=hv
 clear hv
 unfold stV stA
 go_enter Try.func67,Try.ntmps67
 obtain ⟨h1,h2,h3,hb⟩:=three_new W (.cells (stA a) 83 (0,0)) (.cells (stA b) 83 (0,0)) (.cells z9 83 (0,0))
 unfold stA z9 at h1 h2 h3 hb
 go_wp2
 revert h1 h2 h3 hb
 generalize (World.alloc (World.alloc (World.alloc W _) _) _)=w0
 intro h1 h2 h3 hb
 rename_i K hK
 have hA:∀ w,Below w0.heap.size w0 w→∀ i,w.cell? ⟨W.heap.size,i,none⟩=(stA a)[i]? := fun w hw i=>cell_of ((hw.block _ (heap_lt h1)).trans h1) i
 have hB:∀ w,Below w0.heap.size w0 w→∀ i,w.cell? ⟨W.heap.size+1,i,none⟩=(stA b)[i]? := fun w hw i=>cell_of ((hw.block _ (heap_lt h2)).trans h2) i
 unfold stA at hA hB
 refine wp_region_chain0 15 (fun w=>Below w0.heap.size w0 w) (by kernel_rfl) (by kernel_rfl) rfl (by kernel_rfl) ⟨rfl,rfl,rfl,Nat.le_refl _,fun _ _=>rfl⟩ ?_
 iterate 15 (refine Chain.pure _ rfl (fun u x w hw=>by first | (go_simp; done) | (go_simp; rfl)) ?_; go_simp)
 simp only [wrap64_eq,u8w,hp,hq]
 refine ⟨fun u w1 hw=>?_⟩
 refine hK _ _ ?_
 have hb1:=hb.trans (hw.mono hb.size)
 have h3':=(hw.block _ (heap_lt h3)).trans h3
 have hA1:=hA w1 hw
 go_wp2_with (go_at_fn 64)
 refine (Near_at _ hz).mono ?_
 rintro e w2 ⟨rfl,hb2⟩
 have hPA:w2.heap[W.heap.size]? = some (.cells (stA a) 83 (0,0)):=(hb2.block _ (by have:=heap_lt h1; have:=hw.size; omega)).trans ((hw.block _ (heap_lt h1)).trans h1)
 have hPB:w2.heap[W.heap.size+1]? = some (.cells (stA b) 83 (0,0)):=(hb2.block _ (by have:=heap_lt h2; have:=hw.size; omega)).trans ((hw.block _ (heap_lt h2)).trans h2)
 have hPO:w2.heap[W.heap.size+1+1]? = some (.cells z9 83 (0,0)):=(hb2.block _ (heap_lt h3')).trans h3'
 have hbb:=hb1.trans (hb2.mono hb1.size)
 clear hA1 hA hB h1 h2 h3 h3' hb hb1 hw hb2
 go_wp2
 have hS:BtSt W w2.heap.size a b v (z % 256) 0 (w2.alloc (.cells (part8 (z % 256) v 0) 83 (0,0))) :=
  ⟨hbb.alloc hbb.size _,(Below.heap_alloc w2 _ _ (heap_lt hPA)).trans hPA,(Below.heap_alloc w2 _ _ (heap_lt hPB)).trans hPB,(Below.heap_alloc w2 _ _ (heap_lt hPO)).trans hPO,heap_alloc_new _ _,heap_lt hPO⟩
 generalize w2.heap.size=N at hS ⊢
 have HP:Aside _:=hS
 clear hS hPA hPB hPO hbb hK
 rw [show (z % 256 == 0)=false by simpa using h0]
 go_loopg [34] 8 (fun g v34 wx=>∃ j:Nat,g+j=8∧v34=.int .i64 (j:Int)∧BtSt W N a b v (z % 256) j wx)
 case atStart=>exact ⟨0,rfl,rfl,HP.out⟩
 case round =>
  obtain ⟨j,hgj,rfl,hP⟩:=hrel
  clear HP
  by_cases hj:j < 8
  ·have hwk:=wrap_suc hj (show 8≤4294967296 by decide)
   have hj8:(j:Int) < 8:=by omega
   have hA:∀ w,Below wr.heap.size wr w→w.cell? ⟨W.heap.size,1+j,none⟩=some (.int .u8 (ink a.f1 j)):=fun w hw=>(cell_of ((hw.block _ (heap_lt hP.hA)).trans hP.hA) _).trans (stA_get a hj)
   have hB:∀ w,Below wr.heap.size wr w→w.cell? ⟨W.heap.size+1,1+j,none⟩=some (.int .u8 (ink b.f1 j)):=fun w hw=>(cell_of ((hw.block _ (heap_lt hP.hB)).trans hP.hB) _).trans (stA_get b hj)
   obtain ⟨y,hy,hx⟩:=betw1_cases (HV.out j hj)
   have HP:Aside _:=hP
   clear hP
   go_wp2
   rename_i K hK
   refine wp_region_chain 23 1000 (fun _ w=>Below wr.heap.size wr w) (by kernel_rfl) (by kernel_rfl) rfl rfl rfl (by kernel_rfl) (by kernel_rfl) ⟨rfl,rfl,rfl,Nat.le_refl _,fun _ _=>rfl⟩ ?_
   iterate 19 (refine Chain.pure _ rfl (fun u x w hw=>by first | (go_simp; done) | (go_simp; rfl)) ?_; go_simp)
   simp only [wrap64_eq,u8w]
   refine Chain.call (.int .i64 y) 64 #[.int .i64 (wrap64 (wrap64 (p * wrap64 (ink a.f1 j))+wrap64 (q * wrap64 (ink b.f1 j)))),.int .i64 (wrap64 (p+q))] rfl (fun u x w hw=>by first | (go_simp; done) | (go_simp; rfl)) (fun x w hw=>(Near_at w hy).mono fun e w' ⟨h1,h2⟩=>⟨h1,hw.trans (h2.mono hw.size)⟩) ?_
   go_simp
   iterate 3 (refine Chain.pure _ rfl (fun u x w hw=>by first | (go_simp; done) | (go_simp; rfl)) ?_; go_simp)
   refine ⟨fun u w3 hw=>?_⟩
   have hP3:=HP.out.next hw
   obtain ⟨u,hu⟩:=part8_some (z % 256) v hj
   have hNc:=(cell_of hP3.hN (1+j)).trans hu
   have hNf:=frz_of hP3.hN (1+j)
   have hP4:=hP3.put hj
   rw [hx,u8w] at hP4
   have HP4:Aside _:=hP4
   clear hP4 hP3 hu hw hA hB HP
   go_wp2
   obtain ⟨g',rfl⟩:∃ g',gk=g'+1:=⟨gk - 1,by omega⟩
   go_roundg g'
   case measure=>exact Nat.lt_succ_self _
   case rel=>exact ⟨j+1,by omega,by first | rfl | exact congrArg (Value.int .i64) hwk,HP4.out⟩
  ·obtain rfl:j=8:=by omega
   have hNc:=cell_of hP.hN
   have hOc:=cell_of hP.hO
   have hOf:=frz_of hP.hO
   rw [part8_done] at hNc
   unfold stA at hNc
   unfold z9 at hOc
   go_wp2
   exact ret_row 6 83 9 (by kernel_rfl) (by kernel_rfl) rfl (set9 hP.hO _ _ _ _ _ _ _ _ _) rfl rfl ⟨rfl,below9 hP.below (by omega) _ _ _ _ _ _ _ _ _⟩
set_option maxRecDepth 100000 in
set_option maxHeartbeats 4000000 in
theorem Between_zero (W:World) {F:Nat} {a b:S_State} {t p q z:Int} (hp:wrap64 (wrap64 ((255 - t) % 256) * wrap64 a.f0)=p) (hq:wrap64 (wrap64 t * wrap64 b.f0)=q) (hz:num_Near F (wrap64 (p+q)) 255=some z) (h0:z % 256=0) :
  Calls Try.prog 67 #[stV a,stV b,.int .u8 t] W fun e W'=>e=.returned (stV ⟨0,ink0⟩)∧Below W.heap.size W W':=by
 unfold stV stA
 go_enter Try.func67,Try.ntmps67
 obtain ⟨h1,h2,h3,hb⟩:=three_new W (.cells (stA a) 83 (0,0)) (.cells (stA b) 83 (0,0)) (.cells z9 83 (0,0))
 unfold stA z9 at h1 h2 h3 hb
 go_wp2
 revert h1 h2 h3 hb
 generalize (World.alloc (World.alloc (World.alloc W _) _) _)=w0
 intro h1 h2 h3 hb
 rename_i K hK
 have hA:∀ w,Below w0.heap.size w0 w→∀ i,w.cell? ⟨W.heap.size,i,none⟩=(stA a)[i]? := fun w hw i=>cell_of ((hw.block _ (heap_lt h1)).trans h1) i
 have hB:∀ w,Below w0.heap.size w0 w→∀ i,w.cell? ⟨W.heap.size+1,i,none⟩=(stA b)[i]? := fun w hw i=>cell_of ((hw.block _ (heap_lt h2)).trans h2) i
 unfold stA at hA hB
 refine wp_region_chain0 15 (fun w=>Below w0.heap.size w0 w) (by kernel_rfl) (by kernel_rfl) rfl (by kernel_rfl) ⟨rfl,rfl,rfl,Nat.le_refl _,fun _ _=>rfl⟩ ?_
 iterate 15 (refine Chain.pure _ rfl (fun u x w hw=>by first | (go_simp; done) | (go_simp; rfl)) ?_; go_simp)
 simp only [wrap64_eq,u8w,hp,hq]
 refine ⟨fun u w1 hw=>?_⟩
 refine hK _ _ ?_
 have hb1:=hb.trans (hw.mono hb.size)
 have h3':=(hw.block _ (heap_lt h3)).trans h3
 have hA1:=hA w1 hw
 go_wp2_with (go_at_fn 64)
 refine (Near_at _ hz).mono ?_
 rintro e w2 ⟨rfl,hb2⟩
 have hPA:w2.heap[W.heap.size]? = some (.cells (stA a) 83 (0,0)):=(hb2.block _ (by have:=heap_lt h1; have:=hw.size; omega)).trans ((hw.block _ (heap_lt h1)).trans h1)
 have hPB:w2.heap[W.heap.size+1]? = some (.cells (stA b) 83 (0,0)):=(hb2.block _ (by have:=heap_lt h2; have:=hw.size; omega)).trans ((hw.block _ (heap_lt h2)).trans h2)
 have hPO:w2.heap[W.heap.size+1+1]? = some (.cells z9 83 (0,0)):=(hb2.block _ (heap_lt h3')).trans h3'
 have hbb:=hb1.trans (hb2.mono hb1.size)
 clear hA1 hA hB h1 h2 h3 h3' hb hb1 hw hb2
 have hOc:=fun o=>cell_of ((Below.heap_alloc w2 o _ (heap_lt hPO)).trans hPO)
 have hOf:=fun o=>frz_of ((Below.heap_alloc w2 o _ (heap_lt hPO)).trans hPO)
 unfold z9 at hOc
 go_wp2
 exact ret_row 6 83 9 (by kernel_rfl) (by kernel_rfl) rfl (set9 ((Below.heap_alloc w2 _ _ (heap_lt hPO)).trans hPO) _ _ _ _ _ _ _ _ _) rfl rfl ⟨rfl,below9 (hbb.alloc hbb.size _) (by omega) _ _ _ _ _ _ _ _ _⟩
theorem Between_at (W:World) {F:Nat} {a b r:S_State} {t:Int} (h:betweenC F a b t=some r):Calls Try.prog 67 #[stV a,stV b,.int .u8 t] W fun e W'=>e=.returned (stV r)∧Below W.heap.size W W':=by
 obtain ⟨p,q,z,hp,hq,hz,⟨h0,rfl⟩ | ⟨h0,v,hv,rfl⟩⟩:=betweenC_cases h
 ·exact Between_zero W hp hq hz h0
 ·exact Between_main W hp hq hz h0 hv
end Go.Vm.TopG
namespace Go.Vm.TopG
open Go.Proofs
open Go.RowKit
def stopA (x:S_Stop):Array Value:=#[.int .i64 x.f0,.int .u8 x.f1.f0,.int .u8 x.f1.f1,.int .u8 x.f1.f2,.int .u8 x.f1.f3,.int .u8 x.f1.f4,.int .u8 x.f1.f5,.int .u8 x.f1.f6,.int .u8 x.f1.f7]
/-- A row of stops. -/
def StopsAt (w:World) (b off:Nat) (l:List S_Stop):Prop:=∀ i x,l[i]? = some x→∀ k v,(stopA x)[k]? = some v→w.cell? ⟨b,off+i * 9+k,none⟩=some v
theorem stops_of {S:Nat→Prop} {w:World} {l:List S_Stop} {u:Value} (h:RD S w (.sl 9 (l.map cS_Stop)) u) (hne:l≠[]):∃ b off c,u=.slice (some ⟨b,off,none⟩) l.length c∧b < w.heap.size∧StopsAt w b off l:=by
 simp only [RD] at h
 rcases h with ⟨_,h⟩ | ⟨b,off,c,arr,E,fz,rfl,h1,h2,h3,h4⟩
 ·exact absurd (List.map_eq_nil_iff.1 h) hne
 ·refine ⟨b,off,c,by rw [List.length_map],heap_lt h3,fun i x hx k v hv=>?_⟩
  obtain ⟨h5,h6⟩:=REs.get _ off i (cS_Stop x) h4 (by simp [hx])
  have hk:k < 9:=(Array.getElem?_eq_some_iff.1 hv).1
  have hd:(cS_Stop x)[k]? = some (.v v):=by
   obtain rfl | rfl | rfl | rfl | rfl | rfl | rfl | rfl | rfl:k=0∨k=1∨k=2∨k=3∨k=4∨k=5∨k=6∨k=7∨k=8:=by omega
   all_goals (cases hv; kernel_rfl)
  obtain ⟨y,hy,hr⟩:=RCs.get _ _ k (.v v) h6 hd
  simp only [RD] at hr
  rw [cell_of h3,hy,hr.1]
theorem StopsAt.mono {w w':World} {b off:Nat} {l:List S_Stop} (h:StopsAt w b off l) (hb:b < w.heap.size) (hw:Below w.heap.size w w'):StopsAt w' b off l:=fun i x hx k v hv=>(hw.cell (p:=⟨b,off+i * 9+k,none⟩) hb).trans (h i x hx k v hv)
theorem StopsAt.ink {w:World} {b off:Nat} {l:List S_Stop} (h:StopsAt w b off l) {i:Nat} {x:S_Stop} (hx:l[i]? = some x) {o:Nat} (ho:off+i * 9+1=o):w.cell? ⟨b,o,none⟩=some (.int .u8 x.f1.f0)∧∀ k,k < 8→w.cell? ⟨b,o+k,none⟩=(inkA x.f1)[k]? := by
 subst ho
 refine ⟨h i x hx 1 _ rfl,fun k hk=>?_⟩
 rw [Nat.add_assoc]
 refine (h i x hx (1+k) _ ?_).trans (inkA_get x.f1 hk).symm
 obtain rfl | rfl | rfl | rfl | rfl | rfl | rfl | rfl:k=0∨k=1∨k=2∨k=3∨k=4∨k=5∨k=6∨k=7:=by omega
 all_goals rfl
theorem StopsAt.stop {w:World} {b off:Nat} {l:List S_Stop} (h:StopsAt w b off l) {i:Nat} {x:S_Stop} (hx:l[i]? = some x) {o:Nat} (ho:off+i * 9=o):w.cell? ⟨b,o,none⟩=some (.int .i64 x.f0)∧∀ k,k < 9→w.cell? ⟨b,o+k,none⟩=(stopA x)[k]? := by
 subst ho
 refine ⟨h i x hx 0 _ rfl,fun k hk=>?_⟩
 obtain ⟨v,hv⟩:∃ v,(stopA x)[k]? = some v:=⟨_,Array.getElem?_eq_getElem (show k < (stopA x).size from hk)⟩
 rw [hv]
 exact h i x hx k v hv
theorem rampK_le (l:List S_Stop) (t:Int):∀ n,rampK l t n≤n
 | 0=>Nat.le_refl _
 | n+1=>by
  unfold rampK
  split
  ·exact Nat.le_succ_of_le (rampK_le l t n)
  ·exact Nat.le_refl _
def rampB (l:List S_Stop) (t:Int) (n:Nat):Prop:=rampK l t n=rampK l t l.length∧n≤l.length
theorem rampB.step {l:List S_Stop} {t:Int} {n:Nat} (h:rampB l t (n+1)) {x:S_Stop} (hx:l[n]? = some x):(x.f0 > t∧rampB l t n)∨(¬ x.f0 > t∧rampK l t l.length=n+1):=by
 obtain ⟨h1,h2⟩:=h
 have e:rampK l t (n+1)=if t < (l.getD n ⟨0,ink0⟩).f0 then rampK l t n else n+1:=rfl
 rw [e,List.getD_eq_getElem?_getD,hx,Option.getD_some] at h1
 by_cases hc:t < x.f0
 ·rw [if_pos hc] at h1
  exact .inl ⟨hc,h1,by omega⟩
 ·rw [if_neg hc] at h1
  exact .inr ⟨hc,h1.symm⟩
theorem wrap_pred {n:Nat} (hn:n≤4294967296):wrap64 ((n:Int) - 1)=(n:Int) - 1:=by unfold wrap64; omega
theorem ramp1_cases {F:Nat} {p q d x y r:Int} (h:ramp1 F p q d x y=some r):∃ z,num_Near F (wrap64 (wrap64 (wrap64 x * p)+wrap64 (wrap64 y * q))) d=some z∧r=IntKind.u8.wrap z:=by
 unfold ramp1 at h
 simp only [wrap64_eq] at h
 obtain ⟨z,hz,h⟩:=call_ok h
 cases h
 exact ⟨z,hz,rfl⟩
theorem set8 {w:World} {b:Nat} {a0 a1 a2 a3 a4 a5 a6 a7:Value} {E:TypeId} (h:w.heap[b]? = some (.cells #[a0,a1,a2,a3,a4,a5,a6,a7] E (0,0))) (v0 v1 v2 v3 v4 v5 v6 v7:Value):((((((((w.setCell ⟨b,0,none⟩ v0).setCell ⟨b,1,none⟩ v1).setCell ⟨b,2,none⟩ v2).setCell ⟨b,3,none⟩ v3).setCell ⟨b,4,none⟩ v4).setCell ⟨b,5,none⟩ v5).setCell ⟨b,6,none⟩ v6).setCell ⟨b,7,none⟩ v7).heap[b]? = some (.cells #[v0,v1,v2,v3,v4,v5,v6,v7] E (0,0)):=by
 have h:=setCell_get _ b 0 v0 h
 have h:=setCell_get _ b 1 v1 h
 have h:=setCell_get _ b 2 v2 h
 have h:=setCell_get _ b 3 v3 h
 have h:=setCell_get _ b 4 v4 h
 have h:=setCell_get _ b 5 v5 h
 have h:=setCell_get _ b 6 v6 h
 have h:=setCell_get _ b 7 v7 h
 exact h.trans (by kernel_rfl)
theorem below8 {B:Nat} {W w:World} {b:Nat} (h:Below B W w) (hb:B≤b) (v0 v1 v2 v3 v4 v5 v6 v7:Value):Below B W ((((((((w.setCell ⟨b,0,none⟩ v0).setCell ⟨b,1,none⟩ v1).setCell ⟨b,2,none⟩ v2).setCell ⟨b,3,none⟩ v3).setCell ⟨b,4,none⟩ v4).setCell ⟨b,5,none⟩ v5).setCell ⟨b,6,none⟩ v6).setCell ⟨b,7,none⟩ v7):=by
 iterate 8 refine Below.setCell ?_ (show B≤b from hb) _
 exact h
def z8:Array Value:=#[.int .u8 0,.int .u8 0,.int .u8 0,.int .u8 0,.int .u8 0,.int .u8 0,.int .u8 0,.int .u8 0]
/-- The first j amounts. -/
def part9 (v:S_Inks) (j:Nat):Array Value:=#[.int .u8 (if 0 < j then v.f0 else 0),.int .u8 (if 1 < j then v.f1 else 0),.int .u8 (if 2 < j then v.f2 else 0),.int .u8 (if 3 < j then v.f3 else 0),.int .u8 (if 4 < j then v.f4 else 0),.int .u8 (if 5 < j then v.f5 else 0),.int .u8 (if 6 < j then v.f6 else 0),.int .u8 (if 7 < j then v.f7 else 0)]
theorem part9_done (v:S_Inks):part9 v 8=inkA v:=rfl
theorem part9_set (v:S_Inks) {j:Nat} (hj:j < 8):(part9 v j).setIfInBounds j (.int .u8 (ink v j))=part9 v (j+1):=by
 obtain rfl | rfl | rfl | rfl | rfl | rfl | rfl | rfl:j=0∨j=1∨j=2∨j=3∨j=4∨j=5∨j=6∨j=7:=by omega
 all_goals rfl
theorem part9_some (v:S_Inks) {j:Nat} (hj:j < 8):∃ u,(part9 v j)[j]? = some u:=by
 obtain rfl | rfl | rfl | rfl | rfl | rfl | rfl | rfl:j=0∨j=1∨j=2∨j=3∨j=4∨j=5∨j=6∨j=7:=by omega
 all_goals exact ⟨_,rfl⟩
theorem stopA_get (s:S_Stop) {j:Nat} (hj:j < 8):(stopA s)[1+j]? = some (.int .u8 (ink s.f1 j)):=by
 obtain rfl | rfl | rfl | rfl | rfl | rfl | rfl | rfl:j=0∨j=1∨j=2∨j=3∨j=4∨j=5∨j=6∨j=7:=by omega
 all_goals rfl
structure RmSt (W:World) (A B N:Nat) (x y:S_Stop) (v:S_Inks) (j:Nat) (w:World):Prop where
 below:Below W.heap.size W w
 hA:w.heap[A]? = some (.cells (stopA x) 75 (0,0))
 hB:w.heap[B]? = some (.cells (stopA y) 75 (0,0))
 hO:w.heap[W.heap.size]? = some (.cells z8 35 (0,0))
 hN:w.heap[N]? = some (.cells (part9 v j) 35 (0,0))
 lt:W.heap.size < A
theorem RmSt.put {W w:World} {A j:Nat} {x y:S_Stop} {v:S_Inks} (h:RmSt W A (A+1) (A+1+1) x y v j w) (hj:j < 8):RmSt W A (A+1) (A+1+1) x y v (j+1) (w.setCell ⟨A+1+1,j,none⟩ (.int .u8 (ink v j))):=by
 have hlt:=h.lt
 refine ⟨h.below.setCell (show W.heap.size≤A+1+1 by omega) _,(Below.heap_setCell _ _ _ _ (show A≠A+1+1 by omega)).trans h.hA,(Below.heap_setCell _ _ _ _ (show A+1≠A+1+1 by omega)).trans h.hB,(Below.heap_setCell _ _ _ _ (show W.heap.size≠A+1+1 by omega)).trans h.hO,?_,h.lt⟩
 have:=setCell_get w (A+1+1) j (.int .u8 (ink v j)) h.hN
 rw [part9_set v hj] at this
 exact this
theorem RmSt.next {W w w':World} {A B N j:Nat} {x y:S_Stop} {v:S_Inks} (h:RmSt W A B N x y v j w) (hb:Below w.heap.size w w'):RmSt W A B N x y v j w' :=
 ⟨h.below.trans (hb.mono h.below.size),(hb.block _ (heap_lt h.hA)).trans h.hA,(hb.block _ (heap_lt h.hB)).trans h.hB,(hb.block _ (heap_lt h.hO)).trans h.hO,(hb.block _ (heap_lt h.hN)).trans h.hN,h.lt⟩
theorem g_next {g j n:Nat} (h:g+1+j=n):g+(j+1)=n:=by omega
theorem g_pos {g j n:Nat} (h:g+j=n) (hj:j < n):∃ g',g=g'+1:=⟨g - 1,by omega⟩
theorem g_end {g j n:Nat} (h:g+j=n) (hj:¬ j < n):j=n:=by omega
theorem succ_pred (n:Nat):((n+1:Nat):Int) - 1=(n:Int):=by omega
theorem le_of_succ {n m k:Nat} (h:n+1≤m) (hm:m≤k):n≤k:=by omega
theorem cast_suc {n m:Nat} (h:n+1=m):(n:Int)+1=(m:Int):=by omega
theorem cast_suc' {n m:Nat} (h:(n:Int)+1=(m:Int)):n+1=m:=by omega
set_option maxRecDepth 100000 in
set_option maxHeartbeats 4000000 in
theorem ramp_in (W:World) {F:Nat} {l:List S_Stop} {t:Int} {b off c:Nat} (hb:b < W.heap.size) (hs:StopsAt W b off l) (hl:l.length≤4294967296) {R:S_Inks} (x0:S_Stop) (hx0:l[0]? = some x0) (h0:rampK l t l.length=0→R=x0.f1)
    (h1:∀ n x,rampK l t l.length=n+1→l[n]? = some x→(n+1=l.length∨x.f0=t)→R=x.f1)
    (h2:∀ n x y,rampK l t l.length=n+1→l[n]? = some x→l[n+1]? = some y→¬ x.f0=t→∀ j,j < 8→ramp1 F (wrap64 (y.f0 - t)) (wrap64 (t - x.f0)) (wrap64 (y.f0 - x.f0)) (ink x.f1 j) (ink y.f1 j)=some (ink R j)) :
    Calls Try.prog 72 #[.slice (some ⟨b,off,none⟩) l.length c,.int .i64 t] W fun e W'=>e=.returned (inkV R)∧Below W.heap.size W W':=by
  have H0:Aside _:=h0
  have H1:Aside _:=h1
  have H2:Aside _:=h2
  clear h0 h1 h2
  have hwp:=wrap_pred hl
  go_enter Try.func72,Try.ntmps72
  have hw0:=(Below.refl W.heap.size W).alloc (Nat.le_refl _) (.cells z8 35 (0,0))
  have hs0:=hs.mono hb hw0
  have hn0:(W.alloc (.cells z8 35 (0,0))).heap[W.heap.size]? = _:=heap_alloc_new _ _
  unfold z8 at hw0 hs0 hn0
  go_wp2
  clear hwp
  revert hw0 hs0 hn0
  generalize W.alloc _=w0
  intro hw0 hs0 hn0
  go_loopg [5] l.length (fun g v5 wx=>g≤l.length∧v5=.int .i64 ((g:Int) - 1)∧wx=w0∧rampB l t g)
  case atStart=>exact ⟨Nat.le_refl _,rfl,rfl,rfl,Nat.le_refl _⟩
  case round =>
    obtain ⟨hg,rfl,rfl,hB⟩:=hrel
    rcases gk with _ | n
    · have hk:=H0.out hB.1.symm
      subst hk
      obtain ⟨hc0,hck⟩:=hs0.ink hx0 (o:=off+1) (by rw [Nat.zero_mul])
      have hlp:(0:Int) < (l.length:Int):=Int.ofNat_lt.2 (List.getElem?_eq_some_iff.1 hx0).1
      have hnc:=cell_of hn0
      have hnf:=frz_of hn0
      unfold inkA at hck
      go_wp2
      exact ret_row 4 35 8 (by kernel_rfl) (by kernel_rfl) rfl (set8 hn0 _ _ _ _ _ _ _ _) rfl rfl ⟨rfl,below8 hw0 (Nat.le_refl _) _ _ _ _ _ _ _ _⟩
    · obtain ⟨x,hx⟩:∃ x,l[n]? = some x:=⟨_,List.getElem?_eq_getElem hg⟩
      obtain ⟨hc0,hck⟩:=hs0.stop hx rfl
      rw [succ_pred n]
      have hn1:(n:Int) < (l.length:Int):=Int.ofNat_lt.2 hg
      rcases hB.step hx with ⟨hgt,hB'⟩ | ⟨hgt,hk⟩
      · have hwp:=wrap_pred (n:=n) (le_of_succ hg hl)
        clear hck
        go_wp2
        go_roundg n
        case measure=>exact Nat.lt_succ_self _
        case rel=>exact ⟨Nat.le_of_succ_le hg,rfl,rfl,hB'⟩
      · have hws:=wrap_suc (i:=n) (n:=l.length) hg hl
        unfold stopA at hck
        have hOc:=fun o=>cell_of ((Below.heap_alloc wr o _ (heap_lt hn0)).trans hn0)
        have hOf:=fun o=>frz_of ((Below.heap_alloc wr o _ (heap_lt hn0)).trans hn0)
        have hbA:=fun o=>hw0.alloc hw0.size o
        have hnA:=fun o=>(Below.heap_alloc wr o _ (heap_lt hn0)).trans hn0
        by_cases hc1:n+1=l.length
        · have hR:=H1.out n x hk hx (.inl hc1)
          subst hR
          have hc2:(n:Int)+1=(l.length:Int):=cast_suc hc1
          go_wp2
          exact ret_row 4 35 8 (by kernel_rfl) (by kernel_rfl) rfl (set8 (hnA _) _ _ _ _ _ _ _ _) rfl rfl ⟨rfl,below8 (hbA _) (Nat.le_refl _) _ _ _ _ _ _ _ _⟩
        · have hc2:¬ (n:Int)+1=(l.length:Int):=fun e=>hc1 (cast_suc' e)
          by_cases hc3:x.f0=t
          · have hR:=H1.out n x hk hx (.inr hc3)
            subst hR
            go_wp2
            exact ret_row 4 35 8 (by kernel_rfl) (by kernel_rfl) rfl (set8 (hnA _) _ _ _ _ _ _ _ _) rfl rfl ⟨rfl,below8 (hbA _) (Nat.le_refl _) _ _ _ _ _ _ _ _⟩
          · obtain ⟨y,hy⟩:∃ y,l[n+1]? = some y:=⟨_,List.getElem?_eq_getElem (Nat.lt_of_le_of_ne hg hc1)⟩
            have HV:Aside _:=H2.out n x y hk hx hy hc3
            have hc2b:((n:Int)+1 == (l.length:Int))=false:=by simpa using hc2
            have hc3b:(x.f0 == t)=false:=by simpa using hc3
            have hst:=fun o=>(hs0.mono (Nat.lt_of_lt_of_le hb hw0.size) ((Below.refl _ _).alloc (Nat.le_refl _) o)).stop hy (o:=off+(n+1) * 9) rfl
            have hs1:=fun o=>(hst o).1
            have hs2:=fun o=>(hst o).2
            unfold stopA at hs2
            clear hst
            go_wp2
            have hS:RmSt W wr.heap.size (wr.heap.size+1) (wr.heap.size+1+1) x y R 0 (((wr.alloc (.cells (stopA x) 75 (0,0))).alloc (.cells (stopA y) 75 (0,0))).alloc (.cells (part9 R 0) 35 (0,0))):=by
              obtain ⟨e1,e2,e3,e4⟩:=three_new wr (.cells (stopA x) 75 (0,0)) (.cells (stopA y) 75 (0,0)) (.cells (part9 R 0) 35 (0,0))
              exact ⟨hw0.trans (e4.mono hw0.size),e1,e2,(e4.block _ (heap_lt hn0)).trans hn0,e3,heap_lt hn0⟩
            have HS:Aside _:=hS
            (try rw [hc2b])
            (try rw [hc3b])
            clear hS hs1 hs2 hOc hOf hbA hnA hck hc0 hc2b hc3b hs0 hw0 hn0
            generalize wr.heap.size=A at HS ⊢
            go_loopg [54] 8 (fun g v54 wx=>∃ j:Nat,g+j=8∧v54=.int .i64 (j:Int)∧RmSt W A (A+1) (A+1+1) x y R j wx)
            case atStart=>exact ⟨0,rfl,rfl,HS.out⟩
            case round =>
              obtain ⟨j,hgj,rfl,hP⟩:=hrel
              clear HS
              by_cases hj:j < 8
              · have hwk:=wrap_suc hj (show 8≤4294967296 by decide)
                have hj8:(j:Int) < 8:=Int.ofNat_lt.2 hj
                have hA0:∀ w,Below wr.heap.size wr w→w.cell? ⟨A,0,none⟩=some (.int .i64 x.f0):=fun w hw=>cell_of ((hw.block _ (heap_lt hP.hA)).trans hP.hA) 0
                have hB0:∀ w,Below wr.heap.size wr w→w.cell? ⟨A+1,0,none⟩=some (.int .i64 y.f0):=fun w hw=>cell_of ((hw.block _ (heap_lt hP.hB)).trans hP.hB) 0
                have hA:∀ w,Below wr.heap.size wr w→w.cell? ⟨A,1+j,none⟩=some (.int .u8 (ink x.f1 j)):=fun w hw=>(cell_of ((hw.block _ (heap_lt hP.hA)).trans hP.hA) _).trans (stopA_get x hj)
                have hB:∀ w,Below wr.heap.size wr w→w.cell? ⟨A+1,1+j,none⟩=some (.int .u8 (ink y.f1 j)):=fun w hw=>(cell_of ((hw.block _ (heap_lt hP.hB)).trans hP.hB) _).trans (stopA_get y hj)
                obtain ⟨z,hz,hr⟩:=ramp1_cases (HV.out j hj)
                have HP:Aside _:=hP
                clear hP
                go_wp2
                rename_i K hK
                refine wp_region_chain 30 1000 (fun _ w=>Below wr.heap.size wr w) (by kernel_rfl) (by kernel_rfl) rfl rfl rfl (by kernel_rfl) (by kernel_rfl) ⟨rfl,rfl,rfl,Nat.le_refl _,fun _ _=>rfl⟩ ?_
                iterate 27 (refine Chain.pure _ rfl (fun u x w hw=>by first | (go_simp; done) | (go_simp; rfl)) ?_; go_simp)
                simp only [wrap64_eq,u8w]
                refine Chain.call (.int .i64 z) 64 #[.int .i64 (wrap64 (wrap64 (wrap64 (ink x.f1 j) * wrap64 (y.f0 - t))+wrap64 (wrap64 (ink y.f1 j) * wrap64 (t - x.f0)))),.int .i64 (wrap64 (y.f0 - x.f0))] rfl (fun u x w hw=>by first | (go_simp; done) | (go_simp; rfl)) (fun x w hw=>(Near_at w hz).mono fun e w' ⟨h1,h2⟩=>⟨h1,hw.trans (h2.mono hw.size)⟩) ?_
                go_simp
                iterate 2 (refine Chain.pure _ rfl (fun u x w hw=>by first | (go_simp; done) | (go_simp; rfl)) ?_; go_simp)
                refine ⟨fun u w3 hw=>?_⟩
                have hP3:=HP.out.next hw
                obtain ⟨u,hu⟩:=part9_some R hj
                have hNc:=(cell_of hP3.hN j).trans hu
                have hNf:=frz_of hP3.hN j
                have hP4:=hP3.put hj
                rw [hr,u8w] at hP4
                have HP4:Aside _:=hP4
                clear hP4 hP3 hu hw hA hB HP hA0 hB0
                go_wp2
                obtain ⟨g',rfl⟩:=g_pos hgj hj
                go_roundg g'
                case measure=>exact Nat.lt_succ_self _
                case rel=>exact ⟨j+1,g_next hgj,by first | rfl | exact congrArg (Value.int .i64) hwk,HP4.out⟩
              · obtain rfl:j=8:=g_end hgj hj
                have hNc:=cell_of hP.hN
                have hOc:=cell_of hP.hO
                have hOf:=frz_of hP.hO
                rw [part9_done] at hNc
                unfold inkA at hNc
                unfold z8 at hOc
                go_wp2
                exact ret_row 4 35 8 (by kernel_rfl) (by kernel_rfl) rfl (set8 hP.hO _ _ _ _ _ _ _ _) rfl rfl ⟨rfl,below8 hP.below (Nat.le_refl _) _ _ _ _ _ _ _ _⟩
theorem ramp_at (W:World) {S:Nat→Prop} {F:Nat} {l:List S_Stop} {t:Int} {r:S_Inks} {u:Value} (hu:RD S W (.sl 9 (l.map cS_Stop)) u) (hl:l.length≤4294967296) (h:rampF F l t=some r) :
  Calls Try.prog 72 #[u,.int .i64 t] W fun e W'=>e=.returned (inkV r)∧Below W.heap.size W W':=by
 have hne:l≠[]:=by
  rintro rfl
  simp [rampF,lett,rampK,chk] at h
 obtain ⟨b,off,c,rfl,hb,hs⟩:=stops_of hu hne
 obtain ⟨x0,hx0⟩:∃ x,l[0]? = some x:=by
  cases l with
  | nil=>exact absurd rfl hne
  | cons x r=>exact ⟨x,rfl⟩
 unfold rampF at h
 obtain ⟨k,hk,h⟩:=lett_ok h
 refine ramp_in (F:=F) W hb hs hl x0 hx0 (fun h0=>?_) (fun n x hn hx hc=>?_) (fun n x y hn hx hy hc=>?_)
 ·rw [hk] at h0
  subst h0
  obtain ⟨_,h⟩:=chk_ok h
  rw [List.getD_eq_getElem?_getD,hx0] at h
  exact (Option.some.inj h).symm
 ·rw [hk] at hn
  subst hn
  rw [show (n+1 == 0)=false from rfl,cond_false,Nat.add_sub_cancel] at h
  obtain ⟨a,ha,h⟩:=lett_ok h
  rw [List.getD_eq_getElem?_getD,hx,Option.getD_some] at ha
  subst ha
  have:((n+1 == l.length) || (x.f0 == t))=true:=by
   rcases hc with hc | hc
   ·simp [hc]
   ·simp [hc]
  rw [this] at h
  exact (Option.some.inj h).symm
 ·rw [hk] at hn
  subst hn
  rw [show (n+1 == 0)=false from rfl,cond_false,Nat.add_sub_cancel] at h
  obtain ⟨a,ha,h⟩:=lett_ok h
  rw [List.getD_eq_getElem?_getD,hx,Option.getD_some] at ha
  subst ha
  have hlt:=(List.getElem?_eq_some_iff.1 hy).1
  have:((n+1 == l.length) || (x.f0 == t))=false:=by
   have:¬ n+1=l.length:=by omega
   simp [hc,this]
  rw [this,cond_false] at h
  obtain ⟨y',hy',h⟩:=lett_ok h
  rw [List.getD_eq_getElem?_getD,hy,Option.getD_some] at hy'
  subst hy'
  have:=inkM_get h
  simp only [wrap64_eq] at this
  exact this
end Go.Vm.TopG
