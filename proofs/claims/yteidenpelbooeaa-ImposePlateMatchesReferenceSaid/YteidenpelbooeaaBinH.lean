import Derived.Test.YteidenpelbooeaaProg
import Derived.RangeFuncNested
import Derived.RangeFuncBox
import Derived.RangeFuncLeaves
import Derived.Shelf.Abstract
import Derived.WalkKit
import Derived.OwnWalkIn
import Derived.TacticsInMore
import Derived.LoopNIn
import Derived.LoopIn
import Derived.Test.YteidenpelbooeaaBinF
import Derived.Test.YteidenpelbooeaaVmC
namespace Go.Vm.BinG
open Go.Proofs
open Go.RowKit Go.Shelf
attribute [local go_sem] Oper.semAt_some
set_option maxHeartbeats 1000000 in
theorem back_in (F:Fence) (n:Nat) (h5:F.fn 71) (hro:F.round=none) (a:Option Addr) (len cap:Nat) (w:World) :
    CallsIn F n Try.prog 71 #[.slice a len cap] w fun e w'=>e=.returned (.func (.func 73) #[] #[.pointer (some ⟨w.heap.size,0,none⟩)])∧w'=w.alloc (.cells #[.slice a len cap] 104):=by
  refine callsIn_of_wp Try.func71 rfl h5 ?_ hro
  simp only [Try.ntmps71,List.size_toArray,List.length_cons,List.length_nil,Nat.reduceAdd,Nat.reduceSub,Array.replicate_succ,Array.replicate_zero,List.push_toArray,List.append_toArray,List.nil_append,List.cons_append]
  gi_wp2
  go_ret
  exact ⟨rfl,rfl⟩
def z50:S_FoldLeaf:=⟨0,0,false,false⟩
def cells4 (x:S_FoldLeaf):List Value:=[.int .i64 x.f0,.int .i64 x.f1,.bool x.f2,.bool x.f3]
def Keep (Bs b:Nat) (W W':World):Prop:=W'.heap[Bs]? = W.heap[Bs]? ∧ W'.heap[b]? = W.heap[b]?
theorem Keep.refl (Bs b:Nat) (W:World):Keep Bs b W W:=⟨rfl,rfl⟩
theorem Keep.trans {Bs b:Nat} {A B C:World} (h:Keep Bs b A B) (k:Keep Bs b B C):Keep Bs b A C:=⟨k.1.trans h.1,k.2.trans h.2⟩
def uptoB (zs:List S_FoldLeaf) (k:Nat):List (Int×S_FoldLeaf):=(List.range k).map fun (j:Nat)=>((zs.length:Int) - 1 - j,zs[zs.length - 1 - j]?.getD z50)
theorem uptoB_succ (zs:List S_FoldLeaf) (k:Nat):uptoB zs (k+1)=uptoB zs k++[((zs.length:Int) - 1 - k,zs[zs.length - 1 - k]?.getD z50)]:=by simp [uptoB,List.range_succ]
theorem uptoB_length (zs:List S_FoldLeaf) (k:Nat):(uptoB zs k).length=k:=by simp [uptoB]
set_option maxRecDepth 100000 in
set_option maxHeartbeats 2000000 in
theorem back1_in (F:Fence) (n:Nat) (h7:F.fn 73) (hro:F.round=none) (hn:1≤n) (l Bs b off cap:Nat) (zs:List S_FoldLeaf) (hreach:zs.length * 8≤140737488351232) (J Jx:List (Int×S_FoldLeaf)→World→Prop)
    (hY:∀ pre x W,J pre W→pre.length < zs.length→YieldAt F (n - 1) Try.prog l #[.int .i64 x.1,.agg ⟨cells4 x.2⟩] W fun e W' =>
      (e=.returned (.bool true)∧J (pre++[x]) W'∧Keep Bs b W W')∨(e=.returned (.bool false)∧Jx (pre++[x]) W'))
    (W:World) (hBs:W.cell? ⟨Bs,0,none⟩=some (.slice (some ⟨b,off,none⟩) zs.length cap)) (hc:∀ j c v,j < zs.length→(cells4 (zs[j]?.getD z50))[c]? = some v→W.cell? ⟨b,off+j * 4+c,none⟩=some v) (h0:J [] W) :
    CallsIn F n Try.prog 73 #[.func (.yield l) #[] #[],.pointer (some ⟨Bs,0,none⟩)] W fun e W'=>(∃ v,e=.returned v) ∧
      ((∃ ys,ys=uptoB zs zs.length∧J ys W')∨(∃ pre,(∃ k,k≤zs.length∧pre=uptoB zs k)∧Jx pre W')):=by
  refine callsIn_of_wp Try.func73 rfl h7 ?_ hro
  simp only [Try.ntmps73,List.size_toArray,List.length_cons,List.length_nil,Nat.reduceAdd,Nat.reduceSub,Array.replicate_succ,Array.replicate_zero,List.push_toArray,List.append_toArray,List.nil_append,List.cons_append]
  gi_wp2
  gi_loopw [3] (fun i wr=>∃ k:Nat,k≤zs.length∧i=.int .i64 ((zs.length:Int) - 1 - k)∧J (uptoB zs k) wr∧Keep Bs b W wr)
    (fun i _=>(intOf i+1).toNat)
  case atStart=>exact ⟨0,Nat.zero_le _,by simp,h0,Keep.refl _ _ _⟩
  case round =>
    obtain ⟨k,hk,rfl,hJs,hnx⟩:=hrel
    by_cases hlt:k < zs.length
    · obtain ⟨fn,tmps,assign,body,hy,hR⟩:=hY _ ((zs.length:Int) - 1 - k,zs[zs.length - 1 - k]?.getD z50) wr hJs (by rw [uptoB_length]; exact hlt)
      dsimp only at hy
      have hBs':wr.cell? ⟨Bs,0,none⟩=some (.slice (some ⟨b,off,none⟩) zs.length cap):=(World.cell?_of_block (a:=⟨Bs,0,none⟩) hnx.1).trans hBs
      have hcx:∀ c v,(cells4 (zs[zs.length - 1 - k]?.getD z50))[c]? = some v→wr.cell? ⟨b,off+(zs.length - 1 - k) * 4+c,none⟩=some v:=fun c v h=>(World.cell?_of_block (a:=⟨b,_,none⟩) hnx.2).trans (hc _ c v (by omega) h)
      obtain ⟨x,hx⟩:∃ x,zs[zs.length - 1 - k]?.getD z50=x:=⟨_,rfl⟩
      rw [hx] at hcx hy hR
      have c0:=hcx 0 _ rfl
      have c1:=hcx 1 _ rfl
      have c2:=hcx 2 _ rfl
      have c3:=hcx 3 _ rfl
      simp only [Nat.add_zero] at c0
      simp only [cells4] at hy
      clear hcx
      gi_wp2
      refine hR.mono ?_
      rintro e W3 (⟨rfl,hJ3,hk3⟩ | ⟨rfl,hJx3⟩)
      · gi_wp2
        go_roundw
        case rel=>exact ⟨k+1,by omega,by simp; omega,by rw [uptoB_succ,hx]; exact hJ3,hnx.trans hk3⟩
        case measure=>simp [intOf]; omega
      · gi_wp2
        refine bodyPost_ret (results_none rfl _ _ _) rfl ?_
        exact ⟨⟨_,rfl⟩,.inr ⟨_,⟨k+1,by omega,by rw [uptoB_succ,hx]⟩,hJx3⟩⟩
    · obtain rfl:k=zs.length:=by omega
      gi_wp2
      go_end0
      exact ⟨⟨_,rfl⟩,.inl ⟨_,rfl,hJs⟩⟩
set_option maxRecDepth 100000 in
set_option maxHeartbeats 1000000 in
/-- .. of no elements: no round. -/
theorem back1_nil_in (F:Fence) (n:Nat) (h7:F.fn 73) (hro:F.round=none) (l Bs cap:Nat) (q:Option Addr) (J:World→Prop) (W:World) (hBs:W.cell? ⟨Bs,0,none⟩=some (.slice q 0 cap)) (h0:J W) :
    CallsIn F n Try.prog 73 #[.func (.yield l) #[] #[],.pointer (some ⟨Bs,0,none⟩)] W fun e W'=>(∃ v,e=.returned v)∧J W':=by
  refine callsIn_of_wp Try.func73 rfl h7 ?_ hro
  simp only [Try.ntmps73,List.size_toArray,List.length_cons,List.length_nil,Nat.reduceAdd,Nat.reduceSub,Array.replicate_succ,Array.replicate_zero,List.push_toArray,List.append_toArray,List.nil_append,List.cons_append]
  gi_wp2
  gi_loopw [3] (fun i wr=>i=.int .i64 (-1)∧J wr) (fun _ _=>0)
  case atStart=>exact ⟨rfl,h0⟩
  case round =>
    obtain ⟨rfl,hJs⟩:=hrel
    gi_wp2
    go_end0
    exact ⟨⟨_,rfl⟩,hJs⟩
/-- What a round keeps. -/
def KeepK (n₀ Bs:Nat) (W W':World):Prop:=Below n₀ W W'∧W'.heap[Bs]? = W.heap[Bs]?
/-- The slice value sv holds the elements zs,in a block below n₀. -/
def Leaves (n₀:Nat) (W:World) (q:Option Addr) (zs:List S_FoldLeaf):Prop :=
  zs=[]∨∃ b off,q=some ⟨b,off,none⟩∧b < n₀∧∀ j c v,j < zs.length→(cells4 (zs[j]?.getD z50))[c]? = some v→W.cell? ⟨b,off+j * 4+c,none⟩=some v
theorem Leaves.below {n₀:Nat} {A B:World} (h:Below n₀ A B) {q:Option Addr} {zs:List S_FoldLeaf}:Leaves n₀ A q zs→Leaves n₀ B q zs
  | .inl e=>.inl e
  | .inr ⟨b,off,e,hb,hc⟩=>.inr ⟨b,off,e,hb,fun j c v hj hv=>(h.cell (p:=⟨b,_,none⟩) hb).trans (hc j c v hj hv)⟩
theorem back_stops (F:Fence) (n:Nat) (h7:F.fn 73) (hro:F.round=none) (hn:1≤n) (Bs n₀ cap:Nat) (q:Option Addr) (zs:List S_FoldLeaf) (hreach:zs.length * 8≤140737488351232) (w:World) (hBs:Bs < w.heap.size) (hn₀:n₀≤w.heap.size)
    (hc:w.cell? ⟨Bs,0,none⟩=some (.slice q zs.length cap)) (hI:Leaves n₀ w q zs) :
    SeqStopsK F n Try.prog 73 #[.pointer (some ⟨Bs,0,none⟩)] (fun x:Int×S_FoldLeaf=>#[.int .i64 x.1,.agg ⟨cells4 x.2⟩]) (KeepK n₀ Bs) (fun ys=>ys=uptoB zs zs.length) (fun _=>True) zs.length w:=fun l J Jx W hW _ _ hY h0=>by
  have hc':=(hW.cell (p:=⟨Bs,0,none⟩) hBs).trans hc
  rcases hI.below (hW.mono hn₀) with rfl | ⟨b,off,rfl,hb,hcs⟩
  · exact (back1_nil_in F n h7 hro l Bs cap q (J []) W hc' h0).mono fun e W' ⟨he,hj⟩=>⟨he,.inl ⟨_,rfl,hj⟩⟩
  · refine (back1_in F n h7 hro hn l Bs b off cap zs hreach J Jx (fun pre x W1 hJ hl=>?_) W hc' hcs h0).mono ?_
    · obtain ⟨fn,tmps,assign,body,hy,hR⟩:=hY pre x W1 hJ hl
      refine ⟨fn,tmps,assign,body,hy,hR.mono ?_⟩
      rintro e W' (⟨he,hj,hk⟩ | h)
      · exact .inl ⟨he,hj,hk.2,hk.1.block b hb⟩
      · exact .inr h
    · rintro e W' ⟨he,⟨ys,rfl,hj⟩ | ⟨pre,_,hj⟩⟩
      · exact ⟨he,.inl ⟨_,rfl,hj⟩⟩
      · exact ⟨he,.inr ⟨_,trivial,hj⟩⟩
theorem info108:(Try.prog.info? 108).map (fun i=>(i.zero,i.size,i.bytes))=some (some (.agg #[.int .i64 0,.int .i64 0,.bool false,.bool false]),4,24):=by kernel_rfl
theorem cells_new (w:World) (l:List Value) (t:TypeId):∀ j u,l[j]? = some u→(w.alloc (.cells ⟨l⟩ t)).cell? ((⟨w.heap.size,0,none⟩:Addr).add j)=some u:=by
  intro j u hj
  have e:(⟨w.heap.size,0,none⟩:Addr).add j=⟨w.heap.size,j,none⟩:=by
    by_cases h:j=0
    · subst h; simp [Addr.add]
    · simp [Addr.add,h]
  rw [e]
  have hh:=World.alloc_heap_new w (.cells ⟨l⟩ t)
  simp only [World.cell?]
  rw [hh]
  simpa using hj
/-- A box of several cells. -/
def BoxN (W:World) (B:Nat) (t:TypeId) (l:List Value):Prop:=W.heap[B]? = some (.cells ⟨l⟩ t (0,0))
theorem BoxN.kept {W W':World} {row:Option Nat} {B:Nat} {t:TypeId} {l:List Value} (h:BoxN W B t l) (hg:W.grownBy W' row) (hne:some B≠row):BoxN W' B t l:=(hg.block B (Array.getElem?_eq_some_iff.1 h).1 hne).trans h
theorem BoxN.cell {W:World} {B:Nat} {t:TypeId} {l:List Value} (h:BoxN W B t l) (i:Nat):W.cell? ⟨B,i,none⟩=l[i]? := by simp [World.cell?,show W.heap[B]? = _ from h]
theorem BoxN.frozen {W:World} {B:Nat} {t:TypeId} {l:List Value} (h:BoxN W B t l) (i:Nat):W.frozen? ⟨B,i,none⟩=false:=by simp [World.frozen?,show W.heap[B]? = _ from h]
theorem BoxN.set {W:World} {B:Nat} {t:TypeId} {l:List Value} (h:BoxN W B t l) (i:Nat) (v:Value):BoxN (W.setCell ⟨B,i,none⟩ v) B t (l.set i v):=by
  have:=heap_setCell_same W B i ⟨l⟩ t v h
  simpa [BoxN] using this
theorem grownBy_setCellN (W:World) (b i:Nat) (v:Value):W.grownBy (W.setCell ⟨b,i,none⟩ v) (some b) :=
  ⟨rfl,rfl,rfl,by simp,fun k _ hk=>Below.heap_setCell _ _ _ k (fun e=>hk (by rw [e]))⟩
def fl (b:Bool) (x:S_FoldLeaf):S_FoldLeaf:=bif b then { x with f2 := !x.f2 } else { x with f3 := !x.f3 }
def outs (b:Bool) (pre:List (Int×S_FoldLeaf)):List Value:=pre.flatMap fun x=>cells4 (fl b x.2)
theorem outs_snoc (b:Bool) (pre:List (Int×S_FoldLeaf)) (x:Int×S_FoldLeaf):outs b (pre++[x])=outs b pre++cells4 (fl b x.2):=by simp [outs]
set_option maxRecDepth 100000 in
set_option maxHeartbeats 4000000 in
theorem flip_in (F:Fence) (n:Nat) (h3:F.fn 69) (h4:F.fn 71) (h5:F.fn 73) (hro:F.round=none) (hn:3≤n) (q:Option Addr) (cap:Nat) (zs:List S_FoldLeaf) (hlen:zs.length≤4294967296) (b1:Bool) (w:World) (hL:Leaves w.heap.size w q zs) :
    CallsIn F n Try.prog 69 #[.slice q zs.length cap,.bool b1] w fun e W'=>∃ v,e=.returned v∧W'.ownsRow w.heap.size 108 4 v zs.length (outs b1 (uptoB zs zs.length))∧Below w.heap.size w W':=by
  have h1:1≤n:=by omega
  obtain ⟨i0,hi,hz0,hz1,hz2⟩:=info_parts info108
  refine callsIn_of_wp_marks Try.func69 rfl h3 ?_ hro
  simp only [Try.ntmps69,List.size_toArray,List.length_cons,List.length_nil,Nat.reduceAdd,Nat.reduceSub,Array.replicate_succ,Array.replicate_zero,List.push_toArray,List.append_toArray,List.nil_append,List.cons_append]
  gi_wp2_with (gi_at_call 71; refine (back_in F (n - 1) h4 hro _ _ _ _).mono ?_; rintro e w' ⟨rfl,rfl⟩)
  have bB:=((Boxed.new w 4 (.bool b1)).alloc (.cells #[.slice none 0 0] 104)).alloc (.cells #[.slice q zs.length cap] 104)
  have bO:=(Boxed.new (w.alloc (.cells #[.bool b1] 4)) 104 (.slice none 0 0)).alloc (.cells #[.slice q zs.length cap] 104)
  have bS:=Boxed.new ((w.alloc (.cells #[.bool b1] 4)).alloc (.cells #[.slice none 0 0] 104)) 104 (.slice q zs.length cap)
  simp only [World.size_alloc] at bO bS
  have hB0:Below w.heap.size w (((w.alloc (.cells #[.bool b1] 4)).alloc (.cells #[.slice none 0 0] 104)).alloc (.cells #[.slice q zs.length cap] 104)):=(((Below.refl _ w).alloc (Nat.le_refl _) _).alloc (by simp) _).alloc (by simp; omega) _
  have hsz:(((w.alloc (.cells #[.bool b1] 4)).alloc (.cells #[.slice none 0 0] 104)).alloc (.cells #[.slice q zs.length cap] 104)).heap.size=w.heap.size+3:=by simp
  obtain ⟨W0,hW0⟩:∃ W0,((w.alloc (.cells #[.bool b1] 4)).alloc (.cells #[.slice none 0 0] 104)).alloc (.cells #[.slice q zs.length cap] 104)=W0:=⟨_,rfl⟩
  rw [hW0] at bB bO bS hB0 hsz ⊢
  clear hW0
  refine wpIn_rangeFunc_ownH hro h1 (gf:=73) (lb:=#[.pointer (some ⟨w.heap.size+1+1,0,none⟩)]) rfl h5 (enters_of Try.func73 (by kernel_rfl) rfl)
    (back_stops F (n - 1) h5 hro (by omega) (w.heap.size+1+1) w.heap.size cap q zs (by omega) W0 (by omega) (by omega) bS.cell (hL.below hB0))
    (fun h k=>⟨h.1.trans k.1,k.2.trans h.2⟩) (fun W l o o' hl ho hnc hnw=>⟨belowK_b (w:=W0) (by omega) W l o o' hl ho hnc hnw,World.putObj_heap_other (by omega)⟩) (Below.refl _ _) (fun _=>rfl)
    (fun pre W=>((∃ v,Boxed W (w.heap.size+1) 104 v∧W.ownsRow w.heap.size 108 4 v pre.length (outs b1 pre)∧True)∧Boxed W w.heap.size 4 (.bool b1)∧Boxed W (w.heap.size+1+1) 104 (.slice q zs.length cap))∧Below w.heap.size w W)
    (fun _ _ _=>False)
    (OwnFrom.and (OwnFrom.and (Own.from (holdsRow_own w.heap.size (w.heap.size+1) 104 108 4 (fun pre=>List.length pre) (outs b1) (fun _ _=>True)) _) (OwnFrom.and (Own.from (boxed_own _ _ _) _) (Own.from (boxed_own _ _ _) _))) (ownFrom_below (Nat.le_refl _) (by omega)))
    (fun _ _ _ _ _ hs _ _=>hs)
    ⟨⟨⟨_,bO,World.ownsRow_nil _ _ _ _,trivial⟩,bB,bS⟩,hB0⟩
    (fun x a' W=>∃ Bx v,w.heap.size+2 < Bx∧BoxN W Bx 108 (cells4 x.2)∧Boxed W (w.heap.size+1) 104 v∧v.ownBlock≠some Bx∧a'={ tmps:=#[.slice q zs.length cap,.bool b1,undef,.pointer (some ⟨w.heap.size,0,none⟩),.slice none 0 0,.pointer (some ⟨w.heap.size+1,0,none⟩),undef,.pointer (some ⟨Bx,0,none⟩),.slice q zs.length cap,.func (.func 73) #[] #[.pointer (some ⟨w.heap.size+1+1,0,none⟩)],.int .i64 x.1,.agg ⟨cells4 x.2⟩,undef,undef,undef,undef,undef,undef,undef,undef,undef,undef,undef,undef,undef,undef],defers:=[] })
    (fun x a' _ X Y row hs hg hr=>by
      obtain ⟨Bx,v,h1,h2,h3,h4,h5⟩:=hs
      refine ⟨Bx,v,h1,h2.kept hg (fun e=>?_),h3.kept hg (fun e=>?_),h4,h5⟩
      · obtain ⟨o,ho,hc⟩:=(hr _ e.symm).2
        rw [show X.heap[Bx]? = _ from h2] at ho; cases ho; cases hc
      · obtain ⟨o,ho,hc⟩:=(hr _ e.symm).2
        rw [show X.heap[w.heap.size+1]? = _ from h3] at ho; cases ho; cases hc)
    ?assign ?body ?done ?stop
  case assign =>
    rintro l pre x W K ⟨⟨⟨v,hv,hrow,_⟩,hb,hs⟩,hB⟩ hK
    have hBs:=hB.size
    have hsl:=hs.lt
    simp only [cells4] at hK ⊢
    gi_wp2
    refine hK _ _ ((KeepsOthers.alloc _ _).from _) ⟨(Below.refl _ W).alloc hBs _,Below.heap_alloc W _ _ hsl⟩ ⟨⟨⟨v,hv.alloc _,hrow.alloc _,trivial⟩,hb.alloc _,hs.alloc _⟩,hB.alloc hBs _⟩ ⟨W.heap.size,v,by omega,World.alloc_heap_new W _,hv.alloc _,?_,rfl⟩
    intro e
    have:=hrow.lt _ e
    omega
  case body =>
    rintro l pre x a' W hl _ ⟨⟨⟨v,hv,hrow,_⟩,hb,hs⟩,hB⟩ ⟨Bx,v',hBx,hX,hv',hvB,rfl⟩ hlt
    obtain rfl:v'=v:=by
      have:=(show W.heap[_]? = _ from hv').symm.trans hv
      simpa using this
    have hBs:=hB.size
    have hmax:pre.length+1≤maxLen:=Nat.le_trans (by omega:_≤4294967296) (by decide)
    have hbc:=hb.cell
    have c0:=hX.cell 0
    have c1:=hX.cell 1
    have c2:=hX.cell 2
    have c3:=hX.cell 3
    have f2:=hX.frozen 2
    have f3:=hX.frozen 3
    simp only [cells4,List.getElem?_cons_zero,List.getElem?_cons_succ] at c0 c1 c2 c3 ⊢
    cases b1
    · skip
      have hrow1:(W.setCell ⟨Bx,3,none⟩ (.bool (!x.2.f3))).ownsRow w.heap.size 108 4 v' pre.length (outs false pre):=hrow.kept (grownBy_setCellN W Bx 3 _) (.inr hvB)
      have hv1:Boxed (W.setCell ⟨Bx,3,none⟩ (.bool (!x.2.f3))) (w.heap.size+1) 104 v':=hv.kept (grownBy_setCellN W Bx 3 _) (by simp; omega)
      have hb1:Boxed (W.setCell ⟨Bx,3,none⟩ (.bool (!x.2.f3))) w.heap.size 4 (.bool false):=hb.kept (grownBy_setCellN W Bx 3 _) (by simp; omega)
      have hs1:Boxed (W.setCell ⟨Bx,3,none⟩ (.bool (!x.2.f3))) (w.heap.size+1+1) 104 (.slice q zs.length cap):=hs.kept (grownBy_setCellN W Bx 3 _) (by simp; omega)
      have hcn:=cells_new (W.setCell ⟨Bx,3,none⟩ (.bool (!x.2.f3))) (cells4 (fl false x.2)) 108
      rw [World.size_setCell] at hcn
      have hvc:=hv1.cell
      have hX1:=hX.set 3 (.bool (!x.2.f3))
      have d0:=hX1.cell 0
      have d1:=hX1.cell 1
      have d2:=hX1.cell 2
      have d3:=hX1.cell 3
      simp only [cells4,List.set_cons_zero,List.set_cons_succ,List.getElem?_cons_zero,List.getElem?_cons_succ] at d0 d1 d2 d3
      gi_wp2_with (gi_at_builtin; refine wpListIn_append_own _ rfl _ _ 104 rfl w.heap.size 108 i0 _ 4 24 Try.underlying104 hi hz0 hz1 hz2 rfl (by decide) _ _ _ rfl (hrow1.alloc _) ⟨W.heap.size,0,none⟩ 1 1 (cells4 (fl false x.2)) rfl rfl hcn (by simp [cells4,Value.oneCell']) hmax (by omega) (by have:=hB.size; simp; omega) ?_; intro v1 w1 hown' hgrow _; obtain ⟨g',cap',rfl⟩:=ownsRow_succ hown'; obtain ⟨hv2,hv3,hr2,hk2,hb2⟩:=hv1.appended (by decide) hrow1 (by have:=hB.size; simp; omega) (by omega) hown' hgrow; have hc1:=hv2.cell; have hf1:=hv2.frozen)
      have hb2':Boxed w1 w.heap.size 4 (.bool false):=(hb1.alloc _).kept hgrow (hb1.not_row (by decide) hrow1)
      have hs2':Boxed w1 (w.heap.size+1+1) 104 (.slice q zs.length cap):=(hs1.alloc _).kept hgrow (hs1.not_row (by decide) hrow1)
      have hs3:=hs2'.other (B':=w.heap.size+1) (by omega) (.slice (some ⟨g',0,none⟩) (pre.length+1) cap')
      have hW1:Below w.heap.size W (W.setCell ⟨Bx,3,none⟩ (.bool (!x.2.f3))):=(Below.refl w.heap.size W).setCell (p:=⟨Bx,3,none⟩) (by simp; omega) _
      refine ⟨((KeepsOthers.setCell _ _ _).trans hk2).from _,⟨hW1.trans hb2,(show _=_ from hs3).trans (show _=_ from hs).symm⟩,⟨⟨_,hv3,?_,trivial⟩,hb2'.other (by omega) _,hs3⟩,hB.trans (hW1.trans hb2)⟩
      rw [outs_snoc,List.length_append]
      exact hr2
    · skip
      have hrow1:(W.setCell ⟨Bx,2,none⟩ (.bool (!x.2.f2))).ownsRow w.heap.size 108 4 v' pre.length (outs true pre):=hrow.kept (grownBy_setCellN W Bx 2 _) (.inr hvB)
      have hv1:Boxed (W.setCell ⟨Bx,2,none⟩ (.bool (!x.2.f2))) (w.heap.size+1) 104 v':=hv.kept (grownBy_setCellN W Bx 2 _) (by simp; omega)
      have hb1:Boxed (W.setCell ⟨Bx,2,none⟩ (.bool (!x.2.f2))) w.heap.size 4 (.bool true):=hb.kept (grownBy_setCellN W Bx 2 _) (by simp; omega)
      have hs1:Boxed (W.setCell ⟨Bx,2,none⟩ (.bool (!x.2.f2))) (w.heap.size+1+1) 104 (.slice q zs.length cap):=hs.kept (grownBy_setCellN W Bx 2 _) (by simp; omega)
      have hcn:=cells_new (W.setCell ⟨Bx,2,none⟩ (.bool (!x.2.f2))) (cells4 (fl true x.2)) 108
      rw [World.size_setCell] at hcn
      have hvc:=hv1.cell
      have hX1:=hX.set 2 (.bool (!x.2.f2))
      have d0:=hX1.cell 0
      have d1:=hX1.cell 1
      have d2:=hX1.cell 2
      have d3:=hX1.cell 3
      simp only [cells4,List.set_cons_zero,List.set_cons_succ,List.getElem?_cons_zero,List.getElem?_cons_succ] at d0 d1 d2 d3
      gi_wp2_with (gi_at_builtin; refine wpListIn_append_own _ rfl _ _ 104 rfl w.heap.size 108 i0 _ 4 24 Try.underlying104 hi hz0 hz1 hz2 rfl (by decide) _ _ _ rfl (hrow1.alloc _) ⟨W.heap.size,0,none⟩ 1 1 (cells4 (fl true x.2)) rfl rfl hcn (by simp [cells4,Value.oneCell']) hmax (by omega) (by have:=hB.size; simp; omega) ?_; intro v1 w1 hown' hgrow _; obtain ⟨g',cap',rfl⟩:=ownsRow_succ hown'; obtain ⟨hv2,hv3,hr2,hk2,hb2⟩:=hv1.appended (by decide) hrow1 (by have:=hB.size; simp; omega) (by omega) hown' hgrow; have hc1:=hv2.cell; have hf1:=hv2.frozen)
      have hb2':Boxed w1 w.heap.size 4 (.bool true):=(hb1.alloc _).kept hgrow (hb1.not_row (by decide) hrow1)
      have hs2':Boxed w1 (w.heap.size+1+1) 104 (.slice q zs.length cap):=(hs1.alloc _).kept hgrow (hs1.not_row (by decide) hrow1)
      have hs3:=hs2'.other (B':=w.heap.size+1) (by omega) (.slice (some ⟨g',0,none⟩) (pre.length+1) cap')
      have hW1:Below w.heap.size W (W.setCell ⟨Bx,2,none⟩ (.bool (!x.2.f2))):=(Below.refl w.heap.size W).setCell (p:=⟨Bx,2,none⟩) (by simp; omega) _
      refine ⟨((KeepsOthers.setCell _ _ _).trans hk2).from _,⟨hW1.trans hb2,(show _=_ from hs3).trans (show _=_ from hs).symm⟩,⟨⟨_,hv3,?_,trivial⟩,hb2'.other (by omega) _,hs3⟩,hB.trans (hW1.trans hb2)⟩
      rw [outs_snoc,List.length_append]
      exact hr2
  case done =>
    rintro D ys W hD rfl ⟨⟨⟨v,hv,hrow,_⟩,hb,hs⟩,hB⟩ hK
    have hc:=hv.cell
    gi_wp2
    refine ⟨by simp,.inl ⟨_,_,rfl,run_takeDeferred hK,?_⟩⟩
    refine ⟨_,results_tmp rfl _ _ _,v,rfl,?_,hB.trans (belowK_b (w:=w) (Nat.le_refl _) W D _ _ (by omega) hK rfl rfl)⟩
    have:=ownsRow_putObj hrow (.deferred none) hK rfl
    rwa [uptoB_length] at this
  case stop =>
    rintro D c pre W _ _ h _
    exact h.elim
theorem uptoB_all (zs:List S_FoldLeaf):(uptoB zs zs.length).map (·.2)=zs.reverse:=by
  apply List.ext_getElem
  · simp [uptoB]
  · intro i h1 h2
    have h3:i < zs.length:=by simpa using h2
    have h4:zs.length - 1 - i < zs.length:=by omega
    simp [uptoB,List.getElem_reverse,h4]
theorem outs_all (b:Bool) (zs:List S_FoldLeaf):outs b (uptoB zs zs.length)=(zs.reverse.map (fl b)).flatMap cells4:=by
  rw [← uptoB_all]
  simp [outs,List.flatMap_map]
theorem flat_get:∀ (l:List S_FoldLeaf) (j c:Nat),c < 4→(l.flatMap cells4)[j * 4+c]? = (l[j]?).bind fun x=>(cells4 x)[c]?
  | [],j,c,_=>by simp
  | x :: l,0,c,h=>by
    have:c < (cells4 x).length:=h
    simp [List.getElem?_append_left this]
  | x :: l,j+1,c,h=>by
    have e:(j+1) * 4+c - (cells4 x).length=j * 4+c:=by simp [cells4]; omega
    rw [List.flatMap_cons,List.getElem?_append_right (by simp [cells4]; omega),e,flat_get l j c h]
    simp
theorem ownAt_row {W:World} {S:Nat→Prop} {base:Nat} {v:Value} {r:List S_FoldLeaf} (h:W.ownsRow base 108 4 v r.length (r.flatMap cells4)):OwnAt S W v 108 4 (r.map cS_FoldLeaf):=by
  obtain ⟨_,⟨rfl,h0⟩ | ⟨g,cap,cur,rfl,_,hg,hle,_,hsz,htk⟩⟩:=h
  · exact .inl ⟨rfl,by simpa using h0⟩
  · refine .inr ⟨g,0,cap,cur,108,(0,0),by simp,by simpa using hle,by omega,.inl rfl,hg,rfl,REs.of_get _ _ fun j e he=>?_⟩
    rw [List.getElem?_map] at he
    obtain ⟨x,hx,rfl⟩:=Option.map_eq_some_iff.1 he
    have hjl:j < r.length:=(List.getElem?_eq_some_iff.1 hx).1
    refine ⟨rfl,?_⟩
    have key:∀ c u,(cells4 x)[c]? = some u→cur[0+j * 4+c]? = some u:=by
      intro c u hc
      have hc4:c < 4:=(List.getElem?_eq_some_iff.1 hc).1
      have:=flat_get r j c hc4
      rw [hx,Option.bind_some,hc,← htk,List.getElem?_take_of_lt (by omega)] at this
      simpa using this
    simp only [cS_FoldLeaf,cI,cB,List.cons_append,List.nil_append,RCs,RD]
    exact ⟨⟨_,key 0 _ rfl,rfl,rfl⟩,⟨_,key 1 _ rfl,rfl,rfl⟩,⟨_,key 2 _ rfl,rfl,rfl⟩,⟨_,key 3 _ rfl,rfl,rfl⟩,trivial⟩
theorem leaves_of {S:Nat→Prop} {w:World} {zs:List S_FoldLeaf} {u:Value} (h:RD S w (.sl 4 (zs.map cS_FoldLeaf)) u) (hS:∀ b,S b→b < w.heap.size):∃ q cap,u=.slice q zs.length cap∧Leaves w.heap.size w q zs:=by
  simp only [RD] at h
  rcases h with ⟨⟨q,rfl⟩,h0⟩ | ⟨b,off,c,arr,E,fz,rfl,_,hb,hh,hr⟩
  · have:zs=[]:=by simpa using h0
    subst this
    exact ⟨q,0,rfl,.inl rfl⟩
  · refine ⟨some ⟨b,off,none⟩,c,by simp,.inr ⟨b,off,rfl,hS b hb,fun j k v hj hv=>?_⟩⟩
    have hz:zs[j]? = some zs[j]:=List.getElem?_eq_getElem hj
    rw [hz,Option.getD_some] at hv
    have he:=(REs.get _ _ j _ hr (by rw [List.getElem?_map,hz]; rfl)).2
    simp only [cS_FoldLeaf,cI,cB,List.cons_append,List.nil_append,RCs,RD] at he
    obtain ⟨⟨_,h0,rfl,_⟩,⟨_,h1,rfl,_⟩,⟨_,h2,rfl,_⟩,⟨_,h3,rfl,_⟩,_⟩:=he
    have hcell:∀ i,w.cell? ⟨b,i,none⟩=arr[i]? := fun i=>by simp [World.cell?,hh]
    rw [hcell]
    match k,hv with
    | 0,hv=>simp only [cells4,List.getElem?_cons_zero,Option.some.injEq] at hv; subst hv; exact h0
    | 1,hv=>simp only [cells4,List.getElem?_cons_zero,List.getElem?_cons_succ,Option.some.injEq] at hv; subst hv; exact h1
    | 2,hv=>simp only [cells4,List.getElem?_cons_zero,List.getElem?_cons_succ,Option.some.injEq] at hv; subst hv; exact h2
    | 3,hv=>simp only [cells4,List.getElem?_cons_zero,List.getElem?_cons_succ,Option.some.injEq] at hv; subst hv; exact h3
    | k+4,hv=>simp [cells4] at hv
theorem fold_flipped_ok {F:Nat} {a0:List S_FoldLeaf} {a1:Bool} {r:List S_FoldLeaf} (h:fold_flipped F a0 a1=some r):ACall Try.prog 69 [.d (.sl 4 (a0.map cS_FoldLeaf)),.d (.v (.bool a1))] [] (.own 108 4 (r.map cS_FoldLeaf)) []:=by
  obtain ⟨hlen,hr⟩:=chk_ok h
  obtain rfl:a0.reverse.map (fl a1)=r:=Option.some.inj hr
  refine ⟨⟨Try.f69,Try.func69,rfl,rfl⟩,fun w S β us hus hm=>?_⟩
  match us,hus with
  | [u0,u1],_ =>
  obtain ⟨v0,h0,e0⟩:=hm.rel 0
  obtain ⟨v1,h1,e1⟩:=hm.rel 1
  obtain rfl:=e0 u0 rfl
  obtain rfl:=e1 u1 rfl
  obtain ⟨q,cap,rfl,hL⟩:=leaves_of (show RD S w _ _ from h0) fun b hb=>(hm.stb b hb).1
  obtain ⟨rfl,_⟩:u1=.bool a1∧_:=show RD S w (.v (.bool a1)) u1 from h1
  refine Calls.mono (callsIn_wide.1 (flip_in Fence.wide 3 trivial trivial trivial rfl (by omega) q cap a0 hlen a1 w hL)) ?_
  rintro e W' ⟨v,rfl,hrow,hB⟩
  rw [outs_all] at hrow
  have hrow':W'.ownsRow w.heap.size 108 4 v (a0.reverse.map (fl a1)).length ((a0.reverse.map (fl a1)).flatMap cells4):=by simpa using hrow
  refine ⟨v,S,fun _=>v,rfl,?_⟩
  have own0:∀ x i,(fget ((resSlot,AV.own 108 4 ((a0.reverse.map (fl a1)).map cS_FoldLeaf)) :: boxFr virtBase []) x).ownsAt i=true→x=resSlot∧i=0:=by
    intro x i hx
    simp only [boxFr,fget] at hx
    split at hx
    · rename_i hx'
      cases i with
      | zero=>exact ⟨(eq_of_beq hx').symm,rfl⟩
      | succ i=>simp [AV.ownsAt] at hx
    · cases i <;> simp [AV.ownsAt,AV.isOwn] at hx
  have hblk:∀ b,blk v=some b→w.heap.size≤b:=by
    intro b hb
    rcases hrow.2 with ⟨rfl,_⟩ | ⟨g,c,cur,rfl,hg,_⟩
    · simp [blk] at hb
    · simp only [blk,Option.some.injEq] at hb
      omega
  constructor
  · intro x
    by_cases hx:x=resSlot
    · subst hx
      refine ⟨v,⟨rfl,ownAt_row hrow'⟩,fun u' h=>?_⟩
      simpa using h.symm
    · refine ⟨undef,?_,fun u' h=>?_⟩
      · rw [fget_cons_ne _ _ (Ne.symm hx)]
        exact trivial
      · rw [if_neg hx] at h
        simp [lentAt] at h
        omega
  · intro x l a hx
    simp only [boxFr,fget] at hx
    split at hx <;> cases hx
  · intro x i y j b h1 h2 _ _
    obtain ⟨rfl,rfl⟩:=own0 x i h1
    obtain ⟨rfl,rfl⟩:=own0 y j h2
    exact ⟨rfl,rfl⟩
  · intro x i b _ hb
    have:=hblk b hb
    exact ⟨fun hS=>by have:=(hm.stb b hS).1; omega,.inl this⟩
  · intro b hb
    have:=hm.stb b hb
    exact ⟨Nat.lt_of_lt_of_le this.1 hB.size,this.2⟩
  · exact hm.s0
  · intro b hb _
    exact hB.block b hb
  · exact hB.os
  · exact hB.tape
  · exact hB.output
  · exact hB.size
end Go.Vm.BinG
