/-
  The tree of a list in a world. (No walk.)
-/
import Derived.Test.YtjjclmimifionaaAd
import Derived.Maps.AppendAt
namespace Go.Vm.TopG
open Go.Proofs
open Go.RowKit
set_option maxRecDepth 100000 in
set_option maxHeartbeats 4000000 in
theorem ModeD_at {k:Nat} (hk:k < 12) (W:World):Calls Try.prog 60 #[.int .i64 (k:Int)] W fun e W'=>∃ q,e=.returned (.tuple #[.func (.func 75) #[] #[.pointer (some ⟨q,0,none⟩)],.int .i64 0])∧Below W.heap.size W W'∧W'.heap[q]? = some (.cells #[modeV k] 130 (0,0))∧W.heap.size≤q:=by
 go_enter Try.func60,Try.ntmps60
 go_wp2_with (go_at_fn 74)
 refine (modes_at W).mono ?_
 rintro e w1 ⟨rfl,hb⟩
 have hk2:modesA[k]? = some (modeV k):=by
  obtain rfl | rfl | rfl | rfl | rfl | rfl | rfl | rfl | rfl | rfl | rfl | rfl:k=0∨k=1∨k=2∨k=3∨k=4∨k=5∨k=6∨k=7∨k=8∨k=9∨k=10∨k=11:=by omega
  all_goals rfl
 have hsz:modesA.size=12:=rfl
 revert hk2 hsz
 unfold modeV
 generalize modesA=ms
 intro hk2 hsz
 have hix:=index_arr (T:=143) (n:=12) (by kernel_rfl) (k:=.i64) hk hk2
 go_wp2
 go_ret2
 exact ⟨_,rfl,hb.alloc hb.size _,heap_alloc_new _ _,hb.size⟩
set_option maxRecDepth 100000 in
set_option maxHeartbeats 4000000 in
theorem InksD_at (F:Nat) {k:Nat} (hk:k < 12) (W:World):Calls Try.prog 42 #[.int .i64 (k:Int)] W fun e W'=>∃ g,e=.returned g∧Below W.heap.size W W'∧MixD F k g (fun b=>W.heap.size≤b∧b < W'.heap.size) W':=by
 go_enter Try.func42,Try.ntmps42
 go_wp2_with (go_at_fn 60)
 refine (ModeD_at hk W).mono ?_
 rintro e w1 ⟨q,rfl,hb,hq,hqW⟩
 go_wp2
 go_ret
 have hsz:=World.size_alloc w1 (.cells #[.func (.func 75) #[] #[.pointer (some ⟨q,0,none⟩)]] 95 (0,0))
 have hql:=heap_lt hq
 refine ⟨_,rfl,hb.alloc hb.size _,fun b hb=>hb.2,fun W2 hW2 hA=>⟨_,_,rfl,⟨_,Try.func61,by kernel_rfl,by kernel_rfl⟩,fun W3 hW a b r h=>?_⟩⟩
 have g1:W2.heap[q]? = some (.cells #[modeV k] 130 (0,0)):=(hA q ⟨hqW,by rw [hsz]; omega⟩).trans ((Below.heap_alloc _ _ _ hql).trans hq)
 have g2:=(hA w1.heap.size ⟨hb.size,by rw [hsz]; omega⟩).trans (heap_alloc_new _ _)
 exact mix61_at hk h W3 (cell_of (keep hW g2) 0) (cell_of (keep hW g1) 0)
/-- What a fill's block holds. -/
structure FillAt (F:Nat) (D:Nat→Prop) (w:World) (b:Nat) (x:S_Item) (xs:Array Value) (at_:Int) (g mx:Value):Prop where
 blk:w.heap[b]? = some (.cells (xs++#[.int .i64 at_,g,mx]) 105 (0,0))
 size:xs.size=34
 rd:RCs D w (cS_Item x) (fun j=>xs[j]?) 0
 src:SrcD F x.f2 g D w
 mix:∃ k:Nat,k < 12∧x.f4=(k:Int)∧MixD F k mx D w
/-- What a group's block holds (the page has no mode). -/
structure HeadAt (F:Nat) (D:Nat→Prop) (w:World) (b:Nat) (x:S_Item) (xs:Array Value) (at_:Int) (mx ms:Value):Prop where
 blk:w.heap[b]? = some (.cells (xs++#[.int .i64 at_,mx,ms]) 98 (0,0))
 size:xs.size=34
 rd:RCs D w (cS_Item x) (fun j=>xs[j]?) 0
/-- A row of values behind a slice. -/
def SlAt (D:Nat→Prop) (w:World) (ms:Value) (vs:List Value):Prop :=
 (ms=.slice none 0 0∧vs=[])∨∃ (r c:Nat) (arr:Array Value) (E:TypeId) (fz:Nat×Nat),ms=.slice (some ⟨r,0,none⟩) vs.length c∧D r∧w.heap[r]? = some (.cells arr E fz)∧∀ (i:Nat) (v:Value),vs[i]? = some v→arr[i]? = some v
def ptr (b:Nat):Value:=.pointer (some ⟨b,0,none⟩)
mutual
def MbAt (F:Nat) (D:Nat→Prop) (w:World):Mb→Value→Prop
 | .fill x,v=>∃ b xs a g mx,v=.iface 100 (ptr b)∧D b∧FillAt F D w b x xs a g mx
 | .grp x l,v=>∃ b xs a mx ms vs,v=.iface 57 (ptr b)∧D b∧HeadAt F D w b x xs a mx ms∧(∃ k:Nat,k < 12∧x.f4=(k:Int)∧MixD F k mx D w)∧SlAt D w ms vs∧MbsAt F D w l vs
def MbsAt (F:Nat) (D:Nat→Prop) (w:World):List Mb→List Value→Prop
 | [],vs=>vs=[]
 | m :: l,vs=>∃ v r,vs=v :: r∧MbAt F D w m v∧MbsAt F D w l r
end
section
variable {F:Nat} {D D':Nat→Prop} {w w':World}
theorem FillAt.mono (hs:w.heap.size≤w'.heap.size) (ha:Agree D w w') (h1:∀ b,D b→D' b) (h2:∀ b,D' b→b < w'.heap.size) {b:Nat} {x:S_Item} {xs:Array Value} {a:Int} {g mx:Value} (hb:D b) (h:FillAt F D w b x xs a g mx):FillAt F D' w' b x xs a g mx:=by
 obtain ⟨k,hk,hx,hm⟩:=h.mix
 exact ⟨(ha b hb).trans h.blk,h.size,RCs.mono h1 ha _ _ _ h.rd,h.src.mono hs ha h1 h2,k,hk,hx,hm.mono hs ha h1 h2⟩
theorem SlAt.mono (ha:Agree D w w') (h1:∀ b,D b→D' b) {ms:Value} {vs:List Value} (h:SlAt D w ms vs):SlAt D' w' ms vs:=by
 rcases h with h | ⟨r,c,arr,E,fz,e1,e2,e3,e4⟩
 ·exact .inl h
 ·exact .inr ⟨r,c,arr,E,fz,e1,h1 r e2,(ha r e2).trans e3,e4⟩
mutual
theorem MbAt.mono (hs:w.heap.size≤w'.heap.size) (ha:Agree D w w') (h1:∀ b,D b→D' b) (h2:∀ b,D' b→b < w'.heap.size):∀ (m:Mb) (v:Value),MbAt F D w m v→MbAt F D' w' m v
 | .fill x,v,h=>by
  simp only [MbAt] at h ⊢
  obtain ⟨b,xs,a,g,mx,e1,e2,e3⟩:=h
  exact ⟨b,xs,a,g,mx,e1,h1 b e2,e3.mono hs ha h1 h2 e2⟩
 | .grp x l,v,h=>by
  simp only [MbAt] at h ⊢
  obtain ⟨b,xs,a,mx,ms,vs,e1,e2,e3,⟨k,hk,hx,hm⟩,e5,e6⟩:=h
  exact ⟨b,xs,a,mx,ms,vs,e1,h1 b e2,⟨(ha b e2).trans e3.blk,e3.size,RCs.mono h1 ha _ _ _ e3.rd⟩,⟨k,hk,hx,hm.mono hs ha h1 h2⟩,e5.mono ha h1,MbsAt.mono hs ha h1 h2 l vs e6⟩
theorem MbsAt.mono (hs:w.heap.size≤w'.heap.size) (ha:Agree D w w') (h1:∀ b,D b→D' b) (h2:∀ b,D' b→b < w'.heap.size):∀ (l:List Mb) (vs:List Value),MbsAt F D w l vs→MbsAt F D' w' l vs
 | [],vs,h=>by simpa [MbsAt] using h
 | m :: l,vs,h=>by
  simp only [MbsAt] at h ⊢
  obtain ⟨v,r,e1,e2,e3⟩:=h
  exact ⟨v,r,e1,MbAt.mono hs ha h1 h2 m v e2,MbsAt.mono hs ha h1 h2 l r e3⟩
end
theorem MbsAt.len:∀ {l:List Mb} {vs:List Value},MbsAt F D w l vs→vs.length=l.length
 | [],vs,h=>by simp only [MbsAt] at h; rw [h]; rfl
 | m :: l,vs,h=>by
  simp only [MbsAt] at h
  obtain ⟨v,r,rfl,_,e3⟩:=h
  simp [e3.len]
theorem MbsAt.snoc:∀ {l:List Mb} {vs:List Value} {m:Mb} {v:Value},MbsAt F D w l vs→MbAt F D w m v→MbsAt F D w (l++[m]) (vs++[v])
 | [],vs,m,v,h,hm=>by
  simp only [MbsAt] at h
  subst h
  simp only [List.nil_append,MbsAt]
  exact ⟨v,[],rfl,hm,rfl⟩
 | a :: l,vs,m,v,h,hm=>by
  simp only [MbsAt] at h
  obtain ⟨u,r,rfl,e2,e3⟩:=h
  simp only [List.cons_append,MbsAt]
  exact ⟨u,r++[v],rfl,e2,e3.snoc hm⟩
/-- An owned row,as a row of values. -/
theorem own_sl {lo n:Nat} {e:TypeId} {v:Value} {xs:List Value} (h:w.ownsRow lo e 1 v n xs) (hD:∀ b,v.ownBlock=some b→D b):SlAt D w v xs:=by
 obtain ⟨h1,h2⟩:=h
 rcases h2 with ⟨rfl,rfl⟩ | ⟨g,cap,cur,rfl,q2,q3,q4,q5,q6,q7⟩
 ·exact .inl ⟨rfl,List.length_eq_zero_iff.1 (by simpa using h1)⟩
 ·refine .inr ⟨g,cap,cur,e,(0,0),by rw [show xs.length=n by omega],hD g rfl,q3,fun i u hu=>?_⟩
  have hi:i < n:=by have:=(List.getElem?_eq_some_iff.1 hu).1; omega
  rw [← q7,Nat.mul_one,List.getElem?_take_of_lt hi] at hu
  simpa using hu
end
/-- A group that is open; ch: the group that is open within it (its pointer ends the members). -/
structure Grp where
 x:S_Item
 l:List Mb
 b:Nat
 xs:Array Value
 a:Int
 mx:Value
 ms:Value
 ds:List Value
 ch:Option Nat
 page:Bool
def Grp.own (g:Grp):List Nat:=g.b :: g.ms.ownBlock.toList
structure GrpAt (F:Nat) (lo:Nat) (D:Nat→Prop) (w:World) (g:Grp):Prop where
 head:HeadAt F D w g.b g.x g.xs g.a g.mx g.ms
 mix:g.page=false→∃ k:Nat,k < 12∧g.x.f4=(k:Int)∧MixD F k g.mx D w
 row:w.ownsRow lo 108 1 g.ms (g.ds.length+g.ch.toList.length) (g.ds++g.ch.toList.map fun b=>.iface 57 (ptr b))
 mbs:MbsAt F D w g.l g.ds
 self:g.ms.ownBlock≠some g.b
/-- Outside O nothing turns. -/
structure Chg (O:Nat→Prop) (w w':World):Prop where
 os:w'.os=w.os
 tape:w'.tape=w.tape
 output:w'.output=w.output
 size:w.heap.size≤w'.heap.size
 block:∀ b,b < w.heap.size→¬ O b→w'.heap[b]? = w.heap[b]?
/-- The tree while it is made: L: the open groups,the innermost first; Lo: what the slice of the open ones holds. -/
structure TM (W:World) (S:Nat→Prop) (F:Nat) (D:Nat→Prop) (L:List Grp) (Lo:List Nat) (ov:Value) (w:World):Prop where
 below:Below W.heap.size W w
 lt:∀ b,D b→b < w.heap.size
 sup:∀ b,S b→D b
 sub:∀ b,D b→S b∨W.heap.size≤b
 row:w.ownsRow W.heap.size 57 1 ov Lo.length (Lo.reverse.map ptr)
 all:∀ g∈L,GrpAt F W.heap.size D w g
 pw:L.Pairwise fun g h=>∀ b∈g.own,b ∉ h.own
 ovn:∀ g∈L,∀ b∈g.own,ov.ownBlock≠some b
 ow:∀ g∈L,∀ b∈g.own,¬ D b∧W.heap.size≤b∧b < w.heap.size
 oo:∀ b,ov.ownBlock=some b→¬ D b∧W.heap.size≤b∧b < w.heap.size
theorem own_same {w w':World} {lo n:Nat} {e:TypeId} {v:Value} {xs:List Value} (h:w.ownsRow lo e 1 v n xs) (hb:∀ b,v.ownBlock=some b→w'.heap[b]? = w.heap[b]?):w'.ownsRow lo e 1 v n xs:=by
 obtain ⟨h1,h2⟩:=h
 refine ⟨h1,?_⟩
 rcases h2 with h2 | ⟨g,cap,cur,q1,q2,q3,q4⟩
 ·exact .inl h2
 ·subst q1
  exact .inr ⟨g,cap,cur,rfl,q2,(hb g rfl).trans q3,q4⟩
theorem Grp.own_b (g:Grp):g.b∈g.own:=List.mem_cons_self ..
theorem Grp.own_ms {g:Grp} {b:Nat} (h:g.ms.ownBlock=some b):b∈g.own:=List.mem_cons_of_mem _ (by simp [h])
theorem Grp.own_cases {g:Grp} {b:Nat} (h:b∈g.own):b=g.b∨g.ms.ownBlock=some b:=by
 rcases List.mem_cons.1 h with h | h
 ·exact .inl h
 ·exact .inr (by simpa using h)
section
variable {W w w' w2:World} {S D D':Nat→Prop} {F lo:Nat} {L r:List Grp} {Lo:List Nat} {ov:Value} {g h:Grp}
theorem GrpAt.keep (hg:GrpAt F lo D w g) (hs:w.heap.size≤w'.heap.size) (ha:Agree D w w') (h1:∀ b,D b→D' b) (h2:∀ b,D' b→b < w'.heap.size) (ho:∀ b∈g.own,w'.heap[b]? = w.heap[b]?):GrpAt F lo D' w' g :=
 ⟨⟨(ho _ g.own_b).trans hg.head.blk,hg.head.size,RCs.mono h1 ha _ _ _ hg.head.rd⟩,fun hp=>(hg.mix hp).imp fun k ⟨e1,e2,e3⟩=>⟨e1,e2,e3.mono hs ha h1 h2⟩,own_same hg.row fun b hb=>ho b (Grp.own_ms hb),MbsAt.mono hs ha h1 h2 _ _ hg.mbs,hg.self⟩
theorem TM.next (h:TM W S F D L Lo ov w) (hb:Below w.heap.size w w') (h1:∀ b,D b→D' b) (h2:∀ b,D' b→b < w'.heap.size∧(D b∨w.heap.size≤b)):TM W S F D' L Lo ov w':=by
 have hag:Agree D w w':=fun b hd=>hb.block b (h.lt b hd)
 refine ⟨h.below.trans (hb.mono h.below.size),fun b hd=>(h2 b hd).1,fun b hs=>h1 b (h.sup b hs),fun b hd=>?_,own_same h.row fun b hv=>hb.block b (h.oo b hv).2.2,fun g hg=>(h.all g hg).keep hb.size hag h1 (fun b hd=>(h2 b hd).1) fun b ho=>hb.block b (h.ow g hg b ho).2.2,h.pw,h.ovn,fun g hg b ho=>?_,fun b hv=>?_⟩
 ·rcases (h2 b hd).2 with h' | h'
  ·exact h.sub b h'
  ·exact .inr (Nat.le_trans h.below.size h')
 ·obtain ⟨o1,o2,o3⟩:=h.ow g hg b ho
  exact ⟨fun hd=>(h2 b hd).2.elim o1 fun h'=>by omega,o2,Nat.lt_of_lt_of_le o3 hb.size⟩
 ·obtain ⟨o1,o2,o3⟩:=h.oo b hv
  exact ⟨fun hd=>(h2 b hd).2.elim o1 fun h'=>by omega,o2,Nat.lt_of_lt_of_le o3 hb.size⟩
/-- The innermost group is given another row of members. -/
theorem TM.app (h:TM W S F D (g :: r) Lo ov w) {ms':Value} {ds':List Value} {ch':Option Nat} {l':List Mb} (hc:Chg (·∈g.own) w w2) (hb:w2.heap[g.b]? = some (.cells (g.xs++#[.int .i64 g.a,g.mx,ms']) 98 (0,0)))
  (hr:w2.ownsRow W.heap.size 108 1 ms' (ds'.length+ch'.toList.length) (ds'++ch'.toList.map fun b=>.iface 57 (ptr b))) (hm:ms'.ownBlock=g.ms.ownBlock∨(∃ q,ms'.ownBlock=some q∧w.heap.size≤q∧q < w2.heap.size)) (hmb:MbsAt F D w2 l' ds') :
  TM W S F D ({ g with l:=l',ms:=ms',ds:=ds',ch:=ch' } :: r) Lo ov w2:=by
 have hgm:g∈g :: r:=List.mem_cons_self ..
 have hg:=h.all g hgm
 have hag:Agree D w w2:=fun b hd=>hc.block b (h.lt b hd) fun ho=>(h.ow g hgm b ho).1 hd
 have hlt:∀ b,D b→b < w2.heap.size:=fun b hd=>Nat.lt_of_lt_of_le (h.lt b hd) hc.size
 have hpw:=List.pairwise_cons.1 h.pw
 have hown:∀ b∈({ g with l:=l',ms:=ms',ds:=ds',ch:=ch' }:Grp).own,b∈g.own∨(w.heap.size≤b∧b < w2.heap.size):=fun b hb=>by
  rcases Grp.own_cases hb with rfl | hb
  ·exact .inl g.own_b
  ·rcases hm with hm | ⟨q,hq,h1,h2⟩
   ·exact .inl (Grp.own_ms (hm.symm.trans hb))
   ·obtain rfl:q=b:=by have hb:ms'.ownBlock=some b:=hb; rw [hq] at hb; exact Option.some.inj hb
    exact .inr ⟨h1,h2⟩
 refine ⟨h.below.trans ⟨hc.os,hc.tape,hc.output,hc.size,fun b hb=>hc.block b (Nat.lt_of_lt_of_le hb h.below.size) fun ho=>?_⟩,hlt,h.sup,h.sub,own_same h.row fun b hv=>hc.block b (h.oo b hv).2.2 fun ho=>h.ovn g hgm b ho hv,fun k hk=>?_,List.pairwise_cons.2 ⟨fun k hk b hb=>?_,hpw.2⟩,fun k hk b hb=>?_,fun k hk b hb=>?_,fun b hv=>?_⟩
 ·have:=(h.ow g hgm b ho).2.1; omega
 ·rcases List.mem_cons.1 hk with rfl | hk
  ·refine ⟨⟨hb,hg.head.size,RCs.mono (fun _ h=>h) hag _ _ _ hg.head.rd⟩,fun hp=>(hg.mix hp).imp fun k ⟨e1,e2,e3⟩=>⟨e1,e2,e3.mono hc.size hag (fun _ h=>h) hlt⟩,hr,hmb,fun he=>?_⟩
   have he:ms'.ownBlock=some g.b:=he
   rcases hm with hm | ⟨q,hq,h1,h2⟩
   ·exact hg.self (hm.symm.trans he)
   ·rw [hq] at he
    cases he
    have:=(h.ow g hgm _ g.own_b).2.2
    omega
  ·exact (h.all k (List.mem_cons_of_mem _ hk)).keep hc.size hag (fun _ h=>h) hlt fun b hb=>hc.block b (h.ow k (List.mem_cons_of_mem _ hk) b hb).2.2 fun ho=>hpw.1 k hk b ho hb
 ·rcases hown b hb with hb | hb
  ·exact hpw.1 k hk b hb
  ·intro hk2
   have:=(h.ow k (List.mem_cons_of_mem _ hk) b hk2).2.2
   omega
 ·rcases List.mem_cons.1 hk with rfl | hk
  ·rcases hown b hb with hb | hb
   ·exact h.ovn g hgm b hb
   ·intro hv
    have:=(h.oo b hv).2.2
    omega
  ·exact h.ovn k (List.mem_cons_of_mem _ hk) b hb
 ·rcases List.mem_cons.1 hk with rfl | hk
  ·rcases hown b hb with hb | hb
   ·obtain ⟨o1,o2,o3⟩:=h.ow g hgm b hb
    exact ⟨o1,o2,Nat.lt_of_lt_of_le o3 hc.size⟩
   ·exact ⟨fun hd=>by have:=h.lt b hd; omega,Nat.le_trans h.below.size hb.1,hb.2⟩
  ·obtain ⟨o1,o2,o3⟩:=h.ow k (List.mem_cons_of_mem _ hk) b hb
   exact ⟨o1,o2,Nat.lt_of_lt_of_le o3 hc.size⟩
 ·obtain ⟨o1,o2,o3⟩:=h.oo b hv
  exact ⟨o1,o2,Nat.lt_of_lt_of_le o3 hc.size⟩
/-- A group is opened: it stands ahead of the others,and ends the slice of the open ones. -/
theorem TM.push (h:TM W S F D L Lo ov w) {c:Grp} (hc:GrpAt F W.heap.size D w c) (hms:c.ms.ownBlock=none) (hcb:¬ D c.b∧W.heap.size≤c.b∧c.b < w.heap.size) (hcl:∀ g∈L,c.b ∉ g.own) (hco:ov.ownBlock≠some c.b) {ov':Value} (hg:Chg (fun b=>ov.ownBlock=some b) w w2)
  (hr:w2.ownsRow W.heap.size 57 1 ov' (Lo.length+1) (Lo.reverse.map ptr++[ptr c.b])) (hm:ov'.ownBlock=ov.ownBlock∨(∃ q,ov'.ownBlock=some q∧w.heap.size≤q∧q < w2.heap.size)) :
  TM W S F D (c :: L) (c.b :: Lo) ov' w2:=by
 have hag:Agree D w w2:=fun b hd=>hg.block b (h.lt b hd) fun ho=>(h.oo b ho).1 hd
 have hlt:∀ b,D b→b < w2.heap.size:=fun b hd=>Nat.lt_of_lt_of_le (h.lt b hd) hg.size
 have hown:∀ b∈c.own,b=c.b:=fun b hb=>by
  rcases Grp.own_cases hb with hb | hb
  ·exact hb
  ·rw [hms] at hb; cases hb
 have hov:∀ b,ov'.ownBlock=some b→ov.ownBlock=some b∨(w.heap.size≤b∧b < w2.heap.size):=fun b hb=>by
  rcases hm with hm | ⟨q,hq,h1,h2⟩
  ·exact .inl (hm.symm.trans hb)
  ·rw [hq] at hb
   cases hb
   exact .inr ⟨h1,h2⟩
 refine ⟨h.below.trans ⟨hg.os,hg.tape,hg.output,hg.size,fun b hb=>hg.block b (Nat.lt_of_lt_of_le hb h.below.size) fun ho=>?_⟩,hlt,h.sup,h.sub,?_,fun k hk=>?_,List.pairwise_cons.2 ⟨fun k hk b hb=>?_,h.pw⟩,fun k hk b hb=>?_,fun k hk b hb=>?_,fun b hv=>?_⟩
 ·have:=(h.oo b ho).2.1; omega
 ·simpa using hr
 ·rcases List.mem_cons.1 hk with rfl | hk
  ·exact hc.keep hg.size hag (fun _ h=>h) hlt fun b hb=>by
    have:=hown b hb
    subst this
    exact hg.block _ hcb.2.2 hco
  ·exact (h.all k hk).keep hg.size hag (fun _ h=>h) hlt fun b hb=>hg.block b (h.ow k hk b hb).2.2 fun ho=>h.ovn k hk b hb ho
 ·rw [hown b hb]
  exact hcl k hk
 ·rcases List.mem_cons.1 hk with rfl | hk
  ·rw [hown b hb]
   intro hv
   rcases hov _ hv with hv | hv
   ·exact hco hv
   ·omega
  ·intro hv
   rcases hov b hv with hv | hv
   ·exact h.ovn k hk b hb hv
   ·have:=(h.ow k hk b hb).2.2
    omega
 ·rcases List.mem_cons.1 hk with rfl | hk
  ·rw [hown b hb]
   exact ⟨hcb.1,hcb.2.1,Nat.lt_of_lt_of_le hcb.2.2 hg.size⟩
  ·obtain ⟨o1,o2,o3⟩:=h.ow k hk b hb
   exact ⟨o1,o2,Nat.lt_of_lt_of_le o3 hg.size⟩
 ·rcases hov b hv with hv | hv
  ·obtain ⟨o1,o2,o3⟩:=h.oo b hv
   exact ⟨o1,o2,Nat.lt_of_lt_of_le o3 hg.size⟩
  ·exact ⟨fun hd=>by have:=h.lt b hd; omega,Nat.le_trans h.below.size hv.1,hv.2⟩
/-- What the innermost group owns is done. -/
theorem TM.doneD (h:TM W S F D (g :: r) Lo ov w):∀ b,(D b∨b∈g.own)→b < w.heap.size:=fun b hb=>hb.elim (h.lt b) fun hb=>(h.ow g (List.mem_cons_self ..) b hb).2.2
theorem TM.done (h:TM W S F D (g :: r) Lo ov w):TM W S F (fun b=>D b∨b∈g.own) r Lo ov w:=by
 have hgm:g∈g :: r:=List.mem_cons_self ..
 have hpw:=List.pairwise_cons.1 h.pw
 refine ⟨h.below,h.doneD,fun b hs=>.inl (h.sup b hs),fun b hb=>hb.elim (h.sub b) fun hb=>.inr (h.ow g hgm b hb).2.1,h.row,fun k hk=>(h.all k (List.mem_cons_of_mem _ hk)).keep (Nat.le_refl _) (fun _ _=>rfl) (fun _=>.inl) h.doneD fun _ _=>rfl,hpw.2,fun k hk=>h.ovn k (List.mem_cons_of_mem _ hk),fun k hk b hb=>?_,fun b hv=>?_⟩
 ·obtain ⟨o1,o2,o3⟩:=h.ow k (List.mem_cons_of_mem _ hk) b hb
  exact ⟨fun hd=>hd.elim o1 fun hd=>hpw.1 k hk b hd hb,o2,o3⟩
 ·obtain ⟨o1,o2,o3⟩:=h.oo b hv
  exact ⟨fun hd=>hd.elim o1 fun hd=>h.ovn g hgm b hd hv,o2,o3⟩
/-- The innermost group is closed. -/
theorem TM.pop {k:Grp} {p q c:Nat} (h:TM W S F D (g :: k :: r) (p :: Lo) (.slice (some ⟨q,0,none⟩) (Lo.length+1) c) w) (hg:g.ch=none) (hp:g.page=false) (hk:k.ch=some g.b) :
  TM W S F (fun b=>D b∨b∈g.own) ({ k with l:=k.l++[.grp g.x g.l],ds:=k.ds++[.iface 57 (ptr g.b)],ch:=none } :: r) Lo (.slice (some ⟨q,0,none⟩) Lo.length c) w:=by
 have hgm:g∈g :: k :: r:=List.mem_cons_self ..
 have h2:=h.done
 have hkm:k∈k :: r:=List.mem_cons_self ..
 have hk2:=h2.all k hkm
 have hg1:=(h.all g hgm).keep (Nat.le_refl _) (fun _ _=>rfl:Agree D w w) (fun _=>.inl (b:=_∈g.own)) h.doneD fun _ _=>rfl
 obtain ⟨kk,e1,e2,e3⟩:=hg1.mix hp
 have hrow:=hg1.row
 rw [hg] at hrow
 simp only [Option.toList_none,List.map_nil,List.append_nil,List.length_nil,Nat.add_zero] at hrow
 have hmb:MbAt F (fun b=>D b∨b∈g.own) w (.grp g.x g.l) (.iface 57 (ptr g.b)):=by
  simp only [MbAt]
  exact ⟨g.b,g.xs,g.a,g.mx,g.ms,g.ds,rfl,.inr g.own_b,hg1.head,⟨kk,e1,e2,e3⟩,own_sl hrow fun b hb=>.inr (Grp.own_ms hb),hg1.mbs⟩
 have hrk:=hk2.row
 rw [hk] at hrk
 have hr0:=h.row
 refine ⟨h2.below,h2.lt,h2.sup,h2.sub,?_,fun j hj=>?_,?_,fun j hj=>?_,fun j hj=>?_,fun b hv=>h2.oo b hv⟩
 ·obtain ⟨l1,l2⟩:=hr0
  simp only [List.length_cons,List.reverse_cons,List.map_append,List.map_cons,List.map_nil] at l1 l2
  refine ⟨by simp,?_⟩
  rcases l2 with ⟨e,_⟩ | ⟨g',cap,cur,q1,q2,q3,q4,q5,q6,q7⟩
  ·cases e
  ·cases q1
   refine .inr ⟨q,c,cur,rfl,q2,q3,by omega,q5,q6,?_⟩
   have:=congrArg (List.take Lo.length) q7
   rw [List.take_take,List.take_append_of_le_length (by simp),Nat.mul_one,Nat.min_eq_left (Nat.le_succ _)] at this
   rw [Nat.mul_one,this]
   exact List.take_of_length_le (by simp)
 ·rcases List.mem_cons.1 hj with rfl | hj
  ·refine ⟨hk2.head,hk2.mix,?_,hk2.mbs.snoc hmb,hk2.self⟩
   simpa using hrk
  ·exact h2.all j (List.mem_cons_of_mem _ hj)
 ·exact List.pairwise_cons.2 ⟨fun j hj b hb=>(List.pairwise_cons.1 h2.pw).1 j hj b hb,(List.pairwise_cons.1 h2.pw).2⟩
 ·rcases List.mem_cons.1 hj with rfl | hj
  ·exact fun b hb hv=>h2.ovn k hkm b hb hv
  ·exact fun b hb hv=>h2.ovn j (List.mem_cons_of_mem _ hj) b hb hv
 ·rcases List.mem_cons.1 hj with rfl | hj
  ·exact h2.ow k hkm
  ·exact h2.ow j (List.mem_cons_of_mem _ hj)
end
end Go.Vm.TopG
namespace Go.Vm.TopG
open Go.Proofs
open Go.RowKit
/-- The zero item's cells. -/
def zi:Array Value:=#[.int .i64 0,.slice none 0 0,.int .i64 0,.int .u8 0,.int .u8 0,.int .u8 0,.int .u8 0,.int .u8 0,.int .u8 0,.int .u8 0,.int .u8 0,.int .i64 0,.int .i64 0,.int .i64 0,.int .i64 0,.int .i64 0,.slice none 0 0,.int .i64 0,.int .i64 0,.slice none 0 0,.slice none 0 0,.int .i64 0,.int .i64 0,.int .i64 0,.int .i64 0,.int .i64 0,.int .i64 0,.bool false,.bool false,.int .u8 0,.int .i64 0,.bool false,.bool false,.bool false]
theorem item0_rd (D:Nat→Prop) (w:World):RCs D w (cS_Item item0) (fun j=>zi[j]?) 0:=by
 have hc:cS_Item item0=[.v (.int .i64 0),.sl 3 [],.v (.int .i64 0),.v (.int .u8 0),.v (.int .u8 0),.v (.int .u8 0),.v (.int .u8 0),.v (.int .u8 0),.v (.int .u8 0),.v (.int .u8 0),.v (.int .u8 0),.v (.int .i64 0),.v (.int .i64 0),.v (.int .i64 0),.v (.int .i64 0),.v (.int .i64 0),.sl 9 [],.v (.int .i64 0),.v (.int .i64 0),.sl 8 [],.sl 1 [],.v (.int .i64 0),.v (.int .i64 0),.v (.int .i64 0),.v (.int .i64 0),.v (.int .i64 0),.v (.int .i64 0),.v (.bool false),.v (.bool false),.v (.int .u8 0),.v (.int .i64 0),.v (.bool false),.v (.bool false),.v (.bool false)]:=by kernel_rfl
 rw [hc]
 simp [RCs,RD,zi,Value.oneCell']
/-- The open groups stand within each other. -/
def Linked:Option Nat→List Grp→Prop
 | _,[]=>True
 | ch,g :: r=>g.ch=ch∧g.page=r.isEmpty∧Linked (some g.b) r
/-- A page's tree in a world. -/
def PageAt (F:Nat) (D:Nat→Prop) (w:World) (b:Nat) (l:List Mb):Prop:=∃ xs a mx ms vs,D b∧HeadAt F D w b item0 xs a mx ms∧SlAt D w ms vs∧MbsAt F D w l vs
def itemOk (F:Nat) (i:S_Item):Bool:=decide (i.f1.length≤1000000000) && decide (i.f2.f5.length≤1000000000) && decide (0≤i.f4) && decide (i.f4 < 12) && (i.f2.f0 != 3 || (affine_Invert F i.f2.f6.f4).isSome)
theorem items_of {S:Nat→Prop} {w:World} {l:List S_Item} {u:Value} (h:RD S w (.sl 34 (l.map cS_Item)) u) (hne:l≠[]):∃ b off c,u=.slice (some ⟨b,off,none⟩) l.length c∧S b∧∀ w',Agree S w w'→∀ i x,l[i]? = some x→CsAt S w' b (off+i * 34) (cS_Item x):=by
 simp only [RD] at h
 rcases h with ⟨_,h⟩ | ⟨b,off,c,arr,E,fz,rfl,h1,h2,h3,h4⟩
 ·exact absurd (List.map_eq_nil_iff.1 h) hne
 ·refine ⟨b,off,c,by rw [List.length_map],h2,fun w' ha i x hx=>⟨arr,E,fz,(ha b h2).trans h3,RCs.mono (fun _ h=>h) ha _ _ _ ?_⟩⟩
  exact (REs.get _ off i (cS_Item x) h4 (by simp [hx])).2
theorem item_kind (x:S_Item):(cS_Item x)[0]? = some (.v (.int .i64 x.f0)):=by kernel_rfl
theorem item_blend (x:S_Item):(cS_Item x)[30]? = some (.v (.int .i64 x.f4)):=by kernel_rfl
theorem item_src (x:S_Item):((cS_Item x).drop 2).take 27=cS_Source x.f2:=by kernel_rfl
theorem top_row {w:World} {lo:Nat} {v:Value} {g:Grp} {r:List Grp} (h:w.ownsRow lo 57 1 v (g :: r).length ((g :: r).reverse.map fun g=>ptr g.b)):∃ q c,v=.slice (some ⟨q,0,none⟩) (r.length+1) c∧w.cell? ⟨q,r.length,none⟩=some (ptr g.b):=by
 obtain ⟨l1,l2⟩:=h
 rcases l2 with ⟨_,h⟩ | ⟨q,c,cur,rfl,q2,q3,q4,q5,q6,q7⟩
 ·simp at h
 ·refine ⟨q,c,rfl,?_⟩
  rw [cell_of q3]
  have:=congrArg (·[r.length]?) q7
  simp only [List.reverse_cons,List.map_append,List.map_cons,List.map_nil] at this
  rw [List.getElem?_append_right (by simp),List.getElem?_take_of_lt (by simp)] at this
  simpa using this
end Go.Vm.TopG
