/-
  list.tree,by hand: the walk.
-/
import Derived.Test.YtjjclmimifionaaTb
namespace Go.Vm.TopG
open Go.Proofs
open Go.RowKit
theorem TM.grow {W w w':World} {S D:Nat→Prop} {F n':Nat} {g:Grp} {r:List Grp} {Lo:List Nat} {ov v':Value} {l':List Mb} {ds':List Value} {ch':Option Nat} (h:TM W S F D (g :: r) Lo ov w) (hr:w'.ownsRow W.heap.size 108 1 v' n' (ds'++ch'.toList.map fun b=>.iface 57 (ptr b))) (hn:n'=ds'.length+ch'.toList.length) (hn0:0 < n')
  (hg:w.grownBy w' g.ms.ownBlock) (hm:v'.ownBlock=g.ms.ownBlock∨v'.ownBlock=some w.heap.size) (hmb:MbsAt F D w l' ds') :
  TM W S F D ({ g with l:=l',ms:=v',ds:=ds',ch:=ch' } :: r) Lo ov (w'.setCell ⟨g.b,36,none⟩ v')∧w'.cell? ⟨g.b,36,none⟩=some g.ms∧w'.frozen? ⟨g.b,36,none⟩=false∧v'.oneCell'=true∧Chg (·∈g.own) w (w'.setCell ⟨g.b,36,none⟩ v'):=by
 have hgm:g∈g :: r:=List.mem_cons_self ..
 have hG:=h.all g hgm
 have hb:w'.heap[g.b]? = some (.cells (g.xs++#[.int .i64 g.a,g.mx,g.ms]) 98 (0,0)):=(hg.block g.b (heap_lt hG.head.blk) fun e=>hG.self e.symm).trans hG.head.blk
 have hchg:Chg (·∈g.own) w (w'.setCell ⟨g.b,36,none⟩ v'):=⟨hg.os,hg.tape,hg.output,by rw [World.size_setCell]; exact hg.size,fun b hb hno=>by
  rw [Below.heap_setCell _ _ _ _ (show b≠g.b from fun e=>hno (e ▸ g.own_b))]
  exact hg.block b hb fun e=>hno (Grp.own_ms e.symm)⟩
 have hagw:Agree D w (w'.setCell ⟨g.b,36,none⟩ v'):=fun b hb=>hchg.block b (h.lt b hb) fun ho=>(h.ow g hgm b ho).1 hb
 have hltw:∀ b,D b→b < (w'.setCell ⟨g.b,36,none⟩ v').heap.size:=fun b hb=>Nat.lt_of_lt_of_le (h.lt b hb) hchg.size
 have hset:=setCell_get w' g.b 36 v' hb
 rw [set36 hG.head.size] at hset
 have hne:v'.ownBlock≠some g.b:=fun e=>by
  rcases hm with hm | hm
  ·exact hG.self (hm.symm.trans e)
  ·rw [hm] at e
   have:=Option.some.inj e
   have:=heap_lt hG.head.blk
   omega
 refine ⟨h.app hchg hset ?_ ?_ (MbsAt.mono hchg.size hagw (fun _ h=>h) hltw _ _ hmb),?_,frz_of hb 36,?_,hchg⟩
 ·rw [hn] at hr
  exact own_same hr fun b hb'=>Below.heap_setCell _ _ _ _ (fun e=>hne (hb'.trans (congrArg some e)))
 ·rcases hm with hm | hm
  ·exact .inl hm
  ·refine .inr ⟨_,hm,Nat.le_refl _,?_⟩
   rcases hr.2 with ⟨_,h0⟩ | ⟨p,cap,cur,e,_,hp,_⟩
   ·omega
   ·rw [World.size_setCell]
    rw [e] at hm
    obtain rfl:p=w.heap.size:=by simpa [Value.ownBlock] using hm
    exact heap_lt hp
 ·rw [cell_of hb,Array.getElem?_append_right (by rw [hG.head.size]; decide),hG.head.size]; rfl
 ·rcases hr.2 with ⟨rfl,_⟩ | ⟨_,_,_,rfl,_⟩ <;> rfl
theorem drop_cons {α:Type} {l:List α} {i:Nat} {x:α} (h:l[i]? = some x):l.drop i=x :: l.drop (i+1):=by
 obtain ⟨hi,rfl⟩:=List.getElem?_eq_some_iff.1 h
 exact List.drop_eq_getElem_cons hi
theorem tf_fill {l:List S_Item} {i:Nat} {x g:S_Item} {m:List Mb} {r z:List (S_Item×List Mb)} (hx:l[i]? = some x) (h0:x.f0=0) (h:treeF (l.drop i) ((g,m) :: r)=some z):treeF (l.drop (i+1)) ((g,m++[.fill x]) :: r)=some z:=by
 rw [drop_cons hx] at h
 unfold treeF at h
 obtain ⟨st,e,h⟩:=call_ok h
 unfold treeStep at e
 simp only [show (x.f0 == 0)=true by simp [h0],cond_true] at e
 cases e
 exact h
theorem tf_begin {l:List S_Item} {i:Nat} {x g:S_Item} {m:List Mb} {r z:List (S_Item×List Mb)} (hx:l[i]? = some x) (h0:x.f0=1) (h:treeF (l.drop i) ((g,m) :: r)=some z):treeF (l.drop (i+1)) ((x,[]) :: (g,m) :: r)=some z:=by
 rw [drop_cons hx] at h
 unfold treeF at h
 obtain ⟨st,e,h⟩:=call_ok h
 unfold treeStep at e
 simp only [show (x.f0 == 0)=false by simp [h0],cond_false,show (x.f0 == 1)=true by simp [h0],cond_true] at e
 cases e
 exact h
theorem tf_end {l:List S_Item} {i:Nat} {x g:S_Item} {m:List Mb} {r z:List (S_Item×List Mb)} (hx:l[i]? = some x) (h0:¬ x.f0=0) (h1:¬ x.f0=1) (h:treeF (l.drop i) ((g,m) :: r)=some z):∃ k n s,r=(k,n) :: s∧treeF (l.drop (i+1)) ((k,n++[.grp g m]) :: s)=some z:=by
 rw [drop_cons hx] at h
 unfold treeF at h
 obtain ⟨st,e,h⟩:=call_ok h
 unfold treeStep at e
 simp only [show (x.f0 == 0)=false by simpa using h0,cond_false,show (x.f0 == 1)=false by simpa using h1] at e
 cases r with
 | nil=>cases e
 | cons p s =>
  obtain ⟨k,n⟩:=p
  cases e
  exact ⟨k,n,s,rfl,h⟩
theorem last_cons {g g':Grp} {r:List Grp} (hx:g'.x=g.x) (hb:g'.b=g.b) {z:Option (S_Item×Nat)} (h:((g :: r).getLast?.map fun g=>(g.x,g.b))=z):((g' :: r).getLast?.map fun g=>(g.x,g.b))=z:=by
 cases r with
 | nil=>simpa [hx,hb] using h
 | cons a r=>simpa [List.getLast?_cons_cons] using h
theorem item_len (x:S_Item):(cS_Item x).length=34:=by kernel_rfl
theorem wrap_nat {n:Nat} (h:n≤4294967296):wrap64 (n:Int)=(n:Int):=by unfold wrap64; omega
set_option maxRecDepth 100000 in
set_option maxHeartbeats 4000000 in
theorem tree_at (W:World) {S:Nat→Prop} (hS:∀ b,S b→b < W.heap.size) {F:Nat} {a b:Int} {l:List S_Item} {u2 u3:Value} (hu:RD S W (.sl 34 (l.map cS_Item)) u3) (hok:l.all (itemOk F)=true) (hlen:l.length≤1000000) {ms:List Mb} {x0:S_Item} (ht:treeF l [(item0,[])]=some [(x0,ms)]) :
  Calls Try.prog 30 #[.agg #[.int .i64 a,.int .i64 b,u2,u3]] W fun e W'=>∃ p D,e=.returned (ptr p)∧Below W.heap.size W W'∧PageAt F D W' p ms∧(∀ x,D x→x < W'.heap.size)∧(∀ x,S x→D x)∧(∀ x,D x→S x∨W.heap.size≤x):=by
 obtain ⟨q3,c3,rfl⟩:=rd_slice hu
 obtain ⟨e1,e2,e3,e4⟩:=three_at W (.cells #[.int .i64 a,.int .i64 b,u2,.slice q3 l.length c3] 25 (0,0)) (.cells (zi++#[.int .i64 (-1),.nilFunc,.slice none 0 0]) 98 (0,0)) (.cells #[ptr (W.heap.size+1)] 57 (0,0))
 have HT:TM W S F S [⟨item0,[],W.heap.size+1,zi,-1,.nilFunc,.slice none 0 0,[],none,true⟩] [W.heap.size+1] (.slice (some ⟨W.heap.size+1+1,0,none⟩) 1 1) (((W.alloc (.cells #[.int .i64 a,.int .i64 b,u2,.slice q3 l.length c3] 25 (0,0))).alloc (.cells (zi++#[.int .i64 (-1),.nilFunc,.slice none 0 0]) 98 (0,0))).alloc (.cells #[ptr (W.heap.size+1)] 57 (0,0))):=by
  have l2:=heap_lt e2
  have l3:=heap_lt e3
  have hown:∀ b,b∈(⟨item0,[],W.heap.size+1,zi,-1,.nilFunc,.slice none 0 0,[],none,true⟩:Grp).own→b=W.heap.size+1:=fun b hb=>by
   rcases Grp.own_cases hb with hb | hb
   ·exact hb
   ·cases hb
  refine ⟨e4,fun b hb=>Nat.lt_of_lt_of_le (hS b hb) e4.size,fun _ h=>h,fun _ h=>.inl h,⟨rfl,.inr ⟨_,_,_,rfl,by omega,e3,Nat.le_refl _,by decide,rfl,rfl⟩⟩,fun g hg=>?_,List.pairwise_singleton _ _,fun g hg b hb=>?_,fun g hg b hb=>?_,fun b hb=>?_⟩
  ·obtain rfl:=List.mem_singleton.1 hg
   exact ⟨⟨e2,rfl,item0_rd _ _⟩,fun h=>(by cases h),World.ownsRow_nil _ _ _ _,(by simp only [MbsAt]),by simp [Value.ownBlock]⟩
  ·obtain rfl:=List.mem_singleton.1 hg
   rw [hown b hb]
   simp [Value.ownBlock]
  ·obtain rfl:=List.mem_singleton.1 hg
   rw [hown b hb]
   exact ⟨fun h=>by have:=hS _ h; omega,by omega,l2⟩
  ·have:W.heap.size+1+1=b:=by simpa [Value.ownBlock] using hb
   subst this
   exact ⟨fun h=>by have:=hS _ h; omega,by omega,l3⟩
 have HU:=aside hu
 have HS:=aside hS
 have HOK:=aside hok
 have HTR:=aside ht
 have HX:=aside (show ∃ (i:Nat) (D:Nat→Prop) (L:List Grp),l.length+i=l.length∧Value.int .i64 0=.int .i64 (i:Int)∧TM W S F D L (L.map (·.b)) (.slice (some ⟨W.heap.size+1+1,0,none⟩) 1 1) (((W.alloc (.cells #[.int .i64 a,.int .i64 b,u2,.slice q3 l.length c3] 25 (0,0))).alloc (.cells (zi++#[.int .i64 (-1),.nilFunc,.slice none 0 0]) 98 (0,0))).alloc (.cells #[ptr (W.heap.size+1)] 57 (0,0)))∧Linked none L∧L≠[]∧treeF (l.drop i) (L.map fun g=>(g.x,g.l))=some [(x0,ms)]∧(L.getLast?.map fun g=>(g.x,g.b))=some (item0,W.heap.size+1)∧L.length≤i+1∧(∀ g∈L,g.l.length≤i) from
  ⟨0,S,_,rfl,rfl,HT,⟨rfl,rfl,trivial⟩,by simp,ht,rfl,Nat.le_refl _,fun g hg=>by obtain rfl:=List.mem_singleton.1 hg; exact Nat.le_refl _⟩)
 clear hu hS hok ht e2 e3 e4 HT
 have hc0:=cell_of e1
 clear e1
 revert hc0 HX
 unfold zi ptr
 simp only [List.push_toArray,List.append_toArray,List.cons_append,List.nil_append]
 intro HX hc0
 go_enter Try.func30,Try.ntmps30
 go_wp2
 clear hc0
 revert HX
 generalize (World.alloc _ _).alloc _=w0
 intro HX
 generalize Value.agg _=v0
 generalize Value.agg _=v9
 go_loopg [4,16] l.length (fun g v4 v16 wx=>∃ (i:Nat) (D:Nat→Prop) (L:List Grp),g+i=l.length∧v16=.int .i64 (i:Int)∧TM W S F D L (L.map (·.b)) v4 wx∧Linked none L∧L≠[]∧treeF (l.drop i) (L.map fun g=>(g.x,g.l))=some [(x0,ms)]∧(L.getLast?.map fun g=>(g.x,g.b))=some (item0,W.heap.size+1)∧L.length≤i+1∧(∀ g∈L,g.l.length≤i))
 case atStart=>exact HX.out
 case round =>
  obtain ⟨i,D,L,hgi,rfl,hP,hLk,hLn,hTr,hLast,hLl,hLm⟩:=hrel
  clear HX
  have HP:=aside hP
  have HLK:=aside hLk
  have HTF:=aside hTr
  have HLA:=aside hLast
  have HGI:=aside hgi
  have HLL:=aside hLl
  have HLM:=aside hLm
  obtain ⟨g,r,rfl⟩:=List.exists_cons_of_ne_nil hLn
  clear hP hLk hLn hTr hLast hgi hLl hLm
  by_cases hi:i < l.length
  ·obtain ⟨x,hx⟩:∃ x,l[i]? = some x:=⟨_,List.getElem?_eq_getElem hi⟩
   obtain ⟨B,off,c,hq3,hSB,hit⟩:=items_of HU.out (by rintro rfl; simp at hi)
   obtain ⟨rfl,rfl⟩:q3=some ⟨B,off,none⟩∧c3=c:=by simpa using hq3
   have hcs:=hit wr (fun b hb=>HP.out.below.block b (HS.out b hb)) i x hx
   obtain ⟨xs,hxn,hxc,hxr⟩:=hcs.vals
   have hxn:xs.size=34:=hxn.trans (item_len x)
   have hL:=load_at (ty:=48) (b:=B) (o:=off+i * 34) (n:=34) (w:=wr) (cs:=xs) (by kernel_rfl) hxn (fun j hj=>hxc j hj)
   have hst:=store_at (ty:=48) (n:=34) (by kernel_rfl) (cs:=xs) hxn (heap_alloc_new wr (.cells zi 48 (0,0))) rfl (rcs_one hxr (hxn.trans (item_len x).symm))
   obtain ⟨n1,n2⟩:=newrow wr zi xs 48
   have HN:=aside (show _∧_ from ⟨n1,n2⟩)
   have HXR:=aside hxr
   have HXN:=aside hxn
   have HX:=aside hx
   have hi':(i:Int) < (l.length:Int):=Int.ofNat_lt.2 hi
   clear hcs hxc hxr hxn n1 n2 hit hSB hq3 hx
   have HLD:=aside hL
   have HST:=aside hst
   clear hL hst
   revert HST HN
   unfold zi
   intro HN HST
   go_wp2_with (first | ((with_reducible apply ld (ty:=48)); exact HLD.out) | ((with_reducible apply st (ty:=48)); exact HST.out) | with_reducible refine hlt 23 ?_)
   clear HLD HST
   revert HN
   generalize World.setRow _ _ _=w1
   intro HN
   obtain ⟨n1,n2⟩:=HN.out
   have hP1:=HP.out.next n2 (fun _ h=>h) fun b hb=>⟨Nat.lt_of_lt_of_le (HP.out.lt b hb) n2.size,.inl hb⟩
   have HP1:=aside hP1
   have hrow:=hP1.row
   rw [List.length_map,← List.map_reverse,List.map_map] at hrow
   obtain ⟨q,cc,rfl,hqc⟩:=top_row hrow
   have hx1:RCs D w1 (cS_Item x) (fun j=>xs[j]?) 0:=RCs.mono HP.out.sup (fun b hb=>n2.block b (HP.out.lt b (HP.out.sup b hb))) _ _ _ HXR.out
   obtain ⟨u0,h1,h2⟩:=RCs.get _ 0 0 _ hx1 (item_kind x)
   simp only [RD] at h2
   obtain ⟨rfl,-⟩:=h2
   have hk0:=(cell_of n1 0).trans (show xs[0]? = _ from h1)
   have HX1:=aside hx1
   have HNB:=aside n1
   clear h1 n1 n2 hx1 hP1 hrow HN HXR
   generalize wr.heap.size=nb at hk0 HNB ⊢
   have hil:i≤1000000:=Nat.le_trans (Nat.le_of_lt hi) hlen
   have hrn:r.length≤4294967296:=by
    have:=HLL.out
    simp only [List.length_cons] at this
    omega
   have hgl:g.ds.length≤1000000:=by
    rw [(HP1.out.all g (List.mem_cons_self ..)).mbs.len]
    exact Nat.le_trans (HLM.out g (List.mem_cons_self ..)) hil
   have hgch:g.ch=none:=HLK.out.1
   have HGL:=aside hgl
   have HGC:=aside hgch
   clear hgl hgch hil
   have hwp:=wrap_nat hrn
   have hrlt:(r.length:Int) < (r.length:Int)+1:=Int.lt_succ _
   have hrnn:(0:Int)≤(r.length:Int):=Int.natCast_nonneg _
   have hrl:((r.length+1:Nat):Int) - 1=(r.length:Int):=succ_pred r.length
   have hOKx:=aside (List.all_eq_true.1 HOK.out x (List.mem_of_getElem? HX.out))
   unfold ptr at hqc
   unfold Halt
   by_cases hkd:x.f0=0
   ·rw [hkd] at hk0
    go_wp2
    show (regionAt Try.f30 10).wp _ _ _ _
    refine tr10 (x:=x) HP1.out HGC.out HNB.out HXN.out HX1.out hOKx.out HGL.out ?_
    intro r36 r37 r38 r39 r40 r41 r42 r43 r44 r45 r46 r47 r48 r49 r50 r51 r52 r53 r54 r55 w D' ms' ds' hT'
    have HT':=aside hT'
    have HI1:=aside (wrap_suc hi (Nat.le_trans hlen (by decide)))
    clear hT' hk0 hqc
    go_wp2
    obtain ⟨g0,rfl⟩:=g_pos HGI.out hi
    go_roundg g0
    case measure=>exact Nat.lt_succ_self _
    case rel =>
     refine ⟨i+1,D',_,g_next HGI.out,rfl,HT'.out,⟨rfl,HLK.out.2.1,HLK.out.2.2⟩,by simp,tf_fill HX.out hkd HTF.out,last_cons (g:=g) (by rfl) (by rfl) HLA.out,?_,fun k hk=>?_⟩
     ·exact Nat.le_succ_of_le HLL.out
     ·rcases List.mem_cons.1 hk with rfl | hk
      ·have:=HLM.out g (List.mem_cons_self ..)
       simp only [List.length_append,List.length_singleton]
       exact Nat.succ_le_succ this
      ·exact Nat.le_succ_of_le (HLM.out k (List.mem_cons_of_mem _ hk))
   ·by_cases hkb:x.f0=1
    ·rw [hkb] at hk0
     go_wp2
     show (regionAt Try.f30 12).wp _ _ _ _
     refine tr12 (x:=x) HP1.out HNB.out HXN.out HX1.out hOKx.out ?_
     intro r58 r59 r60 r61 r62 r63 r64 w c D' mx hT' hG hc1 hc2 hc3
     have hgm':=hT'.all g (List.mem_cons_self ..)
     have c36:=cell_of hgm'.head.blk 36
     rw [Array.getElem?_append_right (by rw [hgm'.head.size]; decide),hgm'.head.size] at c36
     have c36:w.cell? ⟨g.b,36,none⟩=some g.ms:=c36
     have HT':=aside hT'
     have HG:=aside hG
     have HC1:=aside hc1
     have HC2:=aside hc2
     have HC3:=aside hc3
     have HI1:=aside (wrap_suc hi (Nat.le_trans hlen (by decide)))
     clear hT' hG hc1 hc2 hc3 hgm' hk0 hqc
     unfold ptr
     go_wp2_with (with_reducible refine hlt 73 ?_)
     clear c36
     have hbA:Below w.heap.size w (w.alloc (.cells #[.iface 57 (.pointer (some ⟨c,0,none⟩))] 108 (0,0))):=(Below.refl _ _).alloc (Nat.le_refl _) _
     have hTA:=HT'.out.next hbA (fun _ h=>h) fun b hb=>⟨Nat.lt_of_lt_of_le (HT'.out.lt b hb) hbA.size,.inl hb⟩
     have hGA:=HG.out.keep hbA.size (fun b hb=>hbA.block b (HT'.out.lt b hb)) (fun _ h=>h) hTA.lt fun b hb=>by
      obtain rfl:b=c:=by
       rcases Grp.own_cases hb with hb | hb
       ·exact hb
       ·cases hb
      exact hbA.block _ HC1.out.2.2
     have hgr:=(hTA.all g (List.mem_cons_self ..)).row
     rw [HGC.out] at hgr
     simp only [Option.toList_none,List.map_nil,List.append_nil,List.length_nil,Nat.add_zero] at hgr
     obtain ⟨v',w',r1,r2,r3,r5⟩:=push_one 96 96 108 16 .nilIface (by kernel_rfl) info108 rfl hgr (cell_of (heap_alloc_new w (.cells #[.iface 57 (.pointer (some ⟨c,0,none⟩))] 108 (0,0))) 0) rfl HGL.out (by decide) hTA.below.size
     obtain ⟨hT3,k1,k2,k3,k4⟩:=hTA.grow (l':=g.l) (ds':=g.ds) (ch':=some c) r2 rfl (Nat.succ_pos _) r3 r5 (hTA.all g (List.mem_cons_self ..)).mbs
     have hcw:c < (w.alloc (.cells #[.iface 57 (.pointer (some ⟨c,0,none⟩))] 108 (0,0))).heap.size:=Nat.lt_of_lt_of_le HC1.out.2.2 hbA.size
     have hG3:=hGA.keep k4.size (fun b hb=>k4.block b (hTA.lt b hb) fun ho=>(hTA.ow g (List.mem_cons_self ..) b ho).1 hb) (fun _ h=>h) hT3.lt fun b hb=>by
      obtain rfl:b=c:=by
       rcases Grp.own_cases hb with hb | hb
       ·exact hb
       ·cases hb
      exact k4.block _ hcw (HC2.out g (List.mem_cons_self ..))
     have hst:=store_one (ty:=96) (by kernel_rfl) k1 k2 k3
     have hc3:c < (w'.setCell ⟨g.b,36,none⟩ v').heap.size:=Nat.lt_of_lt_of_le hcw k4.size
     have hclt:∀ k∈({ g with l:=g.l,ms:=v',ds:=g.ds,ch:=some c }:Grp) :: r,c ∉ k.own:=fun k hk=>by
      rcases List.mem_cons.1 hk with rfl | hk
      ·intro ho
       rcases Grp.own_cases ho with ho | ho
       ·exact HC2.out g (List.mem_cons_self ..) (by rw [ho]; exact g.own_b)
       ·have ho:v'.ownBlock=some c:=ho
        rcases r5 with r5 | r5
        ·exact HC2.out g (List.mem_cons_self ..) (Grp.own_ms (r5.symm.trans ho))
        ·rw [r5] at ho
         have:=Option.some.inj ho
         omega
      ·exact HC2.out k (List.mem_cons_of_mem _ hk)
     have HT3:=aside hT3
     have HG3:=aside hG3
     have HC4:=aside hclt
     have HC5:=aside hc3
     have HR1:=aside r1
     have HST:=aside hst
     clear hT3 hG3 hclt hc3 r1 hst hTA hGA hgr r2 r3 r5 k1 k2 k3 k4 hcw hbA
     unfold Halt
     go_wp2_with (first | ((with_reducible apply ap); exact HR1.out) | ((with_reducible apply st (ty:=96)); exact HST.out) | with_reducible refine hlt 79 ?_)
     clear HR1 HST
     have HSZ:=aside (show (w'.setCell ⟨g.b,36,none⟩ v').heap.size=w'.heap.size by rw [World.size_setCell])
     revert HT3 HG3 HC5 HSZ
     generalize World.setCell _ _ _=w3
     intro HT3 HG3 HC5 HSZ
     have hbB:Below w3.heap.size w3 (w3.alloc (.cells #[.pointer (some ⟨c,0,none⟩)] 57 (0,0))):=(Below.refl _ _).alloc (Nat.le_refl _) _
     have hT4:=HT3.out.next hbB (fun _ h=>h) fun b hb=>⟨Nat.lt_of_lt_of_le (HT3.out.lt b hb) hbB.size,.inl hb⟩
     have hG4:=HG3.out.keep hbB.size (fun b hb=>hbB.block b (HT3.out.lt b hb)) (fun _ h=>h) hT4.lt fun b hb=>by
      obtain rfl:b=c:=by
       rcases Grp.own_cases hb with hb | hb
       ·exact hb
       ·cases hb
      exact hbB.block _ HC5.out
     have hlo:(List.map (·.b) (g :: r)).length≤1000000:=by
      rw [List.length_map]
      exact Nat.le_trans HLL.out (Nat.le_trans hi hlen)
     obtain ⟨v2,w5,r1,r2,r3,r5⟩:=push_one 99 99 57 8 (.pointer none) (by kernel_rfl) info57 rfl hT4.row (cell_of (heap_alloc_new w3 (.cells #[.pointer (some ⟨c,0,none⟩)] 57 (0,0))) 0) rfl hlo (by decide) hT4.below.size
     have hpush:=hT4.push (w2:=w5) hG4 rfl ⟨HC1.out.1,HC1.out.2.1,Nat.lt_of_lt_of_le HC5.out hbB.size⟩ HC4.out HC3.out ⟨r3.os,r3.tape,r3.output,r3.size,fun b hb hno=>r3.block b hb fun e=>hno e.symm⟩ r2 (by
      rcases r5 with r5 | r5
      ·exact .inl r5
      ·refine .inr ⟨_,r5,Nat.le_refl _,?_⟩
       rcases r2.2 with ⟨_,h0⟩ | ⟨p,cap,cur,e,_,hp,_⟩
       ·exact absurd h0 (Nat.succ_ne_zero _)
       ·rw [e] at r5
        obtain rfl:p=(w3.alloc (.cells #[.pointer (some ⟨c,0,none⟩)] 57 (0,0))).heap.size:=by simpa [Value.ownBlock] using r5
        exact heap_lt hp)
     have HPU:=aside hpush
     rw [HSZ.out] at r1
     have HR1:=aside r1
     clear hpush r1 r2 r3 r5 hT4 hG4 hbB hlo
     unfold Halt
     go_wp2_with ((with_reducible apply ap); exact HR1.out)
     obtain ⟨g0,rfl⟩:=g_pos HGI.out hi
     go_roundg g0
     case measure=>exact Nat.lt_succ_self _
     case rel =>
      refine ⟨i+1,D',_,g_next HGI.out,rfl,HPU.out,⟨rfl,rfl,rfl,HLK.out.2.1,HLK.out.2.2⟩,by simp,tf_begin HX.out hkb HTF.out,?_,?_,fun k hk=>?_⟩
      ·rw [List.getLast?_cons_cons]
       exact last_cons (g:=g) (by rfl) (by rfl) HLA.out
      ·exact Nat.succ_le_succ HLL.out
      ·rcases List.mem_cons.1 hk with rfl | hk
       ·exact Nat.zero_le _
       ·rcases List.mem_cons.1 hk with rfl | hk
        ·exact Nat.le_succ_of_le (HLM.out g (List.mem_cons_self ..))
        ·exact Nat.le_succ_of_le (HLM.out k (List.mem_cons_of_mem _ hk))
    ·obtain ⟨k',n',s',hs',htf⟩:=tf_end HX.out hkd hkb HTF.out
     obtain ⟨k,r',rfl⟩:∃ k r',r=k :: r':=by
      cases r with
      | nil=>cases hs'
      | cons k r'=>exact ⟨k,r',rfl⟩
     simp only [List.map_cons,List.cons.injEq,Prod.mk.injEq] at hs'
     obtain ⟨⟨rfl,rfl⟩,rfl⟩:=hs'
     have e0:(x.f0 == 0)=false:=by simpa using hkd
     have e1:(x.f0 == 1)=false:=by simpa using hkb
     have hpop:=TM.pop (p:=g.b) (Lo:=(k :: r').map (·.b)) (q:=q) (c:=cc) (by rw [List.length_map]; exact HP1.out) HGC.out HLK.out.2.1 HLK.out.2.2.1
     rw [List.length_map] at hpop
     have HPO:=aside hpop
     have HTG:=aside htf
     clear hpop htf
     have hle1:(0:Int)≤((k :: r').length:Int):=Int.natCast_nonneg _
     have hcc:(k :: r').length≤cc:=by
      obtain ⟨_,h⟩:=HP1.out.row
      rcases h with ⟨e,_⟩ | ⟨_,_,_,e,_,_,h,_⟩
      ·cases e
      ·injection e with e1 e2 e3
       rw [List.length_map] at h
       rw [e3]
       exact Nat.le_of_succ_le h
     have HL2:=aside (show (({ k with l:=k.l++[.grp g.x g.l],ds:=k.ds++[.iface 57 (ptr g.b)],ch:=none }:Grp) :: r').length≤i+1+1 by
      have:=HLL.out
      simp only [List.length_cons] at this ⊢
      omega)
     generalize hkl:(k :: r').length=kl at *
     have HI1:=aside (wrap_suc hi (Nat.le_trans hlen (by decide)))
     go_wp2
     obtain ⟨g0,rfl⟩:=g_pos HGI.out hi
     go_roundg g0
     case measure=>exact Nat.lt_succ_self _
     case rel =>
      refine ⟨i+1,_,_,g_next HGI.out,rfl,HPO.out,⟨rfl,HLK.out.2.2.2.1,HLK.out.2.2.2.2⟩,by simp,HTG.out,?_,(by have:=HL2.out; rw [← hkl] at this; exact this),fun j hj=>?_⟩
      ·have:=HLA.out
       rw [List.getLast?_cons_cons] at this
       exact last_cons (g:=k) (by rfl) (by rfl) this
      ·rcases List.mem_cons.1 hj with rfl | hj
       ·have:=HLM.out k (List.mem_cons_of_mem _ (List.mem_cons_self ..))
        simp only [List.length_append,List.length_singleton]
        exact Nat.succ_le_succ this
       ·exact Nat.le_succ_of_le (HLM.out j (List.mem_cons_of_mem _ (List.mem_cons_of_mem _ hj)))
  ·obtain rfl:i=l.length:=g_end HGI.out hi
   have htf:=HTF.out
   rw [List.drop_length] at htf
   unfold treeF at htf
   simp only [List.map_cons,Option.some.injEq,List.cons.injEq,Prod.mk.injEq] at htf
   obtain ⟨⟨hgx,hgl⟩,hr0⟩:=htf
   obtain rfl:=List.map_eq_nil_iff.1 hr0
   have hlast:=HLA.out
   simp only [List.getLast?_singleton,Option.map_some,Option.some.injEq,Prod.mk.injEq] at hlast
   obtain ⟨hgx0,hgb⟩:=hlast
   have HGB:=aside hgb
   have HGX:=aside hgx0
   have HGL:=aside hgl
   clear hgb hgx0 hgx hgl hr0
   go_wp2
   go_ret
   have hd:=HP.out.done
   have hG:=(HP.out.all g (List.mem_cons_self ..)).keep (Nat.le_refl _) (fun _ _=>rfl:Agree D wr wr) (fun _=>.inl (b:=_∈g.own)) HP.out.doneD fun _ _=>rfl
   have hrow:=hG.row
   rw [HLK.out.1] at hrow
   simp only [Option.toList_none,List.map_nil,List.append_nil,List.length_nil,Nat.add_zero] at hrow
   refine ⟨W.heap.size+1,_,rfl,HP.out.below,?_,HP.out.doneD,hd.sup,hd.sub⟩
   rw [← HGB.out,← HGL.out]
   refine ⟨g.xs,g.a,g.mx,g.ms,g.ds,.inr g.own_b,?_,own_sl hrow fun b hb=>.inr (Grp.own_ms hb),hG.mbs⟩
   have:=hG.head
   rw [HGX.out] at this
   exact this
end Go.Vm.TopG
