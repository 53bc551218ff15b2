/-
  A group's states over those that were there,by hand.
-/
import Derived.Test.YtjjclmimifionaaRd
namespace Go.Vm.TopG
open Go.Proofs
open Go.RowKit
theorem Chg.below {p B:Nat} {a b:World} (h:Chg (·=p) a b) (hp:B≤p) (hB:B≤a.heap.size):Below B a b:=⟨h.os,h.tape,h.output,h.size,fun k hk=>h.block k (by omega) (by omega)⟩
theorem Chg.keep {p k:Nat} {a b:World} {o:Obj} (h:Chg (·=p) a b) (hk:k≠p) (ho:a.heap[k]? = some o):b.heap[k]? = some o:=(h.block k (heap_lt ho) hk).trans ho
theorem StAt.load1 {w:World} {b:Nat} {st:List S_State} (h:StAt w b st) {i:Nat} {s:S_State} (hs:st[i]? = some s):(Instr.loadAt 35 (.pointer (some ⟨b,i * 9+1,none⟩))).run Try.prog w=.ok (inkV s.f1) w :=
 load_at (ty:=35) (n:=8) (by kernel_rfl) rfl fun j hj=>by
  rw [Nat.add_assoc,h.cell hs (by omega)]
  obtain rfl | rfl | rfl | rfl | rfl | rfl | rfl | rfl:j=0∨j=1∨j=2∨j=3∨j=4∨j=5∨j=6∨j=7:=by omega
  all_goals rfl
theorem BaseAt.load {w:World} {sb bb n:Nat} {base:Option (List S_State)} {st ss:List S_State} (hb:BaseAt w sb bb n base) (hs:StAt w sb ss) {i:Nat} (hd:ss.drop i=st.drop i) {b:S_State} (h:(base.getD st)[i]? = some b):(Instr.loadAt 83 (.pointer (some ⟨bb,i * 9,none⟩))).run Try.prog w=.ok (stV b) w:=by
 cases base with
 | none =>
  have:bb=sb:=hb
  subst this
  refine hs.load ?_
  have h2:(ss.drop i)[0]? = (st.drop i)[0]? := by rw [hd]
  simpa [List.getElem?_drop] using h2.trans (by simpa [List.getElem?_drop] using h)
 | some bs=>exact hb.2.2.load h
theorem BaseAt.next {w w':World} {sb bb n:Nat} {base:Option (List S_State)} (hb:BaseAt w sb bb n base) (hk:∀ b,b < w.heap.size→b≠sb→w'.heap[b]? = w.heap[b]?):BaseAt w' sb bb n base:=by
 cases base with
 | none=>exact hb
 | some bs=>exact ⟨hb.1,hb.2.1,hb.2.2.keep' (hk _ hb.2.2.lt hb.1)⟩
/-- How far a group's states have been put over those that were there. -/
def NestI (F:Nat) (g:S_Item) (mk:List Bool) (bs ns st st':List S_State) (n i:Nat) (ss:List S_State):Prop:=ss.length=n∧ss.drop i=st.drop i∧∃ r,nestO F g (mk.drop i) (bs.drop i) (ns.drop i) (st.drop i)=some r∧ss.take i++r=st'
theorem NestI.end_ {F:Nat} {g:S_Item} {mk:List Bool} {bs ns st st' ss:List S_State} {n:Nat} (h:NestI F g mk bs ns st st' n n ss) (hm:mk.length=n):ss=st':=by
 obtain ⟨h1,h2,r,h3,h4⟩:=h
 rw [List.drop_eq_nil_of_le (Nat.le_of_eq hm)] at h3
 have:r=[]:=by simpa [nestO] using h3.symm
 subst this
 rw [List.take_of_length_le (by omega)] at h4
 simpa using h4
theorem NestI.step {F:Nat} {g:S_Item} {mk:List Bool} {bs ns st st' ss:List S_State} {n i:Nat} (h:NestI F g mk bs ns st st' n i ss) (hi:i < n) {m:Bool} {b v:S_State} (hm:mk[i]? = some m) (hb:bs[i]? = some b) (hv:ns[i]? = some v) :
  (m=false∧NestI F g mk bs ns st st' n (i+1) ss)∨(m=true∧∃ s,over1 F g b v=some s∧NestI F g mk bs ns st st' n (i+1) (ss.set i s)):=by
 obtain ⟨h1,h2,r,h3,h4⟩:=h
 obtain ⟨u,hu⟩:∃ u,ss[i]? = some u:=⟨_,List.getElem?_eq_getElem (by omega)⟩
 have hs:st[i]? = some u:=by
  have:(ss.drop i)[0]? = (st.drop i)[0]? := by rw [h2]
  simpa [List.getElem?_drop,hu] using this.symm
 have h5:ss.drop (i+1)=st.drop (i+1):=by
  have:(ss.drop i).drop 1=(st.drop i).drop 1:=by rw [h2]
  simpa [List.drop_drop] using this
 rw [drop_cons hm,drop_cons hb,drop_cons hv,drop_cons hs] at h3
 unfold nestO at h3
 obtain ⟨s,e1,h3⟩:=call_ok h3
 obtain ⟨r2,e2,h3⟩:=call_ok h3
 cases h3
 have htk:ss.take (i+1)=ss.take i++[u]:=by
  obtain ⟨hlt,rfl⟩:=List.getElem?_eq_some_iff.1 hu
  rw [List.take_succ_eq_append_getElem hlt]
 cases m with
 | false =>
  rw [cond_false] at e1
  cases e1
  exact .inl ⟨rfl,h1,h5,r2,e2,by rw [htk,← h4]; simp⟩
 | true =>
  rw [cond_true] at e1
  refine .inr ⟨rfl,s,e1,by rw [List.length_set]; exact h1,?_,r2,e2,?_⟩
  ·rw [List.drop_set_of_lt (Nat.lt_succ_self _)]
   exact h5
  ·rw [← h4,List.set_eq_take_append_cons_drop,if_pos (by omega),List.take_append,List.take_of_length_le (by simp; omega)]
   have:i+1 - (ss.take i).length=1:=by rw [List.length_take_of_le (by omega)]; omega
   rw [this]
   simp
theorem head_lo {F:Nat} {D:Nat→Prop} {W:World} {b:Nat} {x:S_Item} {xs:Array Value} {a:Int} {mx ms:Value} (hh:HeadAt F D W b x xs a mx ms) {k:Nat} {v:Value} (hk:(cS_Item x)[k]? = some (.v v)):W.cell? ⟨b,k,none⟩=some v:=by
 have h1:=item_v hh.rd hk
 have hlt:=(Array.getElem?_eq_some_iff.1 h1).1
 rw [cell_of hh.blk,Array.getElem?_append_left hlt]
 exact h1
theorem head_35 {F:Nat} {D:Nat→Prop} {W:World} {b:Nat} {x:S_Item} {xs:Array Value} {a:Int} {mx ms:Value} (hh:HeadAt F D W b x xs a mx ms):W.cell? ⟨b,35,none⟩=some mx:=by
 rw [cell_of hh.blk,Array.getElem?_append_right (by rw [hh.size]; omega),hh.size]
 rfl
theorem call67:Callable Try.prog 67:=⟨_,Try.func67,by kernel_rfl,by kernel_rfl⟩
theorem covs_len' {y x0 x1:Int} (x:S_Item) (l:List Mb) (m:List Bool):Mb.cov y x0 x1 (.grp x l) m=Mb.covs y x0 x1 l m:=by rw [Mb.cov]
set_option maxRecDepth 100000 in
set_option maxHeartbeats 4000000 in
theorem nested48_at {F:Nat} {y x0 x1:Int} {n:Nat} (hs:StripOk x0 x1 n) {gx:S_Item} {gl:List Mb} (hpt:PaintP F y x0 x1 n gl) (hcv:CovP F y x0 x1 n (.grp gx gl)):NestP F y x0 x1 n (.grp gx gl):=by
 intro x l he W D hD sb bb c4 c5 b base st st' hst hn hsD hbase hmb hok h
 obtain ⟨rfl,rfl⟩:gx=x∧gl=l:=by simpa using he
 clear he
 have hmb2:=hmb
 simp only [MbAt] at hmb2
 obtain ⟨b',xs,a,mx,ms,vs,hbb',hDb,hh,⟨k,hk,hxk,hmk⟩,hsl,hms⟩:=hmb2
 obtain rfl:b=b':=by simpa [ptr] using hbb'
 clear hbb'
 have hn9:n≤1000000000:=by have:=hs.h0; have:=hs.h1; have:=hs.hx; omega
 rw [Mb.paint,hn] at h
 unfold lett at h
 generalize hmkd:Mb.covs y x0 x1 gl (List.replicate n false)=mk at h
 have hmkl:mk.length=n:=by rw [← hmkd,covs_len,List.length_replicate]
 obtain ⟨e1,e2,e3⟩:=two_at W (.cells (stripA y x0 x1) 86 (0,0)) (.cells (mkA (List.replicate n false)) 4 (0,0))
 have hslt:=hst.lt
 have hCV:=hcv _ D (fun b hb=>Nat.lt_of_lt_of_le (hD b hb) e3.size) (W.heap.size+1) (List.replicate n false) e2 (by simp) (fun hd=>by have:=hD _ hd; omega) (.iface 57 (ptr b)) (MbAt.mono e3.size (fun b hb=>e3.block b (hD b hb)) (fun _ h=>h) (fun b hb=>Nat.lt_of_lt_of_le (hD b hb) e3.size) _ _ hmb) hok
 rw [covs_len',hmkd] at hCV
 have hld:=load_whole (ty:=86) (n:=3) (by kernel_rfl) rfl e1
 have hmkb:=mk_bools hn9 (W.alloc (.cells (stripA y x0 x1) 86 (0,0)))
 rw [World.size_alloc] at hmkb
 unfold ptr at hCV
 unfold sliceV at hCV
 unfold ptr
 have HCV:=aside hCV
 have HA:=aside (And.intro hD (And.intro hst (And.intro hn (And.intro hsD (And.intro hbase (And.intro hok (And.intro hs (And.intro hn9 (And.intro hslt hmkl)))))))))
 have HG:=aside (And.intro hDb (And.intro hh (And.intro hsl (And.intro hms (And.intro hxk (And.intro hk hmk))))))
 have HE:=aside (And.intro e1 e3)
 have HPT:=aside hpt
 have HH:=aside h
 clear hCV hD hst hn hsD hbase hok hn9 hslt hDb hh hsl hms hxk hk hmk e1 e2 e3 hpt hcv hmb h hmkl
 go_enter Try.func48,Try.ntmps48
 go_wp2_with (first | ((with_reducible apply ld (ty:=86)); exact hld) | go_at_fn 65)
 refine HCV.out.mono ?_
 rintro e w2 ⟨rfl,k1,k2⟩
 have hsz1:((W.alloc (.cells (stripA y x0 x1) 86 (0,0))).alloc (.cells (mkA (List.replicate n false)) 4 (0,0))).heap.size=W.heap.size+1+1:=by rw [World.size_alloc,World.size_alloc]
 have hB2:Below W.heap.size W w2:=HE.out.2.trans (k1.below (Nat.le_succ _) HE.out.2.size)
 have hs2:w2.heap[W.heap.size]? = some (.cells (stripA y x0 x1) 86 (0,0)):=k1.keep (by omega) HE.out.1
 have hz2:W.heap.size+1+1≤w2.heap.size:=by rw [← hsz1]; exact k1.size
 have HCT:=aside (contains66_at w2 k2 HA.out.2.2.2.2.2.2.2.2.2 HA.out.2.2.2.2.2.2.2.1)
 unfold sliceV at HCT
 have HW2:=aside (And.intro hB2 (And.intro hs2 (And.intro hz2 k2)))
 clear hB2 hs2 hz2 k1 k2 hsz1 hld hmkb HCV
 go_wp2_with (go_at_fn 66)
 refine HCT.out.mono ?_
 rintro e w3 ⟨rfl,hb3⟩
 have HB3:=aside hb3
 clear hb3 HCT
 by_cases hany:mk.any id=true
 ·have hh:=HH.out
  rw [hany,cond_true] at hh
  obtain ⟨inner,hpn,hh⟩:=call_ok hh
  have HPN:=aside hpn
  have HNO:=aside hh
  rw [hany]
  clear hh hpn hany
  have hms:=mk_states HA.out.2.2.2.2.2.2.2.1 w3
  have hbz:=(Below.refl w3.heap.size w3).alloc (Nat.le_refl _) (.cells (stL (List.replicate n state0)).toArray 83 (0,0))
  have hiz:=heap_alloc_new w3 (.cells (stL (List.replicate n state0)).toArray 83 (0,0))
  have hB4:Below W.heap.size W (w3.alloc (.cells (stL (List.replicate n state0)).toArray 83 (0,0))):=(HW2.out.1.trans (HB3.out.mono HW2.out.1.size)).trans (hbz.mono (Nat.le_trans HW2.out.1.size HB3.out.size))
  have hs4:=keep hbz (keep HB3.out HW2.out.2.1)
  have hm4:MkAt (w3.alloc (.cells (stL (List.replicate n state0)).toArray 83 (0,0))) (W.heap.size+1) mk:=keep hbz (keep HB3.out HW2.out.2.2.2)
  have hz4:W.heap.size+1+1≤w3.heap.size:=Nat.le_trans HW2.out.2.2.1 HB3.out.size
  have HZ4:=aside hz4
  have HW4:=aside (And.intro hB4 (And.intro hs4 (And.intro hm4 hiz)))
  clear hbz hiz hB4 hs4 hm4 hz4
  revert hms HW4
  generalize w3.alloc (.cells (stL (List.replicate n state0)).toArray 83 (0,0))=W4
  intro hms HW4
  have hc32:W4.cell? ⟨b,32,none⟩=some (.bool gx.f6):=by
   rw [← head_lo HG.out.2.1 (item_32 gx)]
   have:=HW4.out.1.block b (HA.out.1 b HG.out.1)
   simp only [World.cell?,this]
  cases hf6:gx.f6 with
  | true =>
   rw [hf6] at hc32
   have HPN2:=HPN
   rw [hf6,cond_true] at HPN2
   have hst5:StAt W4 w3.heap.size (List.replicate n state0):=⟨[],83,by simpa using HW4.out.2.2.2⟩
   have hB5:=HW4.out.1
   have hld:=load_whole (ty:=86) (n:=3) (by kernel_rfl) rfl HW4.out.2.1
   have hag:Agree D W W4:=fun b hb=>hB5.block b (HA.out.1 b hb)
   have hlt5:∀ b,D b→b < W4.heap.size:=fun b hb=>Nat.lt_of_lt_of_le (HA.out.1 b hb) hB5.size
   have hok:=HA.out.2.2.2.2.2.1
   unfold Mb.ok at hok
   have HC32:=aside (HPT.out W4 D hlt5 w3.heap.size n b gx xs a mx ms vs _ inner hst5 (by simp) (fun hd=>by have:=HA.out.1 _ hd; have:=HZ4.out; omega) HG.out.1 ⟨(hag b HG.out.1).trans HG.out.2.1.blk,HG.out.2.1.size,RCs.mono (fun _ h=>h) hag _ _ _ HG.out.2.1.rd⟩ (HG.out.2.2.1.mono hag fun _ h=>h) (MbsAt.mono hB5.size hag (fun _ h=>h) hlt5 _ _ HG.out.2.2.2.1) hok.1 hok.2 HPN2.out)
   unfold ptr at HC32
   clear hst5 hB5 hag hlt5 hok
   go_wp2_with (first | ((with_reducible apply ld (ty:=86)); exact hld) | go_at_fn 32)
   refine HC32.out.mono ?_
   rintro e w6 ⟨rfl,k1,k2,k3⟩
   have HW6:=aside (show Below W.heap.size W w6∧MkAt w6 (W.heap.size+1) mk∧StAt w6 w3.heap.size inner∧inner.length=n from ⟨HW4.out.1.trans (k1.below (by have:=HZ4.out; omega) HW4.out.1.size),k1.keep (by have:=HZ4.out; omega) HW4.out.2.2.1,k2,k3⟩)
   clear k1 k2 k3 hms hc32 hld HC32 HPN HPN2
   go_wp2
   go_loopg [43] n (fun m v43 wx=>∃ (i:Nat) (ss:List S_State),v43=.int .i64 (i:Int)∧n≤m+i∧i≤n∧NestI F gx mk (base.getD st) inner st st' n i ss∧StAt wx sb ss∧Chg (·=sb) w6 wx)
   case atStart=>exact ⟨0,st,rfl,Nat.le_add_right _ _,Nat.zero_le _,⟨HA.out.2.2.1,rfl,st',by simpa using HNO.out,by simp⟩,HA.out.2.1.keep' (HW6.out.1.block _ HA.out.2.1.lt),Chg.refl _ _⟩
   case round =>
    obtain ⟨i,ss,rfl,hgi,hin,hN,hS,hC⟩:=hrel
    have HGI:=aside hgi
    have HIN:=aside hin
    have HNI:=aside hN
    have HS:=aside hS
    have HCG:=aside hC
    clear hgi hin hN hS hC
    by_cases hil:i < n
    ·have hil':(i:Int) < (n:Int):=Int.ofNat_lt.2 hil
     have hi0:(0:Int)≤(i:Int):=Int.natCast_nonneg _
     have hslt:=HA.out.2.1.lt
     have hbW:∀ k,k < W.heap.size→k≠sb→wr.heap[k]? = W.heap[k]? := fun k hk hne=>(HCG.out.block k (Nat.lt_of_lt_of_le hk HW6.out.1.size) hne).trans (HW6.out.1.block k hk)
     have hm:MkAt wr (W.heap.size+1) mk:=HCG.out.keep (by omega) HW6.out.2.1
     have hcm:=hm.cell (i:=i) (by rw [HA.out.2.2.2.2.2.2.2.2.2]; exact hil)
     have hmx:mk[i]? = some (mk.getD i false):=by simp [List.getElem?_eq_getElem (show i < mk.length by rw [HA.out.2.2.2.2.2.2.2.2.2]; exact hil)]
     have hbsl:(base.getD st).length=n:=by
      have:=HA.out.2.2.2.2.1
      cases base with
      | none=>exact HA.out.2.2.1
      | some bs=>exact this.2.1
     obtain ⟨bS,hbS⟩:∃ bS,(base.getD st)[i]? = some bS:=⟨_,List.getElem?_eq_getElem (by rw [hbsl]; exact hil)⟩
     obtain ⟨nS,hnS⟩:∃ nS,inner[i]? = some nS:=⟨_,List.getElem?_eq_getElem (by rw [HW6.out.2.2.2]; exact hil)⟩
     have HBA:=aside (fun w (hw:Below wr.heap.size wr w)=>((HA.out.2.2.2.2.1.next hbW).next (fun k hk _=>hw.block k hk)).load (HS.out.keep' (hw.block _ HS.out.lt)) HNI.out.2.1 hbS)
     have hib:StAt wr w3.heap.size inner:=HW6.out.2.2.1.keep' (HCG.out.block _ HW6.out.2.2.1.lt (by have:=HZ4.out; omega))
     have HIB:=aside (fun w (hw:Below wr.heap.size wr w)=>hib.keep' (hw.block _ hib.lt))
     have HNS:=aside hnS
     have HGC:=aside (fun w (hw:Below wr.heap.size wr w) (k:Nat) (v:Value) (hv:W.cell? ⟨b,k,none⟩=some v)=>(show w.cell? ⟨b,k,none⟩=some v by
      have hbl:=HA.out.1 b HG.out.1
      have:=(hw.block b (Nat.lt_of_lt_of_le hbl (Nat.le_trans HW6.out.1.size HCG.out.size))).trans (hbW b hbl fun e=>HA.out.2.2.2.1 (e ▸ HG.out.1))
      rw [← hv]
      simp only [World.cell?,this]))
     have hc32:=HGC.out wr (Below.refl _ _) 32 _ (head_lo HG.out.2.1 (item_32 gx))
     rw [hf6] at hc32
     have HAG:=aside (fun w (hw:Below wr.heap.size wr w)=>(show Agree D W w from fun k hk=>(hw.block k (Nat.lt_of_lt_of_le (HA.out.1 k hk) (Nat.le_trans HW6.out.1.size HCG.out.size))).trans (hbW k (HA.out.1 k hk) fun e=>HA.out.2.2.2.1 (e ▸ hk))))
     have hwk:=wrap_suc hil (Nat.le_trans HA.out.2.2.2.2.2.2.2.1 (by decide))
     have HWK:=aside hwk
     have HIL:=aside hil
     have hstp:=HNI.out.step hil hmx hbS hnS
     obtain ⟨g0,hg0⟩:∃ g0,gk=g0+1:=⟨gk - 1,by have:=HGI.out; omega⟩
     subst hg0
     clear hbW hm hbsl hbS hnS hib hslt hwk
     rcases hstp with ⟨hmf,hN2⟩ | ⟨hmt,s,hov,hN2⟩
     ·rw [hmf] at hcm
      have HN2:=aside hN2
      clear hN2 hmf hmx
      go_wp2
      go_roundg g0
      case measure=>exact Nat.lt_succ_self _
      case rel=>exact ⟨i+1,ss,by rw [HWK.out],by have:=HGI.out; omega,HIL.out,HN2.out,HS.out,HCG.out⟩
     ·rw [hmt] at hcm
      have HN2:=aside hN2
      have HOV:=aside hov
      clear hN2 hmt hmx hov
      have hov:=HOV.out
      unfold over1 at hov
      rw [hf6,cond_true] at hov
      obtain ⟨q,hq,hpv⟩:=call_ok hov
      have HQ:=aside hq
      have HPV:=aside hpv
      clear hov hq hpv
      go_wp2_with (with_reducible apply halt_region 14)
      refine wp_region_ordF [(0,4),(1,4),(2,4),(3,4),(4,0),(5,4),(6,4),(7,4),(8,4),(9,0),(11,4),(12,4),(13,4),(14,4),(15,0),(10,1)] 16 [(17,4),(18,2)] 8 (fun u w=>∃ pb:Nat,u=.pointer (some ⟨pb,0,none⟩)∧wr.heap.size≤pb∧w.heap[pb]? = some (.cells z8 35 (0,0))) (fun w=>Below wr.heap.size wr w) (by kernel_rfl) (by kernel_rfl) (by kernel_rfl) (Below.refl _ _).drew ?_
      iterate 2 (refine OrdF.still _ rfl rfl (fun w=>by go_simp; rfl) ?_; go_simp)
      refine OrdF.still (.pointer (some ⟨w3.heap.size,i * 9,none⟩)) rfl rfl (fun w=>by go_simp) ?_
      go_simp
      refine OrdF.still _ rfl rfl (fun w=>by go_simp; rfl) ?_
      go_simp
      refine OrdF.pure (.int .u8 nS.f0) rfl rfl (fun w hw=>ex_load rfl (load_one (by kernel_rfl) ((HIB.out w hw).cell HNS.out (j:=0) (by decide)))) ?_
      go_simp
      iterate 4 (refine OrdF.still _ rfl rfl (fun w=>by go_simp; rfl) ?_; go_simp)
      refine OrdF.pure (.int .u8 gx.f3) rfl rfl (fun w hw=>ex_load rfl (load_one (by kernel_rfl) (HGC.out w hw 29 _ (head_lo HG.out.2.1 (item_29 gx))))) ?_
      go_simp
      iterate 2 (refine OrdF.still _ rfl rfl (fun w=>by go_simp; rfl) ?_; go_simp)
      refine OrdF.still (.pointer (some ⟨w3.heap.size,i * 9,none⟩)) rfl rfl (fun w=>by go_simp) ?_
      go_simp
      refine OrdF.still (.pointer (some ⟨w3.heap.size,i * 9+1,none⟩)) rfl rfl (fun w=>by go_simp) ?_
      go_simp
      refine OrdF.pure (inkV nS.f1) rfl rfl (fun w hw=>ex_load rfl ((HIB.out w hw).load1 HNS.out)) ?_
      go_simp
      refine OrdF.det (.int .u8 q) rfl rfl (fun w hw=>.call 46 #[.int .u8 nS.f0,.int .u8 gx.f3] ?_ ?_) ?_
      ·have:=callable_run call46 #[.int .u8 nS.f0,.int .u8 gx.f3] w
       go_simp
      ·refine (Mul255_at w HQ.out).mono ?_
       rintro e w' ⟨rfl,hb⟩
       refine ⟨_,rfl,rfl,hw.trans (hb.mono hw.size),?_⟩
       rintro u ⟨pb,rfl,h1,h2⟩
       exact ⟨pb,rfl,h1,keep hb h2⟩
      go_simp
      refine OrdF.land (fun u=>∃ pb:Nat,u=.pointer (some ⟨pb,0,none⟩)) rfl rfl (fun w hw=>.value (.pointer (some ⟨w.heap.size,0,none⟩)) (w':=w.alloc (.cells z8 35 (0,0))) ?_ ⟨⟨_,rfl⟩,hw.alloc hw.size _,_,rfl,hw.size,heap_alloc_new _ _⟩) ?_
      ·go_simp
       rfl
      rintro u ⟨pb,rfl⟩
      go_simp
      refine Ord.still _ rfl rfl (fun w=>by go_simp; rfl) ?_
      go_simp
      refine Ord.eff (fun u=>u=undef) (fun _ w'=>Below wr.heap.size wr w'∧wr.heap.size≤pb∧w'.heap[pb]? = some (.cells (inkA nS.f1) 35 (0,0))) (by decide) rfl rfl (fun w hw=>?_) (fun h=>by cases h) ?_
      ·obtain ⟨hB,hle,hpb⟩:=hw
       exact .skip (ex_store rfl (store_at (ty:=35) (n:=8) (by kernel_rfl) (cs:=inkA nS.f1) rfl hpb rfl (inkA_one _))) ⟨rfl,setRow_below hB hle,hle,setRow_get hpb⟩
      rintro u rfl
      go_simp
      rintro w2' ⟨k1,k2,k3⟩
      have HF2:=aside (And.intro k1 k3)
      have HPB:=aside k2
      clear k1 k2 k3 hcm hc32
      by_cases hq0:q=0
      ·have hqb:(q == 0)=true:=by simpa using hq0
       have hb8:Try.prog.built 35 []=some (inkA ink0):=by kernel_rfl
       have hst2:=store_at (ty:=35) (n:=8) (by kernel_rfl) (cs:=inkA ink0) rfl HF2.out.2 rfl (inkA_one _)
       have HQ4':=aside (show Below wr.heap.size wr (w2'.setRow pb (inkA ink0))∧(w2'.setRow pb (inkA ink0)).heap[pb]? = some (.cells (inkA (bif q == 0 then ink0 else nS.f1)) 35 (0,0)) from ⟨setRow_below HF2.out.1 HPB.out,by rw [hqb]; exact setRow_get HF2.out.2⟩)
       revert hst2 HQ4'
       generalize w2'.setRow pb (inkA ink0)=w4
       intro hst2 HQ4
       generalize inkA ink0=v0 at hst2 hb8
       go_wp2_with (first | ((with_reducible apply Go.Vm.st (ty:=35)); exact hst2) | ((with_reducible apply bd (ty:=35)); exact hb8) | with_reducible apply halt_region 17)
       clear hst2 hb8
       refine wp_region_ord [(0,4),(1,4),(2,4),(3,4),(4,4),(5,0),(6,0),(7,4),(8,4),(9,4),(10,4),(11,0),(12,1),(13,4),(14,2)] 4 (fun w=>Below w4.heap.size w4 w) (by kernel_rfl) (by kernel_rfl) (Below.refl _ _).drew ?_
       iterate 4 (refine Ord.still _ rfl rfl (fun w=>by go_simp; rfl) ?_; go_simp)
       refine Ord.still (.pointer (some ⟨bb,i * 9,none⟩)) rfl rfl (fun w=>by go_simp) ?_
       go_simp
       have HB4:=HQ4.out.1
       refine Ord.pure (stV bS) rfl rfl (fun w hw=>ex_load rfl (HBA.out w (HB4.trans (hw.mono HB4.size)))) ?_
       go_simp
       refine Ord.pure (inkV (bif q == 0 then ink0 else nS.f1)) rfl rfl (fun w hw=>ex_load rfl (load_whole (ty:=35) (n:=8) (by kernel_rfl) rfl (keep hw HQ4.out.2))) ?_
       go_simp
       iterate 4 (refine Ord.still _ rfl rfl (fun w=>by go_simp; rfl) ?_; go_simp)
       refine Ord.pure mx rfl rfl (fun w hw=>ex_load rfl (load_one (by kernel_rfl) (HGC.out w (HB4.trans (hw.mono HB4.size)) 35 _ (head_35 HG.out.2.1)))) ?_
       go_simp
       refine Ord.det (stV s) rfl rfl (fun w hw=>.call 47 #[stV bS,inkV (bif q == 0 then ink0 else nS.f1),.int .u8 q,mx,.bool false] ?_ ?_) ?_
       ·have:=callable_run call47 #[stV bS,inkV (bif q == 0 then ink0 else nS.f1),.int .u8 q,mx,.bool false] w
        go_simp
       ·have hB:=HB4.trans (hw.mono HB4.size)
        have hpv:=HPV.out
        rw [HG.out.2.2.2.2.1] at hpv
        refine (Paint_at w (HG.out.2.2.2.2.2.2.2 w (Nat.le_trans HW6.out.1.size (Nat.le_trans HCG.out.size hB.size)) (HAG.out w hB)) hpv).mono ?_
        rintro e w' ⟨rfl,hb⟩
        exact ⟨_,rfl,rfl,hw.trans (hb.mono hw.size)⟩
       go_simp
       refine Ord.still (.pointer (some ⟨sb,i * 9,none⟩)) rfl rfl (fun w=>by go_simp) ?_
       go_simp
       refine Ord.eff (fun u=>u=undef) (fun _ w'=>StAt w' sb (ss.set i s)∧Chg (·=sb) wr w') (by decide) rfl rfl (fun w hw=>?_) (fun h=>by cases h) ?_
       ·obtain ⟨w',f1,f2,f3⟩:=(HS.out.keep' ((HB4.trans (hw.mono HB4.size)).block _ HS.out.lt)).store (i:=i) (by rw [HNI.out.1]; exact HIL.out) s
        exact .skip (ex_store rfl f1) ⟨rfl,f2,(Chg.of (HB4.trans (hw.mono HB4.size))).trans f3⟩
       rintro u rfl w' ⟨k1,k2⟩
       have HFF:=aside (And.intro k1 (HCG.out.trans k2))
       clear k1 k2
       go_wp2
       go_roundg g0
       case measure=>exact Nat.lt_succ_self _
       case rel=>exact ⟨i+1,_,by rw [HWK.out],by have:=HGI.out; omega,HIL.out,HN2.out,HFF.out.1,HFF.out.2⟩
      ·have hqb:(q == 0)=false:=by simpa using hq0
       have HQ4:=aside (show Below wr.heap.size wr w2'∧w2'.heap[pb]? = some (.cells (inkA (bif q == 0 then ink0 else nS.f1)) 35 (0,0)) from ⟨HF2.out.1,by rw [hqb]; exact HF2.out.2⟩)
       go_wp2_with (with_reducible apply halt_region 17)
       refine wp_region_ord [(0,4),(1,4),(2,4),(3,4),(4,4),(5,0),(6,0),(7,4),(8,4),(9,4),(10,4),(11,0),(12,1),(13,4),(14,2)] 4 (fun w=>Below w2'.heap.size w2' w) (by kernel_rfl) (by kernel_rfl) (Below.refl _ _).drew ?_
       iterate 4 (refine Ord.still _ rfl rfl (fun w=>by go_simp; rfl) ?_; go_simp)
       refine Ord.still (.pointer (some ⟨bb,i * 9,none⟩)) rfl rfl (fun w=>by go_simp) ?_
       go_simp
       have HB4:=HQ4.out.1
       refine Ord.pure (stV bS) rfl rfl (fun w hw=>ex_load rfl (HBA.out w (HB4.trans (hw.mono HB4.size)))) ?_
       go_simp
       refine Ord.pure (inkV (bif q == 0 then ink0 else nS.f1)) rfl rfl (fun w hw=>ex_load rfl (load_whole (ty:=35) (n:=8) (by kernel_rfl) rfl (keep hw HQ4.out.2))) ?_
       go_simp
       iterate 4 (refine Ord.still _ rfl rfl (fun w=>by go_simp; rfl) ?_; go_simp)
       refine Ord.pure mx rfl rfl (fun w hw=>ex_load rfl (load_one (by kernel_rfl) (HGC.out w (HB4.trans (hw.mono HB4.size)) 35 _ (head_35 HG.out.2.1)))) ?_
       go_simp
       refine Ord.det (stV s) rfl rfl (fun w hw=>.call 47 #[stV bS,inkV (bif q == 0 then ink0 else nS.f1),.int .u8 q,mx,.bool false] ?_ ?_) ?_
       ·have:=callable_run call47 #[stV bS,inkV (bif q == 0 then ink0 else nS.f1),.int .u8 q,mx,.bool false] w
        go_simp
       ·have hB:=HB4.trans (hw.mono HB4.size)
        have hpv:=HPV.out
        rw [HG.out.2.2.2.2.1] at hpv
        refine (Paint_at w (HG.out.2.2.2.2.2.2.2 w (Nat.le_trans HW6.out.1.size (Nat.le_trans HCG.out.size hB.size)) (HAG.out w hB)) hpv).mono ?_
        rintro e w' ⟨rfl,hb⟩
        exact ⟨_,rfl,rfl,hw.trans (hb.mono hw.size)⟩
       go_simp
       refine Ord.still (.pointer (some ⟨sb,i * 9,none⟩)) rfl rfl (fun w=>by go_simp) ?_
       go_simp
       refine Ord.eff (fun u=>u=undef) (fun _ w'=>StAt w' sb (ss.set i s)∧Chg (·=sb) wr w') (by decide) rfl rfl (fun w hw=>?_) (fun h=>by cases h) ?_
       ·obtain ⟨w',f1,f2,f3⟩:=(HS.out.keep' ((HB4.trans (hw.mono HB4.size)).block _ HS.out.lt)).store (i:=i) (by rw [HNI.out.1]; exact HIL.out) s
        exact .skip (ex_store rfl f1) ⟨rfl,f2,(Chg.of (HB4.trans (hw.mono HB4.size))).trans f3⟩
       rintro u rfl w' ⟨k1,k2⟩
       have HFF:=aside (And.intro k1 (HCG.out.trans k2))
       clear k1 k2
       go_wp2
       go_roundg g0
       case measure=>exact Nat.lt_succ_self _
       case rel=>exact ⟨i+1,_,by rw [HWK.out],by have:=HGI.out; omega,HIL.out,HN2.out,HFF.out.1,HFF.out.2⟩
    ·have hil':¬ (i:Int) < (n:Int):=fun h=>hil (Int.ofNat_lt.1 h)
     obtain rfl:i=n:=by have:=HIN.out; omega
     have hse:=HNI.out.end_ HA.out.2.2.2.2.2.2.2.2.2
     have hsl:=HNI.out.1
     clear hil
     go_wp2
     go_end0
     exact ⟨rfl,(Chg.of HW6.out.1).trans HCG.out,hse ▸ HS.out,hse ▸ hsl⟩
  | false =>
   rw [hf6] at hc32
   have HPN2:=HPN
   rw [hf6,cond_false] at HPN2
   have hbsl:(base.getD st).length=n:=by
    have:=HA.out.2.2.2.2.1
    cases base with
    | none=>exact HA.out.2.2.1
    | some bs=>exact this.2.1
   have hbsA:StAt W4 bb (base.getD st):=by
    have:=HA.out.2.2.2.2.1
    cases base with
    | none =>
     have e:bb=sb:=this
     subst e
     exact HA.out.2.1.keep' (HW4.out.1.block _ HA.out.2.2.2.2.2.2.2.2.1)
    | some bs=>exact this.2.2.keep' (HW4.out.1.block _ this.2.2.lt)
   obtain ⟨cv,w5,hcp,hst5,hC5⟩:=copy_states (c:=c4) HW4.out.2.2.2 (by simp) hbsA hbsl 3
   have hB5:Below W.heap.size W w5:=HW4.out.1.trans (hC5.below (by have:=HZ4.out; omega) HW4.out.1.size)
   have hs5:=hC5.keep (by have:=HZ4.out; omega) HW4.out.2.1
   have hm5:MkAt w5 (W.heap.size+1) mk:=hC5.keep (by have:=HZ4.out; omega) HW4.out.2.2.1
   have hld:=load_whole (ty:=86) (n:=3) (by kernel_rfl) rfl hs5
   have hag:Agree D W w5:=fun b hb=>hB5.block b (HA.out.1 b hb)
   have hlt5:∀ b,D b→b < w5.heap.size:=fun b hb=>Nat.lt_of_lt_of_le (HA.out.1 b hb) hB5.size
   have hok:=HA.out.2.2.2.2.2.1
   unfold Mb.ok at hok
   have HC32:=aside (HPT.out w5 D hlt5 w3.heap.size n b gx xs a mx ms vs _ inner hst5 hbsl (fun hd=>by have:=HA.out.1 _ hd; have:=HZ4.out; omega) HG.out.1 ⟨(hag b HG.out.1).trans HG.out.2.1.blk,HG.out.2.1.size,RCs.mono (fun _ h=>h) hag _ _ _ HG.out.2.1.rd⟩ (HG.out.2.2.1.mono hag fun _ h=>h) (MbsAt.mono hB5.size hag (fun _ h=>h) hlt5 _ _ HG.out.2.2.2.1) hok.1 hok.2 HPN2.out)
   unfold ptr at HC32
   have HW5:=aside (And.intro hB5 hm5)
   clear hst5 hB5 hm5 hs5 hag hlt5 hok hC5 hbsA hbsl
   go_wp2_with (first | ((with_reducible apply ld (ty:=86)); exact hld) | ((with_reducible apply cp (t:=81)); exact hcp) | go_at_fn 32)
   refine HC32.out.mono ?_
   rintro e w6 ⟨rfl,k1,k2,k3⟩
   have HW6:=aside (show Below W.heap.size W w6∧MkAt w6 (W.heap.size+1) mk∧StAt w6 w3.heap.size inner∧inner.length=n from ⟨HW5.out.1.trans (k1.below (by have:=HZ4.out; omega) HW5.out.1.size),k1.keep (by have:=HZ4.out; omega) HW5.out.2,k2,k3⟩)
   clear k1 k2 k3 hms hc32 hld hcp HC32 HPN HPN2 HW5
   go_wp2
   go_loopg [43] n (fun m v43 wx=>∃ (i:Nat) (ss:List S_State),v43=.int .i64 (i:Int)∧n≤m+i∧i≤n∧NestI F gx mk (base.getD st) inner st st' n i ss∧StAt wx sb ss∧Chg (·=sb) w6 wx)
   case atStart=>exact ⟨0,st,rfl,Nat.le_add_right _ _,Nat.zero_le _,⟨HA.out.2.2.1,rfl,st',by simpa using HNO.out,by simp⟩,HA.out.2.1.keep' (HW6.out.1.block _ HA.out.2.1.lt),Chg.refl _ _⟩
   case round =>
    obtain ⟨i,ss,rfl,hgi,hin,hN,hS,hC⟩:=hrel
    have HGI:=aside hgi
    have HIN:=aside hin
    have HNI:=aside hN
    have HS:=aside hS
    have HCG:=aside hC
    clear hgi hin hN hS hC
    by_cases hil:i < n
    ·have hil':(i:Int) < (n:Int):=Int.ofNat_lt.2 hil
     have hi0:(0:Int)≤(i:Int):=Int.natCast_nonneg _
     have hslt:=HA.out.2.1.lt
     have hbW:∀ k,k < W.heap.size→k≠sb→wr.heap[k]? = W.heap[k]? := fun k hk hne=>(HCG.out.block k (Nat.lt_of_lt_of_le hk HW6.out.1.size) hne).trans (HW6.out.1.block k hk)
     have hm:MkAt wr (W.heap.size+1) mk:=HCG.out.keep (by omega) HW6.out.2.1
     have hcm:=hm.cell (i:=i) (by rw [HA.out.2.2.2.2.2.2.2.2.2]; exact hil)
     have hmx:mk[i]? = some (mk.getD i false):=by simp [List.getElem?_eq_getElem (show i < mk.length by rw [HA.out.2.2.2.2.2.2.2.2.2]; exact hil)]
     have hbsl:(base.getD st).length=n:=by
      have:=HA.out.2.2.2.2.1
      cases base with
      | none=>exact HA.out.2.2.1
      | some bs=>exact this.2.1
     obtain ⟨bS,hbS⟩:∃ bS,(base.getD st)[i]? = some bS:=⟨_,List.getElem?_eq_getElem (by rw [hbsl]; exact hil)⟩
     obtain ⟨nS,hnS⟩:∃ nS,inner[i]? = some nS:=⟨_,List.getElem?_eq_getElem (by rw [HW6.out.2.2.2]; exact hil)⟩
     have HBA:=aside (fun w (hw:Below wr.heap.size wr w)=>((HA.out.2.2.2.2.1.next hbW).next (fun k hk _=>hw.block k hk)).load (HS.out.keep' (hw.block _ HS.out.lt)) HNI.out.2.1 hbS)
     have hib:StAt wr w3.heap.size inner:=HW6.out.2.2.1.keep' (HCG.out.block _ HW6.out.2.2.1.lt (by have:=HZ4.out; omega))
     have HIB:=aside (fun w (hw:Below wr.heap.size wr w)=>hib.keep' (hw.block _ hib.lt))
     have HNS:=aside hnS
     have HGC:=aside (fun w (hw:Below wr.heap.size wr w) (k:Nat) (v:Value) (hv:W.cell? ⟨b,k,none⟩=some v)=>(show w.cell? ⟨b,k,none⟩=some v by
      have hbl:=HA.out.1 b HG.out.1
      have:=(hw.block b (Nat.lt_of_lt_of_le hbl (Nat.le_trans HW6.out.1.size HCG.out.size))).trans (hbW b hbl fun e=>HA.out.2.2.2.1 (e ▸ HG.out.1))
      rw [← hv]
      simp only [World.cell?,this]))
     have hc32:=HGC.out wr (Below.refl _ _) 32 _ (head_lo HG.out.2.1 (item_32 gx))
     rw [hf6] at hc32
     have HAG:=aside (fun w (hw:Below wr.heap.size wr w)=>(show Agree D W w from fun k hk=>(hw.block k (Nat.lt_of_lt_of_le (HA.out.1 k hk) (Nat.le_trans HW6.out.1.size HCG.out.size))).trans (hbW k (HA.out.1 k hk) fun e=>HA.out.2.2.2.1 (e ▸ hk))))
     have hwk:=wrap_suc hil (Nat.le_trans HA.out.2.2.2.2.2.2.2.1 (by decide))
     have HWK:=aside hwk
     have HIL:=aside hil
     have hstp:=HNI.out.step hil hmx hbS hnS
     obtain ⟨g0,hg0⟩:∃ g0,gk=g0+1:=⟨gk - 1,by have:=HGI.out; omega⟩
     subst hg0
     clear hbW hm hbsl hbS hnS hib hslt hwk
     rcases hstp with ⟨hmf,hN2⟩ | ⟨hmt,s,hov,hN2⟩
     ·rw [hmf] at hcm
      have HN2:=aside hN2
      clear hN2 hmf hmx
      go_wp2
      go_roundg g0
      case measure=>exact Nat.lt_succ_self _
      case rel=>exact ⟨i+1,ss,by rw [HWK.out],by have:=HGI.out; omega,HIL.out,HN2.out,HS.out,HCG.out⟩
     ·rw [hmt] at hcm
      have HN2:=aside hN2
      have HOV:=aside hov
      clear hN2 hmt hmx hov
      go_wp2_with (with_reducible apply halt_region 13)
      refine wp_region_ord [(0,4),(1,4),(2,4),(3,4),(4,4),(5,0),(6,4),(7,4),(8,4),(9,0),(10,4),(11,4),(12,4),(13,4),(14,0),(15,1),(16,4),(17,2)] 4 (fun w=>Below wr.heap.size wr w) (by kernel_rfl) (by kernel_rfl) (Below.refl _ _).drew ?_
      iterate 4 (refine Ord.still _ rfl rfl (fun w=>by go_simp; rfl) ?_; go_simp)
      refine Ord.still (.pointer (some ⟨bb,i * 9,none⟩)) rfl rfl (fun w=>by go_simp) ?_
      go_simp
      refine Ord.pure (stV bS) rfl rfl (fun w hw=>ex_load rfl (HBA.out w hw)) ?_
      go_simp
      iterate 2 (refine Ord.still _ rfl rfl (fun w=>by go_simp; rfl) ?_; go_simp)
      refine Ord.still (.pointer (some ⟨w3.heap.size,i * 9,none⟩)) rfl rfl (fun w=>by go_simp) ?_
      go_simp
      refine Ord.pure (stV nS) rfl rfl (fun w hw=>ex_load rfl ((HIB.out w hw).load HNS.out)) ?_
      go_simp
      iterate 4 (refine Ord.still _ rfl rfl (fun w=>by go_simp; rfl) ?_; go_simp)
      refine Ord.pure (.int .u8 gx.f3) rfl rfl (fun w hw=>ex_load rfl (load_one (by kernel_rfl) (HGC.out w hw 29 _ (head_lo HG.out.2.1 (item_29 gx))))) ?_
      go_simp
      refine Ord.det (stV s) rfl rfl (fun w hw=>.call 67 #[stV bS,stV nS,.int .u8 gx.f3] ?_ ?_) ?_
      ·have:=callable_run call67 #[stV bS,stV nS,.int .u8 gx.f3] w
       go_simp
      ·have hov:=HOV.out
       unfold over1 at hov
       rw [hf6,cond_false] at hov
       refine (Between_at w hov).mono ?_
       rintro e w' ⟨rfl,hb⟩
       exact ⟨_,rfl,rfl,hw.trans (hb.mono hw.size)⟩
      go_simp
      refine Ord.still (.pointer (some ⟨sb,i * 9,none⟩)) rfl rfl (fun w=>by go_simp) ?_
      go_simp
      refine Ord.eff (fun u=>u=undef) (fun _ w'=>StAt w' sb (ss.set i s)∧Chg (·=sb) wr w') (by decide) rfl rfl (fun w hw=>?_) (fun h=>by cases h) ?_
      ·obtain ⟨w',f1,f2,f3⟩:=(HS.out.keep' (hw.block _ HS.out.lt)).store (i:=i) (by rw [HNI.out.1]; exact HIL.out) s
       exact .skip (ex_store rfl f1) ⟨rfl,f2,(Chg.of hw).trans f3⟩
      rintro u rfl w' ⟨k1,k2⟩
      have HFF:=aside (And.intro k1 (HCG.out.trans k2))
      clear k1 k2
      go_wp2
      go_roundg g0
      case measure=>exact Nat.lt_succ_self _
      case rel=>exact ⟨i+1,_,by rw [HWK.out],by have:=HGI.out; omega,HIL.out,HN2.out,HFF.out.1,HFF.out.2⟩
    ·have hil':¬ (i:Int) < (n:Int):=fun h=>hil (Int.ofNat_lt.1 h)
     obtain rfl:i=n:=by have:=HIN.out; omega
     have hse:=HNI.out.end_ HA.out.2.2.2.2.2.2.2.2.2
     have hsl:=HNI.out.1
     clear hil
     go_wp2
     go_end0
     exact ⟨rfl,(Chg.of HW6.out.1).trans HCG.out,hse ▸ HS.out,hse ▸ hsl⟩
 ·have hany2:mk.any id=false:=by simpa using hany
  have hh:=HH.out
  rw [hany2,cond_false] at hh
  cases hh
  rw [hany2]
  go_wp2
  refine bodyPost_ret (results_none rfl _ _ _) rfl ?_
  exact ⟨rfl,Chg.of (HW2.out.1.trans (HB3.out.mono HW2.out.1.size)),HA.out.2.1.keep' ((HB3.out.block _ (Nat.lt_of_lt_of_le HA.out.2.1.lt HW2.out.1.size)).trans (HW2.out.1.block _ HA.out.2.1.lt)),HA.out.2.2.1⟩
end Go.Vm.TopG
