/-
  A fill's cells of a strip,painted,by hand.
-/
import Derived.Test.YtjjclmimifionaaRb
import Derived.Test.YtjjclmimifionaaVmD
namespace Go.Vm.TopG
open Go.Proofs
open Go.RowKit
/-- Where what lies under a strip's states stands: in the states themselves,or in a row of its own. -/
def BaseAt (w:World) (sb bb n:Nat):Option (List S_State)→Prop
 | none=>bb=sb
 | some bs=>bb≠sb∧bs.length=n∧StAt w bb bs
structure P45 (W:World) (F:Nat) (D:Nat→Prop) (y x0 x1:Int) (n fb:Nat) (x:S_Item) (xs:Array Value) (a:Int) (g mx:Value) (b2 b3 b4 b5 sb bb c4 c5:Nat) (base:Option (List S_State)):Prop where
 dlt:∀ b,D b→b < W.heap.size
 strip:StripOk x0 x1 n
 dfb:D fb
 fill:FillAt F D W fb x xs a g mx
 h2:W.heap[b2]? = some (.cells #[.pointer (some ⟨fb,0,none⟩)] 100 (0,0))
 h3:W.heap[b3]? = some (.cells (stripA y x0 x1) 86 (0,0))
 h4:W.heap[b4]? = some (.cells #[.slice (some ⟨bb,0,none⟩) n c4] 81 (0,0))
 h5:W.heap[b5]? = some (.cells #[.slice (some ⟨sb,0,none⟩) n c5] 81 (0,0))
 n2:b2≠sb
 n3:b3≠sb
 n4:b4≠sb
 n5:b5≠sb
 nD:¬ D sb
 base:BaseAt W sb bb n base
 slt:sb < W.heap.size
section
variable {W wr w:World} {F:Nat} {D:Nat→Prop} {y x0 x1:Int} {n fb:Nat} {x:S_Item} {xs:Array Value} {a:Int} {g mx:Value} {b2 b3 b4 b5 sb bb c4 c5:Nat} {base:Option (List S_State)} {st:List S_State}
theorem P45.at_ (h:P45 W F D y x0 x1 n fb x xs a g mx b2 b3 b4 b5 sb bb c4 c5 base) (hC:Chg (·=sb) W wr) (hB:Below wr.heap.size wr w):∀ b,b < W.heap.size→b≠sb→w.heap[b]? = W.heap[b]? :=
 fun b hb hne=>(hB.block b (Nat.lt_of_lt_of_le hb hC.size)).trans (hC.block b hb hne)
theorem P45.agree (h:P45 W F D y x0 x1 n fb x xs a g mx b2 b3 b4 b5 sb bb c4 c5 base) (hC:Chg (·=sb) W wr) (hB:Below wr.heap.size wr w):Agree D W w:=fun b hb=>h.at_ hC hB b (h.dlt b hb) fun e=>h.nD (e ▸ hb)
theorem fill_lo (hf:FillAt F D W fb x xs a g mx) {k:Nat} {v:Value} (hk:(cS_Item x)[k]? = some (.v v)):W.cell? ⟨fb,k,none⟩=some v:=by
 have h1:=item_v hf.rd hk
 have hlt:=(Array.getElem?_eq_some_iff.1 h1).1
 rw [cell_of hf.blk,Array.getElem?_append_left hlt]
 exact h1
theorem fill_35 (hf:FillAt F D W fb x xs a g mx):W.cell? ⟨fb,35,none⟩=some g:=by
 rw [cell_of hf.blk,Array.getElem?_append_right (by rw [hf.size]; omega),hf.size]
 rfl
theorem fill_36 (hf:FillAt F D W fb x xs a g mx):W.cell? ⟨fb,36,none⟩=some mx:=by
 rw [cell_of hf.blk,Array.getElem?_append_right (by rw [hf.size]; omega),hf.size]
 rfl
theorem P45.fcell (h:P45 W F D y x0 x1 n fb x xs a g mx b2 b3 b4 b5 sb bb c4 c5 base) (hC:Chg (·=sb) W wr) (hB:Below wr.heap.size wr w) {k:Nat} {v:Value} (hk:W.cell? ⟨fb,k,none⟩=some v):w.cell? ⟨fb,k,none⟩=some v:=by
 rw [← hk]
 have:=h.agree hC hB fb h.dfb
 simp only [World.cell?,this]
theorem P45.bcell (h:P45 W F D y x0 x1 n fb x xs a g mx b2 b3 b4 b5 sb bb c4 c5 base) (hC:Chg (·=sb) W wr) (hB:Below wr.heap.size wr w) {b:Nat} {cs:Array Value} {E:TypeId} (hb:W.heap[b]? = some (.cells cs E (0,0))) (hne:b≠sb) (k:Nat):w.cell? ⟨b,k,none⟩=cs[k]? :=
 cell_of ((h.at_ hC hB b (heap_lt hb) hne).trans hb) k
/-- What lies under cell j. -/
theorem P45.under (h:P45 W F D y x0 x1 n fb x xs a g mx b2 b3 b4 b5 sb bb c4 c5 base) (hC:Chg (·=sb) W wr) (hS:StAt wr sb st) (hn:st.length=n) (hB:Below wr.heap.size wr w) {j:Nat} (hj:j < n):(Instr.loadAt 83 (.pointer (some ⟨bb,j * 9,none⟩))).run Try.prog w=.ok (stV ((base.getD st).getD j state0)) w:=by
 have hb:=h.base
 cases base with
 | none =>
  have:bb=sb:=hb
  subst this
  refine (hS.keep' (hB.block _ hS.lt)).load ?_
  simp [List.getElem?_eq_getElem (show j < st.length by omega)]
 | some bs =>
  obtain ⟨h1,h2,h3⟩:=hb
  refine (h3.keep' (h.at_ hC hB bb h3.lt h1)).load ?_
  simp [List.getElem?_eq_getElem (show j < bs.length by omega)]
end
theorem call46:Callable Try.prog 46:=⟨_,Try.func46,by kernel_rfl,by kernel_rfl⟩
theorem call47:Callable Try.prog 47:=⟨_,Try.func47,by kernel_rfl,by kernel_rfl⟩
set_option maxRecDepth 100000 in
set_option maxHeartbeats 4000000 in
theorem paint45_at (W:World) {F:Nat} {D:Nat→Prop} {y x0 x1:Int} {n fb:Nat} {x:S_Item} {xs:Array Value} {a:Int} {g mx:Value} {b2 b3 b4 b5 sb bb c4 c5:Nat} {base:Option (List S_State)} (hp:P45 W F D y x0 x1 n fb x xs a g mx b2 b3 b4 b5 sb bb c4 c5 base)
  {st st':List S_State} (hst:StAt W sb st) (hn:st.length=n) {lo hi:Int} (hlo:x0≤lo) (hhi:hi≤x1) (h:fillN F x y x0 base (hi - lo).toNat lo st=some st') :
  Calls Try.prog 45 #[.int .i64 lo,.int .i64 hi,.pointer (some ⟨b2,0,none⟩),.pointer (some ⟨b3,0,none⟩),.pointer (some ⟨b4,0,none⟩),.pointer (some ⟨b5,0,none⟩)] W fun e W'=>e=.returned (.tuple #[])∧Chg (·=sb) W W'∧StAt W' sb st'∧st'.length=n:=by
 have HP:=aside hp
 have HST:=aside hst
 have HN:=aside hn
 have HLO:=aside hlo
 have HHI:=aside hhi
 have HH:=aside h
 obtain ⟨f,caps,hg,hfc,hfr⟩:=srcD_fn hp.fill.src
 have HG:=aside hg
 have HFC:=aside hfc
 have HFR:=aside hfr
 clear hp hst hn hlo hhi h hg hfc hfr
 go_enter Try.func45,Try.ntmps45
 go_wp2
 go_loopg [8] (hi - lo).toNat (fun m v8 wx=>∃ (z:Int) (ss:List S_State),v8=.int .i64 z∧m=(hi - z).toNat∧lo≤z∧fillN F x y x0 base m z ss=some st'∧StAt wx sb ss∧ss.length=n∧Chg (·=sb) W wx)
 case atStart=>exact ⟨lo,st,rfl,rfl,Int.le_refl _,HH.out,HST.out,HN.out,Chg.refl _ _⟩
 case round =>
  obtain ⟨z,ss,rfl,hgk,hlz,hN,hS,hL,hC⟩:=hrel
  have HLZ:=aside hlz
  have HS:=aside hS
  have HL:=aside hL
  have HC:=aside hC
  have HGK:=aside hgk
  have HN':=aside hN
  clear hgk hlz hN hS hL hC
  by_cases hzh:z < hi
  ·obtain ⟨j,hj⟩:∃ j:Nat,z - x0=(j:Int):=⟨(z - x0).toNat,by have:=HLO.out; have:=HLZ.out; omega⟩
   have hjn:j < n:=by have:=HHI.out; have:=HP.out.strip.hx; omega
   have hjn':(j:Int) < (n:Int):=Int.ofNat_lt.2 hjn
   have hj0:(0:Int)≤(j:Int):=Int.natCast_nonneg _
   have hw:wrap64 (z - x0)=(j:Int):=by
    rw [hj]
    exact wrap_nat (by have:=HP.out.strip.h0; have:=HP.out.strip.h1; have:=HP.out.strip.hx; omega)
   have hz1:wrap64 (z+1)=z+1:=by
    have:=HP.out.strip.h0; have:=HP.out.strip.h1; have:=HHI.out; have:=HLZ.out; have:=HLO.out
    unfold wrap64; omega
   have HJ:=aside hj
   have HJN:=aside hjn
   have HW:=aside (And.intro hw hz1)
   obtain ⟨g0,hg0⟩:∃ g0,gk=g0+1:=⟨gk - 1,by have:=HGK.out; omega⟩
   subst hg0
   have hN:=HN'.out
   unfold fillN at hN
   obtain ⟨p,hpv,hN⟩:=call_ok hN
   obtain ⟨q,hq,hN⟩:=call_ok hN
   obtain ⟨s,hsv,hN⟩:=call_ok hN
   have HPV:=aside hpv
   have HQ:=aside hq
   have HSV:=aside hsv
   have HNN:=aside hN
   clear hpv hq hsv hN hj hjn HN' hw hz1
   go_wp2_with (with_reducible apply halt_region 3)
   refine wp_region_ordF [(0,0),(1,4),(2,4),(3,0),(4,4),(5,4),(6,0),(7,1),(8,4),(9,4),(10,4)] 11 [(12,2),(13,4)] 4 (fun u w=>∃ pb:Nat,u=.pointer (some ⟨pb,0,none⟩)∧wr.heap.size≤pb∧w.heap[pb]? = some (.cells z8 35 (0,0))) (fun w=>Below wr.heap.size wr w) (by kernel_rfl) (by kernel_rfl) (by kernel_rfl) (Below.refl _ _).drew ?_
   refine OrdF.pure (.pointer (some ⟨fb,0,none⟩)) rfl rfl (fun w hw=>ex_load rfl (load_one (by kernel_rfl) (HP.out.bcell HC.out hw HP.out.h2 HP.out.n2 0))) ?_
   go_simp
   iterate 2 (refine OrdF.still _ rfl rfl (fun w=>by go_simp; rfl) ?_; go_simp)
   refine OrdF.pure g rfl rfl (fun w hw=>ex_load rfl (load_one (by kernel_rfl) (HP.out.fcell HC.out hw (fill_35 HP.out.fill)))) ?_
   rw [HG.out]
   go_simp
   iterate 2 (refine OrdF.still _ rfl rfl (fun w=>by go_simp; rfl) ?_; go_simp)
   refine OrdF.pure (.int .i64 y) rfl rfl (fun w hw=>ex_load rfl (load_one (by kernel_rfl) (HP.out.bcell HC.out hw HP.out.h3 HP.out.n3 0))) ?_
   go_simp
   refine OrdF.det (.tuple #[inkV p.1,.int .u8 p.2]) rfl rfl (fun w hw=>.call f (#[.int .i64 z,.int .i64 y]++caps) ?_ ?_) ?_
   ·have:=callable_run HFC.out (#[.int .i64 z,.int .i64 y]++caps) w
    go_simp
   ·refine (HFR.out w (Nat.le_trans HC.out.size hw.size) (HP.out.agree HC.out hw) z y p HPV.out).mono ?_
    rintro e w' ⟨rfl,hb⟩
    refine ⟨_,rfl,rfl,hw.trans (hb.mono hw.size),?_⟩
    rintro u ⟨pb,rfl,h1,h2⟩
    exact ⟨pb,rfl,h1,keep hb h2⟩
   go_simp
   iterate 3 (refine OrdF.still _ rfl rfl (fun w=>by go_simp; rfl) ?_; go_simp)
   refine OrdF.land (fun u=>∃ pb:Nat,u=.pointer (some ⟨pb,0,none⟩)) rfl rfl (fun w hw=>.value (.pointer (some ⟨w.heap.size,0,none⟩)) (w':=w.alloc (.cells z8 35 (0,0))) ?_ ⟨⟨_,rfl⟩,hw.alloc hw.size _,_,rfl,hw.size,heap_alloc_new _ _⟩) ?_
   ·go_simp
    rfl
   rintro u ⟨pb,rfl⟩
   go_simp
   refine Ord.eff (fun u=>u=undef) (fun _ w'=>Below wr.heap.size wr w'∧wr.heap.size≤pb∧w'.heap[pb]? = some (.cells (inkA p.1) 35 (0,0))) (by decide) rfl rfl (fun w hw=>?_) (fun h=>by cases h) ?_
   ·obtain ⟨hB,hle,hpb⟩:=hw
    exact .skip (ex_store rfl (store_at (ty:=35) (n:=8) (by kernel_rfl) (cs:=inkA p.1) rfl hpb rfl (inkA_one _))) ⟨rfl,setRow_below hB hle,hle,setRow_get hpb⟩
   rintro u rfl
   go_simp
   refine Ord.still _ rfl rfl (fun w=>by go_simp; rfl) ?_
   go_simp
   rintro w ⟨k1,k2,k3⟩
   have HF:=aside (And.intro k1 (And.intro k2 k3))
   have hc2:=HP.out.bcell HC.out k1 HP.out.h2 HP.out.n2 0
   have hc29:=HP.out.fcell HC.out k1 (fill_lo HP.out.fill (item_29 x))
   clear k1 k2 k3
   go_wp2_with (go_at_fn 46)
   refine (Mul255_at w HQ.out).mono ?_
   rintro e w2 ⟨rfl,hb⟩
   have HF2:=aside (And.intro (HF.out.1.trans (hb.mono HF.out.1.size)) (keep hb HF.out.2.2))
   have HPB:=aside HF.out.2.1
   clear hb hc2 hc29
   have hpl:=aside (heap_lt HF2.out.2)
   by_cases hq0:q=0
   ·have hqb:(q == 0)=true:=by simpa using hq0
    have hb8:Try.prog.built 35 []=some (inkA ink0):=by kernel_rfl
    have hst2:=store_at (ty:=35) (n:=8) (by kernel_rfl) (cs:=inkA ink0) rfl HF2.out.2 rfl (inkA_one _)
    have HQ4':=aside (show Below wr.heap.size wr (w2.setRow pb (inkA ink0))∧(w2.setRow pb (inkA ink0)).heap[pb]? = some (.cells (inkA (bif q == 0 then ink0 else p.1)) 35 (0,0)) from ⟨setRow_below HF2.out.1 HPB.out,by rw [hqb]; exact setRow_get HF2.out.2⟩)
    revert hst2 HQ4'
    generalize w2.setRow pb (inkA ink0)=w4
    intro hst2 HQ4
    generalize inkA ink0=v0 at hst2 hb8
    go_wp2_with (first | ((with_reducible apply Go.Vm.st (ty:=35)); exact hst2) | ((with_reducible apply bd (ty:=35)); exact hb8) | with_reducible apply halt_region 7)
    clear hst2 hb8
    obtain ⟨HW1,HW2⟩:=HW.out
    have HB4:=HQ4.out.1
    have hwj:wrap64 (z - x0)=(j:Int):=HW.out.1
    refine wp_region_ord [(0,0),(1,4),(2,4),(3,0),(4,4),(5,0),(6,4),(7,4),(8,0),(9,4),(10,4),(11,0),(12,0),(13,4),(14,0),(15,4),(16,4),(17,0),(18,0),(19,4),(20,4),(21,4),(22,0),(23,1),(24,4),(25,2)] 4 (fun w=>Below w4.heap.size w4 w) (by kernel_rfl) (by kernel_rfl) (Below.refl _ _).drew ?_
    refine Ord.pure (.slice (some ⟨sb,0,none⟩) n c5) rfl rfl (fun w hw=>ex_load rfl (load_one (by kernel_rfl) (HP.out.bcell HC.out (HB4.trans (hw.mono HB4.size)) HP.out.h5 HP.out.n5 0))) ?_
    go_simp
    iterate 2 (refine Ord.still _ rfl rfl (fun w=>by go_simp; rfl) ?_; go_simp)
    refine Ord.pure (.int .i64 x0) rfl rfl (fun w hw=>ex_load rfl (load_one (by kernel_rfl) (HP.out.bcell HC.out (HB4.trans (hw.mono HB4.size)) HP.out.h3 HP.out.n3 1))) ?_
    go_simp
    refine Ord.still (.int .i64 (j:Int)) rfl rfl (fun w=>by go_simp; simp only [wrap64_eq]; exact hwj) ?_
    go_simp
    refine Ord.pure (.slice (some ⟨bb,0,none⟩) n c4) rfl rfl (fun w hw=>ex_load rfl (load_one (by kernel_rfl) (HP.out.bcell HC.out (HB4.trans (hw.mono HB4.size)) HP.out.h4 HP.out.n4 0))) ?_
    go_simp
    iterate 2 (refine Ord.still _ rfl rfl (fun w=>by go_simp; rfl) ?_; go_simp)
    refine Ord.pure (.int .i64 x0) rfl rfl (fun w hw=>ex_load rfl (load_one (by kernel_rfl) (HP.out.bcell HC.out (HB4.trans (hw.mono HB4.size)) HP.out.h3 HP.out.n3 1))) ?_
    go_simp
    refine Ord.still (.int .i64 (j:Int)) rfl rfl (fun w=>by go_simp; simp only [wrap64_eq]; exact hwj) ?_
    go_simp
    refine Ord.still (.pointer (some ⟨bb,j * 9,none⟩)) rfl rfl (fun w=>by go_simp) ?_
    go_simp
    refine Ord.pure (stV ((base.getD ss).getD j state0)) rfl rfl (fun w hw=>ex_load rfl (HP.out.under HC.out HS.out HL.out (HB4.trans (hw.mono HB4.size)) HJN.out)) ?_
    go_simp
    refine Ord.pure (inkV (bif q == 0 then ink0 else p.1)) rfl rfl (fun w hw=>ex_load rfl (load_whole (ty:=35) (n:=8) (by kernel_rfl) rfl (keep hw HQ4.out.2))) ?_
    go_simp
    refine Ord.still _ rfl rfl (fun w=>by go_simp; rfl) ?_
    go_simp
    refine Ord.pure (.pointer (some ⟨fb,0,none⟩)) rfl rfl (fun w hw=>ex_load rfl (load_one (by kernel_rfl) (HP.out.bcell HC.out (HB4.trans (hw.mono HB4.size)) HP.out.h2 HP.out.n2 0))) ?_
    go_simp
    iterate 2 (refine Ord.still _ rfl rfl (fun w=>by go_simp; rfl) ?_; go_simp)
    refine Ord.pure mx rfl rfl (fun w hw=>ex_load rfl (load_one (by kernel_rfl) (HP.out.fcell HC.out (HB4.trans (hw.mono HB4.size)) (fill_36 HP.out.fill)))) ?_
    go_simp
    refine Ord.pure (.pointer (some ⟨fb,0,none⟩)) rfl rfl (fun w hw=>ex_load rfl (load_one (by kernel_rfl) (HP.out.bcell HC.out (HB4.trans (hw.mono HB4.size)) HP.out.h2 HP.out.n2 0))) ?_
    go_simp
    iterate 3 (refine Ord.still _ rfl rfl (fun w=>by go_simp; rfl) ?_; go_simp)
    refine Ord.pure (.bool x.f5) rfl rfl (fun w hw=>ex_load rfl (load_one (by kernel_rfl) (HP.out.fcell HC.out (HB4.trans (hw.mono HB4.size)) (fill_lo HP.out.fill (item_31 x))))) ?_
    go_simp
    refine Ord.det (stV s) rfl rfl (fun w hw=>.call 47 #[stV ((base.getD ss).getD j state0),inkV (bif q == 0 then ink0 else p.1),.int .u8 q,mx,.bool x.f5] ?_ ?_) ?_
    ·have:=callable_run call47 #[stV ((base.getD ss).getD j state0),inkV (bif q == 0 then ink0 else p.1),.int .u8 q,mx,.bool x.f5] w
     go_simp
    ·obtain ⟨k,hk,hxk,hmk⟩:=HP.out.fill.mix
     have hB:=HB4.trans (hw.mono HB4.size)
     have hsv:=HSV.out
     rw [HJ.out,Int.toNat_natCast,hxk] at hsv
     refine (Paint_at w (hmk.2 w (Nat.le_trans HC.out.size hB.size) (HP.out.agree HC.out hB)) hsv).mono ?_
     rintro e w' ⟨rfl,hb⟩
     exact ⟨_,rfl,rfl,hw.trans (hb.mono hw.size)⟩
    go_simp
    refine Ord.still (.pointer (some ⟨sb,j * 9,none⟩)) rfl rfl (fun w=>by go_simp) ?_
    go_simp
    refine Ord.eff (fun u=>u=undef) (fun _ w'=>StAt w' sb (ss.set j s)∧Chg (·=sb) W w') (by decide) rfl rfl (fun w hw=>?_) (fun h=>by cases h) ?_
    ·have hB:=HB4.trans (hw.mono HB4.size)
     obtain ⟨w',e1,e2,e3⟩:=(HS.out.keep' (hB.block _ HS.out.lt)).store (i:=j) (by rw [HL.out]; exact HJN.out) s
     exact .skip (ex_store rfl e1) ⟨rfl,e2,(HC.out.trans (Chg.of hB)).trans e3⟩
    rintro u rfl w5 ⟨k1,k2⟩
    have HF:=aside (And.intro k1 k2)
    clear k1 k2
    go_wp2
    go_roundg g0
    case measure=>exact Nat.lt_succ_self _
    case rel =>
     have hnn:=HNN.out
     rw [HJ.out,Int.toNat_natCast] at hnn
     exact ⟨z+1,ss.set j s,by rw [HW2],by have:=HGK.out; omega,by have:=HLZ.out; omega,hnn,HF.out.1,by rw [List.length_set]; exact HL.out,HF.out.2⟩
   ·have hqb:(q == 0)=false:=by simpa using hq0
    have HQ4:=aside (show Below wr.heap.size wr w2∧w2.heap[pb]? = some (.cells (inkA (bif q == 0 then ink0 else p.1)) 35 (0,0)) from ⟨HF2.out.1,by rw [hqb]; exact HF2.out.2⟩)
    go_wp2_with (with_reducible apply halt_region 7)
    obtain ⟨HW1,HW2⟩:=HW.out
    have HB4:=HQ4.out.1
    have hwj:wrap64 (z - x0)=(j:Int):=HW.out.1
    refine wp_region_ord [(0,0),(1,4),(2,4),(3,0),(4,4),(5,0),(6,4),(7,4),(8,0),(9,4),(10,4),(11,0),(12,0),(13,4),(14,0),(15,4),(16,4),(17,0),(18,0),(19,4),(20,4),(21,4),(22,0),(23,1),(24,4),(25,2)] 4 (fun w=>Below w2.heap.size w2 w) (by kernel_rfl) (by kernel_rfl) (Below.refl _ _).drew ?_
    refine Ord.pure (.slice (some ⟨sb,0,none⟩) n c5) rfl rfl (fun w hw=>ex_load rfl (load_one (by kernel_rfl) (HP.out.bcell HC.out (HB4.trans (hw.mono HB4.size)) HP.out.h5 HP.out.n5 0))) ?_
    go_simp
    iterate 2 (refine Ord.still _ rfl rfl (fun w=>by go_simp; rfl) ?_; go_simp)
    refine Ord.pure (.int .i64 x0) rfl rfl (fun w hw=>ex_load rfl (load_one (by kernel_rfl) (HP.out.bcell HC.out (HB4.trans (hw.mono HB4.size)) HP.out.h3 HP.out.n3 1))) ?_
    go_simp
    refine Ord.still (.int .i64 (j:Int)) rfl rfl (fun w=>by go_simp; simp only [wrap64_eq]; exact hwj) ?_
    go_simp
    refine Ord.pure (.slice (some ⟨bb,0,none⟩) n c4) rfl rfl (fun w hw=>ex_load rfl (load_one (by kernel_rfl) (HP.out.bcell HC.out (HB4.trans (hw.mono HB4.size)) HP.out.h4 HP.out.n4 0))) ?_
    go_simp
    iterate 2 (refine Ord.still _ rfl rfl (fun w=>by go_simp; rfl) ?_; go_simp)
    refine Ord.pure (.int .i64 x0) rfl rfl (fun w hw=>ex_load rfl (load_one (by kernel_rfl) (HP.out.bcell HC.out (HB4.trans (hw.mono HB4.size)) HP.out.h3 HP.out.n3 1))) ?_
    go_simp
    refine Ord.still (.int .i64 (j:Int)) rfl rfl (fun w=>by go_simp; simp only [wrap64_eq]; exact hwj) ?_
    go_simp
    refine Ord.still (.pointer (some ⟨bb,j * 9,none⟩)) rfl rfl (fun w=>by go_simp) ?_
    go_simp
    refine Ord.pure (stV ((base.getD ss).getD j state0)) rfl rfl (fun w hw=>ex_load rfl (HP.out.under HC.out HS.out HL.out (HB4.trans (hw.mono HB4.size)) HJN.out)) ?_
    go_simp
    refine Ord.pure (inkV (bif q == 0 then ink0 else p.1)) rfl rfl (fun w hw=>ex_load rfl (load_whole (ty:=35) (n:=8) (by kernel_rfl) rfl (keep hw HQ4.out.2))) ?_
    go_simp
    refine Ord.still _ rfl rfl (fun w=>by go_simp; rfl) ?_
    go_simp
    refine Ord.pure (.pointer (some ⟨fb,0,none⟩)) rfl rfl (fun w hw=>ex_load rfl (load_one (by kernel_rfl) (HP.out.bcell HC.out (HB4.trans (hw.mono HB4.size)) HP.out.h2 HP.out.n2 0))) ?_
    go_simp
    iterate 2 (refine Ord.still _ rfl rfl (fun w=>by go_simp; rfl) ?_; go_simp)
    refine Ord.pure mx rfl rfl (fun w hw=>ex_load rfl (load_one (by kernel_rfl) (HP.out.fcell HC.out (HB4.trans (hw.mono HB4.size)) (fill_36 HP.out.fill)))) ?_
    go_simp
    refine Ord.pure (.pointer (some ⟨fb,0,none⟩)) rfl rfl (fun w hw=>ex_load rfl (load_one (by kernel_rfl) (HP.out.bcell HC.out (HB4.trans (hw.mono HB4.size)) HP.out.h2 HP.out.n2 0))) ?_
    go_simp
    iterate 3 (refine Ord.still _ rfl rfl (fun w=>by go_simp; rfl) ?_; go_simp)
    refine Ord.pure (.bool x.f5) rfl rfl (fun w hw=>ex_load rfl (load_one (by kernel_rfl) (HP.out.fcell HC.out (HB4.trans (hw.mono HB4.size)) (fill_lo HP.out.fill (item_31 x))))) ?_
    go_simp
    refine Ord.det (stV s) rfl rfl (fun w hw=>.call 47 #[stV ((base.getD ss).getD j state0),inkV (bif q == 0 then ink0 else p.1),.int .u8 q,mx,.bool x.f5] ?_ ?_) ?_
    ·have:=callable_run call47 #[stV ((base.getD ss).getD j state0),inkV (bif q == 0 then ink0 else p.1),.int .u8 q,mx,.bool x.f5] w
     go_simp
    ·obtain ⟨k,hk,hxk,hmk⟩:=HP.out.fill.mix
     have hB:=HB4.trans (hw.mono HB4.size)
     have hsv:=HSV.out
     rw [HJ.out,Int.toNat_natCast,hxk] at hsv
     refine (Paint_at w (hmk.2 w (Nat.le_trans HC.out.size hB.size) (HP.out.agree HC.out hB)) hsv).mono ?_
     rintro e w' ⟨rfl,hb⟩
     exact ⟨_,rfl,rfl,hw.trans (hb.mono hw.size)⟩
    go_simp
    refine Ord.still (.pointer (some ⟨sb,j * 9,none⟩)) rfl rfl (fun w=>by go_simp) ?_
    go_simp
    refine Ord.eff (fun u=>u=undef) (fun _ w'=>StAt w' sb (ss.set j s)∧Chg (·=sb) W w') (by decide) rfl rfl (fun w hw=>?_) (fun h=>by cases h) ?_
    ·have hB:=HB4.trans (hw.mono HB4.size)
     obtain ⟨w',e1,e2,e3⟩:=(HS.out.keep' (hB.block _ HS.out.lt)).store (i:=j) (by rw [HL.out]; exact HJN.out) s
     exact .skip (ex_store rfl e1) ⟨rfl,e2,(HC.out.trans (Chg.of hB)).trans e3⟩
    rintro u rfl w5 ⟨k1,k2⟩
    have HF:=aside (And.intro k1 k2)
    clear k1 k2
    go_wp2
    go_roundg g0
    case measure=>exact Nat.lt_succ_self _
    case rel =>
     have hnn:=HNN.out
     rw [HJ.out,Int.toNat_natCast] at hnn
     exact ⟨z+1,ss.set j s,by rw [HW2],by have:=HGK.out; omega,by have:=HLZ.out; omega,hnn,HF.out.1,by rw [List.length_set]; exact HL.out,HF.out.2⟩
  ·have hg:(hi - z).toNat=0:=by omega
   have hN:=HN'.out
   rw [HGK.out,hg] at hN
   unfold fillN at hN
   cases hN
   go_wp2
   go_end0
   exact ⟨rfl,HC.out,HS.out,HL.out⟩
end Go.Vm.TopG
namespace Go.Vm.TopG
open Go.Proofs
open Go.RowKit
theorem call45:Callable Try.prog 45:=⟨_,Try.func45,by kernel_rfl,by kernel_rfl⟩
theorem P45.next {W w:World} {F:Nat} {D:Nat→Prop} {y x0 x1:Int} {n fb:Nat} {x:S_Item} {xs:Array Value} {a:Int} {g mx:Value} {b2 b3 b4 b5 sb bb c4 c5:Nat} {base:Option (List S_State)} (h:P45 W F D y x0 x1 n fb x xs a g mx b2 b3 b4 b5 sb bb c4 c5 base) (hC:Chg (·=sb) W w):P45 w F D y x0 x1 n fb x xs a g mx b2 b3 b4 b5 sb bb c4 c5 base:=by
 have hA:Agree D W w:=hC.agree h.dlt h.nD
 have hk:∀ b,b < W.heap.size→b≠sb→w.heap[b]? = W.heap[b]? := fun b hb hne=>hC.block b hb hne
 refine ⟨fun b hb=>Nat.lt_of_lt_of_le (h.dlt b hb) hC.size,h.strip,h.dfb,h.fill.mono hC.size hA (fun _ h=>h) (fun b hb=>Nat.lt_of_lt_of_le (h.dlt b hb) hC.size) h.dfb,(hk _ (heap_lt h.h2) h.n2).trans h.h2,(hk _ (heap_lt h.h3) h.n3).trans h.h3,(hk _ (heap_lt h.h4) h.n4).trans h.h4,(hk _ (heap_lt h.h5) h.n5).trans h.h5,h.n2,h.n3,h.n4,h.n5,h.nD,?_,Nat.lt_of_lt_of_le h.slt hC.size⟩
 have hb:=h.base
 cases base with
 | none=>exact hb
 | some bs=>exact ⟨hb.1,hb.2.1,hb.2.2.keep' (hk _ hb.2.2.lt hb.1)⟩
/-- The runs of a fill,painted. -/
theorem paint_runs (W:World) {F:Nat} {D:Nat→Prop} {y x0 x1:Int} {n fb:Nat} {x:S_Item} {xs:Array Value} {a:Int} {g mx:Value} {b2 b3 b4 b5 sb bb c4 c5:Nat} {base:Option (List S_State)} (hp:P45 W F D y x0 x1 n fb x xs a g mx b2 b3 b4 b5 sb bb c4 c5 base)
  {u:Value} (hu:RD D W (.sl 3 (x.f1.map cS_Run)) u) (hl:x.f1.length≤1000000000) {st st':List S_State} (hst:StAt W sb st) (hn:st.length=n) (h:fillR F x y x0 base (rns x.f1 y x0 x1) st=some st') :
  Calls Try.prog 44 #[.agg (stripA y x0 x1),u,.func (.func 45) #[] #[.pointer (some ⟨b2,0,none⟩),.pointer (some ⟨b3,0,none⟩),.pointer (some ⟨b4,0,none⟩),.pointer (some ⟨b5,0,none⟩)]] W fun e W'=>e=.returned (.tuple #[])∧Chg (·=sb) W W'∧StAt W' sb st'∧st'.length=n:=by
 refine (runs_at W hp.dlt hu hl y x0 x1 call45 hp.slt hp.nD (fun rs w=>(∀ a∈rs,x0≤a.1∧a.2≤x1)∧∃ ss,StAt w sb ss∧ss.length=n∧fillR F x y x0 base rs ss=some st') ⟨fun a ha=>rns_bnd ha,st,hst,hn,h⟩ ?_ ?_).mono ?_
 ·rintro rs w w' ⟨h1,ss,h2,h3,h4⟩ hb
  exact ⟨h1,ss,h2.keep' (hb.block _ h2.lt),h3,h4⟩
 ·rintro r rs w hC ⟨g1,ss,g2,g3,g4⟩
  have ha:=g1 r (List.mem_cons_self ..)
  unfold fillR at g4
  obtain ⟨s2,e1,e2⟩:=call_ok g4
  refine (paint45_at w (hp.next hC) g2 g3 ha.1 ha.2 e1).mono ?_
  rintro e w' ⟨rfl,k1,k2,k3⟩
  exact ⟨rfl,k1,fun b hb=>g1 b (List.mem_cons_of_mem _ hb),s2,k2,k3,e2⟩
 ·rintro e w ⟨rfl,h1,_,ss,h2,h3,h4⟩
  unfold fillR at h4
  cases h4
  exact ⟨rfl,h1,h2,h3⟩
theorem nil_no (b n c:Nat) (w:World):(binOp .eql 81 (.slice (some ⟨b,0,none⟩) n c) (.slice none 0 0)).run Try.prog w=.ok (.bool false) w:=by kernel_rfl
theorem info83:(Try.prog.info? 83).map (fun i=>(i.zero.isSome,i.size,i.bytes))=some (true,9,9):=by kernel_rfl
theorem StAt.src {w:World} {b c n:Nat} {st:List S_State} (hst:StAt w b st) (hn:st.length=n):Src Try.prog w 81 9 (.slice (some ⟨b,0,none⟩) n c) n (stL st):=by
 obtain ⟨r,E,h⟩:=hst
 refine ⟨.inl ⟨83,by kernel_rfl⟩,rfl,fun w' hw=>?_,by rw [stL_len,hn],fun v hv=>?_⟩
 ·have hl:=run_loadCells_list (P:=Try.prog) w' ⟨b,0,none⟩ (stL st) fun j v hv=>by
   have:=(List.getElem?_eq_some_iff.1 hv).1
   rw [show (Addr.add ⟨b,0,none⟩ j)=⟨b,j,none⟩ by cases j <;> simp [Addr.add],cell_of (hw ▸ h),List.getElem?_toArray,List.getElem?_append_left this]
   exact hv
  rw [stL_len,hn] at hl
  simp [Builtin.firstCells,hl]
 ·obtain ⟨s,_,hs⟩:=List.mem_flatMap.1 hv
  exact (Array.all_eq_true_iff_forall_mem.1 (stA_one s)) v (by simpa using hs)
set_option maxRecDepth 100000 in
theorem clone_append {w:World} {b c n q:Nat} {st:List S_State} (hst:StAt w b st) (hn:st.length=n) (h0:0 < n) (h1:n≤1000000000) :
  ∃ c' w',(Builtin.append_ #[81,81] 81 #[.slice (some ⟨q,0,none⟩) 0 0,.slice (some ⟨b,0,none⟩) n c]).run Try.prog w=.ok (.slice (some ⟨w.heap.size,0,none⟩) n c') w'∧Below w.heap.size w w'∧StAt w' w.heap.size st:=by
 obtain ⟨i,hq,h2⟩:=Option.map_eq_some_iff.1 info83
 simp only [Prod.mk.injEq] at h2
 obtain ⟨hz,hs,hb⟩:=h2
 obtain ⟨z,hz⟩:=Option.isSome_iff_exists.1 hz
 have:=run_append_grow' (P:=Try.prog) (w:=w) 81 81 81 83 i z (by kernel_rfl) hq hz (some ⟨q,0,none⟩) 0 0 [] (fun w' _=>by
  have hl:=run_loadCells_list (P:=Try.prog) w' ⟨q,0,none⟩ [] fun j v hv=>by simp at hv
  simpa [Builtin.firstCells] using hl) (x:=.slice (some ⟨b,0,none⟩) n c) (m:=n) (news:=stL st) (by rw [hs]; exact hst.src hn) (by omega) (by omega) (by rw [hb]; omega)
 simp only [Nat.zero_add] at this
 refine ⟨_,_,this,(Below.refl _ _).drew.alloc (Nat.le_refl _) _,?_⟩
 refine ⟨(Builtin.zeroCells z.cells (grownCap w n 0 83 - n)).toList,83,?_⟩
 have h:=heap_alloc_new w.drew (.cells (([]:List Value).toArray++(stL st).toArray++Builtin.zeroCells z.cells (grownCap w n 0 83 - n)) 83 (0,0))
 refine h.trans ?_
 congr 2
 apply Array.ext'
 simp
set_option maxRecDepth 100000 in
set_option maxHeartbeats 4000000 in
theorem Clone43_at (W:World) {b c n:Nat} {st:List S_State} (hst:StAt W b st) (hn:st.length=n) (h0:0 < n) (h1:n≤1000000000) :
  Calls Try.prog 43 #[.slice (some ⟨b,0,none⟩) n c] W fun e W'=>∃ b' c',e=.returned (.slice (some ⟨b',0,none⟩) n c')∧Below W.heap.size W W'∧W.heap.size≤b'∧StAt W' b' st:=by
 go_enter Try.func43,Try.ntmps43
 have hnn:=nil_no b n c
 go_wp2_with (with_reducible refine hlt 7 ?_)
 unfold Halt
 have hb:=(Below.refl W.heap.size W).alloc (Nat.le_refl _) (.cells #[] 83 (0,0))
 have hs2:=hst.keep' (hb.block b hst.lt)
 revert hb hs2
 generalize hW1:W.alloc (.cells #[] 83 (0,0))=W1
 intro hb hs2
 obtain ⟨c',w2,e1,e2,e3⟩:=clone_append (q:=W.heap.size) (c:=c) hs2 hn h0 h1
 have HF:=aside (And.intro (hb.trans (e2.mono hb.size)) (And.intro hb.size e3))
 clear hW1 hb hs2 e2 e3 hst hn h0 h1
 go_wp2_with ((with_reducible apply ap (t:=81)); exact e1)
 go_ret
 exact ⟨_,_,rfl,HF.out⟩
end Go.Vm.TopG
