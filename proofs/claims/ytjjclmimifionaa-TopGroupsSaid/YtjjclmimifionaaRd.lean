/-
  The members of a group,painted,by hand.
-/
import Derived.Test.YtjjclmimifionaaRc
namespace Go.Vm.TopG
open Go.Proofs
open Go.RowKit
/-- A group painted over what lies under it. -/
def NestP (F:Nat) (y x0 x1:Int) (n:Nat) (a:Mb):Prop:=∀ (x:S_Item) (l:List Mb),a=.grp x l→∀ (W:World) (D:Nat→Prop),(∀ b,D b→b < W.heap.size)→∀ (sb bb c4 c5 b:Nat) (base:Option (List S_State)) (st st':List S_State),StAt W sb st→st.length=n→¬ D sb→BaseAt W sb bb n base →
 MbAt F D W (.grp x l) (.iface 57 (ptr b))→Mb.ok (.grp x l)→Mb.paint F y x0 x1 (.grp x l) base st=some st' →
 Calls Try.prog 48 #[.agg (stripA y x0 x1),ptr b,.slice (some ⟨bb,0,none⟩) n c4,.slice (some ⟨sb,0,none⟩) n c5] W fun e W'=>e=.returned (.tuple #[])∧Chg (·=sb) W W'∧StAt W' sb st'∧st'.length=n
/-- The members of a group. -/
def PaintP (F:Nat) (y x0 x1:Int) (n:Nat) (l:List Mb):Prop:=∀ (W:World) (D:Nat→Prop),(∀ b,D b→b < W.heap.size)→∀ (sb c5 b:Nat) (x:S_Item) (xs:Array Value) (a:Int) (mx ms:Value) (vs:List Value) (st st':List S_State),StAt W sb st→st.length=n→¬ D sb→D b →
 HeadAt F D W b x xs a mx ms→SlAt D W ms vs→MbsAt F D W l vs→l.length≤1000000→Mb.oks l→Mb.paints F y x0 x1 l (bif x.f7 then some st else none) st=some st' →
 Calls Try.prog 32 #[.agg (stripA y x0 x1),ptr b,.slice (some ⟨sb,0,none⟩) n c5] W fun e W'=>e=.returned (.tuple #[])∧Chg (·=sb) W W'∧StAt W' sb st'∧st'.length=n
set_option maxRecDepth 100000 in
set_option maxHeartbeats 4000000 in
theorem paint32_at {F:Nat} {y x0 x1:Int} {n:Nat} (hs:StripOk x0 x1 n) {l:List Mb} (hall:∀ a∈l,NestP F y x0 x1 n a):PaintP F y x0 x1 n l:=by
 intro W D hD sb c5 b x xs a mx ms vs st st' hst hn hsD hDb hh hsl hms hlen hok h
 obtain ⟨q,c,rfl,hget⟩:∃ (q:Option Addr) (c:Nat),ms=.slice q l.length c∧_:=by rw [← hms.len]; exact hsl.get
 have hmA:(xs++#[.int .i64 a,mx,.slice q l.length c])[36]? = some (.slice q l.length c):=by
  rw [Array.getElem?_append_right (by have:=hh.size; omega),hh.size]
  rfl
 have h33:(xs++#[.int .i64 a,mx,.slice q l.length c])[33]? = some (.bool x.f7):=by
  rw [Array.getElem?_append_left (by have:=hh.size; omega)]
  exact item_v hh.rd (item_33 x)
 obtain ⟨e1,e2,e3,e4⟩:=three_at W (.cells (stripA y x0 x1) 86 (0,0)) (.cells #[.slice (some ⟨sb,0,none⟩) n c5] 81 (0,0)) (.cells #[.slice (some ⟨sb,0,none⟩) n c5] 81 (0,0))
 unfold ptr
 have H1:=aside e1
 have H2:=aside e2
 have H3:=aside e3
 have H4:=aside e4
 have HA:=aside (show _∧_∧_∧_∧_∧_ from ⟨hD,hst,hn,hsD,hok,hs⟩)
 have HM:=aside (And.intro hms hget)
 have HC:=aside ((cell_of hh.blk 36).trans hmA)
 have HK:=aside ((cell_of hh.blk 33).trans h33)
 have HB:=aside (hD b hDb)
 have HL:=aside (And.intro hall hlen)
 have HH:=aside h
 clear e1 e2 e3 e4 hh hmA hsl hget hms hD hst hn hsD hok hDb hall hlen h33 h hs
 go_enter Try.func32,Try.ntmps32
 have hc33:=(show (((W.alloc (.cells (stripA y x0 x1) 86 (0,0))).alloc (.cells #[.slice (some ⟨sb,0,none⟩) n c5] 81 (0,0))).alloc (.cells #[.slice (some ⟨sb,0,none⟩) n c5] 81 (0,0))).cell? ⟨b,33,none⟩=some (.bool x.f7) by rw [← HK.out]; have:=H4.out.block b HB.out; simp only [World.cell?,this])
 cases hf7:x.f7 with
 | false =>
  rw [hf7] at hc33
  have HP:=HH
  rw [hf7,cond_false] at HP
  have HW1':=aside (show Below W.heap.size W _∧_∧_∧_∧BaseAt (((W.alloc (.cells (stripA y x0 x1) 86 (0,0))).alloc (.cells #[.slice (some ⟨sb,0,none⟩) n c5] 81 (0,0))).alloc (.cells #[.slice (some ⟨sb,0,none⟩) n c5] 81 (0,0))) sb sb n none from And.intro H4.out (And.intro H1.out (And.intro H2.out (And.intro H3.out rfl))))
  have hc36:=(show (((W.alloc (.cells (stripA y x0 x1) 86 (0,0))).alloc (.cells #[.slice (some ⟨sb,0,none⟩) n c5] 81 (0,0))).alloc (.cells #[.slice (some ⟨sb,0,none⟩) n c5] 81 (0,0))).cell? ⟨b,36,none⟩=some (.slice q l.length c) by rw [← HC.out]; have:=H4.out.block b HB.out; simp only [World.cell?,this])
  go_wp2
  clear hc33 hc36 H1 H2 H3 H4
  revert HW1' HP
  generalize ((W.alloc (.cells (stripA y x0 x1) 86 (0,0))).alloc (.cells #[.slice (some ⟨sb,0,none⟩) n c5] 81 (0,0))).alloc (.cells #[.slice (some ⟨sb,0,none⟩) n c5] 81 (0,0))=W1
  generalize hbs:(none:Option (List S_State))=base
  intro HP HW1
  go_loopg [24] l.length (fun m v24 wx=>∃ (i:Nat) (ss:List S_State),v24=.int .i64 (i:Int)∧l.length≤m+i∧Mb.paints F y x0 x1 (l.drop i) base ss=some st'∧StAt wx sb ss∧ss.length=n∧Chg (·=sb) W1 wx)
  case atStart=>exact ⟨0,st,rfl,Nat.le_add_right _ _,HP.out,HA.out.2.1.keep' (HW1.out.1.block sb HA.out.2.1.lt),HA.out.2.2.1,Chg.refl _ _⟩
  case round =>
   obtain ⟨i,ss,rfl,hgi,hmk,hS,hL,hC⟩:=hrel
   have HGI:=aside hgi
   have HMK:=aside hmk
   have HS:=aside hS
   have HLN:=aside hL
   have HCG:=aside hC
   clear hgi hmk hS hL hC
   by_cases hil:i < l.length
   ·have hil':(i:Int) < (l.length:Int):=Int.ofNat_lt.2 hil
    have hi0:(0:Int)≤(i:Int):=Int.natCast_nonneg _
    have hx:=List.getElem?_eq_getElem hil
    obtain ⟨v,hv,hmv⟩:=HM.out.1.get i _ hx
    obtain ⟨r,rfl,hDr,hcell⟩:=HM.out.2 i v hv
    have hlt0:∀ b,D b→b < W1.heap.size:=fun b hb=>Nat.lt_of_lt_of_le (HA.out.1 b hb) HW1.out.1.size
    have hlt:∀ b,D b→b < wr.heap.size:=fun b hb=>Nat.lt_of_lt_of_le (hlt0 b hb) HCG.out.size
    have hagr:Agree D W wr:=fun b hb=>(HCG.out.block b (hlt0 b hb) fun e=>HA.out.2.2.2.1 (e ▸ hb)).trans (HW1.out.1.block b (HA.out.1 b hb))
    have hr0:=hcell wr (hagr r hDr)
    have hsW:W.heap.size≤wr.heap.size:=Nat.le_trans HW1.out.1.size HCG.out.size
    have hmw:=MbAt.mono hsW hagr (fun _ h=>h) hlt _ _ hmv
    have hslt:sb < W.heap.size:=HA.out.2.1.lt
    have hb3:=(HCG.out.block _ (heap_lt HW1.out.2.1) (fun e=>by omega)).trans HW1.out.2.1
    have hb5:=(HCG.out.block _ (heap_lt HW1.out.2.2.1) (fun e=>by omega)).trans HW1.out.2.2.1
    have hb4:=(HCG.out.block _ (heap_lt HW1.out.2.2.2.1) (fun e=>by omega)).trans HW1.out.2.2.2.1
    have hbase:BaseAt wr sb sb n base:=by
     have:=HW1.out.2.2.2.2
     cases base with
     | none=>exact this
     | some bs=>exact ⟨this.1,this.2.1,this.2.2.keep' (HCG.out.block _ this.2.2.lt this.1)⟩
    have hwk:=wrap_suc hil (Nat.le_trans HL.out.2 (by decide))
    have hmk:=HMK.out
    rw [drop_cons hx] at hmk
    have hoka:=oks_mem HA.out.2.2.2.2.1 _ (List.mem_of_getElem? hx)
    have hal:=HL.out.1 _ (List.mem_of_getElem? hx)
    revert hmk hmw hoka hal
    generalize l[i]=ai
    intro hmw hmk hoka hal
    rw [Mb.paints] at hmk
    obtain ⟨s2,hp1,hp2⟩:=call_ok hmk
    have HFA:=aside (And.intro hlt (And.intro hsW (And.intro hslt (And.intro hb3 (And.intro hb5 (And.intro hb4 hbase))))))
    have HP1:=aside hp1
    have HP2:=aside hp2
    have HOK:=aside hoka
    have HAL:=aside hal
    have HMW:=aside hmw
    have HWK:=aside hwk
    clear hlt0 hlt hagr hsW hslt hb3 hb5 hb4 hbase hwk hmk hp1 hp2 hoka hal hmv hv hx hcell hDr
    cases ai with
    | fill fx =>
     simp only [MbAt] at hmw
     obtain ⟨fb,fxs,fa,fg,fm,rfl,hDf,hf⟩:=hmw
     have hta:=ta_fill (ptr fb)
     unfold ptr at hta hr0
     have HF:=aside (And.intro hDf hf)
     clear hDf hf
     go_wp2_with (with_reducible apply halt_region 10)
     clear hta hr0
     obtain ⟨hlt,hsW,hslt,hb3,hb5,hb4,hbase⟩:=HFA.out
     obtain ⟨u,hu1,hu2⟩:=RCs.get _ 0 1 _ HF.out.2.rd (item_reg fx)
     have hu1:fxs[1]? = some u:=by simpa using hu1
     have hcu:wr.cell? ⟨fb,1,none⟩=some u:=by
      rw [cell_of HF.out.2.blk,Array.getElem?_append_left (by have:=HF.out.2.size; omega)]
      exact hu1
     have hfl:=hlt fb HF.out.1
     have hbA:=(Below.refl wr.heap.size wr).alloc (Nat.le_refl _) (.cells #[.pointer (some ⟨fb,0,none⟩)] 100 (0,0))
     have hnA:=heap_alloc_new wr (.cells #[.pointer (some ⟨fb,0,none⟩)] 100 (0,0))
     have hcA:∀ b,b < wr.heap.size→(wr.alloc (.cells #[.pointer (some ⟨fb,0,none⟩)] 100 (0,0))).heap[b]? = wr.heap[b]? := fun b hb=>hbA.block b hb
     have HBA:=aside hbA
     have HNA:=aside hnA
     have HCA:=aside hcA
     clear hbA hnA hcA
     revert HBA HNA HCA
     generalize wr.alloc (.cells #[.pointer (some ⟨fb,0,none⟩)] 100 (0,0))=wA
     intro HBA HNA HCA
     have HFX:=aside (And.intro hlt (And.intro hsW (And.intro hslt (And.intro hb3 (And.intro hb5 (And.intro hb4 (And.intro hbase (And.intro hcu (And.intro hfl hu2)))))))))
     clear hlt hsW hslt hb3 hb5 hb4 hbase hcu hfl hu1 hu2
     refine wp_region_ord [(0,0),(1,0),(2,4),(3,4),(4,4),(5,0),(6,4),(7,2)] 8 (fun w=>Below wA.heap.size wA w) (by kernel_rfl) (by kernel_rfl) (Below.refl _ _).drew ?_
     refine Ord.pure (.agg (stripA y x0 x1)) rfl rfl (fun w hw=>ex_load rfl (load_whole (ty:=86) (n:=3) (by kernel_rfl) rfl (keep hw ((HCA.out _ (heap_lt HFX.out.2.2.2.1)).trans HFX.out.2.2.2.1)))) ?_
     go_simp
     refine Ord.pure (.pointer (some ⟨fb,0,none⟩)) rfl rfl (fun w hw=>ex_load rfl (load_one (by kernel_rfl) (cell_of (keep hw HNA.out) 0))) ?_
     go_simp
     iterate 3 (refine Ord.still _ rfl rfl (fun w=>by go_simp; rfl) ?_; go_simp)
     refine Ord.pure u rfl rfl (fun w hw=>ex_load rfl (load_one (by kernel_rfl) (by
      have h1:=HFX.out.2.2.2.2.2.2.2.1
      have h2:=HFX.out.2.2.2.2.2.2.2.2.1
      have:=(hw.block fb (Nat.lt_of_lt_of_le h2 HBA.out.size)).trans (HCA.out fb h2)
      rw [← h1]
      simp only [World.cell?,this]))) ?_
     go_simp
     refine Ord.still _ rfl rfl (fun w=>by go_simp; rfl) ?_
     go_simp
     refine Ord.eff (fun u=>u=.tuple #[]) (fun _ w'=>Chg (·=sb) wr w'∧StAt w' sb s2∧s2.length=n) (by decide) rfl rfl (fun w3 hw=>.call 44 #[.agg (stripA y x0 x1),u,.func (.func 45) #[] #[.pointer (some ⟨wr.heap.size,0,none⟩),.pointer (some ⟨W.heap.size,0,none⟩),.pointer (some ⟨W.heap.size+1+1,0,none⟩),.pointer (some ⟨W.heap.size+1,0,none⟩)]] ?_ ?_) (fun h=>by cases h) ?_
     ·have:=callable_run call44 #[.agg (stripA y x0 x1),u,.func (.func 45) #[] #[.pointer (some ⟨wr.heap.size,0,none⟩),.pointer (some ⟨W.heap.size,0,none⟩),.pointer (some ⟨W.heap.size+1+1,0,none⟩),.pointer (some ⟨W.heap.size+1,0,none⟩)]] w3
      go_simp
     ·obtain ⟨hlt,hsW,hslt,hb3,hb5,hb4,hbase,hcu,hfl,hu2⟩:=HFX.out
      have hbw:Below wr.heap.size wr w3:=HBA.out.trans (hw.mono HBA.out.size)
      have hC:=Chg.of (O:=(·=sb)) hbw
      have hag:Agree D wr w3:=fun b hb=>hbw.block b (hlt b hb)
      have hlt3:∀ b,D b→b < w3.heap.size:=fun b hb=>Nat.lt_of_lt_of_le (hlt b hb) hbw.size
      have hP:P45 w3 F D y x0 x1 n fb fx fxs fa fg fm wr.heap.size W.heap.size (W.heap.size+1+1) (W.heap.size+1) sb sb c5 c5 base:=by
       refine ⟨hlt3,HA.out.2.2.2.2.2,HF.out.1,HF.out.2.mono hbw.size hag (fun _ h=>h) hlt3 HF.out.1,keep hw HNA.out,keep hbw hb3,keep hbw hb4,keep hbw hb5,by omega,by omega,by omega,by omega,HA.out.2.2.2.1,?_,Nat.lt_of_lt_of_le hslt (Nat.le_trans hsW hbw.size)⟩
       cases base with
       | none=>exact hbase
       | some bs=>exact ⟨hbase.1,hbase.2.1,hbase.2.2.keep' (hbw.block _ hbase.2.2.lt)⟩
      have hok1:=HOK.out
      unfold Mb.ok at hok1
      have hp1:=HP1.out
      rw [Mb.paint] at hp1
      refine (paint_runs w3 hP (RD.mono (fun _ h=>h) hag _ _ hu2) hok1 (HS.out.keep' (hbw.block _ HS.out.lt)) HLN.out hp1).mono ?_
      rintro e w' ⟨rfl,k1,k2,k3⟩
      exact ⟨_,rfl,rfl,hC.trans k1,k2,k3⟩
     rintro u2 rfl w' ⟨k1,k2,k3⟩
     have HE:=aside (And.intro (HCG.out.trans k1) (And.intro k2 k3))
     clear k1 k2 k3
     go_wp2
     obtain ⟨g0,rfl⟩:∃ g0,gk=g0+1:=⟨gk - 1,by have:=HGI.out; omega⟩
     go_roundg g0
     case measure=>exact Nat.lt_succ_self _
     case rel=>exact ⟨i+1,s2,by rw [HWK.out],by have:=HGI.out; omega,HP2.out,HE.out.2.1,HE.out.2.2,HE.out.1⟩
    | grp gx gl =>
     have hmw2:=hmw
     simp only [MbAt] at hmw
     obtain ⟨gb,gxs,ga,gm,gms,gvs,rfl,-⟩:=hmw
     have hta:=ta_grp (ptr gb)
     have htn:=ta_no (ptr gb)
     unfold ptr at hta htn hr0
     obtain ⟨hlt,hsW,hslt,hb3,hb5,hb4,hbase⟩:=HFA.out
     have hld:=load_whole (ty:=86) (n:=3) (by kernel_rfl) rfl hb3
     have hcellS:=cell_of hb5 0
     have hcellB:=cell_of hb4 0
     have HNE:=aside (HAL.out gx gl rfl wr D hlt sb sb c5 c5 gb base ss s2 HS.out HLN.out HA.out.2.2.2.1 hbase hmw2 HOK.out HP1.out)
     unfold ptr at HNE
     clear hlt hsW hslt hb3 hb5 hb4 hbase hmw2
     go_wp2_with (first | ((with_reducible apply ld (ty:=86)); exact hld) | go_at_fn 48)
     refine HNE.out.mono ?_
     rintro e w0 ⟨rfl,k1,k2,k3⟩
     have HE:=aside (And.intro (HCG.out.trans k1) (And.intro k2 k3))
     clear k1 k2 k3 hta htn hr0 hld hcellS hcellB
     go_wp2
     obtain ⟨g0,rfl⟩:∃ g0,gk=g0+1:=⟨gk - 1,by have:=HGI.out; omega⟩
     go_roundg g0
     case measure=>exact Nat.lt_succ_self _
     case rel=>exact ⟨i+1,s2,by rw [HWK.out],by have:=HGI.out; omega,HP2.out,HE.out.2.1,HE.out.2.2,HE.out.1⟩
   ·have hil':¬ (i:Int) < (l.length:Int):=fun h=>hil (Int.ofNat_lt.1 h)
    have hmk:=HMK.out
    rw [List.drop_eq_nil_of_le (Nat.le_of_not_lt hil),Mb.paints] at hmk
    cases hmk
    go_wp2
    go_end0
    exact ⟨rfl,(Chg.of HW1.out.1).trans HCG.out,HS.out,HLN.out⟩
 | true =>
  rw [hf7] at hc33
  have HP:=HH
  rw [hf7,cond_true] at HP
  have HCL:=aside (Clone43_at _ (c:=c5) (HA.out.2.1.keep' (H4.out.block sb HA.out.2.1.lt)) HA.out.2.2.1 HA.out.2.2.2.2.2.hn (by have:=HA.out.2.2.2.2.2.h0; have:=HA.out.2.2.2.2.2.h1; have:=HA.out.2.2.2.2.2.hx; omega))
  go_wp2_with (go_at_fn 43)
  refine HCL.out.mono ?_
  rintro e w1 ⟨bb,c4,rfl,hb,hbb,hsn⟩
  have k3:=keep hb H3.out
  have hco:=cell_of k3 0
  have hcf:=frz_of k3 0
  have hcs:=setCell_get w1 (W.heap.size+1+1) 0 (.slice (some ⟨bb,0,none⟩) n c4) k3
  have hot:∀ b,b≠W.heap.size+1+1→(w1.setCell ⟨W.heap.size+1+1,0,none⟩ (.slice (some ⟨bb,0,none⟩) n c4)).heap[b]? = w1.heap[b]? := fun b hb=>Below.heap_setCell _ _ _ _ hb
  have hz3:(((W.alloc (.cells (stripA y x0 x1) 86 (0,0))).alloc (.cells #[.slice (some ⟨sb,0,none⟩) n c5] 81 (0,0))).alloc (.cells #[.slice (some ⟨sb,0,none⟩) n c5] 81 (0,0))).heap.size=W.heap.size+1+1+1:=by rw [World.size_alloc,World.size_alloc,World.size_alloc]
  rw [hz3] at hbb
  have hbW:Below W.heap.size W (w1.setCell ⟨W.heap.size+1+1,0,none⟩ (.slice (some ⟨bb,0,none⟩) n c4)) :=
   (H4.out.trans (hb.mono H4.out.size)).trans ⟨rfl,rfl,rfl,by rw [World.size_setCell]; exact Nat.le_refl _,fun b hb=>hot b (by omega)⟩
  have hc36:(w1.setCell ⟨W.heap.size+1+1,0,none⟩ (.slice (some ⟨bb,0,none⟩) n c4)).cell? ⟨b,36,none⟩=some (.slice q l.length c):=by rw [← HC.out]; have:=hbW.block b HB.out; simp only [World.cell?,this]
  have hslt:=HA.out.2.1.lt
  have HW1':=aside (show Below W.heap.size W _∧_∧_∧_∧BaseAt (w1.setCell ⟨W.heap.size+1+1,0,none⟩ (.slice (some ⟨bb,0,none⟩) n c4)) sb bb n (some st) from And.intro hbW (And.intro ((hot _ (by omega)).trans (keep hb H1.out)) (And.intro ((hot _ (by omega)).trans (keep hb H2.out)) (And.intro hcs ⟨by omega,HA.out.2.2.1,hsn.keep' (hot _ (by omega))⟩))))
  clear hcs hot hz3 hbb hbW hslt k3 hb hsn HCL
  go_wp2
  clear hc33 hc36 hco hcf H1 H2 H3 H4
  revert HW1' HP
  generalize w1.setCell ⟨W.heap.size+1+1,0,none⟩ (.slice (some ⟨bb,0,none⟩) n c4)=W1
  generalize hbs:some st=base
  intro HP HW1
  go_loopg [24] l.length (fun m v24 wx=>∃ (i:Nat) (ss:List S_State),v24=.int .i64 (i:Int)∧l.length≤m+i∧Mb.paints F y x0 x1 (l.drop i) base ss=some st'∧StAt wx sb ss∧ss.length=n∧Chg (·=sb) W1 wx)
  case atStart=>exact ⟨0,st,rfl,Nat.le_add_right _ _,HP.out,HA.out.2.1.keep' (HW1.out.1.block sb HA.out.2.1.lt),HA.out.2.2.1,Chg.refl _ _⟩
  case round =>
   obtain ⟨i,ss,rfl,hgi,hmk,hS,hL,hC⟩:=hrel
   have HGI:=aside hgi
   have HMK:=aside hmk
   have HS:=aside hS
   have HLN:=aside hL
   have HCG:=aside hC
   clear hgi hmk hS hL hC
   by_cases hil:i < l.length
   ·have hil':(i:Int) < (l.length:Int):=Int.ofNat_lt.2 hil
    have hi0:(0:Int)≤(i:Int):=Int.natCast_nonneg _
    have hx:=List.getElem?_eq_getElem hil
    obtain ⟨v,hv,hmv⟩:=HM.out.1.get i _ hx
    obtain ⟨r,rfl,hDr,hcell⟩:=HM.out.2 i v hv
    have hlt0:∀ b,D b→b < W1.heap.size:=fun b hb=>Nat.lt_of_lt_of_le (HA.out.1 b hb) HW1.out.1.size
    have hlt:∀ b,D b→b < wr.heap.size:=fun b hb=>Nat.lt_of_lt_of_le (hlt0 b hb) HCG.out.size
    have hagr:Agree D W wr:=fun b hb=>(HCG.out.block b (hlt0 b hb) fun e=>HA.out.2.2.2.1 (e ▸ hb)).trans (HW1.out.1.block b (HA.out.1 b hb))
    have hr0:=hcell wr (hagr r hDr)
    have hsW:W.heap.size≤wr.heap.size:=Nat.le_trans HW1.out.1.size HCG.out.size
    have hmw:=MbAt.mono hsW hagr (fun _ h=>h) hlt _ _ hmv
    have hslt:sb < W.heap.size:=HA.out.2.1.lt
    have hb3:=(HCG.out.block _ (heap_lt HW1.out.2.1) (fun e=>by omega)).trans HW1.out.2.1
    have hb5:=(HCG.out.block _ (heap_lt HW1.out.2.2.1) (fun e=>by omega)).trans HW1.out.2.2.1
    have hb4:=(HCG.out.block _ (heap_lt HW1.out.2.2.2.1) (fun e=>by omega)).trans HW1.out.2.2.2.1
    have hbase:BaseAt wr sb bb n base:=by
     have:=HW1.out.2.2.2.2
     cases base with
     | none=>exact this
     | some bs=>exact ⟨this.1,this.2.1,this.2.2.keep' (HCG.out.block _ this.2.2.lt this.1)⟩
    have hwk:=wrap_suc hil (Nat.le_trans HL.out.2 (by decide))
    have hmk:=HMK.out
    rw [drop_cons hx] at hmk
    have hoka:=oks_mem HA.out.2.2.2.2.1 _ (List.mem_of_getElem? hx)
    have hal:=HL.out.1 _ (List.mem_of_getElem? hx)
    revert hmk hmw hoka hal
    generalize l[i]=ai
    intro hmw hmk hoka hal
    rw [Mb.paints] at hmk
    obtain ⟨s2,hp1,hp2⟩:=call_ok hmk
    have HFA:=aside (And.intro hlt (And.intro hsW (And.intro hslt (And.intro hb3 (And.intro hb5 (And.intro hb4 hbase))))))
    have HP1:=aside hp1
    have HP2:=aside hp2
    have HOK:=aside hoka
    have HAL:=aside hal
    have HMW:=aside hmw
    have HWK:=aside hwk
    clear hlt0 hlt hagr hsW hslt hb3 hb5 hb4 hbase hwk hmk hp1 hp2 hoka hal hmv hv hx hcell hDr
    cases ai with
    | fill fx =>
     simp only [MbAt] at hmw
     obtain ⟨fb,fxs,fa,fg,fm,rfl,hDf,hf⟩:=hmw
     have hta:=ta_fill (ptr fb)
     unfold ptr at hta hr0
     have HF:=aside (And.intro hDf hf)
     clear hDf hf
     go_wp2_with (with_reducible apply halt_region 10)
     clear hta hr0
     obtain ⟨hlt,hsW,hslt,hb3,hb5,hb4,hbase⟩:=HFA.out
     obtain ⟨u,hu1,hu2⟩:=RCs.get _ 0 1 _ HF.out.2.rd (item_reg fx)
     have hu1:fxs[1]? = some u:=by simpa using hu1
     have hcu:wr.cell? ⟨fb,1,none⟩=some u:=by
      rw [cell_of HF.out.2.blk,Array.getElem?_append_left (by have:=HF.out.2.size; omega)]
      exact hu1
     have hfl:=hlt fb HF.out.1
     have hbA:=(Below.refl wr.heap.size wr).alloc (Nat.le_refl _) (.cells #[.pointer (some ⟨fb,0,none⟩)] 100 (0,0))
     have hnA:=heap_alloc_new wr (.cells #[.pointer (some ⟨fb,0,none⟩)] 100 (0,0))
     have hcA:∀ b,b < wr.heap.size→(wr.alloc (.cells #[.pointer (some ⟨fb,0,none⟩)] 100 (0,0))).heap[b]? = wr.heap[b]? := fun b hb=>hbA.block b hb
     have HBA:=aside hbA
     have HNA:=aside hnA
     have HCA:=aside hcA
     clear hbA hnA hcA
     revert HBA HNA HCA
     generalize wr.alloc (.cells #[.pointer (some ⟨fb,0,none⟩)] 100 (0,0))=wA
     intro HBA HNA HCA
     have HFX:=aside (And.intro hlt (And.intro hsW (And.intro hslt (And.intro hb3 (And.intro hb5 (And.intro hb4 (And.intro hbase (And.intro hcu (And.intro hfl hu2)))))))))
     clear hlt hsW hslt hb3 hb5 hb4 hbase hcu hfl hu1 hu2
     refine wp_region_ord [(0,0),(1,0),(2,4),(3,4),(4,4),(5,0),(6,4),(7,2)] 8 (fun w=>Below wA.heap.size wA w) (by kernel_rfl) (by kernel_rfl) (Below.refl _ _).drew ?_
     refine Ord.pure (.agg (stripA y x0 x1)) rfl rfl (fun w hw=>ex_load rfl (load_whole (ty:=86) (n:=3) (by kernel_rfl) rfl (keep hw ((HCA.out _ (heap_lt HFX.out.2.2.2.1)).trans HFX.out.2.2.2.1)))) ?_
     go_simp
     refine Ord.pure (.pointer (some ⟨fb,0,none⟩)) rfl rfl (fun w hw=>ex_load rfl (load_one (by kernel_rfl) (cell_of (keep hw HNA.out) 0))) ?_
     go_simp
     iterate 3 (refine Ord.still _ rfl rfl (fun w=>by go_simp; rfl) ?_; go_simp)
     refine Ord.pure u rfl rfl (fun w hw=>ex_load rfl (load_one (by kernel_rfl) (by
      have h1:=HFX.out.2.2.2.2.2.2.2.1
      have h2:=HFX.out.2.2.2.2.2.2.2.2.1
      have:=(hw.block fb (Nat.lt_of_lt_of_le h2 HBA.out.size)).trans (HCA.out fb h2)
      rw [← h1]
      simp only [World.cell?,this]))) ?_
     go_simp
     refine Ord.still _ rfl rfl (fun w=>by go_simp; rfl) ?_
     go_simp
     refine Ord.eff (fun u=>u=.tuple #[]) (fun _ w'=>Chg (·=sb) wr w'∧StAt w' sb s2∧s2.length=n) (by decide) rfl rfl (fun w3 hw=>.call 44 #[.agg (stripA y x0 x1),u,.func (.func 45) #[] #[.pointer (some ⟨wr.heap.size,0,none⟩),.pointer (some ⟨W.heap.size,0,none⟩),.pointer (some ⟨W.heap.size+1+1,0,none⟩),.pointer (some ⟨W.heap.size+1,0,none⟩)]] ?_ ?_) (fun h=>by cases h) ?_
     ·have:=callable_run call44 #[.agg (stripA y x0 x1),u,.func (.func 45) #[] #[.pointer (some ⟨wr.heap.size,0,none⟩),.pointer (some ⟨W.heap.size,0,none⟩),.pointer (some ⟨W.heap.size+1+1,0,none⟩),.pointer (some ⟨W.heap.size+1,0,none⟩)]] w3
      go_simp
     ·obtain ⟨hlt,hsW,hslt,hb3,hb5,hb4,hbase,hcu,hfl,hu2⟩:=HFX.out
      have hbw:Below wr.heap.size wr w3:=HBA.out.trans (hw.mono HBA.out.size)
      have hC:=Chg.of (O:=(·=sb)) hbw
      have hag:Agree D wr w3:=fun b hb=>hbw.block b (hlt b hb)
      have hlt3:∀ b,D b→b < w3.heap.size:=fun b hb=>Nat.lt_of_lt_of_le (hlt b hb) hbw.size
      have hP:P45 w3 F D y x0 x1 n fb fx fxs fa fg fm wr.heap.size W.heap.size (W.heap.size+1+1) (W.heap.size+1) sb bb c4 c5 base:=by
       refine ⟨hlt3,HA.out.2.2.2.2.2,HF.out.1,HF.out.2.mono hbw.size hag (fun _ h=>h) hlt3 HF.out.1,keep hw HNA.out,keep hbw hb3,keep hbw hb4,keep hbw hb5,by omega,by omega,by omega,by omega,HA.out.2.2.2.1,?_,Nat.lt_of_lt_of_le hslt (Nat.le_trans hsW hbw.size)⟩
       cases base with
       | none=>exact hbase
       | some bs=>exact ⟨hbase.1,hbase.2.1,hbase.2.2.keep' (hbw.block _ hbase.2.2.lt)⟩
      have hok1:=HOK.out
      unfold Mb.ok at hok1
      have hp1:=HP1.out
      rw [Mb.paint] at hp1
      refine (paint_runs w3 hP (RD.mono (fun _ h=>h) hag _ _ hu2) hok1 (HS.out.keep' (hbw.block _ HS.out.lt)) HLN.out hp1).mono ?_
      rintro e w' ⟨rfl,k1,k2,k3⟩
      exact ⟨_,rfl,rfl,hC.trans k1,k2,k3⟩
     rintro u2 rfl w' ⟨k1,k2,k3⟩
     have HE:=aside (And.intro (HCG.out.trans k1) (And.intro k2 k3))
     clear k1 k2 k3
     go_wp2
     obtain ⟨g0,rfl⟩:∃ g0,gk=g0+1:=⟨gk - 1,by have:=HGI.out; omega⟩
     go_roundg g0
     case measure=>exact Nat.lt_succ_self _
     case rel=>exact ⟨i+1,s2,by rw [HWK.out],by have:=HGI.out; omega,HP2.out,HE.out.2.1,HE.out.2.2,HE.out.1⟩
    | grp gx gl =>
     have hmw2:=hmw
     simp only [MbAt] at hmw
     obtain ⟨gb,gxs,ga,gm,gms,gvs,rfl,-⟩:=hmw
     have hta:=ta_grp (ptr gb)
     have htn:=ta_no (ptr gb)
     unfold ptr at hta htn hr0
     obtain ⟨hlt,hsW,hslt,hb3,hb5,hb4,hbase⟩:=HFA.out
     have hld:=load_whole (ty:=86) (n:=3) (by kernel_rfl) rfl hb3
     have hcellS:=cell_of hb5 0
     have hcellB:=cell_of hb4 0
     have HNE:=aside (HAL.out gx gl rfl wr D hlt sb bb c4 c5 gb base ss s2 HS.out HLN.out HA.out.2.2.2.1 hbase hmw2 HOK.out HP1.out)
     unfold ptr at HNE
     clear hlt hsW hslt hb3 hb5 hb4 hbase hmw2
     go_wp2_with (first | ((with_reducible apply ld (ty:=86)); exact hld) | go_at_fn 48)
     refine HNE.out.mono ?_
     rintro e w0 ⟨rfl,k1,k2,k3⟩
     have HE:=aside (And.intro (HCG.out.trans k1) (And.intro k2 k3))
     clear k1 k2 k3 hta htn hr0 hld hcellS hcellB
     go_wp2
     obtain ⟨g0,rfl⟩:∃ g0,gk=g0+1:=⟨gk - 1,by have:=HGI.out; omega⟩
     go_roundg g0
     case measure=>exact Nat.lt_succ_self _
     case rel=>exact ⟨i+1,s2,by rw [HWK.out],by have:=HGI.out; omega,HP2.out,HE.out.2.1,HE.out.2.2,HE.out.1⟩
   ·have hil':¬ (i:Int) < (l.length:Int):=fun h=>hil (Int.ofNat_lt.1 h)
    have hmk:=HMK.out
    rw [List.drop_eq_nil_of_le (Nat.le_of_not_lt hil),Mb.paints] at hmk
    cases hmk
    go_wp2
    go_end0
    exact ⟨rfl,(Chg.of HW1.out.1).trans HCG.out,HS.out,HLN.out⟩
end Go.Vm.TopG
namespace Go.Vm.TopG
open Go.Proofs
open Go.RowKit
theorem info4:(Try.prog.info? 4).map (fun i=>(i.zero,i.size,i.bytes))=some (some (.bool false),1,1):=by kernel_rfl
theorem info83':(Try.prog.info? 83).map (fun i=>(i.zero,i.size,i.bytes))=some (some (stV state0),9,9):=by kernel_rfl
set_option maxRecDepth 100000 in
theorem mk_bools {n:Nat} (hn:n≤1000000000) (w:World):(Instr.makeSlice 131 (.int .i64 (n:Int)) (.int .i64 (n:Int))).run Try.prog w=.ok (.slice (some ⟨w.heap.size,0,none⟩) n n) (w.alloc (.cells (mkA (List.replicate n false)) 4 (0,0))):=by
 obtain ⟨i,hq,h2⟩:=Option.map_eq_some_iff.1 info4
 simp only [Prod.mk.injEq] at h2
 obtain ⟨hz,hs,hb⟩:=h2
 have:=run_make (P:=Try.prog) w 131 4 i (.bool false) (by kernel_rfl) hq hz .i64 .i64 (n:Int) (n:Int) (by omega) (Int.le_refl _) (by rw [hb]; omega) (by omega)
 rw [this,Int.toNat_natCast,hs]
 congr 4
 apply Array.ext
 ·simp [size_madeCells,mkA]
 ·intro j h1 h2
  have:j % 1=0:=Nat.mod_one j
  simp [madeCells,mkA,Value.cells,this]
set_option maxRecDepth 100000 in
theorem mk_states {n:Nat} (hn:n≤1000000000) (w:World):(Instr.makeSlice 81 (.int .i64 (n:Int)) (.int .i64 (n:Int))).run Try.prog w=.ok (.slice (some ⟨w.heap.size,0,none⟩) n n) (w.alloc (.cells (stL (List.replicate n state0)).toArray 83 (0,0))):=by
 obtain ⟨i,hq,h2⟩:=Option.map_eq_some_iff.1 info83'
 simp only [Prod.mk.injEq] at h2
 obtain ⟨hz,hs,hb⟩:=h2
 have:=run_make (P:=Try.prog) w 81 83 i (stV state0) (by kernel_rfl) hq hz .i64 .i64 (n:Int) (n:Int) (by omega) (Int.le_refl _) (by rw [hb]; omega) (by omega)
 rw [this,Int.toNat_natCast,hs]
 congr 4
 apply Array.ext
 ·simp [size_madeCells,stL_len]
 ·intro j h1 h2
  have hj:j < n * 9:=by simpa [size_madeCells] using h1
  have hg:=stL_get (st:=List.replicate n state0) (i:=j / 9) (s:=state0) (by rw [List.getElem?_replicate,if_pos (by omega)]) (j:=j % 9) (Nat.mod_lt _ (by decide))
  rw [Nat.div_add_mod' j 9] at hg
  have h3:(stL (List.replicate n state0)).toArray[j]? = (stA state0)[j % 9]? := by rw [List.getElem?_toArray]; exact hg
  have h4:(madeCells (stV state0).cells (n * 9))[j]? = (stA state0)[j % 9]? := by
   have h9:j % 9 < (stA state0).size:=Nat.mod_lt _ (by decide)
   have e9:(stA state0).size=9:=rfl
   simp only [madeCells,stV,Value.cells,e9,Array.getElem?_map,Array.getElem?_range,hj,if_pos,Option.map_some]
   rw [Array.getElem?_eq_getElem h9,getElem!_pos (stA state0) (j % 9) h9]
  rw [Array.getElem?_eq_getElem h2] at h3
  rw [Array.getElem?_eq_getElem h1] at h4
  exact Option.some.inj (h4.trans h3.symm)
set_option maxRecDepth 100000 in
theorem copy_states {w:World} {ib bb n c:Nat} {zs bs:List S_State} (hi:w.heap[ib]? = some (.cells (stL zs).toArray 83 (0,0))) (hz:zs.length=n) (hb:StAt w bb bs) (hn:bs.length=n) (ty:TypeId):∃ v w',(Builtin.copy_ #[81,81] ty #[.slice (some ⟨ib,0,none⟩) n n,.slice (some ⟨bb,0,none⟩) n c]).run Try.prog w=.ok v w'∧StAt w' ib bs∧Chg (·=ib) w w':=by
 obtain ⟨i,hq,h2⟩:=Option.map_eq_some_iff.1 info83
 simp only [Prod.mk.injEq] at h2
 obtain ⟨_,hs,_⟩:=h2
 have hsrc:=hb.src (c:=c) hn
 have hf:=hsrc.first w rfl
 have hst:=run_storeCells_fz (P:=Try.prog) ib 0 83 (0,0) (stL bs) 0 _ w hi (fun k _=>by simp) (by simp [stL_len,hz,hn]) hsrc.one
 have hu:Try.prog.underlying 81=some (.slice 83):=by kernel_rfl
 have hm:Nat.min n n=n:=Nat.min_self n
 refine ⟨goInt n,w.setRow ib (stL bs++List.drop (stL bs).length (stL zs)).toArray,by simp [Builtin.copy_,run_underlying hu,Builtin.lenOf,sizeOf,typeInfo,hq,hs,hf,hst,hm],?_,?_⟩
 ·exact ⟨_,83,setRow_get hi⟩
 ·exact ⟨rfl,rfl,rfl,by rw [size_setRow]; exact Nat.le_refl _,fun k _ hk=>setRow_other hk⟩
theorem ex_copy {P:Program} {o:Oper} {a:Act} {w w':World} {s x:Operand} {t:TypeId} {v:Value} (ho:o.op=.call { callee:=.builtin .copy,args:=#[s,x],argTypes:=#[t,t] }) (h:(Builtin.copy_ #[t,t] o.type #[a.eval s,a.eval x]).run P w=.ok v w'):(execOp a.eval o).run P w=.ok (.value v) w':=by
 obtain ⟨dst,op,type,pos,after,guard⟩:=o
 cases ho
 simp only [execOp,resolve,invoke,builtin,Sem.run_bind,Sem.run_pure,Result.andThen_ok,List.map_toArray,List.map_cons,List.map_nil,h]
theorem cp {P:Program} {ops:Array Oper} {Q:Exit→Act→World→Prop} {rest:List Oper} {a:Act} {w w':World} {dst:Option Tmp} {t type:TypeId} {s x:Operand} {pos:String} {after:Array Edge} {v:Value} (h:(Builtin.copy_ #[t,t] type #[a.eval s,a.eval x]).run P w=.ok v w') (k:wpList P ops Q rest (a.put dst v) w'):wpList P ops Q (⟨dst,.call { callee:=.builtin .copy,args:=#[s,x],argTypes:=#[t,t] },type,pos,after,none⟩ :: rest) a w :=
 wpList_plain rfl fun K hK=>by
  unfold Oper.wp
  rw [ex_copy rfl h]
  exact hK _ _ k
end Go.Vm.TopG
