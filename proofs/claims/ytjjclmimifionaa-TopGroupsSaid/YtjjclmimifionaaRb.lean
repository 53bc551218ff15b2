/-
  Which cells of a strip a member covers,by hand.
-/
import Derived.Test.YtjjclmimifionaaRa
import Derived.Test.YtjjclmimifionaaVmD
namespace Go.Vm.TopG
open Go.Proofs
open Go.RowKit
def mkA (m:List Bool):Array Value:=(m.map .bool).toArray
def MkAt (w:World) (b:Nat) (m:List Bool):Prop:=w.heap[b]? = some (.cells (mkA m) 4 (0,0))
theorem MkAt.cell {w:World} {b:Nat} {m:List Bool} (h:MkAt w b m) {i:Nat} (hi:i < m.length):w.cell? ⟨b,i,none⟩=some (.bool (m.getD i false)):=by
 rw [cell_of h]
 simp [mkA,hi]
theorem MkAt.put {w:World} {b:Nat} {m:List Bool} (h:MkAt w b m) (i:Nat) (v:Bool):MkAt (w.setCell ⟨b,i,none⟩ (.bool v)) b (m.set i v):=by
 have:=setCell_get w b i (.bool v) h
 unfold MkAt
 rw [this]
 simp [mkA,List.map_set]
theorem MkAt.keep' {w w':World} {b:Nat} {m:List Bool} (h:MkAt w b m) (hb:Below w.heap.size w w'):MkAt w' b m:=keep hb h
theorem mark_len (x0:Int):∀ (n:Nat) (x:Int) (m:List Bool),(markN x0 n x m).length=m.length
 | 0,_,_=>rfl
 | n+1,x,m=>by unfold markN; rw [mark_len x0 n,List.length_set]
theorem rnsL_bnd {y x0 x1:Int}:∀ (l:List S_Run) (a:Int×Int),a∈rnsL y x0 x1 l→x0≤a.1∧a.2≤x1
 | [],a,h=>by cases h
 | s :: r,a,h=>by
  unfold rnsL at h
  split at h
  ·rcases List.mem_cons.1 h with rfl | h
   ·exact ⟨by omega,by omega⟩
   ·exact rnsL_bnd r a h
  ·cases h
set_option maxRecDepth 100000 in
set_option maxHeartbeats 4000000 in
theorem mark77_at (W:World) {x0 x1 y:Int} {n b2 b3 mb:Nat} {m:List Bool} {lo hi:Int} (h2:W.heap[b2]? = some (.cells #[.slice (some ⟨mb,0,none⟩) n n] 131 (0,0))) (h3:W.heap[b3]? = some (.cells (stripA y x0 x1) 86 (0,0))) (hm:MkAt W mb m) (hn:m.length=n) (h2m:b2≠mb) (h3m:b3≠mb)
  (hlo:x0≤lo) (hhi:hi≤x1) (h0:0≤x0) (h1:x1≤1000000000) (hx:x1 - x0=n) :
  Calls Try.prog 77 #[.int .i64 lo,.int .i64 hi,.pointer (some ⟨b2,0,none⟩),.pointer (some ⟨b3,0,none⟩)] W fun e W'=>e=.returned (.tuple #[])∧Chg (·=mb) W W'∧MkAt W' mb (markN x0 (hi - lo).toNat lo m):=by
 have H2:=aside h2
 have H3:=aside h3
 have HM:=aside hm
 have HN:=aside hn
 have HN2:=aside h2m
 have HN3:=aside h3m
 have HLO:=aside hlo
 have HHI:=aside hhi
 have H0:=aside h0
 have H1:=aside h1
 have HX:=aside hx
 clear h2 h3 hm hn h2m h3m hlo hhi h0 h1 hx
 go_enter Try.func77,Try.ntmps77
 go_wp2
 generalize hM:markN x0 (hi - lo).toNat lo m=M
 have HMM:=aside hM
 clear hM
 go_loopg [6] (hi - lo).toNat (fun g v6 wx=>∃ (x:Int) (mm:List Bool),v6=.int .i64 x∧g=(hi - x).toNat∧lo≤x∧markN x0 g x mm=M∧MkAt wx mb mm∧mm.length=n∧Chg (·=mb) W wx)
 case atStart=>exact ⟨lo,m,rfl,rfl,Int.le_refl _,HMM.out,HM.out,HN.out,Chg.refl _ _⟩
 case round =>
  obtain ⟨x,mm,rfl,rfl,hxl,hmk,hM,hL,hC⟩:=hrel
  have HXL:=aside hxl
  have HMK:=aside hmk
  have HMA:=aside hM
  have HLN:=aside hL
  have HC:=aside hC
  clear hxl hmk hM hL hC HM
  by_cases hxh:x < hi
  ·obtain ⟨j,hj⟩:∃ j:Nat,x - x0=(j:Int):=⟨(x - x0).toNat,by have:=HLO.out; have:=HXL.out; omega⟩
   have hjn:j < n:=by have:=HHI.out; have:=HX.out; omega
   have hjn':(j:Int) < (n:Int):=Int.ofNat_lt.2 hjn
   have hj0:(0:Int)≤(j:Int):=Int.natCast_nonneg _
   have hw:wrap64 (x - x0)=(j:Int):=by
    rw [hj]
    exact wrap_nat (by have:=H0.out; have:=H1.out; have:=HX.out; omega)
   have hc2:=cell_of ((HC.out.block _ (heap_lt H2.out) HN2.out).trans H2.out) 0
   have hc3:=cell_of ((HC.out.block _ (heap_lt H3.out) HN3.out).trans H3.out)
   unfold stripA at hc3
   have hcj:=HMA.out.cell (i:=j) (by rw [HLN.out]; exact hjn)
   have hcf:=frz_of HMA.out j
   have hx1:wrap64 (x+1)=x+1:=by
    have:=H0.out; have:=H1.out; have:=HHI.out; have:=HXL.out; have:=HLO.out
    unfold wrap64; omega
   have HJ:=aside hj
   clear hjn hj
   go_wp2
   have HG:=aside (show (hi - x).toNat=(hi - (x+1)).toNat+1 by omega)
   rw [HG.out]
   go_roundg (hi - (x+1)).toNat
   case measure=>exact Nat.lt_succ_self _
   case rel =>
    have hmk:=HMK.out
    rw [HG.out] at hmk
    unfold markN at hmk
    rw [HJ.out,Int.toNat_natCast] at hmk
    exact ⟨x+1,_,by rw [hx1],rfl,Int.le_trans HXL.out (Int.le_of_lt (Int.lt_succ _)),hmk,HMA.out.put j true,by rw [List.length_set]; exact HLN.out,HC.out.trans ⟨rfl,rfl,rfl,by rw [World.size_setCell]; exact Nat.le_refl _,fun b _ hb=>Below.heap_setCell _ _ _ _ hb⟩⟩
  ·have hg:(hi - x).toNat=0:=by omega
   have hmk:=HMK.out
   rw [hg] at hmk
   have HMK2:=aside hmk
   clear hmk
   go_wp2
   go_end0
   refine ⟨rfl,HC.out,?_⟩
   rw [HMM.out,← HMK2.out]
   exact HMA.out
theorem call77:Callable Try.prog 77:=⟨_,Try.func77,by kernel_rfl,by kernel_rfl⟩
theorem rns_bnd {y x0 x1:Int} {l:List S_Run} {a:Int×Int} (h:a∈rns l y x0 x1):x0≤a.1∧a.2≤x1:=rnsL_bnd _ a h
theorem item_reg (x:S_Item):(cS_Item x)[1]? = some (.sl 3 (x.f1.map cS_Run)):=item_1 x
theorem markR_len (x0:Int):∀ (r:List (Int×Int)) (m:List Bool),(markR x0 r m).length=m.length
 | [],_=>rfl
 | p :: r,m=>by unfold markR; rw [markR_len x0 r,mark_len]
mutual
theorem cov_len (y x0 x1:Int):∀ (a:Mb) (m:List Bool),(Mb.cov y x0 x1 a m).length=m.length
 | .fill i,m=>by unfold Mb.cov; exact markR_len _ _ _
 | .grp _ l,m=>by unfold Mb.cov; exact covs_len y x0 x1 l m
theorem covs_len (y x0 x1:Int):∀ (l:List Mb) (m:List Bool),(Mb.covs y x0 x1 l m).length=m.length
 | [],m=>rfl
 | a :: r,m=>by unfold Mb.covs; rw [covs_len y x0 x1 r,cov_len y x0 x1 a]
end
mutual
def Mb.ok:Mb→Prop
 | .fill i=>i.f1.length≤1000000000
 | .grp _ l=>l.length≤1000000∧Mb.oks l
def Mb.oks:List Mb→Prop
 | []=>True
 | a :: r=>Mb.ok a∧Mb.oks r
end
/-- A strip's numbers. -/
structure StripOk (x0 x1:Int) (n:Nat):Prop where
 h0:0≤x0
 h1:x1≤1000000000
 hx:x1 - x0=n
 hn:0 < n
def sliceV (b n:Nat):Value:=.slice (some ⟨b,0,none⟩) n n
theorem ta_fill (p:Value) (w:World):(Instr.typeAssert (.iface 100 p) 108 100 true).run Try.prog w=.ok (.tuple #[p,.bool true]) w:=by kernel_rfl
theorem ta_grp (p:Value) (w:World):(Instr.typeAssert (.iface 57 p) 108 57 true).run Try.prog w=.ok (.tuple #[p,.bool true]) w:=by kernel_rfl
theorem ta_no (p:Value) (w:World):(Instr.typeAssert (.iface 57 p) 108 100 true).run Try.prog w=.ok (.tuple #[.pointer none,.bool false]) w:=by kernel_rfl
/-- The runs of a fill,marked. -/
theorem cover_runs (W:World) {S:Nat→Prop} (hS:∀ b,S b→b < W.heap.size) {l:List S_Run} {u:Value} (hu:RD S W (.sl 3 (l.map cS_Run)) u) (hl:l.length≤1000000000) {y x0 x1:Int} {n mb b2 b3:Nat} {m:List Bool} (hs:StripOk x0 x1 n) (hm:MkAt W mb m) (hn:m.length=n) (hmS:¬ S mb)
  (h2:W.heap[b2]? = some (.cells #[sliceV mb n] 131 (0,0))) (h3:W.heap[b3]? = some (.cells (stripA y x0 x1) 86 (0,0))) (h2m:b2≠mb) (h3m:b3≠mb) :
  Calls Try.prog 44 #[.agg (stripA y x0 x1),u,.func (.func 77) #[] #[.pointer (some ⟨b2,0,none⟩),.pointer (some ⟨b3,0,none⟩)]] W fun e W'=>e=.returned (.tuple #[])∧Chg (·=mb) W W'∧MkAt W' mb (markR x0 (rns l y x0 x1) m):=by
 refine (runs_at W hS hu hl y x0 x1 call77 (heap_lt hm) hmS (fun rs w=>(∀ a∈rs,x0≤a.1∧a.2≤x1)∧∃ mm,MkAt w mb mm∧mm.length=n∧markR x0 rs mm=markR x0 (rns l y x0 x1) m) ⟨fun a ha=>rns_bnd ha,m,hm,hn,rfl⟩ ?_ ?_).mono ?_
 ·rintro rs w w' ⟨h1,mm,h2,h3,h4⟩ hb
  exact ⟨h1,mm,h2.keep' hb,h3,h4⟩
 ·rintro a r w hC ⟨g1,mm,g2,g3,g4⟩
  have ha:=g1 a (List.mem_cons_self ..)
  refine (mark77_at w ((hC.block _ (heap_lt h2) h2m).trans h2) ((hC.block _ (heap_lt h3) h3m).trans h3) g2 g3 h2m h3m ha.1 ha.2 hs.h0 hs.h1 hs.hx).mono ?_
  rintro e w' ⟨rfl,k1,k2⟩
  exact ⟨rfl,k1,fun b hb=>g1 b (List.mem_cons_of_mem _ hb),_,k2,by rw [mark_len,g3],g4⟩
 ·rintro e w ⟨rfl,h1,_,mm,h2,_,h4⟩
  refine ⟨rfl,h1,?_⟩
  rw [← h4]
  exact h2
theorem call44:Callable Try.prog 44:=⟨_,Try.func44,by kernel_rfl,by kernel_rfl⟩
set_option maxRecDepth 100000 in
set_option maxHeartbeats 4000000 in
theorem cover_fill (W:World) {F:Nat} {D:Nat→Prop} (hD:∀ b,D b→b < W.heap.size) {y x0 x1:Int} {n mb:Nat} {m:List Bool} (hs:StripOk x0 x1 n) (hm:MkAt W mb m) (hn:m.length=n) (hmD:¬ D mb) {x:S_Item} {v:Value} (hv:MbAt F D W (.fill x) v) (hl:x.f1.length≤1000000000) :
  Calls Try.prog 65 #[.agg (stripA y x0 x1),v,sliceV mb n] W fun e W'=>e=.returned (.tuple #[])∧Chg (·=mb) W W'∧MkAt W' mb (Mb.cov y x0 x1 (.fill x) m):=by
 simp only [MbAt] at hv
 obtain ⟨b,xs,a,g,mx,rfl,hDb,hf⟩:=hv
 obtain ⟨u,hu1,hu2⟩:=RCs.get _ 0 1 _ hf.rd (item_reg x)
 have hu1:xs[1]? = some u:=by simpa using hu1
 have hu3:(xs++#[.int .i64 a,g,mx])[1]? = some u:=by
  rw [Array.getElem?_append_left (by have:=hf.size; omega)]
  exact hu1
 obtain ⟨e1,e2,e3⟩:=two_at W (.cells (stripA y x0 x1) 86 (0,0)) (.cells #[.slice (some ⟨mb,0,none⟩) n n] 131 (0,0))
 have hml:=heap_lt hm
 unfold sliceV ptr
 have H1:=aside e1
 have H2:=aside e2
 have H3:=aside e3
 have HA:=aside (show _∧_∧_∧_∧_∧_ from ⟨hD,hs,hm,hn,hmD,hl⟩)
 have HU:=aside hu2
 have HC:=aside ((cell_of hf.blk 1).trans hu3)
 have HB:=aside (hD b hDb)
 have hta:=ta_fill (.pointer (some ⟨b,0,none⟩))
 clear e1 e2 e3 hf hu1 hu2 hu3 hD hs hm hn hmD hl hml hDb
 go_enter Try.func65,Try.ntmps65
 go_wp2_with (with_reducible apply halt_region 4)
 obtain ⟨hD,hs,hm,hn,hmD,hl⟩:=HA.out
 have hml:=heap_lt hm
 have hsz:((W.alloc (.cells (stripA y x0 x1) 86 (0,0))).alloc (.cells #[.slice (some ⟨mb,0,none⟩) n n] 131 (0,0))).heap.size=W.heap.size+2:=by rw [World.size_alloc,World.size_alloc]
 have h1:=H1.out
 have h2:=H2.out
 have h3:=H3.out
 revert h1 h2 h3 hsz
 generalize (W.alloc (.cells (stripA y x0 x1) 86 (0,0))).alloc (.cells #[.slice (some ⟨mb,0,none⟩) n n] 131 (0,0))=W1
 intro hsz h1 h2 h3
 have HSZ:=aside hsz
 clear hsz
 have HL:=fun w (hw:Below W1.heap.size W1 w)=>load_whole (ty:=86) (n:=3) (cs:=stripA y x0 x1) (by kernel_rfl) rfl (keep hw h1)
 have HLU:∀ w,Below W1.heap.size W1 w→(Instr.loadAt 33 (.pointer (some ⟨b,1,none⟩))).run Try.prog w=.ok u w:=fun w hw=>load_one (by kernel_rfl) (by rw [← HC.out]; have:=(h3.trans (hw.mono h3.size)).block b HB.out; simp [World.cell?,this])
 refine wp_region_ord [(0,0),(1,4),(2,4),(3,4),(4,4),(5,0),(6,4),(7,2)] 4 (fun w=>Below W1.heap.size W1 w) (by kernel_rfl) (by kernel_rfl) (Below.refl _ _).drew ?_
 refine Ord.pure (.agg (stripA y x0 x1)) rfl rfl (fun w hw=>ex_load rfl (HL w hw)) ?_
 go_simp
 iterate 4 (refine Ord.still _ rfl rfl (fun w=>by go_simp; rfl) ?_; go_simp)
 refine Ord.pure u rfl rfl (fun w hw=>ex_load rfl (HLU w hw)) ?_
 go_simp
 refine Ord.still _ rfl rfl (fun w=>by go_simp; rfl) ?_
 go_simp
 refine Ord.eff (fun u=>u=.tuple #[]) (fun _ w'=>∃ w3,Below W1.heap.size W1 w3∧Chg (·=mb) w3 w'∧MkAt w' mb (markR x0 (rns x.f1 y x0 x1) m)) (by decide) rfl rfl (fun w3 hw=>.call 44 #[.agg (stripA y x0 x1),u,.func (.func 77) #[] #[.pointer (some ⟨W.heap.size+1,0,none⟩),.pointer (some ⟨W.heap.size,0,none⟩)]] ?_ ?_) (fun h=>by cases h) ?_
 ·have:=callable_run call44 #[.agg (stripA y x0 x1),u,.func (.func 77) #[] #[.pointer (some ⟨W.heap.size+1,0,none⟩),.pointer (some ⟨W.heap.size,0,none⟩)]] w3
  go_simp
 ·have hb:=h3.trans (hw.mono h3.size)
  refine (cover_runs (W:=w3) (S:=D) (fun b hb'=>Nat.lt_of_lt_of_le (hD b hb') hb.size) (RD.mono (fun _ h=>h) (fun b hb'=>hb.block b (hD b hb')) _ _ HU.out) hl hs ((hm.keep' hb)) hn hmD (keep hw h2) (keep hw h1) (by omega) (by omega)).mono ?_
  rintro e w' ⟨rfl,k1,k2⟩
  exact ⟨_,rfl,rfl,w3,hw,k1,k2⟩
 rintro e rfl w' ⟨w3,hw,k1,k2⟩
 have HF:=aside (show _∧_ from ⟨(Chg.of (h3.trans (hw.mono h3.size))).trans k1,k2⟩)
 clear hw k1 k2 HL HLU
 go_wp2
 go_end0
 exact ⟨rfl,HF.out.1,by unfold Mb.cov; exact HF.out.2⟩
def CovP (F:Nat) (y x0 x1:Int) (n:Nat) (a:Mb):Prop:=∀ (W:World) (D:Nat→Prop),(∀ b,D b→b < W.heap.size)→∀ (mb:Nat) (m:List Bool),MkAt W mb m→m.length=n→¬ D mb→∀ v,MbAt F D W a v→Mb.ok a →
 Calls Try.prog 65 #[.agg (stripA y x0 x1),v,sliceV mb n] W fun e W'=>e=.returned (.tuple #[])∧Chg (·=mb) W W'∧MkAt W' mb (Mb.cov y x0 x1 a m)
theorem SlAt.get {D:Nat→Prop} {w:World} {ms:Value} {vs:List Value} (h:SlAt D w ms vs):∃ (q:Option Addr) (c:Nat),ms=.slice q vs.length c∧∀ (i:Nat) (v:Value),vs[i]? = some v→∃ r:Nat,q=some ⟨r,0,none⟩∧D r∧∀ w':World,w'.heap[r]? = w.heap[r]? → w'.cell? ⟨r,i,none⟩=some v:=by
 rcases h with ⟨rfl,rfl⟩ | ⟨r,c,arr,E,fz,rfl,e2,e3,e4⟩
 ·exact ⟨none,0,rfl,fun i v h=>by simp at h⟩
 ·exact ⟨_,c,rfl,fun i v h=>⟨r,rfl,e2,fun w' hw=>by rw [cell_of (hw.trans e3)]; exact e4 i v h⟩⟩
theorem MbsAt.get {F:Nat} {D:Nat→Prop} {w:World}:∀ {l:List Mb} {vs:List Value},MbsAt F D w l vs→∀ (i:Nat) (a:Mb),l[i]? = some a→∃ v,vs[i]? = some v∧MbAt F D w a v
 | [],vs,h,i,a,ha=>by simp at ha
 | m :: l,vs,h,i,a,ha=>by
  simp only [MbsAt] at h
  obtain ⟨v,r,rfl,h1,h2⟩:=h
  cases i with
  | zero=>simp at ha; subst ha; exact ⟨v,rfl,h1⟩
  | succ i=>simpa using h2.get i a (by simpa using ha)
theorem oks_mem:∀ {l:List Mb},Mb.oks l→∀ a∈l,Mb.ok a
 | [],h,a,ha=>by cases ha
 | b :: l,h,a,ha=>by
  unfold Mb.oks at h
  rcases List.mem_cons.1 ha with rfl | ha
  ·exact h.1
  ·exact oks_mem h.2 a ha
theorem covs_drop {y x0 x1:Int} {l:List Mb} {i:Nat} {a:Mb} (h:l[i]? = some a) (m:List Bool):Mb.covs y x0 x1 (l.drop i) m=Mb.covs y x0 x1 (l.drop (i+1)) (Mb.cov y x0 x1 a m):=by
 rw [drop_cons h,Mb.covs]
theorem Chg.agree {D:Nat→Prop} {mb:Nat} {W w:World} (h:Chg (·=mb) W w) (hD:∀ b,D b→b < W.heap.size) (hm:¬ D mb):Agree D W w:=fun b hb=>h.block b (hD b hb) fun e=>hm (e ▸ hb)
set_option maxRecDepth 100000 in
set_option maxHeartbeats 4000000 in
theorem cover_grp {F:Nat} {y x0 x1:Int} {n:Nat} (g:S_Item) {l:List Mb} (hall:∀ a∈l,CovP F y x0 x1 n a) (hlen:l.length≤1000000):CovP F y x0 x1 n (.grp g l):=by
 intro W D hD mb m hm hn hmD v hv hok
 simp only [MbAt] at hv
 obtain ⟨b,xs,a,mx,ms,vs,rfl,hDb,hh,-,hsl,hms⟩:=hv
 obtain ⟨q,c,rfl,hget⟩:∃ (q:Option Addr) (c:Nat),ms=.slice q l.length c∧_:=by rw [← hms.len]; exact hsl.get
 have hmA:(xs++#[.int .i64 a,mx,.slice q l.length c])[36]? = some (.slice q l.length c):=by
  rw [Array.getElem?_append_right (by have:=hh.size; omega),hh.size]
  rfl
 obtain ⟨e1,e2,e3⟩:=two_at W (.cells (stripA y x0 x1) 86 (0,0)) (.cells #[.slice (some ⟨mb,0,none⟩) n n] 131 (0,0))
 have hok:Mb.oks l:=by unfold Mb.ok at hok; exact hok.2
 unfold sliceV ptr
 have H1:=aside e1
 have H2:=aside e2
 have H3:=aside e3
 have HA:=aside (show _∧_∧_∧_∧_ from ⟨hD,hm,hn,hmD,hok⟩)
 have HM:=aside (And.intro hms hget)
 have HC:=aside ((cell_of hh.blk 36).trans hmA)
 have HB:=aside (hD b hDb)
 have HL:=aside (show _∧_ from ⟨hall,hlen⟩)
 have hta:=ta_grp (.pointer (some ⟨b,0,none⟩))
 have htn:=ta_no (.pointer (some ⟨b,0,none⟩))
 clear e1 e2 e3 hh hmA hsl hget hms hD hm hn hmD hok hDb hall hlen
 go_enter Try.func65,Try.ntmps65
 have hc:=(show ((W.alloc (.cells (stripA y x0 x1) 86 (0,0))).alloc (.cells #[.slice (some ⟨mb,0,none⟩) n n] 131 (0,0))).cell? ⟨b,36,none⟩=some (.slice q l.length c) by rw [← HC.out]; have:=H3.out.block b HB.out; simp only [World.cell?,this])
 go_wp2
 clear hc hta htn
 have h1:=H1.out
 have h2:=H2.out
 have h3:=H3.out
 clear H1 H2 H3
 revert h1 h2 h3
 generalize (W.alloc (.cells (stripA y x0 x1) 86 (0,0))).alloc (.cells #[.slice (some ⟨mb,0,none⟩) n n] 131 (0,0))=W1
 intro h1 h2 h3
 have H1:=aside h1
 have H2:=aside h2
 have H3:=aside h3
 clear h1 h2 h3
 obtain ⟨hD,hm,hn,hmD,hok⟩:=HA.out
 have hml:=heap_lt hm
 generalize hM:Mb.covs y x0 x1 l m=M
 have HMM:=aside hM
 go_loopg [30] l.length (fun g v30 wx=>∃ (i:Nat) (mm:List Bool),v30=.int .i64 (i:Int)∧l.length≤g+i∧Mb.covs y x0 x1 (l.drop i) mm=M∧MkAt wx mb mm∧mm.length=n∧Chg (·=mb) W1 wx)
 case atStart=>exact ⟨0,m,rfl,Nat.le_add_right _ _,hM,hm.keep' H3.out,hn,Chg.refl _ _⟩
 case round =>
  obtain ⟨i,mm,rfl,hgi,hmk,hM,hL,hC⟩:=hrel
  have HGI:=aside hgi
  have HMK:=aside hmk
  have HMA:=aside hM
  have HLN:=aside hL
  have HCG:=aside hC
  have HK:=aside (And.intro hD (And.intro hmD hml))
  clear hgi hmk hM hL hC hD hmD hm hml hn
  by_cases hil:i < l.length
  ·have hil':(i:Int) < (l.length:Int):=Int.ofNat_lt.2 hil
   have hi0:(0:Int)≤(i:Int):=Int.natCast_nonneg _
   have hx:=List.getElem?_eq_getElem hil
   obtain ⟨v,hv,hmv⟩:=HM.out.1.get i _ hx
   obtain ⟨r,rfl,hDr,hcell⟩:=HM.out.2 i v hv
   have hr:∀ w,Below wr.heap.size wr w→w.cell? ⟨r,i,none⟩=some v:=fun w hw=>hcell w ((hw.block r (Nat.lt_of_lt_of_le (HK.out.1 r hDr) (Nat.le_trans H3.out.size HCG.out.size))).trans ((HCG.out.block r (Nat.lt_of_lt_of_le (HK.out.1 r hDr) H3.out.size) fun e=>HK.out.2.1 (e ▸ hDr)).trans (H3.out.block r (HK.out.1 r hDr))))
   have hr0:=hr _ (Below.refl _ _)
   have hA1:=(HCG.out.block _ (heap_lt H1.out) (fun e=>by have:=HK.out.2.2; omega)).trans H1.out
   have hld:=load_whole (ty:=86) (n:=3) (by kernel_rfl) rfl hA1
   have hc5:=cell_of ((HCG.out.block _ (heap_lt H2.out) (fun e=>by have:=HK.out.2.2; omega)).trans H2.out) 0
   have HV:=aside (And.intro hmv hx)
   have hWs:W.heap.size≤wr.heap.size:=Nat.le_trans H3.out.size HCG.out.size
   have hagr:Agree D W wr:=fun b hb=>(HCG.out.block b (Nat.lt_of_lt_of_le (HK.out.1 b hb) H3.out.size) fun e=>HK.out.2.1 (e ▸ hb)).trans (H3.out.block b (HK.out.1 b hb))
   have HCL:=aside (HL.out.1 _ (List.mem_of_getElem? hx) wr D (fun b hb=>Nat.lt_of_lt_of_le (HK.out.1 b hb) hWs) mb mm HMA.out HLN.out HK.out.2.1 v (MbAt.mono hWs hagr (fun _ h=>h) (fun b hb=>Nat.lt_of_lt_of_le (HK.out.1 b hb) hWs) _ _ hmv) (oks_mem hok _ (List.mem_of_getElem? hx)))
   have HWS:=aside hWs
   have hwk:=wrap_suc hil (Nat.le_trans HL.out.2 (by decide))
   clear hv hDr hcell hr hA1 hmv hx hWs hagr hok
   go_wp2_with ((with_reducible apply ld (ty:=86)); exact hld)
   refine HCL.out.mono ?_
   rintro e w0 ⟨rfl,k1,k2⟩
   have HF:=aside (And.intro (HCG.out.trans k1) k2)
   clear k1 k2 hld hc5 hr0
   go_wp2
   obtain ⟨g0,rfl⟩:∃ g0,gk=g0+1:=⟨gk - 1,by have:=HGI.out; omega⟩
   go_roundg g0
   case measure=>exact Nat.lt_succ_self _
   case rel=>exact ⟨i+1,_,by rw [hwk],by have:=HGI.out; omega,by rw [← covs_drop HV.out.2]; exact HMK.out,HF.out.2,by rw [cov_len]; exact HLN.out,HF.out.1⟩
  ·have hil':¬ (i:Int) < (l.length:Int):=fun h=>hil (Int.ofNat_lt.1 h)
   go_wp2
   go_end0
   have hmk:=HMK.out
   rw [List.drop_eq_nil_of_le (Nat.le_of_not_lt hil),Mb.covs] at hmk
   refine ⟨rfl,(Chg.of H3.out).trans HCG.out,?_⟩
   unfold Mb.cov
   rw [HMM.out,← hmk]
   exact HMA.out
mutual
theorem cover_at {F:Nat} {y x0 x1:Int} {n:Nat} (hs:StripOk x0 x1 n):∀ a,Mb.ok a→CovP F y x0 x1 n a
 | .fill x,_=>fun W D hD mb m hm hn hmD v hv hok=>cover_fill W hD hs hm hn hmD hv (by simpa [Mb.ok] using hok)
 | .grp g l,h=>by
  unfold Mb.ok at h
  exact cover_grp g (covers_at hs l h.2) h.1
theorem covers_at {F:Nat} {y x0 x1:Int} {n:Nat} (hs:StripOk x0 x1 n):∀ l,Mb.oks l→∀ a∈l,CovP F y x0 x1 n a
 | [],_=>fun a h=>by cases h
 | b :: l,h=>by
  unfold Mb.oks at h
  have h1:=cover_at (F:=F) (y:=y) hs b h.1
  have h2:=covers_at (F:=F) (y:=y) hs l h.2
  intro a ha
  rcases List.mem_cons.1 ha with rfl | ha
  ·exact h1
  ·exact h2 a ha
end
end Go.Vm.TopG
namespace Go.Vm.TopG
open Go.Proofs
open Go.RowKit
theorem any_drop {m:List Bool} {i:Nat} {b:Bool} (h:m[i]? = some b):(m.drop i).any id=(b || (m.drop (i+1)).any id):=by
 obtain ⟨hi,rfl⟩:=List.getElem?_eq_some_iff.1 h
 rw [List.drop_eq_getElem_cons hi]
 rfl
set_option maxRecDepth 100000 in
set_option maxHeartbeats 4000000 in
theorem index78_at (W:World) {mb:Nat} {m:List Bool} {n:Nat} (hm:MkAt W mb m) (hn:m.length=n) (hl:n≤1000000000) :
  Calls Try.prog 78 #[sliceV mb n,.bool true] W fun e W'=>∃ r,e=.returned (.int .i64 r)∧decide (r ≥ 0)=m.any id∧Below W.heap.size W W':=by
 unfold sliceV
 have HM:=aside hm
 have HN:=aside hn
 have HL:=aside hl
 clear hm hn hl
 go_enter Try.func78,Try.ntmps78
 go_wp2
 go_loopg [8] n (fun g v8 wx=>∃ i:Nat,v8=.int .i64 (i:Int)∧n≤g+i∧i≤n∧(m.drop i).any id=m.any id∧Below W.heap.size W wx)
 case atStart=>exact ⟨0,rfl,Nat.le_add_right _ _,Nat.zero_le _,rfl,Below.refl _ _⟩
 case round =>
  obtain ⟨i,rfl,hgi,hin,hmk,hb⟩:=hrel
  have HGI:=aside hgi
  have HMK:=aside hmk
  have HB:=aside hb
  clear hgi hmk hb
  by_cases hil:i < n
  ·have hil':(i:Int) < (n:Int):=Int.ofNat_lt.2 hil
   have hi0:(0:Int)≤(i:Int):=Int.natCast_nonneg _
   have hc:=(HM.out.keep' HB.out).cell (i:=i) (by rw [HN.out]; exact hil)
   have hx:m[i]? = some (m.getD i false):=by simp [List.getElem?_eq_getElem (show i < m.length by rw [HN.out]; exact hil)]
   revert hc hx
   generalize m.getD i false=b
   intro hc hx
   have HX:=aside hx
   have hwk:=wrap_suc hil (Nat.le_trans HL.out (by decide))
   clear hx
   cases b with
   | true =>
    go_wp2
    go_ret
    refine ⟨_,rfl,?_,HB.out⟩
    rw [← HMK.out,any_drop HX.out]
    simp
   | false =>
    go_wp2
    obtain ⟨g0,rfl⟩:∃ g0,gk=g0+1:=⟨gk - 1,by have:=HGI.out; omega⟩
    go_roundg g0
    case measure=>exact Nat.lt_succ_self _
    case rel=>exact ⟨i+1,by rw [hwk],by have:=HGI.out; omega,hil,by rw [← HMK.out,any_drop HX.out]; rfl,HB.out⟩
  ·have hil':¬ (i:Int) < (n:Int):=fun h=>hil (Int.ofNat_lt.1 h)
   go_wp2
   go_ret
   refine ⟨_,rfl,?_,HB.out⟩
   rw [← HMK.out,List.drop_eq_nil_of_le (by rw [HN.out]; omega)]
   rfl
set_option maxRecDepth 100000 in
set_option maxHeartbeats 4000000 in
theorem contains66_at (W:World) {mb:Nat} {m:List Bool} {n:Nat} (hm:MkAt W mb m) (hn:m.length=n) (hl:n≤1000000000) :
  Calls Try.prog 66 #[sliceV mb n,.bool true] W fun e W'=>e=.returned (.bool (m.any id))∧Below W.heap.size W W':=by
 have HI:=aside (index78_at W hm hn hl)
 clear hm
 unfold sliceV at HI ⊢
 go_enter Try.func66,Try.ntmps66
 go_wp2_with (go_at_fn 78)
 refine HI.out.mono ?_
 rintro e w ⟨r,rfl,h1,h2⟩
 go_wp2
 go_ret
 exact ⟨rfl,h2⟩
end Go.Vm.TopG
namespace Go.Vm.TopG
open Go.Proofs
open Go.RowKit
def stL (st:List S_State):List Value:=st.flatMap fun s=>(stA s).toList
theorem stA_len (s:S_State):(stA s).toList.length=9:=rfl
theorem stA_one (s:S_State):(stA s).all (·.oneCell')=true:=by simp [stA,Value.oneCell']
theorem stL_cons (s:S_State) (st:List S_State):stL (s :: st)=(stA s).toList++stL st:=rfl
theorem stL_app (a b:List S_State):stL (a++b)=stL a++stL b:=by simp [stL]
theorem stL_len:∀ st:List S_State,(stL st).length=st.length * 9
 | []=>rfl
 | s :: st=>by rw [stL_cons,List.length_append,stL_len st,stA_len,List.length_cons]; omega
theorem st_split {st:List S_State} {i:Nat} {s:S_State} (h:st[i]? = some s):st=st.take i++s :: st.drop (i+1):=by
 obtain ⟨hi,rfl⟩:=List.getElem?_eq_some_iff.1 h
 rw [← List.drop_eq_getElem_cons hi,List.take_append_drop]
theorem stL_get {st:List S_State} {i:Nat} {s:S_State} (h:st[i]? = some s) {j:Nat} (hj:j < 9):(stL st)[i * 9+j]? = (stA s)[j]? := by
 have hi:=(List.getElem?_eq_some_iff.1 h).1
 have hl:(stL (st.take i)).length=i * 9:=by rw [stL_len,List.length_take_of_le (Nat.le_of_lt hi)]
 have:stL st=stL (st.take i)++((stA s).toList++stL (st.drop (i+1))):=by
  rw [← stL_cons,← stL_app,← st_split h]
 rw [this,List.getElem?_append_right (by omega),hl,Nat.add_sub_cancel_left,List.getElem?_append_left (by rw [stA_len]; exact hj)]
 simp
theorem stL_set {st:List S_State} {i:Nat} (h:i < st.length) (s:S_State) (rest:List Value):spl (i * 9) (stA s).toList (stL st++rest)=stL (st.set i s)++rest:=by
 have h0:=st_split (List.getElem?_eq_getElem h)
 have hl:(stL (st.take i)).length=i * 9:=by rw [stL_len,List.length_take_of_le (Nat.le_of_lt h)]
 have e1:stL st++rest=stL (st.take i)++((stA st[i]).toList++(stL (st.drop (i+1))++rest)):=by
  conv=>lhs; rw [h0]
  rw [stL_app,stL_cons]
  simp [List.append_assoc]
 have e2:st.set i s=st.take i++s :: st.drop (i+1):=by rw [List.set_eq_take_append_cons_drop,if_pos h]
 rw [e1,e2,stL_app,stL_cons]
 unfold spl
 rw [List.take_append_of_le_length (by omega),List.take_of_length_le (by omega),stA_len,← hl,List.drop_length_add_append,List.drop_append_of_le_length (by rw [stA_len]; omega),List.drop_of_length_le (by rw [stA_len]; omega)]
 simp [List.append_assoc]
def StAt (w:World) (b:Nat) (st:List S_State):Prop:=∃ (rest:List Value) (E:TypeId),w.heap[b]? = some (.cells (stL st++rest).toArray E (0,0))
theorem StAt.keep' {w w':World} {b:Nat} {st:List S_State} (h:StAt w b st) (hb:w'.heap[b]? = w.heap[b]?):StAt w' b st:=by
 obtain ⟨r,E,h⟩:=h
 exact ⟨r,E,hb.trans h⟩
theorem StAt.lt {w:World} {b:Nat} {st:List S_State} (h:StAt w b st):b < w.heap.size:=by
 obtain ⟨r,E,h⟩:=h
 exact heap_lt h
theorem StAt.cell {w:World} {b:Nat} {st:List S_State} (h:StAt w b st) {i:Nat} {s:S_State} (hs:st[i]? = some s) {j:Nat} (hj:j < 9):w.cell? ⟨b,i * 9+j,none⟩=(stA s)[j]? := by
 obtain ⟨r,E,h⟩:=h
 have hi:=(List.getElem?_eq_some_iff.1 hs).1
 rw [cell_of h,List.getElem?_toArray,List.getElem?_append_left (by rw [stL_len]; omega)]
 exact stL_get hs hj
theorem StAt.load {w:World} {b:Nat} {st:List S_State} (h:StAt w b st) {i:Nat} {s:S_State} (hs:st[i]? = some s):(Instr.loadAt 83 (.pointer (some ⟨b,i * 9,none⟩))).run Try.prog w=.ok (stV s) w :=
 load_at (ty:=83) (n:=9) (by kernel_rfl) rfl fun j hj=>h.cell hs hj
theorem StAt.store {w:World} {b:Nat} {st:List S_State} (h:StAt w b st) {i:Nat} (hi:i < st.length) (s:S_State):∃ w',(Instr.storeAt 83 (.pointer (some ⟨b,i * 9,none⟩)) (stV s)).run Try.prog w=.ok () w'∧StAt w' b (st.set i s)∧Chg (·=b) w w':=by
 obtain ⟨r,E,h⟩:=h
 have hsz:i * 9+9≤(stL st++r).toArray.size:=by simp [stL_len]; omega
 have hh:=setCells_row b E (0,0) (stA s).toList (i * 9) _ w h hsz
 have hth:w.there b (i * 9) (stA s).size:=fun j hj=>by
  have hj:j < 9:=hj
  refine ⟨?_,frz_of h _⟩
  rw [cell_of h,Array.getElem?_eq_getElem (show i * 9+j < _ by omega)]
  rfl
 refine ⟨_,run_storeAt_mid (P:=Try.prog) w b (i * 9) 83 (stA s) hth (by kernel_rfl) (stA_one s),⟨r,E,?_⟩,?_⟩
 ·rw [hh,← stL_set hi s r]
  exact setRow_get h
 ·rw [hh]
  exact ⟨rfl,rfl,rfl,by rw [size_setRow]; exact Nat.le_refl _,fun k _ hk=>setRow_other hk⟩
theorem Mul255_at (W:World) {F:Nat} {a b r:Int} (h:num_Mul255 F a b=some r):Calls Try.prog 46 #[.int .u8 a,.int .u8 b] W fun e W'=>e=.returned (.int .u8 r)∧Below W.heap.size W W':=by
 refine (belowD (us:=[.int .u8 a,.int .u8 b]) (num_Mul255_ok h) rfl (show 2 < resSlot by decide) rfl ⟨flat_int ..,flat_int ..,trivial⟩).mono ?_
 rintro e W' ⟨u,S',β',rfl,hu,hb⟩
 rw [int_res hu]
 exact ⟨rfl,hb⟩
theorem srcD_fn {F:Nat} {s:S_Source} {g:Value} {D:Nat→Prop} {w:World} (h:SrcD F s g D w):∃ f caps,g=.func (.func f) #[] caps∧Callable Try.prog f∧∀ W,w.heap.size≤W.heap.size→Agree D w W→∀ x y r,srcF F s x y=some r→Calls Try.prog f (#[.int .i64 x,.int .i64 y]++caps) W fun e W'=>e=.returned (.tuple #[inkV r.1,.int .u8 r.2])∧Below W.heap.size W W':=by
 obtain ⟨f,caps,rfl,hf,-⟩:=h.2 w (Nat.le_refl _) fun _ _=>rfl
 refine ⟨f,caps,rfl,hf,fun W hW hA x y r hr=>?_⟩
 obtain ⟨f',caps',e,-,hc⟩:=h.2 W hW hA
 cases e
 exact hc x y r hr
theorem item_29 (x:S_Item):(cS_Item x)[29]? = some (.v (.int .u8 x.f3)):=by kernel_rfl
theorem item_31 (x:S_Item):(cS_Item x)[31]? = some (.v (.bool x.f5)):=by kernel_rfl
theorem item_32 (x:S_Item):(cS_Item x)[32]? = some (.v (.bool x.f6)):=by kernel_rfl
theorem item_33 (x:S_Item):(cS_Item x)[33]? = some (.v (.bool x.f7)):=by kernel_rfl
/-- A plain cell of an item. -/
theorem item_v {D:Nat→Prop} {w:World} {xs:Array Value} {x:S_Item} (h:RCs D w (cS_Item x) (fun j=>xs[j]?) 0) {k:Nat} {v:Value} (hk:(cS_Item x)[k]? = some (.v v)):xs[k]? = some v:=by
 obtain ⟨u,h1,h2⟩:=RCs.get _ 0 k _ h hk
 simp only [RD] at h2
 obtain ⟨rfl,-⟩:=h2
 simpa using h1
end Go.Vm.TopG
