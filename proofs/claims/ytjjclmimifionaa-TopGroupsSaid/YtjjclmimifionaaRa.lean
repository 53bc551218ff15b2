/-
  The parts of a region in a strip,by hand: the search.
-/
import Derived.Test.YtjjclmimifionaaTc
namespace Go.Vm.TopG
open Go.Proofs
open Go.RowKit
def runA (r:S_Run):Array Value:=#[.int .i64 r.f0,.int .i64 r.f1,.int .i64 r.f2]
def stripA (y x0 x1:Int):Array Value:=#[.int .i64 y,.int .i64 x0,.int .i64 x1]
theorem runA_cs (x:S_Run) {k:Nat} (hk:k < 3):∃ v,(cS_Run x)[k]? = some (.v v)∧(runA x)[k]? = some v:=by
 obtain rfl | rfl | rfl:k=0∨k=1∨k=2:=by omega
 ·exact ⟨.int .i64 x.f0,by kernel_rfl,rfl⟩
 ·exact ⟨.int .i64 x.f1,by kernel_rfl,rfl⟩
 ·exact ⟨.int .i64 x.f2,by kernel_rfl,rfl⟩
theorem runs_of {S:Nat→Prop} {w:World} {l:List S_Run} {u:Value} (h:RD S w (.sl 3 (l.map cS_Run)) u):(l=[]∧∃ q,u=.slice q 0 0)∨∃ b off c,u=.slice (some ⟨b,off,none⟩) l.length c∧S b∧b < w.heap.size∧∀ w',Agree S w w'→∀ i x,l[i]? = some x→∀ k,k < 3→w'.cell? ⟨b,off+i * 3+k,none⟩=(runA x)[k]? := by
 simp only [RD] at h
 rcases h with ⟨⟨q,rfl⟩,h⟩ | ⟨b,off,c,arr,E,fz,rfl,h1,h2,h3,h4⟩
 ·exact .inl ⟨List.map_eq_nil_iff.1 h,q,rfl⟩
 ·refine .inr ⟨b,off,c,by rw [List.length_map],h2,heap_lt h3,fun w' ha i x hx k hk=>?_⟩
  obtain ⟨h5,h6⟩:=REs.get _ off i (cS_Run x) h4 (by simp [hx])
  obtain ⟨v,e1,e2⟩:=runA_cs x hk
  obtain ⟨y,hy,hr⟩:=RCs.get _ _ k (.v v) h6 e1
  simp only [RD] at hr
  rw [cell_of ((ha b h2).trans h3),hy,hr.1,e2]
def cmpR (r:S_Run) (y x0:Int):Int:=if r.f0 < y∨r.f0=y∧r.f2≤x0 then -1 else 1
set_option maxRecDepth 100000 in
set_option maxHeartbeats 4000000 in
theorem cmp63_at (W:World) (r:S_Run) (y x0 x1:Int):Calls Try.prog 63 #[.agg (runA r),.agg (stripA y x0 x1)] W fun e W'=>e=.returned (.int .i64 (cmpR r y x0))∧Below W.heap.size W W':=by
 obtain ⟨e1,e2,e3⟩:=two_at W (.cells (runA r) 72 (0,0)) (.cells (stripA y x0 x1) 86 (0,0))
 have h1:=cell_of e1
 have h2:=cell_of e2
 have H3:=aside e3
 clear e1 e2 e3
 unfold cmpR
 revert h1 h2 H3
 unfold runA stripA
 intro h1 h2 H3
 by_cases c1:r.f0 < y
 ·rw [if_pos (.inl c1)]
  go_enter Try.func63,Try.ntmps63
  go_wp2
  go_ret
  exact ⟨rfl,H3.out⟩
 ·by_cases c2:r.f0=y
  ·subst c2
   by_cases c3:r.f2≤x0
   ·rw [if_pos (.inr ⟨rfl,c3⟩)]
    go_enter Try.func63,Try.ntmps63
    go_wp2
    go_ret
    exact ⟨rfl,H3.out⟩
   ·rw [if_neg (by rintro (h | h); exact c1 h; exact c3 h.2)]
    go_enter Try.func63,Try.ntmps63
    go_wp2
    go_ret
    exact ⟨rfl,H3.out⟩
  ·rw [if_neg (by rintro (h | h); exact c1 h; exact c2 h.1)]
   go_enter Try.func63,Try.ntmps63
   go_wp2
   go_ret
   exact ⟨rfl,H3.out⟩
theorem mid_wrap {i j:Nat} (hi:i≤1000000000) (hj:j≤1000000000):wrap64 (IntKind.u64.wrap (wrap64 ((i:Int)+(j:Int))) / 2)=(((i+j) / 2:Nat):Int):=by
 unfold IntKind.wrap
 simp only [show IntKind.u64.signed=false from rfl,show IntKind.u64.bits=64 from rfl]
 unfold wrap64
 simp
 omega
theorem bs_step {l:List S_Run} {y x0:Int} {n i j:Nat} {x:S_Run} (hij:i < j) (hx:l[(i+j) / 2]? = some x):bsF l y x0 (n+1) i j=if x.f0 < y∨x.f0=y∧x.f2≤x0 then bsF l y x0 n ((i+j) / 2+1) j else bsF l y x0 n i ((i+j) / 2):=by
 show (if i < j then _ else _)=_
 rw [if_pos hij,List.getD_eq_getElem?_getD,hx]
 rfl
theorem bs_end {l:List S_Run} {y x0:Int} {n i j:Nat} (hij:¬ i < j):bsF l y x0 n i j=i:=by
 cases n with
 | zero=>rfl
 | succ n=>show (if i < j then _ else _)=_; rw [if_neg hij]
theorem call63:Callable Try.prog 63:=⟨_,Try.func63,by kernel_rfl,by kernel_rfl⟩
set_option maxRecDepth 100000 in
set_option maxHeartbeats 4000000 in
theorem search_at (W:World) {S:Nat→Prop} (hS:∀ b,S b→b < W.heap.size) {l:List S_Run} {u:Value} (hu:RD S W (.sl 3 (l.map cS_Run)) u) (hl:l.length≤1000000000) (y x0 x1:Int) :
  Calls Try.prog 62 #[u,.agg (stripA y x0 x1),.func (.func 63) #[] #[]] W fun e W'=>∃ f,e=.returned (.tuple #[.int .i64 ((bsF l y x0 (l.length+1) 0 l.length:Nat):Int),.bool f])∧Below W.heap.size W W':=by
 obtain ⟨q,c,rfl⟩:=rd_slice hu
 have hb:=(Below.refl W.heap.size W).alloc (Nat.le_refl _) (.cells (stripA y x0 x1) 86 (0,0))
 have hA:=heap_alloc_new W (.cells (stripA y x0 x1) 86 (0,0))
 have HB:=aside hb
 have HA:=aside hA
 have HU:=aside hu
 have HS:=aside hS
 clear hb hA hu hS
 go_enter Try.func62,Try.ntmps62
 go_wp2
 revert HB HA
 generalize W.alloc _=w0
 intro HB HA
 generalize hR:bsF l y x0 (l.length+1) 0 l.length=R
 have HR:=aside hR
 clear hR
 go_loopg [9,10] l.length (fun g v9 v10 wx=>∃ i j n:Nat,v9=.int .i64 (i:Int)∧v10=.int .i64 (j:Int)∧g+i=j∧j≤l.length∧j≤n+i∧bsF l y x0 n i j=R∧Below w0.heap.size w0 wx)
 case atStart=>exact ⟨0,l.length,l.length+1,rfl,rfl,rfl,Nat.le_refl _,Nat.le_succ _,HR.out,Below.refl _ _⟩
 case round =>
  obtain ⟨i,j,n,rfl,rfl,hgi,hjl,hjn,hbs,hw⟩:=hrel
  have HBS:=aside hbs
  have HGI:=aside hgi
  have HJL:=aside hjl
  have HJN:=aside hjn
  have HW:=aside hw
  clear hbs hgi hjl hjn hw
  by_cases hij:i < j
  ·have hij':(i:Int) < (j:Int):=Int.ofNat_lt.2 hij
   obtain ⟨x,hx⟩:∃ x,l[(i+j) / 2]? = some x:=⟨_,List.getElem?_eq_getElem (show (i+j) / 2 < l.length by have:=HJL.out; omega)⟩
   have hh:(i+j) / 2 < l.length:=(List.getElem?_eq_some_iff.1 hx).1
   have hmid:=mid_wrap (i:=i) (j:=j) (by have:=HJL.out; omega) (by have:=HJL.out; omega)
   have HMID:=aside hmid
   have HX:=aside hx
   have HH:=aside hh
   clear hmid hx hh
   go_wp2_with (with_reducible apply halt_region 5)
   rw [HMID.out]
   have hlne:l≠[]:=by
    rintro rfl
    simp at hij'
    exact absurd HH.out (Nat.not_lt_zero _)
   obtain ⟨rfl,_⟩ | ⟨B,off,cc,he,hSB,hBl,hcell⟩:=runs_of HU.out
   ·exact absurd rfl hlne
   obtain ⟨rfl,rfl⟩:q=some ⟨B,off,none⟩∧c=cc:=by simpa using he
   have hag:∀ w,Below wr.heap.size wr w→Agree S W w:=fun w hw b hb=>(hw.block b (Nat.lt_of_lt_of_le (HS.out b hb) (Nat.le_trans HB.out.size HW.out.size))).trans ((HW.out.block b (Nat.lt_of_lt_of_le (HS.out b hb) HB.out.size)).trans (HB.out.block b (HS.out b hb)))
   generalize hm:(i+j) / 2=m at *
   have hm0:(0:Int)≤(m:Int):=Int.natCast_nonneg _
   have hml:(m:Int) < (l.length:Int):=Int.ofNat_lt.2 HH.out
   have HLR:=fun w (hw:Below wr.heap.size wr w)=>load_at (ty:=72) (b:=B) (o:=off+m * 3) (n:=3) (w:=w) (cs:=runA x) (by kernel_rfl) rfl fun k hk=>hcell w (hag w hw) m x HX.out k hk
   have HLS:=fun w (hw:Below wr.heap.size wr w)=>load_whole (ty:=86) (n:=3) (cs:=stripA y x0 x1) (by kernel_rfl) rfl (keep hw (keep HW.out HA.out))
   refine wp_region_ord [(0,4),(1,4),(2,4),(3,4),(4,0),(5,0),(6,1),(7,4)] 4 (fun w=>Below wr.heap.size wr w) (by kernel_rfl) (by kernel_rfl) (Below.refl _ _).drew ?_
   iterate 3 (refine Ord.still _ rfl rfl (fun w=>by go_simp; rfl) ?_; go_simp)
   refine Ord.still (.pointer (some ⟨B,off+m * 3,none⟩)) rfl rfl (fun w=>by go_simp) ?_
   go_simp
   refine Ord.pure (.agg (runA x)) rfl rfl (fun w hw=>ex_load rfl (HLR w hw)) ?_
   go_simp
   refine Ord.pure (.agg (stripA y x0 x1)) rfl rfl (fun w hw=>ex_load rfl (HLS w hw)) ?_
   go_simp
   refine Ord.det (.int .i64 (cmpR x y x0)) rfl rfl (fun w hw=>.call 63 #[.agg (runA x),.agg (stripA y x0 x1)] (by have:=callable_run call63 #[.agg (runA x),.agg (stripA y x0 x1)] w; go_simp) ((cmp63_at w x y x0 x1).mono ?_)) ?_
   ·rintro e w' ⟨rfl,hb⟩
    exact ⟨_,rfl,rfl,hw.trans (hb.mono hw.size)⟩
   go_simp
   refine Ord.still _ rfl rfl (fun w=>by go_simp; rfl) ?_
   go_simp
   intro w hw
   have HW2:=aside ((HW.out.trans (hw.mono HW.out.size)))
   obtain ⟨n,rfl⟩:∃ n',n=n'+1:=⟨n - 1,by have:=HJN.out; omega⟩
   have hbs:=HBS.out
   have hst:=bs_step (y:=y) (x0:=x0) (n:=n) hij (by rw [hm]; exact HX.out)
   rw [hst,hm] at hbs
   have hmb:i≤m∧m < j:=by omega
   have HBS2:=aside hbs
   have HMB:=aside hmb
   clear hst hbs hmb hw HLR HLS hag hcell
   unfold cmpR
   by_cases hc:x.f0 < y∨x.f0=y∧x.f2≤x0
   ·have hb2:=HBS2.out
    rw [if_pos hc] at hb2
    have HB2:=aside hb2
    have hwk:=wrap_suc HH.out (Nat.le_trans hl (by decide))
    rw [if_pos hc]
    clear hb2 hc
    go_wp2
    obtain ⟨g',hg'⟩:∃ g',gk=g'+1+(m - i)∧g'+(m+1)=j:=⟨j - (m+1),by have:=HGI.out; have:=HMB.out; omega,by have:=HMB.out; omega⟩
    go_roundg g'
    case measure=>omega
    case rel=>exact ⟨m+1,j,n,rfl,rfl,hg'.2,HJL.out,by have:=HJN.out; have:=HMB.out; omega,HB2.out,HW2.out⟩
   ·have hb2:=HBS2.out
    rw [if_neg hc] at hb2
    have HB2:=aside hb2
    rw [if_neg hc]
    clear hb2 hc
    go_wp2
    obtain ⟨g',hg'⟩:∃ g',gk=g'+(j - m)∧g'+i=m:=⟨m - i,by have:=HGI.out; have:=HMB.out; omega,by have:=HMB.out; omega⟩
    go_roundg g'
    case measure=>have:=HMB.out; omega
    case rel=>exact ⟨i,m,n,rfl,rfl,hg'.2,by have:=HMB.out; have:=HJL.out; omega,by have:=HJN.out; have:=HMB.out; omega,HB2.out,HW2.out⟩
  ·have hij':¬ (i:Int) < (j:Int):=fun h=>hij (Int.ofNat_lt.1 h)
   have hR:i=R:=(bs_end hij).symm.trans HBS.out
   subst hR
   by_cases hil:i < l.length
   ·obtain ⟨x,hx⟩:∃ x,l[i]? = some x:=⟨_,List.getElem?_eq_getElem hil⟩
    have hil':(i:Int) < (l.length:Int):=Int.ofNat_lt.2 hil
    have hi0:(0:Int)≤(i:Int):=Int.natCast_nonneg _
    go_wp2_with (with_reducible apply halt_region 8)
    obtain ⟨rfl,_⟩ | ⟨B,off,cc,he,hSB,hBl,hcell⟩:=runs_of HU.out
    ·exact absurd hil (Nat.not_lt_zero _)
    obtain ⟨rfl,rfl⟩:q=some ⟨B,off,none⟩∧c=cc:=by simpa using he
    have hag:∀ w,Below wr.heap.size wr w→Agree S W w:=fun w hw b hb=>(hw.block b (Nat.lt_of_lt_of_le (HS.out b hb) (Nat.le_trans HB.out.size HW.out.size))).trans ((HW.out.block b (Nat.lt_of_lt_of_le (HS.out b hb) HB.out.size)).trans (HB.out.block b (HS.out b hb)))
    have HLR:=fun w (hw:Below wr.heap.size wr w)=>load_at (ty:=72) (b:=B) (o:=off+i * 3) (n:=3) (w:=w) (cs:=runA x) (by kernel_rfl) rfl fun k hk=>hcell w (hag w hw) i x hx k hk
    have HLS:=fun w (hw:Below wr.heap.size wr w)=>load_whole (ty:=86) (n:=3) (cs:=stripA y x0 x1) (by kernel_rfl) rfl (keep hw (keep HW.out HA.out))
    refine wp_region_ord [(0,4),(1,4),(2,4),(3,4),(4,4),(5,4),(6,4),(7,4),(8,4),(9,0),(10,0),(11,1),(12,4),(13,4),(14,4),(15,4)] 4 (fun w=>Below wr.heap.size wr w) (by kernel_rfl) (by kernel_rfl) (Below.refl _ _).drew ?_
    iterate 8 (refine Ord.still _ rfl rfl (fun w=>by go_simp; rfl) ?_; go_simp)
    refine Ord.still (.pointer (some ⟨B,off+i * 3,none⟩)) rfl rfl (fun w=>by go_simp) ?_
    go_simp
    refine Ord.pure (.agg (runA x)) rfl rfl (fun w hw=>ex_load rfl (HLR w hw)) ?_
    go_simp
    refine Ord.pure (.agg (stripA y x0 x1)) rfl rfl (fun w hw=>ex_load rfl (HLS w hw)) ?_
    go_simp
    refine Ord.det (.int .i64 (cmpR x y x0)) rfl rfl (fun w hw=>.call 63 #[.agg (runA x),.agg (stripA y x0 x1)] (by have:=callable_run call63 #[.agg (runA x),.agg (stripA y x0 x1)] w; go_simp) ((cmp63_at w x y x0 x1).mono ?_)) ?_
    ·rintro e w' ⟨rfl,hb⟩
     exact ⟨_,rfl,rfl,hw.trans (hb.mono hw.size)⟩
    go_simp
    iterate 4 (refine Ord.still _ rfl rfl (fun w=>by go_simp; rfl) ?_; go_simp)
    intro w hw
    have HW2:=aside (HB.out.trans ((HW.out.trans (hw.mono HW.out.size)).mono HB.out.size))
    clear hw HLR HLS hag hcell
    go_wp2
    go_ret2
    exact ⟨_,by rw [HR.out]; rfl,HW2.out⟩
   ·have hil':¬ (i:Int) < (l.length:Int):=fun h=>hil (Int.ofNat_lt.1 h)
    go_wp2_with (with_reducible apply halt_region 8)
    refine wp_region_ord [(0,4),(1,4),(2,4),(3,4),(4,4),(5,4),(6,4),(7,4),(8,4),(9,0),(10,0),(11,0),(12,4),(13,4),(14,4),(15,4)] 4 (fun w=>Below wr.heap.size wr w) (by kernel_rfl) (by kernel_rfl) (Below.refl _ _).drew ?_
    iterate 5 (refine Ord.still _ rfl rfl (fun w=>by go_simp; rfl) ?_; go_simp)
    iterate 4 (refine Ord.skip4 rfl rfl ?_; go_simp)
    iterate 3 (refine Ord.skip rfl rfl ?_; go_simp)
    refine Ord.skip4 rfl rfl ?_
    go_simp
    iterate 3 (refine Ord.still _ rfl rfl (fun w=>by go_simp; rfl) ?_; go_simp)
    intro w hw
    have HW2:=aside (HB.out.trans ((HW.out.trans (hw.mono HW.out.size)).mono HB.out.size))
    clear hw
    go_wp2
    go_ret2
    exact ⟨_,by rw [HR.out]; rfl,HW2.out⟩
end Go.Vm.TopG
namespace Go.Vm.TopG
open Go.Proofs
open Go.RowKit
theorem Chg.refl (O:Nat→Prop) (w:World):Chg O w w:=⟨rfl,rfl,rfl,Nat.le_refl _,fun _ _ _=>rfl⟩
theorem Chg.of {O:Nat→Prop} {w w':World} (h:Below w.heap.size w w'):Chg O w w':=⟨h.os,h.tape,h.output,h.size,fun b hb _=>h.block b hb⟩
theorem Chg.trans {O:Nat→Prop} {a b c:World} (h:Chg O a b) (k:Chg O b c):Chg O a c :=
 ⟨k.os.trans h.os,k.tape.trans h.tape,k.output.trans h.output,Nat.le_trans h.size k.size,fun x hx hO=>(k.block x (Nat.lt_of_lt_of_le hx h.size) hO).trans (h.block x hx hO)⟩
theorem Chg.drew {O:Nat→Prop} {a b:World} (h:Chg O a b):Chg O a b.drew:=⟨h.os,h.tape,h.output,h.size,h.block⟩
theorem rns_cons {y x0 x1:Int} {l:List S_Run} {i:Nat} {x:S_Run} (hx:l[i]? = some x):rnsL y x0 x1 (l.drop i)=if x.f0=y∧x.f1 < x1 then (max x.f1 x0,min x.f2 x1) :: rnsL y x0 x1 (l.drop (i+1)) else []:=by
 rw [drop_cons hx]; rfl
set_option maxRecDepth 100000 in
set_option maxHeartbeats 4000000 in
theorem runs_at (W:World) {S:Nat→Prop} (hS:∀ b,S b→b < W.heap.size) {l:List S_Run} {u:Value} (hu:RD S W (.sl 3 (l.map cS_Run)) u) (hl:l.length≤1000000000) (y x0 x1:Int) {f p:Nat} {caps:Array Value} (hf:Callable Try.prog f) (hp:p < W.heap.size) (hpS:¬ S p) (I:List (Int×Int)→World→Prop)
  (hI0:I (rns l y x0 x1) W) (hkeep:∀ r w w',I r w→Below w.heap.size w w'→I r w') (hstep:∀ a r w,Chg (·=p) W w→I (a :: r) w→Calls Try.prog f (#[.int .i64 a.1,.int .i64 a.2]++caps) w fun e w'=>e=.returned (.tuple #[])∧Chg (·=p) w w'∧I r w') :
  Calls Try.prog 44 #[.agg (stripA y x0 x1),u,.func (.func f) #[] caps] W fun e W'=>e=.returned (.tuple #[])∧Chg (·=p) W W'∧I [] W':=by
 obtain ⟨q,c,rfl⟩:=rd_slice hu
 have hb:=(Below.refl W.heap.size W).alloc (Nat.le_refl _) (.cells (stripA y x0 x1) 86 (0,0))
 have hA:=heap_alloc_new W (.cells (stripA y x0 x1) 86 (0,0))
 have hL:=load_whole (ty:=86) (n:=3) (by kernel_rfl) rfl hA
 have hsr:=search_at (W.alloc (.cells (stripA y x0 x1) 86 (0,0))) (fun b h=>Nat.lt_of_lt_of_le (hS b h) hb.size) (RD.mono (fun _ h=>h) (fun b h=>hb.block b (hS b h)) _ _ hu) hl y x0 x1
 have HSR:=aside hsr
 have HB:=aside hb
 have HA:=aside hA
 have HU:=aside hu
 have HS:=aside hS
 have HST:=aside hstep
 have HKP:=aside hkeep
 have HI0:=aside hI0
 have HP:=aside hp
 clear hsr hb hA hu hS hstep hkeep hI0 hp
 go_enter Try.func44,Try.ntmps44
 go_wp2_with ((with_reducible apply ld (ty:=86)); exact hL)
 refine Calls.mono HSR.out ?_
 rintro e w0 ⟨fl,rfl,hb⟩
 have hpn:W.heap.size≠p:=fun h=>by have:=HP.out; omega
 have HX:=aside (show _∧_∧_ from ⟨keep hb HA.out,(Chg.of (O:=(·=p)) (HB.out.trans (hb.mono HB.out.size))),HKP.out _ _ _ HI0.out (HB.out.trans (hb.mono HB.out.size))⟩)
 have HPN:=aside hpn
 clear hb hL HSR hpn
 unfold rns at HX
 generalize bsF l y x0 (l.length+1) 0 l.length=j0 at HX ⊢
 go_wp2
 go_loopg [6] l.length (fun g v6 wx=>∃ i:Nat,v6=.int .i64 (i:Int)∧l.length≤g+i∧wx.heap[W.heap.size]? = some (.cells (stripA y x0 x1) 86 (0,0))∧Chg (·=p) W wx∧I (rnsL y x0 x1 (l.drop i)) wx)
 case atStart=>exact ⟨j0,rfl,Nat.le_add_right _ _,HX.out⟩
 case round =>
  clear HX
  obtain ⟨i,rfl,hgi,hA,hW,hI⟩:=hrel
  have HGI:=aside hgi
  have HA:=aside hA
  have HW:=aside hW
  have HI:=aside hI
  have HLS:=aside (fun w (hw:Below wr.heap.size wr w)=>cell_of (keep hw HA.out))
  clear hgi hA hW hI
  by_cases hil:i < l.length
  ·obtain ⟨x,hx⟩:∃ x,l[i]? = some x:=⟨_,List.getElem?_eq_getElem hil⟩
   have hil':(i:Int) < (l.length:Int):=Int.ofNat_lt.2 hil
   have hi0:(0:Int)≤(i:Int):=Int.natCast_nonneg _
   obtain ⟨rfl,_⟩ | ⟨B,off,cc,he,hSB,hBl,hcell⟩:=runs_of HU.out
   ·exact absurd hil (Nat.not_lt_zero _)
   obtain ⟨rfl,rfl⟩:q=some ⟨B,off,none⟩∧c=cc:=by simpa using he
   have hag:∀ w,Below wr.heap.size wr w→Agree S W w:=fun w hw b hb=>(hw.block b (Nat.lt_of_lt_of_le (HS.out b hb) HW.out.size)).trans (HW.out.block b (HS.out b hb) fun h=>hpS (h ▸ hb))
   have HR:=aside (fun w (hw:Below wr.heap.size wr w)=>hcell w (hag w hw) i x hx)
   have HXX:=aside hx
   have hI:=HI.out
   rw [rns_cons hx] at hI
   have HI2:=aside hI
   clear hI hcell hag hx he hSB hBl
   by_cases h1:x.f0=y
   ·have e1:(x.f0 == y)=true:=by simpa using h1
    by_cases h2:x.f1 < x1
    ·have HN:=HI2.out
     rw [if_pos ⟨h1,h2⟩] at HN
     have HN2:=aside HN
     clear HN h1
     go_wp2_with (with_reducible apply halt_region 2)
     refine wp_region_ord [(0,4),(1,4),(2,4),(3,4),(4,4),(5,4),(6,4),(7,4),(8,4),(9,0),(10,4),(11,0),(12,4),(13,4),(14,4),(15,4),(16,4),(17,4),(18,4),(19,0),(20,4),(21,0),(22,4),(23,4)] 4 (fun w=>Below wr.heap.size wr w) (by kernel_rfl) (by kernel_rfl) (Below.refl _ _).drew ?_
     iterate 7 (refine Ord.still _ rfl rfl (fun w=>by go_simp; rfl) ?_; go_simp)
     refine Ord.still (.pointer (some ⟨B,off+i * 3,none⟩)) rfl rfl (fun w=>by go_simp) ?_
     go_simp
     refine Ord.still _ rfl rfl (fun w=>by go_simp; rfl) ?_
     go_simp
     refine Ord.pure (.int .i64 x.f0) rfl rfl (fun w hw=>ex_load rfl (load_one (by kernel_rfl) (HR.out w hw 0 (by decide)))) ?_
     go_simp
     refine Ord.still _ rfl rfl (fun w=>by go_simp; rfl) ?_
     go_simp
     refine Ord.pure (.int .i64 y) rfl rfl (fun w hw=>ex_load rfl (load_one (by kernel_rfl) (HLS.out w hw 0))) ?_
     go_simp
     iterate 5 (refine Ord.still _ rfl rfl (fun w=>by go_simp; rfl) ?_; go_simp)
     refine Ord.still (.pointer (some ⟨B,off+i * 3,none⟩)) rfl rfl (fun w=>by go_simp) ?_
     go_simp
     refine Ord.still _ rfl rfl (fun w=>by go_simp; rfl) ?_
     go_simp
     refine Ord.pure (.int .i64 x.f1) rfl rfl (fun w hw=>ex_load rfl (load_one (by kernel_rfl) (HR.out w hw 1 (by decide)))) ?_
     go_simp
     refine Ord.still _ rfl rfl (fun w=>by go_simp; rfl) ?_
     go_simp
     refine Ord.pure (.int .i64 x1) rfl rfl (fun w hw=>ex_load rfl (load_one (by kernel_rfl) (HLS.out w hw 2))) ?_
     go_simp
     iterate 2 (refine Ord.still _ rfl rfl (fun w=>by go_simp; rfl) ?_; go_simp)
     intro w hw
     have HF:=aside (show _∧_∧_ from ⟨HW.out.trans (Chg.of hw),HKP.out _ _ _ HN2.out hw,hw⟩)
     clear hw
     go_wp2_with (with_reducible apply halt_region 4)
     obtain ⟨F1,F2,F3⟩:=HF.out
     have HRW:=aside (fun w3 (hw:Below w.heap.size w w3)=>HR.out w3 (F3.trans (hw.mono F3.size)))
     have HLW:=aside (fun w3 (hw:Below w.heap.size w w3)=>HLS.out w3 (F3.trans (hw.mono F3.size)))
     have HAW:=aside (keep F3 HA.out)
     clear F1 F2 F3
     refine wp_region_ord [(0,4),(1,4),(2,4),(3,4),(4,4),(5,0),(6,4),(7,0),(8,4),(9,4),(10,4),(11,4),(12,4),(13,0),(14,4),(15,0),(16,4),(17,2)] 4 (fun w3=>Below w.heap.size w w3) (by kernel_rfl) (by kernel_rfl) (Below.refl _ _).drew ?_
     iterate 3 (refine Ord.still _ rfl rfl (fun w=>by go_simp; rfl) ?_; go_simp)
     refine Ord.still (.pointer (some ⟨B,off+i * 3,none⟩)) rfl rfl (fun w=>by go_simp) ?_
     go_simp
     refine Ord.still _ rfl rfl (fun w=>by go_simp; rfl) ?_
     go_simp
     refine Ord.pure (.int .i64 x.f1) rfl rfl (fun w hw=>ex_load rfl (load_one (by kernel_rfl) (HRW.out w hw 1 (by decide)))) ?_
     go_simp
     refine Ord.still _ rfl rfl (fun w=>by go_simp; rfl) ?_
     go_simp
     refine Ord.pure (.int .i64 x0) rfl rfl (fun w hw=>ex_load rfl (load_one (by kernel_rfl) (HLW.out w hw 1))) ?_
     go_simp
     refine Ord.still (.int .i64 (max x.f1 x0)) rfl rfl (fun w=>?_) ?_
     ·go_simp
      omega
     go_simp
     iterate 2 (refine Ord.still _ rfl rfl (fun w=>by go_simp; rfl) ?_; go_simp)
     refine Ord.still (.pointer (some ⟨B,off+i * 3,none⟩)) rfl rfl (fun w=>by go_simp) ?_
     go_simp
     refine Ord.still _ rfl rfl (fun w=>by go_simp; rfl) ?_
     go_simp
     refine Ord.pure (.int .i64 x.f2) rfl rfl (fun w hw=>ex_load rfl (load_one (by kernel_rfl) (HRW.out w hw 2 (by decide)))) ?_
     go_simp
     refine Ord.still _ rfl rfl (fun w=>by go_simp; rfl) ?_
     go_simp
     refine Ord.pure (.int .i64 x1) rfl rfl (fun w hw=>ex_load rfl (load_one (by kernel_rfl) (HLW.out w hw 2))) ?_
     go_simp
     refine Ord.still (.int .i64 (min x.f2 x1)) rfl rfl (fun w=>?_) ?_
     ·go_simp
      omega
     go_simp
     refine Ord.eff (fun u=>u=.tuple #[]) (fun _ w'=>∃ w3,Below w.heap.size w w3∧Chg (·=p) w3 w'∧I (rnsL y x0 x1 (l.drop (i+1))) w') (by decide) rfl rfl (fun w3 hw=>.call f (#[.int .i64 (max x.f1 x0),.int .i64 (min x.f2 x1)]++caps) ?_ ?_) (fun h=>by cases h) ?_
     ·have:=callable_run hf (#[.int .i64 (max x.f1 x0),.int .i64 (min x.f2 x1)]++caps) w3
      go_simp
     ·refine (HST.out _ _ w3 (HF.out.1.trans (Chg.of hw)) (HKP.out _ _ _ HF.out.2.1 hw)).mono ?_
      rintro e w' ⟨rfl,h1,h2⟩
      exact ⟨_,rfl,rfl,w3,hw,h1,h2⟩
     rintro u rfl w' ⟨w3,hw,h1,h2⟩
     have HF2:=aside (show _∧_∧_ from ⟨(h1.block _ (heap_lt (keep hw HAW.out)) HPN.out).trans (keep hw HAW.out),HF.out.1.trans ((Chg.of hw).trans h1),h2⟩)
     have HWK:=aside (wrap_suc hil (Nat.le_trans hl (by decide)))
     clear hw h1 h2
     go_wp2
     obtain ⟨g0,rfl⟩:∃ g0,gk=g0+1:=⟨gk - 1,by have:=HGI.out; omega⟩
     go_roundg g0
     case measure=>exact Nat.lt_succ_self _
     case rel=>exact ⟨i+1,rfl,by have:=HGI.out; omega,HF2.out⟩
    ·have e2:decide (x.f1 < x1)=false:=by simpa using h2
     have HN:=HI2.out
     rw [if_neg (fun h=>h2 h.2)] at HN
     have HN2:=aside HN
     clear HN h1
     go_wp2_with (with_reducible apply halt_region 2)
     refine wp_region_ord [(0,4),(1,4),(2,4),(3,4),(4,4),(5,4),(6,4),(7,4),(8,4),(9,0),(10,4),(11,0),(12,4),(13,4),(14,4),(15,4),(16,4),(17,4),(18,4),(19,0),(20,4),(21,0),(22,4),(23,4)] 4 (fun w=>Below wr.heap.size wr w) (by kernel_rfl) (by kernel_rfl) (Below.refl _ _).drew ?_
     iterate 7 (refine Ord.still _ rfl rfl (fun w=>by go_simp; rfl) ?_; go_simp)
     refine Ord.still (.pointer (some ⟨B,off+i * 3,none⟩)) rfl rfl (fun w=>by go_simp) ?_
     go_simp
     refine Ord.still _ rfl rfl (fun w=>by go_simp; rfl) ?_
     go_simp
     refine Ord.pure (.int .i64 x.f0) rfl rfl (fun w hw=>ex_load rfl (load_one (by kernel_rfl) (HR.out w hw 0 (by decide)))) ?_
     go_simp
     refine Ord.still _ rfl rfl (fun w=>by go_simp; rfl) ?_
     go_simp
     refine Ord.pure (.int .i64 y) rfl rfl (fun w hw=>ex_load rfl (load_one (by kernel_rfl) (HLS.out w hw 0))) ?_
     go_simp
     iterate 5 (refine Ord.still _ rfl rfl (fun w=>by go_simp; rfl) ?_; go_simp)
     refine Ord.still (.pointer (some ⟨B,off+i * 3,none⟩)) rfl rfl (fun w=>by go_simp) ?_
     go_simp
     refine Ord.still _ rfl rfl (fun w=>by go_simp; rfl) ?_
     go_simp
     refine Ord.pure (.int .i64 x.f1) rfl rfl (fun w hw=>ex_load rfl (load_one (by kernel_rfl) (HR.out w hw 1 (by decide)))) ?_
     go_simp
     refine Ord.still _ rfl rfl (fun w=>by go_simp; rfl) ?_
     go_simp
     refine Ord.pure (.int .i64 x1) rfl rfl (fun w hw=>ex_load rfl (load_one (by kernel_rfl) (HLS.out w hw 2))) ?_
     go_simp
     iterate 2 (refine Ord.still _ rfl rfl (fun w=>by go_simp; rfl) ?_; go_simp)
     intro w hw
     have HF:=aside (show _∧_ from ⟨HW.out.trans (Chg.of hw),HKP.out _ _ _ HN2.out hw⟩)
     clear hw
     go_wp2
     go_end0
     exact ⟨rfl,HF.out⟩
   ·have e1:(x.f0 == y)=false:=by simpa using h1
    have h2:¬ (x.f0=y∧x.f1 < x1):=fun h=>h1 h.1
    have HN:=HI2.out
    rw [if_neg h2] at HN
    have HN2:=aside HN
    clear HN h2 h1
    go_wp2_with (with_reducible apply halt_region 2)
    refine wp_region_ord [(0,4),(1,4),(2,4),(3,4),(4,4),(5,4),(6,4),(7,4),(8,4),(9,0),(10,4),(11,0),(12,4),(13,4),(14,4),(15,4),(16,4),(17,4),(18,4),(19,4),(20,4),(21,4),(22,4),(23,4)] 4 (fun w=>Below wr.heap.size wr w) (by kernel_rfl) (by kernel_rfl) (Below.refl _ _).drew ?_
    iterate 7 (refine Ord.still _ rfl rfl (fun w=>by go_simp; rfl) ?_; go_simp)
    refine Ord.still (.pointer (some ⟨B,off+i * 3,none⟩)) rfl rfl (fun w=>by go_simp) ?_
    go_simp
    refine Ord.still _ rfl rfl (fun w=>by go_simp; rfl) ?_
    go_simp
    refine Ord.pure (.int .i64 x.f0) rfl rfl (fun w hw=>ex_load rfl (load_one (by kernel_rfl) (HR.out w hw 0 (by decide)))) ?_
    go_simp
    refine Ord.still _ rfl rfl (fun w=>by go_simp; rfl) ?_
    go_simp
    refine Ord.pure (.int .i64 y) rfl rfl (fun w hw=>ex_load rfl (load_one (by kernel_rfl) (HLS.out w hw 0))) ?_
    go_simp
    iterate 3 (refine Ord.still _ rfl rfl (fun w=>by go_simp; rfl) ?_; go_simp)
    iterate 8 (refine Ord.skip4 rfl rfl ?_; go_simp)
    refine Ord.still _ rfl rfl (fun w=>by go_simp; rfl) ?_
    go_simp
    intro w hw
    have HF:=aside (show _∧_ from ⟨HW.out.trans (Chg.of hw),HKP.out _ _ _ HN2.out hw⟩)
    clear hw
    go_wp2
    go_end0
    exact ⟨rfl,HF.out⟩
  ·have hil':¬ (i:Int) < (l.length:Int):=fun h=>hil (Int.ofNat_lt.1 h)
   have HN:=HI.out
   rw [List.drop_eq_nil_of_le (Nat.le_of_not_lt hil)] at HN
   have HN2:=aside (show I [] wr from HN)
   clear HN
   go_wp2_with (with_reducible apply halt_region 2)
   refine wp_region_ord [(0,4),(1,4),(2,4),(3,4),(4,4),(5,4),(6,4),(7,4),(8,4),(9,4),(10,4),(11,4),(12,4),(13,4),(14,4),(15,4),(16,4),(17,4),(18,4),(19,4),(20,4),(21,4),(22,4),(23,4)] 4 (fun w=>Below wr.heap.size wr w) (by kernel_rfl) (by kernel_rfl) (Below.refl _ _).drew ?_
   iterate 5 (refine Ord.still _ rfl rfl (fun w=>by go_simp; rfl) ?_; go_simp)
   iterate 8 (refine Ord.skip4 rfl rfl ?_; go_simp)
   iterate 2 (refine Ord.still _ rfl rfl (fun w=>by go_simp; rfl) ?_; go_simp)
   iterate 8 (refine Ord.skip4 rfl rfl ?_; go_simp)
   refine Ord.still _ rfl rfl (fun w=>by go_simp; rfl) ?_
   go_simp
   intro w hw
   have HF:=aside (show _∧_ from ⟨HW.out.trans (Chg.of hw),HKP.out _ _ _ HN2.out hw⟩)
   clear hw
   go_wp2
   go_end0
   exact ⟨rfl,HF.out⟩
end Go.Vm.TopG
