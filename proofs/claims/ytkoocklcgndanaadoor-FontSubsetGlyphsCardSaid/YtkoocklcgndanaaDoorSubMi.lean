/-
  FONT SUBSET,PLAIN,part 9: what Subset returns; the law.
-/
import Derived.Test.YtkoocklcgndanaaDoorSubMh
import Derived.Test.YtkoocklcgndanaaDoorSubR
namespace Go.Vm.SubG
section
variable {a0:S_Font} {F:Nat}
theorem subset_eq (hF:1200000≤F) (g:FontFull a0) (hck:font_Check F a0=some 0) (q:Int→Int) (hq:∀ c,font_find F a0 c=some (q c)) (hglo:∀ c,Glo a0.f2 c (q c)) (a1:List Int) (hl:a1.length≤1024) :
  ∃ (c:List Bool) (num:List Int) (rs:List S_FontRange),SubOk a0 c num rs∧rs.length≤a1.length∧(∀ x,kpt c x=true↔(dsc (fpar a0) a0.f1.length 0 x=true∨∃ d∈a1,dsc (fpar a0) a0.f1.length (q d).toNat x=true)) ∧
   font_Subset F a0 a1=some (if 64 < rs.length∨4096 < wsz (subF a0 c num rs) then (S_Font.mk 0 [] [] [],[],2) else (subF a0 c num rs,(kps c a0.f1.length).map Int.ofNat,0)):=by
 have ok:=g.good.ok
 have h128:=ok.len
 have hp:=g.pos
 have hro:RngOk (a0.f1.length:Int) a0.f2:=by
  refine rng_ok ?_
  have ht:=g.good.tab
  unfold tabE at ht
  cases hr:rngOut (a0.f1.length:Int) a0.f2 with
  | go u=>rfl
  | esc e =>
   rw [hr] at ht
   simp only at ht
   subst ht
   exact absurd hr (rng_esc _ _ _ 0)
 have hb:∀ c,0≤q c∧q c < (a0.f1.length:Int):=fun c=>(hglo c).bound hro (by omega)
 -- the codes
 let cs:List Int:=(Lib.compact (sortI a1)).filter (fun c => !(q c == 0))
 have hcl:(Lib.compact (sortI a1)).length≤a1.length:=by
  have:=compact_len (sortI a1)
  rw [sortI_len] at this
  exact this
 have hcsl:cs.length≤a1.length:=Nat.le_trans (List.length_filter_le _ _) hcl
 obtain ⟨hmem,hsort⟩:=compactI_ok a1
 have hcsm:∀ d,d∈cs↔d∈a1∧q d≠0:=by
  intro d
  show d∈(Lib.compact (sortI a1)).filter (fun c => !(q c == 0))↔_
  rw [List.mem_filter,hmem]
  simp
 have hcss:cs.Pairwise fun x y=>x < y:=hsort.filter _
 have hcsb:∀ d∈cs,0≤d∧d≤1114111:=by
  intro d hd
  have hn:=((hcsm d).1 hd).2
  rcases hglo d with ⟨k,x,hx,h1,h2,_⟩ | ⟨h0,_⟩
  ·have:=hro.each k x hx
   omega
  ·exact absurd h0 hn
 -- the marks
 obtain ⟨c1,m1,m2,m3⟩:=need_ok ok F (by omega) a0.f1.length F 0 (List.replicate a0.f1.length false) (good_dep g.good hp) (by omega) hp (by simp)
 obtain ⟨c,k1,k2,k3⟩:=mark_L0 g.good (by omega) hq hb (cs,a0.f0,a0.f1,a0.f2,a0.f3) (by show cs.length≤1024; omega) c1 m2
 have hkp:∀ x,kpt c x=true↔(dsc (fpar a0) a0.f1.length 0 x=true∨∃ d∈a1,dsc (fpar a0) a0.f1.length (q d).toNat x=true):=by
  intro x
  have e0:(List.replicate a0.f1.length false).getD x false=false:=by
   rw [List.getD_eq_getElem?_getD,List.getElem?_replicate]
   split <;> rfl
  unfold kpt
  rw [k3,m3,e0,Bool.false_or,Bool.or_eq_true,List.any_eq_true]
  constructor
  ·rintro (h | ⟨d,hd,h⟩)
   ·exact .inl h
   ·exact .inr ⟨d,((hcsm d).1 hd).1,h⟩
  ·rintro (h | ⟨d,hd,h⟩)
   ·exact .inl h
   ·by_cases h0:q d=0
    ·rw [h0] at h
     exact .inl h
    ·exact .inr ⟨d,(hcsm d).2 ⟨hd,h0⟩,h⟩
 have hself:∀ x,x < a0.f1.length→dsc (fpar a0) a0.f1.length x x=true:=by
  intro x hx
  obtain ⟨k,hk⟩:∃ k,a0.f1.length=k+1:=⟨a0.f1.length - 1,by omega⟩
  rw [hk,dsc]
  simp
 have hclosed:∀ x,kpt c x=true→∀ y∈fpar a0 x,kpt c y=true:=by
  intro x hx y hy
  rw [hkp] at hx ⊢
  rcases hx with h | ⟨d,hd,h⟩
  ·exact .inl (dsc_step (n:=a0.f1.length) _ _ _ _ (good_dep g.good hp) h hy)
  ·exact .inr ⟨d,hd,dsc_step (n:=a0.f1.length) _ _ _ _ (good_dep g.good (by have:=hb d; omega)) h hy⟩
 have hzero:kpt c 0=true:=(hkp 0).2 (.inl (hself 0 hp))
 obtain ⟨num,n1,n2,n3⟩:=number_L2 (F:=F) (by omega) c a0.f1.length k2 h128
 have hm:rk c a0.f1.length≤128:=Nat.le_trans (kps_len c _) h128
 obtain ⟨rs,r1,r2,r3⟩:=ranges_L10 (a0:=a0) (by omega) hq (cs,a0.f0,a0.f1,a0.f2,a0.f3) (by show cs.length≤1024; omega) hcss hcsb num (rk c a0.f1.length) hm (fun d hd=>by
  have hbd:=hb d
  have hk:kpt c (q d).toNat=true:=(hkp _).2 (.inr ⟨d,((hcsm d).1 hd).1,hself _ (by omega)⟩)
  have hlt:(q d).toNat < a0.f1.length:=by omega
  have:=rk_lt c hlt hk
  rw [n3 _ hlt hk]
  omega)
 have hsub:SubOk a0 c num rs:=⟨k2,hzero,hclosed,n2,n3,r2⟩
 refine ⟨c,num,rs,hsub,Nat.le_trans r3 hcsl,hkp,?_⟩
 have hchk:=sub_check F (by omega) g hsub
 have hkern:∀ k∈a0.f3,0≤k.f0∧k.f0 < (a0.f1.length:Int)∧0≤k.f1∧k.f1 < (a0.f1.length:Int):=by
  have ht:=g.good.tab
  unfold tabE at ht
  rw [rng_go hro] at ht
  cases hk:krnOut (a0.f1.length:Int) a0.f3 with
  | go u=>exact fun k hk'=>(krn_each hk k hk').1
  | esc e =>
   rw [hk] at ht
   simp only at ht
   subst ht
   exact absurd hk (krn_esc _ _ _ 0)
 unfold font_Subset
 rw [hck,call_some]
 simp only [bne_self_eq_false,cond_false]
 rw [show decide ((a1.length:Int) > 1024)=false by simp; omega,cond_false,chk_pos ⟨by omega,by omega,by omega,by omega⟩,Int.toNat_natCast]
 have m1':font_Subset_c1 F 0 (List.replicate a0.f1.length false) a0.f0 a0.f1 a0.f2 a0.f3=some (c1,a0.f0,a0.f1,a0.f2,a0.f3):=m1
 rw [m1',call_some]
 simp only [slices_Clone_int]
 rw [chk_pos (by simp; omega),call_some,chk_pos (by simp; omega),List.nil_append,chk_pos (by rw [sortI_len]; omega),delete_eq hq _ (by omega) (by omega),call_some]
 simp only []
 have k1':font_Subset_L0 F (cs,a0.f0,a0.f1,a0.f2,a0.f3) F a0.f0 a0.f1 a0.f2 a0.f3 c1 0=some (a0.f0,a0.f1,a0.f2,a0.f3,c):=k1
 rw [k1',call_some]
 simp only []
 rw [chk_pos ⟨by omega,by omega,by omega,by omega⟩,Int.toNat_natCast,n1,call_some]
 simp only []
 rw [glyphs_L4 (by omega) (kps c a0.f1.length) num ok (fun x hx=>(kps_mem.1 hx).1) hm n2,call_some]
 have r1':font_Subset_L10 F (cs,a0.f0,a0.f1,a0.f2,a0.f3) a0.f0 a0.f1 a0.f2 a0.f3 num F [] 0=some rs:=r1
 rw [r1',call_some,pairs_L12 (by omega) c num a0.f1.length k2 n2 a0.f3 g.good.kern hkern,call_some]
 change call (font_Check F (subF a0 c num rs)) _=_
 rw [hchk,call_some]
 by_cases hbad:64 < rs.length∨4096 < wsz (subF a0 c num rs)
 ·rw [if_pos hbad,if_pos hbad]
  rfl
 ·rw [if_neg hbad,if_neg hbad]
  rfl
end
theorem font_fact3:law3_fontFact 1200000=some true:=by decide +kernel
theorem equal_refl (F:Nat) (l:List Int) (hl:l.length≤1000) (hF:2000≤F):slices_Equal_int F l l=some true:=by
 unfold slices_Equal_int
 rw [bne_self_eq_false,cond_false]
 have:=range_tot l (fun n (_:Unit) i=>slices_Equal_int_L0 F l l n i) (fun _ _ _=>.inl ()) (fun _=>(Out.go ():Out Unit Bool)) (fun _ _=>True) (fun n s i x hx _=>by
  have hi:=lt_of_get hx
  refine ⟨?_,fun _ _=>trivial⟩
  simp only [slices_Equal_int_L0,dec_lt hi,cond_true,chk_in hi,bne_self_eq_false,cond_false]
  rw [wrap_succ (by omega)]) (fun n s _=>by simp only [slices_Equal_int_L0,dec_end,cond_false]) F (by omega) () trivial
 rw [this]
 have e:∀ (xs:List Int) (i:Nat),runT (fun _ (_:Int) (_:Unit)=>(.inl ():Unit ⊕ Out Unit Bool)) (fun _=>(Out.go ():Out Unit Bool)) i xs ()=.go ():=by
  intro xs
  induction xs with
  | nil=>intro i; rfl
  | cons x xs ih=>intro i; rw [runT]; exact ih (i+1)
 rw [e]
 rfl
theorem kps_cut (c:List Bool) (n:Nat) (hc:∀ x,kpt c x=true→x < n):∀ j,kps c (n+j)=kps c n
 | 0=>rfl
 | j+1=>by
  rw [← Nat.add_assoc,kps_succ,kps_cut c n hc j,if_neg,List.append_nil]
  intro h
  have:=hc _ h
  omega
theorem kps_congr {c d:List Bool} (h:∀ x,kpt c x=true↔kpt d x=true) (n:Nat):kps c n=kps d n:=by
 unfold kps
 refine List.filter_congr fun x _=>?_
 have:=h x
 cases h1:kpt c x <;> cases h2:kpt d x <;> simp_all
theorem numbers_L0 (F:Nat) (hF:1000≤F) (v:List Bool) (hv:v.length=128):law3_FontSubsetGlyphs_L0 F v F [] 0=some ((kps v 128).map Int.ofNat):=by
 obtain ⟨s,e,h1⟩:=range_ex (σ:=List Int) v (fun n s i=>law3_FontSubsetGlyphs_L0 F v n s i) (fun i s=>s=(kps v i).map Int.ofNat)
  (fun n s i b hb hi=>by
   subst hi
   have hil:=lt_of_get hb
   have hk:kpt v i=b:=getD_of hb
   have hlen:=kps_len v i
   have h128:decide ((i:Int) < 128)=true:=by simp; omega
   simp only [law3_FontSubsetGlyphs_L0,Int.toNat_natCast,h128,cond_true,getD_of hb]
   rw [chk_pos ⟨⟨by omega,by omega⟩,hv⟩]
   cases b
   ·rw [cond_false,call_some,wrap_succ (by omega)]
    exact ⟨_,rfl,by rw [kps_succ,hk]; simp⟩
   ·rw [cond_true,chk_pos (by simp; omega),call_some,wrap_succ (by omega)]
    exact ⟨_,rfl,by rw [kps_succ,hk]; simp⟩)
  (fun n s hi=>by
   simp only [law3_FontSubsetGlyphs_L0]
   rw [show decide ((v.length:Int) < 128)=false by simp; omega,cond_false]) F (by omega) [] rfl
 rw [h1,hv] at e
 exact e
theorem subset_law (a0:S_Font) (a1:List Int):law3_FontSubsetGlyphs 1200000 a0 a1=some true:=by
 obtain ⟨e,h1,h2,h3⟩:=check_eq 1200000 (by omega) a0
 unfold law3_FontSubsetGlyphs
 rw [font_fact3,call_some]
 simp only [Bool.not_true,cond_false]
 by_cases he:e=0
 ·subst he
  have g:=check_full 1200000 (by omega) a0 h1
  by_cases hl:a1.length≤1024
  ·have h128:=g.good.ok.len
   have hro:RngOk (a0.f1.length:Int) a0.f2:=by
    refine rng_ok ?_
    have ht:=g.good.tab
    unfold tabE at ht
    cases hr:rngOut (a0.f1.length:Int) a0.f2 with
    | go u=>rfl
    | esc e =>
     rw [hr] at ht
     simp only at ht
     subst ht
     exact absurd hr (rng_esc _ _ _ 0)
   have hfind:∀ c,font_find 1200000 a0 c=some ((font_find 1200000 a0 c).getD 0)∧Glo a0.f2 c ((font_find 1200000 a0 c).getD 0):=by
    intro c
    obtain ⟨r,hr,hg⟩:=find_eq 1200000 (by omega) (by omega) hro g.good.maps c
    rw [hr]
    exact ⟨rfl,hg⟩
   have hq:=fun c=>(hfind c).1
   have hglo:=fun c=>(hfind c).2
   have hgof:∀ c,ref3_GlyphOf 1200000 a0 c=some ((font_find 1200000 a0 c).getD 0):=by
    intro c
    obtain ⟨r,hr,hg⟩:=GlyphOf_eq 1200000 (by omega) (by omega) hro g.good.maps c
    rw [hr,Glo.uniq hro hg (hglo c)]
   obtain ⟨c,num,rs,hs,hrs,hkp,hsub⟩:=subset_eq (Nat.le_refl _) g h1 _ hq hglo a1 hl
   rw [hsub,call_some,h2,call_some]
   rw [show (bif ((0:Int) == 0) then decide ((a1.length:Int) > 1024) else false)=false by simp; omega,cond_false,call_some]
   simp only [bne_self_eq_false,cond_false]
   by_cases hbad:64 < rs.length∨4096 < wsz (subF a0 c num rs)
   ·rw [if_pos hbad]
    simp only []
    rw [show ((2:Int) != 0)=true from rfl,cond_true]
    obtain ⟨l,hw,hwl⟩:=written_ex 1200000 (by omega) g.good.ok g.good.maps g.good.kern
    have henc:font_Encode 1200000 a0=some (l,0):=by
     unfold font_Encode
     rw [h1,call_some]
     simp only [bne_self_eq_false,cond_false]
     rw [hw,call_some]
    rw [henc,call_some,lett_eq,lett_eq]
    have hsz:=sub_size hs
    have hz:(bif decide ((a1.length:Int) > 64) then true else decide ((l.length:Int) > 3596))=true:=by
     rw [or_cond,Bool.or_eq_true,decide_eq_true_eq,decide_eq_true_eq]
     by_cases h64:64 < rs.length
     ·left; omega
     ·right
      have:4096 < wsz (subF a0 c num rs):=by omega
      unfold wsz at hsz this
      omega
    rw [hz]
    rfl
   ·rw [if_neg hbad]
    simp only [bne_self_eq_false,cond_false]
    have hb:∀ c,0≤(font_find 1200000 a0 c).getD 0∧(font_find 1200000 a0 c).getD 0 < (a0.f1.length:Int):=fun c=>(hglo c).bound hro (by have:=g.pos; omega)
    obtain ⟨v,v1,v2,v3⟩:=needed_eq (F:=1200000) (by omega) g.good g.pos hgof hb a1 hl
    rw [v1,call_some,numbers_L0 1200000 (by omega) v v2,call_some]
    have hcv:∀ x,kpt v x=true↔kpt c x=true:=fun x=>(v3 x).trans (hkp x).symm
    have hk:kps v 128=kps c a0.f1.length:=by
     rw [kps_congr hcv]
     obtain ⟨j,hj⟩:∃ j,128=a0.f1.length+j:=⟨128 - a0.f1.length,by omega⟩
     rw [hj,kps_cut c a0.f1.length (fun x hx=>hs.lt hx)]
    rw [hk,equal_refl _ _ (by rw [List.length_map]; have:=kps_len c a0.f1.length; omega) (by omega),call_some,cond_true]
    rw [sub_len,List.length_map]
    show some (((rk c a0.f1.length:Nat):Int) == ((rk c a0.f1.length:Nat):Int))=some true
    rw [beq_self_eq_true]
  ·have hbig:decide ((a1.length:Int) > 1024)=true:=by simp; omega
   have hsub:font_Subset 1200000 a0 a1=some (S_Font.mk 0 [] [] [],[],2):=by
    unfold font_Subset
    rw [h1,call_some]
    simp only [bne_self_eq_false,cond_false]
    rw [hbig,cond_true]
   rw [hsub,call_some,h2,call_some,hbig]
   rfl
 ·have hne:(e != 0)=true:=by simpa using he
  have hne2:(e == 0)=false:=by simpa using he
  have hsub:font_Subset 1200000 a0 a1=some (S_Font.mk 0 [] [] [],[],e):=by
   unfold font_Subset
   rw [h1,call_some,hne,cond_true]
  rw [hsub,call_some,h2,call_some,hne2,cond_false,cond_false,call_some,hne,cond_true,beq_self_eq_true,cond_true]
  rfl
end Go.Vm.SubG
