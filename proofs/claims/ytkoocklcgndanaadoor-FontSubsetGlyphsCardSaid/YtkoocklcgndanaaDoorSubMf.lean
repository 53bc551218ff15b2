/-
  FONT SUBSET,PLAIN,part 6: the ranges of the subset.
-/
import Derived.Test.YtkoocklcgndanaaDoorSubMe
namespace Go.Vm.SubG
theorem runT_all {α:Type} (f:Nat→α→Unit→Unit ⊕ Out Unit Int):∀ (l:List α) (i:Nat),(∀ j x,l[j]? = some x→f (i+j) x ()=.inl ())→runT f (fun _=>Out.go ()) i l ()=.go ()
 | [],_,_=>rfl
 | x :: l,i,h=>by
  rw [runT,show f i x ()=.inl () by simpa using h 0 x rfl]
  exact runT_all f l (i+1) fun j y hy=>by
   have:=h (j+1) y (by simpa using hy)
   rwa [show i+(j+1)=i+1+j by omega] at this
theorem rng_go {n:Int} {l:List S_FontRange} (h:RngOk n l):rngOut n l=.go ():=by
 refine runT_all _ l 0 fun j x hx=>?_
 rw [Nat.zero_add]
 have he:=h.each j x hx
 unfold rngF
 rw [if_neg (by simp; omega),if_neg (by simp; omega)]
 by_cases h0:0 < j
 ·have hj:j - 1 < l.length:=by have:=lt_of_get hx; omega
  have h1:=h.sorted (j - 1) j _ x (by omega) (List.getElem?_eq_getElem hj) hx
  have h2:(l.getD (j - 1) (S_FontRange.mk 0 0 0)).f1 < x.f0:=by rw [getD_of (List.getElem?_eq_getElem hj)]; exact h1
  rw [if_neg]
  rw [Bool.and_eq_true,decide_eq_true_eq,decide_eq_true_eq]
  omega
 ·rw [if_neg]
  rw [Bool.and_eq_true,decide_eq_true_eq,decide_eq_true_eq]
  omega
/-- A range is put behind the others. -/
theorem RngOk.push {n:Int} {l:List S_FontRange} (h:RngOk n l) {c g:Int} (hc:0≤c∧c≤1114111) (hg:0≤g∧g < n) (hlt:∀ x∈l,x.f1 < c):RngOk n (l++[⟨c,c,g⟩]):=by
 refine ⟨fun i x hx=>?_,fun i j x y hij hx hy=>?_⟩
 ·by_cases hi:i < l.length
  ·rw [List.getElem?_append_left hi] at hx
   exact h.each i x hx
  ·rw [List.getElem?_append_right (by omega)] at hx
   have:i - l.length=0:=by have:=lt_of_get hx; simp at this; omega
   rw [this] at hx
   cases hx
   simp only
   omega
 ·have hjl:=lt_of_get hy
  simp at hjl
  have hi:i < l.length:=by omega
  rw [List.getElem?_append_left hi] at hx
  by_cases hj:j < l.length
  ·rw [List.getElem?_append_left hj] at hy
   exact h.sorted i j x y hij hx hy
  ·rw [List.getElem?_append_right (by omega),show j - l.length=0 by omega] at hy
   cases hy
   exact hlt x (List.mem_of_getElem? hx)
/-- The last range grows. -/
theorem RngOk.grow {n:Int} {l:List S_FontRange} {z:S_FontRange} (h:RngOk n (l++[z])) {c:Int} (hc:z.f1≤c∧c≤1114111) (hg:z.f2+c - z.f0 < n):RngOk n (l++[⟨z.f0,c,z.f2⟩]):=by
 have hz:=h.each l.length z (by simp)
 refine ⟨fun i x hx=>?_,fun i j x y hij hx hy=>?_⟩
 ·by_cases hi:i < l.length
  ·rw [List.getElem?_append_left hi] at hx
   exact h.each i x (by rw [List.getElem?_append_left hi]; exact hx)
  ·rw [List.getElem?_append_right (by omega)] at hx
   have:i - l.length=0:=by have:=lt_of_get hx; simp at this; omega
   rw [this] at hx
   cases hx
   simp only
   omega
 ·have hjl:=lt_of_get hy
  simp at hjl
  have hi:i < l.length:=by omega
  rw [List.getElem?_append_left hi] at hx
  have hx':(l++[z])[i]? = some x:=by rw [List.getElem?_append_left hi]; exact hx
  by_cases hj:j < l.length
  ·rw [List.getElem?_append_left hj] at hy
   exact h.sorted i j x y hij hx' (by rw [List.getElem?_append_left hj]; exact hy)
  ·rw [List.getElem?_append_right (by omega),show j - l.length=0 by omega] at hy
   cases hy
   exact h.sorted i l.length x z (by omega) hx' (by simp)
section
variable {a0:S_Font} {F:Nat} {q:Int→Int}
theorem ranges_L10 (hF:2000≤F) (hq:∀ c,font_find F a0 c=some (q c)) (y1:(List Int)×Int×(List S_FontGlyph)×(List S_FontRange)×(List S_FontPair)) (hl:y1.1.length≤1024) (hs:y1.1.Pairwise fun x y=>x < y) (hc:∀ c∈y1.1,0≤c∧c≤1114111) (num:List Int) (m:Nat) (hm:m≤128)
  (hn:∀ c∈y1.1,0≤q c∧q c < (num.length:Int)∧0≤num.getD (q c).toNat 0∧num.getD (q c).toNat 0 < (m:Int)) :
  ∃ l,font_Subset_L10 F y1 a0.f0 a0.f1 a0.f2 a0.f3 num F [] 0=some l∧RngOk m l∧l.length≤y1.1.length:=by
 obtain ⟨s,e,h1,h2,_⟩:=range_ex (σ:=List S_FontRange) y1.1 (fun n s i=>font_Subset_L10 F y1 a0.f0 a0.f1 a0.f2 a0.f3 num n s i)
  (fun i s=>RngOk m s∧s.length≤i∧∀ x∈s,∀ j c,i≤j→y1.1[j]? = some c→x.f1 < c)
  (fun n s i c hx hi=>by
   obtain ⟨i1,i2,i3⟩:=hi
   have hil:=lt_of_get hx
   have hcm:=List.mem_of_getElem? hx
   obtain ⟨n1,n2,n3,n4⟩:=hn c hcm
   have hcb:=hc c hcm
   have hmk:(S_Font.mk a0.f0 a0.f1 a0.f2 a0.f3)=a0:=rfl
   have hafter:∀ j d,i+1≤j→y1.1[j]? = some d→c < d:=by
    intro j d hj hd
    have hjl:=lt_of_get hd
    have:=List.pairwise_iff_getElem.1 hs i j hil hjl (by omega)
    rw [List.getElem?_eq_getElem hil] at hx
    rw [List.getElem?_eq_getElem hjl] at hd
    cases hx; cases hd
    exact this
   simp only [font_Subset_L10,Int.toNat_natCast,getD_of hx,dec_lt hil,cond_true,chk_in hil,hmk,hq,call_some]
   rw [chk_pos ⟨n1,n2⟩]
   have happ:∃ s',(call (chk (s.length+([(S_FontRange.mk c c (num.getD (q c).toNat 0))]).length≤4294967296) <| lett ((s++([(S_FontRange.mk c c (num.getD (q c).toNat 0))]))) fun l2=>some l2) fun v29=>font_Subset_L10 F y1 a0.f0 a0.f1 a0.f2 a0.f3 num n v29 (IntKind.i64.wrap ((i:Int)+1)))=font_Subset_L10 F y1 a0.f0 a0.f1 a0.f2 a0.f3 num n s' ((i+1:Nat):Int) ∧
     RngOk m s'∧s'.length≤i+1∧∀ x∈s',∀ j d,i+1≤j→y1.1[j]? = some d→x.f1 < d:=by
    rw [chk_pos (by simp; omega),lett_eq,call_some,wrap_succ (by omega)]
    refine ⟨_,rfl,i1.push hcb ⟨n3,n4⟩ (fun x hx'=>i3 x hx' i c (Nat.le_refl _) hx),by simp; omega,fun x hx' j d hj hd=>?_⟩
    rcases List.mem_append.1 hx' with h | h
    ·exact i3 x h j d (by omega) hd
    ·rw [List.mem_singleton.1 h]
     exact hafter j d hj hd
   rcases List.eq_nil_or_concat s with rfl | ⟨s0,z,rfl⟩
   ·rw [chk_pos (by intro h; cases h),lett_eq,chk_pos (by intro h; cases h),lett_eq,chk_pos (by intro h; cases h),lett_eq,lett_eq]
    exact happ
   ·rw [List.concat_eq_append] at *
    have hz:=i1.each s0.length z (by simp)
    have hzc:z.f1 < c:=i3 z (by simp) i c (Nat.le_refl _) hx
    have hlen:(s0++[z]).length=s0.length+1:=by simp
    have hw:IntKind.i64.wrap (((s0++[z]).length:Int) - 1)=(s0.length:Int):=by rw [hlen,wrap_id (by omega)]; omega
    have hgz:(s0++[z]).getD s0.length (S_FontRange.mk 0 0 0)=z:=getD_of (by simp)
    have hb2:s0.length < (s0++[z]).length:=by omega
    simp only [hw,Int.toNat_natCast,hgz,lett_eq]
    rw [chk_pos (fun _=>⟨by omega,by omega⟩),chk_pos (fun _=>⟨by omega,by omega⟩),chk_pos (fun _=>⟨by omega,by omega⟩),show decide (((s0++[z]).length:Int) > 0)=true by rw [decide_eq_true_eq]; omega,cond_true,and_cond,
     wrap_id (x:=c - 1) (by omega),wrap_id (x:=z.f2+c) (by omega),wrap_id (x:=z.f2+c - z.f0) (by omega)]
    cases hz9:(z.f1 == c - 1 && z.f2+c - z.f0 == num.getD (q c).toNat 0)
    ·rw [cond_false]
     exact happ
    ·rw [cond_true,chk_pos ⟨by omega,by omega⟩,call_some,wrap_succ (by omega)]
     rw [Bool.and_eq_true,beq_iff_eq,beq_iff_eq] at hz9
     have hset:(s0++[z]).set s0.length (S_FontRange.mk z.f0 c z.f2)=s0++[S_FontRange.mk z.f0 c z.f2]:=by
      rw [List.set_append_right _ _ (Nat.le_refl _)]
      simp
     refine ⟨_,rfl,?_,by simp; omega,fun x hx' j d hj hd=>?_⟩
     ·rw [hset]
      exact i1.grow ⟨by omega,hcb.2⟩ (by omega)
     ·rw [hset] at hx'
      rcases List.mem_append.1 hx' with h | h
      ·exact i3 x (List.mem_append_left _ h) j d (by omega) hd
      ·rw [List.mem_singleton.1 h]
       exact hafter j d hj hd)
  (fun n s hi=>by
   simp only [font_Subset_L10]
   rw [dec_end,cond_false]) F (by omega) [] ⟨⟨fun i x h=>by simp at h,fun i j x y _ h=>by simp at h⟩,by simp,fun x h=>by simp at h⟩
 exact ⟨s,e,h1,h2⟩
end
end Go.Vm.SubG
