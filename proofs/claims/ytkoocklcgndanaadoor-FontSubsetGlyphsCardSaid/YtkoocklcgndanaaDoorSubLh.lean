/-
  FONT,PLAIN,part 9: the glyph of a code,and the kerning of two glyphs.
-/
import Derived.Test.YtkoocklcgndanaaDoorSubLg
namespace Go.Vm.SubG
/-! ### Binary search -/
theorem mid_eq {i j:Nat} (h:i+j < 1000000):IntKind.i64.wrap ((IntKind.u64.wrap (IntKind.i64.wrap ((i:Int)+(j:Int)))).fdiv (2 ^ (min (1:Int).toNat IntKind.u64.bits)))=(((i+j) / 2:Nat):Int):=by
 rw [wrap_id (x:=(i:Int)+(j:Int)) (by omega),show IntKind.u64.wrap ((i:Int)+(j:Int))=(i:Int)+(j:Int) by rw [IntKind.wrap_u64]; omega,
  show ((2:Int) ^ (min (1:Int).toNat IntKind.u64.bits))=2 from rfl,Int.fdiv_eq_ediv_of_nonneg _ (by omega),wrap_id (by omega)]
 omega
theorem bsearch (len:Nat) (lt:Nat→Bool) (L:Nat→Int→Int→Option Int) (mono:∀ k k',k≤k'→k' < len→lt k'=true→lt k=true)
  (h1:∀ n i j:Nat,i < j→j≤len→L (n+1) i j=if lt ((i+j) / 2)=true then L n (((i+j) / 2+1:Nat):Int) j else L n i (((i+j) / 2:Nat):Int))
  (h2:∀ n i:Nat,L (n+1) i i=some (i:Int)) :
  ∀ (m n i j:Nat),j - i≤m→m < n→i≤j→j≤len→(∀ k < i,lt k=true)→(∀ k,j≤k→k < len→lt k=false)→∃ p:Nat,p≤len∧L n i j=some (p:Int)∧(∀ k < p,lt k=true)∧(∀ k,p≤k→k < len→lt k=false):=by
 intro m
 induction m with
 | zero =>
  intro n i j hm hn hij hj ha hb
  obtain ⟨n,rfl⟩:∃ k,n=k+1:=⟨n - 1,by omega⟩
  obtain rfl:i=j:=by omega
  exact ⟨i,hj,h2 n i,ha,hb⟩
 | succ m ih =>
  intro n i j hm hn hij hj ha hb
  obtain ⟨n,rfl⟩:∃ k,n=k+1:=⟨n - 1,by omega⟩
  by_cases he:i=j
  ·subst he
   exact ⟨i,hj,h2 n i,ha,hb⟩
  ·rw [h1 n i j (by omega) hj]
   by_cases hl:lt ((i+j) / 2)=true
   ·rw [if_pos hl]
    exact ih n _ j (by omega) (by omega) (by omega) hj (fun k hk=>mono k ((i+j) / 2) (by omega) (by omega) hl) hb
   ·rw [if_neg hl]
    refine ih n i _ (by omega) (by omega) (by omega) (by omega) ha fun k hk hkl=>?_
    cases hk2:lt k
    ·rfl
    ·exact absurd (mono _ k hk hkl hk2) hl
theorem runT_go {α ρ:Type} (f:Nat→α→Unit→Unit ⊕ Out Unit ρ) (hf:∀ i x r,f i x ()=.inr r→r≠.go ()):∀ (l:List α) (i:Nat),runT f (fun _=>Out.go ()) i l ()=.go ()→∀ j x,l[j]? = some x→f (i+j) x ()=.inl ()
 | [],_,_,j,x,hx=>by simp at hx
 | y :: l,i,h,j,x,hx=>by
  rw [runT] at h
  cases hy:f i y () with
  | inr r=>rw [hy] at h; exact absurd h (hf i y r hy)
  | inl u =>
   rw [hy] at h
   cases j with
   | zero =>
    simp only [List.getElem?_cons_zero,Option.some.injEq] at hx
    subst hx
    exact hy
   | succ j =>
    have:=runT_go f hf l (i+1) h j x (by simpa using hx)
    rwa [show i+1+j=i+(j+1) by omega] at this
/-! ### Ranges -/
structure RngOk (n:Int) (l:List S_FontRange):Prop where
 each:∀ (i:Nat) x,l[i]? = some x→0≤x.f0∧x.f0≤x.f1∧x.f1≤1114111∧0≤x.f2∧x.f2 < n∧x.f2+x.f1 - x.f0 < n
 sorted:∀ (i j:Nat) x y,i < j→l[i]? = some x→l[j]? = some y→x.f1 < y.f0
theorem rng_ok {n:Int} {l:List S_FontRange} (h:rngOut n l=.go ()):RngOk n l:=by
 have key:=runT_go (rngF n l) (fun i x r hr=>by
  unfold rngF at hr
  split at hr
  ·cases hr; exact fun h=>by cases h
  ·split at hr
   ·cases hr; exact fun h=>by cases h
   ·split at hr
    ·cases hr; exact fun h=>by cases h
    ·cases hr) l 0 h
 have each:∀ (i:Nat) x,l[i]? = some x→(0≤x.f0∧x.f0≤x.f1∧x.f1≤1114111∧0≤x.f2∧x.f2 < n∧x.f2+x.f1 - x.f0 < n)∧(0 < i→(l.getD (i - 1) (S_FontRange.mk 0 0 0)).f1 < x.f0):=by
  intro i x hx
  have:=key i x hx
  rw [Nat.zero_add] at this
  unfold rngF at this
  split at this
  ·cases this
  ·rename_i t1
   split at this
   ·cases this
   ·rename_i t2
    split at this
    ·cases this
    ·rename_i t3
     simp only [Bool.or_eq_true,Bool.and_eq_true,decide_eq_true_eq] at t1 t2 t3
     refine ⟨by omega,fun hi=>?_⟩
     by_cases hlt:(l.getD (i - 1) (S_FontRange.mk 0 0 0)).f1 < x.f0
     ·exact hlt
     ·exact absurd ⟨hi,by omega⟩ t3
 refine ⟨fun i x hx=>(each i x hx).1,fun i j=>?_⟩
 induction j with
 | zero=>intro x y h; omega
 | succ j ih =>
  intro x y hij hx hy
  have hj:j < l.length:=by have:=lt_of_get hy; omega
  have hz:l[j]? = some l[j]:=List.getElem?_eq_getElem hj
  have h1:=(each (j+1) y hy).2 (by omega)
  rw [show j+1 - 1=j by omega,getD_of hz] at h1
  by_cases he:i=j
  ·subst he
   rw [hx] at hz
   cases hz
   exact h1
  ·have h2:=ih x l[j] (by omega) hx hz
   have h3:=(each j _ hz).1
   omega
/-- What the glyph of a code is. -/
def Glo (l:List S_FontRange) (c r:Int):Prop:=(∃ (k:Nat) (x:S_FontRange),l[k]? = some x∧x.f0≤c∧c≤x.f1∧r=x.f2+c - x.f0)∨(r=0∧∀ (k:Nat) x,l[k]? = some x→¬ (x.f0≤c∧c≤x.f1))
theorem Glo.uniq {n:Int} {l:List S_FontRange} (ok:RngOk n l) {c r r':Int} (h:Glo l c r) (h':Glo l c r'):r=r':=by
 rcases h with ⟨k,x,hx,h1,h2,rfl⟩ | ⟨rfl,hn⟩
 ·rcases h' with ⟨k',x',hx',h1',h2',rfl⟩ | ⟨_,hn⟩
  ·rcases Nat.lt_trichotomy k k' with hk | rfl | hk
   ·have:=ok.sorted k k' x x' hk hx hx'; omega
   ·rw [hx] at hx'; cases hx'; rfl
   ·have:=ok.sorted k' k x' x hk hx' hx; omega
  ·exact absurd ⟨h1,h2⟩ (hn k x hx)
 ·rcases h' with ⟨k',x',hx',h1',h2',rfl⟩ | ⟨rfl,_⟩
  ·exact absurd ⟨h1',h2'⟩ (hn k' x' hx')
  ·rfl
theorem Glo.bound {n:Int} {l:List S_FontRange} (ok:RngOk n l) {c r:Int} (hn:0 < n) (h:Glo l c r):0≤r∧r < n:=by
 rcases h with ⟨k,x,hx,h1,h2,rfl⟩ | ⟨rfl,_⟩
 ·have:=ok.each k x hx; omega
 ·omega
theorem cmpI_lt (a b:Int):decide (cmpI a b < 0)=decide (a < b):=by
 refine decide_eq_decide.2 ?_
 unfold cmpI
 split
 ·omega
 ·split <;> omega
theorem cmpI_eq (a b:Int):(cmpI a b == 0)=decide (a=b):=by
 unfold cmpI
 by_cases h1:a < b
 ·rw [if_pos h1]; simp; omega
 ·by_cases h2:a > b
  ·rw [if_neg h1,if_pos h2]; simp; omega
  ·rw [if_neg h1,if_neg h2]; simp; omega
theorem find_c1 (F:Nat) (x:S_FontRange) (c:Int):font_find_c1 F x c=some (cmpI x.f0 c):=by
 unfold font_find_c1
 rw [compare_eq,call_some]
theorem find_bs (F:Nat) (hF:1000≤F) {n:Int} {l:List S_FontRange} (ok:RngOk n l) (hl:l.length≤64) (c:Int) :
  ∃ p:Nat,p≤l.length∧slices_BinarySearchFunc_int_L0 F l c F 0 l.length=some (p:Int)∧(∀ k x,k < p→l[k]? = some x→x.f0 < c)∧(∀ k x,p≤k→l[k]? = some x→c≤x.f0):=by
 obtain ⟨p,h1,h2,h3,h4⟩:=bsearch l.length (fun k=>decide ((l.getD k (S_FontRange.mk 0 0 0)).f0 < c)) (fun n i j=>slices_BinarySearchFunc_int_L0 F l c n i j) (fun k k' hk hk' hlt=>by
   rcases Nat.eq_or_lt_of_le hk with rfl | hk
   ·exact hlt
   ·have hx:l[k]? = some l[k]:=List.getElem?_eq_getElem (by omega)
    have hy:l[k']? = some l[k']:=List.getElem?_eq_getElem hk'
    have hs:=ok.sorted k k' _ _ hk hx hy
    have he:=ok.each k _ hx
    simp only [getD_of hx,getD_of hy,decide_eq_true_eq] at hlt ⊢
    omega) (fun m i j hij hj=>by
   have hm:(i+j) / 2 < l.length:=by omega
   simp only [slices_BinarySearchFunc_int_L0,dec_lt hij,cond_true,lett_eq,mid_eq (show i+j < 1000000 by omega),chk_in hm,Int.toNat_natCast,find_c1,call_some,cmpI_lt,wrap_succ (show (i+j) / 2 < 9223372036854775807 by omega)]
   cases decide ((l.getD ((i+j) / 2) (S_FontRange.mk 0 0 0)).f0 < c) <;> rfl) (fun m i=>by simp only [slices_BinarySearchFunc_int_L0,dec_end,cond_false]) l.length F 0 l.length (by omega) (by omega) (by omega) (Nat.le_refl _) (fun k hk=>by omega) (fun k h1 h2=>by omega)
 refine ⟨p,h1,h2,fun k x hk hx=>?_,fun k x hk hx=>?_⟩
 ·have:=h3 k hk
  simp only [getD_of hx,decide_eq_true_eq] at this
  exact this
 ·have:=h4 k hk (lt_of_get hx)
  simp only [getD_of hx,decide_eq_false_iff_not] at this
  omega
theorem find_eq (F:Nat) (hF:1000≤F) {a0:S_Font} {n:Int} (hn:n≤128) (ok:RngOk n a0.f2) (hl:a0.f2.length≤64) (c:Int):∃ r,font_find F a0 c=some r∧Glo a0.f2 c r:=by
 obtain ⟨p,hp,hb,hlo,hhi⟩:=find_bs F hF ok hl c
 -- where the search ends,and what is found there
 have tail:∀ (m:Nat) (x:S_FontRange),a0.f2[m]? = some x→x.f0≤c→(∀ (k:Nat) (y:S_FontRange),m < k→a0.f2[k]? = some y→c < y.f0) →
   ∃ r,(chk ((((decide ((m:Int) < (0:Int))) == false) && true)=true→0≤(m:Int)∧(m:Int) < a0.f2.length) <|
    lett ((bif (decide ((m:Int) < (0:Int))) then true else (decide (c > ((a0.f2.getD (m:Int).toNat (S_FontRange.mk 0 0 0)).f1))))) fun z1 =>
    bif z1 then some (0:Int) else
     chk (0≤(m:Int)∧(m:Int) < a0.f2.length) <| chk (0≤(m:Int)∧(m:Int) < a0.f2.length) <|
     lett (IntKind.i64.wrap ((IntKind.i64.wrap (((a0.f2.getD (m:Int).toNat (S_FontRange.mk 0 0 0)).f2)+c)) - ((a0.f2.getD (m:Int).toNat (S_FontRange.mk 0 0 0)).f0))) fun z2=>some z2)=some r∧Glo a0.f2 c r:=by
  intro m x hx h0 hgt
  have hm:=lt_of_get hx
  have he:=ok.each m x hx
  have hneg:decide ((m:Int) < 0)=false:=by simp
  rw [chk_pos (fun _=>by omega)]
  simp only [lett_eq,hneg,cond_false,Int.toNat_natCast,getD_of hx,chk_in hm]
  by_cases hc:c > x.f1
  ·refine ⟨0,by simp [hc],.inr ⟨rfl,fun k y hy hk=>?_⟩⟩
   rcases Nat.lt_trichotomy k m with hkm | rfl | hkm
   ·have:=ok.sorted k m y x hkm hy hx; omega
   ·rw [hx] at hy; cases hy; omega
   ·have:=hgt k y hkm hy; omega
  ·refine ⟨x.f2+c - x.f0,?_,.inl ⟨m,x,hx,h0,by omega,rfl⟩⟩
   rw [show decide (c > x.f1)=false by simpa using hc,wrap_id (x:=x.f2+c) (by omega),wrap_id (by omega)]
   rfl
 unfold font_find slices_BinarySearchFunc_int
 rw [hb,call_some]
 by_cases hpl:p < a0.f2.length
 ·have hx:a0.f2[p]? = some a0.f2[p]:=List.getElem?_eq_getElem hpl
  have hge:=hhi p _ (Nat.le_refl _) hx
  rw [chk_pos (fun _=>by omega)]
  simp only [dec_lt hpl,beq_self_eq_true,Bool.and_self,cond_true,Int.toNat_natCast,getD_of hx,find_c1,call_some,cmpI_eq]
  by_cases hc:(a0.f2[p]).f0=c
  ·simp only [hc,decide_true,Bool.not_true,cond_false,call_some]
   exact tail p _ hx (by omega) fun k y hk hy=>by
    have:=ok.sorted p k _ y hk hx hy
    have:=ok.each p _ hx
    omega
  ·simp only [hc,decide_false,Bool.not_false,cond_true,call_some]
   have hafter:∀ k y,p≤k→a0.f2[k]? = some y→c < y.f0:=by
    intro k y hk hy
    rcases Nat.eq_or_lt_of_le hk with rfl | hk
    ·rw [hx] at hy; cases hy; omega
    ·have:=ok.sorted p k _ y hk hx hy
     have:=ok.each p _ hx
     omega
   rcases Nat.eq_zero_or_pos p with rfl | hp0
   ·refine ⟨0,?_,.inr ⟨rfl,fun k y hy hk=>?_⟩⟩
    ·rw [show IntKind.i64.wrap (((0:Nat):Int) - 1) = -1 by decide]
     rw [chk_pos (fun h=>absurd h (by decide))]
     rfl
    ·have:=hafter k y (by omega) hy; omega
   ·rw [wrap_pred hp0 (by omega)]
    have hy:a0.f2[p - 1]? = some a0.f2[p - 1]:=List.getElem?_eq_getElem (by omega)
    exact tail (p - 1) _ hy (by have:=hlo (p - 1) _ (by omega) hy; omega) fun k z hk hz=>hafter k z (by omega) hz
 ·obtain rfl:p=a0.f2.length:=by omega
  rw [chk_pos (by simp)]
  simp only [dec_end,cond_false,Bool.and_true,call_some,Bool.not_false,cond_true,show (false == true)=false from rfl]
  rcases Nat.eq_zero_or_pos a0.f2.length with h0 | hp0
  ·refine ⟨0,?_,.inr ⟨rfl,fun k y hy hk=>?_⟩⟩
   ·rw [h0,show IntKind.i64.wrap (((0:Nat):Int) - 1) = -1 by decide]
    rw [chk_pos (fun h=>absurd h (by decide))]
    rfl
   ·have:=lt_of_get hy; omega
  ·rw [wrap_pred hp0 (by omega)]
   have hy:a0.f2[a0.f2.length - 1]? = some a0.f2[a0.f2.length - 1]:=List.getElem?_eq_getElem (by omega)
   exact tail _ _ hy (by have:=hlo _ _ (by omega) hy; omega) fun k z hk hz=>by have:=lt_of_get hz; omega
/-- The reference looks at every code of every range. -/
theorem GlyphOf_L2 (F:Nat) {a0:S_Font} {n:Int} (hn:n≤128) (ok:RngOk n a0.f2) (c:Int) {i:Nat} {x:S_FontRange} (hx:a0.f2[i]? = some x):∀ (m v k:Nat),(v:Int)+m=x.f1 - x.f0+1→m < k →
  ref3_GlyphOf_L2 F a0 c i k v=some (if x.f0+v≤c∧c≤x.f1 then .esc (x.f2+c - x.f0) else .go ()):=by
 have he:=ok.each i x hx
 intro m
 induction m with
 | zero =>
  intro v k hv hk
  obtain ⟨k,rfl⟩:∃ j,k=j+1:=⟨k - 1,by omega⟩
  simp only [ref3_GlyphOf_L2,Int.toNat_natCast,getD_of hx,lett_eq,wrap_id (x:=x.f1 - x.f0) (by omega)]
  rw [show decide ((v:Int)≤x.f1 - x.f0)=false by simp only [decide_eq_false_iff_not]; omega,if_neg (by omega)]
  rfl
 | succ m ih =>
  intro v k hv hk
  obtain ⟨k,rfl⟩:∃ j,k=j+1:=⟨k - 1,by omega⟩
  have hi:=ih (v+1) k (by omega) (by omega)
  simp only [ref3_GlyphOf_L2,Int.toNat_natCast,getD_of hx,lett_eq,wrap_id (x:=x.f1 - x.f0) (by omega),wrap_id (x:=x.f0+(v:Int)) (by omega),wrap_id (x:=x.f2+(v:Int)) (by omega),wrap_succ (show v < 9223372036854775807 by omega),hi]
  rw [show decide ((v:Int)≤x.f1 - x.f0)=true by simp only [decide_eq_true_eq]; omega,cond_true]
  by_cases hc:x.f0+(v:Int)=c
  ·rw [show (x.f0+(v:Int) == c)=true by simpa using hc,cond_true,if_pos (by omega)]
   congr 2
   omega
  ·rw [show (x.f0+(v:Int) == c)=false by simpa using hc,cond_false]
   congr 1
   by_cases h2:x.f0+((v+1:Nat):Int)≤c∧c≤x.f1
   ·rw [if_pos h2,if_pos (by omega)]
   ·rw [if_neg h2,if_neg (by omega)]
theorem GlyphOf_eq (F:Nat) (hF:1200000≤F) {a0:S_Font} {n:Int} (hn:n≤128) (ok:RngOk n a0.f2) (hl:a0.f2.length≤64) (c:Int):∃ r,ref3_GlyphOf F a0 c=some r∧Glo a0.f2 c r:=by
 have key:∀ (j i k:Nat),i+j=a0.f2.length→j < k→(∀ (m:Nat) x,m < i→a0.f2[m]? = some x→¬ (x.f0≤c∧c≤x.f1)) →
   (∃ r,ref3_GlyphOf_L0 F a0 c k i=some (.esc r)∧Glo a0.f2 c r)∨(ref3_GlyphOf_L0 F a0 c k i=some (.go ())∧Glo a0.f2 c 0):=by
  intro j
  induction j with
  | zero =>
   intro i k hi hk hn2
   obtain ⟨k,rfl⟩:∃ j,k=j+1:=⟨k - 1,by omega⟩
   obtain rfl:i=a0.f2.length:=by omega
   exact .inr ⟨by simp only [ref3_GlyphOf_L0,dec_end,cond_false],.inr ⟨rfl,fun m x hx=>hn2 m x (lt_of_get hx) hx⟩⟩
  | succ j ih =>
   intro i k hi hk hn2
   obtain ⟨k,rfl⟩:∃ j,k=j+1:=⟨k - 1,by omega⟩
   have hil:i < a0.f2.length:=by omega
   have hx:a0.f2[i]? = some a0.f2[i]:=List.getElem?_eq_getElem hil
   have he:=ok.each i _ hx
   have h2:=GlyphOf_L2 F hn ok c hx ((a0.f2[i]).f1 - (a0.f2[i]).f0+1).toNat 0 F (by omega) (by omega)
   simp only [show ((0:Nat):Int)=0 from rfl,Int.add_zero] at h2
   simp only [ref3_GlyphOf_L0,dec_lt hil,cond_true,chk_in hil,h2,wrap_succ (show i < 9223372036854775807 by omega)]
   by_cases hc:(a0.f2[i]).f0≤c∧c≤(a0.f2[i]).f1
   ·rw [if_pos hc]
    exact .inl ⟨_,rfl,.inl ⟨i,_,hx,hc.1,hc.2,rfl⟩⟩
   ·rw [if_neg hc,callE_go]
    refine ih (i+1) k (by omega) (by omega) fun m x hm hx'=>?_
    by_cases hmi:m=i
    ·subst hmi
     rw [hx] at hx'
     cases hx'
     exact hc
    ·exact hn2 m x (by omega) hx'
 unfold ref3_GlyphOf
 rcases key a0.f2.length 0 F (by omega) (by omega) (fun m x hm=>by omega) with ⟨r,h,hg⟩ | ⟨h,hg⟩
 ·simp only [show ((0:Nat):Int)=0 from rfl] at h
  rw [h]
  exact ⟨r,rfl,hg⟩
 ·simp only [show ((0:Nat):Int)=0 from rfl] at h
  rw [h]
  exact ⟨0,rfl,hg⟩
end Go.Vm.SubG
