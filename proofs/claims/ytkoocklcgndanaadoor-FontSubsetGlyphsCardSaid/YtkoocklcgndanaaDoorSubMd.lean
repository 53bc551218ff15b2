/-
  FONT SUBSET,PLAIN,part 4: what is kept,and the new numbers.
-/
import Derived.Test.YtkoocklcgndanaaDoorSubMc
namespace Go.Vm.SubG
section
variable {a0:S_Font} {F:Nat} {q:Int→Int}
theorem good_dep (g:FontGood a0) {x:Nat} (hx:x < a0.f1.length):dep (fown a0) (fpar a0) a0.f1.length x≠none:=by
 obtain ⟨d,s,h,_⟩:=g.dep x hx
 intro hn
 have:fT a0 x=none:=hn
 rw [h] at this
 cases this
theorem mark_L0 (g:FontGood a0) (hF:2000≤F) (hq:∀ c,font_find F a0 c=some (q c)) (hb:∀ c,0≤q c∧q c < (a0.f1.length:Int)) (y1:(List Int)×Int×(List S_FontGlyph)×(List S_FontRange)×(List S_FontPair)) (hl:y1.1.length≤1024) (c:List Bool) (hc:c.length=a0.f1.length) :
  ∃ c',font_Subset_L0 F y1 F a0.f0 a0.f1 a0.f2 a0.f3 c 0=some (a0.f0,a0.f1,a0.f2,a0.f3,c')∧c'.length=a0.f1.length∧∀ x,c'.getD x false=(c.getD x false || y1.1.any fun d=>dsc (fpar a0) a0.f1.length (q d).toNat x):=by
 have h128:=g.ok.len
 obtain ⟨s,e,h1,h2,h3⟩:=range_ex (σ:=Int×List S_FontGlyph×List S_FontRange×List S_FontPair×List Bool) y1.1 (fun n s i=>font_Subset_L0 F y1 n s.1 s.2.1 s.2.2.1 s.2.2.2.1 s.2.2.2.2 i)
  (fun i s=>(s.1=a0.f0∧s.2.1=a0.f1∧s.2.2.1=a0.f2∧s.2.2.2.1=a0.f3)∧s.2.2.2.2.length=a0.f1.length∧∀ x,s.2.2.2.2.getD x false=(c.getD x false || (y1.1.take i).any fun d=>dsc (fpar a0) a0.f1.length (q d).toNat x))
  (fun n s i d hd hi=>by
   obtain ⟨v1,v2,v3,v4,v5⟩:=s
   obtain ⟨⟨e1,e2,e3,e4⟩,hi2,hi3⟩:=hi
   simp only at e1 e2 e3 e4 hi2 hi3
   subst e1 e2 e3 e4
   have hil:=lt_of_get hd
   have hbd:=hb d
   obtain ⟨c',q1,q2,q3⟩:=need_ok g.ok F (by omega) a0.f1.length F (q d).toNat v5 (good_dep g (by omega)) (by omega) (by omega) hi2
   rw [show (((q d).toNat:Nat):Int)=q d by omega] at q1
   refine ⟨(a0.f0,a0.f1,a0.f2,a0.f3,c'),?_,⟨rfl,rfl,rfl,rfl⟩,q2,fun x=>?_⟩
   ·have hmk:(S_Font.mk a0.f0 a0.f1 a0.f2 a0.f3)=a0:=rfl
    have hc1:font_Subset_c1 F (q d) v5 a0.f0 a0.f1 a0.f2 a0.f3=some (c',a0.f0,a0.f1,a0.f2,a0.f3):=q1
    simp only [font_Subset_L0,Int.toNat_natCast]
    rw [dec_lt hil,cond_true,chk_in hil,getD_of hd,hmk,hq,call_some,hc1,call_some,wrap_succ (by omega)]
   ·rw [q3,hi3,List.take_add_one,List.any_append,hd,Bool.or_assoc]
    simp)
  (fun n s hi=>by
   simp only [font_Subset_L0]
   rw [dec_end,cond_false]) F (by omega) (a0.f0,a0.f1,a0.f2,a0.f3,c) ⟨⟨rfl,rfl,rfl,rfl⟩,hc,fun x=>by simp⟩
 obtain ⟨v1,v2,v3,v4,v5⟩:=s
 obtain ⟨e1,e2,e3,e4⟩:=h1
 simp only at e1 e2 e3 e4 h2 h3 e
 subst e1 e2 e3 e4
 refine ⟨v5,e,h2,fun x=>?_⟩
 rw [h3,List.take_length]
/-- What is kept; the rank of a number among what is kept. -/
def kpt (c:List Bool) (x:Nat):Bool:=c.getD x false
def kps (c:List Bool) (n:Nat):List Nat:=(List.range n).filter (kpt c)
def rk (c:List Bool) (x:Nat):Nat:=(kps c x).length
theorem kps_succ (c:List Bool) (n:Nat):kps c (n+1)=kps c n++if kpt c n then [n] else []:=by
 unfold kps
 rw [List.range_succ,List.filter_append,List.filter_cons,List.filter_nil]
theorem kps_len (c:List Bool) (n:Nat):(kps c n).length≤n:=by
 have:=List.length_filter_le (kpt c) (List.range n)
 rw [List.length_range] at this
 exact this
theorem rk_succ (c:List Bool) (n:Nat):rk c (n+1)=rk c n+if kpt c n then 1 else 0:=by
 unfold rk
 rw [kps_succ,List.length_append]
 split <;> rfl
theorem rk_mono (c:List Bool) {x y:Nat} (h:x≤y):rk c x≤rk c y:=by
 induction h with
 | refl=>exact Nat.le_refl _
 | step _ ih=>rw [Nat.succ_eq_add_one,rk_succ]; omega
theorem rk_lt (c:List Bool) {x y:Nat} (h:x < y) (hk:kpt c x=true):rk c x < rk c y:=by
 have h1:=rk_succ c x
 rw [if_pos hk] at h1
 have:=rk_mono c (show x+1≤y from h)
 omega
theorem kps_get (c:List Bool):∀ (n x:Nat),x < n→kpt c x=true→(kps c n)[rk c x]? = some x
 | 0,_,h,_=>by omega
 | n+1,x,h,hk=>by
  rw [kps_succ]
  by_cases hx:x < n
  ·rw [List.getElem?_append_left (rk_lt c hx hk)]
   exact kps_get c n x hx hk
  ·obtain rfl:x=n:=by omega
   rw [if_pos hk]
   show (kps c x++[x])[(kps c x).length]? = some x
   rw [List.getElem?_append_right (Nat.le_refl _)]
   simp
theorem kps_mem {c:List Bool} {n x:Nat}:x∈kps c n↔x < n∧kpt c x=true:=by
 unfold kps
 rw [List.mem_filter,List.mem_range]
theorem number_L2 (hF:1000≤F) (c:List Bool) (n:Nat) (hc:c.length=n) (hn:n≤128) :
  ∃ num:List Int,font_Subset_L2 F c F [] (List.replicate n 0) 0=some ((kps c n).map Int.ofNat,num)∧num.length=n∧∀ g < n,kpt c g=true→num.getD g 0=(rk c g:Int):=by
 obtain ⟨s,e,h1,h2,h3⟩:=range_ex (σ:=List Int×List Int) c (fun n s i=>font_Subset_L2 F c n s.1 s.2 i)
  (fun i s=>s.1=(kps c i).map Int.ofNat∧s.2.length=n∧∀ g < i,kpt c g=true→s.2.getD g 0=(rk c g:Int))
  (fun m s i b hb hi=>by
   obtain ⟨v8,v9⟩:=s
   obtain ⟨i1,i2,i3⟩:=hi
   simp only at i1 i2 i3
   have hil:=lt_of_get hb
   have hlen:=kps_len c i
   have hkp:kpt c i=b:=getD_of hb
   simp only [font_Subset_L2]
   rw [dec_lt hil,cond_true,chk_in hil,Int.toNat_natCast,getD_of hb]
   cases b
   ·rw [cond_false,call_some]
    refine ⟨(v8,v9),by rw [wrap_succ (by omega)],?_,i2,fun g hg hk=>?_⟩
    ·rw [i1,kps_succ,hkp]; simp
    ·refine i3 g ?_ hk
     rcases Nat.lt_succ_iff_lt_or_eq.1 hg with h | rfl
     ·exact h
     ·rw [hkp] at hk; cases hk
   ·rw [cond_true,chk_in (show i < v9.length by omega),chk_pos (by rw [i1]; simp; omega),call_some]
    refine ⟨(v8++[(i:Int)],v9.set i (v8.length:Int)),by rw [wrap_succ (by omega)],?_,by simpa using i2,fun g hg hk=>?_⟩
    ·rw [i1,kps_succ,hkp]; simp
    ·rw [getD_set']
     by_cases hgi:i=g
     ·subst hgi
      rw [if_pos ⟨rfl,by omega⟩,i1,List.length_map]
      rfl
     ·rw [if_neg fun h=>hgi h.1]
      exact i3 g (by omega) hk)
  (fun m s hi=>by
   simp only [font_Subset_L2]
   rw [dec_end,cond_false]) F (by omega) ([],List.replicate n 0) ⟨rfl,by simp,fun g hg=>by omega⟩
 obtain ⟨v8,v9⟩:=s
 simp only at h1 h2 h3 e
 subst h1
 rw [hc] at e h3
 exact ⟨v9,e,h2,h3⟩
end
end Go.Vm.SubG
