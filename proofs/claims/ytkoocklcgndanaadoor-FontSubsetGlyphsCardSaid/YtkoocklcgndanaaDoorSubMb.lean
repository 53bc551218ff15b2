/-
  FONT SUBSET,PLAIN,part 2: what belongs to a glyph; the walk that marks it.
-/
import Derived.Test.YtkoocklcgndanaaDoorSubMa
namespace Go.Vm.SubG
/-- x is g,or a part of it,or a part of a part .. -/
def dsc (par:Nat→List Nat):Nat→Nat→Nat→Bool
 | 0,_,_=>false
 | k+1,g,x=>(x == g) || (par g).any fun p=>dsc par k p x
section
variable {own:Nat→Nat} {par:Nat→List Nat}
theorem dep_parts {k g:Nat} (h:dep own par (k+1) g≠none):∀ p∈par g,dep own par k p≠none:=depS_parts _ _ _ h
theorem dsc_lt {n:Nat} (hp:∀ g < n,∀ p∈par g,p < n):∀ (k g x:Nat),g < n→dsc par k g x=true→x < n
 | 0,_,_,_,h=>by cases h
 | k+1,g,x,hg,h=>by
  rw [dsc,Bool.or_eq_true] at h
  rcases h with h | h
  ·rw [beq_iff_eq] at h; omega
  ·obtain ⟨p,hq,hx⟩:=List.any_eq_true.1 h
   exact dsc_lt hp k p x (hp g hg p hq) hx
/-- with the parts of x -/
theorem dsc_step {n:Nat}:∀ (k g x y:Nat),dep own par k g≠none→dsc par k g x=true→y∈par x→dsc par k g y=true
 | 0,g,_,_,h,_,_=>absurd rfl h
 | k+1,g,x,y,hd,h,hy=>by
  rw [dsc,Bool.or_eq_true] at h ⊢
  rcases h with h | h
  ·rw [beq_iff_eq] at h
   subst h
   have h2:=dep_parts hd y hy
   refine .inr (List.any_eq_true.2 ⟨y,hy,?_⟩)
   cases k with
   | zero=>exact absurd rfl h2
   | succ k=>rw [dsc]; simp
  ·obtain ⟨p,hq,hx⟩:=List.any_eq_true.1 h
   exact .inr (List.any_eq_true.2 ⟨p,hq,dsc_step (n:=n) k p x y (dep_parts hd p hq) hx hy⟩)
end
theorem getD_set'' (c:List Bool) (g x:Nat):(c.set g true).getD x false=(c.getD x false || (decide (g=x) && decide (g < c.length))):=by
 rw [getD_set']
 by_cases h:g=x∧g < c.length
 ·rw [if_pos h,decide_eq_true h.1,decide_eq_true h.2]; simp
 ·rw [if_neg h]
  have:(decide (g=x) && decide (g < c.length))=false:=by
   cases hh:(decide (g=x) && decide (g < c.length)) with
   | false=>rfl
   | true =>
    rw [Bool.and_eq_true,decide_eq_true_eq,decide_eq_true_eq] at hh
    exact absurd hh h
  rw [this,Bool.or_false]
theorem need_ok {a0:S_Font} (ok:FontOk a0) (F:Nat) (hF:1000≤F):∀ (k j g:Nat) (c:List Bool),dep (fown a0) (fpar a0) k g≠none→k≤j→g < a0.f1.length→c.length=a0.f1.length →
  ∃ c',font_Subset_c1_fuel F j (g:Int) c a0.f0 a0.f1 a0.f2 a0.f3=some (c',a0.f0,a0.f1,a0.f2,a0.f3)∧c'.length=a0.f1.length∧∀ x,c'.getD x false=(c.getD x false || dsc (fpar a0) k g x)
 | 0,_,g,_,h,_,_,_=>absurd rfl h
 | k+1,j,g,c,hd,hj,hg,hc=>by
  obtain ⟨j,rfl⟩:∃ i,j=i+1:=⟨j - 1,by omega⟩
  have hgo:=ok.ok g hg
  have h4:=hgo.parts
  have hlen:=ok.len
  have hrec:∀ p∈(gly a0 g).f2,∀ c:List Bool,c.length=a0.f1.length→∃ c',font_Subset_c1_fuel F j p.f0 c a0.f0 a0.f1 a0.f2 a0.f3=some (c',a0.f0,a0.f1,a0.f2,a0.f3)∧c'.length=a0.f1.length∧∀ x,c'.getD x false=(c.getD x false || dsc (fpar a0) k p.f0.toNat x):=by
   intro p hp c hc
   have hb:=hgo.pt p hp
   have hm:p.f0.toNat∈fpar a0 g:=List.mem_map.2 ⟨p,hp,rfl⟩
   obtain ⟨c',h1,h2,h3⟩:=need_ok ok F hF k j p.f0.toNat c (dep_parts hd _ hm) (by omega) (by omega) hc
   rw [show ((p.f0.toNat:Nat):Int)=p.f0 by omega] at h1
   exact ⟨c',h1,h2,h3⟩
  show ∃ c',font_Subset_c1_body F (font_Subset_c1_fuel F j) (g:Int) c a0.f0 a0.f1 a0.f2 a0.f3=_∧_
  have hgc:g < c.length:=by omega
  unfold font_Subset_c1_body
  rw [chk_in hgc,chk_in hg,Int.toNat_natCast]
  obtain ⟨s,e,hs1,hs2,hs3⟩:=range_ex (σ:=List Bool×Int×List S_FontGlyph×List S_FontRange×List S_FontPair) (gly a0 g).f2 (fun n s i=>font_Subset_c1_L0 F g a0.f1 (font_Subset_c1_fuel F j) n i s.1 s.2.1 s.2.2.1 s.2.2.2.1 s.2.2.2.2)
   (fun i s=>s.2=(a0.f0,a0.f1,a0.f2,a0.f3)∧s.1.length=a0.f1.length∧∀ x,s.1.getD x false=((c.set g true).getD x false || ((gly a0 g).f2.take i).any fun p=>dsc (fpar a0) k p.f0.toNat x))
   (fun n s i p hp hi=>by
    obtain ⟨hi1,hi2,hi3⟩:=hi
    obtain ⟨v,u⟩:=s
    subst hi1
    have hil:=lt_of_get hp
    obtain ⟨c',q1,q2,q3⟩:=hrec p (List.mem_of_getElem? hp) v hi2
    refine ⟨(c',a0.f0,a0.f1,a0.f2,a0.f3),?_,rfl,q2,fun x=>?_⟩
    ·simp only [font_Subset_c1_L0,Int.toNat_natCast,gly_eq]
     rw [dec_lt hil,cond_true,chk_in hil,getD_of hp,q1,call_some,wrap_succ (by omega)]
    ·rw [q3,hi3,List.take_add_one,List.any_append,hp,Bool.or_assoc]
     simp)
   (fun n s hi=>by
    simp only [font_Subset_c1_L0,Int.toNat_natCast,gly_eq]
    rw [dec_end,cond_false]) F (by omega) (c.set g true,a0.f0,a0.f1,a0.f2,a0.f3) ⟨rfl,by simpa using hc,fun x=>by simp⟩
  simp only at e
  rw [e,call_some]
  obtain ⟨v,u⟩:=s
  simp only at hs1
  subst hs1
  refine ⟨v,rfl,hs2,fun x=>?_⟩
  rw [hs3,getD_set'',List.take_length,decide_eq_true hgc,Bool.and_true,dsc,Bool.or_assoc]
  congr 1
  congr 1
  ·by_cases h:g=x
   ·subst h; simp
   ·simp [h]; exact fun e=>h e.symm
  ·unfold fpar
   rw [List.any_map]
   rfl
end Go.Vm.SubG
