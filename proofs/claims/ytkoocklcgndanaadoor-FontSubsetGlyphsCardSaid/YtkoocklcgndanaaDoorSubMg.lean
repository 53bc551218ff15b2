/-
  FONT SUBSET,PLAIN,part 7: what the reference needs.
-/
import Derived.Test.YtkoocklcgndanaaDoorSubMf
namespace Go.Vm.SubG
theorem dsc_mono (par:Nat→List Nat):∀ (k g x:Nat),dsc par k g x=true→dsc par (k+1) g x=true
 | 0,_,_,h=>by cases h
 | k+1,g,x,h=>by
  rw [dsc,Bool.or_eq_true] at h ⊢
  rcases h with h | h
  ·exact .inl h
  ·obtain ⟨p,hp,hx⟩:=List.any_eq_true.1 h
   exact .inr (List.any_eq_true.2 ⟨p,hp,dsc_mono par k p x hx⟩)
theorem dsc_last (par:Nat→List Nat):∀ (k g x:Nat),dsc par (k+2) g x=true→dsc par (k+1) g x=true∨∃ y,dsc par (k+1) g y=true∧x∈par y
 | 0,g,x,h=>by
  rw [dsc,Bool.or_eq_true] at h
  rcases h with h | h
  ·exact .inl (by rw [dsc,h]; rfl)
  ·obtain ⟨p,hp,hx⟩:=List.any_eq_true.1 h
   refine .inr ⟨g,by rw [dsc]; simp,?_⟩
   simp only [dsc,List.any_eq_true,Bool.or_eq_true,beq_iff_eq] at hx
   rcases hx with rfl | ⟨_,_,h⟩
   ·exact hp
   ·cases h
 | k+1,g,x,h=>by
  rw [dsc,Bool.or_eq_true] at h
  rcases h with h | h
  ·exact .inl (by rw [dsc,h]; rfl)
  ·obtain ⟨p,hp,hx⟩:=List.any_eq_true.1 h
   rcases dsc_last par k p x hx with h1 | ⟨y,h1,h2⟩
   ·exact .inl (by rw [dsc,Bool.or_eq_true]; exact .inr (List.any_eq_true.2 ⟨p,hp,h1⟩))
   ·exact .inr ⟨y,by rw [dsc,Bool.or_eq_true]; exact .inr (List.any_eq_true.2 ⟨p,hp,h1⟩),h2⟩
section
variable {a0:S_Font} {F:Nat} {q:Int→Int}
/-- A round of the reference: for one glyph. -/
theorem need_L6 (hF:1000≤F) (ok:FontOk a0) {g:Nat} (hg:g < a0.f1.length) (v:List Bool) (hv:v.length=128) (R:Nat→Prop) (hR:∀ x,R x→∀ y∈fpar a0 x,R y) (hs:∀ x,v.getD x false=true→R x) :
  ∃ v',ref3_Needed_L6 F a0 g F v 0=some v'∧v'.length=128∧(∀ x,v.getD x false=true→v'.getD x false=true)∧(v.getD g false=true→∀ y∈fpar a0 g,v'.getD y false=true)∧∀ x,v'.getD x false=true→R x:=by
 have hgo:=ok.ok g hg
 have h4:=hgo.parts
 have h128:=ok.len
 obtain ⟨s,e,h1,h2,h3,h5⟩:=range_ex (σ:=List Bool) (gly a0 g).f2 (fun n s j=>ref3_Needed_L6 F a0 g n s j)
  (fun j s=>s.length=128∧(∀ x,v.getD x false=true→s.getD x false=true)∧(v.getD g false=true→∀ p∈(gly a0 g).f2.take j,s.getD p.f0.toNat false=true)∧∀ x,s.getD x false=true→R x)
  (fun n s j p hp hi=>by
   obtain ⟨i1,i2,i3,i4⟩:=hi
   have hj:=lt_of_get hp
   have hpm:=List.mem_of_getElem? hp
   have hb:=hgo.pt p hpm
   simp only [ref3_Needed_L6,Int.toNat_natCast,gly_eq,getD_of hp,dec_lt hj,cond_true,chk_in hj,lett_eq]
   rw [chk_pos ⟨⟨hb.1,by omega⟩,by omega⟩,chk_pos (fun _=>⟨⟨by omega,by omega⟩,by omega⟩),chk_pos ⟨⟨hb.1,by omega⟩,by omega⟩,or_cond,wrap_succ (by omega)]
   have hset:∀ x,(s.set p.f0.toNat (s.getD p.f0.toNat false || s.getD g false)).getD x false=if p.f0.toNat=x then (s.getD p.f0.toNat false || s.getD g false) else s.getD x false:=by
    intro x
    rw [getD_set']
    by_cases h:p.f0.toNat=x
    ·rw [if_pos ⟨h,by omega⟩,if_pos h]
    ·rw [if_neg (fun h'=>h h'.1),if_neg h]
   refine ⟨_,rfl,by simpa using i1,fun x hx=>?_,fun hgv y hy=>?_,fun x hx=>?_⟩
   ·rw [hset]
    split
    ·rename_i h; rw [h,i2 x hx]; rfl
    ·exact i2 x hx
   ·rw [hset]
    split
    ·rename_i h
     rw [i2 g hgv,Bool.or_true]
    ·rename_i h
     rw [List.take_add_one,hp] at hy
     rcases List.mem_append.1 hy with h' | h'
     ·exact i3 hgv y h'
     ·rw [Option.toList,List.mem_singleton] at h'
      rw [h'] at h
      exact absurd rfl h
   ·rw [hset] at hx
    split at hx
    ·rename_i h
     rw [Bool.or_eq_true] at hx
     rcases hx with hx | hx
     ·exact h ▸ i4 _ hx
     ·exact hR g (i4 g hx) x (List.mem_map.2 ⟨p,hpm,h⟩)
    ·exact i4 x hx)
  (fun n s hi=>by
   simp only [ref3_Needed_L6,Int.toNat_natCast,gly_eq]
   rw [dec_end,cond_false]) F (by omega) v ⟨hv,fun x h=>h,fun _ p hp=>by simp at hp,hs⟩
 refine ⟨s,e,h1,h2,fun hgv y hy=>?_,h5⟩
 obtain ⟨p,hp,rfl⟩:=List.mem_map.1 hy
 rw [List.take_length] at h3
 exact h3 hgv p hp
theorem need_L4 (hF:1000≤F) (ok:FontOk a0) (v:List Bool) (hv:v.length=128) (R:Nat→Prop) (hR:∀ x,R x→∀ y∈fpar a0 x,R y) (hs:∀ x,v.getD x false=true→R x) :
  ∃ v',ref3_Needed_L4 F a0 F v 0=some v'∧v'.length=128∧(∀ x,v.getD x false=true→v'.getD x false=true)∧(∀ g < a0.f1.length,v.getD g false=true→∀ y∈fpar a0 g,v'.getD y false=true)∧∀ x,v'.getD x false=true→R x:=by
 have h128:=ok.len
 obtain ⟨s,e,h1,h2,h3,h5⟩:=range_ex (σ:=List Bool) a0.f1 (fun n s j=>ref3_Needed_L4 F a0 n s j)
  (fun j s=>s.length=128∧(∀ x,v.getD x false=true→s.getD x false=true)∧(∀ g < j,v.getD g false=true→∀ y∈fpar a0 g,s.getD y false=true)∧∀ x,s.getD x false=true→R x)
  (fun n s g x hx hi=>by
   obtain ⟨i1,i2,i3,i4⟩:=hi
   have hg:=lt_of_get hx
   obtain ⟨s',e,j1,j2,j3,j4⟩:=need_L6 hF ok hg s i1 R hR i4
   simp only [ref3_Needed_L4,dec_lt hg,cond_true,chk_in hg]
   rw [e,call_some,wrap_succ (by omega)]
   refine ⟨_,rfl,j1,fun x hx=>j2 x (i2 x hx),fun g' hg' hv' y hy=>?_,j4⟩
   rcases Nat.lt_succ_iff_lt_or_eq.1 hg' with h | rfl
   ·exact j2 y (i3 g' h hv' y hy)
   ·exact j3 (i2 _ hv') y hy)
  (fun n s hi=>by
   simp only [ref3_Needed_L4]
   rw [dec_end,cond_false]) F (by omega) v ⟨hv,fun x h=>h,fun g hg=>by omega,hs⟩
 exact ⟨s,e,h1,h2,h3,h5⟩
theorem need_L2 (hF:1000≤F) (ok:FontOk a0) (v:List Bool) (hv:v.length=128) (R:Nat→Prop) (hR:∀ x,R x→∀ y∈fpar a0 x,R y) (hs:∀ x,v.getD x false=true→R x) :
  ∃ v',ref3_Needed_L2 F a0 F v 0=some v'∧v'.length=128∧(∀ g < a0.f1.length,v.getD g false=true→∀ x,dsc (fpar a0) (a0.f1.length+1) g x=true→v'.getD x false=true)∧∀ x,v'.getD x false=true→R x:=by
 have h128:=ok.len
 obtain ⟨s,e,h1,h2,h3⟩:=range_ex (σ:=List Bool) a0.f1 (fun n s j=>ref3_Needed_L2 F a0 n s j)
  (fun j s=>s.length=128∧(∀ g < a0.f1.length,v.getD g false=true→∀ x,dsc (fpar a0) (j+1) g x=true→s.getD x false=true)∧∀ x,s.getD x false=true→R x)
  (fun n s j x hx hi=>by
   obtain ⟨i1,i2,i4⟩:=hi
   have hg:=lt_of_get hx
   obtain ⟨s',e,j1,j2,j3,j4⟩:=need_L4 hF ok s i1 R hR i4
   simp only [ref3_Needed_L2,dec_lt hg,cond_true]
   rw [e,call_some,wrap_succ (by omega)]
   refine ⟨_,rfl,j1,fun g hg hgv x hx=>?_,j4⟩
   rcases dsc_last _ _ _ _ hx with h | ⟨y,h,hy⟩
   ·exact j2 x (i2 g hg hgv x h)
   ·exact j3 y (dsc_lt (fpar_lt ok) _ g y hg h) (i2 g hg hgv y h) x hy)
  (fun n s hi=>by
   simp only [ref3_Needed_L2]
   rw [dec_end,cond_false]) F (by omega) v ⟨hv,(fun g hg hgv x hx=>by
    simp only [dsc,List.any_eq_true,Bool.or_eq_true,beq_iff_eq] at hx
    rcases hx with rfl | ⟨_,_,h⟩
    ·exact hgv
    ·cases h),hs⟩
 exact ⟨s,e,h1,h2,h3⟩
theorem needed_eq (hF:1200000≤F) (g:FontGood a0) (hp:0 < a0.f1.length) (hq:∀ c,ref3_GlyphOf F a0 c=some (q c)) (hb:∀ c,0≤q c∧q c < (a0.f1.length:Int)) (a1:List Int) (hl:a1.length≤1024) :
  ∃ v,ref3_Needed F a0 a1=some v∧v.length=128∧∀ x,v.getD x false=true↔(dsc (fpar a0) a0.f1.length 0 x=true∨∃ c∈a1,dsc (fpar a0) a0.f1.length (q c).toNat x=true):=by
 have h128:=g.ok.len
 let v0:List Bool:=(List.replicate 128 false).set 0 true
 have hv0:∀ x,v0.getD x false=true↔x=0:=by
  intro x
  show ((List.replicate 128 false).set 0 true).getD x false=true↔x=0
  rw [getD_set'']
  have:(List.replicate 128 false).getD x false=false:=by
   rw [List.getD_eq_getElem?_getD,List.getElem?_replicate]
   split <;> rfl
  rw [this]
  simp
  exact ⟨fun h=>h.symm,fun h=>h.symm⟩
 obtain ⟨s,e,h1,h2⟩:=range_ex (σ:=List Bool) a1 (fun n s j=>ref3_Needed_L0 F a0 a1 n s j)
  (fun j s=>s.length=128∧∀ x,s.getD x false=true↔(x=0∨∃ c∈a1.take j,(q c).toNat=x))
  (fun n s j c hc hi=>by
   obtain ⟨i1,i2⟩:=hi
   have hj:=lt_of_get hc
   have hbc:=hb c
   simp only [ref3_Needed_L0,Int.toNat_natCast,getD_of hc,dec_lt hj,cond_true,chk_in hj,hq,call_some]
   rw [chk_pos ⟨⟨hbc.1,by omega⟩,by omega⟩,wrap_succ (by omega)]
   refine ⟨_,rfl,by simpa using i1,fun x=>?_⟩
   rw [getD_set'',Bool.or_eq_true,i2,List.take_add_one,hc,Bool.and_eq_true,decide_eq_true_eq,decide_eq_true_eq]
   constructor
   ·rintro ((h | ⟨d,hd,h⟩) | ⟨h,_⟩)
    ·exact .inl h
    ·exact .inr ⟨d,List.mem_append_left _ hd,h⟩
    ·exact .inr ⟨c,List.mem_append_right _ (by simp),h⟩
   ·rintro (h | ⟨d,hd,h⟩)
    ·exact .inl (.inl h)
    ·rcases List.mem_append.1 hd with hd | hd
     ·exact .inl (.inr ⟨d,hd,h⟩)
     ·simp only [Option.toList,List.mem_singleton] at hd
      subst hd
      exact .inr ⟨h,by omega⟩)
  (fun n s hi=>by
   simp only [ref3_Needed_L0]
   rw [dec_end,cond_false]) F (by omega) v0 ⟨by simp [v0],fun x=>by rw [hv0]; simp⟩
 rw [List.take_length] at h2
 let R:Nat→Prop:=fun x=>dsc (fpar a0) a0.f1.length 0 x=true∨∃ c∈a1,dsc (fpar a0) a0.f1.length (q c).toNat x=true
 have hq0:∀ c,(q c).toNat < a0.f1.length:=fun c=>by have:=hb c; omega
 have hself:∀ x,x < a0.f1.length→dsc (fpar a0) a0.f1.length x x=true:=by
  intro x hx
  obtain ⟨k,hk⟩:∃ k,a0.f1.length=k+1:=⟨a0.f1.length - 1,by omega⟩
  rw [hk,dsc]
  simp
 have hR:∀ x,R x→∀ y∈fpar a0 x,R y:=by
  rintro x (h | ⟨c,hc,h⟩) y hy
  ·exact .inl (dsc_step (n:=a0.f1.length) _ _ _ _ (good_dep g hp) h hy)
  ·exact .inr ⟨c,hc,dsc_step (n:=a0.f1.length) _ _ _ _ (good_dep g (hq0 c)) h hy⟩
 have hs:∀ x,s.getD x false=true→R x:=by
  intro x hx
  rcases (h2 x).1 hx with rfl | ⟨c,hc,rfl⟩
  ·exact .inl (hself 0 hp)
  ·exact .inr ⟨c,hc,hself _ (hq0 c)⟩
 obtain ⟨v',e2,j1,j2,j3⟩:=need_L2 (F:=F) (by omega) g.ok s h1 R hR hs
 refine ⟨v',?_,j1,fun x=>⟨j3 x,fun h=>?_⟩⟩
 ·unfold ref3_Needed
  rw [chk_pos ⟨⟨by omega,by omega⟩,by simp⟩]
  have e':ref3_Needed_L0 F a0 a1 F ((List.replicate 128 false).set (0:Int).toNat true) 0=some s:=e
  rw [e',call_some,e2,call_some,chk_pos j1]
 ·rcases h with h | ⟨c,hc,h⟩
  ·exact j2 0 hp ((h2 0).2 (.inl rfl)) x (dsc_mono _ _ _ _ h)
  ·exact j2 _ (hq0 c) ((h2 _).2 (.inr ⟨c,hc,rfl⟩)) x (dsc_mono _ _ _ _ h)
end
end Go.Vm.SubG
