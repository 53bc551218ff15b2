/-
  FONT,PLAIN,part 4: the reference's rounds find the same depths,or miss one.
-/
import Derived.Test.YtkoocklcgndanaaDoorSubLd
namespace Go.Vm.SubG
/-- A part's step in the reference's rounds. -/
def n6 (v4 v5:List Int) (st:Int×Int×Bool) (p:S_FontPart):Int×Int×Bool :=
  ((if st.1 < IntKind.i64.wrap (v4.getD p.f0.toNat 0+1) then IntKind.i64.wrap (v4.getD p.f0.toNat 0+1) else st.1),
   (if (1073741824:Int) < IntKind.i64.wrap (st.2.1+v5.getD p.f0.toNat 0) then (1073741824:Int) else IntKind.i64.wrap (st.2.1+v5.getD p.f0.toNat 0)),
   bif st.2.2 then decide (v4.getD p.f0.toNat 0 > 0) else false)
/-- The state of the rounds: depths,points,and how many are missing. -/
structure NInv (a0:S_Font) (s:List Int×List Int×Int):Prop where
 l1:s.1.length=a0.f1.length
 l2:s.2.1.length=a0.f1.length
 cnt:s.2.2=((s.1.countP (fun v=>v == 0):Nat):Int)
 val:∀ x < a0.f1.length,s.1.getD x 0=0∨∃ d e,fT a0 x=some (d,e)∧s.1.getD x 0=(d:Int)∧s.2.1.getD x 0=((min e 1073741824:Nat):Int)
theorem nested_L4 (F:Nat) (hF:9≤F) {a0:S_Font} (ok:FontOk a0) {g:Nat} (hg:g < a0.f1.length):ref3_nested_L4 F a0 g F 0 0=some ((fown a0 g:Nat):Int):=by
 have hc:=ok.ok g hg
 have h:=range_fold (gly a0 g).f1 (fun n s i=>ref3_nested_L4 F a0 g n s i) (fun s x=>IntKind.i64.wrap (s+(x.length:Int))) (fun _ _=>True) (fun n s i x hx _=>by
  have hi:=lt_of_get hx
  refine ⟨?_,trivial⟩
  have:=hc.cons
  simp only [ref3_nested_L4,Int.toNat_natCast,gly_eq,dec_lt hi,cond_true,chk_in hi,lett_eq,getD_of hx,wrap_succ (show i < 9223372036854775807 by omega)])
  (fun n s _=>by simp only [ref3_nested_L4,Int.toNat_natCast,gly_eq,dec_end,cond_false]) F (by have:=hc.cons; omega) 0 trivial
 rw [h,sum_fold _ 0 (by omega) hc.con (by have:=hc.cons; omega)]
 unfold fown
 simp
theorem nested_L6 (F:Nat) (hF:9≤F) {a0:S_Font} (ok:FontOk a0) {g:Nat} (hg:g < a0.f1.length) (v4 v5:List Int) (h4:v4.length=a0.f1.length) (h5:v5.length=a0.f1.length) (m s:Int) (b:Bool) :
  ref3_nested_L6 F a0 v4 v5 g F m s b 0=some ((gly a0 g).f2.foldl (n6 v4 v5) (m,s,b)):=by
 have hc:=ok.ok g hg
 have hp:=hc.parts
 exact range_fold (gly a0 g).f2 (fun n (st:Int×Int×Bool) i=>ref3_nested_L6 F a0 v4 v5 g n st.1 st.2.1 st.2.2 i) (n6 v4 v5) (fun _ _=>True) (fun n s i x hx _=>by
  have hi:=lt_of_get hx
  refine ⟨?_,trivial⟩
  obtain ⟨q,hq⟩:∃ q:Nat,x.f0=(q:Int):=⟨x.f0.toNat,by have:=hc.pt x (List.mem_of_getElem? hx); omega⟩
  have hqn:q < a0.f1.length:=by have:=hc.pt x (List.mem_of_getElem? hx); omega
  have hq4:q < v4.length:=by omega
  have hq5:q < v5.length:=by omega
  simp only [ref3_nested_L6,Int.toNat_natCast,gly_eq,dec_lt hi,cond_true,chk_in hi,lett_eq,getD_of hx,hq,chk_in hq4,chk_in hq5,wrap_succ (show i < 9223372036854775807 by omega),n6]
  rw [chk_pos (fun _=>⟨by omega,by omega⟩)])
  (fun n s _=>by simp only [ref3_nested_L6,Int.toNat_natCast,gly_eq,dec_end,cond_false]) F (by omega) (m,s,b) trivial
theorem n6_ok {a0:S_Font} (ok:FontOk a0) (st:List Int×List Int×Int) (hI:NInv a0 st):∀ (ps:List S_FontPart) (M S:Nat) (b:Bool),(∀ p∈ps,0≤p.f0∧p.f0 < (a0.f1.length:Int)) →
  ((ps.foldl (n6 st.1 st.2.1) ((M:Int),((min S 1073741824:Nat):Int),b)).2.2=true↔b=true∧∀ p∈ps,st.1.getD p.f0.toNat 0≠0) ∧
  ((∀ p∈ps,st.1.getD p.f0.toNat 0≠0)→∃ M' S',depS (fT a0) (ps.map fun p=>p.f0.toNat) M S=some (M',S')∧ps.foldl (n6 st.1 st.2.1) ((M:Int),((min S 1073741824:Nat):Int),b)=((M':Int),((min S' 1073741824:Nat):Int),b))
 | [],M,S,b,_=>⟨by simp,fun _=>⟨M,S,rfl,rfl⟩⟩
 | p :: ps,M,S,b,hpt=>by
  have hp:=hpt p List.mem_cons_self
  obtain ⟨q,hq⟩:∃ q:Nat,p.f0=(q:Int):=⟨p.f0.toNat,by omega⟩
  have hqn:q < a0.f1.length:=by omega
  have hps:∀ p∈ps,0≤p.f0∧p.f0 < (a0.f1.length:Int):=fun x hx=>hpt x (List.mem_cons_of_mem _ hx)
  rw [List.foldl_cons]
  rcases hI.val q hqn with h0 | ⟨d,e,ht,h1,h2⟩
  ·-- the part is not known yet
   have hfalse:∀ (ps:List S_FontPart) (m s:Int),(ps.foldl (n6 st.1 st.2.1) (m,s,false)).2.2=false:=by
    intro ps
    induction ps with
    | nil=>intro m s; rfl
    | cons y ps ih=>intro m s; rw [List.foldl_cons]; exact ih _ _
   refine ⟨?_,fun h=>absurd h0 (by have:=h p List.mem_cons_self; rwa [hq] at this)⟩
   rw [show n6 st.1 st.2.1 ((M:Int),((min S 1073741824:Nat):Int),b) p=((n6 st.1 st.2.1 ((M:Int),((min S 1073741824:Nat):Int),b) p).1,(n6 st.1 st.2.1 ((M:Int),((min S 1073741824:Nat):Int),b) p).2.1,false) by
    unfold n6
    rw [hq,Int.toNat_natCast,h0]
    cases b <;> rfl,hfalse]
   exact Iff.intro (fun h=>by cases h) (fun h=>absurd h0 (by have:=h.2 p List.mem_cons_self; rwa [hq] at this))
  ·have hd:d≤128:=fT_le ok ht
   have hd1:1≤d:=dep_pos _ _ _ ht
   have e1:n6 st.1 st.2.1 ((M:Int),((min S 1073741824:Nat):Int),b) p=(((max M (d+1):Nat):Int),((min (S+e) 1073741824:Nat):Int),b):=by
    unfold n6
    rw [hq,Int.toNat_natCast,h1,h2]
    have hmin:=minI S e 1073741824 (by omega)
    simp only [show ((1073741824:Nat):Int)=1073741824 from rfl] at hmin
    rw [maxI M d (by omega)]
    simp only [hmin]
    rw [show decide ((d:Int) > 0)=true by simp; omega]
    cases b <;> rfl
   rw [e1]
   have ih:=n6_ok ok st hI ps (max M (d+1)) (S+e) b hps
   refine ⟨ih.1.trans ⟨fun h=>⟨h.1,fun x hx=>?_⟩,fun h=>⟨h.1,fun x hx=>h.2 x (List.mem_cons_of_mem _ hx)⟩⟩,fun h=>?_⟩
   ·rcases List.mem_cons.1 hx with rfl | hx
    ·rw [hq,Int.toNat_natCast,h1]; omega
    ·exact h.2 x hx
   ·obtain ⟨M',S',h3,h4⟩:=ih.2 fun x hx=>h x (List.mem_cons_of_mem _ hx)
    refine ⟨M',S',?_,h4⟩
    rw [List.map_cons,depS,hq,Int.toNat_natCast,ht]
    exact h3
/-- A glyph's step in a round. -/
def nres (a0:S_Font) (s:List Int×List Int×Int) (g:Nat):Int×Int×Bool:=(gly a0 g).f2.foldl (n6 s.1 s.2.1) (1,((fown a0 g:Nat):Int),s.1.getD g 0 == 0)
def nstep (a0:S_Font) (s:List Int×List Int×Int) (g:Nat):List Int×List Int×Int :=
 bif (nres a0 s g).2.2 then (s.1.set g (nres a0 s g).1,s.2.1.set g (nres a0 s g).2.1,IntKind.i64.wrap (s.2.2 - 1)) else s
theorem nstep_ok {a0:S_Font} (ok:FontOk a0) (s:List Int×List Int×Int) (hI:NInv a0 s) {g:Nat} (hg:g < a0.f1.length) :
  NInv a0 (nstep a0 s g)∧(∀ x,s.1.getD x 0≠0→(nstep a0 s g).1.getD x 0≠0)∧((∀ p∈fpar a0 g,s.1.getD p 0≠0)→(nstep a0 s g).1.getD g 0≠0):=by
 have hgo:=ok.ok g hg
 have hown:((fown a0 g:Nat):Int)=((min (fown a0 g) 1073741824:Nat):Int):=by have:=fown_le ok hg; omega
 have hn:=n6_ok ok s hI (gly a0 g).f2 1 (fown a0 g) (s.1.getD g 0 == 0) hgo.pt
 rw [← hown] at hn
 simp only [show ((1:Nat):Int)=1 from rfl] at hn
 by_cases hr:(nres a0 s g).2.2=true
 ·obtain ⟨hb,hall⟩:=hn.1.1 hr
  have h0:s.1.getD g 0=0:=by simpa using hb
  obtain ⟨M',S',hd,hf⟩:=hn.2 hall
  have ht:fT a0 g=some (M',S'):=by rw [fT_eq ok hg]; exact hd
  have hM:1≤M':=dep_pos _ _ _ ht
  have hst:nstep a0 s g=(s.1.set g (M':Int),s.2.1.set g ((min S' 1073741824:Nat):Int),IntKind.i64.wrap (s.2.2 - 1)):=by
   have hf':nres a0 s g=((M':Int),((min S' 1073741824:Nat):Int),true):=by unfold nres; rw [hf,hb]
   unfold nstep
   rw [hf']
   rfl
  rw [hst]
  have hg1:g < s.1.length:=by rw [hI.l1]; exact hg
  have hg2:g < s.2.1.length:=by rw [hI.l2]; exact hg
  have hcnt:=countP_set' (fun v:Int=>v == 0) 0 s.1 g (M':Int) hg1
  have hM0:((M':Int) == 0)=false:=by simp; omega
  simp only [h0,beq_self_eq_true,if_true,hM0,Bool.false_eq_true,if_false,Nat.add_zero] at hcnt
  have hlt:s.1.countP (fun v=>v == 0)≤s.1.length:=List.countP_le_length
  have hlen:=ok.len
  refine ⟨⟨by rw [List.length_set]; exact hI.l1,by rw [List.length_set]; exact hI.l2,?_,fun x hx=>?_⟩,fun x hx=>?_,fun _=>?_⟩
  ·show IntKind.i64.wrap (s.2.2 - 1)=(((s.1.set g (M':Int)).countP (fun v=>v == 0):Nat):Int)
   rw [hI.cnt,wrap_id (by rw [hI.l1] at hlt; omega)]
   omega
  ·simp only [getD_set',hg1,hg2,and_true]
   by_cases hgx:g=x
   ·subst hgx
    right
    exact ⟨M',S',ht,by rw [if_pos rfl],by rw [if_pos rfl]⟩
   ·rw [if_neg hgx,if_neg hgx]
    exact hI.val x hx
  ·simp only [getD_set',hg1,and_true]
   by_cases hgx:g=x
   ·rw [if_pos hgx]; omega
   ·rw [if_neg hgx]; exact hx
  ·simp only [getD_set',hg1,and_true,if_true]
   omega
 ·have hst:nstep a0 s g=s:=by
   have hr2:(nres a0 s g).2.2=false:=by simpa using hr
   unfold nstep
   rw [hr2]
   rfl
  rw [hst]
  refine ⟨hI,fun _ h=>h,fun hall h0=>hr (hn.1.2 ⟨by rw [h0]; rfl,fun p hp=>hall _ (List.mem_map.2 ⟨p,hp,rfl⟩)⟩)⟩
theorem nround {a0:S_Font} (ok:FontOk a0) (r:Nat):∀ (xs:List Nat) (s:List Int×List Int×Int),(∀ x∈xs,x < a0.f1.length)→NInv a0 s→(∀ x < a0.f1.length,dep (fown a0) (fpar a0) r x≠none→s.1.getD x 0≠0) →
  NInv a0 (xs.foldl (nstep a0) s)∧(∀ x,s.1.getD x 0≠0→(xs.foldl (nstep a0) s).1.getD x 0≠0)∧∀ x∈xs,dep (fown a0) (fpar a0) (r+1) x≠none→(xs.foldl (nstep a0) s).1.getD x 0≠0
 | [],s,_,hI,_=>⟨hI,fun _ h=>h,fun x hx=>by cases hx⟩
 | g :: xs,s,hx,hI,hq=>by
  have hg:=hx g List.mem_cons_self
  obtain ⟨h1,h2,h3⟩:=nstep_ok ok s hI hg
  obtain ⟨i1,i2,i3⟩:=nround ok r xs (nstep a0 s g) (fun x h=>hx x (List.mem_cons_of_mem _ h)) h1 (fun x hxn hd=>h2 x (hq x hxn hd))
  rw [List.foldl_cons]
  refine ⟨i1,fun x h=>i2 x (h2 x h),fun x hm hd=>?_⟩
  rcases List.mem_cons.1 hm with rfl | hm
  ·refine i2 x (h3 fun p hp=>hq p (fpar_lt ok x hg p hp) ?_)
   rw [dep] at hd
   exact depS_parts _ _ _ hd p hp
  ·exact i3 x hm hd
theorem nrounds {a0:S_Font} (ok:FontOk a0):∀ (r k:Nat) (s:List Int×List Int×Int),NInv a0 s→(∀ x < a0.f1.length,dep (fown a0) (fpar a0) k x≠none→s.1.getD x 0≠0) →
  NInv a0 ((List.range r).foldl (fun s _=>(List.range a0.f1.length).foldl (nstep a0) s) s)∧∀ x < a0.f1.length,dep (fown a0) (fpar a0) (k+r) x≠none→((List.range r).foldl (fun s _=>(List.range a0.f1.length).foldl (nstep a0) s) s).1.getD x 0≠0
 | 0,k,s,hI,hq=>⟨hI,hq⟩
 | r+1,k,s,hI,hq=>by
  obtain ⟨h1,h2⟩:=nrounds ok r k s hI hq
  rw [List.range_succ,List.foldl_append]
  obtain ⟨i1,_,i3⟩:=nround ok (k+r) (List.range a0.f1.length) _ (fun x hx=>List.mem_range.1 hx) h1 h2
  exact ⟨i1,fun x hx hd=>i3 x (List.mem_range.2 hx) hd⟩
theorem nested_L2 (F:Nat) (hF:1000≤F) {a0:S_Font} (ok:FontOk a0) (s:List Int×List Int×Int) (h1:s.1.length=a0.f1.length) (h2:s.2.1.length=a0.f1.length) :
  ref3_nested_L2 F a0 F s.1 s.2.1 s.2.2 0=some ((List.range a0.f1.length).foldl (nstep a0) s):=by
 have hlen:=ok.len
 refine range_fold (List.range a0.f1.length) (fun n (s:List Int×List Int×Int) i=>ref3_nested_L2 F a0 n s.1 s.2.1 s.2.2 i) (nstep a0) (fun _ s=>s.1.length=a0.f1.length∧s.2.1.length=a0.f1.length) (fun n s i x hx hs=>?_)
  (fun n s _=>by simp only [ref3_nested_L2,List.length_range,dec_end,cond_false]) F (by rw [List.length_range]; omega) s ⟨h1,h2⟩
 have hi:=lt_of_get hx
 rw [List.length_range] at hi
 obtain rfl:x=i:=by
  rw [List.getElem?_range hi] at hx
  exact (Option.some.inj hx).symm
 have hi4:x < s.1.length:=by omega
 have hi5:x < s.2.1.length:=by omega
 constructor
 ·simp only [ref3_nested_L2,dec_lt hi,cond_true,chk_in hi,chk_in hi4,chk_in hi5,nested_L4 F (by omega) ok hi,call_some,Int.toNat_natCast,nested_L6 F (by omega) ok hi s.1 s.2.1 hs.1 hs.2,wrap_succ (show x < 9223372036854775807 by omega)]
  unfold nstep nres
  cases ((gly a0 x).f2.foldl (n6 s.1 s.2.1) (1,((fown a0 x:Nat):Int),s.1.getD x 0 == 0)).2.2 <;> rfl
 ·unfold nstep
  cases (nres a0 s x).2.2
  ·exact hs
  ·exact ⟨by simpa using hs.1,by simpa using hs.2⟩
theorem nstep_len (a0:S_Font):∀ (xs:List Nat) (s:List Int×List Int×Int),(xs.foldl (nstep a0) s).1.length=s.1.length∧(xs.foldl (nstep a0) s).2.1.length=s.2.1.length
 | [],s=>⟨rfl,rfl⟩
 | g :: xs,s=>by
  rw [List.foldl_cons]
  have h:=nstep_len a0 xs (nstep a0 s g)
  rw [h.1,h.2]
  unfold nstep nres
  cases ((gly a0 g).f2.foldl (n6 s.1 s.2.1) (1,((fown a0 g:Nat):Int),s.1.getD g 0 == 0)).2.2
  ·exact ⟨rfl,rfl⟩
  ·exact ⟨by simp,by simp⟩
theorem nested_L0 (F:Nat) (hF:1000≤F) {a0:S_Font} (ok:FontOk a0) (s:List Int×List Int×Int) (h1:s.1.length=a0.f1.length) (h2:s.2.1.length=a0.f1.length) :
  ref3_nested_L0 F a0 F s.1 s.2.1 s.2.2 0=some ((List.range a0.f1.length).foldl (fun s _=>(List.range a0.f1.length).foldl (nstep a0) s) s):=by
 have hlen:=ok.len
 refine range_fold (List.range a0.f1.length) (fun n (s:List Int×List Int×Int) i=>ref3_nested_L0 F a0 n s.1 s.2.1 s.2.2 i) (fun s _=>(List.range a0.f1.length).foldl (nstep a0) s) (fun _ s=>s.1.length=a0.f1.length∧s.2.1.length=a0.f1.length) (fun n s i x hx hs=>?_)
  (fun n s _=>by simp only [ref3_nested_L0,List.length_range,dec_end,cond_false]) F (by rw [List.length_range]; omega) s ⟨h1,h2⟩
 have hi:=lt_of_get hx
 rw [List.length_range] at hi
 constructor
 ·simp only [ref3_nested_L0,dec_lt hi,cond_true,nested_L2 F hF ok s hs.1 hs.2,call_some,wrap_succ (show i < 9223372036854775807 by omega)]
 ·have:=nstep_len a0 (List.range a0.f1.length) s
  exact ⟨this.1.trans hs.1,this.2.trans hs.2⟩
theorem nested_eq (F:Nat) (hF:1000≤F) {a0:S_Font} (ok:FontOk a0) :
  (∃ v w,ref3_nested F a0=some (v,w,false)∧∃ x < a0.f1.length,fT a0 x=none) ∨
  ∃ v w,ref3_nested F a0=some (v,w,true)∧v.length=a0.f1.length∧w.length=a0.f1.length∧∀ x < a0.f1.length,∃ d e,fT a0 x=some (d,e)∧v.getD x 0=(d:Int)∧w.getD x 0=((min e 1073741824:Nat):Int):=by
 have hlen:=ok.len
 have hrep:∀ x,(List.replicate a0.f1.length (0:Int)).getD x 0=0:=by
  intro x
  rw [List.getD_eq_getElem?_getD,List.getElem?_replicate]
  split <;> rfl
 have h0:=nested_L0 F hF ok (List.replicate a0.f1.length 0,List.replicate a0.f1.length 0,(a0.f1.length:Int)) List.length_replicate List.length_replicate
 obtain ⟨hI,hq⟩:=nrounds ok a0.f1.length 0 (List.replicate a0.f1.length 0,List.replicate a0.f1.length 0,(a0.f1.length:Int)) ⟨List.length_replicate,List.length_replicate,by
  rw [List.countP_replicate]
  simp,fun x _=>.inl (hrep x)⟩ (fun x _ h=>absurd rfl h)
 unfold ref3_nested
 rw [chk_pos (by omega),chk_pos (by omega),Int.toNat_natCast]
 simp only at h0
 rw [h0,call_some]
 generalize (List.range a0.f1.length).foldl (fun s _=>(List.range a0.f1.length).foldl (nstep a0) s) (List.replicate a0.f1.length 0,List.replicate a0.f1.length 0,(a0.f1.length:Int))=s at hI hq
 obtain ⟨v,w,c⟩:=s
 have hcnt:c=((v.countP (fun v=>v == 0):Nat):Int):=hI.cnt
 by_cases hz:v.countP (fun v=>v == 0)=0
 ·right
  refine ⟨v,w,by rw [hcnt,hz]; rfl,hI.l1,hI.l2,fun x hx=>?_⟩
  rcases hI.val x hx with h | h
  ·exfalso
   have hx':x < v.length:=by have:=hI.l1; simp only at this; omega
   have:=List.countP_eq_zero.1 hz (v.getD x 0) (by
    rw [List.getD_eq_getElem?_getD,List.getElem?_eq_getElem hx']
    exact List.getElem_mem hx')
   exact this (by simpa using h)
  ·exact h
 ·left
  refine ⟨v,w,?_,?_⟩
  ·rw [hcnt]
   have:(((v.countP (fun v=>v == 0):Nat):Int) == 0)=false:=by simpa using hz
   show some (v,w,_)=_
   rw [this]
  ·obtain ⟨y,hy,hy0⟩:=List.countP_pos_iff.1 (Nat.pos_of_ne_zero hz)
   obtain ⟨x,hx,he⟩:=List.getElem_of_mem hy
   have hl:v.length=a0.f1.length:=hI.l1
   have hx0:v.getD x 0=0:=by
    rw [List.getD_eq_getElem?_getD,List.getElem?_eq_getElem hx,Option.getD_some,he]
    simpa using hy0
   refine ⟨x,by omega,?_⟩
   cases hd:fT a0 x with
   | none=>rfl
   | some z=>exact absurd hx0 (hq x (by omega) (by rw [Nat.zero_add]; exact fun h=>by rw [show dep (fown a0) (fpar a0) a0.f1.length x=fT a0 x from rfl,hd] at h; cases h))
end Go.Vm.SubG
