/-
  TICKETS,PLAIN,part 6: the loops of what is refused.
-/
import Derived.Test.YtbfjbkndglcabaaDoorTicLi
namespace Go.Vm.TicG
theorem getD_mem {α:Type} {l:List α} {i:Nat} (d:α) (h:i < l.length):l.getD i d∈l:=by
  rw [List.getD_eq_getElem?_getD,List.getElem?_eq_getElem h]
  exact List.getElem_mem h
theorem drop_getD {α:Type} {l:List α} {i:Nat} (d:α) (h:i < l.length):l.drop i=l.getD i d :: l.drop (i+1):=by
  rw [List.drop_eq_getElem_cons h]
  simp [List.getD_eq_getElem?_getD,h]
theorem take_getD {α:Type} {l:List α} {i:Nat} (d:α) (h:i < l.length):l.take (i+1)=l.take i++[l.getD i d]:=by
  rw [List.take_add_one]
  simp [List.getD_eq_getElem?_getD,h]
theorem clone_eq {F:Nat} {l:List Str} (h:l.length≤4294967296):slices_Clone_string F l=some l:=by
  unfold slices_Clone_string
  rw [chk_pos (by simpa using h)]
  rfl
theorem under_eq {F:Nat} {p:List Str} {s:Str} (h:p.length≤100000) (hF:200000≤F):ref3_under F p s=some (p++[s]):=by
  have hw:IntKind.i64.wrap ((p.length:Int)+1)=((p.length+1:Nat):Int):=wrap_succ (by omega)
  have hL:∀ (m i n:Nat),i+m=p.length→m < n→ref3_under_L0 F p n (p.take i++List.replicate (m+1) []) i=some (p++[[]]):=by
    intro m
    induction m with
    | zero =>
      intro i n h1 hn
      obtain ⟨n,rfl⟩:∃ k,n=k+1:=⟨n - 1,by omega⟩
      obtain rfl:i=p.length:=by omega
      rw [ref3_under_L0,dec_end,cond_false,List.take_length]
      rfl
    | succ m ih =>
      intro i n h1 hn
      obtain ⟨n,rfl⟩:∃ k,n=k+1:=⟨n - 1,by omega⟩
      have hi:i < p.length:=by omega
      have hl:(p.take i++List.replicate (m+1+1) ([]:Str)).length=p.length+1:=by
        rw [List.length_append,List.length_take,List.length_replicate]
        omega
      have hset:(p.take i++List.replicate (m+1+1) ([]:Str)).set i (p.getD i [])=p.take (i+1)++List.replicate (m+1) []:=by
        rw [List.set_append_right _ _ (by rw [List.length_take]; omega),take_getD [] hi]
        have:i - (p.take i).length=0:=by rw [List.length_take]; omega
        rw [this,List.replicate_succ,List.set_cons_zero,List.append_assoc]
        rfl
      rw [ref3_under_L0,dec_lt hi,cond_true,chk_in hi,chk_pos (by rw [hl]; omega),wrap_succ (by omega)]
      change ref3_under_L0 F p n ((p.take i++List.replicate (m+1+1) ([]:Str)).set i (p.getD i [])) ((i+1:Nat):Int)=_
      rw [hset]
      exact ih (i+1) n (by omega) (by omega)
  unfold ref3_under
  rw [hw,chk_pos (by omega)]
  have h0:=hL p.length 0 F (by omega) (by omega)
  rw [List.take_zero,List.nil_append,Int.natCast_zero] at h0
  change call (ref3_under_L0 F p F (List.replicate (p.length+1) []) 0) _=_
  rw [h0,call_some,chk_pos (by rw [List.length_append,List.length_singleton]; omega)]
  congr 1
  change (p++[[]]).set p.length s=_
  rw [List.set_append_right _ _ (Nat.le_refl _),Nat.sub_self]
  rfl
theorem has_eq {F:Nat} {l:List Str} {s:Str} (hF:l.length < F) (hl:l.length≤9000000000000000000):ref3_HasText F l s=some (decide (s∈l)):=by
  have hL:∀ (m i n:Nat),i+m=l.length→m < n→ref3_HasText_L0 F l s n i=some (if s∈l.drop i then .esc true else .go ()):=by
    intro m
    induction m with
    | zero =>
      intro i n h1 hn
      obtain ⟨n,rfl⟩:∃ k,n=k+1:=⟨n - 1,by omega⟩
      obtain rfl:i=l.length:=by omega
      rw [ref3_HasText_L0,dec_end,cond_false,List.drop_length,if_neg (by simp)]
    | succ m ih =>
      intro i n h1 hn
      obtain ⟨n,rfl⟩:∃ k,n=k+1:=⟨n - 1,by omega⟩
      have hi:i < l.length:=by omega
      rw [ref3_HasText_L0,dec_lt hi,cond_true,chk_in hi,wrap_succ (by omega),drop_getD [] hi]
      change (bif (l.getD i [] == s) then _ else _)=_
      by_cases he:l.getD i []=s
      · have hb:(l.getD i [] == s)=true:=by simpa using he
        rw [hb,cond_true,if_pos (by rw [he]; exact List.mem_cons_self ..)]
      · have hb:(l.getD i [] == s)=false:=by simpa using he
        rw [hb,cond_false,ih (i+1) n (by omega) (by omega)]
        have:(s∈l.getD i [] :: l.drop (i+1))↔s∈l.drop (i+1):=by
          rw [List.mem_cons]
          exact ⟨fun h=>h.resolve_left fun e=>he e.symm,.inr⟩
        simp only [this]
  unfold ref3_HasText
  have h0:=hL l.length 0 F (by omega) (by omega)
  rw [List.drop_zero,Int.natCast_zero] at h0
  rw [h0]
  by_cases h:s∈l
  · rw [if_pos h,decide_eq_true h]
    rfl
  · rw [if_neg h,decide_eq_false h]
    rfl
theorem contains_eq {F:Nat} {l:List Str} {s:Str} (hF:l.length < F) (hl:l.length≤9000000000000000000):slices_Contains_string F l s=some (decide (s∈l)):=by
  have hL:∀ (m i n:Nat),i+m=l.length→m < n→∃ r:Out Unit Int,slices_Index_string_L0 F l s n i=some r∧((s∈l.drop i∧∃ j:Nat,r=.esc (j:Int))∨(s ∉ l.drop i∧r=.go ())):=by
    intro m
    induction m with
    | zero =>
      intro i n h1 hn
      obtain ⟨n,rfl⟩:∃ k,n=k+1:=⟨n - 1,by omega⟩
      obtain rfl:i=l.length:=by omega
      rw [slices_Index_string_L0,dec_end,cond_false,List.drop_length]
      exact ⟨_,rfl,.inr ⟨by simp,rfl⟩⟩
    | succ m ih =>
      intro i n h1 hn
      obtain ⟨n,rfl⟩:∃ k,n=k+1:=⟨n - 1,by omega⟩
      have hi:i < l.length:=by omega
      rw [slices_Index_string_L0,dec_lt hi,cond_true,chk_in hi,wrap_succ (by omega),drop_getD [] hi]
      change ∃ r,(bif (s == l.getD i []) then _ else _)=_∧_
      by_cases he:s=l.getD i []
      · have hb:(s == l.getD i [])=true:=by simpa using he
        rw [hb,cond_true]
        exact ⟨_,rfl,.inl ⟨by rw [he]; exact List.mem_cons_self ..,i,rfl⟩⟩
      · have hb:(s == l.getD i [])=false:=by simpa using he
        rw [hb,cond_false]
        have:(s∈l.getD i [] :: l.drop (i+1))↔s∈l.drop (i+1):=by
          rw [List.mem_cons]
          exact ⟨fun h=>h.resolve_left he,.inr⟩
        simp only [this]
        exact ih (i+1) n (by omega) (by omega)
  unfold slices_Contains_string slices_Index_string
  obtain ⟨r,h0,h1⟩:=hL l.length 0 F (by omega) (by omega)
  rw [List.drop_zero] at h1
  rw [Int.natCast_zero] at h0
  rw [h0]
  rcases h1 with ⟨h,j,rfl⟩ | ⟨h,rfl⟩
  · rw [decide_eq_true h,callE_esc',call_some,decide_eq_true (by omega)]
  · rw [decide_eq_false h]
    rfl
section
variable {F:Nat} (f:S_TicketField) (o:S_Object)
theorem R3_eq (hl:f.f5.length≤1000):∀ (m i n:Nat) (acc:List Str),i+m=f.f5.length→m < n→acc.length≤10000→acc.length+m≤10000→ref3_Refused_L3 F f n acc i=some (acc++(f.f5.drop i).map (·.f0)):=by
  intro m
  induction m with
  | zero =>
    intro i n acc h1 hn ha hb
    obtain ⟨n,rfl⟩:∃ k,n=k+1:=⟨n - 1,by omega⟩
    obtain rfl:i=f.f5.length:=by omega
    rw [ref3_Refused_L3,dec_end,cond_false,List.drop_length]
    simp
  | succ m ih =>
    intro i n acc h1 hn ha hb
    obtain ⟨n,rfl⟩:∃ k,n=k+1:=⟨n - 1,by omega⟩
    have hi:i < f.f5.length:=by omega
    rw [ref3_Refused_L3,dec_lt hi,cond_true,chk_in hi,chk_pos (by rw [List.length_singleton]; omega),lett_eq,wrap_succ (by omega),ih (i+1) n _ (by omega) (by omega) (by rw [List.length_append,List.length_singleton]; omega) (by rw [List.length_append,List.length_singleton]; omega),drop_getD tf0 hi]
    simp
theorem R5_eq (hF:20000 < F) (hl:o.f3.length≤1000):∀ (m i n:Nat) (acc:List Str),i+m=o.f3.length→m < n→acc.length+m≤10000→ref3_Refused_L5 F o n acc i=some (dd acc (o.f3.drop i)):=by
  intro m
  induction m with
  | zero =>
    intro i n acc h1 hn hb
    obtain ⟨n,rfl⟩:∃ k,n=k+1:=⟨n - 1,by omega⟩
    obtain rfl:i=o.f3.length:=by omega
    rw [ref3_Refused_L5,dec_end,cond_false,List.drop_length]
    rfl
  | succ m ih =>
    intro i n acc h1 hn hb
    obtain ⟨n,rfl⟩:∃ k,n=k+1:=⟨n - 1,by omega⟩
    have hi:i < o.f3.length:=by omega
    rw [ref3_Refused_L5,dec_lt hi,cond_true,chk_in hi,wrap_succ (by omega),drop_getD [] hi]
    change call (call (ref3_HasText F acc (o.f3.getD i [])) _) _=_
    rw [has_eq (by omega) (by omega),call_some,dd]
    by_cases h:o.f3.getD i []∈acc
    · rw [decide_eq_true h,if_pos h]
      exact ih (i+1) n acc (by omega) (by omega) (by omega)
    · rw [decide_eq_false h,if_neg h]
      simp only [Bool.not_false,cond_true]
      rw [chk_pos (by rw [List.length_singleton]; omega),call_some]
      exact ih (i+1) n _ (by omega) (by omega) (by rw [List.length_append,List.length_singleton]; omega)
theorem R9_eq:∀ (r:List Str) (n:Nat) (x:Str) (R:List Str),r.length < n→r.length≤100000→ref3_Refused_L9 F n (r.reverse++x :: R) (r.length:Int)=some (insr r x++R)
  | [],n,x,R,hn,_=>by
    obtain ⟨n,rfl⟩:∃ k,n=k+1:=⟨n - 1,by omega⟩
    rw [ref3_Refused_L9]
    have h0:decide ((([]:List Str).length:Int) > 0)=false:=rfl
    simp only [h0]
    rfl
  | p :: r,n,x,R,hn,hb=>by
    obtain ⟨n,rfl⟩:∃ k,n=k+1:=⟨n - 1,by omega⟩
    simp only [List.length_cons] at hn hb
    have e0:(p :: r).reverse++x :: R=r.reverse++p :: x :: R:=by simp
    have hl:(r.reverse++p :: x :: R).length=r.length+2+R.length:=by simp; omega
    have g1:(r.reverse++p :: x :: R).getD (r.length+1) []=x:=by
      rw [List.getD_eq_getElem?_getD,List.getElem?_append_right (by simp)]
      simp
    have g2:(r.reverse++p :: x :: R).getD r.length []=p:=by
      rw [List.getD_eq_getElem?_getD,List.getElem?_append_right (by simp)]
      simp
    have hw:IntKind.i64.wrap (((p :: r).length:Int) - 1)=(r.length:Int):=by
      rw [List.length_cons,wrap_pred (by omega) (by omega)]
      rfl
    have hc:((p :: r).length:Int).toNat=r.length+1:=rfl
    have hpos:decide (((p :: r).length:Int) > 0)=true:=by
      rw [decide_eq_true]
      simp only [List.length_cons]
      omega
    rw [ref3_Refused_L9,e0,hw]
    simp only [hpos,hl,hc,g1,Int.toNat_natCast,g2,cond_true,lett_eq]
    have hb1:0≤((p :: r).length:Int)∧((p :: r).length:Int) < ((r.length+2+R.length:Nat):Int):=by simp only [List.length_cons]; omega
    have hb2:0≤(r.length:Int)∧(r.length:Int) < ((r.length+2+R.length:Nat):Int):=by omega
    rw [chk_pos (fun _=>hb1),chk_pos (fun _=>hb2)]
    unfold insr
    by_cases hlt:Op.bytesLess x p=true
    · rw [hlt,if_pos rfl,cond_true,chk_pos hb2,chk_pos hb1,chk_pos hb1,chk_pos (by rw [List.length_set,hl]; exact hb2)]
      have hs:((r.reverse++p :: x :: R).set (r.length+1) p).set r.length x=r.reverse++x :: p :: R:=by
        rw [List.set_append_right _ _ (by simp),List.length_reverse,show r.length+1 - r.length=1 by omega,List.set_append_right _ _ (by simp),List.length_reverse,Nat.sub_self]
        rfl
      rw [hs,R9_eq r n x (p :: R) (by omega) (by omega)]
      simp
    · rw [Bool.not_eq_true] at hlt
      rw [hlt,if_neg (by decide),cond_false]
      simp
theorem R7_eq {v10:List Str} (hF:200000 < F) (hl:v10.length≤100000):∀ (m i n:Nat) (P:List Str),P.length=i→i+m=v10.length→m < n→ref3_Refused_L7 F v10 n (P++v10.drop i) i=some (isort P (v10.drop i)):=by
  intro m
  induction m with
  | zero =>
    intro i n P hP h1 hn
    obtain ⟨n,rfl⟩:∃ k,n=k+1:=⟨n - 1,by omega⟩
    obtain rfl:i=v10.length:=by omega
    rw [ref3_Refused_L7,dec_end,cond_false,List.drop_length]
    simp [isort]
  | succ m ih =>
    intro i n P hP h1 hn
    obtain ⟨n,rfl⟩:∃ k,n=k+1:=⟨n - 1,by omega⟩
    have hi:i < v10.length:=by omega
    rw [ref3_Refused_L7,dec_lt hi,cond_true,wrap_succ (by omega),drop_getD [] hi]
    have h9:=R9_eq (F:=F) P.reverse F (v10.getD i []) (v10.drop (i+1)) (by rw [List.length_reverse]; omega) (by rw [List.length_reverse]; omega)
    rw [List.reverse_reverse,List.length_reverse,hP] at h9
    rw [h9,call_some]
    exact ih (i+1) n (insr P.reverse (v10.getD i [])) (by rw [insr_len,List.length_reverse,hP]) (by omega) (by omega)
/-- The field of a name. -/
theorem R13_eq (hl:f.f5.length≤1000) (v14:List Str) (v15:Int) {s:Str} (hs:v14.getD v15.toNat []=s) :
    ∀ (m i n:Nat) (acc:Int),i+m=f.f5.length→m < n →
      ((∀ j,i≤j→j < f.f5.length→(f.f5.getD j tf0).f0≠s)→ref3_Refused_L13 F f v14 v15 n acc i=some acc) ∧
      (∀ k,i≤k→k < f.f5.length→(f.f5.getD k tf0).f0=s→(∀ j,j < f.f5.length→j≠k→(f.f5.getD j tf0).f0≠s)→ref3_Refused_L13 F f v14 v15 n acc i=some (k:Int)):=by
  intro m
  induction m with
  | zero =>
    intro i n acc h1 hn
    obtain ⟨n,rfl⟩:∃ k,n=k+1:=⟨n - 1,by omega⟩
    obtain rfl:i=f.f5.length:=by omega
    rw [ref3_Refused_L13,dec_end,cond_false]
    exact ⟨fun _=>rfl,fun k h1 h2=>by omega⟩
  | succ m ih =>
    intro i n acc h1 hn
    obtain ⟨n,rfl⟩:∃ k,n=k+1:=⟨n - 1,by omega⟩
    have hi:i < f.f5.length:=by omega
    rw [ref3_Refused_L13,dec_lt hi,cond_true,chk_in hi,wrap_succ (by omega),hs,lett_eq]
    have e0:(f.f5.getD (i:Int).toNat (S_TicketField.mk [] 0 0 0 [] [] false (S_Object.mk 0 0 [] [] []))).f0=(f.f5.getD i tf0).f0:=rfl
    rw [e0]
    refine ⟨fun h=>?_,fun k hk1 hk2 hk3 hk4=>?_⟩
    · have hb:((f.f5.getD i tf0).f0 == s)=false:=by simpa using h i (Nat.le_refl _) hi
      rw [hb,cond_false,call_some]
      exact (ih (i+1) n acc (by omega) (by omega)).1 fun j h1 h2=>h j (by omega) h2
    · by_cases hki:k=i
      · subst hki
        have hb:((f.f5.getD k tf0).f0 == s)=true:=by simpa using hk3
        rw [hb,cond_true,call_some]
        exact (ih (k+1) n k (by omega) (by omega)).1 fun j h1 h2=>hk4 j h2 (by omega)
      · have hb:((f.f5.getD i tf0).f0 == s)=false:=by simpa using hk4 i hi fun e=>hki e.symm
        rw [hb,cond_false,call_some]
        exact (ih (i+1) n acc (by omega) (by omega)).2 k (by omega) hk2 hk3 hk4
/-- The entry of a name. -/
theorem R15_eq (hl:o.f3.length≤1000) (v14:List Str) (v15:Int) {s:Str} (hs:v14.getD v15.toNat []=s) :
    ∀ (m i n:Nat) (acc:Int),i+m=o.f3.length→m < n →
      ((∀ j,i≤j→j < o.f3.length→o.f3.getD j []≠s)→ref3_Refused_L15 F o v14 v15 n acc i=some acc) ∧
      (∀ k,i≤k→k < o.f3.length→o.f3.getD k []=s→(∀ j,j < o.f3.length→j≠k→o.f3.getD j []≠s)→ref3_Refused_L15 F o v14 v15 n acc i=some (k:Int)):=by
  intro m
  induction m with
  | zero =>
    intro i n acc h1 hn
    obtain ⟨n,rfl⟩:∃ k,n=k+1:=⟨n - 1,by omega⟩
    obtain rfl:i=o.f3.length:=by omega
    rw [ref3_Refused_L15,dec_end,cond_false]
    exact ⟨fun _=>rfl,fun k h1 h2=>by omega⟩
  | succ m ih =>
    intro i n acc h1 hn
    obtain ⟨n,rfl⟩:∃ k,n=k+1:=⟨n - 1,by omega⟩
    have hi:i < o.f3.length:=by omega
    rw [ref3_Refused_L15,dec_lt hi,cond_true,chk_in hi,wrap_succ (by omega),hs]
    change _∧_
    have e0:o.f3.getD (i:Int).toNat []=o.f3.getD i []:=rfl
    rw [e0]
    refine ⟨fun h=>?_,fun k hk1 hk2 hk3 hk4=>?_⟩
    · have hb:(o.f3.getD i [] == s)=false:=by simpa using h i (Nat.le_refl _) hi
      rw [hb,cond_false,call_some]
      exact (ih (i+1) n acc (by omega) (by omega)).1 fun j h1 h2=>h j (by omega) h2
    · by_cases hki:k=i
      · subst hki
        have hb:(o.f3.getD k [] == s)=true:=by simpa using hk3
        rw [hb,cond_true,call_some]
        exact (ih (k+1) n k (by omega) (by omega)).1 fun j h1 h2=>hk4 j h2 (by omega)
      · have hb:(o.f3.getD i [] == s)=false:=by simpa using hk4 i hi fun e=>hki e.symm
        rw [hb,cond_false,call_some]
        exact (ih (i+1) n acc (by omega) (by omega)).2 k (by omega) hk2 hk3 hk4
end
end Go.Vm.TicG
