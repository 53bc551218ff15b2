/-
  FONT SUBSET,PLAIN,part 3: the codes that have a glyph.
-/
import Derived.Test.YtkoocklcgndanaaDoorSubMb
namespace Go.Vm.SubG
section
variable {a0:S_Font} {F:Nat} {q:Int→Int}
theorem c2_eq (hq:∀ c,font_find F a0 c=some (q c)) (c:Int):font_Subset_c2 F c a0.f0 a0.f1 a0.f2 a0.f3=some ((q c == 0),a0.f0,a0.f1,a0.f2,a0.f3):=by
 unfold font_Subset_c2
 have:(S_Font.mk a0.f0 a0.f1 a0.f2 a0.f3)=a0:=rfl
 rw [this,hq,call_some]
theorem indexFunc_L0 (hq:∀ c,font_find F a0 c=some (q c)) (l:List Int) (hl:l.length≤100000):∀ (m i n:Nat),i+m=l.length→m < n →
  ((∀ j,i≤j→j < l.length→(q (l.getD j 0) == 0)=false)∧slices_IndexFunc_int_L0 F l n i a0.f0 a0.f1 a0.f2 a0.f3=some (.go (a0.f0,a0.f1,a0.f2,a0.f3))) ∨
  (∃ k,i≤k∧k < l.length∧(q (l.getD k 0) == 0)=true∧(∀ j,i≤j→j < k→(q (l.getD j 0) == 0)=false)∧slices_IndexFunc_int_L0 F l n i a0.f0 a0.f1 a0.f2 a0.f3=some (.esc ((k:Int),l,a0.f0,a0.f1,a0.f2,a0.f3)))
 | 0,i,n,h,hn=>by
  obtain ⟨n,rfl⟩:∃ k,n=k+1:=⟨n - 1,by omega⟩
  obtain rfl:i=l.length:=by omega
  refine .inl ⟨fun j h1 h2=>by omega,?_⟩
  rw [slices_IndexFunc_int_L0,dec_end,cond_false]
 | m+1,i,n,h,hn=>by
  obtain ⟨n,rfl⟩:∃ k,n=k+1:=⟨n - 1,by omega⟩
  have hi:i < l.length:=by omega
  rw [slices_IndexFunc_int_L0,dec_lt hi,cond_true,chk_in hi,Int.toNat_natCast,c2_eq hq,call_some]
  simp only []
  cases hp:q (l.getD i 0) == 0
  ·rw [cond_false,wrap_succ (by omega)]
   rcases indexFunc_L0 hq l hl m (i+1) n (by omega) (by omega) with ⟨h1,h2⟩ | ⟨k,h1,h2,h3,h4,h5⟩
   ·refine .inl ⟨fun j h3 h4=>?_,h2⟩
    by_cases he:i=j
    ·subst he; exact hp
    ·exact h1 j (by omega) h4
   ·refine .inr ⟨k,by omega,h2,h3,fun j h6 h7=>?_,h5⟩
    by_cases he:i=j
    ·subst he; exact hp
    ·exact h4 j (by omega) h7
  ·exact .inr ⟨i,Nat.le_refl _,hi,hp,fun j h1 h2=>by omega,rfl⟩
theorem del_L0 (hq:∀ c,font_find F a0 c=some (q c)) (l:List Int) (hl:l.length≤100000):∀ (m i w n:Nat) (v:List Int),i+m=l.length→m < n→w < i→v.length=l.length→v.take w=(l.take i).filter (fun c => !(q c == 0))→v.drop i=l.drop i →
  ∃ (v':List Int) (w':Nat),slices_DeleteFunc_int_L0 F n v w i a0.f0 a0.f1 a0.f2 a0.f3=some (v',(w':Int),a0.f0,a0.f1,a0.f2,a0.f3)∧v'.length=l.length∧w' < l.length∧v'.take w'=l.filter (fun c => !(q c == 0))
 | 0,i,w,n,v,h,hn,hw,hv,ht,hd=>by
  obtain ⟨n,rfl⟩:∃ k,n=k+1:=⟨n - 1,by omega⟩
  obtain rfl:i=l.length:=by omega
  refine ⟨v,w,?_,hv,hw,by rw [ht,List.take_length]⟩
  rw [slices_DeleteFunc_int_L0,← hv,dec_end,cond_false]
 | m+1,i,w,n,v,h,hn,hw,hv,ht,hd=>by
  obtain ⟨n,rfl⟩:∃ k,n=k+1:=⟨n - 1,by omega⟩
  have hi:i < l.length:=by omega
  have hiv:i < v.length:=by omega
  have hx:v.getD i 0=l.getD i 0:=by
   have:=congrArg (fun z:List Int=>z[0]?) hd
   simp only [List.getElem?_drop,Nat.add_zero] at this
   rw [List.getD_eq_getElem?_getD,List.getD_eq_getElem?_getD,this]
  have hlt:l.take (i+1)=l.take i++[l.getD i 0]:=by
   rw [List.take_add_one,List.getElem?_eq_getElem hi,List.getD_eq_getElem?_getD,List.getElem?_eq_getElem hi]
   rfl
  rw [slices_DeleteFunc_int_L0,dec_lt hiv,cond_true,chk_in hiv,Int.toNat_natCast,c2_eq hq,call_some,hx]
  simp only []
  have hdrop:∀ z:List Int,z.drop i=l.drop i→z.drop (i+1)=l.drop (i+1):=by
   intro z hz
   have:=congrArg (List.drop 1) hz
   simpa [List.drop_drop] using this
  cases hp:q (l.getD i 0) == 0
  ·rw [Bool.not_false,cond_true,chk_in (show w < v.length by omega),Int.toNat_natCast,call_some,wrap_succ (by omega),wrap_succ (by omega)]
   refine del_L0 hq l hl m (i+1) (w+1) n (v.set w (l.getD i 0)) (by omega) (by omega) (by omega) (by simpa using hv) ?_ ?_
   ·have hf:[l.getD i 0].filter (fun c => !(q c == 0))=[l.getD i 0]:=by rw [List.filter_cons,if_pos (by rw [hp]; rfl),List.filter_nil]
    rw [hlt,List.filter_append,← ht,List.take_add_one,List.getElem?_set_self (by omega),List.take_set_of_le (Nat.le_refl _),hf]
    rfl
   ·rw [List.drop_set_of_lt (by omega)]
    exact hdrop v hd
  ·rw [Bool.not_true,cond_false,call_some,wrap_succ (by omega)]
   refine del_L0 hq l hl m (i+1) w n v (by omega) (by omega) (by omega) hv ?_ (hdrop v hd)
   have hf:[l.getD i 0].filter (fun c => !(q c == 0))=[]:=by rw [List.filter_cons,if_neg (by rw [hp]; decide),List.filter_nil]
   rw [hlt,List.filter_append,← ht,hf,List.append_nil]
theorem delete_eq (hq:∀ c,font_find F a0 c=some (q c)) (l:List Int) (hl:l.length≤100000) (hF:l.length < F) :
  slices_DeleteFunc_int F l a0.f0 a0.f1 a0.f2 a0.f3=some (l.filter (fun c => !(q c == 0)),a0.f0,a0.f1,a0.f2,a0.f3):=by
 unfold slices_DeleteFunc_int slices_IndexFunc_int
 rcases indexFunc_L0 hq l hl l.length 0 F (by omega) hF with ⟨h1,h2⟩ | ⟨k,_,hk,hp,h4,h5⟩
 ·rw [show ((0:Nat):Int)=0 from rfl] at h2
  rw [h2,callE_go,call_some]
  have:l.filter (fun c => !(q c == 0))=l:=by
   rw [List.filter_eq_self]
   intro c hc
   obtain ⟨j,hj⟩:=List.getElem?_of_mem hc
   have:=h1 j (Nat.zero_le _) (lt_of_get hj)
   rw [getD_of hj] at this
   rw [this]; rfl
  rw [this]
  rfl
 ·rw [show ((0:Nat):Int)=0 from rfl] at h5
  rw [h5]
  show (call (some ((k:Int),l,a0.f0,a0.f1,a0.f2,a0.f3)) fun y2=>_)=_
  rw [call_some]
  simp only []
  rw [show ((k:Int) == -1)=false by rw [beq_eq_false_iff_ne]; omega,cond_false,wrap_succ (by omega)]
  have hpre:l.take k=(l.take (k+1)).filter (fun c => !(q c == 0)):=by
   rw [List.take_add_one,List.getElem?_eq_getElem hk,List.filter_append]
   have hx:l.getD k 0=l[k]:=getD_of (List.getElem?_eq_getElem hk)
   rw [hx] at hp
   have e1:(l.take k).filter (fun c => !(q c == 0))=l.take k:=by
    rw [List.filter_eq_self]
    intro c hc
    obtain ⟨j,hj⟩:=List.getElem?_of_mem hc
    have hjk:j < k:=by have:=lt_of_get hj; simp at this; omega
    rw [List.getElem?_take,if_pos hjk] at hj
    have:=h4 j (Nat.zero_le _) hjk
    rw [getD_of hj] at this
    rw [this]; rfl
   rw [e1]
   simp [hp]
  obtain ⟨v',w',e,h6,h7,h8⟩:=del_L0 hq l hl (l.length - (k+1)) (k+1) k F l (by omega) (by omega) (by omega) rfl hpre rfl
  rw [e,call_some]
  simp only []
  rw [chk_pos ⟨by omega,by omega⟩,chk_pos ⟨by omega,by simp; omega⟩,Int.toNat_natCast]
  have:(v'.take w'++List.replicate (v'.length - w') 0).take w'=v'.take w':=by
   rw [List.take_append_of_le_length (by simp; omega),List.take_take,Nat.min_self]
  rw [this,h8]
end
end Go.Vm.SubG
