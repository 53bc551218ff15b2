/-
  archive: names in order.
-/
import Derived.Test.YtflaiaeofndgmaaGreatDoorArF
import Derived.Test.YtflaiaeofndgmaaGreatDoorVmC
namespace Go.Vm.ArzG.L
theorem bL_irr:∀ x:List UInt8,Op.bytesLess x x=false
 | []=>rfl
 | a :: x=>by
  have h:¬ a < a:=fun h=>Nat.lt_irrefl _ h
  simp [Op.bytesLess,bL_irr x]
theorem bL_tri:∀ x y:List UInt8,(!(Op.bytesLess x y))=(Op.bytesLess y x || y == x)
 | [],[]=>rfl
 | [],b :: y=>by simp [Op.bytesLess]
 | a :: x,[]=>by simp [Op.bytesLess]
 | a :: x,b :: y=>by
  have ih:=bL_tri x y
  simp only [Op.bytesLess]
  have e1:(b :: y == a :: x)=((b == a) && (y == x)):=rfl
  rw [e1]
  rcases Nat.lt_trichotomy a.toNat b.toNat with h | h | h
  ·have h1:a < b:=h
   have h2:¬ b < a:=fun h'=>Nat.lt_asymm h h'
   have h3:(b == a)=false:=by
    rw [beq_eq_false_iff_ne]
    intro e
    rw [e] at h
    exact Nat.lt_irrefl _ h
   simp [h1,h2,h3]
  ·have e:a=b:=UInt8.toNat_inj.1 h
   subst e
   have h1:¬ a < a:=fun h=>Nat.lt_irrefl _ h
   simp [h1,ih]
  ·have h1:b < a:=h
   have h2:¬ a < b:=fun h'=>Nat.lt_asymm h h'
   have h3:(a == b)=false:=by
    rw [beq_eq_false_iff_ne]
    intro e
    rw [e] at h
    exact Nat.lt_irrefl _ h
   simp [h1,h2,h3]
theorem bL_trans:∀ {x y z:List UInt8},Op.bytesLess x y=true→Op.bytesLess y z=true→Op.bytesLess x z=true
 | _,[],_,h,_=>by cases ‹List UInt8› <;> simp [Op.bytesLess] at h
 | _,_ :: _,[],_,h=>by simp [Op.bytesLess] at h
 | [],_ :: _,_ :: _,_,_=>rfl
 | a :: x,b :: y,c :: z,h1,h2=>by
  simp only [Op.bytesLess,Bool.or_eq_true,decide_eq_true_eq,Bool.and_eq_true,beq_iff_eq] at h1 h2 ⊢
  rcases h1 with h1 | ⟨rfl,h1⟩ <;> rcases h2 with h2 | ⟨rfl,h2⟩
  ·exact .inl (UInt8.lt_trans h1 h2)
  ·exact .inl h1
  ·exact .inl h2
  ·exact .inr ⟨rfl,bL_trans h1 h2⟩
def objAt:List (List UInt8)→List UInt8→Nat
 | [],_=>0
 | x :: r,key=>bif Op.bytesLess x key then objAt r key+1 else 0
open Go.Vm
def Srt (l:List (List UInt8)):Prop:=l.Pairwise (fun a b=>Op.bytesLess a b=true)
theorem objAt_le (x:List UInt8):∀ l:List (List UInt8),objAt l x≤l.length
 | []=>Nat.le_refl _
 | y :: r=>by
  unfold objAt
  have:=objAt_le x r
  cases Op.bytesLess y x
  ·exact Nat.zero_le _
  ·exact Nat.succ_le_succ this
theorem objAt_lt {x:List UInt8}:∀ (l:List (List UInt8)),Srt l→∀ (i:Nat) (y:List UInt8),l[i]? = some y→(Op.bytesLess y x=true↔i < objAt l x)
 | [],_,i,y,h=>by simp at h
 | a :: r,hs,i,y,h=>by
  obtain ⟨h1,h2⟩:=List.pairwise_cons.1 hs
  unfold objAt
  cases hb:Op.bytesLess a x with
  | true =>
   rw [cond_true]
   match i,h with
   | 0,h =>
    simp at h
    subst h
    simp [hb]
   | i+1,h =>
    rw [objAt_lt r h2 i y (by simpa using h)]
    omega
  | false =>
   rw [cond_false]
   match i,h with
   | 0,h =>
    simp at h
    subst h
    simp [hb]
   | i+1,h =>
    have hy:y∈r:=List.mem_of_getElem? (by simpa using h)
    refine ⟨fun hl=>?_,fun hl=>absurd hl (Nat.not_lt_zero _)⟩
    rw [bL_trans (h1 y hy) hl] at hb
    cases hb
theorem mid_eq {i j:Nat} (h:i+j < 1000000):IntKind.i64.wrap ((IntKind.u64.wrap (IntKind.i64.wrap ((i:Int)+(j:Int)))).fdiv (2 ^ (min (1:Int).toNat IntKind.u64.bits)))=(((i+j) / 2:Nat):Int):=by
 have e:IntKind.u64.wrap ((i:Int)+(j:Int))=(i:Int)+(j:Int):=by
  show ((i:Int)+(j:Int)) % 18446744073709551616=_
  omega
 rw [wrap_id (x:=(i:Int)+(j:Int)) (by omega),e,show ((2:Int) ^ (min (1:Int).toNat IntKind.u64.bits))=2 from rfl,Int.fdiv_eq_ediv_of_nonneg _ (by omega),wrap_id (by omega)]
 omega
theorem less_str (F:Nat) (a b:List UInt8):cmp_Less_string F a b=some (Op.bytesLess a b):=by
 unfold cmp_Less_string cmp_isNaN_string
 simp [call_some]
theorem bs_L0 {F:Nat} {l:List (List UInt8)} {x:List UInt8} (hs:Srt l) (hl:l.length≤100000):∀ (m lo hi n:Nat),hi - lo≤m→m < n→lo≤objAt l x→objAt l x≤hi→hi≤l.length→slices_BinarySearch_string_L0 F l x n (lo:Int) (hi:Int)=some ((objAt l x:Nat):Int)
 | m,lo,hi,0,_,hn,_,_,_=>absurd hn (Nat.not_lt_zero _)
 | m,lo,hi,n+1,hm,hn,h1,h2,h3=>by
  unfold slices_BinarySearch_string_L0
  by_cases hlt:lo < hi
  ·rw [decide_eq_true (by omega),cond_true,lett_eq,mid_eq (by omega)]
   have hmid:(lo+hi) / 2 < l.length:=by omega
   rw [chk_pos (by omega),less_str,call_some,Int.toNat_natCast,List.getD_eq_getElem?_getD,List.getElem?_eq_getElem hmid,Option.getD_some]
   have hiff:=objAt_lt (x:=x) l hs ((lo+hi) / 2) _ (List.getElem?_eq_getElem hmid)
   cases hb:Op.bytesLess l[(lo+hi) / 2] x with
   | true =>
    rw [cond_true,wrap_succ (by omega)]
    have:=hiff.1 hb
    exact bs_L0 hs hl (m - 1) _ hi n (by omega) (by omega) (by omega) h2 h3
   | false =>
    rw [cond_false]
    have:¬ (lo+hi) / 2 < objAt l x:=fun h=>by rw [hiff.2 h] at hb; cases hb
    exact bs_L0 hs hl (m - 1) lo _ n (by omega) (by omega) h1 (by omega) (by omega)
  ·rw [decide_eq_false (by omega),cond_false]
   have:lo=objAt l x:=by omega
   rw [this]
theorem bs_eq {F:Nat} {l:List (List UInt8)} {x:List UInt8} (hs:Srt l) (hl:l.length≤100000) (hF:l.length < F):slices_BinarySearch_string F l x=some (((objAt l x:Nat):Int),l.contains x):=by
 unfold slices_BinarySearch_string
 have h0:=bs_L0 (F:=F) (x:=x) hs hl l.length 0 l.length F (by omega) hF (Nat.zero_le _) (objAt_le _ _) (Nat.le_refl _)
 rw [show ((0:Nat):Int)=0 from rfl] at h0
 rw [h0,call_some]
 have hle:=objAt_le x l
 rw [chk_pos (fun h=>?_),chk_pos (fun h=>?_)]
 ·have q2:(bif ((((l.getD ((objAt l x:Nat):Int).toNat []) == x) == false) && (((decide (((objAt l x:Nat):Int) < (l.length:Int))) == true) && true)) then slices_isNaN_string F (l.getD ((objAt l x:Nat):Int).toNat []) else some false)=some false:=by
   unfold slices_isNaN_string
   cases ((((l.getD ((objAt l x:Nat):Int).toNat []) == x) == false) && (((decide (((objAt l x:Nat):Int) < (l.length:Int))) == true) && true)) <;> simp
  rw [q2,call_some]
  simp only [show ((false == true) && ((((l.getD ((objAt l x:Nat):Int).toNat []) == x) == false) && (((decide (((objAt l x:Nat):Int) < (l.length:Int))) == true) && true)))=false from rfl,cond_false,call_some,lett_eq]
  congr 2
  rw [Int.toNat_natCast]
  by_cases hlt:objAt l x < l.length
  ·rw [decide_eq_true (by omega),cond_true,List.getD_eq_getElem?_getD,List.getElem?_eq_getElem hlt,Option.getD_some]
   have hiff:=objAt_lt (x:=x) l hs (objAt l x) _ (List.getElem?_eq_getElem hlt)
   have hn:Op.bytesLess l[objAt l x] x=false:=by
    cases hb:Op.bytesLess l[objAt l x] x with
    | true=>exact absurd (hiff.1 hb) (Nat.lt_irrefl _)
    | false=>rfl
   cases hq:(l[objAt l x] == x) with
   | true =>
    rw [cond_true]
    simp only [beq_iff_eq] at hq
    exact (List.contains_iff_mem.2 (hq ▸ List.getElem_mem hlt)).symm
   | false =>
    rw [cond_false]
    cases hc:l.contains x with
    | false=>rfl
    | true =>
     obtain ⟨i,hi,hx⟩:=List.getElem_of_mem (List.contains_iff_mem.1 hc)
     have e1:=(objAt_lt (x:=x) l hs i _ (List.getElem?_eq_getElem hi))
     rw [hx,bL_irr] at e1
     have h4:objAt l x≤i:=Nat.le_of_not_lt fun h=>by have:=e1.2 h; cases this
     rcases Nat.lt_or_ge (objAt l x) i with h5 | h5
     ·have h6:=List.pairwise_iff_getElem.1 hs (objAt l x) i hlt hi h5
      rw [hx] at h6
      rw [h6] at hn
      cases hn
     ·have h7:objAt l x=i:=by omega
      have:l[objAt l x]=x:=by simp only [h7]; exact hx
      rw [this] at hq
      simp at hq
  ·rw [decide_eq_false (by omega),cond_false]
   cases hc:l.contains x with
   | false=>rfl
   | true =>
    obtain ⟨i,hi,hx⟩:=List.getElem_of_mem (List.contains_iff_mem.1 hc)
    have e1:=(objAt_lt (x:=x) l hs i _ (List.getElem?_eq_getElem hi))
    rw [hx,bL_irr] at e1
    have:i < objAt l x:=by omega
    have:=e1.2 this
    cases this
 ·simp at h; omega
 ·simp at h; omega
/-- The keys go on being sorted. -/
theorem Srt.ins {l:List (List UInt8)} {x:List UInt8} (hs:Srt l) (hc:l.contains x=false):Srt (l.take (objAt l x)++x :: l.drop (objAt l x)):=by
 have ht:Srt (l.take (objAt l x)):=hs.sublist (List.take_sublist _ _)
 have hd:Srt (l.drop (objAt l x)):=hs.sublist (List.drop_sublist _ _)
 have h1:∀ a∈l.take (objAt l x),Op.bytesLess a x=true:=fun a ha=>by
  obtain ⟨i,hi,rfl⟩:=List.getElem_of_mem ha
  rw [List.length_take] at hi
  rw [List.getElem_take]
  exact (objAt_lt l hs i _ (List.getElem?_eq_getElem (by omega))).2 (by omega)
 have h2:∀ a∈l.drop (objAt l x),Op.bytesLess x a=true:=fun a ha=>by
  obtain ⟨i,hi,rfl⟩:=List.getElem_of_mem ha
  rw [List.length_drop] at hi
  have hlt:objAt l x+i < l.length:=by omega
  rw [List.getElem_drop]
  have e1:=(objAt_lt (x:=x) l hs (objAt l x+i) _ (List.getElem?_eq_getElem hlt))
  have hn:Op.bytesLess l[objAt l x+i] x=false:=by
   cases hb:Op.bytesLess l[objAt l x+i] x with
   | true=>have:=e1.1 hb; omega
   | false=>rfl
  have e2:=bL_tri l[objAt l x+i] x
  rw [hn,Bool.not_false] at e2
  have hne:(x == l[objAt l x+i])=false:=by
   cases hq:(x == l[objAt l x+i]) with
   | false=>rfl
   | true =>
    simp only [beq_iff_eq] at hq
    have hm:x∈l:=by rw [hq]; exact List.getElem_mem hlt
    rw [List.contains_iff_mem.2 hm] at hc
    cases hc
  rw [hne,Bool.or_false] at e2
  exact e2.symm
 refine List.pairwise_append.2 ⟨ht,List.pairwise_cons.2 ⟨h2,hd⟩,fun a ha b hb=>?_⟩
 rcases List.mem_cons.1 hb with rfl | hb
 ·exact h1 a ha
 ·exact bL_trans (h1 a ha) (h2 b hb)
end Go.Vm.ArzG.L
