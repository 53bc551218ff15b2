/-
  Row 37,plain law: the binary search among sorted keys; the parser's small steps.
-/
import Derived.Test.YtldmbabgcdmjcaaGreatDoorObjNb
namespace Go.Vm.ObjM
open Go.Vm
def Srt (l:List (List UInt8)):Prop:=l.Pairwise (fun a b=>Op.bytesLess a b=true)
theorem aD1 (x:List UInt8):∀ l:List (List UInt8),dQ l x≤l.length
 | []=>Nat.le_refl _
 | y :: r=>by
  unfold dQ
  have:=aD1 x r
  cases Op.bytesLess y x
  ·exact Nat.zero_le _
  ·exact Nat.succ_le_succ this
theorem tI {x:List UInt8}:∀ (l:List (List UInt8)),Srt l→∀ (i:Nat) (y:List UInt8),l[i]? = some y→(Op.bytesLess y x=true↔i < dQ l x)
 | [],_,i,y,h=>by simp at h
 | a :: r,hs,i,y,h=>by
  obtain ⟨h1,h2⟩:=List.pairwise_cons.1 hs
  unfold dQ
  cases hb:Op.bytesLess a x with
  | true =>
   rw [cond_true]
   match i,h with
   | 0,h =>
    simp at h
    subst h
    simp [hb]
   | i+1,h =>
    rw [tI r h2 i y (by simpa using h)]
    omega
  | false =>
   rw [cond_false]
   match i,h with
   | 0,h =>
    simp at h
    subst h
    simp [hb]
   | i+1,h =>
    have hy:y∈r:=List.mem_of_getElem? (by simpa using h)
    refine ⟨fun hl=>?_,fun hl=>absurd hl (Nat.not_lt_zero _)⟩
    rw [aP5 (h1 y hy) hl] at hb
    cases hb
theorem cW4 {i j:Nat} (h:i+j < 1000000):IntKind.i64.wrap ((IntKind.u64.wrap (IntKind.i64.wrap ((i:Int)+(j:Int)))).fdiv (2 ^ (min (1:Int).toNat IntKind.u64.bits)))=(((i+j) / 2:Nat):Int):=by
 have e:IntKind.u64.wrap ((i:Int)+(j:Int))=(i:Int)+(j:Int):=by
  show ((i:Int)+(j:Int)) % 18446744073709551616=_
  omega
 rw [eF (x:=(i:Int)+(j:Int)) (by omega),e,show ((2:Int) ^ (min (1:Int).toNat IntKind.u64.bits))=2 from rfl,Int.fdiv_eq_ediv_of_nonneg _ (by omega),eF (by omega)]
 omega
theorem cN2 (F:Nat) (a b:List UInt8):cmp_Less_string F a b=some (Op.bytesLess a b):=by
 unfold cmp_Less_string cmp_isNaN_string
 simp [aA]
theorem cM2 {F:Nat} {l:List (List UInt8)} {x:List UInt8} (hs:Srt l) (hl:l.length≤100000):∀ (m lo hi n:Nat),hi - lo≤m→m < n→lo≤dQ l x→dQ l x≤hi→hi≤l.length→dE F l x n (lo:Int) (hi:Int)=some ((dQ l x:Nat):Int)
 | m,lo,hi,0,_,hn,_,_,_=>absurd hn (Nat.not_lt_zero _)
 | m,lo,hi,n+1,hm,hn,h1,h2,h3=>by
  unfold dE
  by_cases hlt:lo < hi
  ·rw [decide_eq_true (by omega),cond_true,aY,cW4 (by omega)]
   have hmid:(lo+hi) / 2 < l.length:=by omega
   rw [aL (by omega),cN2,aA,Int.toNat_natCast,List.getD_eq_getElem?_getD,List.getElem?_eq_getElem hmid,Option.getD_some]
   have hiff:=tI (x:=x) l hs ((lo+hi) / 2) _ (List.getElem?_eq_getElem hmid)
   cases hb:Op.bytesLess l[(lo+hi) / 2] x with
   | true =>
    rw [cond_true,bS (by omega)]
    have:=hiff.1 hb
    exact cM2 hs hl (m - 1) _ hi n (by omega) (by omega) (by omega) h2 h3
   | false =>
    rw [cond_false]
    have:¬ (lo+hi) / 2 < dQ l x:=fun h=>by rw [hiff.2 h] at hb; cases hb
    exact cM2 hs hl (m - 1) lo _ n (by omega) (by omega) h1 (by omega) (by omega)
  ·rw [decide_eq_false (by omega),cond_false]
   have:lo=dQ l x:=by omega
   rw [this]
theorem dB3 {F:Nat} {l:List (List UInt8)} {x:List UInt8} (hs:Srt l) (hl:l.length≤100000) (hF:l.length < F):slices_BinarySearch_string F l x=some (((dQ l x:Nat):Int),l.contains x):=by
 unfold slices_BinarySearch_string
 have h0:=cM2 (F:=F) (x:=x) hs hl l.length 0 l.length F (by omega) hF (Nat.zero_le _) (aD1 _ _) (Nat.le_refl _)
 rw [show ((0:Nat):Int)=0 from rfl] at h0
 rw [h0,aA]
 have hle:=aD1 x l
 rw [aL (fun h=>?_),aL (fun h=>?_)]
 ·have q2:(bif ((((l.getD ((dQ l x:Nat):Int).toNat []) == x) == false) && (((decide (((dQ l x:Nat):Int) < (l.length:Int))) == true) && true)) then slices_isNaN_string F (l.getD ((dQ l x:Nat):Int).toNat []) else some false)=some false:=by
   unfold slices_isNaN_string
   cases ((((l.getD ((dQ l x:Nat):Int).toNat []) == x) == false) && (((decide (((dQ l x:Nat):Int) < (l.length:Int))) == true) && true)) <;> simp
  rw [q2,aA]
  simp only [show ((false == true) && ((((l.getD ((dQ l x:Nat):Int).toNat []) == x) == false) && (((decide (((dQ l x:Nat):Int) < (l.length:Int))) == true) && true)))=false from rfl,cond_false,aA,aY]
  congr 2
  rw [Int.toNat_natCast]
  by_cases hlt:dQ l x < l.length
  ·rw [decide_eq_true (by omega),cond_true,List.getD_eq_getElem?_getD,List.getElem?_eq_getElem hlt,Option.getD_some]
   have hiff:=tI (x:=x) l hs (dQ l x) _ (List.getElem?_eq_getElem hlt)
   have hn:Op.bytesLess l[dQ l x] x=false:=by
    cases hb:Op.bytesLess l[dQ l x] x with
    | true=>exact absurd (hiff.1 hb) (Nat.lt_irrefl _)
    | false=>rfl
   cases hq:(l[dQ l x] == x) with
   | true =>
    rw [cond_true]
    simp only [beq_iff_eq] at hq
    exact (List.contains_iff_mem.2 (hq ▸ List.getElem_mem hlt)).symm
   | false =>
    rw [cond_false]
    cases hc:l.contains x with
    | false=>rfl
    | true =>
     obtain ⟨i,hi,hx⟩:=List.getElem_of_mem (List.contains_iff_mem.1 hc)
     have e1:=(tI (x:=x) l hs i _ (List.getElem?_eq_getElem hi))
     rw [hx,bN2] at e1
     have h4:dQ l x≤i:=Nat.le_of_not_lt fun h=>by have:=e1.2 h; cases this
     rcases Nat.lt_or_ge (dQ l x) i with h5 | h5
     ·have h6:=List.pairwise_iff_getElem.1 hs (dQ l x) i hlt hi h5
      rw [hx] at h6
      rw [h6] at hn
      cases hn
     ·have h7:dQ l x=i:=by omega
      have:l[dQ l x]=x:=by simp only [h7]; exact hx
      rw [this] at hq
      simp at hq
  ·rw [decide_eq_false (by omega),cond_false]
   cases hc:l.contains x with
   | false=>rfl
   | true =>
    obtain ⟨i,hi,hx⟩:=List.getElem_of_mem (List.contains_iff_mem.1 hc)
    have e1:=(tI (x:=x) l hs i _ (List.getElem?_eq_getElem hi))
    rw [hx,bN2] at e1
    have:i < dQ l x:=by omega
    have:=e1.2 this
    cases this
 ·simp at h; omega
 ·simp at h; omega
/-- The keys go on being sorted. -/
theorem Srt.ins {l:List (List UInt8)} {x:List UInt8} (hs:Srt l) (hc:l.contains x=false):Srt (l.take (dQ l x)++x :: l.drop (dQ l x)):=by
 have ht:Srt (l.take (dQ l x)):=hs.sublist (List.take_sublist _ _)
 have hd:Srt (l.drop (dQ l x)):=hs.sublist (List.drop_sublist _ _)
 have h1:∀ a∈l.take (dQ l x),Op.bytesLess a x=true:=fun a ha=>by
  obtain ⟨i,hi,rfl⟩:=List.getElem_of_mem ha
  rw [List.length_take] at hi
  rw [List.getElem_take]
  exact (tI l hs i _ (List.getElem?_eq_getElem (by omega))).2 (by omega)
 have h2:∀ a∈l.drop (dQ l x),Op.bytesLess x a=true:=fun a ha=>by
  obtain ⟨i,hi,rfl⟩:=List.getElem_of_mem ha
  rw [List.length_drop] at hi
  have hlt:dQ l x+i < l.length:=by omega
  rw [List.getElem_drop]
  have e1:=(tI (x:=x) l hs (dQ l x+i) _ (List.getElem?_eq_getElem hlt))
  have hn:Op.bytesLess l[dQ l x+i] x=false:=by
   cases hb:Op.bytesLess l[dQ l x+i] x with
   | true=>have:=e1.1 hb; omega
   | false=>rfl
  have e2:=bE3 l[dQ l x+i] x
  rw [hn,Bool.not_false] at e2
  have hne:(x == l[dQ l x+i])=false:=by
   cases hq:(x == l[dQ l x+i]) with
   | false=>rfl
   | true =>
    simp only [beq_iff_eq] at hq
    have hm:x∈l:=by rw [hq]; exact List.getElem_mem hlt
    rw [List.contains_iff_mem.2 hm] at hc
    cases hc
  rw [hne,Bool.or_false] at e2
  exact e2.symm
 refine List.pairwise_append.2 ⟨ht,List.pairwise_cons.2 ⟨h2,hd⟩,fun a ha b hb=>?_⟩
 rcases List.mem_cons.1 hb with rfl | hb
 ·exact h1 a ha
 ·exact aP5 (h1 a ha) (h2 b hb)
end Go.Vm.ObjM
