/-
  Row 37,plain law: the errors of a step.
-/
import Derived.Test.YtldmbabgcdmjcaaGreatDoorObjNa
import Derived.Test.YtldmbabgcdmjcaaGreatDoorObjLh
namespace Go.Vm.ObjM
open Go.Vm
theorem contains_cons (x:List UInt8) (r:List (List UInt8)) (s:List UInt8):(x :: r).contains s=(x == s || r.contains s):=by
 rw [List.contains_cons]
 congr 1
 rw [Bool.eq_iff_iff]
 simp only [beq_iff_eq]
 exact ⟨Eq.symm,Eq.symm⟩
theorem aR1 (F:Nat) (l:List (List UInt8)) (s:List UInt8) (hl:l.length≤100000):∀ (m i n:Nat),i+m=l.length→m < n→jJ F l s n (i:Int)=some (bif (l.drop i).contains s then .esc true else .go ())
 | 0,i,n,hi,hn=>by
  obtain ⟨n,rfl⟩:∃ k,n=k+1:=⟨n - 1,by omega⟩
  unfold jJ
  rw [decide_eq_false (by omega),cond_false,List.drop_eq_nil_of_le (by omega)]
  rfl
 | m+1,i,n,hi,hn=>by
  obtain ⟨n,rfl⟩:∃ k,n=k+1:=⟨n - 1,by omega⟩
  have hlt:i < l.length:=by omega
  unfold jJ
  rw [decide_eq_true (by omega),cond_true,aL (by omega),Int.toNat_natCast,List.drop_eq_getElem_cons hlt,contains_cons,List.getD_eq_getElem?_getD,List.getElem?_eq_getElem hlt,Option.getD_some]
  cases h:(l[i] == s) with
  | true=>rfl
  | false =>
   rw [cond_false,Bool.false_or,show IntKind.i64.wrap ((i:Int)+1)=((i+1:Nat):Int) from eF (by omega)]
   exact aR1 F l s hl m (i+1) n (by omega) (by omega)
theorem bU0 {F:Nat} {l:List (List UInt8)} {s:List UInt8} (hl:l.length≤100000) (hF:l.length < F):pJ F l s=some (l.contains s):=by
 unfold pJ
 have:=aR1 F l s hl l.length 0 F (by omega) hF
 rw [show ((0:Nat):Int)=0 from rfl] at this
 rw [this,List.drop_zero]
 cases l.contains s <;> rfl
/-- The error of a token where a value may begin,in so many open ones. -/
def wF (t:aD) (n:Nat):Int:=bif t.f0 == 0 then 12 else bif (bif t.f0 == 7 then true else t.f0 == 9) then 5 else bif decide (12≤n) then 15 else 0
theorem bB3 (t:aD) (n:Nat):(bif (t.f0 == (0:Int)) then
  some (false,(12:Int))
 else
  bif (bif (t.f0 == (7:Int)) then true else (t.f0 == (9:Int))) then
   some (false,(5:Int))
  else
   bif (decide ((n:Int) ≥ (12:Int))) then
    some (false,(15:Int))
   else
    some (false,(0:Int)))=some (false,wF t n):=by
 unfold wF
 have e:decide ((n:Int) ≥ 12)=decide (12≤n):=by
  by_cases h:12≤n
  ·rw [decide_eq_true h,decide_eq_true (by omega)]
  ·rw [decide_eq_false h,decide_eq_false (by omega)]
 rw [e]
 cases t.f0 == 0
 ·cases (bif t.f0 == 7 then true else t.f0 == 9)
  ·cases decide (12≤n) <;> rfl
  ·rfl
 ·rfl
theorem step_nil {F:Nat} {t:aD}:dK F ([]:List bE).reverse t=some (false,wF t 0):=by
 unfold dK
 rw [aL (by intro h; cases h),aY]
 simp only [List.reverse_nil,List.length_nil,show decide (((0:Nat):Int) > 0)=false from rfl,cond_false,aW]
 exact bB3 t 0
section
variable {F:Nat} {t:aD} {f:bE} {r:List bE}
theorem aK8:(((f :: r).reverse.length:Nat):Int)=(r.length:Int)+1:=by rw [List.length_reverse,List.length_cons]; rfl
theorem aQ3 (hr:r.length≤100000):IntKind.i64.wrap ((((f :: r).reverse.length:Nat):Int) - 1)=((r.length:Nat):Int):=by
 rw [aK8,show (r.length:Int)+1 - 1=((r.length:Nat):Int) by omega]
 exact eF (by omega)
theorem aR9 (d:bE):(f :: r).reverse.getD r.length d=f:=by
 rw [List.getD_eq_getElem?_getD,List.reverse_cons,List.getElem?_append_right (by simp)]
 simp
theorem cL3 (hr:r.length≤100000) (hf:f.f2=true):dK F (f :: r).reverse t=some (false,wF t (r.length+1)):=by
 unfold dK
 rw [aQ3 hr,Int.toNat_natCast,aR9,aK8,decide_eq_true (show (r.length:Int)+1 > 0 by omega),aL (fun _=>by constructor <;> omega),aY,hf]
 simp only [Bool.not_true,cond_true,cond_false,aW]
 exact bB3 t (r.length+1)
theorem cB9 (hr:r.length≤100000) (hf:f.f2=false) (hk:f.f0.f0=6):dK F (f :: r).reverse t=some (bif t.f0 == 7 then (true,0) else bif t.f0 == 0 then (false,12) else bif decide (f.f0.f4.length=256) then (false,2) else (false,wF t (r.length+1))):=by
 unfold dK
 rw [aQ3 hr,Int.toNat_natCast,aR9,aK8,decide_eq_true (show (r.length:Int)+1 > 0 by omega),aL (fun _=>by constructor <;> omega),aY,hf]
 have e:((f.f0.f4.length:Int) == 256)=decide (f.f0.f4.length=256):=by
  by_cases h:f.f0.f4.length=256
  ·rw [h]; rfl
  ·rw [decide_eq_false h]; simpa using (by omega:¬ (f.f0.f4.length:Int)=256)
 simp only [Bool.not_false,cond_true]
 rw [aL (by constructor <;> omega),aY,aY,aY,aY,hk,e]
 simp only [show ((6:Int) == 6)=true from rfl,Bool.not_true,cond_true,cond_false,show ((false == true) && true)=false from rfl,aA]
 cases h7:t.f0 == 7
 ·cases h0:t.f0 == 0
  ·cases decide (f.f0.f4.length=256)
   ·simp only [cond_false,aW]
    have:=bB3 t (r.length+1)
    rw [h0,h7] at this
    exact this
   ·rfl
  ·rfl
 ·rfl
theorem bZ6 (hr:r.length≤100000) (hf:f.f2=false) (hk:f.f0.f0=7) (hl:f.f0.f3.length≤100000) (hF:f.f0.f3.length < F):dK F (f :: r).reverse t=some (bif t.f0 == 9 then (true,0) else bif t.f0 == 0 then (false,12) else bif decide (f.f0.f4.length=256) then (false,2) else bif t.f0 != 2 then (false,5) else bif f.f0.f3.contains t.f2 then (false,7) else (false,0)):=by
 unfold dK
 rw [aQ3 hr,Int.toNat_natCast,aR9,aK8,decide_eq_true (show (r.length:Int)+1 > 0 by omega),aL (fun _=>by constructor <;> omega),aY,hf]
 have e:((f.f0.f4.length:Int) == 256)=decide (f.f0.f4.length=256):=by
  by_cases h:f.f0.f4.length=256
  ·rw [h]; rfl
  ·rw [decide_eq_false h]; simpa using (by omega:¬ (f.f0.f4.length:Int)=256)
 simp only [Bool.not_false,cond_true]
 rw [aL (by constructor <;> omega),aY,aY,aY,aY,hk,e]
 simp only [show ((7:Int) == 6)=false from rfl,Bool.not_false,cond_true,cond_false,show ((true == true) && true)=true from rfl,bU0 hl hF,aA]
 cases t.f0 == 9
 ·cases t.f0 == 0
  ·cases decide (f.f0.f4.length=256)
   ·cases t.f0 != 2
    ·cases f.f0.f3.contains t.f2 <;> rfl
    ·rfl
   ·rfl
  ·rfl
 ·rfl
end
end Go.Vm.ObjM
