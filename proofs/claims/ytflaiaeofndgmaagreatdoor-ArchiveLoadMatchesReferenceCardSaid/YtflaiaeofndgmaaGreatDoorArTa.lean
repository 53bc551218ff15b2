/-
  archive: a number of at most nine digits,in both texts.
-/
import Derived.Test.YtflaiaeofndgmaaGreatDoorArF
import Derived.Test.YtflaiaeofndgmaaGreatDoorVmC
import Derived.Lib.AtoiAll
import Derived.Lib.ItoaNum
namespace Go.Vm.ArzG.L
def isDig (c:UInt8):Bool:=decide (48≤c.toNat) && decide (c.toNat≤57)
def dv (c:UInt8):Nat:=c.toNat - 48
def valD (a:Nat) (s:List UInt8):Nat:=s.foldl (fun a c=>a * 10+dv c) a
theorem valD_cons (a:Nat) (c:UInt8) (r:List UInt8):valD a (c :: r)=valD (a * 10+dv c) r:=List.foldl_cons ..
theorem dv_in {c:UInt8} (h:48≤c.toNat∧c.toNat≤57):dv c≤9∧dv c+48=c.toNat:=by unfold dv; omega
theorem wstep {acc d e:Nat} (h:acc < 100000000) (hd:e≤9∧e+48=d):IntKind.i64.wrap (IntKind.i64.wrap (IntKind.i64.wrap ((acc:Int) * 10)+(IntKind.i64.wrap (d:Int))) - 48)=((acc * 10+e:Nat):Int):=by
 rw [wrap_id (x:=(acc:Int) * 10) (by omega),wrap_id (x:=(d:Int)) (by omega),wrap_id (x:=(acc:Int) * 10+(d:Int)) (by omega),wrap_id (by omega)]
 omega
theorem valD_nil (a:Nat):valD a []=a:=rfl
theorem p8:(10:Nat) ^ 8=100000000:=by decide
theorem p9:(10:Nat) ^ 9=1000000000:=by decide
theorem digit_eq (F:Nat) (c:UInt8):ref3_digit F ((c.toNat:Nat):Int)=some (isDig c):=by
 unfold ref3_digit isDig
 congr 1
 by_cases h:48≤c.toNat
 ·rw [decide_eq_true (show ((c.toNat:Nat):Int) ≥ 48 by omega),cond_true,decide_eq_true h,Bool.true_and]
  by_cases h2:c.toNat≤57
  ·rw [decide_eq_true (by omega),decide_eq_true h2]
  ·rw [decide_eq_false (by omega),decide_eq_false h2]
 ·rw [decide_eq_false (show ¬ ((c.toNat:Nat):Int) ≥ 48 by omega),cond_false,decide_eq_false h,Bool.false_and]
theorem isDig_in {c:UInt8} (h:isDig c=true):48≤c.toNat∧c.toNat≤57:=by simpa [isDig] using h
theorem dropC {s r:List UInt8} {c:UInt8} {i:Nat} (h:s.drop i=c :: r):i < s.length∧s.getD i 0=c∧s.drop (i+1)=r:=by
 have hl:i < s.length:=by
  rcases Nat.lt_or_ge i s.length with h' | h'
  ·exact h'
  ·rw [List.drop_eq_nil_of_le h'] at h; cases h
 have h2:=List.drop_eq_getElem_cons hl
 rw [h] at h2
 injection h2 with h3 h4
 exact ⟨hl,by rw [List.getD_eq_getElem?_getD,List.getElem?_eq_getElem hl,← h3]; rfl,h4.symm⟩
def wout (s xs:List UInt8) (acc:Nat):Out Int Int:=if xs.all isDig=true then .go ((valD acc xs:Nat):Int) else .esc (-1)
theorem whole_L0 {F:Nat} (s:List UInt8) (hs:s.length≤9):∀ (xs:List UInt8) (i n acc:Nat),s.drop i=xs→i+xs.length=s.length→xs.length < n→acc < 10 ^ i→ref3_whole_L0 F s n (acc:Int) (i:Int)=some (wout s xs acc)
 | [],i,n,acc,hd,hl,hn,ha=>by
  obtain ⟨n,rfl⟩:∃ q,n=q+1:=⟨n - 1,by omega⟩
  have:i=s.length:=by simpa using hl
  subst this
  rw [ref3_whole_L0,dec_end,cond_false]
  rfl
 | c :: r,i,n,acc,hd,hl,hn,ha=>by
  obtain ⟨n,rfl⟩:∃ q,n=q+1:=⟨n - 1,by omega⟩
  obtain ⟨h1,h2,h3⟩:=dropC hd
  rw [ref3_whole_L0,dec_lt h1,cond_true,chk_in h1,Int.toNat_natCast,h2,digit_eq,call_some]
  unfold wout
  cases hc:isDig c with
  | false=>simp [hc]
  | true =>
   have hc2:=isDig_in hc
   have hp:10 ^ i≤10 ^ 8:=Nat.pow_le_pow_right (by decide) (by simp at hl; omega)
   have ha2:acc < 100000000:=by rw [p8] at hp; exact Nat.lt_of_lt_of_le ha hp
   clear hp
   have hdv:=dv_in hc2
   have e:=wstep ha2 hdv
   rw [Bool.not_true,cond_false,chk_in h1,lett_eq,lett_eq,e,if_neg (by omega),wrap_succ (by omega),whole_L0 s hs r (i+1) n _ h3 (by simp at hl; omega) (by simp at hn; omega) (by rw [Nat.pow_succ]; omega)]
   simp [wout,hc,valD_cons]
/-- A number without a nought ahead,of at most nine digits. -/
def tidyOk (s:List UInt8):Bool:=s.all isDig && (!(s == [])) && decide (s.length≤9) && (decide (s.length≤1) || !(s.getD 0 0 == 48))
theorem tidy_eq {F:Nat} (s:List UInt8) (hF:20≤F):ref3_Tidy F s=some (if tidyOk s=true then ((valD 0 s:Nat):Int) else -1):=by
 unfold ref3_Tidy tidyOk
 by_cases h9:s.length≤9
 case neg =>
  rw [chk_pos (fun h=>?_),lett_eq,decide_eq_true (show (s.length:Int) > 9 by omega),cond_true,cond_true,decide_eq_false h9]
  ·simp
  ·rw [decide_eq_true (show (s.length:Int) > 9 by omega)] at h
   simp at h
 have hz:(((s.getD (0:Int).toNat 0).toNat:Int) == 48)=(s.getD 0 0 == 48):=by
  rw [Bool.eq_iff_iff,beq_iff_eq,beq_iff_eq]
  constructor
  ·intro h
   apply UInt8.toNat_inj.1
   have:((s.getD 0 0).toNat:Int)=48:=h
   have h48:(48:UInt8).toNat=48:=rfl
   omega
  ·intro h
   show ((s.getD 0 0).toNat:Int)=48
   rw [h]
   rfl
 rw [chk_pos (fun h=>?_),lett_eq,decide_eq_false (show ¬ (s.length:Int) > 9 by omega),cond_false,decide_eq_true h9,Bool.and_true,hz]
 ·by_cases h1:s.length≤1
  ·rw [decide_eq_false (show ¬ (s.length:Int) > 1 by omega),cond_false,cond_false,decide_eq_true h1,Bool.true_or,Bool.and_true]
   unfold ref3_whole
   cases s with
   | nil=>rfl
   | cons c r =>
    rw [show ((c :: r) == ([]:List UInt8))=false from rfl,cond_false,show ref3_whole_L0 F (c :: r) F 0 0=_ from whole_L0 (c :: r) h9 (c :: r) 0 F 0 rfl (by simp) (by simp at h9 ⊢; omega) (by decide)]
    unfold wout
    cases h:(c :: r).all isDig <;> simp [callE,call_some]
  ·rw [decide_eq_true (show (s.length:Int) > 1 by omega),cond_true,decide_eq_false h1,Bool.false_or]
   cases hq:(s.getD 0 0 == 48) with
   | true=>simp
   | false =>
    rw [cond_false,Bool.not_false,Bool.and_true]
    unfold ref3_whole
    cases s with
    | nil=>simp at h1
    | cons c r =>
     rw [show ((c :: r) == ([]:List UInt8))=false from rfl,cond_false,show ref3_whole_L0 F (c :: r) F 0 0=_ from whole_L0 (c :: r) h9 (c :: r) 0 F 0 rfl (by simp) (by simp at h9 ⊢; omega) (by decide)]
     unfold wout
     cases h:(c :: r).all isDig <;> simp [callE,call_some]
 ·have h1:1 < s.length:=by
   cases hd:decide ((s.length:Int) > 1) with
   | true=>have:=of_decide_eq_true hd; omega
   | false=>rw [hd] at h; simp at h
  omega
/-- The numeral of a number. -/
theorem dec_app {u:Nat} (d:Nat) (hd:d < 10) (hu:0 < u):Lib.decDigits (u * 10+d)=Lib.decDigits u++[UInt8.ofNat (48+d)]:=by
 rw [Lib.decDigits,dif_neg (by omega),show (u * 10+d) / 10=u by omega,show (u * 10+d) % 10=d by omega]
theorem back {c:UInt8} (h:isDig c=true):UInt8.ofNat (48+dv c)=c:=by
 have:=dv_in (isDig_in h)
 rw [show 48+dv c=c.toNat by omega]
 simp
theorem val_dec:∀ (r:List UInt8) (a:Nat),0 < a→r.all isDig=true→Lib.decDigits (valD a r)=Lib.decDigits a++r
 | [],a,_,_=>by simp [valD]
 | c :: r,a,ha,h=>by
  simp only [List.all_cons,Bool.and_eq_true] at h
  have hc:=dv_in (isDig_in h.1)
  rw [valD_cons,val_dec r _ (by omega) h.2,dec_app _ (by omega) ha,back h.1]
  simp
theorem tidy_itoa {s:List UInt8} (h:tidyOk s=true):Lib.itoa ((valD 0 s:Nat):Int)=s:=by
 unfold tidyOk at h
 simp only [Bool.and_eq_true,decide_eq_true_eq,Bool.or_eq_true,Bool.not_eq_true'] at h
 obtain ⟨⟨⟨h1,h2⟩,h3⟩,h4⟩:=h
 unfold Lib.itoa
 rw [if_neg (by omega),Int.toNat_natCast]
 cases s with
 | nil=>cases h2
 | cons c r =>
  simp only [List.all_cons,Bool.and_eq_true] at h1
  have hc:=dv_in (isDig_in h1.1)
  rw [valD_cons,Nat.zero_mul,Nat.zero_add]
  rcases h4 with h4 | h4
  ·have:r=[]:=List.length_eq_zero_iff.1 (by have:(c :: r).length=r.length+1:=rfl; omega)
   subst this
   rw [valD_nil,Lib.decDigits,dif_pos (by omega),back h1.1]
  ·have hc2:c≠48:=by simpa using h4
   have hc3:c.toNat≠48:=fun h=>hc2 (UInt8.toNat_inj.1 h)
   have hd1:dv c+48=c.toNat:=hc.2
   rw [val_dec r _ (by omega) h1.2,Lib.decDigits,dif_pos (by omega),back h1.1]
   rfl
theorem dig_nat {d:Nat} (h:d < 10):(UInt8.ofNat (48+d)).toNat=48+d:=by
 rw [UInt8.toNat_ofNat']
 omega
theorem dig_ok {d:Nat} (h:d < 10):isDig (UInt8.ofNat (48+d))=true:=by
 have:=dig_nat h
 unfold isDig
 rw [this]
 simp
 omega
theorem dec_ok (u:Nat):(Lib.decDigits u).all isDig=true∧Lib.decDigits u≠[]∧((Lib.decDigits u).length≤1∨(Lib.decDigits u).getD 0 0≠48)∧(0 < u→(Lib.decDigits u).getD 0 0≠48):=by
 induction u using Nat.strongRecOn with
 | _ u ih =>
  by_cases h:u < 10
  ·rw [Lib.decDigits,dif_pos h]
   refine ⟨by rw [List.all_cons,dig_ok h]; rfl,by simp,.inl (by simp),fun h0=>?_⟩
   show UInt8.ofNat (48+u)≠48
   intro e
   have:=congrArg UInt8.toNat e
   have h48:(48:UInt8).toNat=48:=rfl
   have:(UInt8.ofNat (48+u)).toNat=48+u:=dig_nat h
   omega
  ·obtain ⟨h1,h2,_,h4⟩:=ih (u / 10) (by omega)
   have h5:=h4 (by omega)
   rw [Lib.decDigits,dif_neg h]
   have h6:(Lib.decDigits (u / 10)++[UInt8.ofNat (48+u % 10)]).getD 0 0≠48:=by
    cases hq:Lib.decDigits (u / 10) with
    | nil=>exact absurd hq h2
    | cons a r=>rw [hq] at h5; simpa using h5
   exact ⟨by rw [List.all_append,h1,List.all_cons,dig_ok (Nat.mod_lt u (by decide))]; rfl,by simp,.inr h6,fun _=>h6⟩
theorem itoa_tidy {s:List UInt8} {v:Int} (h0:0≤v) (h9:s.length < 10) (h:Lib.itoa v=s):tidyOk s=true:=by
 unfold Lib.itoa at h
 rw [if_neg (by omega)] at h
 subst h
 obtain ⟨h1,h2,h3,_⟩:=dec_ok v.toNat
 unfold tidyOk
 rw [h1,decide_eq_true (show (Lib.decDigits v.toNat).length≤9 by omega)]
 have:(Lib.decDigits v.toNat == [])=false:=by
  rw [beq_eq_false_iff_ne]
  exact h2
 rw [this]
 rcases h3 with h3 | h3
 ·rw [decide_eq_true h3]; rfl
 ·have:((Lib.decDigits v.toNat).getD 0 0 == 48)=false:=by
   rw [beq_eq_false_iff_ne]
   exact h3
  rw [this]
  simp
theorem parse_ok:∀ (r:List UInt8) (i acc:Nat),r.all isDig=true→i+r.length≤9→acc < 10 ^ i→Lib.parseUint10 acc r=.ok (valD acc r)∧valD acc r < 1000000000
 | [],i,acc,_,hl,ha=>⟨rfl,by
  have hp:10 ^ i≤10 ^ 9:=Nat.pow_le_pow_right (by decide) (by simpa using hl)
  rw [p9] at hp
  exact Nat.lt_of_lt_of_le ha hp⟩
 | c :: r,i,acc,h,hl,ha=>by
  simp only [List.all_cons,Bool.and_eq_true] at h
  have hc:=isDig_in h.1
  have hp:10 ^ i≤10 ^ 8:=Nat.pow_le_pow_right (by decide) (by simp at hl; omega)
  rw [p8] at hp
  have ha2:acc < 100000000:=Nat.lt_of_lt_of_le ha hp
  clear hp
  have hdv:=dv_in hc
  have e1:c.toNat - 48=dv c:=rfl
  rw [Lib.parseUint10,if_pos hc,if_neg (by omega),e1,if_neg (by omega),valD_cons]
  exact parse_ok r (i+1) _ h.2 (by simp at hl; omega) (by rw [Nat.pow_succ]; omega)
theorem atoi_tidy {s:List UInt8} (h:tidyOk s=true):Lib.atoiAll s=.ok ((valD 0 s:Nat):Int):=by
 unfold tidyOk at h
 simp only [Bool.and_eq_true,decide_eq_true_eq,Bool.or_eq_true,Bool.not_eq_true'] at h
 obtain ⟨⟨⟨h1,h2⟩,h3⟩,h4⟩:=h
 cases s with
 | nil=>cases h2
 | cons c r =>
  have hc:=isDig_in (by simpa using (List.all_eq_true.1 h1) c (by simp):isDig c=true)
  obtain ⟨h5,h6⟩:=parse_ok (c :: r) 0 0 h1 (by simpa using h3) (by decide)
  unfold Lib.atoiAll
  simp only [show ¬ (c.toNat=43∨c.toNat=45) by omega,if_false,Lib.parseMag,show ¬ (c :: r=[]) by simp,h5]
  rw [if_neg (by omega),if_neg (by omega),if_neg (by omega)]
theorem numF_yes {s:List UInt8} (h:tidyOk s=true):Lib.atoiAll s=.ok ((valD 0 s:Nat):Int)∧s.length < 10∧Lib.itoa ((valD 0 s:Nat):Int)=s :=
 ⟨atoi_tidy h,by unfold tidyOk at h; simp only [Bool.and_eq_true,decide_eq_true_eq] at h; omega,tidy_itoa h⟩
end Go.Vm.ArzG.L
