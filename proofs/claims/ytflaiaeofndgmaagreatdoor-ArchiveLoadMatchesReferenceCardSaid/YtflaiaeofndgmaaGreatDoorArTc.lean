/-
  archive: what a name is,in both texts.
-/
import Derived.Test.YtflaiaeofndgmaaGreatDoorArTa
namespace Go.Vm.ArzG.L
def lower (c:UInt8):Bool:=decide (97≤c.toNat) && decide (c.toNat≤122)
def okc (c:UInt8):Bool:=lower c || isDig c || c == 45
def pl:Nat→List UInt8→Bool
 | _,[]=>true
 | i,c :: r=>(lower c || (!(i == 0) && (isDig c || c == 45))) && pl (i+1) r
def nameOk (s:List UInt8):Bool:=pl 0 s && !(s == []) && decide (s.length≤16)
theorem pl_all:∀ (r:List UInt8) (i:Nat),0 < i→pl i r=r.all okc
 | [],_,_=>rfl
 | c :: r,i,h=>by
  have:(i == 0)=false:=by rw [beq_eq_false_iff_ne]; omega
  rw [pl,pl_all r (i+1) (by omega),this,List.all_cons]
  unfold okc
  rw [Bool.not_false,Bool.true_and,Bool.or_assoc]
theorem lowC (c:UInt8):(bif (decide ((97:Int)≤((c.toNat:Nat):Int))) then (decide (((c.toNat:Nat):Int)≤(122:Int))) else false)=lower c:=by
 unfold lower
 by_cases h:97≤c.toNat
 ·rw [decide_eq_true (show (97:Int)≤((c.toNat:Nat):Int) by omega),cond_true,decide_eq_true h,Bool.true_and]
  by_cases h2:c.toNat≤122
  ·rw [decide_eq_true (by omega),decide_eq_true h2]
  ·rw [decide_eq_false (by omega),decide_eq_false h2]
 ·rw [decide_eq_false (show ¬ (97:Int)≤((c.toNat:Nat):Int) by omega),cond_false,decide_eq_false h,Bool.false_and]
theorem digC (c:UInt8):(bif (decide ((48:Int)≤((c.toNat:Nat):Int))) then (decide (((c.toNat:Nat):Int)≤(57:Int))) else false)=isDig c:=by
 unfold isDig
 by_cases h:48≤c.toNat
 ·rw [decide_eq_true (show (48:Int)≤((c.toNat:Nat):Int) by omega),cond_true,decide_eq_true h,Bool.true_and]
  by_cases h2:c.toNat≤57
  ·rw [decide_eq_true (by omega),decide_eq_true h2]
  ·rw [decide_eq_false (by omega),decide_eq_false h2]
 ·rw [decide_eq_false (show ¬ (48:Int)≤((c.toNat:Nat):Int) by omega),cond_false,decide_eq_false h,Bool.false_and]
theorem dashC (c:UInt8):(((c.toNat:Nat):Int) != (45:Int)) = !(c == 45):=by
 unfold bne
 congr 1
 rw [Bool.eq_iff_iff,beq_iff_eq,beq_iff_eq]
 constructor
 ·intro h
  apply UInt8.toNat_inj.1
  have h45:(45:UInt8).toNat=45:=rfl
  omega
 ·rintro rfl
  rfl
theorem plain_L0 {F:Nat} (s:List UInt8) (hs:s.length≤4000000):∀ (xs:List UInt8) (i n:Nat),s.drop i=xs→i+xs.length=s.length→xs.length < n→archive_plain_L0 F s n (i:Int)=some (if pl i xs=true then .go () else .esc false)
 | [],i,n,hd,hl,hn=>by
  obtain ⟨n,rfl⟩:∃ q,n=q+1:=⟨n - 1,by omega⟩
  have:i=s.length:=by simpa using hl
  subst this
  rw [archive_plain_L0,dec_end,cond_false]
  rfl
 | c :: r,i,n,hd,hl,hn=>by
  obtain ⟨n,rfl⟩:∃ q,n=q+1:=⟨n - 1,by omega⟩
  obtain ⟨h1,h2,h3⟩:=dropC hd
  have hi:(((i:Nat):Int) == 0)=(i == 0):=by
   rw [Bool.eq_iff_iff,beq_iff_eq,beq_iff_eq]
   omega
  rw [archive_plain_L0,dec_lt h1,cond_true,chk_in h1,Int.toNat_natCast,h2,lowC,lett_eq,digC,lett_eq,dashC,hi,lett_eq,wrap_succ (by omega),plain_L0 s hs r (i+1) n h3 (by simp at hl; omega) (by simp at hn; omega),pl]
  cases lower c <;> cases (i == 0) <;> cases isDig c <;> cases (c == 45) <;> simp
theorem plain_eq {F:Nat} (s:List UInt8) (hs:s.length≤4000000) (hF:s.length < F):archive_plain F s=some (nameOk s):=by
 unfold archive_plain nameOk
 rw [show archive_plain_L0 F s F 0=_ from plain_L0 s hs s 0 F rfl (by simp) hF]
 cases h:pl 0 s with
 | false=>rfl
 | true =>
  rw [if_pos rfl,callE_go,Bool.true_and]
  congr 1
  cases (s == []) with
  | true=>rfl
  | false =>
   show decide _=decide _
   by_cases h:s.length≤16
   ·rw [decide_eq_true h,decide_eq_true (by omega)]
   ·rw [decide_eq_false h,decide_eq_false (by omega)]
theorem isName_L0 {F:Nat} (s:List UInt8) (hs:s.length≤4000000):∀ (xs:List UInt8) (i n:Nat),s.drop i=xs→i+xs.length=s.length→xs.length < n→ref3_IsName_L0 F s n (i:Int)=some (if xs.all okc=true then .go () else .esc false)
 | [],i,n,hd,hl,hn=>by
  obtain ⟨n,rfl⟩:∃ q,n=q+1:=⟨n - 1,by omega⟩
  have:i=s.length:=by simpa using hl
  subst this
  rw [ref3_IsName_L0,dec_end,cond_false]
  rfl
 | c :: r,i,n,hd,hl,hn=>by
  obtain ⟨n,rfl⟩:∃ q,n=q+1:=⟨n - 1,by omega⟩
  obtain ⟨h1,h2,h3⟩:=dropC hd
  have hin:0≤((i:Nat):Int)∧((i:Nat):Int) < (s.length:Int):=⟨by omega,by omega⟩
  have hge:(bif (decide (((c.toNat:Nat):Int) ≥ (97:Int))) then (decide (((c.toNat:Nat):Int)≤(122:Int))) else false)=lower c:=lowC c
  rw [ref3_IsName_L0,dec_lt h1,cond_true,chk_in h1,chk_pos (fun _=>hin),Int.toNat_natCast,h2,hge,lett_eq,chk_pos (fun _=>hin),digit_eq,wrap_succ (by omega),isName_L0 s hs r (i+1) n h3 (by simp at hl; omega) (by simp at hn; omega),List.all_cons,dashC]
  unfold okc
  cases lower c <;> cases isDig c <;> cases (c == 45) <;> simp [call_some,chk,h1,lett_eq]
theorem isName_eq {F:Nat} (s:List UInt8) (hs:s.length≤4000000) (hF:s.length < F):ref3_IsName F s=some (nameOk s):=by
 unfold ref3_IsName nameOk
 cases s with
 | nil=>rfl
 | cons c r =>
  have hin:0≤(0:Int)∧(0:Int) < ((c :: r).length:Int):=⟨by decide,by simp⟩
  have hc0:(c :: r).getD (0:Int).toNat 0=c:=rfl
  rw [chk_pos (fun _=>hin),hc0,lett_eq,chk_pos (fun _=>hin),show ((c :: r) == ([]:List UInt8))=false from rfl,cond_false,Bool.not_false,Bool.and_true,pl,pl_all r 1 (by decide),beq_self_eq_true,Bool.not_true,Bool.false_and,Bool.or_false]
  by_cases h16:(c :: r).length≤16
  ·rw [decide_eq_false (show ¬ ((c :: r).length:Int) > 16 by omega),cond_false,decide_eq_true h16,Bool.and_true,show ref3_IsName_L0 F (c :: r) F 0=_ from isName_L0 (c :: r) hs (c :: r) 0 F rfl (by simp) hF,List.all_cons]
   by_cases h97:97≤c.toNat
   ·rw [decide_eq_false (show ¬ ((c.toNat:Nat):Int) < 97 by omega),cond_false]
    by_cases h122:c.toNat≤122
    ·have hl:lower c=true:=by unfold lower; simp [h97,h122]
     rw [decide_eq_false (show ¬ ((c.toNat:Nat):Int) > 122 by omega),cond_false,hl]
     have:okc c=true:=by unfold okc; rw [hl]; rfl
     rw [this,Bool.true_and]
     cases r.all okc <;> rfl
    ·have hl:lower c=false:=by unfold lower; simp; omega
     rw [decide_eq_true (show ((c.toNat:Nat):Int) > 122 by omega),cond_true,hl]
     rfl
   ·have hl:lower c=false:=by unfold lower; simp; omega
    rw [decide_eq_true (show ((c.toNat:Nat):Int) < 97 by omega),cond_true,cond_true,hl]
    rfl
  ·rw [decide_eq_true (show ((c :: r).length:Int) > 16 by omega),cond_true,cond_true,cond_true,decide_eq_false h16,Bool.and_false]
end Go.Vm.ArzG.L
