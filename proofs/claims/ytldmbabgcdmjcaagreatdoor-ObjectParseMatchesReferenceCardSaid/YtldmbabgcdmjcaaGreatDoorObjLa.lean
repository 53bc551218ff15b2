/-
  token,plain law: what Print prints is what the reference spells.
-/
import Derived.Test.YtldmbabgcdmjcaaGreatDoorObjF
import Derived.Test.YtldmbabgcdmjcaaGreatDoorVmD
import Derived.Test.YtldmbabgcdmjcaaGreatDoorVmC
namespace Go.Vm.ObjM
theorem bM (i:Nat):((i:Nat):Int).toNat=i:=rfl
theorem bX {s:List UInt8} {i:Nat} (hi:i < s.length):s.drop i=s.getD i 0 :: s.drop (i+1):=by
 rw [List.getD_eq_getElem?_getD,List.getElem?_eq_getElem hi]
 exact List.drop_eq_getElem_cons hi
/-! ## Letters,digits,words -/
def lt (x:Int):Bool:=bif (bif (decide ((97:Int)≤x)) then (decide (x≤(122:Int))) else false) then true else (bif (decide ((65:Int)≤x)) then (decide (x≤(90:Int))) else false)
def dg (x:Int):Bool:=bif (decide ((48:Int)≤x)) then (decide (x≤(57:Int))) else false
theorem yO (F:Nat) (x:Int):nH F x=some (lt x):=rfl
theorem aZ2 (F:Nat) (x:Int):jA F x=some (dg x):=rfl
theorem aL1 (F:Nat) (x:Int):jN F x=some (lt x):=by
 unfold jN lt
 rw [aY]
 congr 1
 cases h:(bif (decide ((97:Int)≤x)) then (decide (x≤(122:Int))) else false) <;> cases h2:(bif (decide ((65:Int)≤x)) then (decide (x≤(90:Int))) else false) <;> simp_all
theorem wB (F:Nat) (x:Int):gY F x=some (dg x):=rfl
theorem cO8 {x:Int} (h:dg x=true):lt x=false∧x≠42∧x≠95∧x≠46:=by
 simp [dg] at h
 refine ⟨?_,by omega,by omega,by omega⟩
 simp [lt]; omega
/-- The bytes a word may have. -/
def okb (c:UInt8):Bool:=lt c.toNat || dg c.toNat || (c.toNat:Int) == 42 || (c.toNat:Int) == 95 || (c.toNat:Int) == 46
theorem aZ4 (F:Nat) (s:List UInt8) (hs:s.length≤maxLen):∀ (m i n:Nat),1≤i→i+m=s.length→m < n →
  dY F s n (i:Int)=some (if (s.drop i).all okb then .go () else .esc ([],5)):=by
 have hmax:maxLen=9223372036854775807:=rfl
 intro m
 induction m with
 | zero =>
  intro i n h1 hi hn
  obtain ⟨n,rfl⟩:∃ q,n=q+1:=⟨n - 1,by omega⟩
  obtain rfl:i=s.length:=by omega
  rw [dY,fG,cond_false,List.drop_length]; rfl
 | succ m ih =>
  intro i n h1 hi hn
  obtain ⟨n,rfl⟩:∃ q,n=q+1:=⟨n - 1,by omega⟩
  have hlt:i < s.length:=by omega
  have hi0:((i:Int) == 0)=false:=by simp; omega
  rw [dY,dec_lt hlt,cond_true,eD hlt,bM,yO,aA,hi0,bS (by omega),ih (i+1) n (by omega) (by omega) (by omega),bX hlt,List.all_cons]
  generalize s.getD i 0=c
  rw [aZ2]
  unfold okb
  cases h1:lt c.toNat <;> cases h2:dg c.toNat <;> cases h3:(c.toNat:Int) == 42 <;> cases h4:(c.toNat:Int) == 95 <;> cases h5:(c.toNat:Int) == 46 <;>
   simp [aA,aY,bne,h3,h4,h5]
theorem wV (F:Nat) (s:List UInt8) (hs:s.length≤maxLen):∀ (m i n:Nat),i+m=s.length→m < n →
  eY F s n (i:Int)=some (if (s.drop i).all okb then .go () else .esc 5):=by
 have hmax:maxLen=9223372036854775807:=rfl
 intro m
 induction m with
 | zero =>
  intro i n hi hn
  obtain ⟨n,rfl⟩:∃ q,n=q+1:=⟨n - 1,by omega⟩
  obtain rfl:i=s.length:=by omega
  rw [eY,fG,cond_false,List.drop_length]; rfl
 | succ m ih =>
  intro i n hi hn
  obtain ⟨n,rfl⟩:∃ q,n=q+1:=⟨n - 1,by omega⟩
  have hlt:i < s.length:=by omega
  have hp:0≤(i:Int)∧(i:Int) < s.length:=⟨by omega,by omega⟩
  rw [eY,dec_lt hlt,cond_true,eD hlt,bM,aL1,aA,bS (by omega),ih (i+1) n (by omega) (by omega),bX hlt,List.all_cons,aL (fun _=>hp)]
  generalize s.getD i 0=c
  rw [wB]
  unfold okb
  cases h1:lt c.toNat <;> cases h2:dg c.toNat <;> cases h3:(c.toNat:Int) == 42 <;> cases h4:(c.toNat:Int) == 95 <;> cases h5:(c.toNat:Int) == 46 <;>
   simp [aA,aY,chk,bne,h3,h4,h5,hlt]
/-- What a word is: not empty,no digit ahead,only its bytes. -/
def qF (s:List UInt8):Bool := !(s == []) && !(dg (s.getD 0 0).toNat) && s.all okb
theorem bC7 {F:Nat} {s:List UInt8} (hs:s.length≤maxLen) (hF:s.length < F) :
  kU F s=some (if qF s then (if s.length > 31 then ([],2) else (s,0)) else ([],5)):=by
 have hmax:maxLen=9223372036854775807:=rfl
 unfold kU eX
 cases s with
 | nil=>obtain ⟨F,rfl⟩:∃ q,F=q+1:=⟨F - 1,by simp at hF; omega⟩; rfl
 | cons c t =>
  have hlen:(c :: t).length=t.length+1:=rfl
  obtain ⟨G,rfl⟩:∃ q,F=q+1:=⟨F - 1,by omega⟩
  have h0:dY (G+1) (c :: t) (G+1) (0:Int)=some (if qF (c :: t) then .go () else .esc ([],5)):=by
   have:=aZ4 (G+1) (c :: t) hs t.length 1 G (by omega) (by rw [hlen]; omega) (by omega)
   rw [dY,decide_eq_true (show (0:Int) < ((c :: t).length:Int) by omega),cond_true,aL ⟨by omega,by omega⟩,show (0:Int).toNat=0 from rfl,yO,aA,show IntKind.i64.wrap ((0:Int)+1)=((1:Nat):Int) from rfl,this]
   have hd:dg c.toNat=true→lt c.toNat=false∧((c.toNat:Int) == 42)=false∧((c.toNat:Int) == 95)=false∧((c.toNat:Int) == 46)=false:=fun h=>by
    obtain ⟨h1,h2,h3,h4⟩:=cO8 h
    exact ⟨h1,by simpa using h2,by simpa using h3,by simpa using h4⟩
   simp only [List.getD_cons_zero,List.drop_succ_cons,List.drop_zero,qF,List.all_cons,aZ2,bne,aY,okb]
   revert hd
   generalize ((c.toNat:Int) == 42)=C,((c.toNat:Int) == 95)=D,((c.toNat:Int) == 46)=E,lt c.toNat=A,dg c.toNat=B,t.all okb=X
   cases A <;> cases B <;> cases C <;> cases D <;> cases E <;> simp [aA]
  rw [h0]
  cases qF (c :: t)
  ·rfl
  ·rw [if_pos rfl,aW,show ((c :: t) == [])=false from rfl,cond_false,if_pos rfl]
   by_cases h:(c :: t).length > 31
   ·rw [if_pos h,decide_eq_true (by omega)]; rfl
   ·rw [if_neg h,decide_eq_false (by omega)]; rfl
theorem wL {F:Nat} {s:List UInt8} (hs:s.length≤maxLen) (hF:s.length < F) :
  gX F s=some (if s.all okb then (if s.length > 31 then 2 else 0) else 5):=by
 have hmax:maxLen=9223372036854775807:=rfl
 unfold gX
 rw [show (0:Int)=((0:Nat):Int) from rfl,wV F s hs s.length 0 F (by omega) (by omega),List.drop_zero]
 cases s.all okb
 ·rfl
 ·rw [if_pos rfl,aW,if_pos rfl]
  by_cases h:s.length > 31
  ·rw [if_pos h,decide_eq_true (by omega)]; rfl
  ·rw [if_neg h,decide_eq_false (by omega)]; rfl
/-! ## Numbers -/
theorem bO9 (F:Nat):∀ (u:Nat),0 < u→u≤4294967296→∀ (n:Nat) (x:Int) (acc:List UInt8),x.natAbs=u→u < n→acc.length+u≤9000000000 →
  jK F n x acc=some (Lib.decDigits u++acc):=by
 intro u
 induction u using Nat.strongRecOn with
 | _ u ih =>
  intro hu hu2 n x acc hx hn ha
  obtain ⟨n,rfl⟩:∃ q,n=q+1:=⟨n - 1,by omega⟩
  have h0:(x != 0)=true:=by simp; omega
  have hq:(x.tdiv 10).natAbs=u / 10:=by rw [Int.natAbs_tdiv,hx]; rfl
  have hr:(x.tmod 10).natAbs=u % 10:=by rw [Int.natAbs_tmod,hx]; rfl
  have hd:(bif (decide ((x.tmod (10:Int)) < (0:Int))) then some (IntKind.i64.wrap (0 - (x.tmod (10:Int)))) else some (x.tmod (10:Int)))=some ((u % 10:Nat):Int):=by
   by_cases h:x.tmod 10 < 0
   ·rw [decide_eq_true h,cond_true,eF (by omega)]; congr 1; omega
   ·rw [decide_eq_false h,cond_false]; congr 1; omega
  have hw:IntKind.u8.wrap (IntKind.i64.wrap (48+((u % 10:Nat):Int)))=((48+u % 10:Nat):Int):=by rw [eF (by omega),wrap_u8 (by omega)]; omega
  rw [jK,h0,cond_true,hd,aA,hw,bM,aL ⟨by omega,by omega⟩,aL (by simp; omega),eF (by omega),Lib.decDigits]
  by_cases h:u < 10
  ·rw [dif_pos h]
   have hz:x.tdiv 10=0:=by omega
   obtain ⟨n,rfl⟩:∃ q,n=q+1:=⟨n - 1,by omega⟩
   rw [hz,jK,show ((0:Int) != 0)=false from rfl,cond_false,Nat.mod_eq_of_lt h]
  ·rw [dif_neg h,ih (u / 10) (by omega) (by omega) (by omega) n _ _ hq (by omega) (by simp; omega),List.append_assoc]
theorem qZ:∀ (u:Nat),(Lib.decDigits u).length≤u+1:=by
 intro u
 induction u using Nat.strongRecOn with
 | _ u ih =>
  rw [Lib.decDigits]
  split
  ·simp
  ·have:=ih (u / 10) (by omega)
   simp; omega
theorem aR5 {F:Nat} (hF:4294967300≤F) {x:Int} (h : -4294967296≤x∧x≤4294967296):nG F x=some (Lib.itoa x):=by
 unfold nG Lib.itoa
 by_cases h0:x=0
 ·subst h0; rw [if_neg (by omega)]; simp [Lib.decDigits]
 ·have hb:(x == 0)=false:=by simpa using h0
  have hl:=qZ x.natAbs
  rw [hb,cond_false,bO9 F x.natAbs (by omega) (by omega) F x [] rfl (by omega) (by simp; omega),aA,List.append_nil]
  by_cases h1:x < 0
  ·rw [if_pos h1,decide_eq_true h1,cond_true,aL (by simp; omega)]; rfl
  ·rw [if_neg h1,decide_eq_false h1,cond_false,show x.toNat=x.natAbs by omega]
/-! ## Zero bytes -/
theorem aM2 (l:List UInt8):decide (Lib.indexByte l 0 ≥ 0)=l.any (fun c=>(c.toNat:Int) == 0):=by
 induction l with
 | nil=>rfl
 | cons b l ih =>
  rw [Lib.indexByte,List.any_cons,← ih]
  have hge:=Lib.indexByte_ge l 0
  by_cases h:b=0
  ·subst h; rfl
  ·have h1:(b == 0)=false:=by simpa using h
   have h2:((b.toNat:Int) == 0)=false:=by
    rw [beq_eq_false_iff_ne]
    intro hc
    exact h (UInt8.toNat_inj.1 (by show b.toNat=0; omega))
   rw [h1,h2,Bool.false_or,if_neg (by simp)]
   by_cases h3:Lib.indexByte l 0 = -1
   ·rw [h3]; rfl
   ·rw [if_neg (by simpa using h3),decide_eq_true (by omega),decide_eq_true (by omega)]
theorem aO7 (F:Nat) (a:aD) (hs:a.f2.length≤maxLen):∀ (m i n:Nat) (b:Bool),i+m=a.f2.length→m < n →
  gN F a n b (i:Int)=some (b || (a.f2.drop i).any (fun c=>(c.toNat:Int) == 0)):=by
 have hmax:maxLen=9223372036854775807:=rfl
 intro m
 induction m with
 | zero =>
  intro i n b hi hn
  obtain ⟨n,rfl⟩:∃ q,n=q+1:=⟨n - 1,by omega⟩
  obtain rfl:i=a.f2.length:=by omega
  rw [gN,fG,cond_false,List.drop_length]; simp
 | succ m ih =>
  intro i n b hi hn
  obtain ⟨n,rfl⟩:∃ q,n=q+1:=⟨n - 1,by omega⟩
  have hlt:i < a.f2.length:=by omega
  rw [gN,dec_lt hlt,cond_true,aL (fun _=>⟨by omega,by omega⟩),bM,bS (by omega),ih (i+1) n _ (by omega) (by omega),bX hlt,List.any_cons]
  cases b <;> simp
end Go.Vm.ObjM
