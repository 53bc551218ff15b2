/-
  token,plain law: what Print prints is what the reference spells.
-/
import Derived.Test.YtgonfionbbhmkaaGreatDoorF
import Derived.Test.YtgonfionbbhmkaaGreatDoorVmD
import Derived.Test.YtgonfionbbhmkaaGreatDoorVmC
import Derived.KernelRfl
namespace Go.Vm.PgfG.L
theorem lF (i:Nat):((i:Nat):Int).toNat=i:=rfl
theorem sI {s:List UInt8} {i:Nat} (hi:i < s.length):s.drop i=s.getD i 0 :: s.drop (i+1):=by
 rw [List.getD_eq_getElem?_getD,List.getElem?_eq_getElem hi]
 exact List.drop_eq_getElem_cons hi
/-! ## Letters,digits,words -/
def lt (x:Int):Bool:=bif (bif (decide ((97:Int)≤x)) then (decide (x≤(122:Int))) else false) then true else (bif (decide ((65:Int)≤x)) then (decide (x≤(90:Int))) else false)
def dg (x:Int):Bool:=bif (decide ((48:Int)≤x)) then (decide (x≤(57:Int))) else false
theorem bH9 (F:Nat) (x:Int):qW F x=some (lt x):=rfl
theorem cJ4 (F:Nat) (x:Int):mG F x=some (dg x):=rfl
theorem cC3 (F:Nat) (x:Int):mI F x=some (lt x):=by
 unfold mI lt
 rw [bR]
 congr 1
 cases h:(bif (decide ((97:Int)≤x)) then (decide (x≤(122:Int))) else false) <;> cases h2:(bif (decide ((65:Int)≤x)) then (decide (x≤(90:Int))) else false) <;> simp_all
theorem aZ2 (F:Nat) (x:Int):nT F x=some (dg x):=rfl
theorem dC0 {x:Int} (h:dg x=true):lt x=false∧x≠42∧x≠95∧x≠46:=by
 simp [dg] at h
 refine ⟨?_,by omega,by omega,by omega⟩
 simp [lt]; omega
/-- The bytes a word may have. -/
def okb (c:UInt8):Bool:=lt c.toNat || dg c.toNat || (c.toNat:Int) == 42 || (c.toNat:Int) == 95 || (c.toNat:Int) == 46
theorem cQ9 (F:Nat) (s:List UInt8) (hs:s.length≤maxLen):∀ (m i n:Nat),1≤i→i+m=s.length→m < n →
  jK F s n (i:Int)=some (if (s.drop i).all okb then .go () else .esc ([],5)):=by
 have hmax:maxLen=9223372036854775807:=rfl
 intro m
 induction m with
 | zero =>
  intro i n h1 hi hn
  obtain ⟨n,rfl⟩:∃ q,n=q+1:=⟨n - 1,by omega⟩
  obtain rfl:i=s.length:=by omega
  rw [jK,iQ,cond_false,List.drop_length]; rfl
 | succ m ih =>
  intro i n h1 hi hn
  obtain ⟨n,rfl⟩:∃ q,n=q+1:=⟨n - 1,by omega⟩
  have hlt:i < s.length:=by omega
  have hi0:((i:Int) == 0)=false:=by simp; omega
  rw [jK,dec_lt hlt,cond_true,iM hlt,lF,bH9,aN,hi0,eQ (by omega),ih (i+1) n (by omega) (by omega) (by omega),sI hlt,List.all_cons]
  generalize s.getD i 0=c
  rw [cJ4]
  unfold okb
  cases h1:lt c.toNat <;> cases h2:dg c.toNat <;> cases h3:(c.toNat:Int) == 42 <;> cases h4:(c.toNat:Int) == 95 <;> cases h5:(c.toNat:Int) == 46 <;>
   simp [aN,bR,bne,h3,h4,h5]
theorem bJ1 (F:Nat) (s:List UInt8) (hs:s.length≤maxLen):∀ (m i n:Nat),i+m=s.length→m < n →
  gY F s n (i:Int)=some (if (s.drop i).all okb then .go () else .esc 5):=by
 have hmax:maxLen=9223372036854775807:=rfl
 intro m
 induction m with
 | zero =>
  intro i n hi hn
  obtain ⟨n,rfl⟩:∃ q,n=q+1:=⟨n - 1,by omega⟩
  obtain rfl:i=s.length:=by omega
  rw [gY,iQ,cond_false,List.drop_length]; rfl
 | succ m ih =>
  intro i n hi hn
  obtain ⟨n,rfl⟩:∃ q,n=q+1:=⟨n - 1,by omega⟩
  have hlt:i < s.length:=by omega
  have hp:0≤(i:Int)∧(i:Int) < s.length:=⟨by omega,by omega⟩
  rw [gY,dec_lt hlt,cond_true,iM hlt,lF,cC3,aN,eQ (by omega),ih (i+1) n (by omega) (by omega),sI hlt,List.all_cons,bN (fun _=>hp)]
  generalize s.getD i 0=c
  rw [aZ2]
  unfold okb
  cases h1:lt c.toNat <;> cases h2:dg c.toNat <;> cases h3:(c.toNat:Int) == 42 <;> cases h4:(c.toNat:Int) == 95 <;> cases h5:(c.toNat:Int) == 46 <;>
   simp [aN,bR,chk,bne,h3,h4,h5,hlt]
/-- What a word is: not empty,no digit ahead,only its bytes. -/
def aD1 (s:List UInt8):Bool := !(s == []) && !(dg (s.getD 0 0).toNat) && s.all okb
theorem cU1 {F:Nat} {s:List UInt8} (hs:s.length≤maxLen) (hF:s.length < F) :
  sB F s=some (if aD1 s then (if s.length > 31 then ([],2) else (s,0)) else ([],5)):=by
 have hmax:maxLen=9223372036854775807:=rfl
 unfold sB lS
 cases s with
 | nil=>obtain ⟨F,rfl⟩:∃ q,F=q+1:=⟨F - 1,by simp at hF; omega⟩; rfl
 | cons c t =>
  have hlen:(c :: t).length=t.length+1:=rfl
  obtain ⟨G,rfl⟩:∃ q,F=q+1:=⟨F - 1,by omega⟩
  have h0:jK (G+1) (c :: t) (G+1) (0:Int)=some (if aD1 (c :: t) then .go () else .esc ([],5)):=by
   have:=cQ9 (G+1) (c :: t) hs t.length 1 G (by omega) (by rw [hlen]; omega) (by omega)
   rw [jK,decide_eq_true (show (0:Int) < ((c :: t).length:Int) by omega),cond_true,bN ⟨by omega,by omega⟩,show (0:Int).toNat=0 from rfl,bH9,aN,show IntKind.i64.wrap ((0:Int)+1)=((1:Nat):Int) from rfl,this]
   have hd:dg c.toNat=true→lt c.toNat=false∧((c.toNat:Int) == 42)=false∧((c.toNat:Int) == 95)=false∧((c.toNat:Int) == 46)=false:=fun h=>by
    obtain ⟨h1,h2,h3,h4⟩:=dC0 h
    exact ⟨h1,by simpa using h2,by simpa using h3,by simpa using h4⟩
   simp only [List.getD_cons_zero,List.drop_succ_cons,List.drop_zero,aD1,List.all_cons,cJ4,bne,bR,okb]
   revert hd
   generalize ((c.toNat:Int) == 42)=C,((c.toNat:Int) == 95)=D,((c.toNat:Int) == 46)=E,lt c.toNat=A,dg c.toNat=B,t.all okb=X
   cases A <;> cases B <;> cases C <;> cases D <;> cases E <;> simp [aN]
  rw [h0]
  cases aD1 (c :: t)
  ·rfl
  ·rw [if_pos rfl,cK,show ((c :: t) == [])=false from rfl,cond_false,if_pos rfl]
   by_cases h:(c :: t).length > 31
   ·rw [if_pos h,decide_eq_true (by omega)]; rfl
   ·rw [if_neg h,decide_eq_false (by omega)]; rfl
theorem bI4 {F:Nat} {s:List UInt8} (hs:s.length≤maxLen) (hF:s.length < F) :
  lX F s=some (if s.all okb then (if s.length > 31 then 2 else 0) else 5):=by
 have hmax:maxLen=9223372036854775807:=rfl
 unfold lX
 rw [show (0:Int)=((0:Nat):Int) from rfl,bJ1 F s hs s.length 0 F (by omega) (by omega),List.drop_zero]
 cases s.all okb
 ·rfl
 ·rw [if_pos rfl,cK,if_pos rfl]
  by_cases h:s.length > 31
  ·rw [if_pos h,decide_eq_true (by omega)]; rfl
  ·rw [if_neg h,decide_eq_false (by omega)]; rfl
/-! ## Numbers -/
theorem bW4 (F:Nat):∀ (u:Nat),0 < u→u≤4294967296→∀ (n:Nat) (x:Int) (acc:List UInt8),x.natAbs=u→u < n→acc.length+u≤9000000000 →
  jS F n x acc=some (Lib.decDigits u++acc):=by
 intro u
 induction u using Nat.strongRecOn with
 | _ u ih =>
  intro hu hu2 n x acc hx hn ha
  obtain ⟨n,rfl⟩:∃ q,n=q+1:=⟨n - 1,by omega⟩
  have h0:(x != 0)=true:=by simp; omega
  have hq:(x.tdiv 10).natAbs=u / 10:=by rw [Int.natAbs_tdiv,hx]; rfl
  have hr:(x.tmod 10).natAbs=u % 10:=by rw [Int.natAbs_tmod,hx]; rfl
  have hd:(bif (decide ((x.tmod (10:Int)) < (0:Int))) then some (IntKind.i64.wrap (0 - (x.tmod (10:Int)))) else some (x.tmod (10:Int)))=some ((u % 10:Nat):Int):=by
   by_cases h:x.tmod 10 < 0
   ·rw [decide_eq_true h,cond_true,oD (by omega)]; congr 1; omega
   ·rw [decide_eq_false h,cond_false]; congr 1; omega
  have hw:IntKind.u8.wrap (IntKind.i64.wrap (48+((u % 10:Nat):Int)))=((48+u % 10:Nat):Int):=by rw [oD (by omega),wrap_u8 (by omega)]; omega
  rw [jS,h0,cond_true,hd,aN,hw,lF,bN ⟨by omega,by omega⟩,bN (by simp; omega),oD (by omega),Lib.decDigits]
  by_cases h:u < 10
  ·rw [dif_pos h]
   have hz:x.tdiv 10=0:=by omega
   obtain ⟨n,rfl⟩:∃ q,n=q+1:=⟨n - 1,by omega⟩
   rw [hz,jS,show ((0:Int) != 0)=false from rfl,cond_false,Nat.mod_eq_of_lt h]
  ·rw [dif_neg h,ih (u / 10) (by omega) (by omega) (by omega) n _ _ hq (by omega) (by simp; omega),List.append_assoc]
theorem tH:∀ (u:Nat),(Lib.decDigits u).length≤u+1:=by
 intro u
 induction u using Nat.strongRecOn with
 | _ u ih =>
  rw [Lib.decDigits]
  split
  ·simp
  ·have:=ih (u / 10) (by omega)
   simp; omega
theorem bA1 {F:Nat} (hF:4294967300≤F) {x:Int} (h : -4294967296≤x∧x≤4294967296):oC F x=some (Lib.itoa x):=by
 unfold oC Lib.itoa
 by_cases h0:x=0
 ·subst h0; rw [if_neg (by omega)]; simp [Lib.decDigits]
 ·have hb:(x == 0)=false:=by simpa using h0
  have hl:=tH x.natAbs
  rw [hb,cond_false,bW4 F x.natAbs (by omega) (by omega) F x [] rfl (by omega) (by simp; omega),aN,List.append_nil]
  by_cases h1:x < 0
  ·rw [if_pos h1,decide_eq_true h1,cond_true,bN (by simp; omega)]; rfl
  ·rw [if_neg h1,decide_eq_false h1,cond_false,show x.toNat=x.natAbs by omega]
/-! ## Zero bytes -/
theorem bB7 (l:List UInt8):decide (Lib.indexByte l 0 ≥ 0)=l.any (fun c=>(c.toNat:Int) == 0):=by
 induction l with
 | nil=>rfl
 | cons b l ih =>
  rw [Lib.indexByte,List.any_cons,← ih]
  have hge:=Lib.indexByte_ge l 0
  by_cases h:b=0
  ·subst h; rfl
  ·have h1:(b == 0)=false:=by simpa using h
   have h2:((b.toNat:Int) == 0)=false:=by
    rw [beq_eq_false_iff_ne]
    intro hc
    exact h (UInt8.toNat_inj.1 (by show b.toNat=0; omega))
   rw [h1,h2,Bool.false_or,if_neg (by simp)]
   by_cases h3:Lib.indexByte l 0 = -1
   ·rw [h3]; rfl
   ·rw [if_neg (by simpa using h3),decide_eq_true (by omega),decide_eq_true (by omega)]
theorem aY5 (F:Nat) (a:aM) (hs:a.f2.length≤maxLen):∀ (m i n:Nat) (b:Bool),i+m=a.f2.length→m < n →
  gO F a n b (i:Int)=some (b || (a.f2.drop i).any (fun c=>(c.toNat:Int) == 0)):=by
 have hmax:maxLen=9223372036854775807:=rfl
 intro m
 induction m with
 | zero =>
  intro i n b hi hn
  obtain ⟨n,rfl⟩:∃ q,n=q+1:=⟨n - 1,by omega⟩
  obtain rfl:i=a.f2.length:=by omega
  rw [gO,iQ,cond_false,List.drop_length]; simp
 | succ m ih =>
  intro i n b hi hn
  obtain ⟨n,rfl⟩:∃ q,n=q+1:=⟨n - 1,by omega⟩
  have hlt:i < a.f2.length:=by omega
  rw [gO,dec_lt hlt,cond_true,bN (fun _=>⟨by omega,by omega⟩),lF,eQ (by omega),ih (i+1) n _ (by omega) (by omega),sI hlt,List.any_cons]
  cases b <;> simp
end Go.Vm.PgfG.L
namespace Go.Vm.PgfG.L
abbrev aP4:List UInt8:=[48,49,50,51,52,53,54,55,56,57,97,98,99,100,101,102]
def hx (k:Nat):UInt8:=aP4.getD k 0
theorem bO6:∀ n,n < 256→((n:Nat):Int).fdiv (2 ^ (min (4:Int).toNat IntKind.u8.bits))=((n / 16:Nat):Int) ∧
  IntKind.u8.wrap ((BitVec.ofInt IntKind.u8.bits ((n:Nat):Int) &&& BitVec.ofInt IntKind.u8.bits (15:Int)).toNat:Int)=((n % 16:Nat):Int):=by decide +kernel
theorem dB3 (c:UInt8):(c.toNat:Int).fdiv (2 ^ (min (4:Int).toNat IntKind.u8.bits))=((c.toNat / 16:Nat):Int):=(bO6 _ c.toNat_lt).1
theorem dA1 (c:UInt8):IntKind.u8.wrap ((BitVec.ofInt IntKind.u8.bits (c.toNat:Int) &&& BitVec.ofInt IntKind.u8.bits (15:Int)).toNat:Int)=((c.toNat % 16:Nat):Int):=(bO6 _ c.toNat_lt).2
theorem bO1:∀ n,n < 256→IntKind.u8.wrap (((n:Nat):Int).tdiv 16)=((n / 16:Nat):Int)∧((n:Nat):Int).tmod 16=((n % 16:Nat):Int):=by decide +kernel
theorem dB9 (c:UInt8):IntKind.u8.wrap ((c.toNat:Int).tdiv 16)=((c.toNat / 16:Nat):Int):=(bO1 _ c.toNat_lt).1
theorem dB8 (c:UInt8):(c.toNat:Int).tmod 16=((c.toNat % 16:Nat):Int):=(bO1 _ c.toNat_lt).2
theorem tdg (F:Nat) (b:Bool) (x:Int):(bif ((b == false) && true) then mG F x else some false)=some (bif b then false else dg x):=by cases b <;> rfl
theorem rdg (F:Nat) (b:Bool) (x:Int):(bif ((b == false) && ((true == true) && true)) then nT F x else some false)=some (bif b then false else dg x):=by cases b <;> rfl
theorem dC1 (F:Nat) (b:Bool) (x:Int):(bif ((b == false) && ((false == true) && true)) then nT F x else some false)=some false:=by cases b <;> rfl
theorem rlt (F:Nat) (x:Int):(bif ((true == true) && true) then mI F x else some false)=some (lt x):=cC3 F x
theorem dC9 (F:Nat) (x:Int):(bif ((false == true) && true) then mI F x else some false)=some false:=rfl
def xL (c:UInt8):Bool:=bif (bif (bif (bif lt c.toNat then true else (bif lt c.toNat then false else dg c.toNat)) then true else ((c.toNat:Int) == 95)) then true else ((c.toNat:Int) == 45)) then true else ((c.toNat:Int) == 46)
def rF (c:UInt8):List UInt8:=bif xL c then [c] else [35,hx (c.toNat / 16),hx (c.toNat % 16)]
theorem aG5 (c:UInt8):(rF c).length≤4:=by unfold rF; cases xL c <;> simp
def par (c:UInt8):Bool:=bif (bif ((c.toNat:Int) == 40) then true else ((c.toNat:Int) == 41)) then true else ((c.toNat:Int) == 92)
def ctl (c:UInt8):Bool:=bif (decide ((c.toNat:Int) < 32)) then true else (decide ((c.toNat:Int) > 125))
def uI (c:UInt8):List UInt8 :=
 bif (c.toNat:Int) == 10 then [92,110] else bif (c.toNat:Int) == 9 then [92,116] else bif par c then [92,c] else
 bif ctl c then [92,120,hx (c.toNat / 16),hx (c.toNat % 16)] else [c]
theorem cH7 (c:UInt8):(uI c).length≤4:=by
 unfold uI
 cases (c.toNat:Int) == 10 <;> cases (c.toNat:Int) == 9 <;> cases par c <;> cases ctl c <;> simp
theorem cB7 {c:UInt8} (h:((c.toNat:Int) == 10)=true):uI c=[92,110]:=by unfold uI; rw [h]; rfl
theorem cJ6 {c:UInt8} (h:((c.toNat:Int) == 10)=false) (h2:((c.toNat:Int) == 9)=true):uI c=[92,116]:=by unfold uI; rw [h,h2]; rfl
theorem cO1 {c:UInt8} (h:((c.toNat:Int) == 10)=false) (h2:((c.toNat:Int) == 9)=false) (h3:par c=true):uI c=[92,c]:=by unfold uI; rw [h,h2,h3]; rfl
theorem cO7 {c:UInt8} (h:((c.toNat:Int) == 10)=false) (h2:((c.toNat:Int) == 9)=false) (h3:par c=false) (h4:ctl c=true):uI c=[92,120,hx (c.toNat / 16),hx (c.toNat % 16)]:=by unfold uI; rw [h,h2,h3,h4]; rfl
theorem cO8 {c:UInt8} (h:((c.toNat:Int) == 10)=false) (h2:((c.toNat:Int) == 9)=false) (h3:par c=false) (h4:ctl c=false):uI c=[c]:=by unfold uI; rw [h,h2,h3,h4]; rfl
theorem cT9 (F:Nat) (s:List UInt8) (hs:s.length≤100000):∀ (m i n:Nat) (acc:List UInt8),i+m=s.length→m < n→acc.length+4 * m≤1000000 →
  eX F s n acc (i:Int)=some (acc++(s.drop i).flatMap rF):=by
 intro m
 induction m with
 | zero =>
  intro i n acc hi hn _
  obtain ⟨n,rfl⟩:∃ q,n=q+1:=⟨n - 1,by omega⟩
  obtain rfl:i=s.length:=by omega
  rw [eX,iQ,cond_false,List.drop_length]; simp
 | succ m ih =>
  intro i n acc hi hn ha
  obtain ⟨n,rfl⟩:∃ q,n=q+1:=⟨n - 1,by omega⟩
  have hlt:i < s.length:=by omega
  rw [eX,dec_lt hlt,cond_true,iM hlt,lF,eQ (by omega),sI hlt,List.flatMap_cons]
  have hl:=aG5 (s.getD i 0)
  generalize s.getD i 0=c at *
  have hc:0≤(c.toNat:Int)∧(c.toNat:Int) < 256:=⟨by omega,by have:=c.toNat_lt; omega⟩
  simp only [bH9,tdg,aN,bR,aY,dB3,dA1,lF]
  have hi2:=fun acc' (hq:acc'.length≤acc.length+4)=>ih (i+1) n acc' (by omega) (by omega) (by omega)
  change call (bif xL c then _ else _) _=_
  cases h:xL c
  ·have hh:∀ k,k < 16→0≤((aP4.getD k 0).toNat:Int)∧((aP4.getD k 0).toNat:Int) < 256:=fun k _=>⟨by omega,by have:=(aP4.getD k 0).toNat_lt; omega⟩
   rw [cond_false,bN ⟨by omega,by omega⟩,bN (by simp; omega),aN,iM (by simp; omega),bN (hh _ (by omega)),bN (by simp; omega),aN,
    iM (by simp; omega),bN (hh _ (by omega)),bN (by simp; omega),aN,aN,hi2 _ (by simp)]
   unfold rF
   rw [h]
   simp [hx]
  ·rw [cond_true,bN hc,bN (by simp; omega),aN,aN,hi2 _ (by simp)]
   unfold rF
   rw [h]
   simp
theorem aX2 (F:Nat) (a:aM) (hk:(a.f0 == 2)=true) (hs:a.f2.length≤100000):∀ (m i n:Nat) (acc:List UInt8),i+m=a.f2.length→m < n→acc.length+4 * m≤1000000 →
  eF F a n acc (i:Int)=some (acc++(a.f2.drop i).flatMap rF):=by
 intro m
 induction m with
 | zero =>
  intro i n acc hi hn _
  obtain ⟨n,rfl⟩:∃ q,n=q+1:=⟨n - 1,by omega⟩
  obtain rfl:i=a.f2.length:=by omega
  rw [eF,iQ,cond_false,List.drop_length]; simp
 | succ m ih =>
  intro i n acc hi hn ha
  obtain ⟨n,rfl⟩:∃ q,n=q+1:=⟨n - 1,by omega⟩
  have hlt:i < a.f2.length:=by omega
  rw [eF,dec_lt hlt,cond_true,iM hlt,lF,eQ (by omega),sI hlt,List.flatMap_cons,hk]
  have hl:=aG5 (a.f2.getD i 0)
  generalize a.f2.getD i 0=c at *
  have hc:0≤(c.toNat:Int)∧(c.toNat:Int) < 256:=⟨by omega,by have:=c.toNat_lt; omega⟩
  have hh:∀ k,k < 16→0≤((aP4.getD k 0).toNat:Int)∧((aP4.getD k 0).toNat:Int) < 256:=fun k _=>⟨by omega,by have:=(aP4.getD k 0).toNat_lt; omega⟩
  simp only [rlt,rdg,aN,bR,dB9,dB8,lF]
  have hi2:=fun acc' (hq:acc'.length≤acc.length+4)=>ih (i+1) n acc' (by omega) (by omega) (by omega)
  have hr:=c.toNat_lt
  rw [iM (by simp; omega),iM (by simp; omega),bN (hh _ (by omega)),bN (hh _ (by omega))]
  change call (bif (bif true then xL c else false) then _ else _) _=_
  rw [cond_true]
  cases h:xL c
  ·rw [cond_false,cond_true,bN (by simp; omega),bN (by simp; omega),aN,hi2 _ (by simp)]
   unfold rF
   rw [h]
   simp [hx]
  ·rw [cond_true,bN hc,bN (by simp; omega),aN,hi2 _ (by simp)]
   unfold rF
   rw [h]
   simp
theorem cU5 (F:Nat) (s:List UInt8) (hs:s.length≤100000):∀ (m i n:Nat) (acc:List UInt8),i+m=s.length→m < n→acc.length+4 * m≤1000000 →
  eV F s n acc (i:Int)=some (acc++(s.drop i).flatMap uI):=by
 intro m
 induction m with
 | zero =>
  intro i n acc hi hn _
  obtain ⟨n,rfl⟩:∃ q,n=q+1:=⟨n - 1,by omega⟩
  obtain rfl:i=s.length:=by omega
  rw [eV,iQ,cond_false,List.drop_length]; simp
 | succ m ih =>
  intro i n acc hi hn ha
  obtain ⟨n,rfl⟩:∃ q,n=q+1:=⟨n - 1,by omega⟩
  have hlt:i < s.length:=by omega
  rw [eV,dec_lt hlt,cond_true,iM hlt,lF,eQ (by omega),sI hlt,List.flatMap_cons]
  generalize s.getD i 0=c at *
  have hc:0≤(c.toNat:Int)∧(c.toNat:Int) < 256:=⟨by omega,by have:=c.toNat_lt; omega⟩
  have hr:=c.toNat_lt
  have hh:∀ k,k < 16→0≤((aP4.getD k 0).toNat:Int)∧((aP4.getD k 0).toNat:Int) < 256:=fun k _=>⟨by omega,by have:=(aP4.getD k 0).toNat_lt; omega⟩
  simp only [bR,aY,bS,dB3,dA1,lF]
  have hi2:=fun acc' (hq:acc'.length≤acc.length+4)=>ih (i+1) n acc' (by omega) (by omega) (by omega)
  change call (bif _ then _ else bif _ then _ else bif par c then _ else bif ctl c then _ else _) _=_
  cases h:(c.toNat:Int) == 10
  ·cases h2:(c.toNat:Int) == 9
   ·cases h3:par c
    ·cases h4:ctl c
     ·simp only [cond_false]
      rw [bN hc,bN (by simp; omega),aN,aN,hi2 _ (by simp)]
      rw [cO8 h h2 h3 h4]
      simp
     ·simp only [cond_false,cond_true]
      rw [bN (by simp; omega),aN,iM (by simp; omega),bN (hh _ (by omega)),bN (by simp; omega),aN,
       iM (by simp; omega),bN (hh _ (by omega)),bN (by simp; omega),aN,aN,hi2 _ (by simp)]
      rw [cO7 h h2 h3 h4]
      simp [hx]
    ·simp only [cond_false,cond_true]
     rw [bN ⟨by omega,by omega⟩,bN (by simp; omega),aN,bN hc,bN (by simp; omega),aN,aN,hi2 _ (by simp)]
     rw [cO1 h h2 h3]
     simp
   ·simp only [cond_false,cond_true]
    rw [bN (by simp; omega),aN,aN,hi2 _ (by simp)]
    rw [cJ6 h h2]
    simp
  ·simp only [cond_true]
   rw [bN (by simp; omega),aN,aN,hi2 _ (by simp)]
   rw [cB7 h]
   simp
theorem aV8 (F:Nat) (a:aM) (hk:(a.f0 == 2)=false) (hs:a.f2.length≤100000):∀ (m i n:Nat) (acc:List UInt8),i+m=a.f2.length→m < n→acc.length+4 * m≤1000000 →
  eF F a n acc (i:Int)=some (acc++(a.f2.drop i).flatMap uI):=by
 intro m
 induction m with
 | zero =>
  intro i n acc hi hn _
  obtain ⟨n,rfl⟩:∃ q,n=q+1:=⟨n - 1,by omega⟩
  obtain rfl:i=a.f2.length:=by omega
  rw [eF,iQ,cond_false,List.drop_length]; simp
 | succ m ih =>
  intro i n acc hi hn ha
  obtain ⟨n,rfl⟩:∃ q,n=q+1:=⟨n - 1,by omega⟩
  have hlt:i < a.f2.length:=by omega
  rw [eF,dec_lt hlt,cond_true,iM hlt,lF,eQ (by omega),sI hlt,List.flatMap_cons,hk]
  generalize a.f2.getD i 0=c at *
  have hc:0≤(c.toNat:Int)∧(c.toNat:Int) < 256:=⟨by omega,by have:=c.toNat_lt; omega⟩
  have hh:∀ k,k < 16→0≤((aP4.getD k 0).toNat:Int)∧((aP4.getD k 0).toNat:Int) < 256:=fun k _=>⟨by omega,by have:=(aP4.getD k 0).toNat_lt; omega⟩
  have hge:decide ((c.toNat:Int) ≥ 126)=decide ((c.toNat:Int) > 125):=by rw [decide_eq_decide]; omega
  simp only [dC9,dC1,aN,bR,dB9,dB8,lF,hge]
  have hi2:=fun acc' (hq:acc'.length≤acc.length+4)=>ih (i+1) n acc' (by omega) (by omega) (by omega)
  have hr:=c.toNat_lt
  rw [iM (by simp; omega),iM (by simp; omega),bN (hh _ (by omega)),bN (hh _ (by omega))]
  change call (bif _ then _ else bif _ then _ else bif par c then _ else bif ctl c then _ else _) _=_
  cases h:(c.toNat:Int) == 10
  ·cases h2:(c.toNat:Int) == 9
   ·cases h3:par c
    ·cases h4:ctl c
     ·simp only [cond_false]
      rw [bN hc,bN (by simp; omega),aN,hi2 _ (by simp)]
      rw [cO8 h h2 h3 h4]
      simp
     ·simp only [cond_false,cond_true]
      rw [bN (by simp; omega),bN (by simp; omega),aN,hi2 _ (by simp)]
      rw [cO7 h h2 h3 h4]
      simp [hx]
    ·simp only [cond_false,cond_true]
     rw [bN hc,bN (by simp; omega),aN,hi2 _ (by simp)]
     rw [cO1 h h2 h3]
     simp
   ·simp only [cond_false,cond_true]
    rw [bN (by simp; omega),aN,hi2 _ (by simp)]
    rw [cJ6 h h2]
    simp
  ·simp only [cond_true]
   rw [bN (by simp; omega),aN,hi2 _ (by simp)]
   rw [cB7 h]
   simp
theorem nY {f:UInt8→List UInt8} (h:∀ c,(f c).length≤4):∀ (s:List UInt8),(s.flatMap f).length≤4 * s.length
 | []=>by simp
 | c :: t=>by
  have:=nY h t
  have:=h c
  rw [List.flatMap_cons,List.length_append,List.length_cons]; omega
end Go.Vm.PgfG.L
namespace Go.Vm.PgfG.L
/-- What stands beside a word only behind a blank. -/
def cN7 (x:Int):Bool := !((x == 32 || x == 9) || x == 10) && !(decide (Lib.indexByte ([40,41,60,62,91,93,47,64,37]:List UInt8) x.toNat.toUInt8 ≥ 0))
theorem aW2 (F:Nat) (x:Int):jH F x=some (cN7 x):=by
 unfold jH qP pH cN7
 rw [aG2,aG2,aN]
 cases ((x == 32 || x == 9) || x == 10) <;> rfl
def reg (c:UInt8):Bool:=cN7 (c.toNat:Int)
/-- How what is printed of a token begins and ends. -/
def Shp (k:Int) (x:List UInt8×Int):Prop:=x.2=0→x.1≠[]∧reg (x.1.getD 0 0)=(k == 1 || k == 5)∧reg (x.1.getD (x.1.length - 1) 0)=((k == 1 || k == 2) || (k == 4 || k == 5))∧x.1.length≤3000000000
theorem xU {k:Int} {s:List UInt8} {e:Int} (h:e≠0):Shp k (s,e):=fun h'=>absurd h' h
theorem bK9 {l:List UInt8} (h:l≠[]) (ha:∀ c∈l,reg c=true):reg (l.getD 0 0)=true∧reg (l.getD (l.length - 1) 0)=true:=by
 have hl:0 < l.length:=List.length_pos_iff.2 h
 constructor
 ·apply ha
  rw [List.getD_eq_getElem?_getD,List.getElem?_eq_getElem hl]
  exact List.getElem_mem hl
 ·apply ha
  have:l.length - 1 < l.length:=by omega
  rw [List.getD_eq_getElem?_getD,List.getElem?_eq_getElem this]
  exact List.getElem_mem this
theorem bE6:∀ n:Nat,n < 256→((dg (n:Int)=true→reg (UInt8.ofNat n)=true)∧(okb (UInt8.ofNat n)=true→reg (UInt8.ofNat n)=true)∧(xL (UInt8.ofNat n)=true→reg (UInt8.ofNat n)=true))∧reg (hx (n % 16))=true:=by decide +kernel
theorem bP7 (c:UInt8):((dg (c.toNat:Int)=true→reg c=true)∧(okb c=true→reg c=true)∧(xL c=true→reg c=true)):=by
 have:=(bE6 c.toNat c.toNat_lt).1
 simpa using this
theorem cP0 {k:Nat} (h:k < 16):reg (hx k)=true:=by
 have:=(bE6 k (by omega)).2
 rwa [Nat.mod_eq_of_lt h] at this
theorem cE3 (c d:UInt8) (h:d∈rF c):reg d=true:=by
 unfold rF at h
 cases hn:xL c with
 | true =>
  rw [hn] at h
  simp only [cond_true,List.mem_singleton] at h
  subst h
  exact (bP7 d).2.2 hn
 | false =>
  rw [hn] at h
  simp only [cond_false,List.mem_cons,List.not_mem_nil,or_false] at h
  have:=c.toNat_lt
  rcases h with rfl | rfl | rfl
  ·decide +kernel
  ·exact cP0 (by omega)
  ·exact cP0 (by omega)
theorem dD1 {s:List UInt8} (h:s≠[]) (hb:s.length≤1000):Shp 2 (47 :: s.flatMap rF,0):=by
 intro _
 have hne:s.flatMap rF≠[]:=by
  cases s with
  | nil=>exact absurd rfl h
  | cons c t =>
   rw [List.flatMap_cons]
   intro e
   have:=(List.append_eq_nil_iff.1 e).1
   unfold rF at this
   cases hn:xL c <;> rw [hn] at this <;> cases this
 have ha:∀ c∈s.flatMap rF,reg c=true:=by
  intro c hc
  obtain ⟨x,_,hx⟩:=List.mem_flatMap.1 hc
  exact cE3 x c hx
 have hl:0 < (s.flatMap rF).length:=List.length_pos_iff.2 hne
 have hfl:=nY aG5 s
 refine ⟨by simp,show reg 47=false by decide +kernel,?_,by simp only [List.length_cons]; omega⟩
 have:=(bK9 hne ha).2
 simp only [List.length_cons,Nat.add_sub_cancel]
 obtain ⟨m,hm⟩:∃ m,(s.flatMap rF).length=m+1:=⟨_,(Nat.sub_add_cancel hl).symm⟩
 rw [hm] at this ⊢
 rw [List.getD_cons_succ]
 simpa using this
theorem dC5 (r:List UInt8) (hb:r.length≤100000):Shp 3 (40 :: (r++[41]),0):=by
 intro _
 refine ⟨by simp,show reg 40=false by decide +kernel,?_,by simp only [List.length_cons,List.length_append,List.length_nil]; omega⟩
 have:(40 :: (r++[41])).getD ((40 :: (r++[41])).length - 1) 0=41:=by
  simp [List.getD_eq_getElem?_getD]
 simp only
 rw [this]
 decide +kernel
theorem dC4 {s:List UInt8} (h:s≠[]) (ho:s.all okb=true) (hb:s.length≤1000):Shp 5 (s,0):=by
 intro _
 obtain ⟨h1,h2⟩:=bK9 h fun c hc=>(bP7 c).2.1 (List.all_eq_true.1 ho c hc)
 exact ⟨h,h1,h2,by simp only; omega⟩
theorem cR6:Shp 6 ([91],0)∧Shp 7 ([93],0)∧Shp 8 ([60,60],0)∧Shp 9 ([62,62],0):=by
 refine ⟨fun _=>⟨by decide,?_,?_,by decide⟩,fun _=>⟨by decide,?_,?_,by decide⟩,fun _=>⟨by decide,?_,?_,by decide⟩,fun _=>⟨by decide,?_,?_,by decide⟩⟩ <;> decide +kernel
theorem dB1:∀ u:Nat,Lib.decDigits u≠[]∧∀ c∈Lib.decDigits u,reg c=true:=by
 intro u
 have dig:∀ k:Nat,k < 10→reg (UInt8.ofNat (48+k))=true:=by decide +kernel
 induction u using Nat.strongRecOn with
 | _ u ih =>
  rw [Lib.decDigits]
  split
  ·refine ⟨by simp,fun c hc=>?_⟩
   rw [List.mem_singleton.1 hc]
   exact dig u (by assumption)
  ·refine ⟨by simp,fun c hc=>?_⟩
   rcases List.mem_append.1 hc with h | h
   ·exact (ih (u / 10) (by omega)).2 c h
   ·rw [List.mem_singleton.1 h]
    exact dig (u % 10) (by omega)
theorem bS8 (v:Int):Lib.itoa v≠[]∧∀ c∈Lib.itoa v,reg c=true:=by
 unfold Lib.itoa
 split
 ·refine ⟨by simp,fun c hc=>?_⟩
  rcases List.mem_cons.1 hc with rfl | h
  ·decide +kernel
  ·exact (dB1 _).2 c h
 ·exact dB1 _
theorem bR2 {v:Int} (h : -2147483647≤v∧v≤2147483647):(Lib.itoa v).length≤2147483650:=by
 unfold Lib.itoa
 have h1:=tH v.natAbs
 have h2:=tH v.toNat
 split
 ·simp only [List.length_cons]; omega
 ·omega
theorem dC3 (v:Int) (h : -2147483647≤v∧v≤2147483647):Shp 1 (Lib.itoa v,0):=by
 intro _
 obtain ⟨h1,h2⟩:=bS8 v
 obtain ⟨h3,h4⟩:=bK9 h1 h2
 have:=bR2 h
 exact ⟨h1,h3,h4,by simp only; omega⟩
theorem dC8 (v:Int) (h : -2147483647≤v∧v≤2147483647):Shp 4 ([64]++Lib.itoa v,0):=by
 intro _
 obtain ⟨h1,h2⟩:=bS8 v
 obtain ⟨_,h4⟩:=bK9 h1 h2
 have:=bR2 h
 refine ⟨by simp,show reg 64=false by decide +kernel,?_,by simp only [List.length_append,List.length_singleton]; omega⟩
 have hl:0 < (Lib.itoa v).length:=List.length_pos_iff.2 h1
 obtain ⟨m,hm⟩:∃ m,(Lib.itoa v).length=m+1:=⟨_,(Nat.sub_add_cancel hl).symm⟩
 simp only [List.cons_append,List.nil_append,List.length_cons,Nat.add_sub_cancel]
 rw [hm] at h4 ⊢
 rw [List.getD_cons_succ]
 simpa using h4
end Go.Vm.PgfG.L
namespace Go.Vm.PgfG.L
theorem isE {s:List UInt8} (h:¬ s=[]):s.isEmpty=false:=by cases s <;> simp_all
theorem nz {v:Int} (h:¬ v=0):(v != 0)=true:=by simpa using h
theorem dA9 {F:Nat} (hF:4294967300≤F) (v:Int) (s:List UInt8) (p q:Int):∃ x,bJ F ⟨1,v,s,p,q⟩=some x∧bM F ⟨1,v,s,p,q⟩=some x∧Shp 1 x:=by
 by_cases hs:s=[]
 ·subst hs
  by_cases h1:v < -2147483647
  ·exact ⟨([],3),by simp [bJ,bW,aN,cK,dH,bR,h1],by simp [bM,aN,cK,bR,h1],xU (by decide)⟩
  ·by_cases h2:v > 2147483647
   ·exact ⟨([],3),by simp [bJ,bW,aN,cK,dH,bR,h1,h2],by simp [bM,aN,cK,bR,h1,h2],xU (by decide)⟩
   ·have hi : -9223372036854775808≤v∧v≤9223372036854775807:=⟨by omega,by omega⟩
    exact ⟨(Lib.itoa v,0),by simp [bJ,bW,aN,cK,bR,h1,h2,bN hi],by simp [bM,aN,cK,bR,h1,h2,bA1 hF (x:=v) ⟨by omega,by omega⟩],dC3 v ⟨by omega,by omega⟩⟩
 ·exact ⟨([],4),by simp [bJ,bW,aN,dH,bR,isE hs],by simp [bM,aN,cK,bR,isE hs],xU (by decide)⟩
theorem dB7 {F:Nat} (hF:4294967300≤F) (v:Int) (s:List UInt8) (p q:Int):∃ x,bJ F ⟨4,v,s,p,q⟩=some x∧bM F ⟨4,v,s,p,q⟩=some x∧Shp 4 x:=by
 by_cases hs:s=[]
 ·subst hs
  by_cases h1:v < 1
  ·exact ⟨([],3),by simp [bJ,bW,aN,cK,dH,bR,h1],by simp [bM,aN,cK,bR,h1],xU (by decide)⟩
  ·by_cases h2:v > 255
   ·exact ⟨([],3),by simp [bJ,bW,aN,cK,dH,bR,h1,h2],by simp [bM,aN,cK,bR,h1,h2],xU (by decide)⟩
   ·have hi : -9223372036854775808≤v∧v≤9223372036854775807:=⟨by omega,by omega⟩
    have hl:(Lib.itoa v).length≤1000:=by
     have:=tH v.toNat
     unfold Lib.itoa; rw [if_neg (by omega)]; omega
    have hl2:([64]:List UInt8).length+(Lib.itoa v).length≤9223372036854775807:=by simp; omega
    exact ⟨([64]++Lib.itoa v,0),by
      simp only [bJ,bW,aN,cK,bR]
      simp [aN,cK,bR,h1,h2,bN hi]
      rw [bN (by omega)],by
      simp [bM,aN,cK,bR,h1,h2,bA1 hF (x:=v) ⟨by omega,by omega⟩]
      rw [bN (by omega)],dC8 v ⟨by omega,by omega⟩⟩
 ·exact ⟨([],4),by simp [bJ,bW,aN,dH,bR,isE hs],by simp [bM,aN,cK,bR,isE hs],xU (by decide)⟩
theorem dA5 {F:Nat} (hF:4294967300≤F) (v:Int) (s:List UInt8) (p q:Int) (hs:s.length≤maxLen) (hF2:s.length < F):∃ x,bJ F ⟨2,v,s,p,q⟩=some x∧bM F ⟨2,v,s,p,q⟩=some x∧Shp 2 x:=by
 by_cases hv:v=0
 ·subst hv
  by_cases hn:s=[]
  ·subst hn
   refine ⟨([],4),by simp [bJ,bW,aN,dH,bR],?_,xU (by decide)⟩
   have hL:gO F ⟨2,0,[],p,q⟩ F true 0=some true:=aY5 F ⟨2,0,[],p,q⟩ hs 0 0 F true rfl (by omega)
   simp [bM,aN,dH,bR,hL]
  ·have hz:=bB7 s
   have hL:gO F ⟨2,0,s,p,q⟩ F false 0=some (false || s.any (fun c=>(c.toNat:Int) == 0)):=aY5 F ⟨2,0,s,p,q⟩ hs s.length 0 F false (by simp) hF2
   rw [Bool.false_or,← hz] at hL
   by_cases h0:0≤Lib.indexByte s 0
   ·rw [decide_eq_true h0] at hL
    exact ⟨([],4),by simp [bJ,bW,aN,dH,bR,isE hn,h0],by simp [bM,aN,dH,bR,isE hn,hL],xU (by decide)⟩
   ·rw [decide_eq_false h0] at hL
    by_cases hl:(31:Int) < (s.length:Int)
    ·exact ⟨([],2),by simp [bJ,bW,aN,dH,cK,bR,isE hn,h0,hl],by simp [bM,aN,cK,bR,isE hn,hL,hl],xU (by decide)⟩
    ·have h1:eX F s F [] 0=some ([]++s.flatMap rF):=cT9 F s (by omega) s.length 0 F [] (by omega) (by omega) (by simp; omega)
     have h2:eF F ⟨2,0,s,p,q⟩ F [] 0=some ([]++s.flatMap rF):=aX2 F ⟨2,0,s,p,q⟩ rfl (by show s.length≤_; omega) s.length 0 F [] (by simp) (by omega) (by simp; omega)
     have hb:=nY aG5 s
     rw [List.nil_append] at h1 h2
     have hsh:=dD1 hn (by omega)
     generalize s.flatMap rF=r at *
     refine ⟨(47 :: r,0),?_,?_,hsh⟩
     ·simp [bJ,bW,mZ,aN,cK,bR,isE hn,h0,hl,h1]
      rw [bN (by omega),aN,bN (by omega)]
     ·simp [bM,aN,cK,bR,isE hn,hL,hl,h2]
      rw [bN (by omega)]
 ·exact ⟨([],4),by simp [bJ,bW,aN,dH,bR,nz hv],by simp [bM,aN,bR,nz hv],xU (by decide)⟩
theorem dB0 {F:Nat} (hF:4294967300≤F) (v:Int) (s:List UInt8) (p q:Int):∃ x,bJ F ⟨3,v,s,p,q⟩=some x∧bM F ⟨3,v,s,p,q⟩=some x∧Shp 3 x:=by
 by_cases hv:v=0
 ·subst hv
  by_cases hl:(1024:Int) < (s.length:Int)
  ·exact ⟨([],2),by simp [bJ,bW,aN,dH,cK,bR,hl],by simp [bM,aN,cK,bR,hl],xU (by decide)⟩
  ·have h1:eV F s F [40] 0=some ([40]++s.flatMap uI):=cU5 F s (by omega) s.length 0 F [40] (by omega) (by omega) (by simp; omega)
   have h2:eF F ⟨3,0,s,p,q⟩ F [] 0=some ([]++s.flatMap uI):=aV8 F ⟨3,0,s,p,q⟩ rfl (by show s.length≤_; omega) s.length 0 F [] (by simp) (by omega) (by simp; omega)
   have hb:=nY cH7 s
   rw [List.nil_append] at h2
   generalize s.flatMap uI=r at *
   refine ⟨(40 :: (r++[41]),0),?_,?_,dC5 r (by omega)⟩
   ·simp [bJ,bW,nG,aY,aN,cK,bR,hl,bN,h1]
    rw [bN (by omega),aN,bN (by simp; omega),aN]
   ·simp [bM,aN,cK,bR,hl,h2]
    rw [bN (by omega),bN (by omega)]
 ·exact ⟨([],4),by simp [bJ,bW,aN,dH,bR,nz hv],by simp [bM,aN,bR,nz hv],xU (by decide)⟩
theorem dB5 {F:Nat} (hF:4294967300≤F) (v:Int) (s:List UInt8) (p q:Int) (hs:s.length≤maxLen) (hF2:s.length < F):∃ x,bJ F ⟨5,v,s,p,q⟩=some x∧bM F ⟨5,v,s,p,q⟩=some x∧Shp 5 x:=by
 by_cases hv:v=0
 ·subst hv
  have hw:=cU1 hs hF2
  have he:=bI4 hs hF2
  cases s with
  | nil=>exact ⟨([],4),by simp [bJ,bW,qK,aN,dH,bR,hw,aD1],by simp [bM,aN,cK,bR,chk],xU (by decide)⟩
  | cons c t =>
   cases hd:dg c.toNat
   ·cases ha:(c :: t).all okb
    ·have hwy:aD1 (c :: t)=false:=by simp only [aD1,ha,Bool.and_false]
     rw [hwy] at hw; rw [ha] at he
     refine ⟨([],4),by simp [bJ,bW,qK,aN,dH,bR,hw],?_,xU (by decide)⟩
     simp [bM,aN,cK,bR,chk,aZ2,hd,he]
    ·have hwy:aD1 (c :: t)=true:=by simp only [aD1,ha,hd,List.getD_cons_zero]; rfl
     rw [hwy,if_pos rfl] at hw; rw [ha,if_pos rfl] at he
     by_cases hl:(c :: t).length > 31
     ·rw [if_pos hl] at hw he
      exact ⟨([],2),by simp [bJ,bW,qK,aN,dH,bR,hw],by simp [bM,aN,cK,bR,chk,aZ2,hd,he],xU (by decide)⟩
     ·rw [if_neg hl] at hw he
      exact ⟨(c :: t,0),by simp [bJ,bW,qK,aN,cK,bR,hw],by simp [bM,aN,cK,bR,chk,aZ2,hd,he],dC4 (by simp) ha (by omega)⟩
   ·have hwy:aD1 (c :: t)=false:=by simp only [aD1,hd,List.getD_cons_zero]; simp
    rw [hwy] at hw
    exact ⟨([],4),by simp [bJ,bW,qK,aN,dH,bR,hw],by simp [bM,aN,cK,bR,chk,aZ2,hd],xU (by decide)⟩
 ·exact ⟨([],4),by simp [bJ,bW,aN,dH,bR,nz hv],by simp [bM,aN,bR,nz hv],xU (by decide)⟩
theorem bN1 {F:Nat} (k:Int) (hk:k=6∨k=7∨k=8∨k=9) (v:Int) (s:List UInt8) (p q:Int):∃ x,bJ F ⟨k,v,s,p,q⟩=some x∧bM F ⟨k,v,s,p,q⟩=some x∧Shp k x:=by
 by_cases hv:v=0
 ·subst hv
  by_cases hn:s=[]
  ·subst hn
   rcases hk with rfl | rfl | rfl | rfl
   ·exact ⟨([91],0),by simp [bJ,bW,aN,cK,bR,chk,oD],by simp [bM,aN,cK,bR],cR6.1⟩
   ·exact ⟨([93],0),by simp [bJ,bW,aN,cK,bR,chk,oD],by simp [bM,aN,cK,bR],cR6.2.1⟩
   ·exact ⟨([60,60],0),by simp [bJ,bW,aN,cK,bR,chk,oD],by simp [bM,aN,cK,bR],cR6.2.2.1⟩
   ·exact ⟨([62,62],0),by simp [bJ,bW,aN,cK,bR,chk,oD],by simp [bM,aN,cK,bR],cR6.2.2.2⟩
  ·refine ⟨([],4),?_,?_,xU (by decide)⟩ <;> rcases hk with rfl | rfl | rfl | rfl <;> simp [bJ,bW,bM,aN,dH,bR,isE hn]
 ·refine ⟨([],4),?_,?_,xU (by decide)⟩ <;> rcases hk with rfl | rfl | rfl | rfl <;> simp [bJ,bW,bM,aN,dH,bR,nz hv]
theorem cM4 {F:Nat} (k:Int) (hk:k < 1∨9 < k) (v:Int) (s:List UInt8) (p q:Int):∃ x,bJ F ⟨k,v,s,p,q⟩=some x∧bM F ⟨k,v,s,p,q⟩=some x∧Shp k x:=by
 refine ⟨([],14),?_,?_,xU (by decide)⟩ <;> rcases hk with h | h <;> simp [bJ,bW,bM,aN,dH,bR,h]
theorem both {F:Nat} (hF:4294967300≤F) (a:aM) (hs:a.f2.length≤maxLen) (hF2:a.f2.length < F):∃ x,bJ F a=some x∧bM F a=some x∧Shp a.f0 x:=by
 obtain ⟨k,v,s,p,q⟩:=a
 by_cases h:k < 1∨9 < k
 ·exact cM4 k h v s p q
 ·have:k=1∨k=2∨k=3∨k=4∨k=5∨k=6∨k=7∨k=8∨k=9:=by omega
  rcases this with rfl | rfl | rfl | rfl | rfl | h
  ·exact dA9 hF v s p q
  ·exact dA5 hF v s p q hs hF2
  ·exact dB0 hF v s p q
  ·exact dB7 hF v s p q
  ·exact dB5 hF v s p q hs hF2
  ·exact bN1 k h v s p q
end Go.Vm.PgfG.L
namespace Go.Vm.PgfG.L
theorem bX0:∀ x y:List UInt8,(!(Op.bytesLess x y))=(Op.bytesLess y x || y == x)
 | [],[]=>rfl
 | [],b :: y=>by simp [Op.bytesLess]
 | a :: x,[]=>by simp [Op.bytesLess]
 | a :: x,b :: y=>by
  have ih:=bX0 x y
  simp only [Op.bytesLess]
  have e1:(b :: y == a :: x)=((b == a) && (y == x)):=rfl
  rw [e1]
  rcases Nat.lt_trichotomy a.toNat b.toNat with h | h | h
  ·have h1:a < b:=h
   have h2:¬ b < a:=fun h'=>Nat.lt_asymm h h'
   have h3:(b == a)=false:=by
    rw [beq_eq_false_iff_ne]
    intro e
    rw [e] at h
    exact Nat.lt_irrefl _ h
   simp [h1,h2,h3]
  ·have e:a=b:=UInt8.toNat_inj.1 h
   subst e
   have h1:¬ a < a:=fun h=>Nat.lt_irrefl _ h
   simp [h1,ih]
  ·have h1:b < a:=h
   have h2:¬ a < b:=fun h'=>Nat.lt_asymm h h'
   have h3:(a == b)=false:=by
    rw [beq_eq_false_iff_ne]
    intro e
    rw [e] at h
    exact Nat.lt_irrefl _ h
   simp [h1,h2,h3]
/-- All strings of an object are as long as strings are. -/
inductive Sm:aC→Prop
 | mk {k v:Int} {s:List UInt8} {ks:List (List UInt8)} {l:List aC} (h1:s.length≤maxLen) (h2:∀ x∈ks,x.length≤maxLen) (h3:∀ x∈l,Sm x):Sm ⟨k,v,s,ks,l⟩
theorem Sm.s {o:aC} (h:Sm o):o.f2.length≤maxLen:=by cases h; assumption
theorem Sm.ks {o:aC} (h:Sm o):∀ x∈o.f3,x.length≤maxLen:=by cases h; assumption
theorem Sm.l {o:aC} (h:Sm o):∀ x∈o.f4,Sm x:=by cases h; assumption
/-- A token that is printed without an error. -/
def TOk (F:Nat) (t:aM):Prop:=∃ s,bJ F t=some (s,0)∧bM F t=some (s,0)∧Shp t.f0 (s,0)
/-- What a node without an error is like. -/
structure bA3 (F:Nat) (o:aC):Prop where
 k:0≤o.f0∧o.f0≤7
 v:o.f0≠1→o.f0≠2→o.f0≠5→o.f1=0
 s:o.f0≠3→o.f0≠4→o.f2=[]
 l:o.f0≠6→o.f0≠7→o.f4=[]
 ks:o.f0=7→o.f3.length=o.f4.length
 ks0:o.f0≠7→o.f3=[]
 b:o.f0=1→o.f1=0∨o.f1=1
 many:o.f4.length≤256
 names:∀ x∈o.f3,TOk F ⟨2,0,x,0,0⟩
 sorted:∀ i,i+1 < o.f3.length→Op.bytesLess (o.f3.getD i []) (o.f3.getD (i+1) [])=true
theorem keys_eq {F:Nat} (hF:4294967300≤F) (hF2:maxLen < F) (o:aC) (hs:∀ x∈o.f3,x.length≤maxLen) (hb:o.f3.length≤1000) :
  ∀ (m i n:Nat),i+m=o.f3.length→m < n→(∀ j,j < i→TOk F ⟨2,0,o.f3.getD j [],0,0⟩)→(∀ j,j+1 < o.f3.length→j+1 < i→Op.bytesLess (o.f3.getD j []) (o.f3.getD (j+1) [])=true) →
   (∃ e,e≠0∧jN F o n i=some (.esc e)∧gD F o n i=some (.esc e)) ∨
   (jN F o n i=some (.go ())∧gD F o n i=some (.go ())∧(∀ j,j < o.f3.length→TOk F ⟨2,0,o.f3.getD j [],0,0⟩)∧∀ j,j+1 < o.f3.length→Op.bytesLess (o.f3.getD j []) (o.f3.getD (j+1) [])=true):=by
 intro m
 induction m with
 | zero =>
  intro i n h hn h1 h2
  obtain ⟨n,rfl⟩:∃ k,n=k+1:=⟨n - 1,by omega⟩
  obtain rfl:i=o.f3.length:=by omega
  refine .inr ⟨?_,?_,h1,fun j hj=>h2 j hj hj⟩
  ·rw [jN,iQ,cond_false]
  ·rw [gD,iQ,cond_false]
 | succ m ih =>
  intro i n h hn h1 h2
  obtain ⟨n,rfl⟩:∃ k,n=k+1:=⟨n - 1,by omega⟩
  have hi:i < o.f3.length:=by omega
  have hm:o.f3.getD i []∈o.f3:=by
   rw [List.getD_eq_getElem?_getD,List.getElem?_eq_getElem hi]
   exact List.getElem_mem hi
  have hl:=hs _ hm
  obtain ⟨⟨t,e⟩,g1,g2,g3⟩:=both hF ⟨2,0,o.f3.getD i [],0,0⟩ hl (by simp only; omega)
  have hw:IntKind.i64.wrap ((i:Int) - 1)=((i - 1:Nat):Int)∨i=0:=by
   by_cases h0:i=0
   ·exact .inr h0
   ·exact .inl (qJ (by omega) (by omega))
  have hchk:∀ {α:Type} (K:Option α),chk ((((decide ((i:Int) > (0:Int))) == true) && true)=true→0≤(IntKind.i64.wrap ((i:Int) - (1:Int)))∧(IntKind.i64.wrap ((i:Int) - (1:Int))) < o.f3.length) K=K:=by
   intro α K
   refine bN fun hp=>?_
   simp at hp
   rw [qJ (by omega) (by omega)]
   omega
  rw [jN,gD]
  simp only [dec_lt hi,cond_true,iM hi,Int.toNat_natCast,g1,g2,aN]
  by_cases he:e=0
  case neg =>
   have hne:(e != 0)=true:=by simpa using he
   simp only [hne,cond_true]
   exact .inl ⟨e,he,rfl,rfl⟩
  subst he
  simp only [bne_self_eq_false,cond_false,hchk,bR]
  rw [bX0]
  by_cases h0:i=0
  ·subst h0
   have e0:decide (((0:Nat):Int) > 0)=false:=rfl
   simp only [e0,cond_false]
   rw [eQ (by omega)]
   exact ih 1 n (by omega) (by omega) (fun j hj=>by
    obtain rfl:j=0:=by omega
    exact ⟨t,g1,g2,g3⟩) (fun j _ hj=>by omega)
  ·have e0:decide ((i:Int) > 0)=true:=decide_eq_true (by omega)
   rw [qJ (by omega) (by omega)]
   simp only [e0,cond_true,Int.toNat_natCast]
   cases hb2:(Op.bytesLess (o.f3.getD i []) (o.f3.getD (i - 1) []) || o.f3.getD i [] == o.f3.getD (i - 1) []) with
   | true=>exact .inl ⟨4,by decide,rfl,rfl⟩
   | false =>
    simp only [cond_false]
    rw [eQ (by omega)]
    refine ih (i+1) n (by omega) (by omega) (fun j hj=>?_) (fun j hj1 hj2=>?_)
    ·by_cases hji:j=i
     ·subst hji
      exact ⟨t,g1,g2,g3⟩
     ·exact h1 j (by omega)
    ·by_cases hji:j+1=i
     ·subst hji
      have:=bX0 (o.f3.getD j []) (o.f3.getD (j+1) [])
      rw [Nat.add_sub_cancel] at hb2
      rw [hb2] at this
      simpa using this
     ·exact h2 j hj1 (by omega)
theorem orC {A b:Bool} {X:Option Bool} (h:X=some b):(bif A then some A else X)=some (A || b):=by cases A <;> simp [h]
theorem cA9 {F:Nat} (hF:4294967300≤F) (hF2:maxLen < F) {o:aC} (hs:Sm o) {d:Int} :
  ∃ e,uB F o d=some e∧nP F o d=some e∧(e=0→bA3 F o∧d≤12):=by
 obtain ⟨k,v,s,ks,l⟩:=o
 have hks:=hs.ks
 simp only at hks
 unfold uB nP
 simp only [bR,aG2,aX1]
 by_cases c0:(decide (k < 0) || decide (k > 7))=true
 ·simp only [c0,cond_true]
  exact ⟨_,rfl,rfl,fun h=>by cases h⟩
 rw [Bool.not_eq_true] at c0
 simp only [c0,cond_false]
 by_cases c1:decide (d > 12)=true
 ·simp only [c1,cond_true]
  exact ⟨_,rfl,rfl,fun h=>by cases h⟩
 rw [Bool.not_eq_true] at c1
 simp only [c1,cond_false]
 rw [orC (A:=(v != 0 && !(k == 1 || k == 2 || k == 5))) (orC (A:=(!(s == []) && !(k == 3 || k == 4))) rfl),aN]
 have e1:(v != 0 && !(k == 1 || k == 2 || k == 5))=(((v != 0 && k != 1) && k != 2) && k != 5):=by
  cases v != 0 <;> simp [bne,Bool.and_assoc]
 have e2:(!(s == []) && !(k == 3 || k == 4))=((!(s == []) && k != 3) && k != 4):=by
  cases (s == []) <;> simp [bne]
 have e3:(decide ((l.length:Int) > 0) && !(k == 6 || k == 7))=((decide ((l.length:Int) > 0) && k != 6) && k != 7):=by
  cases decide ((l.length:Int) > 0) <;> simp [bne]
 rw [e1,e2,e3]
 by_cases c2:(((v != 0 && k != 1) && k != 2) && k != 5)=true
 ·simp only [c2,cond_true,Bool.true_or]
  exact ⟨_,rfl,rfl,fun h=>by cases h⟩
 rw [Bool.not_eq_true] at c2
 simp only [c2,cond_false,Bool.false_or]
 by_cases c3:((!(s == []) && k != 3) && k != 4)=true
 ·simp only [c3,cond_true,Bool.true_or]
  exact ⟨_,rfl,rfl,fun h=>by cases h⟩
 rw [Bool.not_eq_true] at c3
 simp only [c3,cond_false,Bool.false_or]
 by_cases c4:((decide ((l.length:Int) > 0) && k != 6) && k != 7)=true
 ·simp only [c4,cond_true]
  exact ⟨_,rfl,rfl,fun h=>by cases h⟩
 rw [Bool.not_eq_true] at c4
 simp only [c4,cond_false]
 rw [orC (A:=((k == 7) && (ks.length:Int) != (l.length:Int))) rfl,aN]
 by_cases c5:(((k == 7) && (ks.length:Int) != (l.length:Int)) || ((k != 7) && decide ((ks.length:Int) > 0)))=true
 ·simp only [c5,cond_true]
  exact ⟨_,rfl,rfl,fun h=>by cases h⟩
 rw [Bool.not_eq_true] at c5
 simp only [c5,cond_false]
 have e6:(((k == 1) && v != 0) && v != 1)=((k == 1) && (decide (v < 0) || decide (v > 1))):=by
  rw [Bool.eq_iff_iff]
  simp only [Bool.and_eq_true,beq_iff_eq,bne_iff_ne,Bool.or_eq_true,decide_eq_true_eq]
  omega
 rw [e6]
 by_cases c6:((k == 1) && (decide (v < 0) || decide (v > 1)))=true
 ·simp only [c6,cond_true]
  exact ⟨_,rfl,rfl,fun h=>by cases h⟩
 rw [Bool.not_eq_true] at c6
 simp only [c6,cond_false]
 by_cases c7:decide ((l.length:Int) > 256)=true
 ·simp only [c7,cond_true]
  exact ⟨_,rfl,rfl,fun h=>by cases h⟩
 rw [Bool.not_eq_true] at c7
 simp only [c7,cond_false]
 simp only [Bool.or_eq_false_iff,Bool.and_eq_false_iff,decide_eq_false_iff_not,beq_eq_false_iff_ne,bne_eq_false_iff_eq,Bool.not_eq_false',beq_iff_eq] at c0 c1 c2 c3 c4 c5 c6 c7
 have hkl:ks.length≤256:=by omega
 rcases keys_eq hF hF2 ⟨k,v,s,ks,l⟩ hks (by simp only; omega) ks.length 0 F (by simp) (by omega) (fun j hj=>by omega) (fun j _ hj=>by omega) with ⟨e,h0,h1,h2⟩ | ⟨h1,h2,h3,h4⟩
 ·rw [Int.natCast_zero] at h1 h2
  rw [h1,h2]
  exact ⟨e,rfl,rfl,fun h=>absurd h h0⟩
 ·rw [Int.natCast_zero] at h1 h2
  rw [h1,h2]
  refine ⟨0,rfl,rfl,fun _=>⟨⟨by simp only; omega,fun _ _ _=>by simp only at *; omega,fun _ _=>?_,fun _ _=>?_,fun _=>by simp only at *; omega,fun _=>?_,fun _=>by simp only at *; omega,by simp only; omega,fun x hx=>?_,h4⟩,by omega⟩⟩
  ·simp only at *
   rcases c3 with (c | c) | c
   ·exact c
   ·omega
   ·omega
  ·simp only at *
   have:l.length=0:=by omega
   exact List.eq_nil_of_length_eq_zero this
  ·simp only at *
   have:ks.length=0:=by omega
   exact List.eq_nil_of_length_eq_zero this
  ·simp only at hx
   obtain ⟨j,hj,rfl⟩:=List.getElem_of_mem hx
   have:=h3 j hj
   simpa [List.getD_eq_getElem?_getD,hj] using this
end Go.Vm.PgfG.L
namespace Go.Vm.PgfG.L
/-- Every token can be printed. -/
def uY (F:Nat) (l:List aM):Prop:=∀ t∈l,TOk F t
theorem uY.app {F:Nat} {l:List aM} (h:uY F l) {t:aM} (ht:TOk F t):uY F (l++[t]):=by
 intro x hx
 rcases List.mem_append.1 hx with hx | hx
 ·exact h x hx
 ·rw [List.mem_singleton.1 hx]
  exact ht
/-- No node of an object has an error. -/
inductive OOk (F:Nat):aC→Prop
 | mk {o:aC} (h:bA3 F o) (hr:o.f0=5→0 < o.f1∧o.f1 < 256) (hk:∀ x∈o.f4,OOk F x):OOk F o
/-- The number of a reference that is printed. -/
theorem cF5 {F:Nat} {v:Int} {t:List UInt8} (h:bJ F ⟨4,v,[],0,0⟩=some (t,0)):0 < v∧v < 256:=by
 by_cases h1:v < 1
 ·exfalso
  have:bJ F ⟨4,v,[],0,0⟩=some ([],3):=by simp [bJ,bW,aN,cK,dH,bR,h1]
  rw [this] at h
  cases h
 ·by_cases h2:v > 255
  ·exfalso
   have:bJ F ⟨4,v,[],0,0⟩=some ([],3):=by simp [bJ,bW,aN,cK,dH,bR,h1,h2]
   rw [this] at h
   cases h
  ·omega
mutual
/-- How many nodes an object has. -/
def sz:aC→Nat
 | ⟨_,_,_,_,l⟩=>1+szs l
def szs:List aC→Nat
 | []=>0
 | x :: l=>sz x+szs l
end
theorem aN3:∀ o,sz o=1+szs o.f4
 | ⟨_,_,_,_,_⟩=>by simp only [sz]
/-- The program and the reference agree on the tokens of an object. -/
def aC4 (F:Nat) (p:Option (Int×List aM×Int)) (r:Option (List aM×Int×Int)) (len c:Nat) (Q:Nat→Prop):Prop :=
 (∃ e l' k' k'',e≠0∧p=some (e,l',k')∧r=some ([],e,k'')) ∨
 (∃ (l':List aM) (k':Nat),p=some (0,l',(k':Int))∧r=some (l',0,(k':Int))∧uY F l'∧c < k'∧k'≤4096∧l'.length+1≤len+3 * (k' - c)∧Q k')
abbrev ob0:aC:=aC.mk 0 0 [] [] []
theorem cT7 {F:Nat} {o:aC} (ho:bA3 F o) {d len c:Nat} (hd:d≤12) (hlen:len≤3 * c) {f:aC→Int→List aM→Int→Option (Int×List aM×Int)} {g:List aM→aC→Int→Int→Option (List aM×Int×Int)}
  (ih:∀ x∈o.f4,∀ (l:List aM) (c:Nat),c≤4096→l.length≤3 * c→uY F l→aC4 F (f x ((d+1:Nat):Int) l c) (g l x ((d+1:Nat):Int) c) l.length c (fun k=>OOk F x∧k=c+sz x)) :
  ∀ (m i n:Nat) (l:List aM) (v:Nat),i+m=o.f4.length→m < n→uY F l→c < v→v≤4096→l.length+2≤len+3 * (v - c) →
   (∃ e l' k' k'',e≠0∧dC F o d f n i l v=some (.esc (e,l',k'))∧dL F o d g n l i v=some (.esc ([],e,k''))) ∨
   (∃ (l':List aM) (k':Nat),dC F o d f n i l v=some (.go (l',(k':Int)))∧dL F o d g n l i v=some (.go (l',(k':Int)))∧uY F l'∧c < k'∧k'≤4096∧l'.length+2≤len+3 * (k' - c)∧(∀ j,i≤j→j < o.f4.length→OOk F (o.f4.getD j ob0))∧k'=v+szs (o.f4.drop i)):=by
 intro m
 induction m with
 | zero =>
  intro i n l v h hn h1 h2 h3 h4
  obtain ⟨n,rfl⟩:∃ k,n=k+1:=⟨n - 1,by omega⟩
  obtain rfl:i=o.f4.length:=by omega
  refine .inr ⟨l,v,?_,?_,h1,h2,h3,h4,fun j h1 h2=>by omega,by rw [List.drop_length]; rfl⟩
  ·rw [dC,iQ,cond_false]
  ·rw [dL,iQ,cond_false]
 | succ m ihm =>
  intro i n l v h hn h1 h2 h3 h4
  obtain ⟨n,rfl⟩:∃ k,n=k+1:=⟨n - 1,by omega⟩
  have hi:i < o.f4.length:=by omega
  have hm:=ho.many
  have hx:o.f4.getD i ob0∈o.f4:=by
   rw [List.getD_eq_getElem?_getD,List.getElem?_eq_getElem hi]
   exact List.getElem_mem hi
  -- the key
  obtain ⟨l2,hl2,hok2,hp,hr⟩:∃ l2:List aM,l2.length≤l.length+1∧uY F l2 ∧
    (bif (o.f0 == (7:Int)) then chk (0≤(i:Int)∧(i:Int) < o.f3.length) <| chk (l.length+([(aM.mk (2:Int) 0 (o.f3.getD (i:Int).toNat []) 0 0)]).length≤4294967296) <| some (l++([(aM.mk (2:Int) 0 (o.f3.getD (i:Int).toNat []) 0 0)])) else some l)=some l2∧l.length≤l2.length:=by
   by_cases h7:o.f0=7
   ·have hk:=ho.ks h7
    have hb:(o.f0 == 7)=true:=by simpa using h7
    have hi3:i < o.f3.length:=by omega
    refine ⟨l++[aM.mk 2 0 (o.f3.getD i []) 0 0],by simp,h1.app (ho.names _ ?_),?_,by simp⟩
    ·rw [List.getD_eq_getElem?_getD,List.getElem?_eq_getElem hi3]
     exact List.getElem_mem hi3
    ·rw [hb,cond_true,iM hi3,bN (by simp; omega)]
     rfl
   ·have hb:(o.f0 == 7)=false:=by simpa using h7
    refine ⟨l,by omega,h1,?_,Nat.le_refl _⟩
    rw [hb,cond_false]
  have hw:IntKind.i64.wrap ((d:Int)+1)=((d+1:Nat):Int):=eQ (by omega)
  have hw2:IntKind.i64.wrap ((i:Int)+1)=((i+1:Nat):Int):=eQ (by omega)
  rw [dC,dL,dec_lt hi,cond_true,iM hi,cond_true,iM hi]
  rw [hp,aN,aN,hw,hw2]
  rcases ih _ hx l2 v h3 (by omega) hok2 with ⟨e,l',k',k'',h0,g1,g2⟩ | ⟨l',k',g1,g2,g3,g4,g5,g6,g7,g8⟩
  ·have hne:(e != 0)=true:=by simpa using h0
   refine .inl ⟨e,l',k',k'',h0,?_,?_⟩
   ·change call (f (o.f4.getD i ob0) ((d+1:Nat):Int) l2 v) _=_
    rw [g1,aN]
    simp only [hne,cond_true]
   ·change call (g l2 (o.f4.getD i ob0) ((d+1:Nat):Int) v) _=_
    rw [g2,aN]
    simp only [hne,cond_true]
  ·have e1:(call (f (o.f4.getD i ob0) ((d+1:Nat):Int) l2 v) fun y1=>bif (y1.1 != (0:Int)) then some (Out.esc (y1.1,y1.2.1,y1.2.2)) else dC F o d f n ((i+1:Nat):Int) y1.2.1 y1.2.2)=dC F o d f n ((i+1:Nat):Int) l' k':=by
    rw [g1,aN,bne_self_eq_false,cond_false]
   have e2:(call (g l2 (o.f4.getD i ob0) ((d+1:Nat):Int) v) fun y1=>bif (y1.2.1 != (0:Int)) then some (Out.esc (([]:List aM),y1.2.1,y1.2.2)) else dL F o d g n y1.1 ((i+1:Nat):Int) y1.2.2)=dL F o d g n l' ((i+1:Nat):Int) k':=by
    rw [g2,aN,bne_self_eq_false,cond_false]
   change (∃ e l'' k' k'',e≠0∧(call (f (o.f4.getD i ob0) ((d+1:Nat):Int) l2 v) fun y1=>bif (y1.1 != (0:Int)) then some (Out.esc (y1.1,y1.2.1,y1.2.2)) else dC F o d f n ((i+1:Nat):Int) y1.2.1 y1.2.2)=some (.esc (e,l'',k'))∧(call (g l2 (o.f4.getD i ob0) ((d+1:Nat):Int) v) fun y1=>bif (y1.2.1 != (0:Int)) then some (Out.esc (([]:List aM),y1.2.1,y1.2.2)) else dL F o d g n y1.1 ((i+1:Nat):Int) y1.2.2)=some (.esc ([],e,k''))) ∨
    (∃ (l'':List aM) (k':Nat),(call (f (o.f4.getD i ob0) ((d+1:Nat):Int) l2 v) fun y1=>bif (y1.1 != (0:Int)) then some (Out.esc (y1.1,y1.2.1,y1.2.2)) else dC F o d f n ((i+1:Nat):Int) y1.2.1 y1.2.2)=some (.go (l'',(k':Int)))∧(call (g l2 (o.f4.getD i ob0) ((d+1:Nat):Int) v) fun y1=>bif (y1.2.1 != (0:Int)) then some (Out.esc (([]:List aM),y1.2.1,y1.2.2)) else dL F o d g n y1.1 ((i+1:Nat):Int) y1.2.2)=some (.go (l'',(k':Int)))∧uY F l''∧c < k'∧k'≤4096∧l''.length+2≤len+3 * (k' - c)∧(∀ j,i≤j→j < o.f4.length→OOk F (o.f4.getD j ob0))∧k'=v+szs (o.f4.drop i))
   rw [e1,e2]
   rcases ihm (i+1) n l' k' (by omega) (by omega) g3 (by omega) g5 (by omega) with h | ⟨a1,a2,a3,a4,a5,a6,a7,a8,a9,a10⟩
   ·exact .inl h
   ·refine .inr ⟨a1,a2,a3,a4,a5,a6,a7,a8,fun j hj1 hj2=>?_,?_⟩
    ·by_cases hji:j=i
     ·rw [hji]; exact g7
     ·exact a9 j (by omega) hj2
    ·have hd:o.f4.drop i=o.f4.getD i ob0 :: o.f4.drop (i+1):=by
      rw [List.drop_eq_getElem_cons hi]
      simp [List.getD_eq_getElem?_getD,hi]
     rw [hd,szs,a10,g8]
     omega
theorem aK3 (F:Nat) (k:Int) (hk:k=6∨k=7∨k=8∨k=9):TOk F ⟨k,0,[],0,0⟩:=by
 obtain ⟨x,h1,h2,h3⟩:=bN1 (F:=F) k hk 0 [] 0 0
 have:∃ s,bJ F ⟨k,0,[],0,0⟩=some (s,0):=by
  rcases hk with rfl | rfl | rfl | rfl <;> exact ⟨_,rfl⟩
 obtain ⟨s,hs⟩:=this
 rw [hs] at h1
 cases h1
 exact ⟨s,hs,h2,h3⟩
theorem cH1 {F:Nat} (hF:4294967300≤F) {o:aC} (ho:bA3 F o) {d c:Nat} {l:List aM} (hd:d≤12) (hlen:l.length≤3 * c) (hok:uY F l) (hc2:c+1≤4096) {f:aC→Int→List aM→Int→Option (Int×List aM×Int)} {g:List aM→aC→Int→Int→Option (List aM×Int×Int)}
  (ih:∀ x∈o.f4,∀ (l:List aM) (c:Nat),c≤4096→l.length≤3 * c→uY F l→aC4 F (f x ((d+1:Nat):Int) l c) (g l x ((d+1:Nat):Int) c) l.length c (fun k=>OOk F x∧k=c+sz x))
  {b e:Int} (hb:(o.f0=6∧b=6∧e=7)∨(o.f0=7∧b=8∧e=9)) :
  aC4 F (fF F f o d l ((c+1:Nat):Int))
   (dO (dL F o d g F (l++([(aM.mk b 0 [] 0 0)])) (0:Int) ((c+1:Nat):Int)) (fun e=>some e) fun (v8,v9)=>chk (v8.length+([(aM.mk e 0 [] 0 0)]).length≤4294967296) <| some ((v8++([(aM.mk e 0 [] 0 0)])),(0:Int),v9)) l.length c (fun k=>OOk F o∧k=c+sz o):=by
 have hm:=ho.many
 have hbk:b=6∨b=7∨b=8∨b=9:=by omega
 have hek:e=6∨e=7∨e=8∨e=9:=by omega
 obtain ⟨sb,hb1,hb2,hb3⟩:=aK3 F b hbk
 obtain ⟨se,he1,he2,he3⟩:=aK3 F e hek
 have hcond:(bif (o.f0 == (7:Int)) then some ((8:Int),(9:Int)) else some ((6:Int),(7:Int)))=some (b,e):=by
  rcases hb with ⟨h1,rfl,rfl⟩ | ⟨h1,rfl,rfl⟩ <;> rw [h1] <;> rfl
 unfold fF
 rw [hcond,aN]
 simp only
 rw [bN (by rw [List.length_singleton]; omega)]
 rcases cT7 ho hd hlen ih o.f4.length 0 F (l++[aM.mk b 0 [] 0 0]) (c+1) (by omega) (by omega) (hok.app ⟨sb,hb1,hb2,hb3⟩) (by omega) hc2 (by rw [List.length_append,List.length_singleton]; omega) with ⟨e',l',k',k'',h0,g1,g2⟩ | ⟨l',k',g1,g2,g3,g4,g5,g6,g7,g8⟩
 ·rw [Int.natCast_zero] at g1 g2
  rw [g1,g2]
  exact .inl ⟨e',l',k',k'',h0,rfl,rfl⟩
 ·rw [Int.natCast_zero] at g1 g2
  rw [g1,g2,cK,cK]
  simp only
  have hck:l'.length+[aM.mk e 0 [] 0 0].length≤4294967296:=by rw [List.length_singleton]; omega
  rw [bN hck,bN hck]
  refine .inr ⟨_,k',rfl,rfl,g3.app ⟨se,he1,he2,he3⟩,g4,g5,by rw [List.length_append,List.length_singleton]; omega,.mk ho (fun h5=>by rcases hb with ⟨h1,_⟩ | ⟨h1,_⟩ <;> (rw [h1] at h5; cases h5)) fun x hx=>?_,by rw [aN3,g8,List.drop_zero]; omega⟩
  obtain ⟨j,hj,rfl⟩:=List.getElem_of_mem hx
  have:=g7 j (by omega) hj
  simpa [List.getD_eq_getElem?_getD,hj] using this
theorem aW6 {F:Nat} (hF:4294967300≤F) {o:aC} (ho:bA3 F o) {d c:Nat} {l:List aM} (hd:d≤12) (hlen:l.length≤3 * c) (hok:uY F l) (hc2:c+1≤4096) {f:aC→Int→List aM→Int→Option (Int×List aM×Int)} {g:List aM→aC→Int→Int→Option (List aM×Int×Int)}
  (ih:∀ x∈o.f4,∀ (l:List aM) (c:Nat),c≤4096→l.length≤3 * c→uY F l→aC4 F (f x ((d+1:Nat):Int) l c) (g l x ((d+1:Nat):Int) c) l.length c (fun k=>OOk F x∧k=c+sz x))
  {b e:Int} (hb:(o.f0=6∧b=6∧e=7)∨(o.f0=7∧b=8∧e=9)) :
  aC4 F (dO (call (fF F f o d l ((c+1:Nat):Int)) fun y3=>some (Out.esc (σ:=List UInt8×Int×Int) (y3.1,y3.2.1,y3.2.2))) (fun e=>some e) fun (v1,v2,v3)=>chk (l.length+([(aM.mk v2 v3 v1 0 0)]).length≤4294967296) <| call (bJ F (aM.mk v2 v3 v1 0 0)) fun y4=>some (y4.2,(l++([(aM.mk v2 v3 v1 0 0)])),((c+1:Nat):Int)))
   (call (bM F (aM.mk b 0 [] 0 0)) fun y3=>bif (y3.2 != (0:Int)) then some (([]:List aM),y3.2,((c+1:Nat):Int)) else chk (l.length+([(aM.mk b 0 [] 0 0)]).length≤4294967296) <| dO (dL F o d g F (l++([(aM.mk b 0 [] 0 0)])) (0:Int) ((c+1:Nat):Int)) (fun e=>some e) fun (v8,v9)=>chk (v8.length+([(aM.mk e 0 [] 0 0)]).length≤4294967296) <| some ((v8++([(aM.mk e 0 [] 0 0)])),(0:Int),v9)) l.length c (fun k=>OOk F o∧k=c+sz o):=by
 have key:=cH1 hF ho hd hlen hok hc2 ih hb
 have hbk:b=6∨b=7∨b=8∨b=9:=by omega
 obtain ⟨sb,hb1,hb2,hb3⟩:=aK3 F b hbk
 rw [hb2,aN,bne_self_eq_false,cond_false,bN (by rw [List.length_singleton]; omega)]
 generalize fF F f o d l ((c+1:Nat):Int)=p at key ⊢
 cases p <;> exact key
theorem nk {k j v:Int} {s:List UInt8} {ks:List (List UInt8)} {l:List aC} (h:k≠j):(aC.mk k v s ks l).f0≠j:=h
theorem add_eq {F:Nat} (hF:4294967300≤F) (hF2:maxLen < F):∀ (j d n:Nat) (o:aC) (l:List aM) (c:Nat),d+j=13→j < n→Sm o→c≤4096→l.length≤3 * c→uY F l →
  aC4 F (dR F n o d l c) (fM F n l o d c) l.length c (fun k=>OOk F o∧k=c+sz o):=by
 intro j
 induction j with
 | zero =>
  intro d n o l c hd hn hs hc hl hok
  obtain ⟨n,rfl⟩:∃ k,n=k+1:=⟨n - 1,by omega⟩
  obtain rfl:d=13:=by omega
  change aC4 F (eH F (dR F n) o (13:Nat) l c) (gP F (fM F n) l o (13:Nat) c) _ _ _
  unfold eH gP
  rw [eQ (by omega)]
  obtain ⟨e,g1,g2,g3⟩:=cA9 hF hF2 hs (d:=((13:Nat):Int))
  by_cases hcc:decide (((c+1:Nat):Int) > 4096)=true
  ·rw [hcc]
   exact .inl ⟨2,l,_,_,by decide,rfl,rfl⟩
  rw [Bool.not_eq_true] at hcc
  rw [hcc,cond_false,cond_false,g1,g2,aN,aN]
  have hne:(e != 0)=true:=by
   rw [bne_iff_ne]
   intro h
   have:=(g3 h).2
   omega
  rw [hne]
  exact .inl ⟨e,l,_,_,by simpa using hne,rfl,rfl⟩
 | succ j ih =>
  intro d n o l c hd hn hs hc hl hok
  obtain ⟨n,rfl⟩:∃ k,n=k+1:=⟨n - 1,by omega⟩
  change aC4 F (eH F (dR F n) o d l c) (gP F (fM F n) l o d c) _ _ _
  have hkids:∀ x∈o.f4,∀ (l:List aM) (c:Nat),c≤4096→l.length≤3 * c→uY F l→aC4 F (dR F n x ((d+1:Nat):Int) l c) (fM F n l x ((d+1:Nat):Int) c) l.length c (fun k=>OOk F x∧k=c+sz x) :=
   fun x hx l c h1 h2 h3=>ih (d+1) n x l c (by omega) (by omega) (hs.l x hx) h1 h2 h3
  generalize dR F n=f at hkids
  generalize fM F n=g at hkids
  unfold eH gP
  rw [eQ (by omega)]
  obtain ⟨e,g1,g2,g3⟩:=cA9 hF hF2 hs (d:=(d:Int))
  by_cases hcc:decide (((c+1:Nat):Int) > 4096)=true
  ·rw [hcc]
   exact .inl ⟨2,l,_,_,by decide,rfl,rfl⟩
  rw [Bool.not_eq_true] at hcc
  rw [hcc,cond_false,cond_false,g1,g2,aN,aN]
  by_cases he:e=0
  case neg =>
   have hne:(e != 0)=true:=by simpa using he
   rw [hne]
   exact .inl ⟨e,l,_,_,he,rfl,rfl⟩
  subst he
  rw [bne_self_eq_false,cond_false,cond_false]
  obtain ⟨ho,hd12⟩:=g3 rfl
  simp only [decide_eq_false_iff_not] at hcc
  have hc2:c+1≤4096:=by omega
  -- a leaf
  have leaf:∀ tok:aM,tok.f2.length≤maxLen→o.f0≠6→o.f0≠7→(o.f0=5→∀ t,bJ F tok=some (t,0)→0 < o.f1∧o.f1 < 256) →
    aC4 F (chk (l.length+([tok]).length≤4294967296) <| call (bJ F tok) fun y4=>some (y4.2,(l++([tok])),((c+1:Nat):Int)))
     (call (bM F tok) fun y3=>bif (y3.2 != (0:Int)) then some ([],y3.2,((c+1:Nat):Int)) else chk (l.length+([tok]).length≤4294967296) <| some ((l++([tok])),(0:Int),((c+1:Nat):Int))) l.length c (fun k=>OOk F o∧k=c+sz o):=by
   intro tok ht h6 h7 href
   obtain ⟨⟨t,e⟩,q1,q2,q3⟩:=both hF tok ht (by omega)
   have hck:l.length+[tok].length≤4294967296:=by simp; omega
   rw [bN hck,q1,q2,aN,aN,bN hck]
   by_cases he:e=0
   ·subst he
    rw [bne_self_eq_false,cond_false]
    exact .inr ⟨_,c+1,rfl,rfl,hok.app ⟨t,q1,q2,q3⟩,by omega,hc2,by rw [List.length_append]; simp only [List.length_singleton]; omega,.mk ho (fun h5=>href h5 t q1) (by rw [ho.l h6 h7]; simp),by rw [aN3,ho.l h6 h7]; rfl⟩
   ·have hne:(e != 0)=true:=by simpa using he
    rw [hne]
    exact .inl ⟨e,_,_,_,he,rfl,rfl⟩
  obtain ⟨k,v,s,ks,kl⟩:=o
  have hs2:=hs.s
  have b1:=ho.k
  have b2:=ho.v
  have b3:=ho.s
  have b4:=ho.b
  simp only at hs2 b1 b2 b3 b4
  have hk8:k=0∨k=1∨k=2∨k=3∨k=4∨k=5∨k=6∨k=7:=by omega
  have hnil:([]:List UInt8).length≤maxLen:=Nat.zero_le _
  rcases hk8 with rfl | rfl | rfl | rfl | rfl | rfl | rfl | rfl
  ·have hv:=b2 (by decide) (by decide) (by decide)
   have hss:=b3 (by decide) (by decide)
   subst hv hss
   exact leaf ⟨5,0,[110,117,108,108],0,0⟩ (by decide) (nk (by decide)) (nk (by decide)) (fun h5=>absurd h5 (nk (by decide)))
  ·have hss:=b3 (by decide) (by decide)
   subst hss
   rcases b4 rfl with rfl | rfl
   ·exact leaf ⟨5,0,[102,97,108,115,101],0,0⟩ (by decide) (nk (by decide)) (nk (by decide)) (fun h5=>absurd h5 (nk (by decide)))
   ·exact leaf ⟨5,0,[116,114,117,101],0,0⟩ (by decide) (nk (by decide)) (nk (by decide)) (fun h5=>absurd h5 (nk (by decide)))
  ·have hss:=b3 (by decide) (by decide)
   subst hss
   exact leaf ⟨1,v,[],0,0⟩ hnil (nk (by decide)) (nk (by decide)) (fun h5=>absurd h5 (nk (by decide)))
  ·have hv:=b2 (by decide) (by decide) (by decide)
   subst hv
   exact leaf ⟨2,0,s,0,0⟩ hs2 (nk (by decide)) (nk (by decide)) (fun h5=>absurd h5 (nk (by decide)))
  ·have hv:=b2 (by decide) (by decide) (by decide)
   subst hv
   exact leaf ⟨3,0,s,0,0⟩ hs2 (nk (by decide)) (nk (by decide)) (fun h5=>absurd h5 (nk (by decide)))
  ·have hss:=b3 (by decide) (by decide)
   subst hss
   exact leaf ⟨4,v,[],0,0⟩ hnil (nk (by decide)) (nk (by decide)) (fun _ t h=>cF5 h)
  ·have hv:=b2 (by decide) (by decide) (by decide)
   have hss:=b3 (by decide) (by decide)
   subst hv hss
   exact aW6 hF ho (show d≤12 by omega) hl hok hc2 hkids (b:=6) (e:=7) (.inl ⟨rfl,rfl,rfl⟩)
  ·have hv:=b2 (by decide) (by decide) (by decide)
   have hss:=b3 (by decide) (by decide)
   subst hv hss
   exact aW6 hF ho (show d≤12 by omega) hl hok hc2 hkids (b:=8) (e:=9) (.inr ⟨rfl,rfl,rfl⟩)
end Go.Vm.PgfG.L
namespace Go.Vm.PgfG.L
abbrev tk0:aM:=aM.mk 0 0 [] 0 0
/-- Does what is printed of a token end with a letter of a word? -/
def xQ (t:aM):Bool:=(t.f0 == 1 || t.f0 == 2) || (t.f0 == 4 || t.f0 == 5)
theorem TOk.kind {F:Nat} {t:aM} (h:TOk F t):1≤t.f0∧t.f0≤9:=by
 obtain ⟨s,h1,_,_⟩:=h
 obtain ⟨k,v,x,p,q⟩:=t
 by_cases hk:k < 1∨9 < k
 ·have h14:bJ F ⟨k,v,x,p,q⟩=some ([],14):=by
   rcases hk with h | h <;> simp [bJ,bW,aN,dH,bR,h]
  rw [h14] at h1
  cases h1
 ·simp only
  omega
theorem gate {α:Type} {p:Prop} [Decidable p] {b:Bool} {k:Option α} (h:b=true→p):chk (((b == true) && true)=true→p) k=k:=bN fun h'=>h (by simpa using h')
theorem dD0 {b:Bool} {X:Option Bool} {x:Bool} (h:X=some x):(bif ((b == true) && true) then X else some false)=some (b && x):=by cases b <;> simp [h]
theorem join_eq {F:Nat} (l:List aM) (y:(List aM)×Int×Int) (hy:y.1=l) (hok:uY F l) (hl:l.length≤1000000) :
  ∀ (m i n:Nat) (v1:List UInt8),i+m=l.length→m < n→v1.length≤8192 →
   (kE F l n v1 (decide (0 < i) && xQ (l.getD (i - 1) tk0)) i=some (.esc ([],2))∧kD F y n v1 i=some (.esc ([],2))) ∨
   ∃ r:List UInt8,r.length≤8192∧kE F l n v1 (decide (0 < i) && xQ (l.getD (i - 1) tk0)) i=some (.go r)∧kD F y n v1 i=some (.go r):=by
 intro m
 induction m with
 | zero =>
  intro i n v1 h hn hv
  obtain ⟨n,rfl⟩:∃ k,n=k+1:=⟨n - 1,by omega⟩
  obtain rfl:i=l.length:=by omega
  refine .inr ⟨v1,hv,?_,?_⟩
  ·rw [kE,iQ,cond_false]
  ·rw [kD,hy,iQ,cond_false]
 | succ m ih =>
  intro i n v1 h hn hv
  obtain ⟨n,rfl⟩:∃ k,n=k+1:=⟨n - 1,by omega⟩
  have hi:i < l.length:=by omega
  have hmem:∀ j,j < l.length→TOk F (l.getD j tk0):=by
   intro j hj
   apply hok
   rw [List.getD_eq_getElem?_getD,List.getElem?_eq_getElem hj]
   exact List.getElem_mem hj
  obtain ⟨s,p1,p2,p3⟩:=hmem i hi
  obtain ⟨s1,s2,s3,s4⟩:=p3 rfl
  simp only at s1 s2 s3 s4
  have hsl:0 < s.length:=List.length_pos_iff.2 s1
  have hprev:0 < i→1≤(l.getD (i - 1) tk0).f0∧(l.getD (i - 1) tk0).f0≤9:=fun h0=>(hmem (i - 1) (by omega)).kind
  -- is there a blank?
  obtain ⟨bl,hbl⟩:∃ bl,bl=((decide (0 < i) && xQ (l.getD (i - 1) tk0)) && reg (s.getD 0 0)):=⟨_,rfl⟩
  obtain ⟨v4,hv4⟩:∃ v4,v4=if bl then v1++[32] else v1:=⟨_,rfl⟩
  have hv4l:v4.length≤8193:=by
   rw [hv4]
   split
   ·rw [List.length_append,List.length_singleton]; omega
   ·omega
  have hA:(chk ((((decide (0 < i) && xQ (l.getD (i - 1) tk0)) == true) && true)=true→0≤(0:Int)∧(0:Int) < s.length) <|
    call ((bif (((decide (0 < i) && xQ (l.getD (i - 1) tk0)) == true) && true) then jH F ((s.getD (0:Int).toNat 0).toNat:Int) else some false)) fun y2 =>
    bif (bif (decide (0 < i) && xQ (l.getD (i - 1) tk0)) then y2 else false) then
     call (aY F (32:Int) v1) fun y3=>some y3.2
    else some v1)=some v4:=by
   rw [gate (fun _=>⟨by omega,by omega⟩),dD0 (aW2 F _),aN,aX1]
   have e1:((decide (0 < i) && xQ (l.getD (i - 1) tk0)) && ((decide (0 < i) && xQ (l.getD (i - 1) tk0)) && cN7 ((s.getD (0:Int).toNat 0).toNat:Int)))=bl:=by
    rw [hbl]
    cases (decide (0 < i) && xQ (l.getD (i - 1) tk0)) <;> rfl
   rw [e1,hv4]
   cases bl with
   | false=>rfl
   | true =>
    simp only [cond_true,if_true]
    unfold aY
    rw [bN (by omega),bN (by simp; omega)]
    rfl
  have hB:(dE ((bif (((y.1.getD (i:Int).toNat (aM.mk 0 0 [] 0 0)).f0) == (1:Int)) then true else (((y.1.getD (i:Int).toNat (aM.mk 0 0 [] 0 0)).f0) == (5:Int)))) fun z1 =>
    chk ((((bif (decide ((i:Int) > (0:Int))) then z1 else false) == true) && true)=true→0≤(IntKind.i64.wrap ((i:Int) - (1:Int)))∧(IntKind.i64.wrap ((i:Int) - (1:Int))) < y.1.length) <|
    dE ((bif (bif (decide ((i:Int) > (0:Int))) then z1 else false) then (((y.1.getD (IntKind.i64.wrap ((i:Int) - (1:Int))).toNat (aM.mk 0 0 [] 0 0)).f0) != (3:Int)) else false)) fun z2 =>
    chk (((z2 == true) && true)=true→0≤(IntKind.i64.wrap ((i:Int) - (1:Int)))∧(IntKind.i64.wrap ((i:Int) - (1:Int))) < y.1.length) <|
    dE ((decide (((y.1.getD (IntKind.i64.wrap ((i:Int) - (1:Int))).toNat (aM.mk 0 0 [] 0 0)).f0) < (6:Int)))) fun z3 =>
    bif (bif z2 then z3 else false) then
     chk (v1.length+([(UInt8.ofNat (32:Int).toNat)]).length≤4294967296) <|
     some (v1++([(UInt8.ofNat (32:Int).toNat)]))
    else
     some v1)=some v4:=by
   rw [hy]
   simp only [bR,aG2,aX1]
   have hin:decide ((i:Int) > 0)=true→0≤(IntKind.i64.wrap ((i:Int) - (1:Int)))∧(IntKind.i64.wrap ((i:Int) - (1:Int))) < l.length:=by
    intro h0
    simp at h0
    rw [qJ (by omega) (by omega)]
    omega
   rw [gate (fun h'=>hin (by simp at h' ⊢; omega)),gate (fun h'=>hin (by simp at h' ⊢; omega))]
   have e1:(((decide ((i:Int) > 0) && ((l.getD (i:Int).toNat (aM.mk 0 0 [] 0 0)).f0 == 1 || (l.getD (i:Int).toNat (aM.mk 0 0 [] 0 0)).f0 == 5)) && (l.getD (IntKind.i64.wrap ((i:Int) - 1)).toNat (aM.mk 0 0 [] 0 0)).f0 != 3) && decide ((l.getD (IntKind.i64.wrap ((i:Int) - 1)).toNat (aM.mk 0 0 [] 0 0)).f0 < 6))=bl:=by
    rw [hbl,s2]
    have e0:l.getD (i:Int).toNat (aM.mk 0 0 [] 0 0)=l.getD i tk0:=rfl
    rw [e0]
    by_cases h0:0 < i
    ·rw [qJ h0 (by omega)]
     have e2:l.getD ((i - 1:Nat):Int).toNat (aM.mk 0 0 [] 0 0)=l.getD (i - 1) tk0:=rfl
     rw [e2,decide_eq_true h0,decide_eq_true (show (i:Int) > 0 by omega)]
     have hp:=hprev h0
     have e3:xQ (l.getD (i - 1) tk0)=((l.getD (i - 1) tk0).f0 != 3 && decide ((l.getD (i - 1) tk0).f0 < 6)):=by
      unfold xQ
      generalize (l.getD (i - 1) tk0).f0=q at hp
      rw [Bool.eq_iff_iff]
      simp only [Bool.or_eq_true,Bool.and_eq_true,beq_iff_eq,bne_iff_ne,decide_eq_true_eq]
      omega
     rw [e3]
     cases ((l.getD i tk0).f0 == 1 || (l.getD i tk0).f0 == 5) <;> cases (l.getD (i - 1) tk0).f0 != 3 <;> cases decide ((l.getD (i - 1) tk0).f0 < 6) <;> rfl
    ·rw [decide_eq_false h0,decide_eq_false (show ¬ (i:Int) > 0 by omega)]
     rfl
   rw [e1,hv4]
   cases bl with
   | false=>rfl
   | true =>
    simp only [cond_true,if_true]
    rw [bN (by simp; omega)]
    rfl
  have hpre:IntKind.i64.wrap ((s.length:Int) - 1)=((s.length - 1:Nat):Int):=qJ (by omega) (by omega)
  rw [kE,kD]
  rw [dec_lt hi,cond_true,iM hi]
  have e0:l.getD (i:Int).toNat (aM.mk 0 0 [] 0 0)=l.getD i tk0:=rfl
  have e0':y.1.getD (i:Int).toNat (aM.mk 0 0 [] 0 0)=l.getD i tk0:=by rw [hy]; rfl
  have hiy:decide ((i:Int) < (y.1.length:Int))=true:=by rw [hy]; exact dec_lt hi
  rw [hiy,cond_true,bN (by rw [hy]; omega)]
  rw [e0,p1,aN]
  simp only [bne_self_eq_false,cond_false]
  rw [hA,aN,hB,e0',p2,aN,aN]
  simp only
  unfold bS dU
  have hck:v4.length+s.length≤4294967296:=by omega
  have hcs:(0:Int)≤((s.length - 1:Nat):Int)∧((s.length - 1:Nat):Int) < (s.length:Int):=by omega
  simp only [bN hck,aN,hpre,bN hcs]
  by_cases hbig:((v4++s).length:Int) > 8192
  ·rw [decide_eq_true hbig]
   exact .inl ⟨rfl,rfl⟩
  ·rw [decide_eq_false hbig,cond_false,cond_false,aW2,aN,eQ (by omega)]
   have hlast:cN7 (((s.getD ((s.length - 1:Nat):Int).toNat 0).toNat:Nat):Int)=(decide (0 < i+1) && xQ (l.getD (i+1 - 1) tk0)):=by
    have:=s3
    rw [decide_eq_true (show 0 < i+1 by omega),Bool.true_and]
    exact this
   rw [hlast]
   exact ih (i+1) n (v4++s) (by omega) (by omega) (by omega)
end Go.Vm.PgfG.L
namespace Go.Vm.PgfG.L
theorem cO9 {F:Nat} (hF:4294967300≤F) (hF2:maxLen < F) {o:aC} (hs:Sm o):∃ e s,mK F o=some (s,e)∧qB F o=some (s,e)∧(e=0→OOk F o∧sz o≤4096):=by
 have h:=add_eq hF hF2 12 1 F o [] 0 (by omega) (by omega) hs (by omega) (by simp) (fun t ht=>by cases ht)
 change aC4 F (qE F o (1:Int) [] 0) (xE F [] o (1:Int) (0:Int)) _ _ _ at h
 unfold mK qB
 rcases h with ⟨e,l',k',k'',h0,g1,g2⟩ | ⟨l',k',g1,g2,g3,g4,g5,g6,g7⟩
 ·have hne:(e != 0)=true:=by simpa using h0
  rw [g1,g2,aN,aN]
  simp only [hne,cond_true]
  exact ⟨e,_,rfl,rfl,fun h=>absurd h h0⟩
 ·rw [g1,g2,aN,aN]
  simp only [bne_self_eq_false,cond_false]
  unfold zC
  simp only [List.length_nil] at g6
  have hj:=join_eq (F:=F) l' (l',0,(k':Int)) rfl g3 (by omega) l'.length 0 F [] (by omega) (by omega) (by simp)
  have e0:(decide (0 < 0) && xQ (l'.getD (0 - 1) tk0))=false:=rfl
  rw [e0,Int.natCast_zero] at hj
  rcases hj with ⟨q1,q2⟩ | ⟨r,q0,q1,q2⟩
  ·rw [q1,q2]
   exact ⟨2,[],rfl,rfl,fun h=>by cases h⟩
  ·rw [q1,q2,cK,cK]
   have hck:r.length≤9223372036854775807:=by omega
   rw [bN hck]
   exact ⟨0,r,rfl,rfl,fun _=>⟨g7.1,by have:=g7.2; omega⟩⟩
end Go.Vm.PgfG.L
