/-
  token,reading: plain law 1: classes of bytes,digits and their value.
-/
import Derived.Test.YtldmbabgcdmjcaaGreatDoorObjF
import Derived.Test.YtldmbabgcdmjcaaGreatDoorVmD
import Derived.Test.YtldmbabgcdmjcaaGreatDoorVmC
import Derived.Lib.AtoiTie
import Derived.Laws.RangeAny
import Derived.Laws.RangeString
namespace Go.Vm.ObjM.Lx
theorem bM (i:Nat):((i:Nat):Int).toNat=i:=rfl
theorem bX {s:List UInt8} {i:Nat} (hi:i < s.length):s.drop i=s.getD i 0 :: s.drop (i+1):=by
 rw [List.getD_eq_getElem?_getD,List.getElem?_eq_getElem hi]
 exact List.drop_eq_getElem_cons hi
theorem ofc (c:UInt8):UInt8.ofNat (c.toNat:Int).toNat=c:=by rw [bM]; simp
theorem aD7 (c:UInt8):0≤(c.toNat:Int)∧(c.toNat:Int) < 256:=⟨by omega,by have:=c.toNat_lt; omega⟩
/-! ## White space,delimiters -/
def white (c:UInt8):Bool:=bif (bif ((c.toNat:Int) == 32) then true else ((c.toNat:Int) == 9)) then true else ((c.toNat:Int) == 10)
theorem bO4 (F:Nat) (c:UInt8):mP F (c.toNat:Int)=some (white c):=rfl
theorem cM5 (F:Nat) (c:UInt8):mU F (c.toNat:Int)=some (white c):=rfl
def aI6 (c:UInt8):Bool:=decide ((Lib.indexByte ([40,41,60,62,91,93,47,64,37]:List UInt8) (c.toNat:Int).toNat.toUInt8) ≥ (0:Int))
theorem cX0 (F:Nat) (c:UInt8):lS F (c.toNat:Int)=some (aI6 c):=rfl
theorem cE7 (F:Nat) (x z:Int):∀ (n:Nat) (v:Int) (r:Out Unit Bool),eT F x z n v=some r→eT F x z (n+1) v=some r:=by
 intro n
 induction n with
 | zero=>intro v r h; cases h
 | succ n ih =>
  intro v r h
  rw [eT] at h ⊢
  cases hc:decide (v < z)
  ·rw [hc] at h; exact h
  ·rw [hc,cond_true] at h
   rw [cond_true]
   obtain ⟨hp,h⟩:=aQ h
   rw [aL hp]
   rw [aY] at h ⊢
   cases hb:x == _
   ·rw [hb,cond_false] at h; rw [cond_false]; exact ih _ _ h
   ·rw [hb,cond_true] at h; rw [cond_true]; exact h
theorem bZ7 (F:Nat) (x z:Int) (n:Nat) (v:Int) (r:Out Unit Bool) (h:eT F x z n v=some r):∀ m,eT F x z (n+m) v=some r:=by
 intro m
 induction m with
 | zero=>exact h
 | succ m ih=>exact cE7 F x z _ v r ih
def oq {α:Type}:Option (Out Unit α)→Option (Option α)
 | some (.esc b)=>some (some b)
 | some (.go _)=>some none
 | none=>none
theorem cI5 {α:Type} {x y:Option (Out Unit α)} (h:oq x=oq y):x=y:=by
 match x,y with
 | some (.esc _),some (.esc _)=>cases h; rfl
 | some (.go _),some (.go _)=>rfl
 | none,none=>rfl
 | some (.esc _),some (.go _)=>cases h
 | some (.go _),some (.esc _)=>cases h
 | some (.esc _),none=>cases h
 | some (.go _),none=>cases h
 | none,some (.esc _)=>cases h
 | none,some (.go _)=>cases h
theorem cD6:∀ n:Nat,n < 256→oq (eT 0 (n:Int) 9 10 0)=oq (some (if aI6 (UInt8.ofNat n) then .esc true else .go ())):=by decide +kernel
theorem cL8 (n:Nat) (h:n < 256):eT 0 (n:Int) 9 10 0=some (if aI6 (UInt8.ofNat n) then .esc true else .go ()):=cI5 (cD6 n h)
theorem cY3 (F:Nat) (x z:Int):∀ (n:Nat) (v:Int),eT F x z n v=eT 0 x z n v:=by
 intro n
 induction n with
 | zero=>intro v; rfl
 | succ n ih=>intro v; rw [eT,eT]; simp only [ih]
theorem dC9 {F:Nat} (hF:10≤F) (c:UInt8):vU F (c.toNat:Int)=some (aI6 c):=by
 obtain ⟨k,rfl⟩:∃ k,F=10+k:=⟨F - 10,by omega⟩
 have h:=bZ7 (10+k) (c.toNat:Int) 9 10 0 _ (by rw [cY3]; exact cL8 c.toNat c.toNat_lt) k
 rw [UInt8.ofNat_toNat] at h
 unfold vU
 rw [aL (by decide),aY]
 change dA (eT (10+k) (c.toNat:Int) 9 (10+k) 0) _ _=_
 rw [h]
 cases aI6 c <;> rfl
/-- The bytes of a plain run. -/
def reg (c:UInt8):Bool := !white c && !aI6 c
theorem dB5 (F:Nat) (c:UInt8):fV F (c.toNat:Int)=some (reg c):=by
 unfold fV reg
 rw [bO4,aA,cX0]
 cases white c <;> cases aI6 c <;> rfl
theorem cN4 {F:Nat} (hF:10≤F) (c:UInt8):oL F (c.toNat:Int)=some (reg c):=by
 unfold oL reg
 rw [cM5,aA,dC9 hF]
 cases white c <;> cases aI6 c <;> rfl
/-! ## Hexadecimal digits -/
def qB (c:UInt8):Option Nat :=
 if 48≤c.toNat∧c.toNat≤57 then some (c.toNat - 48) else if 97≤c.toNat∧c.toNat≤102 then some (c.toNat - 87) else if 65≤c.toNat∧c.toNat≤70 then some (c.toNat - 55) else none
theorem qW {c:UInt8} {v:Nat} (h:qB c=some v):v < 16:=by
 unfold qB at h
 split at h
 ·simp only [Option.some.injEq] at h; omega
 ·split at h
  ·simp only [Option.some.injEq] at h; omega
  ·split at h
   ·simp only [Option.some.injEq] at h; omega
   ·cases h
theorem cI9:∀ n:Nat,n < 256→jV 0 (n:Int)=some (match qB (UInt8.ofNat n) with | some v=>((v:Int),true) | none=>(0,false)):=by decide +kernel
theorem cW7 (F:Nat) (c:UInt8):jV F (c.toNat:Int)=some (match qB c with | some v=>((v:Int),true) | none=>(0,false)):=by
 have h:=cI9 c.toNat c.toNat_lt
 rw [UInt8.ofNat_toNat] at h
 exact h
theorem cH7 (F:Nat) (x z:Int):∀ (n:Nat) (v:Int) (r:Out Unit Int),fH F x z n v=some r→fH F x z (n+1) v=some r:=by
 intro n
 induction n with
 | zero=>intro v r h; cases h
 | succ n ih =>
  intro v r h
  rw [fH] at h ⊢
  cases hc:decide (v < z)
  ·rw [hc] at h; exact h
  ·rw [hc,cond_true] at h
   rw [cond_true]
   obtain ⟨hp,h⟩:=aQ h
   rw [aL hp]
   simp only [aY] at h ⊢
   revert h
   generalize (bif x == _ then true else _)=b
   intro h
   cases b
   ·rw [cond_false] at h ⊢; exact ih _ _ h
   ·rw [cond_true] at h ⊢; exact h
theorem cN3 (F:Nat) (x z:Int) (n:Nat) (v:Int) (r:Out Unit Int) (h:fH F x z n v=some r):∀ m,fH F x z (n+m) v=some r:=by
 intro m
 induction m with
 | zero=>exact h
 | succ m ih=>exact cH7 F x z _ v r ih
theorem dC4 (F:Nat) (x z:Int):∀ (n:Nat) (v:Int),fH F x z n v=fH 0 x z n v:=by
 intro n
 induction n with
 | zero=>intro v; rfl
 | succ n ih=>intro v; rw [fH,fH]; simp only [ih]
def cZ8 (c:UInt8):Out Unit Int:=match qB c with | some v=>.esc (v:Int) | none=>.go ()
theorem cG8:∀ n:Nat,n < 256→oq (fH 0 (n:Int) 16 17 0)=oq (some (cZ8 (UInt8.ofNat n))):=by decide +kernel
theorem cR4 (n:Nat) (h:n < 256):fH 0 (n:Int) 16 17 0=some (cZ8 (UInt8.ofNat n)):=cI5 (cG8 n h)
/-- The value of a hexadecimal digit,-1 where there is none. -/
def aK1 (c:UInt8):Int:=match qB c with | some v=>(v:Int) | none => -1
theorem bT4 {F:Nat} (hF:17≤F) (c:UInt8):kK F (c.toNat:Int)=some (aK1 c):=by
 obtain ⟨k,rfl⟩:∃ k,F=17+k:=⟨F - 17,by omega⟩
 have h:=cN3 (17+k) (c.toNat:Int) 16 17 0 _ (by rw [dC4]; exact cR4 c.toNat c.toNat_lt) k
 rw [UInt8.ofNat_toNat] at h
 unfold kK
 rw [aL (by decide),aY]
 change dA (fH (17+k) (c.toNat:Int) 16 (17+k) 0) _ _=_
 rw [h]
 unfold aK1 cZ8
 cases qB c <;> rfl
/-- Two digits,as the reader joins them. -/
theorem bK3:∀ a:Nat,a < 16→∀ b:Nat,b < 16→IntKind.u8.wrap ((BitVec.ofInt IntKind.u8.bits (IntKind.u8.wrap ((a:Nat) * 2 ^ (min (4:Int).toNat IntKind.u8.bits))) ||| BitVec.ofInt IntKind.u8.bits ((b:Nat):Int)).toNat:Int)=((a * 16+b:Nat):Int):=by decide +kernel
theorem aT4 {a b:Nat} (ha:a < 16) (hb:b < 16):IntKind.u8.wrap (IntKind.i64.wrap ((IntKind.i64.wrap ((a:Int) * (16:Int)))+(b:Int)))=((a * 16+b:Nat):Int):=by
 rw [eF (x:=(a:Int) * 16) (by omega),eF (by omega),wrap_u8 (by omega)]; omega
/-! ## Digits and their value -/
def dgt (c:UInt8):Bool:=decide (48≤c.toNat) && decide (c.toNat≤57)
theorem yU {c:UInt8}:dgt c=true↔48≤c.toNat∧c.toNat≤57:=by simp [dgt]
theorem bD3 (c:UInt8):(bif (decide ((48:Int)≤(c.toNat:Int))) then (decide ((c.toNat:Int)≤(57:Int))) else false)=dgt c:=by
 have e1:decide ((48:Int)≤(c.toNat:Int))=decide (48≤c.toNat):=by rw [decide_eq_decide]; omega
 have e2:decide ((c.toNat:Int)≤57)=decide (c.toNat≤57):=by rw [decide_eq_decide]; omega
 rw [e1,e2]
 unfold dgt
 cases decide (48≤c.toNat) <;> rfl
theorem aZ2 (F:Nat) (c:UInt8):jA F (c.toNat:Int)=some (dgt c):=congrArg some (bD3 c)
theorem wB (F:Nat) (c:UInt8):gY F (c.toNat:Int)=some (dgt c):=congrArg some (bD3 c)
def dv (c:UInt8):Nat:=c.toNat - 48
theorem dC8 (c:UInt8):dv c=c.toNat - 48:=rfl
attribute [irreducible] dv
def val (a:Nat):List UInt8→Nat
 | []=>a
 | c :: t=>val (a * 10+dv c) t
theorem aK4 (a:Nat):val a []=a:=rfl
theorem aY3 (a:Nat) (c:UInt8) (t:List UInt8):val a (c :: t)=val (a * 10+dv c) t:=rfl
theorem aS0 (a:Nat) (c:UInt8) (t:List UInt8):val a (c :: t)=val (a * 10+(c.toNat - 48)) t:=by rw [aY3,dC8]
attribute [irreducible] val
theorem cJ0 (l:List UInt8):∀ (a:Nat),a≤val a l:=by
 induction l with
 | nil=>intro a; rw [aK4]; exact Nat.le_refl a
 | cons c t ih =>
  intro a
  have h:=ih (a * 10+dv c)
  rw [aY3]
  omega
theorem cM9 {v a d P:Nat} (h1:v < (a * 10+d+1) * P) (hd:d≤9):v < (a+1) * (P * 10):=by
 have h2:(a * 10+d+1) * P≤((a+1) * 10) * P:=Nat.mul_le_mul_right P (by omega)
 have h3:(a+1) * (P * 10)=((a+1) * 10) * P:=by rw [Nat.mul_comm P 10,Nat.mul_assoc]
 rw [h3]
 exact Nat.lt_of_lt_of_le h1 h2
theorem cY4 (l:List UInt8):∀ (a:Nat),l.all dgt=true→val a l < (a+1) * 10 ^ l.length:=by
 induction l with
 | nil=>intro a _; rw [List.length_nil,Nat.pow_zero,Nat.mul_one,aK4]; exact Nat.lt_succ_self a
 | cons c t ih =>
  intro a h
  rw [List.all_cons,Bool.and_eq_true] at h
  have hc:=yU.1 h.1
  have h1:=ih (a * 10+(c.toNat - 48)) h.2
  rw [List.length_cons,Nat.pow_succ,aS0]
  exact cM9 h1 (by omega)
theorem bU7 {l:List UInt8} (h:l.all dgt=true) {k:Nat} (hk:l.length≤k):val 0 l < 10 ^ k:=by
 have:=cY4 l 0 h
 rw [Nat.zero_add,Nat.one_mul] at this
 exact Nat.lt_of_lt_of_le this (Nat.pow_le_pow_right (by omega) hk)
theorem bH0 (s:List UInt8):∀ (a:Nat),s.all dgt=true→Lib.decFrom a s=some (val a s):=by
 induction s with
 | nil=>intro a _; rw [aK4]; rfl
 | cons c t ih =>
  intro a h
  rw [List.all_cons,Bool.and_eq_true] at h
  have hc:=yU.1 h.1
  have hv:Lib.digitVal c=some (c.toNat - 48):=by unfold Lib.digitVal; rw [if_pos hc]
  rw [Lib.decFrom,hv,aS0]
  exact ih _ h.2
theorem aA4 {s:List UInt8} (h:s.all dgt=true) (hn:s≠[]):Lib.decNat s=some (val 0 s):=by
 unfold Lib.decNat
 cases s with
 | nil=>exact absurd rfl hn
 | cons c t =>
  rw [show (c :: t).isEmpty=false from rfl,if_neg (by decide)]
  exact bH0 _ 0 h
/-- Digits ahead of which a sign may stand. -/
theorem aS3 {s:List UInt8} (h:s.all dgt=true) (hn:s≠[]) (hl:s.length≤18):yA s=some ((val 0 s:Nat):Int):=by
 have h3:=aA4 h hn
 unfold yA
 rw [Lib.atoiAll_short s hl]
 cases s with
 | nil=>exact absurd rfl hn
 | cons c t =>
  have hc:=yU.1 (List.all_eq_true.1 h c (by simp))
  have h1:(c == 45)=false:=by
   rw [beq_eq_false_iff_ne]; rintro rfl; have:(45:UInt8).toNat=45:=rfl; omega
  have h2:(c == 43)=false:=by
   rw [beq_eq_false_iff_ne]; rintro rfl; have:(43:UInt8).toNat=43:=rfl; omega
  have h4:Lib.atoi (c :: t)=some ((val 0 (c :: t):Nat):Int):=by
   rw [Lib.atoi,h1,h2,h3]; rfl
  rw [h4]; rfl
theorem cE4 {s:List UInt8} (h:s.all dgt=true) (hn:s≠[]) (hl:s.length≤17):yA (43 :: s)=some ((val 0 s:Nat):Int):=by
 unfold yA
 rw [Lib.atoiAll_short (43 :: s) (by simp; omega)]
 have h4:Lib.atoi (43 :: s)=some ((val 0 s:Nat):Int):=by
  rw [Lib.atoi,aA4 h hn]; rfl
 rw [h4]; rfl
theorem bQ0 {s:List UInt8} (h:s.all dgt=true) (hn:s≠[]) (hl:s.length≤17):yA (45 :: s)=some (-((val 0 s:Nat):Int)):=by
 unfold yA
 rw [Lib.atoiAll_short (45 :: s) (by simp; omega)]
 have h4:Lib.atoi (45 :: s)=some (-((val 0 s:Nat):Int)):=by
  rw [Lib.atoi,aA4 h hn]; rfl
 rw [h4]; rfl
/-- The runes outside the digits. -/
def cB8 (x:Int):Option Bool:=some (bif (decide (x < (48:Int))) then true else (decide (x > (57:Int))))
def cX5 (x:Nat):Bool:=(cB8 (x:Int)).getD false
theorem bW1 (x:Nat):cX5 x = !(decide (48≤x) && decide (x≤57)):=by
 show (bif (decide ((x:Int) < (48:Int))) then true else (decide ((x:Int) > (57:Int))))=_
 rw [Bool.eq_iff_iff]
 cases h:decide ((x:Int) < 48) <;> simp at h ⊢ <;> omega
theorem idx_eq (s:List UInt8):∀ (f i:Nat),i+f=s.length→decide (0≤Lib.idxFuncFrom cX5 true ⟨s.toArray⟩ f i) = !((s.drop i).all dgt):=by
 intro f
 induction f with
 | zero =>
  intro i hi
  rw [show i=s.length by omega,List.drop_length]; rfl
 | succ f ih =>
  intro i hi
  have hlt:i < s.length:=by omega
  have hsz:i < (⟨s.toArray⟩:ByteArray).size:=by simpa [ByteArray.size] using hlt
  have hget:(⟨s.toArray⟩:ByteArray)[i]'hsz=s.getD i 0:=by
   rw [List.getD_eq_getElem?_getD,List.getElem?_eq_getElem hlt]; rfl
  rw [Lib.idxFuncFrom,if_pos hsz,bX hlt,List.all_cons]
  by_cases ha:(s.getD i 0).toNat < 128
  ·rw [decode_ascii _ i hsz (by rw [hget]; exact ha),hget]
   simp only [bW1]
   change decide (0≤if (!dgt (s.getD i 0))=true then (i:Int) else _)=_
   cases h:dgt (s.getD i 0)
   ·rw [if_pos (show (!false)=true from rfl),decide_eq_true (by omega)]; rfl
   ·rw [if_neg (show ¬ (!true)=true by decide),ih (i+1) (by omega)]; rfl
  ·have hd:=(decode_high _ i hsz (by rw [hget]; omega)).1
   have h2:cX5 (Utf8.decode ⟨s.toArray⟩ i).1=true:=by
    rw [bW1,decide_eq_false (show ¬ (Utf8.decode ⟨s.toArray⟩ i).1≤57 by omega)]; simp
   have h3:dgt (s.getD i 0)=false:=by
    cases h:dgt (s.getD i 0)
    ·rfl
    ·have:=yU.1 h; omega
   rw [if_pos h2,h3,decide_eq_true (by omega)]; rfl
theorem contains_eq (s:List UInt8):qU cB8 s=some (!(s.all dgt)):=by
 unfold qU
 have hp:∀ x:Nat,x≤1114111→(cB8 (x:Int)).isSome=true:=fun _ _=>rfl
 rw [if_pos hp]
 have h:=idx_eq s s.length 0 (by omega)
 rw [List.drop_zero] at h
 rw [← h]
 rfl
/-- The reference's number: digits alone,and no more than its cap. -/
theorem aE1 (s:List UInt8):vJ cB8 s=some (!(s.all dgt)):=by
 unfold vJ
 rw [← (aC4 (contains_eq s)).2]
theorem cJ8 (F:Nat) (s:List UInt8) (hs:s.length≤10000):∀ (m i n a:Nat),i+m=s.length→m < n→a≤1099511627776 →
  jP F s n (a:Int) (i:Int)=some (if (s.drop i).all dgt then .go ((min (val a (s.drop i)) 1099511627776:Nat):Int) else .esc (-1)):=by
 intro m
 induction m with
 | zero =>
  intro i n a hi hn ha
  obtain ⟨n,rfl⟩:∃ q,n=q+1:=⟨n - 1,by omega⟩
  obtain rfl:i=s.length:=by omega
  rw [jP,fG,cond_false,List.drop_length,aK4,Nat.min_eq_left ha]; rfl
 | succ m ih =>
  intro i n a hi hn ha
  obtain ⟨n,rfl⟩:∃ q,n=q+1:=⟨n - 1,by omega⟩
  have hlt:i < s.length:=by omega
  rw [bX hlt]
  rw [jP,dec_lt hlt,cond_true,eD hlt,bM,bS (by omega),wB,aA,eD hlt]
  generalize s.getD i 0=c at *
  cases hc:dgt c
  ·rw [List.all_cons,hc]; rfl
  ·have hc2:=yU.1 hc
   have e:IntKind.i64.wrap (IntKind.i64.wrap ((IntKind.i64.wrap ((a:Int) * (10:Int)))+(IntKind.i64.wrap (c.toNat:Int))) - 48)=((a * 10+(c.toNat - 48):Nat):Int):=by
    rw [eF (x:=(c.toNat:Int)) (by omega),eF (x:=(a:Int) * 10) (by omega),eF (x:=(a:Int) * 10+_) (by omega),eF (by omega)]; omega
   rw [Bool.not_true,cond_false,aY,e,aY,List.all_cons,hc,Bool.true_and,aS0]
   by_cases hb:1099511627776 < a * 10+(c.toNat - 48)
   ·rw [if_pos (by omega)]
    have:=ih (i+1) n 1099511627776 (by omega) (by omega) (by omega)
    rw [show ((1099511627776:Nat):Int)=(1099511627776:Int) from rfl] at this
    rw [this]
    have h1:=cJ0 (s.drop (i+1)) 1099511627776
    have h2:=cJ0 (s.drop (i+1)) (a * 10+(c.toNat - 48))
    rw [Nat.min_eq_right h1,Nat.min_eq_right (by omega)]
   ·rw [if_neg (by omega),ih (i+1) n _ (by omega) (by omega) (by omega)]
theorem bM5 {F:Nat} {s:List UInt8} (hs:s.length≤10000) (hF:20000≤F):qL F s=some (if s≠[]∧s.all dgt=true then ((min (val 0 s) 1099511627776:Nat):Int) else -1):=by
 unfold qL
 by_cases hn:s=[]
 ·subst hn; rfl
 ·have h:jP F s F 0 0=some (if (s.drop 0).all dgt then .go ((min (val 0 (s.drop 0)) 1099511627776:Nat):Int) else .esc (-1)):=cJ8 F s hs s.length 0 F 0 (by omega) (by omega) (by omega)
  rw [show (s == [])=false by simpa using hn,cond_false,h,List.drop_zero]
  cases hd:s.all dgt
  ·rw [if_neg (show ¬ (s≠[]∧false=true) by simp)]; rfl
  ·rw [if_pos (show s≠[]∧true=true from ⟨hn,rfl⟩)]; rfl
end Go.Vm.ObjM.Lx
