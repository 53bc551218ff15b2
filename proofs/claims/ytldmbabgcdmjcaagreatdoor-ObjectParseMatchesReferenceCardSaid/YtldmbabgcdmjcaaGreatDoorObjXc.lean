/-
  token,reading: plain law 3: integers,references,names.
-/
import Derived.Test.YtldmbabgcdmjcaaGreatDoorObjXb
namespace Go.Vm.ObjM.Lx
/-! ## Integers -/
def sgn (c:UInt8):Bool:=bif ((c.toNat:Int) == 43) then true else ((c.toNat:Int) == 45)
/-- The value of digits,under a sign; the error. -/
def bN5 (neg:Bool) (d:List UInt8):Int×Int :=
 if d=[]∨10 < d.length∨d.all dgt=false then (0,5) else if 2147483647 < val 0 d then (0,3) else (bif neg then -((val 0 d:Nat):Int) else ((val 0 d:Nat):Int),0)
def bP4 (c:UInt8) (t:List UInt8):Int×Int:=bN5 ((c.toNat:Int) == 45) (bif sgn c then t else c :: t)
theorem bY7 {c:UInt8} (h:sgn c=true):dgt c=false:=by
 cases hd:dgt c
 ·rfl
 ·have:=yU.1 hd
  unfold sgn at h
  cases h1:(c.toNat:Int) == 43
  ·rw [h1,cond_false,beq_iff_eq] at h; omega
  ·rw [beq_iff_eq] at h1; omega
theorem bL6 {neg:Bool} {d:List UInt8} (h:d=[]∨10 < d.length∨d.all dgt=false):bN5 neg d=(0,5):=if_pos h
theorem bQ2 {neg:Bool} {d:List UInt8} (h:¬ (d=[]∨10 < d.length∨d.all dgt=false)) (hb:2147483647 < val 0 d):bN5 neg d=(0,3):=by unfold bN5; rw [if_neg h,if_pos hb]
theorem cR7 {neg:Bool} {d:List UInt8} (h:¬ (d=[]∨10 < d.length∨d.all dgt=false)) (hb:¬ 2147483647 < val 0 d):bN5 neg d=(bif neg then -((val 0 d:Nat):Int) else ((val 0 d:Nat):Int),0):=by unfold bN5; rw [if_neg h,if_neg hb]
theorem cT7 (F:Nat):(fun x=>nI F x)=cB8:=rfl
theorem cS4 (F:Nat):(fun x=>lL F x)=cB8:=rfl
theorem bN3 {F:Nat} {c:UInt8} {t:List UInt8} (h:sgn c=true∨dgt c=true) (hl:t.length≤10000):nZ F (c :: t)=some (bP4 c t):=by
 unfold nZ bP4 bN5
 have hlen:((c :: t).length:Int)=(t.length:Int)+1:=by simp
 have h1:(call (chk (0≤(0:Int)∧(0:Int) < (c :: t).length) <|
  chk (((((((c :: t).getD (0:Int).toNat 0).toNat:Int) == (43:Int)) == false) && true)=true→0≤(0:Int)∧(0:Int) < (c :: t).length) <|
  dH ((bif ((((c :: t).getD (0:Int).toNat 0).toNat:Int) == (43:Int)) then true else ((((c :: t).getD (0:Int).toNat 0).toNat:Int) == (45:Int)))) fun z1 =>
  bif z1 then
   chk (0≤(1:Int)∧(1:Int)≤((c :: t).length:Int)∧((c :: t).length:Int)≤((c :: t).length:Int)) <|
   some (((c :: t).drop (1:Int).toNat).take (((c :: t).length:Int).toNat - (1:Int).toNat))
  else
   some (c :: t)) (fun v=>some v))=some (bif sgn c then t else c :: t):=by
  rw [aL ⟨by omega,by omega⟩,aL (fun _=>⟨by omega,by omega⟩),aY,aL ⟨by omega,by omega,by omega⟩]
  rw [show (((c :: t).drop (1:Int).toNat).take (((c :: t).length:Int).toNat - (1:Int).toNat))=t by
   rw [bM]; show (t.take (t.length+1 - 1))=t; rw [Nat.add_sub_cancel,List.take_length]]
  show call (bif sgn c then some t else some (c :: t)) _=_
  cases sgn c <;> rfl
 have h2:∀ {α:Type} {x:Option (List UInt8)} {y:List UInt8} {k:List UInt8→Option α},call x (fun v=>some v)=some y→call x k=k y:=by
  intro α x y k hx
  cases x with
  | none=>cases hx
  | some v=>cases hx; rfl
 rw [h2 h1]
 have hatoi:∀ (d:List UInt8),d=(bif sgn c then t else c :: t)→d≠[]→d.length≤10→d.all dgt=true→yA (c :: t)=some (bif (c.toNat:Int) == 45 then -((val 0 d:Nat):Int) else ((val 0 d:Nat):Int)):=by
  intro d hd hn h10 hall
  subst hd
  cases hs:sgn c
  ·rw [hs,cond_false] at hn h10 hall
   have h45:((c.toNat:Int) == 45)=false:=by
    unfold sgn at hs
    cases h43:(c.toNat:Int) == 43
    ·rw [h43,cond_false] at hs; exact hs
    ·rw [h43] at hs; cases hs
   rw [aS3 hall hn (by omega),h45]; rfl
  ·rw [hs,cond_true] at hn h10 hall
   simp only [cond_true]
   cases h45:(c.toNat:Int) == 45
   ·unfold sgn at hs
    have h43:((c.toNat:Int) == 43)=true:=by
     cases h43:(c.toNat:Int) == 43
     ·rw [h43,cond_false,h45] at hs; cases hs
     ·rfl
    have hc:c=43:=UInt8.toNat_inj.1 (by rw [beq_iff_eq] at h43; show c.toNat=43; omega)
    subst hc
    rw [cE4 hall hn (by omega)]; rfl
   ·have hc:c=45:=UInt8.toNat_inj.1 (by rw [beq_iff_eq] at h45; show c.toNat=45; omega)
    subst hc
    rw [bQ0 hall hn (by omega)]; rfl
 have hwl:(c :: t).length≤9223372036854775806:=by simp; omega
 generalize hd:(bif sgn c then t else c :: t)=d at *
 by_cases hn:d=[]
 ·subst hn; rfl
 ·have hne:(d == [])=false:=by simpa using hn
  rw [hne,cond_false]
  by_cases h10:10 < d.length
  ·rw [decide_eq_true (by omega),if_pos (.inr (.inl h10))]; rfl
  ·rw [decide_eq_false (by omega)]
   rw [cT7,aE1]
   simp only [cond_false,Bool.and_true,beq_self_eq_true,cond_true,aA]
   cases hall:d.all dgt
   ·rw [if_pos (by simp)]; rfl
   ·rw [if_neg (by simp [hn,h10]),aL hwl,hatoi d rfl hn (by omega) hall,aA]
    by_cases hb:2147483647 < val 0 d
    ·rw [if_pos hb]
     cases (c.toNat:Int) == 45
     ·simp only [cond_false]
      rw [decide_eq_true (show ((val 0 d:Nat):Int) > 2147483647 by omega)]
      cases decide (((val 0 d:Nat):Int) < -2147483647) <;> rfl
     ·simp only [cond_true]
      rw [decide_eq_true (show -((val 0 d:Nat):Int) < -2147483647 by omega)]; rfl
    ·rw [if_neg hb]
     cases (c.toNat:Int) == 45
     ·simp only [cond_false]
      rw [decide_eq_false (by omega),decide_eq_false (by omega)]; rfl
     ·simp only [cond_true]
      rw [decide_eq_false (by omega),decide_eq_false (by omega)]; rfl
theorem bG8 {F:Nat} (hF:20000≤F) {c:UInt8} {t:List UInt8} (h:sgn c=true∨dgt c=true) (hl:t.length≤9999) :
  nY F (c :: t)=some (if (bP4 c t).2=0 then (⟨1,(bP4 c t).1,[],0,0⟩,0) else (⟨0,0,[],0,0⟩,(bP4 c t).2)):=by
 unfold nY bP4
 have hlen:((c :: t).length:Int)=(t.length:Int)+1:=by simp
 rw [aL ⟨by omega,by omega⟩,aL ⟨by omega,by omega⟩]
 rw [show ((c :: t).getD (0:Int).toNat 0)=c from rfl,wB,aA,aL ⟨by omega,by omega,by omega⟩]
 rw [show (((c :: t).drop (1:Int).toNat).take (((c :: t).length:Int).toNat - (1:Int).toNat))=t by
   rw [bM]; show (t.take (t.length+1 - 1))=t; rw [Nat.add_sub_cancel,List.take_length]]
 have hdg:(bif (!dgt c) then some t else some (c :: t))=some (bif sgn c then t else c :: t):=by
  rcases h with h | h
  ·rw [h,bY7 h]; rfl
  ·rw [h]
   cases hs:sgn c
   ·rfl
   ·rw [bY7 hs] at h; cases h
 rw [hdg]
 have hdl:(bif sgn c then t else c :: t).length≤10000:=by cases sgn c <;> simp <;> omega
 generalize (bif sgn c then t else c :: t)=d at *
 simp only [aA]
 rw [bM5 hdl hF]
 by_cases hn:d≠[]∧d.all dgt=true
 ·rw [if_pos hn]
  simp only [aA]
  by_cases h10:10 < d.length
  ·rw [bL6 (.inr (.inl h10)),decide_eq_true (show (d.length:Int) > 10 by omega),decide_eq_false (show ¬ ((min (val 0 d) 1099511627776:Nat):Int) < 0 by omega)]
   cases (c.toNat:Int) == 45 <;> rfl
  ·have hv:=bU7 hn.2 (k:=10) (by omega)
   have hno:¬ (d=[]∨10 < d.length∨d.all dgt=false):=by simp [hn,h10]
   rw [Nat.min_eq_left (by omega),decide_eq_false (show ¬ ((val 0 d:Nat):Int) < 0 by omega),decide_eq_false (show ¬ (d.length:Int) > 10 by omega)]
   by_cases hb:2147483647 < val 0 d
   ·rw [bQ2 hno hb,decide_eq_true (show ((val 0 d:Nat):Int) > 2147483647 by omega)]
    cases (c.toNat:Int) == 45 <;> rfl
   ·rw [cR7 hno hb,decide_eq_false (show ¬ ((val 0 d:Nat):Int) > 2147483647 by omega)]
    cases (c.toNat:Int) == 45
    ·simp only [cond_false,aA]
     rw [if_pos trivial,eF (by omega),Int.one_mul]
    ·simp only [cond_false,cond_true,aA]
     rw [if_pos trivial,eF (by omega),Int.neg_mul,Int.one_mul]
 ·have hbad:d=[]∨10 < d.length∨d.all dgt=false:=by
   by_cases he:d=[]
   ·exact .inl he
   ·cases ha:d.all dgt
    ·exact .inr (.inr rfl)
    ·exact absurd ⟨he,ha⟩ hn
  rw [if_neg hn,bL6 hbad]
  cases (c.toNat:Int) == 45 <;> rfl
/-! ## References -/
def aM4 (w:List UInt8):Int×Int :=
 if w=[]∨3 < w.length∨((w.getD 0 0).toNat=48∧1 < w.length)∨w.all dgt=false then (0,5) else if val 0 w < 1∨255 < val 0 w then (0,3) else (((val 0 w:Nat):Int),0)
theorem bC1 {F:Nat} {w:List UInt8} (hl:w.length≤10000):lV F w=some (aM4 w):=by
 unfold lV aM4
 by_cases hn:w=[]
 ·subst hn; rfl
 ·have hpos:0 < w.length:=List.length_pos_iff.2 hn
  have hne:(w == [])=false:=by simpa using hn
  rw [aL (fun _=>⟨by omega,by omega⟩),hne,cond_false,aY,show (0:Int).toNat=0 from rfl]
  by_cases h3:3 < w.length
  ·rw [decide_eq_true (show (w.length:Int) > 3 by omega),if_pos (.inr (.inl h3))]; rfl
  ·rw [decide_eq_false (show ¬ (w.length:Int) > 3 by omega)]
   by_cases h48:(w.getD 0 0).toNat=48∧1 < w.length
   ·rw [if_pos (.inr (.inr (.inl h48))),show (((w.getD 0 0).toNat:Int) == 48)=true by rw [beq_iff_eq]; omega,decide_eq_true (show (w.length:Int) > 1 by omega)]; rfl
   ·have hz:(bif (((w.getD 0 0).toNat:Int) == 48) then (decide ((w.length:Int) > 1)) else false)=false:=by
     by_cases h:(w.getD 0 0).toNat=48
     ·rw [decide_eq_false (show ¬ (w.length:Int) > 1 by omega)]; cases ((w.getD 0 0).toNat:Int) == 48 <;> rfl
     ·rw [show (((w.getD 0 0).toNat:Int) == 48)=false by rw [beq_eq_false_iff_ne]; omega]; rfl
    rw [hz]
    rw [cS4,aE1]
    simp only [cond_false,Bool.and_true,beq_self_eq_true,cond_true,aA,aY]
    cases hall:w.all dgt
    ·rw [if_pos (by simp)]; rfl
    ·rw [if_neg (by simp only [not_or]; exact ⟨hn,h3,h48,by simp⟩)]
     simp only [Bool.not_true,cond_false]
     rw [aL (by omega),aS3 hall hn (by omega),aA]
     by_cases hb:val 0 w < 1∨255 < val 0 w
     ·rw [if_pos hb]
      rcases hb with hb | hb
      ·rw [decide_eq_true (by omega)]; rfl
      ·rw [decide_eq_true (show ((val 0 w:Nat):Int) > 255 by omega)]; cases decide (((val 0 w:Nat):Int) < 1) <;> rfl
     ·rw [if_neg hb,decide_eq_false (by omega),decide_eq_false (by omega)]; rfl
theorem aM0 {w:List UInt8} (h:w=[]∨3 < w.length∨((w.getD 0 0).toNat=48∧1 < w.length)∨w.all dgt=false):aM4 w=(0,5):=if_pos h
theorem bN1 {w:List UInt8} (h:¬ (w=[]∨3 < w.length∨((w.getD 0 0).toNat=48∧1 < w.length)∨w.all dgt=false)) (hb:val 0 w < 1∨255 < val 0 w):aM4 w=(0,3):=by unfold aM4; rw [if_neg h,if_pos hb]
theorem cS5 {w:List UInt8} (h:¬ (w=[]∨3 < w.length∨((w.getD 0 0).toNat=48∧1 < w.length)∨w.all dgt=false)) (hb:¬ (val 0 w < 1∨255 < val 0 w)):aM4 w=(((val 0 w:Nat):Int),0):=by unfold aM4; rw [if_neg h,if_neg hb]
theorem bJ2 {F:Nat} (hF:20000≤F) {w:List UInt8} (hl:w.length≤10000) :
  nX F w=some (if (aM4 w).2=0 then (⟨4,(aM4 w).1,[],0,0⟩,0) else (⟨0,0,[],0,0⟩,(aM4 w).2)):=by
 unfold nX
 rw [bM5 hl hF,aA]
 by_cases hn:w≠[]∧w.all dgt=true
 ·have hpos:0 < w.length:=List.length_pos_iff.2 hn.1
  rw [if_pos hn,aL (fun _=>⟨by omega,by omega⟩),aY,aY,show (0:Int).toNat=0 from rfl,decide_eq_false (show ¬ ((min (val 0 w) 1099511627776:Nat):Int) < 0 by omega)]
  by_cases h3:3 < w.length
  ·rw [decide_eq_true (show (w.length:Int) > 3 by omega),aM0 (.inr (.inl h3))]; rfl
  ·rw [decide_eq_false (show ¬ (w.length:Int) > 3 by omega)]
   have hv:=bU7 hn.2 (k:=3) (by omega)
   by_cases h48:(w.getD 0 0).toNat=48∧1 < w.length
   ·rw [aM0 (.inr (.inr (.inl h48))),show (((w.getD 0 0).toNat:Int) == 48)=true by rw [beq_iff_eq]; omega,decide_eq_true (show (w.length:Int) > 1 by omega)]; rfl
   ·have hz:(bif (decide ((w.length:Int) > 1)) then (((w.getD 0 0).toNat:Int) == 48) else false)=false:=by
     by_cases h:(w.getD 0 0).toNat=48
     ·rw [decide_eq_false (show ¬ (w.length:Int) > 1 by omega)]; rfl
     ·rw [show (((w.getD 0 0).toNat:Int) == 48)=false by rw [beq_eq_false_iff_ne]; omega]; cases decide ((w.length:Int) > 1) <;> rfl
    have hno:¬ (w=[]∨3 < w.length∨((w.getD 0 0).toNat=48∧1 < w.length)∨w.all dgt=false):=by simp only [not_or]; exact ⟨hn.1,h3,h48,by simp [hn.2]⟩
    rw [hz,Nat.min_eq_left (by omega)]
    simp only [cond_false]
    by_cases hb:val 0 w < 1∨255 < val 0 w
    ·rw [bN1 hno hb]
     rcases hb with hb | hb
     ·rw [show (((val 0 w:Nat):Int) == 0)=true by rw [beq_iff_eq]; omega]; rfl
     ·rw [decide_eq_true (show ((val 0 w:Nat):Int) > 255 by omega)]; cases ((val 0 w:Nat):Int) == 0 <;> rfl
    ·rw [cS5 hno hb,show (((val 0 w:Nat):Int) == 0)=false by rw [beq_eq_false_iff_ne]; omega,decide_eq_false (show ¬ ((val 0 w:Nat):Int) > 255 by omega)]; rfl
 ·have hbad:w=[]∨3 < w.length∨((w.getD 0 0).toNat=48∧1 < w.length)∨w.all dgt=false:=by
    by_cases he:w=[]
    ·exact .inl he
    ·cases ha:w.all dgt
     ·exact .inr (.inr (.inr rfl))
     ·exact absurd ⟨he,ha⟩ hn
  rw [if_neg hn,aM0 hbad]
  rw [aL (fun h=>by simp at h)]
  rfl
end Go.Vm.ObjM.Lx
