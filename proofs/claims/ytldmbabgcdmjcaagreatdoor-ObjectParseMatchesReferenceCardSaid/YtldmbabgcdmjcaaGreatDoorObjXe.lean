/-
  token,reading: plain law 5: texts between parentheses.
-/
import Derived.Test.YtldmbabgcdmjcaaGreatDoorObjXd
namespace Go.Vm.ObjM.Lx
def bD8 (e:UInt8):Option UInt8 :=
 bif (e.toNat:Int) == 110 then some 10 else bif (e.toNat:Int) == 116 then some 9 else
 bif (bif (e.toNat:Int) == 92 then true else bif (e.toNat:Int) == 40 then true else (e.toNat:Int) == 41) then some e else none
/-- What stands behind a backslash: the text with it and the rest; the error. -/
def cH2 (e:UInt8) (r acc:List UInt8):Sum (List UInt8×List UInt8) Int :=
 bif (e.toNat:Int) == 10 then .inl (acc,r) else
 match bD8 e with
 | some x=>.inl (acc++[x],r)
 | none =>
  bif (e.toNat:Int) == 120 then
   match r with
   | a :: b :: q=>match pX a b with
    | some v=>.inl (acc++[UInt8.ofNat v],q)
    | none=>.inr 5
   | _=>.inr 5
  else .inr 5
def aU0 (l acc:List UInt8):Sum (List UInt8×List UInt8) Int :=
 match l with
 | []=>.inr 12
 | e :: r=>cH2 e r acc
theorem cI2 (acc:List UInt8):aU0 [] acc=.inr 12:=rfl
theorem aH0 (e:UInt8) (r acc:List UInt8):aU0 (e :: r) acc=cH2 e r acc:=rfl
theorem aS7 {l acc w r:List UInt8} (h:aU0 l acc=.inl (w,r)):r.length < l.length∧w.length≤acc.length+1∧r <:+ l:=by
 match l,h with
 | e :: r',h =>
  rw [aH0] at h
  unfold cH2 at h
  cases h10:(e.toNat:Int) == 10
  ·simp only [h10,cond_false] at h
   cases hb:bD8 e with
   | some x =>
    simp only [hb] at h
    cases h
    exact ⟨by simp,by simp,List.suffix_cons _ _⟩
   | none =>
    simp only [hb] at h
    cases hx:(e.toNat:Int) == 120
    ·simp only [hx,cond_false] at h; cases h
    ·simp only [hx,cond_true] at h
     match r',h with
     | [],h=>cases h
     | [_],h=>cases h
     | a :: b :: q,h =>
      cases hp:pX a b with
      | none=>simp only [hp] at h; cases h
      | some v =>
       simp only [hp] at h
       cases h
       exact ⟨by simp; omega,by simp,(List.suffix_cons b r).trans ((List.suffix_cons a _).trans (List.suffix_cons e _))⟩
  ·simp only [h10,cond_true] at h
   cases h
   exact ⟨by simp,by omega,List.suffix_cons _ _⟩
def vG:Nat→List UInt8→Nat→List UInt8→Sum (List UInt8×List UInt8) Int
 | 0,_,_,_=>.inr 12
 | _+1,[],_,_=>.inr 12
 | k+1,c :: t,d,acc =>
  bif (c.toNat:Int) == 92 then
   match aU0 t acc with
   | .inl (w,r)=>vG k r d w
   | .inr e=>.inr e
  else bif (c.toNat:Int) == 40 then (bif decide (16 < d+1) then .inr 15 else vG k t (d+1) (acc++[c]))
  else bif (c.toNat:Int) == 41 then (bif decide (d=1) then (bif decide (1024 < acc.length) then .inr 2 else .inl (acc,t)) else vG k t (d - 1) (acc++[c]))
  else vG k t d (acc++[c])
theorem aD4 (F:Nat) {x:UInt8} {acc:List UInt8} (h:acc.length≤200000):aN F (x.toNat:Int) acc=some ((),acc++[x]):=by
 unfold aN
 rw [aL (aD7 x),aL (by simp; omega),ofc]
theorem yT (F:Nat) {v:Nat} (hv:v < 256) {acc:List UInt8} (h:acc.length≤200000):aN F ((v:Nat):Int) acc=some ((),acc++[UInt8.ofNat v]):=by
 unfold aN
 rw [aL ⟨by omega,by omega⟩,aL (by simp; omega),bM]
/-- The escape,in the reader. -/
theorem cD1 {F:Nat} {s:List UInt8} (hs:s.length≤10000) {i:Nat} (hi:i≤s.length) {acc:List UInt8} (ha:acc.length≤100000) :
  ∃ x,jL F s (i:Int) acc=some x∧(match aU0 (s.drop i) acc with
   | .inl (w,r)=>x=(0,s,((lW s r:Nat):Int),w)
   | .inr e=>e≠0∧x.1=e∧x.2.1=s):=by
 unfold jL
 by_cases he:i=s.length
 ·subst he
  rw [show (((s.length:Nat):Int) == (s.length:Int))=true by simp,cond_true,List.drop_length]
  exact ⟨_,rfl,by decide,rfl,rfl⟩
 ·have hlt:i < s.length:=by omega
  rw [show ((i:Int) == (s.length:Int))=false by rw [beq_eq_false_iff_ne]; omega,cond_false,eD hlt,bM,bS (by omega),bX hlt]
  have hp1:=pR (s:=s) (i:=i+1) (by omega)
  rw [aH0]
  unfold cH2
  have hdr:=fun (h:i+1 < s.length)=>bX h
  generalize s.getD i 0=e at *
  cases h10:(e.toNat:Int) == 10
  ·simp only [cond_false]
   unfold bD8
   cases h110:(e.toNat:Int) == 110
   ·cases h116:(e.toNat:Int) == 116
    ·have hv1:(bif ((e.toNat:Int) == (92:Int)) then some ((e.toNat:Int) == (92:Int)) else bif ((e.toNat:Int) == (40:Int)) then some ((e.toNat:Int) == (40:Int)) else some ((e.toNat:Int) == (41:Int)))=some (bif (e.toNat:Int) == 92 then true else bif (e.toNat:Int) == 40 then true else (e.toNat:Int) == 41):=by
      cases (e.toNat:Int) == 92 <;> cases (e.toNat:Int) == 40 <;> rfl
     simp only [cond_false]
     rw [hv1,aA]
     cases (bif (e.toNat:Int) == 92 then true else bif (e.toNat:Int) == 40 then true else (e.toNat:Int) == 41)
     ·simp only [cond_false]
      cases hx:(e.toNat:Int) == 120
      ·exact ⟨_,rfl,by decide,rfl,rfl⟩
      ·simp only [cond_true]
       by_cases h2:s.length < i+3
       ·rw [bG3 hs (by omega) (by omega),aA]
        have hl:(s.drop (i+1)).length < 2:=by rw [List.length_drop]; omega
        match s.drop (i+1),hl with
        | [],_=>exact ⟨_,rfl,by decide,rfl,rfl⟩
        | [_],_=>exact ⟨_,rfl,by decide,rfl,rfl⟩
       ·obtain ⟨z,hz,hzv⟩:=bG0 (F:=F) hs (i:=i+1) (by omega)
        have hd2:=bX (s:=s) (i:=i+1+1) (by omega)
        rw [hz,aA,hdr (by omega),hd2]
        cases hp:pX (s.getD (i+1) 0) (s.getD (i+1+1) 0) with
        | none =>
         refine ⟨_,rfl,?_⟩
         simp only [hp]
         exact ⟨by decide,trivial,trivial⟩
        | some v =>
         rw [hzv v hp]
         simp only [Option.isSome_some,Bool.not_true,cond_false,aW]
         rw [yT F (bF7 hp) (by omega),aA]
         refine ⟨_,rfl,?_⟩
         simp only [hp]
         rw [show i+1+1+1=i+1+2 from rfl,pR (by omega)]
     ·simp only [cond_true,aW]
      rw [aD4 F (by omega),aA]
      exact ⟨_,rfl,by rw [hp1]⟩
    ·simp only [cond_false,cond_true,aW]
     rw [show (9:Int)=((9:Nat):Int) from rfl,yT F (by omega) (by omega),aA]
     exact ⟨_,rfl,by rw [hp1]; rfl⟩
   ·simp only [cond_true,aW]
    rw [show (10:Int)=((10:Nat):Int) from rfl,yT F (by omega) (by omega),aA]
    exact ⟨_,rfl,by rw [hp1]; rfl⟩
  ·exact ⟨_,rfl,by simp only [cond_true]; rw [hp1]⟩
theorem aZ7 {F:Nat} (s:List UInt8) (hs:s.length≤10000):∀ (m i n k d:Nat) (acc:List UInt8),i+m=s.length→m < n→m < k→1≤d→d≤16→acc.length+m≤50000 →
  ∃ x,dA (bZ F n acc s (i:Int) (d:Int)) (fun e=>some e) (fun (v6,v7)=>some ([],(12:Int),v6,v7))=some x∧(match vG k (s.drop i) d acc with
   | .inl (w,r)=>x=(w,0,s,((lW s r:Nat):Int))
   | .inr e=>e≠0∧x.2.1=e∧x.2.2.1=s):=by
 intro m
 induction m using Nat.strongRecOn with
 | _ m ih =>
  intro i n k d acc hi hn hk hd1 hd2 ha
  obtain ⟨n,rfl⟩:∃ q,n=q+1:=⟨n - 1,by omega⟩
  obtain ⟨k,rfl⟩:∃ q,k=q+1:=⟨k - 1,by omega⟩
  by_cases hm:m=0
  ·obtain rfl:i=s.length:=by omega
   rw [bZ,fG,cond_false,List.drop_length,aW]
   exact ⟨_,rfl,by decide,rfl,rfl⟩
  ·have hlt:i < s.length:=by omega
   rw [bZ,dec_lt hlt,cond_true,eD hlt,bM,bS (by omega),bX hlt,vG]
   have hp1:=pR (s:=s) (i:=i+1) (by omega)
   generalize s.getD i 0=c at *
   cases h92:(c.toNat:Int) == 92
   ·simp only [cond_false]
    cases h40:(c.toNat:Int) == 40
    ·cases h41:(c.toNat:Int) == 41
     ·simp only [cond_false,aW]
      rw [show ((d:Int) == 0)=false by rw [beq_eq_false_iff_ne]; omega,cond_false,aD4 F (by omega),aA]
      exact ih (m - 1) (by omega) (i+1) n k d _ (by omega) (by omega) (by omega) hd1 hd2 (by simp; omega)
     ·simp only [cond_false,cond_true,aW]
      rw [eF (by omega)]
      by_cases hd:d=1
      ·rw [show (((d:Int) - 1) == 0)=true by rw [beq_iff_eq]; omega,cond_true,aL (by omega),decide_eq_true hd]
       unfold eX
       by_cases h1024:1024 < acc.length
       ·rw [decide_eq_true (show (acc.length:Int) > 1024 by omega),decide_eq_true h1024]
        exact ⟨_,rfl,by decide,rfl,rfl⟩
       ·rw [decide_eq_false (show ¬ (acc.length:Int) > 1024 by omega),decide_eq_false h1024]
        refine ⟨_,rfl,?_⟩
        simp only [cond_true,cond_false]
        rw [hp1]
      ·rw [show (((d:Int) - 1) == 0)=false by rw [beq_eq_false_iff_ne]; omega,cond_false,aD4 F (by omega),aA,decide_eq_false hd,cond_false,show (d:Int) - 1=((d - 1:Nat):Int) by omega]
       exact ih (m - 1) (by omega) (i+1) n k (d - 1) _ (by omega) (by omega) (by omega) (by omega) (by omega) (by simp; omega)
    ·simp only [cond_true]
     rw [eF (by omega)]
     by_cases hd:16 < d+1
     ·rw [decide_eq_true (show (d:Int)+1 > 16 by omega),decide_eq_true hd]
      exact ⟨_,rfl,by decide,rfl,rfl⟩
     ·rw [decide_eq_false (show ¬ (d:Int)+1 > 16 by omega),decide_eq_false hd]
      simp only [cond_false,aW]
      rw [show (((d:Int)+1) == 0)=false by rw [beq_eq_false_iff_ne]; omega,cond_false,aD4 F (by omega),aA,show (d:Int)+1=((d+1:Nat):Int) by omega]
      exact ih (m - 1) (by omega) (i+1) n k (d+1) _ (by omega) (by omega) (by omega) (by omega) (by omega) (by simp; omega)
   ·simp only [cond_true]
    obtain ⟨x,hx,hxs⟩:=cD1 (F:=F) hs (i:=i+1) (by omega) (acc:=acc) (by omega)
    rw [hx,aA]
    cases he:aU0 (s.drop (i+1)) acc with
    | inl p =>
     obtain ⟨w,r⟩:=p
     rw [he] at hxs
     obtain rfl:=hxs
     obtain ⟨h1,h2,h3⟩:=aS7 he
     rw [List.length_drop] at h1
     have hsuf:=bD6 h3
     have hpr:lW s r=s.length - r.length:=rfl
     have:=ih (s.length - lW s r) (by omega) (lW s r) n k d w (by omega) (by omega) (by omega) hd1 hd2 (by omega)
     rw [yN hsuf] at this
     exact this
    | inr e =>
     rw [he] at hxs
     obtain ⟨h1,h2,h3⟩:=hxs
     have hb:(x.1 != 0)=true:=by rw [h2]; simpa using h1
     rw [hb,cond_true]
     exact ⟨_,rfl,h1,h2,h3⟩
end Go.Vm.ObjM.Lx
