/-
  token,reading: plain law 6: texts between parentheses,in the reference.
-/
import Derived.Test.YtldmbabgcdmjcaaGreatDoorObjXe
namespace Go.Vm.ObjM.Lx
theorem cU1 {F:Nat} {s:List UInt8} (hs:s.length≤10000) (hF:20000≤F) {i:Nat} (hi:i≤s.length) :
  ∃ x,jF F s (i:Int)=some x∧(match vG 20000 (s.drop i) 1 [] with
   | .inl (w,r)=>x=(w,0,s,((lW s r:Nat):Int))
   | .inr e=>e≠0∧x.2.1=e∧x.2.2.1=s) :=
 aZ7 s hs (s.length - i) i F 20000 1 [] (by omega) (by omega) (by omega) (by omega) (by omega) (by simp; omega)
/-- What the reference makes of it. -/
def aU1 (l:List UInt8):Sum (List UInt8×List UInt8) Int→aD×Int×Int
 | .inl (w,r)=>(⟨3,0,w,0,0⟩,((lW l r:Nat):Int),0)
 | .inr e=>(⟨0,0,[],0,0⟩,0,e)
def bR9 (v13:Int):Option (aD×Int×Int):=bif (decide (v13 > (1:Int))) then some ((aD.mk 0 0 [] 0 0),(0:Int),(5:Int)) else some ((aD.mk 0 0 [] 0 0),(0:Int),(12:Int))
/-- What map1 answers. -/
def cX8 (e:UInt8):Int:=match bD8 e with | some x=>(x.toNat:Int) | none=>bif (e.toNat:Int) == 10 then -1 else -2
theorem cU2 (F:Nat) (e:UInt8):vH F (e.toNat:Int)=some (cX8 e):=by
 unfold vH cX8 bD8
 have hv1:(bif ((e.toNat:Int) == (92:Int)) then some ((e.toNat:Int) == (92:Int)) else bif ((e.toNat:Int) == (40:Int)) then some ((e.toNat:Int) == (40:Int)) else some ((e.toNat:Int) == (41:Int)))=some (bif (e.toNat:Int) == 92 then true else bif (e.toNat:Int) == 40 then true else (e.toNat:Int) == 41):=by
  cases (e.toNat:Int) == 92 <;> cases (e.toNat:Int) == 40 <;> rfl
 rw [hv1,aA,eF (by have:=e.toNat_lt; omega)]
 cases (e.toNat:Int) == 110
 ·cases (e.toNat:Int) == 116
  ·cases (bif (e.toNat:Int) == 92 then true else bif (e.toNat:Int) == 40 then true else (e.toNat:Int) == 41)
   ·cases (e.toNat:Int) == 10 <;> rfl
   ·rfl
  ·rfl
 ·rfl
theorem aF5 {a:UInt8} {x:Nat} (h:qB a=some x):aK1 a=(x:Int):=by unfold aK1; rw [h]
/-- State 3: the second digit. -/
theorem st3 {F:Nat} (hF:20000≤F) {l:List UInt8} (hl:l.length≤10000) {n i d x:Nat} {acc:List UInt8} (hi:i≤l.length) (ha:acc.length≤100000) (hx:x < 16) :
  dA (bR F l (n+1) acc (d:Int) 3 (x:Int) (i:Int)) (fun e=>some e) bR9=(match l.drop i with
   | []=>some (⟨0,0,[],0,0⟩,0,5)
   | b :: _=>match qB b with
    | some y=>dA (bR F l n (acc++[UInt8.ofNat (x * 16+y)]) (d:Int) 0 (y:Int) ((i+1:Nat):Int)) (fun e=>some e) bR9
    | none=>some (⟨0,0,[],0,0⟩,0,5)):=by
 by_cases he:i=l.length
 ·subst he
  rw [bR,fG,cond_false,List.drop_length,aW]; rfl
 ·have hlt:i < l.length:=by omega
  rw [bR,dec_lt hlt,cond_true,eD hlt,bM,bS (by omega),bX hlt]
  generalize l.getD i 0=b at *
  rw [show ((3:Int) == 1)=false from rfl,show decide ((3:Int) > 1)=true from rfl]
  simp only [cond_false,cond_true]
  rw [bT4 (by omega),aA,xJ]
  cases hb:qB b with
  | none=>rfl
  | some y =>
   have hy:=qW hb
   rw [aF5 hb,show ((3:Int) == 3)=true from rfl]
   simp only [Option.isNone_some,cond_false,cond_true]
   rw [aT4 hx hy,bM,aL ⟨by omega,by omega⟩,aL (by simp; omega),aY,aA,aW]
   rfl
/-- State 2: the first digit. -/
theorem st2 {F:Nat} (hF:20000≤F) {l:List UInt8} (hl:l.length≤10000) {n i d:Nat} {h4:Int} {acc:List UInt8} (hi:i≤l.length) (_:acc.length≤100000) :
  dA (bR F l (n+1) acc (d:Int) 2 h4 (i:Int)) (fun e=>some e) bR9=(match l.drop i with
   | []=>some (⟨0,0,[],0,0⟩,0,5)
   | a :: _=>match qB a with
    | some x=>dA (bR F l n acc (d:Int) 3 (x:Int) ((i+1:Nat):Int)) (fun e=>some e) bR9
    | none=>some (⟨0,0,[],0,0⟩,0,5)):=by
 by_cases he:i=l.length
 ·subst he
  rw [bR,fG,cond_false,List.drop_length,aW]; rfl
 ·have hlt:i < l.length:=by omega
  rw [bR,dec_lt hlt,cond_true,eD hlt,bM,bS (by omega),bX hlt]
  generalize l.getD i 0=a at *
  rw [show ((2:Int) == 1)=false from rfl,show decide ((2:Int) > 1)=true from rfl]
  simp only [cond_false,cond_true]
  rw [bT4 (by omega),aA,xJ]
  cases hb:qB a with
  | none=>rfl
  | some x =>
   rw [aF5 hb,show ((2:Int) == 3)=false from rfl]
   simp only [Option.isNone_some,cond_false,aA,aW]
   rfl
/-- State 1: behind the backslash. -/
theorem st1 {F:Nat} (hF:20000≤F) {l:List UInt8} (hl:l.length≤10000) {n i d:Nat} {h4:Int} {acc:List UInt8} (hi:i≤l.length) (ha:acc.length≤50000) :
  ∃ m h4',dA (bR F l (n+3) acc (d:Int) 1 h4 (i:Int)) (fun e=>some e) bR9=(match aU0 (l.drop i) acc with
   | .inl (w,r)=>dA (bR F l m w (d:Int) 0 h4' ((lW l r:Nat):Int)) (fun e=>some e) bR9
   | .inr e=>some (⟨0,0,[],0,0⟩,0,e))∧(∀ w r,aU0 (l.drop i) acc=.inl (w,r)→n+3+r.length≤m+(l.length - i)):=by
 by_cases he:i=l.length
 ·subst he
  rw [bR,fG,cond_false,List.drop_length,aW,cI2]
  exact ⟨n,0,rfl,fun w r h=>by cases h⟩
 ·have hlt:i < l.length:=by omega
  rw [bR,dec_lt hlt,cond_true,eD hlt,bM,bS (by omega),bX hlt,aH0]
  have hp1:=pR (s:=l) (i:=i+1) (by omega)
  have hdr:=fun (h:i+1 < l.length)=>bX h
  unfold cH2
  generalize l.getD i 0=e at *
  rw [show ((1:Int) == 1)=true from rfl]
  simp only [cond_true,cU2]
  cases hx:(e.toNat:Int) == 120
  ·simp only [cond_false,aA]
   unfold cX8
   cases hb:bD8 e with
   | some x =>
    have hxr:=aD7 x
    have h10:((e.toNat:Int) == 10)=false:=by
     cases h10:(e.toNat:Int) == 10
     ·rfl
     ·rw [beq_iff_eq] at h10
      unfold bD8 at hb
      rw [h10] at hb; cases hb
    refine ⟨n+2,h4,?_,fun w r h=>by simp only [h10,cond_false] at h; cases h; rw [List.length_drop]; omega⟩
    simp only [h10,cond_false]
    rw [show ((x.toNat:Int) == -2)=false by rw [beq_eq_false_iff_ne]; omega,decide_eq_true (show (x.toNat:Int) ≥ 0 by omega)]
    simp only [cond_false,cond_true]
    rw [wrap_u8 hxr,aL hxr,aL (by simp; omega),ofc,aW,hp1]
   | none =>
    cases h10:(e.toNat:Int) == 10
    ·exact ⟨n,0,rfl,fun w r h=>by cases h⟩
    ·refine ⟨n+2,h4,?_,fun w r h=>by cases h; rw [List.length_drop]; omega⟩
     simp only [cond_true]
     rw [show ((-1:Int) == -2)=false from rfl,show decide ((-1:Int) ≥ 0)=false from rfl]
     simp only [cond_false,aW]
     rw [hp1]
  ·have h120:(e.toNat:Int)=120:=by simpa using hx
   have h10:((e.toNat:Int) == 10)=false:=by rw [h120]; rfl
   have hb:bD8 e=none:=by unfold bD8; rw [h120]; rfl
   simp only [h10,hb,cond_true,cond_false,aW]
   rw [st2 hF hl (n:=n+1) (by omega) (by omega)]
   by_cases h1:i+1=l.length
   ·rw [h1,List.drop_length]
    exact ⟨n,0,rfl,fun w r h=>by cases h⟩
   ·rw [hdr (by omega)]
    simp only
    generalize l.getD (i+1) 0=a at *
    cases hva:qB a with
    | none =>
     cases hd2:l.drop (i+1+1) with
     | nil=>exact ⟨n,0,rfl,fun w r h=>by cases h⟩
     | cons b q =>
      have:pX a b=none:=by unfold pX; rw [hva]
      refine ⟨n,0,?_,fun w r h=>?_⟩
      ·simp only [this]
      ·simp only [this] at h; cases h
    | some x =>
     simp only
     rw [st3 hF hl (n:=n) (by omega) (by omega) (qW hva)]
     by_cases h2:i+1+1=l.length
     ·rw [h2,List.drop_length]
      exact ⟨n,0,rfl,fun w r h=>by cases h⟩
     ·have hd2:=bX (s:=l) (i:=i+1+1) (by omega)
      rw [hd2]
      simp only
      generalize l.getD (i+1+1) 0=b at *
      cases hvb:qB b with
      | none =>
       have:pX a b=none:=by unfold pX; rw [hva,hvb]
       exact ⟨n,0,by simp only [this],fun w r h=>by simp only [this] at h; cases h⟩
      | some y =>
       have:pX a b=some (x * 16+y):=by unfold pX; rw [hva,hvb]
       have hp3:=pR (s:=l) (i:=i+1+1+1) (by omega)
       exact ⟨n,(y:Int),by simp only [this]; rw [hp3],fun w r h=>by simp only [this] at h; cases h; rw [List.length_drop]; omega⟩
theorem bA4 {F:Nat} (hF:20000≤F) (l:List UInt8) (hl:l.length≤10000):∀ (m i n k d:Nat) (h4:Int) (acc:List UInt8),i+m=l.length→m+5 < n→m < k→1≤d→d≤16→acc.length+m≤50000 →
  dA (bR F l n acc (d:Int) 0 h4 (i:Int)) (fun e=>some e) bR9=some (aU1 l (vG k (l.drop i) d acc)):=by
 intro m
 induction m using Nat.strongRecOn with
 | _ m ih =>
  intro i n k d h4 acc hi hn hk hd1 hd2 ha
  obtain ⟨n,rfl⟩:∃ q,n=q+1:=⟨n - 1,by omega⟩
  obtain ⟨k,rfl⟩:∃ q,k=q+1:=⟨k - 1,by omega⟩
  by_cases hm:m=0
  ·obtain rfl:i=l.length:=by omega
   rw [bR,fG,cond_false,List.drop_length,aW]; rfl
  ·have hlt:i < l.length:=by omega
   rw [bR,dec_lt hlt,cond_true,eD hlt,bM,bS (by omega),bX hlt,vG]
   have hp1:=pR (s:=l) (i:=i+1) (by omega)
   generalize l.getD i 0=c at *
   have hcr:=aD7 c
   rw [show ((0:Int) == 1)=false from rfl,show decide ((0:Int) > 1)=false from rfl]
   simp only [cond_false]
   cases h92:(c.toNat:Int) == 92
   ·simp only [cond_false]
    cases h40:(c.toNat:Int) == 40
    ·cases h41:(c.toNat:Int) == 41
     ·simp only [cond_false,aA]
      rw [decide_eq_false (show ¬ (d:Int) > 16 by omega)]
      simp only [cond_false]
      rw [aL hcr,aL (by simp; omega),ofc,aW]
      exact ih (m - 1) (by omega) (i+1) n k d _ _ (by omega) (by omega) (by omega) hd1 hd2 (by simp; omega)
     ·simp only [cond_false,cond_true,aA]
      by_cases hd:d=1
      ·rw [show ((d:Int) == 1)=true by rw [beq_iff_eq]; omega,decide_eq_true hd]
       simp only [cond_true]
       by_cases h1024:1024 < acc.length
       ·rw [decide_eq_true (show (acc.length:Int) > 1024 by omega),decide_eq_true h1024]; rfl
       ·rw [decide_eq_false (show ¬ (acc.length:Int) > 1024 by omega),decide_eq_false h1024]
        simp only [cond_false,bV,aU1]
        rw [hp1]
      ·rw [show ((d:Int) == 1)=false by rw [beq_eq_false_iff_ne]; omega,decide_eq_false hd,eF (by omega)]
       simp only [cond_false]
       rw [decide_eq_false (show ¬ (d:Int) - 1 > 16 by omega)]
       simp only [cond_false]
       rw [aL hcr,aL (by simp; omega),ofc,aW,show (d:Int) - 1=((d - 1:Nat):Int) by omega]
       exact ih (m - 1) (by omega) (i+1) n k (d - 1) _ _ (by omega) (by omega) (by omega) (by omega) (by omega) (by simp; omega)
    ·have h41:((c.toNat:Int) == 41)=false:=by
      have:(c.toNat:Int)=40:=by simpa using h40
      rw [this]; rfl
     simp only [h41,cond_false,cond_true,aA]
     rw [eF (by omega)]
     by_cases hd:16 < d+1
     ·rw [decide_eq_true (show (d:Int)+1 > 16 by omega),decide_eq_true hd]; rfl
     ·rw [decide_eq_false (show ¬ (d:Int)+1 > 16 by omega),decide_eq_false hd]
      simp only [cond_false]
      rw [aL hcr,aL (by simp; omega),ofc,aW,show (d:Int)+1=((d+1:Nat):Int) by omega]
      exact ih (m - 1) (by omega) (i+1) n k (d+1) _ _ (by omega) (by omega) (by omega) (by omega) (by omega) (by simp; omega)
   ·simp only [cond_true,aW]
    obtain ⟨n,rfl⟩:∃ q,n=q+3:=⟨n - 3,by omega⟩
    obtain ⟨n',h4',h1,h2⟩:=st1 hF hl (n:=n) (i:=i+1) (d:=d) (h4:=h4) (acc:=acc) (by omega) (by omega)
    refine Eq.trans h1 ?_
    cases he:aU0 (l.drop (i+1)) acc with
    | inl p =>
     obtain ⟨w,r⟩:=p
     have h3:=h2 w r he
     obtain ⟨g1,g2,g3⟩:=aS7 he
     rw [List.length_drop] at g1
     have hsuf:=bD6 g3
     have hpr:lW l r=l.length - r.length:=rfl
     simp only
     rw [ih (l.length - lW l r) (by omega) (lW l r) n' k d h4' w (by omega) (by omega) (by omega) hd1 hd2 (by omega),yN hsuf]
    | inr e=>rfl
theorem bA9 {F:Nat} (hF:20000≤F) {l:List UInt8} (hl:l.length≤10000):pF F l=some (aU1 l (vG 20000 l 1 [])) :=
 bA4 hF l hl l.length 0 F 20000 1 0 [] (by omega) (by omega) (by omega) (by omega) (by omega) (by simp; omega)
end Go.Vm.ObjM.Lx
