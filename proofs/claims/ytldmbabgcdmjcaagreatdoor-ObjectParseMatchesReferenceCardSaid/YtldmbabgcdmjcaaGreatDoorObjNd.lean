/-
  Row 37,plain law: the parser's small steps.
-/
import Derived.Test.YtldmbabgcdmjcaaGreatDoorObjNc
namespace Go.Vm.ObjM
open Go.Vm
def bad (a c:Int):Value:=.iface 44 (.agg ⟨[.int .i64 a,.int .i64 c]⟩)
theorem bD7 (F:Nat) (a c:Int):gK F a c=some (.inl (bad a c)):=rfl
theorem xS {α γ:Type} {v:Value} {kp:Value→Option γ} {k:α→Option γ}:gF (some (.inl v)) kp k=kp v:=rfl
theorem kQ {α γ:Type} {x:α} {kp:Value→Option γ} {k:α→Option γ}:gF (some (.inr x)) kp k=k x:=rfl
abbrev PSt:=List UInt8×Int×Int×List UInt8×Int×Int
def st (s:List UInt8) (t:aD):PSt:=(s,t.f0,t.f1,t.f2,t.f3,t.f4)
section
variable {F:Nat} {s:List UInt8} {t:aD} {p e j:Int}
theorem rJ (h:jI F s j=some (t,p,e)) (he:e≠0) (c1 c2:Int) (c3:List UInt8) (c4:Int):dG F s c1 c2 c3 c4 j=some (.inl (bad p e)):=by
 unfold dG
 rw [h,aA]
 have:(e != 0)=true:=by simpa using he
 dsimp only
 rw [this,cond_true,bD7,xS,bV]
theorem wQ (h:jI F s j=some (t,p,0)) (c1 c2:Int) (c3:List UInt8) (c4:Int):dG F s c1 c2 c3 c4 j=some (.inr (st s t)):=by
 unfold dG
 rw [h,aA]
 rfl
theorem bH5 (h:jI F s j=some (t,p,e)) (he:e≠0) (a0 a1 c1 c2:Int) (c3:List UInt8) (c4:Int):fU F a0 a1 s c1 c2 c3 c4 j=some (.inl (bad p e)):=by
 unfold fU
 rw [rJ h he,xS]
theorem bV0 (h:jI F s j=some (t,p,0)) (a0 a1 c1 c2:Int) (c3:List UInt8) (c4:Int):fU F a0 a1 s c1 c2 c3 c4 j=some (bif t.f0 == a0 then .inr (false,st s t) else bif t.f0 == 0 then .inl (bad t.f3 12) else bif a1 == 256 then .inl (bad t.f3 2) else .inr (true,st s t)):=by
 unfold fU
 rw [wQ h,kQ]
 unfold st
 dsimp only
 cases t.f0 == a0
 ·cases t.f0 == 0
  ·cases a1 == 256 <;> rfl
  ·rfl
 ·rfl
end
/-- A leaf,on both sides. -/
theorem cD8 (F:Nat) (s:List UInt8) (t:aD) (ht:t.f2.length≤1024):(∃ o,jM F t=some (o,0)∧iQ F s t.f0 t.f1 t.f2 t.f3 t.f4=some (.inr (o,st s t))∧Sm o)∨(jM F t=some (sD,6)∧iQ F s t.f0 t.f1 t.f2 t.f3 t.f4=some (.inl (bad t.f3 6))):=by
 have sm:∀ (k v:Int) (u:List UInt8),u.length≤1024→Sm ⟨k,v,u,[],[]⟩:=fun k v u hu=>.mk (Nat.le_trans hu (by decide)) (by simp) (by simp)
 have sm0:∀ (k v:Int),Sm ⟨k,v,[],[],[]⟩:=fun k v=>sm k v [] (by simp)
 unfold jM iQ
 cases t.f0 == 1
 ·cases t.f0 == 2
  ·cases t.f0 == 3
   ·cases t.f0 == 4
    ·cases t.f2 == [110,117,108,108]
     ·cases t.f2 == [116,114,117,101]
      ·cases t.f2 == [102,97,108,115,101]
       ·exact .inr ⟨rfl,rfl⟩
       ·exact .inl ⟨_,rfl,rfl,sm0 _ _⟩
      ·exact .inl ⟨_,rfl,rfl,sm0 _ _⟩
     ·exact .inl ⟨_,rfl,rfl,sm0 _ _⟩
    ·exact .inl ⟨_,rfl,rfl,sm0 _ _⟩
   ·exact .inl ⟨_,rfl,rfl,sm _ _ _ ht⟩
  ·exact .inl ⟨_,rfl,rfl,sm _ _ _ ht⟩
 ·exact .inl ⟨_,rfl,rfl,sm0 _ _⟩
/-- A step behind its token. -/
def lY (F:Nat) (s:List UInt8) (k:List bE→Int→Option (aG×Int×Int)) (l:List bE) (t:aD) (from_:Int):Option (aG×Int×Int) :=
  match dK F l.reverse t with
  | none=>none
  | some (end_,e)=>bif e != 0 then some (sD,from_,e) else
   bif end_ then (match l with
    | []=>none
    | f :: r=>bif f.f0.f1 == 0 && f.f0.f2.isEmpty then kM F s k r f.f0 t.f4 else none)
   else bif (match l with | f :: _=>f.f0.f0 == 7 && !f.f2 | []=>false) then (match l with
    | []=>none
    | f :: r=>k ({ f with f1:=t.f2,f2:=true } :: r) t.f4)
   else bif t.f0 == 6 then (bif decide (1000≤l.length) then none else k (⟨⟨6,0,[],[],[]⟩,[],false⟩ :: l) t.f4)
   else bif t.f0 == 8 then (bif decide (1000≤l.length) then none else k (⟨⟨7,0,[],[],[]⟩,[],false⟩ :: l) t.f4)
   else match jM F t with
    | none=>none
    | some (o,e)=>bif e != 0 then some (sD,from_,e) else kM F s k l o t.f4
theorem aZ9 {F:Nat} {s:List UInt8} {n:Nat} {l:List bE} {j:Int} {t:aD} {p e:Int} (h:lC F s j=some (t,p,e)) (he:e≠0):jY F s (n+1) l j=some (sD,p,e):=by
 unfold jY aK2
 rw [h]
 have:(e != 0)=true:=by simpa using he
 dsimp only
 rw [this,cond_true]
theorem go_ok {F:Nat} {s:List UInt8} {n:Nat} {l:List bE} {j:Int} {t:aD} {p:Int} (h:lC F s j=some (t,p,0)):jY F s (n+1) l j=lY F s (jY F s n) l t p:=by
 rw [jY]
 unfold aK2 lY
 rw [h]
 rfl
def bS4 (F:Nat) (s:List UInt8) (n j:Nat) (l:List bE) (po:Option (Sum Value (aG×PSt))) (ro:Option (aG×Int×Int)):Prop :=
 (∃ a c,c≠0∧po=some (.inl (bad a c))∧ro=some (sD,a,c)) ∨
 (∃ o t' j' n',po=some (.inr (o,st s t'))∧t'.f4=((j':Nat):Int)∧j≤j'∧j'≤s.length∧n+j≤n'+j'∧ro=kM F s (jY F s n') l o (j':Int)∧Sm o)
def bW0:List bE→Bool
 | f :: _=>f.f0.f0 == 7 && !f.f2
 | []=>false
def VP (F:Nat) (s:List UInt8) (m:Nat):Prop:=∀ (l:List bE) (t:aD) (j n fu:Nat),2 * (s.length - j)+1≤m→(t.f0=0∨(t.f4=(j:Int)∧j≤s.length))→t.f2.length≤1024→l.length≤12→15≤fu+(l.length+1)→s.length+1≤n+j →
 dK F l.reverse t=some (false,wF t l.length)→bW0 l=false →
 bS4 F s n j l (bL F fu ((l.length+1:Nat):Int) s t.f0 t.f1 t.f2 t.f3 t.f4) (lY F s (jY F s n) l t t.f3)
def fr6 (ks:List aG):bE:=⟨⟨6,0,[],[],ks⟩,[],false⟩
def LP (F:Nat) (s:List UInt8) (m:Nat):Prop:=∀ (l:List bE) (ks:List aG) (j n fu nl:Nat) (c1 c2:Int) (c3:List UInt8) (c4:Int),2 * (s.length - j)≤m→l.length≤11→ks.length≤256→(∀ x∈ks,Sm x)→15≤fu+(l.length+2)→s.length+1≤n+j→j≤s.length→258≤nl+ks.length →
 (∃ a c,c≠0∧eH F ((l.length+1:Nat):Int) (bL F fu) nl ks s c1 c2 c3 c4 (j:Int)=some (.esc (.inl (bad a c)))∧jY F s n (fr6 ks :: l) (j:Int)=some (sD,a,c)) ∨
 (∃ ks' t' j' n',eH F ((l.length+1:Nat):Int) (bL F fu) nl ks s c1 c2 c3 c4 (j:Int)=some (.go (ks',st s t'))∧t'.f4=((j':Nat):Int)∧j≤j'∧j'≤s.length∧n+j≤n'+j'∧jY F s n (fr6 ks :: l) (j:Int)=kM F s (jY F s n') l ⟨6,0,[],[],ks'⟩ (j':Int)∧∀ x∈ks',Sm x)
def fr7 (ks:List (List UInt8)) (ds:List aG) (k:List UInt8) (b:Bool):bE:=⟨⟨7,0,[],ks,ds⟩,k,b⟩
def DP (F:Nat) (s:List UInt8) (m:Nat):Prop:=∀ (l:List bE) (ks:List (List UInt8)) (ds:List aG) (k0:List UInt8) (j n fu nl:Nat) (c1 c2:Int) (c3:List UInt8) (c4:Int),2 * (s.length - j)≤m→l.length≤11→ds.length≤256→ks.length=ds.length→Srt ks→(∀ x∈ks,x.length≤1024)→(∀ x∈ds,Sm x)→15≤fu+(l.length+2)→s.length+1≤n+j→j≤s.length→258≤nl+ds.length →
 (∃ a c,c≠0∧eO F ((l.length+1:Nat):Int) (bL F fu) nl ks ds s c1 c2 c3 c4 (j:Int)=some (.esc (.inl (bad a c)))∧jY F s n (fr7 ks ds k0 false :: l) (j:Int)=some (sD,a,c)) ∨
 (∃ ks' ds' t' j' n',eO F ((l.length+1:Nat):Int) (bL F fu) nl ks ds s c1 c2 c3 c4 (j:Int)=some (.go (ks',ds',st s t'))∧t'.f4=((j':Nat):Int)∧j≤j'∧j'≤s.length∧n+j≤n'+j'∧jY F s n (fr7 ks ds k0 false :: l) (j:Int)=kM F s (jY F s n') l ⟨7,0,[],ks',ds'⟩ (j':Int)∧(∀ x∈ks',x.length≤1024)∧∀ x∈ds',Sm x)
theorem cW0 {F:Nat} {s:List UInt8} (hF:100000≤F) {m:Nat} (hL:∀ m',m' < m→LP F s m') (hD:∀ m',m' < m→DP F s m'):VP F s m:=by
 intro l t j n fu hm hj ht hl hfu hn hst hkey
 obtain ⟨fu,rfl⟩:∃ k,fu=k+1:=⟨fu - 1,by omega⟩
 rw [bL]
 unfold gG lY
 rw [hst]
 dsimp only
 unfold wF
 cases h0:t.f0 == 0 with
 | true=>exact .inl ⟨t.f3,12,by decide,rfl,rfl⟩
 | false =>
  cases h7:(bif t.f0 == 7 then true else t.f0 == 9) with
  | true=>exact .inl ⟨t.f3,5,by decide,rfl,rfl⟩
  | false =>
   have hj':t.f4=(j:Int)∧j≤s.length:=hj.resolve_left (by simpa using h0)
   by_cases hd:12≤l.length
   ·rw [decide_eq_true hd,decide_eq_true (show ((l.length+1:Nat):Int) > 12 by omega)]
    exact .inl ⟨t.f3,15,by decide,rfl,rfl⟩
   ·rw [decide_eq_false hd,decide_eq_false (show ¬ ((l.length+1:Nat):Int) > 12 by omega)]
    change bS4 F s n j l _ (bif bW0 l then _ else _)
    rw [hkey,cond_false,decide_eq_false (show ¬ 1000≤l.length by omega)]
    simp only [cond_false]
    cases h6:t.f0 == 6 with
    | true =>
     simp only [cond_true]
     unfold lQ
     rw [hj'.1]
     rcases hL (2 * (s.length - j)) (by omega) l [] j n fu F t.f0 t.f1 t.f2 t.f3 (Nat.le_refl _) (by omega) (by simp) (by simp) (by omega) hn hj'.2 (by simp; omega) with ⟨a,c,hc,g1,g2⟩ | ⟨ks',t',j',n',g1,g2,g3,g4,g5,g6,g7⟩
     ·rw [g1]
      exact .inl ⟨a,c,hc,rfl,g2⟩
     ·rw [g1]
      exact .inr ⟨⟨6,0,[],[],ks'⟩,t',j',n',rfl,g2,g3,g4,g5,g6,.mk (by simp) (by simp) g7⟩
    | false =>
     simp only [cond_false]
     cases h8:t.f0 == 8 with
     | true =>
      simp only [cond_true]
      unfold lK
      rw [hj'.1]
      rcases hD (2 * (s.length - j)) (by omega) l [] [] [] j n fu F t.f0 t.f1 t.f2 t.f3 (Nat.le_refl _) (by omega) (by simp) rfl List.Pairwise.nil (by simp) (by simp) (by omega) hn hj'.2 (by simp; omega) with ⟨a,c,hc,g1,g2⟩ | ⟨ks',ds',t',j',n',g1,g2,g3,g4,g5,g6,g7,g8⟩
      ·rw [g1]
       exact .inl ⟨a,c,hc,rfl,g2⟩
      ·rw [g1]
       exact .inr ⟨⟨7,0,[],ks',ds'⟩,t',j',n',rfl,g2,g3,g4,g5,g6,.mk (by simp) (fun x hx=>Nat.le_trans (g7 x hx) (by decide)) g8⟩
     | false =>
      simp only [cond_false]
      rcases cD8 F s t ht with ⟨o,q1,q2,q3⟩ | ⟨q1,q2⟩
      ·rw [q1,q2]
       exact .inr ⟨o,t,j,n,rfl,hj'.1,Nat.le_refl _,hj'.2,Nat.le_refl _,by rw [← hj'.1]; rfl,q3⟩
      ·rw [q1,q2]
       exact .inl ⟨t.f3,6,by decide,rfl,rfl⟩
end Go.Vm.ObjM
