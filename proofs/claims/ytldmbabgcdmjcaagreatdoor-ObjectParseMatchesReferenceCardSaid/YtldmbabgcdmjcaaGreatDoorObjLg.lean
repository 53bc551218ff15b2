/-
  TICKETS,PLAIN,part 3: the printed form of an object,and its error.
-/
import Derived.Test.YtldmbabgcdmjcaaGreatDoorObjLf
namespace Go.Vm.ObjM
abbrev tk0:aD:=aD.mk 0 0 [] 0 0
/-- Does what is printed of a token end with a letter of a word? -/
def vL (t:aD):Bool:=(t.f0 == 1 || t.f0 == 2) || (t.f0 == 4 || t.f0 == 5)
theorem TOk.kind {F:Nat} {t:aD} (h:TOk F t):1≤t.f0∧t.f0≤9:=by
 obtain ⟨s,h1,_,_⟩:=h
 obtain ⟨k,v,x,p,q⟩:=t
 by_cases hk:k < 1∨9 < k
 ·have h14:bD F ⟨k,v,x,p,q⟩=some ([],14):=by
   rcases hk with h | h <;> simp [bD,bQ,aA,bV,aY,h]
  rw [h14] at h1
  cases h1
 ·simp only
  omega
theorem gate {α:Type} {p:Prop} [Decidable p] {b:Bool} {k:Option α} (h:b=true→p):chk (((b == true) && true)=true→p) k=k:=aL fun h'=>h (by simpa using h')
theorem dE3 {b:Bool} {X:Option Bool} {x:Bool} (h:X=some x):(bif ((b == true) && true) then X else some false)=some (b && x):=by cases b <;> simp [h]
theorem join_eq {F:Nat} (l:List aD) (y:(List aD)×Int×Int) (hy:y.1=l) (hok:sG F l) (hl:l.length≤1000000) :
  ∀ (m i n:Nat) (v1:List UInt8),i+m=l.length→m < n→v1.length≤8192 →
   (jO F l n v1 (decide (0 < i) && vL (l.getD (i - 1) tk0)) i=some (.esc ([],2))∧jQ F y n v1 i=some (.esc ([],2))) ∨
   ∃ r:List UInt8,r.length≤8192∧jO F l n v1 (decide (0 < i) && vL (l.getD (i - 1) tk0)) i=some (.go r)∧jQ F y n v1 i=some (.go r):=by
 intro m
 induction m with
 | zero =>
  intro i n v1 h hn hv
  obtain ⟨n,rfl⟩:∃ k,n=k+1:=⟨n - 1,by omega⟩
  obtain rfl:i=l.length:=by omega
  refine .inr ⟨v1,hv,?_,?_⟩
  ·rw [jO,fG,cond_false]
  ·rw [jQ,hy,fG,cond_false]
 | succ m ih =>
  intro i n v1 h hn hv
  obtain ⟨n,rfl⟩:∃ k,n=k+1:=⟨n - 1,by omega⟩
  have hi:i < l.length:=by omega
  have hmem:∀ j,j < l.length→TOk F (l.getD j tk0):=by
   intro j hj
   apply hok
   rw [List.getD_eq_getElem?_getD,List.getElem?_eq_getElem hj]
   exact List.getElem_mem hj
  obtain ⟨s,p1,p2,p3⟩:=hmem i hi
  obtain ⟨s1,s2,s3,s4⟩:=p3 rfl
  simp only at s1 s2 s3 s4
  have hsl:0 < s.length:=List.length_pos_iff.2 s1
  have hprev:0 < i→1≤(l.getD (i - 1) tk0).f0∧(l.getD (i - 1) tk0).f0≤9:=fun h0=>(hmem (i - 1) (by omega)).kind
  -- is there a blank?
  obtain ⟨bl,hbl⟩:∃ bl,bl=((decide (0 < i) && vL (l.getD (i - 1) tk0)) && reg (s.getD 0 0)):=⟨_,rfl⟩
  obtain ⟨v4,hv4⟩:∃ v4,v4=if bl then v1++[32] else v1:=⟨_,rfl⟩
  have hv4l:v4.length≤8193:=by
   rw [hv4]
   split
   ·rw [List.length_append,List.length_singleton]; omega
   ·omega
  have hA:(chk ((((decide (0 < i) && vL (l.getD (i - 1) tk0)) == true) && true)=true→0≤(0:Int)∧(0:Int) < s.length) <|
    call ((bif (((decide (0 < i) && vL (l.getD (i - 1) tk0)) == true) && true) then fV F ((s.getD (0:Int).toNat 0).toNat:Int) else some false)) fun y2 =>
    bif (bif (decide (0 < i) && vL (l.getD (i - 1) tk0)) then y2 else false) then
     call (aN F (32:Int) v1) fun y3=>some y3.2
    else some v1)=some v4:=by
   rw [gate (fun _=>⟨by omega,by omega⟩),dE3 (aQ8 F _),aA,aN0]
   have e1:((decide (0 < i) && vL (l.getD (i - 1) tk0)) && ((decide (0 < i) && vL (l.getD (i - 1) tk0)) && cI4 ((s.getD (0:Int).toNat 0).toNat:Int)))=bl:=by
    rw [hbl]
    cases (decide (0 < i) && vL (l.getD (i - 1) tk0)) <;> rfl
   rw [e1,hv4]
   cases bl with
   | false=>rfl
   | true =>
    simp only [cond_true,if_true]
    unfold aN
    rw [aL (by omega),aL (by simp; omega)]
    rfl
  have hB:(dH ((bif (((y.1.getD (i:Int).toNat (aD.mk 0 0 [] 0 0)).f0) == (1:Int)) then true else (((y.1.getD (i:Int).toNat (aD.mk 0 0 [] 0 0)).f0) == (5:Int)))) fun z1 =>
    chk ((((bif (decide ((i:Int) > (0:Int))) then z1 else false) == true) && true)=true→0≤(IntKind.i64.wrap ((i:Int) - (1:Int)))∧(IntKind.i64.wrap ((i:Int) - (1:Int))) < y.1.length) <|
    dH ((bif (bif (decide ((i:Int) > (0:Int))) then z1 else false) then (((y.1.getD (IntKind.i64.wrap ((i:Int) - (1:Int))).toNat (aD.mk 0 0 [] 0 0)).f0) != (3:Int)) else false)) fun z2 =>
    chk (((z2 == true) && true)=true→0≤(IntKind.i64.wrap ((i:Int) - (1:Int)))∧(IntKind.i64.wrap ((i:Int) - (1:Int))) < y.1.length) <|
    dH ((decide (((y.1.getD (IntKind.i64.wrap ((i:Int) - (1:Int))).toNat (aD.mk 0 0 [] 0 0)).f0) < (6:Int)))) fun z3 =>
    bif (bif z2 then z3 else false) then
     chk (v1.length+([(UInt8.ofNat (32:Int).toNat)]).length≤4294967296) <|
     some (v1++([(UInt8.ofNat (32:Int).toNat)]))
    else
     some v1)=some v4:=by
   rw [hy]
   simp only [aY,aK7,aN0]
   have hin:decide ((i:Int) > 0)=true→0≤(IntKind.i64.wrap ((i:Int) - (1:Int)))∧(IntKind.i64.wrap ((i:Int) - (1:Int))) < l.length:=by
    intro h0
    simp at h0
    rw [sW (by omega) (by omega)]
    omega
   rw [gate (fun h'=>hin (by simp at h' ⊢; omega)),gate (fun h'=>hin (by simp at h' ⊢; omega))]
   have e1:(((decide ((i:Int) > 0) && ((l.getD (i:Int).toNat (aD.mk 0 0 [] 0 0)).f0 == 1 || (l.getD (i:Int).toNat (aD.mk 0 0 [] 0 0)).f0 == 5)) && (l.getD (IntKind.i64.wrap ((i:Int) - 1)).toNat (aD.mk 0 0 [] 0 0)).f0 != 3) && decide ((l.getD (IntKind.i64.wrap ((i:Int) - 1)).toNat (aD.mk 0 0 [] 0 0)).f0 < 6))=bl:=by
    rw [hbl,s2]
    have e0:l.getD (i:Int).toNat (aD.mk 0 0 [] 0 0)=l.getD i tk0:=rfl
    rw [e0]
    by_cases h0:0 < i
    ·rw [sW h0 (by omega)]
     have e2:l.getD ((i - 1:Nat):Int).toNat (aD.mk 0 0 [] 0 0)=l.getD (i - 1) tk0:=rfl
     rw [e2,decide_eq_true h0,decide_eq_true (show (i:Int) > 0 by omega)]
     have hp:=hprev h0
     have e3:vL (l.getD (i - 1) tk0)=((l.getD (i - 1) tk0).f0 != 3 && decide ((l.getD (i - 1) tk0).f0 < 6)):=by
      unfold vL
      generalize (l.getD (i - 1) tk0).f0=q at hp
      rw [Bool.eq_iff_iff]
      simp only [Bool.or_eq_true,Bool.and_eq_true,beq_iff_eq,bne_iff_ne,decide_eq_true_eq]
      omega
     rw [e3]
     cases ((l.getD i tk0).f0 == 1 || (l.getD i tk0).f0 == 5) <;> cases (l.getD (i - 1) tk0).f0 != 3 <;> cases decide ((l.getD (i - 1) tk0).f0 < 6) <;> rfl
    ·rw [decide_eq_false h0,decide_eq_false (show ¬ (i:Int) > 0 by omega)]
     rfl
   rw [e1,hv4]
   cases bl with
   | false=>rfl
   | true =>
    simp only [cond_true,if_true]
    rw [aL (by simp; omega)]
    rfl
  have hpre:IntKind.i64.wrap ((s.length:Int) - 1)=((s.length - 1:Nat):Int):=sW (by omega) (by omega)
  rw [jO,jQ]
  rw [dec_lt hi,cond_true,eD hi]
  have e0:l.getD (i:Int).toNat (aD.mk 0 0 [] 0 0)=l.getD i tk0:=rfl
  have e0':y.1.getD (i:Int).toNat (aD.mk 0 0 [] 0 0)=l.getD i tk0:=by rw [hy]; rfl
  have hiy:decide ((i:Int) < (y.1.length:Int))=true:=by rw [hy]; exact dec_lt hi
  rw [hiy,cond_true,aL (by rw [hy]; omega)]
  rw [e0,p1,aA]
  simp only [bne_self_eq_false,cond_false]
  rw [hA,aA,hB,e0',p2,aA,aA]
  simp only
  unfold cO iG
  have hck:v4.length+s.length≤4294967296:=by omega
  have hcs:(0:Int)≤((s.length - 1:Nat):Int)∧((s.length - 1:Nat):Int) < (s.length:Int):=by omega
  simp only [aL hck,aA,hpre,aL hcs]
  by_cases hbig:((v4++s).length:Int) > 8192
  ·rw [decide_eq_true hbig]
   exact .inl ⟨rfl,rfl⟩
  ·rw [decide_eq_false hbig,cond_false,cond_false,aQ8,aA,bS (by omega)]
   have hlast:cI4 (((s.getD ((s.length - 1:Nat):Int).toNat 0).toNat:Nat):Int)=(decide (0 < i+1) && vL (l.getD (i+1 - 1) tk0)):=by
    have:=s3
    rw [decide_eq_true (show 0 < i+1 by omega),Bool.true_and]
    exact this
   rw [hlast]
   exact ih (i+1) n (v4++s) (by omega) (by omega) (by omega)
end Go.Vm.ObjM
