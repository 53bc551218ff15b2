/-
  TICKETS,PLAIN,part 1: the order of strings; a node of an object.
-/
import Derived.Test.YtldmbabgcdmjcaaGreatDoorObjLd
namespace Go.Vm.ObjM
theorem bN2:∀ x:List UInt8,Op.bytesLess x x=false
 | []=>rfl
 | a :: x=>by
  have h:¬ a < a:=fun h=>Nat.lt_irrefl _ h
  simp [Op.bytesLess,bN2 x]
theorem bE3:∀ x y:List UInt8,(!(Op.bytesLess x y))=(Op.bytesLess y x || y == x)
 | [],[]=>rfl
 | [],b :: y=>by simp [Op.bytesLess]
 | a :: x,[]=>by simp [Op.bytesLess]
 | a :: x,b :: y=>by
  have ih:=bE3 x y
  simp only [Op.bytesLess]
  have e1:(b :: y == a :: x)=((b == a) && (y == x)):=rfl
  rw [e1]
  rcases Nat.lt_trichotomy a.toNat b.toNat with h | h | h
  ·have h1:a < b:=h
   have h2:¬ b < a:=fun h'=>Nat.lt_asymm h h'
   have h3:(b == a)=false:=by
    rw [beq_eq_false_iff_ne]
    intro e
    rw [e] at h
    exact Nat.lt_irrefl _ h
   simp [h1,h2,h3]
  ·have e:a=b:=UInt8.toNat_inj.1 h
   subst e
   have h1:¬ a < a:=fun h=>Nat.lt_irrefl _ h
   simp [h1,ih]
  ·have h1:b < a:=h
   have h2:¬ a < b:=fun h'=>Nat.lt_asymm h h'
   have h3:(a == b)=false:=by
    rw [beq_eq_false_iff_ne]
    intro e
    rw [e] at h
    exact Nat.lt_irrefl _ h
   simp [h1,h2,h3]
theorem aP5:∀ {x y z:List UInt8},Op.bytesLess x y=true→Op.bytesLess y z=true→Op.bytesLess x z=true
 | _,[],_,h,_=>by cases ‹List UInt8› <;> simp [Op.bytesLess] at h
 | _,_ :: _,[],_,h=>by simp [Op.bytesLess] at h
 | [],_ :: _,_ :: _,_,_=>rfl
 | a :: x,b :: y,c :: z,h1,h2=>by
  simp only [Op.bytesLess,Bool.or_eq_true,decide_eq_true_eq,Bool.and_eq_true,beq_iff_eq] at h1 h2 ⊢
  rcases h1 with h1 | ⟨rfl,h1⟩ <;> rcases h2 with h2 | ⟨rfl,h2⟩
  ·exact .inl (UInt8.lt_trans h1 h2)
  ·exact .inl h1
  ·exact .inl h2
  ·exact .inr ⟨rfl,aP5 h1 h2⟩
/-- All strings of an object are as long as strings are. -/
inductive Sm:aG→Prop
 | mk {k v:Int} {s:List UInt8} {ks:List (List UInt8)} {l:List aG} (h1:s.length≤maxLen) (h2:∀ x∈ks,x.length≤maxLen) (h3:∀ x∈l,Sm x):Sm ⟨k,v,s,ks,l⟩
theorem Sm.s {o:aG} (h:Sm o):o.f2.length≤maxLen:=by cases h; assumption
theorem Sm.ks {o:aG} (h:Sm o):∀ x∈o.f3,x.length≤maxLen:=by cases h; assumption
theorem Sm.l {o:aG} (h:Sm o):∀ x∈o.f4,Sm x:=by cases h; assumption
/-- A token that is printed without an error. -/
def TOk (F:Nat) (t:aD):Prop:=∃ s,bD F t=some (s,0)∧bI F t=some (s,0)∧Shp t.f0 (s,0)
/-- What a node without an error is like. -/
structure aQ2 (F:Nat) (o:aG):Prop where
 k:0≤o.f0∧o.f0≤7
 v:o.f0≠1→o.f0≠2→o.f0≠5→o.f1=0
 s:o.f0≠3→o.f0≠4→o.f2=[]
 l:o.f0≠6→o.f0≠7→o.f4=[]
 ks:o.f0=7→o.f3.length=o.f4.length
 ks0:o.f0≠7→o.f3=[]
 b:o.f0=1→o.f1=0∨o.f1=1
 many:o.f4.length≤256
 names:∀ x∈o.f3,TOk F ⟨2,0,x,0,0⟩
 sorted:∀ i,i+1 < o.f3.length→Op.bytesLess (o.f3.getD i []) (o.f3.getD (i+1) [])=true
theorem keys_eq {F:Nat} (hF:4294967300≤F) (hF2:maxLen < F) (o:aG) (hs:∀ x∈o.f3,x.length≤maxLen) (hb:o.f3.length≤1000) :
  ∀ (m i n:Nat),i+m=o.f3.length→m < n→(∀ j,j < i→TOk F ⟨2,0,o.f3.getD j [],0,0⟩)→(∀ j,j+1 < o.f3.length→j+1 < i→Op.bytesLess (o.f3.getD j []) (o.f3.getD (j+1) [])=true) →
   (∃ e,e≠0∧iY F o n i=some (.esc e)∧gM F o n i=some (.esc e)) ∨
   (iY F o n i=some (.go ())∧gM F o n i=some (.go ())∧(∀ j,j < o.f3.length→TOk F ⟨2,0,o.f3.getD j [],0,0⟩)∧∀ j,j+1 < o.f3.length→Op.bytesLess (o.f3.getD j []) (o.f3.getD (j+1) [])=true):=by
 intro m
 induction m with
 | zero =>
  intro i n h hn h1 h2
  obtain ⟨n,rfl⟩:∃ k,n=k+1:=⟨n - 1,by omega⟩
  obtain rfl:i=o.f3.length:=by omega
  refine .inr ⟨?_,?_,h1,fun j hj=>h2 j hj hj⟩
  ·rw [iY,fG,cond_false]
  ·rw [gM,fG,cond_false]
 | succ m ih =>
  intro i n h hn h1 h2
  obtain ⟨n,rfl⟩:∃ k,n=k+1:=⟨n - 1,by omega⟩
  have hi:i < o.f3.length:=by omega
  have hm:o.f3.getD i []∈o.f3:=by
   rw [List.getD_eq_getElem?_getD,List.getElem?_eq_getElem hi]
   exact List.getElem_mem hi
  have hl:=hs _ hm
  obtain ⟨⟨t,e⟩,g1,g2,g3⟩:=both hF ⟨2,0,o.f3.getD i [],0,0⟩ hl (by simp only; omega)
  have hw:IntKind.i64.wrap ((i:Int) - 1)=((i - 1:Nat):Int)∨i=0:=by
   by_cases h0:i=0
   ·exact .inr h0
   ·exact .inl (sW (by omega) (by omega))
  have hchk:∀ {α:Type} (K:Option α),chk ((((decide ((i:Int) > (0:Int))) == true) && true)=true→0≤(IntKind.i64.wrap ((i:Int) - (1:Int)))∧(IntKind.i64.wrap ((i:Int) - (1:Int))) < o.f3.length) K=K:=by
   intro α K
   refine aL fun hp=>?_
   simp at hp
   rw [sW (by omega) (by omega)]
   omega
  rw [iY,gM]
  simp only [dec_lt hi,cond_true,eD hi,Int.toNat_natCast,g1,g2,aA]
  by_cases he:e=0
  case neg =>
   have hne:(e != 0)=true:=by simpa using he
   simp only [hne,cond_true]
   exact .inl ⟨e,he,rfl,rfl⟩
  subst he
  simp only [bne_self_eq_false,cond_false,hchk,aY]
  rw [bE3]
  by_cases h0:i=0
  ·subst h0
   have e0:decide (((0:Nat):Int) > 0)=false:=rfl
   simp only [e0,cond_false]
   rw [bS (by omega)]
   exact ih 1 n (by omega) (by omega) (fun j hj=>by
    obtain rfl:j=0:=by omega
    exact ⟨t,g1,g2,g3⟩) (fun j _ hj=>by omega)
  ·have e0:decide ((i:Int) > 0)=true:=decide_eq_true (by omega)
   rw [sW (by omega) (by omega)]
   simp only [e0,cond_true,Int.toNat_natCast]
   cases hb2:(Op.bytesLess (o.f3.getD i []) (o.f3.getD (i - 1) []) || o.f3.getD i [] == o.f3.getD (i - 1) []) with
   | true=>exact .inl ⟨4,by decide,rfl,rfl⟩
   | false =>
    simp only [cond_false]
    rw [bS (by omega)]
    refine ih (i+1) n (by omega) (by omega) (fun j hj=>?_) (fun j hj1 hj2=>?_)
    ·by_cases hji:j=i
     ·subst hji
      exact ⟨t,g1,g2,g3⟩
     ·exact h1 j (by omega)
    ·by_cases hji:j+1=i
     ·subst hji
      have:=bE3 (o.f3.getD j []) (o.f3.getD (j+1) [])
      rw [Nat.add_sub_cancel] at hb2
      rw [hb2] at this
      simpa using this
     ·exact h2 j hj1 (by omega)
theorem orC {A b:Bool} {X:Option Bool} (h:X=some b):(bif A then some A else X)=some (A || b):=by cases A <;> simp [h]
theorem bU8 {F:Nat} (hF:4294967300≤F) (hF2:maxLen < F) {o:aG} (hs:Sm o) {d:Int} :
  ∃ e,rG F o d=some e∧mR F o d=some e∧(e=0→aQ2 F o∧d≤12):=by
 obtain ⟨k,v,s,ks,l⟩:=o
 have hks:=hs.ks
 simp only at hks
 unfold rG mR
 simp only [aY,aK7,aN0]
 by_cases c0:(decide (k < 0) || decide (k > 7))=true
 ·simp only [c0,cond_true]
  exact ⟨_,rfl,rfl,fun h=>by cases h⟩
 rw [Bool.not_eq_true] at c0
 simp only [c0,cond_false]
 by_cases c1:decide (d > 12)=true
 ·simp only [c1,cond_true]
  exact ⟨_,rfl,rfl,fun h=>by cases h⟩
 rw [Bool.not_eq_true] at c1
 simp only [c1,cond_false]
 rw [orC (A:=(v != 0 && !(k == 1 || k == 2 || k == 5))) (orC (A:=(!(s == []) && !(k == 3 || k == 4))) rfl),aA]
 have e1:(v != 0 && !(k == 1 || k == 2 || k == 5))=(((v != 0 && k != 1) && k != 2) && k != 5):=by
  cases v != 0 <;> simp [bne,Bool.and_assoc]
 have e2:(!(s == []) && !(k == 3 || k == 4))=((!(s == []) && k != 3) && k != 4):=by
  cases (s == []) <;> simp [bne]
 have e3:(decide ((l.length:Int) > 0) && !(k == 6 || k == 7))=((decide ((l.length:Int) > 0) && k != 6) && k != 7):=by
  cases decide ((l.length:Int) > 0) <;> simp [bne]
 rw [e1,e2,e3]
 by_cases c2:(((v != 0 && k != 1) && k != 2) && k != 5)=true
 ·simp only [c2,cond_true,Bool.true_or]
  exact ⟨_,rfl,rfl,fun h=>by cases h⟩
 rw [Bool.not_eq_true] at c2
 simp only [c2,cond_false,Bool.false_or]
 by_cases c3:((!(s == []) && k != 3) && k != 4)=true
 ·simp only [c3,cond_true,Bool.true_or]
  exact ⟨_,rfl,rfl,fun h=>by cases h⟩
 rw [Bool.not_eq_true] at c3
 simp only [c3,cond_false,Bool.false_or]
 by_cases c4:((decide ((l.length:Int) > 0) && k != 6) && k != 7)=true
 ·simp only [c4,cond_true]
  exact ⟨_,rfl,rfl,fun h=>by cases h⟩
 rw [Bool.not_eq_true] at c4
 simp only [c4,cond_false]
 rw [orC (A:=((k == 7) && (ks.length:Int) != (l.length:Int))) rfl,aA]
 by_cases c5:(((k == 7) && (ks.length:Int) != (l.length:Int)) || ((k != 7) && decide ((ks.length:Int) > 0)))=true
 ·simp only [c5,cond_true]
  exact ⟨_,rfl,rfl,fun h=>by cases h⟩
 rw [Bool.not_eq_true] at c5
 simp only [c5,cond_false]
 have e6:(((k == 1) && v != 0) && v != 1)=((k == 1) && (decide (v < 0) || decide (v > 1))):=by
  rw [Bool.eq_iff_iff]
  simp only [Bool.and_eq_true,beq_iff_eq,bne_iff_ne,Bool.or_eq_true,decide_eq_true_eq]
  omega
 rw [e6]
 by_cases c6:((k == 1) && (decide (v < 0) || decide (v > 1)))=true
 ·simp only [c6,cond_true]
  exact ⟨_,rfl,rfl,fun h=>by cases h⟩
 rw [Bool.not_eq_true] at c6
 simp only [c6,cond_false]
 by_cases c7:decide ((l.length:Int) > 256)=true
 ·simp only [c7,cond_true]
  exact ⟨_,rfl,rfl,fun h=>by cases h⟩
 rw [Bool.not_eq_true] at c7
 simp only [c7,cond_false]
 simp only [Bool.or_eq_false_iff,Bool.and_eq_false_iff,decide_eq_false_iff_not,beq_eq_false_iff_ne,bne_eq_false_iff_eq,Bool.not_eq_false',beq_iff_eq] at c0 c1 c2 c3 c4 c5 c6 c7
 have hkl:ks.length≤256:=by omega
 rcases keys_eq hF hF2 ⟨k,v,s,ks,l⟩ hks (by simp only; omega) ks.length 0 F (by simp) (by omega) (fun j hj=>by omega) (fun j _ hj=>by omega) with ⟨e,h0,h1,h2⟩ | ⟨h1,h2,h3,h4⟩
 ·rw [Int.natCast_zero] at h1 h2
  rw [h1,h2]
  exact ⟨e,rfl,rfl,fun h=>absurd h h0⟩
 ·rw [Int.natCast_zero] at h1 h2
  rw [h1,h2]
  refine ⟨0,rfl,rfl,fun _=>⟨⟨by simp only; omega,fun _ _ _=>by simp only at *; omega,fun _ _=>?_,fun _ _=>?_,fun _=>by simp only at *; omega,fun _=>?_,fun _=>by simp only at *; omega,by simp only; omega,fun x hx=>?_,h4⟩,by omega⟩⟩
  ·simp only at *
   rcases c3 with (c | c) | c
   ·exact c
   ·omega
   ·omega
  ·simp only at *
   have:l.length=0:=by omega
   exact List.eq_nil_of_length_eq_zero this
  ·simp only at *
   have:ks.length=0:=by omega
   exact List.eq_nil_of_length_eq_zero this
  ·simp only at hx
   obtain ⟨j,hj,rfl⟩:=List.getElem_of_mem hx
   have:=h3 j hj
   simpa [List.getD_eq_getElem?_getD,hj] using this
end Go.Vm.ObjM
