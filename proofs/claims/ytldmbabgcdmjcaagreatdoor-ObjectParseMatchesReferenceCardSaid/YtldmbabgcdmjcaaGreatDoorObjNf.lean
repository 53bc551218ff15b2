/-
  Row 37,plain law: Parse returns the object of a source,or the first error and its place.
-/
import Derived.Test.YtldmbabgcdmjcaaGreatDoorObjNe
namespace Go.Vm.ObjM
open Go.Vm
theorem bF1 (F:Nat) (o:aG) (hl:o.f3.length≤100000):∀ (m i n:Nat),i+m=o.f3.length→m < n→kW F o o n (i:Int)=some (.go ())
 | 0,i,n,hi,hn=>by
  obtain ⟨n,rfl⟩:∃ k,n=k+1:=⟨n - 1,by omega⟩
  unfold kW
  rw [decide_eq_false (by omega),cond_false]
 | m+1,i,n,hi,hn=>by
  obtain ⟨n,rfl⟩:∃ k,n=k+1:=⟨n - 1,by omega⟩
  unfold kW
  rw [decide_eq_true (by omega),cond_true,aL (by omega),aL (by omega),beq_self_eq_true,Bool.not_true,cond_false,bS (by omega)]
  exact bF1 F o hl m (i+1) n (by omega) (by omega)
theorem bJ4 (F:Nat) (o:aG) (hl:o.f4.length≤100000) (rec:aG→aG→Option Bool) (h:∀ x∈o.f4,rec x x=some true):∀ (m i n:Nat),i+m=o.f4.length→m < n→kV F o o rec n (i:Int)=some (.go ())
 | 0,i,n,hi,hn=>by
  obtain ⟨n,rfl⟩:∃ k,n=k+1:=⟨n - 1,by omega⟩
  unfold kV
  rw [decide_eq_false (by omega),cond_false]
 | m+1,i,n,hi,hn=>by
  obtain ⟨n,rfl⟩:∃ k,n=k+1:=⟨n - 1,by omega⟩
  have hlt:i < o.f4.length:=by omega
  unfold kV
  rw [decide_eq_true (by omega),cond_true,aL (by omega),aL (by omega),Int.toNat_natCast,List.getD_eq_getElem?_getD,List.getElem?_eq_getElem hlt,Option.getD_some,h _ (List.getElem_mem hlt),aA,Bool.not_true,cond_false,bS (by omega)]
  exact bJ4 F o hl rec h m (i+1) n (by omega) (by omega)
theorem bY3:∀ (l:List aG) (x:aG),x∈l→sz x≤szs l
 | [],x,h=>by cases h
 | y :: l,x,h=>by
  rcases List.mem_cons.1 h with rfl | h
  ·simp only [szs]; omega
  ·have:=bY3 l x h
   simp only [szs]
   omega
theorem aS5 {F:Nat} (hF:100000≤F):∀ (n:Nat) (o:aG),OOk F o→sz o≤n→kH F n o o=some true
 | 0,o,_,h=>by rw [bX8] at h; omega
 | n+1,o,hok,h=>by
  have hok':=hok
  cases hok with
  | mk hno hr hkids =>
  rw [kH]
  unfold oI
  have hk3:o.f3.length≤256:=by
   by_cases h7:o.f0=7
   ·rw [hno.ks h7]; exact hno.many
   ·rw [hno.ks0 h7]; simp
  have hm:=hno.many
  have e0:=bF1 F o (by omega) o.f3.length 0 F (by omega) (by omega)
  have e2:=bJ4 F o (by omega) (kH F n) (fun x hx=>aS5 hF n x (hkids x hx) (by have:=bY3 _ _ hx; rw [bX8] at h; omega)) o.f4.length 0 F (by omega) (by omega)
  rw [show ((0:Nat):Int)=0 from rfl] at e0 e2
  simp only [aY,bne_self_eq_false,beq_self_eq_true,Bool.not_true,cond_false,e0,e2,aW]
theorem zB {F:Nat} (hF:2≤F):tY F sD sD=some true:=by
 obtain ⟨n,rfl⟩:∃ n,F=n+2:=⟨F - 2,by omega⟩
 rfl
theorem cL1 {F:Nat} (hF:4294967300≤F) (hF2:maxLen < F) (s:List UInt8):∃ o a e,pG F s=some (o,a,e)∧cM8 F s=some (o,a,e)∧tY F o o=some true:=by
 unfold pG pV cM8
 by_cases hl:8192 < s.length
 ·have h1:jI F s 0=some (Lx.tz,0,2):=by
   unfold jI
   rw [decide_eq_true (by omega)]; rfl
  rw [rJ h1 (by decide),decide_eq_true hl]
  exact ⟨sD,0,2,rfl,rfl,zB (by omega)⟩
 ·rw [decide_eq_false hl,cond_false]
  obtain ⟨n,hn⟩:∃ n,F=n+1:=⟨F - 1,by omega⟩
  have hgo:jY F s F [] 0=jY F s (n+1) [] ((0:Nat):Int):=congrArg (fun q=>jY F s q [] 0) hn
  rw [hgo]
  obtain ⟨t,p,e,h1,h2,h3⟩:=Lx.aO2 (F:=F) (by omega) (s:=s) (by omega) (Nat.zero_le _)
  by_cases he:e=0
  ·subst he
   rw [if_pos rfl] at h2
   obtain ⟨hp,htl,hq⟩:=h3 rfl
   clear h3
   rw [show (0:Int)=((0:Nat):Int) from rfl,wQ h2,kQ,go_ok h1,← hp]
   have hst:=step_nil (F:=F) (t:=t)
   have hv:∃ q:Nat,bS4 F s n q [] (bL F F ((([]:List bE).length+1:Nat):Int) s t.f0 t.f1 t.f2 t.f3 t.f4) (lY F s (jY F s n) [] t t.f3):=by
    rcases hq with h | ⟨q,q1,q2,q3⟩
    ·have:=cV8 (F:=F) (s:=s) (l:=[]) (t:=t) (j:=0) (n:=n) (fu:=n) (d:=((([]:List bE).length+1:Nat):Int)) h hst
     rw [← hn] at this
     exact ⟨0,this⟩
    ·exact ⟨q,(cE3 (F:=F) (by omega) (by omega) (2 * (s.length - q)+1)).1 [] t q n F (Nat.le_refl _) (.inr ⟨q1,q3⟩) htl (by simp) (by simp; omega) (by omega) hst rfl⟩
   clear hq
   obtain ⟨q,hv⟩:=hv
   unfold mY
   unfold st
   dsimp only
   change bS4 F s n q [] (bL F F 1 s t.f0 t.f1 t.f2 t.f3 t.f4) _ at hv
   rcases hv with ⟨a,c,hc,g1,g2⟩ | ⟨o,t',j',n',g1,g2,g3,g4,g5,g6,g7⟩
   ·rw [g1,g2]
    exact ⟨sD,a,c,rfl,rfl,zB (by omega)⟩
   ·rw [g1,g6,kQ]
    unfold kM st
    dsimp only
    rw [g2]
    obtain ⟨t3,p3,e3,i1,i2,i3⟩:=Lx.aO2 (F:=F) (by omega) (s:=s) (by omega) g4
    rw [i1]
    dsimp only
    by_cases he3:e3=0
    ·subst he3
     rw [if_pos rfl] at i2
     obtain ⟨hp3,_,_⟩:=i3 rfl
     rw [wQ i2,kQ]
     unfold st
     dsimp only
     cases hz:t3.f0 != 0 with
     | true =>
      rw [bD7,hp3]
      exact ⟨sD,p3,5,rfl,rfl,zB (by omega)⟩
     | false =>
      obtain ⟨e4,s4,k1,k2,k3⟩:=cH6 (F:=F) hF hF2 g7
      rw [k1,k2]
      by_cases he4:e4=0
      ·subst he4
       obtain ⟨k4,k5⟩:=k3 rfl
       refine ⟨o,0,0,rfl,rfl,?_⟩
       unfold tY
       exact aS5 (by omega) F o k4 (by omega)
      ·have hne:(e4 != 0)=true:=by simpa using he4
       refine ⟨sD,0,e4,?_,?_,zB (by omega)⟩
       ·simp only [cond_false,aW,aA,bD7,xS,bV]
        rw [show (e4 != ((0:Nat):Int))=true from hne,cond_true]
        rfl
       ·simp only [bne_self_eq_false,cond_false,hne,cond_true]
    ·rw [if_neg he3] at i2
     have hne:(e3 != 0)=true:=by simpa using he3
     rw [rJ i2 he3,hne]
     exact ⟨sD,p3,e3,rfl,rfl,zB (by omega)⟩
  ·rw [if_neg he] at h2
   rw [show (0:Int)=((0:Nat):Int) from rfl,rJ h2 he,aZ9 h1 he]
   exact ⟨sD,p,e,rfl,rfl,zB (by omega)⟩
theorem cE0 {F:Nat} (hF2:maxLen < F) (s:List UInt8):dZ F s=some true:=by
 have hmax:maxLen=9223372036854775807:=rfl
 obtain ⟨o,a,e,h1,h2,h3⟩:=cL1 (F:=F) (by omega) hF2 s
 have h0:lU F=some true:=by
  obtain ⟨n,rfl⟩:∃ n,F=n+60:=⟨F - 60,by omega⟩
  exact aU5 n
 unfold dZ xN
 rw [h0,aA,Bool.not_true,cond_false,h1,aA,h2,aA]
 simp only [beq_self_eq_true,cond_true,Bool.and_self,h3,aA]
end Go.Vm.ObjM
