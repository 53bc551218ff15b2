/-
  token,plain law 3: kind by kind; the law TokenPrintSpelling.
-/
import Derived.Test.YtldmbabgcdmjcaaGreatDoorObjLc
namespace Go.Vm.ObjM
theorem isE {s:List UInt8} (h:¬ s=[]):s.isEmpty=false:=by cases s <;> simp_all
theorem nz {v:Int} (h:¬ v=0):(v != 0)=true:=by simpa using h
theorem dC2 {F:Nat} (hF:4294967300≤F) (v:Int) (s:List UInt8) (p q:Int):∃ x,bD F ⟨1,v,s,p,q⟩=some x∧bI F ⟨1,v,s,p,q⟩=some x∧Shp 1 x:=by
 by_cases hs:s=[]
 ·subst hs
  by_cases h1:v < -2147483647
  ·exact ⟨([],3),by simp [bD,bQ,aA,aW,bV,aY,h1],by simp [bI,aA,aW,aY,h1],vP (by decide)⟩
  ·by_cases h2:v > 2147483647
   ·exact ⟨([],3),by simp [bD,bQ,aA,aW,bV,aY,h1,h2],by simp [bI,aA,aW,aY,h1,h2],vP (by decide)⟩
   ·have hi : -9223372036854775808≤v∧v≤9223372036854775807:=⟨by omega,by omega⟩
    exact ⟨(Lib.itoa v,0),by simp [bD,bQ,aA,aW,aY,h1,h2,aL hi],by simp [bI,aA,aW,aY,h1,h2,aR5 hF (x:=v) ⟨by omega,by omega⟩],dD5 v ⟨by omega,by omega⟩⟩
 ·exact ⟨([],4),by simp [bD,bQ,aA,bV,aY,isE hs],by simp [bI,aA,aW,aY,isE hs],vP (by decide)⟩
theorem dD2 {F:Nat} (hF:4294967300≤F) (v:Int) (s:List UInt8) (p q:Int):∃ x,bD F ⟨4,v,s,p,q⟩=some x∧bI F ⟨4,v,s,p,q⟩=some x∧Shp 4 x:=by
 by_cases hs:s=[]
 ·subst hs
  by_cases h1:v < 1
  ·exact ⟨([],3),by simp [bD,bQ,aA,aW,bV,aY,h1],by simp [bI,aA,aW,aY,h1],vP (by decide)⟩
  ·by_cases h2:v > 255
   ·exact ⟨([],3),by simp [bD,bQ,aA,aW,bV,aY,h1,h2],by simp [bI,aA,aW,aY,h1,h2],vP (by decide)⟩
   ·have hi : -9223372036854775808≤v∧v≤9223372036854775807:=⟨by omega,by omega⟩
    have hl:(Lib.itoa v).length≤1000:=by
     have:=qZ v.toNat
     unfold Lib.itoa; rw [if_neg (by omega)]; omega
    have hl2:([64]:List UInt8).length+(Lib.itoa v).length≤9223372036854775807:=by simp; omega
    exact ⟨([64]++Lib.itoa v,0),by
      simp only [bD,bQ,aA,aW,aY]
      simp [aA,aW,aY,h1,h2,aL hi]
      rw [aL (by omega)],by
      simp [bI,aA,aW,aY,h1,h2,aR5 hF (x:=v) ⟨by omega,by omega⟩]
      rw [aL (by omega)],dD8 v ⟨by omega,by omega⟩⟩
 ·exact ⟨([],4),by simp [bD,bQ,aA,bV,aY,isE hs],by simp [bI,aA,aW,aY,isE hs],vP (by decide)⟩
theorem dB2 {F:Nat} (hF:4294967300≤F) (v:Int) (s:List UInt8) (p q:Int) (hs:s.length≤maxLen) (hF2:s.length < F):∃ x,bD F ⟨2,v,s,p,q⟩=some x∧bI F ⟨2,v,s,p,q⟩=some x∧Shp 2 x:=by
 by_cases hv:v=0
 ·subst hv
  by_cases hn:s=[]
  ·subst hn
   refine ⟨([],4),by simp [bD,bQ,aA,bV,aY],?_,vP (by decide)⟩
   have hL:gN F ⟨2,0,[],p,q⟩ F true 0=some true:=aO7 F ⟨2,0,[],p,q⟩ hs 0 0 F true rfl (by omega)
   simp [bI,aA,bV,aY,hL]
  ·have hz:=aM2 s
   have hL:gN F ⟨2,0,s,p,q⟩ F false 0=some (false || s.any (fun c=>(c.toNat:Int) == 0)):=aO7 F ⟨2,0,s,p,q⟩ hs s.length 0 F false (by simp) hF2
   rw [Bool.false_or,← hz] at hL
   by_cases h0:0≤Lib.indexByte s 0
   ·rw [decide_eq_true h0] at hL
    exact ⟨([],4),by simp [bD,bQ,aA,bV,aY,isE hn,h0],by simp [bI,aA,bV,aY,isE hn,hL],vP (by decide)⟩
   ·rw [decide_eq_false h0] at hL
    by_cases hl:(31:Int) < (s.length:Int)
    ·exact ⟨([],2),by simp [bD,bQ,aA,bV,aW,aY,isE hn,h0,hl],by simp [bI,aA,aW,aY,isE hn,hL,hl],vP (by decide)⟩
    ·have h1:fB F s F [] 0=some ([]++s.flatMap pW):=aY8 F s (by omega) s.length 0 F [] (by omega) (by omega) (by simp; omega)
     have h2:eU F ⟨2,0,s,p,q⟩ F [] 0=some ([]++s.flatMap pW):=aQ6 F ⟨2,0,s,p,q⟩ rfl (by show s.length≤_; omega) s.length 0 F [] (by simp) (by omega) (by simp; omega)
     have hb:=kS yR s
     rw [List.nil_append] at h1 h2
     have hsh:=dE0 hn (by omega)
     generalize s.flatMap pW=r at *
     refine ⟨(47 :: r,0),?_,?_,hsh⟩
     ·simp [bD,bQ,mC,aA,aW,aY,isE hn,h0,hl,h1]
      rw [aL (by omega),aA,aL (by omega)]
     ·simp [bI,aA,aW,aY,isE hn,hL,hl,h2]
      rw [aL (by omega)]
 ·exact ⟨([],4),by simp [bD,bQ,aA,bV,aY,nz hv],by simp [bI,aA,aY,nz hv],vP (by decide)⟩
theorem dA3 {F:Nat} (hF:4294967300≤F) (v:Int) (s:List UInt8) (p q:Int):∃ x,bD F ⟨3,v,s,p,q⟩=some x∧bI F ⟨3,v,s,p,q⟩=some x∧Shp 3 x:=by
 by_cases hv:v=0
 ·subst hv
  by_cases hl:(1024:Int) < (s.length:Int)
  ·exact ⟨([],2),by simp [bD,bQ,aA,bV,aW,aY,hl],by simp [bI,aA,aW,aY,hl],vP (by decide)⟩
  ·have h1:fA F s F [40] 0=some ([40]++s.flatMap rV):=aZ7 F s (by omega) s.length 0 F [40] (by omega) (by omega) (by simp; omega)
   have h2:eU F ⟨3,0,s,p,q⟩ F [] 0=some ([]++s.flatMap rV):=aP3 F ⟨3,0,s,p,q⟩ rfl (by show s.length≤_; omega) s.length 0 F [] (by simp) (by omega) (by simp; omega)
   have hb:=kS bZ2 s
   rw [List.nil_append] at h2
   generalize s.flatMap rV=r at *
   refine ⟨(40 :: (r++[41]),0),?_,?_,dE5 r (by omega)⟩
   ·simp [bD,bQ,mF,aN,aA,aW,aY,hl,aL,h1]
    rw [aL (by omega),aA,aL (by simp; omega),aA]
   ·simp [bI,aA,aW,aY,hl,h2]
    rw [aL (by omega),aL (by omega)]
 ·exact ⟨([],4),by simp [bD,bQ,aA,bV,aY,nz hv],by simp [bI,aA,aY,nz hv],vP (by decide)⟩
theorem dB8 {F:Nat} (hF:4294967300≤F) (v:Int) (s:List UInt8) (p q:Int) (hs:s.length≤maxLen) (hF2:s.length < F):∃ x,bD F ⟨5,v,s,p,q⟩=some x∧bI F ⟨5,v,s,p,q⟩=some x∧Shp 5 x:=by
 by_cases hv:v=0
 ·subst hv
  have hw:=bC7 hs hF2
  have he:=wL hs hF2
  cases s with
  | nil=>exact ⟨([],4),by simp [bD,bQ,oQ,aA,bV,aY,hw,qF],by simp [bI,aA,aW,aY,chk],vP (by decide)⟩
  | cons c t =>
   cases hd:dg c.toNat
   ·cases ha:(c :: t).all okb
    ·have hwy:qF (c :: t)=false:=by simp only [qF,ha,Bool.and_false]
     rw [hwy] at hw; rw [ha] at he
     refine ⟨([],4),by simp [bD,bQ,oQ,aA,bV,aY,hw],?_,vP (by decide)⟩
     simp [bI,aA,aW,aY,chk,wB,hd,he]
    ·have hwy:qF (c :: t)=true:=by simp only [qF,ha,hd,List.getD_cons_zero]; rfl
     rw [hwy,if_pos rfl] at hw; rw [ha,if_pos rfl] at he
     by_cases hl:(c :: t).length > 31
     ·rw [if_pos hl] at hw he
      exact ⟨([],2),by simp [bD,bQ,oQ,aA,bV,aY,hw],by simp [bI,aA,aW,aY,chk,wB,hd,he],vP (by decide)⟩
     ·rw [if_neg hl] at hw he
      exact ⟨(c :: t,0),by simp [bD,bQ,oQ,aA,aW,aY,hw],by simp [bI,aA,aW,aY,chk,wB,hd,he],dE4 (by simp) ha (by omega)⟩
   ·have hwy:qF (c :: t)=false:=by simp only [qF,hd,List.getD_cons_zero]; simp
    rw [hwy] at hw
    exact ⟨([],4),by simp [bD,bQ,oQ,aA,bV,aY,hw],by simp [bI,aA,aW,aY,chk,wB,hd],vP (by decide)⟩
 ·exact ⟨([],4),by simp [bD,bQ,aA,bV,aY,nz hv],by simp [bI,aA,aY,nz hv],vP (by decide)⟩
theorem bF9 {F:Nat} (k:Int) (hk:k=6∨k=7∨k=8∨k=9) (v:Int) (s:List UInt8) (p q:Int):∃ x,bD F ⟨k,v,s,p,q⟩=some x∧bI F ⟨k,v,s,p,q⟩=some x∧Shp k x:=by
 by_cases hv:v=0
 ·subst hv
  by_cases hn:s=[]
  ·subst hn
   rcases hk with rfl | rfl | rfl | rfl
   ·exact ⟨([91],0),by simp [bD,bQ,aA,aW,aY,chk,eF],by simp [bI,aA,aW,aY],cS0.1⟩
   ·exact ⟨([93],0),by simp [bD,bQ,aA,aW,aY,chk,eF],by simp [bI,aA,aW,aY],cS0.2.1⟩
   ·exact ⟨([60,60],0),by simp [bD,bQ,aA,aW,aY,chk,eF],by simp [bI,aA,aW,aY],cS0.2.2.1⟩
   ·exact ⟨([62,62],0),by simp [bD,bQ,aA,aW,aY,chk,eF],by simp [bI,aA,aW,aY],cS0.2.2.2⟩
  ·refine ⟨([],4),?_,?_,vP (by decide)⟩ <;> rcases hk with rfl | rfl | rfl | rfl <;> simp [bD,bQ,bI,aA,bV,aY,isE hn]
 ·refine ⟨([],4),?_,?_,vP (by decide)⟩ <;> rcases hk with rfl | rfl | rfl | rfl <;> simp [bD,bQ,bI,aA,bV,aY,nz hv]
theorem cH3 {F:Nat} (k:Int) (hk:k < 1∨9 < k) (v:Int) (s:List UInt8) (p q:Int):∃ x,bD F ⟨k,v,s,p,q⟩=some x∧bI F ⟨k,v,s,p,q⟩=some x∧Shp k x:=by
 refine ⟨([],14),?_,?_,vP (by decide)⟩ <;> rcases hk with h | h <;> simp [bD,bQ,bI,aA,bV,aY,h]
theorem both {F:Nat} (hF:4294967300≤F) (a:aD) (hs:a.f2.length≤maxLen) (hF2:a.f2.length < F):∃ x,bD F a=some x∧bI F a=some x∧Shp a.f0 x:=by
 obtain ⟨k,v,s,p,q⟩:=a
 by_cases h:k < 1∨9 < k
 ·exact cH3 k h v s p q
 ·have:k=1∨k=2∨k=3∨k=4∨k=5∨k=6∨k=7∨k=8∨k=9:=by omega
  rcases this with rfl | rfl | rfl | rfl | rfl | h
  ·exact dC2 hF v s p q
  ·exact dB2 hF v s p q hs hF2
  ·exact dA3 hF v s p q
  ·exact dD2 hF v s p q
  ·exact dB8 hF v s p q hs hF2
  ·exact bF9 k h v s p q
end Go.Vm.ObjM
