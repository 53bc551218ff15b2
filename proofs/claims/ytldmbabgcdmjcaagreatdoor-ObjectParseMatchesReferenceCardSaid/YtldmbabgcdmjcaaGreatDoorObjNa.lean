/-
  Row 37,plain law: what the lexer's tokens are like: short texts,and where they begin.
-/
import Derived.Test.YtldmbabgcdmjcaaGreatDoorObjXi
namespace Go.Vm.ObjM.Lx
open Go.Vm
theorem uO {F:Nat} {a x:List UInt8} {n e:Int} (h:eX F a n=some (x,e)) (hn:0≤n):(x.length:Int)≤n:=by
 unfold eX at h
 cases hd:decide ((a.length:Int) > n) with
 | true =>
  rw [hd,cond_true] at h
  cases h
  simpa using hn
 | false =>
  rw [hd,cond_false] at h
  cases h
  have:=of_decide_eq_false hd
  omega
theorem bL0 {F:Nat} {a:List UInt8}:∀ (n:Nat) (v:Int) (e:List UInt8×Int),dY F a n v=some (.esc e)→e.1=[]
 | 0,v,e,h=>by cases h
 | n+1,v,e,h=>by
  unfold dY at h
  cases hd:decide (v < (a.length:Int)) with
  | false=>rw [hd,cond_false] at h; cases h
  | true =>
   rw [hd,cond_true] at h
   obtain ⟨_,h⟩:=aQ h
   obtain ⟨y1,_,h⟩:=aK h
   obtain ⟨y2,_,h⟩:=aK h
   obtain ⟨z1,_,h⟩:=bB h
   obtain ⟨z2,_,h⟩:=bB h
   cases z2 with
   | true=>rw [cond_true] at h; cases h; rfl
   | false=>rw [cond_false] at h; exact bL0 n _ e h
theorem cP0 {F:Nat} {a:List UInt8} {r:List UInt8×Int} (h:kU F a=some r):r.1.length≤1024:=by
 unfold kU at h
 obtain ⟨o,ho,h⟩:=rD h
 cases o with
 | esc e =>
  have h':=aP h
  cases Option.some.inj h'
  rw [bL0 _ _ _ ho]
  simp
 | go u =>
  have h':(bif (a == []) then some ([],(5:Int)) else call (eX F a (31:Int)) fun y3=>some (y3.1,y3.2))=some r:=h
  cases hb:(a == []) with
  | true=>rw [hb,cond_true] at h'; cases h'; simp
  | false =>
   rw [hb,cond_false] at h'
   obtain ⟨y,hy,h'⟩:=aK h'
   cases h'
   have:=uO (x:=y.1) (e:=y.2) hy (by omega)
   show y.1.length≤1024
   omega
theorem aS8 {F:Nat} {y:List UInt8×List UInt8×Int}:∀ (n:Nat) (v1:List UInt8) (v2:Int) (v3:List UInt8) (e:List UInt8×Int×List UInt8×Int),dM F y n v1 v2 v3=some (.esc e)→e.1=[]
 | 0,_,_,_,e,h=>by cases h
 | n+1,v1,v2,v3,e,h=>by
  unfold dM at h
  cases hd:decide (v2 < (v1.length:Int)) with
  | false=>rw [hd,cond_false] at h; cases h
  | true =>
   rw [hd,cond_true] at h
   obtain ⟨_,h⟩:=aQ h
   cases hb:(((v1.getD v2.toNat 0).toNat:Int) == (35:Int)) with
   | true =>
    rw [hb,cond_true] at h
    obtain ⟨y2,_,h⟩:=aK h
    cases hc:(bif (!y2.2.1) then true else (y2.1 == (0:Int))) with
    | true=>rw [hc,cond_true] at h; cases h; rfl
    | false =>
     rw [hc,cond_false] at h
     obtain ⟨y3,_,h⟩:=aK h
     exact aS8 n _ _ _ e h
   | false =>
    rw [hb,cond_false] at h
    obtain ⟨z1,_,h⟩:=bB h
    cases z1 with
    | true=>rw [cond_true] at h; cases h; rfl
    | false =>
     rw [cond_false] at h
     obtain ⟨y4,_,h⟩:=aK h
     exact aS8 n _ _ _ e h
theorem cG0 {F:Nat} {c:List UInt8} {i:Int} {r:List UInt8×Int×List UInt8×Int} (h:gV F c i=some r):r.1.length≤1024:=by
 unfold gV at h
 obtain ⟨y1,_,h⟩:=aK h
 obtain ⟨o,ho,h⟩:=rD h
 cases o with
 | esc e =>
  have h':=aP h
  cases Option.some.inj h'
  rw [aS8 _ _ _ _ _ ho]
  simp
 | go v =>
  rw [aW] at h
  obtain ⟨y5,_,h⟩:=aK h
  cases hb:(y5.1 == (0:Int)) with
  | true=>rw [hb,cond_true] at h; cases h; simp
  | false =>
   rw [hb,cond_false] at h
   obtain ⟨_,h⟩:=aQ h
   obtain ⟨y,hy,h⟩:=aK h
   cases h
   have:=uO (x:=y.1) (e:=y.2) hy (by omega)
   show y.1.length≤1024
   omega
theorem aN4 {F:Nat}:∀ (n:Nat) (v1 v2:List UInt8) (v3 v4:Int) (e:List UInt8×Int×List UInt8×Int),bZ F n v1 v2 v3 v4=some (.esc e)→e.1.length≤1024
 | 0,_,_,_,_,e,h=>by cases h
 | n+1,v1,v2,v3,v4,e,h=>by
  unfold bZ at h
  cases hd:decide (v3 < (v2.length:Int)) with
  | false=>rw [hd,cond_false] at h; cases h
  | true =>
   rw [hd,cond_true] at h
   obtain ⟨_,h⟩:=aQ h
   obtain ⟨o,ho,h⟩:=rD h
   cases o with
   | esc x =>
    cases x with
    | inl x =>
     have h':bZ F n x.1 x.2.1 x.2.2.1 x.2.2.2=some (.esc e):=h
     exact aN4 n _ _ _ _ e h'
    | inr x =>
     have h':(some (Out.esc x):Option (Out (List UInt8×Int) (List UInt8×Int×List UInt8×Int)))=some (Out.esc e):=h
     have hx:x=e:=by cases h'; rfl
     subst hx
     cases hb:(((v2.getD v3.toNat 0).toNat:Int) == (92:Int)) with
     | true =>
      rw [hb,cond_true] at ho
      obtain ⟨y1,_,ho⟩:=aK ho
      cases hc:(y1.1 != (0:Int)) with
      | true=>rw [hc,cond_true] at ho; cases ho; simp
      | false=>rw [hc,cond_false] at ho; cases ho
     | false =>
      rw [hb,cond_false] at ho
      cases hc:(((v2.getD v3.toNat 0).toNat:Int) == (40:Int)) with
      | true =>
       rw [hc,cond_true] at ho
       cases he:decide ((IntKind.i64.wrap (v4+(1:Int))) > (16:Int)) with
       | true=>rw [he,cond_true] at ho; cases ho; simp
       | false=>rw [he,cond_false] at ho; cases ho
      | false =>
       rw [hc,cond_false] at ho
       cases he:(((v2.getD v3.toNat 0).toNat:Int) == (41:Int)) with
       | true=>rw [he,cond_true] at ho; cases ho
       | false=>rw [he,cond_false] at ho; cases ho
   | go v5 =>
    rw [aW] at h
    cases hb:(v5 == (0:Int)) with
    | true =>
     rw [hb,cond_true] at h
     obtain ⟨_,h⟩:=aQ h
     obtain ⟨y,hy,h⟩:=aK h
     cases h
     have:=uO (x:=y.1) (e:=y.2) hy (by omega)
     show y.1.length≤1024
     omega
    | false =>
     rw [hb,cond_false] at h
     obtain ⟨y3,_,h⟩:=aK h
     exact aN4 n _ _ _ _ e h
theorem cG3 {F:Nat} {c:List UInt8} {i:Int} {r:List UInt8×Int×List UInt8×Int} (h:jF F c i=some r):r.1.length≤1024:=by
 unfold jF at h
 obtain ⟨o,ho,h⟩:=rD h
 cases o with
 | esc e =>
  have h':=aP h
  cases Option.some.inj h'
  exact aN4 _ _ _ _ _ _ ho
 | go v =>
  rw [aW] at h
  cases h
  simp
theorem aZ5 {F:Nat} {c:List UInt8}:∀ (n:Nat) (v1:Int) (v2:List UInt8) (v3 v4:Int) (e:List UInt8×Int×List UInt8×Int),dL F c n v1 v2 v3 v4=some (.esc e)→e.1.length≤1024
 | 0,_,_,_,_,e,h=>by cases h
 | n+1,v1,v2,v3,v4,e,h=>by
  unfold dL at h
  cases hd:decide (v1 < (c.length:Int)) with
  | false=>rw [hd,cond_false] at h; cases h
  | true =>
   rw [hd,cond_true] at h
   obtain ⟨_,h⟩:=aQ h
   obtain ⟨y1,_,h⟩:=aK h
   cases y1 with
   | true=>rw [cond_true] at h; exact aZ5 n _ _ _ _ e h
   | false =>
    rw [cond_false] at h
    obtain ⟨z1,_,h⟩:=bB h
    cases z1 with
    | true =>
     rw [cond_true] at h
     obtain ⟨_,h⟩:=aQ h
     obtain ⟨y,hy,h⟩:=aK h
     cases h
     have:=uO (x:=y.1) (e:=y.2) hy (by omega)
     show y.1.length≤1024
     omega
    | false =>
     rw [cond_false] at h
     obtain ⟨y3,_,h⟩:=aK h
     cases hb:(!y3.2) with
     | true=>rw [hb,cond_true] at h; cases h; simp
     | false =>
      rw [hb,cond_false] at h
      obtain ⟨v5,_,h⟩:=aK h
      exact aZ5 n _ _ _ _ e h
theorem cU3 {F:Nat} {c:List UInt8} {i:Int} {r:List UInt8×Int×List UInt8×Int} (h:jR F c i=some r):r.1.length≤1024:=by
 unfold jR at h
 obtain ⟨o,ho,h⟩:=rD h
 cases o with
 | esc e =>
  have h':=aP h
  cases Option.some.inj h'
  exact aZ5 _ _ _ _ _ _ ho
 | go v =>
  rw [aW] at h
  cases h
  simp
theorem cP6 {F:Nat} {c:List UInt8} {i:Int} {r:aD×Int×List UInt8×Int} (h:jS F c i=some r):r.1.f2.length≤1024:=by
 unfold jS at h
 obtain ⟨_,h⟩:=aQ h
 obtain ⟨z1,_,h⟩:=bB h
 obtain ⟨y1,_,h⟩:=aK h
 cases hb:(bif z1 then true else y1) with
 | true =>
  rw [hb,cond_true] at h
  obtain ⟨y2,_,h⟩:=aK h
  obtain ⟨y3,_,h⟩:=aK h
  cases h
  simp
 | false =>
  rw [hb,cond_false] at h
  obtain ⟨y4,_,h⟩:=aK h
  cases y4 with
  | true =>
   rw [cond_true] at h
   obtain ⟨y5,_,h⟩:=aK h
   obtain ⟨y6,hy6,h⟩:=aK h
   cases h
   exact cP0 hy6
  | false =>
   rw [cond_false] at h
   obtain ⟨_,h⟩:=aQ h
   obtain ⟨z2,_,h⟩:=bB h
   obtain ⟨o,ho,h⟩:=rD h
   have key:(∀ e,o=.esc e→e.1.f2.length≤1024)∧∀ v,o=.go v→v.2.2.1.length≤1024:=by
    have lf:∀ {b:Bool} {x y:Option (Out (Int×Int×List UInt8×Int×List UInt8×Int) (aD×Int×List UInt8×Int))},(bif b then x else y)=some o→(x=some o→(∀ e,o=.esc e→e.1.f2.length≤1024)∧∀ v,o=.go v→v.2.2.1.length≤1024)→(y=some o→(∀ e,o=.esc e→e.1.f2.length≤1024)∧∀ v,o=.go v→v.2.2.1.length≤1024)→(∀ e,o=.esc e→e.1.f2.length≤1024)∧∀ v,o=.go v→v.2.2.1.length≤1024:=by
     intro b x y h hx hy
     cases b
     ·exact hy h
     ·exact hx h
    have nil:∀ {k v:Int} {e q:Int} {c':List UInt8},some (Out.go (k,v,([]:List UInt8),e,c',q))=some o→(∀ e,o=.esc e→e.1.f2.length≤1024)∧∀ v,o=.go v→v.2.2.1.length≤1024:=by
     intro k v e q c' h
     cases h
     exact ⟨fun e h=>(by cases h),fun v h=>(by cases h; simp)⟩
    have er:∀ {e q:Int} {c':List UInt8},some (Out.esc ((aD.mk 0 0 [] 0 0),e,c',q))=some o→(∀ e,o=.esc e→e.1.f2.length≤1024)∧∀ v,o=.go v→v.2.2.1.length≤1024:=by
     intro e q c' h
     cases h
     exact ⟨fun e h=>(by cases h; simp),fun v h=>(by cases h)⟩
    refine lf ho (fun ho=>?_) fun ho=>lf ho (fun ho=>?_) fun ho=>lf ho (fun ho=>?_) fun ho=>lf ho nil fun ho=>lf ho nil fun ho=>lf ho (fun ho=>lf ho nil fun ho=>?_) fun ho=>lf ho (fun ho=>lf ho er nil) er
    ·obtain ⟨y,hy,ho⟩:=aK ho
     cases ho
     exact ⟨fun e h=>(by cases h),fun v h=>(by cases h; exact cG0 hy)⟩
    ·obtain ⟨y,hy,ho⟩:=aK ho
     obtain ⟨y',hy',ho⟩:=aK ho
     exact nil ho
    ·obtain ⟨y,hy,ho⟩:=aK ho
     cases ho
     exact ⟨fun e h=>(by cases h),fun v h=>(by cases h; exact cG3 hy)⟩
    ·obtain ⟨y,hy,ho⟩:=aK ho
     cases ho
     exact ⟨fun e h=>(by cases h),fun v h=>(by cases h; exact cU3 hy)⟩
   cases o with
   | esc e =>
    have h':=aP h
    cases Option.some.inj h'
    exact key.1 _ rfl
   | go v =>
    rw [aW] at h
    obtain ⟨v1,v2,v3,v4,v5,v6⟩:=v
    cases h
    exact key.2 _ rfl
theorem aX2 {F:Nat} {s:List UInt8} {i:Int} {r:aD×Int×Int} (h:mX F s i=some r) (he:r.2.2=0):r.1.f3=r.2.1∧r.1.f2.length≤1024:=by
 unfold mX at h
 obtain ⟨y1,_,h⟩:=aK h
 cases hb:y1.2 == (s.length:Int) with
 | true=>rw [hb,cond_true] at h; cases h; exact ⟨rfl,by simp⟩
 | false =>
  rw [hb,cond_false] at h
  obtain ⟨y2,hy2,h⟩:=aK h
  cases hc:y2.2.1 != 0 with
  | true =>
   rw [hc,cond_true] at h
   cases h
   simp at hc
   exact absurd he hc
  | false=>rw [hc,cond_false] at h; cases h; exact ⟨rfl,cP6 hy2⟩
/-- The lexer,as both sides use it. -/
theorem aO2 {F:Nat} (hF:100000≤F) {s:List UInt8} (hs:s.length≤8192) {i:Nat} (hi:i≤s.length) :
  ∃ t p e,lC F s (i:Int)=some (t,p,e)∧jI F s (i:Int)=some (t,(if e=0 then 0 else p),e)∧(e=0→t.f3=p∧t.f2.length≤1024∧(t.f0=0∨∃ q:Nat,t.f4=(q:Int)∧i < q∧q≤s.length)):=by
 obtain ⟨⟨t,p,e⟩,h1,h2,h3⟩:=cL2 hF hs hi
 exact ⟨t,p,e,h2,cS9 hs hi h1,fun he=>⟨(aX2 h1 he).1,(aX2 h1 he).2,h3 he⟩⟩
end Go.Vm.ObjM.Lx
