/-
  FONT,PLAIN,part 10: the order of the kerning pairs.
-/
import Derived.Test.YtkoocklcgndanaaDoorSubLh
namespace Go.Vm.SubG
theorem cmpP_lt (p q:S_FontPair):decide (cmpP p q < 0)=decide (p.f0 < q.f0∨(p.f0=q.f0∧p.f1 < q.f1)):=by
 refine decide_eq_decide.2 ?_
 unfold cmpP cmpI
 by_cases e1:p.f0 < q.f0
 ·simp [e1]
 ·by_cases e2:p.f0 > q.f0
  ·simp [e1,e2]; omega
  ·simp only [e1,e2,if_false,bne_self_eq_false,Bool.false_eq_true]
   by_cases e3:p.f1 < q.f1
   ·simp [e3]; omega
   ·by_cases e4:p.f1 > q.f1
    ·simp [e3,e4]
    ·simp [e3,e4]
structure KernOk (l:List S_FontPair):Prop where
 each:∀ (i:Nat) x,l[i]? = some x → -2047≤x.f2∧x.f2≤2047
 sorted:∀ (i j:Nat) x y,i < j→l[i]? = some x→l[j]? = some y→(x.f0 < y.f0∨(x.f0=y.f0∧x.f1 < y.f1))
theorem krn_ok {n:Int} {l:List S_FontPair} (h:krnOut n l=.go ()):KernOk l:=by
 have key:=runT_go (krnF n l) (fun i x r hr=>by
  unfold krnF at hr
  split at hr
  ·cases hr; exact fun h=>by cases h
  ·split at hr
   ·cases hr; exact fun h=>by cases h
   ·split at hr
    ·cases hr; exact fun h=>by cases h
    ·cases hr) l 0 h
 have each:∀ (i:Nat) x,l[i]? = some x→(-2047≤x.f2∧x.f2≤2047)∧(0 < i→cmpP (l.getD (i - 1) (S_FontPair.mk 0 0 0)) x < 0):=by
  intro i x hx
  have:=key i x hx
  rw [Nat.zero_add] at this
  unfold krnF at this
  split at this
  ·cases this
  ·split at this
   ·cases this
   ·rename_i t2
    split at this
    ·cases this
    ·rename_i t3
     unfold farB at t2
     simp only [Bool.or_eq_true,Bool.and_eq_true,decide_eq_true_eq] at t2 t3
     refine ⟨by omega,fun hi=>?_⟩
     by_cases hlt:cmpP (l.getD (i - 1) (S_FontPair.mk 0 0 0)) x < 0
     ·exact hlt
     ·exact absurd ⟨hi,by omega⟩ t3
 refine ⟨fun i x hx=>(each i x hx).1,fun i j=>?_⟩
 induction j with
 | zero=>intro x y h; omega
 | succ j ih =>
  intro x y hij hx hy
  have hj:j < l.length:=by have:=lt_of_get hy; omega
  have hz:l[j]? = some l[j]:=List.getElem?_eq_getElem hj
  have h1:=(each (j+1) y hy).2 (by omega)
  rw [show j+1 - 1=j by omega,getD_of hz] at h1
  have h1':=decide_eq_true h1
  rw [cmpP_lt,decide_eq_true_eq] at h1'
  by_cases he:i=j
  ·subst he
   rw [hx] at hz
   cases hz
   exact h1'
  ·have h2:=ih x l[j] (by omega) hx hz
   omega
end Go.Vm.SubG
