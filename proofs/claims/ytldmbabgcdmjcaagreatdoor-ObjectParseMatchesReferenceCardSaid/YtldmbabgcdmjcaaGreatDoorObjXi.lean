/-
  token,reading: plain law 9: the laws TokenNextAtAnyOffset and TokenMatchesReference.
-/
import Derived.Test.YtldmbabgcdmjcaaGreatDoorObjXh
namespace Go.Vm.ObjM.Lx
/-- Next,behind its checks. -/
theorem cS9 {F:Nat} {s:List UInt8} (hs:s.length≤8192) {i:Nat} (hi:i≤s.length) {r:aD×Int×Int} (h:mX F s (i:Int)=some r) :
  jI F s (i:Int)=some (r.1,(if r.2.2=0 then 0 else r.2.1),r.2.2):=by
 unfold jI
 rw [decide_eq_false (show ¬ (s.length:Int) > 8192 by omega),decide_eq_false (show ¬ (i:Int) < 0 by omega),decide_eq_false (show ¬ (i:Int) > s.length by omega)]
 simp only [cond_false]
 rw [h,aA]
 by_cases he:r.2.2=0
 ·rw [if_pos he,show (r.2.2 == 0)=true by simpa using he]; rfl
 ·rw [if_neg he,show (r.2.2 == 0)=false by simpa using he]; rfl
end Go.Vm.ObjM.Lx
