/-
  The plain law of ArchiveLoad: small things.
-/
import Derived.Test.YtflaiaeofndgmaaGreatDoorArF
namespace Go.Vm.ArzG
theorem clone_self {F:Nat} {l:List (List UInt8)} (h:l.length≤4294967296):slices_Clone_string F l=some l:=by
 unfold slices_Clone_string
 rw [chk,if_pos (by simpa using h)]
 rfl
theorem equal_L0 {F:Nat} {l:List (List UInt8)} (hl:l.length≤1000000000):∀ (n j:Nat),j≤l.length→l.length - j < n→slices_Equal_string_L0 F l l n (j:Int)=some (.go ())
 | 0,j,_,h=>absurd h (Nat.not_lt_zero _)
 | n+1,j,hj,h=>by
  unfold slices_Equal_string_L0
  by_cases h1:j < l.length
  ·have e:IntKind.i64.wrap ((j:Int)+1)=((j+1:Nat):Int):=by
    unfold IntKind.wrap
    simp [IntKind.bits,IntKind.signed]
    omega
   rw [decide_eq_true (by omega),cond_true,chk,if_pos ⟨by omega,by omega⟩,chk,if_pos ⟨by omega,by omega⟩,e]
   simp only [beq_self_eq_true,Bool.not_true,cond_false]
   exact equal_L0 hl n (j+1) (by omega) (by omega)
  ·rw [decide_eq_false (by omega),cond_false]
theorem equal_self {F:Nat} {l:List (List UInt8)} (hl:l.length≤1000000000) (hF:l.length < F):slices_Equal_string F l l=some true:=by
 unfold slices_Equal_string
 rw [show ((l.length:Int) != (l.length:Int))=false by simp,cond_false,show (0:Int)=((0:Nat):Int) from rfl,equal_L0 hl F 0 (Nat.zero_le _) (by omega)]
 rfl
end Go.Vm.ArzG
