/-
  archive.Cuts against R.Windows: the plain law. The rolling sums.
-/
import Derived.Test.YtflaiaeofndgmaaDoorArcF
import Derived.Test.YtflaiaeofndgmaaDoorVmC
import Derived.Test.YtflaiaeofndgmaaDoorVmD
namespace Go.Vm.ArcG
theorem wrapU (x:Int):IntKind.u32.wrap x=x % 4294967296:=by
  simp [IntKind.wrap,IntKind.signed,IntKind.bits]
/-- The number of a byte. -/
def bt (s:List UInt8) (i:Nat):Int:=((s.getD i 0).toNat:Int)+1
theorem bt_lt (s:List UInt8) (i:Nat):1≤bt s i∧bt s i≤256:=by
  have:=(s.getD i 0).toNat_lt
  unfold bt
  omega
/-- The number of the window of k bytes before the place n. -/
def sw (s:List UInt8) (n:Nat):Nat→Int
  | 0=>0
  | k+1=>sw s n k+bt s (n - 1 - k) * 31 ^ k
theorem sw_shift (s:List UInt8) (n k:Nat):sw s (n+1) (k+1)=bt s n+31 * sw s n k:=by
  induction k with
  | zero=>simp [sw]
  | succ k ih =>
    rw [sw,ih,sw,show n+1 - 1 - (k+1)=n - 1 - k by omega,Int.pow_succ,Int.mul_add,Int.add_assoc]
    congr 2
    rw [Int.mul_comm (31 ^ k) 31,← Int.mul_assoc,← Int.mul_assoc,Int.mul_comm (bt s (n - 1 - k)) 31]
/-- What cut computes. -/
def rl (s:List UInt8) (n:Nat):Int:=sw s n (min n 16)
theorem rl_low {s:List UInt8} {n:Nat} (h:n < 16):rl s (n+1)=bt s n+31 * rl s n:=by
  unfold rl
  rw [show min (n+1) 16=n+1 by omega,show min n 16=n by omega,sw_shift]
theorem rl_high {s:List UInt8} {n:Nat} (h:16≤n):rl s (n+1)=bt s n+31 * rl s n - 727423121747185263828481 * bt s (n - 16):=by
  unfold rl
  rw [show min (n+1) 16=15+1 by omega,show min n 16=16 by omega,sw_shift]
  have h2:sw s n 16=sw s n 15+bt s (n - 1 - 15) * 31 ^ 15:=rfl
  rw [h2,show n - 1 - 15=n - 16 by omega,show (31:Int) ^ 15=23465261991844685929951 by decide]
  omega
theorem drop_eq (k n:Nat):archive_cut_L0 n (k+17) 1 0=some 1353309697:=by rfl
end Go.Vm.ArcG
