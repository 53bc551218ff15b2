/-
  vary.Parse,plain law 7: the law.
-/
import Derived.Test.YtfiggijjdmbafaaDoorMrgLf
namespace Go.Vm.MrgG
/-! ## What a table read is like -/
def okr (N:Nat) (w:List (List UInt8)):Prop:=w.length≤N∧w≠[]∧∀ x∈w,x.length≤N
/-! ## The loops of the law -/
section
variable (F:Nat) (f:List (List UInt8)) (rows:List (List (List UInt8))) (hF:8193 < F) (hf:okr 8192 f) (hr:∀ w∈rows,okr 8192 w)
include hF hf
end
end Go.Vm.MrgG
