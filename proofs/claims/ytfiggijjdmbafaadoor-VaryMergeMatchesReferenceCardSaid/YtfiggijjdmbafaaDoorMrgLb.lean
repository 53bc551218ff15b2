/-
  vary.Parse,plain law 2: a value,a line.
-/
import Derived.Test.YtfiggijjdmbafaaDoorMrgLa
namespace Go.Vm.MrgG
def NG (x:Option (List (List (List UInt8))×List (List UInt8)×Int)):Prop:=∀ o r m,x=some (o,r,m)→(m == 0)=false
theorem NG.good {x} (h:NG x):good x=false:=by
  cases x with
  | none=>rfl
  | some x=>obtain ⟨o,r,m⟩:=x; rw [MrgG.good,h o r m rfl]; rfl
theorem NG.none:NG none:=fun _ _ _ h=>by cases h
def chars:List UInt8:=[44,34,10]
theorem chars_f {b:UInt8} (h:chars.contains b=false):(b == 34)=false∧(b == 44)=false∧(b == 10)=false:=by
  simp only [chars,List.contains_cons,List.contains_nil,Bool.or_false,Bool.or_eq_false_iff] at h
  exact ⟨h.2.1,h.1,h.2.2⟩
end Go.Vm.MrgG
