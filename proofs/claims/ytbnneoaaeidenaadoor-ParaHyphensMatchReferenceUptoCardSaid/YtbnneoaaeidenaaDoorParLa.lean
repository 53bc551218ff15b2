/-
  para.Check against the reference: the plain law.
-/
import Derived.Test.YtbnneoaaeidenaaDoorParMf
import Derived.Test.YtbnneoaaeidenaaDoorVmD
namespace Go.Vm.ParM
theorem fact (n:Nat):law3_paraFact (n+40)=some true:=by rfl
theorem nat_toNat (i:Nat):((i:Nat):Int).toNat=i:=rfl
/-- What the shape's check comes to. -/
def z6 (s:S_ParaShape):Bool:=bif (bif (decide (s.f0 < 1)) then true else (decide (s.f0 > 65535))) then true else (decide (s.f2 < 0))
def z7 (s:S_ParaShape):Bool:=bif (bif z6 s then true else (decide (s.f3 > 65535))) then true else (decide (s.f4 < 0))
def z8 (s:S_ParaShape):Bool:=bif (bif z7 s then true else (decide (s.f4 > 65535))) then true else (decide (s.f5 < 0))
end Go.Vm.ParM
