/-
  para.Hyphens in the walk of the laws: its contract.
-/
import Derived.Test.YtbnneoaaeidenaaDoorParMf
import Derived.Test.YtbnneoaaeidenaaDoorParHg
namespace Go.Vm.ParM
open Go.Proofs
theorem para_Hyphens_ok {F:Nat} {a0:List UInt8} {a1:List (List UInt8)} {r:(List Int)×Int} (h:para_Hyphens F a0 a1=some r):ACall Tryd.prog 7 [.d (.str a0),.d (.sl 1 (a1.map cS))] [] (.tup [.d (.sl 1 (r.1.map (cI .i64))),.d (.v (.int .i64 r.2))]) []:=ParG.hyph_ok h
end Go.Vm.ParM
