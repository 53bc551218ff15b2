/-
  para.Break: what is read of small data is small.
-/
import Derived.Test.YtbnneoaaeidenaaDoorParLa
import Derived.Test.YtbnneoaaeidenaaDoorVmD
import Derived.Test.YtbnneoaaeidenaaDoorRows
namespace Go.Proofs.YtbnneoaaeidenaaDoor
open Go.ChangeShapes Go.WideShapes Go.ChangeAt Go.WideMaps Go.WideElems Go.RowKit Go.Vm Go.Vm.ParM
theorem bulkAll_mem {H:Type}:∀ (l:List (DataW H)) (d:DataW H),d∈l→Rows.uptoBulk d≤Rows.uptoBulkAll l
  | x :: r,d,h=>by
    simp only [Rows.uptoBulkAll]
    rcases List.mem_cons.1 h with rfl | h
    · omega
    · have:=bulkAll_mem r d h
      omega
end Go.Proofs.YtbnneoaaeidenaaDoor
