import Derived.Test.YtfiggijjdmbafaaDoorMrgP
namespace Go.Vm.MrgG
open Go.Proofs
set_option maxRecDepth 20000
variable {gm0:Int}
end Go.Vm.MrgG
