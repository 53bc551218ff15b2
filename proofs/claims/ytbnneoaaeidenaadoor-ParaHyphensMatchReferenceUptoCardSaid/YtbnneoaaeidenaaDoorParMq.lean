import Derived.Test.YtbnneoaaeidenaaDoorParMp
namespace Go.Vm.ParM
open Go.Proofs
set_option maxRecDepth 20000
end Go.Vm.ParM
