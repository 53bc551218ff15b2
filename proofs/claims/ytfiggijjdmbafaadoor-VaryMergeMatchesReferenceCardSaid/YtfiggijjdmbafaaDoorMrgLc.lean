/-
  vary.Parse,plain law 3: values,lines,the loop of Parse.
-/
import Derived.Test.YtfiggijjdmbafaaDoorMrgLb
namespace Go.Vm.MrgG
end Go.Vm.MrgG
