import Derived.Test.YtflaiaeofndgmaaDoorProg
import Derived.Test.YtflaiaeofndgmaaDoorVmC
import Derived.WalkKit
import Derived.Shelf.RegionOpenPlain
import Derived.Laws.Externs
import Derived.Test.YtflaiaeofndgmaaDoorArcS
namespace Go.Vm.ArcG
open Go.Proofs Go.RowKit
theorem b_Clone {l:List UInt8} (h:l.length≤281474976710656):ACall Tryd.prog 29 [.d (.str l)] [] (.d (.str l)) [] :=
  ACall.ofBelow ⟨_,Tryd.func29,by kernel_rfl,by kernel_rfl⟩ (us:=[strOf l]) (u:=strOf l) rfl rfl rfl fun w=>Tryd.stringslite_Clone ⟨l.toArray⟩ w (by simpa [ByteArray.size] using h)
end Go.Vm.ArcG
