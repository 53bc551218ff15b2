import Derived.Test.YtflaiaeofndgmaaGreatDoorProg
import Derived.Test.YtflaiaeofndgmaaGreatDoorVmC
import Derived.WalkKit
import Derived.Shelf.RegionOpenPlain
import Derived.Laws.Externs
import Derived.Test.YtflaiaeofndgmaaGreatDoorArNs
import Derived.Test.YtflaiaeofndgmaaGreatDoorVmD
namespace Go.Vm.ArzN
open Go.Proofs Go.RowKit
theorem b_Index1_60 {l c:List UInt8} (h:c.length=1):ACall Tryz.prog 60 [.d (.str l),.d (.str c)] [] (.d (.v (.int .i64 (Lib.indexByte l (c.getD 0 0))))) []:=by
 obtain ⟨x,rfl⟩:∃ x,c=[x]:=by
  match c,h with
  | [x],_=>exact ⟨x,rfl⟩
 exact ACall.ofBelow ⟨_,Tryz.func60,by kernel_rfl,by kernel_rfl⟩ (us:=[strOf l,strOf [x]]) (u:=.int .i64 (Lib.indexByte l x)) rfl rfl rfl fun w=>by
  refine (Tryz.strings_Index_one ⟨l.toArray⟩ x w).mono ?_
  rintro e w' ⟨rfl,rfl⟩
  exact ⟨rfl,Below.refl _ _⟩
theorem b_Index1_57 {l c:List UInt8} (h:c.length=1):ACall Tryz.prog 57 [.d (.str l),.d (.str c)] [] (.d (.v (.int .i64 (Lib.indexByte l (c.getD 0 0))))) []:=by
 obtain ⟨x,rfl⟩:∃ x,c=[x]:=by
  match c,h with
  | [x],_=>exact ⟨x,rfl⟩
 exact ACall.ofBelow ⟨_,Tryz.func57,by kernel_rfl,by kernel_rfl⟩ (us:=[strOf l,strOf [x]]) (u:=.int .i64 (Lib.indexByte l x)) rfl rfl rfl fun w=>by
  refine (Tryz.stringslite_Index_one ⟨l.toArray⟩ x w).mono ?_
  rintro e w' ⟨rfl,rfl⟩
  exact ⟨rfl,Below.refl _ _⟩
theorem b_Count1_59 {l c:List UInt8} (h:c.length=1):ACall Tryz.prog 59 [.d (.str l),.d (.str c)] [] (.d (.v (.int .i64 (Lib.countByte l (c.getD 0 0))))) []:=by
 obtain ⟨x,rfl⟩:∃ x,c=[x]:=by
  match c,h with
  | [x],_=>exact ⟨x,rfl⟩
 exact ACall.ofBelow ⟨_,Tryz.func59,by kernel_rfl,by kernel_rfl⟩ (us:=[strOf l,strOf [x]]) (u:=.int .i64 (Lib.countByte l x)) rfl rfl rfl fun w=>by
  refine (Tryz.strings_Count_one ⟨l.toArray⟩ x w).mono ?_
  rintro e w' ⟨rfl,rfl⟩
  exact ⟨rfl,Below.refl _ _⟩
end Go.Vm.ArzN
