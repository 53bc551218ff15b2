/-
  vary.Parse,plain law 1: the reference's table as a recursion on the rest.
-/
import Derived.Test.YtfiggijjdmbafaaDoorMrgF
import Derived.Test.YtfiggijjdmbafaaDoorVmD
import Derived.Test.YtfiggijjdmbafaaDoorVmC
namespace Go.Vm.MrgG
theorem nat_toNat (i:Nat):((i:Nat):Int).toNat=i:=rfl
theorem getD_head {s:List UInt8} {i:Nat} (hi:i < s.length):s.drop i=s.getD i 0 :: s.drop (i+1):=by
  rw [List.getD_eq_getElem?_getD,List.getElem?_eq_getElem hi]
  exact List.drop_eq_getElem_cons hi
theorem eqb (c k:UInt8):((c.toNat:Int) == (k.toNat:Int))=(c == k):=by
  rw [Bool.eq_iff_iff]
  simp only [beq_iff_eq]
  exact ⟨fun h=>UInt8.toNat.inj (by exact_mod_cast h),fun h=>by rw [h]⟩
theorem one_at {s:List UInt8} {i:Nat} (hi:i < s.length):(s.drop i).take (i+1 - i)=[s.getD i 0]:=by
  rw [getD_head hi,show i+1 - i=1 by omega]
  rfl
/-- Whether the table is read. -/
def good:Option (List (List (List UInt8))×List (List UInt8)×Int)→Bool
  | some (o,r,m)=>bif (bif (m == 0) then r.isEmpty else false) then decide ((o.length:Int) > (0:Int)) else false
  | none=>false
end Go.Vm.MrgG
