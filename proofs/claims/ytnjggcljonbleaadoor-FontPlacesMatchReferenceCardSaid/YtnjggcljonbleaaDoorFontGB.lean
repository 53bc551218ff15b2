import Derived.Test.YtnjggcljonbleaaDoorProg
import Derived.Test.YtnjggcljonbleaaDoorVmBuild
import Derived.WalkKit
import Derived.Shelf.RegionOpenPlain
import Derived.Laws.Externs
namespace Go.Vm.FontG
open Go.Proofs Go.RowKit
set_option maxHeartbeats 1000000 in
set_option maxRecDepth 100000 in
theorem cc_used (b off : Nat) (w : World) (h0 : w.cell? ⟨b, off, none⟩ = some (.pointer (some ⟨b, off, none⟩))) :
    Calls Tryd.prog 59 #[.pointer (some ⟨b, off, none⟩)] w fun e w' => e = .returned (.tuple #[]) ∧ w' = w := by
  have hp : Tryd.prog.underlying 102 = some (.pointer 105) := Tryd.underlying102
  obtain ⟨j, hj, _⟩ : ∃ j, Tryd.prog.info? 105 = some j ∧ j.size ≠ 0 := ⟨_, rfl, by decide⟩
  go_enter Tryd.func59, Tryd.ntmps59
  go_wp2
  rw [Lib.run_neq_ptr_same w _ hp hj]
  go_wp2
  go_end0
  exact ⟨rfl, rfl⟩
set_option maxHeartbeats 1000000 in
set_option maxRecDepth 100000 in
theorem cc_fresh (b off E n : Nat) (w : World) (h0 : w.cell? ⟨b, off, none⟩ = some (.pointer none)) (hsh : w.shape? b = some (E, n)) (hoff : off < n) (hlies : liesAt Tryd.prog Tryd.prog.depth E (n / Tryd.prog.cellsOf E) off 105 1 = true) (hfz : w.frozen? ⟨b, off, none⟩ = false) :
    Calls Tryd.prog 59 #[.pointer (some ⟨b, off, none⟩)] w fun e w' => e = .returned (.tuple #[]) ∧ w' = w.setCell ⟨b, off, none⟩ (.pointer (some ⟨b, off, none⟩)) := by
  have hp : Tryd.prog.underlying 102 = some (.pointer 105) := Tryd.underlying102
  have hu : Tryd.prog.underlying 135 = some .unsafePointer := Tryd.underlying135
  obtain ⟨j, hj, hjs⟩ : ∃ j, Tryd.prog.info? 105 = some j ∧ j.size ≠ 0 := ⟨_, rfl, by decide⟩
  go_enter Tryd.func59, Tryd.ntmps59
  go_wp2
  rw [Lib.run_to_unsafe w ⟨b, off, none⟩ hp hu hj hjs hsh hoff]
  simp only [Result.andThen]
  rw [Oper.upon_value]
  go_wp2
  rw [run_callFunc_extern Tryd.func66 (by kernel_rfl) (by kernel_rfl) (by kernel_rfl) (e := Extern.AbiNoEscape.same) (by kernel_rfl)]
  rw [Lib.run_noEscape]
  simp only [Result.andThen]
  rw [Oper.upon_value]
  go_wp2
  rw [Lib.run_from_unsafe w ⟨b, off, none⟩ hu hp hj hsh hlies]
  simp only [Result.andThen]
  rw [Oper.upon_value]
  go_wp2
  go_end0
  exact ⟨rfl, rfl⟩
theorem b_copyCheck {off E : Nat} {cs : List AV} (hc : cs[off]? = some (.slf off E)) (hlies : liesAt Tryd.prog Tryd.prog.depth E (cs.length / Tryd.prog.cellsOf E) off 105 1 = true) (hb : (AV.box cs).backOk = true) : ACall Tryd.prog 59 [.bp virtBase off] [.box cs] (.tup []) [.box cs] :=
  ACall.copyCheck (tb := 105) ⟨_, Tryd.func59, by kernel_rfl, by kernel_rfl⟩ cc_used cc_fresh hc hlies hb

set_option maxHeartbeats 1000000 in
set_option maxRecDepth 100000 in
theorem bs_walk (b off n c : Nat) (q p : Option Addr) (s : ByteArray) (w w1 w2 : World) (c1 : w.drew.cell? ⟨b, off + 1, none⟩ = some (.slice q n c)) (c2 : w1.cell? ⟨b, off + 1, none⟩ = some (.slice q n c))
    (hSD : (Builtin.unsafeSliceData_ #[103] 129 #[.slice q n c]).run Tryd.prog w.drew = .ok (.pointer p) w1) (hUS : (Builtin.unsafeString_ #[129, 3] 9 #[.pointer p, .int .i64 n]).run Tryd.prog w1 = .ok (.string s) w2) :
    Calls Tryd.prog 42 #[.pointer (some ⟨b, off, none⟩)] w fun e w' => e = .returned (.string s) ∧ w' = w2 := by
  have mixed : Tryd.prog.follows .mixedOrders = true := by kernel_rfl
  go_enter Tryd.func42, Tryd.ntmps42
  go_wp2
  go_region
  all_goals (go_wp2; go_ret; exact ⟨rfl, rfl⟩)
theorem b_String {off : Nat} {cs : List AV} {l : List UInt8} (hl63 : l.length ≤ 9223372036854775807) (hc : cs[off + 1]? = some (.own 5 1 (l.map cU))) (hb : (AV.box (cs.set (off + 1) .junk)).backOk = true) : ACall Tryd.prog 42 [.bp virtBase off] [.box cs] (.d (.str l)) [.box (cs.set (off + 1) .junk)] :=
  ACall.bString ⟨_, Tryd.func42, by kernel_rfl, by kernel_rfl⟩ Tryd.underlying129 (by kernel_rfl) bs_walk hl63 hc hb
end Go.Vm.FontG
