import Derived.Test.YtmaolabjdmhinaaDoorProg
import Derived.Test.YtmaolabjdmhinaaDoorVmC
import Derived.WalkKit
import Derived.Shelf.RegionOpenPlain
import Derived.Laws.Externs
import Derived.Test.YtmaolabjdmhinaaDoorFilGS
namespace Go.Vm.FilG
open Go.Proofs Go.RowKit
set_option maxHeartbeats 1000000 in
set_option maxRecDepth 100000 in
theorem cc_used (b off : Nat) (w : World) (h0 : w.cell? ⟨b, off, none⟩ = some (.pointer (some ⟨b, off, none⟩))) :
    Calls Tryd.prog 112 #[.pointer (some ⟨b, off, none⟩)] w fun e w' => e = .returned (.tuple #[]) ∧ w' = w := by
  have hp : Tryd.prog.underlying 87 = some (.pointer 89) := Tryd.underlying87
  obtain ⟨j, hj, _⟩ : ∃ j, Tryd.prog.info? 89 = some j ∧ j.size ≠ 0 := ⟨_, rfl, by decide⟩
  go_enter Tryd.func112, Tryd.ntmps112
  go_wp2
  rw [Lib.run_neq_ptr_same w _ hp hj]
  go_wp2
  go_end0
  exact ⟨rfl, rfl⟩
set_option maxHeartbeats 1000000 in
set_option maxRecDepth 100000 in
theorem cc_fresh (b off E n : Nat) (w : World) (h0 : w.cell? ⟨b, off, none⟩ = some (.pointer none)) (hsh : w.shape? b = some (E, n)) (hoff : off < n) (hlies : liesAt Tryd.prog Tryd.prog.depth E (n / Tryd.prog.cellsOf E) off 89 1 = true) (hfz : w.frozen? ⟨b, off, none⟩ = false) :
    Calls Tryd.prog 112 #[.pointer (some ⟨b, off, none⟩)] w fun e w' => e = .returned (.tuple #[]) ∧ w' = w.setCell ⟨b, off, none⟩ (.pointer (some ⟨b, off, none⟩)) := by
  have hp : Tryd.prog.underlying 87 = some (.pointer 89) := Tryd.underlying87
  have hu : Tryd.prog.underlying 161 = some .unsafePointer := Tryd.underlying161
  obtain ⟨j, hj, hjs⟩ : ∃ j, Tryd.prog.info? 89 = some j ∧ j.size ≠ 0 := ⟨_, rfl, by decide⟩
  go_enter Tryd.func112, Tryd.ntmps112
  go_wp2
  rw [Lib.run_to_unsafe w ⟨b, off, none⟩ hp hu hj hjs hsh hoff]
  simp only [Result.andThen]
  rw [Oper.upon_value]
  go_wp2
  rw [run_callFunc_extern Tryd.func145 (by kernel_rfl) (by kernel_rfl) (by kernel_rfl) (e := Extern.AbiNoEscape.same) (by kernel_rfl)]
  rw [Lib.run_noEscape]
  simp only [Result.andThen]
  rw [Oper.upon_value]
  go_wp2
  rw [Lib.run_from_unsafe w ⟨b, off, none⟩ hu hp hj hsh hlies]
  simp only [Result.andThen]
  rw [Oper.upon_value]
  go_wp2
  go_end0
  exact ⟨rfl, rfl⟩
theorem b_copyCheck {off E : Nat} {cs : List AV} (hc : cs[off]? = some (.slf off E)) (hlies : liesAt Tryd.prog Tryd.prog.depth E (cs.length / Tryd.prog.cellsOf E) off 89 1 = true) (hb : (AV.box cs).backOk = true) : ACall Tryd.prog 112 [.bp virtBase off] [.box cs] (.tup []) [.box cs] :=
  ACall.copyCheck (tb := 89) ⟨_, Tryd.func112, by kernel_rfl, by kernel_rfl⟩ cc_used cc_fresh hc hlies hb

set_option maxHeartbeats 1000000 in
set_option maxRecDepth 100000 in
theorem bs_walk (b off n c : Nat) (q p : Option Addr) (s : ByteArray) (w w1 w2 : World) (c1 : w.drew.cell? ⟨b, off + 1, none⟩ = some (.slice q n c)) (c2 : w1.cell? ⟨b, off + 1, none⟩ = some (.slice q n c))
    (hSD : (Builtin.unsafeSliceData_ #[72] 123 #[.slice q n c]).run Tryd.prog w.drew = .ok (.pointer p) w1) (hUS : (Builtin.unsafeString_ #[123, 3] 9 #[.pointer p, .int .i64 n]).run Tryd.prog w1 = .ok (.string s) w2) :
    Calls Tryd.prog 67 #[.pointer (some ⟨b, off, none⟩)] w fun e w' => e = .returned (.string s) ∧ w' = w2 := by
  have mixed : Tryd.prog.follows .mixedOrders = true := by kernel_rfl
  go_enter Tryd.func67, Tryd.ntmps67
  go_wp2
  go_region
  all_goals (go_wp2; go_ret; exact ⟨rfl, rfl⟩)
theorem b_String {off : Nat} {cs : List AV} {l : List UInt8} (hl63 : l.length ≤ 9223372036854775807) (hc : cs[off + 1]? = some (.own 5 1 (l.map cU))) (hb : (AV.box (cs.set (off + 1) .junk)).backOk = true) : ACall Tryd.prog 67 [.bp virtBase off] [.box cs] (.d (.str l)) [.box (cs.set (off + 1) .junk)] :=
  ACall.bString ⟨_, Tryd.func67, by kernel_rfl, by kernel_rfl⟩ Tryd.underlying123 (by kernel_rfl) bs_walk hl63 hc hb

theorem b_Clone {l : List UInt8} (h : l.length ≤ 281474976710656) : ACall Tryd.prog 91 [.d (.str l)] [] (.d (.str l)) [] :=
  ACall.ofBelow ⟨_, Tryd.func91, by kernel_rfl, by kernel_rfl⟩ (us := [strOf l]) (u := strOf l) rfl rfl rfl fun w => Tryd.stringslite_Clone ⟨l.toArray⟩ w (by simpa [ByteArray.size] using h)

theorem b_Repeat {l : List UInt8} {n : Int} (h : 0 ≤ n ∧ n ≤ 9223372036854775807 ∧ l.length * n.toNat ≤ 140737488355328) : ACall Tryd.prog 69 [.d (.str l), .d (.v (.int .i64 n))] [] (.d (.str (Lib.repeatL l n.toNat))) [] :=
  ACall.ofBelow ⟨_, Tryd.func69, by kernel_rfl, by kernel_rfl⟩ (us := [strOf l, .int .i64 n]) (u := strOf (Lib.repeatL l n.toNat)) rfl rfl rfl fun w => by
    have := Tryd.strings_Repeat ⟨l.toArray⟩ n.toNat w (by omega) (by simpa [ByteArray.size] using h.2.2)
    rw [Int.toNat_of_nonneg h.1] at this
    exact this
end Go.Vm.FilG
