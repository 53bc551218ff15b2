import Derived.Test.YtmaolabjdmhinaaDoorProg
import Derived.Test.YtmaolabjdmhinaaDoorVmC
import Derived.WalkKit
import Derived.Shelf.RegionOpenPlain
import Derived.Laws.Externs
import Derived.Test.YtmaolabjdmhinaaDoorLexGS
import Derived.Lib.AtoiErrMem
import Derived.Test.YtmaolabjdmhinaaDoorLexGF
namespace Go.Vm.LexG
open Go.Proofs Go.RowKit
set_option maxHeartbeats 1000000 in
set_option maxRecDepth 100000 in
theorem cc_used (b off : Nat) (w : World) (h0 : w.cell? ⟨b, off, none⟩ = some (.pointer (some ⟨b, off, none⟩))) :
    Calls Tryd.prog 112 #[.pointer (some ⟨b, off, none⟩)] w fun e w' => e = .returned (.tuple #[]) ∧ w' = w := by
  have hp : Tryd.prog.underlying 87 = some (.pointer 89) := Tryd.underlying87
  obtain ⟨j, hj, _⟩ : ∃ j, Tryd.prog.info? 89 = some j ∧ j.size ≠ 0 := ⟨_, rfl, by decide⟩
  go_enter Tryd.func112, Tryd.ntmps112
  go_wp2
  rw [Lib.run_neq_ptr_same w _ hp hj]
  go_wp2
  go_end0
  exact ⟨rfl, rfl⟩
set_option maxHeartbeats 1000000 in
set_option maxRecDepth 100000 in
theorem cc_fresh (b off E n : Nat) (w : World) (h0 : w.cell? ⟨b, off, none⟩ = some (.pointer none)) (hsh : w.shape? b = some (E, n)) (hoff : off < n) (hlies : liesAt Tryd.prog Tryd.prog.depth E (n / Tryd.prog.cellsOf E) off 89 1 = true) (hfz : w.frozen? ⟨b, off, none⟩ = false) :
    Calls Tryd.prog 112 #[.pointer (some ⟨b, off, none⟩)] w fun e w' => e = .returned (.tuple #[]) ∧ w' = w.setCell ⟨b, off, none⟩ (.pointer (some ⟨b, off, none⟩)) := by
  have hp : Tryd.prog.underlying 87 = some (.pointer 89) := Tryd.underlying87
  have hu : Tryd.prog.underlying 161 = some .unsafePointer := Tryd.underlying161
  obtain ⟨j, hj, hjs⟩ : ∃ j, Tryd.prog.info? 89 = some j ∧ j.size ≠ 0 := ⟨_, rfl, by decide⟩
  go_enter Tryd.func112, Tryd.ntmps112
  go_wp2
  rw [Lib.run_to_unsafe w ⟨b, off, none⟩ hp hu hj hjs hsh hoff]
  simp only [Result.andThen]
  rw [Oper.upon_value]
  go_wp2
  rw [run_callFunc_extern Tryd.func145 (by kernel_rfl) (by kernel_rfl) (by kernel_rfl) (e := Extern.AbiNoEscape.same) (by kernel_rfl)]
  rw [Lib.run_noEscape]
  simp only [Result.andThen]
  rw [Oper.upon_value]
  go_wp2
  rw [Lib.run_from_unsafe w ⟨b, off, none⟩ hu hp hj hsh hlies]
  simp only [Result.andThen]
  rw [Oper.upon_value]
  go_wp2
  go_end0
  exact ⟨rfl, rfl⟩
theorem b_copyCheck {off E : Nat} {cs : List AV} (hc : cs[off]? = some (.slf off E)) (hlies : liesAt Tryd.prog Tryd.prog.depth E (cs.length / Tryd.prog.cellsOf E) off 89 1 = true) (hb : (AV.box cs).backOk = true) : ACall Tryd.prog 112 [.bp virtBase off] [.box cs] (.tup []) [.box cs] :=
  ACall.copyCheck (tb := 89) ⟨_, Tryd.func112, by kernel_rfl, by kernel_rfl⟩ cc_used cc_fresh hc hlies hb

set_option maxHeartbeats 1000000 in
set_option maxRecDepth 100000 in
theorem bs_walk (b off n c : Nat) (q p : Option Addr) (s : ByteArray) (w w1 w2 : World) (c1 : w.drew.cell? ⟨b, off + 1, none⟩ = some (.slice q n c)) (c2 : w1.cell? ⟨b, off + 1, none⟩ = some (.slice q n c))
    (hSD : (Builtin.unsafeSliceData_ #[72] 123 #[.slice q n c]).run Tryd.prog w.drew = .ok (.pointer p) w1) (hUS : (Builtin.unsafeString_ #[123, 3] 9 #[.pointer p, .int .i64 n]).run Tryd.prog w1 = .ok (.string s) w2) :
    Calls Tryd.prog 67 #[.pointer (some ⟨b, off, none⟩)] w fun e w' => e = .returned (.string s) ∧ w' = w2 := by
  have mixed : Tryd.prog.follows .mixedOrders = true := by kernel_rfl
  go_enter Tryd.func67, Tryd.ntmps67
  go_wp2
  go_region
  all_goals (go_wp2; go_ret; exact ⟨rfl, rfl⟩)
theorem b_String {off : Nat} {cs : List AV} {l : List UInt8} (hl63 : l.length ≤ 9223372036854775807) (hc : cs[off + 1]? = some (.own 5 1 (l.map cU))) (hb : (AV.box (cs.set (off + 1) .junk)).backOk = true) : ACall Tryd.prog 67 [.bp virtBase off] [.box cs] (.d (.str l)) [.box (cs.set (off + 1) .junk)] :=
  ACall.bString ⟨_, Tryd.func67, by kernel_rfl, by kernel_rfl⟩ Tryd.underlying123 (by kernel_rfl) bs_walk hl63 hc hb

theorem b_IndexByte_83 {l : List UInt8} {c : Int} : ACall Tryd.prog 83 [.d (.str l), .d (.v (.int .u8 c))] [] (.d (.v (.int .i64 (Lib.indexByte l c.toNat.toUInt8)))) [] :=
  ACall.ofBelow ⟨_, Tryd.func83, by kernel_rfl, by kernel_rfl⟩ (us := [strOf l, .int .u8 c]) (u := .int .i64 (Lib.indexByte l c.toNat.toUInt8)) rfl rfl rfl fun w => (Tryd.strings_IndexByte ⟨l.toArray⟩ c w).mono (by rintro e w' ⟨rfl, rfl⟩; exact ⟨rfl, Below.refl _ _⟩)

theorem b_Atoi {l : List UInt8} {v : Int} (h : l.length ≤ 9223372036854775806) (hv : sAtoi l = some v) : ACall Tryd.prog 74 [.d (.str l)] [] (.tup [.d (.v (.int .i64 v)), .d (.v .nilIface)]) [] :=
  ACall.ofBelow ⟨_, Tryd.func74, by kernel_rfl, by kernel_rfl⟩ (us := [strOf l]) (u := .tuple #[.int .i64 v, .nilIface]) rfl rfl rfl fun w => by
    have h0 : Lib.atoiAll l = .ok v := by
      unfold sAtoi at hv
      split at hv
      · rename_i h0; cases hv; exact h0
      · cases hv
    refine (Tryd.strconv_Atoi_ok ⟨l.toArray⟩ (by simpa [ByteArray.size] using h) v h0 w).mono ?_
    rintro e w' ⟨rfl, rfl | ⟨t, rfl⟩⟩
    · exact ⟨rfl, Below.refl _ _⟩
    · exact ⟨rfl, Lib.bytesWorld_below _ _ _⟩

theorem b_ContainsFunc {l : List UInt8} {q : Int → Option Bool} {r : Bool} (g : Nat) (hg1 : (Tryd.prog.funcs[g]?).map (fun f => f.body.isNone) = some false) (hg2 : (Tryd.prog.funcs[g]?).map (fun f => f.name == "runtime.NumGoroutine") = some false)
    (hq : ∀ (x : Int) (b : Bool), q x = some b → ACall Tryd.prog g [.d (.v (.int .i32 x))] [] (.d (.v (.bool b))) []) (h : sContains q l = some r) : ACall Tryd.prog 72 [.d (.str l), .clo g []] [] (.d (.v (.bool r))) [] :=
  ACall.ofBelow ⟨_, Tryd.func72, by kernel_rfl, by kernel_rfl⟩ (us := [strOf l, .func (.func g) #[] #[]]) (u := .bool r) rfl rfl rfl fun w => by
    obtain ⟨h1, h2⟩ := sContains_ok h
    refine (Tryd.strings_ContainsFunc_grows g #[] (enter_of hg1 hg2) (fun x => (q x).getD false) ⟨l.toArray⟩ w ?_).mono ?_
    · intro W x hx _
      obtain ⟨b, hb⟩ := Option.isSome_iff_exists.1 (h1 x hx)
      have := (hq x b hb).below (us := [.int .i32 x]) (u := .bool b) rfl (show 1 < resSlot by decide) rfl W
      have hb' : (q ↑x).getD false = b := by rw [hb]; rfl
      subst hb'
      exact this
    · rintro e w' ⟨rfl, hb⟩
      rw [h2]
      exact ⟨rfl, hb⟩
end Go.Vm.LexG
