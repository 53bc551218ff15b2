import Derived.Test.YtmaolabjdmhinaaDoorProg
import Derived.Test.YtmaolabjdmhinaaDoorVmC
import Derived.WalkKit
import Derived.Shelf.RegionOpenPlain
import Derived.Laws.Externs
import Derived.Test.YtmaolabjdmhinaaDoorVarGS
import Derived.Lib.AppendIntMem
import Derived.Lib.AtoiErrMem
import Derived.Test.YtmaolabjdmhinaaDoorVarGF
namespace Go.Vm.VarG
open Go.Proofs Go.RowKit
theorem b_Repeat {l : List UInt8} {n : Int} (h : 0 ≤ n ∧ n ≤ 9223372036854775807 ∧ l.length * n.toNat ≤ 140737488355328) : ACall Tryd.prog 69 [.d (.str l), .d (.v (.int .i64 n))] [] (.d (.str (Lib.repeatL l n.toNat))) [] :=
  ACall.ofBelow ⟨_, Tryd.func69, by kernel_rfl, by kernel_rfl⟩ (us := [strOf l, .int .i64 n]) (u := strOf (Lib.repeatL l n.toNat)) rfl rfl rfl fun w => by
    have := Tryd.strings_Repeat ⟨l.toArray⟩ n.toNat w (by omega) (by simpa [ByteArray.size] using h.2.2)
    rw [Int.toNat_of_nonneg h.1] at this
    exact this

theorem b_Itoa {n : Int} (h : -9223372036854775808 ≤ n ∧ n ≤ 9223372036854775807) : ACall Tryd.prog 49 [.d (.v (.int .i64 n))] [.glo 4 (glob_internal_strconv_uint64pow10.flatMap (cI .u64))] (.d (.str (Lib.itoa n))) [.glo 4 (glob_internal_strconv_uint64pow10.flatMap (cI .u64))] :=
  ACall.ofBelowG ⟨_, Tryd.func49, by kernel_rfl, by kernel_rfl⟩ (us := [.int .i64 n]) (u := strOf (Lib.itoa n)) rfl rfl rfl fun w S hg => (Tryd.strconv_Itoa n h.1 h.2 w (TabIs.of_glo (by kernel_rfl) hg)).mono (by rintro e w' ⟨rfl, k, os, rfl⟩; exact ⟨rfl, Lib.below_grow _ _ (Nat.le_refl _) _ _⟩)

theorem b_Atoi {l : List UInt8} {v : Int} (h : l.length ≤ 9223372036854775806) (hv : sAtoi l = some v) : ACall Tryd.prog 74 [.d (.str l)] [] (.tup [.d (.v (.int .i64 v)), .d (.v .nilIface)]) [] :=
  ACall.ofBelow ⟨_, Tryd.func74, by kernel_rfl, by kernel_rfl⟩ (us := [strOf l]) (u := .tuple #[.int .i64 v, .nilIface]) rfl rfl rfl fun w => by
    have h0 : Lib.atoiAll l = .ok v := by
      unfold sAtoi at hv
      split at hv
      · rename_i h0; cases hv; exact h0
      · cases hv
    refine (Tryd.strconv_Atoi_ok ⟨l.toArray⟩ (by simpa [ByteArray.size] using h) v h0 w).mono ?_
    rintro e w' ⟨rfl, rfl | ⟨t, rfl⟩⟩
    · exact ⟨rfl, Below.refl _ _⟩
    · exact ⟨rfl, Lib.bytesWorld_below _ _ _⟩

theorem b_ContainsFunc {l : List UInt8} {q : Int → Option Bool} {r : Bool} (g : Nat) (hg1 : (Tryd.prog.funcs[g]?).map (fun f => f.body.isNone) = some false) (hg2 : (Tryd.prog.funcs[g]?).map (fun f => f.name == "runtime.NumGoroutine") = some false)
    (hq : ∀ (x : Int) (b : Bool), q x = some b → ACall Tryd.prog g [.d (.v (.int .i32 x))] [] (.d (.v (.bool b))) []) (h : sContains q l = some r) : ACall Tryd.prog 72 [.d (.str l), .clo g []] [] (.d (.v (.bool r))) [] :=
  ACall.ofBelow ⟨_, Tryd.func72, by kernel_rfl, by kernel_rfl⟩ (us := [strOf l, .func (.func g) #[] #[]]) (u := .bool r) rfl rfl rfl fun w => by
    obtain ⟨h1, h2⟩ := sContains_ok h
    refine (Tryd.strings_ContainsFunc_grows g #[] (enter_of hg1 hg2) (fun x => (q x).getD false) ⟨l.toArray⟩ w ?_).mono ?_
    · intro W x hx _
      obtain ⟨b, hb⟩ := Option.isSome_iff_exists.1 (h1 x hx)
      have := (hq x b hb).below (us := [.int .i32 x]) (u := .bool b) rfl (show 1 < resSlot by decide) rfl W
      have hb' : (q ↑x).getD false = b := by rw [hb]; rfl
      subst hb'
      exact this
    · rintro e w' ⟨rfl, hb⟩
      rw [h2]
      exact ⟨rfl, hb⟩
end Go.Vm.VarG
