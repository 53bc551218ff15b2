/-
  The plain form of BindFaultsMinimal is true of every list and every number. No conditions.
-/
import Derived.Test.YtknicigahcopjaaFaultsLaw4
namespace Go.Vm.GenC5

theorem kept_flags {a kept : List Int} {s : Int} (h : Inb kept a.length) (hb : a.any (bad s) = false) (j : Nat) : decide (∃ y : Nat, y < a.length ∧ (y : Int) ∈ kept ∧ a.getD y 0 = (j : Int)) = dup a kept (j : Int) := by
  cases hd : dup a kept (j : Int) with
  | true =>
    apply decide_eq_true
    obtain ⟨y, h1, h2⟩ := List.any_eq_true.1 hd
    have := h.2 y h1
    exact ⟨y.toNat, by omega, by rwa [show ((y.toNat : Nat) : Int) = y from by omega], by simpa [-List.getD_eq_getElem?_getD] using h2⟩
  | false =>
    apply decide_eq_false
    rintro ⟨y, h1, h2, h3⟩
    have := List.any_eq_false.1 hd _ h2
    simp only [Int.toNat_natCast] at this
    rw [h3] at this
    simp at this

theorem f12_ok' (F : Nat) (a : List Int) (s : Int) (hF : 1002 < F) (hs : 1 ≤ s ∧ s ≤ 64) (ha : a.length ≤ 64) (hb : a.any (bad s) = false) :
    f12 F a s = some (⟨pick (fun j => !(decide ((j : Int) ∈ a))) s.toNat 0 [], pick (exP a (keptOf a)) a.length 0 [], pick (moP a (keptOf a)) a.length 0 []⟩, 0) := by
  rw [f12, show decide (s < 1) = false from decide_eq_false (by omega), show decide (s > 64) = false from decide_eq_false (by omega), show decide ((a.length : Int) > 64) = false from decide_eq_false (by omega)]
  simp only [cond_false]
  rw [chk_pos (by omega)]
  rcases f12_L0_ok F a s (by omega) (by omega) a.length F 0 (List.replicate s.toNat false) (by omega) (by omega) (by simp; omega) (fun j hj => by
    simp only [List.getD_eq_getElem?_getD, List.getElem?_replicate]
    split <;> simp) with ⟨_, fl, h1, h2, h3⟩ | ⟨h1, _⟩
  · rw [show (0 : Int) = ((0 : Nat) : Int) from rfl, h1, callE_go, f19_ok' F a (by omega) hF, call_some]
    rw [f12_L2_ok F fl (fun j => !(decide ((j : Int) ∈ a))) (by omega) (fun j hj => by rw [h3 j (by omega)]) s.toNat F 0 [] (by omega) (by omega) (Nat.le_refl _), call_some]
    rw [f12_L4_ok F a (keptOf a) (by omega) (keptOf_inb a) hF a.length F 0 [] [] (by omega) (by omega) (Nat.le_refl _) (Nat.le_refl _), call_some]
  · rw [List.drop_zero, hb] at h1
    cases h1

theorem f12_bad (F : Nat) (a : List Int) (s : Int) (hF : 1002 < F) (hs : 1 ≤ s ∧ s ≤ 64) (ha : a.length ≤ 64) (hb : a.any (bad s) = true) : f12 F a s = some (⟨[], [], []⟩, 3) := by
  rw [f12, show decide (s < 1) = false from decide_eq_false (by omega), show decide (s > 64) = false from decide_eq_false (by omega), show decide ((a.length : Int) > 64) = false from decide_eq_false (by omega)]
  simp only [cond_false]
  rw [chk_pos (by omega)]
  rcases f12_L0_ok F a s (by omega) (by omega) a.length F 0 (List.replicate s.toNat false) (by omega) (by omega) (by simp; omega) (fun j hj => by
    simp only [List.getD_eq_getElem?_getD, List.getElem?_replicate]
    split <;> simp) with ⟨h1, _⟩ | ⟨_, h1⟩
  · rw [List.drop_zero, hb] at h1
    cases h1
  · rw [show (0 : Int) = ((0 : Nat) : Int) from rfl, h1, callE_esc']

/-- The law behind its first lines. -/
def tail5 (F : Nat) (a0 : List Int) (a1 : Int) : Option Bool :=
    call (f12 F a0 a1) fun y7 =>
    call (bif (bif (decide (a1 < (1 : Int))) then true else (decide (a1 > (64 : Int)))) then
        some ((3 : Int), a1)
      else
        bif (decide ((a0.length : Int) > (64 : Int))) then
          some ((2 : Int), a1)
        else
          call (f13_1 F a0 a1) fun y8 =>
          bif y8.1 then
            some ((3 : Int), y8.2)
          else
            some ((0 : Int), y8.2))
      fun (v14, v4) =>
    bif (v14 != (0 : Int)) then
      lett (IntKind.i64.wrap ((IntKind.i64.wrap ((y7.1.f0.length : Int) + (y7.1.f1.length : Int))) + (y7.1.f2.length : Int))) fun z2 =>
      some (bif (y7.2 == v14) then (z2 == (0 : Int)) else false)
    else
      call (f15 F a0) fun y1 =>
      chk (0 ≤ v4 ∧ v4 ≤ v4 ∧ v4 ≤ 9223372036854775807 ∧ ((1 : Nat) : Int) * v4 ≤ 281474976710656) <|
      call (f5_L1 F a0 y1 F (List.replicate v4.toNat false) (0 : Int))
        fun v8 =>
      call (f5_L3 F a0 v4 F [] (0 : Int))
        fun v15 =>
      call (f5_L5 F a0 y1 v8 F [] [] (0 : Int))
        fun (v16, v17) =>
      call ((bif (((y7.2 == (0 : Int)) == true) && true) then f11 F y7.1.f0 v15 else some false)) fun y9 =>
      call ((bif (((bif (y7.2 == (0 : Int)) then y9 else false) == true) && true) then f11 F y7.1.f1 v16 else some false)) fun y10 =>
      call ((bif (((bif (bif (y7.2 == (0 : Int)) then y9 else false) then y10 else false) == true) && true) then f11 F y7.1.f2 v17 else some false)) fun y11 =>
      lett ((bif (bif (bif (y7.2 == (0 : Int)) then y9 else false) then y10 else false) then y11 else false)) fun z3 =>
      some z3

theorem first12 : f12 10000 [0, 2, 1, 2] 4 = some (⟨[3], [1], []⟩, 0) := by decide +kernel
theorem first6 : f6 10000 = some true := by decide +kernel
theorem first3 : f11 10000 [3] [3] = some true := by decide +kernel
theorem first1 : f11 10000 [1] [1] = some true := by decide +kernel
theorem f5_tail (a : List Int) (s : Int) : f5 10000 a s = tail5 10000 a s := by
  rw [f5, first12, call_some, first6, call_some]
  simp only [show ((0 : Int) != 0) = false from rfl, Bool.not_true, cond_false, show (false == false) = true from rfl, Bool.and_self, cond_true]
  rw [first3, call_some]
  simp only [Bool.not_true, cond_false, show (false == false) = true from rfl, Bool.and_self, cond_true]
  rw [first1, call_some]
  simp only [Bool.not_true, cond_false]
  rfl

theorem tail5_ok (a : List Int) (s : Int) : tail5 10000 a s = some true := by
  by_cases hs : 1 ≤ s ∧ s ≤ 64
  · rw [tail5, show decide (s < 1) = false from decide_eq_false (by omega), show decide (s > 64) = false from decide_eq_false (by omega)]
    simp only [cond_false]
    by_cases hl : a.length ≤ 64
    · rw [show decide ((a.length : Int) > 64) = false from decide_eq_false (by omega), cond_false, f13_1_ok' _ a s (by omega) (by omega), call_some]
      simp only
      cases hb : a.any (bad s) with
      | true =>
        rw [f12_bad _ a s (by omega) hs hl hb, call_some]
        rfl
      | false =>
        rw [f12_ok' _ a s (by omega) hs hl hb, call_some, cond_false, call_some]
        simp only [show ((0 : Int) != 0) = false from rfl, cond_false]
        obtain ⟨fl, h1, h2, h3⟩ := f15_ok' 10000 a (by omega) (by omega)
        rw [h1, call_some, chk_pos (by omega)]
        obtain ⟨v, h4, h5, h6⟩ := f5_L1_ok 10000 a (keptOf a) fl s (by omega) (by omega) h2 h3 hb a.length 10000 0 (List.replicate s.toNat false) (by omega) (by omega) (by simp; omega) (fun j hj => by
          rw [decide_eq_false (by rintro ⟨y, hy, _⟩; omega)]
          simp only [List.getD_eq_getElem?_getD, List.getElem?_replicate]
          split <;> simp)
        have h4' : f5_L1 10000 a fl 10000 (List.replicate s.toNat false) 0 = some v := h4
        rw [h4', call_some]
        have h7 := f5_L3_ok 10000 a s.toNat (by omega) (by omega) (by omega) s.toNat 10000 0 [] (by omega) (by omega) (Nat.le_refl _)
        rw [show ((s.toNat : Nat) : Int) = s from by omega] at h7
        have h7' : f5_L3 10000 a s 10000 [] 0 = _ := h7
        rw [h7', call_some]
        have h8 := f5_L5_ok 10000 a (keptOf a) fl v s (by omega) h2 h3 hb h5 (fun j hj => by rw [h6 j hj, kept_flags (keptOf_inb a) hb]) a.length 10000 0 [] [] (by omega) (by omega) (Nat.le_refl _) (Nat.le_refl _)
        have h8' : f5_L5 10000 a fl v 10000 [] [] 0 = _ := h8
        rw [h8', call_some]
        have l1 := pick_len (fun j => !(decide ((j : Int) ∈ a))) s.toNat 0 []
        have l2 := pick_len (exP a (keptOf a)) a.length 0 []
        have l3 := pick_len (moP a (keptOf a)) a.length 0 []
        simp only [List.length_nil, Nat.zero_add] at l1 l2 l3
        simp only [show ((0 : Int) == 0) = true from rfl, show (true == true) = true from rfl, Bool.and_self, cond_true]
        rw [f11_same _ _ (by omega) (by omega), call_some]
        simp only [show (true == true) = true from rfl, Bool.and_self, cond_true]
        rw [f11_same _ _ (by omega) (by omega), call_some]
        simp only [show (true == true) = true from rfl, Bool.and_self, cond_true]
        rw [f11_same _ _ (by omega) (by omega), call_some]
        rfl
    · rw [show decide ((a.length : Int) > 64) = true from decide_eq_true (by omega), cond_true]
      rw [f12, show decide (s < 1) = false from decide_eq_false (by omega), show decide (s > 64) = false from decide_eq_false (by omega), show decide ((a.length : Int) > 64) = true from decide_eq_true (by omega)]
      rfl
  · have h : (bif decide (s < 1) then true else decide (s > 64)) = true := by
      by_cases h1 : s < 1
      · rw [decide_eq_true h1]; rfl
      · rw [decide_eq_false h1, decide_eq_true (by omega)]; rfl
    rw [tail5, f12, h]
    rfl

theorem law5 (a : List Int) (s : Int) : ∃ F, f5 F a s = some true := ⟨10000, by rw [f5_tail, tail5_ok]⟩
end Go.Vm.GenC5
