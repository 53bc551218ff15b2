/-
  The lists of Faults and those of the law. No conditions.
-/
import Derived.Test.YtknicigahcopjaaFaultsLaw3
namespace Go.Vm.GenC5

/-- The numbers from i on, m of them, for which p is true. -/
def pick (p : Nat → Bool) : Nat → Nat → List Int → List Int
  | 0, _, acc => acc
  | m + 1, i, acc => pick p m (i + 1) (if p i then acc ++ [(i : Int)] else acc)
theorem pick_len (p : Nat → Bool) : ∀ (m i : Nat) (acc : List Int), (pick p m i acc).length ≤ acc.length + m
  | 0, i, acc => Nat.le_refl _
  | m + 1, i, acc => by
    rw [pick]
    have := pick_len p m (i + 1) (if p i then acc ++ [(i : Int)] else acc)
    split at this
    · rename_i h
      rw [if_pos h]
      simp at this
      omega
    · rename_i h
      rw [if_neg h]
      omega

theorem f11_L0_same (F : Nat) (l : List Int) (hl : l.length ≤ 1000) : ∀ (m n k : Nat), k + m = l.length → m < n → f11_L0 F l l n (k : Int) = some (.go ())
  | _, 0, _, _, h => absurd h (Nat.not_lt_zero _)
  | 0, n + 1, k, hk, _ => by
    rw [f11_L0, show decide ((k : Int) < (l.length : Int)) = false from decide_eq_false (by omega), cond_false]
  | m + 1, n + 1, k, hk, hf => by
    rw [f11_L0, show decide ((k : Int) < (l.length : Int)) = true from decide_eq_true (by omega), cond_true]
    have hw : IntKind.i64.wrap ((k : Int) + 1) = ((k + 1 : Nat) : Int) := by rw [wrap_id (by omega)]; omega
    rw [hw, chk_pos (by omega), chk_pos (by omega), bne_self_eq_false, cond_false]
    exact f11_L0_same F l hl m n (k + 1) (by omega) (by omega)
theorem f11_same (F : Nat) (l : List Int) (hl : l.length ≤ 1000) (hF : 1002 < F) : f11 F l l = some true := by
  rw [f11, bne_self_eq_false, cond_false, show (0 : Int) = ((0 : Nat) : Int) from rfl, f11_L0_same F l hl l.length F 0 (by omega) (by omega), callE_go]

theorem f23_L0_ok (F : Nat) (l : List Int) (x : Int) (hl : l.length ≤ 1000) : ∀ (m n k : Nat), k + m = l.length → m < n →
    f23_L0 F l x n (k : Int) = some (.go ()) ∧ x ∉ l.drop k ∨ ∃ j : Int, 0 ≤ j ∧ f23_L0 F l x n (k : Int) = some (.esc j) ∧ x ∈ l.drop k
  | _, 0, _, _, h => absurd h (Nat.not_lt_zero _)
  | 0, n + 1, k, hk, _ => by
    rw [f23_L0, show decide ((k : Int) < (l.length : Int)) = false from decide_eq_false (by omega), cond_false]
    exact .inl ⟨rfl, by rw [List.drop_of_length_le (by omega)]; simp⟩
  | m + 1, n + 1, k, hk, hf => by
    rw [f23_L0, show decide ((k : Int) < (l.length : Int)) = true from decide_eq_true (by omega), cond_true]
    have hw : IntKind.i64.wrap ((k : Int) + 1) = ((k + 1 : Nat) : Int) := by rw [wrap_id (by omega)]; omega
    rw [hw, chk_pos (by omega)]
    simp only [Int.toNat_natCast]
    rw [drop_getD l k (by omega)]
    by_cases hx : x = l.getD k 0
    · rw [show (x == l.getD k 0) = true from by simp [hx, -List.getD_eq_getElem?_getD], cond_true]
      exact .inr ⟨k, by omega, rfl, by simp [hx, -List.getD_eq_getElem?_getD]⟩
    · rw [show (x == l.getD k 0) = false from by simpa [-List.getD_eq_getElem?_getD] using hx, cond_false]
      rcases f23_L0_ok F l x hl m n (k + 1) (by omega) (by omega) with ⟨h1, h2⟩ | ⟨j, h0, h1, h2⟩
      · exact .inl ⟨h1, by simp [hx, h2, -List.getD_eq_getElem?_getD]⟩
      · exact .inr ⟨j, h0, h1, by simp [h2, -List.getD_eq_getElem?_getD]⟩
theorem f16_ok' (F : Nat) (l : List Int) (x : Int) (hl : l.length ≤ 1000) (hF : 1002 < F) : f16 F l x = some (decide (x ∈ l)) := by
  rw [f16, f23]
  rcases f23_L0_ok F l x hl l.length F 0 (by omega) (by omega) with ⟨h1, h2⟩ | ⟨j, h0, h1, h2⟩
  · rw [show (0 : Int) = ((0 : Nat) : Int) from rfl, h1, callE_go, call_some]
    rw [List.drop_zero] at h2
    rw [decide_eq_false h2]
    rfl
  · rw [show (0 : Int) = ((0 : Nat) : Int) from rfl, h1, callE_esc', call_some]
    rw [List.drop_zero] at h2
    rw [decide_eq_true h2, decide_eq_true (by omega)]

theorem f21_L0_ok (F : Nat) (l : List Int) (a : List Int) (x : Int) (hl : l.length ≤ 1000) (hin : ∀ y ∈ l, 0 ≤ y ∧ y < (a.length : Int)) : ∀ (m n k : Nat), k + m = l.length → m < n →
    f21_L0 F l n (k : Int) a x = some (.go (a, x)) ∧ (∀ y ∈ l.drop k, a.getD y.toNat 0 ≠ x) ∨ ∃ j : Int, 0 ≤ j ∧ f21_L0 F l n (k : Int) a x = some (.esc (j, a, x)) ∧ ∃ y ∈ l.drop k, a.getD y.toNat 0 = x
  | _, 0, _, _, h => absurd h (Nat.not_lt_zero _)
  | 0, n + 1, k, hk, _ => by
    rw [f21_L0, show decide ((k : Int) < (l.length : Int)) = false from decide_eq_false (by omega), cond_false]
    exact .inl ⟨rfl, by rw [List.drop_of_length_le (by omega)]; simp⟩
  | m + 1, n + 1, k, hk, hf => by
    rw [f21_L0, show decide ((k : Int) < (l.length : Int)) = true from decide_eq_true (by omega), cond_true]
    have hw : IntKind.i64.wrap ((k : Int) + 1) = ((k + 1 : Nat) : Int) := by rw [wrap_id (by omega)]; omega
    have hm : l.getD k 0 ∈ l := by
      rw [List.getD_eq_getElem?_getD, List.getElem?_eq_getElem (by omega)]
      exact List.getElem_mem _
    have hb := hin _ hm
    rw [hw, chk_pos (by omega)]
    simp only [Int.toNat_natCast]
    rw [f20, chk_pos (by omega), call_some, drop_getD l k (by omega)]
    by_cases hx : a.getD (l.getD k 0).toNat 0 = x
    · simp only [hx, beq_self_eq_true, cond_true]
      exact .inr ⟨k, by omega, rfl, _, List.mem_cons_self .., hx⟩
    · simp only [show (a.getD (l.getD k 0).toNat 0 == x) = false from by simpa [-List.getD_eq_getElem?_getD] using hx, cond_false]
      rcases f21_L0_ok F l a x hl hin m n (k + 1) (by omega) (by omega) with ⟨h1, h2⟩ | ⟨j, h0, h1, y, h2, h3⟩
      · refine .inl ⟨h1, fun y hy => ?_⟩
        rcases List.mem_cons.1 hy with rfl | hy
        · exact hx
        · exact h2 y hy
      · exact .inr ⟨j, h0, h1, y, List.mem_cons_of_mem _ h2, h3⟩

/-- Position i carries what a kept position carries. -/
def dup (a l : List Int) (x : Int) : Bool := l.any (fun y => a.getD y.toNat 0 == x)
theorem dup_true {a l : List Int} {x : Int} (h : ∃ y ∈ l, a.getD y.toNat 0 = x) : dup a l x = true := by
  obtain ⟨y, h1, h2⟩ := h
  exact List.any_eq_true.2 ⟨y, h1, by simp [h2, -List.getD_eq_getElem?_getD]⟩
theorem dup_false {a l : List Int} {x : Int} (h : ∀ y ∈ l, a.getD y.toNat 0 ≠ x) : dup a l x = false := by
  rw [dup, List.any_eq_false]
  intro y hy
  simpa using h y hy
theorem f13_ok' (F : Nat) (l a : List Int) (x : Int) (hl : l.length ≤ 1000) (hin : ∀ y ∈ l, 0 ≤ y ∧ y < (a.length : Int)) (hF : 1002 < F) : f13 F l a x = some (dup a l x, a, x) := by
  rw [f13, f21]
  rcases f21_L0_ok F l a x hl hin l.length F 0 (by omega) (by omega) with ⟨h1, h2⟩ | ⟨j, h0, h1, h2⟩
  · rw [show (0 : Int) = ((0 : Nat) : Int) from rfl, h1, callE_go, call_some]
    rw [List.drop_zero] at h2
    rw [dup_false h2]
    rfl
  · rw [show (0 : Int) = ((0 : Nat) : Int) from rfl, h1, callE_esc', call_some]
    rw [List.drop_zero] at h2
    rw [dup_true h2]
    simp only
    rw [decide_eq_true (by omega)]

/-- A number out of range. -/
def bad (s : Int) (x : Int) : Bool := decide (x < 0) || decide (x ≥ s)
theorem f21_1_L0_ok (F : Nat) (l : List Int) (s : Int) (hl : l.length ≤ 1000) : ∀ (m n k : Nat), k + m = l.length → m < n →
    f21_1_L0 F l n (k : Int) s = some (.go s) ∧ (l.drop k).any (bad s) = false ∨ ∃ j : Int, 0 ≤ j ∧ f21_1_L0 F l n (k : Int) s = some (.esc (j, s)) ∧ (l.drop k).any (bad s) = true
  | _, 0, _, _, h => absurd h (Nat.not_lt_zero _)
  | 0, n + 1, k, hk, _ => by
    rw [f21_1_L0, show decide ((k : Int) < (l.length : Int)) = false from decide_eq_false (by omega), cond_false]
    exact .inl ⟨rfl, by rw [List.drop_of_length_le (by omega)]; rfl⟩
  | m + 1, n + 1, k, hk, hf => by
    rw [f21_1_L0, show decide ((k : Int) < (l.length : Int)) = true from decide_eq_true (by omega), cond_true]
    have hw : IntKind.i64.wrap ((k : Int) + 1) = ((k + 1 : Nat) : Int) := by rw [wrap_id (by omega)]; omega
    rw [hw, chk_pos (by omega)]
    simp only [Int.toNat_natCast]
    rw [f14, call_some, drop_getD l k (by omega), List.any_cons]
    have hbb : (bif decide (l.getD k 0 < 0) then true else decide (l.getD k 0 ≥ s)) = bad s (l.getD k 0) := by
      rw [bad]
      cases decide (l.getD k 0 < 0) <;> rfl
    simp only [hbb]
    cases hx : bad s (l.getD k 0) with
    | true =>
      simp only [cond_true]
      exact .inr ⟨k, by omega, rfl, by simp⟩
    | false =>
      simp only [cond_false, Bool.false_or]
      exact f21_1_L0_ok F l s hl m n (k + 1) (by omega) (by omega)
theorem f13_1_ok' (F : Nat) (l : List Int) (s : Int) (hl : l.length ≤ 1000) (hF : 1002 < F) : f13_1 F l s = some (l.any (bad s), s) := by
  rw [f13_1, f21_1]
  rcases f21_1_L0_ok F l s hl l.length F 0 (by omega) (by omega) with ⟨h1, h2⟩ | ⟨j, h0, h1, h2⟩
  · rw [show (0 : Int) = ((0 : Nat) : Int) from rfl, h1, callE_go, call_some]
    rw [List.drop_zero] at h2
    rw [h2]
    rfl
  · rw [show (0 : Int) = ((0 : Nat) : Int) from rfl, h1, callE_esc', call_some]
    rw [List.drop_zero] at h2
    rw [h2]
    simp only
    rw [decide_eq_true (by omega)]

theorem f12_L0_ok (F : Nat) (l : List Int) (s : Int) (hs : 0 ≤ s) (hl : l.length ≤ 1000) : ∀ (m n k : Nat) (fl : List Bool), k + m = l.length → m < n → (fl.length : Int) = s → (∀ j : Nat, (j : Int) < s → fl.getD j false = decide ((j : Int) ∈ l.take k)) →
    (l.drop k).any (bad s) = false ∧ (∃ fl', f12_L0 F l s n fl (k : Int) = some (.go fl') ∧ (fl'.length : Int) = s ∧ ∀ j : Nat, (j : Int) < s → fl'.getD j false = decide ((j : Int) ∈ l)) ∨ (l.drop k).any (bad s) = true ∧ f12_L0 F l s n fl (k : Int) = some (.esc (⟨[], [], []⟩, 3))
  | _, 0, _, _, _, h, _, _ => absurd h (Nat.not_lt_zero _)
  | 0, n + 1, k, fl, hk, _, hf, hj => by
    rw [f12_L0, show decide ((k : Int) < (l.length : Int)) = false from decide_eq_false (by omega), cond_false]
    refine .inl ⟨by rw [List.drop_of_length_le (by omega)]; rfl, fl, rfl, hf, fun j h => ?_⟩
    rw [hj j h, List.take_of_length_le (by omega)]
  | m + 1, n + 1, k, fl, hk, hfu, hf, hj => by
    rw [f12_L0, show decide ((k : Int) < (l.length : Int)) = true from decide_eq_true (by omega), cond_true]
    have hw : IntKind.i64.wrap ((k : Int) + 1) = ((k + 1 : Nat) : Int) := by rw [wrap_id (by omega)]; omega
    rw [hw, chk_pos (by omega)]
    simp only [Int.toNat_natCast]
    rw [lett_eq]
    have hbb : (bif decide (l.getD k 0 < 0) then true else decide (l.getD k 0 ≥ s)) = bad s (l.getD k 0) := by
      rw [bad]
      cases decide (l.getD k 0 < 0) <;> rfl
    rw [hbb, drop_getD l k (by omega), List.any_cons]
    cases hx : bad s (l.getD k 0) with
    | true =>
      rw [cond_true]
      exact .inr ⟨by simp, rfl⟩
    | false =>
      simp only [cond_false, Bool.false_or]
      simp [bad, -List.getD_eq_getElem?_getD] at hx
      rw [chk_pos (by omega)]
      refine f12_L0_ok F l s hs hl m n (k + 1) _ (by omega) (by omega) (by simp [hf]) (fun j hjs => ?_)
      rw [getDB_set _ _ _ _ (by omega), hj j hjs, take_succ_getD l k (by omega)]
      by_cases hji : (l.getD k 0).toNat = j
      · rw [if_pos hji]
        have : (j : Int) = l.getD k 0 := by omega
        simp [this, -List.getD_eq_getElem?_getD]
      · rw [if_neg hji, Bool.eq_iff_iff]
        have : (j : Int) ≠ l.getD k 0 := by omega
        simp [this, -List.getD_eq_getElem?_getD]

theorem f12_L2_ok (F : Nat) (fl : List Bool) (p : Nat → Bool) (hl : fl.length ≤ 1000) (hp : ∀ j, j < fl.length → p j = !(fl.getD j false)) : ∀ (m n k : Nat) (acc : List Int), k + m = fl.length → m < n → acc.length ≤ k →
    f12_L2 F fl n acc (k : Int) = some (pick p m k acc)
  | _, 0, _, _, _, h, _ => absurd h (Nat.not_lt_zero _)
  | 0, n + 1, k, acc, hk, _, ha => by
    rw [f12_L2, show decide ((k : Int) < (fl.length : Int)) = false from decide_eq_false (by omega), cond_false]
    rfl
  | m + 1, n + 1, k, acc, hk, hfu, ha => by
    rw [f12_L2, show decide ((k : Int) < (fl.length : Int)) = true from decide_eq_true (by omega), cond_true]
    have hw : IntKind.i64.wrap ((k : Int) + 1) = ((k + 1 : Nat) : Int) := by rw [wrap_id (by omega)]; omega
    rw [hw, chk_pos (by omega)]
    simp only [Int.toNat_natCast]
    rw [← hp k (by omega), pick]
    cases hx : p k with
    | true =>
      rw [cond_true, chk_pos (by simp; omega), call_some]
      exact f12_L2_ok F fl p hl hp m n (k + 1) _ (by omega) (by omega) (by simp; omega)
    | false =>
      rw [cond_false, call_some]
      exact f12_L2_ok F fl p hl hp m n (k + 1) _ (by omega) (by omega) (by omega)

theorem f5_L3_ok (F : Nat) (l : List Int) (s : Nat) (hl : l.length ≤ 1000) (hs : s ≤ 1000) (hF : 1002 < F) : ∀ (m n k : Nat) (acc : List Int), k + m = s → m < n → acc.length ≤ k →
    f5_L3 F l (s : Int) n acc (k : Int) = some (pick (fun j => !(decide ((j : Int) ∈ l))) m k acc)
  | _, 0, _, _, _, h, _ => absurd h (Nat.not_lt_zero _)
  | 0, n + 1, k, acc, hk, _, ha => by
    rw [f5_L3, show decide ((k : Int) < (s : Int)) = false from decide_eq_false (by omega), cond_false]
    rfl
  | m + 1, n + 1, k, acc, hk, hfu, ha => by
    rw [f5_L3, show decide ((k : Int) < (s : Int)) = true from decide_eq_true (by omega), cond_true]
    have hw : IntKind.i64.wrap ((k : Int) + 1) = ((k + 1 : Nat) : Int) := by rw [wrap_id (by omega)]; omega
    rw [hw, f16_ok' F l _ hl hF, call_some, pick]
    cases hx : !(decide ((k : Int) ∈ l)) with
    | true =>
      rw [cond_true, chk_pos (by simp; omega), call_some]
      exact f5_L3_ok F l s hl hs hF m n (k + 1) _ (by omega) (by omega) (by simp; omega)
    | false =>
      rw [cond_false, call_some]
      exact f5_L3_ok F l s hl hs hF m n (k + 1) _ (by omega) (by omega) (by omega)

def exP (a kept : List Int) (j : Nat) : Bool := !(decide ((j : Int) ∈ kept)) && dup a kept (a.getD j 0)
def moP (a kept : List Int) (j : Nat) : Bool := !(decide ((j : Int) ∈ kept)) && !(dup a kept (a.getD j 0))

theorem f12_L4_ok (F : Nat) (a kept : List Int) (ha : a.length ≤ 1000) (hk : Inb kept a.length) (hF : 1002 < F) : ∀ (m n i : Nat) (x1 x2 : List Int), i + m = a.length → m < n → x1.length ≤ i → x2.length ≤ i →
    f12_L4 F a kept n a x1 x2 (i : Int) = some (pick (exP a kept) m i x1, pick (moP a kept) m i x2)
  | _, 0, _, _, _, _, h, _, _ => absurd h (Nat.not_lt_zero _)
  | 0, n + 1, i, x1, x2, hi, _, h1, h2 => by
    rw [f12_L4, show decide ((i : Int) < (a.length : Int)) = false from decide_eq_false (by omega), cond_false]
    rfl
  | m + 1, n + 1, i, x1, x2, hi, hfu, h1, h2 => by
    rw [f12_L4, show decide ((i : Int) < (a.length : Int)) = true from decide_eq_true (by omega), cond_true]
    have hw : IntKind.i64.wrap ((i : Int) + 1) = ((i + 1 : Nat) : Int) := by rw [wrap_id (by omega)]; omega
    have hkl := hk.1
    rw [hw, chk_pos (by omega), f16_ok' F kept _ (by omega) hF, call_some]
    simp only [Int.toNat_natCast]
    rw [f13_ok' F kept a _ (by omega) hk.2 hF, call_some, pick, pick]
    simp only [exP, moP]
    by_cases hx : (i : Int) ∈ kept
    · simp only [decide_eq_true hx, cond_true, call_some, Bool.not_true, Bool.false_and, Bool.false_eq_true, if_false]
      exact f12_L4_ok F a kept ha hk hF m n (i + 1) _ _ (by omega) (by omega) (by omega) (by omega)
    · simp only [decide_eq_false hx, cond_false, Bool.not_false, Bool.true_and]
      cases hd : dup a kept (a.getD i 0) with
      | true =>
        simp only [cond_true, if_true, Bool.not_true, Bool.false_eq_true, if_false]
        rw [chk_pos (by simp; omega), call_some]
        dsimp only
        exact f12_L4_ok F a kept ha hk hF m n (i + 1) _ _ (by omega) (by omega) (by simp; omega) (by omega)
      | false =>
        simp only [cond_false, if_true, Bool.not_false, Bool.false_eq_true, if_false]
        rw [chk_pos (by simp; omega), call_some]
        dsimp only
        exact f12_L4_ok F a kept ha hk hF m n (i + 1) _ _ (by omega) (by omega) (by omega) (by simp; omega)

theorem f5_L1_ok (F : Nat) (a kept : List Int) (fl : List Bool) (s : Int) (hs : 0 ≤ s) (ha : a.length ≤ 1000) (hfl : fl.length = a.length) (hj : ∀ j : Nat, fl.getD j false = decide ((j : Int) ∈ kept)) (hb : a.any (bad s) = false) : ∀ (m n i : Nat) (v : List Bool), i + m = a.length → m < n → (v.length : Int) = s →
    (∀ j : Nat, (j : Int) < s → v.getD j false = decide (∃ y : Nat, y < i ∧ (y : Int) ∈ kept ∧ a.getD y 0 = (j : Int))) →
    ∃ v', f5_L1 F a fl n v (i : Int) = some v' ∧ (v'.length : Int) = s ∧ ∀ j : Nat, (j : Int) < s → v'.getD j false = decide (∃ y : Nat, y < a.length ∧ (y : Int) ∈ kept ∧ a.getD y 0 = (j : Int))
  | _, 0, _, _, _, h, _, _ => absurd h (Nat.not_lt_zero _)
  | 0, n + 1, i, v, hi, _, hv, hvj => by
    rw [f5_L1, show decide ((i : Int) < (fl.length : Int)) = false from decide_eq_false (by omega), cond_false]
    have : i = a.length := by omega
    subst this
    exact ⟨v, rfl, hv, hvj⟩
  | m + 1, n + 1, i, v, hi, hfu, hv, hvj => by
    rw [f5_L1, show decide ((i : Int) < (fl.length : Int)) = true from decide_eq_true (by omega), cond_true]
    have hw : IntKind.i64.wrap ((i : Int) + 1) = ((i + 1 : Nat) : Int) := by rw [wrap_id (by omega)]; omega
    rw [hw, chk_pos (by omega)]
    simp only [Int.toNat_natCast]
    rw [hj i]
    have hmem : a.getD i 0 ∈ a := by
      rw [List.getD_eq_getElem?_getD, List.getElem?_eq_getElem (by omega)]
      exact List.getElem_mem _
    have hbi := List.any_eq_false.1 hb _ hmem
    have hbi : 0 ≤ a.getD i 0 ∧ a.getD i 0 < s := by
      generalize a.getD i 0 = z at hbi
      simp [bad] at hbi
      omega
    by_cases hx : (i : Int) ∈ kept
    · rw [decide_eq_true hx, cond_true, chk_pos (by omega), chk_pos (by omega), call_some]
      refine f5_L1_ok F a kept fl s hs ha hfl hj hb m n (i + 1) _ (by omega) (by omega) (by simp [hv]) (fun j hjs => ?_)
      rw [getDB_set _ _ _ _ (by omega), hvj j hjs]
      by_cases hji : (a.getD i 0).toNat = j
      · rw [if_pos hji]
        refine (decide_eq_true ⟨i, by omega, hx, ?_⟩).symm
        omega
      · rw [if_neg hji]
        apply decide_eq_decide.2
        constructor
        · rintro ⟨y, h1, h2, h3⟩
          exact ⟨y, by omega, h2, h3⟩
        · rintro ⟨y, h1, h2, h3⟩
          refine ⟨y, ?_, h2, h3⟩
          by_cases hyi : y = i
          · subst hyi; omega
          · omega
    · rw [decide_eq_false hx, cond_false, call_some]
      refine f5_L1_ok F a kept fl s hs ha hfl hj hb m n (i + 1) _ (by omega) (by omega) hv (fun j hjs => ?_)
      rw [hvj j hjs]
      apply decide_eq_decide.2
      constructor
      · rintro ⟨y, h1, h2, h3⟩
        exact ⟨y, by omega, h2, h3⟩
      · rintro ⟨y, h1, h2, h3⟩
        refine ⟨y, ?_, h2, h3⟩
        by_cases hyi : y = i
        · subst hyi; exact absurd h2 hx
        · omega

theorem f5_L5_ok (F : Nat) (a kept : List Int) (fl v : List Bool) (s : Int) (ha : a.length ≤ 1000) (hfl : fl.length = a.length) (hj : ∀ j : Nat, fl.getD j false = decide ((j : Int) ∈ kept)) (hb : a.any (bad s) = false)
    (hv : (v.length : Int) = s) (hvj : ∀ j : Nat, (j : Int) < s → v.getD j false = dup a kept (j : Int)) : ∀ (m n i : Nat) (x1 x2 : List Int), i + m = a.length → m < n → x1.length ≤ i → x2.length ≤ i →
    f5_L5 F a fl v n x1 x2 (i : Int) = some (pick (exP a kept) m i x1, pick (moP a kept) m i x2)
  | _, 0, _, _, _, _, h, _, _ => absurd h (Nat.not_lt_zero _)
  | 0, n + 1, i, x1, x2, hi, _, h1, h2 => by
    rw [f5_L5, show decide ((i : Int) < (a.length : Int)) = false from decide_eq_false (by omega), cond_false]
    rfl
  | m + 1, n + 1, i, x1, x2, hi, hfu, h1, h2 => by
    rw [f5_L5, show decide ((i : Int) < (a.length : Int)) = true from decide_eq_true (by omega), cond_true]
    have hw : IntKind.i64.wrap ((i : Int) + 1) = ((i + 1 : Nat) : Int) := by rw [wrap_id (by omega)]; omega
    have hgd : a.getD i 0 = a[i] := by rw [List.getD_eq_getElem?_getD, List.getElem?_eq_getElem (by omega)]; rfl
    have hmem : a.getD i 0 ∈ a := by
      rw [hgd]
      exact List.getElem_mem _
    have hbi := List.any_eq_false.1 hb _ hmem
    have hbi2 : 0 ≤ a.getD i 0 ∧ a.getD i 0 < s := by
      generalize a.getD i 0 = z at hbi
      simp [bad] at hbi
      omega
    have hvi := hvj (a.getD i 0).toNat (by omega)
    rw [show (((a.getD i 0).toNat : Nat) : Int) = a.getD i 0 from by omega] at hvi
    rw [hw]
    simp only [Int.toNat_natCast]
    rw [chk_pos (by omega), chk_pos (by omega), chk_pos (fun _ => by omega), hj i, hvi, pick, pick]
    simp only [exP, moP]
    by_cases hx : (i : Int) ∈ kept
    · simp only [decide_eq_true hx, Bool.not_true, cond_false, Bool.false_and, Bool.false_eq_true, if_false]
      rw [chk_pos (by omega), call_some]
      dsimp only
      exact f5_L5_ok F a kept fl v s ha hfl hj hb hv hvj m n (i + 1) _ _ (by omega) (by omega) (by omega) (by omega)
    · simp only [decide_eq_false hx, cond_true, Bool.not_false, Bool.true_and]
      cases hd : dup a kept (a.getD i 0) with
      | true =>
        simp only [cond_true, if_true, Bool.not_true, Bool.false_eq_true, if_false]
        rw [chk_pos (by simp; omega), call_some]
        dsimp only
        exact f5_L5_ok F a kept fl v s ha hfl hj hb hv hvj m n (i + 1) _ _ (by omega) (by omega) (by simp; omega) (by omega)
      | false =>
        simp only [cond_false, if_true, Bool.not_false, Bool.false_eq_true, if_false]
        rw [chk_pos (by omega), chk_pos (by simp; omega), call_some]
        dsimp only
        exact f5_L5_ok F a kept fl v s ha hfl hj hb hv hvj m n (i + 1) _ _ (by omega) (by omega) (by omega) (by simp; omega)
end Go.Vm.GenC5
