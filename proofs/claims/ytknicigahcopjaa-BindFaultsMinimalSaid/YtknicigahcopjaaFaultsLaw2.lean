/-
  Longest and longest's table: what the loops leave. No conditions.
-/
import Derived.Test.YtknicigahcopjaaFaultsF
import Derived.Test.YtknicigahcopjaaFaultsLaw
namespace Go.Vm.GenC5

theorem getD_set (l : List Int) (i j : Nat) (x : Int) (h : i < l.length) : (l.set i x).getD j 0 = if i = j then x else l.getD j 0 := by
  simp only [List.getD_eq_getElem?_getD, List.getElem?_set]
  by_cases hij : i = j
  · subst hij; simp [h]
  · simp [hij]

theorem f22_L2_ok (F : Nat) (a : List Int) (i : Nat) (hi : i < a.length) (ha : a.length ≤ 1000) : ∀ (m n : Nat) (best : List Int) (k : Nat), k + m = i → m < n → best.length = a.length →
    (∀ j, j < i → best.getD j 0 = preI a j) → best.getD i 0 = 1 + lis ((a.take k).filter (fun y => decide (y < a.getD i 0))) →
    ∃ b', f22_L2 F a (i : Int) n best (k : Int) = some b' ∧ b'.length = a.length ∧ ∀ j, j ≤ i → b'.getD j 0 = preI a j
  | _, 0, _, _, _, h, _, _, _ => absurd h (Nat.not_lt_zero _)
  | 0, n + 1, best, k, hk, _, hl, hj, hb => by
    rw [f22_L2, show decide ((k : Int) < (i : Int)) = false from decide_eq_false (by omega), cond_false]
    refine ⟨best, rfl, hl, fun j hji => ?_⟩
    have : k = i := by omega
    subst this
    rcases Nat.lt_or_eq_of_le hji with h | h
    · exact hj j h
    · subst h; exact hb
  | m + 1, n + 1, best, k, hk, hf, hl, hj, hb => by
    rw [f22_L2, show decide ((k : Int) < (i : Int)) = true from decide_eq_true (by omega), cond_true]
    have hw : IntKind.i64.wrap ((k : Int) + 1) = ((k + 1 : Nat) : Int) := by rw [wrap_id (by omega)]; omega
    rw [chk_pos (by omega), chk_pos (by omega)]
    simp only [Int.toNat_natCast]
    have hs := pre_step a k (a.getD i 0) (by omega)
    have hpk := preI_bound a k (by omega)
    by_cases hx : a.getD k 0 < a.getD i 0
    · rw [decide_eq_true hx, cond_true, chk_pos (by omega), chk_pos (by omega), lett_eq, chk_pos (by omega), call_some, hw]
      rw [if_pos hx] at hs
      refine f22_L2_ok F a i hi ha m n _ (k + 1) (by omega) (by omega) (by simp [hl]) (fun j hji => ?_) ?_
      · rw [getD_set _ _ _ _ (by omega), if_neg (by omega), hj j hji]
      · rw [getD_set _ _ _ _ (by omega), if_pos rfl, hj k (by omega), hb, hs, wrap_id (by omega)]
        split <;> omega
    · rw [decide_eq_false hx, cond_false, call_some, hw]
      rw [if_neg hx] at hs
      exact f22_L2_ok F a i hi ha m n best (k + 1) (by omega) (by omega) hl hj (by rw [hb, hs])

theorem f22_L0_ok (F : Nat) (a : List Int) (ha : a.length ≤ 1000) (hF : 1000 < F) : ∀ (m n : Nat) (best : List Int) (i : Nat) (r : Int), i + m = a.length → m < n → best.length = a.length →
    (∀ j, j < i → best.getD j 0 = preI a j) → r = lis (a.take i) → f22_L0 F a n best r (i : Int) = some (lis a)
  | _, 0, _, _, _, _, h, _, _, _ => absurd h (Nat.not_lt_zero _)
  | 0, n + 1, best, i, r, hi, _, hl, hj, hr => by
    rw [f22_L0, show decide ((i : Int) < (a.length : Int)) = false from decide_eq_false (by omega), cond_false, hr, List.take_of_length_le (by omega)]
  | m + 1, n + 1, best, i, r, hi, hf, hl, hj, hr => by
    rw [f22_L0, show decide ((i : Int) < (a.length : Int)) = true from decide_eq_true (by omega), cond_true]
    have hw : IntKind.i64.wrap ((i : Int) + 1) = ((i + 1 : Nat) : Int) := by rw [wrap_id (by omega)]; omega
    rw [chk_pos (by omega)]
    simp only [Int.toNat_natCast]
    obtain ⟨b', he, hl', hb'⟩ := f22_L2_ok F a i (by omega) ha i F (best.set i 1) 0 (by omega) (by omega) (by simp [hl]) (fun j hji => by rw [getD_set _ _ _ _ (by omega), if_neg (by omega), hj j hji])
      (by rw [getD_set _ _ _ _ (by omega), if_pos rfl]; simp [lis_nil])
    have he' : f22_L2 F a (i : Int) F (best.set i 1) 0 = some b' := he
    rw [he', call_some, chk_pos (by omega), hw]
    refine f22_L0_ok F a ha hF m n b' (i + 1) _ (by omega) (by omega) hl' (fun j hji => hb' j (by omega)) ?_
    rw [hb' i (Nat.le_refl _), hr, pre_all a i (by omega)]
    split <;> omega

theorem f22_ok' (F : Nat) (a : List Int) (ha : a.length ≤ 1000) (hF : 1000 < F) : f22 F a = some (lis a) := by
  rw [f22, chk_pos (by omega)]
  rw [show (0 : Int) = ((0 : Nat) : Int) from rfl]
  rw [f22_L0_ok F a ha hF a.length F _ 0 _ (by omega) (by omega) (by simp) (fun j h => absurd h (Nat.not_lt_zero _)) (by simp [lis_nil]), call_some]

/-- longest's table -/
def tab (a : List Int) (j : Nat) : Int := if j < a.length then sufI a j else 0

theorem f19_L2_ok (F : Nat) (a : List Int) (i : Nat) (hi : i < a.length) (ha : a.length ≤ 1000) : ∀ (m n : Nat) (best : List Int) (k : Nat), k + m = a.length → m < n → best.length = a.length + 1 → i < k →
    (∀ j, i < j → best.getD j 0 = tab a j) → (∀ j, j < i → best.getD j 0 = 0) → 0 ≤ best.getD i 0 → max (best.getD i 0) (lis ((a.drop k).filter (fun y => decide (a.getD i 0 < y)))) = lis ((a.drop (i + 1)).filter (fun y => decide (a.getD i 0 < y))) →
    ∃ b', f19_L2 F a (i : Int) n best (k : Int) = some b' ∧ b'.length = a.length + 1 ∧ (∀ j, i < j → b'.getD j 0 = tab a j) ∧ (∀ j, j < i → b'.getD j 0 = 0) ∧ b'.getD i 0 = lis ((a.drop (i + 1)).filter (fun y => decide (a.getD i 0 < y)))
  | _, 0, _, _, _, h, _, _, _, _, _, _ => absurd h (Nat.not_lt_zero _)
  | 0, n + 1, best, k, hk, _, hl, hik, hj, hz, h0, hb => by
    rw [f19_L2, show decide ((k : Int) < (a.length : Int)) = false from decide_eq_false (by omega), cond_false]
    refine ⟨best, rfl, hl, hj, hz, ?_⟩
    rw [List.drop_of_length_le (by omega), List.filter_nil, lis_nil] at hb
    omega
  | m + 1, n + 1, best, k, hk, hf, hl, hik, hj, hz, h0, hb => by
    rw [f19_L2, show decide ((k : Int) < (a.length : Int)) = true from decide_eq_true (by omega), cond_true]
    have hw : IntKind.i64.wrap ((k : Int) + 1) = ((k + 1 : Nat) : Int) := by rw [wrap_id (by omega)]; omega
    rw [chk_pos (by omega), chk_pos (by omega)]
    simp only [Int.toNat_natCast]
    have hs := suf_step a k (a.getD i 0) (by omega)
    have hpk := sufI_bound a k (by omega)
    by_cases hx : a.getD i 0 < a.getD k 0
    · rw [show decide (a.getD k 0 > a.getD i 0) = true from decide_eq_true hx, cond_true, chk_pos (by omega), chk_pos (by omega), lett_eq, chk_pos (by omega), call_some, hw]
      rw [if_pos hx] at hs
      have hkk := hj k hik
      rw [tab, if_pos (by omega)] at hkk
      refine f19_L2_ok F a i hi ha m n _ (k + 1) (by omega) (by omega) (by simp [hl]) (by omega) (fun j hji => ?_) (fun j hji => ?_) ?_ ?_
      · rw [getD_set _ _ _ _ (by omega), if_neg (by omega), hj j hji]
      · rw [getD_set _ _ _ _ (by omega), if_neg (by omega), hz j hji]
      · rw [getD_set _ _ _ _ (by omega), if_pos rfl, hkk]
        split <;> omega
      · rw [getD_set _ _ _ _ (by omega), if_pos rfl, hkk, ← hb, hs]
        split <;> omega
    · rw [show decide (a.getD k 0 > a.getD i 0) = false from decide_eq_false hx, cond_false, call_some, hw]
      rw [if_neg hx] at hs
      exact f19_L2_ok F a i hi ha m n best (k + 1) (by omega) (by omega) hl (by omega) hj hz h0 (by rw [← hb, hs])

theorem f19_L0_ok (F : Nat) (a : List Int) (ha : a.length ≤ 1000) (hF : 1000 < F) : ∀ (m n : Nat) (best : List Int), m ≤ a.length → m < n → best.length = a.length + 1 →
    (∀ j, m ≤ j → best.getD j 0 = tab a j) → (∀ j, j < m → best.getD j 0 = 0) →
    ∃ b', f19_L0 F a n best ((m : Int) - 1) = some b' ∧ b'.length = a.length + 1 ∧ ∀ j, b'.getD j 0 = tab a j
  | _, 0, _, _, h, _, _, _ => absurd h (Nat.not_lt_zero _)
  | 0, n + 1, best, hm, _, hl, hj, hz => by
    rw [f19_L0, show decide (((0 : Nat) : Int) - 1 ≥ 0) = false from decide_eq_false (by omega), cond_false]
    exact ⟨best, rfl, hl, fun j => hj j (Nat.zero_le _)⟩
  | m + 1, n + 1, best, hm, hf, hl, hj, hz => by
    rw [show (((m + 1 : Nat) : Int) - 1) = (m : Int) from by omega]
    rw [f19_L0, show decide ((m : Int) ≥ 0) = true from decide_eq_true (by omega), cond_true]
    have hw : IntKind.i64.wrap ((m : Int) + 1) = ((m + 1 : Nat) : Int) := by rw [wrap_id (by omega)]; omega
    rw [hw]
    obtain ⟨b', he, hl', hb1, hb2, hb3⟩ := f19_L2_ok F a m (by omega) ha (a.length - (m + 1)) F best (m + 1) (by omega) (by omega) hl (by omega) (fun j hji => hj j hji) (fun j hji => hz j (by omega)) (by rw [hz m (by omega)]; omega) (by rw [hz m (by omega)]; have := lis_nonneg ((a.drop (m + 1)).filter (fun y => decide (a.getD m 0 < y))); omega)
    have hbd := sufI_bound a m (by omega)
    unfold sufI at hbd
    rw [he, call_some, chk_pos (by omega), chk_pos (by omega), wrap_id (x := (m : Int) - 1) (by omega)]
    simp only [Int.toNat_natCast]
    rw [hb3, wrap_id (by omega)]
    refine f19_L0_ok F a ha hF m n _ (by omega) (by omega) (by simp [hl']) (fun j hji => ?_) (fun j hji => ?_)
    · rw [getD_set _ _ _ _ (by omega)]
      split
      · next h => subst h; rw [tab, if_pos (by omega), sufI]; omega
      · rw [hb1 j (by omega)]
    · rw [getD_set _ _ _ _ (by omega), if_neg (by omega), hb2 j hji]

theorem f25_L0_ok (F : Nat) (v a : List Int) (hl : v.length = a.length + 1) (ha : a.length ≤ 1000) (ht : ∀ j, v.getD j 0 = tab a j) : ∀ (m n : Nat) (r : Int) (k : Nat), k + m = v.length → m < n → 0 ≤ r → max r (lis (a.drop k)) = lis a →
    f25_L0 F v n r (k : Int) = some (lis a)
  | _, 0, _, _, _, h, _, _ => absurd h (Nat.not_lt_zero _)
  | 0, n + 1, r, k, hk, _, h0, hr => by
    rw [f25_L0, show decide ((k : Int) < (v.length : Int)) = false from decide_eq_false (by omega), cond_false]
    rw [List.drop_of_length_le (by omega), lis_nil] at hr
    rw [← hr]
    congr 1
    omega
  | m + 1, n + 1, r, k, hk, hf, h0, hr => by
    rw [f25_L0, show decide ((k : Int) < (v.length : Int)) = true from decide_eq_true (by omega), cond_true]
    have hw : IntKind.i64.wrap ((k : Int) + 1) = ((k + 1 : Nat) : Int) := by rw [wrap_id (by omega)]; omega
    rw [chk_pos (by omega), hw]
    simp only [Int.toNat_natCast]
    rw [ht k]
    by_cases hka : k < a.length
    · have hs := suf_all a k hka
      have hbd := sufI_bound a k hka
      rw [tab, if_pos hka]
      exact f25_L0_ok F v a hl ha ht m n _ (k + 1) (by omega) (by omega) (by split <;> omega) (by rw [← hr, hs]; split <;> omega)
    · rw [tab, if_neg hka, if_neg (by omega)]
      exact f25_L0_ok F v a hl ha ht m n _ (k + 1) (by omega) (by omega) h0 (by rw [List.drop_of_length_le (by omega), ← hr, List.drop_of_length_le (by omega)])

theorem f25_ok' (F : Nat) (v a : List Int) (hl : v.length = a.length + 1) (ha : a.length ≤ 1000) (ht : ∀ j, v.getD j 0 = tab a j) (hF : 1002 < F) : f25 F v = some (lis a) := by
  rw [f25, show decide ((v.length : Int) < 1) = false from decide_eq_false (by omega), cond_false, chk_pos (by omega)]
  rw [show (1 : Int) = ((1 : Nat) : Int) from rfl, show (0 : Int).toNat = 0 from rfl, ht 0]
  rw [f25_L0_ok F v a hl ha ht a.length F (tab a 0) 1 (by omega) (by omega) ?_ ?_, call_some]
  · unfold tab
    split
    · have := sufI_bound a 0 (by omega); omega
    · omega
  · by_cases h : 0 < a.length
    · have := suf_all a 0 h
      rw [List.drop_zero] at this
      rw [tab, if_pos h, this]
    · have : a = [] := List.eq_nil_of_length_eq_zero (by omega)
      subst this
      simp [tab, lis_nil]
end Go.Vm.GenC5
