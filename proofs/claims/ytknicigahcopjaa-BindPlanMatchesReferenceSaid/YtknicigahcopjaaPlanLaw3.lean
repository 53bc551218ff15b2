import Derived.Test.YtknicigahcopjaaPlanLaw2
namespace Go.Vm.GenC3

theorem order_loop (F : Nat) (n : Int) (y : (List (List Int)) × Int) (hy : ∀ i : Int, 0 ≤ i ∧ i < y.1.length → ((y.1.getD i.toNat []).length : Int) = n) (hM : y.1.length ≤ 64) : ∀ (m fuel : Nat) (l : List Int) (i : Int), 0 ≤ i → i + m = y.1.length → m < fuel → l.length + m ≤ 1000 →
    f3_L1 F n y fuel l i = some (.go (l ++ up (fun i => i) i m))
  | _, 0, _, _, _, _, h, _ => absurd h (Nat.not_lt_zero _)
  | 0, fuel + 1, l, i, h0, hi, _, _ => by
    rw [f3_L1]
    have h1 : decide (i < (y.1.length : Int)) = false := by simp; omega
    rw [h1, cond_false]
    simp [up]
  | m + 1, fuel + 1, l, i, h0, hi, hf, hl => by
    rw [f3_L1]
    have h1 : decide (i < (y.1.length : Int)) = true := by simp; omega
    rw [h1, cond_true, chk_pos (by omega), chk_pos (by simp; omega), hy i (by omega)]
    simp only [bne_self_eq_false, cond_false]
    rw [wrap_id (x := i + 1) (by omega), order_loop F n y hy hM m fuel (l ++ [i]) (i + 1) (by omega) (by omega) (by omega) (by simp; omega)]
    simp [up]

theorem read_loop (F : Nat) (p : Int) (hp : 1 ≤ p ∧ p ≤ 512) (R : Nat) (hR : R ≤ 10000) : ∀ (m fuel : Nat) (i : Int), 0 ≤ i → i + m = R → m < fuel → f3_L3 F p (up (pg p) 1 R) fuel i = some (.go ())
  | _, 0, _, _, _, h => absurd h (Nat.not_lt_zero _)
  | 0, fuel + 1, i, h0, hi, _ => by
    rw [f3_L3]
    have h1 : decide (i < ((up (pg p) 1 R).length : Int)) = false := by rw [up_length]; simp; omega
    rw [h1, cond_false]
  | m + 1, fuel + 1, i, h0, hi, hf => by
    rw [f3_L3]
    have h1 : decide (i < ((up (pg p) 1 R).length : Int)) = true := by rw [up_length]; simp; omega
    rw [h1, cond_true, chk_pos (by rw [up_length]; omega), up_getD (pg p) 0 R 1 i.toNat (by omega), wrap_id (x := i + 1) (by omega)]
    have hg : pg p (1 + i.toNat) = if i < p then i + 1 else 0 := by
      unfold pg
      by_cases h : i < p
      · rw [if_pos (by omega), if_pos h]; omega
      · rw [if_neg (by omega), if_neg h]
    simp only [lett_eq, hg]
    have hr := read_loop F p hp R hR m fuel (i + 1) (by omega) (by omega) (by omega)
    by_cases h : i < p
    · have h2 : decide (p ≤ i) = false := by simp; omega
      simp [h, hr, h2]
    · simp [h, hr]

theorem ceil_eq (F : Nat) (p n : Int) (hp : 1 ≤ p ∧ p ≤ 512) (hn : 2 ≤ n ∧ n ≤ 64) : f8 F p n = some ((p + n - 1).tdiv n) := by
  have hq : p.tdiv n = p / n := Int.tdiv_eq_ediv_of_nonneg (by omega)
  have hq2 : (p + n - 1).tdiv n = (p + n - 1) / n := Int.tdiv_eq_ediv_of_nonneg (by omega)
  have e1 := Int.emod_add_mul_ediv p n
  have e2 := Int.emod_nonneg p (show n ≠ 0 by omega)
  have e3 := Int.emod_lt_of_pos p (show 0 < n by omega)
  have hb0 : 0 ≤ p / n := Int.ediv_nonneg (by omega) (by omega)
  have hb1 : p / n ≤ p := Int.ediv_le_self _ (by omega)
  have hc : n * (p / n) = p / n * n := Int.mul_comm _ _
  rw [f8, chk_pos (by omega), hq, hq2, wrap_id (x := p / n) (by omega), wrap_id (x := p / n * n) (by omega), wrap_id (x := p / n + 1) (by omega)]
  by_cases h : p / n * n < p
  · have : (p + n - 1) / n = p / n + 1 := by
      refine ((Int.ediv_emod_unique (a := p + n - 1) (b := n) (r := p % n - 1) (q := p / n + 1) (by omega)).2 ⟨?_, by omega, by omega⟩).1
      rw [Int.mul_add]
      omega
    rw [decide_eq_true h, cond_true, call_some, this]
  · have : (p + n - 1) / n = p / n := by
      refine ((Int.ediv_emod_unique (a := p + n - 1) (b := n) (r := n - 1) (q := p / n) (by omega)).2 ⟨?_, by omega, by omega⟩).1
      omega
    rw [decide_eq_false h, cond_false, call_some, this]
end Go.Vm.GenC3
