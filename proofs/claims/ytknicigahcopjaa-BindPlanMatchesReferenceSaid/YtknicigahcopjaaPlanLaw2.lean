import Derived.Test.YtknicigahcopjaaPlanLaw
namespace Go.Vm.GenC3

theorem at_up {α : Type} (f : Int → α) (d : α) (m : Nat) {i : Int} (h : 0 ≤ i ∧ i < m) : (up f 0 m).getD i.toNat d = f i := by
  rw [up_getD f d m 0 i.toNat (by omega)]
  congr 1
  omega

theorem half_eq {n : Int} (hn : n % 2 = 0) (h0 : 0 ≤ n) : n = n.tdiv 2 + n.tdiv 2 := by
  have : n.tdiv 2 = n / 2 := Int.tdiv_eq_ediv_of_nonneg h0
  omega

/-- The parts of a section. -/
theorem sec_len {p n s many k : Int} (hn : 0 ≤ n) (he : s ≠ 0 → n % 2 = 0) : ((sec p n s many k).length : Int) = n := by
  unfold sec
  split
  · rw [up_length]; omega
  · rename_i hs
    have := half_eq (he hs) hn
    rw [List.length_append, up_length, up_length]
    omega

/-- Gathering a stack. -/
theorem stack_loop (F : Nat) (p n many : Int) (M : Nat) (hM : many = M) (hn : 2 ≤ n ∧ n ≤ 64) (hm : many ≤ 64) : ∀ (m fuel : Nat) (i : Int), 0 ≤ i → i + m = many → m < fuel →
    f9_L0 F (up (sec p n 0 many) 0 M) (up (fun i => i) 0 M) false fuel (up (pg p) 1 (i * n).toNat) i = some (up (pg p) 1 (many * n).toNat)
  | _, 0, _, _, _, h => absurd h (Nat.not_lt_zero _)
  | 0, fuel + 1, i, h0, hi, _ => by
    rw [f9_L0]
    have h1 : decide (i < ((up (fun i => i) 0 M).length : Int)) = false := by rw [up_length]; simp; omega
    have h2 : i = many := by omega
    rw [h1, cond_false, h2]
  | m + 1, fuel + 1, i, h0, hi, hf => by
    rw [f9_L0]
    have h1 : decide (i < ((up (fun i => i) 0 M).length : Int)) = true := by rw [up_length]; simp; omega
    have hb := mul_bd (a := i) (b := n) (m := 64) (n := 64) (by omega) (by omega)
    rw [h1, cond_true, chk_pos (by rw [up_length]; omega), at_up _ _ _ (by omega), chk_pos (by rw [up_length]; omega)]
    simp only [cond_false, call_some]
    rw [at_up _ _ _ (by omega), wrap_id (x := i + 1) (by omega)]
    have hs : sec p n 0 many i = up (pg p) (i * n + 1) n.toNat := by simp [sec]
    rw [hs, chk_pos (by rw [up_length, up_length]; omega), up_append (pg p) _ _ 1 (i * n + 1) (by omega)]
    have hmul : (i + 1) * n = i * n + n := by rw [Int.add_mul, Int.one_mul]
    rw [show (i * n).toNat + n.toNat = ((i + 1) * n).toNat by omega]
    exact stack_loop F p n many M hM hn hm m fuel (i + 1) (by omega) (by omega) (by omega)

theorem stack_loop2 (F : Nat) (S : List (List Int)) (acc : List Int) (M : Nat) (hM : M ≤ 64) : ∀ (m fuel : Nat) (i : Int), 0 ≤ i → i + m = M → m < fuel → f9_L2 F S (up (fun i => i) 0 M) false fuel acc i = some acc
  | _, 0, _, _, _, h => absurd h (Nat.not_lt_zero _)
  | 0, fuel + 1, i, h0, hi, _ => by
    rw [f9_L2]
    have h1 : decide (i < ((up (fun i => i) 0 M).length : Int)) = false := by rw [up_length]; simp; omega
    simp only [h1, cond_false]
  | m + 1, fuel + 1, i, h0, hi, hf => by
    rw [f9_L2]
    have h1 : decide (i < ((up (fun i => i) 0 M).length : Int)) = true := by rw [up_length]; simp; omega
    rw [h1, cond_true]
    simp only [cond_false, call_some]
    rw [wrap_id (x := i + 1) (by omega)]
    exact stack_loop2 F S acc M hM m fuel (i + 1) (by omega) (by omega) (by omega)

/-- Gathering nested sections, outwards in. -/
theorem nest_loop (F : Nat) (p n many h : Int) (M : Nat) (hM : many = M) (hn : 2 ≤ n ∧ n ≤ 64) (hh : n.tdiv 2 = h) (he : n = h + h) (hm : many ≤ 64) : ∀ (m fuel : Nat) (i : Int), 0 ≤ i → i + m = many → m < fuel →
    f9_L0 F (up (sec p n 1 many) 0 M) (up (fun i => i) 0 M) true fuel (up (pg p) 1 (i * h).toNat) i = some (up (pg p) 1 (many * h).toNat)
  | _, 0, _, _, _, h => absurd h (Nat.not_lt_zero _)
  | 0, fuel + 1, i, h0, hi, _ => by
    rw [f9_L0]
    have h1 : decide (i < ((up (fun i => i) 0 M).length : Int)) = false := by rw [up_length]; simp; omega
    have h2 : i = many := by omega
    rw [h1, cond_false, h2]
  | m + 1, fuel + 1, i, h0, hi, hf => by
    rw [f9_L0]
    have h1 : decide (i < ((up (fun i => i) 0 M).length : Int)) = true := by rw [up_length]; simp; omega
    have hb := mul_bd (a := i) (b := h) (m := 64) (n := 64) (by omega) (by omega)
    rw [h1, cond_true, chk_pos (by rw [up_length]; omega), at_up _ _ _ (by omega), chk_pos (by rw [up_length]; omega), at_up _ _ _ (by omega)]
    have hs : sec p n 1 many i = up (pg p) (i * h + 1) h.toNat ++ up (pg p) (many * n - (i + 1) * h + 1) h.toNat := by simp [sec, hh]
    have hl : ((sec p n 1 many i).length : Int) = n := sec_len (by omega) (fun _ => by omega)
    rw [hl, hh, wrap_id (x := h) (by omega)]
    rw [cond_true, chk_pos (by omega)]
    simp only [lett_eq, call_some]
    rw [show ((sec p n 1 many i).drop (0 : Int).toNat).take (h.toNat - (0 : Int).toNat) = up (pg p) (i * h + 1) h.toNat by
      rw [hs]
      simp only [Int.toNat_zero, List.drop_zero, Nat.sub_zero]
      rw [List.take_append_of_le_length (by rw [up_length]; omega), List.take_of_length_le (by rw [up_length]; omega)]]
    rw [chk_pos (by rw [up_length, up_length]; omega), up_append (pg p) _ _ 1 (i * h + 1) (by omega), wrap_id (x := i + 1) (by omega)]
    have hmul : (i + 1) * h = i * h + h := by rw [Int.add_mul, Int.one_mul]
    rw [show (i * h).toNat + h.toNat = ((i + 1) * h).toNat by omega]
    exact nest_loop F p n many h M hM hn hh he hm m fuel (i + 1) (by omega) (by omega) (by omega)

theorem nest_loop2 (F : Nat) (p n many h : Int) (M : Nat) (hM : many = M) (hn : 2 ≤ n ∧ n ≤ 64) (hh : n.tdiv 2 = h) (he : n = h + h) (hm : many ≤ 64) : ∀ (m fuel : Nat) (i : Int), 0 ≤ i → i + m = many → m < fuel →
    f9_L2 F (up (sec p n 1 many) 0 M) (up (fun i => i) 0 M) true fuel (up (pg p) 1 (many * h + i * h).toNat) i = some (up (pg p) 1 (many * h + many * h).toNat)
  | _, 0, _, _, _, h => absurd h (Nat.not_lt_zero _)
  | 0, fuel + 1, i, h0, hi, _ => by
    rw [f9_L2]
    have h1 : decide (i < ((up (fun i => i) 0 M).length : Int)) = false := by rw [up_length]; simp; omega
    have h2 : i = many := by omega
    rw [h1, cond_false, h2]
  | m + 1, fuel + 1, i, h0, hi, hf => by
    rw [f9_L2]
    have h1 : decide (i < ((up (fun i => i) 0 M).length : Int)) = true := by rw [up_length]; simp; omega
    have hb := mul_bd (a := i) (b := h) (m := 64) (n := 64) (by omega) (by omega)
    have hb2 := mul_bd (a := many) (b := h) (m := 64) (n := 64) (by omega) (by omega)
    rw [h1, cond_true, cond_true]
    have hL : (((up (fun i => i) 0 M).length : Nat) : Int) = many := by rw [up_length]; omega
    rw [hL, wrap_id (x := many - 1) (by omega), wrap_id (x := many - 1 - i) (by omega), chk_pos (by omega), at_up _ _ _ (by omega), chk_pos (by rw [up_length]; omega), at_up _ _ _ (by omega)]
    have hs : sec p n 1 many (many - 1 - i) = up (pg p) ((many - 1 - i) * h + 1) h.toNat ++ up (pg p) (many * n - (many - 1 - i + 1) * h + 1) h.toNat := by simp [sec, hh]
    have hl : ((sec p n 1 many (many - 1 - i)).length : Int) = n := sec_len (by omega) (fun _ => by omega)
    have hpos : many * n - (many - 1 - i + 1) * h + 1 = many * h + i * h + 1 := by
      rw [show many - 1 - i + 1 = many - i by omega, Int.sub_mul, he, Int.mul_add]
      omega
    simp only [lett_eq]
    rw [hl, hh, wrap_id (x := h) (by omega), chk_pos (by omega)]
    rw [show ((sec p n 1 many (many - 1 - i)).drop h.toNat).take (n.toNat - h.toNat) = up (pg p) (many * h + i * h + 1) h.toNat by
      rw [hs, hpos, List.drop_append_of_le_length (by rw [up_length]; omega), List.drop_of_length_le (by rw [up_length]; omega), List.nil_append, List.take_of_length_le (by rw [up_length]; omega)]]
    rw [chk_pos (by rw [up_length, up_length]; omega), call_some, up_append (pg p) _ _ 1 (many * h + i * h + 1) (by omega), wrap_id (x := i + 1) (by omega)]
    have hmul : (i + 1) * h = i * h + h := by rw [Int.add_mul, Int.one_mul]
    rw [show (many * h + i * h).toNat + h.toNat = (many * h + (i + 1) * h).toNat by omega]
    exact nest_loop2 F p n many h M hM hn hh he hm m fuel (i + 1) (by omega) (by omega) (by omega)
end Go.Vm.GenC3
