import Derived.Test.YtknicigahcopjaaPlanLaw3
namespace Go.Vm.GenC3

/-- What a plan is. -/
theorem plan_eq (F : Nat) (hF : 10000 ≤ F) (p n s many : Int) (hp : 1 ≤ p ∧ p ≤ 512) (hn : 2 ≤ n ∧ n ≤ 64) (hm : (p + n - 1).tdiv n = many) (h0 : 0 ≤ many ∧ many ≤ 64) (hs : s = 0 ∨ s = 1) (h2 : n % 2 = 0) (h4 : s = 1 → n % 4 = 0) :
    f7 F p n s = some (up (sec p n s many) 0 many.toNat, 0) := by
  have t2 : n.tmod 2 = n % 2 := Int.tmod_eq_emod_of_nonneg (by omega)
  have t4 : n.tmod 4 = n % 4 := Int.tmod_eq_emod_of_nonneg (by omega)
  have hM : IntKind.i64.wrap ((IntKind.i64.wrap ((IntKind.i64.wrap (p + n)) - (1 : Int))).tdiv n) = many := by
    rw [wrap_id (x := p + n) (by omega), wrap_id (x := p + n - 1) (by omega), hm, wrap_id (by omega)]
  have hl := plan_loop F p n s many hp hn hM h0 (by omega) many.toNat F [] 0 (by omega) (by omega) (by omega) (by simp; omega)
  rw [f7]
  simp only [lett_eq, hM, t2, t4]
  rw [decide_eq_false (show ¬ p < 1 by omega), decide_eq_false (show ¬ p > 512 by omega), decide_eq_false (show ¬ n < 2 by omega), decide_eq_false (show ¬ n > 64 by omega), decide_eq_false (show ¬ many > 64 by omega), chk_pos (show n ≠ 0 by omega), hl]
  rcases hs with rfl | rfl
  · simp [h2, call_some]
  · simp [h2, h4 rfl, call_some]

theorem gather_eq (F : Nat) (hF : 10000 ≤ F) (p n s many : Int) (hn : 2 ≤ n ∧ n ≤ 64) (h0 : 0 ≤ many ∧ many ≤ 64) (hs : s = 0 ∨ s = 1) (h2 : n % 2 = 0) :
    f9 F (up (sec p n s many) 0 many.toNat) (up (fun i => i) 0 many.toNat) (s == 1) = some (up (pg p) 1 (many * n).toNat) := by
  have hM : many = (many.toNat : Int) := by omega
  rw [f9]
  rcases hs with rfl | rfl
  · have h1 := stack_loop F p n many many.toNat hM hn h0.2 many.toNat F 0 (by omega) (by omega) (by omega)
    rw [show ((0 : Int) * n).toNat = 0 by simp] at h1
    rw [show ((0 : Int) == 1) = false from rfl, show (up (pg p) 1 0) = [] from rfl] at *
    rw [h1, call_some, stack_loop2 F _ _ many.toNat (by omega) many.toNat F 0 (by omega) (by omega) (by omega), call_some]
  · have he := half_eq h2 (by omega)
    have h1 := nest_loop F p n many (n.tdiv 2) many.toNat hM hn rfl he h0.2 many.toNat F 0 (by omega) (by omega) (by omega)
    have h3 := nest_loop2 F p n many (n.tdiv 2) many.toNat hM hn rfl he h0.2 many.toNat F 0 (by omega) (by omega) (by omega)
    rw [show ((0 : Int) * n.tdiv 2) = 0 by simp] at h1 h3
    rw [show (0 : Int).toNat = 0 from rfl, show (up (pg p) 1 0) = [] from rfl] at h1
    rw [Int.add_zero] at h3
    rw [show ((1 : Int) == 1) = true from rfl, h1, call_some, h3, call_some]
    have : many * n = many * n.tdiv 2 + many * n.tdiv 2 := by
      rw [← Int.mul_add, ← he]
    rw [this]

theorem good (F : Nat) (hF : 10000 ≤ F) (p n s : Int) (hp : 1 ≤ p ∧ p ≤ 512) (hn : 2 ≤ n ∧ n ≤ 64) (hs : s = 0 ∨ s = 1) (h2 : n % 2 = 0) (h4 : s = 1 → n % 4 = 0) (h6 : f6 F = some true) (hle : (p + n - 1).tdiv n ≤ 64) : f3 F p n s = some true := by
  obtain ⟨many, hm⟩ : ∃ many, (p + n - 1).tdiv n = many := ⟨_, rfl⟩
  have h0 : 0 ≤ many ∧ many ≤ 64 := by
    refine ⟨?_, by omega⟩
    rw [← hm, Int.tdiv_eq_ediv_of_nonneg (by omega)]
    exact Int.ediv_nonneg (by omega) (by omega)
  have t2 : n.tmod 2 = n % 2 := Int.tmod_eq_emod_of_nonneg (by omega)
  have t4 : n.tmod 4 = n % 4 := Int.tmod_eq_emod_of_nonneg (by omega)
  have hb := mul_bd (a := many) (b := n) (m := 64) (n := 64) (by omega) (by omega)
  have hlen : (up (sec p n s many) 0 many.toNat).length = many.toNat := up_length _ _ _
  have ho := order_loop F n (up (sec p n s many) 0 many.toNat, 0) (fun i hi => by
    rw [hlen] at hi
    rw [at_up _ _ _ (by omega)]
    exact sec_len (by omega) (fun _ => h2)) (by rw [hlen]; omega) many.toNat F [] 0 (by omega) (by rw [hlen]; omega) (by omega) (by simp; omega)
  have hr := read_loop F p hp (many * n).toNat (by omega) (many * n).toNat F 0 (by omega) (by omega) (by omega)
  rw [f3, h6, call_some, plan_eq F hF p n s many hp hn hm h0 hs h2 h4]
  simp only [lett_eq, call_some, t2, t4, ceil_eq F p n hp hn, hm]
  rw [decide_eq_false (show ¬ p < 1 by omega), decide_eq_false (show ¬ p > 512 by omega), decide_eq_false (show ¬ n < 2 by omega), decide_eq_false (show ¬ n > 64 by omega), decide_eq_false (show ¬ many > 64 by omega)]
  have e1 : (bif (bif s != 0 then s != 1 else false) then (some 14 : Option Int) else (bif (bif (n % 2 == 1) then true else (bif s == 1 then decide (n % 4 > 0) else false)) then some 4 else some 0)) = some 0 := by
    rcases hs with rfl | rfl
    · simp [h2]
    · simp [h2, h4 rfl]
  simp only [Bool.not_true, cond_false, e1, call_some, bne_self_eq_false]
  rw [ho, callE_go, List.nil_append]
  simp only [gather_eq F hF p n s many hn h0 hs h2, call_some, hr, callE_go, hlen, up_length]
  have hmt : ((many.toNat : Nat) : Int) = many := by omega
  have hnm : n * many = many * n := Int.mul_comm _ _
  have hmn : (((many * n).toNat : Nat) : Int) = many * n := by omega
  simp only [hmt, hnm, hmn, wrap_id (x := many * n) (by omega)]
  simp [call_some]

theorem bad (F : Nat) (hF : 10000 ≤ F) (p n s : Int) (h6 : f6 F = some true) (h : ¬ ((1 ≤ p ∧ p ≤ 512) ∧ (2 ≤ n ∧ n ≤ 64) ∧ (s = 0 ∨ s = 1) ∧ n.tmod 2 ≠ 1 ∧ (s = 1 → n.tmod 4 = 0) ∧ (p + n - 1).tdiv n ≤ 64)) : f3 F p n s = some true := by
  rw [f3, h6, call_some, f7]
  simp only [lett_eq, Bool.not_true, cond_false]
  by_cases c1 : (bif (bif (bif decide (p < 1) then true else decide (p > 512)) then true else decide (n < 2)) then true else decide (n > 64)) = true
  · rw [c1]
    simp [call_some]
  · rw [Bool.not_eq_true] at c1
    have hpn : (1 ≤ p ∧ p ≤ 512) ∧ (2 ≤ n ∧ n ≤ 64) := by
      by_cases h1 : p < 1
      · simp [h1] at c1
      by_cases h2 : p > 512
      · simp [h2] at c1
      by_cases h3 : n < 2
      · simp [h3] at c1
      by_cases h4 : n > 64
      · simp [h4] at c1
      omega
    rw [c1]
    simp only [cond_false]
    by_cases c2 : (bif s != 0 then s != 1 else false) = true
    · rw [c2]
      simp [call_some]
    · rw [Bool.not_eq_true] at c2
      have hs : s = 0 ∨ s = 1 := by
        by_cases h1 : s = 0
        · exact .inl h1
        · by_cases h2 : s = 1
          · exact .inr h2
          · simp [h1, h2] at c2
      rw [c2]
      simp only [cond_false]
      have ht4 : 0 ≤ n.tmod 4 := by rw [Int.tmod_eq_emod_of_nonneg (by omega)]; omega
      have hsame : (n.tmod 4 != 0) = decide (n.tmod 4 > 0) := by
        by_cases h1 : n.tmod 4 = 0
        · simp [h1]
        · have : n.tmod 4 > 0 := by omega
          simp [h1, this]
      rw [← hsame]
      by_cases c3 : (bif n.tmod 2 == 1 then true else bif s == 1 then n.tmod 4 != 0 else false) = true
      · rw [c3]
        simp [call_some]
      · rw [Bool.not_eq_true] at c3
        have h3 : n.tmod 2 ≠ 1 := by
          intro hc
          simp [hc] at c3
        have h4 : s = 1 → n.tmod 4 = 0 := by
          intro hc
          simp [hc, h3] at c3
          exact c3
        have hbig : (p + n - 1).tdiv n > 64 := by
          refine Int.not_le.1 fun hle => h ⟨hpn.1, hpn.2, hs, h3, h4, hle⟩
        have hle : (p + n - 1).tdiv n ≤ 1000 := by
          rw [Int.tdiv_eq_ediv_of_nonneg (by omega)]
          exact Int.le_trans (Int.ediv_le_self _ (by omega)) (by omega)
        rw [c3, ceil_eq F p n hpn.1 hpn.2, wrap_id (x := p + n) (by omega), wrap_id (x := p + n - 1) (by omega), wrap_id (x := (p + n - 1).tdiv n) (by omega), decide_eq_true hbig, chk_pos (by omega)]
        have hbig' : decide (64 < (p + n - 1).tdiv n) = true := decide_eq_true hbig
        simp [call_some, hbig']

theorem law (p n s : Int) : ∃ F, f3 F p n s = some true := by
  have h6 : f6 10000 = some true := by decide +kernel
  refine ⟨10000, ?_⟩
  by_cases h : ((1 ≤ p ∧ p ≤ 512) ∧ (2 ≤ n ∧ n ≤ 64) ∧ (s = 0 ∨ s = 1) ∧ n.tmod 2 ≠ 1 ∧ (s = 1 → n.tmod 4 = 0) ∧ (p + n - 1).tdiv n ≤ 64)
  · obtain ⟨h1, h2, h3, h4, h5, h7⟩ := h
    rw [Int.tmod_eq_emod_of_nonneg (by omega)] at h4 h5
    exact good 10000 (by omega) p n s h1 h2 h3 (by omega) h5 h6 h7
  · exact bad 10000 (by omega) p n s h6 h
end Go.Vm.GenC3
