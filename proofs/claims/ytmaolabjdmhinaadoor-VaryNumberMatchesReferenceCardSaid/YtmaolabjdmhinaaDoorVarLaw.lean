/-
  vary, plain law: numbers with check digits.
-/
import Derived.Test.YtmaolabjdmhinaaDoorVarGF
import Derived.Test.YtmaolabjdmhinaaDoorVmC
import Derived.Lib.AtoiTie
import Derived.Laws.RangeAny
import Derived.Laws.RangeString
namespace Go.Vm.VarG

theorem nat_toNat (i : Nat) : ((i : Nat) : Int).toNat = i := rfl
theorem getD_head {s : List UInt8} {i : Nat} (hi : i < s.length) : s.drop i = s.getD i 0 :: s.drop (i + 1) := by
  rw [List.getD_eq_getElem?_getD, List.getElem?_eq_getElem hi]
  exact List.drop_eq_getElem_cons hi

/-! ## Digits and their value -/
def dgt (c : UInt8) : Bool := decide (48 ≤ c.toNat) && decide (c.toNat ≤ 57)
theorem dgt_iff {c : UInt8} : dgt c = true ↔ 48 ≤ c.toNat ∧ c.toNat ≤ 57 := by simp [dgt]
def dv (c : UInt8) : Nat := c.toNat - 48
theorem dv_eq (c : UInt8) : dv c = c.toNat - 48 := rfl
attribute [irreducible] dv
def val (a : Nat) : List UInt8 → Nat
  | [] => a
  | c :: t => val (a * 10 + dv c) t
theorem val_nil (a : Nat) : val a [] = a := rfl
theorem val_cons0 (a : Nat) (c : UInt8) (t : List UInt8) : val a (c :: t) = val (a * 10 + dv c) t := rfl
theorem val_cons (a : Nat) (c : UInt8) (t : List UInt8) : val a (c :: t) = val (a * 10 + (c.toNat - 48)) t := by rw [val_cons0, dv_eq]
theorem val_one (a : Nat) (c : UInt8) : val a [c] = a * 10 + (c.toNat - 48) := by rw [val_cons, val_nil]
attribute [irreducible] val
theorem val_append (a : Nat) (l m : List UInt8) : val a (l ++ m) = val (val a l) m := by
  induction l generalizing a with
  | nil => rw [List.nil_append, val_nil]
  | cons c t ih => rw [List.cons_append, val_cons0, val_cons0, ih]
theorem val_le (l : List UInt8) : ∀ (a : Nat), a ≤ val a l := by
  induction l with
  | nil => intro a; rw [val_nil]; exact Nat.le_refl a
  | cons c t ih =>
    intro a
    have h := ih (a * 10 + dv c)
    rw [val_cons0]
    omega
theorem val_step {v a d P : Nat} (h1 : v < (a * 10 + d + 1) * P) (hd : d ≤ 9) : v < (a + 1) * (P * 10) := by
  have h2 : (a * 10 + d + 1) * P ≤ ((a + 1) * 10) * P := Nat.mul_le_mul_right P (by omega)
  have h3 : (a + 1) * (P * 10) = ((a + 1) * 10) * P := by rw [Nat.mul_comm P 10, Nat.mul_assoc]
  rw [h3]
  exact Nat.lt_of_lt_of_le h1 h2
theorem val_lt (l : List UInt8) : ∀ (a : Nat), l.all dgt = true → val a l < (a + 1) * 10 ^ l.length := by
  induction l with
  | nil => intro a _; rw [List.length_nil, Nat.pow_zero, Nat.mul_one, val_nil]; exact Nat.lt_succ_self a
  | cons c t ih =>
    intro a h
    rw [List.all_cons, Bool.and_eq_true] at h
    have hc := dgt_iff.1 h.1
    have h1 := ih (a * 10 + (c.toNat - 48)) h.2
    rw [List.length_cons, Nat.pow_succ, val_cons]
    exact val_step h1 (by omega)
theorem val_max {l : List UInt8} (h : l.all dgt = true) {k : Nat} (hk : l.length ≤ k) : val 0 l < 10 ^ k := by
  have := val_lt l 0 h
  rw [Nat.zero_add, Nat.one_mul] at this
  exact Nat.lt_of_lt_of_le this (Nat.pow_le_pow_right (by omega) hk)
theorem dec_dgt {k : Nat} (h : k < 10) : dgt (UInt8.ofNat (48 + k)) = true ∧ (UInt8.ofNat (48 + k)).toNat - 48 = k := by
  have : (UInt8.ofNat (48 + k)).toNat = 48 + k := by simp; omega
  rw [dgt_iff, this]; omega
theorem decDigits_val (u : Nat) : (Lib.decDigits u).all dgt = true ∧ val 0 (Lib.decDigits u) = u := by
  induction u using Nat.strongRecOn with
  | _ u ih =>
    rw [Lib.decDigits]
    split
    · rename_i h
      have := dec_dgt h
      exact ⟨by simp only [List.all_cons, List.all_nil, this.1, Bool.and_self], by rw [val_one, this.2, Nat.zero_mul, Nat.zero_add]⟩
    · rename_i h
      have h1 := ih (u / 10) (by omega)
      have h2 := dec_dgt (Nat.mod_lt u (show 10 > 0 by omega))
      refine ⟨by simp only [List.all_append, List.all_cons, List.all_nil, h1.1, h2.1, Bool.and_self], ?_⟩
      rw [val_append, h1.2]
      rw [val_one, h2.2]; omega
theorem val_pad (k : Nat) (l : List UInt8) : val 0 (List.replicate k 48 ++ l) = val 0 l := by
  induction k with
  | zero => rfl
  | succ k ih => rw [List.replicate_succ, List.cons_append, val_cons]; exact ih
theorem all_pad {k : Nat} {l : List UInt8} (h : l.all dgt = true) : (List.replicate k 48 ++ l).all dgt = true := by
  induction k with
  | zero => exact h
  | succ k ih => rw [List.replicate_succ, List.cons_append, List.all_cons, ih]; rfl
theorem repeatL_48 (k : Nat) : Lib.repeatL [48] k = List.replicate k 48 := by
  induction k with
  | zero => rfl
  | succ k ih => rw [Lib.repeatL, ih]; rfl
theorem decDigits_short : ∀ (k u : Nat), u < 10 ^ (k + 1) → (Lib.decDigits u).length ≤ k + 1 ∧ 1 ≤ (Lib.decDigits u).length := by
  intro k
  induction k with
  | zero => intro u hu; rw [Lib.decDigits_one (by simpa using hu)]; simp
  | succ k ih =>
    intro u hu
    rw [Lib.decDigits]
    split
    · simp
    · have := ih (u / 10) (by rw [Nat.pow_succ] at hu; omega)
      simp; omega

/-! ## Decimal -/
theorem Decimal_L0 (F : Nat) : ∀ (u : Nat), 0 < u → u ≤ 9223372036854775807 → ∀ (n : Nat) (x : Int) (acc : List UInt8), x.natAbs = u → u < n → acc.length + (Lib.decDigits u).length ≤ 100 →
    ref3_Decimal_L0 F n x acc = some (Lib.decDigits u ++ acc) := by
  intro u
  induction u using Nat.strongRecOn with
  | _ u ih =>
    intro hu hu2 n x acc hx hn ha
    obtain ⟨n, rfl⟩ : ∃ q, n = q + 1 := ⟨n - 1, by omega⟩
    have h0 : (x != 0) = true := by simp; omega
    have hq : (x.tdiv 10).natAbs = u / 10 := by rw [Int.natAbs_tdiv, hx]; rfl
    have hr : (x.tmod 10).natAbs = u % 10 := by rw [Int.natAbs_tmod, hx]; rfl
    have hd : (bif (decide ((x.tmod (10 : Int)) < (0 : Int))) then some (IntKind.i64.wrap (0 - (x.tmod (10 : Int)))) else some (x.tmod (10 : Int))) = some ((u % 10 : Nat) : Int) := by
      by_cases h : x.tmod 10 < 0
      · rw [decide_eq_true h, cond_true, wrap_id (by omega)]; congr 1; omega
      · rw [decide_eq_false h, cond_false]; congr 1; omega
    have hw : IntKind.u8.wrap (IntKind.i64.wrap (48 + ((u % 10 : Nat) : Int))) = ((48 + u % 10 : Nat) : Int) := by rw [wrap_id (by omega), wrap_u8 (by omega)]; omega
    have hal : acc.length ≤ 100 := by omega
    rw [ref3_Decimal_L0, h0, cond_true, hd, call_some, hw, nat_toNat, chk_pos ⟨by omega, by omega⟩, chk_pos (by simp; omega), wrap_id (by omega), Lib.decDigits]
    rw [Lib.decDigits] at ha
    by_cases h : u < 10
    · rw [dif_pos h]
      have hz : x.tdiv 10 = 0 := by omega
      obtain ⟨n, rfl⟩ : ∃ q, n = q + 1 := ⟨n - 1, by omega⟩
      rw [hz, ref3_Decimal_L0, show ((0 : Int) != 0) = false from rfl, cond_false, Nat.mod_eq_of_lt h]
    · rw [dif_neg h] at ha ⊢
      rw [List.length_append, List.length_singleton] at ha
      rw [ih (u / 10) (by omega) (by omega) (by omega) n _ _ hq (by omega) (by simp; omega), List.append_assoc]

theorem Decimal_eq {F : Nat} (hF : 9223372036854775900 ≤ F) {x : Nat} (h : x ≤ 9223372036854775807) : ref3_Decimal F (x : Int) = some (Lib.decDigits x) := by
  unfold ref3_Decimal
  by_cases h0 : x = 0
  · subst h0; rw [Lib.decDigits_one (by omega)]; rfl
  · have hb : ((x : Int) == 0) = false := by simp; omega
    have hl := (decDigits_short 18 x (by omega)).1
    rw [hb, cond_false, Decimal_L0 F x (by omega) h F (x : Int) [] (by omega) (by omega) (by simp; omega), call_some, List.append_nil, decide_eq_false (by omega), cond_false]
theorem itoa_nat (x : Nat) : Lib.itoa (x : Int) = Lib.decDigits x := by unfold Lib.itoa; rw [if_neg (by omega)]; rfl

/-! ## The check -/
theorem check_L0 (F : Nat) (s : List UInt8) (hd : s.all dgt = true) (hs : s.length ≤ 1000) : ∀ (m i n a : Nat), i + m = s.length → m < n →
    vary_check_L0 F s n ((a % 97 : Nat) : Int) (i : Int) = some ((val a (s.drop i) % 97 : Nat) : Int) := by
  intro m
  induction m with
  | zero =>
    intro i n a hi hn
    obtain ⟨n, rfl⟩ : ∃ q, n = q + 1 := ⟨n - 1, by omega⟩
    obtain rfl : i = s.length := by omega
    rw [vary_check_L0, dec_end, cond_false, List.drop_length, val_nil]
  | succ m ih =>
    intro i n a hi hn
    obtain ⟨n, rfl⟩ : ∃ q, n = q + 1 := ⟨n - 1, by omega⟩
    have hlt : i < s.length := by omega
    have hc : dgt (s.getD i 0) = true := by
      rw [List.getD_eq_getElem?_getD, List.getElem?_eq_getElem hlt]
      exact List.all_eq_true.1 hd _ (List.getElem_mem _)
    rw [vary_check_L0, dec_lt hlt, cond_true, chk_in hlt, nat_toNat, wrap_succ (by omega), getD_head hlt]
    generalize s.getD i 0 = c at *
    have hc := dgt_iff.1 hc
    have hr : a % 97 < 97 := Nat.mod_lt _ (by omega)
    have e : IntKind.i64.wrap ((IntKind.i64.wrap (((a % 97 : Nat) : Int) * (10 : Int))) + (IntKind.i64.wrap (IntKind.u8.wrap ((c.toNat : Int) - (48 : Int))))) = ((a % 97 * 10 + (c.toNat - 48) : Nat) : Int) := by
      rw [wrap_u8 (by omega), wrap_id (x := (c.toNat : Int) - 48) (by omega), wrap_id (x := ((a % 97 : Nat) : Int) * 10) (by omega), wrap_id (by omega)]; omega
    have e2 : ((a % 97 * 10 + (c.toNat - 48) : Nat) : Int).tmod 97 = (((a * 10 + (c.toNat - 48)) % 97 : Nat) : Int) := by
      rw [Int.tmod_eq_emod_of_nonneg (by omega)]; omega
    rw [lett_eq, e, e2, ih (i + 1) n (a * 10 + (c.toNat - 48)) (by omega) (by omega), val_cons]

theorem check_eq {F : Nat} {s : List UInt8} (hd : s.all dgt = true) (hs : s.length ≤ 1000) (hF : 2000 ≤ F) : vary_check F s = some ((98 - val 0 s % 97 * 100 % 97 : Nat) : Int) := by
  unfold vary_check
  have h : vary_check_L0 F s F 0 0 = some ((val 0 (s.drop 0) % 97 : Nat) : Int) := check_L0 F s hd hs s.length 0 F 0 (by omega) (by omega)
  rw [h, call_some, List.drop_zero]
  have hr : val 0 s % 97 < 97 := Nat.mod_lt _ (by omega)
  generalize val 0 s % 97 = r at *
  rw [wrap_id (x := (r : Int) * 100) (by omega), Int.tmod_eq_emod_of_nonneg (by omega), wrap_id (by omega)]
  congr 1; omega

theorem rdigit (F : Nat) (c : UInt8) : ref3_digit F (c.toNat : Int) = some (dgt c) := by
  unfold ref3_digit
  have e1 : decide ((c.toNat : Int) ≥ 48) = decide (48 ≤ c.toNat) := by rw [decide_eq_decide]; omega
  have e2 : decide ((c.toNat : Int) ≤ 57) = decide (c.toNat ≤ 57) := by rw [decide_eq_decide]; omega
  rw [e1, e2]
  unfold dgt
  cases decide (48 ≤ c.toNat) <;> rfl

theorem whole_L0 (F : Nat) (s : List UInt8) (hd : s.all dgt = true) (hs : s.length ≤ 1000) : ∀ (m i n a : Nat), i + m = s.length → m < n → val a (s.drop i) ≤ 1099511627776 →
    ref3_whole_L0 F s n (a : Int) (i : Int) = some (.go ((val a (s.drop i) : Nat) : Int)) := by
  intro m
  induction m with
  | zero =>
    intro i n a hi hn _
    obtain ⟨n, rfl⟩ : ∃ q, n = q + 1 := ⟨n - 1, by omega⟩
    obtain rfl : i = s.length := by omega
    rw [ref3_whole_L0, dec_end, cond_false, List.drop_length, val_nil]
  | succ m ih =>
    intro i n a hi hn hv
    obtain ⟨n, rfl⟩ : ∃ q, n = q + 1 := ⟨n - 1, by omega⟩
    have hlt : i < s.length := by omega
    have hc : dgt (s.getD i 0) = true := by
      rw [List.getD_eq_getElem?_getD, List.getElem?_eq_getElem hlt]
      exact List.all_eq_true.1 hd _ (List.getElem_mem _)
    rw [getD_head hlt] at hv ⊢
    rw [ref3_whole_L0, dec_lt hlt, cond_true, chk_in hlt, nat_toNat, wrap_succ (by omega), rdigit, call_some, chk_in hlt]
    generalize s.getD i 0 = c at *
    rw [hc]
    have hc := dgt_iff.1 hc
    rw [val_cons] at hv
    have hle := val_le (s.drop (i + 1)) (a * 10 + (c.toNat - 48))
    have e : IntKind.i64.wrap (IntKind.i64.wrap ((IntKind.i64.wrap ((a : Int) * (10 : Int))) + (IntKind.i64.wrap (c.toNat : Int))) - 48) = ((a * 10 + (c.toNat - 48) : Nat) : Int) := by
      rw [wrap_id (x := (c.toNat : Int)) (by omega), wrap_id (x := (a : Int) * 10) (by omega), wrap_id (x := (a : Int) * 10 + _) (by omega), wrap_id (by omega)]; omega
    rw [Bool.not_true, cond_false, lett_eq, e, lett_eq, if_neg (by omega), ih (i + 1) n _ (by omega) (by omega) hv, val_cons]
theorem whole_eq {F : Nat} {s : List UInt8} (hd : s.all dgt = true) (hs : s.length ≤ 12) (hn : s ≠ []) (hF : 2000 ≤ F) : ref3_whole F s = some ((val 0 s : Nat) : Int) := by
  unfold ref3_whole
  have hv := val_max hd hs
  have h : ref3_whole_L0 F s F 0 0 = some (.go ((val 0 (s.drop 0) : Nat) : Int)) := whole_L0 F s hd (by omega) s.length 0 F 0 (by omega) (by omega) (by rw [List.drop_zero]; exact Nat.le_trans (Nat.le_of_lt hv) (by decide))
  rw [show (s == []) = false by simpa using hn, cond_false, h]; rfl

theorem Digits_L0 (F : Nat) (s : List UInt8) (hs : s.length ≤ 14) : ∀ (m i n a : Nat), i + m = s.length → m < n → a < 10 ^ i →
    ref3_Digits_L0 F s n (a : Int) (i : Int) = some (if (s.drop i).all dgt then .go ((val a (s.drop i) : Nat) : Int) else .esc (-1)) := by
  intro m
  induction m with
  | zero =>
    intro i n a hi hn _
    obtain ⟨n, rfl⟩ : ∃ q, n = q + 1 := ⟨n - 1, by omega⟩
    obtain rfl : i = s.length := by omega
    rw [ref3_Digits_L0, dec_end, cond_false, List.drop_length, val_nil]; rfl
  | succ m ih =>
    intro i n a hi hn ha
    obtain ⟨n, rfl⟩ : ∃ q, n = q + 1 := ⟨n - 1, by omega⟩
    have hlt : i < s.length := by omega
    have hp : 10 ^ i ≤ 10 ^ 13 := Nat.pow_le_pow_right (by omega) (by omega)
    have h13 : 10 ^ 13 = 10000000000000 := rfl
    rw [getD_head hlt]
    rw [ref3_Digits_L0, dec_lt hlt, cond_true, chk_in hlt, nat_toNat, wrap_succ (by omega), rdigit, call_some, chk_in hlt]
    generalize s.getD i 0 = c at *
    cases hc : dgt c
    · rw [List.all_cons, hc]; rfl
    · have hc2 := dgt_iff.1 hc
      have e : IntKind.i64.wrap (IntKind.i64.wrap ((IntKind.i64.wrap ((a : Int) * (10 : Int))) + (IntKind.i64.wrap (c.toNat : Int))) - 48) = ((a * 10 + (c.toNat - 48) : Nat) : Int) := by
        rw [wrap_id (x := (c.toNat : Int)) (by omega), wrap_id (x := (a : Int) * 10) (by omega), wrap_id (x := (a : Int) * 10 + _) (by omega), wrap_id (by omega)]; omega
      rw [Bool.not_true, cond_false, lett_eq, e, ih (i + 1) n _ (by omega) (by omega) (by rw [Nat.pow_succ]; omega), List.all_cons, hc, val_cons]
      rfl
theorem Digits_eq {F : Nat} {s : List UInt8} (hs : s.length ≤ 14) (hF : 2000 ≤ F) : ref3_Digits F s = some (if s.all dgt then ((val 0 s : Nat) : Int) else -1) := by
  unfold ref3_Digits
  have h : ref3_Digits_L0 F s F 0 0 = some (if (s.drop 0).all dgt then .go ((val 0 (s.drop 0) : Nat) : Int) else .esc (-1)) := Digits_L0 F s hs s.length 0 F 0 (by omega) (by omega) (by omega)
  rw [h, List.drop_zero]
  cases s.all dgt <;> rfl

/-! ## The number with its check -/
def two (c : Nat) : List UInt8 := List.replicate (2 - (Lib.decDigits c).length) 48 ++ Lib.decDigits c
def pad (w u : Nat) : List UInt8 := List.replicate (w - (Lib.decDigits u).length) 48 ++ Lib.decDigits u
theorem pad_len {w u : Nat} (h : (Lib.decDigits u).length ≤ w) : (pad w u).length = w := by simp [pad]; omega
theorem pad_all (w u : Nat) : (pad w u).all dgt = true := all_pad (decDigits_val u).1
theorem pad_val (w u : Nat) : val 0 (pad w u) = u := by unfold pad; rw [val_pad]; exact (decDigits_val u).2
/-- What a number is given as. -/
def numb (u w : Nat) : List UInt8 × Int :=
  if w < (Lib.decDigits u).length then ([], 19) else (pad w u ++ two (98 - u % 97 * 100 % 97), 0)

theorem Number_eq {F : Nat} (hF : 2000 ≤ F) {u w : Nat} (hu : u ≤ 9223372036854775807) (h1 : 1 ≤ w) (h2 : w ≤ 12) : vary_Number F (u : Int) (w : Int) = some (numb u w) := by
  unfold vary_Number numb
  rw [lett_eq, decide_eq_false (show ¬ (w : Int) < 1 by omega), decide_eq_false (show ¬ (w : Int) > 12 by omega), decide_eq_false (show ¬ (u : Int) < 0 by omega)]
  simp only [cond_false]
  rw [chk_pos ⟨by omega, by omega⟩, itoa_nat]
  by_cases h : w < (Lib.decDigits u).length
  · rw [if_pos h, decide_eq_true (by omega), cond_true]
  · rw [if_neg h, decide_eq_false (by omega), cond_false]
    have hw1 : (IntKind.i64.wrap ((w : Int) - ((Lib.decDigits u).length : Int))) = ((w - (Lib.decDigits u).length : Nat) : Int) := by rw [wrap_id (by omega)]; omega
    have hpl := pad_len (u := u) (w := w) (by omega)
    rw [hw1, nat_toNat, chk_pos ⟨by omega, by omega, by simp; omega⟩, repeatL_48, chk_pos (by simp; omega), lett_eq]
    change call (vary_check F (pad w u)) _ = _
    rw [check_eq (pad_all w u) (by omega) hF, call_some, pad_val]
    have hr : u % 97 * 100 % 97 < 97 := Nat.mod_lt _ (by omega)
    have hcb : 98 - u % 97 * 100 % 97 ≤ 98 := by omega
    generalize 98 - u % 97 * 100 % 97 = c at *
    have hcl := decDigits_short 1 c (by omega)
    have hw2 : (IntKind.i64.wrap ((2 : Int) - ((Lib.decDigits c).length : Int))) = ((2 - (Lib.decDigits c).length : Nat) : Int) := by rw [wrap_id (by omega)]; omega
    rw [chk_pos ⟨by omega, by omega⟩, itoa_nat, hw2, nat_toNat, chk_pos ⟨by omega, by omega, by simp; omega⟩, repeatL_48]
    rw [chk_pos (by simp; omega), lett_eq, chk_pos (by simp; omega), List.append_assoc]
    rfl

theorem Numbered_L0 (F : Nat) (w : Nat) (hw : w ≤ 12) : ∀ (m n : Nat) (v : List UInt8), w - v.length = m → m < n → v.length ≤ 100 →
    ref3_Numbered_L0 F (w : Int) n v = some (List.replicate m 48 ++ v) := by
  intro m
  induction m with
  | zero =>
    intro n v hi hn _
    obtain ⟨n, rfl⟩ : ∃ q, n = q + 1 := ⟨n - 1, by omega⟩
    rw [ref3_Numbered_L0, decide_eq_false (by omega)]; rfl
  | succ m ih =>
    intro n v hi hn hv
    obtain ⟨n, rfl⟩ : ∃ q, n = q + 1 := ⟨n - 1, by omega⟩
    rw [ref3_Numbered_L0, decide_eq_true (by omega), cond_true, chk_pos (by simp; omega), ih n _ (by simp; omega) (by omega) (by simp; omega), List.replicate_succ', List.append_assoc]

/-- The check digits fit at one number alone. -/
theorem fits (W : Nat) {v : Nat} (h1 : 2 ≤ v) (h2 : v ≤ 98) : ((IntKind.i64.wrap ((((W : Nat) : Int).tmod (97 : Int)) * (100 : Int))).tmod (97 : Int) == (IntKind.i64.wrap ((98 : Int) - ((v : Int).tmod (97 : Int)))).tmod (97 : Int)) = decide (v = 98 - W % 97 * 100 % 97) := by
  rw [Int.tmod_eq_emod_of_nonneg (a := (W : Int)) (by omega)]
  have hr : W % 97 < 97 := Nat.mod_lt _ (by omega)
  rw [show ((W : Int) % 97) = ((W % 97 : Nat) : Int) by omega]
  generalize W % 97 = r at *
  rw [wrap_id (x := (r : Int) * 100) (by omega), Int.tmod_eq_emod_of_nonneg (a := (v : Int)) (by omega), wrap_id (by omega), Int.tmod_eq_emod_of_nonneg (by omega), Int.tmod_eq_emod_of_nonneg (by omega), Bool.eq_iff_iff, beq_iff_eq, decide_eq_true_eq]
  omega

theorem two_eq {F : Nat} (hF : 9223372036854775900 ≤ F) {v : Nat} (h2 : v ≤ 98) : (call (ref3_Decimal F (v : Int)) fun y1 =>
      bif (decide ((v : Int) < (10 : Int))) then
          chk (([48] : List UInt8).length + y1.length ≤ 9223372036854775807) <|
          some (([48] : List UInt8) ++ y1)
        else
          some y1) = some (two v) := by
  rw [Decimal_eq hF (by omega), call_some]
  unfold two
  by_cases h : v < 10
  · rw [decide_eq_true (by omega), cond_true, Lib.decDigits_one h]; rfl
  · rw [decide_eq_false (by omega), cond_false, Lib.decDigits_two h (by omega)]; rfl

theorem call_assoc {α β γ : Type} {x : Option α} {f : α → Option β} {g : β → Option γ} : (call x fun y => call (f y) g) = call (call x f) g := by cases x <;> rfl

theorem Numbered_L2 {F : Nat} (hF : 9223372036854775900 ≤ F) (s : List UInt8) (hd : s.all dgt = true) (hs : s.length ≤ 12) (hn : s ≠ []) : ∀ (m n v : Nat), v + m = 98 - val 0 s % 97 * 100 % 97 → 2 ≤ v → m < n →
    ref3_Numbered_L2 F s n (v : Int) = some (.esc (s ++ two (98 - val 0 s % 97 * 100 % 97), 0)) := by
  intro m
  have hr : val 0 s % 97 * 100 % 97 < 97 := Nat.mod_lt _ (by omega)
  induction m with
  | zero =>
    intro n v hi hv hn2
    obtain ⟨n, rfl⟩ : ∃ q, n = q + 1 := ⟨n - 1, by omega⟩
    have hl : (two v).length ≤ 1000 := by have := (decDigits_short 1 v (by omega)).1; unfold two; simp; omega
    rw [ref3_Numbered_L2, decide_eq_true (by omega), cond_true, call_assoc, two_eq hF (by omega), call_some, whole_eq hd hs hn (by omega), call_some, lett_eq, fits _ hv (by omega), decide_eq_true (by omega), cond_true, chk_pos (by omega)]
    rw [show v = 98 - val 0 s % 97 * 100 % 97 by omega]
  | succ m ih =>
    intro n v hi hv hn2
    obtain ⟨n, rfl⟩ : ∃ q, n = q + 1 := ⟨n - 1, by omega⟩
    rw [ref3_Numbered_L2, decide_eq_true (by omega), cond_true, call_assoc, two_eq hF (by omega), call_some, whole_eq hd hs hn (by omega), call_some, lett_eq, fits _ hv (by omega), decide_eq_false (by omega), cond_false, wrap_succ (by omega)]
    exact ih n (v + 1) (by omega) (by omega) (by omega)

theorem Numbered_eq {F : Nat} (hF : 9223372036854775900 ≤ F) {u w : Nat} (hu : u ≤ 9223372036854775807) (h1 : 1 ≤ w) (h2 : w ≤ 12) : ref3_Numbered F (u : Int) (w : Int) = some (numb u w) := by
  unfold ref3_Numbered numb
  rw [lett_eq, decide_eq_false (show ¬ (w : Int) < 1 by omega), decide_eq_false (show ¬ (w : Int) > 12 by omega), decide_eq_false (show ¬ (u : Int) < 0 by omega)]
  simp only [cond_false]
  rw [Decimal_eq hF hu, call_some]
  by_cases h : w < (Lib.decDigits u).length
  · rw [if_pos h, decide_eq_true (by omega), cond_true]
  · rw [if_neg h, decide_eq_false (by omega), cond_false]
    have hpl := pad_len (u := u) (w := w) (by omega)
    rw [Numbered_L0 F w h2 (w - (Lib.decDigits u).length) F (Lib.decDigits u) rfl (by omega) (by omega), call_some]
    change callE (ref3_Numbered_L2 F (pad w u) F 2) _ _ = _
    have hr : u % 97 * 100 % 97 < 97 := Nat.mod_lt _ (by omega)
    have := Numbered_L2 hF (pad w u) (pad_all w u) (by omega) (by intro h; rw [h] at hpl; simp at hpl; omega) (98 - u % 97 * 100 % 97 - 2) F 2 (by rw [pad_val]; omega) (by omega) (by omega)
    rw [pad_val] at this
    rw [show (2 : Int) = ((2 : Nat) : Int) from rfl, this]
    rfl

/-- Both, whatever the input. -/
theorem both {F : Nat} (hF : 9223372036854775900 ≤ F) {x y : Int} (hx : x ≤ 9223372036854775807) : ∃ r, vary_Number F x y = some r ∧ ref3_Numbered F x y = some r := by
  by_cases h : y < 1 ∨ 12 < y ∨ x < 0
  · refine ⟨([], 3), ?_, ?_⟩
    · unfold vary_Number
      have : (bif (bif (decide (y < (1 : Int))) then true else (decide (y > (12 : Int)))) then true else (decide (x < (0 : Int)))) = true := by
        rcases h with h | h | h <;> simp [h]
      rw [lett_eq, this, cond_true]
    · unfold ref3_Numbered
      have : (bif (bif (decide (y < (1 : Int))) then true else (decide (y > (12 : Int)))) then true else (decide (x < (0 : Int)))) = true := by
        rcases h with h | h | h <;> simp [h]
      rw [lett_eq, this, cond_true]
  · obtain ⟨u, rfl⟩ : ∃ u : Nat, x = u := ⟨x.toNat, by omega⟩
    obtain ⟨w, rfl⟩ : ∃ w : Nat, y = w := ⟨y.toNat, by omega⟩
    exact ⟨numb u w, Number_eq (by omega) (by omega) (by omega) (by omega), Numbered_eq hF (by omega) (by omega) (by omega)⟩
end Go.Vm.VarG
