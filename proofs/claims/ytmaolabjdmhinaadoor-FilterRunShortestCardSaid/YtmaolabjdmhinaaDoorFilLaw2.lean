/-
  filter, plain law 2: Hex and Hexed; the law of Sum; Join.
-/
import Derived.Test.YtmaolabjdmhinaaDoorFilLaw1
namespace Go.Vm.FilG

def hexT : List UInt8 := [48, 49, 50, 51, 52, 53, 54, 55, 56, 57, 97, 98, 99, 100, 101, 102]
def hexd (m : Nat) : UInt8 := hexT.getD m 0
def dig (b : B32) (k : Nat) : Nat := (b >>> k).toNat % 16
theorem dig_lt (b : B32) (k : Nat) : dig b k < 16 := Nat.mod_lt _ (by decide)

theorem and15_mod (z : B32) : (z &&& 15#32).toNat = z.toNat % 16 := by
  rw [BitVec.toNat_and, show (15#32).toNat = 2 ^ 4 - 1 from rfl, Nat.and_two_pow_sub_one_eq_mod]

theorem Hex_step {F n : Nat} (b : B32) (v : List UInt8) (hv : v.length = 8) (i : Nat) (hi : i < 8) : filter_Hex_L0 F (nI b) (n + 1) v (i : Int) = filter_Hex_L0 F (nI b) n (v.set i (hexd (dig b (28 - 4 * i)))) ((i + 1 : Nat) : Int) := by
  have h15 : (15 : Int) = nI 15#32 := by decide
  have hw : IntKind.i64.wrap ((28 : Int) - (IntKind.i64.wrap ((4 : Int) * (i : Int)))) = ((28 - 4 * i : Nat) : Int) := by
    rw [wrap_id (x := 4 * (i : Int)) (by omega), wrap_id (by omega)]
    omega
  have hdec : decide ((i : Int) < 8) = true := by simp; omega
  have hz : nI (b >>> (28 - 4 * i) &&& 15#32) = ((dig b (28 - 4 * i) : Nat) : Int) := by
    unfold nI dig
    rw [and15_mod]
  have hlt := dig_lt b (28 - 4 * i)
  rw [filter_Hex_L0, hdec, cond_true, hw, chk_pos (by omega), lett_eq, nI_shr _ _ (by omega), h15, nI_and, lett_eq, hz]
  have hh : ([48, 49, 50, 51, 52, 53, 54, 55, 56, 57, 97, 98, 99, 100, 101, 102] : List UInt8).getD (((dig b (28 - 4 * i) : Nat) : Int)).toNat 0 = hexd (dig b (28 - 4 * i)) := rfl
  rw [chk_pos ⟨by omega, by simp; omega⟩, lett_eq, hh]
  have hu : (0 : Int) ≤ ((hexd (dig b (28 - 4 * i))).toNat : Int) ∧ ((hexd (dig b (28 - 4 * i))).toNat : Int) < 256 := ⟨by omega, by have := (hexd (dig b (28 - 4 * i))).toNat_lt; omega⟩
  rw [chk_pos ⟨⟨by omega, by omega⟩, by omega⟩]
  rw [chk_pos hu, wrap_succ (by omega)]
  congr 1
  rw [Int.toNat_natCast]
  congr 1
  show UInt8.ofNat (hexd (dig b (28 - 4 * i))).toNat = _
  simp

theorem Hex_eq {F : Nat} (hF : 8 < F) (b : B32) : filter_Hex F (nI b) = some [hexd (dig b 28), hexd (dig b 24), hexd (dig b 20), hexd (dig b 16), hexd (dig b 12), hexd (dig b 8), hexd (dig b 4), hexd (dig b 0)] := by
  obtain ⟨n, rfl⟩ : ∃ n, F = n + 9 := ⟨F - 9, by omega⟩
  unfold filter_Hex
  have h : filter_Hex_L0 (n + 9) (nI b) (n + 9) (List.replicate 8 0) 0 = some [hexd (dig b 28), hexd (dig b 24), hexd (dig b 20), hexd (dig b 16), hexd (dig b 12), hexd (dig b 8), hexd (dig b 4), hexd (dig b 0)] := by
    rw [show (0 : Int) = ((0 : Nat) : Int) from rfl]
    rw [Hex_step b _ (by simp) 0 (by decide), Hex_step b _ (by simp) 1 (by decide), Hex_step b _ (by simp) 2 (by decide), Hex_step b _ (by simp) 3 (by decide), Hex_step b _ (by simp) 4 (by decide), Hex_step b _ (by simp) 5 (by decide), Hex_step b _ (by simp) 6 (by decide), Hex_step b _ (by simp) 7 (by decide)]
    rw [filter_Hex_L0]
    rfl
  rw [h, call_some, chk_pos ⟨by decide, rfl⟩]
  rfl

theorem hex_cut : ∀ m : Fin 16, (hexT.drop m.val).take (m.val + 1 - m.val) = [hexd m.val] := by decide

theorem Hexed_step {F n : Nat} (c : B32) (acc : List UInt8) (hacc : acc.length ≤ 8) (i : Nat) (hi : i < 8) : ref3_Hexed_L0 F (n + 1) (nI c) acc (i : Int) = ref3_Hexed_L0 F n (nI (c >>> 4)) (hexd (dig c 0) :: acc) ((i + 1 : Nat) : Int) := by
  have hdec : decide ((i : Int) < 8) = true := by simp; omega
  have hm : (nI c).tmod 16 = ((dig c 0 : Nat) : Int) := by
    unfold nI dig
    rw [Int.tmod_eq_emod_of_nonneg (by omega), BitVec.ushiftRight_zero]
    omega
  have hd : (nI c).tdiv 16 = nI (c >>> 4) := by
    unfold nI
    rw [BitVec.toNat_ushiftRight, Nat.shiftRight_eq_div_pow, Int.tdiv_eq_ediv_of_nonneg (by omega)]
    omega
  have hlt := dig_lt c 0
  have hw : IntKind.u32.wrap ((dig c 0 : Nat) + (1 : Int)) = ((dig c 0 + 1 : Nat) : Int) := by
    rw [wrap_u32 (by omega)]
    omega
  have hc := hex_cut ⟨dig c 0, hlt⟩
  simp only at hc
  rw [ref3_Hexed_L0, hdec, cond_true, hm, hd, hw, chk_pos ⟨by omega, by omega, by simp; omega⟩, lett_eq, Int.toNat_natCast, Int.toNat_natCast]
  rw [show ([48, 49, 50, 51, 52, 53, 54, 55, 56, 57, 97, 98, 99, 100, 101, 102] : List UInt8) = hexT from rfl, hc]
  rw [chk_pos (by simp; omega), wrap_u32 (nI_lt _), wrap_succ (by omega)]
  rfl

theorem dig_shr (b : B32) (j k : Nat) : dig (b >>> j) k = dig b (j + k) := by
  unfold dig
  rw [← BitVec.shiftRight_add]

theorem Hexed_eq {F : Nat} (hF : 8 < F) (b : B32) : ref3_Hexed F (nI b) = some [hexd (dig b 28), hexd (dig b 24), hexd (dig b 20), hexd (dig b 16), hexd (dig b 12), hexd (dig b 8), hexd (dig b 4), hexd (dig b 0)] := by
  obtain ⟨n, rfl⟩ : ∃ n, F = n + 9 := ⟨F - 9, by omega⟩
  unfold ref3_Hexed
  have h : ref3_Hexed_L0 (n + 9) (n + 9) (nI b) [] 0 = some [hexd (dig b 28), hexd (dig b 24), hexd (dig b 20), hexd (dig b 16), hexd (dig b 12), hexd (dig b 8), hexd (dig b 4), hexd (dig b 0)] := by
    rw [show (0 : Int) = ((0 : Nat) : Int) from rfl]
    rw [Hexed_step _ _ (by simp) 0 (by decide), Hexed_step _ _ (by simp) 1 (by decide), Hexed_step _ _ (by simp) 2 (by decide), Hexed_step _ _ (by simp) 3 (by decide), Hexed_step _ _ (by simp) 4 (by decide), Hexed_step _ _ (by simp) 5 (by decide), Hexed_step _ _ (by simp) 6 (by decide), Hexed_step _ _ (by simp) 7 (by decide)]
    rw [ref3_Hexed_L0]
    simp only [dig_shr]
    rfl
  rw [h, call_some]

set_option maxRecDepth 100000 in
theorem fact_eq (n : Nat) : law3_filterFact (n + 40) = some true := by rfl

theorem filterSum_law {F : Nat} (l : List UInt8) (hl : l.length ≤ 9223372036854775807) (hF : l.length + 40 ≤ F) : law3_FilterSumMatchesReference F l = some true := by
  have hf : law3_filterFact F = some true := by
    obtain ⟨n, rfl⟩ : ∃ n, F = n + 40 := ⟨F - 40, by omega⟩
    exact fact_eq n
  unfold law3_FilterSumMatchesReference
  rw [hf, call_some, Check32_eq l hl (by omega) (by omega), Sum_eq l hl (by omega)]
  simp [call_some, Hex_eq (F := F) (by omega), Hexed_eq (F := F) (by omega)]

/-- The polynomial 1. -/
def one : B32 := 0x80000000#32
/-- The sum of the steps of b at the bits of a. -/
def pr (a b : B32) : Nat → B32
  | 0 => 0#32
  | k + 1 => pr a b k ^^^ (if a.getLsbD (31 - k) then itr k b else 0#32)
theorem itr_pr (a b : B32) (m : Nat) : ∀ k : Nat, itr m (pr a b k) = pr a (itr m b) k
  | 0 => itr_zero m
  | k + 1 => by
    rw [pr, pr, itr_xor, itr_pr a b m k]
    congr 1
    cases a.getLsbD (31 - k)
    · exact itr_zero m
    · show itr m (itr k b) = itr k (itr m b)
      rw [← itr_add, ← itr_add, Nat.add_comm]
theorem itr_one : ∀ k : Fin 32, itr k.val one = 1#32 <<< (31 - k.val) := by decide
/-- A word is the sum of its bits. -/
theorem pr_one (a : B32) : ∀ k : Nat, k ≤ 32 → ∀ i : Nat, (pr a one k).getLsbD i = (a.getLsbD i && decide (32 - k ≤ i))
  | 0, _, i => by
    rw [pr, BitVec.getLsbD_zero]
    by_cases h : i < 32
    · have : ¬ (32 - 0 ≤ i) := by omega
      simp [this]
    · rw [BitVec.getLsbD_of_ge _ _ (by omega)]
      rfl
  | k + 1, hk, i => by
    rw [pr, BitVec.getLsbD_xor, pr_one a k (by omega) i]
    have ho : itr k one = 1#32 <<< (31 - k) := itr_one ⟨k, by omega⟩
    by_cases hi : i = 31 - k
    · subst hi
      have h1 : ¬ (32 - k ≤ 31 - k) := by omega
      have h2 : 32 - (k + 1) ≤ 31 - k := by omega
      have h3 : (1#32 <<< (31 - k)).getLsbD (31 - k) = true := by
        rw [BitVec.getLsbD_shiftLeft]
        simp
        omega
      rw [decide_eq_false h1, decide_eq_true h2, Bool.and_false, Bool.and_true, Bool.false_xor, ho]
      cases a.getLsbD (31 - k)
      · simp
      · simp [h3]
    · have h3 : (1#32 <<< (31 - k)).getLsbD i = false := by
        rw [BitVec.getLsbD_shiftLeft]
        by_cases hlt : i < 31 - k
        · simp [hlt]
        · have : ∀ j : Fin 32, j.val ≠ 0 → (1#32).getLsbD j.val = false := by decide
          by_cases h32 : i < 32
          · have := this ⟨i - (31 - k), by omega⟩ (by simp only; omega)
            simp only at this
            simp [this]
          · simp; omega
      have h4 : decide (32 - (k + 1) ≤ i) = decide (32 - k ≤ i) := by
        rw [Bool.eq_iff_iff, decide_eq_true_eq, decide_eq_true_eq]
        omega
      rw [h4, ho]
      cases a.getLsbD (31 - k)
      · simp
      · simp [h3]
theorem pr_id (a : B32) : pr a one 32 = a := by
  apply BitVec.eq_of_getLsbD_eq
  intro i hi
  rw [pr_one a 32 (by decide) i]
  simp
theorem pr_itr (a : B32) (m : Nat) : pr a (itr m one) 32 = itr m a := by rw [← itr_pr, pr_id]

theorem and_bit (a : B32) (j : Nat) (hj : j < 32) : (nI (a &&& (1#32 <<< j)) != 0) = a.getLsbD j := by
  rw [show (0 : Int) = nI 0#32 from rfl, bne, nI_beq, Bool.eq_iff_iff, Bool.not_eq_true', beq_eq_false_iff_ne]
  have key : ∀ i : Nat, (a &&& (1#32 <<< j)).getLsbD i = (decide (i = j) && a.getLsbD j) := by
    intro i
    rw [BitVec.getLsbD_and, BitVec.getLsbD_shiftLeft]
    by_cases hi : i = j
    · subst hi
      simp [hj]
    · by_cases hlt : i < j
      · simp [hi, hlt]
      · have h1 : ∀ q : Fin 32, q.val ≠ 0 → (1#32).getLsbD q.val = false := by decide
        by_cases h32 : i < 32
        · have := h1 ⟨i - j, by omega⟩ (by simp only; omega)
          simp only at this
          simp [hi, this]
        · simp [hi]
          intro _ h
          exact absurd h h32
  constructor
  · intro h
    cases hb : a.getLsbD j with
    | true => rfl
    | false =>
      refine absurd ?_ h
      apply BitVec.eq_of_getLsbD_eq
      intro i hi
      rw [key, hb]
      simp
  · intro h h0
    have := key j
    rw [h0, h] at this
    simp at this

theorem neg_and (x : B32) : nI ((x >>> 1) ^^^ ((if x.getLsbD 0 then 0xffffffff#32 else 0#32) &&& poly)) = nI (S1 x) := by
  unfold S1
  cases x.getLsbD 0
  · simp
  · simp only [if_true]
    congr 2

theorem product_step {F n : Nat} (a b p : B32) (k : Nat) (hk : k < 32) : filter_product_L0 F (nI a) (n + 1) (nI (itr k b)) (nI p) (nI (1#32 <<< (31 - k))) = filter_product_L0 F (nI a) n (nI (itr (k + 1) b)) (nI (p ^^^ (if a.getLsbD (31 - k) then itr k b else 0#32))) (nI ((1#32 <<< (31 - k)) >>> 1)) := by
  have hne : (nI (1#32 <<< (31 - k)) != 0) = true := by
    have : ∀ k : Fin 32, (nI (1#32 <<< (31 - k.val)) != 0) = true := by decide
    exact this ⟨k, hk⟩
  have h1 : (1 : Int) = nI 1#32 := by decide
  have hp : (3988292384 : Int) = nI poly := by decide
  have hneg : IntKind.u32.wrap (0 - nI (itr k b &&& 1#32)) = nI (if (itr k b).getLsbD 0 then 0xffffffff#32 else 0#32) := by
    have h2 : itr k b &&& 1#32 = if (itr k b).getLsbD 0 then 1#32 else 0#32 := by
      apply BitVec.eq_of_toNat_eq
      rw [BitVec.toNat_and, show (1#32).toNat = 2 ^ 1 - 1 from rfl, Nat.and_two_pow_sub_one_eq_mod, BitVec.getLsbD, Nat.testBit_zero]
      by_cases h : (itr k b).toNat % 2 = 1
      · simp [h]
      · have : (itr k b).toNat % 2 = 0 := by omega
        simp [this]
    rw [h2]
    cases (itr k b).getLsbD 0 <;> decide
  have hs : itr (k + 1) b = S1 (itr k b) := by
    rw [itr_add]
    rfl
  rw [filter_product_L0, hne, cond_true, nI_and, lett_eq, and_bit _ _ (by omega)]
  have hcase : (bif a.getLsbD (31 - k) then
          lett (IntKind.u32.wrap ((BitVec.ofInt IntKind.u32.bits (nI p) ^^^ BitVec.ofInt IntKind.u32.bits (nI (itr k b))).toNat : Int)) fun z2 =>
          some z2
        else
          some (nI p)) = some (nI (p ^^^ (if a.getLsbD (31 - k) then itr k b else 0#32))) := by
    cases a.getLsbD (31 - k)
    · simp
    · rw [nI_xor]
      rfl
  rw [hcase, call_some]
  have hsh : ∀ x : B32, (nI x).fdiv (2 ^ (min ((1 : Int).toNat) IntKind.u32.bits)) = nI (x >>> 1) := fun x => nI_shr x 1 (by decide)
  rw [hsh, hsh]
  conv => lhs; rw [h1]
  rw [nI_and, lett_eq, hneg, hp, nI_and, lett_eq, nI_xor, neg_and, lett_eq, hs]

theorem product_loop {F : Nat} (a b : B32) : ∀ (m k n : Nat), m + k = 32 → m < n → filter_product_L0 F (nI a) n (nI (itr k b)) (nI (pr a b k)) (nI (if k = 32 then 0#32 else 1#32 <<< (31 - k))) = some (nI (pr a b 32))
  | 0, k, n, hk, hn => by
    obtain ⟨n, rfl⟩ : ∃ q, n = q + 1 := ⟨n - 1, by omega⟩
    obtain rfl : k = 32 := by omega
    rw [filter_product_L0]
    rfl
  | m + 1, k, n, hk, hn => by
    obtain ⟨n, rfl⟩ : ∃ q, n = q + 1 := ⟨n - 1, by omega⟩
    rw [if_neg (by omega), product_step a b _ k (by omega)]
    have hm : (1#32 <<< (31 - k)) >>> 1 = if k + 1 = 32 then 0#32 else 1#32 <<< (31 - (k + 1)) := by
      have : ∀ k : Fin 32, (1#32 <<< (31 - k.val)) >>> 1 = if k.val + 1 = 32 then 0#32 else 1#32 <<< (31 - (k.val + 1)) := by decide
      exact this ⟨k, by omega⟩
    rw [hm]
    exact product_loop a b m (k + 1) n (by omega) (by omega)

theorem product_eq {F : Nat} (hF : 32 < F) (a b : B32) : filter_product F (nI a) (nI b) = some (nI (pr a b 32)) := by
  unfold filter_product
  have h := product_loop (F := F) a b 32 0 F (by omega) hF
  rw [if_neg (by decide)] at h
  have h2 : (2147483648 : Int) = nI (1#32 <<< (31 - 0)) := by decide
  have h0 : (0 : Int) = nI (pr a b 0) := rfl
  rw [h2, h0, show nI b = nI (itr 0 b) from rfl, h, call_some]

theorem i64_and1 (m : Nat) (hm : m < 9223372036854775808) : IntKind.i64.wrap ((BitVec.ofInt IntKind.i64.bits ((m : Nat) : Int) &&& BitVec.ofInt IntKind.i64.bits (1 : Int)).toNat : Int) = ((m % 2 : Nat) : Int) := by
  have h1 : (BitVec.ofInt IntKind.i64.bits ((m : Nat) : Int) &&& BitVec.ofInt IntKind.i64.bits (1 : Int)).toNat = m % 2 := by
    show (BitVec.ofInt 64 ((m : Nat) : Int) &&& BitVec.ofInt 64 ((1 : Nat) : Int)).toNat = _
    rw [BitVec.ofInt_natCast, BitVec.ofInt_natCast, BitVec.toNat_and, BitVec.toNat_ofNat, BitVec.toNat_ofNat, show (1 % 2 ^ 64 : Nat) = 2 ^ 1 - 1 from rfl, Nat.and_two_pow_sub_one_eq_mod, Nat.mod_mod_of_dvd _ (by decide)]
  rw [h1, wrap_id (by omega)]

theorem Join_loop {F : Nat} (hF : 32 < F) : ∀ (n : Nat) (m : Nat) (a : B32) (e : Nat), m < 9223372036854775808 → m < 2 ^ n → filter_Join_L0 F (n + 1) (nI a) ((m : Nat) : Int) (nI (itr e one)) = some (nI (itr (e * m) a))
  | n, 0, a, e, _, _ => by
    rw [filter_Join_L0]
    rfl
  | 0, m + 1, a, e, _, h => by omega
  | n + 1, m + 1, a, e, hm, h => by
    have hdec : decide (((m + 1 : Nat) : Int) > 0) = true := decide_eq_true (by omega)
    have hsh : (((m + 1 : Nat) : Int)).fdiv (2 ^ (min ((1 : Int).toNat) IntKind.i64.bits)) = (((m + 1) / 2 : Nat) : Int) := by
      show (((m + 1 : Nat) : Int)).fdiv (2 ^ 1) = _
      rw [Int.fdiv_eq_ediv_of_nonneg _ (by decide)]
      omega
    have hb : ((((m + 1) % 2 : Nat) : Int) != 0) = decide ((m + 1) % 2 = 1) := by
      rw [Bool.eq_iff_iff, bne_iff_ne, decide_eq_true_eq]
      omega
    rw [filter_Join_L0, hdec, cond_true, i64_and1 _ hm, lett_eq, hb, hsh]
    have hc : (bif decide ((m + 1) % 2 = 1) then call (filter_product F (nI a) (nI (itr e one))) fun y1 => some y1 else some (nI a)) = some (nI (if (m + 1) % 2 = 1 then itr e a else a)) := by
      rw [product_eq hF, pr_itr, call_some]
      by_cases h2 : (m + 1) % 2 = 1
      · simp [h2]
      · simp [h2]
    rw [hc, call_some, product_eq hF, pr_itr, call_some, ← itr_add, Join_loop hF n ((m + 1) / 2) _ (e + e) (by omega) (by rw [Nat.pow_succ] at h; omega)]
    congr 2
    by_cases h2 : (m + 1) % 2 = 1
    · rw [if_pos h2, ← itr_add]
      congr 1
      have h3 : m + 1 = 2 * ((m + 1) / 2) + 1 := by omega
      generalize (m + 1) / 2 = q at h3
      rw [h3, Nat.mul_add, Nat.mul_one, ← Nat.mul_assoc, Nat.mul_two, Nat.add_comm]
    · rw [if_neg h2]
      congr 1
      have h3 : m + 1 = 2 * ((m + 1) / 2) := by omega
      generalize (m + 1) / 2 = q at h3
      rw [h3, ← Nat.mul_assoc, Nat.mul_two]

theorem Join_neg {F : Nat} (a b : B32) (v : Int) (hv : v ≤ 0) (hF : 0 < F) : filter_Join F (nI a) (nI b) v = some (nI (a ^^^ b)) := by
  obtain ⟨n, rfl⟩ : ∃ n, F = n + 1 := ⟨F - 1, by omega⟩
  unfold filter_Join
  rw [filter_Join_L0]
  have : decide (v > 0) = false := by simp; omega
  rw [this, cond_false, call_some, nI_xor]
  rfl
theorem Join_eq {F : Nat} (a b : B32) (m : Nat) (hm : m ≤ 2000) (hF : 40 < F) : filter_Join F (nI a) (nI b) (m : Int) = some (nI (itr (8 * m) a ^^^ b)) := by
  obtain ⟨n, rfl⟩ : ∃ n, F = n + 1 := ⟨F - 1, by omega⟩
  unfold filter_Join
  have h8 : (8388608 : Int) = nI (itr 8 one) := by decide
  have hp : m < 2 ^ n := Nat.lt_of_le_of_lt hm (Nat.lt_of_lt_of_le (by decide : 2000 < 2 ^ 11) (Nat.pow_le_pow_right (by decide) (by omega)))
  rw [h8, Join_loop (F := n + 1) (by omega) n m a 8 (by omega) hp, call_some, nI_xor]
  rfl

theorem Joined_loop {F : Nat} (m : Nat) (hm : m ≤ 2000) : ∀ (j i n : Nat) (a : B32), j + i = 8 * m → j < n → ref3_Joined_L0 F (m : Int) n (nI a) (i : Int) = some (nI (itr j a))
  | 0, i, n, a, h, hn => by
    obtain ⟨n, rfl⟩ : ∃ q, n = q + 1 := ⟨n - 1, by omega⟩
    rw [ref3_Joined_L0, wrap_id (by omega)]
    have : decide ((i : Int) < 8 * (m : Int)) = false := by simp; omega
    rw [this]
    rfl
  | j + 1, i, n, a, h, hn => by
    obtain ⟨n, rfl⟩ : ∃ q, n = q + 1 := ⟨n - 1, by omega⟩
    rw [ref3_Joined_L0, wrap_id (by omega)]
    have : decide ((i : Int) < 8 * (m : Int)) = true := by simp; omega
    rw [this, cond_true, Stepped_eq, call_some, wrap_succ (by omega), Joined_loop m hm j (i + 1) n _ (by omega) (by omega)]
    simp [bitv, itr]

theorem Joined_eq {F : Nat} (a b : B32) (m : Nat) (hm : m ≤ 2000) (hF : 16000 < F) : ref3_Joined F (nI a) (nI b) (m : Int) = some (nI (itr (8 * m) a ^^^ b)) := by
  unfold ref3_Joined
  have h := Joined_loop (F := F) m hm (8 * m) 0 F a (by omega) (by omega)
  simp only [Int.natCast_zero] at h
  rw [h, call_some, nI_xor]
  rfl

set_option maxRecDepth 100000 in
theorem fact2 (n : Nat) : filter_Sum (n + 40) [49, 50, 51, 52, 53] = some 3421846044 := by rfl
set_option maxRecDepth 100000 in
theorem fact3 (n : Nat) : filter_Sum (n + 40) [54, 55, 56, 57] = some 2646261639 := by rfl
set_option maxRecDepth 100000 in
theorem fact4 (n : Nat) : filter_Join (n + 40) 3421846044 2646261639 4 = some 3421780262 := by rfl

theorem filterJoin_law {F : Nat} (a b : B32) (v : Int) (hF : 16040 ≤ F) : law3_FilterJoinMatchesReference F (nI a) (nI b) v = some true := by
  obtain ⟨n, rfl⟩ : ∃ n, F = n + 40 := ⟨F - 40, by omega⟩
  unfold law3_FilterJoinMatchesReference
  rw [fact_eq n, fact2, fact3]
  simp only [call_some, Bool.not_true, BEq.rfl, Bool.and_self, cond_true, fact4, bne_self_eq_false, cond_false]
  have hv : (bif decide (v > 2000) then some (v.tmod 2000) else some v) = some (if v > 2000 then v.tmod 2000 else v) := by
    by_cases h : v > 2000
    · simp [h]
    · simp [h]
  rw [hv, call_some]
  have hle : (if v > 2000 then v.tmod 2000 else v) ≤ 2000 := by
    split
    · have := Int.tmod_lt_of_pos v (b := 2000) (by decide)
      omega
    · omega
  generalize (if v > 2000 then v.tmod 2000 else v) = m at hle
  by_cases hm : m ≤ 0
  · have h0 : (if m < 0 then (0 : Int) else m) = ((0 : Nat) : Int) := by
      split
      · rfl
      · simp only [Int.natCast_zero]; omega
    rw [Join_neg a b m hm (by omega), call_some, h0, Joined_eq a b 0 (by omega) (by omega), call_some]
    simp [itr]
  · obtain ⟨k, rfl⟩ := Int.eq_ofNat_of_zero_le (by omega : 0 ≤ m)
    rw [if_neg (by omega), Join_eq a b k (by omega) (by omega), call_some, Joined_eq a b k (by omega) (by omega), call_some]
    simp

/-- The laws, of what a reading gives. -/
theorem filterSum_total (l : List UInt8) (h : l.length ≤ maxLen) : ∃ F, law3_FilterSumMatchesReference F l = some true := ⟨l.length + 40, filterSum_law l (by unfold maxLen at h; omega) (Nat.le_refl _)⟩
theorem u32_of {n : Int} (h : (Lit.int .u32 n).wf = true) : ∃ b : B32, n = nI b := by
  have h2 : 0 ≤ n ∧ n < 4294967296 := by
    simp [Lit.wf, IntKind.min, IntKind.max, IntKind.bits, IntKind.signed] at h
    omega
  refine ⟨BitVec.ofNat 32 n.toNat, ?_⟩
  unfold nI
  rw [BitVec.toNat_ofNat, Nat.mod_eq_of_lt (by omega)]
  omega
theorem filterJoin_total (a b v : Int) (ha : (Lit.int .u32 a).wf = true) (hb : (Lit.int .u32 b).wf = true) : ∃ F, law3_FilterJoinMatchesReference F a b v = some true := by
  obtain ⟨x, rfl⟩ := u32_of ha
  obtain ⟨y, rfl⟩ := u32_of hb
  exact ⟨16040, filterJoin_law x y v (Nat.le_refl _)⟩
end Go.Vm.FilG
