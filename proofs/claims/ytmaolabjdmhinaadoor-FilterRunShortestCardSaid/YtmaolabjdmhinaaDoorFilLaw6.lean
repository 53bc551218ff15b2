/-
  filter, plain law 6: characters, both ways.
-/
import Derived.Test.YtmaolabjdmhinaaDoorFilLaw5
namespace Go.Vm.FilG

theorem digs_len (v : Nat) : (digs v).length = 5 := rfl
theorem grp_len (g : List UInt8) (h : g.length ≤ 4) : 1 ≤ (grp g).length ∧ (grp g).length ≤ 5 := by
  unfold grp
  split
  · exact ⟨by decide, by decide⟩
  · rw [List.length_take, digs_len]
    omega

theorem getD_chunk {s : List UInt8} {i k : Nat} (hk : k < 4) (hl : i + k < s.length) : s.getD (i + k) 0 = ((s.drop i).take 4).getD k 0 := by
  rw [List.getD_eq_getElem?_getD, List.getD_eq_getElem?_getD, List.getElem?_take, if_pos hk, List.getElem?_drop]

theorem let_step {F n : Nat} (s : List UInt8) (i m v k : Nat) (hs : s.length ≤ 131072) (hm : m = ((s.drop i).take 4).length) (hk : k < 4) (hv : v < 16777216) (hi : i < s.length) : ref3_Lettered_L2 F s (i : Int) (m : Int) (n + 1) (v : Int) (k : Int) = ref3_Lettered_L2 F s (i : Int) (m : Int) n ((v * 256 + b4 ((s.drop i).take 4) k : Nat) : Int) ((k + 1 : Nat) : Int) := by
  have hd : decide ((k : Int) < 4) = true := decide_eq_true (by omega)
  have hb := b4_lt ((s.drop i).take 4) k
  have hml : m = min 4 (s.length - i) := by rw [hm]; simp
  have hw : IntKind.i64.wrap ((v : Int) * 256) = ((v * 256 : Nat) : Int) := by rw [wrap_id (by omega)]; omega
  rw [ref3_Lettered_L2, hd, cond_true, hw, wrap_succ (by omega)]
  by_cases h : k < m
  · have hd1 : decide ((k : Int) < (m : Int)) = true := decide_eq_true (by omega)
    have hw1 : IntKind.i64.wrap ((i : Int) + (k : Int)) = ((i + k : Nat) : Int) := by rw [wrap_id (by omega)]; omega
    have hg : s.getD (i + k) 0 = ((s.drop i).take 4).getD k 0 := getD_chunk hk (by omega)
    have hw2 : IntKind.i64.wrap (((((s.drop i).take 4).getD k 0).toNat : Nat) : Int) = ((b4 ((s.drop i).take 4) k : Nat) : Int) := wrap_id ⟨by omega, by have := b4_lt ((s.drop i).take 4) k; unfold b4 at this; omega⟩
    rw [hd1, cond_true, hw1, chk_in (by omega), nat_toNat, hg, hw2, wrap_id (by omega), lett_eq, call_some]
    rfl
  · have hd1 : decide ((k : Int) < (m : Int)) = false := decide_eq_false (by omega)
    have e : v * 256 + b4 ((s.drop i).take 4) k = v * 256 := by have := b4_out ((s.drop i).take 4) k (by omega); omega
    rw [hd1, cond_false, call_some, e]

theorem let_L2 {F : Nat} (hF : 5 ≤ F) (s : List UInt8) (i m : Nat) (hs : s.length ≤ 131072) (hm : m = ((s.drop i).take 4).length) (hi : i < s.length) : ref3_Lettered_L2 F s (i : Int) (m : Int) F 0 0 = some ((val4 ((s.drop i).take 4) : Nat) : Int) := by
  obtain ⟨n, rfl⟩ : ∃ q, F = q + 5 := ⟨F - 5, by omega⟩
  have h0 := b4_lt ((s.drop i).take 4) 0; have h1 := b4_lt ((s.drop i).take 4) 1; have h2 := b4_lt ((s.drop i).take 4) 2; have h3 := b4_lt ((s.drop i).take 4) 3
  rw [show (0 : Int) = ((0 : Nat) : Int) from rfl, let_step s i m 0 0 hs hm (by decide) (by decide) hi, let_step s i m _ 1 hs hm (by decide) (by omega) hi, let_step s i m _ 2 hs hm (by decide) (by omega) hi, let_step s i m _ 3 hs hm (by decide) (by omega) hi]
  rw [ref3_Lettered_L2]
  unfold val4
  simp

theorem dig_step {F n : Nat} (m : Nat) (l : List UInt8) (v w k : Nat) (hm : m ≤ 4) (hk : k ≤ m) (hv : v < 4294967296) (hw : 0 < w) (hd : v / w < 85) (hl : l.length ≤ 1000000) (hw2 : w ≤ 52200625) : ref3_Lettered_L4 F (m : Int) (n + 1) l (v : Int) (w : Int) (k : Int) = ref3_Lettered_L4 F (m : Int) n (l ++ [ch (v / w)]) ((v % w : Nat) : Int) ((w / 85 : Nat) : Int) ((k + 1 : Nat) : Int) := by
  have hm1 : IntKind.i64.wrap ((m : Int) + 1) = ((m + 1 : Nat) : Int) := wrap_succ (by omega)
  have hdec : decide ((k : Int) < ((m + 1 : Nat) : Int)) = true := decide_eq_true (by omega)
  have h1 : ((v : Nat) : Int).tdiv (w : Int) = ((v / w : Nat) : Int) := by rw [Int.tdiv_eq_ediv_of_nonneg (by omega)]; rfl
  have h2 : ((v : Nat) : Int).tmod (w : Int) = ((v % w : Nat) : Int) := by rw [Int.tmod_eq_emod_of_nonneg (by omega)]; rfl
  have h3 : ((w : Nat) : Int).tdiv 85 = ((w / 85 : Nat) : Int) := by rw [Int.tdiv_eq_ediv_of_nonneg (by omega)]; rfl
  have hq : w / 85 ≤ w := Nat.div_le_self _ _
  have h4 : IntKind.u8.wrap (IntKind.i64.wrap ((33 : Int) + IntKind.i64.wrap ((v / w : Nat) : Int))) = ((33 + v / w : Nat) : Int) := by
    generalize v / w = q at hd
    rw [wrap_id (x := ((q : Nat) : Int)) (by omega), wrap_id (by omega), wrap_u8 (by omega)]
    omega
  have h5 : (0 : Int) ≤ ((33 + v / w : Nat) : Int) ∧ ((33 + v / w : Nat) : Int) < 256 := by
    generalize v / w = q at hd
    omega
  rw [ref3_Lettered_L4, hm1, hdec, cond_true, h1, h2, h3, chk_pos (by omega), h4, chk_pos h5, chk_pos (by simp; omega), lett_eq, chk_pos (by omega), wrap_id (x := ((w / 85 : Nat) : Int)) (by omega), wrap_succ (by omega)]
  rfl
theorem dig_stop {F n : Nat} (m : Nat) (l : List UInt8) (v w : Int) (hm : m ≤ 4) : ref3_Lettered_L4 F (m : Int) (n + 1) l v w ((m + 1 : Nat) : Int) = some l := by
  have hm1 : IntKind.i64.wrap ((m : Int) + 1) = ((m + 1 : Nat) : Int) := wrap_succ (by omega)
  rw [ref3_Lettered_L4, hm1, decide_eq_false (by omega)]
  rfl

theorem div_mod (v a b : Nat) : v % (a * b) / a = v / a % b := Nat.mod_mul_right_div_self v a b

theorem let_L4 {F : Nat} (hF : 6 ≤ F) (m : Nat) (hm1 : 1 ≤ m) (hm : m ≤ 4) (l : List UInt8) (v : Nat) (hv : v < 4294967296) (hl : l.length ≤ 900000) : ref3_Lettered_L4 F (m : Int) F l (v : Int) 52200625 0 = some (l ++ (digs v).take (m + 1)) := by
  obtain ⟨n, rfl⟩ : ∃ q, F = q + 6 := ⟨F - 6, by omega⟩
  have d0 : v / 52200625 = v / 52200625 % 85 := by omega
  have d1 : v % 52200625 / 614125 = v / 614125 % 85 := div_mod v 614125 85
  have d2 : v % 52200625 % 614125 / 7225 = v / 7225 % 85 := by rw [Nat.mod_mod_of_dvd v (by decide : 614125 ∣ 52200625)]; exact div_mod v 7225 85
  have d3 : v % 52200625 % 614125 % 7225 / 85 = v / 85 % 85 := by rw [Nat.mod_mod_of_dvd v (by decide : 614125 ∣ 52200625), Nat.mod_mod_of_dvd v (by decide : 7225 ∣ 614125)]; exact div_mod v 85 85
  have d4 : v % 52200625 % 614125 % 7225 % 85 / 1 = v % 85 := by rw [Nat.mod_mod_of_dvd v (by decide : 614125 ∣ 52200625), Nat.mod_mod_of_dvd v (by decide : 7225 ∣ 614125), Nat.mod_mod_of_dvd v (by decide : 85 ∣ 7225), Nat.div_one]
  rw [show (52200625 : Int) = ((52200625 : Nat) : Int) from rfl, show (0 : Int) = ((0 : Nat) : Int) from rfl]
  rw [dig_step m l v 52200625 0 hm (by omega) hv (by decide) (by omega) (by omega) (by decide)]
  rw [show 52200625 / 85 = 614125 from rfl, dig_step m _ _ 614125 1 hm (by omega) (by omega) (by decide) (by omega) (by simp; omega) (by decide), d1]
  rw [show 614125 / 85 = 7225 from rfl]
  rw [d0]
  unfold digs
  rcases (by omega : m = 1 ∨ m = 2 ∨ m = 3 ∨ m = 4) with rfl | rfl | rfl | rfl
  · rw [show ((1 + 1 : Nat) : Int) = ((1 + 1 : Nat) : Int) from rfl, dig_stop 1 _ _ _ (by decide)]
    simp
  · rw [dig_step 2 _ _ 7225 2 (by decide) (by decide) (by omega) (by decide) (by omega) (by simp; omega) (by decide), d2, show (7225 / 85) = 85 from rfl, dig_stop 2 _ _ _ (by decide)]
    simp
  · rw [dig_step 3 _ _ 7225 2 (by decide) (by decide) (by omega) (by decide) (by omega) (by simp; omega) (by decide), d2, show (7225 / 85) = 85 from rfl, dig_step 3 _ _ 85 3 (by decide) (by decide) (by omega) (by decide) (by omega) (by simp; omega) (by decide), d3, dig_stop 3 _ _ _ (by decide)]
    simp
  · rw [dig_step 4 _ _ 7225 2 (by decide) (by decide) (by omega) (by decide) (by omega) (by simp; omega) (by decide), d2, show (7225 / 85) = 85 from rfl, dig_step 4 _ _ 85 3 (by decide) (by decide) (by omega) (by decide) (by omega) (by simp; omega) (by decide), d3, show (85 / 85) = 1 from rfl, dig_step 4 _ _ 1 4 (by decide) (by decide) (by omega) (by decide) (by omega) (by simp; omega) (by decide), d4, dig_stop 4 _ _ _ (by decide)]
    simp

/-- Bytes in characters. -/
def lettered : Nat → List UInt8 → List UInt8
  | 0, _ => []
  | k + 1, s => if s = [] then [] else grp (s.take 4) ++ lettered k (s.drop 4)

theorem let_loop {F : Nat} (hF : 6 ≤ F) (s : List UInt8) (hs : s.length ≤ 131072) : ∀ (k i n : Nat) (xs acc : List UInt8), s.drop i = xs → (xs = [] ∨ i + xs.length = s.length) → xs.length ≤ k → k < n → i ≤ 200000 → acc.length + 5 * xs.length ≤ 800000 → ref3_Lettered_L0 F s n acc (i : Int) = some (acc ++ lettered k xs)
  | k, i, n, [], acc, hd, hl, hk, hn, hi, ha => by
    obtain ⟨n, rfl⟩ : ∃ q, n = q + 1 := ⟨n - 1, by omega⟩
    have hle : s.length ≤ i := by
      have := congrArg List.length hd
      simp at this
      omega
    rw [ref3_Lettered_L0, decide_eq_false (by omega), cond_false]
    cases k <;> simp [lettered]
  | 0, i, n, c :: r, acc, hd, hl, hk, hn, hi, ha => by simp at hk
  | k + 1, i, n, c :: r, acc, hd, hl, hk, hn, hi, ha => by
    obtain ⟨n, rfl⟩ : ∃ q, n = q + 1 := ⟨n - 1, by omega⟩
    obtain ⟨h1, h2, h3, h4⟩ := drop_cons hd
    have hml : ((s.drop i).take 4).length = min 4 (s.length - i) := by simp
    have hw : IntKind.i64.wrap ((s.length : Int) - (i : Int)) = ((s.length - i : Nat) : Int) := by rw [wrap_id (by omega)]; omega
    have hz : (if ((s.length - i : Nat) : Int) < (4 : Int) then ((s.length - i : Nat) : Int) else (4 : Int)) = ((((s.drop i).take 4).length : Nat) : Int) := by
      rw [hml]
      split <;> omega
    have hv := val4_lt ((s.drop i).take 4)
    have hcl : (c :: r).length = r.length + 1 := rfl
    have hgl := grp_len ((s.drop i).take 4) (by omega)
    rw [ref3_Lettered_L0, dec_lt h1, cond_true, hw, hz, lett_eq, let_L2 (by omega) s i _ hs rfl h1, call_some]
    have hv0 : (((val4 ((s.drop i).take 4) : Nat) : Int) == 0) = decide (val4 ((s.drop i).take 4) = 0) := by
      rw [Bool.eq_iff_iff, beq_iff_eq, decide_eq_true_eq]
      omega
    have hm4 : (((((s.drop i).take 4).length : Nat) : Int) == 4) = decide (((s.drop i).take 4).length = 4) := by
      rw [Bool.eq_iff_iff, beq_iff_eq, decide_eq_true_eq]
      omega
    have hgrp : (bif (bif (((val4 ((s.drop i).take 4) : Nat) : Int) == (0 : Int)) then (((((s.drop i).take 4).length : Nat) : Int) == (4 : Int)) else false) then
          chk (acc.length + ([(UInt8.ofNat (122 : Int).toNat)]).length ≤ 4294967296) <|
          some (acc ++ ([(UInt8.ofNat (122 : Int).toNat)]))
        else
          call (ref3_Lettered_L4 F ((((s.drop i).take 4).length : Nat) : Int) F acc ((val4 ((s.drop i).take 4) : Nat) : Int) (52200625 : Int) (0 : Int))
            fun v11 =>
          some v11) = some (acc ++ grp ((s.drop i).take 4)) := by
      rw [hv0, hm4]
      unfold grp
      by_cases hz : val4 ((s.drop i).take 4) = 0 ∧ ((s.drop i).take 4).length = 4
      · rw [if_pos hz, decide_eq_true hz.1, decide_eq_true hz.2]
        simp only [cond_true]
        rw [chk_pos (by simp; omega)]
        rfl
      · have : (bif decide (val4 ((s.drop i).take 4) = 0) then decide (((s.drop i).take 4).length = 4) else false) = false := by
          by_cases h : val4 ((s.drop i).take 4) = 0
          · have : ¬ ((s.drop i).take 4).length = 4 := fun h' => hz ⟨h, h'⟩
            rw [decide_eq_false this]
            cases decide (val4 ((s.drop i).take 4) = 0) <;> rfl
          · rw [decide_eq_false h]
            rfl
        rw [this, cond_false, if_neg hz, let_L4 (by omega) _ (by omega) (by omega) acc _ hv (by omega), call_some]
    rw [hgrp, call_some]
    have hw4 : IntKind.i64.wrap ((i : Int) + 4) = ((i + 4 : Nat) : Int) := by rw [wrap_id (by omega)]; omega
    have hd4 : s.drop (i + 4) = (c :: r).drop 4 := by rw [← hd, List.drop_drop]
    have hl4 : ((c :: r).drop 4).length = r.length + 1 - 4 := by simp
    rw [hw4, let_loop (F := F) hF s hs k (i + 4) n ((c :: r).drop 4) _ hd4 ?_ (by omega) (by omega) (by omega) ?_]
    · rw [lettered, if_neg (by simp), hd, List.append_assoc]
    · by_cases h5 : 4 ≤ r.length + 1
      · right
        rcases hl with h | h
        · cases h
        · omega
      · left
        exact List.eq_nil_of_length_eq_zero (by omega)
    · rw [List.length_append]
      omega

theorem Lettered_eq {F : Nat} (s : List UInt8) (hs : s.length ≤ 131072) (hF : s.length + 6 ≤ F) : ref3_Lettered F s = some (lettered s.length s) := by
  unfold ref3_Lettered
  rw [show (0 : Int) = ((0 : Nat) : Int) from rfl, let_loop (by omega) s hs s.length 0 F s [] rfl (.inr (by simp)) (Nat.le_refl _) (by omega) (by omega) (by simp; omega), call_some]
  rfl
theorem lettered_small (g : List UInt8) (h0 : 1 ≤ g.length) (h : g.length ≤ 4) : lettered g.length g = grp g := by
  obtain ⟨k, hk⟩ : ∃ k, g.length = k + 1 := ⟨g.length - 1, by omega⟩
  rw [hk, lettered, if_neg (by intro h; subst h; simp at h0), List.take_of_length_le h, List.drop_eq_nil_of_le h]
  cases k <;> simp [lettered]

/-- The value of five characters, if all are. -/
def uv (g : List UInt8) : Nat → Nat → Nat → Option Nat
  | 0, _, v => some v
  | m + 1, k, v => if k < g.length then if (g.getD k 0).toNat < 33 ∨ 117 < (g.getD k 0).toNat then none else uv g m (k + 1) (v * 85 + ((g.getD k 0).toNat - 33)) else uv g m (k + 1) (v * 85 + 84)
theorem uv_lt (g : List UInt8) : ∀ (m k v w : Nat), uv g m k v = some w → w < (v + 1) * 85 ^ m
  | 0, k, v, w, h => by
    simp only [uv, Option.some.injEq] at h
    omega
  | m + 1, k, v, w, h => by
    have step : ∀ x : Nat, x < 85 → uv g m (k + 1) (v * 85 + x) = some w → w < (v + 1) * 85 ^ (m + 1) := by
      intro x hx h
      have := uv_lt g m (k + 1) _ w h
      have h2 : (v * 85 + x + 1) * 85 ^ m ≤ ((v + 1) * 85) * 85 ^ m := Nat.mul_le_mul_right _ (by omega)
      rw [Nat.pow_succ, Nat.mul_comm (85 ^ m) 85, ← Nat.mul_assoc]
      omega
    rw [uv] at h
    split at h
    · split at h
      · cases h
      · exact step _ (by omega) h
    · exact step 84 (by omega) h
def outV : Option Nat → Out Int (List UInt8 × Int)
  | some v => .go (v : Int)
  | none => .esc ([], 5)

theorem wrap_u64 {x : Int} (h : 0 ≤ x ∧ x < 18446744073709551616) : IntKind.u64.wrap x = x := by
  unfold IntKind.wrap
  simp [IntKind.bits, IntKind.signed]
  omega

theorem ung_L0 {F : Nat} (g : List UInt8) (hg : g.length ≤ 5) : ∀ (m k n v : Nat), m + k = 5 → m < n → v < 85 ^ k → filter_ungroup_L0 F g n (v : Int) (k : Int) = some (outV (uv g m k v))
  | 0, k, n, v, hm, hn, hv => by
    obtain ⟨n, rfl⟩ : ∃ q, n = q + 1 := ⟨n - 1, by omega⟩
    rw [filter_ungroup_L0, decide_eq_false (by omega), cond_false]
    rfl
  | m + 1, k, n, v, hm, hn, hv => by
    obtain ⟨n, rfl⟩ : ∃ q, n = q + 1 := ⟨n - 1, by omega⟩
    have hk4 : 85 ^ k ≤ 85 ^ 4 := Nat.pow_le_pow_right (by decide) (by omega)
    have hv4 : v < 52200625 := Nat.lt_of_lt_of_le hv hk4
    have next : ∀ d : Nat, d < 85 → filter_ungroup_L0 F g n (IntKind.u64.wrap (IntKind.u64.wrap ((v : Int) * 85) + (d : Int))) (IntKind.i64.wrap ((k : Int) + 1)) = some (outV (uv g m (k + 1) (v * 85 + d))) := by
      intro d hd
      have e : IntKind.u64.wrap (IntKind.u64.wrap ((v : Int) * 85) + (d : Int)) = ((v * 85 + d : Nat) : Int) := by
        rw [wrap_u64 (x := (v : Int) * 85) (by omega), wrap_u64 (by omega)]
        omega
      rw [e, wrap_succ (by omega)]
      exact ung_L0 g hg m (k + 1) n _ (by omega) (by omega) (by rw [Nat.pow_succ]; omega)
    rw [filter_ungroup_L0, decide_eq_true (by omega), cond_true, uv]
    by_cases h : k < g.length
    · rw [if_pos h, decide_eq_true (by omega), cond_true, chk_in h, nat_toNat]
      have hx := UInt8.toNat_lt (g.getD k 0)
      generalize (g.getD k 0).toNat = x at hx
      by_cases hbad : x < 33 ∨ 117 < x
      · have e : (bif decide (((x : Nat) : Int) < 33) then true else decide (((x : Nat) : Int) > 117)) = true := by
          rcases hbad with h | h
          · rw [decide_eq_true (by omega)]; rfl
          · rw [decide_eq_true (p := ((x : Nat) : Int) > 117) (by omega)]; cases decide (((x : Nat) : Int) < 33) <;> rfl
        rw [chk_pos (fun _ => ⟨by omega, by omega⟩), lett_eq, e, if_pos hbad]
        rfl
      · have e : (bif decide (((x : Nat) : Int) < 33) then true else decide (((x : Nat) : Int) > 117)) = false := by
          rw [decide_eq_false (by omega), decide_eq_false (by omega)]; rfl
        have hw : IntKind.u64.wrap (IntKind.u8.wrap (((x : Nat) : Int) - 33)) = ((x - 33 : Nat) : Int) := by
          rw [wrap_u8 (by omega), wrap_u64 (by omega)]
          omega
        rw [chk_pos (fun _ => ⟨by omega, by omega⟩), lett_eq, e, if_neg hbad, cond_false, chk_in h, hw]
        simp only [callE_go]
        exact next _ (by omega)
    · rw [if_neg h, decide_eq_false (by omega), cond_false]
      simp only [callE_go]
      exact next 84 (by decide)

/-- The bytes of a value. -/
def bytes4 (v : Nat) : List UInt8 := [UInt8.ofNat (v / 16777216), UInt8.ofNat (v / 65536), UInt8.ofNat (v / 256), UInt8.ofNat v]
/-- Two to five characters: the bytes, or an error. -/
def ungS (g : List UInt8) : List UInt8 ⊕ Int :=
  match uv g 5 0 0 with
  | none => .inr 5
  | some v => if g.length = 1 then .inr 12 else if 4294967296 ≤ v then .inr 3 else if grp ((bytes4 v).take (g.length - 1)) = g then .inl ((bytes4 v).take (g.length - 1)) else .inr 4

theorem u8_wrap_ofNat (v : Nat) : UInt8.ofNat (IntKind.u8.wrap ((v : Nat) : Int)).toNat = UInt8.ofNat v ∧ 0 ≤ IntKind.u8.wrap ((v : Nat) : Int) ∧ IntKind.u8.wrap ((v : Nat) : Int) < 256 := by
  have h : IntKind.u8.wrap ((v : Nat) : Int) = ((v % 256 : Nat) : Int) := by
    unfold IntKind.wrap
    simp [IntKind.bits, IntKind.signed]
  rw [h]
  refine ⟨?_, by omega, by omega⟩
  rw [nat_toNat]
  apply UInt8.toNat_inj.1
  simp
theorem shr_nat (v k : Nat) (hk : k ≤ 64) : ((v : Nat) : Int).fdiv (2 ^ (min ((k : Nat) : Int).toNat IntKind.u64.bits)) = ((v / 2 ^ k : Nat) : Int) := by
  have h1 : min ((k : Nat) : Int).toNat IntKind.u64.bits = k := by
    show min k 64 = k
    omega
  rw [h1, Int.fdiv_eq_ediv_of_nonneg _ (Int.le_of_lt (Int.pow_pos (by decide)))]
  simp

theorem beq_dec (a b : List UInt8) : (!(a == b)) = decide (¬ a = b) := by
  rw [Bool.eq_iff_iff, Bool.not_eq_true', beq_eq_false_iff_ne, decide_eq_true_eq]

theorem ungroup_eq {F : Nat} (hF : 8 ≤ F) (g : List UInt8) (h1 : 1 ≤ g.length) (hg : g.length ≤ 5) : filter_ungroup F g = some (fin2 (ungS g)) := by
  unfold filter_ungroup ungS
  have hL : filter_ungroup_L0 F g F 0 0 = some (outV (uv g 5 0 0)) := ung_L0 g hg 5 0 F 0 (by omega) (by omega) (by decide)
  rw [hL]
  have hlt := uv_lt g 5 0 0
  cases hu : uv g 5 0 0 with
  | none => rfl
  | some v =>
    have hv := hlt v hu
    simp only [outV, callE_go]
    by_cases hl1 : g.length = 1
    · rw [if_pos hl1]
      have : ((g.length : Int) == 1) = true := by rw [hl1]; rfl
      rw [this]
      rfl
    · have : ((g.length : Int) == 1) = false := by rw [beq_eq_false_iff_ne]; omega
      rw [if_neg hl1, this, cond_false]
      rw [show (32 : Int).toNat = ((32 : Nat) : Int).toNat from rfl, show (24 : Int).toNat = ((24 : Nat) : Int).toNat from rfl, show (16 : Int).toNat = ((16 : Nat) : Int).toNat from rfl, show (8 : Int).toNat = ((8 : Nat) : Int).toNat from rfl]
      rw [shr_nat v 32 (by decide), shr_nat v 24 (by decide), shr_nat v 16 (by decide), shr_nat v 8 (by decide)]
      by_cases hbig : 4294967296 ≤ v
      · have : (((v / 2 ^ 32 : Nat) : Int) != (0 : Int)) = true := by rw [bne_iff_ne]; omega
        rw [if_pos hbig, this]
        rfl
      · have : (((v / 2 ^ 32 : Nat) : Int) != (0 : Int)) = false := by
          rw [Bool.eq_false_iff]
          intro h
          rw [bne_iff_ne] at h
          omega
        have hw : IntKind.i64.wrap ((g.length : Int) - 1) = ((g.length - 1 : Nat) : Int) := wrap_pred (by omega) (by omega)
        rw [if_neg hbig, this, cond_false, chk_pos (u8_wrap_ofNat _).2, chk_pos (u8_wrap_ofNat _).2, chk_pos (u8_wrap_ofNat _).2, chk_pos (u8_wrap_ofNat _).2, hw, chk_pos ⟨by omega, by simp; omega⟩, lett_eq]
        rw [(u8_wrap_ofNat _).1, (u8_wrap_ofNat _).1, (u8_wrap_ofNat _).1, (u8_wrap_ofNat _).1, nat_toNat]
        have hb : [UInt8.ofNat (v / 2 ^ 24), UInt8.ofNat (v / 2 ^ 16), UInt8.ofNat (v / 2 ^ 8), UInt8.ofNat v] = bytes4 v := rfl
        rw [hb, group_eq hF _ (by simp [bytes4]; omega), call_some, beq_dec]
        by_cases hgg : grp ((bytes4 v).take (g.length - 1)) = g
        · rw [if_pos hgg, decide_eq_false (not_not_intro hgg)]
          rfl
        · rw [if_neg hgg, decide_eq_true hgg]
          rfl
end Go.Vm.FilG
