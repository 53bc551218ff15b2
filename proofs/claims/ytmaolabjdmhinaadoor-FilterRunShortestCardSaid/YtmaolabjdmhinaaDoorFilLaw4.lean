/-
  filter, plain law 4: pieces, in the other texts.
-/
import Derived.Test.YtmaolabjdmhinaaDoorFilLaw3
namespace Go.Vm.FilG

theorem u8_back (x : UInt8) : UInt8.ofNat ((x.toNat : Nat) : Int).toNat = x := by simp
theorem u8_in (x : UInt8) : 0 ≤ ((x.toNat : Nat) : Int) ∧ ((x.toNat : Nat) : Int) < 256 := ⟨by omega, by have := x.toNat_lt; omega⟩

theorem copies_L2 {F : Nat} (s : List UInt8) (i c d : Nat) (hi : (s.getD i 0).toNat = c) (hc : c < 256) (h128 : 128 ≤ c) (hd : 0 < d) : ∀ (m j n : Nat) (acc : List UInt8), m + j = c - 125 → m < n → d ≤ acc.length → acc.length + m ≤ 131072 → filter_copies_decode_L2 F s (i : Int) (d : Int) n acc (j : Int) = some (copyN d m acc)
  | 0, j, n, acc, hm, hn, h1, h2 => by
    obtain ⟨n, rfl⟩ : ∃ q, n = q + 1 := ⟨n - 1, by omega⟩
    rw [filter_copies_decode_L2, nat_toNat, hi, wrap_id (x := (c : Int)) (by omega), wrap_id (by omega), lett_eq]
    have : decide ((j : Int) < (c : Int) - 125) = false := decide_eq_false (by omega)
    rw [this]
    rfl
  | m + 1, j, n, acc, hm, hn, h1, h2 => by
    obtain ⟨n, rfl⟩ : ∃ q, n = q + 1 := ⟨n - 1, by omega⟩
    rw [filter_copies_decode_L2, nat_toNat, hi, wrap_id (x := (c : Int)) (by omega), wrap_id (x := (c : Int) - 125) (by omega), lett_eq]
    have : decide ((j : Int) < (c : Int) - 125) = true := decide_eq_true (by omega)
    have hw : IntKind.i64.wrap ((acc.length : Int) - (d : Int)) = ((acc.length - d : Nat) : Int) := by rw [wrap_id (by omega)]; omega
    rw [this, cond_true, hw, chk_pos ⟨by omega, by omega⟩, nat_toNat, chk_pos (u8_in _), u8_back, chk_pos (by simp; omega), lett_eq, wrap_succ (by omega)]
    rw [copies_L2 s i c d hi hc h128 hd m (j + 1) n _ (by omega) (by omega) (by simp; omega) (by simp; omega)]
    rfl

theorem ref_L5 {F : Nat} (v1 v2 : List UInt8) (c d : Nat) (hi : (v1.getD 0 0).toNat = c) (hc : c < 256) (h128 : 128 ≤ c) (hd : 0 < d) (hd2 : d ≤ v2.length) (h65 : v2.length ≤ 65536) : ∀ (m j n : Nat) (acc : List UInt8), m + j = c - 125 → m < n → acc.length = v2.length + j → ref3_unpiece_L5 F v1 v2 (d : Int) n acc (j : Int) = some (copyN d m acc)
  | 0, j, n, acc, hm, hn, h1 => by
    obtain ⟨n, rfl⟩ : ∃ q, n = q + 1 := ⟨n - 1, by omega⟩
    rw [ref3_unpiece_L5, show (0 : Int).toNat = 0 from rfl, hi, wrap_id (x := (c : Int)) (by omega), wrap_id (by omega), lett_eq]
    have : decide ((j : Int) < (c : Int) - 125) = false := decide_eq_false (by omega)
    rw [this]
    rfl
  | m + 1, j, n, acc, hm, hn, h1 => by
    obtain ⟨n, rfl⟩ : ∃ q, n = q + 1 := ⟨n - 1, by omega⟩
    rw [ref3_unpiece_L5, show (0 : Int).toNat = 0 from rfl, hi, wrap_id (x := (c : Int)) (by omega), wrap_id (x := (c : Int) - 125) (by omega), lett_eq]
    have : decide ((j : Int) < (c : Int) - 125) = true := decide_eq_true (by omega)
    have hw : IntKind.i64.wrap (IntKind.i64.wrap ((v2.length : Int) - (d : Int)) + (j : Int)) = ((acc.length - d : Nat) : Int) := by rw [wrap_id (x := (v2.length : Int) - (d : Int)) (by omega), wrap_id (by omega)]; omega
    rw [this, cond_true, hw, chk_pos ⟨by omega, by omega⟩, nat_toNat, lett_eq, chk_pos (u8_in _), u8_back, chk_pos (by simp; omega), wrap_succ (by omega)]
    rw [ref_L5 v1 v2 c d hi hc h128 hd hd2 h65 m (j + 1) n _ (by omega) (by omega) (by simp; omega)]
    rfl

theorem ref_L3 {F : Nat} (v1 : List UInt8) (v5 : Int) (c : Nat) (x : UInt8) (hi : (v1.getD 0 0).toNat = c) (hc : c < 256) (hx : ((v1.drop 1).take ((IntKind.i64.wrap (v5 + 1)).toNat - 1)) = [x]) : ∀ (m j n : Nat) (acc : List UInt8), m + j = 257 - c → m < n → acc.length ≤ 65536 + j → ref3_unpiece_L3 F v1 v5 n acc (j : Int) = some (acc ++ List.replicate m x)
  | 0, j, n, acc, hm, hn, h1 => by
    obtain ⟨n, rfl⟩ : ∃ q, n = q + 1 := ⟨n - 1, by omega⟩
    rw [ref3_unpiece_L3, show (0 : Int).toNat = 0 from rfl, hi, wrap_id (x := (c : Int)) (by omega), wrap_id (by omega), lett_eq]
    have : decide ((j : Int) < 257 - (c : Int)) = false := decide_eq_false (by omega)
    rw [this]
    simp
  | m + 1, j, n, acc, hm, hn, h1 => by
    obtain ⟨n, rfl⟩ : ∃ q, n = q + 1 := ⟨n - 1, by omega⟩
    rw [ref3_unpiece_L3, show (0 : Int).toNat = 0 from rfl, show (1 : Int).toNat = 1 from rfl, hi, hx, wrap_id (x := (c : Int)) (by omega), wrap_id (x := 257 - (c : Int)) (by omega), lett_eq]
    have : decide ((j : Int) < 257 - (c : Int)) = true := decide_eq_true (by omega)
    have h0 : [x].getD 0 0 = x := rfl
    rw [this, cond_true, chk_pos ⟨by decide, by simp⟩, h0, lett_eq, chk_pos (u8_in _), u8_back, chk_pos (by simp; omega), wrap_succ (by omega)]
    rw [ref_L3 v1 v5 c x hi hc hx m (j + 1) n _ (by omega) (by omega) (by simp; omega)]
    simp [List.replicate_succ]

theorem i64_or8 (a b : Nat) (ha : a < 256) (hb : b < 256) : IntKind.i64.wrap ((BitVec.ofInt IntKind.i64.bits (IntKind.i64.wrap (IntKind.i64.wrap ((a : Nat) : Int) * 2 ^ (min (8 : Int).toNat IntKind.i64.bits))) ||| BitVec.ofInt IntKind.i64.bits (IntKind.i64.wrap ((b : Nat) : Int))).toNat : Int) = ((a * 256 + b : Nat) : Int) := by
  have h1 : IntKind.i64.wrap (IntKind.i64.wrap ((a : Nat) : Int) * 2 ^ (min (8 : Int).toNat IntKind.i64.bits)) = ((a * 256 : Nat) : Int) := by
    show IntKind.i64.wrap (IntKind.i64.wrap ((a : Nat) : Int) * 256) = _
    rw [wrap_id (x := ((a : Nat) : Int)) (by omega), wrap_id (by omega)]
    omega
  rw [h1, wrap_id (x := ((b : Nat) : Int)) (by omega)]
  have h2 : (BitVec.ofInt IntKind.i64.bits ((a * 256 : Nat) : Int) ||| BitVec.ofInt IntKind.i64.bits ((b : Nat) : Int)).toNat = a * 256 + b := by
    show (BitVec.ofInt 64 ((a * 256 : Nat) : Int) ||| BitVec.ofInt 64 ((b : Nat) : Int)).toNat = _
    rw [BitVec.ofInt_natCast, BitVec.ofInt_natCast, BitVec.toNat_or, BitVec.toNat_ofNat, BitVec.toNat_ofNat, Nat.mod_eq_of_lt (by omega), Nat.mod_eq_of_lt (by omega)]
    have := Nat.two_pow_add_eq_or_of_lt (i := 8) (b := b) (by omega) a
    rw [Nat.mul_comm a 256]
    exact this.symm
  rw [h2, wrap_id (by omega)]

theorem copies_loop {F : Nat} (hF : 140 ≤ F) (s : List UInt8) (hs : s.length ≤ 131072) : ∀ (k : Nat) (xs acc : List UInt8) (i n : Nat), s.drop i = xs → i + xs.length = s.length → xs.length ≤ k → k < n → acc.length ≤ 65536 → filter_copies_decode_L0 F s n acc (i : Int) = some (outS (unp true k xs acc))
  | k, [], acc, i, n, hd, hl, hk, hn, ha => by
    obtain ⟨n, rfl⟩ : ∃ q, n = q + 1 := ⟨n - 1, by omega⟩
    have : i = s.length := by simpa using hl
    subst this
    rw [filter_copies_decode_L0, dec_end]
    cases k <;> rfl
  | 0, c :: r, acc, i, n, hd, hl, hk, hn, ha => by simp at hk
  | k + 1, c :: r, acc, i, n, hd, hl, hk, hn, ha => by
    obtain ⟨n, rfl⟩ : ∃ q, n = q + 1 := ⟨n - 1, by omega⟩
    obtain ⟨h1, h2, h3, h4⟩ := drop_cons hd
    have hc := c.toNat_lt
    have ih := copies_loop (F := F) hF s hs k
    have hgi : (s.getD i 0).toNat = c.toNat := by rw [h2]
    rw [filter_copies_decode_L0, dec_lt h1, cond_true, chk_in h1, nat_toNat, h2]
    generalize hcc : c.toNat = m at hc hgi
    have hwm : IntKind.i64.wrap (m : Int) = (m : Int) := wrap_id (by omega)
    have hw1 : IntKind.i64.wrap ((i : Int) + 1) = ((i + 1 : Nat) : Int) := wrap_succ (by omega)
    rw [hwm, hw1]
    have e1 : ∀ k : Nat, s.drop (i + 1 + k) = r.drop k := fun k => by rw [← h3, List.drop_drop]
    rw [unp, hcc]
    unfold pstep
    rw [if_neg (by simp)]
    by_cases hlt : m < 128
    · have hd1 : decide ((m : Int) < 128) = true := by simp; omega
      have hz : IntKind.i64.wrap (((i + 1 : Nat) : Int) + (m : Int)) = ((i + 1 + m : Nat) : Int) := by rw [wrap_id (by omega)]; omega
      have hz1 : IntKind.i64.wrap (((i + 1 + m : Nat) : Int) + 1) = ((i + 1 + (m + 1) : Nat) : Int) := by rw [wrap_id (by omega)]; omega
      have hz2 : IntKind.i64.wrap (((i + 1 : Nat) : Int) + IntKind.i64.wrap ((m : Int) + 1)) = ((i + 1 + (m + 1) : Nat) : Int) := by rw [wrap_id (x := (m : Int) + 1) (by omega), wrap_id (by omega)]; omega
      simp only [hz, hz1, hz2, hd1, cond_true, lett_eq, if_pos hlt]
      by_cases hr : r.length < m + 1
      · have : decide (((i + 1 + (m + 1) : Nat) : Int) > (s.length : Int)) = true := by simp; omega
        rw [this, if_pos hr]
        rfl
      · have hf : decide (((i + 1 + (m + 1) : Nat) : Int) > (s.length : Int)) = false := by simp; omega
        have hlen : (List.drop (i + 1) s).length = r.length := by rw [h3]
        rw [hf, if_neg hr]
        simp only [cond_false]
        rw [chk_pos ⟨by omega, by omega, by omega⟩, nat_toNat, nat_toNat, h3, show i + 1 + (m + 1) - (i + 1) = m + 1 by omega]
        rw [chk_pos (by simp; omega)]
        simp only [callE_go]
        by_cases hbig : 65536 < (acc ++ r.take (m + 1)).length
        · have : decide (((acc ++ r.take (m + 1)).length : Int) > 65536) = true := decide_eq_true (by omega)
          rw [this, if_pos hbig]
          rfl
        · have : decide (((acc ++ r.take (m + 1)).length : Int) > 65536) = false := decide_eq_false (by omega)
          rw [this, if_neg hbig, cond_false]
          exact ih _ _ _ _ (e1 _) (by simp; omega) (by simp at hk ⊢; omega) (by omega) (by omega)
    · have hd1 : decide ((m : Int) < 128) = false := by simp; omega
      have hz : IntKind.i64.wrap (((i + 1 : Nat) : Int) + 2) = ((i + 1 + 2 : Nat) : Int) := by rw [wrap_id (by omega)]; omega
      simp only [hz, hd1, cond_false, lett_eq, if_neg hlt, if_true]
      by_cases hr : r.length < 2
      · have : decide (((i + 1 + 2 : Nat) : Int) > (s.length : Int)) = true := by simp; omega
        rw [this, if_pos hr]
        rfl
      · have hf : decide (((i + 1 + 2 : Nat) : Int) > (s.length : Int)) = false := by simp; omega
        have hw2 : IntKind.i64.wrap (((i + 1 : Nat) : Int) + 1) = ((i + 1 + 1 : Nat) : Int) := wrap_succ (by omega)
        have g0 : s.getD (i + 1) 0 = r.getD 0 0 := getD_rest (j := 0) h3
        have g1 : s.getD (i + 1 + 1) 0 = r.getD 1 0 := getD_rest (j := 1) h3
        rw [hf, if_neg hr, cond_false, chk_in (by omega), hw2, chk_in (by omega), nat_toNat, nat_toNat, g0, g1, i64_or8 _ _ (UInt8.toNat_lt _) (UInt8.toNat_lt _)]
        generalize hdd : (r.getD 0 0).toNat * 256 + (r.getD 1 0).toNat = d
        by_cases hbad : d = 0 ∨ acc.length < d
        · have : (bif ((d : Int) == 0) then true else decide ((d : Int) > (acc.length : Int))) = true := by
            rcases hbad with h | h
            · subst h; rfl
            · have : decide ((d : Int) > (acc.length : Int)) = true := decide_eq_true (by omega)
              rw [this]; cases ((d : Int) == 0) <;> rfl
          rw [this, if_pos hbad]
          rfl
        · have : (bif ((d : Int) == 0) then true else decide ((d : Int) > (acc.length : Int))) = false := by
            have h5 : ((d : Int) == 0) = false := by simp; omega
            have h6 : decide ((d : Int) > (acc.length : Int)) = false := decide_eq_false (by omega)
            rw [h5, h6]; rfl
          rw [this, if_neg hbad, cond_false, show (0 : Int) = ((0 : Nat) : Int) from rfl, copies_L2 s i m d hgi hc (by omega) (by omega) (m - 125) 0 F acc (by omega) (by omega) (by omega) (by omega)]
          simp only [call_some, callE_go]
          have hcl := copyN_len d (m - 125) acc
          by_cases hbig : 65536 < (copyN d (m - 125) acc).length
          · have : decide (((copyN d (m - 125) acc).length : Int) > 65536) = true := decide_eq_true (by omega)
            rw [this, if_pos hbig]
            rfl
          · have : decide (((copyN d (m - 125) acc).length : Int) > 65536) = false := decide_eq_false (by omega)
            rw [this, if_neg hbig, cond_false]
            exact ih _ _ _ _ (e1 2) (by simp; omega) (by simp at hk ⊢; omega) (by omega) (by omega)

theorem beq_nil_cons (c : UInt8) (r : List UInt8) : (!((c :: r) == [])) = true := rfl
theorem ref_loop {F : Nat} (hF : 140 ≤ F) (copies : Bool) : ∀ (k : Nat) (xs acc : List UInt8) (n : Nat), xs.length ≤ 131072 → xs.length ≤ k → k < n → acc.length ≤ 65536 → ref3_unpiece_L0 F copies n xs acc = some (outS (unp copies k xs acc))
  | k, [], acc, n, hl, hk, hn, ha => by
    obtain ⟨n, rfl⟩ : ∃ q, n = q + 1 := ⟨n - 1, by omega⟩
    rw [ref3_unpiece_L0]
    cases k <;> rfl
  | 0, c :: r, acc, n, hl, hk, hn, ha => by simp at hk
  | k + 1, c :: r, acc, n, hl, hk, hn, ha => by
    obtain ⟨n, rfl⟩ : ∃ q, n = q + 1 := ⟨n - 1, by omega⟩
    have hc := c.toNat_lt
    have ih := ref_loop (F := F) hF copies k
    have hlr : (c :: r).length = r.length + 1 := rfl
    have hgi : ((c :: r).getD 0 0).toNat = c.toNat := rfl
    rw [ref3_unpiece_L0, beq_nil_cons, cond_true, chk_pos ⟨by decide, by simp only [List.length_cons]; omega⟩]
    simp only [show (0 : Int).toNat = 0 from rfl, show (1 : Int).toNat = 1 from rfl, hgi]
    generalize hcc : c.toNat = m at hc hgi
    have hwm : IntKind.i64.wrap (m : Int) = (m : Int) := wrap_id (by omega)
    rw [hwm]
    rw [unp, hcc]
    unfold pstep
    have hlen : ((r.length + 1 : Nat) : Int).toNat = r.length + 1 := rfl
    have cut : ∀ q : Nat, q + 1 ≤ r.length + 1 → ((c :: r).drop (q + 1)).take (r.length + 1 - (q + 1)) = r.drop q := by
      intro q hq
      rw [List.drop_succ_cons, List.take_of_length_le (by simp)]
    by_cases h128 : copies = false ∧ m = 128
    · obtain ⟨rfl, rfl⟩ := h128
      simp [lett_eq, call_some, outS]
    · rw [if_neg h128]
      have hz6 : (bif ((m : Int) == 128) then (!copies) else false) = false := by
        cases copies
        · have : ((m : Int) == 128) = false := by
            have : m ≠ 128 := fun h => h128 ⟨rfl, h⟩
            simp; omega
          rw [this]; rfl
        · cases ((m : Int) == 128) <;> rfl
      have big : ∀ (l r' : List UInt8), l.length ≤ 66000 → r'.length ≤ k → r'.length ≤ 131072 → (bif decide ((l.length : Int) > 65536) then some (.esc ([], (2 : Int))) else ref3_unpiece_L0 F copies n r' l) = some (outS (if 65536 < l.length then .inr 2 else unp copies k r' l)) := by
        intro l r' h5 h6 h7
        by_cases hbig : 65536 < l.length
        · have : decide ((l.length : Int) > 65536) = true := decide_eq_true (by omega)
          rw [this, if_pos hbig]
          rfl
        · have : decide ((l.length : Int) > 65536) = false := decide_eq_false (by omega)
          rw [this, if_neg hbig, cond_false]
          exact ih _ _ _ h7 h6 (by omega) (by omega)
      have hkr : r.length ≤ k := by simpa using hk
      by_cases hlt : m < 128
      · have hd1 : decide ((m : Int) < 128) = true := by simp; omega
        have hz1 : IntKind.i64.wrap ((m : Int) + 1) = ((m + 1 : Nat) : Int) := wrap_succ (by omega)
        have hz2 : IntKind.i64.wrap (((m + 1 : Nat) : Int) + 1) = ((m + 1 + 1 : Nat) : Int) := wrap_succ (by omega)
        simp only [hz1, hz2, hd1, cond_true, lett_eq, if_pos hlt, call_some, hz6, cond_false, hlr]
        by_cases hr : r.length < m + 1
        · have : decide (((r.length + 1 : Nat) : Int) < ((m + 1 + 1 : Nat) : Int)) = true := decide_eq_true (by omega)
          rw [this, if_pos hr]
          rfl
        · have hf : decide (((r.length + 1 : Nat) : Int) < ((m + 1 + 1 : Nat) : Int)) = false := decide_eq_false (by omega)
          have ht : ((c :: r).drop 1).take (m + 1 + 1 - 1) = r.take (m + 1) := rfl
          rw [hf, if_neg hr, cond_false, chk_pos ⟨by omega, by omega, by omega⟩, chk_pos ⟨by omega, by omega, by omega⟩]
          simp only [nat_toNat, hlen, ht]
          rw [chk_pos (by simp; omega), cut (m + 1) (by omega)]
          simp only [callE_go]
          exact big _ _ (by simp; omega) (by simp; omega) (by simp at hl ⊢; omega)
      · have hd1 : decide ((m : Int) < 128) = false := by simp; omega
        cases copies
        · have hz2 : IntKind.i64.wrap ((1 : Int) + 1) = ((1 + 1 : Nat) : Int) := wrap_id (by omega)
          simp only [hz2, hd1, cond_true, lett_eq, if_neg hlt, call_some, hz6, cond_false, hlr, Bool.false_eq_true, if_false]
          by_cases hr : r.length < 1
          · have : decide (((r.length + 1 : Nat) : Int) < ((1 + 1 : Nat) : Int)) = true := decide_eq_true (by omega)
            rw [this, if_pos hr]
            rfl
          · have hf : decide (((r.length + 1 : Nat) : Int) < ((1 + 1 : Nat) : Int)) = false := decide_eq_false (by omega)
            obtain ⟨x, r2, rfl⟩ : ∃ x r2, r = x :: r2 := by
              cases r with
              | nil => simp at hr
              | cons x r2 => exact ⟨x, r2, rfl⟩
            rw [hf, if_neg hr, cond_false, chk_pos ⟨by omega, by omega, by omega⟩, chk_pos ⟨by omega, by omega, by omega⟩]
            have hx : (((c :: x :: r2).drop 1).take ((IntKind.i64.wrap ((1 : Int) + 1)).toNat - 1)) = [x] := by rw [hz2]; rfl
            rw [show (0 : Int) = ((0 : Nat) : Int) from rfl, ref_L3 (F := F) (c :: x :: r2) 1 m x hgi hc hx (257 - m) 0 F acc (by omega) (by omega) (by omega)]
            simp only [call_some, callE_go, nat_toNat, hlen, Nat.add_sub_cancel]
            have h9 := cut 1 (by omega)
            simp only [List.length_cons] at h9 hl hkr ⊢
            rw [h9]
            exact big _ _ (by simp; omega) (by simp; omega) (by simp; omega)
        · have hz2 : IntKind.i64.wrap ((2 : Int) + 1) = ((2 + 1 : Nat) : Int) := wrap_id (by omega)
          simp only [hz2, hd1, cond_true, lett_eq, if_neg hlt, call_some, hz6, cond_false, hlr, if_true]
          by_cases hr : r.length < 2
          · have : decide (((r.length + 1 : Nat) : Int) < ((2 + 1 : Nat) : Int)) = true := decide_eq_true (by omega)
            rw [this, if_pos hr]
            rfl
          · have hf : decide (((r.length + 1 : Nat) : Int) < ((2 + 1 : Nat) : Int)) = false := decide_eq_false (by omega)
            obtain ⟨x, y, r2, rfl⟩ : ∃ x y r2, r = x :: y :: r2 := by
              match r, hr with
              | [], h => simp at h
              | [x], h => simp at h
              | x :: y :: r2, _ => exact ⟨x, y, r2, rfl⟩
            rw [hf, if_neg hr, cond_false, chk_pos ⟨by omega, by omega, by omega⟩, chk_pos ⟨by omega, by omega, by omega⟩]
            have ht : ((c :: x :: y :: r2).drop 1).take (((2 + 1 : Nat) : Int).toNat - 1) = [x, y] := rfl
            have hx := x.toNat_lt
            have hy := y.toNat_lt
            have hdw : IntKind.i64.wrap (IntKind.i64.wrap (IntKind.i64.wrap ((x.toNat : Nat) : Int) * 256) + IntKind.i64.wrap ((y.toNat : Nat) : Int)) = ((x.toNat * 256 + y.toNat : Nat) : Int) := by
              rw [wrap_id (x := ((x.toNat : Nat) : Int)) (by omega), wrap_id (x := ((y.toNat : Nat) : Int)) (by omega), wrap_id (x := ((x.toNat : Nat) : Int) * 256) (by omega), wrap_id (by omega)]
              omega
            rw [ht, chk_pos ⟨by decide, by simp⟩, chk_pos ⟨by decide, by simp⟩]
            simp only [show [x, y].getD 0 0 = x from rfl, show [x, y].getD 1 0 = y from rfl, show (x :: y :: r2).getD 0 0 = x from rfl, show (x :: y :: r2).getD 1 0 = y from rfl]
            rw [hdw]
            generalize hdd : x.toNat * 256 + y.toNat = d
            by_cases hbad : d = 0 ∨ acc.length < d
            · have : (bif ((d : Int) == 0) then true else decide ((d : Int) > (acc.length : Int))) = true := by
                rcases hbad with h | h
                · subst h; rfl
                · have : decide ((d : Int) > (acc.length : Int)) = true := decide_eq_true (by omega)
                  rw [this]; cases ((d : Int) == 0) <;> rfl
              rw [this, if_pos hbad]
              rfl
            · have : (bif ((d : Int) == 0) then true else decide ((d : Int) > (acc.length : Int))) = false := by
                have h5 : ((d : Int) == 0) = false := by simp; omega
                have h6 : decide ((d : Int) > (acc.length : Int)) = false := decide_eq_false (by omega)
                rw [h5, h6]; rfl
              rw [this, if_neg hbad, cond_false, show (0 : Int) = ((0 : Nat) : Int) from rfl, ref_L5 (F := F) (c :: x :: y :: r2) acc m d hgi hc (by omega) (by omega) (by omega) ha (m - 125) 0 F acc (by omega) (by omega) (by omega)]
              simp only [call_some, callE_go, nat_toNat, hlen]
              have h9 := cut 2 (by simp)
              have hcl := copyN_len d (m - 125) acc
              simp only [List.length_cons] at h9 hl hkr ⊢
              rw [h9]
              exact big _ _ (by omega) (by simp; omega) (by simp; omega)

theorem runs_eq {F : Nat} (z : S_filter_copies) (s : List UInt8) (hs : s.length ≤ 131072) (hF : s.length < F) (hsz : 131072 < F) : filter_runs_decode F z s = some (fin2 (unp false s.length s [])) := by
  unfold filter_runs_decode
  rw [show (0 : Int) = ((0 : Nat) : Int) from rfl, runs_loop s (by omega) s.length s [] 0 F rfl (by simp) (Nat.le_refl _) hF (by simp)]
  have hb : ∀ (k : Nat) (xs acc l : List UInt8), acc.length ≤ 65536 → unp false k xs acc = .inl l → l.length ≤ 65536 := by
    intro k
    induction k with
    | zero =>
      intro xs acc l ha h
      cases xs with
      | nil => rw [unp] at h; cases h; exact ha
      | cons c r => rw [unp] at h; cases h
    | succ k ih =>
      intro xs acc l ha h
      cases xs with
      | nil => rw [unp] at h; cases h; exact ha
      | cons c r =>
        rw [unp] at h
        split at h
        · cases h
        · split at h
          · cases h
          · exact ih _ _ _ (by omega) h
  cases hu : unp false s.length s [] with
  | inl l =>
    have := hb _ _ _ _ (by simp) hu
    simp only [outS, callE_go, fin2]
    rw [chk_pos (by omega)]
    rfl
  | inr e => rfl
end Go.Vm.FilG
