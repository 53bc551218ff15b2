/-
  filter, plain law 7: chains; the law of Decode.
-/
import Derived.Test.YtmaolabjdmhinaaDoorFilLaw6
namespace Go.Vm.FilG

def txt : Nat → List UInt8 → List UInt8 → List UInt8 ⊕ Int
  | _, [], acc => .inl acc
  | 0, _ :: _, _ => .inr 99
  | k + 1, c :: r, acc => if c.toNat = 122 then (if 65536 < (acc ++ [0, 0, 0, 0]).length then .inr 2 else txt k r (acc ++ [0, 0, 0, 0]))
    else match ungS ((c :: r).take 5) with
      | .inr e => .inr e
      | .inl b => if 65536 < (acc ++ b).length then .inr 2 else txt k ((c :: r).drop 5) (acc ++ b)

theorem ungS_ok {g b : List UInt8} (h : ungS g = .inl b) : b.length ≤ 4 := by
  unfold ungS at h
  split at h
  · cases h
  split at h
  · cases h
  split at h
  · cases h
  split at h
  · simp only [Sum.inl.injEq] at h
    subst h
    simp [bytes4]
    omega
  · cases h
theorem ungS_err {g : List UInt8} {e : Int} (h : ungS g = .inr e) : (e != 0) = true := by
  unfold ungS at h
  split at h
  · cases h; rfl
  split at h
  · cases h; rfl
  split at h
  · cases h; rfl
  split at h
  · cases h
  · cases h; rfl

theorem text_loop {F : Nat} (hF : 8 ≤ F) : ∀ (k : Nat) (xs acc : List UInt8) (n : Nat), xs.length ≤ 131072 → xs.length ≤ k → k < n → acc.length ≤ 65536 → filter_text_decode_L0 F n xs acc = some (outS (txt k xs acc))
  | k, [], acc, n, hl, hk, hn, ha => by
    obtain ⟨n, rfl⟩ : ∃ q, n = q + 1 := ⟨n - 1, by omega⟩
    rw [filter_text_decode_L0]
    cases k <;> rfl
  | 0, c :: r, acc, n, hl, hk, hn, ha => by simp at hk
  | k + 1, c :: r, acc, n, hl, hk, hn, ha => by
    obtain ⟨n, rfl⟩ : ∃ q, n = q + 1 := ⟨n - 1, by omega⟩
    have hcl : (c :: r).length = r.length + 1 := rfl
    have hkr : r.length ≤ k := by simpa using hk
    have big : ∀ (l r' : List UInt8), l.length ≤ 66000 → r'.length ≤ k → r'.length ≤ 131072 → (call (strings_Builder_Len F l) fun y4 =>
        bif (decide (y4.1 > (65536 : Int))) then some (.esc ([], (2 : Int))) else filter_text_decode_L0 F n r' y4.2) = some (outS (if 65536 < l.length then .inr 2 else txt k r' l)) := by
      intro l r' h5 h6 h7
      simp only [strings_Builder_Len, call_some]
      by_cases hbig : 65536 < l.length
      · rw [decide_eq_true (by omega), if_pos hbig]
        rfl
      · rw [decide_eq_false (by omega), if_neg hbig, cond_false]
        exact text_loop hF k r' l n h7 h6 (by omega) (by omega)
    have h0 : ((c :: r).getD (0 : Int).toNat 0) = c := rfl
    rw [filter_text_decode_L0, beq_nil_cons, cond_true, chk_pos ⟨by decide, by omega⟩, h0, txt]
    by_cases hz : c.toNat = 122
    · have : (((c.toNat : Nat) : Int) == 122) = true := by rw [beq_iff_eq]; omega
      rw [this, cond_true, if_pos hz]
      unfold strings_Builder_WriteString
      rw [chk_pos (by simp; omega), call_some, chk_pos ⟨by decide, by omega, by omega⟩]
      simp only [callE_go]
      have ht : ((c :: r).drop (1 : Int).toNat).take (((c :: r).length : Int).toNat - (1 : Int).toNat) = r := by
        show r.take (r.length + 1 - 1) = r
        simp
      rw [ht]
      exact big _ _ (by simp; omega) hkr (by omega)
    · have : (((c.toNat : Nat) : Int) == 122) = false := by rw [beq_eq_false_iff_ne]; omega
      rw [this, cond_false, if_neg hz]
      have hm : (if (5 : Int) < ((c :: r).length : Int) then (5 : Int) else ((c :: r).length : Int)) = ((min 5 (c :: r).length : Nat) : Int) := by
        split <;> omega
      rw [hm, chk_pos ⟨by decide, by omega, by omega⟩]
      have ht : ((c :: r).drop (0 : Int).toNat).take (((min 5 (c :: r).length : Nat) : Int).toNat - (0 : Int).toNat) = (c :: r).take 5 := by
        show (c :: r).take (min 5 (c :: r).length) = _
        rw [← List.take_take]
        simp
      have ht2 : ((c :: r).drop (((min 5 (c :: r).length : Nat) : Int)).toNat).take (((c :: r).length : Int).toNat - (((min 5 (c :: r).length : Nat) : Int)).toNat) = (c :: r).drop 5 := by
        rw [nat_toNat, nat_toNat, List.take_of_length_le (by simp)]
        rcases Nat.le_total 5 (c :: r).length with h | h
        · rw [Nat.min_eq_left h]
        · rw [Nat.min_eq_right h, List.drop_eq_nil_of_le (Nat.le_refl _), List.drop_eq_nil_of_le h]
      simp only [ht, ht2, lett_eq]
      have hgl : ((c :: r).take 5).length = min 5 (r.length + 1) := by rw [List.length_take, hcl]
      rw [ungroup_eq hF _ (by omega) (by omega), call_some]
      cases hu : ungS ((c :: r).take 5) with
      | inr e =>
        simp only [fin2]
        rw [ungS_err hu]
        rfl
      | inl b =>
        have hb := ungS_ok hu
        simp only [fin2, bne_self_eq_false, cond_false]
        unfold strings_Builder_WriteString
        rw [chk_pos (by omega), call_some, chk_pos ⟨by omega, by omega, by omega⟩]
        simp only [callE_go]
        exact big _ _ (by simp; omega) (by simp; omega) (by simp; omega)

theorem unl_L2 {F : Nat} (s : List UInt8) (i : Nat) (z1 : Int) (g : List UInt8) (hgs : (s.drop ((i : Nat) : Int).toNat).take (z1.toNat - ((i : Nat) : Int).toNat) = g) (hg : g.length ≤ 5) : ∀ (m k n v : Nat), m + k = 5 → m < n → v < 85 ^ k → ref3_unletter_L2 F s (i : Int) z1 n (v : Int) (k : Int) = some (outV (uv g m k v))
  | 0, k, n, v, hm, hn, hv => by
    obtain ⟨n, rfl⟩ : ∃ q, n = q + 1 := ⟨n - 1, by omega⟩
    rw [ref3_unletter_L2, decide_eq_false (by omega), cond_false]
    rfl
  | m + 1, k, n, v, hm, hn, hv => by
    obtain ⟨n, rfl⟩ : ∃ q, n = q + 1 := ⟨n - 1, by omega⟩
    have hk4 : 85 ^ k ≤ 85 ^ 4 := Nat.pow_le_pow_right (by decide) (by omega)
    have hv4 : v < 52200625 := Nat.lt_of_lt_of_le hv hk4
    have next : ∀ d : Nat, d < 85 → ref3_unletter_L2 F s (i : Int) z1 n (IntKind.i64.wrap (IntKind.i64.wrap ((v : Int) * 85) + (d : Int))) (IntKind.i64.wrap ((k : Int) + 1)) = some (outV (uv g m (k + 1) (v * 85 + d))) := by
      intro d hd
      have e : IntKind.i64.wrap (IntKind.i64.wrap ((v : Int) * 85) + (d : Int)) = ((v * 85 + d : Nat) : Int) := by
        rw [wrap_id (x := (v : Int) * 85) (by omega), wrap_id (by omega)]
        omega
      rw [e, wrap_succ (by omega)]
      exact unl_L2 s i z1 g hgs hg m (k + 1) n _ (by omega) (by omega) (by rw [Nat.pow_succ]; omega)
    rw [ref3_unletter_L2, hgs, decide_eq_true (by omega), cond_true, uv]
    by_cases h : k < g.length
    · rw [if_pos h, decide_eq_true (by omega), cond_true, chk_in h, nat_toNat]
      have hx := UInt8.toNat_lt (g.getD k 0)
      generalize (g.getD k 0).toNat = x at hx
      rw [wrap_id (x := ((x : Nat) : Int)) (by omega), lett_eq, wrap_id (x := ((x : Nat) : Int) - 33) (by omega), call_some]
      by_cases hbad : x < 33 ∨ 117 < x
      · have e : (bif decide ((x : Int) - 33 < 0) then true else decide ((x : Int) - 33 > 84)) = true := by
          rcases hbad with h | h
          · rw [decide_eq_true (by omega)]; rfl
          · rw [decide_eq_true (p := (x : Int) - 33 > 84) (by omega)]; cases decide ((x : Int) - 33 < 0) <;> rfl
        rw [e, if_pos hbad]
        rfl
      · have e : (bif decide ((x : Int) - 33 < 0) then true else decide ((x : Int) - 33 > 84)) = false := by
          rw [decide_eq_false (by omega), decide_eq_false (by omega)]; rfl
        rw [e, if_neg hbad, cond_false, show (x : Int) - 33 = ((x - 33 : Nat) : Int) by omega]
        exact next _ (by omega)
    · rw [if_neg h, decide_eq_false (by omega), cond_false, call_some]
      exact next 84 (by decide)

theorem unl_loop {F : Nat} (s : List UInt8) (hs : s.length ≤ 131072) (hF : 20 ≤ F) : ∀ (k : Nat) (xs acc : List UInt8) (i n : Nat), s.drop i = xs → i + xs.length = s.length → xs.length ≤ k → k < n → acc.length ≤ 65536 → ref3_unletter_L0 F s n acc (i : Int) = some (outS (txt k xs acc))
  | k, [], acc, i, n, hd, hl, hk, hn, ha => by
    obtain ⟨n, rfl⟩ : ∃ q, n = q + 1 := ⟨n - 1, by omega⟩
    have : i = s.length := by simpa using hl
    subst this
    rw [ref3_unletter_L0, dec_end]
    cases k <;> rfl
  | 0, c :: r, acc, i, n, hd, hl, hk, hn, ha => by simp at hk
  | k + 1, c :: r, acc, i, n, hd, hl, hk, hn, ha => by
    obtain ⟨n, rfl⟩ : ∃ q, n = q + 1 := ⟨n - 1, by omega⟩
    obtain ⟨h1, h2, h3, h4⟩ := drop_cons hd
    have hcl : (c :: r).length = r.length + 1 := rfl
    have hkr : r.length ≤ k := by simpa using hk
    have e1 : ∀ k : Nat, s.drop (i + k) = (c :: r).drop k := fun k => by rw [← hd, List.drop_drop]
    have big : ∀ (l : List UInt8) (j : Nat), l.length ≤ 66000 → 1 ≤ j → j ≤ r.length + 1 → (bif (decide ((l.length : Int) > (65536 : Int))) then some (.esc ([], (2 : Int))) else ref3_unletter_L0 F s n l ((i + j : Nat) : Int)) = some (outS (if 65536 < l.length then .inr 2 else txt k ((c :: r).drop j) l)) := by
      intro l j h5 h6 h7
      by_cases hbig : 65536 < l.length
      · rw [decide_eq_true (by omega), if_pos hbig]
        rfl
      · rw [decide_eq_false (by omega), if_neg hbig, cond_false]
        exact unl_loop s hs hF k _ l (i + j) n (e1 j) (by simp; omega) (by simp; omega) (by omega) (by omega)
    rw [ref3_unletter_L0, dec_lt h1, cond_true, chk_in h1, nat_toNat, h2, txt]
    by_cases hz : c.toNat = 122
    · have : (((c.toNat : Nat) : Int) == 122) = true := by rw [beq_iff_eq]; omega
      have hl4 : [(UInt8.ofNat (0 : Int).toNat), (UInt8.ofNat (0 : Int).toNat), (UInt8.ofNat (0 : Int).toNat), (UInt8.ofNat (0 : Int).toNat)] = ([0, 0, 0, 0] : List UInt8) := rfl
      rw [this, cond_true, if_pos hz, hl4, chk_pos (by simp; omega), lett_eq, wrap_succ (by omega)]
      simp only [callE_go]
      exact big _ 1 (by simp; omega) (by omega) (by omega)
    · have : (((c.toNat : Nat) : Int) == 122) = false := by rw [beq_eq_false_iff_ne]; omega
      rw [this, cond_false, if_neg hz]
      have hw : IntKind.i64.wrap ((i : Int) + 5) = ((i + 5 : Nat) : Int) := by rw [wrap_id (by omega)]; omega
      have hm : (if ((i + 5 : Nat) : Int) < (s.length : Int) then ((i + 5 : Nat) : Int) else (s.length : Int)) = ((min (i + 5) s.length : Nat) : Int) := by
        split <;> omega
      have ht : (s.drop i).take (min (i + 5) s.length - i) = (c :: r).take 5 := by
        rw [hd]
        rcases Nat.le_total (i + 5) s.length with h | h
        · rw [Nat.min_eq_left h, Nat.add_sub_cancel_left]
        · rw [Nat.min_eq_right h, List.take_of_length_le (by omega), List.take_of_length_le (by omega)]
      have hgl : ((c :: r).take 5).length = min 5 (r.length + 1) := by rw [List.length_take, hcl]
      rw [hw, hm, lett_eq, chk_pos ⟨by omega, by omega, by omega⟩]
      have hL : ref3_unletter_L2 F s (i : Int) ((min (i + 5) s.length : Nat) : Int) F 0 0 = some (outV (uv ((c :: r).take 5) 5 0 0)) := unl_L2 s i _ _ (by rw [nat_toNat, nat_toNat]; exact ht) (by omega) 5 0 F 0 (by omega) (by omega) (by decide)
      rw [hL]
      simp only [nat_toNat, ht]
      have hlt := uv_lt ((c :: r).take 5) 5 0 0
      unfold ungS
      cases hu : uv ((c :: r).take 5) 5 0 0 with
      | none => rfl
      | some v =>
        have hv := hlt v hu
        simp only [outV, callE_go]
        by_cases hl1 : ((c :: r).take 5).length = 1
        · have : ((((c :: r).take 5).length : Int) == 1) = true := by rw [hl1]; rfl
          rw [if_pos hl1, this]
          rfl
        · have : ((((c :: r).take 5).length : Int) == 1) = false := by rw [beq_eq_false_iff_ne]; omega
          rw [if_neg hl1, this, cond_false]
          by_cases hbig : 4294967296 ≤ v
          · rw [decide_eq_true (by omega), if_pos hbig]
            rfl
          · have q1 : IntKind.i64.wrap (((v : Nat) : Int).tdiv 16777216) = ((v / 16777216 : Nat) : Int) := by
              rw [Int.tdiv_eq_ediv_of_nonneg (by omega), wrap_id (by omega)]; omega
            have q2 : (IntKind.i64.wrap (((v : Nat) : Int).tdiv 65536)).tmod 256 = ((v / 65536 % 256 : Nat) : Int) := by
              rw [Int.tdiv_eq_ediv_of_nonneg (by omega), wrap_id (by omega), Int.tmod_eq_emod_of_nonneg (by omega)]; omega
            have q3 : (IntKind.i64.wrap (((v : Nat) : Int).tdiv 256)).tmod 256 = ((v / 256 % 256 : Nat) : Int) := by
              rw [Int.tdiv_eq_ediv_of_nonneg (by omega), wrap_id (by omega), Int.tmod_eq_emod_of_nonneg (by omega)]; omega
            have q4 : (((v : Nat) : Int)).tmod 256 = ((v % 256 : Nat) : Int) := by
              rw [Int.tmod_eq_emod_of_nonneg (by omega)]; omega
            have hw1 : IntKind.i64.wrap ((((c :: r).take 5).length : Int) - 1) = ((((c :: r).take 5).length - 1 : Nat) : Int) := wrap_pred (by omega) (by omega)
            have hmod : ∀ x : Nat, UInt8.ofNat (x % 256) = UInt8.ofNat x := fun x => by apply UInt8.toNat_inj.1; simp
            rw [decide_eq_false (by omega), if_neg hbig, cond_false, q1, q2, q3, q4, chk_pos (u8_wrap_ofNat _).2, chk_pos (u8_wrap_ofNat _).2, chk_pos (u8_wrap_ofNat _).2, chk_pos (u8_wrap_ofNat _).2, hw1]
            rw [(u8_wrap_ofNat _).1, (u8_wrap_ofNat _).1, (u8_wrap_ofNat _).1, (u8_wrap_ofNat _).1, hmod, hmod, hmod]
            have hb : [UInt8.ofNat (v / 16777216), UInt8.ofNat (v / 65536), UInt8.ofNat (v / 256), UInt8.ofNat v] = bytes4 v := rfl
            have hb4 : (bytes4 v).length = 4 := rfl
            have hc1 : (0 : Int) ≤ 0 ∧ (0 : Int) ≤ ((((c :: r).take 5).length - 1 : Nat) : Int) ∧ ((((c :: r).take 5).length - 1 : Nat) : Int) ≤ ((bytes4 v).length : Int) := ⟨by decide, by omega, by omega⟩
            have htk : ((bytes4 v).drop (0 : Int).toNat).take (((((c :: r).take 5).length - 1 : Nat) : Int).toNat - (0 : Int).toNat) = (bytes4 v).take (((c :: r).take 5).length - 1) := rfl
            have hbl : ((bytes4 v).take (((c :: r).take 5).length - 1)).length = ((c :: r).take 5).length - 1 := by rw [List.length_take, hb4]; omega
            rw [hb, chk_pos hc1, lett_eq, htk, Lettered_eq _ (by omega) (by omega), lettered_small _ (by omega) (by omega), call_some, beq_dec]
            by_cases hgg : grp ((bytes4 v).take (((c :: r).take 5).length - 1)) = (c :: r).take 5
            · rw [if_pos hgg, decide_eq_false (not_not_intro hgg), cond_false, lett_eq, chk_pos hc1, lett_eq, htk, chk_pos (by omega), wrap_id (by omega)]
              simp only [callE_go]
              rw [show ((i : Int) + (((c :: r).take 5).length : Int)) = ((i + ((c :: r).take 5).length : Nat) : Int) from rfl, big _ _ (by simp; omega) (by omega) (by omega)]
              have : (c :: r).drop ((c :: r).take 5).length = (c :: r).drop 5 := by
                rw [hgl]
                rcases Nat.le_total 5 (r.length + 1) with h | h
                · rw [Nat.min_eq_left h]
                · rw [Nat.min_eq_right h, List.drop_eq_nil_of_le (Nat.le_of_eq hcl), List.drop_eq_nil_of_le (by omega)]
              rw [this]
            · rw [if_neg hgg, decide_eq_true hgg]
              rfl

theorem txt_len : ∀ (k : Nat) (xs acc l : List UInt8), acc.length ≤ 65536 → txt k xs acc = .inl l → l.length ≤ 65536
  | k, [], acc, l, ha, h => by
    have : txt k [] acc = .inl acc := by cases k <;> rfl
    rw [this] at h
    cases h
    exact ha
  | 0, c :: r, acc, l, ha, h => by rw [txt] at h; cases h
  | k + 1, c :: r, acc, l, ha, h => by
    rw [txt] at h
    split at h
    · split at h
      · cases h
      · exact txt_len k _ _ l (by omega) h
    · split at h
      · cases h
      · split at h
        · cases h
        · exact txt_len k _ _ l (by omega) h
theorem unp_len (copies : Bool) : ∀ (k : Nat) (xs acc l : List UInt8), acc.length ≤ 65536 → unp copies k xs acc = .inl l → l.length ≤ 65536
  | k, [], acc, l, ha, h => by
    have : unp copies k [] acc = .inl acc := by cases k <;> rfl
    rw [this] at h
    cases h
    exact ha
  | 0, c :: r, acc, l, ha, h => by rw [unp] at h; cases h
  | k + 1, c :: r, acc, l, ha, h => by
    rw [unp] at h
    split at h
    · cases h
    · split at h
      · cases h
      · exact unp_len copies k _ _ l (by omega) h
theorem pstep_err {copies : Bool} {c : Nat} {r acc : List UInt8} {e : Int} (h : pstep copies c r acc = .inl e) : (e != 0) = true := by
  unfold pstep at h
  repeat' split at h
  all_goals first | (cases h; done) | (simp only [Sum.inl.injEq] at h; subst h; rfl) | (simp at h; done)
theorem unp_err (copies : Bool) : ∀ (k : Nat) (xs acc : List UInt8) (e : Int), unp copies k xs acc = .inr e → (e != 0) = true
  | k, [], acc, e, h => by
    have : unp copies k [] acc = .inl acc := by cases k <;> rfl
    rw [this] at h
    cases h
  | 0, c :: r, acc, e, h => by rw [unp] at h; cases h; rfl
  | k + 1, c :: r, acc, e, h => by
    rw [unp] at h
    split at h
    · rename_i h2; cases h; exact pstep_err h2
    · split at h
      · cases h; rfl
      · exact unp_err copies k _ _ e h
theorem txt_err : ∀ (k : Nat) (xs acc : List UInt8) (e : Int), txt k xs acc = .inr e → (e != 0) = true
  | k, [], acc, e, h => by
    have : txt k [] acc = .inl acc := by cases k <;> rfl
    rw [this] at h
    cases h
  | 0, c :: r, acc, e, h => by rw [txt] at h; cases h; rfl
  | k + 1, c :: r, acc, e, h => by
    rw [txt] at h
    split at h
    · split at h
      · cases h; rfl
      · exact txt_err k _ _ e h
    · split at h
      · rename_i h2; cases h; exact ungS_err h2
      · split at h
        · cases h; rfl
        · exact txt_err k _ _ e h

/-- One coding, undone. -/
def dec1 (f : S_FilterStep) (s : List UInt8) : List UInt8 ⊕ Int :=
  if f.f0 = 1 then unp false s.length s [] else if f.f0 = 2 then .inl (rowsD f.f1.toNat s []) else if f.f0 = 3 then unp true s.length s [] else txt s.length s []
theorem dec1_err {f : S_FilterStep} {s : List UInt8} {e : Int} (h : dec1 f s = .inr e) : (e != 0) = true := by
  unfold dec1 at h
  split at h
  · exact unp_err _ _ _ _ _ h
  split at h
  · cases h
  split at h
  · exact unp_err _ _ _ _ _ h
  · exact txt_err _ _ _ _ h
theorem dec1_len {f : S_FilterStep} {s l : List UInt8} (hs : s.length ≤ 65536) (h : dec1 f s = .inl l) : l.length ≤ 65536 := by
  unfold dec1 at h
  split at h
  · exact unp_len _ _ _ _ _ (by simp) h
  split at h
  · simp only [Sum.inl.injEq] at h
    subst h
    rw [rowsD_len]
    simpa using hs
  split at h
  · exact unp_len _ _ _ _ _ (by simp) h
  · exact txt_len _ _ _ _ (by simp) h

def Valid (f : S_FilterStep) : Prop := 1 ≤ f.f0 ∧ f.f0 ≤ 4 ∧ (f.f0 = 2 → 1 ≤ f.f1 ∧ f.f1 ≤ 1024)

theorem coding_eq {F : Nat} (f : S_FilterStep) (hv : Valid f) (s : List UInt8) (hs : s.length ≤ 65536) (hF : 200000 ≤ F) : (call (filter_codingOf F f) fun y1 => I_filter_coding_decode F y1 s) = some (fin2 (dec1 f s)) := by
  unfold filter_codingOf dec1
  obtain ⟨h1, h2, h3⟩ := hv
  by_cases e1 : f.f0 = 1
  · have : (f.f0 == 1) = true := beq_iff_eq.2 e1
    rw [this, if_pos e1]
    exact runs_eq (S_filter_copies.mk) s (by omega) (by omega) (by omega)
  · have q1 : (f.f0 == 1) = false := beq_eq_false_iff_ne.2 e1
    rw [q1, if_neg e1]
    by_cases e2 : f.f0 = 2
    · have : (f.f0 == 2) = true := beq_iff_eq.2 e2
      obtain ⟨h4, h5⟩ := h3 e2
      rw [this, if_pos e2]
      obtain ⟨N, hN⟩ := Int.eq_ofNat_of_zero_le (by omega : 0 ≤ f.f1)
      simp only [cond_false, cond_true, call_some, I_filter_coding_decode]
      rw [rows_eq _ N (by simpa using hN) (by omega) (by omega) s (by omega) (by omega), hN]
      rfl
    · have q2 : (f.f0 == 2) = false := beq_eq_false_iff_ne.2 e2
      rw [q2, if_neg e2]
      by_cases e3 : f.f0 = 3
      · have : (f.f0 == 3) = true := beq_iff_eq.2 e3
        rw [this, if_pos e3]
        simp only [cond_false, cond_true, call_some, I_filter_coding_decode]
        unfold filter_copies_decode
        rw [show filter_copies_decode_L0 F s F [] 0 = some (outS (unp true s.length s [])) from copies_loop (by omega) s (by omega) s.length s [] 0 F rfl (by simp) (Nat.le_refl _) (by omega) (by simp)]
        cases unp true s.length s [] <;> rfl
      · have q3 : (f.f0 == 3) = false := beq_eq_false_iff_ne.2 e3
        rw [q3, if_neg e3]
        simp only [cond_false, call_some, I_filter_coding_decode]
        unfold filter_text_decode
        rw [text_loop (by omega) s.length s [] F (by omega) (Nat.le_refl _) (by omega) (by simp)]
        cases hu : txt s.length s [] with
        | inl l =>
          have := txt_len _ _ _ _ (by simp) hu
          simp only [outS, callE_go, fin2]
          rw [chk_pos (by omega)]
        | inr e => rfl

theorem ref_eq {F : Nat} (a0 : List S_FilterStep) (v2 : Int) (f : S_FilterStep) (hf : (a0.getD (IntKind.i64.wrap ((IntKind.i64.wrap ((a0.length : Int) - (1 : Int))) - v2)).toNat (S_FilterStep.mk 0 0)) = f) (hv : Valid f) (s : List UInt8) (hs : s.length ≤ 65536) (hF : 200000 ≤ F) :
    (lett ((a0.getD (IntKind.i64.wrap ((IntKind.i64.wrap ((a0.length : Int) - (1 : Int))) - v2)).toNat (S_FilterStep.mk 0 0)).f0) fun z4 =>
        bif (z4 == (1 : Int)) then
          call (ref3_unpiece F s false) fun y1 =>
          some (y1.1, y1.2)
        else
          bif (z4 == (3 : Int)) then
            call (ref3_unpiece F s true) fun y2 =>
            some (y2.1, y2.2)
          else
            bif (z4 == (4 : Int)) then
              call (ref3_unletter F s) fun y3 =>
              some (y3.1, y3.2)
            else
              call (ref3_Decoded_L3 F a0 s v2 F [] (0 : Int))
                fun v6 =>
              some (v6, (0 : Int))) = some (fin2 (dec1 f s)) := by
  obtain ⟨h1, h2, h3⟩ := hv
  have hup : ∀ copies : Bool, ref3_unpiece F s copies = some (fin2 (unp copies s.length s [])) := by
    intro copies
    unfold ref3_unpiece
    rw [ref_loop (by omega) copies s.length s [] F (by omega) (Nat.le_refl _) (by omega) (by simp)]
    cases unp copies s.length s [] <;> rfl
  rw [hf, lett_eq]
  unfold dec1
  by_cases e1 : f.f0 = 1
  · have : (f.f0 == 1) = true := beq_iff_eq.2 e1
    rw [this, if_pos e1, cond_true, hup, call_some]
  · have q1 : (f.f0 == 1) = false := beq_eq_false_iff_ne.2 e1
    rw [q1, if_neg e1, cond_false]
    by_cases e3 : f.f0 = 3
    · have : (f.f0 == 3) = true := beq_iff_eq.2 e3
      have q2 : ¬ f.f0 = 2 := by omega
      rw [this, if_neg q2, if_pos e3, cond_true, hup, call_some]
    · have q3 : (f.f0 == 3) = false := beq_eq_false_iff_ne.2 e3
      rw [q3, cond_false]
      by_cases e4 : f.f0 = 4
      · have : (f.f0 == 4) = true := beq_iff_eq.2 e4
        have q2 : ¬ f.f0 = 2 := by omega
        rw [this, if_neg q2, if_neg e3, cond_true]
        unfold ref3_unletter
        rw [show ref3_unletter_L0 F s F [] 0 = some (outS (txt s.length s [])) from unl_loop s (by omega) (by omega) s.length s [] 0 F rfl (by simp) (Nat.le_refl _) (by omega) (by simp)]
        cases txt s.length s [] <;> rfl
      · have q4 : (f.f0 == 4) = false := beq_eq_false_iff_ne.2 e4
        have e2 : f.f0 = 2 := by omega
        obtain ⟨h4, h5⟩ := h3 e2
        rw [q4, if_pos e2, cond_false]
        obtain ⟨N, hN⟩ := Int.eq_ofNat_of_zero_le (by omega : 0 ≤ f.f1)
        rw [show ref3_Decoded_L3 F a0 s v2 F [] 0 = some (rowsD N s []) from ref_rows a0 s v2 N (by rw [hf]; exact hN) (by omega) (by omega) (by omega) s [] F rfl (by simp) (by omega), hN]
        rfl

/-- Codings in the order in which they are undone. -/
def chain : List S_FilterStep → List UInt8 → List UInt8 ⊕ Int
  | [], s => .inl s
  | f :: fs, s => match dec1 f s with
    | .inr e => .inr e
    | .inl t => chain fs t

theorem take_rev {l : List S_FilterStep} {i : Nat} (hi : i < l.length) : (l.take (i + 1)).reverse = l.getD i (S_FilterStep.mk 0 0) :: (l.take i).reverse := by
  rw [List.take_add_one, List.getElem?_eq_getElem hi, List.reverse_append, List.getD_eq_getElem?_getD, List.getElem?_eq_getElem hi]
  rfl

theorem decode_loop {F : Nat} (l : List S_FilterStep) (hv : ∀ f ∈ l, Valid f) (hF : 200000 ≤ F) : ∀ (i n : Nat) (s : List UInt8), i ≤ l.length → i < n → i ≤ 4 → s.length ≤ 65536 → filter_Decode_L0 F l n s ((i : Int) - 1) = some (outS (chain (l.take i).reverse s))
  | 0, n, s, hi, hn, h4, hs => by
    obtain ⟨n, rfl⟩ : ∃ q, n = q + 1 := ⟨n - 1, by omega⟩
    rw [filter_Decode_L0, decide_eq_false (by omega)]
    rfl
  | i + 1, n, s, hi, hn, h4, hs => by
    obtain ⟨n, rfl⟩ : ∃ q, n = q + 1 := ⟨n - 1, by omega⟩
    have he : ((i + 1 : Nat) : Int) - 1 = (i : Int) := by omega
    have hmem : l.getD i (S_FilterStep.mk 0 0) ∈ l := by
      rw [List.getD_eq_getElem?_getD, List.getElem?_eq_getElem (by omega)]
      exact List.getElem_mem _
    rw [he, filter_Decode_L0, decide_eq_true (by omega), cond_true, chk_in (by omega), nat_toNat, take_rev (by omega), chain]
    have hc := coding_eq (F := F) _ (hv _ hmem) s hs hF
    generalize l.getD i (S_FilterStep.mk 0 0) = f at hc
    cases hco : filter_codingOf F f with
    | none => rw [hco] at hc; cases hc
    | some y =>
      rw [hco] at hc
      simp only [call_some] at hc ⊢
      rw [hc, call_some]
      cases hd : dec1 f s with
      | inr e =>
        simp only [fin2]
        rw [dec1_err hd]
        rfl
      | inl t =>
        simp only [fin2, bne_self_eq_false, cond_false]
        rw [wrap_id (by omega)]
        exact decode_loop l hv hF i n t (by omega) (by omega) (by omega) (dec1_len hs hd)

theorem decoded_loop {F : Nat} (l : List S_FilterStep) (hv : ∀ f ∈ l, Valid f) (hF : 200000 ≤ F) (h4 : l.length ≤ 4) : ∀ (i n j : Nat) (s : List UInt8), i + j = l.length → i < n → s.length ≤ 65536 → ref3_Decoded_L0 F l n s (j : Int) = some (outS (chain (l.take i).reverse s))
  | 0, n, j, s, hi, hn, hs => by
    obtain ⟨n, rfl⟩ : ∃ q, n = q + 1 := ⟨n - 1, by omega⟩
    obtain rfl : j = l.length := by omega
    rw [ref3_Decoded_L0, dec_end]
    rfl
  | i + 1, n, j, s, hi, hn, hs => by
    obtain ⟨n, rfl⟩ : ∃ q, n = q + 1 := ⟨n - 1, by omega⟩
    have hmem : l.getD i (S_FilterStep.mk 0 0) ∈ l := by
      rw [List.getD_eq_getElem?_getD, List.getElem?_eq_getElem (by omega)]
      exact List.getElem_mem _
    have hw : IntKind.i64.wrap (IntKind.i64.wrap ((l.length : Int) - 1) - (j : Int)) = (i : Int) := by
      rw [wrap_id (x := (l.length : Int) - 1) (by omega), wrap_id (by omega)]
      omega
    have hr := ref_eq (F := F) l (j : Int) (l.getD i (S_FilterStep.mk 0 0)) (by rw [hw, nat_toNat]) (hv _ hmem) s hs hF
    rw [ref3_Decoded_L0, dec_lt (by omega), cond_true, hr, take_rev (by omega), chain, hw, chk_in (by omega), call_some]
    cases hd : dec1 (l.getD i (S_FilterStep.mk 0 0)) s with
    | inr e =>
      simp only [fin2]
      rw [dec1_err hd]
      rfl
    | inl t =>
      simp only [fin2, bne_self_eq_false, cond_false]
      rw [wrap_succ (by omega)]
      exact decoded_loop l hv hF h4 i n (j + 1) t (by omega) (by omega) (dec1_len hs hd)

theorem check_L0 {F : Nat} (l : List S_FilterStep) : ∀ (n : Nat) (v : Int), filter_Check_L0 F l n v = ref3_StepError_L0 F l n v
  | 0, _ => rfl
  | n + 1, v => by
    rw [filter_Check_L0, ref3_StepError_L0, check_L0 l n]
theorem check_eq {F : Nat} (l : List S_FilterStep) : filter_Check F l = ref3_StepError F l := by
  unfold filter_Check ref3_StepError
  rw [check_L0]

/-- The first error of a chain. -/
def stepErr (f : S_FilterStep) : Int := if f.f0 < 1 ∨ 4 < f.f0 then 14 else if f.f0 = 2 ∧ (f.f1 < 1 ∨ 1024 < f.f1) then 3 else if f.f0 ≠ 2 ∧ f.f1 ≠ 0 then 4 else 0
def firstErr : List S_FilterStep → Int
  | [] => 0
  | f :: fs => if stepErr f = 0 then firstErr fs else stepErr f
theorem valid_of : ∀ (l : List S_FilterStep), firstErr l = 0 → ∀ f ∈ l, Valid f
  | [], _, f, h => by cases h
  | g :: fs, h, f, hf => by
    rw [firstErr] at h
    split at h
    · rename_i hg
      rcases List.mem_cons.1 hf with rfl | hf
      · unfold stepErr at hg
        unfold Valid
        split at hg
        · cases hg
        · split at hg
          · cases hg
          · rename_i q1 q2
            omega
      · exact valid_of fs h f hf
    · exact absurd h (by assumption)
theorem err_loop {F : Nat} (l : List S_FilterStep) (hl : l.length ≤ 4) : ∀ (xs : List S_FilterStep) (i n : Nat), l.drop i = xs → i + xs.length = l.length → xs.length < n → filter_Check_L0 F l n (i : Int) = some (if firstErr xs = 0 then .go () else .esc (firstErr xs))
  | [], i, n, hd, hi, hn => by
    obtain ⟨n, rfl⟩ : ∃ q, n = q + 1 := ⟨n - 1, by omega⟩
    have : i = l.length := by simpa using hi
    subst this
    rw [filter_Check_L0, dec_end]
    rfl
  | f :: xs, i, n, hd, hi, hn => by
    obtain ⟨n, rfl⟩ : ∃ q, n = q + 1 := ⟨n - 1, by omega⟩
    have hlt : i < l.length := by simp at hi; omega
    have h2 := List.drop_eq_getElem_cons hlt
    rw [hd] at h2
    injection h2 with h3 h4
    have hg : l.getD i (S_FilterStep.mk 0 0) = f := by
      rw [List.getD_eq_getElem?_getD, List.getElem?_eq_getElem hlt, h3]
      rfl
    have ih := err_loop (F := F) l hl xs (i + 1) n h4.symm (by simp at hi; omega) (by simpa using hn)
    rw [filter_Check_L0, dec_lt hlt, cond_true, chk_in hlt]
    simp only [nat_toNat, hg, lett_eq]
    rw [firstErr]
    unfold stepErr
    by_cases c1 : f.f0 < 1 ∨ 4 < f.f0
    · have : (bif decide (f.f0 < 1) then true else decide (f.f0 > 4)) = true := by
        rcases c1 with h | h
        · rw [decide_eq_true h]; rfl
        · rw [decide_eq_true (p := f.f0 > 4) h]; cases decide (f.f0 < 1) <;> rfl
      rw [this, if_pos c1]
      rfl
    · have : (bif decide (f.f0 < 1) then true else decide (f.f0 > 4)) = false := by
        rw [decide_eq_false (by omega), decide_eq_false (by omega)]; rfl
      rw [this, if_neg c1, cond_false]
      by_cases c2 : f.f0 = 2 ∧ (f.f1 < 1 ∨ 1024 < f.f1)
      · have : (bif (f.f0 == 2) then (bif decide (f.f1 < 1) then true else decide (f.f1 > 1024)) else false) = true := by
          rw [beq_iff_eq.2 c2.1]
          rcases c2.2 with h | h
          · rw [decide_eq_true h]; rfl
          · rw [decide_eq_true (p := f.f1 > 1024) h]; cases decide (f.f1 < 1) <;> rfl
        rw [this, if_pos c2]
        rfl
      · have : (bif (f.f0 == 2) then (bif decide (f.f1 < 1) then true else decide (f.f1 > 1024)) else false) = false := by
          by_cases h : f.f0 = 2
          · rw [beq_iff_eq.2 h, decide_eq_false (by omega), decide_eq_false (by omega)]; rfl
          · rw [beq_eq_false_iff_ne.2 h]; rfl
        rw [this, if_neg c2, cond_false]
        by_cases c3 : f.f0 ≠ 2 ∧ f.f1 ≠ 0
        · have : (bif (f.f0 != 2) then (f.f1 != 0) else false) = true := by
            rw [bne_iff_ne.2 c3.1, bne_iff_ne.2 c3.2]; rfl
          rw [this, if_pos c3]
          rfl
        · have : (bif (f.f0 != 2) then (f.f1 != 0) else false) = false := by
            by_cases h : f.f0 = 2
            · rw [h]; rfl
            · have h5 : f.f1 = 0 := by omega
              rw [h5]; cases (f.f0 != 2) <;> rfl
          rw [this, if_neg c3, cond_false, if_pos rfl, wrap_succ (by omega)]
          exact ih
theorem Check_eq {F : Nat} (hF : 6 ≤ F) (l : List S_FilterStep) : filter_Check F l = some (if 4 < l.length then 2 else firstErr l) := by
  unfold filter_Check
  by_cases h : 4 < l.length
  · rw [decide_eq_true (by omega), if_pos h]
    rfl
  · rw [decide_eq_false (by omega), if_neg h, cond_false, show filter_Check_L0 F l F 0 = _ from err_loop l (by omega) l 0 F rfl (by simp) (by omega)]
    by_cases h0 : firstErr l = 0
    · rw [if_pos h0, h0]
      rfl
    · rw [if_neg h0]
      rfl

theorem filterDecode_law {F : Nat} (l : List S_FilterStep) (s : List UInt8) (hF : 200000 ≤ F) : law3_FilterDecodeMatchesReference F l s = some true := by
  obtain ⟨n, rfl⟩ : ∃ n, F = n + 40 := ⟨F - 40, by omega⟩
  have hx : ∃ y : List UInt8 × Int, filter_Decode (n + 40) l s = some y ∧ ref3_Decoded (n + 40) l s = some y := by
    unfold filter_Decode ref3_Decoded
    rw [← check_eq, Check_eq (by omega)]
    simp only [call_some]
    by_cases hb : ((if 4 < l.length then (2 : Int) else firstErr l) != 0) = true
    · rw [hb]
      exact ⟨_, rfl, rfl⟩
    · have hb' : ((if 4 < l.length then (2 : Int) else firstErr l) != 0) = false := by simpa using hb
      have h4 : ¬ 4 < l.length := by
        intro h
        rw [if_pos h] at hb'
        cases hb'
      rw [if_neg h4] at hb'
      have hfe : firstErr l = 0 := by simpa using hb'
      have hv := valid_of l hfe
      rw [if_neg h4, hfe]
      simp only [bne_self_eq_false, cond_false]
      by_cases hs : 65536 < s.length
      · rw [decide_eq_true (by omega)]
        exact ⟨_, rfl, rfl⟩
      · rw [decide_eq_false (by omega), cond_false]
        have h1 := decode_loop (F := n + 40) l hv hF l.length (n + 40) s (Nat.le_refl _) (by omega) (by omega) (by omega)
        have h2 : ref3_Decoded_L0 (n + 40) l (n + 40) s 0 = _ := decoded_loop (F := n + 40) l hv hF (by omega) l.length (n + 40) 0 s (by omega) (by omega) (by omega)
        rw [wrap_id (by omega), h1, h2]
        cases hc : chain (l.take l.length).reverse s with
        | inr e => exact ⟨_, rfl, rfl⟩
        | inl t =>
          simp only [outS, callE_go, cond_false]
          by_cases ht : 16384 < t.length
          · rw [decide_eq_true (by omega)]
            exact ⟨_, rfl, rfl⟩
          · rw [decide_eq_false (by omega)]
            unfold strings_Clone
            rw [chk_pos (by omega)]
            exact ⟨_, rfl, rfl⟩
  obtain ⟨y, hy1, hy2⟩ := hx
  unfold law3_FilterDecodeMatchesReference
  rw [fact_eq n, hy1, hy2, ← check_eq, Check_eq (by omega)]
  simp [call_some]
theorem filterDecode_total (l : List S_FilterStep) (s : List UInt8) : ∃ F, law3_FilterDecodeMatchesReference F l s = some true := ⟨200000, filterDecode_law l s (Nat.le_refl _)⟩
end Go.Vm.FilG
