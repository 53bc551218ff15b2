/-
  filter, plain law 3: pieces: runs and copies.
-/
import Derived.Test.YtmaolabjdmhinaaDoorFilLaw2
namespace Go.Vm.FilG

/-- m bytes more, each the one d places before. -/
def copyN (d : Nat) : Nat → List UInt8 → List UInt8
  | 0, acc => acc
  | m + 1, acc => copyN d m (acc ++ [acc.getD (acc.length - d) 0])
theorem copyN_len (d : Nat) : ∀ (m : Nat) (acc : List UInt8), (copyN d m acc).length = acc.length + m
  | 0, acc => rfl
  | m + 1, acc => by rw [copyN, copyN_len d m]; simp; omega

/-- One piece: an error, or the bytes so far and the rest. -/
def pstep (copies : Bool) (c : Nat) (r acc : List UInt8) : Int ⊕ (List UInt8 × List UInt8) :=
  if copies = false ∧ c = 128 then .inl 5
  else if c < 128 then if r.length < c + 1 then .inl 12 else .inr (acc ++ r.take (c + 1), r.drop (c + 1))
  else if copies then
    if r.length < 2 then .inl 12
    else if (r.getD 0 0).toNat * 256 + (r.getD 1 0).toNat = 0 ∨ acc.length < (r.getD 0 0).toNat * 256 + (r.getD 1 0).toNat then .inl 3
    else .inr (copyN ((r.getD 0 0).toNat * 256 + (r.getD 1 0).toNat) (c - 125) acc, r.drop 2)
  else if r.length < 1 then .inl 12 else .inr (acc ++ List.replicate (257 - c) (r.getD 0 0), r.drop 1)

theorem pstep_len {copies : Bool} {c : Nat} {r acc acc' r' : List UInt8} (hc : c < 256) (h : pstep copies c r acc = .inr (acc', r')) : r'.length ≤ r.length ∧ acc'.length ≤ acc.length + 256 ∧ ∃ j, 1 ≤ j ∧ r' = r.drop j ∧ r'.length + j = r.length := by
  unfold pstep at h
  split at h
  · cases h
  split at h
  · split at h
    · cases h
    · simp only [Sum.inr.injEq, Prod.mk.injEq] at h
      obtain ⟨rfl, rfl⟩ := h
      refine ⟨by simp, by simp; omega, c + 1, by omega, rfl, by simp; omega⟩
  · split at h
    · split at h
      · cases h
      · split at h
        · cases h
        · simp only [Sum.inr.injEq, Prod.mk.injEq] at h
          obtain ⟨rfl, rfl⟩ := h
          refine ⟨by simp, by rw [copyN_len]; omega, 2, by omega, rfl, by simp; omega⟩
    · split at h
      · cases h
      · simp only [Sum.inr.injEq, Prod.mk.injEq] at h
        obtain ⟨rfl, rfl⟩ := h
        refine ⟨by simp, by simp; omega, 1, by omega, rfl, by simp; omega⟩

/-- All pieces: the bytes, or an error. -/
def unp (copies : Bool) : Nat → List UInt8 → List UInt8 → List UInt8 ⊕ Int
  | _, [], acc => .inl acc
  | 0, _ :: _, _ => .inr 99
  | k + 1, c :: r, acc => match pstep copies c.toNat r acc with
    | .inl e => .inr e
    | .inr (acc', r') => if 65536 < acc'.length then .inr 2 else unp copies k r' acc'
def outS : List UInt8 ⊕ Int → Out (List UInt8) (List UInt8 × Int)
  | .inl l => .go l
  | .inr e => .esc ([], e)
def fin2 : List UInt8 ⊕ Int → List UInt8 × Int
  | .inl l => (l, 0)
  | .inr e => ([], e)

theorem drop_cons {s r : List UInt8} {c : UInt8} {i : Nat} (h : s.drop i = c :: r) : i < s.length ∧ s.getD i 0 = c ∧ s.drop (i + 1) = r ∧ s.length = i + 1 + r.length := by
  have hl : i < s.length := by
    rcases Nat.lt_or_ge i s.length with h' | h'
    · exact h'
    · rw [List.drop_eq_nil_of_le h'] at h; cases h
  have h2 := List.drop_eq_getElem_cons hl
  rw [h] at h2
  injection h2 with h3 h4
  refine ⟨hl, ?_, h4.symm, ?_⟩
  · rw [List.getD_eq_getElem?_getD, List.getElem?_eq_getElem hl, ← h3]
    rfl
  · have := congrArg List.length h
    simp at this
    omega

theorem nat_toNat (i : Nat) : ((i : Nat) : Int).toNat = i := rfl
theorem getD_rest {s r : List UInt8} {i j : Nat} (h : s.drop i = r) : s.getD (i + j) 0 = r.getD j 0 := by
  rw [← h, List.getD_eq_getElem?_getD, List.getD_eq_getElem?_getD, List.getElem?_drop]

theorem repeatL_one (x : UInt8) : ∀ n : Nat, Lib.repeatL [x] n = List.replicate n x
  | 0 => rfl
  | n + 1 => by
    have := repeatL_one x n
    simp [Lib.repeatL, List.replicate_succ] at *
    try exact this

theorem runs_loop {F : Nat} (s : List UInt8) (hs : s.length ≤ 65536 * 2) : ∀ (k : Nat) (xs acc : List UInt8) (i n : Nat), s.drop i = xs → i + xs.length = s.length → xs.length ≤ k → k < n → acc.length ≤ 65536 → filter_runs_decode_L0 F s n acc (i : Int) = some (outS (unp false k xs acc))
  | k, [], acc, i, n, hd, hl, hk, hn, ha => by
    obtain ⟨n, rfl⟩ : ∃ q, n = q + 1 := ⟨n - 1, by omega⟩
    have : i = s.length := by simpa using hl
    subst this
    rw [filter_runs_decode_L0, dec_end]
    cases k <;> rfl
  | 0, c :: r, acc, i, n, hd, hl, hk, hn, ha => by simp at hk
  | k + 1, c :: r, acc, i, n, hd, hl, hk, hn, ha => by
    obtain ⟨n, rfl⟩ : ∃ q, n = q + 1 := ⟨n - 1, by omega⟩
    obtain ⟨h1, h2, h3, h4⟩ := drop_cons hd
    have hc := c.toNat_lt
    have ih := runs_loop (F := F) s hs k
    rw [filter_runs_decode_L0, dec_lt h1, cond_true, chk_in h1, nat_toNat, h2]
    generalize hcc : c.toNat = m at hc
    have hwm : IntKind.i64.wrap (m : Int) = (m : Int) := wrap_id (by omega)
    have hw1 : IntKind.i64.wrap ((i : Int) + 1) = ((i + 1 : Nat) : Int) := wrap_succ (by omega)
    rw [hwm, hw1]
    have e1 : ∀ k : Nat, s.drop (i + 1 + k) = r.drop k := fun k => by rw [← h3, List.drop_drop]
    rw [unp, hcc]
    unfold pstep
    by_cases h128 : m = 128
    · subst h128
      simp [callE_esc', outS]
    · have hb : ((m : Int) == 128) = false := by simp; omega
      rw [hb, cond_false, if_neg (by simp [h128])]
      by_cases hlt : m < 128
      · have hd1 : decide ((m : Int) < 128) = true := by simp; omega
        have hz : IntKind.i64.wrap (((i + 1 : Nat) : Int) + (m : Int)) = ((i + 1 + m : Nat) : Int) := by rw [wrap_id (by omega)]; omega
        have hz1 : IntKind.i64.wrap (((i + 1 + m : Nat) : Int) + 1) = ((i + 1 + (m + 1) : Nat) : Int) := by rw [wrap_id (by omega)]; omega
        have hz2 : IntKind.i64.wrap (((i + 1 : Nat) : Int) + IntKind.i64.wrap ((m : Int) + 1)) = ((i + 1 + (m + 1) : Nat) : Int) := by rw [wrap_id (x := (m : Int) + 1) (by omega), wrap_id (by omega)]; omega
        simp only [hz, hz1, hz2, hd1, cond_true, lett_eq, if_pos hlt]
        by_cases hr : r.length < m + 1
        · have : decide (((i + 1 + (m + 1) : Nat) : Int) > (s.length : Int)) = true := by simp; omega
          rw [this, if_pos hr]
          rfl
        · have hf : decide (((i + 1 + (m + 1) : Nat) : Int) > (s.length : Int)) = false := by simp; omega
          have hne : (((i + 1 : Nat) : Int) == (s.length : Int)) = false := by simp; omega
          have hlen : (List.drop (i + 1) s).length = r.length := by rw [h3]
          rw [hf, hne, if_neg hr]
          simp only [cond_false, call_some]
          rw [chk_pos ⟨by omega, by omega, by omega⟩, nat_toNat, nat_toNat, h3, show i + 1 + (m + 1) - (i + 1) = m + 1 by omega]
          unfold strings_Builder_WriteString
          rw [chk_pos (by simp; omega)]
          simp only [call_some, callE_go, strings_Builder_Len]
          by_cases hbig : 65536 < (acc ++ r.take (m + 1)).length
          · have : decide (((acc ++ r.take (m + 1)).length : Int) > 65536) = true := decide_eq_true (by omega)
            rw [this, if_pos hbig]
            rfl
          · have : decide (((acc ++ r.take (m + 1)).length : Int) > 65536) = false := decide_eq_false (by omega)
            rw [this, if_neg hbig, cond_false]
            exact ih _ _ _ _ (e1 _) (by simp; omega) (by simp at hk ⊢; omega) (by omega) (by omega)
      · have hd1 : decide ((m : Int) < 128) = false := by simp; omega
        simp only [hd1, cond_false, cond_true, lett_eq, if_neg hlt, call_some, Bool.false_eq_true, if_false]
        by_cases hr : r.length < 1
        · have : (((i + 1 : Nat) : Int) == (s.length : Int)) = true := by simp; omega
          rw [this, if_pos hr]
          rfl
        · have hne : (((i + 1 : Nat) : Int) == (s.length : Int)) = false := by simp; omega
          have hw2 : IntKind.i64.wrap (((i + 1 : Nat) : Int) + 1) = ((i + 1 + 1 : Nat) : Int) := wrap_succ (by omega)
          have hw3 : IntKind.i64.wrap ((257 : Int) - (m : Int)) = ((257 - m : Nat) : Int) := by rw [wrap_id (by omega)]; omega
          rw [hne, if_neg hr, cond_false, hw2, hw3, chk_pos ⟨by omega, by omega, by omega⟩]
          simp only [nat_toNat, h3, Nat.add_sub_cancel_left]
          obtain ⟨x, r2, rfl⟩ : ∃ x r2, r = x :: r2 := by
            cases r with
            | nil => simp at hr
            | cons x r2 => exact ⟨x, r2, rfl⟩
          have ht : (x :: r2).take 1 = [x] := rfl
          have hx : (x :: r2).getD 0 0 = x := rfl
          rw [ht, hx, chk_pos ⟨by omega, by omega, by simp; omega⟩, repeatL_one]
          unfold strings_Builder_WriteString
          rw [chk_pos (by simp; omega)]
          simp only [call_some, callE_go, strings_Builder_Len]
          by_cases hbig : 65536 < (acc ++ List.replicate (257 - m) x).length
          · have : decide (((acc ++ List.replicate (257 - m) x).length : Int) > 65536) = true := decide_eq_true (by omega)
            rw [this, if_pos hbig]
            rfl
          · have : decide (((acc ++ List.replicate (257 - m) x).length : Int) > 65536) = false := decide_eq_false (by omega)
            rw [this, if_neg hbig, cond_false]
            exact ih _ _ _ _ (e1 1) (by simp at h4 ⊢; omega) (by simp at hk ⊢; omega) (by omega) (by omega)
end Go.Vm.FilG
