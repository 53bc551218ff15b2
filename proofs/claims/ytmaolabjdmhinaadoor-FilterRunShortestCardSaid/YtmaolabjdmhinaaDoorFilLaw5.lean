/-
  filter, plain law 5: rows; groups of characters.
-/
import Derived.Test.YtmaolabjdmhinaaDoorFilLaw4
namespace Go.Vm.FilG

def rowsD (N : Nat) : List UInt8 → List UInt8 → List UInt8
  | [], acc => acc
  | x :: xs, acc => rowsD N xs (acc ++ [if N ≤ acc.length then x + acc.getD (acc.length - N) 0 else x])
theorem rowsD_len (N : Nat) : ∀ (xs acc : List UInt8), (rowsD N xs acc).length = acc.length + xs.length
  | [], acc => rfl
  | x :: xs, acc => by rw [rowsD, rowsD_len N xs]; simp; omega
theorem rowsD_small (N : Nat) : ∀ (xs acc : List UInt8), acc.length + xs.length ≤ N → rowsD N xs acc = acc ++ xs
  | [], acc, _ => by simp [rowsD]
  | x :: xs, acc, h => by
    simp at h
    rw [rowsD, if_neg (by omega), rowsD_small N xs _ (by simp; omega)]
    simp
theorem rowsD_app (N : Nat) : ∀ (xs ys acc : List UInt8), rowsD N (xs ++ ys) acc = rowsD N ys (rowsD N xs acc)
  | [], ys, acc => rfl
  | x :: xs, ys, acc => by
    rw [List.cons_append, rowsD, rowsD_app N xs ys]
    rfl

theorem u8_add (x y : UInt8) : IntKind.u8.wrap (((x.toNat : Nat) : Int) + ((y.toNat : Nat) : Int)) = (((x + y).toNat : Nat) : Int) := by
  rw [UInt8.toNat_add]
  unfold IntKind.wrap
  simp [IntKind.bits, IntKind.signed]

theorem rows_loop {F : Nat} (z : S_filter_rows) (N : Nat) (hN : z.f0 = (N : Int)) (h1 : 1 ≤ N) (hN2 : N ≤ 1024) : ∀ (xs acc : List UInt8) (n : Nat), N ≤ acc.length → acc.length + xs.length ≤ 131072 → xs.length < n → filter_rows_decode_L0 F z n (acc ++ xs) (acc.length : Int) = some (rowsD N xs acc)
  | [], acc, n, ha, hl, hn => by
    obtain ⟨n, rfl⟩ : ∃ q, n = q + 1 := ⟨n - 1, by omega⟩
    rw [List.append_nil, filter_rows_decode_L0, dec_end]
    rfl
  | x :: xs, acc, n, ha, hl, hn => by
    obtain ⟨n, rfl⟩ : ∃ q, n = q + 1 := ⟨n - 1, by omega⟩
    have hlen : (acc ++ x :: xs).length = acc.length + xs.length + 1 := by simp; omega
    have hlt : acc.length < (acc ++ x :: xs).length := by omega
    have hl2 : (x :: xs).length = xs.length + 1 := rfl
    have hw : IntKind.i64.wrap ((acc.length : Int) - (N : Int)) = ((acc.length - N : Nat) : Int) := by rw [wrap_id (by omega)]; omega
    have g0 : (acc ++ x :: xs).getD acc.length 0 = x := by
      rw [List.getD_eq_getElem?_getD, List.getElem?_append_right (Nat.le_refl _)]
      simp
    have g1 : (acc ++ x :: xs).getD (acc.length - N) 0 = acc.getD (acc.length - N) 0 := by
      rw [List.getD_eq_getElem?_getD, List.getElem?_append_left (by omega), ← List.getD_eq_getElem?_getD]
    rw [filter_rows_decode_L0, dec_lt hlt, cond_true, chk_in hlt, hN, hw, chk_in (by omega)]
    simp only [nat_toNat, g0, g1, u8_add]
    rw [lett_eq, chk_in hlt, chk_pos (u8_in _), u8_back, wrap_succ (by omega)]
    have hset : (acc ++ x :: xs).set acc.length (x + acc.getD (acc.length - N) 0) = (acc ++ [x + acc.getD (acc.length - N) 0]) ++ xs := by
      rw [List.set_append_right _ _ (Nat.le_refl _), Nat.sub_self]
      simp
    have := rows_loop (F := F) z N hN h1 hN2 xs (acc ++ [x + acc.getD (acc.length - N) 0]) n (by simp; omega) (by simp; omega) (by simpa using hn)
    rw [hset]
    rw [show (((acc.length + 1 : Nat) : Int)) = (((acc ++ [x + acc.getD (acc.length - N) 0]).length : Nat) : Int) by simp, this, rowsD, if_pos ha]

theorem rows_eq {F : Nat} (z : S_filter_rows) (N : Nat) (hN : z.f0 = (N : Int)) (h1 : 1 ≤ N) (hN2 : N ≤ 1024) (s : List UInt8) (hs : s.length ≤ 131072) (hF : s.length < F) : filter_rows_decode F z s = some (rowsD N s [], 0) := by
  unfold filter_rows_decode
  by_cases h : N ≤ s.length
  · have ht : (s.take N).length = N := by simp; omega
    have := rows_loop (F := F) z N hN h1 hN2 (s.drop N) (s.take N) F (by omega) (by simp; omega) (by simp; omega)
    rw [List.take_append_drop, ht] at this
    rw [hN, this, call_some]
    have h2 := rowsD_app N (s.take N) (s.drop N) []
    rw [List.take_append_drop, rowsD_small N (s.take N) [] (by simp; omega)] at h2
    rw [h2]
    rfl
  · obtain ⟨F, rfl⟩ : ∃ q, F = q + 1 := ⟨F - 1, by omega⟩
    have hd : decide ((N : Int) < (s.length : Int)) = false := decide_eq_false (by omega)
    rw [hN, filter_rows_decode_L0, hd, cond_false, call_some, rowsD_small N s [] (by simp; omega)]
    rfl

theorem ref_rows {F : Nat} (a0 : List S_FilterStep) (s : List UInt8) (v2 : Int) (N : Nat) (hN : (a0.getD (IntKind.i64.wrap ((IntKind.i64.wrap ((a0.length : Int) - (1 : Int))) - v2)).toNat (S_FilterStep.mk 0 0)).f1 = (N : Int)) (h1 : 1 ≤ N) (hN2 : N ≤ 1024) (hs : s.length ≤ 131072) : ∀ (xs acc : List UInt8) (n : Nat), s.drop acc.length = xs → acc.length + xs.length = s.length → xs.length < n → ref3_Decoded_L3 F a0 s v2 n acc (acc.length : Int) = some (rowsD N xs acc)
  | [], acc, n, hd, hl, hn => by
    obtain ⟨n, rfl⟩ : ∃ q, n = q + 1 := ⟨n - 1, by omega⟩
    have : acc.length = s.length := by simpa using hl
    rw [ref3_Decoded_L3, this, dec_end]
    rfl
  | x :: xs, acc, n, hd, hl, hn => by
    obtain ⟨n, rfl⟩ : ∃ q, n = q + 1 := ⟨n - 1, by omega⟩
    obtain ⟨h2, h3, h4, h5⟩ := drop_cons hd
    rw [ref3_Decoded_L3, dec_lt h2, cond_true, chk_in h2]
    simp only [nat_toNat, h3, hN, lett_eq]
    have hv : (bif decide ((acc.length : Int) ≥ (N : Int)) then
          chk (0 ≤ (IntKind.i64.wrap ((acc.length : Int) - (N : Int))) ∧ (IntKind.i64.wrap ((acc.length : Int) - (N : Int))) < acc.length) <|
          some (IntKind.u8.wrap (((x.toNat : Nat) : Int) + ((acc.getD (IntKind.i64.wrap ((acc.length : Int) - (N : Int))).toNat 0).toNat : Int)))
        else
          some ((x.toNat : Nat) : Int)) = some ((((if N ≤ acc.length then x + acc.getD (acc.length - N) 0 else x).toNat : Nat) : Int)) := by
      by_cases h : N ≤ acc.length
      · have hd1 : decide ((acc.length : Int) ≥ (N : Int)) = true := decide_eq_true (by omega)
        have hw : IntKind.i64.wrap ((acc.length : Int) - (N : Int)) = ((acc.length - N : Nat) : Int) := by rw [wrap_id (by omega)]; omega
        rw [hd1, cond_true, hw, chk_in (by omega), nat_toNat, u8_add, if_pos h]
      · have hd1 : decide ((acc.length : Int) ≥ (N : Int)) = false := decide_eq_false (by omega)
        rw [hd1, cond_false, if_neg h]
    rw [hv, call_some, chk_pos (u8_in _), u8_back, chk_pos (by simp; omega), wrap_succ (by omega)]
    have := ref_rows (F := F) a0 s v2 N hN h1 hN2 hs xs (acc ++ [if N ≤ acc.length then x + acc.getD (acc.length - N) 0 else x]) n (by simpa using h4) (by simp; omega) (by simpa using hn)
    rw [show (((acc.length + 1 : Nat) : Int)) = (((acc ++ [if N ≤ acc.length then x + acc.getD (acc.length - N) 0 else x]).length : Nat) : Int) by simp, this]
    rfl

/-- The value of four bytes. -/
def b4 (g : List UInt8) (i : Nat) : Nat := (g.getD i 0).toNat
theorem b4_lt (g : List UInt8) (i : Nat) : b4 g i < 256 := UInt8.toNat_lt _
theorem b4_out (g : List UInt8) (i : Nat) (h : g.length ≤ i) : b4 g i = 0 := by
  unfold b4
  rw [List.getD_eq_getElem?_getD, List.getElem?_eq_none h]
  rfl
def val4 (g : List UInt8) : Nat := ((b4 g 0 * 256 + b4 g 1) * 256 + b4 g 2) * 256 + b4 g 3
theorem val4_lt (g : List UInt8) : val4 g < 4294967296 := by
  have h0 := b4_lt g 0; have h1 := b4_lt g 1; have h2 := b4_lt g 2; have h3 := b4_lt g 3
  unfold val4; omega
/-- A digit as a character. -/
def ch (d : Nat) : UInt8 := UInt8.ofNat (33 + d)
def digs (v : Nat) : List UInt8 := [ch (v / 52200625 % 85), ch (v / 614125 % 85), ch (v / 7225 % 85), ch (v / 85 % 85), ch (v % 85)]
/-- A group of one to four bytes in characters. -/
def grp (g : List UInt8) : List UInt8 := if val4 g = 0 ∧ g.length = 4 then [122] else (digs (val4 g)).take (g.length + 1)

theorem group_step {F n : Nat} (g : List UInt8) (v i : Nat) (hi : i < 4) (hv : v < 16777216) : filter_group_L0 F g (n + 1) (v : Int) (i : Int) = filter_group_L0 F g n ((v * 256 + b4 g i : Nat) : Int) ((i + 1 : Nat) : Int) := by
  have hd : decide ((i : Int) < 4) = true := decide_eq_true (by omega)
  have hb := b4_lt g i
  have hm : IntKind.u32.wrap ((v : Int) * 2 ^ (min (8 : Int).toNat IntKind.u32.bits)) = ((v * 256 : Nat) : Int) := by
    show IntKind.u32.wrap ((v : Int) * 256) = _
    rw [wrap_u32 (by omega)]
    omega
  rw [filter_group_L0, hd, cond_true, hm, wrap_succ (by omega)]
  by_cases h : i < g.length
  · have hd1 : decide ((i : Int) < (g.length : Int)) = true := decide_eq_true (by omega)
    rw [hd1, cond_true, chk_in h, nat_toNat]
    have hw : IntKind.u32.wrap (((g.getD i 0).toNat : Nat) : Int) = ((b4 g i : Nat) : Int) := wrap_u32 ⟨by omega, by have := b4_lt g i; unfold b4 at this; omega⟩
    have ho : IntKind.u32.wrap ((BitVec.ofInt IntKind.u32.bits ((v * 256 : Nat) : Int) ||| BitVec.ofInt IntKind.u32.bits ((b4 g i : Nat) : Int)).toNat : Int) = ((v * 256 + b4 g i : Nat) : Int) := by
      have h2 : (BitVec.ofInt IntKind.u32.bits ((v * 256 : Nat) : Int) ||| BitVec.ofInt IntKind.u32.bits ((b4 g i : Nat) : Int)).toNat = v * 256 + b4 g i := by
        show (BitVec.ofInt 32 ((v * 256 : Nat) : Int) ||| BitVec.ofInt 32 ((b4 g i : Nat) : Int)).toNat = _
        rw [BitVec.ofInt_natCast, BitVec.ofInt_natCast, BitVec.toNat_or, BitVec.toNat_ofNat, BitVec.toNat_ofNat, Nat.mod_eq_of_lt (by omega), Nat.mod_eq_of_lt (by omega)]
        have := Nat.two_pow_add_eq_or_of_lt (i := 8) (b := b4 g i) (by omega) v
        rw [Nat.mul_comm v 256]
        exact this.symm
      rw [h2, wrap_u32 (by omega)]
    rw [hw, ho, lett_eq, call_some]
  · have hd1 : decide ((i : Int) < (g.length : Int)) = false := decide_eq_false (by omega)
    have e : v * 256 + b4 g i = v * 256 := by have := b4_out g i (by omega); omega
    rw [hd1, cond_false, call_some, e]

theorem u8_digit (v : Nat) : IntKind.u8.wrap ((33 : Int) + (IntKind.u8.wrap (((v : Nat) : Int).tmod (85 : Int)))) = ((33 + v % 85 : Nat) : Int) := by
  have h : ((v : Nat) : Int).tmod 85 = ((v % 85 : Nat) : Int) := by rw [Int.tmod_eq_emod_of_nonneg (by omega)]; omega
  rw [h, wrap_u8 (x := ((v % 85 : Nat) : Int)) (by omega), wrap_u8 (by omega)]
  omega
theorem group_dstep {F n : Nat} (v : Nat) (l : List UInt8) (hl : l.length = 5) (i : Nat) (hi : i < 5) (hv : v < 4294967296) : filter_group_L2 F (n + 1) (v : Int) l (i : Int) = filter_group_L2 F n ((v / 85 : Nat) : Int) (l.set i (ch (v % 85))) ((i : Int) - 1) := by
  have hd : decide ((i : Int) ≥ 0) = true := decide_eq_true (by omega)
  have ht : ((v : Nat) : Int).tdiv 85 = ((v / 85 : Nat) : Int) := by rw [Int.tdiv_eq_ediv_of_nonneg (by omega)]; omega
  rw [filter_group_L2, hd, cond_true, chk_pos ⟨⟨by omega, by omega⟩, by omega⟩, u8_digit, chk_pos (by omega), ht, wrap_u32 (by omega), wrap_id (by omega)]
  rfl

theorem group_eq {F : Nat} (hF : 8 ≤ F) (g : List UInt8) (hg : g.length ≤ 4) : filter_group F g = some (grp g) := by
  obtain ⟨n, rfl⟩ : ∃ q, F = q + 8 := ⟨F - 8, by omega⟩
  unfold filter_group
  have h0 := b4_lt g 0; have h1 := b4_lt g 1; have h2 := b4_lt g 2; have h3 := b4_lt g 3
  have hl0 : filter_group_L0 (n + 8) g (n + 8) 0 0 = some ((val4 g : Nat) : Int) := by
    rw [show (0 : Int) = ((0 : Nat) : Int) from rfl, group_step g 0 0 (by decide) (by decide), group_step g _ 1 (by decide) (by omega), group_step g _ 2 (by decide) (by omega), group_step g _ 3 (by decide) (by omega)]
    rw [filter_group_L0]
    unfold val4
    simp
  rw [hl0, call_some]
  have hv := val4_lt g
  have hlen : ((g.length : Int) == 4) = decide (g.length = 4) := by
    rw [Bool.eq_iff_iff, beq_iff_eq, decide_eq_true_eq]
    omega
  have hv0 : (((val4 g : Nat) : Int) == 0) = decide (val4 g = 0) := by
    rw [Bool.eq_iff_iff, beq_iff_eq, decide_eq_true_eq]
    omega
  rw [hlen, hv0]
  unfold grp
  by_cases hz : val4 g = 0 ∧ g.length = 4
  · rw [if_pos hz, decide_eq_true hz.1, decide_eq_true hz.2]
    rfl
  · have : (bif decide (val4 g = 0) then decide (g.length = 4) else false) = false := by
      by_cases h : val4 g = 0
      · have : ¬ g.length = 4 := fun h' => hz ⟨h, h'⟩
        simp [this]
      · simp [h]
    rw [this, cond_false, if_neg hz]
    have hd : filter_group_L2 (n + 8) (n + 8) ((val4 g : Nat) : Int) (List.replicate 5 0) 4 = some (digs (val4 g)) := by
      rw [show (4 : Int) = ((4 : Nat) : Int) from rfl, group_dstep _ _ (by simp) 4 (by decide) hv]
      rw [show (((4 : Nat) : Int) - 1) = ((3 : Nat) : Int) from rfl, group_dstep _ _ (by simp) 3 (by decide) (by omega)]
      rw [show (((3 : Nat) : Int) - 1) = ((2 : Nat) : Int) from rfl, group_dstep _ _ (by simp) 2 (by decide) (by omega)]
      rw [show (((2 : Nat) : Int) - 1) = ((1 : Nat) : Int) from rfl, group_dstep _ _ (by simp) 1 (by decide) (by omega)]
      rw [show (((1 : Nat) : Int) - 1) = ((0 : Nat) : Int) from rfl, group_dstep _ _ (by simp) 0 (by decide) (by omega)]
      rw [filter_group_L2]
      simp only [Nat.div_div_eq_div_mul]
      rfl
    have hw : IntKind.i64.wrap ((g.length : Int) + 1) = ((g.length + 1 : Nat) : Int) := wrap_succ (by omega)
    rw [hd, call_some, hw, chk_pos ⟨⟨by decide, by omega, by omega⟩, rfl⟩]
    rfl
end Go.Vm.FilG
