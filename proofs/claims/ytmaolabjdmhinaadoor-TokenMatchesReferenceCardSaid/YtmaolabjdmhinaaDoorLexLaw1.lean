/-
  token, reading: plain law 1: classes of bytes, digits and their value.
-/
import Derived.Test.YtmaolabjdmhinaaDoorLexGF
import Derived.Test.YtmaolabjdmhinaaDoorVmC
import Derived.Lib.AtoiTie
import Derived.Laws.RangeAny
import Derived.Laws.RangeString
namespace Go.Vm.LexG

theorem nat_toNat (i : Nat) : ((i : Nat) : Int).toNat = i := rfl
theorem getD_head {s : List UInt8} {i : Nat} (hi : i < s.length) : s.drop i = s.getD i 0 :: s.drop (i + 1) := by
  rw [List.getD_eq_getElem?_getD, List.getElem?_eq_getElem hi]
  exact List.drop_eq_getElem_cons hi
theorem ofc (c : UInt8) : UInt8.ofNat (c.toNat : Int).toNat = c := by rw [nat_toNat]; simp
theorem byte_in (c : UInt8) : 0 ≤ (c.toNat : Int) ∧ (c.toNat : Int) < 256 := ⟨by omega, by have := c.toNat_lt; omega⟩

/-! ## White space, delimiters -/
def white (c : UInt8) : Bool := bif (bif ((c.toNat : Int) == 32) then true else ((c.toNat : Int) == 9)) then true else ((c.toNat : Int) == 10)
theorem twhite (F : Nat) (c : UInt8) : token_white F (c.toNat : Int) = some (white c) := rfl
theorem rblank (F : Nat) (c : UInt8) : ref3_blank F (c.toNat : Int) = some (white c) := rfl

def delim (c : UInt8) : Bool := decide ((Lib.indexByte ([40, 41, 60, 62, 91, 93, 47, 64, 37] : List UInt8) (c.toNat : Int).toNat.toUInt8) ≥ (0 : Int))
theorem tdelim (F : Nat) (c : UInt8) : token_delimiter F (c.toNat : Int) = some (delim c) := rfl

theorem mark_more (F : Nat) (x z : Int) : ∀ (n : Nat) (v : Int) (r : Out Unit Bool), ref3_mark_L0 F x z n v = some r → ref3_mark_L0 F x z (n + 1) v = some r := by
  intro n
  induction n with
  | zero => intro v r h; cases h
  | succ n ih =>
    intro v r h
    rw [ref3_mark_L0] at h ⊢
    cases hc : decide (v < z)
    · rw [hc] at h; exact h
    · rw [hc, cond_true] at h
      rw [cond_true]
      obtain ⟨hp, h⟩ := chk_ok h
      rw [chk_pos hp]
      rw [lett_eq] at h ⊢
      cases hb : x == _
      · rw [hb, cond_false] at h; rw [cond_false]; exact ih _ _ h
      · rw [hb, cond_true] at h; rw [cond_true]; exact h
theorem mark_many (F : Nat) (x z : Int) (n : Nat) (v : Int) (r : Out Unit Bool) (h : ref3_mark_L0 F x z n v = some r) : ∀ m, ref3_mark_L0 F x z (n + m) v = some r := by
  intro m
  induction m with
  | zero => exact h
  | succ m ih => exact mark_more F x z _ v r ih
def oq {α : Type} : Option (Out Unit α) → Option (Option α)
  | some (.esc b) => some (some b)
  | some (.go _) => some none
  | none => none
theorem oq_inj {α : Type} {x y : Option (Out Unit α)} (h : oq x = oq y) : x = y := by
  match x, y with
  | some (.esc _), some (.esc _) => cases h; rfl
  | some (.go _), some (.go _) => rfl
  | none, none => rfl
  | some (.esc _), some (.go _) => cases h
  | some (.go _), some (.esc _) => cases h
  | some (.esc _), none => cases h
  | some (.go _), none => cases h
  | none, some (.esc _) => cases h
  | none, some (.go _) => cases h
theorem mark_nat0 : ∀ n : Nat, n < 256 → oq (ref3_mark_L0 0 (n : Int) 9 10 0) = oq (some (if delim (UInt8.ofNat n) then .esc true else .go ())) := by decide +kernel
theorem mark_nat (n : Nat) (h : n < 256) : ref3_mark_L0 0 (n : Int) 9 10 0 = some (if delim (UInt8.ofNat n) then .esc true else .go ()) := oq_inj (mark_nat0 n h)
theorem mark_F (F : Nat) (x z : Int) : ∀ (n : Nat) (v : Int), ref3_mark_L0 F x z n v = ref3_mark_L0 0 x z n v := by
  intro n
  induction n with
  | zero => intro v; rfl
  | succ n ih => intro v; rw [ref3_mark_L0, ref3_mark_L0]; simp only [ih]
theorem rmark {F : Nat} (hF : 10 ≤ F) (c : UInt8) : ref3_mark F (c.toNat : Int) = some (delim c) := by
  obtain ⟨k, rfl⟩ : ∃ k, F = 10 + k := ⟨F - 10, by omega⟩
  have h := mark_many (10 + k) (c.toNat : Int) 9 10 0 _ (by rw [mark_F]; exact mark_nat c.toNat c.toNat_lt) k
  rw [UInt8.ofNat_toNat] at h
  unfold ref3_mark
  rw [chk_pos (by decide), lett_eq]
  change callE (ref3_mark_L0 (10 + k) (c.toNat : Int) 9 (10 + k) 0) _ _ = _
  rw [h]
  cases delim c <;> rfl

/-- The bytes of a plain run. -/
def reg (c : UInt8) : Bool := !white c && !delim c
theorem treg (F : Nat) (c : UInt8) : token_regular F (c.toNat : Int) = some (reg c) := by
  unfold token_regular reg
  rw [twhite, call_some, tdelim]
  cases white c <;> cases delim c <;> rfl
theorem rplain {F : Nat} (hF : 10 ≤ F) (c : UInt8) : ref3_plain F (c.toNat : Int) = some (reg c) := by
  unfold ref3_plain reg
  rw [rblank, call_some, rmark hF]
  cases white c <;> cases delim c <;> rfl

/-! ## Hexadecimal digits -/
def hexv (c : UInt8) : Option Nat :=
  if 48 ≤ c.toNat ∧ c.toNat ≤ 57 then some (c.toNat - 48) else if 97 ≤ c.toNat ∧ c.toNat ≤ 102 then some (c.toNat - 87) else if 65 ≤ c.toNat ∧ c.toNat ≤ 70 then some (c.toNat - 55) else none
theorem hexv_lt {c : UInt8} {v : Nat} (h : hexv c = some v) : v < 16 := by
  unfold hexv at h
  split at h
  · simp only [Option.some.injEq] at h; omega
  · split at h
    · simp only [Option.some.injEq] at h; omega
    · split at h
      · simp only [Option.some.injEq] at h; omega
      · cases h
theorem thex_nat : ∀ n : Nat, n < 256 → token_hexDigit 0 (n : Int) = some (match hexv (UInt8.ofNat n) with | some v => ((v : Int), true) | none => (0, false)) := by decide +kernel
theorem thex (F : Nat) (c : UInt8) : token_hexDigit F (c.toNat : Int) = some (match hexv c with | some v => ((v : Int), true) | none => (0, false)) := by
  have h := thex_nat c.toNat c.toNat_lt
  rw [UInt8.ofNat_toNat] at h
  exact h

theorem hex_more (F : Nat) (x z : Int) : ∀ (n : Nat) (v : Int) (r : Out Unit Int), ref3_hex_L0 F x z n v = some r → ref3_hex_L0 F x z (n + 1) v = some r := by
  intro n
  induction n with
  | zero => intro v r h; cases h
  | succ n ih =>
    intro v r h
    rw [ref3_hex_L0] at h ⊢
    cases hc : decide (v < z)
    · rw [hc] at h; exact h
    · rw [hc, cond_true] at h
      rw [cond_true]
      obtain ⟨hp, h⟩ := chk_ok h
      rw [chk_pos hp]
      simp only [lett_eq] at h ⊢
      revert h
      generalize (bif x == _ then true else _) = b
      intro h
      cases b
      · rw [cond_false] at h ⊢; exact ih _ _ h
      · rw [cond_true] at h ⊢; exact h
theorem hex_many (F : Nat) (x z : Int) (n : Nat) (v : Int) (r : Out Unit Int) (h : ref3_hex_L0 F x z n v = some r) : ∀ m, ref3_hex_L0 F x z (n + m) v = some r := by
  intro m
  induction m with
  | zero => exact h
  | succ m ih => exact hex_more F x z _ v r ih
theorem hex_F (F : Nat) (x z : Int) : ∀ (n : Nat) (v : Int), ref3_hex_L0 F x z n v = ref3_hex_L0 0 x z n v := by
  intro n
  induction n with
  | zero => intro v; rfl
  | succ n ih => intro v; rw [ref3_hex_L0, ref3_hex_L0]; simp only [ih]
def hexo (c : UInt8) : Out Unit Int := match hexv c with | some v => .esc (v : Int) | none => .go ()
theorem hex_nat0 : ∀ n : Nat, n < 256 → oq (ref3_hex_L0 0 (n : Int) 16 17 0) = oq (some (hexo (UInt8.ofNat n))) := by decide +kernel
theorem hex_nat (n : Nat) (h : n < 256) : ref3_hex_L0 0 (n : Int) 16 17 0 = some (hexo (UInt8.ofNat n)) := oq_inj (hex_nat0 n h)
/-- The value of a hexadecimal digit, -1 where there is none. -/
def hexi (c : UInt8) : Int := match hexv c with | some v => (v : Int) | none => -1
theorem rhex {F : Nat} (hF : 17 ≤ F) (c : UInt8) : ref3_hex F (c.toNat : Int) = some (hexi c) := by
  obtain ⟨k, rfl⟩ : ∃ k, F = 17 + k := ⟨F - 17, by omega⟩
  have h := hex_many (17 + k) (c.toNat : Int) 16 17 0 _ (by rw [hex_F]; exact hex_nat c.toNat c.toNat_lt) k
  rw [UInt8.ofNat_toNat] at h
  unfold ref3_hex
  rw [chk_pos (by decide), lett_eq]
  change callE (ref3_hex_L0 (17 + k) (c.toNat : Int) 16 (17 + k) 0) _ _ = _
  rw [h]
  unfold hexi hexo
  cases hexv c <;> rfl

/-- Two digits, as the reader joins them. -/
theorem join_nat : ∀ a : Nat, a < 16 → ∀ b : Nat, b < 16 → IntKind.u8.wrap ((BitVec.ofInt IntKind.u8.bits (IntKind.u8.wrap ((a : Nat) * 2 ^ (min (4 : Int).toNat IntKind.u8.bits))) ||| BitVec.ofInt IntKind.u8.bits ((b : Nat) : Int)).toNat : Int) = ((a * 16 + b : Nat) : Int) := by decide +kernel
theorem join_ref {a b : Nat} (ha : a < 16) (hb : b < 16) : IntKind.u8.wrap (IntKind.i64.wrap ((IntKind.i64.wrap ((a : Int) * (16 : Int))) + (b : Int))) = ((a * 16 + b : Nat) : Int) := by
  rw [wrap_id (x := (a : Int) * 16) (by omega), wrap_id (by omega), wrap_u8 (by omega)]; omega

/-! ## Digits and their value -/
def dgt (c : UInt8) : Bool := decide (48 ≤ c.toNat) && decide (c.toNat ≤ 57)
theorem dgt_iff {c : UInt8} : dgt c = true ↔ 48 ≤ c.toNat ∧ c.toNat ≤ 57 := by simp [dgt]
theorem dgt_int (c : UInt8) : (bif (decide ((48 : Int) ≤ (c.toNat : Int))) then (decide ((c.toNat : Int) ≤ (57 : Int))) else false) = dgt c := by
  have e1 : decide ((48 : Int) ≤ (c.toNat : Int)) = decide (48 ≤ c.toNat) := by rw [decide_eq_decide]; omega
  have e2 : decide ((c.toNat : Int) ≤ 57) = decide (c.toNat ≤ 57) := by rw [decide_eq_decide]; omega
  rw [e1, e2]
  unfold dgt
  cases decide (48 ≤ c.toNat) <;> rfl
theorem tdigit (F : Nat) (c : UInt8) : token_digit F (c.toNat : Int) = some (dgt c) := congrArg some (dgt_int c)
theorem rdigit (F : Nat) (c : UInt8) : ref3_digit F (c.toNat : Int) = some (dgt c) := congrArg some (dgt_int c)
def dv (c : UInt8) : Nat := c.toNat - 48
theorem dv_eq (c : UInt8) : dv c = c.toNat - 48 := rfl
attribute [irreducible] dv
def val (a : Nat) : List UInt8 → Nat
  | [] => a
  | c :: t => val (a * 10 + dv c) t
theorem val_nil (a : Nat) : val a [] = a := rfl
theorem val_cons0 (a : Nat) (c : UInt8) (t : List UInt8) : val a (c :: t) = val (a * 10 + dv c) t := rfl
theorem val_cons (a : Nat) (c : UInt8) (t : List UInt8) : val a (c :: t) = val (a * 10 + (c.toNat - 48)) t := by rw [val_cons0, dv_eq]
attribute [irreducible] val
theorem val_le (l : List UInt8) : ∀ (a : Nat), a ≤ val a l := by
  induction l with
  | nil => intro a; rw [val_nil]; exact Nat.le_refl a
  | cons c t ih =>
    intro a
    have h := ih (a * 10 + dv c)
    rw [val_cons0]
    omega
theorem val_step {v a d P : Nat} (h1 : v < (a * 10 + d + 1) * P) (hd : d ≤ 9) : v < (a + 1) * (P * 10) := by
  have h2 : (a * 10 + d + 1) * P ≤ ((a + 1) * 10) * P := Nat.mul_le_mul_right P (by omega)
  have h3 : (a + 1) * (P * 10) = ((a + 1) * 10) * P := by rw [Nat.mul_comm P 10, Nat.mul_assoc]
  rw [h3]
  exact Nat.lt_of_lt_of_le h1 h2
theorem val_lt (l : List UInt8) : ∀ (a : Nat), l.all dgt = true → val a l < (a + 1) * 10 ^ l.length := by
  induction l with
  | nil => intro a _; rw [List.length_nil, Nat.pow_zero, Nat.mul_one, val_nil]; exact Nat.lt_succ_self a
  | cons c t ih =>
    intro a h
    rw [List.all_cons, Bool.and_eq_true] at h
    have hc := dgt_iff.1 h.1
    have h1 := ih (a * 10 + (c.toNat - 48)) h.2
    rw [List.length_cons, Nat.pow_succ, val_cons]
    exact val_step h1 (by omega)
theorem val_max {l : List UInt8} (h : l.all dgt = true) {k : Nat} (hk : l.length ≤ k) : val 0 l < 10 ^ k := by
  have := val_lt l 0 h
  rw [Nat.zero_add, Nat.one_mul] at this
  exact Nat.lt_of_lt_of_le this (Nat.pow_le_pow_right (by omega) hk)
theorem decFrom_val (s : List UInt8) : ∀ (a : Nat), s.all dgt = true → Lib.decFrom a s = some (val a s) := by
  induction s with
  | nil => intro a _; rw [val_nil]; rfl
  | cons c t ih =>
    intro a h
    rw [List.all_cons, Bool.and_eq_true] at h
    have hc := dgt_iff.1 h.1
    have hv : Lib.digitVal c = some (c.toNat - 48) := by unfold Lib.digitVal; rw [if_pos hc]
    rw [Lib.decFrom, hv, val_cons]
    exact ih _ h.2
theorem decNat_val {s : List UInt8} (h : s.all dgt = true) (hn : s ≠ []) : Lib.decNat s = some (val 0 s) := by
  unfold Lib.decNat
  cases s with
  | nil => exact absurd rfl hn
  | cons c t =>
    rw [show (c :: t).isEmpty = false from rfl, if_neg (by decide)]
    exact decFrom_val _ 0 h
/-- Digits ahead of which a sign may stand. -/
theorem atoi_plain {s : List UInt8} (h : s.all dgt = true) (hn : s ≠ []) (hl : s.length ≤ 18) : sAtoi s = some ((val 0 s : Nat) : Int) := by
  have h3 := decNat_val h hn
  unfold sAtoi
  rw [Lib.atoiAll_short s hl]
  cases s with
  | nil => exact absurd rfl hn
  | cons c t =>
    have hc := dgt_iff.1 (List.all_eq_true.1 h c (by simp))
    have h1 : (c == 45) = false := by
      rw [beq_eq_false_iff_ne]; rintro rfl; have : (45 : UInt8).toNat = 45 := rfl; omega
    have h2 : (c == 43) = false := by
      rw [beq_eq_false_iff_ne]; rintro rfl; have : (43 : UInt8).toNat = 43 := rfl; omega
    have h4 : Lib.atoi (c :: t) = some ((val 0 (c :: t) : Nat) : Int) := by
      rw [Lib.atoi, h1, h2, h3]; rfl
    rw [h4]; rfl
theorem atoi_plus {s : List UInt8} (h : s.all dgt = true) (hn : s ≠ []) (hl : s.length ≤ 17) : sAtoi (43 :: s) = some ((val 0 s : Nat) : Int) := by
  unfold sAtoi
  rw [Lib.atoiAll_short (43 :: s) (by simp; omega)]
  have h4 : Lib.atoi (43 :: s) = some ((val 0 s : Nat) : Int) := by
    rw [Lib.atoi, decNat_val h hn]; rfl
  rw [h4]; rfl
theorem atoi_minus {s : List UInt8} (h : s.all dgt = true) (hn : s ≠ []) (hl : s.length ≤ 17) : sAtoi (45 :: s) = some (-((val 0 s : Nat) : Int)) := by
  unfold sAtoi
  rw [Lib.atoiAll_short (45 :: s) (by simp; omega)]
  have h4 : Lib.atoi (45 :: s) = some (-((val 0 s : Nat) : Int)) := by
    rw [Lib.atoi, decNat_val h hn]; rfl
  rw [h4]; rfl

/-- The runes outside the digits. -/
def offq (x : Int) : Option Bool := some (bif (decide (x < (48 : Int))) then true else (decide (x > (57 : Int))))
def offp (x : Nat) : Bool := (offq (x : Int)).getD false
theorem offp_eq (x : Nat) : offp x = !(decide (48 ≤ x) && decide (x ≤ 57)) := by
  show (bif (decide ((x : Int) < (48 : Int))) then true else (decide ((x : Int) > (57 : Int)))) = _
  rw [Bool.eq_iff_iff]
  cases h : decide ((x : Int) < 48) <;> simp at h ⊢ <;> omega
theorem idx_eq (s : List UInt8) : ∀ (f i : Nat), i + f = s.length → decide (0 ≤ Lib.idxFuncFrom offp true ⟨s.toArray⟩ f i) = !((s.drop i).all dgt) := by
  intro f
  induction f with
  | zero =>
    intro i hi
    rw [show i = s.length by omega, List.drop_length]; rfl
  | succ f ih =>
    intro i hi
    have hlt : i < s.length := by omega
    have hsz : i < (⟨s.toArray⟩ : ByteArray).size := by simpa [ByteArray.size] using hlt
    have hget : (⟨s.toArray⟩ : ByteArray)[i]'hsz = s.getD i 0 := by
      rw [List.getD_eq_getElem?_getD, List.getElem?_eq_getElem hlt]; rfl
    rw [Lib.idxFuncFrom, if_pos hsz, getD_head hlt, List.all_cons]
    by_cases ha : (s.getD i 0).toNat < 128
    · rw [decode_ascii _ i hsz (by rw [hget]; exact ha), hget]
      simp only [offp_eq]
      change decide (0 ≤ if (!dgt (s.getD i 0)) = true then (i : Int) else _) = _
      cases h : dgt (s.getD i 0)
      · rw [if_pos (show (!false) = true from rfl), decide_eq_true (by omega)]; rfl
      · rw [if_neg (show ¬ (!true) = true by decide), ih (i + 1) (by omega)]; rfl
    · have hd := (decode_high _ i hsz (by rw [hget]; omega)).1
      have h2 : offp (Utf8.decode ⟨s.toArray⟩ i).1 = true := by
        rw [offp_eq, decide_eq_false (show ¬ (Utf8.decode ⟨s.toArray⟩ i).1 ≤ 57 by omega)]; simp
      have h3 : dgt (s.getD i 0) = false := by
        cases h : dgt (s.getD i 0)
        · rfl
        · have := dgt_iff.1 h; omega
      rw [if_pos h2, h3, decide_eq_true (by omega)]; rfl
theorem contains_eq (s : List UInt8) : sContains offq s = some (!(s.all dgt)) := by
  unfold sContains
  have hp : ∀ x : Nat, x ≤ 1114111 → (offq (x : Int)).isSome = true := fun _ _ => rfl
  rw [if_pos hp]
  have h := idx_eq s s.length 0 (by omega)
  rw [List.drop_zero] at h
  rw [← h]
  rfl

/-- The reference's number: digits alone, and no more than its cap. -/
theorem whole_L0 (F : Nat) (s : List UInt8) (hs : s.length ≤ 10000) : ∀ (m i n a : Nat), i + m = s.length → m < n → a ≤ 1099511627776 →
    ref3_whole_L0 F s n (a : Int) (i : Int) = some (if (s.drop i).all dgt then .go ((min (val a (s.drop i)) 1099511627776 : Nat) : Int) else .esc (-1)) := by
  intro m
  induction m with
  | zero =>
    intro i n a hi hn ha
    obtain ⟨n, rfl⟩ : ∃ q, n = q + 1 := ⟨n - 1, by omega⟩
    obtain rfl : i = s.length := by omega
    rw [ref3_whole_L0, dec_end, cond_false, List.drop_length, val_nil, Nat.min_eq_left ha]; rfl
  | succ m ih =>
    intro i n a hi hn ha
    obtain ⟨n, rfl⟩ : ∃ q, n = q + 1 := ⟨n - 1, by omega⟩
    have hlt : i < s.length := by omega
    rw [getD_head hlt]
    rw [ref3_whole_L0, dec_lt hlt, cond_true, chk_in hlt, nat_toNat, wrap_succ (by omega), rdigit, call_some, chk_in hlt]
    generalize s.getD i 0 = c at *
    cases hc : dgt c
    · rw [List.all_cons, hc]; rfl
    · have hc2 := dgt_iff.1 hc
      have e : IntKind.i64.wrap (IntKind.i64.wrap ((IntKind.i64.wrap ((a : Int) * (10 : Int))) + (IntKind.i64.wrap (c.toNat : Int))) - 48) = ((a * 10 + (c.toNat - 48) : Nat) : Int) := by
        rw [wrap_id (x := (c.toNat : Int)) (by omega), wrap_id (x := (a : Int) * 10) (by omega), wrap_id (x := (a : Int) * 10 + _) (by omega), wrap_id (by omega)]; omega
      rw [Bool.not_true, cond_false, lett_eq, e, lett_eq, List.all_cons, hc, Bool.true_and, val_cons]
      by_cases hb : 1099511627776 < a * 10 + (c.toNat - 48)
      · rw [if_pos (by omega)]
        have := ih (i + 1) n 1099511627776 (by omega) (by omega) (by omega)
        rw [show ((1099511627776 : Nat) : Int) = (1099511627776 : Int) from rfl] at this
        rw [this]
        have h1 := val_le (s.drop (i + 1)) 1099511627776
        have h2 := val_le (s.drop (i + 1)) (a * 10 + (c.toNat - 48))
        rw [Nat.min_eq_right h1, Nat.min_eq_right (by omega)]
      · rw [if_neg (by omega), ih (i + 1) n _ (by omega) (by omega) (by omega)]
theorem whole_eq {F : Nat} {s : List UInt8} (hs : s.length ≤ 10000) (hF : 20000 ≤ F) : ref3_whole F s = some (if s ≠ [] ∧ s.all dgt = true then ((min (val 0 s) 1099511627776 : Nat) : Int) else -1) := by
  unfold ref3_whole
  by_cases hn : s = []
  · subst hn; rfl
  · have h : ref3_whole_L0 F s F 0 0 = some (if (s.drop 0).all dgt then .go ((min (val 0 (s.drop 0)) 1099511627776 : Nat) : Int) else .esc (-1)) := whole_L0 F s hs s.length 0 F 0 (by omega) (by omega) (by omega)
    rw [show (s == []) = false by simpa using hn, cond_false, h, List.drop_zero]
    cases hd : s.all dgt
    · rw [if_neg (show ¬ (s ≠ [] ∧ false = true) by simp)]; rfl
    · rw [if_pos (show s ≠ [] ∧ true = true from ⟨hn, rfl⟩)]; rfl
end Go.Vm.LexG
