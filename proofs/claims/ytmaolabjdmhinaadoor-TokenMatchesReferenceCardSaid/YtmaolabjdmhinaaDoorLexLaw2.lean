/-
  token, reading: plain law 2: skipping, runs, numbers, references, words.
-/
import Derived.Test.YtmaolabjdmhinaaDoorLexLaw1
namespace Go.Vm.LexG

/-! ## Letters, digits, words -/
def lt (x : Int) : Bool := bif (bif (decide ((97 : Int) ≤ x)) then (decide (x ≤ (122 : Int))) else false) then true else (bif (decide ((65 : Int) ≤ x)) then (decide (x ≤ (90 : Int))) else false)
def dg (x : Int) : Bool := bif (decide ((48 : Int) ≤ x)) then (decide (x ≤ (57 : Int))) else false
theorem tletter (F : Nat) (x : Int) : token_letter F x = some (lt x) := rfl
theorem tdgI (F : Nat) (x : Int) : token_digit F x = some (dg x) := rfl
theorem rletter (F : Nat) (x : Int) : ref3_letter F x = some (lt x) := by
  unfold ref3_letter lt
  rw [lett_eq]
  congr 1
  cases h : (bif (decide ((97 : Int) ≤ x)) then (decide (x ≤ (122 : Int))) else false) <;> cases h2 : (bif (decide ((65 : Int) ≤ x)) then (decide (x ≤ (90 : Int))) else false) <;> simp_all
theorem rdgI (F : Nat) (x : Int) : ref3_digit F x = some (dg x) := rfl
theorem dg_lt {x : Int} (h : dg x = true) : lt x = false ∧ x ≠ 42 ∧ x ≠ 95 ∧ x ≠ 46 := by
  simp [dg] at h
  refine ⟨?_, by omega, by omega, by omega⟩
  simp [lt]; omega

/-- The bytes a word may have. -/
def okb (c : UInt8) : Bool := lt c.toNat || dg c.toNat || (c.toNat : Int) == 42 || (c.toNat : Int) == 95 || (c.toNat : Int) == 46

theorem word_L0 (F : Nat) (s : List UInt8) (hs : s.length ≤ maxLen) : ∀ (m i n : Nat), 1 ≤ i → i + m = s.length → m < n →
    token_word_L0 F s n (i : Int) = some (if (s.drop i).all okb then .go () else .esc ([], 5)) := by
  have hmax : maxLen = 9223372036854775807 := rfl
  intro m
  induction m with
  | zero =>
    intro i n h1 hi hn
    obtain ⟨n, rfl⟩ : ∃ q, n = q + 1 := ⟨n - 1, by omega⟩
    obtain rfl : i = s.length := by omega
    rw [token_word_L0, dec_end, cond_false, List.drop_length]; rfl
  | succ m ih =>
    intro i n h1 hi hn
    obtain ⟨n, rfl⟩ : ∃ q, n = q + 1 := ⟨n - 1, by omega⟩
    have hlt : i < s.length := by omega
    have hi0 : ((i : Int) == 0) = false := by simp; omega
    rw [token_word_L0, dec_lt hlt, cond_true, chk_in hlt, nat_toNat, tletter, call_some, hi0, wrap_succ (by omega), ih (i + 1) n (by omega) (by omega) (by omega), getD_head hlt, List.all_cons]
    generalize s.getD i 0 = c
    rw [tdgI]
    unfold okb
    cases h1 : lt c.toNat <;> cases h2 : dg c.toNat <;> cases h3 : (c.toNat : Int) == 42 <;> cases h4 : (c.toNat : Int) == 95 <;> cases h5 : (c.toNat : Int) == 46 <;>
      simp [call_some, lett_eq, bne, h3, h4, h5]

theorem wordError_L0 (F : Nat) (s : List UInt8) (hs : s.length ≤ maxLen) : ∀ (m i n : Nat), i + m = s.length → m < n →
    ref3_wordError_L0 F s n (i : Int) = some (if (s.drop i).all okb then .go () else .esc 5) := by
  have hmax : maxLen = 9223372036854775807 := rfl
  intro m
  induction m with
  | zero =>
    intro i n hi hn
    obtain ⟨n, rfl⟩ : ∃ q, n = q + 1 := ⟨n - 1, by omega⟩
    obtain rfl : i = s.length := by omega
    rw [ref3_wordError_L0, dec_end, cond_false, List.drop_length]; rfl
  | succ m ih =>
    intro i n hi hn
    obtain ⟨n, rfl⟩ : ∃ q, n = q + 1 := ⟨n - 1, by omega⟩
    have hlt : i < s.length := by omega
    have hp : 0 ≤ (i : Int) ∧ (i : Int) < s.length := ⟨by omega, by omega⟩
    rw [ref3_wordError_L0, dec_lt hlt, cond_true, chk_in hlt, nat_toNat, rletter, call_some, wrap_succ (by omega), ih (i + 1) n (by omega) (by omega), getD_head hlt, List.all_cons, chk_pos (fun _ => hp)]
    generalize s.getD i 0 = c
    rw [rdgI]
    unfold okb
    cases h1 : lt c.toNat <;> cases h2 : dg c.toNat <;> cases h3 : (c.toNat : Int) == 42 <;> cases h4 : (c.toNat : Int) == 95 <;> cases h5 : (c.toNat : Int) == 46 <;>
      simp [call_some, lett_eq, chk, bne, h3, h4, h5, hlt]

/-- What a word is: not empty, no digit ahead, only its bytes. -/
def wordy (s : List UInt8) : Bool := !(s == []) && !(dg (s.getD 0 0).toNat) && s.all okb

theorem word_eq {F : Nat} {s : List UInt8} (hs : s.length ≤ maxLen) (hF : s.length < F) :
    token_word F s = some (if wordy s then (if s.length > 31 then ([], 2) else (s, 0)) else ([], 5)) := by
  have hmax : maxLen = 9223372036854775807 := rfl
  unfold token_word token_limited
  cases s with
  | nil => obtain ⟨F, rfl⟩ : ∃ q, F = q + 1 := ⟨F - 1, by simp at hF; omega⟩; rfl
  | cons c t =>
    have hlen : (c :: t).length = t.length + 1 := rfl
    obtain ⟨G, rfl⟩ : ∃ q, F = q + 1 := ⟨F - 1, by omega⟩
    have h0 : token_word_L0 (G + 1) (c :: t) (G + 1) (0 : Int) = some (if wordy (c :: t) then .go () else .esc ([], 5)) := by
      have := word_L0 (G + 1) (c :: t) hs t.length 1 G (by omega) (by rw [hlen]; omega) (by omega)
      rw [token_word_L0, decide_eq_true (show (0 : Int) < ((c :: t).length : Int) by omega), cond_true, chk_pos ⟨by omega, by omega⟩, show (0 : Int).toNat = 0 from rfl, tletter, call_some, show IntKind.i64.wrap ((0 : Int) + 1) = ((1 : Nat) : Int) from rfl, this]
      have hd : dg c.toNat = true → lt c.toNat = false ∧ ((c.toNat : Int) == 42) = false ∧ ((c.toNat : Int) == 95) = false ∧ ((c.toNat : Int) == 46) = false := fun h => by
        obtain ⟨h1, h2, h3, h4⟩ := dg_lt h
        exact ⟨h1, by simpa using h2, by simpa using h3, by simpa using h4⟩
      simp only [List.getD_cons_zero, List.drop_succ_cons, List.drop_zero, wordy, List.all_cons, tdgI, bne, lett_eq, okb]
      revert hd
      generalize ((c.toNat : Int) == 42) = C, ((c.toNat : Int) == 95) = D, ((c.toNat : Int) == 46) = E, lt c.toNat = A, dg c.toNat = B, t.all okb = X
      cases A <;> cases B <;> cases C <;> cases D <;> cases E <;> simp [call_some]
    rw [h0]
    cases wordy (c :: t)
    · rfl
    · rw [if_pos rfl, callE_go, show ((c :: t) == []) = false from rfl, cond_false, if_pos rfl]
      by_cases h : (c :: t).length > 31
      · rw [if_pos h, decide_eq_true (by omega)]; rfl
      · rw [if_neg h, decide_eq_false (by omega)]; rfl

theorem wordError_eq {F : Nat} {s : List UInt8} (hs : s.length ≤ maxLen) (hF : s.length < F) :
    ref3_wordError F s = some (if s.all okb then (if s.length > 31 then 2 else 0) else 5) := by
  have hmax : maxLen = 9223372036854775807 := rfl
  unfold ref3_wordError
  rw [show (0 : Int) = ((0 : Nat) : Int) from rfl, wordError_L0 F s hs s.length 0 F (by omega) (by omega), List.drop_zero]
  cases s.all okb
  · rfl
  · rw [if_pos rfl, callE_go, if_pos rfl]
    by_cases h : s.length > 31
    · rw [if_pos h, decide_eq_true (by omega)]; rfl
    · rw [if_neg h, decide_eq_false (by omega)]; rfl


/-! ## Skipping -/
def skipR : Bool → List UInt8 → List UInt8
  | _, [] => []
  | true, c :: t => bif ((c.toNat : Int) == 10) then skipR false t else skipR true t
  | false, c :: t => bif ((c.toNat : Int) == 37) then skipR true t else bif white c then skipR false t else c :: t
theorem skipR_suf (l : List UInt8) : ∀ b, skipR b l <:+ l := by
  induction l with
  | nil => intro b; cases b <;> exact List.suffix_refl _
  | cons c t ih =>
    intro b
    cases b
    · rw [skipR]
      cases (c.toNat : Int) == 37
      · cases white c
        · exact List.suffix_refl _
        · exact (ih false).trans (List.suffix_cons _ _)
      · exact (ih true).trans (List.suffix_cons _ _)
    · rw [skipR]
      cases (c.toNat : Int) == 10
      · exact (ih true).trans (List.suffix_cons _ _)
      · exact (ih false).trans (List.suffix_cons _ _)
/-- The place of a rest of s. -/
def posn (s l : List UInt8) : Nat := s.length - l.length
theorem posn_drop {s l : List UInt8} (h : l <:+ s) : s.drop (posn s l) = l := (List.suffix_iff_eq_drop.1 h).symm
theorem posn_at {s : List UInt8} {i : Nat} (h : i ≤ s.length) : posn s (s.drop i) = i := by unfold posn; rw [List.length_drop]; omega
theorem suf_at {s l : List UInt8} {i : Nat} (h : l <:+ s.drop i) : l <:+ s := h.trans (List.drop_suffix i s)

theorem skip_L0 (F : Nat) (s : List UInt8) (hs : s.length ≤ 10000) : ∀ (m i n : Nat) (b : Bool), i + m = s.length → m < n →
    callE (token_cursor_skip_L0 F s n b (i : Int)) (fun e => some e) (fun v4 => some (s, v4)) = some (s, ((posn s (skipR b (s.drop i)) : Nat) : Int)) := by
  intro m
  induction m with
  | zero =>
    intro i n b hi hn
    obtain ⟨n, rfl⟩ : ∃ q, n = q + 1 := ⟨n - 1, by omega⟩
    obtain rfl : i = s.length := by omega
    rw [token_cursor_skip_L0, dec_end, cond_false, List.drop_length, callE_go]
    cases b <;> simp [skipR, posn]
  | succ m ih =>
    intro i n b hi hn
    obtain ⟨n, rfl⟩ : ∃ q, n = q + 1 := ⟨n - 1, by omega⟩
    have hlt : i < s.length := by omega
    have hpi := posn_at (s := s) (i := i) (by omega)
    rw [token_cursor_skip_L0, dec_lt hlt, cond_true, chk_in hlt, nat_toNat, wrap_succ (by omega)]
    rw [getD_head hlt] at hpi ⊢
    generalize s.getD i 0 = c at *
    have hih := fun b => ih (i + 1) n b (by omega) (by omega)
    rw [skipR.eq_def]
    cases b
    · simp only [cond_false, twhite, call_some]
      cases h1 : (c.toNat : Int) == 37
      · cases h2 : white c
        · simp only [cond_false, cond_true, Bool.not_false, callE_esc']
          rw [hpi]
        · simp only [cond_false, cond_true, Bool.not_true, callE_go]
          exact hih false
      · simp only [cond_true, callE_go]
        exact hih true
    · simp only [cond_true, callE_go, bne]
      cases h1 : (c.toNat : Int) == 10
      · exact hih true
      · exact hih false
theorem skip_eq {F : Nat} {s : List UInt8} (hs : s.length ≤ 10000) (hF : 20000 ≤ F) {i : Nat} (hi : i ≤ s.length) :
    token_cursor_skip F s (i : Int) = some (s, ((posn s (skipR false (s.drop i)) : Nat) : Int)) := skip_L0 F s hs (s.length - i) i F false (by omega) (by omega)

def nlR : List UInt8 → List UInt8
  | [] => []
  | c :: t => bif ((c.toNat : Int) == 10) then c :: t else nlR t
theorem nlR_suf (l : List UInt8) : nlR l <:+ l := by
  induction l with
  | nil => exact List.suffix_refl _
  | cons c t ih =>
    rw [nlR]
    cases (c.toNat : Int) == 10
    · exact ih.trans (List.suffix_cons _ _)
    · exact List.suffix_refl _
theorem skip_nl (l : List UInt8) : skipR true l = skipR false (nlR l) := by
  induction l with
  | nil => rfl
  | cons c t ih =>
    rw [skipR, nlR]
    cases h : (c.toNat : Int) == 10
    · exact ih
    · have hc : (c.toNat : Int) = 10 := by simpa using h
      simp only [cond_true]
      rw [skipR]
      have h2 : ((c.toNat : Int) == 37) = false := by rw [hc]; rfl
      have h3 : white c = true := by unfold white; rw [hc]; rfl
      rw [h2, h3]; rfl
theorem Lex_L2_eq (F : Nat) (s : List UInt8) (hs : s.length ≤ 10000) : ∀ (m i n : Nat), i + m = s.length → m < n →
    ref3_Lex_L2 F s n (i : Int) = some ((posn s (nlR (s.drop i)) : Nat) : Int) := by
  intro m
  induction m with
  | zero =>
    intro i n hi hn
    obtain ⟨n, rfl⟩ : ∃ q, n = q + 1 := ⟨n - 1, by omega⟩
    obtain rfl : i = s.length := by omega
    rw [ref3_Lex_L2, dec_end, chk_pos (by simp), lett_eq, List.drop_length]
    rfl
  | succ m ih =>
    intro i n hi hn
    obtain ⟨n, rfl⟩ : ∃ q, n = q + 1 := ⟨n - 1, by omega⟩
    have hlt : i < s.length := by omega
    have hpi := posn_at (s := s) (i := i) (by omega)
    rw [ref3_Lex_L2, dec_lt hlt, chk_pos (fun _ => ⟨by omega, by omega⟩), cond_true, lett_eq, nat_toNat, wrap_succ (by omega)]
    rw [getD_head hlt] at hpi ⊢
    generalize s.getD i 0 = c at *
    rw [nlR, bne]
    cases h1 : (c.toNat : Int) == 10
    · exact ih (i + 1) n (by omega) (by omega)
    · simp only [Bool.not_true, cond_false, cond_true]
      rw [hpi]
theorem Lex_L0_eq {F : Nat} (s : List UInt8) (hs : s.length ≤ 10000) (hF : 20000 ≤ F) : ∀ (m i n : Nat), i + m = s.length → m < n →
    ref3_Lex_L0 F s n (i : Int) = some ((posn s (skipR false (s.drop i)) : Nat) : Int) := by
  intro m
  induction m using Nat.strongRecOn with
  | _ m ih =>
    intro i n hi hn
    obtain ⟨n, rfl⟩ : ∃ q, n = q + 1 := ⟨n - 1, by omega⟩
    by_cases hm : m = 0
    · obtain rfl : i = s.length := by omega
      rw [ref3_Lex_L0, dec_end, chk_pos (by simp)]
      rw [List.drop_length]
      rw [show (bif (((false : Bool) == true) && true) then ref3_blank F ((s.getD ((s.length : Nat) : Int).toNat 0).toNat : Int) else some false) = some false from rfl, call_some, chk_pos (by simp), lett_eq]
      rfl
    · have hlt : i < s.length := by omega
      have hpi := posn_at (s := s) (i := i) (by omega)
      rw [ref3_Lex_L0, dec_lt hlt, chk_pos (fun _ => ⟨by omega, by omega⟩), nat_toNat]
      rw [show (bif ((true == true) && true) then ref3_blank F ((s.getD i 0).toNat : Int) else some false) = some (white (s.getD i 0)) from rfl, call_some, chk_pos (fun _ => ⟨by omega, by omega⟩), cond_true, lett_eq, wrap_succ (by omega), chk_in hlt]
      have h2 := Lex_L2_eq F s hs m i F hi (by omega)
      rw [getD_head hlt] at hpi h2 ⊢
      generalize s.getD i 0 = c at *
      rw [skipR]
      cases h1 : (c.toNat : Int) == 37
      · cases hw : white c
        · simp only [cond_false]
          rw [hpi]
        · simp only [cond_false, cond_true]
          exact ih (m - 1) (by omega) (i + 1) n (by omega) (by omega)
      · have hc : ((c.toNat : Int) == 10) = false := by
          have : (c.toNat : Int) = 37 := by simpa using h1
          rw [this]; rfl
        rw [nlR, hc, cond_false] at h2
        have hsuf : nlR (s.drop (i + 1)) <:+ s := suf_at (nlR_suf _)
        have hl := (nlR_suf (s.drop (i + 1))).length_le
        rw [List.length_drop] at hl
        have hp : posn s (nlR (s.drop (i + 1))) = s.length - (nlR (s.drop (i + 1))).length := rfl
        have hz : (bif (bif white c then true else true) then (call (ref3_Lex_L2 F s F (i : Int)) fun v3 => ref3_Lex_L0 F s n v3) else some (i : Int)) = some ((posn s (skipR true (s.drop (i + 1))) : Nat) : Int) := by
          rw [show (bif white c then true else true) = true by cases white c <;> rfl, cond_true, h2, call_some, ih (s.length - posn s (nlR (s.drop (i + 1)))) (by omega) (posn s (nlR (s.drop (i + 1)))) n (by omega) (by omega), posn_drop hsuf, skip_nl]
        simp only [cond_true]
        exact hz

/-! ## Runs -/
def run (l : List UInt8) : List UInt8 := l.takeWhile reg
theorem run_take (l : List UInt8) : l.take (run l).length = run l := (List.prefix_iff_eq_take.1 (List.takeWhile_prefix reg)).symm
theorem run_le (l : List UInt8) : (run l).length ≤ l.length := (List.takeWhile_prefix (p := reg)).length_le
theorem run_cons (c : UInt8) (t : List UInt8) : run (c :: t) = bif reg c then c :: run t else [] := by
  unfold run
  rw [List.takeWhile_cons]
  cases reg c <;> rfl
theorem run_L0 (F : Nat) (s : List UInt8) (hs : s.length ≤ 10000) : ∀ (m i n : Nat), i + m = s.length → m < n →
    token_cursor_run_L0 F s n (i : Int) = some ((i + (run (s.drop i)).length : Nat) : Int) := by
  intro m
  induction m with
  | zero =>
    intro i n hi hn
    obtain ⟨n, rfl⟩ : ∃ q, n = q + 1 := ⟨n - 1, by omega⟩
    obtain rfl : i = s.length := by omega
    rw [token_cursor_run_L0, dec_end, chk_pos (by simp), List.drop_length]
    rfl
  | succ m ih =>
    intro i n hi hn
    obtain ⟨n, rfl⟩ : ∃ q, n = q + 1 := ⟨n - 1, by omega⟩
    have hlt : i < s.length := by omega
    rw [token_cursor_run_L0, dec_lt hlt, chk_pos (fun _ => ⟨by omega, by omega⟩), nat_toNat, wrap_succ (by omega), ih (i + 1) n (by omega) (by omega), getD_head hlt, run_cons]
    generalize s.getD i 0 = c at *
    rw [show (bif ((true == true) && true) then token_regular F (c.toNat : Int) else some false) = some (reg c) from treg F c, call_some, cond_true]
    cases reg c
    · rfl
    · simp only [cond_true, List.length_cons]
      rw [Nat.add_assoc, Nat.add_comm 1]
theorem Lex_L4_eq {F : Nat} (hF : 10 ≤ F) (s : List UInt8) (hs : s.length ≤ 10000) : ∀ (m i n : Nat), i + m = s.length → m < n →
    ref3_Lex_L4 F s n (i : Int) = some ((i + (run (s.drop i)).length : Nat) : Int) := by
  intro m
  induction m with
  | zero =>
    intro i n hi hn
    obtain ⟨n, rfl⟩ : ∃ q, n = q + 1 := ⟨n - 1, by omega⟩
    obtain rfl : i = s.length := by omega
    rw [ref3_Lex_L4, dec_end, chk_pos (by simp), List.drop_length]
    rfl
  | succ m ih =>
    intro i n hi hn
    obtain ⟨n, rfl⟩ : ∃ q, n = q + 1 := ⟨n - 1, by omega⟩
    have hlt : i < s.length := by omega
    rw [ref3_Lex_L4, dec_lt hlt, chk_pos (fun _ => ⟨by omega, by omega⟩), nat_toNat, wrap_succ (by omega), ih (i + 1) n (by omega) (by omega), getD_head hlt, run_cons]
    generalize s.getD i 0 = c at *
    rw [show (bif ((true == true) && true) then ref3_plain F (c.toNat : Int) else some false) = some (reg c) from rplain hF c, call_some, cond_true]
    cases reg c
    · rfl
    · simp only [cond_true, List.length_cons]
      rw [Nat.add_assoc, Nat.add_comm 1]
theorem run_eq {F : Nat} {s : List UInt8} (hs : s.length ≤ 10000) (hF : 20000 ≤ F) {i : Nat} (hi : i ≤ s.length) :
    token_cursor_run F s (i : Int) = some (run (s.drop i), s, ((i + (run (s.drop i)).length : Nat) : Int)) := by
  unfold token_cursor_run
  have hl := run_le (s.drop i)
  rw [List.length_drop] at hl
  rw [run_L0 F s hs (s.length - i) i F (by omega) (by omega), call_some, chk_pos ⟨by omega, by omega, by omega⟩, nat_toNat, nat_toNat, Nat.add_sub_cancel_left, run_take]
end Go.Vm.LexG
