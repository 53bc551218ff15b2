/-
  token, reading: plain law 9: the laws TokenNextAtAnyOffset and TokenMatchesReference.
-/
import Derived.Test.YtmaolabjdmhinaaDoorLexLaw8
namespace Go.Vm.LexG

theorem next_err {F : Nat} {s : List UInt8} {i : Int} {r : S_Token × Int × Int} (h : token_next F s i = some r) (he : r.2.2 ≠ 0) : r.1 = tz := by
  unfold token_next at h
  obtain ⟨y1, _, h⟩ := call_ok h
  cases hb : y1.2 == (s.length : Int)
  · rw [hb, cond_false] at h
    obtain ⟨y2, _, h⟩ := call_ok h
    cases hc : y2.2.1 != 0
    · rw [hc, cond_false] at h; cases h; exact absurd rfl he
    · rw [hc, cond_true] at h; cases h; rfl
  · rw [hb, cond_true] at h; cases h; exact absurd rfl he

/-- Next, behind its checks. -/
theorem Next_of {F : Nat} {s : List UInt8} (hs : s.length ≤ 8192) {i : Nat} (hi : i ≤ s.length) {r : S_Token × Int × Int} (h : token_next F s (i : Int) = some r) :
    token_Next F s (i : Int) = some (r.1, (if r.2.2 = 0 then 0 else r.2.1), r.2.2) := by
  unfold token_Next
  rw [decide_eq_false (show ¬ (s.length : Int) > 8192 by omega), decide_eq_false (show ¬ (i : Int) < 0 by omega), decide_eq_false (show ¬ (i : Int) > s.length by omega)]
  simp only [cond_false]
  rw [h, call_some]
  by_cases he : r.2.2 = 0
  · rw [if_pos he, show (r.2.2 == 0) = true by simpa using he]; rfl
  · rw [if_neg he, show (r.2.2 == 0) = false by simpa using he]; rfl

set_option maxRecDepth 100000 in
theorem lexA (n : Nat) : ref3_Lex (n + 100000) [47, 97, 32, 49, 50] 0 = some (⟨2, 0, [97], 0, 2⟩, 0, 0) := by rfl
set_option maxRecDepth 100000 in
theorem lexB (n : Nat) : ref3_Lex (n + 100000) [47, 97, 32, 49, 50] 2 = some (⟨1, 12, [], 3, 5⟩, 3, 0) := by rfl
set_option maxRecDepth 100000 in
theorem lexC (n : Nat) : ref3_Lex (n + 100000) [47, 97, 32, 49, 50] 5 = some (⟨0, 0, [], 5, 5⟩, 5, 0) := by rfl
theorem Next_at {n : Nat} {s : List UInt8} (hs : s.length ≤ 8192) {i : Nat} (hi : i ≤ s.length) {t : S_Token} {p : Int} (h : ref3_Lex (n + 100000) s (i : Int) = some (t, p, 0)) : token_Next (n + 100000) s (i : Int) = some (t, 0, 0) := by
  obtain ⟨r, h1, h2, _⟩ := next_lex (F := n + 100000) (by omega) hs hi
  rw [h] at h2
  cases h2
  exact Next_of hs hi h1
theorem nextA (n : Nat) : token_Next (n + 100000) [47, 97, 32, 49, 50] 0 = some (⟨2, 0, [97], 0, 2⟩, 0, 0) := Next_at (i := 0) (by simp) (by simp) (lexA n)
theorem nextB (n : Nat) : token_Next (n + 100000) [47, 97, 32, 49, 50] 2 = some (⟨1, 12, [], 3, 5⟩, 0, 0) := Next_at (i := 2) (by simp) (by simp) (lexB n)
theorem nextC (n : Nat) : token_Next (n + 100000) [47, 97, 32, 49, 50] 5 = some (⟨0, 0, [], 5, 5⟩, 0, 0) := Next_at (i := 5) (by simp) (by simp) (lexC n)
theorem scanK (F k : Nat) (hA : token_Next F [47, 97, 32, 49, 50] 0 = some (⟨2, 0, [97], 0, 2⟩, 0, 0)) (hB : token_Next F [47, 97, 32, 49, 50] 2 = some (⟨1, 12, [], 3, 5⟩, 0, 0)) (hC : token_Next F [47, 97, 32, 49, 50] 5 = some (⟨0, 0, [], 5, 5⟩, 0, 0)) :
    token_Scan_L0 F [47, 97, 32, 49, 50] (k + 1 + 1 + 1) [] 0 = some (.esc ([⟨2, 0, [97], 0, 2⟩, ⟨1, 12, [], 3, 5⟩], 0, 0)) := by
  rw [token_Scan_L0, hA, call_some]
  simp only [bne_self_eq_false, cond_false]
  rw [show ((2 : Int) == 0) = false from rfl, cond_false, chk_pos (by simp), token_Scan_L0, hB, call_some]
  simp only [bne_self_eq_false, cond_false]
  rw [show ((1 : Int) == 0) = false from rfl, cond_false, chk_pos (by simp), token_Scan_L0, hC, call_some]
  rfl
theorem scanF (F : Nat) (hF : 3 ≤ F) (hA : token_Next F [47, 97, 32, 49, 50] 0 = some (⟨2, 0, [97], 0, 2⟩, 0, 0)) (hB : token_Next F [47, 97, 32, 49, 50] 2 = some (⟨1, 12, [], 3, 5⟩, 0, 0)) (hC : token_Next F [47, 97, 32, 49, 50] 5 = some (⟨0, 0, [], 5, 5⟩, 0, 0)) : law3_tokenFact F = some true := by
  have hS : token_Scan F [47, 97, 32, 49, 50] = some ([⟨2, 0, [97], 0, 2⟩, ⟨1, 12, [], 3, 5⟩], 0, 0) := by
    unfold token_Scan
    obtain ⟨k, hk⟩ : ∃ k, F = k + 1 + 1 + 1 := ⟨F - 3, by omega⟩
    have h2 : token_Scan_L0 F [47, 97, 32, 49, 50] F [] 0 = token_Scan_L0 F [47, 97, 32, 49, 50] (k + 1 + 1 + 1) [] 0 := congrArg (fun q => token_Scan_L0 F [47, 97, 32, 49, 50] q [] 0) hk
    rw [h2, scanK F k hA hB hC]; rfl
  unfold law3_tokenFact
  rw [hS]
  simp [call_some, lett_eq, chk]
theorem fact_eq (n : Nat) : law3_tokenFact (n + 100000) = some true := scanF _ (by omega) (nextA n) (nextB n) (nextC n)

theorem next_law {F : Nat} (hF : 100000 ≤ F) (s : List UInt8) (at_ : Int) : law3_TokenNextAtAnyOffset F s at_ = some true := by
  obtain ⟨n, rfl⟩ : ∃ n, F = n + 100000 := ⟨F - 100000, by omega⟩
  unfold law3_TokenNextAtAnyOffset
  rw [fact_eq, call_some, Bool.not_true, cond_false]
  by_cases hl : s.length > 8192
  · have h1 : token_Next (n + 100000) s at_ = some (tz, 0, 2) := by
      unfold token_Next
      rw [decide_eq_true (by omega)]; rfl
    rw [h1, decide_eq_true (by omega)]; rfl
  · rw [decide_eq_false (show ¬ (s.length : Int) > 8192 by omega)]
    by_cases ha : at_ < 0 ∨ (s.length : Int) < at_
    · have hb : (bif (decide (at_ < (0 : Int))) then true else (decide (at_ > (s.length : Int)))) = true := by
        rcases ha with h | h
        · rw [decide_eq_true h]; rfl
        · rw [decide_eq_true (show at_ > (s.length : Int) from h)]; cases decide (at_ < 0) <;> rfl
      have h1 : token_Next (n + 100000) s at_ = some (tz, 0, 3) := by
        unfold token_Next
        rw [decide_eq_false (by omega), hb]; rfl
      rw [h1, hb]; rfl
    · obtain ⟨i, rfl⟩ : ∃ i : Nat, at_ = i := ⟨at_.toNat, by omega⟩
      obtain ⟨r, h1, h2, _⟩ := next_lex (F := n + 100000) (by omega) (s := s) (by omega) (i := i) (by omega)
      rw [Next_of (by omega) (by omega) h1, h2, decide_eq_false (show ¬ (i : Int) < 0 by omega), decide_eq_false (show ¬ (i : Int) > s.length by omega)]
      simp only [cond_false, call_some]
      by_cases he : r.2.2 = 0
      · simp [he, lett_eq]
      · have hz := next_err h1 he
        rw [hz, show (r.2.2 != 0) = true by simpa using he, if_neg he]
        simp [lett_eq]
theorem next_total (s : List UInt8) (at_ : Int) : ∃ F, law3_TokenNextAtAnyOffset F s at_ = some true := ⟨100000, next_law (Nat.le_refl _) s at_⟩

theorem scan_L0 {F : Nat} (hF : 100000 ≤ F) {s : List UInt8} (hs : s.length ≤ 8192) : ∀ (m i n : Nat) (acc : List S_Token), i + m = s.length → m < n → acc.length + m ≤ 20000 →
    ∃ l a e, token_Scan_L0 F s n acc (i : Int) = some (.esc (l, a, e)) ∧ ref3_Lexed_L0 F s n acc (i : Int) = some (.esc (l, a, e)) ∧ l.length ≤ 20000 := by
  intro m
  induction m using Nat.strongRecOn with
  | _ m ih =>
    intro i n acc hi hn ha
    obtain ⟨n, rfl⟩ : ∃ q, n = q + 1 := ⟨n - 1, by omega⟩
    obtain ⟨r, h1, h2, h3⟩ := next_lex hF hs (i := i) (by omega)
    rw [token_Scan_L0, ref3_Lexed_L0, Next_of hs (by omega) h1, h2, call_some, call_some]
    by_cases he : r.2.2 = 0
    · rw [show (r.2.2 != 0) = false by simpa using he]
      simp only [cond_false]
      cases hk : r.1.f0 == 0
      · simp only [cond_false]
        have hk0 : r.1.f0 ≠ 0 := by simpa using hk
        obtain ⟨q, hq1, hq2, hq3⟩ := (h3 he).resolve_left hk0
        rw [chk_pos (by simp; omega), hq1, chk_pos (by simp; omega)]
        exact ih (s.length - q) (by omega) q n _ (by omega) (by omega) (by simp; omega)
      · exact ⟨_, _, _, rfl, rfl, by omega⟩
    · rw [show (r.2.2 != 0) = true by simpa using he]
      simp only [cond_true]
      rw [if_neg he]
      exact ⟨_, _, _, rfl, rfl, by simp⟩

theorem equal_L0 (F : Nat) (l : List S_Token) (hl : l.length ≤ 20000) : ∀ (m i n : Nat), i + m = l.length → m < n → slices_Equal_Token_L0 F l l n (i : Int) = some (.go ()) := by
  intro m
  induction m with
  | zero =>
    intro i n hi hn
    obtain ⟨n, rfl⟩ : ∃ q, n = q + 1 := ⟨n - 1, by omega⟩
    obtain rfl : i = l.length := by omega
    rw [slices_Equal_Token_L0, dec_end, cond_false]
  | succ m ih =>
    intro i n hi hn
    obtain ⟨n, rfl⟩ : ∃ q, n = q + 1 := ⟨n - 1, by omega⟩
    have hlt : i < l.length := by omega
    rw [slices_Equal_Token_L0, dec_lt hlt, cond_true, chk_in hlt, chk_in hlt, lett_eq, wrap_succ (by omega), ih (i + 1) n (by omega) (by omega)]
    simp
theorem equal_eq {F : Nat} (hF : 30000 ≤ F) {l : List S_Token} (hl : l.length ≤ 20000) : slices_Equal_Token F l l = some true := by
  unfold slices_Equal_Token
  rw [bne_self_eq_false, cond_false, show (0 : Int) = ((0 : Nat) : Int) from rfl, equal_L0 F l hl l.length 0 F (by omega) (by omega)]
  rfl

theorem match_law {F : Nat} (hF : 100000 ≤ F) (s : List UInt8) : law3_TokenMatchesReference F s = some true := by
  obtain ⟨n, rfl⟩ : ∃ n, F = n + 100000 := ⟨F - 100000, by omega⟩
  unfold law3_TokenMatchesReference
  rw [fact_eq, call_some, Bool.not_true, cond_false]
  have hx : ∃ l a e, token_Scan (n + 100000) s = some (l, a, e) ∧ ref3_Lexed (n + 100000) s = some (l, a, e) ∧ l.length ≤ 20000 := by
    unfold token_Scan ref3_Lexed
    by_cases hl : s.length > 8192
    · have h1 : token_Next (n + 100000) s 0 = some (tz, 0, 2) := by
        unfold token_Next
        rw [decide_eq_true (by omega)]; rfl
      obtain ⟨k, hk⟩ : ∃ k, n + 100000 = k + 1 := ⟨n + 99999, by omega⟩
      have h2 : token_Scan_L0 (n + 100000) s (n + 100000) [] 0 = token_Scan_L0 (n + 100000) s (k + 1) [] 0 := congrArg (fun q => token_Scan_L0 (n + 100000) s q [] 0) hk
      rw [decide_eq_true (by omega), h2, token_Scan_L0, h1]
      exact ⟨_, _, _, rfl, rfl, by simp⟩
    · obtain ⟨l, a, e, h1, h2, h3⟩ := scan_L0 (F := n + 100000) (by omega) (s := s) (by omega) s.length 0 (n + 100000) [] (by omega) (by omega) (by simp; omega)
      rw [show ((0 : Nat) : Int) = 0 from rfl] at h1 h2
      rw [decide_eq_false (show ¬ (s.length : Int) > 8192 by omega), h1, h2]
      exact ⟨l, a, e, rfl, rfl, h3⟩
  obtain ⟨l, a, e, h1, h2, h3⟩ := hx
  rw [h1, h2, call_some, call_some]
  simp [call_some, equal_eq (F := n + 100000) (by omega) h3]
theorem match_total (s : List UInt8) : ∃ F, law3_TokenMatchesReference F s = some true := ⟨100000, match_law (Nat.le_refl _) s⟩
end Go.Vm.LexG
