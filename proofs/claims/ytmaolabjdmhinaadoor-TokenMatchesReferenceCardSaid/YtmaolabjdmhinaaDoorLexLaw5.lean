/-
  token, reading: plain law 5: texts between parentheses.
-/
import Derived.Test.YtmaolabjdmhinaaDoorLexLaw4
namespace Go.Vm.LexG

def escB (e : UInt8) : Option UInt8 :=
  bif (e.toNat : Int) == 110 then some 10 else bif (e.toNat : Int) == 116 then some 9 else
  bif (bif (e.toNat : Int) == 92 then true else bif (e.toNat : Int) == 40 then true else (e.toNat : Int) == 41) then some e else none
/-- What stands behind a backslash: the text with it and the rest; the error. -/
def escT (e : UInt8) (r acc : List UInt8) : Sum (List UInt8 × List UInt8) Int :=
  bif (e.toNat : Int) == 10 then .inl (acc, r) else
  match escB e with
  | some x => .inl (acc ++ [x], r)
  | none =>
    bif (e.toNat : Int) == 120 then
      match r with
      | a :: b :: q => match pairv a b with
        | some v => .inl (acc ++ [UInt8.ofNat v], q)
        | none => .inr 5
      | _ => .inr 5
    else .inr 5
def escS (l acc : List UInt8) : Sum (List UInt8 × List UInt8) Int :=
  match l with
  | [] => .inr 12
  | e :: r => escT e r acc
theorem escS_nil (acc : List UInt8) : escS [] acc = .inr 12 := rfl
theorem escS_cons (e : UInt8) (r acc : List UInt8) : escS (e :: r) acc = escT e r acc := rfl
theorem escS_len {l acc w r : List UInt8} (h : escS l acc = .inl (w, r)) : r.length < l.length ∧ w.length ≤ acc.length + 1 ∧ r <:+ l := by
  match l, h with
  | e :: r', h =>
    rw [escS_cons] at h
    unfold escT at h
    cases h10 : (e.toNat : Int) == 10
    · simp only [h10, cond_false] at h
      cases hb : escB e with
      | some x =>
        simp only [hb] at h
        cases h
        exact ⟨by simp, by simp, List.suffix_cons _ _⟩
      | none =>
        simp only [hb] at h
        cases hx : (e.toNat : Int) == 120
        · simp only [hx, cond_false] at h; cases h
        · simp only [hx, cond_true] at h
          match r', h with
          | [], h => cases h
          | [_], h => cases h
          | a :: b :: q, h =>
            cases hp : pairv a b with
            | none => simp only [hp] at h; cases h
            | some v =>
              simp only [hp] at h
              cases h
              exact ⟨by simp; omega, by simp, (List.suffix_cons b r).trans ((List.suffix_cons a _).trans (List.suffix_cons e _))⟩
    · simp only [h10, cond_true] at h
      cases h
      exact ⟨by simp, by omega, List.suffix_cons _ _⟩

def textS : Nat → List UInt8 → Nat → List UInt8 → Sum (List UInt8 × List UInt8) Int
  | 0, _, _, _ => .inr 12
  | _ + 1, [], _, _ => .inr 12
  | k + 1, c :: t, d, acc =>
    bif (c.toNat : Int) == 92 then
      match escS t acc with
      | .inl (w, r) => textS k r d w
      | .inr e => .inr e
    else bif (c.toNat : Int) == 40 then (bif decide (16 < d + 1) then .inr 15 else textS k t (d + 1) (acc ++ [c]))
    else bif (c.toNat : Int) == 41 then (bif decide (d = 1) then (bif decide (1024 < acc.length) then .inr 2 else .inl (acc, t)) else textS k t (d - 1) (acc ++ [c]))
    else textS k t d (acc ++ [c])

theorem write_eq (F : Nat) {x : UInt8} {acc : List UInt8} (h : acc.length ≤ 200000) : strings_Builder_WriteByte F (x.toNat : Int) acc = some ((), acc ++ [x]) := by
  unfold strings_Builder_WriteByte
  rw [chk_pos (byte_in x), chk_pos (by simp; omega), ofc]
theorem write_nat (F : Nat) {v : Nat} (hv : v < 256) {acc : List UInt8} (h : acc.length ≤ 200000) : strings_Builder_WriteByte F ((v : Nat) : Int) acc = some ((), acc ++ [UInt8.ofNat v]) := by
  unfold strings_Builder_WriteByte
  rw [chk_pos ⟨by omega, by omega⟩, chk_pos (by simp; omega), nat_toNat]

/-- The escape, in the reader. -/
theorem escape_eq {F : Nat} {s : List UInt8} (hs : s.length ≤ 10000) {i : Nat} (hi : i ≤ s.length) {acc : List UInt8} (ha : acc.length ≤ 100000) :
    ∃ x, token_cursor_escape F s (i : Int) acc = some x ∧ (match escS (s.drop i) acc with
      | .inl (w, r) => x = (0, s, ((posn s r : Nat) : Int), w)
      | .inr e => e ≠ 0 ∧ x.1 = e ∧ x.2.1 = s) := by
  unfold token_cursor_escape
  by_cases he : i = s.length
  · subst he
    rw [show (((s.length : Nat) : Int) == (s.length : Int)) = true by simp, cond_true, List.drop_length]
    exact ⟨_, rfl, by decide, rfl, rfl⟩
  · have hlt : i < s.length := by omega
    rw [show ((i : Int) == (s.length : Int)) = false by rw [beq_eq_false_iff_ne]; omega, cond_false, chk_in hlt, nat_toNat, wrap_succ (by omega), getD_head hlt]
    have hp1 := posn_at (s := s) (i := i + 1) (by omega)
    rw [escS_cons]
    unfold escT
    have hdr := fun (h : i + 1 < s.length) => getD_head h
    generalize s.getD i 0 = e at *
    cases h10 : (e.toNat : Int) == 10
    · simp only [cond_false]
      unfold escB
      cases h110 : (e.toNat : Int) == 110
      · cases h116 : (e.toNat : Int) == 116
        · have hv1 : (bif ((e.toNat : Int) == (92 : Int)) then some ((e.toNat : Int) == (92 : Int)) else bif ((e.toNat : Int) == (40 : Int)) then some ((e.toNat : Int) == (40 : Int)) else some ((e.toNat : Int) == (41 : Int))) = some (bif (e.toNat : Int) == 92 then true else bif (e.toNat : Int) == 40 then true else (e.toNat : Int) == 41) := by
            cases (e.toNat : Int) == 92 <;> cases (e.toNat : Int) == 40 <;> rfl
          simp only [cond_false]
          rw [hv1, call_some]
          cases (bif (e.toNat : Int) == 92 then true else bif (e.toNat : Int) == 40 then true else (e.toNat : Int) == 41)
          · simp only [cond_false]
            cases hx : (e.toNat : Int) == 120
            · exact ⟨_, rfl, by decide, rfl, rfl⟩
            · simp only [cond_true]
              by_cases h2 : s.length < i + 3
              · rw [pair_few hs (by omega) (by omega), call_some]
                have hl : (s.drop (i + 1)).length < 2 := by rw [List.length_drop]; omega
                match s.drop (i + 1), hl with
                | [], _ => exact ⟨_, rfl, by decide, rfl, rfl⟩
                | [_], _ => exact ⟨_, rfl, by decide, rfl, rfl⟩
              · obtain ⟨z, hz, hzv⟩ := pair_two (F := F) hs (i := i + 1) (by omega)
                have hd2 := getD_head (s := s) (i := i + 1 + 1) (by omega)
                rw [hz, call_some, hdr (by omega), hd2]
                cases hp : pairv (s.getD (i + 1) 0) (s.getD (i + 1 + 1) 0) with
                | none =>
                  refine ⟨_, rfl, ?_⟩
                  simp only [hp]
                  exact ⟨by decide, trivial, trivial⟩
                | some v =>
                  rw [hzv v hp]
                  simp only [Option.isSome_some, Bool.not_true, cond_false, callE_go]
                  rw [write_nat F (pairv_lt hp) (by omega), call_some]
                  refine ⟨_, rfl, ?_⟩
                  simp only [hp]
                  rw [show i + 1 + 1 + 1 = i + 1 + 2 from rfl, posn_at (by omega)]
          · simp only [cond_true, callE_go]
            rw [write_eq F (by omega), call_some]
            exact ⟨_, rfl, by rw [hp1]⟩
        · simp only [cond_false, cond_true, callE_go]
          rw [show (9 : Int) = ((9 : Nat) : Int) from rfl, write_nat F (by omega) (by omega), call_some]
          exact ⟨_, rfl, by rw [hp1]; rfl⟩
      · simp only [cond_true, callE_go]
        rw [show (10 : Int) = ((10 : Nat) : Int) from rfl, write_nat F (by omega) (by omega), call_some]
        exact ⟨_, rfl, by rw [hp1]; rfl⟩
    · exact ⟨_, rfl, by simp only [cond_true]; rw [hp1]⟩

theorem text_L0 {F : Nat} (s : List UInt8) (hs : s.length ≤ 10000) : ∀ (m i n k d : Nat) (acc : List UInt8), i + m = s.length → m < n → m < k → 1 ≤ d → d ≤ 16 → acc.length + m ≤ 50000 →
    ∃ x, callE (token_cursor_text_L0 F n acc s (i : Int) (d : Int)) (fun e => some e) (fun (v6, v7) => some ([], (12 : Int), v6, v7)) = some x ∧ (match textS k (s.drop i) d acc with
      | .inl (w, r) => x = (w, 0, s, ((posn s r : Nat) : Int))
      | .inr e => e ≠ 0 ∧ x.2.1 = e ∧ x.2.2.1 = s) := by
  intro m
  induction m using Nat.strongRecOn with
  | _ m ih =>
    intro i n k d acc hi hn hk hd1 hd2 ha
    obtain ⟨n, rfl⟩ : ∃ q, n = q + 1 := ⟨n - 1, by omega⟩
    obtain ⟨k, rfl⟩ : ∃ q, k = q + 1 := ⟨k - 1, by omega⟩
    by_cases hm : m = 0
    · obtain rfl : i = s.length := by omega
      rw [token_cursor_text_L0, dec_end, cond_false, List.drop_length, callE_go]
      exact ⟨_, rfl, by decide, rfl, rfl⟩
    · have hlt : i < s.length := by omega
      rw [token_cursor_text_L0, dec_lt hlt, cond_true, chk_in hlt, nat_toNat, wrap_succ (by omega), getD_head hlt, textS]
      have hp1 := posn_at (s := s) (i := i + 1) (by omega)
      generalize s.getD i 0 = c at *
      cases h92 : (c.toNat : Int) == 92
      · simp only [cond_false]
        cases h40 : (c.toNat : Int) == 40
        · cases h41 : (c.toNat : Int) == 41
          · simp only [cond_false, callE_go]
            rw [show ((d : Int) == 0) = false by rw [beq_eq_false_iff_ne]; omega, cond_false, write_eq F (by omega), call_some]
            exact ih (m - 1) (by omega) (i + 1) n k d _ (by omega) (by omega) (by omega) hd1 hd2 (by simp; omega)
          · simp only [cond_false, cond_true, callE_go]
            rw [wrap_id (by omega)]
            by_cases hd : d = 1
            · rw [show (((d : Int) - 1) == 0) = true by rw [beq_iff_eq]; omega, cond_true, chk_pos (by omega), decide_eq_true hd]
              unfold token_limited
              by_cases h1024 : 1024 < acc.length
              · rw [decide_eq_true (show (acc.length : Int) > 1024 by omega), decide_eq_true h1024]
                exact ⟨_, rfl, by decide, rfl, rfl⟩
              · rw [decide_eq_false (show ¬ (acc.length : Int) > 1024 by omega), decide_eq_false h1024]
                refine ⟨_, rfl, ?_⟩
                simp only [cond_true, cond_false]
                rw [hp1]
            · rw [show (((d : Int) - 1) == 0) = false by rw [beq_eq_false_iff_ne]; omega, cond_false, write_eq F (by omega), call_some, decide_eq_false hd, cond_false, show (d : Int) - 1 = ((d - 1 : Nat) : Int) by omega]
              exact ih (m - 1) (by omega) (i + 1) n k (d - 1) _ (by omega) (by omega) (by omega) (by omega) (by omega) (by simp; omega)
        · simp only [cond_true]
          rw [wrap_id (by omega)]
          by_cases hd : 16 < d + 1
          · rw [decide_eq_true (show (d : Int) + 1 > 16 by omega), decide_eq_true hd]
            exact ⟨_, rfl, by decide, rfl, rfl⟩
          · rw [decide_eq_false (show ¬ (d : Int) + 1 > 16 by omega), decide_eq_false hd]
            simp only [cond_false, callE_go]
            rw [show (((d : Int) + 1) == 0) = false by rw [beq_eq_false_iff_ne]; omega, cond_false, write_eq F (by omega), call_some, show (d : Int) + 1 = ((d + 1 : Nat) : Int) by omega]
            exact ih (m - 1) (by omega) (i + 1) n k (d + 1) _ (by omega) (by omega) (by omega) (by omega) (by omega) (by simp; omega)
      · simp only [cond_true]
        obtain ⟨x, hx, hxs⟩ := escape_eq (F := F) hs (i := i + 1) (by omega) (acc := acc) (by omega)
        rw [hx, call_some]
        cases he : escS (s.drop (i + 1)) acc with
        | inl p =>
          obtain ⟨w, r⟩ := p
          rw [he] at hxs
          obtain rfl := hxs
          obtain ⟨h1, h2, h3⟩ := escS_len he
          rw [List.length_drop] at h1
          have hsuf := suf_at h3
          have hpr : posn s r = s.length - r.length := rfl
          have := ih (s.length - posn s r) (by omega) (posn s r) n k d w (by omega) (by omega) (by omega) hd1 hd2 (by omega)
          rw [posn_drop hsuf] at this
          exact this
        | inr e =>
          rw [he] at hxs
          obtain ⟨h1, h2, h3⟩ := hxs
          have hb : (x.1 != 0) = true := by rw [h2]; simpa using h1
          rw [hb, cond_true]
          exact ⟨_, rfl, h1, h2, h3⟩
end Go.Vm.LexG
