/-
  token, reading: plain law 7: texts in hexadecimal digits.
-/
import Derived.Test.YtmaolabjdmhinaaDoorLexLaw6
namespace Go.Vm.LexG

def pairs : List Nat → List UInt8
  | a :: b :: r => UInt8.ofNat (a * 16 + b) :: pairs r
  | [_] => []
  | [] => []
theorem pairs_len : ∀ (ns : List Nat), (pairs ns).length ≤ ns.length
  | [] => by simp [pairs]
  | [_] => by simp [pairs]
  | a :: b :: r => by
    have := pairs_len r
    simp [pairs]; omega
theorem pairs_odd : ∀ (ns : List Nat) (v : Nat), ns.length % 2 = 0 → pairs (ns ++ [v]) = pairs ns
  | [], _, _ => rfl
  | [_], _, h => by simp at h
  | a :: b :: r, v, h => by
    have := pairs_odd r v (by simp at h; omega)
    simp only [List.cons_append, pairs, this]
theorem pairs_two : ∀ (ns : List Nat) (a b : Nat), ns.length % 2 = 0 → pairs (ns ++ [a] ++ [b]) = pairs ns ++ [UInt8.ofNat (a * 16 + b)]
  | [], _, _, _ => rfl
  | [_], _, _, h => by simp at h
  | x :: y :: r, a, b, h => by
    have := pairs_two r a b (by simp at h; omega)
    simp only [List.cons_append, pairs, this]

def hexS : List UInt8 → List Nat → Sum (List Nat × List UInt8) Int
  | [], _ => .inr 12
  | c :: t, ns => bif white c then hexS t ns else
    bif (bif (c.toNat : Int) == 62 then decide (ns.length % 2 = 0) else false) then .inl (ns, t) else
    match hexv c with
    | some v => hexS t (ns ++ [v])
    | none => .inr 5
def hexW : Sum (List Nat × List UInt8) Int → Sum (List UInt8 × List UInt8) Int
  | .inl (ns, t) => bif decide (1024 < (pairs ns).length) then .inr 2 else .inl (pairs ns, t)
  | .inr e => .inr e

theorem tmod2 (n : Nat) : (((n : Nat) : Int).tmod 2 == 0) = decide (n % 2 = 0) := by
  rw [Int.tmod_eq_emod_of_nonneg (by omega), Bool.eq_iff_iff, beq_iff_eq, decide_eq_true_eq]; omega

theorem hex_L0 {F : Nat} (s : List UInt8) (hs : s.length ≤ 10000) : ∀ (m i n : Nat) (ns : List Nat) (v3 : Int), i + m = s.length → m < n → ns.length + m ≤ 50000 →
    (ns.length % 2 = 1 → ∃ ns' a, ns = ns' ++ [a] ∧ v3 = ((a : Nat) : Int) ∧ a < 16) →
    ∃ x, callE (token_cursor_hex_L0 F s n (i : Int) (pairs ns) v3 (ns.length : Int)) (fun e => some e) (fun v6 => some ([], (12 : Int), s, v6)) = some x ∧ (match hexW (hexS (s.drop i) ns) with
      | .inl (w, r) => x = (w, 0, s, ((posn s r : Nat) : Int))
      | .inr e => e ≠ 0 ∧ x.2.1 = e ∧ x.2.2.1 = s) := by
  intro m
  induction m with
  | zero =>
    intro i n ns v3 hi hn _ _
    obtain ⟨n, rfl⟩ : ∃ q, n = q + 1 := ⟨n - 1, by omega⟩
    obtain rfl : i = s.length := by omega
    rw [token_cursor_hex_L0, dec_end, cond_false, List.drop_length, callE_go]
    exact ⟨_, rfl, by decide, rfl, rfl⟩
  | succ m ih =>
    intro i n ns v3 hi hn hl hodd
    obtain ⟨n, rfl⟩ : ∃ q, n = q + 1 := ⟨n - 1, by omega⟩
    have hlt : i < s.length := by omega
    have hp1 := posn_at (s := s) (i := i + 1) (by omega)
    have hpl := pairs_len ns
    rw [token_cursor_hex_L0, dec_lt hlt, cond_true, chk_in hlt, nat_toNat, wrap_succ (by omega), twhite, call_some, getD_head hlt, hexS]
    generalize s.getD i 0 = c at *
    cases hw : white c
    · simp only [cond_false, lett_eq, tmod2]
      cases hz : (bif (c.toNat : Int) == 62 then decide (ns.length % 2 = 0) else false)
      · simp only [cond_false]
        rw [thex, call_some]
        cases hv : hexv c with
        | none => exact ⟨_, rfl, by decide, rfl, rfl⟩
        | some v =>
          have hv16 := hexv_lt hv
          simp only [Bool.not_true, cond_false]
          rw [wrap_succ (by omega), tmod2]
          by_cases he : ns.length % 2 = 0
          · rw [decide_eq_false (by omega), cond_false, call_some]
            have h := ih (i + 1) n (ns ++ [v]) (v : Int) (by omega) (by omega) (by simp; omega) (fun _ => ⟨ns, v, rfl, rfl, hv16⟩)
            rw [pairs_odd ns v he, List.length_append, List.length_singleton] at h
            exact h
          · obtain ⟨ns', a, rfl, rfl, ha⟩ := hodd (by omega)
            have he' : ns'.length % 2 = 0 := by simp at he; omega
            rw [decide_eq_true (by omega), cond_true, join_nat a ha v hv16, pairs_odd ns' a he', write_nat F (by omega) (by rw [pairs_odd ns' a he'] at hpl; omega), call_some, call_some]
            have h := ih (i + 1) n (ns' ++ [a] ++ [v]) (v : Int) (by omega) (by omega) (by simp at hl ⊢; omega) (fun hq => by simp at hq he; omega)
            rw [pairs_two ns' a v he', List.length_append, List.length_singleton] at h
            exact h
      · simp only [cond_true]
        rw [chk_pos (by omega)]
        unfold token_limited hexW
        simp only
        by_cases h1024 : 1024 < (pairs ns).length
        · rw [decide_eq_true (show ((pairs ns).length : Int) > 1024 by omega), decide_eq_true h1024]
          exact ⟨_, rfl, by decide, rfl, rfl⟩
        · rw [decide_eq_false (show ¬ ((pairs ns).length : Int) > 1024 by omega), decide_eq_false h1024]
          refine ⟨_, rfl, ?_⟩
          simp only [cond_false]
          rw [hp1]
    · simp only [cond_true]
      exact ih (i + 1) n ns v3 (by omega) (by omega) (by omega) hodd
theorem hex_eq {F : Nat} {s : List UInt8} (hs : s.length ≤ 10000) (hF : 20000 ≤ F) {i : Nat} (hi : i ≤ s.length) :
    ∃ x, token_cursor_hex F s (i : Int) = some x ∧ (match hexW (hexS (s.drop i) []) with
      | .inl (w, r) => x = (w, 0, s, ((posn s r : Nat) : Int))
      | .inr e => e ≠ 0 ∧ x.2.1 = e ∧ x.2.2.1 = s) :=
  hex_L0 s hs (s.length - i) i F [] 0 (by omega) (by omega) (by simp; omega) (fun h => by simp at h)

/-! ## The reference -/
def ints (ns : List Nat) : List Int := ns.map (fun (a : Nat) => (a : Int))
theorem ints_len (ns : List Nat) : (ints ns).length = ns.length := List.length_map _
theorem ints_getD {ns : List Nat} {i : Nat} (h : i < ns.length) : (ints ns).getD i 0 = ((ns.getD i 0 : Nat) : Int) := by
  rw [List.getD_eq_getElem?_getD, List.getD_eq_getElem?_getD]
  simp [ints, h]
theorem nat_head {ns : List Nat} {i : Nat} (hi : i < ns.length) : ns.drop i = ns.getD i 0 :: ns.drop (i + 1) := by
  rw [List.getD_eq_getElem?_getD, List.getElem?_eq_getElem hi]
  exact List.drop_eq_getElem_cons hi
theorem hexToken_L3 (F : Nat) (ns : List Nat) (hb : ∀ v ∈ ns, v < 16) (he : ns.length % 2 = 0) (hl : ns.length ≤ 50000) : ∀ (m i n : Nat) (acc : List UInt8), i + 2 * m = ns.length → m < n → acc.length + m ≤ 100000 →
    ref3_hexToken_L3 F (ints ns) n acc (i : Int) = some (acc ++ pairs (ns.drop i)) := by
  intro m
  induction m with
  | zero =>
    intro i n acc hi hn _
    obtain ⟨n, rfl⟩ : ∃ q, n = q + 1 := ⟨n - 1, by omega⟩
    obtain rfl : i = ns.length := by omega
    rw [ref3_hexToken_L3, ints_len, dec_end, cond_false, List.drop_length]; simp [pairs]
  | succ m ih =>
    intro i n acc hi hn ha
    obtain ⟨n, rfl⟩ : ∃ q, n = q + 1 := ⟨n - 1, by omega⟩
    have h1 : i < ns.length := by omega
    have h2 : i + 1 < ns.length := by omega
    have hm : ∀ j, j < ns.length → ns.getD j 0 < 16 := fun j hj => by
      rw [List.getD_eq_getElem?_getD, List.getElem?_eq_getElem hj]
      exact hb _ (List.getElem_mem _)
    rw [ref3_hexToken_L3, ints_len, dec_lt h1, cond_true, chk_in h1, wrap_succ (by omega), chk_in h2, nat_toNat, nat_toNat, ints_getD h1, ints_getD h2, lett_eq, nat_head h1, nat_head h2]
    have ha1 := hm i h1
    have hb1 := hm (i + 1) h2
    generalize ns.getD i 0 = a at *
    generalize ns.getD (i + 1) 0 = b at *
    rw [join_ref ha1 hb1, chk_pos ⟨by omega, by omega⟩, chk_pos (by simp; omega), nat_toNat, wrap_id (by omega), show (i : Int) + 2 = ((i + 1 + 1 : Nat) : Int) by omega, ih (i + 1 + 1) n _ (by omega) (by omega) (by simp; omega)]
    simp only [pairs, List.append_assoc, List.singleton_append]

theorem hexToken_L0 {F : Nat} (hF : 100000 ≤ F) (l : List UInt8) (hl : l.length ≤ 10000) : ∀ (m i n : Nat) (ns : List Nat), i + m = l.length → m < n → ns.length + m ≤ 50000 → (∀ v ∈ ns, v < 16) →
    callE (ref3_hexToken_L0 F l n (ints ns) (i : Int)) (fun e => some e) (fun _ => some ((S_Token.mk 0 0 [] 0 0), (0 : Int), (12 : Int))) = some (tokT l (hexW (hexS (l.drop i) ns))) := by
  intro m
  induction m with
  | zero =>
    intro i n ns hi hn _ _
    obtain ⟨n, rfl⟩ : ∃ q, n = q + 1 := ⟨n - 1, by omega⟩
    obtain rfl : i = l.length := by omega
    rw [ref3_hexToken_L0, dec_end, cond_false, List.drop_length, callE_go]; rfl
  | succ m ih =>
    intro i n ns hi hn hnl hb
    obtain ⟨n, rfl⟩ : ∃ q, n = q + 1 := ⟨n - 1, by omega⟩
    have hlt : i < l.length := by omega
    have hp1 := posn_at (s := l) (i := i + 1) (by omega)
    have hpl := pairs_len ns
    rw [ref3_hexToken_L0, dec_lt hlt, cond_true, chk_in hlt, chk_in hlt, chk_in hlt, chk_in hlt, nat_toNat, wrap_succ (by omega), rblank, call_some, getD_head hlt, hexS]
    generalize l.getD i 0 = c at *
    cases hw : white c
    · simp only [cond_false, lett_eq, ints_len, tmod2]
      cases hz : (bif (c.toNat : Int) == 62 then decide (ns.length % 2 = 0) else false)
      · simp only [cond_false]
        rw [rhex (by omega), call_some, hexi_neg]
        cases hv : hexv c with
        | none => rfl
        | some v =>
          have hv16 := hexv_lt hv
          simp only [Option.isNone_some, cond_false, call_some]
          rw [chk_pos (by simp; omega), callE_go, hexi_some hv]
          have h := ih (i + 1) n (ns ++ [v]) (by omega) (by omega) (by simp; omega) (fun w hw => by
            rcases List.mem_append.1 hw with h | h
            · exact hb w h
            · rw [List.mem_singleton.1 h]; exact hv16)
          rw [show ints (ns ++ [v]) = ints ns ++ [((v : Nat) : Int)] by simp [ints]] at h
          exact h
      · simp only [cond_true]
        have he : ns.length % 2 = 0 := by
          cases h62 : (c.toNat : Int) == 62
          · rw [h62] at hz; cases hz
          · rw [h62] at hz; simpa using hz
        have h3 := hexToken_L3 F ns hb he (by omega) (ns.length / 2) 0 F [] (by omega) (by omega) (by simp; omega)
        rw [show ((0 : Nat) : Int) = 0 from rfl, List.drop_zero, List.nil_append] at h3
        rw [h3, call_some]
        unfold hexW
        simp only
        by_cases h1024 : 1024 < (pairs ns).length
        · rw [decide_eq_true (show ((pairs ns).length : Int) > 1024 by omega), decide_eq_true h1024]; rfl
        · rw [decide_eq_false (show ¬ ((pairs ns).length : Int) > 1024 by omega), decide_eq_false h1024]
          simp only [cond_false, callE_esc', tokT]
          rw [hp1]
    · simp only [cond_true, callE_go]
      exact ih (i + 1) n ns (by omega) (by omega) (by omega) hb
theorem hexToken_eq {F : Nat} (hF : 100000 ≤ F) {l : List UInt8} (hl : l.length ≤ 10000) : ref3_hexToken F l = some (tokT l (hexW (hexS l []))) :=
  hexToken_L0 hF l hl l.length 0 F [] (by omega) (by omega) (by simp; omega) (fun v hv => by cases hv)
end Go.Vm.LexG
