/-
  token, reading: plain law 6: texts between parentheses, in the reference.
-/
import Derived.Test.YtmaolabjdmhinaaDoorLexLaw5
namespace Go.Vm.LexG

theorem text_eq {F : Nat} {s : List UInt8} (hs : s.length ≤ 10000) (hF : 20000 ≤ F) {i : Nat} (hi : i ≤ s.length) :
    ∃ x, token_cursor_text F s (i : Int) = some x ∧ (match textS 20000 (s.drop i) 1 [] with
      | .inl (w, r) => x = (w, 0, s, ((posn s r : Nat) : Int))
      | .inr e => e ≠ 0 ∧ x.2.1 = e ∧ x.2.2.1 = s) :=
  text_L0 s hs (s.length - i) i F 20000 1 [] (by omega) (by omega) (by omega) (by omega) (by omega) (by simp; omega)

/-- What the reference makes of it. -/
def tokT (l : List UInt8) : Sum (List UInt8 × List UInt8) Int → S_Token × Int × Int
  | .inl (w, r) => (⟨3, 0, w, 0, 0⟩, ((posn l r : Nat) : Int), 0)
  | .inr e => (⟨0, 0, [], 0, 0⟩, 0, e)
def endT (v13 : Int) : Option (S_Token × Int × Int) := bif (decide (v13 > (1 : Int))) then some ((S_Token.mk 0 0 [] 0 0), (0 : Int), (5 : Int)) else some ((S_Token.mk 0 0 [] 0 0), (0 : Int), (12 : Int))

/-- What map1 answers. -/
def mapI (e : UInt8) : Int := match escB e with | some x => (x.toNat : Int) | none => bif (e.toNat : Int) == 10 then -1 else -2
theorem map1_eq (F : Nat) (e : UInt8) : ref3_map1 F (e.toNat : Int) = some (mapI e) := by
  unfold ref3_map1 mapI escB
  have hv1 : (bif ((e.toNat : Int) == (92 : Int)) then some ((e.toNat : Int) == (92 : Int)) else bif ((e.toNat : Int) == (40 : Int)) then some ((e.toNat : Int) == (40 : Int)) else some ((e.toNat : Int) == (41 : Int))) = some (bif (e.toNat : Int) == 92 then true else bif (e.toNat : Int) == 40 then true else (e.toNat : Int) == 41) := by
    cases (e.toNat : Int) == 92 <;> cases (e.toNat : Int) == 40 <;> rfl
  rw [hv1, call_some, wrap_id (by have := e.toNat_lt; omega)]
  cases (e.toNat : Int) == 110
  · cases (e.toNat : Int) == 116
    · cases (bif (e.toNat : Int) == 92 then true else bif (e.toNat : Int) == 40 then true else (e.toNat : Int) == 41)
      · cases (e.toNat : Int) == 10 <;> rfl
      · rfl
    · rfl
  · rfl
theorem hexi_some {a : UInt8} {x : Nat} (h : hexv a = some x) : hexi a = (x : Int) := by unfold hexi; rw [h]

/-- State 3: the second digit. -/
theorem st3 {F : Nat} (hF : 20000 ≤ F) {l : List UInt8} (hl : l.length ≤ 10000) {n i d x : Nat} {acc : List UInt8} (hi : i ≤ l.length) (ha : acc.length ≤ 100000) (hx : x < 16) :
    callE (ref3_textToken_L0 F l (n + 1) acc (d : Int) 3 (x : Int) (i : Int)) (fun e => some e) endT = (match l.drop i with
      | [] => some (⟨0, 0, [], 0, 0⟩, 0, 5)
      | b :: _ => match hexv b with
        | some y => callE (ref3_textToken_L0 F l n (acc ++ [UInt8.ofNat (x * 16 + y)]) (d : Int) 0 (y : Int) ((i + 1 : Nat) : Int)) (fun e => some e) endT
        | none => some (⟨0, 0, [], 0, 0⟩, 0, 5)) := by
  by_cases he : i = l.length
  · subst he
    rw [ref3_textToken_L0, dec_end, cond_false, List.drop_length, callE_go]; rfl
  · have hlt : i < l.length := by omega
    rw [ref3_textToken_L0, dec_lt hlt, cond_true, chk_in hlt, nat_toNat, wrap_succ (by omega), getD_head hlt]
    generalize l.getD i 0 = b at *
    rw [show ((3 : Int) == 1) = false from rfl, show decide ((3 : Int) > 1) = true from rfl]
    simp only [cond_false, cond_true]
    rw [rhex (by omega), call_some, hexi_neg]
    cases hb : hexv b with
    | none => rfl
    | some y =>
      have hy := hexv_lt hb
      rw [hexi_some hb, show ((3 : Int) == 3) = true from rfl]
      simp only [Option.isNone_some, cond_false, cond_true]
      rw [join_ref hx hy, nat_toNat, chk_pos ⟨by omega, by omega⟩, chk_pos (by simp; omega), lett_eq, call_some, callE_go]
      rfl

/-- State 2: the first digit. -/
theorem st2 {F : Nat} (hF : 20000 ≤ F) {l : List UInt8} (hl : l.length ≤ 10000) {n i d : Nat} {h4 : Int} {acc : List UInt8} (hi : i ≤ l.length) (_ : acc.length ≤ 100000) :
    callE (ref3_textToken_L0 F l (n + 1) acc (d : Int) 2 h4 (i : Int)) (fun e => some e) endT = (match l.drop i with
      | [] => some (⟨0, 0, [], 0, 0⟩, 0, 5)
      | a :: _ => match hexv a with
        | some x => callE (ref3_textToken_L0 F l n acc (d : Int) 3 (x : Int) ((i + 1 : Nat) : Int)) (fun e => some e) endT
        | none => some (⟨0, 0, [], 0, 0⟩, 0, 5)) := by
  by_cases he : i = l.length
  · subst he
    rw [ref3_textToken_L0, dec_end, cond_false, List.drop_length, callE_go]; rfl
  · have hlt : i < l.length := by omega
    rw [ref3_textToken_L0, dec_lt hlt, cond_true, chk_in hlt, nat_toNat, wrap_succ (by omega), getD_head hlt]
    generalize l.getD i 0 = a at *
    rw [show ((2 : Int) == 1) = false from rfl, show decide ((2 : Int) > 1) = true from rfl]
    simp only [cond_false, cond_true]
    rw [rhex (by omega), call_some, hexi_neg]
    cases hb : hexv a with
    | none => rfl
    | some x =>
      rw [hexi_some hb, show ((2 : Int) == 3) = false from rfl]
      simp only [Option.isNone_some, cond_false, call_some, callE_go]
      rfl

theorem endT_1 : endT 1 = some (⟨0, 0, [], 0, 0⟩, 0, 12) := rfl
/-- State 1: behind the backslash. -/
theorem st1 {F : Nat} (hF : 20000 ≤ F) {l : List UInt8} (hl : l.length ≤ 10000) {n i d : Nat} {h4 : Int} {acc : List UInt8} (hi : i ≤ l.length) (ha : acc.length ≤ 50000) :
    ∃ m h4', callE (ref3_textToken_L0 F l (n + 3) acc (d : Int) 1 h4 (i : Int)) (fun e => some e) endT = (match escS (l.drop i) acc with
      | .inl (w, r) => callE (ref3_textToken_L0 F l m w (d : Int) 0 h4' ((posn l r : Nat) : Int)) (fun e => some e) endT
      | .inr e => some (⟨0, 0, [], 0, 0⟩, 0, e)) ∧ (∀ w r, escS (l.drop i) acc = .inl (w, r) → n + 3 + r.length ≤ m + (l.length - i)) := by
  by_cases he : i = l.length
  · subst he
    rw [ref3_textToken_L0, dec_end, cond_false, List.drop_length, callE_go, escS_nil]
    exact ⟨n, 0, rfl, fun w r h => by cases h⟩
  · have hlt : i < l.length := by omega
    rw [ref3_textToken_L0, dec_lt hlt, cond_true, chk_in hlt, nat_toNat, wrap_succ (by omega), getD_head hlt, escS_cons]
    have hp1 := posn_at (s := l) (i := i + 1) (by omega)
    have hdr := fun (h : i + 1 < l.length) => getD_head h
    unfold escT
    generalize l.getD i 0 = e at *
    rw [show ((1 : Int) == 1) = true from rfl]
    simp only [cond_true, map1_eq]
    cases hx : (e.toNat : Int) == 120
    · simp only [cond_false, call_some]
      unfold mapI
      cases hb : escB e with
      | some x =>
        have hxr := byte_in x
        have h10 : ((e.toNat : Int) == 10) = false := by
          cases h10 : (e.toNat : Int) == 10
          · rfl
          · rw [beq_iff_eq] at h10
            unfold escB at hb
            rw [h10] at hb; cases hb
        refine ⟨n + 2, h4, ?_, fun w r h => by simp only [h10, cond_false] at h; cases h; rw [List.length_drop]; omega⟩
        simp only [h10, cond_false]
        rw [show ((x.toNat : Int) == -2) = false by rw [beq_eq_false_iff_ne]; omega, decide_eq_true (show (x.toNat : Int) ≥ 0 by omega)]
        simp only [cond_false, cond_true]
        rw [wrap_u8 hxr, chk_pos hxr, chk_pos (by simp; omega), ofc, callE_go, hp1]
      | none =>
        cases h10 : (e.toNat : Int) == 10
        · exact ⟨n, 0, rfl, fun w r h => by cases h⟩
        · refine ⟨n + 2, h4, ?_, fun w r h => by cases h; rw [List.length_drop]; omega⟩
          simp only [cond_true]
          rw [show ((-1 : Int) == -2) = false from rfl, show decide ((-1 : Int) ≥ 0) = false from rfl]
          simp only [cond_false, callE_go]
          rw [hp1]
    · have h120 : (e.toNat : Int) = 120 := by simpa using hx
      have h10 : ((e.toNat : Int) == 10) = false := by rw [h120]; rfl
      have hb : escB e = none := by unfold escB; rw [h120]; rfl
      simp only [h10, hb, cond_true, cond_false, callE_go]
      rw [st2 hF hl (n := n + 1) (by omega) (by omega)]
      by_cases h1 : i + 1 = l.length
      · rw [h1, List.drop_length]
        exact ⟨n, 0, rfl, fun w r h => by cases h⟩
      · rw [hdr (by omega)]
        simp only
        generalize l.getD (i + 1) 0 = a at *
        cases hva : hexv a with
        | none =>
          cases hd2 : l.drop (i + 1 + 1) with
          | nil => exact ⟨n, 0, rfl, fun w r h => by cases h⟩
          | cons b q =>
            have : pairv a b = none := by unfold pairv; rw [hva]
            refine ⟨n, 0, ?_, fun w r h => ?_⟩
            · simp only [this]
            · simp only [this] at h; cases h
        | some x =>
          simp only
          rw [st3 hF hl (n := n) (by omega) (by omega) (hexv_lt hva)]
          by_cases h2 : i + 1 + 1 = l.length
          · rw [h2, List.drop_length]
            exact ⟨n, 0, rfl, fun w r h => by cases h⟩
          · have hd2 := getD_head (s := l) (i := i + 1 + 1) (by omega)
            rw [hd2]
            simp only
            generalize l.getD (i + 1 + 1) 0 = b at *
            cases hvb : hexv b with
            | none =>
              have : pairv a b = none := by unfold pairv; rw [hva, hvb]
              exact ⟨n, 0, by simp only [this], fun w r h => by simp only [this] at h; cases h⟩
            | some y =>
              have : pairv a b = some (x * 16 + y) := by unfold pairv; rw [hva, hvb]
              have hp3 := posn_at (s := l) (i := i + 1 + 1 + 1) (by omega)
              exact ⟨n, (y : Int), by simp only [this]; rw [hp3], fun w r h => by simp only [this] at h; cases h; rw [List.length_drop]; omega⟩

theorem textToken_L0 {F : Nat} (hF : 20000 ≤ F) (l : List UInt8) (hl : l.length ≤ 10000) : ∀ (m i n k d : Nat) (h4 : Int) (acc : List UInt8), i + m = l.length → m + 5 < n → m < k → 1 ≤ d → d ≤ 16 → acc.length + m ≤ 50000 →
    callE (ref3_textToken_L0 F l n acc (d : Int) 0 h4 (i : Int)) (fun e => some e) endT = some (tokT l (textS k (l.drop i) d acc)) := by
  intro m
  induction m using Nat.strongRecOn with
  | _ m ih =>
    intro i n k d h4 acc hi hn hk hd1 hd2 ha
    obtain ⟨n, rfl⟩ : ∃ q, n = q + 1 := ⟨n - 1, by omega⟩
    obtain ⟨k, rfl⟩ : ∃ q, k = q + 1 := ⟨k - 1, by omega⟩
    by_cases hm : m = 0
    · obtain rfl : i = l.length := by omega
      rw [ref3_textToken_L0, dec_end, cond_false, List.drop_length, callE_go]; rfl
    · have hlt : i < l.length := by omega
      rw [ref3_textToken_L0, dec_lt hlt, cond_true, chk_in hlt, nat_toNat, wrap_succ (by omega), getD_head hlt, textS]
      have hp1 := posn_at (s := l) (i := i + 1) (by omega)
      generalize l.getD i 0 = c at *
      have hcr := byte_in c
      rw [show ((0 : Int) == 1) = false from rfl, show decide ((0 : Int) > 1) = false from rfl]
      simp only [cond_false]
      cases h92 : (c.toNat : Int) == 92
      · simp only [cond_false]
        cases h40 : (c.toNat : Int) == 40
        · cases h41 : (c.toNat : Int) == 41
          · simp only [cond_false, call_some]
            rw [decide_eq_false (show ¬ (d : Int) > 16 by omega)]
            simp only [cond_false]
            rw [chk_pos hcr, chk_pos (by simp; omega), ofc, callE_go]
            exact ih (m - 1) (by omega) (i + 1) n k d _ _ (by omega) (by omega) (by omega) hd1 hd2 (by simp; omega)
          · simp only [cond_false, cond_true, call_some]
            by_cases hd : d = 1
            · rw [show ((d : Int) == 1) = true by rw [beq_iff_eq]; omega, decide_eq_true hd]
              simp only [cond_true]
              by_cases h1024 : 1024 < acc.length
              · rw [decide_eq_true (show (acc.length : Int) > 1024 by omega), decide_eq_true h1024]; rfl
              · rw [decide_eq_false (show ¬ (acc.length : Int) > 1024 by omega), decide_eq_false h1024]
                simp only [cond_false, callE_esc', tokT]
                rw [hp1]
            · rw [show ((d : Int) == 1) = false by rw [beq_eq_false_iff_ne]; omega, decide_eq_false hd, wrap_id (by omega)]
              simp only [cond_false]
              rw [decide_eq_false (show ¬ (d : Int) - 1 > 16 by omega)]
              simp only [cond_false]
              rw [chk_pos hcr, chk_pos (by simp; omega), ofc, callE_go, show (d : Int) - 1 = ((d - 1 : Nat) : Int) by omega]
              exact ih (m - 1) (by omega) (i + 1) n k (d - 1) _ _ (by omega) (by omega) (by omega) (by omega) (by omega) (by simp; omega)
        · have h41 : ((c.toNat : Int) == 41) = false := by
            have : (c.toNat : Int) = 40 := by simpa using h40
            rw [this]; rfl
          simp only [h41, cond_false, cond_true, call_some]
          rw [wrap_id (by omega)]
          by_cases hd : 16 < d + 1
          · rw [decide_eq_true (show (d : Int) + 1 > 16 by omega), decide_eq_true hd]; rfl
          · rw [decide_eq_false (show ¬ (d : Int) + 1 > 16 by omega), decide_eq_false hd]
            simp only [cond_false]
            rw [chk_pos hcr, chk_pos (by simp; omega), ofc, callE_go, show (d : Int) + 1 = ((d + 1 : Nat) : Int) by omega]
            exact ih (m - 1) (by omega) (i + 1) n k (d + 1) _ _ (by omega) (by omega) (by omega) (by omega) (by omega) (by simp; omega)
      · simp only [cond_true, callE_go]
        obtain ⟨n, rfl⟩ : ∃ q, n = q + 3 := ⟨n - 3, by omega⟩
        obtain ⟨n', h4', h1, h2⟩ := st1 hF hl (n := n) (i := i + 1) (d := d) (h4 := h4) (acc := acc) (by omega) (by omega)
        refine Eq.trans h1 ?_
        cases he : escS (l.drop (i + 1)) acc with
        | inl p =>
          obtain ⟨w, r⟩ := p
          have h3 := h2 w r he
          obtain ⟨g1, g2, g3⟩ := escS_len he
          rw [List.length_drop] at g1
          have hsuf := suf_at g3
          have hpr : posn l r = l.length - r.length := rfl
          simp only
          rw [ih (l.length - posn l r) (by omega) (posn l r) n' k d h4' w (by omega) (by omega) (by omega) hd1 hd2 (by omega), posn_drop hsuf]
        | inr e => rfl
theorem textToken_eq {F : Nat} (hF : 20000 ≤ F) {l : List UInt8} (hl : l.length ≤ 10000) : ref3_textToken F l = some (tokT l (textS 20000 l 1 [])) :=
  textToken_L0 hF l hl l.length 0 F 20000 1 0 [] (by omega) (by omega) (by omega) (by omega) (by omega) (by simp; omega)
end Go.Vm.LexG
