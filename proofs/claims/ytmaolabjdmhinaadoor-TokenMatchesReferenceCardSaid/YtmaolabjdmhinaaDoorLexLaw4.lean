/-
  token, reading: plain law 4: names.
-/
import Derived.Test.YtmaolabjdmhinaaDoorLexLaw3
namespace Go.Vm.LexG

def pairv (a b : UInt8) : Option Nat := match hexv a, hexv b with | some x, some y => some (x * 16 + y) | _, _ => none
theorem pairv_lt {a b : UInt8} {v : Nat} (h : pairv a b = some v) : v < 256 := by
  unfold pairv at h
  cases ha : hexv a with
  | none => rw [ha] at h; cases h
  | some x =>
    cases hb : hexv b with
    | none => rw [ha, hb] at h; cases h
    | some y =>
      rw [ha, hb] at h
      have := hexv_lt ha
      have := hexv_lt hb
      cases h; omega
theorem pair_few {F : Nat} {s : List UInt8} (hs : s.length ≤ 10000) {i : Nat} (hi : i ≤ s.length) (h : s.length < i + 2) : token_cursor_pair F s (i : Int) = some (0, false, s, (i : Int)) := by
  unfold token_cursor_pair
  rw [wrap_id (by omega), decide_eq_true (show (i : Int) + 2 > s.length by omega), cond_true]
theorem pair_two {F : Nat} {s : List UInt8} (hs : s.length ≤ 10000) {i : Nat} (h : i + 2 ≤ s.length) :
    ∃ z, token_cursor_pair F s (i : Int) = some (z, (pairv (s.getD i 0) (s.getD (i + 1) 0)).isSome, s, ((i + 2 : Nat) : Int)) ∧ ∀ v, pairv (s.getD i 0) (s.getD (i + 1) 0) = some v → z = (v : Int) := by
  unfold token_cursor_pair
  rw [wrap_id (by omega), decide_eq_false (show ¬ (i : Int) + 2 > s.length by omega), cond_false, chk_in (by omega), nat_toNat, thex, call_some, wrap_succ (by omega), chk_in (by omega), nat_toNat, thex, call_some, lett_eq]
  generalize s.getD i 0 = a
  generalize s.getD (i + 1) 0 = b
  unfold pairv
  cases ha : hexv a with
  | none => exact ⟨_, rfl, fun v h => by cases h⟩
  | some x =>
    cases hb : hexv b with
    | none => exact ⟨_, rfl, fun v h => by cases h⟩
    | some y =>
      have hx := hexv_lt ha
      have hy := hexv_lt hb
      have := join_nat x hx y hy
      exact ⟨_, rfl, fun v h => by cases h; exact this⟩

/-! ## Names -/
def ctl (c : UInt8) : Bool := bif (decide ((c.toNat : Int) < 33)) then true else (decide ((c.toNat : Int) > 126))
def nameS : List UInt8 → Option (List UInt8)
  | [] => some []
  | c :: t =>
    if ((c.toNat : Int) == 35) = true then
      match t with
      | a :: b :: r => match pairv a b with
        | some v => if v = 0 then none else (nameS r).map (UInt8.ofNat v :: ·)
        | none => none
      | _ => none
    else if ctl c = true then none else (nameS t).map (c :: ·)

theorem nameS_nil : nameS [] = some [] := by rw [nameS.eq_def]
theorem nameS_few {c : UInt8} {t : List UInt8} (h : ((c.toNat : Int) == 35) = true) (hl : t.length < 2) : nameS (c :: t) = none := by
  rw [nameS.eq_def]
  simp only [h, if_true]
  match t, hl with
  | [], _ => rfl
  | [_], _ => rfl
theorem nameS_pair {c a b : UInt8} {r : List UInt8} (h : ((c.toNat : Int) == 35) = true) : nameS (c :: a :: b :: r) = match pairv a b with
        | some v => if v = 0 then none else (nameS r).map (UInt8.ofNat v :: ·)
        | none => none := by
  rw [nameS.eq_def]
  simp only [h, if_true]
theorem nameS_ctl {c : UInt8} {t : List UInt8} (h : ((c.toNat : Int) == 35) = false) (hc : ctl c = true) : nameS (c :: t) = none := by
  rw [nameS.eq_def]
  simp only [h, hc, if_true, Bool.false_eq_true, if_false]
theorem nameS_one {c : UInt8} {t : List UInt8} (h : ((c.toNat : Int) == 35) = false) (hc : ctl c = false) : nameS (c :: t) = (nameS t).map (c :: ·) := by
  rw [nameS.eq_def]
  simp only [h, hc, Bool.false_eq_true, if_false]

def outN (acc : List UInt8) {ε : Type} (e : ε) : Option (List UInt8) → Out (List UInt8) ε
  | some l => .go (acc ++ l)
  | none => .esc e
theorem outN_cons {acc : List UInt8} {c : UInt8} {ε : Type} {e : ε} (o : Option (List UInt8)) : outN acc e (o.map (c :: ·)) = outN (acc ++ [c]) e o := by
  cases o with
  | none => rfl
  | some l => simp [outN]

theorem name_L0 (F : Nat) (y1 : (List UInt8) × (List UInt8) × Int) (w : List UInt8) (hw : w.length ≤ 10000) : ∀ (m i n : Nat) (acc : List UInt8), i + m = w.length → m < n → acc.length + m ≤ 100000 →
    token_cursor_name_L0 F y1 n w (i : Int) acc = some (outN acc ([], (5 : Int), y1.2.1, y1.2.2) (nameS (w.drop i))) := by
  intro m
  induction m using Nat.strongRecOn with
  | _ m ih =>
    intro i n acc hi hn ha
    obtain ⟨n, rfl⟩ : ∃ q, n = q + 1 := ⟨n - 1, by omega⟩
    by_cases hm : m = 0
    · obtain rfl : i = w.length := by omega
      rw [token_cursor_name_L0, dec_end, cond_false, List.drop_length, nameS_nil]
      simp [outN]
    · have hlt : i < w.length := by omega
      rw [token_cursor_name_L0, dec_lt hlt, cond_true, chk_in hlt, nat_toNat, wrap_succ (by omega)]
      have hdr := getD_head hlt
      rw [hdr]
      have hcr := byte_in (w.getD i 0)
      cases h35 : ((w.getD i 0).toNat : Int) == 35
      · rw [cond_false, lett_eq]
        change (bif ctl (w.getD i 0) then _ else _) = _
        cases hc : ctl (w.getD i 0)
        · rw [cond_false]
          unfold strings_Builder_WriteByte
          rw [chk_pos hcr, chk_pos (by simp; omega), call_some, ofc, ih (m - 1) (by omega) (i + 1) n _ (by omega) (by omega) (by simp; omega), nameS_one h35 hc, outN_cons]
        · rw [cond_true, nameS_ctl h35 hc]; rfl
      · rw [cond_true]
        by_cases h2 : w.length < i + 3
        · rw [pair_few hw (by omega) (by omega), call_some, nameS_few h35 (by rw [List.length_drop]; omega)]; rfl
        · obtain ⟨z, hz, hzv⟩ := pair_two (F := F) hw (i := i + 1) (by omega)
          have hd1 := getD_head (s := w) (i := i + 1) (by omega)
          have hd2 := getD_head (s := w) (i := i + 1 + 1) (by omega)
          rw [hz, call_some, hd1, hd2, nameS_pair h35]
          cases hp : pairv (w.getD (i + 1) 0) (w.getD (i + 1 + 1) 0) with
          | none => rfl
          | some v =>
            have hvl := pairv_lt hp
            rw [hzv v hp]
            by_cases hv0 : v = 0
            · subst hv0; rfl
            · simp only [Option.isSome_some, Bool.not_true, cond_false, if_neg hv0]
              rw [show (((v : Nat) : Int) == 0) = false by rw [beq_eq_false_iff_ne]; omega, cond_false]
              unfold strings_Builder_WriteByte
              rw [chk_pos ⟨by omega, by omega⟩, chk_pos (by simp; omega), call_some, ih (m - 3) (by omega) (i + 1 + 2) n _ (by omega) (by omega) (by simp; omega), nat_toNat, outN_cons]

theorem hexi_neg (a : UInt8) : decide (hexi a < 0) = (hexv a).isNone := by
  unfold hexi
  cases h : hexv a with
  | none => rfl
  | some v =>
    show decide ((v : Int) < 0) = false
    exact decide_eq_false (by omega)

theorem nameToken_L0 {F : Nat} (hF : 20000 ≤ F) : ∀ (m n : Nat) (w acc : List UInt8), w.length = m → m ≤ 10000 → m < n → acc.length + m ≤ 100000 →
    ref3_nameToken_L0 F n w acc = some (outN acc ((S_Token.mk 0 0 [] 0 0), (5 : Int)) (nameS w)) := by
  intro m
  induction m using Nat.strongRecOn with
  | _ m ih =>
    intro n w acc hw hm hn ha
    obtain ⟨n, rfl⟩ : ∃ q, n = q + 1 := ⟨n - 1, by omega⟩
    cases w with
    | nil =>
      rw [ref3_nameToken_L0, nameS_nil]
      simp [outN]
    | cons c t =>
      have hlen : ((c :: t).length : Int) = (t.length : Int) + 1 := by simp
      have hlen2 : t.length + 1 = m := by simpa using hw
      rw [ref3_nameToken_L0, show (!(c :: t) == []) = true from rfl, cond_true, chk_pos ⟨by omega, by omega⟩, show ((c :: t).getD (0 : Int).toNat 0) = c from rfl]
      have hcr := byte_in c
      cases h35 : (c.toNat : Int) == 35
      · rw [cond_false, lett_eq]
        change callE (bif ctl c then _ else _) _ _ = _
        cases hc : ctl c
        · rw [cond_false, callE_go]
          simp only
          rw [chk_pos hcr, chk_pos (by simp; omega), chk_pos ⟨by omega, by omega, by omega⟩]
          rw [show (((c :: t).drop (1 : Int).toNat).take (((c :: t).length : Int).toNat - (1 : Int).toNat)) = t by
            rw [nat_toNat]; show (t.take (t.length + 1 - 1)) = t; rw [Nat.add_sub_cancel, List.take_length]]
          rw [ih t.length (by omega) n t _ rfl (by omega) (by omega) (by simp; omega), ofc, nameS_one h35 hc, outN_cons]
        · rw [cond_true, callE_esc', nameS_ctl h35 hc]; rfl
      · rw [cond_true]
        by_cases h2 : t.length < 2
        · rw [decide_eq_true (show ((c :: t).length : Int) < 3 by omega), chk_pos (fun h => by simp at h), show (bif ((true == false) && true) then ref3_hex F (((c :: t).getD (1 : Int).toNat 0).toNat : Int) else some 0) = some 0 from rfl, call_some, chk_pos (fun h => by simp at h), nameS_few h35 h2]
          rfl
        match t, hlen, hlen2, h2 with
        | [], _, _, h2 => exact absurd (show 0 < 2 by omega) h2
        | [_], _, _, h2 => exact absurd (show 1 < 2 by omega) h2
        | a :: b :: r, hlen, hlen2, _ =>
          have hl3 : ((c :: a :: b :: r).length : Int) = (r.length : Int) + 3 := by simp; omega
          have hlr : r.length + 3 = m := by simpa using hlen2
          rw [nameS_pair h35]
          rw [decide_eq_false (show ¬ ((c :: a :: b :: r).length : Int) < 3 by omega)]
          rw [chk_pos (fun _ => ⟨by omega, by omega⟩), show ((c :: a :: b :: r).getD (1 : Int).toNat 0) = a from rfl, show ((c :: a :: b :: r).getD (2 : Int).toNat 0) = b from rfl]
          rw [show (bif ((false == false) && true) then ref3_hex F (a.toNat : Int) else some 0) = some (hexi a) from rhex (by omega) a, call_some]
          rw [chk_pos (fun _ => ⟨by omega, by omega⟩)]
          simp only [cond_false, hexi_neg]
          unfold pairv
          cases hva : hexv a with
          | none => rfl
          | some x =>
            rw [show (bif (((some x).isNone == false) && true) then ref3_hex F (b.toNat : Int) else some 0) = some (hexi b) from rhex (by omega) b, call_some]
            simp only [hexi_neg, lett_eq]
            cases hvb : hexv b with
            | none => rfl
            | some y =>
              have hx := hexv_lt hva
              have hy := hexv_lt hvb
              have hia : hexi a = (x : Int) := by unfold hexi; rw [hva]
              have hib : hexi b = (y : Int) := by unfold hexi; rw [hvb]
              simp only [Option.isNone_some, cond_false]
              rw [chk_pos ⟨by omega, by omega⟩, rhex (by omega), call_some, chk_pos ⟨by omega, by omega⟩, rhex (by omega), call_some, hia, hib, join_ref hx hy]
              by_cases hv0 : x * 16 + y = 0
              · rw [if_pos hv0, show (((x * 16 + y : Nat) : Int) == 0) = true by rw [beq_iff_eq]; omega]; rfl
              · rw [if_neg hv0, show (((x * 16 + y : Nat) : Int) == 0) = false by rw [beq_eq_false_iff_ne]; omega, cond_false, callE_go]
                simp only
                rw [chk_pos ⟨by omega, by omega⟩, chk_pos (by simp; omega), chk_pos ⟨by omega, by omega, by omega⟩]
                rw [show (((c :: a :: b :: r).drop (3 : Int).toNat).take (((c :: a :: b :: r).length : Int).toNat - (3 : Int).toNat)) = r by
                  rw [nat_toNat]; show (r.take (r.length + 3 - 3)) = r; rw [Nat.add_sub_cancel, List.take_length]]
                rw [ih r.length (by omega) n r _ rfl (by omega) (by omega) (by simp; omega), nat_toNat, outN_cons]

theorem nameS_len (k : Nat) : ∀ (w l : List UInt8), w.length ≤ k → nameS w = some l → l.length ≤ w.length := by
  induction k with
  | zero =>
    intro w l hw h
    have : w = [] := List.length_eq_zero_iff.1 (by omega)
    subst this; rw [nameS_nil] at h; cases h; simp
  | succ k ih =>
    intro w l hw h
    cases w with
    | nil => rw [nameS_nil] at h; cases h; simp
    | cons c t =>
      simp only [List.length_cons] at hw ⊢
      cases h35 : (c.toNat : Int) == 35
      · cases hc : ctl c
        · rw [nameS_one h35 hc] at h
          cases hn : nameS t with
          | none => rw [hn] at h; cases h
          | some r =>
            rw [hn] at h; cases h
            have := ih t r (by omega) hn
            simp; omega
        · rw [nameS_ctl h35 hc] at h; cases h
      · match t, hw, h with
        | [], _, h => rw [nameS_few h35 (by simp)] at h; cases h
        | [_], _, h => rw [nameS_few h35 (by simp)] at h; cases h
        | a :: b :: r, hw, h =>
          simp only [List.length_cons] at hw ⊢
          rw [nameS_pair h35] at h
          cases hp : pairv a b with
          | none => rw [hp] at h; cases h
          | some v =>
            rw [hp] at h
            by_cases hv : v = 0
            · subst hv; cases h
            · simp only [if_neg hv] at h
              cases hn : nameS r with
              | none => rw [hn] at h; cases h
              | some q =>
                rw [hn] at h; cases h
                have := ih r q (by omega) hn
                simp; omega

/-- What a name is read as: its text and its error. -/
def nameR (w : List UInt8) : List UInt8 × Int := match nameS w with
  | some l => if l = [] then ([], 5) else if 31 < l.length then ([], 2) else (l, 0)
  | none => ([], 5)
theorem name_eq {F : Nat} {s : List UInt8} (hs : s.length ≤ 10000) (hF : 20000 ≤ F) {i : Nat} (hi : i ≤ s.length) :
    token_cursor_name F s (i : Int) = some ((nameR (run (s.drop i))).1, (nameR (run (s.drop i))).2, s, ((i + (run (s.drop i)).length : Nat) : Int)) := by
  unfold token_cursor_name
  rw [run_eq hs hF hi, call_some]
  have hl := run_le (s.drop i)
  rw [List.length_drop] at hl
  generalize run (s.drop i) = w at *
  have h := name_L0 F (w, s, ((i + w.length : Nat) : Int)) w (by omega) w.length 0 F [] (by omega) (by omega) (by simp; omega)
  rw [show ((0 : Nat) : Int) = 0 from rfl, List.drop_zero] at h
  rw [h]
  unfold nameR
  cases hn : nameS w with
  | none => rfl
  | some l =>
    have hll := nameS_len w.length w l (by omega) hn
    simp only [outN, callE_go, List.nil_append]
    unfold strings_Builder_Len token_limited
    rw [call_some]
    by_cases h0 : l = []
    · subst h0; rfl
    · have hpos : 0 < l.length := List.length_pos_iff.2 h0
      rw [if_neg h0, show (((l.length : Int), l).1 == 0) = false by rw [beq_eq_false_iff_ne]; show (l.length : Int) ≠ 0; omega, cond_false, chk_pos (by show l.length ≤ _; omega)]
      by_cases h31 : 31 < l.length
      · rw [if_pos h31, decide_eq_true (show (l.length : Int) > 31 by omega)]; rfl
      · rw [if_neg h31, decide_eq_false (show ¬ (l.length : Int) > 31 by omega)]; rfl
theorem nameToken_eq {F : Nat} (hF : 20000 ≤ F) {w : List UInt8} (hw : w.length ≤ 10000) :
    ref3_nameToken F w = some (if (nameR w).2 = 0 then (⟨2, 0, (nameR w).1, 0, 0⟩, 0) else (⟨0, 0, [], 0, 0⟩, (nameR w).2)) := by
  unfold ref3_nameToken
  rw [nameToken_L0 hF w.length F w [] rfl hw (by omega) (by simp; omega)]
  unfold nameR
  cases hn : nameS w with
  | none => rfl
  | some l =>
    simp only [outN, callE_go, List.nil_append]
    by_cases h0 : l = []
    · subst h0; rfl
    · rw [if_neg h0, show (l == []) = false by simpa using h0, cond_false]
      by_cases h31 : 31 < l.length
      · rw [if_pos h31, decide_eq_true (show (l.length : Int) > 31 by omega)]; rfl
      · rw [if_neg h31, decide_eq_false (show ¬ (l.length : Int) > 31 by omega)]; rfl
end Go.Vm.LexG
