/-
  vary, plain law 2: Verify; the law VaryNumberMatchesReference.
-/
import Derived.Test.YtmaolabjdmhinaaDoorVarLaw
namespace Go.Vm.VarG

/-- The runes outside the digits. -/
def offp (F : Nat) (x : Nat) : Bool := ((fun x => vary_Verify_c1 F x) (x : Int)).getD false
theorem offp_eq (F : Nat) (x : Nat) : offp F x = !(decide (48 ≤ x) && decide (x ≤ 57)) := by
  show (bif (decide ((x : Int) < (48 : Int))) then true else (decide ((x : Int) > (57 : Int)))) = _
  rw [Bool.eq_iff_iff]
  cases h : decide ((x : Int) < 48) <;> simp at h ⊢ <;> omega

theorem idx_eq (F : Nat) (s : List UInt8) : ∀ (f i : Nat), i + f = s.length → decide (0 ≤ Lib.idxFuncFrom (offp F) true ⟨s.toArray⟩ f i) = !((s.drop i).all dgt) := by
  intro f
  induction f with
  | zero =>
    intro i hi
    rw [show i = s.length by omega, List.drop_length]; rfl
  | succ f ih =>
    intro i hi
    have hlt : i < s.length := by omega
    have hsz : i < (⟨s.toArray⟩ : ByteArray).size := by simpa [ByteArray.size] using hlt
    have hget : (⟨s.toArray⟩ : ByteArray)[i]'hsz = s.getD i 0 := by
      rw [List.getD_eq_getElem?_getD, List.getElem?_eq_getElem hlt]; rfl
    rw [Lib.idxFuncFrom, if_pos hsz, getD_head hlt, List.all_cons]
    by_cases ha : (s.getD i 0).toNat < 128
    · rw [decode_ascii _ i hsz (by rw [hget]; exact ha), hget]
      simp only [offp_eq]
      change decide (0 ≤ if (!dgt (s.getD i 0)) = true then (i : Int) else _) = _
      cases h : dgt (s.getD i 0)
      · rw [if_pos (show (!false) = true from rfl), decide_eq_true (by omega)]; rfl
      · rw [if_neg (show ¬ (!true) = true by decide), ih (i + 1) (by omega)]; rfl
    · have hd := (decode_high _ i hsz (by rw [hget]; omega)).1
      have h2 : offp F (Utf8.decode ⟨s.toArray⟩ i).1 = true := by
        rw [offp_eq, decide_eq_false (show ¬ (Utf8.decode ⟨s.toArray⟩ i).1 ≤ 57 by omega)]; simp
      have h3 : dgt (s.getD i 0) = false := by
        cases h : dgt (s.getD i 0)
        · rfl
        · have := dgt_iff.1 h; omega
      rw [if_pos h2, h3, decide_eq_true (by omega)]; rfl

theorem contains_eq (F : Nat) (s : List UInt8) : sContains (fun x => vary_Verify_c1 F x) s = some (!(s.all dgt)) := by
  unfold sContains
  have hp : ∀ x : Nat, x ≤ 1114111 → ((fun x => vary_Verify_c1 F x) (x : Int)).isSome = true := fun _ _ => rfl
  rw [if_pos hp]
  have h := idx_eq F s s.length 0 (by omega)
  rw [List.drop_zero] at h
  rw [← h]
  rfl

theorem decFrom_val (s : List UInt8) : ∀ (a : Nat), s.all dgt = true → Lib.decFrom a s = some (val a s) := by
  induction s with
  | nil => intro a _; rw [val_nil]; rfl
  | cons c t ih =>
    intro a h
    rw [List.all_cons, Bool.and_eq_true] at h
    have hc := dgt_iff.1 h.1
    have hv : Lib.digitVal c = some (c.toNat - 48) := by unfold Lib.digitVal; rw [if_pos hc]
    rw [Lib.decFrom, hv, val_cons]
    exact ih _ h.2

theorem atoi_eq {s : List UInt8} (h : s.all dgt = true) (hn : s ≠ []) (hl : s.length ≤ 18) : sAtoi s = some ((val 0 s : Nat) : Int) := by
  unfold sAtoi
  rw [Lib.atoiAll_short s hl]
  cases s with
  | nil => exact absurd rfl hn
  | cons c t =>
    have hc := dgt_iff.1 (List.all_eq_true.1 h c (by simp))
    have h1 : (c == 45) = false := by
      rw [beq_eq_false_iff_ne]; rintro rfl; have : (45 : UInt8).toNat = 45 := rfl; omega
    have h2 : (c == 43) = false := by
      rw [beq_eq_false_iff_ne]; rintro rfl; have : (43 : UInt8).toNat = 43 := rfl; omega
    have h3 : Lib.decNat (c :: t) = some (val 0 (c :: t)) := by
      unfold Lib.decNat
      rw [show (c :: t).isEmpty = false from rfl, if_neg (by decide)]
      exact decFrom_val _ 0 h
    have h4 : Lib.atoi (c :: t) = some ((val 0 (c :: t) : Nat) : Int) := by
      rw [Lib.atoi, h1, h2, h3]; rfl
    rw [h4]; rfl

theorem first {F : Nat} (hF : 2000 ≤ F) : vary_Number F 7 3 = some ([48, 48, 55, 55, 55], 0) := by
  have h : vary_Number F 7 3 = some (numb 7 3) := Number_eq (u := 7) (w := 3) hF (by omega) (by omega) (by omega)
  rw [h]
  unfold numb pad two
  rw [Lib.decDigits_one (show 7 < 10 by omega), show 98 - 7 % 97 * 100 % 97 = 77 from rfl, Lib.decDigits_two (show ¬ 77 < 10 by omega) (by omega)]
  decide

theorem number_law {F : Nat} (hF : 9223372036854775900 ≤ F) {x y : Int} (hx : x ≤ 9223372036854775807) (s : List UInt8) : law3_VaryNumberMatchesReference F x y s = some true := by
  unfold law3_VaryNumberMatchesReference
  rw [first (by omega), call_some]
  obtain ⟨r, h1, h2⟩ := both hF (y := y) hx
  rw [h1, h2]
  have e1 : (bif ((([48, 48, 55, 55, 55] : List UInt8), (0 : Int)).2 != 0) then true else (!((([48, 48, 55, 55, 55] : List UInt8), (0 : Int)).1 == ([48, 48, 55, 55, 55] : List UInt8)))) = false := by decide
  rw [e1, cond_false, call_some, call_some]
  have e2 : (bif (r.2 != r.2) then true else (!(r.1 == r.1))) = false := by simp
  rw [e2, cond_false]
  unfold vary_Verify
  rw [contains_eq, lett_eq, lett_eq]
  by_cases hl : 3 ≤ s.length ∧ s.length ≤ 14
  · rw [decide_eq_false (show ¬ (s.length : Int) < 3 by omega), decide_eq_false (show ¬ (s.length : Int) > 14 by omega), decide_eq_true (show (s.length : Int) ≥ 3 by omega), decide_eq_true (show (s.length : Int) ≤ 14 by omega)]
    simp only [cond_false, cond_true, Digits_eq hl.2 (show 2000 ≤ F by omega)]
    rw [show (bif ((false == false) && true) then some (!(s.all dgt)) else some false) = some (!(s.all dgt)) from rfl, call_some]
    cases hd : s.all dgt
    · rfl
    · have hw : IntKind.i64.wrap ((s.length : Int) - 2) = ((s.length - 2 : Nat) : Int) := by rw [wrap_id (by omega)]; omega
      have hz : (s.drop (0 : Int).toNat).take ((IntKind.i64.wrap ((s.length : Int) - (2 : Int))).toNat - (0 : Int).toNat) = s.take (s.length - 2) := by rw [hw]; rfl
      have htd : (s.take (s.length - 2)).all dgt = true := List.all_eq_true.2 fun c hc => List.all_eq_true.1 hd c (List.mem_of_mem_take hc)
      have hdd : (s.drop (s.length - 2)).all dgt = true := List.all_eq_true.2 fun c hc => List.all_eq_true.1 hd c (List.mem_of_mem_drop hc)
      have htl : (s.take (s.length - 2)).length = s.length - 2 := by rw [List.length_take]; omega
      have hat := atoi_eq htd (by intro h; rw [h] at htl; simp at htl; omega) (by omega)
      have hv : val 0 s = val (val 0 (s.take (s.length - 2))) (s.drop (s.length - 2)) := by rw [← val_append, List.take_append_drop]
      have hlt := val_lt (s.drop (s.length - 2)) (val 0 (s.take (s.length - 2))) hdd
      have hvm := val_max htd (k := 12) (by omega)
      have hdl : (s.drop (s.length - 2)).length = 2 := by rw [List.length_drop]; omega
      have hge : val 0 (s.take (s.length - 2)) * 100 ≤ val (val 0 (s.take (s.length - 2))) (s.drop (s.length - 2)) := by
        generalize s.drop (s.length - 2) = t at *
        match t, hdl with
        | [a, b], _ =>
          rw [val_cons, val_one]
          omega
      rw [hdl] at hlt
      rw [Bool.not_true, hz, hw]
      rw [← hv] at hlt hge
      generalize val 0 (s.take (s.length - 2)) = V at *
      obtain ⟨q, h3, h4⟩ := both hF (x := (V : Int)) (y := ((s.length - 2 : Nat) : Int)) (by omega)
      have hdiv : IntKind.i64.wrap (((val 0 s : Nat) : Int).tdiv 100) = (V : Int) := by
        rw [Int.tdiv_eq_ediv_of_nonneg (by omega), wrap_id (by omega)]; omega
      rw [cond_false, chk_pos ⟨by omega, by omega, by omega⟩, chk_pos (by omega), hat, call_some, h3, call_some, lett_eq, cond_true, if_pos rfl]
      simp only [call_some]
      rw [decide_eq_false (by omega), hdiv, h4]
      simp only [cond_false, call_some]
      cases q.1 == s
      · rfl
      · simp [call_some]
  · have e3 : (bif (decide ((s.length : Int) < (3 : Int))) then true else (decide ((s.length : Int) > (14 : Int)))) = true := by
      by_cases h : s.length < 3
      · rw [decide_eq_true (by omega)]; rfl
      · rw [decide_eq_true (show (s.length : Int) > 14 by omega)]; simp
    have e4 : (bif (decide ((s.length : Int) ≥ (3 : Int))) then (decide ((s.length : Int) ≤ (14 : Int))) else false) = false := by
      by_cases h : 3 ≤ s.length
      · rw [decide_eq_false (show ¬ (s.length : Int) ≤ 14 by omega)]; simp
      · rw [decide_eq_false (by omega)]; rfl
    rw [e3, e4]
    rfl

theorem number_total (x y : Int) (s : List UInt8) (hx : (Lit.int .i64 x).wf = true) : ∃ F, law3_VaryNumberMatchesReference F x y s = some true := by
  refine ⟨9223372036854775900, number_law (Nat.le_refl _) ?_ s⟩
  simp [Lit.wf, IntKind.min, IntKind.max, IntKind.bits, IntKind.signed] at hx
  omega
end Go.Vm.VarG
