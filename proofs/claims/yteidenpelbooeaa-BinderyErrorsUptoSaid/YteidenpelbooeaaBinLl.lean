/-
  BINDERY, PLAIN, part 4: plates and leaves of a wrong size or form have the stated errors.
-/
import Derived.Test.YteidenpelbooeaaBinLk
namespace Go.Vm.BinG

theorem fold_err {F : Nat} (s : S_BinderySheet) (l : S_ImposeLayout) {e : Int} (he : e ≠ 0) (h : impose_Check F l = some e) : bindery_Fold F s l = some ([], e) := by
  unfold bindery_Fold
  rw [h, call_some, bne_of_ne he, cond_true]

theorem face_tot {F : Nat} (hF : 1024 < F) (s : S_BinderySheet) (h1 : s.f0.f2.length ≤ 4294967296) (h2 : s.f1.f2.length ≤ 4294967296) (l : S_ImposeLayout) (f : S_bindery_frame) (P : S_FoldPage) : ∃ r, face F s l f P = some r := by
  unfold face
  cases P.f0
  · exact part_tot hF _ h1 _ _ _ _ _
  · exact part_tot hF _ h2 _ _ _ _ _

theorem len_of {α : Type} {x : Option (List α)} {l : List α} {n : Nat} (h : x = some l) (hl : l.length = n) : ∃ ls : List α, ls.length = n ∧ x = some ls := ⟨l, hl, h⟩

/-- Fold's error; the number of leaves. -/
theorem fold_ex {F : Nat} (hF : 2000 ≤ F) (a b : S_Plate) (l : S_ImposeLayout) (ha : a.f2.length ≤ 4294967296) (hb : b.f2.length ≤ 4294967296) :
    ∃ (e : Int) (y : (List S_BinderyLeaf) × Int), ref3_LayoutError F l = some e ∧ bindery_Fold F ⟨a, b⟩ l = some y ∧
      (e ≠ 0 → y.2 = e ∧ y.1 = []) ∧
      (e = 0 → sidE a b ≠ 0 → y.2 = sidE a b ∧ y.1 = []) ∧
      (e = 0 → ∃ z : Int × Int, ref3_SingleSize F l = some z ∧ (sidE a b = 0 → (a.f0 ≠ z.1 ∨ a.f1 ≠ z.2) → y.2 = 19 ∧ y.1 = []) ∧
        (sidE a b = 0 → ¬ (a.f0 ≠ z.1 ∨ a.f1 ≠ z.2) → y.2 = 0 ∧ (y.1.length : Int) = IntKind.i64.wrap (l.f0.f0 * l.f0.f1))) := by
  obtain ⟨e, h1, h2, h3⟩ := check_main (F := F) (by omega) l
  by_cases he : e = 0
  case neg => exact ⟨e, ([], e), h2, fold_err _ l he h1, fun _ => ⟨rfl, rfl⟩, fun h => absurd h he, fun h => absurd h he⟩
  subst he
  obtain ⟨C, R, PG, hC, hR, hC8, hR8, hRC, hPG, h8, h9, _⟩ := h3 rfl
  have hpos : 0 < PG.length := by
    have := Nat.mul_le_mul hR8.1 hC8.1
    omega
  obtain ⟨lw, lh, _, _, hS, hf⟩ := frame_eq l hpos h8 h9
  have hcheck : ∀ X : Option ((List S_BinderyLeaf) × Int), (bif ((0 : Int) != 0) then some ([], (0 : Int)) else X) = X := fun X => rfl
  by_cases hs : sidE a b = 0
  · by_cases hz : a.f0 ≠ IntKind.i64.wrap (IntKind.i64.wrap (l.f0.f0 * lw) + IntKind.i64.wrap (2 * l.f6)) ∨ a.f1 ≠ IntKind.i64.wrap (IntKind.i64.wrap (l.f0.f1 * lh) + IntKind.i64.wrap (2 * l.f6))
    · refine ⟨0, ([], 19), h2, ?_, fun h => absurd rfl h, fun _ h => absurd hs h, fun _ => ⟨_, hS, fun _ _ => ⟨rfl, rfl⟩, fun _ h => absurd hz h⟩⟩
      unfold bindery_Fold
      rw [h1, call_some, hcheck, sides_eq (by omega) a b ha hb, call_some, hs, hcheck, hf, call_some, or_cond]
      have : ((a.f0 != IntKind.i64.wrap (IntKind.i64.wrap (l.f0.f0 * lw) + IntKind.i64.wrap (2 * l.f6))) || (a.f1 != IntKind.i64.wrap (IntKind.i64.wrap (l.f0.f1 * lh) + IntKind.i64.wrap (2 * l.f6)))) = true := by simpa using hz
      rw [this, cond_true]
    · have htot := fun P => face_tot (F := F) (by omega) ⟨a, b⟩ ha hb l ⟨IntKind.i64.wrap (IntKind.i64.wrap (l.f1 + l.f4) + l.f5), IntKind.i64.wrap (l.f2 + IntKind.i64.wrap (2 * l.f3)), IntKind.i64.wrap (IntKind.i64.wrap (l.f0.f0 * lw) + IntKind.i64.wrap (2 * l.f6)), IntKind.i64.wrap (IntKind.i64.wrap (l.f0.f1 * lh) + IntKind.i64.wrap (2 * l.f6))⟩ P
      have hall := L0_all (F := F) (by omega) ⟨a, b⟩ l _ PG 0 (by omega) (fun i => ((htot (PG.getD i pg0)).choose)) (fun i _ => (htot (PG.getD i pg0)).choose_spec) (R * C) 0 F [] (by omega) (by omega) (by simp; omega)
      obtain ⟨ls, hls, hlen⟩ := len_of (n := R * C) hall (by simp)
      have hfold : bindery_Fold F ⟨a, b⟩ l = some (ls, 0) := by
        unfold bindery_Fold
        rw [h1, call_some, hcheck, sides_eq (by omega) a b ha hb, call_some, hs, hcheck, hf, call_some, or_cond]
        have : ((a.f0 != IntKind.i64.wrap (IntKind.i64.wrap (l.f0.f0 * lw) + IntKind.i64.wrap (2 * l.f6))) || (a.f1 != IntKind.i64.wrap (IntKind.i64.wrap (l.f0.f1 * lh) + IntKind.i64.wrap (2 * l.f6)))) = false := by
          rw [← Bool.not_eq_true]
          simpa using hz
        rw [Int.natCast_zero] at hlen
        rw [this, cond_false, h8, call_some, hlen, call_some]
      refine ⟨0, (ls, 0), h2, hfold, fun h => absurd rfl h, fun _ h => absurd hs h, fun _ => ⟨_, hS, fun _ h => absurd h hz, fun _ _ => ⟨rfl, ?_⟩⟩⟩
      simp only [hls]
      rw [hC, hR, ← Int.natCast_mul, Nat.mul_comm R C]
      rw [Nat.mul_comm] at hRC
      exact (wrap_id (by omega)).symm
  · refine ⟨0, ([], sidE a b), h2, ?_, fun h => absurd rfl h, fun _ _ => ⟨rfl, rfl⟩, fun _ => ⟨_, hS, fun h => absurd h hs, fun h => absurd h hs⟩⟩
    unfold bindery_Fold
    rw [h1, call_some, hcheck, sides_eq (by omega) a b ha hb, call_some, bne_of_ne hs, cond_true]

theorem dots_two (n : Nat) : law3_dots (n + 2000) 2 1 1 = some ⟨2, 1, [1, 9]⟩ := by rfl
theorem cut_two (n : Nat) : bindery_Cut (n + 2000) ⟨2, 1, [1, 9]⟩ ⟨2, 1, [1, 9]⟩ 1 = some ([⟨⟨1, 1, [1]⟩, ⟨1, 1, [9]⟩⟩, ⟨⟨1, 1, [1]⟩, ⟨1, 1, [9]⟩⟩], 0) := by kernel_rfl

theorem errors_law (n : Nat) (a b : S_Plate) (st : Int) (l : S_ImposeLayout) (ha : a.f2.length ≤ 4294967296) (hb : b.f2.length ≤ 4294967296) : law3_BinderyErrors (n + 2000) a b st l = some true := by
  obtain ⟨c, hc1, hc2⟩ := cut_eq (F := n + 2000) (by omega) a b st ha hb
  obtain ⟨e, y, h1, h2, h3, h4, h5⟩ := fold_ex (F := n + 2000) (by omega) a b l ha hb
  unfold law3_BinderyErrors
  rw [dots_two, call_some, call_some, cut_two, call_some]
  rw [chk_pos (fun _ => by simp), lett_eq, lett_eq, chk_pos (fun _ => by simp), chk_pos (fun _ => by simp), lett_eq]
  change call (ref3_PlateError (n + 2000) a) _ = _
  rw [plateError_eq, call_some]
  have e1 : (bif (chkE a == (0 : Int)) then call (ref3_PlateError (n + 2000) b) fun y5 => some y5 else some (chkE a)) = some (if chkE a ≠ 0 then chkE a else chkE b) := by
    by_cases h : chkE a = 0
    · rw [h, beq_self_eq_true, cond_true, plateError_eq, call_some]; rfl
    · rw [beq_false_of_ne h, cond_false, if_pos h]
  rw [e1, call_some]
  have e2 : (bif (bif ((if chkE a ≠ 0 then chkE a else chkE b) == (0 : Int)) then (bif (a.f0 != b.f0) then true else (a.f1 != b.f1)) else false) then some (19 : Int) else some (if chkE a ≠ 0 then chkE a else chkE b)) = some (sidE a b) := by
    unfold sidE
    by_cases h : chkE a = 0
    · rw [h]
      simp only [ne_eq, not_true_eq_false, if_false]
      by_cases h' : chkE b = 0
      · rw [h', beq_self_eq_true, cond_true, or_cond]
        simp only [not_true_eq_false, if_false]
        by_cases h3 : a.f0 ≠ b.f0 ∨ a.f1 ≠ b.f1
        · have : ((a.f0 != b.f0) || (a.f1 != b.f1)) = true := by simpa using h3
          rw [this, cond_true, if_pos h3]
        · have : ((a.f0 != b.f0) || (a.f1 != b.f1)) = false := by
            rw [← Bool.not_eq_true]
            simpa using h3
          rw [this, cond_false, if_neg h3]
      · rw [beq_false_of_ne h', cond_false, cond_false, if_pos h']
    · rw [if_pos h, if_pos h, beq_false_of_ne h, cond_false, cond_false]
  rw [e2, call_some]
  have e3 : (bif (sidE a b != (0 : Int)) then some (sidE a b)
      else bif (bif (decide (st < (0 : Int))) then true else (decide (st > (2 : Int)))) then some (14 : Int)
        else call (bif (bif (st == (1 : Int)) then ((a.f0.tmod (2 : Int)) == (1 : Int)) else false) then some (bif (st == (1 : Int)) then ((a.f0.tmod (2 : Int)) == (1 : Int)) else false) else some (bif (st == (2 : Int)) then ((a.f1.tmod (2 : Int)) == (1 : Int)) else false)) fun v3 =>
          bif v3 then some (19 : Int) else some (sidE a b)) = some (cutE a b st) := by
    unfold cutE
    by_cases hs : sidE a b = 0
    · rw [hs, bne_self_eq_false, cond_false, odd_cond, call_some, or_cond]
      simp only [ne_eq, not_true_eq_false, if_false]
      by_cases hst : st < 0 ∨ st > 2
      · have : (decide (st < 0) || decide (st > 2)) = true := by simpa using hst
        rw [this, cond_true, if_pos hst]
      · have h0 : (decide (st < 0) || decide (st > 2)) = false := by
          rw [← Bool.not_eq_true]
          simpa using hst
        rw [h0, cond_false, if_neg hst]
        by_cases ho : (st = 1 ∧ a.f0.tmod 2 = 1) ∨ (st = 2 ∧ a.f1.tmod 2 = 1)
        · rw [decide_eq_true ho, cond_true, if_pos ho]
        · rw [decide_eq_false ho, cond_false, if_neg ho]
    · rw [bne_of_ne hs, cond_true, if_pos hs]
  rw [e3, call_some, hc1, call_some]
  simp only [lett_eq]
  have e4 : (bif cutE a b st != cutE a b st then true else !(cutE a b st == 0) == decide (((c.length : Nat) : Int) > 0)) = false := by
    rw [bne_self_eq_false, cond_false]
    by_cases hz : cutE a b st = 0
    · have := hc2.1 hz
      rw [hz, beq_self_eq_true, decide_eq_true (by omega)]
      rfl
    · have : ¬ 0 < c.length := fun h => hz (hc2.2 h)
      rw [beq_false_of_ne hz, decide_eq_false (by omega)]
      rfl
  rw [e4, cond_false, h2, call_some, h1, call_some]
  by_cases he : e = 0
  case neg =>
    obtain ⟨g1, g2⟩ := h3 he
    rw [bne_of_ne he, cond_true, g1, g2, beq_self_eq_true]
    rfl
  rw [he, bne_self_eq_false, cond_false]
  obtain ⟨z, hz, h6, h7⟩ := h5 he
  by_cases hs : sidE a b = 0
  case neg =>
    obtain ⟨g1, g2⟩ := h4 he hs
    rw [bne_of_ne hs, cond_true, g1, g2, beq_self_eq_true]
    rfl
  rw [hs, bne_self_eq_false, cond_false, hz, call_some, or_cond]
  by_cases hd : a.f0 ≠ z.1 ∨ a.f1 ≠ z.2
  · have : ((a.f0 != z.1) || (a.f1 != z.2)) = true := by simpa using hd
    obtain ⟨g1, g2⟩ := h6 hs hd
    rw [this, cond_true, g1, g2]
    rfl
  · have : ((a.f0 != z.1) || (a.f1 != z.2)) = false := by
      rw [← Bool.not_eq_true]
      simpa using hd
    obtain ⟨g1, g2⟩ := h7 hs hd
    rw [this, cond_false, g1, g2, beq_self_eq_true, beq_self_eq_true]
    rfl

end Go.Vm.BinG
