/-
  KeptPositions and longest keep the same positions. No conditions.
-/
import Derived.Test.YtknicigahcopjaaFaultsLaw2
namespace Go.Vm.GenC5

/-- Position i is kept, behind those of kept. -/
def good (a : List Int) (tot : Int) (kept : List Int) (i : Nat) : Bool :=
  (decide (kept.length = 0) || decide (a.getD (kept.getD (kept.length - 1) 0).toNat 0 < a.getD i 0)) && decide ((kept.length : Int) + sufI a i = tot)
def greedy (a : List Int) (tot : Int) : Nat → Nat → List Int → List Int
  | 0, _, kept => kept
  | m + 1, i, kept => greedy a tot m (i + 1) (if good a tot kept i then kept ++ [(i : Int)] else kept)

def Inb (kept : List Int) (i : Nat) : Prop := kept.length ≤ i ∧ ∀ x ∈ kept, 0 ≤ x ∧ x < (i : Int)
theorem Inb.step {kept : List Int} {i : Nat} (h : Inb kept i) (b : Bool) : Inb (if b = true then kept ++ [(i : Int)] else kept) (i + 1) := by
  cases b with
  | false =>
    simp only [Bool.false_eq_true, if_false]
    exact ⟨by have := h.1; omega, fun x hx => by have := h.2 x hx; omega⟩
  | true =>
    simp only [if_true]
    refine ⟨by have := h.1; simp; omega, fun x hx => ?_⟩
    rcases List.mem_append.1 hx with hx | hx
    · have := h.2 x hx; omega
    · simp at hx; omega
theorem greedy_inb (a : List Int) (tot : Int) : ∀ (m i : Nat) (kept : List Int), Inb kept i → Inb (greedy a tot m i kept) (i + m)
  | 0, i, kept, h => h
  | m + 1, i, kept, h => by
    rw [greedy, show i + (m + 1) = (i + 1) + m from by omega]
    exact greedy_inb a tot m (i + 1) _ (h.step _)
theorem last_in {kept : List Int} {i : Nat} (h : Inb kept i) (h0 : kept.length ≠ 0) : 0 ≤ kept.getD (kept.length - 1) 0 ∧ kept.getD (kept.length - 1) 0 < (i : Int) := by
  apply h.2
  rw [List.getD_eq_getElem?_getD, List.getElem?_eq_getElem (by omega)]
  exact List.getElem_mem _

theorem f19_L4_ok (F : Nat) (a v : List Int) (tot : Int) (hv : v.length = a.length + 1) (ht : ∀ j, v.getD j 0 = tab a j) (ha : a.length ≤ 1000) (htot : 0 ≤ tot ∧ tot ≤ 1000) : ∀ (m n : Nat) (kept : List Int) (need : Int) (i : Nat), i + m = a.length → m < n → Inb kept i → need = tot - kept.length →
    f19_L4 F a v n kept need (i : Int) = some (greedy a tot m i kept)
  | _, 0, _, _, _, _, h, _, _ => absurd h (Nat.not_lt_zero _)
  | 0, n + 1, kept, need, i, hi, _, hk, hn => by
    rw [f19_L4, show decide ((i : Int) < (a.length : Int)) = false from decide_eq_false (by omega), cond_false]
    rfl
  | m + 1, n + 1, kept, need, i, hi, hf, hk, hn => by
    rw [f19_L4, show decide ((i : Int) < (a.length : Int)) = true from decide_eq_true (by omega), cond_true]
    have hw : IntKind.i64.wrap ((i : Int) + 1) = ((i + 1 : Nat) : Int) := by rw [wrap_id (by omega)]; omega
    have hlen := hk.1
    have hw1 : IntKind.i64.wrap ((kept.length : Int) - 1) = (kept.length : Int) - 1 := wrap_id (by omega)
    have hw2 : IntKind.i64.wrap (need - 1) = need - 1 := wrap_id (by omega)
    have hto : ((kept.length : Int) - 1).toNat = kept.length - 1 := by omega
    rw [hw, hw1, hw2, hto]
    simp only [Int.toNat_natCast]
    have hti : v.getD i 0 = sufI a i := by rw [ht i, tab, if_pos (by omega)]
    have hcond : ∀ {p : Prop}, (kept.length ≠ 0 → p) → ((((kept.length : Int) == (0 : Int)) == false) && (((v.getD i 0 == need) == true) && true)) = true → p := by
      intro p h1 h2
      apply h1
      intro h3
      rw [h3] at h2
      simp at h2
    rw [chk_pos (by omega), chk_pos (hcond (fun _ => by omega)), chk_pos (hcond (fun h => by omega)), chk_pos (hcond (fun h => by have := last_in hk h; omega)), lett_eq, lett_eq]
    have hg : (bif (v.getD i 0 == need) then (bif ((kept.length : Int) == (0 : Int)) then true else (decide (a.getD i 0 > a.getD (kept.getD (kept.length - 1) 0).toNat 0))) else false) = good a tot kept i := by
      rw [hti, hn, good]
      rw [show (sufI a i == tot - (kept.length : Int)) = decide ((kept.length : Int) + sufI a i = tot) from by
        rw [Bool.eq_iff_iff]; simp; omega]
      rw [show ((kept.length : Int) == (0 : Int)) = decide (kept.length = 0) from by rw [Bool.eq_iff_iff]; simp]
      cases decide ((kept.length : Int) + sufI a i = tot) <;> cases decide (kept.length = 0) <;> simp
    rw [hg, greedy]
    have hs := hk.step (good a tot kept i)
    cases hgd : good a tot kept i with
    | false =>
      rw [hgd] at hs
      rw [cond_false, call_some]
      exact f19_L4_ok F a v tot hv ht ha htot m n _ _ (i + 1) (by omega) (by omega) hs (by simpa using hn)
    | true =>
      rw [hgd] at hs
      rw [cond_true, chk_pos (by simp; omega), call_some]
      exact f19_L4_ok F a v tot hv ht ha htot m n _ _ (i + 1) (by omega) (by omega) hs (by simp; omega)

/-- The positions that are kept. -/
def keptOf (a : List Int) : List Int := greedy a (lis a) a.length 0 []
theorem keptOf_inb (a : List Int) : Inb (keptOf a) a.length := by
  have := greedy_inb a (lis a) a.length 0 [] ⟨Nat.le_refl _, fun x hx => by cases hx⟩
  rwa [Nat.zero_add] at this

theorem f19_ok' (F : Nat) (a : List Int) (ha : a.length ≤ 900) (hF : 1002 < F) : f19 F a = some (keptOf a) := by
  rw [f19]
  have hw : IntKind.i64.wrap ((a.length : Int) + 1) = (a.length : Int) + 1 := wrap_id (by omega)
  have hw1 : IntKind.i64.wrap ((a.length : Int) - 1) = (a.length : Int) - 1 := wrap_id (by omega)
  rw [hw, hw1, chk_pos (by omega)]
  have hr : ∀ j, (List.replicate ((a.length : Int) + 1).toNat (0 : Int)).getD j 0 = 0 := by
    intro j
    simp only [List.getD_eq_getElem?_getD, List.getElem?_replicate]
    split <;> rfl
  obtain ⟨b, he, hl, ht⟩ := f19_L0_ok F a (by omega) (by omega) a.length F _ (Nat.le_refl _) (by omega) (by simp) (fun j hj => by rw [hr, tab, if_neg (by omega)]) (fun j _ => hr j)
  rw [he, call_some, f25_ok' F b a hl (by omega) ht hF, call_some]
  have hb := lis_nonneg a
  have hb2 := lis_le a
  have := f19_L4_ok F a b (lis a) hl ht (by omega) (by omega) a.length F [] (lis a) 0 (by omega) (by omega) ⟨Nat.le_refl _, fun x hx => by cases hx⟩ (by simp)
  rw [show (0 : Int) = ((0 : Nat) : Int) from rfl, this, call_some]
  rfl

theorem f15_L2_ok (F : Nat) (a : List Int) (i : Nat) (hi : i < a.length) (ha : a.length ≤ 1000) : ∀ (m n : Nat) (acc : List Int) (k : Nat), k + m = a.length → m < n → acc.length ≤ k →
    f15_L2 F a (i : Int) n acc (k : Int) = some (acc ++ (a.drop k).filter (fun y => decide (a.getD i 0 < y)))
  | _, 0, _, _, _, h, _ => absurd h (Nat.not_lt_zero _)
  | 0, n + 1, acc, k, hk, _, hl => by
    rw [f15_L2, show decide ((k : Int) < (a.length : Int)) = false from decide_eq_false (by omega), cond_false, List.drop_of_length_le (by omega)]
    simp
  | m + 1, n + 1, acc, k, hk, hf, hl => by
    rw [f15_L2, show decide ((k : Int) < (a.length : Int)) = true from decide_eq_true (by omega), cond_true]
    have hw : IntKind.i64.wrap ((k : Int) + 1) = ((k + 1 : Nat) : Int) := by rw [wrap_id (by omega)]; omega
    rw [hw, chk_pos (by omega), chk_pos (by omega)]
    simp only [Int.toNat_natCast]
    rw [drop_getD a k (by omega)]
    by_cases hx : a.getD i 0 < a.getD k 0
    · rw [show decide (a.getD k 0 > a.getD i 0) = true from decide_eq_true hx, cond_true, chk_pos (by omega), chk_pos (by simp; omega), call_some]
      rw [f15_L2_ok F a i hi ha m n _ (k + 1) (by omega) (by omega) (by simp; omega), List.filter_cons_of_pos (by simpa using hx), List.append_assoc]
      rfl
    · rw [show decide (a.getD k 0 > a.getD i 0) = false from decide_eq_false hx, cond_false, call_some]
      rw [f15_L2_ok F a i hi ha m n _ (k + 1) (by omega) (by omega) (by omega), List.filter_cons_of_neg (by simpa using hx)]

theorem getDB_set (l : List Bool) (i j : Nat) (x : Bool) (h : i < l.length) : (l.set i x).getD j false = if i = j then x else l.getD j false := by
  simp only [List.getD_eq_getElem?_getD, List.getElem?_set]
  by_cases hij : i = j
  · subst hij; simp [h]
  · simp [hij]

theorem f15_L0_ok (F : Nat) (a : List Int) (ha : a.length ≤ 900) (hF : 1002 < F) (tot : Int) (htot : 0 ≤ tot ∧ tot ≤ 1000) : ∀ (m n : Nat) (fl : List Bool) (kept : List Int) (i : Nat), i + m = a.length → m < n → Inb kept i → fl.length = a.length →
    (∀ j : Nat, fl.getD j false = decide ((j : Int) ∈ kept)) →
    ∃ fl', f15_L0 F a tot n fl kept (i : Int) = some fl' ∧ fl'.length = a.length ∧ ∀ j : Nat, fl'.getD j false = decide ((j : Int) ∈ greedy a tot m i kept)
  | _, 0, _, _, _, _, h, _, _, _ => absurd h (Nat.not_lt_zero _)
  | 0, n + 1, fl, kept, i, hi, _, hk, hl, hj => by
    rw [f15_L0, show decide ((i : Int) < (a.length : Int)) = false from decide_eq_false (by omega), cond_false]
    exact ⟨fl, rfl, hl, hj⟩
  | m + 1, n + 1, fl, kept, i, hi, hf, hk, hl, hj => by
    rw [f15_L0, show decide ((i : Int) < (a.length : Int)) = true from decide_eq_true (by omega), cond_true]
    have hw : IntKind.i64.wrap ((i : Int) + 1) = ((i + 1 : Nat) : Int) := by rw [wrap_id (by omega)]; omega
    have hlen := hk.1
    have hw1 : IntKind.i64.wrap ((kept.length : Int) - 1) = (kept.length : Int) - 1 := wrap_id (by omega)
    have hto : ((kept.length : Int) - 1).toNat = kept.length - 1 := by omega
    have hw3 : IntKind.i64.wrap ((kept.length : Int) + 1) = (kept.length : Int) + 1 := wrap_id (by omega)
    rw [hw, hw1, hto, hw3]
    simp only [Int.toNat_natCast]
    have hcond : ∀ {p : Prop}, (kept.length ≠ 0 → p) → (((decide ((kept.length : Int) > (0 : Int))) == true) && true) = true → p := by
      intro p h1 h2
      apply h1
      intro h3
      rw [h3] at h2
      simp at h2
    rw [chk_pos (hcond (fun _ => by omega)), chk_pos (hcond (fun h => by have := last_in hk h; omega)), chk_pos (hcond (fun h => by omega)), lett_eq]
    have hsl := (lis_bound _ ((a.drop (i + 1)).filter (fun y => decide (a.getD i 0 < y))) (Nat.le_refl _))
    have hfl := List.length_filter_le (fun y => decide (a.getD i 0 < y)) (a.drop (i + 1))
    rw [List.length_drop] at hfl
    have hrest : f15_L2 F a (i : Int) F [] ((i + 1 : Nat) : Int) = some ((a.drop (i + 1)).filter (fun y => decide (a.getD i 0 < y))) := by
      rw [f15_L2_ok F a i (by omega) (by omega) m F [] (i + 1) (by omega) (by omega) (by simp)]
      rfl
    have hs := hk.step (good a tot kept i)
    rw [greedy]
    by_cases hc : kept.length ≠ 0 ∧ a.getD i 0 ≤ a.getD (kept.getD (kept.length - 1) 0).toNat 0
    · have hgd : good a tot kept i = false := by
        rw [good, decide_eq_false hc.1, decide_eq_false (by omega : ¬ a.getD (kept.getD (kept.length - 1) 0).toNat 0 < a.getD i 0)]
        rfl
      rw [show decide ((kept.length : Int) > 0) = true from decide_eq_true (by omega), cond_true, show decide (a.getD (kept.getD (kept.length - 1) 0).toNat 0 ≥ a.getD i 0) = true from decide_eq_true hc.2, cond_true, call_some]
      rw [hgd] at hs ⊢
      exact f15_L0_ok F a ha hF tot htot m n fl kept (i + 1) (by omega) (by omega) hs hl hj
    · have hb : (bif decide ((kept.length : Int) > 0) then decide (a.getD (kept.getD (kept.length - 1) 0).toNat 0 ≥ a.getD i 0) else false) = false := by
        by_cases h0 : kept.length = 0
        · rw [show decide ((kept.length : Int) > 0) = false from decide_eq_false (by omega)]
          rfl
        · rw [show decide (a.getD (kept.getD (kept.length - 1) 0).toNat 0 ≥ a.getD i 0) = false from decide_eq_false (by omega)]
          simp
      have hgd : good a tot kept i = decide ((kept.length : Int) + sufI a i = tot) := by
        rw [good]
        have : (decide (kept.length = 0) || decide (a.getD (kept.getD (kept.length - 1) 0).toNat 0 < a.getD i 0)) = true := by
          by_cases h0 : kept.length = 0
          · simp [h0]
          · rw [decide_eq_true (by omega : a.getD (kept.getD (kept.length - 1) 0).toNat 0 < a.getD i 0)]
            simp
        rw [this, Bool.true_and]
      rw [hb, cond_false, hrest, call_some, f22_ok' F _ (by omega) (by omega), call_some, wrap_id (by omega)]
      have hq : ((kept.length : Int) + 1 + lis ((a.drop (i + 1)).filter (fun y => decide (a.getD i 0 < y))) == tot) = good a tot kept i := by
        rw [hgd, sufI, Bool.eq_iff_iff]
        simp
        omega
      rw [hq]
      cases hgd2 : good a tot kept i with
      | false =>
        rw [hgd2] at hs
        rw [cond_false, call_some]
        exact f15_L0_ok F a ha hF tot htot m n _ _ (i + 1) (by omega) (by omega) hs hl hj
      | true =>
        rw [hgd2] at hs
        rw [cond_true, chk_pos (by simp; omega), chk_pos (by omega), call_some]
        refine f15_L0_ok F a ha hF tot htot m n _ _ (i + 1) (by omega) (by omega) hs (by simp [hl]) (fun j => ?_)
        rw [getDB_set _ _ _ _ (by omega), hj j]
        by_cases hji : i = j
        · subst hji; simp
        · rw [if_neg hji, Bool.eq_iff_iff]
          simp
          omega

theorem f15_ok' (F : Nat) (a : List Int) (ha : a.length ≤ 900) (hF : 1002 < F) : ∃ fl, f15 F a = some fl ∧ fl.length = a.length ∧ ∀ j : Nat, fl.getD j false = decide ((j : Int) ∈ keptOf a) := by
  rw [f15, chk_pos (by omega), f22_ok' F a (by omega) (by omega), call_some]
  have hb := lis_nonneg a
  have hb2 := lis_le a
  obtain ⟨fl, he, hl, hj⟩ := f15_L0_ok F a ha hF (lis a) (by omega) a.length F (List.replicate (a.length : Int).toNat false) [] 0 (by omega) (by omega) ⟨Nat.le_refl _, fun x hx => by cases hx⟩ (by simp) (fun j => by
    simp only [List.getD_eq_getElem?_getD, List.getElem?_replicate]
    split <;> simp)
  exact ⟨fl, by rw [show (0 : Int) = ((0 : Nat) : Int) from rfl, he, call_some], hl, hj⟩
end Go.Vm.GenC5
