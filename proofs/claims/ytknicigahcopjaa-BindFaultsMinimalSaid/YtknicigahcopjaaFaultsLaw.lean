/-
  The longest increasing rows of a list of numbers, counted from either end. No conditions.
-/
import Derived.Test.YtknicigahcopjaaVmMath
namespace Go.Vm.GenC5

/-- As many entries as an increasing row of l can have. -/
def lis : List Int → Int
  | [] => 0
  | x :: t => max (1 + lis (t.filter (fun y => decide (x < y)))) (lis t)
termination_by l => l.length
decreasing_by
  · refine Nat.lt_succ_of_le ?_
    rw [List.length_unattach]
    exact Nat.le_trans (List.length_filter_le _ _) (by simp)
  · exact Nat.lt_succ_self _

theorem lis_nil : lis [] = 0 := by rw [lis]
theorem lis_cons (x : Int) (t : List Int) : lis (x :: t) = max (1 + lis (t.filter (fun y => decide (x < y)))) (lis t) := by rw [lis]

theorem filter_filter_lt (l : List Int) {x y : Int} (h : x ≤ y) : (l.filter (fun z => decide (x < z))).filter (fun z => decide (y < z)) = l.filter (fun z => decide (y < z)) := by
  rw [List.filter_filter]
  apply List.filter_congr
  intro z _
  simp
  omega

theorem lis_bound (n : Nat) : ∀ l : List Int, l.length ≤ n → 0 ≤ lis l ∧ lis l ≤ l.length := by
  induction n with
  | zero =>
    intro l hl
    cases l with
    | nil => simp [lis_nil]
    | cons x t => simp at hl
  | succ n ih =>
    intro l hl
    cases l with
    | nil => simp [lis_nil]
    | cons x t =>
      rw [lis_cons]
      have hl' : t.length ≤ n := by simpa using hl
      have h1 := ih t hl'
      have hf := List.length_filter_le (fun y => decide (x < y)) t
      have h2 := ih (t.filter (fun y => decide (x < y))) (by omega)
      simp only [List.length_cons]
      omega
theorem lis_nonneg (l : List Int) : 0 ≤ lis l := (lis_bound _ l (Nat.le_refl _)).1
theorem lis_le (l : List Int) : lis l ≤ l.length := (lis_bound _ l (Nat.le_refl _)).2

/-- What an increasing row of l is. -/
def Inc (s l : List Int) : Prop := s.Sublist l ∧ s.Pairwise (· < ·)

theorem lis_max (n : Nat) : ∀ l : List Int, l.length ≤ n → ∀ s, Inc s l → (s.length : Int) ≤ lis l := by
  induction n with
  | zero =>
    intro l hl s hs
    cases l with
    | nil => have := hs.1.length_le; simp [lis_nil] at *; omega
    | cons x t => simp at hl
  | succ n ih =>
    intro l hl s hs
    cases l with
    | nil => have := hs.1.length_le; simp [lis_nil] at *; omega
    | cons x t =>
      have hl' : t.length ≤ n := by simpa using hl
      rw [lis_cons]
      have hf := List.length_filter_le (fun y => decide (x < y)) t
      rcases List.sublist_cons_iff.1 hs.1 with h | ⟨r, rfl, h⟩
      · have := ih t hl' s ⟨h, hs.2⟩
        omega
      · have hp := List.pairwise_cons.1 hs.2
        have h2 : r.Sublist (t.filter (fun y => decide (x < y))) := by
          have := h.filter (fun y => decide (x < y))
          rwa [List.filter_eq_self.2 (fun y hy => by simpa using hp.1 y hy)] at this
        have := ih (t.filter (fun y => decide (x < y))) (by omega) r ⟨h2, hp.2⟩
        simp only [List.length_cons]
        omega

theorem lis_ex (n : Nat) : ∀ l : List Int, l.length ≤ n → ∃ s, Inc s l ∧ (s.length : Int) = lis l := by
  induction n with
  | zero =>
    intro l hl
    cases l with
    | nil => exact ⟨[], ⟨List.Sublist.refl _, List.Pairwise.nil⟩, by simp [lis_nil]⟩
    | cons x t => simp at hl
  | succ n ih =>
    intro l hl
    cases l with
    | nil => exact ⟨[], ⟨List.Sublist.refl _, List.Pairwise.nil⟩, by simp [lis_nil]⟩
    | cons x t =>
      have hl' : t.length ≤ n := by simpa using hl
      rw [lis_cons]
      have hf := List.length_filter_le (fun y => decide (x < y)) t
      obtain ⟨s1, h1, e1⟩ := ih t hl'
      obtain ⟨s2, h2, e2⟩ := ih (t.filter (fun y => decide (x < y))) (by omega)
      by_cases hc : 1 + lis (t.filter (fun y => decide (x < y))) ≤ lis t
      · exact ⟨s1, ⟨h1.1.trans (List.sublist_cons_self _ _), h1.2⟩, by omega⟩
      · refine ⟨x :: s2, ⟨(h2.1.trans List.filter_sublist).cons_cons x, List.pairwise_cons.2 ⟨fun y hy => ?_, h2.2⟩⟩, by simp only [List.length_cons]; omega⟩
        have := List.mem_filter.1 (h2.1.subset hy)
        simpa using this.2

/-- A list read from its other end, turned. -/
def flip (l : List Int) : List Int := (l.reverse).map (fun x => -x)
theorem flip_flip (l : List Int) : flip (flip l) = l := by
  have : ((fun x : Int => -x) ∘ fun x => -x) = id := by
    funext x
    simp
  simp [flip, List.map_reverse, this]
theorem inc_flip {s l : List Int} (h : Inc s l) : Inc (flip s) (flip l) := by
  refine ⟨(h.1.reverse).map _, ?_⟩
  unfold flip
  rw [List.pairwise_map, List.pairwise_reverse]
  exact h.2.imp (fun h => by omega)
theorem flip_length (l : List Int) : (flip l).length = l.length := by simp [flip]
theorem lis_flip (l : List Int) : lis (flip l) = lis l := by
  obtain ⟨s, h1, e1⟩ := lis_ex _ l (Nat.le_refl _)
  obtain ⟨s2, h2, e2⟩ := lis_ex _ (flip l) (Nat.le_refl _)
  have a := lis_max _ (flip l) (Nat.le_refl _) _ (inc_flip h1)
  have b := inc_flip h2
  rw [flip_flip] at b
  have b := lis_max _ l (Nat.le_refl _) _ b
  rw [flip_length] at a b
  omega

theorem flip_filter (l : List Int) (x : Int) : (flip l).filter (fun y => decide (-x < y)) = flip (l.filter (fun y => decide (y < x))) := by
  unfold flip
  rw [List.filter_map, ← List.filter_reverse]
  congr 1
  apply List.filter_congr
  intro z _
  simp

/-- From the right. -/
theorem lis_snoc (l : List Int) (x : Int) : lis (l ++ [x]) = max (1 + lis (l.filter (fun y => decide (y < x)))) (lis l) := by
  have h : flip (l ++ [x]) = -x :: flip l := by simp [flip]
  rw [← lis_flip (l ++ [x]), h, lis_cons, flip_filter, lis_flip, lis_flip]

theorem filter_filter_gt (l : List Int) {x y : Int} (h : y ≤ x) : (l.filter (fun z => decide (z < x))).filter (fun z => decide (z < y)) = l.filter (fun z => decide (z < y)) := by
  rw [List.filter_filter]
  apply List.filter_congr
  intro z _
  simp
  omega

theorem take_succ_getD (l : List Int) (k : Nat) (h : k < l.length) : l.take (k + 1) = l.take k ++ [l.getD k 0] := by
  rw [List.take_succ_eq_append_getElem h, List.getD_eq_getElem?_getD]
  simp [h]
theorem drop_getD (l : List Int) (k : Nat) (h : k < l.length) : l.drop k = l.getD k 0 :: l.drop (k + 1) := by
  rw [List.drop_eq_getElem_cons h, List.getD_eq_getElem?_getD]
  simp [h]

/-- The longest row that ends at i. -/
def preI (a : List Int) (i : Nat) : Int := 1 + lis ((a.take i).filter (fun y => decide (y < a.getD i 0)))
/-- The longest row that begins at i. -/
def sufI (a : List Int) (i : Nat) : Int := 1 + lis ((a.drop (i + 1)).filter (fun y => decide (a.getD i 0 < y)))

theorem pre_step (a : List Int) (k : Nat) (x : Int) (h : k < a.length) : lis ((a.take (k + 1)).filter (fun y => decide (y < x))) = if a.getD k 0 < x then max (preI a k) (lis ((a.take k).filter (fun y => decide (y < x)))) else lis ((a.take k).filter (fun y => decide (y < x))) := by
  rw [take_succ_getD a k h, List.filter_append]
  by_cases hx : a.getD k 0 < x
  · rw [if_pos hx, List.filter_cons_of_pos (by simpa using hx), List.filter_nil, lis_snoc, filter_filter_gt _ (by omega)]
    rfl
  · rw [if_neg hx, List.filter_cons_of_neg (by simpa using hx), List.filter_nil, List.append_nil]
theorem suf_step (a : List Int) (k : Nat) (x : Int) (h : k < a.length) : lis ((a.drop k).filter (fun y => decide (x < y))) = if x < a.getD k 0 then max (sufI a k) (lis ((a.drop (k + 1)).filter (fun y => decide (x < y)))) else lis ((a.drop (k + 1)).filter (fun y => decide (x < y))) := by
  rw [drop_getD a k h]
  by_cases hx : x < a.getD k 0
  · rw [if_pos hx, List.filter_cons_of_pos (by simpa using hx), lis_cons, filter_filter_lt _ (by omega)]
    rfl
  · rw [if_neg hx, List.filter_cons_of_neg (by simpa using hx)]
theorem pre_all (a : List Int) (k : Nat) (h : k < a.length) : lis (a.take (k + 1)) = max (preI a k) (lis (a.take k)) := by
  rw [take_succ_getD a k h, lis_snoc]
  rfl
theorem suf_all (a : List Int) (k : Nat) (h : k < a.length) : lis (a.drop k) = max (sufI a k) (lis (a.drop (k + 1))) := by
  rw [drop_getD a k h, lis_cons]
  rfl
theorem preI_bound (a : List Int) (k : Nat) (h : k < a.length) : 1 ≤ preI a k ∧ preI a k ≤ a.length := by
  have h1 := lis_nonneg ((a.take k).filter (fun y => decide (y < a.getD k 0)))
  have h2 := lis_le ((a.take k).filter (fun y => decide (y < a.getD k 0)))
  have h3 := List.length_filter_le (fun y => decide (y < a.getD k 0)) (a.take k)
  rw [List.length_take] at h3
  unfold preI
  omega
theorem sufI_bound (a : List Int) (k : Nat) (h : k < a.length) : 1 ≤ sufI a k ∧ sufI a k ≤ a.length := by
  have h1 := lis_nonneg ((a.drop (k + 1)).filter (fun y => decide (a.getD k 0 < y)))
  have h2 := lis_le ((a.drop (k + 1)).filter (fun y => decide (a.getD k 0 < y)))
  have h3 := List.length_filter_le (fun y => decide (a.getD k 0 < y)) (a.drop (k + 1))
  rw [List.length_drop] at h3
  unfold sufI
  omega
end Go.Vm.GenC5
