/-
  The plain form of BindReadMatchesReference is true of all sections and orders of at most 2^63 - 1 entries. No other conditions.
-/
import Derived.Test.YtknicigahcopjaaReadF
import Derived.Test.YtknicigahcopjaaVmMath
import Derived.KernelRfl
namespace Go.Vm.GenC4

theorem lst_mem {l : List Int} {k : Nat} (h : k < l.length) : l.getD k 0 ∈ l := by
  rw [List.getD_eq_getElem?_getD, List.getElem?_eq_getElem h]
  exact List.getElem_mem _
theorem lsts_mem {l : List (List Int)} {k : Nat} (h : k < l.length) : l.getD k [] ∈ l := by
  rw [List.getD_eq_getElem?_getD, List.getElem?_eq_getElem h]
  exact List.getElem_mem _
theorem drop_one (l : List Int) (k : Nat) (h : k < l.length) : l.drop k = l.getD k 0 :: l.drop (k + 1) := by
  rw [List.drop_eq_getElem_cons h, List.getD_eq_getElem?_getD]
  simp [h]
theorem drop_ones (l : List (List Int)) (k : Nat) (h : k < l.length) : l.drop k = l.getD k [] :: l.drop (k + 1) := by
  rw [List.drop_eq_getElem_cons h, List.getD_eq_getElem?_getD]
  simp [h]

theorem f11_L0_same (F : Nat) (l : List Int) (hl : l.length ≤ 1000000) : ∀ (m n k : Nat), k + m = l.length → m < n → f11_L0 F l l n (k : Int) = some (.go ())
  | _, 0, _, _, h => absurd h (Nat.not_lt_zero _)
  | 0, n + 1, k, hk, _ => by
    rw [f11_L0, show decide ((k : Int) < (l.length : Int)) = false from decide_eq_false (by omega), cond_false]
  | m + 1, n + 1, k, hk, hf => by
    rw [f11_L0, show decide ((k : Int) < (l.length : Int)) = true from decide_eq_true (by omega), cond_true]
    have hw : IntKind.i64.wrap ((k : Int) + 1) = ((k + 1 : Nat) : Int) := by rw [wrap_id (by omega)]; omega
    rw [hw, chk_pos (by omega), chk_pos (by omega), bne_self_eq_false, cond_false]
    exact f11_L0_same F l hl m n (k + 1) (by omega) (by omega)
theorem f11_same (F : Nat) (l : List Int) (hl : l.length ≤ 1000000) (hF : 1000002 < F) : f11 F l l = some true := by
  rw [f11, bne_self_eq_false, cond_false, show (0 : Int) = ((0 : Nat) : Int) from rfl, f11_L0_same F l hl l.length F 0 (by omega) (by omega), callE_go]

/-- A section of a wrong form. -/
def odd (s : List Int) : Bool := decide ((s.length : Int) > 64) || ((s.length : Int).tmod 2 == 1)
/-- A number of no section. -/
def out (n : Nat) (x : Int) : Bool := decide (x < 0) || decide (x ≥ (n : Int))

theorem bif_or (a b : Bool) : (bif a then true else b) = (a || b) := by cases a <;> rfl

theorem f4_L0_set (F : Nat) (a : List (List Int)) (ha : a.length ≤ 9223372036854775807) (v : Int) (hv : v ≠ 0) : ∀ (m n k : Nat), k + m = a.length → m < n → f4_L0 F a n v (k : Int) = some v
  | _, 0, _, _, h => absurd h (Nat.not_lt_zero _)
  | 0, n + 1, k, hk, _ => by
    rw [f4_L0, show decide ((k : Int) < (a.length : Int)) = false from decide_eq_false (by omega), cond_false]
  | m + 1, n + 1, k, hk, hf => by
    rw [f4_L0, show decide ((k : Int) < (a.length : Int)) = true from decide_eq_true (by omega), cond_true]
    have hw : IntKind.i64.wrap ((k : Int) + 1) = ((k + 1 : Nat) : Int) := by rw [wrap_id (by omega)]; omega
    rw [hw, chk_pos (by omega), lett_eq, show (v == 0) = false from by simpa using hv, cond_false, cond_false, call_some]
    exact f4_L0_set F a ha v hv m n (k + 1) (by omega) (by omega)
theorem f4_L0_ok (F : Nat) (a : List (List Int)) (ha : a.length ≤ 9223372036854775807) : ∀ (m n k : Nat), k + m = a.length → m < n → f4_L0 F a n 0 (k : Int) = some (if (a.drop k).any odd = true then 4 else 0)
  | _, 0, _, _, h => absurd h (Nat.not_lt_zero _)
  | 0, n + 1, k, hk, _ => by
    rw [f4_L0, show decide ((k : Int) < (a.length : Int)) = false from decide_eq_false (by omega), cond_false, List.drop_of_length_le (by omega)]
    rfl
  | m + 1, n + 1, k, hk, hf => by
    rw [f4_L0, show decide ((k : Int) < (a.length : Int)) = true from decide_eq_true (by omega), cond_true]
    have hw : IntKind.i64.wrap ((k : Int) + 1) = ((k + 1 : Nat) : Int) := by rw [wrap_id (by omega)]; omega
    rw [hw, chk_pos (by omega), lett_eq, bif_or, show ((0 : Int) == 0) = true from rfl, cond_true, drop_ones a k (by omega), List.any_cons]
    simp only [Int.toNat_natCast]
    rw [show (decide (((a.getD k []).length : Int) > 64) || (((a.getD k []).length : Int).tmod 2 == 1)) = odd (a.getD k []) from rfl]
    cases hx : odd (a.getD k []) with
    | true =>
      rw [cond_true, call_some, f4_L0_set F a ha 4 (by decide) m n (k + 1) (by omega) (by omega)]
      simp
    | false =>
      rw [cond_false, call_some, f4_L0_ok F a ha m n (k + 1) (by omega) (by omega)]
      simp

theorem f4_L2_set (F : Nat) (a : List (List Int)) (l : List Int) (hl : l.length ≤ 9223372036854775807) (v : Int) (hv : v ≠ 0) : ∀ (m n k : Nat), k + m = l.length → m < n → f4_L2 F a l n v (k : Int) = some v
  | _, 0, _, _, h => absurd h (Nat.not_lt_zero _)
  | 0, n + 1, k, hk, _ => by
    rw [f4_L2, show decide ((k : Int) < (l.length : Int)) = false from decide_eq_false (by omega), cond_false]
  | m + 1, n + 1, k, hk, hf => by
    rw [f4_L2, show decide ((k : Int) < (l.length : Int)) = true from decide_eq_true (by omega), cond_true]
    have hw : IntKind.i64.wrap ((k : Int) + 1) = ((k + 1 : Nat) : Int) := by rw [wrap_id (by omega)]; omega
    rw [hw, chk_pos (by omega), lett_eq, show (v == 0) = false from by simpa using hv, cond_false, cond_false, call_some]
    exact f4_L2_set F a l hl v hv m n (k + 1) (by omega) (by omega)
theorem f4_L2_ok (F : Nat) (a : List (List Int)) (l : List Int) (hl : l.length ≤ 9223372036854775807) : ∀ (m n k : Nat), k + m = l.length → m < n → f4_L2 F a l n 0 (k : Int) = some (if (l.drop k).any (out a.length) = true then 3 else 0)
  | _, 0, _, _, h => absurd h (Nat.not_lt_zero _)
  | 0, n + 1, k, hk, _ => by
    rw [f4_L2, show decide ((k : Int) < (l.length : Int)) = false from decide_eq_false (by omega), cond_false, List.drop_of_length_le (by omega)]
    rfl
  | m + 1, n + 1, k, hk, hf => by
    rw [f4_L2, show decide ((k : Int) < (l.length : Int)) = true from decide_eq_true (by omega), cond_true]
    have hw : IntKind.i64.wrap ((k : Int) + 1) = ((k + 1 : Nat) : Int) := by rw [wrap_id (by omega)]; omega
    rw [hw, chk_pos (by omega), lett_eq, bif_or, show ((0 : Int) == 0) = true from rfl, cond_true, drop_one l k (by omega), List.any_cons]
    simp only [Int.toNat_natCast]
    rw [show (decide (l.getD k 0 < 0) || decide (l.getD k 0 ≥ (a.length : Int))) = out a.length (l.getD k 0) from rfl]
    cases hx : out a.length (l.getD k 0) with
    | true =>
      rw [cond_true, call_some, f4_L2_set F a l hl 3 (by decide) m n (k + 1) (by omega) (by omega)]
      simp
    | false =>
      rw [cond_false, call_some, f4_L2_ok F a l hl m n (k + 1) (by omega) (by omega)]
      simp

theorem f10_L0_ok (F : Nat) (a : List (List Int)) (ha : a.length ≤ 64) : ∀ (m n k : Nat), k + m = a.length → m < n → f10_L0 F a n (k : Int) = some (if (a.drop k).any odd = true then .esc ([], 4) else .go ())
  | _, 0, _, _, h => absurd h (Nat.not_lt_zero _)
  | 0, n + 1, k, hk, _ => by
    rw [f10_L0, show decide ((k : Int) < (a.length : Int)) = false from decide_eq_false (by omega), cond_false, List.drop_of_length_le (by omega)]
    rfl
  | m + 1, n + 1, k, hk, hf => by
    rw [f10_L0, show decide ((k : Int) < (a.length : Int)) = true from decide_eq_true (by omega), cond_true]
    have hw : IntKind.i64.wrap ((k : Int) + 1) = ((k + 1 : Nat) : Int) := by rw [wrap_id (by omega)]; omega
    rw [hw, chk_pos (by omega), lett_eq, bif_or, drop_ones a k (by omega), List.any_cons]
    simp only [Int.toNat_natCast]
    rw [show (decide (((a.getD k []).length : Int) > 64) || (((a.getD k []).length : Int).tmod 2 == 1)) = odd (a.getD k []) from rfl]
    cases hx : odd (a.getD k []) with
    | true => simp
    | false =>
      rw [cond_false, f10_L0_ok F a ha m n (k + 1) (by omega) (by omega)]
      simp

theorem f24_ok' (F : Nat) (n : Int) (hn : 0 ≤ n ∧ n ≤ 4294967296) : f24 F n = some [] := by
  rw [f24, show decide (n < 0) = false from decide_eq_false (by omega), cond_false]
  have h0 : IntKind.i64.wrap ((0 : Int) - (([] : List Int).length : Int)) = 0 := by rw [wrap_id (by simp)]; simp
  have h1 : IntKind.i64.wrap (n - 0) = n := by rw [wrap_id (by omega)]; omega
  rw [h0, h1, lett_eq]
  by_cases h : n > 0
  · rw [decide_eq_true h, cond_true, chk_pos (by omega), chk_pos (by omega), lett_eq, chk_pos (by simp; omega), call_some]
    simp
  · rw [decide_eq_false h, cond_false, call_some]

theorem f18_two (F : Nat) (x y : List Int) (hx : x.length ≤ 100000) (hy : y.length ≤ 100000) : f18 (F + 3) [x, y] = some (x ++ y) := by
  have w0 : IntKind.i64.wrap ((0 : Int) + 1) = 1 := by decide
  have w1 : IntKind.i64.wrap ((1 : Int) + 1) = 2 := by decide
  have s0 : IntKind.i64.wrap ((0 : Int) + (x.length : Int)) = x.length := by rw [wrap_id (by omega)]; omega
  have s1 : IntKind.i64.wrap ((x.length : Int) + (y.length : Int)) = (x.length : Int) + y.length := wrap_id (by omega)
  have g0 : ([x, y] : List (List Int)).getD (0 : Int).toNat [] = x := rfl
  have g1 : ([x, y] : List (List Int)).getD (1 : Int).toNat [] = y := rfl
  have hL : f18_L0 (F + 3) [x, y] (F + 3) 0 0 = some ((x.length : Int) + y.length) := by
    rw [f18_L0, show decide ((0 : Int) < (([x, y] : List (List Int)).length : Int)) = true from rfl, cond_true, chk_pos (by simp), g0, s0, show decide ((x.length : Int) < 0) = false from decide_eq_false (by omega), cond_false, w0]
    rw [f18_L0, show decide ((1 : Int) < (([x, y] : List (List Int)).length : Int)) = true from rfl, cond_true, chk_pos (by simp), g1, s1, show decide ((x.length : Int) + y.length < 0) = false from decide_eq_false (by omega), cond_false, w1]
    rw [f18_L0, show decide ((2 : Int) < (([x, y] : List (List Int)).length : Int)) = false from rfl, cond_false]
  have hM : f18_L2 (F + 3) [x, y] (F + 3) [] 0 = some (x ++ y) := by
    rw [f18_L2, show decide ((0 : Int) < (([x, y] : List (List Int)).length : Int)) = true from rfl, cond_true, chk_pos (by simp), g0, chk_pos (by simp; omega), w0]
    rw [f18_L2, show decide ((1 : Int) < (([x, y] : List (List Int)).length : Int)) = true from rfl, cond_true, chk_pos (by simp), g1, chk_pos (by simp; omega), w1]
    rw [f18_L2, show decide ((2 : Int) < (([x, y] : List (List Int)).length : Int)) = false from rfl, cond_false]
    rfl
  rw [f18, hL, call_some, f24_ok' _ _ (by omega), call_some, hM, call_some]

/-- What section number k of the order gives: in front, behind. -/
def half (s : List Int) : Nat := s.length / 2
def sec (a : List (List Int)) (l : List Int) (k : Nat) : List Int := a.getD (l.getD k 0).toNat []
def fore (b : Bool) (a : List (List Int)) (l : List Int) (k : Nat) : List Int := if b then (sec a l k).take (half (sec a l k)) else sec a l k
def aft (b : Bool) (a : List (List Int)) (l : List Int) (k : Nat) : List Int := if b then (sec a l k).drop (half (sec a l k)) else []
def fores (b : Bool) (a : List (List Int)) (l : List Int) : Nat → List Int
  | 0 => []
  | k + 1 => fores b a l k ++ fore b a l k
def afts (b : Bool) (a : List (List Int)) (l : List Int) : Nat → List Int
  | 0 => []
  | k + 1 => aft b a l k ++ afts b a l k

theorem sec_len {a : List (List Int)} {l : List Int} {k : Nat} (ha : a.any odd = false) (hl : l.any (out a.length) = false) (hk : k < l.length) : (0 ≤ l.getD k 0 ∧ l.getD k 0 < (a.length : Int)) ∧ (sec a l k).length ≤ 64 := by
  have h1 := List.any_eq_false.1 hl _ (lst_mem hk)
  have hb : 0 ≤ l.getD k 0 ∧ l.getD k 0 < (a.length : Int) := by
    generalize l.getD k 0 = x at h1
    simp [out] at h1
    omega
  refine ⟨hb, ?_⟩
  have h2 := List.any_eq_false.1 ha _ (lsts_mem (show (l.getD k 0).toNat < a.length by omega))
  unfold sec
  generalize a.getD (l.getD k 0).toNat [] = s at h2
  simp [odd] at h2
  omega
theorem fore_len (b : Bool) (a : List (List Int)) (l : List Int) (k : Nat) : (fore b a l k).length ≤ (sec a l k).length := by
  unfold fore
  split
  · simp; omega
  · omega
theorem aft_len (b : Bool) (a : List (List Int)) (l : List Int) (k : Nat) : (aft b a l k).length ≤ (sec a l k).length := by
  unfold aft
  split
  · simp
  · simp
theorem fores_len {b : Bool} {a : List (List Int)} {l : List Int} (ha : a.any odd = false) (hl : l.any (out a.length) = false) : ∀ k, k ≤ l.length → (fores b a l k).length ≤ 64 * k ∧ (afts b a l k).length ≤ 64 * k
  | 0, _ => ⟨Nat.le_refl _, Nat.le_refl _⟩
  | k + 1, h => by
    have ih := fores_len (b := b) ha hl k (by omega)
    have h1 := (sec_len ha hl (show k < l.length by omega)).2
    have h2 := fore_len b a l k
    have h3 := aft_len b a l k
    simp only [fores, afts, List.length_append]
    omega

theorem tdiv_half (n : Nat) (h : n ≤ 64) : IntKind.i64.wrap ((n : Int).tdiv 2) = ((n / 2 : Nat) : Int) := by
  rw [Int.tdiv_eq_ediv_of_nonneg (by omega), wrap_id (by omega)]
  omega

theorem f9_L0_ok (F : Nat) (a : List (List Int)) (l : List Int) (b : Bool) (ha : a.any odd = false) (hl : l.any (out a.length) = false) (hn : l.length ≤ 64) : ∀ (m n k : Nat), k + m = l.length → m < n → f9_L0 F a l b n (fores b a l k) (k : Int) = some (fores b a l l.length)
  | _, 0, _, _, h => absurd h (Nat.not_lt_zero _)
  | 0, n + 1, k, hk, _ => by
    rw [f9_L0, show decide ((k : Int) < (l.length : Int)) = false from decide_eq_false (by omega), cond_false]
    have : k = l.length := by omega
    rw [this]
  | m + 1, n + 1, k, hk, hf => by
    rw [f9_L0, show decide ((k : Int) < (l.length : Int)) = true from decide_eq_true (by omega), cond_true]
    have hw : IntKind.i64.wrap ((k : Int) + 1) = ((k + 1 : Nat) : Int) := by rw [wrap_id (by omega)]; omega
    obtain ⟨hb, hs⟩ := sec_len ha hl (show k < l.length by omega)
    have hfl := (fores_len (b := b) ha hl k (by omega)).1
    have hfo := fore_len b a l k
    rw [hw, chk_pos (by omega)]
    rw [Int.toNat_natCast]
    rw [chk_pos (by omega), show a.getD (l.getD k 0).toNat [] = sec a l k from rfl]
    have hstep : (bif b then
          chk (0 ≤ (0 : Int) ∧ (0 : Int) ≤ (IntKind.i64.wrap (((sec a l k).length : Int).tdiv (2 : Int))) ∧ (IntKind.i64.wrap (((sec a l k).length : Int).tdiv (2 : Int))) ≤ ((sec a l k).length : Int)) <|
          lett ((((sec a l k).drop (0 : Int).toNat).take ((IntKind.i64.wrap (((sec a l k).length : Int).tdiv (2 : Int))).toNat - (0 : Int).toNat))) fun z1 =>
          some z1
        else
          some (sec a l k)) = some (fore b a l k) := by
      cases b with
      | true =>
        rw [cond_true, tdiv_half _ hs, chk_pos (by omega), lett_eq, Int.toNat_natCast]
        simp [fore, half]
      | false => rfl
    rw [hstep, call_some, chk_pos (by omega)]
    exact f9_L0_ok F a l b ha hl hn m n (k + 1) (by omega) (by omega)

theorem f9_L2_ok (F : Nat) (a : List (List Int)) (l : List Int) (b : Bool) (ha : a.any odd = false) (hl : l.any (out a.length) = false) (hn : l.length ≤ 64) (R : List Int) (hR : R.length ≤ 100000) : ∀ (m n k : Nat) (v : List Int), k + m = l.length → m < n → v ++ afts b a l m = R → f9_L2 F a l b n v (k : Int) = some R
  | _, 0, _, _, _, h, _ => absurd h (Nat.not_lt_zero _)
  | 0, n + 1, k, v, hk, _, hv => by
    rw [f9_L2, show decide ((k : Int) < (l.length : Int)) = false from decide_eq_false (by omega), cond_false]
    simp only [afts, List.append_nil] at hv
    rw [hv]
  | m + 1, n + 1, k, v, hk, hf, hv => by
    rw [f9_L2, show decide ((k : Int) < (l.length : Int)) = true from decide_eq_true (by omega), cond_true]
    have hw : IntKind.i64.wrap ((k : Int) + 1) = ((k + 1 : Nat) : Int) := by rw [wrap_id (by omega)]; omega
    have hix : IntKind.i64.wrap (IntKind.i64.wrap ((l.length : Int) - 1) - (k : Int)) = (m : Int) := by rw [wrap_id (x := (l.length : Int) - 1) (by omega), wrap_id (by omega)]; omega
    obtain ⟨hb, hs⟩ := sec_len ha hl (show m < l.length by omega)
    have hal := aft_len b a l m
    rw [hw, hix]
    rw [Int.toNat_natCast]
    simp only [afts] at hv
    have hlen := congrArg List.length hv
    simp only [List.length_append] at hlen
    have hstep : (bif b then
          chk (0 ≤ (m : Int) ∧ (m : Int) < l.length) <|
          chk (0 ≤ (l.getD m 0) ∧ (l.getD m 0) < a.length) <|
          lett ((a.getD (l.getD m 0).toNat [])) fun z2 =>
          chk (0 ≤ (IntKind.i64.wrap ((z2.length : Int).tdiv (2 : Int))) ∧ (IntKind.i64.wrap ((z2.length : Int).tdiv (2 : Int))) ≤ (z2.length : Int) ∧ (z2.length : Int) ≤ (z2.length : Int)) <|
          lett (((z2.drop (IntKind.i64.wrap ((z2.length : Int).tdiv (2 : Int))).toNat).take ((z2.length : Int).toNat - (IntKind.i64.wrap ((z2.length : Int).tdiv (2 : Int))).toNat))) fun z3 =>
          chk (v.length + z3.length ≤ 4294967296) <|
          some (v ++ z3)
        else
          some v) = some (v ++ aft b a l m) := by
      cases b with
      | true =>
        have he : ((sec a l m).drop (half (sec a l m))).take ((sec a l m).length - half (sec a l m)) = aft true a l m := by
          rw [List.take_of_length_le (by simp)]
          rfl
        rw [cond_true, chk_pos (by omega), chk_pos (by omega), lett_eq, show a.getD (l.getD m 0).toNat [] = sec a l m from rfl, tdiv_half _ hs, chk_pos (by omega), lett_eq]
        rw [Int.toNat_natCast, Int.toNat_natCast]
        rw [show (sec a l m).length / 2 = half (sec a l m) from rfl, he, chk_pos (by omega)]
      | false => simp [aft]
    rw [hstep, call_some]
    exact f9_L2_ok F a l b ha hl hn R hR m n (k + 1) _ (by omega) (by omega) (by rw [List.append_assoc]; exact hv)

theorem f9_ok' (F : Nat) (a : List (List Int)) (l : List Int) (b : Bool) (ha : a.any odd = false) (hl : l.any (out a.length) = false) (hn : l.length ≤ 64) (hF : 100 < F) : f9 F a l b = some (fores b a l l.length ++ afts b a l l.length) := by
  have h := fores_len (b := b) ha hl l.length (Nat.le_refl _)
  rw [f9, show (0 : Int) = ((0 : Nat) : Int) from rfl]
  have h1 := f9_L0_ok F a l b ha hl hn l.length F 0 (by omega) (by omega)
  rw [show fores b a l 0 = [] from rfl] at h1
  rw [h1, call_some, f9_L2_ok F a l b ha hl hn _ (by simp; omega) l.length F 0 _ (by omega) (by omega) rfl, call_some]

theorem f10_L2_ok (F : Nat) (a : List (List Int)) (l : List Int) (st : Int) (b : Bool) (hst : (st == 0) = !b) (ha : a.any odd = false) (hal : a.length ≤ 64) (hn : l.length ≤ 64) : ∀ (m n k : Nat), k + m = l.length → m < n → (l.take k).any (out a.length) = false → (fores b a l k).length ≤ 64 * k → (afts b a l k).length ≤ 64 * k →
    f10_L2 (F + 3) a l st n (fores b a l k) (afts b a l k) (k : Int) = some (if (l.drop k).any (out a.length) = true then .esc ([], 3) else .go (fores b a l l.length, afts b a l l.length))
  | _, 0, _, _, h, _, _, _ => absurd h (Nat.not_lt_zero _)
  | 0, n + 1, k, hk, _, _, _, _ => by
    rw [f10_L2, show decide ((k : Int) < (l.length : Int)) = false from decide_eq_false (by omega), cond_false, List.drop_of_length_le (by omega)]
    have : k = l.length := by omega
    rw [this]
    rfl
  | m + 1, n + 1, k, hk, hf, hp, hf1, hf2 => by
    rw [f10_L2, show decide ((k : Int) < (l.length : Int)) = true from decide_eq_true (by omega), cond_true]
    have hw : IntKind.i64.wrap ((k : Int) + 1) = ((k + 1 : Nat) : Int) := by rw [wrap_id (by omega)]; omega
    rw [hw, chk_pos (by omega), lett_eq, bif_or, drop_one l k (by omega), List.any_cons]
    rw [Int.toNat_natCast]
    rw [show (decide (l.getD k 0 < 0) || decide (l.getD k 0 ≥ (a.length : Int))) = out a.length (l.getD k 0) from rfl]
    cases hx : out a.length (l.getD k 0) with
    | true =>
      rw [cond_true, callE_esc']
      simp
    | false =>
      have hb : 0 ≤ l.getD k 0 ∧ l.getD k 0 < (a.length : Int) := by
        generalize l.getD k 0 = x at hx
        simp [out] at hx
        omega
      have hs : (sec a l k).length ≤ 64 := by
        have h2 := List.any_eq_false.1 ha _ (lsts_mem (show (l.getD k 0).toNat < a.length by omega))
        unfold sec
        generalize a.getD (l.getD k 0).toNat [] = s at h2
        simp [odd] at h2
        omega
      have hfo := fore_len b a l k
      have haf := aft_len b a l k
      have hp' : (l.take (k + 1)).any (out a.length) = false := by
        rw [List.take_succ_eq_append_getElem (by omega), List.any_append, hp, List.any_cons, List.any_nil]
        have : l[k]'(by omega) = l.getD k 0 := by rw [List.getD_eq_getElem?_getD, List.getElem?_eq_getElem (by omega)]; rfl
        rw [this, hx]
        rfl
      have hl1 : (fores b a l (k + 1)).length ≤ 64 * (k + 1) := by simp only [fores, List.length_append]; omega
      have hl2 : (afts b a l (k + 1)).length ≤ 64 * (k + 1) := by simp only [afts, List.length_append]; omega
      have ih := f10_L2_ok F a l st b hst ha hal hn m n (k + 1) (by omega) (by omega) hp' hl1 hl2
      rw [cond_false, chk_pos (by omega), show a.getD (l.getD k 0).toNat [] = sec a l k from rfl, hst, Bool.false_or]
      cases b with
      | false =>
        rw [Bool.not_false, cond_true, chk_pos (by omega), callE_go]
        exact ih
      | true =>
        rw [Bool.not_true, cond_false, tdiv_half _ hs, chk_pos (by omega), lett_eq]
        rw [Int.toNat_natCast, Int.toNat_natCast]
        have he : ((sec a l k).drop (0 : Int).toNat).take ((sec a l k).length / 2 - (0 : Int).toNat) = fore true a l k := by
          simp [fore, half]
        have he2 : ((sec a l k).drop ((sec a l k).length / 2)).take ((sec a l k).length - (sec a l k).length / 2) = aft true a l k := by
          rw [List.take_of_length_le (by simp)]
          rfl
        rw [he, chk_pos (by omega), chk_pos (by omega), lett_eq, he2, f18_two F _ _ (by omega) (by omega), call_some, callE_go]
        exact ih

theorem first6 (G : Nat) : f6 (G + 100) = some true := by kernel_rfl

theorem f10_ok' (G : Nat) (a : List (List Int)) (l : List Int) (st : Int) (ha : a.length ≤ 64) (hl : l.length ≤ 64) : f10 (G + 100) a l st = some (if a.any odd = true then ([], 4) else if st ≠ 0 ∧ st ≠ 1 then ([], 14) else if l.any (out a.length) = true then ([], 3) else (fores (st == 1) a l l.length ++ afts (st == 1) a l l.length, 0)) := by
  rw [f10, show decide ((a.length : Int) > 64) = false from decide_eq_false (by omega), show decide ((l.length : Int) > 64) = false from decide_eq_false (by omega)]
  simp only [cond_false, lett_eq]
  have h0 := f10_L0_ok (G + 100) a ha a.length (G + 100) 0 (by omega) (by omega)
  rw [List.drop_zero] at h0
  have h0' : f10_L0 (G + 100) a (G + 100) 0 = _ := h0
  rw [h0']
  by_cases hodd : a.any odd = true
  · rw [if_pos hodd, if_pos hodd, callE_esc']
  rw [if_neg hodd, if_neg hodd, callE_go]
  have hodd' : a.any odd = false := by simpa using hodd
  by_cases hst : st ≠ 0 ∧ st ≠ 1
  · rw [if_pos hst, show (st != 0) = true from by simpa using hst.1, show (st != 1) = true from by simpa using hst.2]
    rfl
  rw [if_neg hst]
  have hst2 : (bif (st != 0) then (st != 1) else false) = false := by
    by_cases h : st = 0
    · simp [h]
    · have : st = 1 := by
        by_cases h1 : st = 1
        · exact h1
        · exact absurd ⟨h, h1⟩ hst
      simp [this]
  rw [hst2, cond_false]
  have hb : (st == 0) = !(st == 1) := by
    by_cases h : st = 0
    · simp [h]
    · have : st = 1 := by
        by_cases h1 : st = 1
        · exact h1
        · exact absurd ⟨h, h1⟩ hst
      simp [this]
  have h2 := f10_L2_ok (G + 97) a l st (st == 1) hb hodd' ha hl l.length (G + 100) 0 (by omega) (by omega) rfl (Nat.le_refl _) (Nat.le_refl _)
  rw [show G + 97 + 3 = G + 100 from rfl, List.drop_zero, show fores (st == 1) a l 0 = [] from rfl, show afts (st == 1) a l 0 = [] from rfl] at h2
  have h2' : f10_L2 (G + 100) a l st (G + 100) [] [] 0 = _ := h2
  rw [h2']
  by_cases hout : l.any (out a.length) = true
  · rw [if_pos hout, if_pos hout, callE_esc']
  · rw [if_neg hout, if_neg hout, callE_go]
    have hlen := fores_len (b := st == 1) hodd' (by simpa using hout) l.length (Nat.le_refl _)
    simp only
    rw [chk_pos (by omega)]

theorem f10_big (G : Nat) (a : List (List Int)) (l : List Int) (st : Int) (h : ¬ (a.length ≤ 64 ∧ l.length ≤ 64)) : f10 (G + 100) a l st = some ([], 2) := by
  have hb : (bif (decide ((a.length : Int) > 64)) then true else decide ((l.length : Int) > 64)) = true := by
    rw [bif_or]
    simp
    omega
  rw [f10, hb]
  rfl

theorem law4 (a : List (List Int)) (l : List Int) (st : Int) (ha : a.length ≤ 9223372036854775807) (hl : l.length ≤ 9223372036854775807) : ∃ F, f4 F a l st = some true := by
  refine ⟨(a.length + l.length + 2000000) + 100, ?_⟩
  obtain ⟨G, hG⟩ : ∃ G, G = a.length + l.length + 2000000 := ⟨_, rfl⟩
  rw [← hG, f4, first6, call_some]
  simp only [Bool.not_true, cond_false]
  have z : (0 : Int) = ((0 : Nat) : Int) := rfl
  by_cases hs : a.length ≤ 64 ∧ l.length ≤ 64
  · rw [f10_ok' G a l st hs.1 hs.2, call_some, show decide ((a.length : Int) > 64) = false from decide_eq_false (by omega), show decide ((l.length : Int) > 64) = false from decide_eq_false (by omega)]
    simp only [cond_false, lett_eq, call_some]
    have h0 := f4_L0_ok (G + 100) a ha a.length (G + 100) 0 (by omega) (by omega)
    rw [List.drop_zero] at h0
    have h0' : f4_L0 (G + 100) a (G + 100) 0 0 = _ := h0
    rw [h0', call_some]
    by_cases hodd : a.any odd = true
    · rw [if_pos hodd, if_pos hodd]
      simp only [show ((4 : Int) == 0) = false from rfl, cond_false, call_some]
      have h2 := f4_L2_set (G + 100) a l hl 4 (by decide) l.length (G + 100) 0 (by omega) (by omega)
      have h2' : f4_L2 (G + 100) a l (G + 100) 4 0 = _ := h2
      rw [h2', call_some]
      rfl
    rw [if_neg hodd, if_neg hodd]
    have hodd' : a.any odd = false := by simpa using hodd
    by_cases hst : st ≠ 0 ∧ st ≠ 1
    · rw [if_pos hst, show (st != 0) = true from by simpa using hst.1, show (st != 1) = true from by simpa using hst.2]
      simp only [show ((0 : Int) == 0) = true from rfl, cond_true, call_some]
      have h2 := f4_L2_set (G + 100) a l hl 14 (by decide) l.length (G + 100) 0 (by omega) (by omega)
      have h2' : f4_L2 (G + 100) a l (G + 100) 14 0 = _ := h2
      rw [h2', call_some]
      rfl
    rw [if_neg hst]
    have hst2 : (bif (bif ((0 : Int) == 0) then (st != 0) else false) then (st != 1) else false) = false := by
      by_cases h : st = 0
      · simp [h]
      · have : st = 1 := by
          by_cases h1 : st = 1
          · exact h1
          · exact absurd ⟨h, h1⟩ hst
        simp [this]
    rw [hst2, cond_false, call_some]
    have h2 := f4_L2_ok (G + 100) a l hl l.length (G + 100) 0 (by omega) (by omega)
    rw [List.drop_zero] at h2
    have h2' : f4_L2 (G + 100) a l (G + 100) 0 0 = _ := h2
    rw [h2', call_some]
    by_cases hout : l.any (out a.length) = true
    · rw [if_pos hout, if_pos hout]
      rfl
    · rw [if_neg hout, if_neg hout]
      have hout' : l.any (out a.length) = false := by simpa using hout
      have hlen := fores_len (b := st == 1) hodd' hout' l.length (Nat.le_refl _)
      simp only [show ((0 : Int) != 0) = false from rfl, cond_false, show ((0 : Int) == 0) = true from rfl, show (true == true) = true from rfl, Bool.and_self, cond_true]
      rw [f9_ok' (G + 100) a l (st == 1) hodd' hout' hs.2 (by omega), call_some, f11_same _ _ (by simp; omega) (by omega), call_some]
  · rw [f10_big G a l st hs, call_some]
    have hb : (bif (decide ((a.length : Int) > 64)) then true else decide ((l.length : Int) > 64)) = true := by
      rw [bif_or]
      simp
      omega
    rw [hb, lett_eq, cond_true, call_some]
    have h0 := f4_L0_set (G + 100) a ha 2 (by decide) a.length (G + 100) 0 (by omega) (by omega)
    have h0' : f4_L0 (G + 100) a (G + 100) 2 0 = _ := h0
    rw [h0', call_some]
    simp only [show ((2 : Int) == 0) = false from rfl, cond_false, call_some]
    have h2 := f4_L2_set (G + 100) a l hl 2 (by decide) l.length (G + 100) 0 (by omega) (by omega)
    have h2' : f4_L2 (G + 100) a l (G + 100) 2 0 = _ := h2
    rw [h2', call_some]
    rfl
end Go.Vm.GenC4
