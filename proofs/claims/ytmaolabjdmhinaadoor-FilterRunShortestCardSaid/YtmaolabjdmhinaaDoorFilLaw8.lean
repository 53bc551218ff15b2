/-
  filter, plain law 8: the shortest code by runs: what is possible, and what the table from the end holds.
-/
import Derived.Test.YtmaolabjdmhinaaDoorFilLaw7
namespace Go.Vm.FilG

/-- These bytes can be coded by so many bytes. -/
inductive Code : List UInt8 → Nat → Prop
  | nil : Code [] 0
  | lit (p xs : List UInt8) (c : Nat) : 1 ≤ p.length → p.length ≤ 128 → Code xs c → Code (p ++ xs) (1 + p.length + c)
  | run (x : UInt8) (k : Nat) (xs : List UInt8) (c : Nat) : 1 ≤ k → k ≤ 128 → Code xs c → Code (List.replicate k x ++ xs) (2 + c)

theorem Code.append {xs ys : List UInt8} {a b : Nat} (h : Code xs a) (h2 : Code ys b) : Code (xs ++ ys) (a + b) := by
  induction h with
  | nil => simpa using h2
  | lit p xs c h3 h4 _ ih =>
    have := Code.lit p _ _ h3 h4 ih
    rw [List.append_assoc]
    rwa [show 1 + p.length + (c + b) = 1 + p.length + c + b by omega] at this
  | run x k xs c h3 h4 _ ih =>
    have := Code.run x k _ _ h3 h4 ih
    rw [List.append_assoc]
    rwa [show 2 + (c + b) = 2 + c + b by omega] at this

def MinP (xs : List UInt8) (m : Nat) : Prop := Code xs m ∧ ∀ c, Code xs c → m ≤ c

theorem Code.plain : ∀ xs : List UInt8, Code xs (2 * xs.length)
  | [] => .nil
  | x :: xs => by
    have := Code.lit [x] xs _ (Nat.le_refl 1) (by show 1 ≤ 128; decide) (Code.plain xs)
    rw [List.length_cons]
    rwa [show 1 + [x].length + 2 * xs.length = 2 * (xs.length + 1) by simp; omega] at this
theorem MinP.le {xs : List UInt8} {m : Nat} (h : MinP xs m) : m ≤ 2 * xs.length := h.2 _ (Code.plain xs)
theorem MinP.uniq {xs : List UInt8} {m n : Nat} (h : MinP xs m) (h2 : MinP xs n) : m = n := Nat.le_antisymm (h.2 _ h2.1) (h2.2 _ h.1)
theorem Code.nil_le {c : Nat} (_h : Code [] c) : 0 ≤ c := Nat.zero_le _
theorem MinP.nil : MinP [] 0 := ⟨.nil, fun _ _ => Nat.zero_le _⟩

/-- What a code begins with. -/
theorem Code.head {xs : List UInt8} {c : Nat} (h : Code xs c) (hne : xs ≠ []) : ∃ k c', 1 ≤ k ∧ k ≤ 128 ∧ k ≤ xs.length ∧ Code (xs.drop k) c' ∧ (c = 1 + k + c' ∨ (c = 2 + c' ∧ ∃ x, xs.take k = List.replicate k x)) := by
  cases h with
  | nil => exact absurd rfl hne
  | lit p ys c' h1 h2 h3 => exact ⟨p.length, c', h1, h2, by simp, by simpa using h3, .inl rfl⟩
  | run x k ys c' h1 h2 h3 =>
    refine ⟨k, c', h1, h2, by simp, ?_, .inr ⟨rfl, x, ?_⟩⟩
    · simpa using h3
    · simp
/-- What a code ends with. -/
theorem Code.last {xs : List UInt8} {c : Nat} (h : Code xs c) : xs ≠ [] → ∃ k c', 1 ≤ k ∧ k ≤ 128 ∧ k ≤ xs.length ∧ Code (xs.take (xs.length - k)) c' ∧ (c = 1 + k + c' ∨ (c = 2 + c' ∧ ∃ x, xs.drop (xs.length - k) = List.replicate k x)) := by
  have key : ∀ (p ys : List UInt8) (e b : Nat) (k c' : Nat), Code p e → k ≤ ys.length → Code (ys.take (ys.length - k)) c' → Code ((p ++ ys).take ((p ++ ys).length - k)) (e + c') ∧ (p ++ ys).drop ((p ++ ys).length - k) = ys.drop (ys.length - k) := by
    intro p ys e b k c' hp hk hc
    have e1 : (p ++ ys).length - k = p.length + (ys.length - k) := by simp; omega
    rw [e1, List.take_length_add_append, List.drop_length_add_append]
    exact ⟨hp.append hc, rfl⟩
  induction h with
  | nil => intro h; exact absurd rfl h
  | lit p ys c h1 h2 h3 ih =>
    intro _
    by_cases hy : ys = []
    · subst hy
      refine ⟨p.length, c, h1, h2, by simp, ?_, .inl rfl⟩
      rw [List.append_nil, Nat.sub_self, List.take_zero]
      exact h3
    · obtain ⟨k, c', q1, q2, q3, q4, q5⟩ := ih hy
      have hp : Code p (1 + p.length) := by simpa using Code.lit p [] 0 h1 h2 .nil
      obtain ⟨k1, k2⟩ := key p ys _ 0 k c' hp q3 q4
      refine ⟨k, 1 + p.length + c', q1, q2, by simp; omega, k1, ?_⟩
      rcases q5 with q5 | ⟨q5, x, q6⟩
      · exact .inl (by omega)
      · exact .inr ⟨by omega, x, by rw [k2, q6]⟩
  | run x k0 ys c h1 h2 h3 ih =>
    intro _
    by_cases hy : ys = []
    · subst hy
      refine ⟨k0, c, h1, h2, by simp, ?_, .inr ⟨rfl, x, ?_⟩⟩
      · rw [List.append_nil, List.length_replicate, Nat.sub_self, List.take_zero]
        exact h3
      · rw [List.append_nil, List.length_replicate, Nat.sub_self, List.drop_zero]
    · obtain ⟨k, c', q1, q2, q3, q4, q5⟩ := ih hy
      have hp : Code (List.replicate k0 x) 2 := by simpa using Code.run x k0 [] 0 h1 h2 .nil
      obtain ⟨k1', k2⟩ := key (List.replicate k0 x) ys _ 0 k c' hp q3 q4
      refine ⟨k, 2 + c', q1, q2, by simp; omega, k1', ?_⟩
      rcases q5 with q5 | ⟨q5, y, q6⟩
      · exact .inl (by omega)
      · exact .inr ⟨by omega, y, by rw [k2, q6]⟩

/-- Fewer bytes need no longer code. -/
theorem Code.tail {x : UInt8} {xs : List UInt8} {c : Nat} (h : Code (x :: xs) c) : ∃ c', c' ≤ c ∧ Code xs c' := by
  obtain ⟨k, c', h1, h2, h3, h4, h5⟩ := h.head (by simp)
  obtain ⟨k, rfl⟩ : ∃ j, k = j + 1 := ⟨k - 1, by omega⟩
  rw [List.drop_succ_cons] at h4
  rw [List.length_cons] at h3
  by_cases hk : k = 0
  · subst hk
    exact ⟨c', by omega, by simpa using h4⟩
  · have e : xs = xs.take k ++ xs.drop k := (List.take_append_drop k xs).symm
    have hl : (xs.take k).length = k := by simp; omega
    rcases h5 with h5 | ⟨h5, y, h6⟩
    · refine ⟨1 + k + c', by omega, ?_⟩
      have := Code.lit (xs.take k) _ _ (by omega) (by omega) h4
      rw [hl] at this
      rwa [← e] at this
    · refine ⟨2 + c', by omega, ?_⟩
      rw [List.take_succ_cons, List.replicate_succ] at h6
      injection h6 with _ h7
      have := Code.run y k _ _ (by omega) (by omega) h4
      rw [← h7] at this
      rwa [← e] at this
theorem least {p : Nat → Prop} : ∀ n : Nat, p n → ∃ m, p m ∧ ∀ c, p c → m ≤ c := by
  intro n
  induction n using Nat.strongRecOn with
  | _ n ih =>
    intro h
    by_cases hex : ∃ c, p c ∧ c < n
    · obtain ⟨c, hc, hlt⟩ := hex
      exact ih c hlt hc
    · exact ⟨n, h, fun c hc => Nat.le_of_not_lt fun hlt => hex ⟨c, hc, hlt⟩⟩
theorem MinP.ex (xs : List UInt8) : ∃ m, MinP xs m := least _ (Code.plain xs)
theorem MinP.tail {xs : List UInt8} {m n : Nat} (j : Nat) (h : MinP xs m) (h2 : MinP (xs.drop j) n) : n ≤ m := by
  induction j generalizing xs m with
  | zero =>
    rw [List.drop_zero] at h2
    exact Nat.le_of_eq (h2.uniq h)
  | succ j ih =>
    cases xs with
    | nil => simp at h2; exact Nat.le_of_eq (h2.uniq h)
    | cons x xs =>
      rw [List.drop_succ_cons] at h2
      obtain ⟨c', h3, h4⟩ := h.1.tail
      obtain ⟨q, hq⟩ := MinP.ex xs
      have := ih hq h2
      have := hq.2 _ h4
      omega

/-- How many bytes from the front are equal, m at most. -/
def rep (x : UInt8) : List UInt8 → Nat → Nat
  | _, 0 => 0
  | [], _ => 0
  | y :: ys, m + 1 => if y = x then rep x ys m + 1 else 0
theorem rep_le (x : UInt8) : ∀ (ys : List UInt8) (m : Nat), rep x ys m ≤ m ∧ rep x ys m ≤ ys.length
  | _, 0 => by simp [rep]
  | [], m + 1 => by simp [rep]
  | y :: ys, m + 1 => by
    have := rep_le x ys m
    rw [rep]
    split
    · simp; omega
    · simp
theorem rep_take (x : UInt8) : ∀ (ys : List UInt8) (m : Nat), ys.take (rep x ys m) = List.replicate (rep x ys m) x
  | _, 0 => by simp [rep]
  | [], m + 1 => by simp [rep]
  | y :: ys, m + 1 => by
    rw [rep]
    split
    · rename_i h
      rw [List.take_succ_cons, List.replicate_succ, rep_take x ys m, h]
    · simp
theorem rep_max (x : UInt8) : ∀ (ys : List UInt8) (m k : Nat), k ≤ m → k ≤ ys.length → ys.take k = List.replicate k x → k ≤ rep x ys m
  | ys, m, 0, _, _, _ => Nat.zero_le _
  | [], m, k + 1, _, h, _ => by simp at h
  | y :: ys, 0, k + 1, h, _, _ => by omega
  | y :: ys, m + 1, k + 1, h1, h2, h3 => by
    rw [List.take_succ_cons, List.replicate_succ] at h3
    injection h3 with h4 h5
    have := rep_max x ys m k (by omega) (by simpa using h2) h5
    rw [rep, if_pos h4]
    omega

theorem repeated_loop {F : Nat} (x : UInt8) (a0 : List UInt8) (hx : a0.getD 0 0 = x) (h1 : 1 ≤ a0.length) (hl : a0.length ≤ 100000) : ∀ (m n i : Nat) (ys : List UInt8), m + i = 128 → a0.drop i = ys → i + ys.length = a0.length → m < n → filter_repeated_L0 F a0 n (i : Int) = some ((i + rep x ys m : Nat) : Int)
  | 0, n, i, ys, hm, hd, hy, hn => by
    obtain ⟨n, rfl⟩ : ∃ q, n = q + 1 := ⟨n - 1, by omega⟩
    obtain rfl : i = 128 := by omega
    have hf : (bif decide (((128 : Nat) : Int) < (a0.length : Int)) then decide (((128 : Nat) : Int) < 128) else false) = false := by
      rw [decide_eq_false (p := ((128 : Nat) : Int) < 128) (by decide)]
      cases decide (((128 : Nat) : Int) < (a0.length : Int)) <;> rfl
    rw [filter_repeated_L0, hf, chk_pos (fun h => by cases h), chk_pos (fun h => by cases h), lett_eq]
    cases ys <;> rfl
  | m + 1, n, i, ys, hm, hd, hy, hn => by
    obtain ⟨n, rfl⟩ : ∃ q, n = q + 1 := ⟨n - 1, by omega⟩
    cases ys with
    | nil =>
      have hi : i = a0.length := by simpa using hy
      have hf : (bif decide ((i : Int) < (a0.length : Int)) then decide ((i : Int) < 128) else false) = false := by
        rw [decide_eq_false (p := (i : Int) < (a0.length : Int)) (by omega)]
        rfl
      rw [filter_repeated_L0, hf, chk_pos (fun h => by cases h), chk_pos (fun h => by cases h), lett_eq]
      rfl
    | cons y ys =>
      obtain ⟨h2, h3, h4, h5⟩ := drop_cons hd
      have hf : (bif decide ((i : Int) < (a0.length : Int)) then decide ((i : Int) < 128) else false) = true := by
        rw [decide_eq_true (p := (i : Int) < (a0.length : Int)) (by omega), decide_eq_true (by omega)]
        rfl
      rw [filter_repeated_L0, hf, chk_pos (fun _ => ⟨by omega, by omega⟩), chk_pos (fun _ => ⟨by decide, by omega⟩), lett_eq, nat_toNat, h3]
      rw [show a0.getD (0 : Int).toNat 0 = x from hx, cond_true, rep]
      by_cases hxy : y = x
      · subst hxy
        rw [beq_self_eq_true, if_pos rfl, cond_true, wrap_succ (by omega), repeated_loop y a0 hx h1 hl m n (i + 1) ys (by omega) h4 (by omega) (by omega)]
        congr 2
        omega
      · have : (((y.toNat : Nat) : Int) == ((x.toNat : Nat) : Int)) = false := by
          rw [beq_eq_false_iff_ne]
          intro h
          exact hxy (UInt8.toNat_inj.1 (by omega))
        rw [this, if_neg hxy]
        rfl

theorem repeated_eq {F : Nat} (hF : 128 < F) (x : UInt8) (xs : List UInt8) (hl : (x :: xs).length ≤ 100000) : filter_repeated F (x :: xs) = some ((1 + rep x xs 127 : Nat) : Int) := by
  unfold filter_repeated
  rw [show (1 : Int) = ((1 : Nat) : Int) from rfl, repeated_loop x (x :: xs) rfl (by simp) hl 127 F 1 xs (by decide) rfl (by simp; omega) (by omega), call_some]

/-- The row of numbers, seen at a place. -/
def At (v : List Int) (j m : Nat) : Prop := v[j]? = some (m : Int)
theorem At.getD {v : List Int} {j m : Nat} (h : At v j m) : v.getD j 0 = (m : Int) := by
  rw [List.getD_eq_getElem?_getD, h]
  rfl
theorem At.lt {v : List Int} {j m : Nat} (h : At v j m) : j < v.length := (List.getElem?_eq_some_iff.1 h).1
theorem At.set_ne {v : List Int} {j m i : Nat} {x : Int} (h : At v j m) (hne : i ≠ j) : At (v.set i x) j m := by
  unfold At
  rw [List.getElem?_set_ne hne]
  exact h
theorem At.set_eq {v : List Int} {i m : Nat} (h : i < v.length) : At (v.set i ((m : Nat) : Int)) i m := by
  unfold At
  rw [List.getElem?_set_self h]

/-- What the choice at a place says. -/
def Choice (s : List UInt8) (best : Nat → Nat) (i : Nat) (t : Int) : Prop :=
  (∃ k : Nat, t = (k : Int) ∧ 1 ≤ k ∧ k ≤ 128 ∧ i + k ≤ s.length ∧ best i = 1 + k + best (i + k)) ∨
  (∃ k : Nat, t = -(k : Int) ∧ 2 ≤ k ∧ k ≤ 128 ∧ i + k ≤ s.length ∧ best i = 2 + best (i + k) ∧ (s.drop i).take k = List.replicate k (s.getD i 0))

theorem enc_L2 {F : Nat} (s : List UInt8) (hs : s.length ≤ 2000) (best : Nat → Nat) (hb : ∀ j, j ≤ s.length → best j ≤ 2 * (s.length - j)) (i : Nat) (hi : i < s.length) : ∀ (m k n : Nat) (v2 v3 : List Int) (b : Nat) (t : Int), m + k = 129 → 1 ≤ k → m < n →
    v2.length = s.length + 1 → v3.length = s.length + 1 → (∀ j, i < j → j ≤ s.length → At v2 j (best j)) → At v2 i b → v3[i]? = some t → b ≤ 100000 →
    (∃ k : Nat, t = (k : Int) ∧ 1 ≤ k ∧ k ≤ 128 ∧ i + k ≤ s.length ∧ b = 1 + k + best (i + k)) ∨ (∃ k : Nat, t = -(k : Int) ∧ 2 ≤ k ∧ k ≤ 128 ∧ i + k ≤ s.length ∧ b = 2 + best (i + k) ∧ (s.drop i).take k = List.replicate k (s.getD i 0)) →
    ∃ b' t', filter_runs_encode_L2 F s (i : Int) n v2 v3 (k : Int) = some (v2.set i ((b' : Nat) : Int), v3.set i t') ∧ b' ≤ b ∧ (∀ j, k ≤ j → j ≤ 128 → i + j ≤ s.length → b' ≤ 1 + j + best (i + j)) ∧
      ((∃ k : Nat, t' = (k : Int) ∧ 1 ≤ k ∧ k ≤ 128 ∧ i + k ≤ s.length ∧ b' = 1 + k + best (i + k)) ∨ (∃ k : Nat, t' = -(k : Int) ∧ 2 ≤ k ∧ k ≤ 128 ∧ i + k ≤ s.length ∧ b' = 2 + best (i + k) ∧ (s.drop i).take k = List.replicate k (s.getD i 0)))
  | m, k, n, v2, v3, b, t, hm, hk, hn, hl2, hl3, hbest, hbi, ht, hb0, hch => by
    obtain ⟨n, rfl⟩ : ∃ q, n = q + 1 := ⟨n - 1, by omega⟩
    have hself2 : v2.set i ((b : Nat) : Int) = v2 := by
      apply List.ext_getElem?
      intro j
      by_cases h : i = j
      · subst h; rw [List.getElem?_set_self (by omega)]; exact hbi.symm
      · rw [List.getElem?_set_ne h]
    have hself3 : v3.set i t = v3 := by
      apply List.ext_getElem?
      intro j
      by_cases h : i = j
      · subst h; rw [List.getElem?_set_self (by omega)]; exact ht.symm
      · rw [List.getElem?_set_ne h]
    have hw : IntKind.i64.wrap ((i : Int) + (k : Int)) = ((i + k : Nat) : Int) := by rw [wrap_id (by omega)]; omega
    rw [filter_runs_encode_L2, hw, lett_eq]
    by_cases hstop : k ≤ 128 ∧ i + k ≤ s.length
    · obtain ⟨m, rfl⟩ : ∃ q, m = q + 1 := ⟨m - 1, by omega⟩
      have hbk := hb (i + k) hstop.2
      have hA := hbest (i + k) (by omega) hstop.2
      have hc1 : (bif decide ((k : Int) ≤ 128) then decide (((i + k : Nat) : Int) ≤ (s.length : Int)) else false) = true := by
        rw [decide_eq_true (by omega), decide_eq_true (by omega)]; rfl
      have hz : IntKind.i64.wrap (IntKind.i64.wrap ((1 : Int) + (k : Int)) + v2.getD (i + k) 0) = ((1 + k + best (i + k) : Nat) : Int) := by
        rw [hA.getD, wrap_id (x := (1 : Int) + (k : Int)) (by omega), wrap_id (by omega)]
        omega
      rw [hc1, cond_true, chk_in (by omega), nat_toNat, nat_toNat, hz, lett_eq, chk_in (by omega), hbi.getD]
      by_cases hlt : 1 + k + best (i + k) < b
      · rw [decide_eq_true (by omega), cond_true, chk_in (by omega), chk_in (by omega), call_some, wrap_succ (by omega)]
        obtain ⟨b', t', r1, r2, r3, r4⟩ := enc_L2 (F := F) s hs best hb i hi m (k + 1) n (v2.set i ((1 + k + best (i + k) : Nat) : Int)) (v3.set i (k : Int)) (1 + k + best (i + k)) (k : Int) (by omega) (by omega) (by omega) (by simpa using hl2) (by simpa using hl3) (fun j h1 h2 => (hbest j h1 h2).set_ne (by omega)) (At.set_eq (by omega)) (List.getElem?_set_self (by omega)) (by omega) (.inl ⟨k, rfl, hk, hstop.1, hstop.2, rfl⟩)
        refine ⟨b', t', ?_, by omega, ?_, r4⟩
        · simp only at r1 ⊢
          rw [r1, List.set_set, List.set_set]
        · intro j h1 h2 h3
          by_cases h : j = k
          · subst h; omega
          · exact r3 j (by omega) h2 h3
      · rw [decide_eq_false (by omega), cond_false, call_some, wrap_succ (by omega)]
        obtain ⟨b', t', r1, r2, r3, r4⟩ := enc_L2 (F := F) s hs best hb i hi m (k + 1) n v2 v3 b t (by omega) (by omega) (by omega) hl2 hl3 hbest hbi ht hb0 hch
        refine ⟨b', t', r1, r2, ?_, r4⟩
        intro j h1 h2 h3
        by_cases h : j = k
        · subst h; omega
        · exact r3 j (by omega) h2 h3
    · have hc1 : (bif decide ((k : Int) ≤ 128) then decide (((i + k : Nat) : Int) ≤ (s.length : Int)) else false) = false := by
        by_cases h : k ≤ 128
        · have : ¬ i + k ≤ s.length := fun h' => hstop ⟨h, h'⟩
          rw [decide_eq_true (by omega), decide_eq_false (by omega)]; rfl
        · rw [decide_eq_false (by omega)]; rfl
      refine ⟨b, t, ?_, Nat.le_refl _, ?_, hch⟩
      · rw [hc1, hself2, hself3]
        rfl
      · intro j h1 h2 h3
        exact absurd ⟨by omega, by omega⟩ hstop
  termination_by m => m

theorem best_ex (s : List UInt8) : ∃ best : Nat → Nat, ∀ j, MinP (s.drop j) (best j) := ⟨fun j => Classical.choose (MinP.ex (s.drop j)), fun j => Classical.choose_spec (MinP.ex (s.drop j))⟩
theorem best_le {s : List UInt8} {best : Nat → Nat} (hm : ∀ j, MinP (s.drop j) (best j)) (j : Nat) : best j ≤ 2 * (s.length - j) := by
  have := (hm j).le
  simpa using this

theorem best_of {s : List UInt8} {best : Nat → Nat} (hm : ∀ j, MinP (s.drop j) (best j)) {i n b : Nat} (hi : i < s.length) (hn : n = 1 + rep (s.getD i 0) (s.drop (i + 1)) 127) (h1 : b ≤ 2 + best (i + n)) (h2 : ∀ j, 1 ≤ j → j ≤ 128 → i + j ≤ s.length → b ≤ 1 + j + best (i + j))
    (h3 : (∃ k : Nat, 1 ≤ k ∧ k ≤ 128 ∧ i + k ≤ s.length ∧ b = 1 + k + best (i + k)) ∨ (∃ k : Nat, 2 ≤ k ∧ k ≤ 128 ∧ i + k ≤ s.length ∧ b = 2 + best (i + k) ∧ (s.drop i).take k = List.replicate k (s.getD i 0))) : b = best i := by
  refine MinP.uniq ⟨?_, fun c hc => ?_⟩ (hm i)
  · have sp : ∀ k, s.drop i = (s.drop i).take k ++ s.drop (i + k) := fun k => by rw [← List.drop_drop]; exact (List.take_append_drop k _).symm
    rcases h3 with ⟨k, q1, q2, q3, q4⟩ | ⟨k, q1, q2, q3, q4, q5⟩
    · have hl : ((s.drop i).take k).length = k := by simp; omega
      have := Code.lit ((s.drop i).take k) _ _ (by omega) (by omega) (hm (i + k)).1
      rw [hl, ← sp k] at this
      rw [q4]
      exact this
    · have := Code.run (s.getD i 0) k _ _ (by omega) q2 (hm (i + k)).1
      rw [← q5, ← sp k] at this
      rw [q4]
      exact this
  · have hne : s.drop i ≠ [] := by
      intro h
      have := congrArg List.length h
      simp at this
      omega
    obtain ⟨k, c', q1, q2, q3, q4, q5⟩ := hc.head hne
    have hk : i + k ≤ s.length := by simp at q3; omega
    rw [List.drop_drop] at q4
    have hle := (hm (i + k)).2 _ q4
    rcases q5 with q5 | ⟨q5, x, q6⟩
    · have := h2 k q1 q2 hk
      omega
    · -- a run of k bytes is a part of the longest run
      have hd : s.drop i = s.getD i 0 :: s.drop (i + 1) := by
        rw [List.getD_eq_getElem?_getD, List.getElem?_eq_getElem hi]
        exact List.drop_eq_getElem_cons hi
      have hkn : k ≤ n := by
        obtain ⟨k, rfl⟩ : ∃ j, k = j + 1 := ⟨k - 1, by omega⟩
        rw [hd, List.take_succ_cons, List.replicate_succ] at q6
        injection q6 with q7 q8
        have := rep_max (s.getD i 0) (s.drop (i + 1)) 127 k (by omega) (by simp; omega) (by rw [q8, q7])
        omega
      have hnl : i + n ≤ s.length := by
        have := (rep_le (s.getD i 0) (s.drop (i + 1)) 127).2
        rw [List.length_drop] at this
        omega
      have := MinP.tail (n - k) (hm (i + k)) (n := best (i + n)) (by rw [List.drop_drop, show i + k + (n - k) = i + n by omega]; exact hm (i + n))
      omega
end Go.Vm.FilG
