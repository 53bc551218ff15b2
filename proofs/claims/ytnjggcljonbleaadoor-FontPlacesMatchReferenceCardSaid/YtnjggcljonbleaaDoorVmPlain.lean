/-
  PLAIN: loops over lists, and other words for the plain laws.
-/
import Derived.Test.YtnjggcljonbleaaDoorVmMath
namespace Go.Vm

theorem chk_neg {α : Type} {p : Prop} [Decidable p] {k : Option α} (h : ¬ p) : chk p k = none := if_neg h
theorem or_cond (a b : Bool) : (bif a then true else b) = (a || b) := by cases a <;> rfl
theorem and_cond (a b : Bool) : (bif a then b else false) = (a && b) := by cases a <;> rfl

/-- A walk along a list: what each element comes to, with its place; it may leave. -/
def runT {σ ρ α : Type} (f : Nat → α → σ → σ ⊕ ρ) (fin : σ → ρ) : Nat → List α → σ → ρ
  | _, [], s => fin s
  | i, x :: xs, s => match f i x s with
    | .inl s' => runT f fin (i + 1) xs s'
    | .inr r => r

theorem range_tot {σ ρ α : Type} (l : List α) (L : Nat → σ → Int → Option ρ) (f : Nat → α → σ → σ ⊕ ρ) (fin : σ → ρ) (Inv : Nat → σ → Prop)
    (h1 : ∀ n s (i : Nat) x, l[i]? = some x → Inv i s → (L (n + 1) s i = match f i x s with | .inl s' => L n s' ((i + 1 : Nat) : Int) | .inr r => some r) ∧ ∀ s', f i x s = .inl s' → Inv (i + 1) s')
    (h2 : ∀ n s, Inv l.length s → L (n + 1) s (l.length : Int) = some (fin s)) (n : Nat) (hn : l.length < n) (s : σ) (h0 : Inv 0 s) : L n s 0 = some (runT f fin 0 l s) := by
  have key : ∀ (xs : List α) (i n : Nat) (s : σ), (∀ j x, xs[j]? = some x → l[i + j]? = some x) → i + xs.length = l.length → xs.length < n → Inv i s → L n s (i : Int) = some (runT f fin i xs s) := by
    intro xs
    induction xs with
    | nil =>
      intro i n s _ hl hn hi
      obtain ⟨n, rfl⟩ : ∃ k, n = k + 1 := ⟨n - 1, by omega⟩
      have : i = l.length := by simpa using hl
      subst this
      exact h2 n s hi
    | cons x xs ih =>
      intro i n s hx hl hn hi
      obtain ⟨n, rfl⟩ : ∃ k, n = k + 1 := ⟨n - 1, by omega⟩
      obtain ⟨e1, e2⟩ := h1 n s i x (by simpa using hx 0 x rfl) hi
      rw [e1, runT]
      cases hf : f i x s with
      | inr r => rfl
      | inl s' =>
        simp only [List.length_cons] at hl hn
        exact ih (i + 1) n s' (fun j y hy => by have := hx (j + 1) y (by simpa using hy); rwa [show i + 1 + j = i + (j + 1) by omega]) (by omega) (by omega) (e2 s' hf)
  exact key l 0 n s (fun j x h => by simpa using h) (by simp) (by omega) h0

/-- The same, where nothing leaves. -/
theorem range_fold {σ α : Type} (l : List α) (L : Nat → σ → Int → Option σ) (f : σ → α → σ) (Inv : Nat → σ → Prop)
    (h1 : ∀ n s (i : Nat) x, l[i]? = some x → Inv i s → L (n + 1) s i = L n (f s x) ((i + 1 : Nat) : Int) ∧ Inv (i + 1) (f s x))
    (h2 : ∀ n s, Inv l.length s → L (n + 1) s (l.length : Int) = some s) (n : Nat) (hn : l.length < n) (s : σ) (h0 : Inv 0 s) : L n s 0 = some (l.foldl f s) := by
  have := range_tot l L (fun _ x s => .inl (f s x)) (fun s => s) Inv (fun n s i x hx hi => ⟨(h1 n s i x hx hi).1, fun s' h => by cases h; exact (h1 n s i x hx hi).2⟩) h2 n hn s h0
  rw [this]
  congr 1
  have key : ∀ (l : List α) (i : Nat) (s : σ), runT (fun _ x s => Sum.inl (β := σ) (f s x)) (fun s => s) i l s = l.foldl f s := by
    intro l
    induction l with
    | nil => intro i s; rfl
    | cons x l ih => intro i s; rw [runT]; exact ih (i + 1) (f s x)
  exact key l 0 s

/-- What a walk along a list leaves with, if it leaves. -/
theorem runT_congr {σ ρ α : Type} {f g : Nat → α → σ → σ ⊕ ρ} {fin fin' : σ → ρ} (hf : ∀ i x s, f i x s = g i x s) (hfin : ∀ s, fin s = fin' s) : ∀ (l : List α) (i : Nat) (s : σ), runT f fin i l s = runT g fin' i l s
  | [], _, s => hfin s
  | x :: l, i, s => by
    rw [runT, runT, hf]
    split
    · exact runT_congr hf hfin l _ _
    · rfl

/-- A loop that always goes on, by an invariant. -/
theorem range_ex {σ α : Type} (l : List α) (L : Nat → σ → Int → Option σ) (Inv : Nat → σ → Prop)
    (h1 : ∀ n s (i : Nat) x, l[i]? = some x → Inv i s → ∃ s', L (n + 1) s i = L n s' ((i + 1 : Nat) : Int) ∧ Inv (i + 1) s')
    (h2 : ∀ n s, Inv l.length s → L (n + 1) s (l.length : Int) = some s) (n : Nat) (hn : l.length < n) (s : σ) (h0 : Inv 0 s) : ∃ s', L n s 0 = some s' ∧ Inv l.length s' := by
  have key : ∀ (j i n : Nat) (s : σ), i + j = l.length → j < n → Inv i s → ∃ s', L n s (i : Int) = some s' ∧ Inv l.length s' := by
    intro j
    induction j with
    | zero =>
      intro i n s hl hn hi
      obtain ⟨n, rfl⟩ : ∃ k, n = k + 1 := ⟨n - 1, by omega⟩
      obtain rfl : i = l.length := by omega
      exact ⟨s, h2 n s hi, hi⟩
    | succ j ih =>
      intro i n s hl hn hi
      obtain ⟨n, rfl⟩ : ∃ k, n = k + 1 := ⟨n - 1, by omega⟩
      obtain ⟨s', e, hs⟩ := h1 n s i l[i] (List.getElem?_eq_getElem (by omega)) hi
      rw [e]
      exact ih (i + 1) n s' (by omega) (by omega) hs
  exact key l.length 0 n s (by omega) hn h0

theorem take_sum {α : Type} (f : α → Nat) (l : List α) (i : Nat) (x : α) (h : l[i]? = some x) : ((l.take (i + 1)).map f).sum = ((l.take i).map f).sum + f x := by
  rw [List.take_add_one, h, List.map_append, List.sum_append]
  simp

theorem getD_of {α : Type} {l : List α} {i : Nat} {x d : α} (h : l[i]? = some x) : l.getD i d = x := by
  rw [List.getD_eq_getElem?_getD, h]
  rfl
theorem lt_of_get {α : Type} {l : List α} {i : Nat} {x : α} (h : l[i]? = some x) : i < l.length := (List.getElem?_eq_some_iff.1 h).1
theorem wrap_succ {i : Nat} (h : i < 9223372036854775807) : IntKind.i64.wrap ((i : Int) + 1) = ((i + 1 : Nat) : Int) := by
  rw [wrap_id (by omega)]
  rfl
theorem wrap_pred {i : Nat} (h : 0 < i) (h2 : i < 9223372036854775807) : IntKind.i64.wrap ((i : Int) - 1) = ((i - 1 : Nat) : Int) := by
  rw [wrap_id (by omega)]
  omega
theorem dec_lt {i n : Nat} {inst : Decidable ((i : Int) < (n : Int))} (h : i < n) : @decide _ inst = true := by simpa using h
theorem dec_end {n : Nat} {inst : Decidable ((n : Int) < (n : Int))} : @decide _ inst = false := by simp
theorem chk_in {α : Type} {i n : Nat} (h : i < n) {k : Option α} : chk (0 ≤ (i : Int) ∧ (i : Int) < (n : Int)) k = k := chk_pos ⟨by omega, by exact_mod_cast h⟩
end Go.Vm
