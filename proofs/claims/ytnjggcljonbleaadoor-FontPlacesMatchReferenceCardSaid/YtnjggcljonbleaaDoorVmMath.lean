/-
  PLAIN: words for the plain laws.
-/
import Derived.Test.YtnjggcljonbleaaDoorVmLib
namespace Go.Vm

theorem wrap_id {x : Int} (h : -9223372036854775808 ≤ x ∧ x ≤ 9223372036854775807) : IntKind.i64.wrap x = x := by
  unfold IntKind.wrap
  simp [IntKind.bits, IntKind.signed]
  omega

/-- f at i, i + 1, .. : m values. -/
def up {α : Type} (f : Int → α) : Int → Nat → List α
  | _, 0 => []
  | i, m + 1 => f i :: up f (i + 1) m

theorem up_length {α : Type} (f : Int → α) : ∀ (m : Nat) (i : Int), (up f i m).length = m
  | 0, _ => rfl
  | m + 1, i => by simp [up, up_length f m]

theorem up_getD {α : Type} (f : Int → α) (d : α) : ∀ (m : Nat) (i : Int) (j : Nat), j < m → (up f i m).getD j d = f (i + j)
  | 0, _, _, h => absurd h (Nat.not_lt_zero _)
  | m + 1, i, 0, _ => by simp [up]
  | m + 1, i, j + 1, h => by
    have := up_getD f d m (i + 1) j (by omega)
    simp only [up, List.getD_cons_succ, this]
    congr 1
    omega

theorem up_append {α : Type} (f : Int → α) : ∀ (m k : Nat) (i j : Int), j = i + m → up f i m ++ up f j k = up f i (m + k)
  | 0, k, i, j, h => by
    have : j = i := by omega
    subst this
    simp [up]
  | m + 1, k, i, j, h => by
    rw [show m + 1 + k = (m + k) + 1 from by omega]
    simp only [up, List.cons_append]
    rw [up_append f m k (i + 1) j (by omega)]

theorem up_take {α : Type} (f : Int → α) (m k : Nat) (i : Int) : (up f i (m + k)).take m = up f i m := by
  rw [← up_append f m k i (i + m) rfl, List.take_append_of_le_length (by rw [up_length]; omega), List.take_of_length_le (by rw [up_length]; omega)]
theorem up_drop {α : Type} (f : Int → α) (m k : Nat) (i : Int) : (up f i (m + k)).drop m = up f (i + m) k := by
  rw [← up_append f m k i (i + m) rfl, List.drop_append_of_le_length (by rw [up_length]; omega), List.drop_of_length_le (by rw [up_length]; omega)]
  rfl

theorem chk_pos {α : Type} {p : Prop} [Decidable p] {k : Option α} (h : p) : chk p k = k := if_pos h
theorem call_some {α γ : Type} {x : α} {k : α → Option γ} : call (some x) k = k x := rfl
theorem lett_eq {α γ : Type} {x : α} {k : α → Option γ} : lett x k = k x := rfl
theorem callE_go {σ ε γ : Type} {x : σ} {kr : ε → Option γ} {k : σ → Option γ} : callE (some (.go x)) kr k = k x := rfl
theorem callE_esc' {σ ε γ : Type} {x : ε} {kr : ε → Option γ} {k : σ → Option γ} : callE (some (.esc x)) kr k = kr x := rfl
end Go.Vm
