import Derived.Test.YtknicigahcopjaaPlanF
import Derived.Test.YtknicigahcopjaaVmMath
namespace Go.Vm.GenC3

/-- Page i of a book of c pages. -/
def pg (c : Int) (i : Int) : Int := if i ≤ c then i else 0

theorem add_loop (F : Nat) (a1 a2 c : Int) (hb : 0 ≤ a1 ∧ 0 ≤ a2 ∧ a1 + a2 ≤ 100000) : ∀ (m n : Nat) (l : List Int) (i : Int), 0 ≤ i → i + m = a1 + a2 → m < n → l.length + m ≤ 100000 → f17_L0 F a1 a2 c n l i = some (l ++ up (pg c) i m)
  | 0, 0, _, _, _, _, h, _ => absurd h (Nat.lt_irrefl 0)
  | m + 1, 0, _, _, _, _, h, _ => absurd h (Nat.not_lt_zero _)
  | 0, n + 1, l, i, h0, hi, _, _ => by
    rw [f17_L0, wrap_id (x := a1 + a2) (by omega)]
    have : decide (i < a1 + a2) = false := by simp; omega
    simp [this, up]
  | m + 1, n + 1, l, i, h0, hi, hn, hl => by
    rw [f17_L0, wrap_id (x := a1 + a2) (by omega)]
    have h1 : decide (i < a1 + a2) = true := by simp; omega
    rw [h1, wrap_id (x := i + 1) (by omega)]
    have hr := fun v => add_loop F a1 a2 c hb m n (l ++ [v]) (i + 1) (by omega) (by omega) (by omega) (by simp; omega)
    by_cases hc : i ≤ c
    · rw [decide_eq_true hc]
      simp only [cond_true, chk_pos (show l.length + [i].length ≤ 4294967296 by simp; omega), call_some]
      rw [hr]
      simp [up, pg, hc]
    · rw [decide_eq_false hc]
      simp only [cond_true, cond_false, chk_pos (show l.length + [(0 : Int)].length ≤ 4294967296 by simp; omega), call_some]
      rw [hr]
      simp [up, pg, hc]

theorem add_eq (F : Nat) (l : List Int) (a1 a2 c : Int) (m : Nat) (hm : a2 = m) (hb : 0 ≤ a1 ∧ a1 + a2 ≤ 100000) (hl : l.length + m ≤ 100000) (hF : m < F) : f17 F l a1 a2 c = some (l ++ up (pg c) a1 m, c) := by
  rw [f17, add_loop F a1 a2 c (by omega) m F l a1 hb.1 (by omega) hF hl]
  rfl

def sec (p n style many k : Int) : List Int :=
  if style = 0 then up (pg p) (k * n + 1) n.toNat
  else up (pg p) (k * (n.tdiv 2) + 1) (n.tdiv 2).toNat ++ up (pg p) (many * n - (k + 1) * (n.tdiv 2) + 1) (n.tdiv 2).toNat

theorem mul_bd {a b : Int} {m n : Int} (ha : 0 ≤ a ∧ a ≤ m) (hb : 0 ≤ b ∧ b ≤ n) : 0 ≤ a * b ∧ a * b ≤ m * n :=
  ⟨Int.mul_nonneg ha.1 hb.1, Int.mul_le_mul ha.2 hb.2 hb.1 (by omega)⟩

theorem plan_loop (F : Nat) (p n s many : Int) (hp : 1 ≤ p ∧ p ≤ 512) (hn : 2 ≤ n ∧ n ≤ 64) (hM : IntKind.i64.wrap ((IntKind.i64.wrap ((IntKind.i64.wrap (p + n)) - (1 : Int))).tdiv n) = many) (hm : 0 ≤ many ∧ many ≤ 64) (hF : 100 ≤ F) :
    ∀ (m fuel : Nat) (out : List (List Int)) (k : Int), 0 ≤ k → k + m = many → m < fuel → out.length + m ≤ 1000 → f7_L1 F p n s fuel p out k = some (out ++ up (sec p n s many) k m)
  | _, 0, _, _, _, _, h, _ => absurd h (Nat.not_lt_zero _)
  | 0, fuel + 1, out, k, h0, hk, _, _ => by
    rw [f7_L1, lett_eq, hM]
    have : decide (k < many) = false := by simp; omega
    simp [this, up]
  | m + 1, fuel + 1, out, k, h0, hk, hf, hl => by
    rw [f7_L1, lett_eq, hM]
    have h1 : decide (k < many) = true := by simp; omega
    have hd : n.tdiv 2 = n / 2 := Int.tdiv_eq_ediv_of_nonneg (by omega)
    have hkn := mul_bd (a := k) (b := n) (m := 64) (n := 64) (by omega) (by omega)
    have hmn := mul_bd (a := many) (b := n) (m := 64) (n := 64) (by omega) (by omega)
    have hkh := mul_bd (a := k) (b := n.tdiv 2) (m := 64) (n := 32) (by omega) (by omega)
    have hkh1 := mul_bd (a := k + 1) (b := n.tdiv 2) (m := many) (n := n) (by omega) (by omega)
    have hr := fun v => plan_loop F p n s many hp hn hM hm hF m fuel (out ++ [v]) (k + 1) (by omega) (by omega) (by omega) (by simp; omega)
    rw [h1]
    simp only [cond_true, wrap_id (x := k * n) (by omega), wrap_id (x := k * n + 1) (by omega), wrap_id (x := n.tdiv 2) (by omega), wrap_id (x := k * n.tdiv 2) (by omega), wrap_id (x := k * n.tdiv 2 + 1) (by omega), wrap_id (x := k + 1) (by omega), wrap_id (x := (k + 1) * n.tdiv 2) (by omega), wrap_id (x := many * n) (by omega)]
    by_cases hs : s = 0
    · have hs' : (s == (0 : Int)) = true := by simp [hs]
      rw [hs', cond_true, add_eq F [] (k * n + 1) n p n.toNat (by omega) (by omega) (by simp; omega) (by omega)]
      simp only [call_some, chk_pos (show out.length + [[] ++ up (pg p) (k * n + 1) n.toNat].length ≤ 4294967296 by simp; omega)]
      rw [hr]
      simp [up, sec, hs]
    · have hs' : (s == (0 : Int)) = false := by simp [hs]
      rw [hs', cond_false, add_eq F [] (k * n.tdiv 2 + 1) (n.tdiv 2) p (n.tdiv 2).toNat (by omega) (by omega) (by simp; omega) (by omega)]
      simp only [call_some, lett_eq, List.nil_append]
      rw [wrap_id (x := many * n - (k + 1) * n.tdiv 2) (by omega), wrap_id (x := many * n - (k + 1) * n.tdiv 2 + 1) (by omega), add_eq F (up (pg p) (k * n.tdiv 2 + 1) (n.tdiv 2).toNat) (many * n - (k + 1) * n.tdiv 2 + 1) (n.tdiv 2) p (n.tdiv 2).toNat (by omega) (by omega) (by rw [up_length]; omega) (by omega)]
      simp only [call_some]
      rw [chk_pos (by simp; omega), call_some]
      simp only
      rw [hr]
      simp [up, sec, hs]
end Go.Vm.GenC3
