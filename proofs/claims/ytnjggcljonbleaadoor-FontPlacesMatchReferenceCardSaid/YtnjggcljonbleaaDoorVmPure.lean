/-
  THE V-MACHINE, part 3: operations on plain data.
-/
import Derived.Test.YtnjggcljonbleaaDoorVmMem
import Derived.Lib.Strings
namespace Go.Vm

def shiftOp : BinOp → Bool
  | .shl | .shr => true
  | _ => false

/-- x op y on integers of one kind. -/
def intD (op : BinOp) (k : IntKind) (a b : Int) : Option (Dat × Prop) :=
  match op with
  | .add => some (.v (.int k (k.wrap (a + b))), True)
  | .sub => some (.v (.int k (k.wrap (a - b))), True)
  | .mul => some (.v (.int k (k.wrap (a * b))), True)
  | .quo => some (.v (.int k (k.wrap (a.tdiv b))), b ≠ 0)
  | .rem => some (.v (.int k (a.tmod b)), b ≠ 0)
  | .and => some (.v (.int k (k.wrap (BitVec.ofInt k.bits a &&& BitVec.ofInt k.bits b).toNat)), True)
  | .or => some (.v (.int k (k.wrap (BitVec.ofInt k.bits a ||| BitVec.ofInt k.bits b).toNat)), True)
  | .xor => some (.v (.int k (k.wrap (BitVec.ofInt k.bits a ^^^ BitVec.ofInt k.bits b).toNat)), True)
  | .andNot => some (.v (.int k (k.wrap (BitVec.ofInt k.bits a &&& ~~~ BitVec.ofInt k.bits b).toNat)), True)
  | .eql => some (.v (.bool (a == b)), True)
  | .neq => some (.v (.bool (a != b)), True)
  | .lss => some (.v (.bool (decide (a < b))), True)
  | .leq => some (.v (.bool (decide (a ≤ b))), True)
  | .gtr => some (.v (.bool (decide (b < a))), True)
  | .geq => some (.v (.bool (decide (b ≤ a))), True)
  | _ => none

def strD (op : BinOp) (a b : List UInt8) : Option (Dat × Prop) :=
  match op with
  | .add => some (.str (a ++ b), a.length + b.length ≤ 9223372036854775807)
  | .eql => some (.v (.bool (a == b)), True)
  | .neq => some (.v (.bool (!(a == b))), True)
  | .lss => some (.v (.bool (Op.bytesLess a b)), True)
  | .leq => some (.v (.bool (Op.bytesLess a b || a == b)), True)
  | .gtr => some (.v (.bool (!(Op.bytesLess a b || a == b))), True)
  | .geq => some (.v (.bool (!(Op.bytesLess a b))), True)
  | _ => none

def binD (op : BinOp) : Dat → Dat → Option (Dat × Prop)
  | .v (.int k a), .v (.int k' b) =>
    match op with
    | .shl => some (.v (.int k (k.wrap (a * 2 ^ (min b.toNat k.bits)))), 0 ≤ b)
    | .shr => some (.v (.int k (a.fdiv (2 ^ (min b.toNat k.bits)))), 0 ≤ b)
    | _ => if k = k' then intD op k a b else none
  | .str a, .str b => strD op a b
  | _, _ => none

/-- == and != at the type bool. -/
def boolD (op : BinOp) : Dat → Dat → Option Dat
  | .v (.bool a), .v (.bool b) =>
    match op with
    | .eql => some (.v (.bool (a == b)))
    | .neq => some (.v (.bool (!(a == b))))
    | _ => none
  | _, _ => none

theorem eqGuard_data (op : BinOp) (t : TypeId) (x y : Operand) (u v : Value) (h : (∃ k n, u = .int k n) ∨ (∃ s, u = .string s) ∨ ∃ b, u = .bool b) : eqGuard op t x y u v = pure () := by
  rcases h with ⟨k, n, rfl⟩ | ⟨s, rfl⟩ | ⟨b, rfl⟩
  · exact eqGuard_at_int op t x y v k n
  · exact eqGuard_at_string op t x y v s
  · exact eqGuard_at_bool op t x y v b

theorem RD_v {S : Nat → Prop} {w : World} {x u : Value} : RD S w (.v x) u ↔ u = x ∧ x.oneCell' = true := by simp [RD]
theorem RD_str {S : Nat → Prop} {w : World} {l : List UInt8} {u : Value} : RD S w (.str l) u ↔ u = strOf l := by simp [RD]

theorem intD_run (P : Program) {S : Nat → Prop} (w : World) (op : BinOp) (t : TypeId) (k : IntKind) (a b : Int) (z : Dat) (obl : Prop) (hs : shiftOp op = false) (h : intD op k a b = some (z, obl)) (ho : obl) :
    ∃ r, (binOp op t (.int k a) (.int k b)).run P w = .ok r w ∧ RD S w z r := by
  cases op <;> simp only [intD, shiftOp, Option.some.injEq, Prod.mk.injEq, reduceCtorEq] at h hs <;> try (exact h.elim)
  all_goals (
    obtain ⟨rfl, rfl⟩ := h
    refine ⟨_, ?_, RD_v.2 ⟨rfl, rfl⟩⟩
    first
      | (simp only [binOp, Op.intArith, ne_eq, not_true_eq_false, if_false, Sem.run_pure]; done)
      | (simp only [binOp, Op.intDiv, if_neg ho, ne_eq, not_true_eq_false, if_false, Sem.run_pure]; done)
      | (simp only [binOp, Op.intBits, ne_eq, not_true_eq_false, if_false, Sem.run_pure]; done)
      | (simp only [binOp, Op.intCmp, ne_eq, not_true_eq_false, if_false, Sem.run_pure, gt_iff_lt, ge_iff_le]; done))

theorem strD_run (P : Program) {S : Nat → Prop} (w : World) (op : BinOp) (t : TypeId) (a b : List UInt8) (z : Dat) (obl : Prop) (h : strD op a b = some (z, obl)) (ho : obl) :
    ∃ r, (binOp op t (strOf a) (strOf b)).run P w = .ok r w ∧ RD S w z r := by
  cases op <;> simp only [strD, Option.some.injEq, Prod.mk.injEq, reduceCtorEq] at h <;> try (exact h.elim)
  case add =>
    obtain ⟨rfl, rfl⟩ := h
    refine ⟨strOf (a ++ b), ?_, by simp [RD]⟩
    have h1 : ¬ (IntKind.i64.max < (((⟨a.toArray⟩ : ByteArray).size + (⟨b.toArray⟩ : ByteArray).size : Nat) : Int)) := by
      rw [IntKind.max_i64]
      simp only [ByteArray.size, List.size_toArray]
      omega
    have h2 : (⟨a.toArray⟩ : ByteArray) ++ ⟨b.toArray⟩ = ⟨(a ++ b).toArray⟩ := by
      apply ByteArray.ext
      simp [ByteArray.data_append]
    simp only [strOf, binOp, Op.stringOp, gt_iff_lt, h1, if_false, h2]
    rfl
  all_goals (
    obtain ⟨rfl, rfl⟩ := h
    refine ⟨_, ?_, RD_v.2 ⟨rfl, rfl⟩⟩
    simp [binOp, Op.stringOp, strOf])

theorem binD_run (P : Program) {S : Nat → Prop} (w : World) (op : BinOp) (t : TypeId) (X Y : Operand) (x y z : Dat) (obl : Prop) (h : binD op x y = some (z, obl)) (ho : obl) (u v : Value) (hu : RD S w x u) (hv : RD S w y v) :
    ∃ r, (do eqGuard op t X Y u v; binOp op t u v : Sem Value).run P w = .ok r w ∧ RD S w z r := by
  cases x <;> try (simp [binD] at h; done)
  case v x =>
    cases x <;> try (simp [binD] at h; done)
    rename_i k a
    cases y <;> try (simp [binD] at h; done)
    rename_i y
    cases y <;> try (simp [binD] at h; done)
    rename_i k' b
    replace hu := (RD_v.1 hu).1
    replace hv := (RD_v.1 hv).1
    subst hu hv
    rw [eqGuard_at_int]
    simp only [Sem.run_bind, Sem.run_pure, Result.andThen_ok]
    by_cases hsh : shiftOp op = true
    · cases op <;> simp only [shiftOp, Bool.false_eq_true] at hsh
      all_goals (
        simp only [binD, Option.some.injEq, Prod.mk.injEq] at h
        obtain ⟨rfl, rfl⟩ := h
        refine ⟨_, ?_, RD_v.2 ⟨rfl, rfl⟩⟩
        simp [binOp, Op.shift, Int.not_lt.2 ho])
    · have hsh' : shiftOp op = false := by simpa using hsh
      have h' : k = k' ∧ intD op k a b = some (z, obl) := by
        cases op <;> simp only [shiftOp, Bool.true_eq_false] at hsh' <;> (
          simp only [binD] at h
          split at h
          · exact ⟨by assumption, h⟩
          · cases h)
      obtain ⟨rfl, h'⟩ := h'
      exact intD_run P w op t k a b z obl hsh' h' ho
  case str a =>
    cases y <;> try (simp [binD] at h; done)
    rename_i b
    rw [RD_str] at hu hv
    subst hu hv
    simp only [strOf, eqGuard_at_string, Sem.run_bind, Sem.run_pure, Result.andThen_ok]
    exact strD_run P w op t a b z obl h ho

theorem run_equalIn_bool (P : Program) (w : World) (d : Nat) (t : TypeId) (a b : Bool) (ht : P.underlying t = some .bool) : (Op.equalIn (d + 1) t (.bool a) (.bool b)).run P w = .ok (a == b) w := by
  simp [Op.equalIn, run_underlying ht]

theorem boolD_run (P : Program) {S : Nat → Prop} (w : World) (op : BinOp) (t : TypeId) (X Y : Operand) (x y z : Dat) (ht : P.underlying t = some .bool) (h : boolD op x y = some z) (u v : Value) (hu : RD S w x u) (hv : RD S w y v) :
    ∃ r, (do eqGuard op t X Y u v; binOp op t u v : Sem Value).run P w = .ok r w ∧ RD S w z r := by
  cases x <;> try (simp [boolD] at h; done)
  rename_i x
  cases x <;> try (simp [boolD] at h; done)
  rename_i a
  cases y <;> try (simp [boolD] at h; done)
  rename_i y
  cases y <;> try (simp [boolD] at h; done)
  rename_i b
  replace hu := (RD_v.1 hu).1
  replace hv := (RD_v.1 hv).1
  subst hu hv
  rw [eqGuard_at_bool]
  have he : (Op.equal t (.bool a) (.bool b)).run P w = .ok (a == b) w := by
    exact run_equalIn_bool P w 9999 t a b ht
  cases op <;> simp only [boolD, Option.some.injEq, reduceCtorEq] at h
  all_goals (
    subst h
    refine ⟨_, ?_, RD_v.2 ⟨rfl, rfl⟩⟩
    simp [binOp, he])

def unD (op : UnOp) : Dat → Option Dat
  | .v (.int k n) =>
    match op with
    | .neg => some (.v (.int k (k.wrap (0 - n))))
    | .xor => some (.v (.int k (k.wrap (BitVec.ofInt k.bits (if k.signed then -1 else k.max) ^^^ BitVec.ofInt k.bits n).toNat)))
    | _ => none
  | .v (.bool b) =>
    match op with
    | .not => some (.v (.bool (!b)))
    | _ => none
  | _ => none

theorem unD_run (P : Program) {S : Nat → Prop} (w : World) (op : UnOp) (x z : Dat) (h : unD op x = some z) (u : Value) (hu : RD S w x u) :
    ∃ r, (Op.unary op u).run P w = .ok r w ∧ RD S w z r := by
  cases x <;> try (simp [unD] at h; done)
  rename_i x
  cases x <;> try (simp [unD] at h; done)
  all_goals (
    replace hu := (RD_v.1 hu).1
    subst hu
    cases op <;> simp only [unD, Option.some.injEq, reduceCtorEq] at h
    all_goals (
      subst h
      refine ⟨_, ?_, RD_v.2 ⟨rfl, rfl⟩⟩
      first
        | (simp only [Op.unary, Op.intArith, Sem.run_pure]; done)
        | (simp only [Op.unary, Op.intBits, Sem.run_pure]; done)
        | (simp only [Op.unary, Sem.run_pure]; done)))

/-- A plain choice between two plain values. -/
def pickD (b : Bool) : Dat → Dat → Option Dat
  | .v (.bool p), .v (.bool q) => some (.v (.bool (bif b then p else q)))
  | .v (.int k m), .v (.int k' n) => if k = k' then some (.v (.int k (bif b then m else n))) else none
  | .str l, .str m => some (.str (bif b then l else m))
  | _, _ => none

theorem pickD_true {S : Nat → Prop} {w : World} {x y z : Dat} {u : Value} (h : pickD true x y = some z) (hu : RD S w x u) : RD S w z u := by
  unfold pickD at h
  split at h
  · simp at h; subst h; simpa [RD] using hu
  · split at h
    · simp at h; subst h; simpa [RD] using hu
    · cases h
  · simp at h; subst h; simpa [RD] using hu
  · cases h
theorem pickD_false {S : Nat → Prop} {w : World} {x y z : Dat} {u : Value} (h : pickD false x y = some z) (hu : RD S w y u) : RD S w z u := by
  unfold pickD at h
  split at h
  · simp at h; subst h; simpa [RD] using hu
  · split at h
    · rename_i hk
      simp at h; subst h; subst hk; simpa [RD] using hu
    · cases h
  · simp at h; subst h; simpa [RD] using hu
  · cases h

end Go.Vm
