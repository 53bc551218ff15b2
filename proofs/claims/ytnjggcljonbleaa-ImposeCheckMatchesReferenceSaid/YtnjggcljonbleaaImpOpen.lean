/-
  The arguments of the laws on folds, opened.
-/
import Derived.Test.YtnjggcljonbleaaVmOpen
import Derived.Test.YtnjggcljonbleaaImpF
import Derived.Test.YtnjggcljonbleaaRows
namespace Go.Proofs.Ytnjggcljonbleaa
open Go.ChangeShapes Go.WideShapes Go.ChangeAt Go.RowKit Go.Vm Go.Vm.FoldG
theorem own : ownKnob Try.prog.godebug = none := by kernel_rfl

def QScheme (x : S23) : Prop := x.f2.length ≤ maxLen

theorem opens_step : Opens Try.prog 69 cS68 (fun _ => True) :=
  (opens_struct (t := 69) (N := 3) Try.underlying69 (by kernel_rfl) (opensN_cons (sz := 1) rfl (by kernel_rfl) (by decide) (opens_int (k := .i64) (by kernel_rfl)) (opensN_cons (sz := 1) rfl (by kernel_rfl) (by decide) (opens_int (k := .i64) (by kernel_rfl)) (opensN_cons (sz := 1) rfl (by kernel_rfl) (by decide) (opens_bool (by kernel_rfl)) (opensN_nil _ _))))).map
    (fun x => (⟨x.1, x.2.1, x.2.2.1⟩ : S68)) (fun x => by simp [cS68]) (fun _ _ => trivial)

theorem opens_scheme : Opens Try.prog 24 cS23 QScheme :=
  (opens_struct (t := 24) (N := 3) Try.underlying24 (by kernel_rfl) (opensN_cons (sz := 1) rfl (by kernel_rfl) (by decide) (opens_int (k := .i64) (by kernel_rfl)) (opensN_cons (sz := 1) rfl (by kernel_rfl) (by decide) (opens_int (k := .i64) (by kernel_rfl)) (opensN_cons (sz := 1) rfl (by kernel_rfl) (by decide) (opens_slice (t := 22) (e := 69) Try.underlying22 (by kernel_rfl) (Nat.succ_pos 2) opens_step) (opensN_nil _ _))))).map
    (fun x => (⟨x.1, x.2.1, x.2.2.1⟩ : S23)) (fun x => by simp [cS23]) (fun x h => h.2.2.1.1)

theorem opens_one : OpensArgs Try.prog [24] (fun z : S23 × Unit => [.agg (cS23 z.1)]) (fun z => QScheme z.1 ∧ True) :=
  opensArgs_agg Try.underlying24 opens_scheme (opensArgs_nil _)
theorem opens_four : OpensArgs Try.prog [24, 3, 3, 3] (fun z : S23 × Int × Int × Int × Unit => [.agg (cS23 z.1), .d (.v (.int .i64 z.2.1)), .d (.v (.int .i64 z.2.2.1)), .d (.v (.int .i64 z.2.2.2.1))]) (fun z => QScheme z.1 ∧ (Lit.int .i64 z.2.1).wf = true ∧ (Lit.int .i64 z.2.2.1).wf = true ∧ (Lit.int .i64 z.2.2.2.1).wf = true ∧ True) :=
  opensArgs_agg Try.underlying24 opens_scheme
    (opensArgs_flat (α := Int) (t := 3) (x := fun a => .v (.int .i64 a)) (by kernel_rfl) (fun _ => rfl) (opens_int (by kernel_rfl))
      (opensArgs_flat (α := Int) (t := 3) (x := fun a => .v (.int .i64 a)) (by kernel_rfl) (fun _ => rfl) (opens_int (by kernel_rfl))
        (opensArgs_flat (α := Int) (t := 3) (x := fun a => .v (.int .i64 a)) (by kernel_rfl) (fun _ => rfl) (opens_int (by kernel_rfl)) (opensArgs_nil _))))

end Go.Proofs.Ytnjggcljonbleaa
