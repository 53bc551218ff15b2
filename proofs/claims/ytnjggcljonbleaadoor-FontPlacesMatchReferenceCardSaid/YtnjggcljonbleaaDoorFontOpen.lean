/-
  FONT: what a reading of a font says; the package variable that the checksum reads.
-/
import Derived.Test.YtnjggcljonbleaaDoorVmGlob
import Derived.Test.YtnjggcljonbleaaDoorFontGP3
import Derived.Test.YtnjggcljonbleaaDoorRows
import Derived.Stop.Joined
namespace Go.Proofs.YtnjggcljonbleaaDoor
open Go.ChangeShapes Go.WideShapes Go.ChangeAt Go.WideMaps Go.WideElems Go.RowKit Go.Vm Go.Vm.FontG

theorem own : ownKnob Tryd.prog.godebug = none := by kernel_rfl

theorem opens_int3 : Opens Tryd.prog 3 (cI .i64) (fun _ => True) := by
  intro H en W n cs x h
  obtain ⟨a, _, h2, h3⟩ := opens_int (P := Tryd.prog) (t := 3) (k := .i64) (by kernel_rfl) H en W n cs x h
  exact ⟨a, trivial, h2, h3⟩

theorem opens_point : Opens Tryd.prog 69 cS_FontPoint (fun _ => True) :=
  (opens_struct (t := 69) (N := 3) Tryd.underlying69 (by kernel_rfl)
    (opensN_cons (sz := 1) rfl (by kernel_rfl) (by decide) opens_int3
    (opensN_cons (sz := 1) rfl (by kernel_rfl) (by decide) opens_int3
    (opensN_cons (sz := 1) rfl (by kernel_rfl) (by decide) (opens_bool (by kernel_rfl)) (opensN_nil _ _))))).map
    (fun x => (⟨x.1, x.2.1, x.2.2.1⟩ : S_FontPoint)) (fun x => by simp [cS_FontPoint]) (fun _ _ => trivial)
theorem opens_part : Opens Tryd.prog 83 cS_FontPart (fun _ => True) :=
  (opens_struct (t := 83) (N := 3) Tryd.underlying83 (by kernel_rfl)
    (opensN_cons (sz := 1) rfl (by kernel_rfl) (by decide) opens_int3
    (opensN_cons (sz := 1) rfl (by kernel_rfl) (by decide) opens_int3
    (opensN_cons (sz := 1) rfl (by kernel_rfl) (by decide) opens_int3 (opensN_nil _ _))))).map
    (fun x => (⟨x.1, x.2.1, x.2.2.1⟩ : S_FontPart)) (fun x => by simp [cS_FontPart]) (fun _ _ => trivial)
theorem opens_range : Opens Tryd.prog 86 cS_FontRange (fun _ => True) :=
  (opens_struct (t := 86) (N := 3) Tryd.underlying86 (by kernel_rfl)
    (opensN_cons (sz := 1) rfl (by kernel_rfl) (by decide) opens_int3
    (opensN_cons (sz := 1) rfl (by kernel_rfl) (by decide) opens_int3
    (opensN_cons (sz := 1) rfl (by kernel_rfl) (by decide) opens_int3 (opensN_nil _ _))))).map
    (fun x => (⟨x.1, x.2.1, x.2.2.1⟩ : S_FontRange)) (fun x => by simp [cS_FontRange]) (fun _ _ => trivial)
theorem opens_pair : Opens Tryd.prog 48 cS_FontPair (fun _ => True) :=
  (opens_struct (t := 48) (N := 3) Tryd.underlying48 (by kernel_rfl)
    (opensN_cons (sz := 1) rfl (by kernel_rfl) (by decide) opens_int3
    (opensN_cons (sz := 1) rfl (by kernel_rfl) (by decide) opens_int3
    (opensN_cons (sz := 1) rfl (by kernel_rfl) (by decide) opens_int3 (opensN_nil _ _))))).map
    (fun x => (⟨x.1, x.2.1, x.2.2.1⟩ : S_FontPair)) (fun x => by simp [cS_FontPair]) (fun _ _ => trivial)

theorem opens_points : Opens Tryd.prog 67 (cL 3 cS_FontPoint) (fun l => l.length ≤ maxLen ∧ ∀ a ∈ l, True) :=
  opens_slice (e := 69) (by kernel_rfl) (by kernel_rfl) (by decide) opens_point
theorem opens_glyph : Opens Tryd.prog 55 cS_FontGlyph (fun _ => True) :=
  (opens_struct (t := 55) (N := 3) Tryd.underlying55 (by kernel_rfl)
    (opensN_cons (sz := 1) rfl (by kernel_rfl) (by decide) opens_int3
    (opensN_cons (sz := 1) rfl (by kernel_rfl) (by decide) (opens_slice (e := 67) (sz := 1) (by kernel_rfl) (by kernel_rfl) (by decide) opens_points)
    (opensN_cons (sz := 1) rfl (by kernel_rfl) (by decide) (opens_slice (e := 83) (sz := 3) (by kernel_rfl) (by kernel_rfl) (by decide) opens_part) (opensN_nil _ _))))).map
    (fun x => (⟨x.1, x.2.1, x.2.2.1⟩ : S_FontGlyph)) (fun x => by simp [cS_FontGlyph]) (fun _ _ => trivial)
theorem opens_font : Opens Tryd.prog 34 cS_Font (fun _ => True) :=
  (opens_struct (t := 34) (N := 4) Tryd.underlying34 (by kernel_rfl)
    (opensN_cons (sz := 1) rfl (by kernel_rfl) (by decide) opens_int3
    (opensN_cons (sz := 1) rfl (by kernel_rfl) (by decide) (opens_slice (e := 55) (sz := 3) (by kernel_rfl) (by kernel_rfl) (by decide) opens_glyph)
    (opensN_cons (sz := 1) rfl (by kernel_rfl) (by decide) (opens_slice (e := 86) (sz := 3) (by kernel_rfl) (by kernel_rfl) (by decide) opens_range)
    (opensN_cons (sz := 1) rfl (by kernel_rfl) (by decide) (opens_slice (e := 48) (sz := 3) (by kernel_rfl) (by kernel_rfl) (by decide) opens_pair) (opensN_nil _ _)))))).map
    (fun x => (⟨x.1, x.2.1, x.2.2.1, x.2.2.2.1⟩ : S_Font)) (fun x => by simp [cS_Font]) (fun _ _ => trivial)

theorem opens_f : OpensArgs Tryd.prog [34] (fun z : S_Font × Unit => [.agg (cS_Font z.1)]) (fun _ => True ∧ True) :=
  opensArgs_agg Tryd.underlying34 opens_font (opensArgs_nil _)
theorem opens_fi : OpensArgs Tryd.prog [34, 3] (fun z : S_Font × Int × Unit => [.agg (cS_Font z.1), .d (.v (.int .i64 z.2.1))]) (fun _ => True ∧ True ∧ True) :=
  opensArgs_agg Tryd.underlying34 opens_font (opensArgs_flat (x := fun n => .v (.int .i64 n)) (by kernel_rfl) (fun _ => rfl) opens_int3 (opensArgs_nil _))
theorem opens_fl : OpensArgs Tryd.prog [34, 23] (fun z : S_Font × List Int × Unit => [.agg (cS_Font z.1), .d (.sl 1 (z.2.1.map (cI .i64)))]) (fun z => True ∧ (z.2.1.length ≤ maxLen ∧ ∀ a ∈ z.2.1, True) ∧ True) :=
  opensArgs_agg Tryd.underlying34 opens_font (opensArgs_flat (x := fun l : List Int => .sl 1 (l.map (cI .i64))) (by kernel_rfl) (fun _ => rfl) (opens_slice (e := 3) (sz := 1) (by kernel_rfl) (by kernel_rfl) (by decide) opens_int3) (opensArgs_nil _))

abbrev lay : List (String × DataW Unit) := [("printworks/filter.steps", Rows.laid_printworks_filter_steps)]
theorem door_met (os : Os) (args : Array Value) : laidMetH Tryd.prog lay ((World.doorLaid Tryd.prog 400 os).forCall (fun _ _ => 0) ⟨#[], args, []⟩).memory :=
  laidMetH_of_parts3 (fuel := 8) (laidMet_of_run' 8 (by kernel_rfl) (by kernel_rfl)) (by kernel_rfl) (by kernel_rfl)
theorem of_lay {W : World} (h : laidMetH Tryd.prog lay W) : RD (allS W) W (.pt (glob_filter_steps.flatMap (cI .u32))) (.pointer (some ⟨0, 0, none⟩)) := by
  rw [MakeChecks.laidMetH_plain _ _ _ (by kernel_rfl)] at h
  exact laid_ints (t := 133) (e := 97) (n := 16) (k := .u32) (l := glob_filter_steps) (by kernel_rfl) (by kernel_rfl) (by kernel_rfl) (by kernel_rfl) (by kernel_rfl) rfl h
end Go.Proofs.YtnjggcljonbleaaDoor
