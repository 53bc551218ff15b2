/-
  Plates and leaves of a wrong size or form have the stated errors: the law returns true, and its arguments read as before, where what is read is of bulk at most 1048576.
-/
import Derived.Test.YteidenpelbooeaaVmC
import Derived.Stop.Joined
import Derived.Test.YteidenpelbooeaaBinLl
import Derived.Test.YteidenpelbooeaaBinP4
import Derived.Test.YteidenpelbooeaaRows
namespace Go.Proofs.Yteidenpelbooeaa
open Go.ChangeShapes Go.WideShapes Go.ChangeAt Go.WideMaps Go.WideElems Go.RowKit Go.Vm Go.Vm.BinG

theorem own : ownKnob Try.prog.godebug = none := by kernel_rfl

def Q24 (x : S_Plate) : Prop := (Lit.int .i64 x.f0).wf = true ∧ (Lit.int .i64 x.f1).wf = true ∧ (x.f2.length ≤ maxLen ∧ ∀ a ∈ x.f2, True) ∧ True
theorem opens_24 : Opens Try.prog 24 cS_Plate Q24 :=
  (opens_struct (t := 24) (N := 3) Try.underlying24 (by kernel_rfl) (opensN_cons (sz := 1) rfl (by kernel_rfl) (by decide) (opens_int (k := .i64) (by kernel_rfl))
    (opensN_cons (sz := 1) rfl (by kernel_rfl) (by decide) (opens_int (k := .i64) (by kernel_rfl))
    (opensN_cons (sz := 1) rfl (by kernel_rfl) (by decide) (opens_slice (e := 5) (sz := 1) (by kernel_rfl) (by kernel_rfl) (by decide) (opens_u8 (by kernel_rfl)))
    (opensN_nil _ _))))).map
    (fun x => (⟨x.1, x.2.1, x.2.2.1⟩ : S_Plate)) (fun x => by simp [cS_Plate]) (fun _ h => h)
def Q115 (x : S_FoldStep) : Prop := (Lit.int .i64 x.f0).wf = true ∧ (Lit.int .i64 x.f1).wf = true ∧ True ∧ True
theorem opens_115 : Opens Try.prog 115 cS_FoldStep Q115 :=
  (opens_struct (t := 115) (N := 3) Try.underlying115 (by kernel_rfl) (opensN_cons (sz := 1) rfl (by kernel_rfl) (by decide) (opens_int (k := .i64) (by kernel_rfl))
    (opensN_cons (sz := 1) rfl (by kernel_rfl) (by decide) (opens_int (k := .i64) (by kernel_rfl))
    (opensN_cons (sz := 1) rfl (by kernel_rfl) (by decide) (opens_bool (by kernel_rfl))
    (opensN_nil _ _))))).map
    (fun x => (⟨x.1, x.2.1, x.2.2.1⟩ : S_FoldStep)) (fun x => by simp [cS_FoldStep]) (fun _ h => h)
def Q27 (x : S_FoldScheme) : Prop := (Lit.int .i64 x.f0).wf = true ∧ (Lit.int .i64 x.f1).wf = true ∧ (x.f2.length ≤ maxLen ∧ ∀ a ∈ x.f2, Q115 a) ∧ True
theorem opens_27 : Opens Try.prog 27 cS_FoldScheme Q27 :=
  (opens_struct (t := 27) (N := 3) Try.underlying27 (by kernel_rfl) (opensN_cons (sz := 1) rfl (by kernel_rfl) (by decide) (opens_int (k := .i64) (by kernel_rfl))
    (opensN_cons (sz := 1) rfl (by kernel_rfl) (by decide) (opens_int (k := .i64) (by kernel_rfl))
    (opensN_cons (sz := 1) rfl (by kernel_rfl) (by decide) (opens_slice (e := 115) (sz := 3) (by kernel_rfl) (by kernel_rfl) (by decide) opens_115)
    (opensN_nil _ _))))).map
    (fun x => (⟨x.1, x.2.1, x.2.2.1⟩ : S_FoldScheme)) (fun x => by simp [cS_FoldScheme]) (fun _ h => h)
def Q29 (x : S_ImposeLayout) : Prop := Q27 x.f0 ∧ (Lit.int .i64 x.f1).wf = true ∧ (Lit.int .i64 x.f2).wf = true ∧ (Lit.int .i64 x.f3).wf = true ∧ (Lit.int .i64 x.f4).wf = true ∧ (Lit.int .i64 x.f5).wf = true ∧ (Lit.int .i64 x.f6).wf = true ∧ (Lit.int .i64 x.f7).wf = true ∧ (Lit.int .i64 x.f8).wf = true ∧ True
theorem opens_29 : Opens Try.prog 29 cS_ImposeLayout Q29 :=
  (opens_struct (t := 29) (N := 11) Try.underlying29 (by kernel_rfl) (opensN_cons (sz := 3) rfl (by kernel_rfl) (by decide) opens_27
    (opensN_cons (sz := 1) rfl (by kernel_rfl) (by decide) (opens_int (k := .i64) (by kernel_rfl))
    (opensN_cons (sz := 1) rfl (by kernel_rfl) (by decide) (opens_int (k := .i64) (by kernel_rfl))
    (opensN_cons (sz := 1) rfl (by kernel_rfl) (by decide) (opens_int (k := .i64) (by kernel_rfl))
    (opensN_cons (sz := 1) rfl (by kernel_rfl) (by decide) (opens_int (k := .i64) (by kernel_rfl))
    (opensN_cons (sz := 1) rfl (by kernel_rfl) (by decide) (opens_int (k := .i64) (by kernel_rfl))
    (opensN_cons (sz := 1) rfl (by kernel_rfl) (by decide) (opens_int (k := .i64) (by kernel_rfl))
    (opensN_cons (sz := 1) rfl (by kernel_rfl) (by decide) (opens_int (k := .i64) (by kernel_rfl))
    (opensN_cons (sz := 1) rfl (by kernel_rfl) (by decide) (opens_int (k := .i64) (by kernel_rfl))
    (opensN_nil _ _))))))))))).map
    (fun x => (⟨x.1, x.2.1, x.2.2.1, x.2.2.2.1, x.2.2.2.2.1, x.2.2.2.2.2.1, x.2.2.2.2.2.2.1, x.2.2.2.2.2.2.2.1, x.2.2.2.2.2.2.2.2.1⟩ : S_ImposeLayout)) (fun x => by simp [cS_ImposeLayout, cS_FoldScheme]) (fun _ h => h)
theorem opens_args : OpensArgs Try.prog [24, 24, 3, 29] (fun z : S_Plate × S_Plate × Int × S_ImposeLayout × Unit => [.agg (cS_Plate z.1), .agg (cS_Plate z.2.1), .d (.v (.int .i64 z.2.2.1)), .agg (cS_ImposeLayout z.2.2.2.1)]) (fun z => Q24 z.1 ∧ Q24 z.2.1 ∧ (Lit.int .i64 z.2.2.1).wf = true ∧ Q29 z.2.2.2.1 ∧ True) :=
  (opensArgs_agg Try.underlying24 opens_24 (opensArgs_agg Try.underlying24 opens_24 (opensArgs_flat (x := fun y : Int => .v (.int .i64 y)) (by kernel_rfl) (fun _ => rfl) (opens_int (k := .i64) (by kernel_rfl)) (opensArgs_agg Try.underlying29 opens_29 (opensArgs_nil _)))))

abbrev gl : Glos := []
theorem of_lay {W : World} : ∀ g ∈ gl, GloAt (allS W) W g.1 g.2 := fun _ h => by cases h
theorem bulkAll_len {H : Type} : ∀ l : List (DataW H), l.length ≤ Rows.uptoBulkAll l
  | [] => Nat.zero_le _
  | d :: r => by
    have h1 := bulkAll_len r
    have h2 : 1 ≤ Rows.uptoBulk d := by
      unfold Rows.uptoBulk
      split <;> omega
    simp only [Rows.uptoBulkAll, List.length_cons]
    omega
theorem bulkAll_mem {H : Type} : ∀ (l : List (DataW H)) (d : DataW H), d ∈ l → Rows.uptoBulk d ≤ Rows.uptoBulkAll l
  | x :: r, d, h => by
    simp only [Rows.uptoBulkAll]
    rcases List.mem_cons.1 h with rfl | h
    · omega
    · have := bulkAll_mem r d h
      omega

/-- The pixels of a plate are no more than what is read of it. -/
theorem plate_small {H : Type} {en : TypeId × Value → H} {W : World} {n : Nat} {u : Value} {p : S_Plate} {β : Path → Value} {x : DataW H × List MemPlace} (h : DataW.trod en Try.prog W 0 (fun _ => true) true n 24 u.cells.toList = some x)
    (hr : RFlat (allS W) W β (0, 0) (.agg (cS_Plate p)) u) : p.f2.length ≤ Rows.uptoBulk x.1 := by
  obtain ⟨l, rfl, hl, hc⟩ := hr
  simp only [cS_Plate, cI, cL, List.cons_append, List.nil_append, RCs, and_true] at hc
  obtain ⟨⟨_, h0, _⟩, ⟨_, h1, _⟩, ⟨w, h2, hw⟩⟩ := hc
  obtain ⟨xs, m, _, rfl, hcl, hxl, hf⟩ := DataW.trod_struct Try.underlying24 h
  have h2' : l[2]? = some w := h2
  have hfld : ∃ y, xs[2]? = some y ∧ DataW.trod en Try.prog W 0 (fun _ => true) true m 22 [w] = some y := by
    have e := hf 2 _ rfl
    have hd : (((Value.agg ⟨l⟩).cells.toList.drop 2).take (Try.prog.cellsOf 22)) = [w] := by
      have : Try.prog.cellsOf 22 = 1 := by kernel_rfl
      rw [this]
      simp only [Value.cells]
      rw [List.take_one, List.head?_drop, h2']
      rfl
    have hlt : 2 < xs.length := by rw [hxl]; decide
    refine ⟨xs[2], List.getElem?_eq_getElem hlt, ?_⟩
    rw [← List.getElem?_eq_getElem hlt, ← e]
    exact (congrArg (DataW.trod en Try.prog W 0 (fun _ => true) true m 22) hd).symm
  obtain ⟨y, hy, ht⟩ := hfld
  have hmem : y.1 ∈ xs.map (·.1) := List.mem_map.2 ⟨y, List.mem_of_getElem? hy, rfl⟩
  have hb := bulkAll_mem _ _ hmem
  simp only [Rows.uptoBulk]
  simp only [RD] at hw
  rcases DataW.trod_slice (e := 5) (by kernel_rfl) ht with ⟨hn, rfl⟩ | ⟨ad, len, cap, elems, rest, _, _, hs, rfl, _, _, _, hlen, _⟩
  · have hw' : w = .slice none 0 0 := by simpa using hn
    subst hw'
    rcases hw with ⟨_, he⟩ | ⟨b, off, c, arr, E, fz, he, _⟩
    · have : p.f2 = [] := by simpa using he
      rw [this]
      simp
    · cases he
  · have hw' : w = .slice (some ad) len cap := by simpa using hs
    subst hw'
    have hle := bulkAll_len (elems.map (·.1))
    simp only [Rows.uptoBulk, List.length_map] at hb hle
    rcases hw with ⟨⟨q, hq⟩, he⟩ | ⟨b, off, c, arr, E, fz, he, _⟩
    · have : p.f2 = [] := by simpa using he
      rw [this]
      simp
    · simp only [Value.slice.injEq, List.length_map] at he
      omega

theorem small_args {H : Type} {en : TypeId × Value → H} {W : World} {args : List Value} {ds : List (DataW H)} {ps : List MemPlace} (b : S_Plate × S_Plate × Int × S_ImposeLayout × Unit) (h : DataW.TrodAll en Try.prog W 0 (fun _ => true) true [24, 24, 3, 29] args ds ps)
    (hr : All2 (fun _ a u => RFlat (allS W) W (fun _ => .bool false) (0, 0) a u) 0 [.agg (cS_Plate b.1), .agg (cS_Plate b.2.1), .d (.v (.int .i64 b.2.2.1)), .agg (cS_ImposeLayout b.2.2.2.1)] args) (hK : Rows.uptoSmall H (ds ++ []) = true) : b.1.f2.length ≤ 1048576 ∧ b.2.1.f2.length ≤ 1048576 := by
  match args, ds, h, hr with
  | v1 :: v2 :: vs, d1 :: d2 :: ds, h, hr =>
    obtain ⟨p, q, ⟨n, h1⟩, ⟨p', q', ⟨n', h2⟩, _⟩, _⟩ := h
    simp only [All2] at hr
    have e1 := plate_small h1 hr.1
    have e2 := plate_small h2 hr.2.1
    simp only [Rows.uptoSmall, decide_eq_true_eq, List.append_nil, Rows.uptoBulkAll] at hK
    simp only at e1 e2
    omega

set_option maxRecDepth 100000 in
theorem lifted (os : Os) (started : os.Started) (H : Type) (enc : TypeId × Value → H) (F : Stop.Interp) :
    ReturnsInHanded {} Try.checked os 3 .any ((Rows.OpenSpec.upto Rows.binderyErrorsSpec).pre6 enc Try.prog Try.f3 Rows.binderyErrorsUptoRow.domain false) (((Rows.OpenSpec.upto Rows.binderyErrorsSpec).at F).post enc Try.prog Try.f3 false true false false) :=
  returnsInHanded_of_cond (C := Try.checked) (s := Rows.OpenSpec.upto Rows.binderyErrorsSpec) (k := Rows.uptoSmall) rfl own started (by kernel_rfl) Try.func3
    (OpenSpec.witness (enc := enc) (C := Try.checked) (s := Rows.OpenSpec.upto Rows.binderyErrorsSpec) (k := Rows.uptoSmall) rfl false ⟨#[], #[.agg #[.int .i64 0, .int .i64 0, .slice none 0 0], .agg #[.int .i64 0, .int .i64 0, .slice none 0 0], .int .i64 0, .agg #[.int .i64 0, .int .i64 0, .slice none 0 0, .int .i64 0, .int .i64 0, .int .i64 0, .int .i64 0, .int .i64 0, .int .i64 0, .int .i64 0, .int .i64 0]], []⟩ 8 (by kernel_rfl) (by kernel_rfl) (by kernel_rfl) (x := ([.agg [.lit (.int .i64 0), .lit (.int .i64 0), .nil], .agg [.lit (.int .i64 0), .lit (.int .i64 0), .nil], .lit (.int .i64 0), .agg [.agg [.lit (.int .i64 0), .lit (.int .i64 0), .nil], .lit (.int .i64 0), .lit (.int .i64 0), .lit (.int .i64 0), .lit (.int .i64 0), .lit (.int .i64 0), .lit (.int .i64 0), .lit (.int .i64 0), .lit (.int .i64 0)]], [], [])) (by kernel_rfl) (by kernel_rfl) (by kernel_rfl))
    fun W base args ds gs before hval hW _ hK _ => law_contractU gl (K := Rows.uptoSmall H) (Q' := fun b => b.1.f2.length ≤ 1048576 ∧ b.2.1.f2.length ≤ 1048576) (tb := 4) (ts := [24, 24, 3, 29]) (by kernel_rfl) opens_args (fun _ => by simp [resSlot]) (fun b _ hs => let ⟨_, h⟩ := (show ∃ F, law3_BinderyErrors F b.1 b.2.1 b.2.2.1 b.2.2.2.1 = some true from ⟨_, errors_law 0 b.1 b.2.1 b.2.2.1 b.2.2.2.1 (by have := hs.1; omega) (by have := hs.2; omega)⟩); law3_BinderyErrors_ok h) (by kernel_rfl) (by kernel_rfl) rfl rfl Try.underlying4
      (fun ds hd => match ds, hd with | [_, _, _, _], _ => rfl) W base args ds gs before of_lay (fun b ps h1 h2 h3 => small_args b h1 (h2 0) h3) hval hW hK

theorem binderyErrors_row : Rows.BinderyErrorsUptoSaid :=
  OpenClaim.holds_of_cond 3 Try.f3 rfl rfl rfl rfl rfl rfl rfl ⟨rfl, rfl, rfl, rfl, rfl⟩ rfl rfl rfl rfl rfl (by kernel_rfl) Try.func3 (by kernel_rfl)
    (of_decide_eq_true (by kernel_rfl)) (by unfold Func.isWrapper; first | (rw [if_pos (by decide +kernel)]; kernel_rfl) | (rw [if_neg (by decide +kernel)]; exact ⟨rfl, rfl⟩))
    (fun os started H enc _ F => lifted os started H enc F)

theorem binderyErrors_holds : Rows.BinderyErrorsUptoSaid := binderyErrors_row
#print axioms binderyErrors_holds
end Go.Proofs.Yteidenpelbooeaa
