/-
  THE V-MACHINE, part 5: one operation that leaves the world as it is: its value.
-/
import Derived.Test.YtnjggcljonbleaaDoorVmRead
namespace Go.Vm

/-- What the prover says of an operation. cs: the cells that an index meets; rw: the result, written otherwise; es: the new content of an owned slice, written otherwise; frz: owners that freeze ahead of it; of a call: the slots of the boxes that are lent, the positions of the arguments that are handed over, the result, the new contents of the boxes. -/
structure Hint where
  cs : List Dat := []
  rw : Option AV := none
  es : Option (List (List Dat)) := none
  frz : List Path := []
  xs : List Nat := []
  take : List Nat := []
  res : AV := .junk
  vout : List AV := []
  slfs : List (Nat × Nat) := []

/-- A part of a struct or an array, or one cell. -/
def partD (P : Program) (t : TypeId) (cs : List Dat) (off : Nat) : Option AV :=
  match P.underlying t, P.info? t with
  | some (.struct _), some i => if off + i.size ≤ cs.length then some (.agg ((cs.drop off).take i.size)) else none
  | some (.array _ _), some i => if off + i.size ≤ cs.length then some (.agg ((cs.drop off).take i.size)) else none
  | some _, some _ => (cs[off]?).map .d
  | _, _ => none

/-- Cells of a box that hold plain data. -/
def dats : List AV → Option (List Dat)
  | [] => some []
  | .d x :: r => (dats r).map (x :: ·)
  | .fz sz es :: r => (dats r).map (.sl sz es :: ·)
  | _ :: _ => none

def AV.readCell (x j : Nat) : AV → AV
  | .own _ _ _ => .vw (x, j + 1)
  | .fz sz es => .d (.sl sz es)
  | .box _ => .junk
  | .tup _ => .junk
  | .gd _ _ => .junk
  | .slf _ _ => .junk
  | .glo _ _ => .junk
  | a => a

def isAggT (P : Program) (t : TypeId) : Option Bool :=
  match P.underlying t with
  | some (.struct _) => some true
  | some (.array _ _) => some true
  | some _ => some false
  | none => none

def loadR (P : Program) (t : TypeId) (hint : Hint) (fr : Fr) : AV → Option (AV × Prop)
  | .d (.pt cs) => (partD P t cs 0).map (·, True)
  | .bp x off =>
    match fget fr x, isAggT P t, P.info? t with
    | .box cs, some false, some _ => (cs[off]?).map fun c => (c.readCell x off, True)
    | .box cs, some true, some i => if off + i.size ≤ cs.length then (dats ((cs.drop off).take i.size)).map fun l => (.agg l, True) else none
    | _, _, _ => none
  | .ep p sz i off =>
    match pget fr p with
    | .own _κ sz' es => if sz = sz' then (partD P t hint.cs off).map (·, es[i]? = some hint.cs) else none
    | .fz sz' es => if sz = sz' then (partD P t hint.cs off).map (·, es[i]? = some hint.cs) else none
    | _ => none
  | _ => none

theorem run_isAgg {P : Program} {t : TypeId} {b : Bool} (h : isAggT P t = some b) (w : World) : (isAgg t).run P w = .ok b w := by
  unfold isAggT at h
  split at h <;> simp only [Option.some.injEq, reduceCtorEq] at h
  · rename_i hu; subst h; simp [isAgg, run_underlying hu]
  · rename_i hu; subst h; simp [isAgg, run_underlying hu]
  · rename_i d n1 n2 hu
    subst h
    cases d
    case struct f => exact absurd rfl (n1 f)
    case array n t => exact absurd rfl (n2 n t)
    all_goals simp [isAgg, run_underlying hu]

theorem addr_add (b o n : Nat) : Addr.add ⟨b, o, none⟩ n = ⟨b, o + n, none⟩ := Addr.add_lit b o n

/-- Cells read off a row. -/
theorem run_loadCells_row (P : Program) (w : World) (b o : Nat) (arr : Array Value) (E : TypeId) (fz : Nat × Nat) (hb : w.heap[b]? = some (.cells arr E fz)) (n : Nat) (hn : o + n ≤ arr.size) :
    (loadCells ⟨b, o, none⟩ n).run P w = .ok (arr.extract o (o + n)) w := by
  have hl : ((arr.extract o (o + n)).toList).length = n := by simp; omega
  have := run_loadCells_list (P := P) (w := w) ⟨b, o, none⟩ (arr.extract o (o + n)).toList (fun j v hj => by
    rw [addr_add, cell_of_row w b (o + j) arr E fz hb]
    have hjn : j < n := by
      rcases Nat.lt_or_ge j n with h | h
      · exact h
      · rw [List.getElem?_eq_none (by omega)] at hj; cases hj
    rw [Array.getElem?_toList, Array.getElem?_extract] at hj
    split at hj
    · exact hj
    · cases hj)
  rw [hl] at this
  simpa only [Array.toArray_toList] using this

theorem RCs.le {S : Nat → Prop} {w : World} {g : Nat → Option Value} (cs : List Dat) (o : Nat) (h : RCs S w cs g o) (arr : Array Value) (hg : ∀ j, g j = arr[j]?) (hne : cs ≠ []) : o + cs.length ≤ arr.size := by
  have hpos : 0 < cs.length := List.length_pos_iff.2 hne
  obtain ⟨u, hu, _⟩ := RCs.get cs o (cs.length - 1) _ h (List.getElem?_eq_getElem (by omega))
  rw [hg] at hu
  have := (Array.getElem?_eq_some_iff.1 hu).1
  omega

theorem RCs.drop {S : Nat → Prop} {w : World} {g : Nat → Option Value} (cs : List Dat) (o k : Nat) (h : RCs S w cs g o) : RCs S w (cs.drop k) g (o + k) := by
  refine RCs.of_get _ _ fun j x hj => ?_
  rw [List.getElem?_drop] at hj
  obtain ⟨u, hu, hr⟩ := RCs.get cs o (k + j) x h hj
  exact ⟨u, by rw [Nat.add_assoc]; exact hu, hr⟩
theorem RCs.take {S : Nat → Prop} {w : World} {g : Nat → Option Value} (cs : List Dat) (o k : Nat) (h : RCs S w cs g o) : RCs S w (cs.take k) g o := by
  refine RCs.of_get _ _ fun j x hj => ?_
  rw [List.getElem?_take] at hj
  split at hj
  · exact RCs.get cs o j x h hj
  · cases hj

/-- A variable of type t is read at an address behind which the cells cs lie. -/
theorem run_loadVar_cs {P : Program} {S : Nat → Prop} {w : World} {β : Path → Value} {t : TypeId} {cs : List Dat} {off : Nat} {av : AV} (h : partD P t cs off = some av) {b o : Nat} {arr : Array Value} {E : TypeId} {fz : Nat × Nat}
    (hb : w.heap[b]? = some (.cells arr E fz)) (hc : RCs S w cs (fun j => arr[j]?) o) : ∃ u, (loadVar t ⟨b, o + off, none⟩).run P w = .ok u w ∧ RFlat S w β (0, 0) av u ∧ av.isOwn = false := by
  have agg : ∀ (i : TypeInfo), P.info? t = some i → isAggT P t = some true → (if off + i.size ≤ cs.length then some (AV.agg ((cs.drop off).take i.size)) else none) = some av →
      ∃ u, (loadVar t ⟨b, o + off, none⟩).run P w = .ok u w ∧ RFlat S w β (0, 0) av u ∧ av.isOwn = false := by
    intro i hi ha h
    split at h
    case isFalse => cases h
    case isTrue hle =>
      simp only [Option.some.injEq] at h
      subst h
      have hsz : o + off + i.size ≤ arr.size ∨ i.size = 0 := by
        by_cases h0 : i.size = 0
        · exact .inr h0
        · have := RCs.le cs o hc arr (fun _ => rfl) (by intro e; subst e; simp at hle; omega)
          exact .inl (by omega)
      have hl : (loadCells ⟨b, o + off, none⟩ i.size).run P w = .ok (arr.extract (o + off) (o + off + i.size)) w := by
        rcases hsz with h1 | h1
        · exact run_loadCells_row P w b (o + off) arr E fz hb i.size h1
        · rw [h1]
          have : arr.extract (o + off) (o + off + 0) = #[] := by apply Array.eq_empty_of_size_eq_zero; simp; omega
          rw [this]
          rfl
      refine ⟨.agg (arr.extract (o + off) (o + off + i.size)), ?_, ⟨(arr.extract (o + off) (o + off + i.size)).toList, rfl, ?_, ?_⟩, rfl⟩
      · simp only [loadVar, Sem.run_bind, run_isAgg ha, Result.andThen_ok, if_true, sizeOf, typeInfo, run_program, hi, Sem.run_pure, hl]
      · simp only [Array.length_toList, Array.size_extract, List.length_take, List.length_drop]
        rcases hsz with h1 | h1 <;> omega
      · refine RCs.congr _ (o + off) 0 (fun j hj => ?_) ((hc.drop cs o off).take _ _ _)
        simp only [List.length_take, List.length_drop] at hj
        simp only [Nat.zero_add, Array.getElem?_toList, Array.getElem?_extract]
        rcases hsz with h1 | h1
        · rw [if_pos (by omega)]
        · omega
  unfold partD at h
  split at h
  · rename_i hu hi
    exact agg _ hi (by simp [isAggT, hu]) h
  · rename_i hu hi
    exact agg _ hi (by simp [isAggT, hu]) h
  · rename_i d i hu hi h1 h2
    have ha : isAggT P t = some false := by
      unfold isAggT
      rw [h1]
      split
      · rename_i e; simp only [Option.some.injEq] at e; exact absurd e (hu _)
      · rename_i e; simp only [Option.some.injEq] at e; exact absurd e (hi _ _)
      · rfl
      · rename_i e; cases e
    cases hcs : cs[off]? with
    | none => simp [hcs] at h
    | some c =>
      simp [hcs] at h
      subst h
      obtain ⟨u, hu, hr⟩ := RCs.get cs o off c hc hcs
      refine ⟨u, ?_, hr, rfl⟩
      have hcell : w.cell? ⟨b, o + off, none⟩ = some u := by rw [cell_of_row w b (o + off) arr E fz hb]; exact hu
      simp [loadVar, run_isAgg ha, hcell]
  · cases h

end Go.Vm
