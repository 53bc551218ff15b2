/-
  THE V-MACHINE, part 11: literals, zero values, new memory.
-/
import Derived.Test.YtnjggcljonbleaaDoorVmAppend
namespace Go.Vm

/-- vs written over cells from off on. -/
def spl {α : Type} (off : Nat) (vs cells : List α) : List α := cells.take off ++ vs ++ cells.drop (off + vs.length)

theorem spl_len {α : Type} {off : Nat} {vs cells : List α} (h : off + vs.length ≤ cells.length) : (spl off vs cells).length = cells.length := by
  simp [spl]; omega

theorem spl_get {α : Type} {off : Nat} {vs cells : List α} (h : off + vs.length ≤ cells.length) (j : Nat) : (spl off vs cells)[j]? = if off ≤ j ∧ j < off + vs.length then vs[j - off]? else cells[j]? := by
  have h1 : (cells.take off).length = off := by simp; omega
  simp only [spl, List.append_assoc]
  by_cases ha : j < off
  · rw [List.getElem?_append_left (by omega), List.getElem?_take, if_pos ha, if_neg (by omega)]
  · rw [List.getElem?_append_right (by omega), h1]
    by_cases hb : j < off + vs.length
    · rw [List.getElem?_append_left (by omega), if_pos ⟨by omega, hb⟩]
    · rw [List.getElem?_append_right (by omega), if_neg (by omega), List.getElem?_drop]
      congr 1
      omega

def datOf : Value → Dat
  | .string s => .str s.data.toList
  | v => .v v

theorem datOf_ok {S : Nat → Prop} {w : World} {v : Value} (h : v.oneCell' = true) : RD S w (datOf v) v := by
  cases v <;> simp_all [datOf, RD, strOf, Value.oneCell']

theorem zipIdx_foldl_get (off : Nat) : ∀ (vs : List Value) (k : Nat) (cells : Array Value) (j : Nat), off + k + vs.length ≤ cells.size →
    ((vs.zipIdx k).foldl (fun cs p => cs.setIfInBounds (off + p.2) p.1) cells).toList[j]? = if off + k ≤ j ∧ j < off + k + vs.length then vs[j - (off + k)]? else cells.toList[j]?
  | [], k, cells, j, _ => by simp; intro h1 h2; omega
  | v :: vs, k, cells, j, h => by
    simp only [List.length_cons] at h
    simp only [List.zipIdx_cons, List.foldl_cons]
    rw [zipIdx_foldl_get off vs (k + 1) _ j (by simp; omega)]
    simp only [List.length_cons, Array.toList_setIfInBounds]
    by_cases h1 : off + (k + 1) ≤ j ∧ j < off + (k + 1) + vs.length
    · rw [if_pos h1, if_pos (by omega), show j - (off + k) = (j - (off + (k + 1))) + 1 by omega, List.getElem?_cons_succ]
    · rw [if_neg h1, List.getElem?_set]
      by_cases h2 : off + k = j
      · rw [if_pos h2, if_pos (by simp; omega), if_pos (by omega)]
        simp [h2]
      · rw [if_neg h2, if_neg (by omega)]

theorem zipIdx_foldl_size (off : Nat) : ∀ (vs : List Value) (k : Nat) (cells : Array Value), ((vs.zipIdx k).foldl (fun cs p => cs.setIfInBounds (off + p.2) p.1) cells).size = cells.size
  | [], _, _ => rfl
  | v :: vs, k, cells => by
    simp only [List.zipIdx_cons, List.foldl_cons]
    rw [zipIdx_foldl_size off vs (k + 1)]
    simp

theorem zipIdx_foldl (off : Nat) (vs cells : Array Value) (h : off + vs.size ≤ cells.size) : vs.zipIdx.foldl (fun cs (x : Value × Nat) => cs.setIfInBounds (off + x.2) x.1) cells = (spl off vs.toList cells.toList).toArray := by
  have h0 : vs.zipIdx.foldl (fun cs (x : Value × Nat) => cs.setIfInBounds (off + x.2) x.1) cells = (vs.toList.zipIdx 0).foldl (fun cs p => cs.setIfInBounds (off + p.2) p.1) cells := by
    rw [← Array.foldl_toList, Array.toList_zipIdx]
  rw [h0]
  apply Array.ext'
  apply List.ext_getElem?
  intro j
  rw [zipIdx_foldl_get off vs.toList 0 cells j (by simpa using h), spl_get (by simpa using h)]
  simp

section
variable {S : Nat → Prop} {w : World}

theorem RCs.spl {cs ds : List Dat} {l dl : List Value} {off : Nat} (hc : RCs S w cs (fun j => l[j]?) 0) (hd : RCs S w ds (fun j => dl[j]?) 0) (hl : l.length = cs.length) (hdl : dl.length = ds.length) (h : off + ds.length ≤ cs.length) :
    RCs S w (Vm.spl off ds cs) (fun j => (Vm.spl off dl l)[j]?) 0 := by
  refine RCs.of_get _ _ fun j x hj => ?_
  rw [spl_get h] at hj
  simp only [Nat.zero_add]
  rw [spl_get (by omega), hdl]
  split at hj
  · rename_i hin
    rw [if_pos hin]
    have := RCs.get ds 0 (j - off) x hd hj
    simpa using this
  · rename_i hin
    rw [if_neg hin]
    have := RCs.get cs 0 j x hc hj
    simpa using this

theorem REs.set {es : List (List Dat)} {e : List Dat} {l el : List Value} {sz i : Nat} (hc : REs S w sz es (fun j => l[j]?) 0) (he : e.length = sz) (hd : RCs S w e (fun j => el[j]?) 0) (hel : el.length = e.length) (hi : i < es.length) (hl : es.length * sz ≤ l.length) :
    REs S w sz (es.set i e) (fun j => (Vm.spl (i * sz) el l)[j]?) 0 := by
  have hle : i * sz + el.length ≤ l.length := by
    rw [hel, he]
    have : i * sz + sz = (i + 1) * sz := by rw [Nat.add_mul, Nat.one_mul]
    rw [this]
    exact Nat.le_trans (Nat.mul_le_mul_right _ hi) hl
  refine REs.of_get _ _ fun j x hj => ?_
  rw [List.getElem?_set] at hj
  by_cases hij : i = j
  · subst hij
    rw [if_pos rfl, if_pos hi] at hj
    simp only [Option.some.injEq] at hj
    subst hj
    refine ⟨he, RCs.congr _ 0 _ (fun k hk => ?_) hd⟩
    simp only [Nat.zero_add]
    rw [spl_get hle, if_pos (by omega)]
    congr 1
    omega
  · rw [if_neg hij] at hj
    obtain ⟨h1, h2⟩ := REs.get es 0 j x hc hj
    refine ⟨h1, RCs.congr _ _ _ (fun k hk => ?_) h2⟩
    simp only [Nat.zero_add]
    rw [spl_get hle, if_neg]
    rw [hel, he]
    rw [h1] at hk
    intro hcon
    rcases Nat.lt_or_ge j i with hlt | hge
    · have : (j + 1) * sz ≤ i * sz := Nat.mul_le_mul_right _ hlt
      rw [Nat.add_mul, Nat.one_mul] at this
      omega
    · have : (i + 1) * sz ≤ j * sz := Nat.mul_le_mul_right _ (by omega)
      rw [Nat.add_mul, Nat.one_mul] at this
      omega
end

/-- Which cells of a type hold slices, and how large their elements are. -/
def sliceCells (P : Program) : Nat → TypeId → List (Option (Nat × Nat))
  | 0, _ => []
  | n + 1, t => match P.underlying t with
    | some (.slice E) => [(P.info? E).map fun i => (E, i.size)]
    | some (.struct fs) => fs.toList.flatMap fun f => sliceCells P n f.type
    | some (.array k E) => (List.replicate k (sliceCells P n E)).flatten
    | _ => [none]

/-- A cell of a zero value: nil of a slice type reads as the empty slice. -/
def zeroCell (v : Value) (h : Option (Nat × Nat)) : Dat :=
  match v, h with
  | .slice none 0 0, some (_, sz) => .sl sz []
  | v, _ => datOf v

theorem zeroCell_ok {S : Nat → Prop} {w : World} {v : Value} (h : Option (Nat × Nat)) (hv : v.oneCell' = true) : RD S w (zeroCell v h) v := by
  unfold zeroCell
  split
  · unfold RD
    exact .inl ⟨⟨_, rfl⟩, rfl⟩
  · exact datOf_ok hv

/-- The cells of a type's zero value, and which of them are slices. -/
def zeroV (P : Program) (t : TypeId) : Option (List (Value × Option (Nat × Nat))) :=
  match P.info? t with
  | some i => match i.zero with
    | some z => if z.cells.toList.all Value.oneCell' && z.cells.toList.length == i.size && (sliceCells P 8 t).length == i.size then some (z.cells.toList.zip (sliceCells P 8 t)) else none
    | none => none
  | none => none
def zeroD (P : Program) (t : TypeId) : Option (List Dat) := (zeroV P t).map fun l => l.map fun q => zeroCell q.1 q.2

theorem zeroV_ok {P : Program} {t : TypeId} {l : List (Value × Option (Nat × Nat))} (h : zeroV P t = some l) : ∃ i z, P.info? t = some i ∧ i.zero = some z ∧ z.cells.size = i.size ∧ l.length = i.size ∧ (∀ v ∈ z.cells.toList, v.oneCell' = true) ∧ l.map Prod.fst = z.cells.toList := by
  unfold zeroV at h
  split at h
  · rename_i i hi
    split at h
    · rename_i z hz
      split at h
      · rename_i hb
        simp only [Bool.and_eq_true, List.all_eq_true, beq_iff_eq] at hb
        simp only [Option.some.injEq] at h
        subst h
        refine ⟨i, z, hi, hz, by simpa using hb.1.2, by rw [List.length_zip]; omega, hb.1.1, ?_⟩
        rw [List.map_fst_zip]
        omega
      · cases h
    · cases h
  · cases h

theorem zeroD_ok {P : Program} {t : TypeId} {zs : List Dat} (h : zeroD P t = some zs) : ∃ i z, P.info? t = some i ∧ i.zero = some z ∧ z.cells.size = i.size ∧ zs.length = i.size ∧ (∀ v ∈ z.cells.toList, v.oneCell' = true) ∧ ∀ (S : Nat → Prop) (w : World), RCs S w zs (fun j => z.cells.toList[j]?) 0 := by
  simp only [zeroD, Option.map_eq_some_iff] at h
  obtain ⟨l, hl, rfl⟩ := h
  obtain ⟨i, z, hi, hz, h1, h2, h3, h4⟩ := zeroV_ok hl
  refine ⟨i, z, hi, hz, h1, by simpa using h2, h3, fun S w => RCs.of_get _ _ fun j x hj => ?_⟩
  simp only [List.getElem?_map, Option.map_eq_some_iff] at hj
  obtain ⟨q, hq, rfl⟩ := hj
  have hv : z.cells.toList[j]? = some q.1 := by rw [← h4, List.getElem?_map, hq]; rfl
  exact ⟨q.1, by simpa using hv, zeroCell_ok q.2 (h3 q.1 (List.mem_of_getElem? hv))⟩

/-- The same, where nil slices are told as such. -/
def zeroX (P : Program) (raw : Bool) (t : TypeId) : Option (List Dat) := if raw then (zeroV P t).map fun l => l.map fun q => datOf q.1 else zeroD P t
theorem zeroX_ok {P : Program} {raw : Bool} {t : TypeId} {zs : List Dat} (h : zeroX P raw t = some zs) : ∃ i z, P.info? t = some i ∧ i.zero = some z ∧ z.cells.size = i.size ∧ zs.length = i.size ∧ (∀ v ∈ z.cells.toList, v.oneCell' = true) ∧ ∀ (S : Nat → Prop) (w : World), RCs S w zs (fun j => z.cells.toList[j]?) 0 := by
  unfold zeroX at h
  split at h
  · simp only [Option.map_eq_some_iff] at h
    obtain ⟨l, hl, rfl⟩ := h
    obtain ⟨i, z, hi, hz, h1, h2, h3, h4⟩ := zeroV_ok hl
    refine ⟨i, z, hi, hz, h1, by simpa using h2, h3, fun S w => RCs.of_get _ _ fun j x hj => ?_⟩
    simp only [List.getElem?_map, Option.map_eq_some_iff] at hj
    obtain ⟨q, hq, rfl⟩ := hj
    have hv : z.cells.toList[j]? = some q.1 := by rw [← h4, List.getElem?_map, hq]; rfl
    exact ⟨q.1, by simpa using hv, datOf_ok (h3 q.1 (List.mem_of_getElem? hv))⟩
  · exact zeroD_ok h

/-- The cells that a value is written as. -/
def cellsD : AV → Option (List Dat)
  | .d x => some [x]
  | .agg cs => some cs
  | _ => none

theorem cellsD_ok {S : Nat → Prop} {w : World} {β : Path → Value} {p : Path} {a : AV} {cs : List Dat} (h : cellsD a = some cs) {u : Value} (hr : RFlat S w β p a u) (hone : ∀ x v, RD S w x v → v.oneCell' = true) :
    u.cells.toList.length = cs.length ∧ RCs S w cs (fun j => u.cells.toList[j]?) 0 := by
  cases a <;> simp only [cellsD, Option.some.injEq, reduceCtorEq] at h
  case d x =>
    subst h
    have h1 := hone x u hr
    have hu : u.cells = #[u] := by cases u <;> simp_all [Value.cells, Value.oneCell']
    rw [hu]
    exact ⟨rfl, by simp only [RCs]; exact ⟨⟨u, rfl, hr⟩, trivial⟩⟩
  case agg ds =>
    subst h
    obtain ⟨l, rfl, hl, hc⟩ := hr
    exact ⟨hl, hc⟩

theorem RD_one {S : Nat → Prop} {w : World} (x : Dat) (v : Value) (h : RD S w x v) : v.oneCell' = true := by
  cases x <;> simp only [RD] at h
  case v x => rw [h.1]; exact h.2
  case str l => rw [h]; rfl
  case sl sz es =>
    rcases h with ⟨⟨q, rfl⟩, _⟩ | ⟨b, off, c, arr, E, fz, rfl, _⟩ <;> rfl
  case pt cs =>
    obtain ⟨b, off, arr, E, fz, rfl, _⟩ := h
    rfl

theorem RCs.one {S : Nat → Prop} {w : World} {cs : List Dat} {l : List Value} (h : RCs S w cs (fun j => l[j]?) 0) (hl : l.length = cs.length) : ∀ v ∈ l, v.oneCell' = true := by
  intro v hv
  obtain ⟨j, hj, rfl⟩ := List.getElem_of_mem hv
  obtain ⟨u, hu, hr⟩ := RCs.get cs 0 j _ h (List.getElem?_eq_getElem (by omega))
  simp only [Nat.zero_add, List.getElem?_eq_getElem hj, Option.some.injEq] at hu
  rw [hu]
  exact RD_one _ _ hr

theorem REs.one {S : Nat → Prop} {w : World} {sz : Nat} {es : List (List Dat)} {l : List Value} (h : REs S w sz es (fun j => l[j]?) 0) (hl : l.length = es.length * sz) : ∀ v ∈ l, v.oneCell' = true := by
  intro v hv
  obtain ⟨j, hj, rfl⟩ := List.getElem_of_mem hv
  have hsz : 0 < sz := by
    rcases Nat.eq_zero_or_pos sz with h0 | h0
    · subst h0
      omega
    · exact h0
  have hq : j / sz < es.length := Nat.div_lt_of_lt_mul (by rw [Nat.mul_comm]; omega)
  obtain ⟨h1, h2⟩ := REs.get es 0 (j / sz) _ h (List.getElem?_eq_getElem hq)
  have hr : j % sz < (es[j / sz]).length := by rw [h1]; exact Nat.mod_lt _ hsz
  obtain ⟨u, hu, hr'⟩ := RCs.get _ _ (j % sz) _ h2 (List.getElem?_eq_getElem hr)
  have e : 0 + j / sz * sz + j % sz = j := by
    have := Nat.div_add_mod j sz
    rw [Nat.mul_comm] at this
    omega
  simp only [e, List.getElem?_eq_getElem hj, Option.some.injEq] at hu
  rw [hu]
  exact RD_one _ _ hr'

/-- A slice that can be read, as what is appended. -/
theorem src_sl {P : Program} {S : Nat → Prop} {w : World} {t2 E : TypeId} {sz : Nat} {x : Value} {es : List (List Dat)} (ht : P.underlying t2 = some (.slice E)) (h : SlAt S w x sz es) : ∃ news, Src P w t2 sz x es.length news ∧ REs S w sz es (fun j => news[j]?) 0 := by
  rcases h with ⟨⟨q, rfl⟩, rfl⟩ | ⟨b, o, c, arr, E', fz, rfl, h2, hb, hc⟩
  · exact ⟨[], ⟨.inl ⟨E, ht⟩, rfl, fun w' _ => by cases q <;> simp [Builtin.firstCells, loadCells, loadCellsFrom], by simp, by simp⟩, by simp [REs]⟩
  · by_cases h0 : es.length * sz = 0
    · refine ⟨[], ⟨.inl ⟨E, ht⟩, rfl, fun w' _ => ?_, by simp [h0], by simp⟩, REs.congr es o 0 (fun j hj => by omega) hc⟩
      simp [Builtin.firstCells, h0, loadCells, loadCellsFrom]
    · have hle : o + es.length * sz ≤ arr.size := by
        obtain ⟨u, hu⟩ := REs.defined es o hc (es.length * sz - 1) (by omega)
        have := (Array.getElem?_eq_some_iff.1 hu).1
        omega
      have hr : REs S w sz es (fun j => (arr.extract o (o + es.length * sz)).toList[j]?) 0 := by
        refine REs.congr es o 0 (fun j hj => ?_) hc
        simp only [Nat.zero_add, Array.getElem?_toList, Array.getElem?_extract]
        rw [if_pos (by omega)]
      have hl : (arr.extract o (o + es.length * sz)).toList.length = es.length * sz := by simp; omega
      refine ⟨(arr.extract o (o + es.length * sz)).toList, ⟨.inl ⟨E, ht⟩, rfl, fun w' hw' => ?_, hl, REs.one hr hl⟩, hr⟩
      simp only [Builtin.firstCells]
      have := run_loadCells_row P w' b o arr E' fz (by rw [hw']; exact hb) (es.length * sz) hle
      simpa only [Array.toArray_toList] using this

/-- The bytes of a string, as what is appended. -/
def byteCells (l : List UInt8) : List (List Dat) := l.map fun c => [.v (.int .u8 c.toNat)]
theorem src_str {P : Program} {S : Nat → Prop} {w : World} {t2 : TypeId} {l : List UInt8} (ht : P.underlying t2 = some .string) : ∃ news, Src P w t2 1 (strOf l) (byteCells l).length news ∧ REs S w 1 (byteCells l) (fun j => news[j]?) 0 := by
  refine ⟨l.map fun b => .int .u8 b.toNat, ⟨.inr ht, ?_, fun w' _ => ?_, by simp [byteCells], ?_⟩, REs.of_get _ _ fun j e hj => ?_⟩
  · simp [Builtin.lenOf, strOf, byteCells, ByteArray.size]
  · have hsz : (⟨l.toArray⟩ : ByteArray).extract 0 (byteCells l).length = ⟨l.toArray⟩ := by
      rw [Lib.extract_eq]
      simp [byteCells]
    simp only [Builtin.firstCells, strOf, hsz, Sem.run_pure]
    simp
  · intro v hv
    obtain ⟨b, _, rfl⟩ := List.mem_map.1 hv
    rfl
  · simp only [byteCells, List.getElem?_map, Option.map_eq_some_iff] at hj
    obtain ⟨b, hb, rfl⟩ := hj
    refine ⟨rfl, ?_⟩
    simp only [RCs, RD, Nat.zero_add, Nat.mul_one, List.getElem?_map, hb]
    exact ⟨⟨_, rfl, rfl, rfl⟩, trivial⟩

end Go.Vm
