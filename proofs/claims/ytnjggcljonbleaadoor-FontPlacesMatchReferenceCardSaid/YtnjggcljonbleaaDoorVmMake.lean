/-
  THE V-MACHINE, part 13: new variables, new slices, stores.
-/
import Derived.Test.YtnjggcljonbleaaDoorVmMove
namespace Go.Vm

/-- The cells that a value is written as, as they lie in a box. -/
def cellsA : AV → Option (List AV)
  | .d x => some [.d x]
  | .agg cs => some (cs.map .d)
  | .clo f caps => some [.clo f caps]
  | .bp x off => some [.bp x off]
  | _ => none

section
variable {P : Program} {e : Env} {G : GEnv} {S : Nat → Prop} {β : Path → Value} {fr : Fr} {vals : Nat → Option Value} {w : World}

theorem All2_of_RCs {x : Nat} {ds : List Dat} {l : List Value} (h : RCs S w ds (fun j => l[j]?) 0) (hl : l.length = ds.length) : RParts S w β x (ds.map .d) l := by
  refine All2.of_get (by simp [hl]) fun j a c ha hc => ?_
  simp only [List.getElem?_map, Option.map_eq_some_iff] at ha
  obtain ⟨d, hd, rfl⟩ := ha
  obtain ⟨u, hu, hr⟩ := RCs.get ds 0 j d h hd
  simp only [Nat.zero_add] at hu
  rw [hc] at hu
  cases hu
  exact hr

theorem cellsA_ok {a : AV} {cs : List AV} (h : cellsA a = some cs) {u : Value} (hr : RFlat S w β (0, 0) a u) (x : Nat) :
    u.cells.toList.length = cs.length ∧ RParts S w β x cs u.cells.toList ∧ (∀ c ∈ cs, c.plain = true) ∧ ∀ v ∈ u.cells.toList, v.oneCell' = true := by
  cases a <;> simp only [cellsA, Option.some.injEq, reduceCtorEq] at h
  case d y =>
    subst h
    have h1 := RD_one y u hr
    have hu : u.cells = #[u] := by cases u <;> simp_all [Value.cells, Value.oneCell']
    rw [hu]
    exact ⟨rfl, ⟨hr, trivial⟩, by simp [AV.plain], by simpa using h1⟩
  case agg ds =>
    subst h
    obtain ⟨l, rfl, hl, hc⟩ := hr
    refine ⟨by simpa [Value.cells] using hl, All2_of_RCs hc hl, ?_, RCs.one hc hl⟩
    intro c hc
    obtain ⟨d, _, rfl⟩ := List.mem_map.1 hc
    rfl
  case clo f caps =>
    subst h
    have hr' := hr
    obtain ⟨l, rfl, hl⟩ := hr
    exact ⟨rfl, ⟨hr', trivial⟩, by simp [AV.plain], by simp [Value.cells, Value.oneCell']⟩
  case bp y off =>
    subst h
    have hr' := hr
    obtain ⟨b, h1, rfl⟩ := hr
    exact ⟨rfl, ⟨hr', trivial⟩, by simp [AV.plain], by simp [Value.cells, Value.oneCell']⟩

theorem plain_purge1 {π : Path → Bool} {a : AV} (h : a.plain = true) : (a.purge1 π).plain = true := by
  unfold AV.purge1
  split
  · rfl
  · exact h

theorem plain_isOwn {a : AV} (h : a.plain = true) : a.isOwn = false := by cases a <;> simp_all [AV.plain, AV.isOwn]

theorem parts_turn {S' : Nat → Prop} {w' : World} {β' : Path → Value} {x y : Nat} {cs : List AV} {l : List Value} (h : RParts S w β x cs l) (hp : ∀ c ∈ cs, c.plain = true) (hs : ∀ b, S b → S' b) (ha : Agree S w w') (hb : ∀ z, z ≠ y → ∀ j, β' (z, j) = β (z, j)) :
    RParts S' w' β' y (cs.map (AV.purge1 (slotP y))) l := by
  refine All2.of_get (by simpa using All2.len h) fun j a c hj hc => ?_
  simp only [List.getElem?_map, Option.map_eq_some_iff] at hj
  obtain ⟨a0, ha0, rfl⟩ := hj
  obtain ⟨c', hc', hr⟩ := All2.get h j a0 ha0
  rw [hc] at hc'
  cases hc'
  have hpl := hp a0 (List.mem_of_getElem? ha0)
  have h1 : RFlat S w β (y, 0 + j + 1) (a0.purge1 (slotP y)) c := (plain_path hpl hr).purge (slotP y)
  have hown := plain_isOwn (plain_purge1 (π := slotP y) hpl)
  have h2 := plain_path (q := (y + 1, 0)) (plain_purge1 (π := slotP y) hpl) h1
  refine plain_path (plain_purge1 (π := slotP y) hpl) (h2.turn hs ha (hb _ (by omega) _) (fun h0 => absurd rfl h0) (fun ho => by rw [hown] at ho; cases ho) fun q hq => ?_)
  obtain ⟨z, k⟩ := q
  exact hb z (slotP_ne (AV.purge1_paths (AV.paths01 _ _ hq)).1) k

/-- A new variable. -/
theorem Mem.newBox (hm : Mem e G S β fr vals w) (t : Nat) (cs : List AV) (l : List Value) (E : TypeId) (hp : RParts S w β t cs l) (hpl : ∀ c ∈ cs, c.plain = true) (vals' : Nat → Option Value) (hv : ∀ y, y ≠ t → vals' y = vals y) (hvt : ∀ u', vals' t = some u' → u' = .pointer (some ⟨w.heap.size, 0, none⟩)) :
    ∃ β', Mem e G S β' (setA t (.box (cs.map (AV.purge1 (slotP t)))) fr) vals' (w.alloc (.cells ⟨l⟩ E)) := by
  have hown : ∀ i, (AV.box (cs.map (AV.purge1 (slotP t)))).ownsAt i = true → i = 0 := by
    intro i h
    cases i with
    | zero => rfl
    | succ i =>
      simp only [AV.ownsAt, List.getElem?_map, Option.map_map] at h
      cases hc : cs[i]? with
      | none => simp [hc] at h
      | some c =>
        have := plain_isOwn (plain_purge1 (π := slotP t) (hpl c (List.mem_of_getElem? hc)))
        simp [hc, this] at h
  refine ⟨_, hm.make2 t _ _ (fun _ => .pointer (some ⟨w.heap.size, 0, none⟩)) _ vals' hv hvt ?_ (fun l a h => by cases h) ?_ ?_ (fun b hb => .inl (heap_alloc_old w _ hb)) (by simp) rfl rfl rfl⟩
  · refine ⟨by simp, w.heap.size, l, E, rfl, heap_alloc_new w _, ?_⟩
    exact parts_turn hp hpl (fun _ h => h) (fun b hS => heap_alloc_old w _ (hm.stb b hS).1) (fun z hz j => by simp [hz])
  · intro i b _ hb
    simp only [blk, Option.some.injEq] at hb
    subst hb
    exact hm.free_new t _ (Nat.le_refl _)
  · intro i j b h1 h2 _ _
    rw [hown i h1, hown j h2]

/-- A cell of a new variable: a slice is nil, and the variable's own. -/
def zeroA (v : Value) (h : Option (Nat × Nat)) : AV :=
  match v, h with
  | .slice none 0 0, some (κ, sz) => .own κ sz []
  | v, _ => .d (datOf v)

/-- A new variable that holds a zero value. -/
theorem Mem.newZero (hm : Mem e G S β fr vals w) (t : Nat) (l : List (Value × Option (Nat × Nat))) (h1 : ∀ v ∈ l.map Prod.fst, v.oneCell' = true) (E : TypeId) (vals' : Nat → Option Value) (hv : ∀ y, y ≠ t → vals' y = vals y) (hvt : ∀ u', vals' t = some u' → u' = .pointer (some ⟨w.heap.size, 0, none⟩)) :
    ∃ β', Mem e G S β' (setA t (.box (l.map fun q => zeroA q.1 q.2)) fr) vals' (w.alloc (.cells (l.map Prod.fst).toArray E)) := by
  have hown : ∀ i b, (AV.box (l.map fun q => zeroA q.1 q.2)).ownsAt i = true → blk ((fun j => if j = 0 then Value.pointer (some ⟨w.heap.size, 0, none⟩) else .slice none 0 0) i) = some b → i = 0 := by
    intro i b _ hb
    cases i with
    | zero => rfl
    | succ i => simp [blk] at hb
  refine ⟨_, hm.make2 t _ _ (fun j => if j = 0 then .pointer (some ⟨w.heap.size, 0, none⟩) else .slice none 0 0) _ vals' hv hvt ?_ (fun l a h => by cases h) ?_ ?_ (fun b hb => .inl (heap_alloc_old w _ hb)) (by simp) rfl rfl rfl⟩
  · refine ⟨by simp, w.heap.size, l.map Prod.fst, E, rfl, heap_alloc_new w _, ?_⟩
    refine All2.of_get (by simp) fun j a c ha hc => ?_
    simp only [List.getElem?_map, Option.map_eq_some_iff] at ha hc
    obtain ⟨q, hq, rfl⟩ := ha
    obtain ⟨q', hq', rfl⟩ := hc
    rw [hq] at hq'
    cases hq'
    unfold zeroA
    split
    · rename_i sz hv1 _
      rw [hv1]
      exact ⟨by simp, .inl ⟨rfl, rfl⟩⟩
    · exact datOf_ok (h1 q.1 (List.mem_map.2 ⟨q, List.mem_of_getElem? hq, rfl⟩))
  · intro i b ho hb
    have := hown i b ho hb
    subst this
    simp only [if_true, blk, Option.some.injEq] at hb
    subst hb
    exact hm.free_new t _ (Nat.le_refl _)
  · intro i j b h2 h3 h4 h5
    rw [hown i b h2 h4, hown j b h3 h5]

/-- The nil slice, as an owner of nothing. -/
theorem Mem.newNil (hm : Mem e G S β fr vals w) (t : Nat) (κ : TypeId) (sz : Nat) (vals' : Nat → Option Value) (hv : ∀ y, y ≠ t → vals' y = vals y) (hvt : ∀ u', vals' t = some u' → u' = .slice none 0 0) : ∃ β', Mem e G S β' (setA t (.own κ sz []) fr) vals' w := by
  refine ⟨_, hm.make2 t _ _ (fun _ => .slice none 0 0) _ vals' hv hvt ((flat_slot rfl).2 ⟨by simp, .inl ⟨rfl, rfl⟩⟩) (fun l a h => by cases h) ?_ ?_ (fun b _ => .inl rfl) (Nat.le_refl _) rfl rfl rfl⟩
  · intro i b _ hb
    simp [blk] at hb
  · intro i j b _ _ hb
    simp [blk] at hb

/-- A new variable that takes over an owned slice. -/
theorem Mem.newBoxOwn (hm : Mem e G S β fr vals w) {s t : Nat} (hst : s ≠ t) {κ : TypeId} {sz : Nat} {es : List (List Dat)} (hs : fget fr s = .own κ sz es) (u : Value) (hu : vals s = some u) (E : TypeId) (vals' : Nat → Option Value) (hv : ∀ y, y ≠ t → vals' y = vals y) (hvt : ∀ u', vals' t = some u' → u' = .pointer (some ⟨w.heap.size, 0, none⟩)) :
    ∃ β', Mem e G S β' (setA t (.box [.own κ sz es]) ((s, .junk) :: fr)) vals' (w.alloc (.cells #[u] E)) := by
  have hd := hm.drop s
  obtain ⟨u0, hr, hu0⟩ := hm.rel s
  have huu : u = u0 := hu0 u hu
  subst huu
  rw [hs] at hr
  have hlt : ∀ b, blk u = some b → b < w.heap.size := fun b hb => hr.2.lt hb
  refine ⟨_, hd.make2 t _ _ (fun j => if j = 1 then β (s, 0) else .pointer (some ⟨w.heap.size, 0, none⟩)) _ vals' hv hvt ?_ (fun l a h => by cases h) ?_ ?_ (fun b hb => .inl (heap_alloc_old w _ hb)) (by simp) rfl rfl rfl⟩
  · refine ⟨by simp, w.heap.size, [u], E, rfl, heap_alloc_new w _, ?_, trivial⟩
    refine ⟨by simpa using hr.1, hr.2.turn (fun _ h => h) (fun b hS => heap_alloc_old w _ (hm.stb b hS).1) fun b hb => heap_alloc_old w _ (hlt b hb)⟩
  · intro i b ho hb
    have hi : i = 0 ∨ i = 1 := by
      match i, ho with
      | 0, _ => exact .inl rfl
      | 1, _ => exact .inr rfl
      | i + 2, ho => simp [AV.ownsAt] at ho
    rcases hi with rfl | rfl
    · simp only [blk] at hb
      rw [if_neg (by decide)] at hb
      simp only [Option.some.injEq] at hb
      subst hb
      exact hd.free_new t _ (Nat.le_refl _)
    · rw [if_pos rfl] at hb
      have hfr := hm.fre s 0 b (by rw [hs]; rfl) hb
      refine ⟨hfr.1, hfr.2, fun y j _ hoy hby => ?_⟩
      by_cases hys : y = s
      · subst hys
        rw [fget_cons_self] at hoy
        cases j <;> simp [AV.ownsAt, AV.isOwn] at hoy
      · rw [fget_cons_ne _ _ (Ne.symm hys)] at hoy
        exact hys (hm.dis y j s 0 b hoy (by rw [hs]; rfl) hby hb).1
  · intro i j b h1 h2 h3 h4
    have hi : ∀ i, (AV.box [.own κ sz es]).ownsAt i = true → i = 0 ∨ i = 1 := by
      intro i ho
      match i, ho with
      | 0, _ => exact .inl rfl
      | 1, _ => exact .inr rfl
      | i + 2, ho => simp [AV.ownsAt] at ho
    have hne : blk (β (s, 0)) ≠ some w.heap.size := by
      intro h
      rw [← hr.1] at h
      have := hlt _ h
      omega
    rcases hi i h1 with rfl | rfl <;> rcases hi j h2 with rfl | rfl
    · rfl
    · rw [if_neg (by decide)] at h3
      rw [if_pos rfl] at h4
      simp only [blk, Option.some.injEq] at h3
      subst h3
      exact absurd h4 hne
    · rw [if_pos rfl] at h3
      rw [if_neg (by decide)] at h4
      simp only [blk, Option.some.injEq] at h4
      subst h4
      exact absurd h3 hne
    · rfl

/-- A new slice of its own. -/
theorem Mem.newOwn (hm : Mem e G S β fr vals w) (t : Nat) (sz : Nat) (es : List (List Dat)) (l : List Value) (n c : Nat) (E : TypeId) (fz : Nat × Nat) (hn : n = es.length) (hnc : n ≤ c) (hl : l.length = c * sz) (hfz : ∀ o, o < l.length → ¬ (fz.1 ≤ o ∧ o < fz.2)) (hr : REs S w sz es (fun j => l[j]?) 0)
    (vals' : Nat → Option Value) (hv : ∀ y, y ≠ t → vals' y = vals y) (hvt : ∀ u', vals' t = some u' → u' = .slice (some ⟨w.heap.size, 0, none⟩) n c) :
    ∃ β', Mem e G S β' (setA t (.own E sz es) fr) vals' (w.alloc (.cells ⟨l⟩ E fz)) := by
  subst hn
  refine ⟨_, hm.make2 t _ _ (fun _ => .slice (some ⟨w.heap.size, 0, none⟩) es.length c) _ vals' hv hvt ?_ (fun l a h => by cases h) ?_ ?_ (fun b hb => .inl (heap_alloc_old w _ hb)) (by simp) rfl rfl rfl⟩
  · refine (flat_slot rfl).2 ⟨by simp, .inr ⟨w.heap.size, 0, c, ⟨l⟩, E, fz, rfl, hnc, by simp [hl], by simpa using hfz, heap_alloc_new w _, rfl, ?_⟩⟩
    refine REs.mono (fun _ h => h) (fun b hS => heap_alloc_old w _ (hm.stb b hS).1) _ _ _ _ (REs.congr es 0 0 (fun j _ => by simp) hr)
  · intro i b _ hb
    simp only [blk, Option.some.injEq] at hb
    subst hb
    exact hm.free_new t _ (Nat.le_refl _)
  · intro i j b h1 h2 _ _
    cases i <;> cases j <;> simp [AV.ownsAt] at h1 h2 ⊢

theorem REs_replicate {sz : Nat} {zs : List Dat} {z : List Value} (hz : RCs S w zs (fun j => z[j]?) 0) (hzl : zs.length = sz) (hzl' : z.length = sz) (n : Nat) (f : Nat → Value) (hf : ∀ j, j < n * sz → some (f j) = z[j % sz]?) (m : Nat) (hm : n ≤ m) :
    REs S w sz (List.replicate n zs) (fun j => ((List.range (m * sz)).map f)[j]?) 0 := by
  refine REs.of_get _ _ fun j x hj => ?_
  rw [List.getElem?_replicate] at hj
  split at hj
  case isFalse => cases hj
  rename_i hjn
  simp only [Option.some.injEq] at hj
  subst hj
  refine ⟨hzl, RCs.congr _ 0 _ (fun k hk => ?_) hz⟩
  rw [hzl] at hk
  have hlt : j * sz + k < n * sz := by
    have : (j + 1) * sz ≤ n * sz := Nat.mul_le_mul_right _ hjn
    rw [Nat.add_mul, Nat.one_mul] at this
    omega
  have hlt2 : j * sz + k < m * sz := Nat.lt_of_lt_of_le hlt (Nat.mul_le_mul_right _ hm)
  simp only [Nat.zero_add]
  rw [List.getElem?_map, List.getElem?_range hlt2]
  simp only [Option.map_some]
  rw [hf _ hlt]
  congr 1
  rw [Nat.mul_comm, Nat.mul_add_mod, Nat.mod_eq_of_lt hk]

end
end Go.Vm
