/-
  THE V-MACHINE, part 12: an owner moves from slot to slot.
-/
import Derived.Test.YtnjggcljonbleaaDoorVmAlloc
namespace Go.Vm
section
variable {P : Program} {e : Env} {G : GEnv} {S : Nat → Prop} {β : Path → Value} {fr : Fr} {vals : Nat → Option Value} {w : World}

/-- The same value in another slot, where the places have other names. -/
theorem RFlat.rename {β' : Path → Value} {p q : Path} {a : AV} {u : Value} (h : RFlat S w β p a u) (hs : β' q = β p) (hslf : a.noSlf = true ∨ (p.2 = 0 ∨ q.2 ≠ 0) ∧ β' (q.1, 0) = β (p.1, 0)) (hr : ∀ q ∈ a.paths0, β' q = β q) : RFlat S w β' q a u := by
  cases a <;> simp only [RFlat] at h ⊢
  case d => exact h
  case agg => exact h
  case own => exact ⟨h.1.trans hs.symm, h.2⟩
  case fz => exact ⟨h.1.trans hs.symm, h.2⟩
  case vw => exact h.turn hr
  case bp => exact h.turn hr
  case ep => exact h.turn hr
  case glo k cs => exact ⟨h.1.trans hs.symm, h.2⟩
  case slf off E =>
    rcases hslf with h' | ⟨h1, h2⟩
    · cases h'
    · rw [h2]
      exact ⟨h1.resolve_left h.1, h.2⟩
  case clo f caps =>
    obtain ⟨l, h1, h2⟩ := h
    refine ⟨l, h1, h2.mono fun j a c haj _ hrr => hrr.turn (fun _ h => h) (fun _ _ => rfl) fun y hy => hr y ?_⟩
    simp only [AV.paths0, List.mem_flatMap]
    exact ⟨a, List.mem_of_getElem? haj, hy⟩

theorem RSlot.rename {g : List (Nat × Bool) → Bool} {β' : Path → Value} {s t : Nat} {a : AV} {u : Value} (h : RSlot g S w β s a u) (hs : ∀ j, β' (t, j) = β (s, j)) (hr : ∀ q ∈ a.paths, β' q = β q) : RSlot g S w β' t a u := by
  have parts : ∀ (cs : List AV) (l : List Value), (∀ q ∈ cs.flatMap AV.paths1, β' q = β q) → RParts S w β s cs l → RParts S w β' t cs l := by
    intro cs l h1 h2
    refine All2.mono h2 fun j a c haj _ hrr => ?_
    simp only [Nat.zero_add] at hrr ⊢
    refine hrr.rename (hs _) (.inr ⟨.inr (by simp), hs 0⟩) fun y hy => h1 y ?_
    exact List.mem_flatMap.2 ⟨a, List.mem_of_getElem? haj, AV.paths01 a y hy⟩
  cases a
  case gd l a0 => exact ⟨fun e => (h.1 e).rename (hs 0) (.inr ⟨.inl rfl, hs 0⟩) fun y hy => hr y (by simpa [AV.paths, AV.paths1] using hy), h.2⟩
  case tup vs =>
    obtain ⟨l, h1, h0, h2⟩ := h
    exact ⟨l, h1, h0, parts _ _ (fun y hy => hr y (by simpa [AV.paths] using hy)) h2⟩
  case box cs =>
    obtain ⟨h0, b, l, E, h1, h2, h3⟩ := h
    exact ⟨h0.trans (hs 0).symm, b, l, E, h1, h2, parts _ _ (fun y hy => hr y (by simpa [AV.paths] using hy)) h3⟩
  all_goals (
    simp only [RSlot] at h ⊢
    exact h.rename (hs 0) (.inr ⟨.inl rfl, hs 0⟩) fun y hy => hr y (AV.paths01 _ y hy))

theorem AV.purge_noGd {π : Path → Bool} {a : AV} (h : a.noGd = true) : (a.purge π).noGd = true := by
  cases hp : a.purge π <;> simp only [AV.noGd]
  have := AV.purge_gd hp
  rw [this] at h
  cases h

/-- A value, owner or not, moves from slot s to slot t. -/
theorem Mem.move (hm : Mem e G S β fr vals w) {s t : Nat} (hst : s ≠ t) (hng : (fget fr s).noGd = true) (u : Value) (hu : vals s = some u) (vals' : Nat → Option Value) (hv : ∀ y, y ≠ t → vals' y = vals y) (hvt : ∀ u', vals' t = some u' → u' = u) :
    Mem e G S (fun p => if p.1 = t then β (s, p.2) else β p) (setA t ((fget fr s).purge (slotP t)) ((s, .junk) :: fr)) vals' w := by
  have hd := hm.drop s
  have hf : ∀ y, y ≠ s → fget ((s, AV.junk) :: fr) y = fget fr y := fun y hy => fget_cons_ne _ _ (Ne.symm hy)
  have hfs : fget ((s, AV.junk) :: fr) s = .junk := fget_cons_self s _ _
  refine hd.make2 t _ u (fun j => β (s, j)) w vals' hv hvt ?_ ?_ ?_ ?_ (fun _ _ => .inl rfl) (Nat.le_refl _) rfl rfl rfl
  · obtain ⟨u0, hr, hu0⟩ := hm.rel s
    have : u = u0 := hu0 u hu
    subst this
    refine (hr.purge (slotP t)).rename (fun j => by simp) fun q hq => ?_
    exact if_neg (slotP_ne (AV.purge_paths hq).1)
  · intro l a h
    have := AV.purge_noGd (π := slotP t) hng
    rw [h] at this
    cases this
  · intro i b ho hb
    have ho' := AV.purge_ownsAt (slotP t) _ i ho
    have hfr := hm.fre s i b ho' hb
    refine ⟨hfr.1, hfr.2, fun y j _ hoy hby => ?_⟩
    by_cases hys : y = s
    · subst hys
      rw [hfs] at hoy
      cases j <;> simp [AV.ownsAt, AV.isOwn] at hoy
    · rw [hf y hys] at hoy
      exact hys (hm.dis y j s i b hoy ho' hby hb).1
  · intro i j b h1 h2 h3 h4
    exact (hm.dis s i s j b (AV.purge_ownsAt (slotP t) _ i h1) (AV.purge_ownsAt (slotP t) _ j h2) h3 h4).2

/-- A part of a tuple, or the cell of a box, that owns moves to slot t; at its place nothing is known. -/
def AV.without (j : Nat) : AV → AV
  | .tup vs => .tup (vs.set j .junk)
  | .box vs => .box (vs.set j .junk)
  | a => a

theorem tup_ownsAt_set {cs : List AV} {j i : Nat} (h : ((AV.tup cs).without j).ownsAt i = true) : i ≠ j + 1 ∧ (AV.tup cs).ownsAt i = true := by
  cases i with
  | zero => simp [AV.without, AV.ownsAt, AV.isOwn] at h
  | succ i =>
    simp only [AV.without, AV.ownsAt, List.getElem?_set] at h
    by_cases hij : j = i
    · subst hij
      rw [if_pos rfl] at h
      split at h <;> simp [AV.isOwn] at h
    · rw [if_neg hij] at h
      exact ⟨by omega, h⟩

theorem Mem.extract (hm : Mem e G S β fr vals w) {s t j : Nat} (hst : s ≠ t) {vs : List AV} (hs : fget fr s = .tup vs) {κ : TypeId} {sz : Nat} {es : List (List Dat)} (hj : vs[j]? = some (.own κ sz es)) (l : List Value) (hu : vals s = some (.tuple ⟨l⟩)) (u : Value) (hl : l[j]? = some u)
    (vals' : Nat → Option Value) (hv : ∀ y, y ≠ t → vals' y = vals y) (hvt : ∀ u', vals' t = some u' → u' = u) :
    Mem e G S (fun p => if p.1 = t then β (s, j + 1) else β p) (setA t (.own κ sz es) ((s, .tup (vs.set j .junk)) :: fr)) vals' w := by
  have hd : Mem e G S β ((s, .tup (vs.set j .junk)) :: fr) vals w := by
    refine hm.weaken s _ (fun u hr => ?_) (fun i h => ?_) (fun l a h => by cases h)
    · rw [hs] at hr
      obtain ⟨l, h1, h0, h2⟩ := hr
      refine ⟨l, h1, ?_, All2.of_get (by simpa using All2.len h2) fun i a c ha hc => ?_⟩
      · rw [List.all_eq_true] at h0 ⊢
        intro a ha
        rcases List.mem_or_eq_of_mem_set ha with h | h
        · exact h0 a h
        · rw [h]; rfl
      rw [List.getElem?_set] at ha
      by_cases hij : j = i
      · rw [if_pos hij] at ha
        split at ha
        · simp only [Option.some.injEq] at ha
          subst ha
          exact trivial
        · cases ha
      · rw [if_neg hij] at ha
        obtain ⟨c', hc', hr⟩ := All2.get h2 i a ha
        rw [hc] at hc'
        cases hc'
        exact hr
    · rw [hs]
      exact (tup_ownsAt_set (j := j) h).2
  have how : (fget fr s).ownsAt (j + 1) = true := by rw [hs]; simp [AV.ownsAt, hj, AV.isOwn]
  refine hd.make2 t _ u (fun _ => β (s, j + 1)) w vals' hv hvt ?_ (fun l a h => by cases h) ?_ ?_ (fun _ _ => .inl rfl) (Nat.le_refl _) rfl rfl rfl
  · obtain ⟨u0, hr, hu0⟩ := hm.rel s
    rw [hs] at hr
    obtain ⟨l', h1, _, h2⟩ := hr
    have := hu0 _ hu
    rw [h1] at this
    simp only [Value.tuple.injEq, Array.mk.injEq] at this
    subst this
    obtain ⟨c, hc, hrc⟩ := All2.get h2 j _ hj
    rw [hl] at hc
    cases hc
    simp only [Nat.zero_add] at hrc
    exact (flat_slot rfl).2 ⟨by simpa using hrc.1, hrc.2⟩
  · intro i b ho hb
    have hfr := hm.fre s (j + 1) b how hb
    refine ⟨hfr.1, hfr.2, fun y k _ hoy hby => ?_⟩
    by_cases hys : y = s
    · subst hys
      rw [fget_cons_self] at hoy
      obtain ⟨h1, h2⟩ := tup_ownsAt_set (j := j) hoy
      exact h1 (hm.dis y k y (j + 1) b (by rw [hs]; exact h2) how hby hb).2
    · rw [fget_cons_ne _ _ (Ne.symm hys)] at hoy
      exact hys (hm.dis y k s (j + 1) b hoy how hby hb).1
  · intro i j b h1 h2 _ _
    cases i <;> cases j <;> simp [AV.ownsAt] at h1 h2 ⊢

end
end Go.Vm
