/-
  THE V-MACHINE, part 9: owners: their content turns, they freeze, they move.
-/
import Derived.Test.YtnjggcljonbleaaDoorVmTrans
namespace Go.Vm

/-- The value at a place, replaced. -/
def pset (fr : Fr) (p : Path) (a : AV) : Fr :=
  match p with
  | (x, 0) => (x, a) :: fr
  | (x, j + 1) => match fget fr x with
    | .box cs => (x, .box (cs.set j a)) :: fr
    | _ => fr

/-- A block that nobody but slot t can hold. -/
def Free (e : Env) (S : Nat → Prop) (β : Path → Value) (fr : Fr) (t b : Nat) : Prop :=
  ¬ S b ∧ (e.w0.heap.size ≤ b ∨ e.A b) ∧ ∀ y j, y ≠ t → (fget fr y).ownsAt j = true → blk (β (y, j)) ≠ some b

section
variable {P : Program} {e : Env} {G : GEnv} {S : Nat → Prop} {β : Path → Value} {fr : Fr} {vals : Nat → Option Value} {w : World}

theorem Mem.blt (hm : Mem e G S β fr vals w) {x j b : Nat} (ho : (fget fr x).ownsAt j = true) (hb : blk (β (x, j)) = some b) : b < w.heap.size := by
  by_cases hn : (fget fr x).noGd = true
  · exact hm.lt ho hb hn
  · cases hf : fget fr x <;> rw [hf] at hn ho <;> simp only [AV.noGd, not_true_eq_false] at hn
    rename_i l a
    have := (hm.gok x l a hf).1
    cases j <;> simp [AV.ownsAt, AV.isOwn, this] at ho

theorem Mem.free_new (hm : Mem e G S β fr vals w) (t b : Nat) (h : w.heap.size ≤ b) : Free e S β fr t b := by
  refine ⟨fun hS => ?_, .inl (Nat.le_trans hm.size h), fun y j _ ho hb => ?_⟩
  · have := (hm.stb b hS).1; omega
  · have := hm.blt ho hb; omega

/-- THE MAKING of a value that owns blocks that nobody holds. -/
theorem Mem.make2 (hm : Mem e G S β fr vals w) (t : Nat) (av : AV) (u : Value) (γ : Nat → Value) (w' : World) (vals' : Nat → Option Value) (hv : ∀ y, y ≠ t → vals' y = vals y) (hvt : ∀ u', vals' t = some u' → u' = u)
    (hrel : RSlot (condG G) S w' (fun p => if p.1 = t then γ p.2 else β p) t av u) (hgok : ∀ l a, av = .gd l a → a.isOwn = false ∧ ∀ q ∈ l, (lookG G q.1).isSome = true)
    (hfree : ∀ i b, av.ownsAt i = true → blk (γ i) = some b → Free e S β fr t b)
    (hdis : ∀ i j b, av.ownsAt i = true → av.ownsAt j = true → blk (γ i) = some b → blk (γ j) = some b → i = j)
    (hb : ∀ b, b < w.heap.size → w'.heap[b]? = w.heap[b]? ∨ Free e S β fr t b) (hsize : w.heap.size ≤ w'.heap.size) (hos : w'.os = w.os) (htape : w'.tape = w.tape) (hout : w'.output = w.output) :
    Mem e G S (fun p => if p.1 = t then γ p.2 else β p) (setA t av fr) vals' w' := by
  refine hm.change t av (slotP t) (fget_setA_self t av fr) (fun y hy => .inr (fget_setA_ne av fr hy)) (fun y j hy => by simp [hy]) (fun p hp => if_neg (slotP_ne hp)) (fun y hy u' h => by rw [← hv y hy]; exact h) ⟨u, hrel, hvt⟩ hgok ?_ ?_ ?_ (fun _ h => h) (fun _ h => .inl h) ?_ ?_ ?_ hsize hos htape hout
  · intro i j b h1 h2 h3 h4
    simp only [if_true] at h3 h4
    exact hdis i j b h1 h2 h3 h4
  · intro i y j b h1 hy h2 h3
    simp only [if_true] at h3
    exact (hfree i b h1 h3).2.2 y j hy h2
  · intro i b h1 h2
    simp only [if_true] at h2
    exact ⟨(hfree i b h1 h2).1, (hfree i b h1 h2).2.1⟩
  · intro b hS
    rcases hb b (hm.stb b hS).1 with h | h
    · exact h
    · exact absurd hS h.1
  · intro y j b hy ho hbl
    rcases hb b (hm.blt ho hbl) with h | h
    · exact h
    · exact absurd hbl (h.2.2 y j hy ho)
  · intro b h1 h2
    rcases hb b (Nat.lt_of_lt_of_le h1 hm.size) with h | h
    · exact h
    · rcases h.2.1 with h' | h'
      · omega
      · exact absurd h' h2

/-- Flat: what may lie at a place of a box, or in a slot. -/
def AV.flat : AV → Bool
  | .gd _ _ | .box _ | .tup _ | .slf _ _ => false
  | _ => true

theorem flat_slot {g : List (Nat × Bool) → Bool} {x : Nat} {a : AV} {u : Value} (hf : a.flat = true) : RSlot g S w β x a u ↔ RFlat S w β (x, 0) a u := by
  cases a <;> simp_all [AV.flat, RSlot]

theorem flat_ownsAt {a : AV} (hf : a.flat = true) (j : Nat) : a.ownsAt j = true → j = 0 ∧ a.isOwn = true := by
  cases a <;> cases j <;> simp_all [AV.flat, AV.ownsAt, AV.isOwn]

theorem box_ownsAt_set {cs : List AV} {j : Nat} {a : AV} {i : Nat} (h : (AV.box (cs.set j a)).ownsAt i = true) : (i = j + 1 ∧ a.isOwn = true) ∨ (i ≠ j + 1 ∧ (AV.box cs).ownsAt i = true) := by
  cases i with
  | zero => exact .inr ⟨by omega, rfl⟩
  | succ i =>
    simp only [AV.ownsAt, List.getElem?_set] at h
    by_cases hij : j = i
    · subst hij
      left
      refine ⟨rfl, ?_⟩
      rw [if_pos rfl] at h
      split at h
      · simpa using h
      · simp at h
    · rw [if_neg hij] at h
      exact .inr ⟨by omega, h⟩

/-- THE CONTENT AT A PLACE TURNS: what was owned at p is now a'; the world turns at p's block alone; p's block may become stable. -/
theorem Mem.pset (hm : Mem e G S β fr vals w) {p : Path} {κ : TypeId} {sz : Nat} {es : List (List Dat)} (hp : pget fr p = .own κ sz es) {a' : AV} (hf : a'.flat = true) {S' : Nat → Prop} {w' : World}
    (hrel : RFlat S' w' β p a' (β p)) (hsub : ∀ b, S b → S' b) (hS : ∀ b, S' b → S b ∨ (blk (β p) = some b ∧ a'.isOwn = false))
    (hw : ∀ b, blk (β p) ≠ some b → w'.heap[b]? = w.heap[b]?) (hsize : w'.heap.size = w.heap.size) (hos : w'.os = w.os) (htape : w'.tape = w.tape) (hout : w'.output = w.output) :
    Mem e G S' β (pset fr p a') vals w' := by
  obtain ⟨x, i⟩ := p
  have hox : (fget fr x).ownsAt i = true := by
    cases i with
    | zero => simp only [pget] at hp; rw [hp]; rfl
    | succ j =>
      simp only [pget] at hp
      split at hp
      · rename_i cs hb
        rw [hb]
        simp only [List.getD_eq_getElem?_getD] at hp
        cases hc : cs[j]? with
        | none => simp [hc] at hp
        | some c => simp [hc] at hp; simp [AV.ownsAt, hc, hp, AV.isOwn]
      · cases hp
  have hag : Agree S w w' := fun b hS' => hw b fun hbl => (hm.fre x i b hox hbl).1 hS'
  have hoth : ∀ y j b, (y, j) ≠ (x, i) → (fget fr y).ownsAt j = true → blk (β (y, j)) = some b → w'.heap[b]? = w.heap[b]? := by
    intro y j b hne ho hbl
    refine hw b fun h => hne ?_
    obtain ⟨h1, h2⟩ := hm.dis y j x i b ho hox hbl h
    rw [h1, h2]
  have hSnew : ∀ b, S' b → S b ∨ (b < w'.heap.size ∧ (e.w0.heap.size ≤ b ∨ e.A b) ∧ ∀ y j, y ≠ x → (fget fr y).ownsAt j = true → blk (β (y, j)) ≠ some b) := by
    intro b hb
    rcases hS b hb with h | ⟨h, _⟩
    · exact .inl h
    · refine .inr ⟨by rw [hsize]; exact hm.blt hox h, (hm.fre x i b hox h).2, fun y j hy ho hbl => ?_⟩
      exact hy (hm.dis y j x i b ho hox hbl h).1
  have hold : ∀ b, b < e.w0.heap.size → ¬ e.A b → w'.heap[b]? = w.heap[b]? := by
    intro b h1 h2
    refine hw b fun h => ?_
    rcases (hm.fre x i b hox h).2 with h' | h'
    · omega
    · exact h2 h'
  cases i with
  | zero =>
    simp only [pget] at hp
    have hslot : ∃ u, RSlot (condG G) S' w' β x a' u ∧ ∀ u', vals x = some u' → u' = u := by
      obtain ⟨u, hr, hu⟩ := hm.rel x
      rw [hp] at hr
      have hub : u = β (x, 0) := hr.1
      exact ⟨u, (flat_slot hf).2 (by rw [hub]; exact hrel), hu⟩
    refine hm.change x a' (slotP x) (by simp [Vm.pset, fget_cons_self]) (fun y hy => .inl ⟨by simp only [Vm.pset]; exact fget_cons_ne _ _ (Ne.symm hy), fun _ => rfl⟩) (fun _ _ _ => rfl) (fun _ _ => rfl) (fun _ _ _ h => h) hslot (fun l a h => by subst h; simp [AV.flat] at hf) ?_ ?_ ?_ hsub hSnew hag (fun y j b hy ho hbl => hoth y j b (by simp [hy]) ho hbl) hold (Nat.le_of_eq hsize.symm) hos htape hout
    · intro i j b h1 h2 _ _
      rw [(flat_ownsAt hf i h1).1, (flat_ownsAt hf j h2).1]
    · intro i y j b h1 hy h2 h3 h4
      obtain ⟨rfl, _⟩ := flat_ownsAt hf i h1
      exact hy (hm.dis x 0 y j b hox h2 h3 h4).1.symm
    · intro i b h1 h2
      obtain ⟨rfl, h3⟩ := flat_ownsAt hf i h1
      refine ⟨fun hb => ?_, (hm.fre x 0 b hox h2).2⟩
      rcases hS b hb with h | ⟨_, h⟩
      · exact (hm.fre x 0 b hox h2).1 h
      · rw [h] at h3; cases h3
  | succ k =>
    simp only [pget] at hp
    split at hp
    case h_2 => cases hp
    rename_i cs hbox
    simp only [List.getD_eq_getElem?_getD] at hp
    have hc : cs[k]? = some (.own κ sz es) := by
      cases hc : cs[k]? with
      | none => simp [hc] at hp
      | some c => simp [hc] at hp; rw [hp]
    have hslot : ∃ u, RSlot (condG G) S' w' β x (.box (cs.set k a')) u ∧ ∀ u', vals x = some u' → u' = u := by
      obtain ⟨u, hr, hu⟩ := hm.rel x
      rw [hbox] at hr
      obtain ⟨h0, b, l, E, h1, h2, h3⟩ := hr
      refine ⟨u, ⟨h0, b, l, E, h1, ?_, ?_⟩, hu⟩
      · rw [hoth x 0 b (by simp) (by rw [hbox]; rfl) (by rw [← h0, h1]; rfl)]
        exact h2
      · refine All2.of_get (by simpa using All2.len h3) fun j a c ha hcj => ?_
        simp only [Nat.zero_add]
        rw [List.getElem?_set] at ha
        by_cases hkj : k = j
        · subst hkj
          rw [if_pos rfl] at ha
          split at ha
          · simp only [Option.some.injEq] at ha
            subst ha
            obtain ⟨c', hc', hrc⟩ := All2.get h3 k _ hc
            rw [hcj] at hc'
            cases hc'
            simp only [Nat.zero_add] at hrc
            have : c = β (x, k + 1) := hrc.1
            rw [this]; exact hrel
          · cases ha
        · rw [if_neg hkj] at ha
          obtain ⟨c', hc', hrc⟩ := All2.get h3 j a ha
          rw [hcj] at hc'
          cases hc'
          simp only [Nat.zero_add] at hrc
          refine hrc.turn hsub hag rfl (fun _ _ => ⟨rfl, tyAt_same fun b hbl => hoth x 0 b (by simp) (by rw [hbox]; rfl) hbl⟩) (fun ho b hbl => hoth x (j + 1) b (by simp; omega) (by rw [hbox]; simp [AV.ownsAt, ha, ho]) hbl) (fun _ _ => rfl)
    have hfg : fget (Vm.pset fr (x, k + 1) a') x = .box (cs.set k a') := by simp [Vm.pset, hbox, fget_cons_self]
    refine hm.change x (.box (cs.set k a')) (slotP x) hfg (fun y hy => .inl ⟨by simp only [Vm.pset, hbox]; exact fget_cons_ne _ _ (Ne.symm hy), fun _ => rfl⟩) (fun _ _ _ => rfl) (fun _ _ => rfl) (fun _ _ _ h => h) hslot (fun l a h => by cases h) ?_ ?_ ?_ hsub hSnew hag (fun y j b hy ho hbl => hoth y j b (by simp [hy]) ho hbl) hold (Nat.le_of_eq hsize.symm) hos htape hout
    · intro i j b h1 h2 h3 h4
      have hi : (fget fr x).ownsAt i = true := by
        rcases box_ownsAt_set h1 with ⟨rfl, _⟩ | ⟨_, h⟩
        · exact hox
        · rw [hbox]; exact h
      have hj : (fget fr x).ownsAt j = true := by
        rcases box_ownsAt_set h2 with ⟨rfl, _⟩ | ⟨_, h⟩
        · exact hox
        · rw [hbox]; exact h
      exact (hm.dis x i x j b hi hj h3 h4).2
    · intro i y j b h1 hy h2 h3 h4
      have hi : (fget fr x).ownsAt i = true := by
        rcases box_ownsAt_set h1 with ⟨rfl, _⟩ | ⟨_, h⟩
        · exact hox
        · rw [hbox]; exact h
      exact hy (hm.dis x i y j b hi h2 h3 h4).1.symm
    · intro i b h1 h2
      rcases box_ownsAt_set h1 with ⟨rfl, ha⟩ | ⟨hne, h⟩
      · refine ⟨fun hb => ?_, (hm.fre x _ b hox h2).2⟩
        rcases hS b hb with h | ⟨_, h⟩
        · exact (hm.fre x _ b hox h2).1 h
        · rw [h] at ha; cases ha
      · have hi : (fget fr x).ownsAt i = true := by rw [hbox]; exact h
        refine ⟨fun hb => ?_, (hm.fre x i b hi h2).2⟩
        rcases hS b hb with h' | ⟨h', _⟩
        · exact (hm.fre x i b hi h2).1 h'
        · exact hne (hm.dis x i x (k + 1) b hi hox h2 h').2

/-- An owner freezes: what it holds is immutable from now on. -/
theorem Mem.freeze (hm : Mem e G S β fr vals w) {p : Path} {κ : TypeId} {sz : Nat} {es : List (List Dat)} (hp : pget fr p = .own κ sz es) : Mem e G (fun b => S b ∨ blk (β p) = some b) β (Vm.pset fr p (.fz sz es)) vals w := by
  refine hm.pset hp rfl (S' := fun b => S b ∨ blk (β p) = some b) ⟨rfl, ?_⟩ (fun _ h => .inl h) (fun b h => h.imp id fun h => ⟨h, rfl⟩) (fun _ _ => rfl) rfl rfl rfl rfl
  have ho := pget_own hm hp
  simp only [RD]
  rcases ho with h | ⟨b, off, c, arr, E, fz, h1, h2, h3, h4, h5, hκ, h6⟩
  · exact .inl ⟨⟨_, h.1⟩, h.2⟩
  · exact .inr ⟨b, off, c, arr, E, fz, h1, h2, .inr (by rw [h1]; rfl), h5, REs.mono (fun _ h => .inl h) (fun _ _ => rfl) sz es _ _ h6⟩

theorem Mem.dropAt (hm : Mem e G S β fr vals w) {p : Path} {κ : TypeId} {sz : Nat} {es : List (List Dat)} (hp : pget fr p = .own κ sz es) : Mem e G S β (Vm.pset fr p .junk) vals w :=
  hm.pset hp rfl trivial (fun _ h => h) (fun _ h => .inl h) (fun _ _ => rfl) rfl rfl rfl rfl

theorem pget_owns {p : Path} {κ : TypeId} {sz : Nat} {es : List (List Dat)} (hp : pget fr p = .own κ sz es) : (fget fr p.1).ownsAt p.2 = true := by
  obtain ⟨x, i⟩ := p
  cases i with
  | zero => simp only [pget] at hp; rw [hp]; rfl
  | succ j =>
    simp only [pget] at hp
    split at hp
    · rename_i cs hb
      simp only at hb ⊢
      rw [hb]
      simp only [List.getD_eq_getElem?_getD] at hp
      cases hc : cs[j]? with
      | none => simp [hc] at hp
      | some c => simp [hc] at hp; simp [AV.ownsAt, hc, hp, AV.isOwn]
    · cases hp

/-- The block of an owner that has been dropped is free. -/
theorem Mem.free_dropped (hm : Mem e G S β fr vals w) {p : Path} {κ : TypeId} {sz : Nat} {es : List (List Dat)} (hp : pget fr p = .own κ sz es) (t b : Nat) (hb : blk (β p) = some b) : Free e S β (Vm.pset fr p .junk) t b := by
  have ho := pget_owns hp
  have hf := hm.fre p.1 p.2 b ho hb
  refine ⟨hf.1, hf.2, fun y j _ hoy hby => ?_⟩
  obtain ⟨x, i⟩ := p
  have hsub : (y, j) ≠ (x, i) ∧ (fget fr y).ownsAt j = true := by
    cases i with
    | zero =>
      simp only [Vm.pset, fget_cons] at hoy
      split at hoy
      · cases j <;> simp [AV.ownsAt, AV.isOwn] at hoy
      · rename_i hne
        exact ⟨fun h => hne (by cases h; rfl), hoy⟩
    | succ k =>
      simp only [pget] at hp
      split at hp
      case h_2 => cases hp
      rename_i cs hbox
      simp only [Vm.pset, hbox, fget_cons] at hoy
      split at hoy
      · rename_i hxy
        subst hxy
        rcases box_ownsAt_set hoy with ⟨_, h⟩ | ⟨h1, h2⟩
        · cases h
        · exact ⟨fun h => h1 (by cases h; rfl), by rw [hbox]; exact h2⟩
      · rename_i hne
        exact ⟨fun h => hne (by cases h; rfl), hoy⟩
  obtain ⟨h1, h2⟩ := hm.dis y j x i b hsub.2 ho hby hb
  exact hsub.1 (by rw [h1, h2])

end
end Go.Vm
