/-
  THE V-MACHINE, part 2: frames of abstract values, and what they say of slots and memory.
-/
import Derived.Test.YtnjggcljonbleaaDoorVmBase
namespace Go.Vm

abbrev Fr := List (Nat × AV)

def fget : Fr → Nat → AV
  | [], _ => .junk
  | (y, a) :: r, x => if y == x then a else fget r x

def AV.isOwn : AV → Bool
  | .own _ _ _ | .box _ => true
  | .gd _ a => a.isOwn
  | _ => false

/-- The places to which a value refers. -/
def AV.pathsF : AV → List Path
  | .vw p => [p]
  | .bp y _ => [(y, 0)]
  | .ep p _ _ _ => [p]
  | _ => []
def AV.paths0 : AV → List Path
  | .clo _ caps => caps.flatMap AV.pathsF
  | a => a.pathsF
def AV.paths1 : AV → List Path
  | .gd _ a => a.paths0
  | a => a.paths0
def AV.paths : AV → List Path
  | .box cs => cs.flatMap AV.paths1
  | .tup vs => vs.flatMap AV.paths1
  | a => a.paths1
def AV.purge1 (π : Path → Bool) (a : AV) : AV := if a.paths1.any π then .junk else a
def AV.purge (π : Path → Bool) : AV → AV
  | .box cs => .box (cs.map (AV.purge1 π))
  | .tup vs => .tup (vs.map (AV.purge1 π))
  | a => a.purge1 π
def purgeP (π : Path → Bool) (fr : Fr) : Fr := fr.map fun p => (p.1, p.2.purge π)
/-- All places of a slot. -/
def slotP (x : Nat) : Path → Bool := fun p => p.1 == x
def purge (x : Nat) (fr : Fr) : Fr := purgeP (slotP x) fr

theorem fget_cons_self (x : Nat) (a : AV) (fr : Fr) : fget ((x, a) :: fr) x = a := by simp [fget]
theorem fget_cons_ne {x y : Nat} (a : AV) (fr : Fr) (h : y ≠ x) : fget ((y, a) :: fr) x = fget fr x := by simp [fget, h]
theorem fget_cons (x y : Nat) (a : AV) (fr : Fr) : fget ((y, a) :: fr) x = if y = x then a else fget fr x := by simp [fget]

theorem fget_purgeP (π : Path → Bool) (y : Nat) : ∀ fr : Fr, fget (purgeP π fr) y = (fget fr y).purge π
  | [] => by simp [purgeP, fget, AV.purge, AV.purge1, AV.paths1, AV.paths0, AV.pathsF]
  | (z, a) :: r => by
    have ih := fget_purgeP π y r
    simp only [purgeP] at ih
    simp only [purgeP, List.map_cons, fget]
    by_cases h : z == y <;> simp [h, ih]
theorem fget_purge (x y : Nat) (fr : Fr) : fget (purge x fr) y = (fget fr y).purge (slotP x) := fget_purgeP _ y fr

/-- A slice that is owned: nil, or the head of a row with room behind it. -/
def OwnAt (S : Nat → Prop) (w : World) (u : Value) (κ : TypeId) (sz : Nat) (es : List (List Dat)) : Prop :=
  (u = .slice none 0 0 ∧ es = []) ∨ ∃ b off c arr E fz, u = .slice (some ⟨b, off, none⟩) es.length c ∧ es.length ≤ c ∧ off + c * sz ≤ arr.size ∧ (∀ o, o < arr.size → ¬ (fz.1 ≤ o ∧ o < fz.2)) ∧ w.heap[b]? = some (.cells arr E fz) ∧ E = κ ∧ REs S w sz es (fun j => arr[j]?) off

def blk : Value → Option Nat
  | .slice (some a) _ _ => some a.block
  | .pointer (some a) => some a.block
  | _ => none

/-- References (no memory is looked at): the places' values are β's. -/
def RRef (β : Path → Value) : AV → Value → Prop
  | .vw p, u => u = β p
  | .bp x off, u => ∃ b, β (x, 0) = .pointer (some ⟨b, 0, none⟩) ∧ u = .pointer (some ⟨b, off, none⟩)
  | .ep p sz i off, u => ∃ b o n c, β p = .slice (some ⟨b, o, none⟩) n c ∧ u = .pointer (some ⟨b, o + (i * sz + off), none⟩)
  | _, _ => False

/-- What a closure captures: data, references. -/
def RCap (S : Nat → Prop) (w : World) (β : Path → Value) : AV → Value → Prop
  | .d x, u => RD S w x u
  | .vw p, u => RRef β (.vw p) u
  | .bp x off, u => RRef β (.bp x off) u
  | _, _ => False

/-- Two lists, place by place. -/
def All2 {α γ : Type} (R : Nat → α → γ → Prop) : Nat → List α → List γ → Prop
  | _, [], [] => True
  | i, a :: as, c :: cs => R i a c ∧ All2 R (i + 1) as cs
  | _, _, _ => False

/-- The type of the cells to which a pointer points. -/
def tyAt (w : World) : Value → Option TypeId
  | .pointer (some a) => match w.heap[a.block]? with
    | some (.cells _ E _) => some E
    | _ => none
  | _ => none
theorem tyAt_same {w w' : World} {v : Value} (h : ∀ b, blk v = some b → w'.heap[b]? = w.heap[b]?) : tyAt w' v = tyAt w v := by
  unfold tyAt
  split
  · rename_i a
    rw [h a.block rfl]
  · rfl
def AV.noSlf : AV → Bool
  | .slf _ _ => false
  | _ => true

def RFlat (S : Nat → Prop) (w : World) (β : Path → Value) (p : Path) : AV → Value → Prop
  | .junk, _ => True
  | .d x, u => RD S w x u
  | .agg cs, u => ∃ l, u = .agg ⟨l⟩ ∧ l.length = cs.length ∧ RCs S w cs (fun j => l[j]?) 0
  | .own κ sz es, u => u = β p ∧ OwnAt S w u κ sz es
  | .fz sz es, u => u = β p ∧ RD S w (.sl sz es) u
  | .clo f caps, u => ∃ l, u = .func (.func f) #[] ⟨l⟩ ∧ All2 (fun _ => RCap S w β) 0 caps l
  | .vw q, u => RRef β (.vw q) u
  | .bp x off, u => RRef β (.bp x off) u
  | .ep q sz i off, u => RRef β (.ep q sz i off) u
  | .glo k cs, u => u = β p ∧ u = .pointer (some ⟨k, 0, none⟩) ∧ RD S w (.pt cs) u
  | .slf off E, u => p.2 ≠ 0 ∧ tyAt w (β (p.1, 0)) = some E ∧ (u = .pointer none ∨ ∃ b, β (p.1, 0) = .pointer (some ⟨b, 0, none⟩) ∧ u = .pointer (some ⟨b, off, none⟩))
  | _, _ => False

/-- The cells of a box, or the parts of a tuple, at the places (x, j + 1). -/
def RParts (S : Nat → Prop) (w : World) (β : Path → Value) (x : Nat) (cs : List AV) (l : List Value) : Prop :=
  All2 (fun j a u => RFlat S w β (x, j + 1) a u) 0 cs l

def RSlot (h : List (Nat × Bool) → Bool) (S : Nat → Prop) (w : World) (β : Path → Value) (x : Nat) : AV → Value → Prop
  | .gd g a, u => (h g = true → RFlat S w β (x, 0) a u) ∧ (h g = false → u = undef)
  | .tup vs, u => ∃ l, u = .tuple ⟨l⟩ ∧ vs.all AV.noSlf = true ∧ RParts S w β x vs l
  | .box cs, u => u = β (x, 0) ∧ ∃ b l E, u = .pointer (some ⟨b, 0, none⟩) ∧ w.heap[b]? = some (.cells ⟨l⟩ E (0, 0)) ∧ RParts S w β x cs l
  | a, u => RFlat S w β (x, 0) a u

/-- The parts of a slot's value that own memory. -/
def AV.ownsAt : AV → Nat → Bool
  | .box cs, j + 1 => ((cs[j]?).map AV.isOwn).getD false
  | .tup cs, j + 1 => ((cs[j]?).map AV.isOwn).getD false
  | a, 0 => a.isOwn
  | _, _ => false

theorem All2.len {α γ : Type} {R : Nat → α → γ → Prop} : ∀ {i : Nat} {as : List α} {cs : List γ}, All2 R i as cs → as.length = cs.length
  | _, [], [], _ => rfl
  | i, a :: as, c :: cs, h => by simp [All2] at h; simp [All2.len h.2]
  | _, [], _ :: _, h => by simp [All2] at h
  | _, _ :: _, [], h => by simp [All2] at h
theorem All2.get {α γ : Type} {R : Nat → α → γ → Prop} : ∀ {i : Nat} {as : List α} {cs : List γ}, All2 R i as cs → ∀ (j : Nat) (a : α), as[j]? = some a → ∃ c, cs[j]? = some c ∧ R (i + j) a c
  | _, [], [], _, j, a, ha => by simp at ha
  | i, x :: as, c :: cs, h, 0, a, ha => by
    simp [All2] at h
    simp at ha
    subst ha
    exact ⟨c, by simp, by simpa using h.1⟩
  | i, x :: as, c :: cs, h, j + 1, a, ha => by
    simp [All2] at h
    obtain ⟨c', h1, h2⟩ := All2.get h.2 j a (by simpa using ha)
    exact ⟨c', by simpa using h1, by simpa [Nat.add_assoc, Nat.add_comm 1 j] using h2⟩
  | _, [], _ :: _, h, _, _, _ => by simp [All2] at h
  | _, _ :: _, [], h, _, _, _ => by simp [All2] at h
theorem All2.mono {α γ : Type} {R R' : Nat → α → γ → Prop} : ∀ {i : Nat} {as : List α} {cs : List γ}, All2 R i as cs → (∀ j a c, as[j]? = some a → cs[j]? = some c → R (i + j) a c → R' (i + j) a c) → All2 R' i as cs
  | _, [], [], _, _ => by simp [All2]
  | i, x :: as, c :: cs, h, k => by
    simp [All2] at h ⊢
    refine ⟨by simpa using k 0 x c (by simp) (by simp) (by simpa using h.1), All2.mono h.2 fun j a c' ha hc hr => ?_⟩
    have := k (j + 1) a c' (by simpa using ha) (by simpa using hc) (by simpa [Nat.add_assoc, Nat.add_comm 1 j] using hr)
    simpa [Nat.add_assoc, Nat.add_comm 1 j] using this
  | _, [], _ :: _, h, _ => by simp [All2] at h
  | _, _ :: _, [], h, _ => by simp [All2] at h
theorem All2.map {α γ : Type} {R R' : Nat → α → γ → Prop} (f : α → α) : ∀ {i : Nat} {as : List α} {cs : List γ}, All2 R i as cs → (∀ j a c, as[j]? = some a → cs[j]? = some c → R (i + j) a c → R' (i + j) (f a) c) → All2 R' i (as.map f) cs
  | _, [], [], _, _ => by simp [All2]
  | i, x :: as, c :: cs, h, k => by
    simp [All2] at h ⊢
    refine ⟨by simpa using k 0 x c (by simp) (by simp) (by simpa using h.1), All2.map f h.2 fun j a c' ha hc hr => ?_⟩
    have := k (j + 1) a c' (by simpa using ha) (by simpa using hc) (by simpa [Nat.add_assoc, Nat.add_comm 1 j] using hr)
    simpa [Nat.add_assoc, Nat.add_comm 1 j] using this
  | _, [], _ :: _, h, _ => by simp [All2] at h
  | _, _ :: _, [], h, _ => by simp [All2] at h
theorem All2.of_get {α γ : Type} {R : Nat → α → γ → Prop} : ∀ {i : Nat} {as : List α} {cs : List γ}, as.length = cs.length → (∀ j a c, as[j]? = some a → cs[j]? = some c → R (i + j) a c) → All2 R i as cs
  | _, [], [], _, _ => by simp [All2]
  | i, x :: as, c :: cs, hl, k => by
    simp only [All2]
    refine ⟨by simpa using k 0 x c (by simp) (by simp), All2.of_get (by simpa using hl) fun j a c' ha hc => ?_⟩
    have := k (j + 1) a c' (by simpa using ha) (by simpa using hc)
    simpa [Nat.add_assoc, Nat.add_comm 1 j] using this
  | _, [], _ :: _, h, _ => by simp at h
  | _, _ :: _, [], h, _ => by simp at h

theorem OwnAt.turn {S S' : Nat → Prop} {w w' : World} {u : Value} {κ : TypeId} {sz : Nat} {es : List (List Dat)} (h : OwnAt S w u κ sz es) (hs : ∀ b, S b → S' b) (ha : Agree S w w') (hb : ∀ b, blk u = some b → w'.heap[b]? = w.heap[b]?) : OwnAt S' w' u κ sz es := by
  rcases h with h | ⟨b, off, c, arr, E, fz, h1, h2, h3, hf, h4, hκ, h5⟩
  · exact .inl h
  · exact .inr ⟨b, off, c, arr, E, fz, h1, h2, h3, hf, (hb b (by simp [h1, blk])).trans h4, hκ, REs.mono hs ha sz es _ _ h5⟩

theorem RRef.turn {β β' : Path → Value} {a : AV} {u : Value} (h : RRef β a u) (hb : ∀ p ∈ a.pathsF, β' p = β p) : RRef β' a u := by
  cases a <;> simp only [RRef] at h ⊢
  case vw p => rw [hb p (by simp [AV.pathsF])]; exact h
  case bp x off => rw [hb (x, 0) (by simp [AV.pathsF])]; exact h
  case ep p sz i off => rw [hb p (by simp [AV.pathsF])]; exact h

theorem RCap.turn {S S' : Nat → Prop} {w w' : World} {β β' : Path → Value} {a : AV} {u : Value} (h : RCap S w β a u) (hs : ∀ b, S b → S' b) (ha : Agree S w w') (hb : ∀ p ∈ a.pathsF, β' p = β p) : RCap S' w' β' a u := by
  cases a <;> simp only [RCap] at h ⊢
  case d x => exact RD.mono hs ha _ _ h
  case vw p => exact h.turn hb
  case bp x off => exact h.turn hb

theorem RFlat.turn {S S' : Nat → Prop} {w w' : World} {β β' : Path → Value} {p : Path} {a : AV} {u : Value} (h : RFlat S w β p a u) (hs : ∀ b, S b → S' b) (ha : Agree S w w') (hself : β' p = β p) (hslf : p.2 ≠ 0 → a.noSlf = false → β' (p.1, 0) = β (p.1, 0) ∧ tyAt w' (β (p.1, 0)) = tyAt w (β (p.1, 0)))
    (hown : a.isOwn = true → ∀ b, blk (β p) = some b → w'.heap[b]? = w.heap[b]?) (hb : ∀ q ∈ a.paths0, β' q = β q) : RFlat S' w' β' p a u := by
  cases a <;> simp only [RFlat] at h ⊢
  case d x => exact RD.mono hs ha _ _ h
  case agg cs =>
    obtain ⟨l, h1, h2, h3⟩ := h
    exact ⟨l, h1, h2, RCs.mono hs ha _ _ _ h3⟩
  case own sz es =>
    refine ⟨h.1.trans hself.symm, h.2.turn hs ha fun b hbl => hown rfl b ?_⟩
    rw [← h.1]; exact hbl
  case fz sz es => exact ⟨h.1.trans hself.symm, RD.mono hs ha _ _ h.2⟩
  case vw q => exact h.turn hb
  case bp x off => exact h.turn hb
  case ep q sz i off => exact h.turn hb
  case glo k cs => exact ⟨h.1.trans hself.symm, h.2.1, RD.mono hs ha _ _ h.2.2⟩
  case slf off E =>
    obtain ⟨h1, h2⟩ := hslf h.1 rfl
    rw [h1, h2]
    exact h
  case clo f caps =>
    obtain ⟨l, h1, h2⟩ := h
    refine ⟨l, h1, h2.mono fun j a c haj _ hr => hr.turn hs ha fun q hq => hb q ?_⟩
    simp only [AV.paths0, List.mem_flatMap]
    exact ⟨a, List.mem_of_getElem? haj, hq⟩

theorem AV.paths01 (a : AV) (q : Path) (h : q ∈ a.paths0) : q ∈ a.paths1 := by
  cases a <;> simp_all [AV.paths1, AV.paths0, AV.pathsF]

theorem RSlot.turn {g g' : List (Nat × Bool) → Bool} {S S' : Nat → Prop} {w w' : World} {β β' : Path → Value} {x : Nat} {a : AV} {u : Value} (h : RSlot g S w β x a u) (hg : ∀ l a0, a = .gd l a0 → g' l = g l) (hs : ∀ b, S b → S' b) (ha : Agree S w w') (hself : ∀ j, β' (x, j) = β (x, j))
    (hown : ∀ j, a.ownsAt j = true → ∀ b, blk (β (x, j)) = some b → w'.heap[b]? = w.heap[b]?) (hb : ∀ q ∈ a.paths, β' q = β q) : RSlot g' S' w' β' x a u := by
  have parts : ∀ (cs : List AV) (l : List Value), (∀ j, ((cs[j]?).map AV.isOwn).getD false = true → ∀ b, blk (β (x, j + 1)) = some b → w'.heap[b]? = w.heap[b]?) →
      (∀ q ∈ cs.flatMap AV.paths1, β' q = β q) → (cs.all AV.noSlf = true ∨ tyAt w' (β (x, 0)) = tyAt w (β (x, 0))) → RParts S w β x cs l → RParts S' w' β' x cs l := by
    intro cs l h1 h2 ht h3
    refine All2.mono h3 fun j a c haj _ hr => ?_
    simp only [Nat.zero_add] at hr ⊢
    have hsf : (x, j + 1).2 ≠ 0 → a.noSlf = false → β' (x, 0) = β (x, 0) ∧ tyAt w' (β (x, 0)) = tyAt w (β (x, 0)) := by
      intro _ hf
      refine ⟨hself 0, ?_⟩
      rcases ht with ht | ht
      · have := List.all_eq_true.1 ht a (List.mem_of_getElem? haj)
        rw [hf] at this
        cases this
      · exact ht
    refine hr.turn hs ha (hself _) hsf (fun ho b hbl => h1 j (by simp [haj, ho]) b hbl) fun q hq => h2 q ?_
    exact List.mem_flatMap.2 ⟨a, List.mem_of_getElem? haj, AV.paths01 a q hq⟩
  cases a
  case gd l a0 =>
    simp only [RSlot] at h ⊢
    rw [hg l a0 rfl]
    refine ⟨fun e => (h.1 e).turn hs ha (hself 0) (fun h0 => absurd rfl h0) (fun ho => ?_) fun q hq => hb q (by simpa [AV.paths, AV.paths1] using hq), h.2⟩
    exact hown 0 (by simpa [AV.ownsAt, AV.isOwn] using ho)
  case tup vs =>
    simp only [RSlot] at h ⊢
    obtain ⟨l, h1, h0, h2⟩ := h
    exact ⟨l, h1, h0, parts _ _ (fun j hj => hown (j + 1) (by simpa [AV.ownsAt] using hj)) (fun q hq => hb q (by simpa [AV.paths] using hq)) (.inl h0) h2⟩
  case box cs =>
    simp only [RSlot] at h ⊢
    obtain ⟨h0, b, l, E, h1, h2, h3⟩ := h
    refine ⟨h0.trans (hself 0).symm, b, l, E, h1, ?_, parts _ _ (fun j hj => hown (j + 1) (by simpa [AV.ownsAt] using hj)) (fun q hq => hb q (by simpa [AV.paths] using hq)) (.inr (tyAt_same (hown 0 (by simp [AV.ownsAt, AV.isOwn])))) h3⟩
    exact (hown 0 (by simp [AV.ownsAt, AV.isOwn]) b (by rw [← h0, h1]; rfl)).trans h2
  all_goals (
    simp only [RSlot] at h ⊢
    exact h.turn hs ha (hself 0) (fun h0 => absurd rfl h0) (fun ho => hown 0 ho) fun q hq => hb q (AV.paths01 _ q hq))

/-- Striking out a value that refers to one of some places: it says less. -/
theorem RFlat.purge {S : Nat → Prop} {w : World} {β : Path → Value} {p : Path} {a : AV} {u : Value} (π : Path → Bool) (h : RFlat S w β p a u) : RFlat S w β p (a.purge1 π) u := by
  unfold AV.purge1
  split
  · simp [RFlat]
  · exact h

theorem AV.purge1_noSlf (π : Path → Bool) (a : AV) (h : a.noSlf = true) : (a.purge1 π).noSlf = true := by
  unfold AV.purge1
  split
  · rfl
  · exact h

theorem RSlot.purge {g : List (Nat × Bool) → Bool} {S : Nat → Prop} {w : World} {β : Path → Value} {y : Nat} {a : AV} {u : Value} (π : Path → Bool) (h : RSlot g S w β y a u) : RSlot g S w β y (a.purge π) u := by
  cases a
  case tup vs =>
    obtain ⟨l, h1, h0, h2⟩ := h
    refine ⟨l, h1, ?_, h2.map _ fun j a c _ _ hr => hr.purge π⟩
    simp only [List.all_map, List.all_eq_true] at h0 ⊢
    exact fun a ha => AV.purge1_noSlf π a (h0 a ha)
  case box cs =>
    obtain ⟨h0, b, l, E, h1, h2, h3⟩ := h
    exact ⟨h0, b, l, E, h1, h2, h3.map _ fun j a c _ _ hr => hr.purge π⟩
  all_goals (
    simp only [AV.purge, AV.purge1]
    split
    · exact trivial
    · exact h)

theorem AV.purge1_paths {π : Path → Bool} {a : AV} {q : Path} (h : q ∈ (a.purge1 π).paths1) : π q = false ∧ q ∈ a.paths1 := by
  unfold AV.purge1 at h
  split at h
  · simp [AV.paths1, AV.paths0, AV.pathsF] at h
  · rename_i hn
    refine ⟨?_, h⟩
    simp only [List.any_eq_true, not_exists, not_and, Bool.not_eq_true] at hn
    exact hn q h

theorem AV.purge_paths {π : Path → Bool} {a : AV} {q : Path} (h : q ∈ (a.purge π).paths) : π q = false ∧ q ∈ a.paths := by
  cases a
  case box cs =>
    simp only [AV.purge, AV.paths, List.mem_flatMap, List.mem_map] at h ⊢
    obtain ⟨_, ⟨c, hc, rfl⟩, hq⟩ := h
    exact ⟨(AV.purge1_paths hq).1, c, hc, (AV.purge1_paths hq).2⟩
  case tup cs =>
    simp only [AV.purge, AV.paths, List.mem_flatMap, List.mem_map] at h ⊢
    obtain ⟨_, ⟨c, hc, rfl⟩, hq⟩ := h
    exact ⟨(AV.purge1_paths hq).1, c, hc, (AV.purge1_paths hq).2⟩
  all_goals (
    simp only [AV.purge, AV.purge1] at h
    split at h
    · simp [AV.paths, AV.paths1, AV.paths0, AV.pathsF] at h
    · rename_i hn
      simp only [AV.paths] at h ⊢
      refine ⟨?_, h⟩
      simp only [List.any_eq_true, not_exists, not_and, Bool.not_eq_true] at hn
      exact hn q h)

theorem AV.purge1_isOwn (π : Path → Bool) (a : AV) : (a.purge1 π).isOwn = true → a.isOwn = true := by
  unfold AV.purge1
  split
  · simp [AV.isOwn]
  · exact id

theorem AV.purge_ownsAt (π : Path → Bool) (a : AV) (j : Nat) : (a.purge π).ownsAt j = true → a.ownsAt j = true := by
  cases a
  case box cs =>
    cases j with
    | zero => simp [AV.purge, AV.ownsAt, AV.isOwn]
    | succ j =>
      simp only [AV.purge, AV.ownsAt, List.getElem?_map, Option.map_map]
      cases cs[j]? with
      | none => simp
      | some c => simpa using AV.purge1_isOwn π c
  case tup cs =>
    cases j with
    | zero => simp [AV.purge, AV.ownsAt, AV.isOwn]
    | succ j =>
      simp only [AV.purge, AV.ownsAt, List.getElem?_map, Option.map_map]
      cases cs[j]? with
      | none => simp
      | some c => simpa using AV.purge1_isOwn π c
  all_goals (
    simp only [AV.purge, AV.purge1]
    split
    · cases j <;> simp [AV.ownsAt, AV.isOwn]
    · exact id)

theorem AV.purge_gd {π : Path → Bool} {a a0 : AV} {l : List (Nat × Bool)} (h : a.purge π = .gd l a0) : a = .gd l a0 := by
  cases a
  all_goals (
    simp only [AV.purge, AV.purge1] at h
    first
      | (split at h
         · simp at h
         · exact h)
      | (simp at h; done))

/-- The guards of a region: the slot, the chain of guards under which it was written, the bool that it then holds. -/
abbrev GEnv := List (Nat × List (Nat × Bool) × Bool)
def lookG : GEnv → Nat → Option (List (Nat × Bool) × Bool)
  | [], _ => none
  | (s, l, b) :: r, x => if s == x then some (l, b) else lookG r x
def condG (G : GEnv) (l : List (Nat × Bool)) : Bool := l.all fun q => match lookG G q.1 with
  | some (_, b) => b == q.2
  | none => false

/-- What a state is held against: the world at the call; the blocks that were handed over; what was stable; the addresses of the boxes that are lent. -/
structure Env where
  w0 : World
  A : Nat → Prop
  S0 : Nat → Prop
  vp : Nat → Option Value

/-- The values of the slots: the frame's own; behind them the lent boxes'. -/
def valsOf (e : Env) (a : Act) : Nat → Option Value := fun x => match a.tmps[x]? with
  | some v => some v
  | none => e.vp x
theorem valsOf_lt {e : Env} {a : Act} {x : Nat} {v : Value} (h : a.tmps[x]? = some v) : valsOf e a x = some v := by simp [valsOf, h]

structure Mem (e : Env) (G : GEnv) (S : Nat → Prop) (β : Path → Value) (fr : Fr) (vals : Nat → Option Value) (w : World) : Prop where
  rel : ∀ x, ∃ u, RSlot (condG G) S w β x (fget fr x) u ∧ (∀ u', vals x = some u' → u' = u)
  gok : ∀ x l a, fget fr x = .gd l a → a.isOwn = false ∧ ∀ q ∈ l, (lookG G q.1).isSome = true
  dis : ∀ x i y j b, (fget fr x).ownsAt i = true → (fget fr y).ownsAt j = true → blk (β (x, i)) = some b → blk (β (y, j)) = some b → x = y ∧ i = j
  fre : ∀ x i b, (fget fr x).ownsAt i = true → blk (β (x, i)) = some b → ¬ S b ∧ (e.w0.heap.size ≤ b ∨ e.A b)
  stb : ∀ b, S b → b < w.heap.size ∧ (e.S0 b ∨ e.w0.heap.size ≤ b ∨ e.A b)
  s0 : ∀ b, e.S0 b → S b
  old : ∀ b, b < e.w0.heap.size → ¬ e.A b → w.heap[b]? = e.w0.heap[b]?
  os : w.os = e.w0.os
  tape : w.tape = e.w0.tape
  output : w.output = e.w0.output
  size : e.w0.heap.size ≤ w.heap.size

theorem heap_lt {w : World} {b : Nat} {o : Obj} (h : w.heap[b]? = some o) : b < w.heap.size := by
  rcases Nat.lt_or_ge b w.heap.size with h' | h'
  · exact h'
  · simp [Array.getElem?_eq_none h'] at h

theorem OwnAt.lt {S : Nat → Prop} {w : World} {u : Value} {κ : TypeId} {sz : Nat} {es : List (List Dat)} (h : OwnAt S w u κ sz es) {b : Nat} (hb : blk u = some b) : b < w.heap.size := by
  rcases h with ⟨rfl, _⟩ | ⟨b', off, c, arr, E, fz, rfl, _, _, _, h4, _⟩
  · simp [blk] at hb
  · simp [blk] at hb
    subst hb
    exact heap_lt h4

theorem RFlat.lt {S : Nat → Prop} {w : World} {β : Path → Value} {p : Path} {a : AV} {u : Value} (h : RFlat S w β p a u) (ho : a.isOwn = true) {b : Nat} (hb : blk (β p) = some b) : b < w.heap.size := by
  cases a <;> simp only [AV.isOwn] at ho <;> simp only [RFlat] at h
  case own sz es => exact h.2.lt (by rw [h.1]; exact hb)
  all_goals simp at ho

theorem RSlot.lt {g : List (Nat × Bool) → Bool} {S : Nat → Prop} {w : World} {β : Path → Value} {x : Nat} {a : AV} {u : Value} (h : RSlot g S w β x a u) {j : Nat} (ho : a.ownsAt j = true) (hn : ∀ l a0, a ≠ .gd l a0) {b : Nat} (hb : blk (β (x, j)) = some b) : b < w.heap.size := by
  have parts : ∀ (cs : List AV) (l : List Value) (i : Nat), RParts S w β x cs l → ((cs[i]?).map AV.isOwn).getD false = true → blk (β (x, i + 1)) = some b → b < w.heap.size := by
    intro cs l i h1 h2 h3
    cases hc : cs[i]? with
    | none => simp [hc] at h2
    | some c =>
      simp [hc] at h2
      obtain ⟨u, _, hr⟩ := All2.get h1 i c hc
      exact RFlat.lt hr h2 (by simpa using h3)
  cases a
  case gd l a0 => exact absurd rfl (hn l a0)
  case tup vs =>
    obtain ⟨l, h1, _, h2⟩ := h
    cases j with
    | zero => simp [AV.ownsAt, AV.isOwn] at ho
    | succ j => exact parts vs l j h2 (by simpa [AV.ownsAt] using ho) hb
  case box cs =>
    obtain ⟨h0, b', l, E, h1, h2, h3⟩ := h
    cases j with
    | zero =>
      rw [← h0, h1] at hb
      simp [blk] at hb
      subst hb
      exact heap_lt h2
    | succ j => exact parts cs l j h3 (by simpa [AV.ownsAt] using ho) hb
  all_goals (
    simp only [RSlot] at h
    cases j with
    | zero => exact RFlat.lt h ho hb
    | succ j => simp [AV.ownsAt] at ho)

/-- A guarded value owns nothing. -/
def AV.gdPlain : AV → Bool
  | .gd _ a => !a.isOwn
  | _ => true

/-- THE CHANGE OF ONE SLOT: x now holds av'; the other slots are as they were, or purged of the places where β turns; the world turns off S and off what the other slots own. -/
theorem Mem.change {e : Env} {G : GEnv} {S S' : Nat → Prop} {β β' : Path → Value} {fr fr' : Fr} {vals vals' : Nat → Option Value} {w w' : World} (hm : Mem e G S β fr vals w)
    (x : Nat) (av' : AV) (π : Path → Bool) (hx : fget fr' x = av') (hy : ∀ y, y ≠ x → fget fr' y = fget fr y ∧ (∀ p, β' p = β p) ∨ fget fr' y = (fget fr y).purge π)
    (hβ : ∀ y j, y ≠ x → β' (y, j) = β (y, j)) (hπ : ∀ p, π p = false → β' p = β p) (hv : ∀ y, y ≠ x → ∀ u, vals' y = some u → vals y = some u)
    (hrel : ∃ u, RSlot (condG G) S' w' β' x av' u ∧ ∀ u', vals' x = some u' → u' = u)
    (hgok : ∀ l a, av' = .gd l a → a.isOwn = false ∧ ∀ q ∈ l, (lookG G q.1).isSome = true)
    (hdis1 : ∀ i j b, av'.ownsAt i = true → av'.ownsAt j = true → blk (β' (x, i)) = some b → blk (β' (x, j)) = some b → i = j)
    (hdis2 : ∀ i y j b, av'.ownsAt i = true → y ≠ x → (fget fr y).ownsAt j = true → blk (β' (x, i)) = some b → blk (β (y, j)) ≠ some b)
    (hfre : ∀ i b, av'.ownsAt i = true → blk (β' (x, i)) = some b → ¬ S' b ∧ (e.w0.heap.size ≤ b ∨ e.A b))
    (hsub : ∀ b, S b → S' b) (hS : ∀ b, S' b → S b ∨ (b < w'.heap.size ∧ (e.w0.heap.size ≤ b ∨ e.A b) ∧ ∀ y j, y ≠ x → (fget fr y).ownsAt j = true → blk (β (y, j)) ≠ some b))
    (hag : Agree S w w') (hoth : ∀ y j b, y ≠ x → (fget fr y).ownsAt j = true → blk (β (y, j)) = some b → w'.heap[b]? = w.heap[b]?)
    (hold : ∀ b, b < e.w0.heap.size → ¬ e.A b → w'.heap[b]? = w.heap[b]?) (hsize : w.heap.size ≤ w'.heap.size)
    (hos : w'.os = w.os) (htape : w'.tape = w.tape) (hout : w'.output = w.output) : Mem e G S' β' fr' vals' w' := by
  have howns : ∀ y j, y ≠ x → (fget fr' y).ownsAt j = true → (fget fr y).ownsAt j = true := by
    intro y j hne ho
    rcases hy y hne with ⟨h, _⟩ | h
    · rwa [h] at ho
    · rw [h] at ho; exact AV.purge_ownsAt π _ j ho
  refine ⟨fun y => ?_, fun y l a hl => ?_, fun y i z j b h1 h2 h3 h4 => ?_, fun y i b h1 h2 => ?_, fun b hb => ?_, fun b hb => hsub b (hm.s0 b hb), fun b h1 h2 => (hold b h1 h2).trans (hm.old b h1 h2), hos.trans hm.os, htape.trans hm.tape, hout.trans hm.output, Nat.le_trans hm.size hsize⟩
  · by_cases hne : y = x
    · subst hne
      rw [hx]; exact hrel
    · obtain ⟨u, hr, hu⟩ := hm.rel y
      refine ⟨u, ?_, fun u' h' => hu u' (hv y hne u' h')⟩
      have key : ∀ a, RSlot (condG G) S w β y a u → (∀ j, a.ownsAt j = true → (fget fr y).ownsAt j = true) → (∀ q ∈ a.paths, β' q = β q) → RSlot (condG G) S' w' β' y a u := by
        intro a ha hao hrf
        exact ha.turn (fun _ _ _ => rfl) hsub hag (fun j => hβ y j hne) (fun j ho b hb => hoth y j b hne (hao j ho) hb) hrf
      rcases hy y hne with ⟨h, hb⟩ | h
      · rw [h]; exact key _ hr (fun _ h => h) (fun q _ => hb q)
      · rw [h]; exact key _ (hr.purge π) (fun j ho => AV.purge_ownsAt π _ j ho) (fun q hq => hπ q (AV.purge_paths hq).1)
  · by_cases hne : y = x
    · subst hne
      rw [hx] at hl
      exact hgok l a hl
    · rcases hy y hne with ⟨h, _⟩ | h
      · rw [h] at hl; exact hm.gok y l a hl
      · rw [h] at hl; exact hm.gok y l a (AV.purge_gd hl)
  · by_cases hyx : y = x <;> by_cases hzx : z = x
    · subst hyx; subst hzx
      rw [hx] at h1 h2
      exact ⟨rfl, hdis1 i j b h1 h2 h3 h4⟩
    · subst hyx
      rw [hx] at h1
      rw [hβ z j hzx] at h4
      exact absurd h4 (hdis2 i z j b h1 hzx (howns z j hzx h2) h3)
    · subst hzx
      rw [hx] at h2
      rw [hβ y i hyx] at h3
      exact absurd h3 (hdis2 j y i b h2 hyx (howns y i hyx h1) h4)
    · rw [hβ y i hyx] at h3
      rw [hβ z j hzx] at h4
      exact hm.dis y i z j b (howns y i hyx h1) (howns z j hzx h2) h3 h4
  · by_cases hyx : y = x
    · subst hyx
      rw [hx] at h1
      exact hfre i b h1 h2
    · rw [hβ y i hyx] at h2
      have h1' := howns y i hyx h1
      have := hm.fre y i b h1' h2
      refine ⟨fun hs => ?_, this.2⟩
      rcases hS b hs with h | ⟨_, _, h⟩
      · exact this.1 h
      · exact h y i hyx h1' h2
  · rcases hS b hb with h | ⟨h1, h2, _⟩
    · exact ⟨Nat.lt_of_lt_of_le (hm.stb b h).1 hsize, (hm.stb b h).2⟩
    · exact ⟨h1, .inr h2⟩

end Go.Vm
