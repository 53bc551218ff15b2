/-
  THE V-MACHINE, part 8: how a state turns: a slot is set, an owner moves, freezes, is made.
-/
import Derived.Test.YtnjggcljonbleaaDoorVmRops3
namespace Go.Vm

def AV.plain : AV → Bool
  | .junk | .d _ | .agg _ | .vw _ | .bp _ _ | .ep _ _ _ _ | .clo _ _ => true
  | _ => false

def setA (t : Nat) (a : AV) (fr : Fr) : Fr := (t, a) :: purge t fr
def wrapG (g : List (Nat × Bool)) (a : AV) : AV := match g with
  | [] => a
  | _ => .gd g a

theorem plain_path {S : Nat → Prop} {w : World} {β : Path → Value} {p q : Path} {a : AV} {u : Value} (hp : a.plain = true) (h : RFlat S w β p a u) : RFlat S w β q a u := by
  cases a <;> simp_all [AV.plain, RFlat]

theorem plain_slot {g : List (Nat × Bool) → Bool} {S : Nat → Prop} {w : World} {β : Path → Value} {p : Path} {t : Nat} {a : AV} {u : Value} (hp : a.plain = true) (h : RFlat S w β p a u) : RSlot g S w β t a u := by
  cases a <;> simp_all [AV.plain, RFlat, RSlot]

theorem plain_ownsAt {a : AV} (hp : a.plain = true) (j : Nat) : a.ownsAt j = false := by
  cases a <;> simp_all [AV.plain] <;> cases j <;> simp [AV.ownsAt, AV.isOwn]

theorem put_get (a : Act) (t : Nat) (u : Value) (ht : t < a.tmps.size) (y : Nat) : (a.put (some t) u).tmps[y]? = if y = t then some u else a.tmps[y]? := by
  simp only [Act.put, Array.getElem?_setIfInBounds]
  by_cases h : t = y
  · subst h; simp [ht]
  · rw [if_neg h, if_neg (fun e => h e.symm)]

theorem slotP_ne {t : Nat} {p : Path} (h : slotP t p = false) : ¬ p.1 = t := by
  simpa [slotP] using h

theorem fget_setA_self (t : Nat) (a : AV) (fr : Fr) : fget (setA t a fr) t = a := fget_cons_self t a _
theorem fget_setA_ne {t y : Nat} (a : AV) (fr : Fr) (h : y ≠ t) : fget (setA t a fr) y = (fget fr y).purge (slotP t) := by
  rw [setA, fget_cons_ne _ _ (Ne.symm h), fget_purge]

section
variable {P : Program} {e : Env} {G : GEnv} {S : Nat → Prop} {β : Path → Value} {fr : Fr} {vals : Nat → Option Value} {w : World}

/-- Slot t takes a value that owns nothing, the rest as it was. -/
theorem Mem.setPlain (hm : Mem e G S β fr vals w) (t : Nat) (av : AV) (u : Value) (vals' : Nat → Option Value) (hv : ∀ y, y ≠ t → vals' y = vals y) (hvt : ∀ u', vals' t = some u' → u' = u)
    (hrel : RSlot (condG G) S w β t av u) (hown : ∀ j, av.ownsAt j = false) (hgok : ∀ l a, av = .gd l a → a.isOwn = false ∧ ∀ q ∈ l, (lookG G q.1).isSome = true) : Mem e G S β (setA t av fr) vals' w := by
  refine hm.change t av (slotP t) (fget_setA_self t av fr) (fun y hy => .inr (fget_setA_ne av fr hy)) (fun _ _ _ => rfl) (fun _ _ => rfl) (fun y hy u' h => by rw [← hv y hy]; exact h) ⟨u, hrel, hvt⟩ hgok ?_ ?_ ?_ (fun _ h => h) (fun _ h => .inl h) (fun _ _ => rfl) (fun _ _ _ _ _ _ => rfl) (fun _ _ _ => rfl) (Nat.le_refl _) rfl rfl rfl
  · intro i j b h1; rw [hown] at h1; cases h1
  · intro i y j b h1; rw [hown] at h1; cases h1
  · intro i b h1; rw [hown] at h1; cases h1

/-- A slot is held to say less. -/
theorem Mem.weaken (hm : Mem e G S β fr vals w) (t : Nat) (av : AV) (hrel : ∀ u, RSlot (condG G) S w β t (fget fr t) u → RSlot (condG G) S w β t av u) (hown : ∀ j, av.ownsAt j = true → (fget fr t).ownsAt j = true) (hgok : ∀ l a, av = .gd l a → a.isOwn = false ∧ ∀ q ∈ l, (lookG G q.1).isSome = true) : Mem e G S β ((t, av) :: fr) vals w := by
  refine hm.change t av (slotP t) (fget_cons_self t av fr) (fun y hy => .inl ⟨fget_cons_ne _ _ (Ne.symm hy), fun _ => rfl⟩) (fun _ _ _ => rfl) (fun _ _ => rfl) (fun _ _ _ h => h) ?_ hgok ?_ ?_ ?_ (fun _ h => h) (fun _ h => .inl h) (fun _ _ => rfl) (fun _ _ _ _ _ _ => rfl) (fun _ _ _ => rfl) (Nat.le_refl _) rfl rfl rfl
  · obtain ⟨u, hr, hu⟩ := hm.rel t
    exact ⟨u, hrel u hr, hu⟩
  · intro i j b h1 h2 h3 h4
    exact (hm.dis t i t j b (hown i h1) (hown j h2) h3 h4).2
  · intro i y j b h1 hy h2 h3 h4
    exact hy (hm.dis t i y j b (hown i h1) h2 h3 h4).1.symm
  · intro i b h1 h2
    exact hm.fre t i b (hown i h1) h2

theorem Mem.drop (hm : Mem e G S β fr vals w) (t : Nat) : Mem e G S β ((t, .junk) :: fr) vals w :=
  hm.weaken t .junk (fun _ _ => trivial) (fun j h => by cases j <;> simp [AV.ownsAt, AV.isOwn] at h) (fun _ _ h => by cases h)

/-- The guards known grow. -/
theorem condG_cons {G : GEnv} {s : Nat} {l : List (Nat × Bool)} {b : Bool} {g : List (Nat × Bool)} (hs : lookG G s = none) (hg : ∀ q ∈ g, (lookG G q.1).isSome = true) : condG ((s, l, b) :: G) g = condG G g := by
  simp only [condG]
  rw [Bool.eq_iff_iff, List.all_eq_true, List.all_eq_true]
  have key : ∀ q ∈ g, lookG ((s, l, b) :: G) q.1 = lookG G q.1 := by
    intro q hq
    have := hg q hq
    simp only [lookG]
    split
    · rename_i h
      simp only [beq_iff_eq] at h
      subst h
      rw [hs] at this
      cases this
    · rfl
  exact ⟨fun h q hq => by rw [← key q hq]; exact h q hq, fun h q hq => by rw [key q hq]; exact h q hq⟩

theorem Mem.guard (hm : Mem e G S β fr vals w) (s : Nat) (l : List (Nat × Bool)) (b : Bool) (hs : lookG G s = none) : Mem e ((s, l, b) :: G) S β fr vals w := by
  refine ⟨fun x => ?_, fun x l' a h => ⟨(hm.gok x l' a h).1, fun q hq => ?_⟩, hm.dis, hm.fre, hm.stb, hm.s0, hm.old, hm.os, hm.tape, hm.output, hm.size⟩
  · obtain ⟨u, hr, hu⟩ := hm.rel x
    refine ⟨u, ?_, hu⟩
    refine hr.turn (fun l' a0 h => condG_cons hs (hm.gok x l' a0 h).2) (fun _ h => h) (fun _ _ => rfl) (fun _ => rfl) (fun _ _ _ _ => rfl) (fun _ _ => rfl)
  · have := (hm.gok x l' a h).2 q hq
    simp only [lookG]
    split
    · rfl
    · exact this

/-- The world grows: all blocks there were are as they were. -/
theorem Mem.grow (hm : Mem e G S β fr vals w) (w' : World) (hb : ∀ b, b < w.heap.size → w'.heap[b]? = w.heap[b]?) (hsize : w.heap.size ≤ w'.heap.size) (hos : w'.os = w.os) (htape : w'.tape = w.tape) (hout : w'.output = w.output) :
    Mem e G S β fr vals w' := by
  refine ⟨fun x => ?_, hm.gok, hm.dis, hm.fre, fun b h => ⟨Nat.lt_of_lt_of_le (hm.stb b h).1 hsize, (hm.stb b h).2⟩, hm.s0, fun b h1 h2 => ?_, hos.trans hm.os, htape.trans hm.tape, hout.trans hm.output, Nat.le_trans hm.size hsize⟩
  · obtain ⟨u, hr, hu⟩ := hm.rel x
    refine ⟨u, ?_, hu⟩
    by_cases hg : ∃ l a, fget fr x = .gd l a
    · obtain ⟨l, a, hg⟩ := hg
      rw [hg] at hr ⊢
      refine ⟨fun h => ?_, hr.2⟩
      have hf := hr.1 h
      exact hf.turn (fun _ h => h) (fun b hS => hb b (hm.stb b hS).1) rfl (fun h0 => absurd rfl h0) (fun ho b hbl => hb b (hf.lt ho hbl)) (fun _ _ => rfl)
    · exact hr.turn (fun _ _ _ => rfl) (fun _ h => h) (fun b hS => hb b (hm.stb b hS).1) (fun _ => rfl) (fun j ho b hbl => hb b (hr.lt ho (fun l a h => hg ⟨l, a, h⟩) hbl)) (fun _ _ => rfl)
  · rw [hb b (Nat.lt_of_lt_of_le h1 hm.size)]
    exact hm.old b h1 h2

theorem Mem.revals (hm : Mem e G S β fr vals w) (vals' : Nat → Option Value) (h : ∀ x u, vals' x = some u → vals x = some u) : Mem e G S β fr vals' w :=
  ⟨fun x => let ⟨u, hr, hu⟩ := hm.rel x; ⟨u, hr, fun u' h' => hu u' (h x u' h')⟩, hm.gok, hm.dis, hm.fre, hm.stb, hm.s0, hm.old, hm.os, hm.tape, hm.output, hm.size⟩

/-- An owner's value without its guard is not below a guard. -/
def AV.noGd : AV → Bool
  | .gd _ _ => false
  | _ => true

theorem Mem.lt (hm : Mem e G S β fr vals w) {x j b : Nat} (ho : (fget fr x).ownsAt j = true) (hb : blk (β (x, j)) = some b) (hn : (fget fr x).noGd = true) : b < w.heap.size := by
  obtain ⟨u, hr, _⟩ := hm.rel x
  exact hr.lt ho (fun l a h => by rw [h] at hn; cases hn) hb

/-- THE MAKING of a value that owns new memory: slot t; the blocks that it owns are all new. -/
theorem Mem.make (hm : Mem e G S β fr vals w) (t : Nat) (av : AV) (u : Value) (γ : Nat → Value) (w' : World) (vals' : Nat → Option Value) (hv : ∀ y, y ≠ t → vals' y = vals y) (hvt : ∀ u', vals' t = some u' → u' = u)
    (hrel : RSlot (condG G) S w' (fun p => if p.1 = t then γ p.2 else β p) t av u) (hgok : ∀ l a, av = .gd l a → a.isOwn = false ∧ ∀ q ∈ l, (lookG G q.1).isSome = true)
    (hnew : ∀ i b, av.ownsAt i = true → blk (γ i) = some b → w.heap.size ≤ b)
    (hdis : ∀ i j b, av.ownsAt i = true → av.ownsAt j = true → blk (γ i) = some b → blk (γ j) = some b → i = j)
    (hb : ∀ b, b < w.heap.size → w'.heap[b]? = w.heap[b]?) (hsize : w.heap.size ≤ w'.heap.size) (hos : w'.os = w.os) (htape : w'.tape = w.tape) (hout : w'.output = w.output) :
    Mem e G S (fun p => if p.1 = t then γ p.2 else β p) (setA t av fr) vals' w' := by
  have hlt : ∀ y j b, (fget fr y).ownsAt j = true → blk (β (y, j)) = some b → b < w.heap.size := by
    intro y j b ho hbl
    by_cases hn : (fget fr y).noGd = true
    · exact hm.lt ho hbl hn
    · cases hf : fget fr y <;> rw [hf] at hn ho <;> simp only [AV.noGd, not_true_eq_false] at hn
      rename_i l a
      have := (hm.gok y l a hf).1
      cases j <;> simp [AV.ownsAt, AV.isOwn, this] at ho
  refine hm.change t av (slotP t) (fget_setA_self t av fr) (fun y hy => .inr (fget_setA_ne av fr hy)) (fun y j hy => by simp [hy]) (fun p hp => if_neg (slotP_ne hp)) (fun y hy u' h => by rw [← hv y hy]; exact h) ⟨u, hrel, hvt⟩ hgok ?_ ?_ ?_ (fun _ h => h) (fun _ h => .inl h) (fun b hS => hb b (hm.stb b hS).1) (fun y j b _ ho hbl => hb b (hlt y j b ho hbl)) (fun b h1 _ => hb b (Nat.lt_of_lt_of_le h1 hm.size)) hsize hos htape hout
  · intro i j b h1 h2 h3 h4
    simp only [if_true] at h3 h4
    exact hdis i j b h1 h2 h3 h4
  · intro i y j b h1 hy h2 h3 h4
    simp only [if_true] at h3
    have := hnew i b h1 h3
    have := hlt y j b h2 h4
    omega
  · intro i b h1 h2
    simp only [if_true] at h2
    have := hnew i b h1 h2
    refine ⟨fun hS => ?_, .inl (Nat.le_trans hm.size this)⟩
    have := (hm.stb b hS).1
    omega

end
end Go.Vm
