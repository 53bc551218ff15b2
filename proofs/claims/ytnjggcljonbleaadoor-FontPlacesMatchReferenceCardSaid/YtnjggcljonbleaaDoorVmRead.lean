/-
  THE V-MACHINE, part 4: operands, and the operations that leave the world as it is.
-/
import Derived.Test.YtnjggcljonbleaaDoorVmPure
namespace Go.Vm

def AV.read (s : Nat) : AV → AV
  | .own _ _ _ => .vw (s, 0)
  | .box _ => .bp s 0
  | .fz sz es => .d (.sl sz es)
  | .tup _ => .junk
  | .gd _ _ => .junk
  | .slf _ _ => .junk
  | .glo _ cs => .d (.pt cs)
  | a => a

/-- A value as it is read under a chain of guards. -/
def AV.under (g : List (Nat × Bool)) : AV → AV
  | .gd l a => if l.all (fun q => g.any fun r => r.1 == q.1 && r.2 == q.2) then a else .junk
  | a => a

def constAV : Value → AV
  | .string s => .d (.str s.data.toList)
  | .func (.func f) ⟨[]⟩ ⟨[]⟩ => .clo f []
  | v => if v.oneCell' then .d (.v v) else .junk

/-- What a package's variable is known to hold. -/
def findGlo (fr : Fr) (k : Nat) : Option (List Dat) := [0, 1, 2, 3, 4, 5, 6, 7].findSome? fun j => match fget fr (1000000 + j) with
  | .glo k' cs => if k' = k then some cs else none
  | _ => none

def oval0 (N : Nat) (g : List (Nat × Bool)) (fr : Fr) : Operand → AV
  | .tmp t => if t < N then ((fget fr t).under g).read t else .junk
  | .const v => constAV v
  | .global k => match findGlo fr k with
    | some cs => .d (.pt cs)
    | none => .d (.v (.pointer (some ⟨k, 0, none⟩)))
  | .func f => .clo f []

/-- What the walk knows of the machine's state: the frame's slots and the world. -/
def MemA (e : Env) (G : GEnv) (N : Nat) (fr : Fr) (a : Act) (w : World) : Prop :=
  a.defers = [] ∧ a.tmps.size = N ∧ ∃ S β, Mem e G S β fr (valsOf e a) w

theorem read_ok {h : List (Nat × Bool) → Bool} {S : Nat → Prop} {w : World} {β : Path → Value} {t : Nat} {a : AV} {u : Value} (hr : RSlot h S w β t a u) : RFlat S w β (0, 0) (a.read t) u := by
  cases a <;> simp only [AV.read, RFlat, RRef, RSlot] at hr ⊢
  case d => exact hr
  case agg => exact hr
  case own => exact hr.1
  case fz => exact hr.2
  case glo => exact hr.2.2
  case box =>
    obtain ⟨h0, b, l, E, h1, _⟩ := hr
    exact ⟨b, by rw [← h0, h1], h1⟩
  case vw => exact hr
  case bp => exact hr
  case ep => exact hr
  case clo => exact hr

theorem readFlat_ok {S : Nat → Prop} {w : World} {β : Path → Value} {t : Nat} {a : AV} {u : Value} (hr : RFlat S w β (t, 0) a u) : RFlat S w β (0, 0) (a.read t) u := by
  cases a <;> simp only [AV.read, RFlat, RRef] at hr ⊢
  case d => exact hr
  case agg => exact hr
  case own => exact hr.1
  case fz => exact hr.2
  case glo => exact hr.2.2
  case vw => exact hr
  case bp => exact hr
  case ep => exact hr
  case clo => exact hr

theorem read_isOwn (t : Nat) (a : AV) : (a.read t).isOwn = false := by cases a <;> simp [AV.read, AV.isOwn]

theorem condG_sub {G : GEnv} {l g : List (Nat × Bool)} (hs : l.all (fun q => g.any fun r => r.1 == q.1 && r.2 == q.2) = true) (hg : condG G g = true) : condG G l = true := by
  simp only [condG, List.all_eq_true] at hg ⊢
  intro q hq
  have := List.all_eq_true.1 hs q hq
  obtain ⟨r, hr, he⟩ := List.any_eq_true.1 this
  simp only [Bool.and_eq_true, beq_iff_eq] at he
  have hgr := hg r hr
  obtain ⟨r1, r2⟩ := r
  obtain ⟨q1, q2⟩ := q
  simp only at he
  obtain ⟨rfl, rfl⟩ := he
  exact hgr

theorem oval0_isOwn (N : Nat) (g : List (Nat × Bool)) (fr : Fr) (x : Operand) : (oval0 N g fr x).isOwn = false := by
  cases x
  case tmp t =>
    simp only [oval0]
    split
    · exact read_isOwn _ _
    · rfl
  case const v => simp only [oval0, constAV]; split <;> first | rfl | (split <;> rfl)
  case global => simp only [oval0]; split <;> rfl
  case func => rfl

theorem oval0_ok {e : Env} {G : GEnv} {S : Nat → Prop} {β : Path → Value} {fr : Fr} {a : Act} {w : World} {N : Nat} (hm : Mem e G S β fr (valsOf e a) w) (hN : a.tmps.size = N) (g : List (Nat × Bool)) (hg : condG G g = true) (x : Operand) :
    RFlat S w β (0, 0) (oval0 N g fr x) (a.eval x) := by
  cases x
  case tmp t =>
    simp only [oval0]
    split
    · rename_i ht
      obtain ⟨u, hr, hu⟩ := hm.rel t
      have he : a.eval (.tmp t) = u := by
        have hlt : t < a.tmps.size := by rw [hN]; exact ht
        have : a.tmps[t]? = some (a.tmps[t]'hlt) := Array.getElem?_eq_getElem hlt
        have h2 := hu _ (valsOf_lt this)
        simp only [Act.eval, Array.getD_eq_getD_getElem?, this, Option.getD_some]
        exact h2
      rw [he]
      cases hf : fget fr t
      case gd l a0 =>
        rw [hf] at hr
        simp only [AV.under]
        split
        · rename_i hs
          exact readFlat_ok (hr.1 (condG_sub hs hg))
        · exact trivial
      all_goals (
        rw [hf] at hr
        exact read_ok hr)
    · exact trivial
  case const v =>
    simp only [oval0, constAV, Act.eval]
    split
    · simp [RFlat, RD, strOf]
    · exact ⟨[], rfl, trivial⟩
    · split
      · rename_i h; simp [RFlat, RD, h]
      · exact trivial
  case global k =>
    simp only [oval0, Act.eval]
    split
    · rename_i cs hf
      unfold findGlo at hf
      obtain ⟨j, _, hj⟩ := List.exists_of_findSome?_eq_some hf
      split at hj
      · rename_i k' cs' hfj
        split at hj
        · rename_i hk
          cases hj
          subst hk
          obtain ⟨u, hr, _⟩ := hm.rel (1000000 + j)
          rw [hfj] at hr
          have h2 : u = .pointer (some ⟨k', 0, none⟩) := hr.2.1
          have h3 : RD S w (.pt cs) u := hr.2.2
          rw [h2] at h3
          exact h3
        · cases hj
      · cases hj
    · simp [RFlat, RD, Value.oneCell']
  case func f => exact ⟨[], rfl, trivial⟩

/-- The value at a place. -/
def pget (fr : Fr) : Path → AV
  | (x, 0) => fget fr x
  | (x, j + 1) => match fget fr x with
    | .box cs => cs.getD j .junk
    | _ => .junk

theorem pget_ok {e : Env} {G : GEnv} {S : Nat → Prop} {β : Path → Value} {fr : Fr} {vals : Nat → Option Value} {w : World} (hm : Mem e G S β fr vals w) (p : Path) :
    (∃ l a, pget fr p = .gd l a) ∨ (∃ vs, pget fr p = .tup vs) ∨ (∃ cs, pget fr p = .box cs) ∨ ∃ u, RFlat S w β p (pget fr p) u := by
  obtain ⟨x, j⟩ := p
  cases j with
  | zero =>
    simp only [pget]
    obtain ⟨u, hr, _⟩ := hm.rel x
    cases hf : fget fr x
    case gd l a => exact .inl ⟨l, a, rfl⟩
    case tup vs => exact .inr (.inl ⟨vs, rfl⟩)
    case box cs => exact .inr (.inr (.inl ⟨cs, rfl⟩))
    all_goals (
      rw [hf] at hr
      exact .inr (.inr (.inr ⟨u, hr⟩)))
  | succ j =>
    simp only [pget]
    obtain ⟨u, hr, _⟩ := hm.rel x
    cases hf : fget fr x
    case box cs =>
      rw [hf] at hr
      obtain ⟨_, b, l, E, _, _, h3⟩ := hr
      simp only [List.getD_eq_getElem?_getD]
      cases hc : cs[j]? with
      | none => exact .inr (.inr (.inr ⟨u, trivial⟩))
      | some c =>
        obtain ⟨u', _, h5⟩ := All2.get h3 j c hc
        rw [Nat.zero_add] at h5
        exact .inr (.inr (.inr ⟨u', h5⟩))
    all_goals exact .inr (.inr (.inr ⟨u, trivial⟩))

theorem pget_own {e : Env} {G : GEnv} {S : Nat → Prop} {β : Path → Value} {fr : Fr} {vals : Nat → Option Value} {w : World} (hm : Mem e G S β fr vals w) {p : Path} {κ : TypeId} {sz : Nat} {es : List (List Dat)} (h : pget fr p = .own κ sz es) : OwnAt S w (β p) κ sz es := by
  rcases pget_ok hm p with ⟨l, a, h'⟩ | ⟨vs, h'⟩ | ⟨cs, h'⟩ | ⟨u, h'⟩ <;> rw [h] at h' <;> try (cases h'; done)
  rw [← h'.1]; exact h'.2
theorem pget_fz {e : Env} {G : GEnv} {S : Nat → Prop} {β : Path → Value} {fr : Fr} {vals : Nat → Option Value} {w : World} (hm : Mem e G S β fr vals w) {p : Path} {sz : Nat} {es : List (List Dat)} (h : pget fr p = .fz sz es) : RD S w (.sl sz es) (β p) := by
  rcases pget_ok hm p with ⟨l, a, h'⟩ | ⟨vs, h'⟩ | ⟨cs, h'⟩ | ⟨u, h'⟩ <;> rw [h] at h' <;> try (cases h'; done)
  rw [← h'.1]; exact h'.2

/-- A reference to an owner that is frozen is plain data. -/
def unvw (fr : Fr) : AV → AV
  | .vw p => match pget fr p with
    | .fz sz es => .d (.sl sz es)
    | _ => .vw p
  | a => a

def oval (N : Nat) (g : List (Nat × Bool)) (fr : Fr) (x : Operand) : AV := unvw fr (oval0 N g fr x)

theorem oval_ok {e : Env} {G : GEnv} {S : Nat → Prop} {β : Path → Value} {fr : Fr} {a : Act} {w : World} {N : Nat} (hm : Mem e G S β fr (valsOf e a) w) (hN : a.tmps.size = N) (g : List (Nat × Bool)) (hg : condG G g = true) (x : Operand) :
    RFlat S w β (0, 0) (oval N g fr x) (a.eval x) := by
  have h := oval0_ok hm hN g hg x
  unfold oval
  generalize oval0 N g fr x = av at h
  unfold unvw
  split
  · rename_i p
    split
    · rename_i sz es hp
      have h1 := pget_fz hm hp
      have h2 : a.eval x = β p := h
      rw [h2]
      exact h1
    · exact h
  · exact h


/-- A slice that can be read. -/
def slv (fr : Fr) : AV → Option (Nat × List (List Dat))
  | .d (.sl sz es) => some (sz, es)
  | .d (.v (.slice none 0 0)) => some (0, [])
  | .vw p => match pget fr p with
    | .own _κ sz es => some (sz, es)
    | .fz sz es => some (sz, es)
    | _ => none
  | _ => none

def SlAt (S : Nat → Prop) (w : World) (u : Value) (sz : Nat) (es : List (List Dat)) : Prop :=
  ((∃ q, u = .slice q 0 0) ∧ es = []) ∨ ∃ b off c arr E fz, u = .slice (some ⟨b, off, none⟩) es.length c ∧ es.length ≤ c ∧ w.heap[b]? = some (.cells arr E fz) ∧ REs S w sz es (fun j => arr[j]?) off

theorem slat_of_rd {S : Nat → Prop} {w : World} {u : Value} {sz : Nat} {es : List (List Dat)} (h : RD S w (.sl sz es) u) : SlAt S w u sz es := by
  simp only [RD] at h
  rcases h with h | ⟨b, off, c, arr, E, fz, h1, h2, _, h4, h5⟩
  · exact .inl h
  · exact .inr ⟨b, off, c, arr, E, fz, h1, h2, h4, h5⟩
theorem slat_of_own {S : Nat → Prop} {w : World} {u : Value} {κ : TypeId} {sz : Nat} {es : List (List Dat)} (h : OwnAt S w u κ sz es) : SlAt S w u sz es := by
  rcases h with h | ⟨b, off, c, arr, E, fz, h1, h2, _, _, h4, _, h5⟩
  · exact .inl ⟨⟨_, h.1⟩, h.2⟩
  · exact .inr ⟨b, off, c, arr, E, fz, h1, h2, h4, h5⟩

theorem slv_ok {e : Env} {G : GEnv} {S : Nat → Prop} {β : Path → Value} {fr : Fr} {vals : Nat → Option Value} {w : World} (hm : Mem e G S β fr vals w) {a : AV} {u : Value} {sz : Nat} {es : List (List Dat)} (h : slv fr a = some (sz, es)) (hr : RFlat S w β (0, 0) a u) : SlAt S w u sz es := by
  unfold slv at h
  split at h
  · simp at h
    obtain ⟨rfl, rfl⟩ := h
    exact slat_of_rd hr
  · simp at h
    obtain ⟨rfl, rfl⟩ := h
    simp only [RFlat, RD] at hr
    exact .inl ⟨⟨_, hr.1⟩, rfl⟩
  · simp only [RFlat, RRef] at hr
    subst hr
    split at h
    · rename_i hp
      simp at h
      obtain ⟨rfl, rfl⟩ := h
      exact slat_of_own (pget_own hm hp)
    · rename_i hp
      simp at h
      obtain ⟨rfl, rfl⟩ := h
      exact slat_of_rd (pget_fz hm hp)
    · cases h
  · cases h

end Go.Vm
