/-
  THE V-MACHINE, part 1: abstract values, what they say of a world, and how they are kept.
  Independent of any program.
-/
import Derived.ProofKit
import Derived.WalkKit
import Derived.Laws.AppendOwn
import Derived.Laws.OwnMore
import Derived.Laws.MakeOwn
import Derived.KernelRfl
namespace Go.Vm

/-- Immutable data: a plain value, a string, a slice (each element a list of cells), a pointer to cells. -/
inductive Dat where
  | v (x : Value)
  | str (l : List UInt8)
  | sl (sz : Nat) (es : List (List Dat))
  | pt (cs : List Dat)

abbrev Path := Nat × Nat

/-- What a slot holds. own: a slice that this place alone owns; box: a pointer to cells that this place alone owns; vw, bp, ep: references into places of the same frame; gd: defined only where a chain of guards holds; glo: the address of a package's variable, which holds cs; slf: nil, or a pointer into the very box in which it lies. -/
inductive AV where
  | junk
  | d (x : Dat)
  | agg (cs : List Dat)
  | tup (vs : List AV)
  | own (κ : TypeId) (sz : Nat) (es : List (List Dat))
  | fz (sz : Nat) (es : List (List Dat))
  | box (cs : List AV)
  | vw (p : Path)
  | bp (x off : Nat)
  | ep (p : Path) (sz i off : Nat)
  | clo (f : Nat) (caps : List AV)
  | slf (off : Nat) (E : TypeId)
  | glo (k : Nat) (cs : List Dat)
  | gd (g : List (Nat × Bool)) (a : AV)

def strOf (l : List UInt8) : Value := .string ⟨l.toArray⟩

mutual
def RD (S : Nat → Prop) (w : World) : Dat → Value → Prop
  | .v x, u => u = x ∧ x.oneCell' = true
  | .str l, u => u = strOf l
  | .sl sz es, u => ((∃ q, u = .slice q 0 0) ∧ es = []) ∨ ∃ b off c arr E fz, u = .slice (some ⟨b, off, none⟩) es.length c ∧ es.length ≤ c ∧ S b ∧ w.heap[b]? = some (.cells arr E fz) ∧ REs S w sz es (fun j => arr[j]?) off
  | .pt cs, u => ∃ b off arr E fz, u = .pointer (some ⟨b, off, none⟩) ∧ S b ∧ w.heap[b]? = some (.cells arr E fz) ∧ RCs S w cs (fun j => arr[j]?) off
def RCs (S : Nat → Prop) (w : World) : List Dat → (Nat → Option Value) → Nat → Prop
  | [], _, _ => True
  | x :: xs, g, o => (∃ u, g o = some u ∧ RD S w x u) ∧ RCs S w xs g (o + 1)
def REs (S : Nat → Prop) (w : World) (sz : Nat) : List (List Dat) → (Nat → Option Value) → Nat → Prop
  | [], _, _ => True
  | e :: es, g, o => e.length = sz ∧ RCs S w e g o ∧ REs S w sz es g (o + sz)
end

/-- w' holds on the blocks of S what w holds. -/
def Agree (S : Nat → Prop) (w w' : World) : Prop := ∀ b, S b → w'.heap[b]? = w.heap[b]?

mutual
theorem RD.mono {S S' : Nat → Prop} {w w' : World} (hs : ∀ b, S b → S' b) (ha : Agree S w w') : ∀ (x : Dat) (u : Value), RD S w x u → RD S' w' x u
  | .v _, _, h => by simpa [RD] using h
  | .str _, _, h => by simpa [RD] using h
  | .sl sz es, u, h => by
    simp only [RD] at h ⊢
    rcases h with h | ⟨b, off, c, arr, E, fz, h1, h2, h3, h4, h5⟩
    · exact .inl h
    · exact .inr ⟨b, off, c, arr, E, fz, h1, h2, hs b h3, (ha b h3).trans h4, REs.mono hs ha sz es _ _ h5⟩
  | .pt cs, u, h => by
    simp only [RD] at h ⊢
    obtain ⟨b, off, arr, E, fz, h1, h3, h4, h5⟩ := h
    exact ⟨b, off, arr, E, fz, h1, hs b h3, (ha b h3).trans h4, RCs.mono hs ha cs _ _ h5⟩
theorem RCs.mono {S S' : Nat → Prop} {w w' : World} (hs : ∀ b, S b → S' b) (ha : Agree S w w') : ∀ (xs : List Dat) (g : Nat → Option Value) (o : Nat), RCs S w xs g o → RCs S' w' xs g o
  | [], _, _, _ => by simp [RCs]
  | x :: xs, g, o, h => by
    simp only [RCs] at h ⊢
    obtain ⟨⟨u, h1, h2⟩, h3⟩ := h
    exact ⟨⟨u, h1, RD.mono hs ha x u h2⟩, RCs.mono hs ha xs g _ h3⟩
theorem REs.mono {S S' : Nat → Prop} {w w' : World} (hs : ∀ b, S b → S' b) (ha : Agree S w w') : ∀ (sz : Nat) (es : List (List Dat)) (g : Nat → Option Value) (o : Nat), REs S w sz es g o → REs S' w' sz es g o
  | _, [], _, _, _ => by simp [REs]
  | sz, e :: es, g, o, h => by
    simp only [REs] at h ⊢
    obtain ⟨h1, h2, h3⟩ := h
    exact ⟨h1, RCs.mono hs ha e g o h2, REs.mono hs ha sz es g _ h3⟩
end

/-- Two getters that agree from o on for as many cells as are read. -/
theorem RCs.congr {S : Nat → Prop} {w : World} {g g' : Nat → Option Value} : ∀ (xs : List Dat) (o o' : Nat), (∀ j, j < xs.length → g' (o' + j) = g (o + j)) → RCs S w xs g o → RCs S w xs g' o'
  | [], _, _, _, _ => by simp [RCs]
  | x :: xs, o, o', h, hr => by
    simp only [RCs] at hr ⊢
    obtain ⟨⟨u, h1, h2⟩, h3⟩ := hr
    refine ⟨⟨u, ?_, h2⟩, RCs.congr xs (o + 1) (o' + 1) (fun j hj => ?_) h3⟩
    · have h0 := h 0 (by simp)
      simp only [Nat.add_zero] at h0
      rw [h0]; exact h1
    · have := h (j + 1) (by simpa using hj)
      simpa [Nat.add_assoc, Nat.add_comm 1 j] using this

theorem REs.congr {S : Nat → Prop} {w : World} {g g' : Nat → Option Value} {sz : Nat} : ∀ (es : List (List Dat)) (o o' : Nat), (∀ j, j < es.length * sz → g' (o' + j) = g (o + j)) → REs S w sz es g o → REs S w sz es g' o'
  | [], _, _, _, _ => by simp [REs]
  | e :: es, o, o', h, hr => by
    simp only [REs] at hr ⊢
    obtain ⟨h1, h2, h3⟩ := hr
    have hl : (e :: es).length * sz = es.length * sz + sz := by simp [Nat.add_mul]
    refine ⟨h1, RCs.congr e o o' (fun j hj => h j (by omega)) h2, REs.congr es (o + sz) (o' + sz) (fun j hj => ?_) h3⟩
    have := h (sz + j) (by omega)
    simpa [Nat.add_assoc] using this

theorem RCs.get {S : Nat → Prop} {w : World} {g : Nat → Option Value} : ∀ (xs : List Dat) (o j : Nat) (x : Dat), RCs S w xs g o → xs[j]? = some x → ∃ u, g (o + j) = some u ∧ RD S w x u
  | [], _, _, _, _, h => by simp at h
  | y :: ys, o, 0, x, hr, h => by
    simp only [RCs] at hr
    simp at h
    subst h
    simpa using hr.1
  | y :: ys, o, j + 1, x, hr, h => by
    simp only [RCs] at hr
    have := RCs.get ys (o + 1) j x hr.2 (by simpa using h)
    simpa [Nat.add_assoc, Nat.add_comm 1 j] using this

theorem REs.get {S : Nat → Prop} {w : World} {g : Nat → Option Value} {sz : Nat} : ∀ (es : List (List Dat)) (o j : Nat) (e : List Dat), REs S w sz es g o → es[j]? = some e → e.length = sz ∧ RCs S w e g (o + j * sz)
  | [], _, _, _, _, h => by simp at h
  | y :: ys, o, 0, x, hr, h => by
    simp only [REs] at hr
    simp at h
    subst h
    exact ⟨hr.1, by simpa using hr.2.1⟩
  | y :: ys, o, j + 1, x, hr, h => by
    simp only [REs] at hr
    have := REs.get ys (o + sz) j x hr.2.2 (by simpa using h)
    refine ⟨this.1, ?_⟩
    have e : o + sz + j * sz = o + (j + 1) * sz := by rw [Nat.add_mul]; omega
    rw [← e]; exact this.2

theorem RCs.of_get {S : Nat → Prop} {w : World} {g : Nat → Option Value} : ∀ (xs : List Dat) (o : Nat), (∀ j x, xs[j]? = some x → ∃ u, g (o + j) = some u ∧ RD S w x u) → RCs S w xs g o
  | [], _, _ => by simp [RCs]
  | x :: xs, o, h => by
    simp only [RCs]
    refine ⟨by simpa using h 0 x (by simp), RCs.of_get xs (o + 1) fun j y hy => ?_⟩
    have := h (j + 1) y (by simpa using hy)
    simpa [Nat.add_assoc, Nat.add_comm 1 j] using this

theorem REs.of_get {S : Nat → Prop} {w : World} {g : Nat → Option Value} {sz : Nat} : ∀ (es : List (List Dat)) (o : Nat), (∀ j e, es[j]? = some e → e.length = sz ∧ RCs S w e g (o + j * sz)) → REs S w sz es g o
  | [], _, _ => by simp [REs]
  | x :: xs, o, h => by
    simp only [REs]
    have h0 := h 0 x (by simp)
    refine ⟨h0.1, by simpa using h0.2, REs.of_get xs (o + sz) fun j y hy => ?_⟩
    have := h (j + 1) y (by simpa using hy)
    refine ⟨this.1, ?_⟩
    have e : o + sz + j * sz = o + (j + 1) * sz := by rw [Nat.add_mul]; omega
    rw [e]; exact this.2

theorem REs.len {S : Nat → Prop} {w : World} {g : Nat → Option Value} {sz : Nat} (es : List (List Dat)) (o : Nat) (h : REs S w sz es g o) : ∀ e ∈ es, e.length = sz := by
  intro e he
  obtain ⟨j, hj, rfl⟩ := List.getElem_of_mem he
  exact (REs.get es o j _ h (List.getElem?_eq_getElem hj)).1

/-- The cells of the elements, one behind the other. -/
theorem REs.defined {S : Nat → Prop} {w : World} {g : Nat → Option Value} {sz : Nat} (es : List (List Dat)) (o : Nat) (h : REs S w sz es g o) (j : Nat) (hj : j < es.length * sz) : ∃ u, g (o + j) = some u := by
  have hsz : 0 < sz := by rcases Nat.eq_zero_or_pos sz with h0 | h0 <;> simp_all
  have hq : j / sz < es.length := Nat.div_lt_of_lt_mul (by rwa [Nat.mul_comm])
  obtain ⟨h1, h2⟩ := REs.get es o (j / sz) _ h (List.getElem?_eq_getElem hq)
  have hr : j % sz < (es[j / sz]).length := by rw [h1]; exact Nat.mod_lt _ hsz
  obtain ⟨u, hu, _⟩ := RCs.get _ _ (j % sz) _ h2 (List.getElem?_eq_getElem hr)
  refine ⟨u, ?_⟩
  have e : o + j / sz * sz + j % sz = o + j := by
    have := Nat.div_add_mod j sz
    rw [Nat.mul_comm] at this
    omega
  rwa [e] at hu

end Go.Vm
