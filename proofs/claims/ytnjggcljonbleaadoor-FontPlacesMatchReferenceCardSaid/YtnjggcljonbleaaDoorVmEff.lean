/-
  THE V-MACHINE, part 14: the operations that make memory or write it, at the model's own text.
-/
import Derived.Test.YtnjggcljonbleaaDoorVmMake
namespace Go.Vm
section
variable {P : Program} {e : Env} {G : GEnv} {S : Nat → Prop} {β : Path → Value} {fr : Fr} {w : World} {a : Act}

theorem put_old (a : Act) (t : Nat) (u : Value) (ht : t < a.tmps.size) : ∀ y, y ≠ t → valsOf e (a.put (some t) u) y = valsOf e a y := fun y hy => by simp only [valsOf]; rw [put_get a t u ht, if_neg hy]
theorem put_new (a : Act) (t : Nat) (u : Value) (ht : t < a.tmps.size) : ∀ u', valsOf e (a.put (some t) u) t = some u' → u' = u := fun u' h => by simp only [valsOf] at h; rw [put_get a t u ht, if_pos rfl] at h; exact (Option.some.inj h).symm
theorem put_at (a : Act) (t : Nat) (u : Value) (ht : t < a.tmps.size) : valsOf e (a.put (some t) u) t = some u := by simp only [valsOf]; rw [put_get a t u ht, if_pos rfl]
theorem put_size (a : Act) (d : Option Nat) (u : Value) : (a.put d u).tmps.size = a.tmps.size := by cases d <;> simp [Act.put]
theorem put_defers (a : Act) (d : Option Nat) (u : Value) : (a.put d u).defers = a.defers := by cases d <;> rfl

/-- The state behind an operation that puts u into slot t. -/
def After (e : Env) (G : GEnv) (fr' : Fr) (a : Act) (t : Nat) (u : Value) (w' : World) : Prop := ∃ S β, Mem e G S β fr' (valsOf e (a.put (some t) u)) w'

theorem map_purge_d (π : Path → Bool) (zs : List Dat) : (zs.map AV.d).map (AV.purge1 π) = zs.map AV.d := by
  rw [List.map_map]
  apply List.map_congr_left
  intro x _
  simp [AV.purge1, AV.paths1, AV.paths0, AV.pathsF]

/-- A cell of a box says less. -/
theorem Mem.weakCell {G : GEnv} {vals : Nat → Option Value} (hm : Mem e G S β fr vals w) {x q : Nat} {cs : List AV} {a b : AV} (hf : fget fr x = .box cs) (hc : cs[q]? = some a) (hw : ∀ u, RFlat S w β (x, q + 1) a u → RFlat S w β (x, q + 1) b u) (hb : b.isOwn = false) : Mem e G S β ((x, .box (cs.set q b)) :: fr) vals w := by
  refine hm.weaken x _ (fun u hr => ?_) (fun j hj => ?_) (fun _ _ h => by cases h)
  · rw [hf] at hr
    obtain ⟨h0, k, l, E, h1, h2, h3⟩ := hr
    refine ⟨h0, k, l, E, h1, h2, All2.of_get (by simpa using All2.len h3) fun j p c hp hcj => ?_⟩
    rw [List.getElem?_set] at hp
    by_cases hj : q = j
    · subst hj
      rw [if_pos rfl] at hp
      split at hp
      case isFalse => cases hp
      simp only [Option.some.injEq] at hp
      subst hp
      obtain ⟨c', hc', hrc⟩ := All2.get h3 q a hc
      rw [hcj] at hc'
      cases hc'
      simp only [Nat.zero_add] at hrc ⊢
      exact hw _ hrc
    · rw [if_neg hj] at hp
      obtain ⟨c', hc', hrc⟩ := All2.get h3 j p hp
      rw [hcj] at hc'
      cases hc'
      exact hrc
  · rw [hf]
    rcases box_ownsAt_set hj with ⟨h1, h2⟩ | ⟨h1, h2⟩
    · rw [hb] at h2; cases h2
    · exact h2

theorem Mem.congr0 {G : GEnv} {vals : Nat → Option Value} {fr' : Fr} (hm : Mem e G S β fr vals w) (h : ∀ x, fget fr' x = fget fr x) : Mem e G S β fr' vals w :=
  ⟨fun x => by rw [h x]; exact hm.rel x, fun x l a hx => hm.gok x l a (by rw [← h x]; exact hx), fun x i y j b h1 h2 => hm.dis x i y j b (by rw [← h x]; exact h1) (by rw [← h y]; exact h2), fun x i b h1 => hm.fre x i b (by rw [← h x]; exact h1), hm.stb, hm.s0, hm.old, hm.os, hm.tape, hm.output, hm.size⟩

/-- Cells that hold nil, held as nil or a pointer into the box. -/
def slfAll (T : TypeId) : List (Nat × Nat) → List AV → List AV
  | [], cs => cs
  | (q, off) :: r, cs => match cs[q]? with
    | some (.d (.v (.pointer none))) => slfAll T r (cs.set q (.slf off T))
    | _ => slfAll T r cs
theorem Mem.slfAll {G : GEnv} {vals : Nat → Option Value} {t : Nat} {T : TypeId} (hty : tyAt w (β (t, 0)) = some T) : ∀ (l : List (Nat × Nat)) (cs : List AV) (fr : Fr), Mem e G S β fr vals w → fget fr t = .box cs → Mem e G S β ((t, .box (Vm.slfAll T l cs)) :: fr) vals w
  | [], cs, fr, hm, hf => hm.congr0 fun x => by
      by_cases hx : x = t
      · subst hx; rw [fget_cons_self, hf]; rfl
      · rw [fget_cons_ne _ _ (Ne.symm hx)]
  | (q, off) :: r, cs, fr, hm, hf => by
    simp only [Vm.slfAll]
    split
    · rename_i hc
      have h1 := hm.weakCell (b := .slf off T) hf hc (fun u hu => ⟨by simp, hty, .inl hu.1⟩) rfl
      exact (Mem.slfAll hty r _ _ h1 (fget_cons_self _ _ _)).congr0 fun x => by
        by_cases hx : x = t
        · subst hx; rw [fget_cons_self, fget_cons_self]
        · rw [fget_cons_ne _ _ (Ne.symm hx), fget_cons_ne _ _ (Ne.symm hx), fget_cons_ne _ _ (Ne.symm hx)]
    · exact Mem.slfAll hty r _ _ hm hf

def effAlloc (P : Program) (t : Nat) (T : TypeId) (sl : List (Nat × Nat)) (fr : Fr) : Option Fr := (zeroV P T).map fun l => setA t (.box (slfAll T sl (l.map fun q => zeroA q.1 q.2))) fr

theorem effAlloc_ok (hm : Mem e G S β fr (valsOf e a) w) {t : Nat} (ht : t < a.tmps.size) {T : TypeId} {sl : List (Nat × Nat)} {fr' : Fr} (h : effAlloc P t T sl fr = some fr') :
    ∃ u w', (Instr.alloc T true (.tuple #[])).run P w = .ok u w' ∧ After e G fr' a t u w' := by
  simp only [effAlloc, Option.map_eq_some_iff] at h
  obtain ⟨l, hl, rfl⟩ := h
  obtain ⟨i, z, hi, hzz, hsz, hlen, hone, hfst⟩ := zeroV_ok hl
  obtain ⟨β', hm'⟩ := hm.newZero t l (by rw [hfst]; exact hone) T (valsOf e (a.put (some t) (.pointer (some ⟨w.heap.size, 0, none⟩)))) (put_old a t _ ht) (put_new a t _ ht)
  rw [hfst, Array.toArray_toList] at hm'
  have hty : tyAt (w.alloc (.cells z.cells T)) (β' (t, 0)) = some T := by
    obtain ⟨u0, hr0, hu0⟩ := hm'.rel t
    rw [fget_setA_self] at hr0
    have hp := hu0 _ (put_at a t _ ht)
    rw [← hr0.1, ← hp]
    simp only [tyAt, heap_alloc_new]
  have hm2 := (Mem.slfAll hty sl _ _ hm' (fget_setA_self t _ _)).congr0 (fr' := setA t (.box (slfAll T sl (l.map fun q => zeroA q.1 q.2))) fr) fun x => by
    by_cases hx : x = t
    · subst hx; rw [fget_setA_self, fget_cons_self]
    · rw [fget_cons_ne _ _ (Ne.symm hx), fget_setA_ne _ _ hx, fget_setA_ne _ _ hx]
  refine ⟨_, _, ?_, S, β', hm2⟩
  simp [Instr.alloc, zeroValue, typeInfo, hi, hzz, newVar, newRow]

/-- nil, assigned to a variable of a slice type. -/
def effNil (P : Program) (t : Nat) (T : TypeId) (fr : Fr) : Option Fr :=
  match P.underlying T with
  | some (.slice E) => (P.info? E).map fun i => setA t (.own E i.size []) fr
  | _ => none

theorem effNil_ok (hm : Mem e G S β fr (valsOf e a) w) {t : Nat} (ht : t < a.tmps.size) {T : TypeId} {fr' : Fr} (h : effNil P t T fr = some fr') : After e G fr' a t (.slice none 0 0) w := by
  unfold effNil at h
  split at h
  · simp only [Option.map_eq_some_iff] at h
    obtain ⟨i, _, rfl⟩ := h
    obtain ⟨β', hm'⟩ := hm.newNil t _ i.size (valsOf e (a.put (some t) (.slice none 0 0))) (put_old a t _ ht) (put_new a t _ ht)
    exact ⟨S, β', hm'⟩
  · cases h

def effBox (t N : Nat) (x : Operand) (v : AV) (fr : Fr) : Option Fr :=
  let plainly : Option Fr := (cellsA v).map fun cs => setA t (.box (cs.map (AV.purge1 (slotP t)))) fr
  match x with
  | .tmp s => match fget fr s with
    | .own κ sz es => if s ≠ t ∧ s < N then some (setA t (.box [.own κ sz es]) ((s, .junk) :: fr)) else none
    | _ => plainly
  | _ => plainly

theorem run_box (T : TypeId) (u : Value) : (Instr.box T u).run P w = .ok (.pointer (some ⟨w.heap.size, 0, none⟩)) (w.alloc (.cells u.cells T)) := by
  simp [Instr.box, newVar, newRow]

theorem eval_tmp0 {s : Nat} (hs : s < a.tmps.size) : a.tmps[s]? = some (a.eval (.tmp s)) := by
  simp [Act.eval, Array.getD_eq_getD_getElem?, Array.getElem?_eq_getElem hs]
theorem eval_tmp {s : Nat} (hs : s < a.tmps.size) : valsOf e a s = some (a.eval (.tmp s)) := valsOf_lt (eval_tmp0 hs)

theorem effBox_ok (hm : Mem e G S β fr (valsOf e a) w) {t N : Nat} (hN : a.tmps.size = N) (ht : t < a.tmps.size) {T : TypeId} {x : Operand} {fr' : Fr} (h : effBox t N x (oval N [] fr x) fr = some fr') :
    ∃ u w', (Instr.box T (a.eval x)).run P w = .ok u w' ∧ After e G fr' a t u w' := by
  have hval := oval_ok hm hN [] rfl x
  have plainly : (cellsA (oval N [] fr x)).map (fun cs => setA t (.box (cs.map (AV.purge1 (slotP t)))) fr) = some fr' → ∃ u w', (Instr.box T (a.eval x)).run P w = .ok u w' ∧ After e G fr' a t u w' := by
    intro h
    simp only [Option.map_eq_some_iff] at h
    obtain ⟨cs, hcs, rfl⟩ := h
    obtain ⟨h1, h2, h3, h4⟩ := cellsA_ok hcs hval t
    obtain ⟨β', hm'⟩ := hm.newBox t cs (a.eval x).cells.toList T h2 h3 (valsOf e (a.put (some t) (.pointer (some ⟨w.heap.size, 0, none⟩)))) (put_old a t _ ht) (put_new a t _ ht)
    exact ⟨_, _, run_box T _, S, β', hm'⟩
  unfold effBox at h
  simp only at h
  split at h
  · rename_i s
    split at h
    · rename_i sz es hf
      split at h
      · rename_i hc
        simp only [Option.some.injEq] at h
        subst h
        have hs : s < a.tmps.size := by rw [hN]; exact hc.2
        obtain ⟨β', hm'⟩ := hm.newBoxOwn hc.1 hf (a.eval (.tmp s)) (eval_tmp hs) T (valsOf e (a.put (some t) (.pointer (some ⟨w.heap.size, 0, none⟩)))) (put_old a t _ ht) (put_new a t _ ht)
        refine ⟨_, _, run_box T _, S, β', ?_⟩
        have hu : (a.eval (.tmp s)).cells = #[a.eval (.tmp s)] := by
          obtain ⟨u, hr, hu⟩ := hm.rel s
          have := hu _ (eval_tmp hs)
          rw [this]
          rw [hf] at hr
          rcases hr.2 with ⟨h, _⟩ | ⟨b, off, c, arr, E, fz, h, _⟩ <;> (rw [h]; rfl)
        rw [hu]
        exact hm'
      · cases h
    · exact plainly h
  · exact plainly h

def effMake (P : Program) (t : Nat) (T : TypeId) (hes : Option (List (List Dat))) (l c : AV) (fr : Fr) : Option (Fr × Prop) :=
  match l, c, P.underlying T with
  | .d (.v (.int _ l)), .d (.v (.int _ c)), some (.slice E) =>
    match P.info? E, zeroD P E with
    | some i, some zs => some (setA t (.own E i.size (hes.getD (List.replicate l.toNat zs))) fr, (0 ≤ l ∧ l ≤ c ∧ c ≤ 9223372036854775807 ∧ (i.bytes : Int) * c ≤ 281474976710656) ∧ List.replicate l.toNat zs = hes.getD (List.replicate l.toNat zs))
    | _, _ => none
  | _, _, _ => none

theorem effMake_ok (hm : Mem e G S β fr (valsOf e a) w) {t : Nat} (ht : t < a.tmps.size) {T : TypeId} {hes : Option (List (List Dat))} {l c : AV} {fr' : Fr} {obl : Prop} (h : effMake P t T hes l c fr = some (fr', obl)) (ho : obl) {ul uc : Value} (hl : RFlat S w β (0, 0) l ul) (hc : RFlat S w β (0, 0) c uc) :
    ∃ u w', (Instr.makeSlice T ul uc).run P w = .ok u w' ∧ After e G fr' a t u w' := by
  unfold effMake at h
  split at h
  · rename_i kl l kc c E hu
    split at h
    · rename_i i zs hi hz
      simp only [Option.some.injEq, Prod.mk.injEq] at h
      obtain ⟨rfl, rfl⟩ := h
      obtain ⟨⟨h0, h1, h2, h3⟩, h4⟩ := ho
      obtain ⟨i', z, hi', hzz, hsz, hlen, hone, hcs⟩ := zeroD_ok hz
      rw [hi] at hi'
      cases hi'
      have e1 : ul = .int kl l := hl.1
      have e2 : uc = .int kc c := hc.1
      subst e1 e2
      have hr := run_make (P := P) w T E i z hu hi hzz kl kc l c h0 h1 h3 h2
      have hlc : l.toNat ≤ c.toNat := by omega
      have hREs : REs S w i.size (List.replicate l.toNat zs) (fun j => (madeCells z.cells (c.toNat * i.size)).toList[j]?) 0 := by
        have := REs_replicate (S := S) (w := w) (hcs S w) hlen (by simp [hsz]) l.toNat (fun j => z.cells[j % z.cells.size]!) (fun j hj => by
          have hpos : 0 < i.size := by
            rcases Nat.eq_zero_or_pos i.size with h | h
            · rw [h] at hj; omega
            · exact h
          have hlt : j % z.cells.size < z.cells.size := Nat.mod_lt _ (by omega)
          rw [← hsz]
          simp [getElem!_pos, hlt]) c.toNat hlc
        simpa [madeCells] using this
      rw [h4] at hREs
      have hlen2 : (hes.getD (List.replicate l.toNat zs)).length = l.toNat := by rw [← h4]; simp
      obtain ⟨β', hm'⟩ := hm.newOwn t i.size (hes.getD (List.replicate l.toNat zs)) (madeCells z.cells (c.toNat * i.size)).toList l.toNat c.toNat E (0, 0) hlen2.symm hlc (by simp [madeCells]) (fun o _ h => by simp at h) hREs (valsOf e (a.put (some t) (.slice (some ⟨w.heap.size, 0, none⟩) l.toNat c.toNat))) (put_old a t _ ht) (put_new a t _ ht)
      exact ⟨_, _, hr, S, β', hm'⟩
    · cases h
  · cases h

/-- The elements of a slice literal. -/
def partsD (size len : Nat) : List (Nat × AV) → List (List Dat) → Option (List (List Dat))
  | [], es => some es
  | (i, v) :: r, es => match cellsD v with
    | some ds => if ds.length = size ∧ i < len then partsD size len r (es.set i ds) else none
    | none => none

def effLit (P : Program) (t : Nat) (T : TypeId) (hes : Option (List (List Dat))) (len : Nat) (parts : List (Nat × AV)) (fr : Fr) : Option (Fr × Prop) :=
  match P.underlying T with
  | some (.slice E) =>
    match P.info? E, zeroD P E with
    | some i, some zs => if len * i.size ≤ 16777216 then
        (partsD i.size len parts (List.replicate len zs)).map fun es => (setA t (.own E i.size (hes.getD es)) fr, es = hes.getD es)
      else none
    | _, _ => none
  | _ => none

theorem fill_ok {len size : Nat} : ∀ (parts : List (Nat × AV)) (us : List (Nat × Value)) (es es' : List (List Dat)) (cells : Array Value), All2 (fun _ (p : Nat × AV) (q : Nat × Value) => q.1 = p.1 ∧ RFlat S w β (0, 0) p.2 q.2) 0 parts us →
    partsD size len parts es = some es' → es.length = len → cells.size = len * size → REs S w size es (fun j => cells.toList[j]?) 0 →
    ∃ cells', Instr.fill (fun i => some (i * size, size)) cells us = some cells' ∧ es'.length = len ∧ cells'.size = len * size ∧ REs S w size es' (fun j => cells'.toList[j]?) 0
  | [], us, es, es', cells, hp, h, hl, hs, hr => by
    cases us with
    | cons _ _ => simp [All2] at hp
    | nil =>
      simp only [partsD, Option.some.injEq] at h
      subst h
      exact ⟨cells, rfl, hl, hs, hr⟩
  | (i, v) :: parts, us, es, es', cells, hp, h, hl, hs, hr => by
    cases us with
    | nil => simp [All2] at hp
    | cons q us =>
      obtain ⟨j, u⟩ := q
      simp only [All2] at hp
      obtain ⟨⟨rfl, hv⟩, hrest⟩ := hp
      simp only [partsD] at h
      split at h
      case h_2 => cases h
      rename_i ds hds
      split at h
      case isFalse => cases h
      rename_i hc
      obtain ⟨h1, h2⟩ := cellsD_ok hds hv (fun x v => RD_one x v)
      have hdl : u.cells.size = size := by
        have := h1
        simp only [Array.length_toList] at this
        omega
      have hle : j * size + size ≤ len * size := by
        have : (j + 1) * size ≤ len * size := Nat.mul_le_mul_right _ hc.2
        rwa [Nat.add_mul, Nat.one_mul] at this
      have hsp : u.cells.zipIdx.foldl (fun cs (x : Value × Nat) => cs.setIfInBounds (j * size + x.2) x.1) cells = (spl (j * size) u.cells.toList cells.toList).toArray := zipIdx_foldl (j * size) u.cells cells (by omega)
      have hr' := REs.set (i := j) hr hc.1 h2 h1 (by omega) (by simp [hs, hl])
      obtain ⟨cells', hf, h3, h4, h5⟩ := fill_ok parts us (es.set j ds) es' (spl (j * size) u.cells.toList cells.toList).toArray (by
          refine All2.of_get (All2.len hrest) fun k p q hp hq => ?_
          obtain ⟨q', hq', hpq⟩ := All2.get hrest k p hp
          rw [hq] at hq'
          cases hq'
          exact hpq) h (by simpa using hl) (by
          have : (spl (j * size) u.cells.toList cells.toList).length = cells.toList.length := spl_len (by simp; omega)
          simpa [hs] using this) (by simpa using hr')
      refine ⟨cells', ?_, h3, h4, h5⟩
      simp only [Instr.fill]
      rw [if_neg (by simp; omega)]
      rw [← hf]
      congr 1

theorem effLit_ok (hm : Mem e G S β fr (valsOf e a) w) {t : Nat} (ht : t < a.tmps.size) {T : TypeId} {hes : Option (List (List Dat))} {len : Nat} {parts : List (Nat × AV)} {fr' : Fr} {obl : Prop} (h : effLit P t T hes len parts fr = some (fr', obl)) (ho : obl) {us : List (Nat × Value)}
    (hp : All2 (fun _ (p : Nat × AV) (q : Nat × Value) => q.1 = p.1 ∧ RFlat S w β (0, 0) p.2 q.2) 0 parts us) :
    ∃ u w', (Instr.buildSlice T len us.toArray).run P w = .ok u w' ∧ After e G fr' a t u w' := by
  unfold effLit at h
  split at h
  case h_2 => cases h
  rename_i E hu
  split at h
  case h_2 => cases h
  rename_i i zs hi hz
  split at h
  case isFalse => cases h
  rename_i hle
  simp only [Option.map_eq_some_iff, Prod.mk.injEq] at h
  obtain ⟨es, hes', rfl, rfl⟩ := h
  obtain ⟨i', z, hi', hzz, hsz, hlen, hone, hcs⟩ := zeroD_ok hz
  rw [hi] at hi'
  cases hi'
  have hREs : REs S w i.size (List.replicate len zs) (fun j => (((Array.range (len * i.size)).map (fun j => z.cells[j % z.cells.size]!)).toList)[j]?) 0 := by
    have := REs_replicate (S := S) (w := w) (hcs S w) hlen (by simp [hsz]) len (fun j => z.cells[j % z.cells.size]!) (fun j hj => by
      have hpos : 0 < i.size := by
        rcases Nat.eq_zero_or_pos i.size with h | h
        · rw [h] at hj; omega
        · exact h
      have hlt : j % z.cells.size < z.cells.size := Nat.mod_lt _ (by omega)
      rw [← hsz]
      simp [getElem!_pos, hlt]) len (Nat.le_refl _)
    simpa using this
  obtain ⟨cells', hf, h3, h4, h5⟩ := fill_ok parts us _ es ((Array.range (len * i.size)).map (fun j => z.cells[j % z.cells.size]!)) hp hes' (by simp) (by simp) hREs
  have hrun : (Instr.buildSlice T len us.toArray).run P w = .ok (.slice (some ⟨w.heap.size, 0, none⟩) len len) (w.alloc (.cells cells' E)) := by
    have hn : ¬ (2 ^ 24 < len * i.size) := by omega
    by_cases h0 : len * i.size = 0
    · have hf0 : Instr.fill (fun i_1 => some (i_1 * i.size, i.size)) (Array.map (fun x => (#[] : Array Value)[x % (#[] : Array Value).size]!) (Array.range (len * i.size))) us = some cells' := by
        rw [h0] at hf ⊢
        simpa [Array.range_zero'] using hf
      simp only [Instr.buildSlice, Sem.run_bind, run_underlying hu, Result.andThen_ok, sizeOf, typeInfo, run_program, hi, Sem.run_pure, gt_iff_lt, h0, if_true]
      rw [h0] at hf0
      simp only [Nat.not_lt_zero, if_false, Sem.run_bind, Sem.run_pure, Result.andThen_ok, hf0, newRow, run_newObj, World.alloc]
    · simp only [Instr.buildSlice, Sem.run_bind, run_underlying hu, Result.andThen_ok, sizeOf, typeInfo, run_program, hi, Sem.run_pure, gt_iff_lt, hn, if_false, h0, zeroValue, hzz]
      simp only [hf, newRow, Sem.run_bind, run_newObj, Result.andThen_ok, Sem.run_pure, World.alloc]
  rw [ho] at h5 h3
  obtain ⟨β', hm'⟩ := hm.newOwn t i.size (hes.getD es) cells'.toList len len E (0, 0) h3.symm (Nat.le_refl _) (by simpa using h4) (fun o _ h => by simp at h) h5 (valsOf e (a.put (some t) (.slice (some ⟨w.heap.size, 0, none⟩) len len))) (put_old a t _ ht) (put_new a t _ ht)
  exact ⟨_, _, hrun, S, β', hm'⟩

end
end Go.Vm
