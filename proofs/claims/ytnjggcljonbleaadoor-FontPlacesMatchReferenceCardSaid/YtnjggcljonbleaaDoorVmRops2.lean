/-
  THE V-MACHINE, part 6: loads, addresses, and the like, one lemma an operation.
-/
import Derived.Test.YtnjggcljonbleaaDoorVmRops
namespace Go.Vm
section
variable {P : Program} {e : Env} {G : GEnv} {S : Nat → Prop} {β : Path → Value} {fr : Fr} {vals : Nat → Option Value} {w : World}

theorem flat_readCell {x j : Nat} {a : AV} {u : Value} (hr : RFlat S w β (x, j + 1) a u) : RFlat S w β (0, 0) (a.readCell x j) u ∧ (a.readCell x j).isOwn = false := by
  cases a <;> simp only [AV.readCell, RFlat, RRef, AV.isOwn, and_true] at hr ⊢
  case d => exact hr
  case agg => exact hr
  case own => exact hr.1
  case fz => exact hr.2
  case vw => exact hr
  case bp => exact hr
  case ep => exact hr
  case clo => exact hr

theorem dats_ok {x : Nat} : ∀ (cs : List AV) (ds : List Dat) (l : List Value) (i : Nat), dats cs = some ds → All2 (fun j a u => RFlat S w β (x, j + 1) a u) i cs l → ds.length = cs.length ∧ RCs S w ds (fun j => l[j]?) 0
  | [], ds, l, i, h, hr => by
    simp [dats] at h
    subst h
    simp [RCs]
  | c :: cs, ds, [], i, h, hr => by simp [All2] at hr
  | c :: cs, ds, u :: l, i, h, hr => by
    simp only [All2] at hr
    have key : ∀ (y : Dat) (r : List Dat), RD S w y u → dats cs = some r → (y :: r).length = (c :: cs).length ∧ RCs S w (y :: r) (fun j => (u :: l)[j]?) 0 := by
      intro y r hy hr'
      obtain ⟨h1, h2⟩ := dats_ok cs r l (i + 1) hr' hr.2
      refine ⟨by simp [h1], ?_⟩
      simp only [RCs]
      refine ⟨⟨u, by simp, hy⟩, ?_⟩
      exact RCs.congr r 0 1 (fun j _ => by simp [Nat.add_comm 1 j]) h2
    cases c <;> simp only [dats, Option.map_eq_some_iff, reduceCtorEq] at h
    case d y =>
      obtain ⟨r, hr', rfl⟩ := h
      exact key y r hr.1 hr'
    case fz sz es =>
      obtain ⟨r, hr', rfl⟩ := h
      exact key _ r hr.1.2 hr'

theorem loadR_ok (hm : Mem e G S β fr vals w) {t : TypeId} {hint : Hint} {a av : AV} {obl : Prop} (h : loadR P t hint fr a = some (av, obl)) (ho : obl) {u : Value} (hr : RFlat S w β (0, 0) a u) :
    ∃ v, (Instr.loadAt t u).run P w = .ok v w ∧ RFlat S w β (0, 0) av v ∧ av.isOwn = false := by
  have elem : ∀ (p : Path) (sz i off : Nat) (es : List (List Dat)), RRef β (.ep p sz i off) u → SlAt S w (β p) sz es → (partD P t hint.cs off).map (·, es[i]? = some hint.cs) = some (av, obl) →
      ∃ v, (Instr.loadAt t u).run P w = .ok v w ∧ RFlat S w β (0, 0) av v ∧ av.isOwn = false := by
    intro p sz i off es hr hs h
    obtain ⟨b, o, n, c, h1, h2⟩ := hr
    simp only [Option.map_eq_some_iff, Prod.mk.injEq] at h
    obtain ⟨av', h3, rfl, rfl⟩ := h
    rcases hs with ⟨_, rfl⟩ | ⟨b', o', c', arr, E, fz, h4, h5, h6, h7⟩
    · simp at ho
    · rw [h1] at h4
      simp only [Value.slice.injEq, Option.some.injEq, Addr.mk.injEq] at h4
      obtain ⟨⟨rfl, rfl, _⟩, rfl, rfl⟩ := h4
      obtain ⟨_, h8⟩ := REs.get es o i hint.cs h7 ho
      obtain ⟨v, hv⟩ := run_loadVar_cs (P := P) (β := β) h3 h6 h8
      refine ⟨v, ?_, hv.2⟩
      subst h2
      simp only [Instr.loadAt, Instr.sureAddr, Sem.run_bind, Sem.run_pure, Result.andThen_ok]
      rw [← Nat.add_assoc]
      exact hv.1
  unfold loadR at h
  split at h
  · rename_i cs
    simp only [Option.map_eq_some_iff, Prod.mk.injEq] at h
    obtain ⟨av', h1, rfl, rfl⟩ := h
    simp only [RFlat, RD] at hr
    obtain ⟨b, o, arr, E, fz, rfl, _, hb, hc⟩ := hr
    obtain ⟨v, hv⟩ := run_loadVar_cs (P := P) (β := β) h1 hb hc
    refine ⟨v, ?_, hv.2⟩
    simp only [Instr.loadAt, Instr.sureAddr, Sem.run_bind, Sem.run_pure, Result.andThen_ok]
    exact hv.1
  · rename_i x off
    obtain ⟨b, h1, rfl⟩ := hr
    have box : ∀ cs, fget fr x = .box cs → ∃ l E, w.heap[b]? = some (.cells ⟨l⟩ E (0, 0)) ∧ RParts S w β x cs l := by
      intro cs hf
      obtain ⟨u', hr', _⟩ := hm.rel x
      rw [hf] at hr'
      obtain ⟨h0, b', l, E, h2, h3, h4⟩ := hr'
      rw [← h0, h2] at h1
      simp only [Value.pointer.injEq, Option.some.injEq, Addr.mk.injEq] at h1
      obtain ⟨rfl, _⟩ := h1
      exact ⟨l, E, h3, h4⟩
    split at h
    · rename_i cs i hf ha hi
      obtain ⟨l, E, h3, h4⟩ := box cs hf
      simp only [Option.map_eq_some_iff, Prod.mk.injEq] at h
      obtain ⟨c, hc, rfl, rfl⟩ := h
      obtain ⟨v, hv, hrv⟩ := All2.get h4 off c hc
      rw [Nat.zero_add] at hrv
      refine ⟨v, ?_, flat_readCell hrv⟩
      have hcell : w.cell? ⟨b, off, none⟩ = some v := by rw [cell_of_row w b off ⟨l⟩ E (0, 0) h3]; simpa using hv
      simp [Instr.loadAt, Instr.sureAddr, loadVar, run_isAgg ha, hcell]
    · rename_i cs i hf ha hi
      obtain ⟨l, E, h3, h4⟩ := box cs hf
      split at h
      case isFalse => cases h
      case isTrue hle =>
        simp only [Option.map_eq_some_iff, Prod.mk.injEq] at h
        obtain ⟨ds, hd, rfl, rfl⟩ := h
        have hlen : l.length = cs.length := (All2.len h4).symm
        have hsub : All2 (fun j a u => RFlat S w β (x, j + 1) a u) off ((cs.drop off).take i.size) ((l.drop off).take i.size) := by
          refine All2.of_get (by simp; omega) fun j a c ha' hc => ?_
          rw [List.getElem?_take] at ha' hc
          have hj : j < i.size := by
            rcases Nat.lt_or_ge j i.size with h | h
            · exact h
            · rw [if_neg (by omega)] at ha'; cases ha'
          rw [if_pos hj] at hc ha'
          rw [List.getElem?_drop] at ha' hc
          obtain ⟨v, hv, hrv⟩ := All2.get h4 (off + j) a ha'
          rw [Nat.zero_add] at hrv
          rw [hv] at hc
          cases hc
          exact hrv
        obtain ⟨hl1, hl2⟩ := dats_ok _ ds _ off hd hsub
        refine ⟨.agg ((l.drop off).take i.size).toArray, ?_, ⟨_, rfl, ?_, hl2⟩, rfl⟩
        · have hld := run_loadCells_row P w b off ⟨l⟩ E (0, 0) h3 i.size (by simp; omega)
          have he : (⟨l⟩ : Array Value).extract off (off + i.size) = ((l.drop off).take i.size).toArray := by
            apply Array.ext'
            simp [List.extract]
          rw [he] at hld
          simp only [Instr.loadAt, Instr.sureAddr, loadVar, Sem.run_bind, Sem.run_pure, Result.andThen_ok, run_isAgg ha, if_true, sizeOf, typeInfo, run_program, hi, hld]
        · simp [hl1]; omega
    · cases h
  · rename_i p sz i off
    split at h
    · rename_i sz' es hp
      split at h
      · rename_i he
        subst he
        exact elem p sz i off es hr (slat_of_own (pget_own hm hp)) h
      · cases h
    · rename_i sz' es hp
      split at h
      · rename_i he
        subst he
        exact elem p sz i off es hr (slat_of_rd (pget_fz hm hp)) h
      · cases h
    · cases h
  · cases h

/-- The offset and the type of a field that has cells. -/
def fieldOff (P : Program) (s : TypeId) (f : Nat) : Option (Nat × TypeId) :=
  match P.underlying s with
  | some (.struct fs) => match fs[f]? with
    | some x => match P.info? x.type with
      | some i => if i.size = 0 then none else some (x.offset, x.type)
      | none => none
    | none => none
  | _ => none

def fieldAddrR (P : Program) (s : TypeId) (f : Nat) : AV → Option AV
  | .bp x off => (fieldOff P s f).map fun o => .bp x (off + o.1)
  | .ep p sz i off => (fieldOff P s f).map fun o => .ep p sz i (off + o.1)
  | .d (.pt cs) => (fieldOff P s f).map fun o => .d (.pt (cs.drop o.1))
  | _ => none

theorem fieldOff_ok {s : TypeId} {f : Nat} {o : Nat × TypeId} (h : fieldOff P s f = some o) : ∃ fs x i, P.underlying s = some (.struct fs) ∧ fs[f]? = some x ∧ x.offset = o.1 ∧ x.type = o.2 ∧ P.info? x.type = some i ∧ i.size ≠ 0 := by
  unfold fieldOff at h
  split at h
  · rename_i fs hu
    split at h
    · rename_i x hx
      split at h
      · rename_i i hi
        split at h
        · cases h
        · rename_i hz
          simp only [Option.some.injEq] at h
          subst h
          exact ⟨fs, x, i, hu, hx, rfl, rfl, hi, hz⟩
      · cases h
    · cases h
  · cases h

theorem run_fieldAt {s : TypeId} {f : Nat} {o : Nat × TypeId} (h : fieldOff P s f = some o) (b off : Nat) : (Instr.fieldAt s (.pointer (some ⟨b, off, none⟩)) f).run P w = .ok (.pointer (some ⟨b, off + o.1, none⟩)) w := by
  obtain ⟨fs, x, i, h1, h2, h3, h4, h5, h6⟩ := fieldOff_ok h
  simp only [Instr.fieldAt, Sem.run_bind, run_underlying h1, Result.andThen_ok, h2, Instr.sureAddr, Sem.run_pure, fieldPlace, sizeOf, typeInfo, run_program, h5, Sem.run_ite, if_neg h6, addr_add, h3]

theorem fieldAddrR_ok {s : TypeId} {f : Nat} {a av : AV} (h : fieldAddrR P s f a = some av) {u : Value} (hr : RFlat S w β (0, 0) a u) :
    ∃ v, (Instr.fieldAt s u f).run P w = .ok v w ∧ RFlat S w β (0, 0) av v ∧ av.isOwn = false := by
  unfold fieldAddrR at h
  split at h
  · rename_i x off
    simp only [Option.map_eq_some_iff] at h
    obtain ⟨o, ho, rfl⟩ := h
    obtain ⟨b, h1, rfl⟩ := hr
    exact ⟨_, run_fieldAt ho b off, ⟨b, h1, rfl⟩, rfl⟩
  · rename_i p sz i off
    simp only [Option.map_eq_some_iff] at h
    obtain ⟨o, ho, rfl⟩ := h
    obtain ⟨b, o', n, c, h1, rfl⟩ := hr
    refine ⟨_, run_fieldAt ho b _, ⟨b, o', n, c, h1, ?_⟩, rfl⟩
    simp only [Nat.add_assoc]
  · rename_i cs
    simp only [Option.map_eq_some_iff] at h
    obtain ⟨o, ho, rfl⟩ := h
    simp only [RFlat, RD] at hr
    obtain ⟨b, o', arr, E, fz, rfl, hS, hb, hc⟩ := hr
    refine ⟨_, run_fieldAt ho b _, ?_, rfl⟩
    simp only [RFlat, RD]
    exact ⟨b, o' + o.1, arr, E, fz, rfl, hS, hb, hc.drop cs o' o.1⟩
  · cases h

/-- A field of a struct that is a value. -/
def fieldR (P : Program) (s : TypeId) (f : Nat) : AV → Option AV
  | .agg cs => match P.underlying s with
    | some (.struct fs) => match fs[f]? with
      | some x => partD P x.type cs x.offset
      | none => none
    | _ => none
  | _ => none

theorem run_part {cs : List Dat} {off : Nat} {t : TypeId} {av : AV} (h : partD P t cs off = some av) {l : List Value} (hl : l.length = cs.length) (hc : RCs S w cs (fun j => l[j]?) 0) :
    ∃ v, (part t ⟨l⟩ off).run P w = .ok v w ∧ RFlat S w β (0, 0) av v ∧ av.isOwn = false := by
  have agg : ∀ (i : TypeInfo), P.info? t = some i → isAggT P t = some true → (if off + i.size ≤ cs.length then some (AV.agg ((cs.drop off).take i.size)) else none) = some av →
      ∃ v, (part t ⟨l⟩ off).run P w = .ok v w ∧ RFlat S w β (0, 0) av v ∧ av.isOwn = false := by
    intro i hi ha h
    split at h
    case isFalse => cases h
    case isTrue hle =>
      simp only [Option.some.injEq] at h
      subst h
      have he : (⟨l⟩ : Array Value).extract off (off + i.size) = ((l.drop off).take i.size).toArray := by
        apply Array.ext'
        simp [List.extract]
      refine ⟨.agg ((l.drop off).take i.size).toArray, ?_, ⟨_, rfl, by simp [hl], ?_⟩, rfl⟩
      · simp only [part, Sem.run_bind, run_isAgg ha, Result.andThen_ok, if_true, sizeOf, typeInfo, run_program, hi, Sem.run_pure, he]
      · refine RCs.congr _ off 0 (fun j hj => ?_) ((hc.drop cs 0 off).take _ _ _ |> fun h => by simpa using h)
        simp only [List.length_take, List.length_drop] at hj
        rw [List.getElem?_take, if_pos (by omega), List.getElem?_drop, Nat.zero_add]
  unfold partD at h
  split at h
  · rename_i hu hi
    exact agg _ hi (by simp [isAggT, hu]) h
  · rename_i hu hi
    exact agg _ hi (by simp [isAggT, hu]) h
  · rename_i d i hu hi h1 h2
    have ha : isAggT P t = some false := by
      unfold isAggT
      rw [h1]
      split
      · rename_i e; simp only [Option.some.injEq] at e; exact absurd e (hu _)
      · rename_i e; simp only [Option.some.injEq] at e; exact absurd e (hi _ _)
      · rfl
      · rename_i e; cases e
    cases hcs : cs[off]? with
    | none => simp [hcs] at h
    | some c =>
      simp [hcs] at h
      subst h
      obtain ⟨u, hu, hr⟩ := RCs.get cs 0 off c hc hcs
      refine ⟨u, ?_, hr, rfl⟩
      simp only [Nat.zero_add] at hu
      simp [part, run_isAgg ha, hu]
  · cases h

theorem fieldR_ok {s : TypeId} {f : Nat} {a av : AV} (h : fieldR P s f a = some av) {u : Value} (hr : RFlat S w β (0, 0) a u) :
    ∃ v, (Instr.field s u f).run P w = .ok v w ∧ RFlat S w β (0, 0) av v ∧ av.isOwn = false := by
  unfold fieldR at h
  split at h
  · rename_i cs
    split at h
    · rename_i fs hu
      split at h
      · rename_i x hx
        obtain ⟨l, rfl, hl, hc⟩ := hr
        obtain ⟨v, hv, hrv⟩ := run_part (β := β) h hl hc
        refine ⟨v, ?_, hrv⟩
        simp only [Instr.field, Sem.run_bind, run_underlying hu, Result.andThen_ok, hx, asAgg, Sem.run_pure, hv]
      · cases h
    · cases h
  · cases h

/-- The size of a slice's or an array's elements. -/
def elemSize (P : Program) (t : TypeId) : Option (Bool × Nat × Nat) :=
  match P.underlying t with
  | some (.slice E) => (P.info? E).map fun i => (true, 0, i.size)
  | some (.array n E) => (P.info? E).map fun i => (false, n, i.size)
  | _ => none

def indexAddrR (P : Program) (t : TypeId) (hint : Hint) (fr : Fr) (a ix : AV) : Option (AV × Prop) :=
  match ix, elemSize P t with
  | .d (.v (.int _ i)), some (true, _, size) =>
    match a with
    | .d (.sl sz es) => if sz = size then some (.d (.pt hint.cs), 0 ≤ i ∧ es[i.toNat]? = some hint.cs) else none
    | .vw p => match pget fr p with
      | .own _κ sz es => if sz = size then some (.ep p sz i.toNat 0, 0 ≤ i ∧ i < es.length) else none
      | .fz sz es => if sz = size then some (.d (.pt hint.cs), 0 ≤ i ∧ es[i.toNat]? = some hint.cs) else none
      | _ => none
    | _ => none
  | .d (.v (.int _ i)), some (false, n, size) =>
    match a with
    | .bp x off => some (.bp x (off + i.toNat * size), 0 ≤ i ∧ i < n)
    | .d (.pt cs) => some (.d (.pt (cs.drop (i.toNat * size))), 0 ≤ i ∧ i < n)
    | _ => none
  | _, _ => none

theorem run_indexAt_sl {t E : TypeId} {i : TypeInfo} (hu : P.underlying t = some (.slice E)) (hi : P.info? E = some i) (b o n c : Nat) (k : IntKind) (x : Int) (h0 : 0 ≤ x) (h1 : x < n) :
    (Instr.indexAt t (.slice (some ⟨b, o, none⟩) n c) (.int k x)).run P w = .ok (.pointer (some ⟨b, o + x.toNat * i.size, none⟩)) w := by
  have he : P.elem t = E := by simp [Program.elem, hu]
  rw [run_indexAt_slice w t ⟨b, o, none⟩ n c k x (by rw [he]; exact hu), if_pos ⟨h0, h1⟩, he]
  simp [sizeOf, typeInfo, hi, addr_add]

theorem indexAddrR_ok (hm : Mem e G S β fr vals w) {t : TypeId} {hint : Hint} {a ix av : AV} {obl : Prop} (h : indexAddrR P t hint fr a ix = some (av, obl)) (ho : obl) {u y : Value} (hr : RFlat S w β (0, 0) a u) (hy : RFlat S w β (0, 0) ix y) :
    ∃ v, (Instr.indexAt t u y).run P w = .ok v w ∧ RFlat S w β (0, 0) av v ∧ av.isOwn = false := by
  have imm : ∀ (E : TypeId) (ti : TypeInfo) (k : IntKind) (i : Int) (es : List (List Dat)), P.underlying t = some (.slice E) → P.info? E = some ti → y = .int k i → RD S w (.sl ti.size es) u → (0 ≤ i ∧ es[i.toNat]? = some hint.cs) →
      ∃ v, (Instr.indexAt t u y).run P w = .ok v w ∧ RFlat S w β (0, 0) (.d (.pt hint.cs)) v ∧ (AV.d (.pt hint.cs)).isOwn = false := by
    intro E ti k i es hu hi hyy hrd hob
    subst hyy
    simp only [RD] at hrd
    rcases hrd with ⟨_, rfl⟩ | ⟨b, o, c, arr, E', fz, rfl, h2, hS, hb, hc⟩
    · simp at hob
    · have hlt : i.toNat < es.length := (List.getElem?_eq_some_iff.1 hob.2).1
      refine ⟨_, run_indexAt_sl hu hi b o es.length c k i hob.1 (by omega), ?_, rfl⟩
      simp only [RFlat, RD]
      exact ⟨b, _, arr, E', fz, rfl, hS, hb, (REs.get es o i.toNat _ hc hob.2).2⟩
  unfold indexAddrR at h
  split at h
  · rename_i k i m size hes
    have hyy : y = .int k i := hy.1
    unfold elemSize at hes
    split at hes
    · rename_i E hu
      simp only [Option.map_eq_some_iff, Prod.mk.injEq] at hes
      obtain ⟨ti, hi, _, _, rfl⟩ := hes
      split at h
      · rename_i sz es
        split at h
        · rename_i hsz
          subst hsz
          simp only [Option.some.injEq, Prod.mk.injEq] at h
          obtain ⟨rfl, rfl⟩ := h
          exact imm E ti k i es hu hi hyy hr ho
        · cases h
      · rename_i p
        split at h
        · rename_i sz es hp
          split at h
          · rename_i hsz
            subst hsz
            simp only [Option.some.injEq, Prod.mk.injEq] at h
            obtain ⟨rfl, rfl⟩ := h
            have hown := pget_own hm hp
            have hup : u = β p := hr
            subst hyy
            rcases hown with ⟨_, rfl⟩ | ⟨b, o, c, arr, E', fz, h1, h2, _, _, hb, _, hc⟩
            · simp at ho; omega
            · rw [hup, h1]
              refine ⟨_, run_indexAt_sl hu hi b o es.length c k i ho.1 ho.2, ?_, rfl⟩
              exact ⟨b, o, es.length, c, h1, by simp⟩
          · cases h
        · rename_i sz es hp
          split at h
          · rename_i hsz
            subst hsz
            simp only [Option.some.injEq, Prod.mk.injEq] at h
            obtain ⟨rfl, rfl⟩ := h
            have hup : u = β p := hr
            exact imm E ti k i es hu hi hyy (by rw [hup]; exact pget_fz hm hp) ho
          · cases h
        · cases h
      · cases h
    · simp only [Option.map_eq_some_iff, Prod.mk.injEq] at hes
      obtain ⟨ti, hi, h', _⟩ := hes
      cases h'
    · cases hes
  · rename_i k i n size hes
    have hyy : y = .int k i := hy.1
    subst hyy
    unfold elemSize at hes
    split at hes
    · simp only [Option.map_eq_some_iff, Prod.mk.injEq] at hes
      obtain ⟨ti, hi, h', _⟩ := hes
      cases h'
    · rename_i n' E hu
      simp only [Option.map_eq_some_iff, Prod.mk.injEq] at hes
      obtain ⟨ti, hi, _, rfl, rfl⟩ := hes
      have hal : P.arrayLen t = n' := by simp [Program.arrayLen, hu]
      have hel : P.elem t = E := by simp [Program.elem, hu]
      have hrun : ∀ (b o : Nat), (0 ≤ i ∧ i < n') → (Instr.indexAt t (.pointer (some ⟨b, o, none⟩)) (.int k i)).run P w = .ok (.pointer (some ⟨b, o + i.toNat * ti.size, none⟩)) w := by
        intro b o hb
        rw [run_indexAt_array w t ⟨b, o, none⟩ k i (by rw [hal, hel]; exact hu), hal, if_pos hb, hel]
        simp [sizeOf, typeInfo, hi, addr_add]
      split at h
      · rename_i x off
        simp only [Option.some.injEq, Prod.mk.injEq] at h
        obtain ⟨rfl, rfl⟩ := h
        obtain ⟨b, h1, rfl⟩ := hr
        exact ⟨_, hrun b off ho, ⟨b, h1, rfl⟩, rfl⟩
      · rename_i cs
        simp only [Option.some.injEq, Prod.mk.injEq] at h
        obtain ⟨rfl, rfl⟩ := h
        simp only [RFlat, RD] at hr
        obtain ⟨b, o, arr, E', fz, rfl, hS, hb, hc⟩ := hr
        refine ⟨_, hrun b o ho, ?_, rfl⟩
        simp only [RFlat, RD]
        exact ⟨b, _, arr, E', fz, rfl, hS, hb, hc.drop cs o _⟩
      · cases h
    · cases hes
  · cases h

end
end Go.Vm
