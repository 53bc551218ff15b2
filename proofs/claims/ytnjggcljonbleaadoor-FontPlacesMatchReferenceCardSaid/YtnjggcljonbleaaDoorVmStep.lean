/-
  THE V-MACHINE, part 20: one operation of a region.
-/
import Derived.Test.YtnjggcljonbleaaDoorVmCall3
namespace Go.Vm

/-- One part of a composite literal, written into its place. -/
def partAt (places : Nat → Option (Nat × Nat)) (cs : List Dat) (q : Nat × AV) : Option (List Dat) :=
  match places q.1, cellsD q.2 with
  | some (off, size), some ds => if ds.length = size ∧ off + ds.length ≤ cs.length then some (spl off ds cs) else none
  | _, _ => none

/-- A composite literal. -/
def buildD (P : Program) (raw : Bool) (t : TypeId) (parts : List (Nat × AV)) : Option (List Dat) :=
  match P.underlying t, zeroX P raw t with
  | some (.struct fs), some zs => match fs.toList.mapM (fun f => (P.info? f.type).map fun i => (f.offset, i.size)) with
    | some places => parts.foldlM (partAt (places.toArray[·]?)) zs
    | none => none
  | some (.array _ E), some zs => match P.info? E with
    | some i => parts.foldlM (partAt (fun k => some (k * i.size, i.size))) zs
    | none => none
  | _, _ => none

/-- Two structs of plain fields, held against each other. -/
def aggEq (P : Program) (cs ds : List Dat) : List Field → Option Bool
  | [] => some true
  | f :: fs => if f.name ≠ "_" then match partD P f.type cs f.offset, partD P f.type ds f.offset, P.underlying f.type with
      | some (.d (.v (.int k1 a))), some (.d (.v (.int k2 b))), some (.int _) => if k1 = k2 then (aggEq P cs ds fs).map fun r => ((a == b) && r) else none
      | some (.d (.v (.bool a))), some (.d (.v (.bool b))), some .bool => (aggEq P cs ds fs).map fun r => ((a == b) && r)
      | some (.d (.str a)), some (.d (.str b)), some .string => (aggEq P cs ds fs).map fun r => ((a == b) && r)
      | _, _, _ => none
    else none
def binAgg (P : Program) (op : BinOp) (t : TypeId) (cs ds : List Dat) : Option Bool :=
  match P.underlying t with
  | some (.struct fs) => if P.stoodInHeld t = false ∧ P.eqGuardType P.depth t = false then match op with
      | .eql => aggEq P cs ds fs.toList
      | .neq => (aggEq P cs ds fs.toList).map fun r => !r
      | _ => none
    else none
  | _ => none

def isBoolT (P : Program) (t : TypeId) : Bool :=
  match P.underlying t with
  | some .bool => true
  | _ => false

/-- The value of an operation that leaves the world and the other slots as they are. -/
def opR (P : Program) (hint : Hint) (val : Operand → AV) (fr : Fr) (o : Oper) : Option (AV × Prop) :=
  match o.op with
  | .move x => some (val x, True)
  | .assign x => some (val x, True)
  | .load t x => loadR P t hint fr (val x)
  | .binOp op t x y _ => match val x, val y with
    | .d a, .d b => match binD op a b with
      | some (z, obl) => some (.d z, obl)
      | none => if isBoolT P t then (boolD op a b).map fun z => (.d z, True) else none
    | .agg cs, .agg ds => (binAgg P op t cs ds).map fun r => (.d (.v (.bool r)), True)
    | _, _ => none
  | .unOp op _ x => match val x with
    | .d a => (unD op a).map fun z => (.d z, True)
    | _ => none
  | .convert s d x => (convR P s d (val x)).map (·, True)
  | .fieldAddr s x f => (fieldAddrR P s f (val x)).map (·, True)
  | .field s x f => (fieldR P s f (val x)).map (·, True)
  | .indexAddr t x ix => indexAddrR P t hint fr (val x) (val ix)
  | .index t x ix => indexR P t hint (val x) (val ix)
  | .slice t x lo hi none => sliceR P t (val x) (lo.map val) (hi.map val)
  | .build t parts => (buildD P (!hint.take.isEmpty) t (parts.toList.map fun q => (q.1, val q.2))).map fun cs => (.agg cs, True)
  | .makeFunc (.func f) ⟨[]⟩ caps => (capsR (caps.toList.map val)).map fun cs => (.clo f cs, True)
  | .nilCheck x => match val x with
    | .bp y off => some (.bp y off, True)
    | .ep p sz i off => some (.ep p sz i off, True)
    | .d (.pt cs) => some (.d (.pt cs), True)
    | _ => none
  | .call { callee := .builtin .len, args := ⟨[x]⟩, argTypes := ⟨[t]⟩ } => (lenR P t fr (val x)).map (·, True)
  | .call { callee := .builtin .cap, args := ⟨[x]⟩, argTypes := ⟨[t]⟩ } => (capNil P t (val x)).map (·, True)
  | .call { callee := .builtin .max, args := ⟨x :: r⟩, argTypes := _ } => (maxR false (val x) (r.map val)).map (·, True)
  | .call { callee := .builtin .min, args := ⟨x :: r⟩, argTypes := _ } => (maxR true (val x) (r.map val)).map (·, True)
  | _ => none

section
variable {P : Program} {e : Env} {G : GEnv} {S : Nat → Prop} {β : Path → Value} {fr : Fr} {w : World} {a : Act}

theorem partAt_ok {place : Nat → Option (Nat × Nat)} {cs cs' : List Dat} {q : Nat × AV} (h : partAt place cs q = some cs') : ∃ off size ds, place q.1 = some (off, size) ∧ cellsD q.2 = some ds ∧ ds.length = size ∧ off + ds.length ≤ cs.length ∧ cs' = spl off ds cs := by
  unfold partAt at h
  split at h
  · rename_i off size ds h1 h2
    split at h
    · rename_i hc
      simp only [Option.some.injEq] at h
      exact ⟨off, size, ds, h1, h2, hc.1, hc.2, h.symm⟩
    · cases h
  · cases h

theorem run_fillAt (place : Nat → Option (Nat × Nat)) :
    ∀ (parts : List (Nat × AV)) (us : List (Nat × Value)) (cs cs' : List Dat) (cells : Array Value), All2 (fun _ (p : Nat × AV) (q : Nat × Value) => q.1 = p.1 ∧ RFlat S w β (0, 0) p.2 q.2) 0 parts us →
    parts.foldlM (partAt place) cs = some cs' → cells.size = cs.length → RCs S w cs (fun j => cells.toList[j]?) 0 →
    ∃ cells', Instr.fill place cells us = some cells' ∧ cells'.size = cs'.length ∧ RCs S w cs' (fun j => cells'.toList[j]?) 0
  | [], us, cs, cs', cells, hp, h, hl, hr => by
    cases us with
    | cons _ _ => simp [All2] at hp
    | nil =>
      simp only [List.foldlM_nil, Option.pure_def, Option.some.injEq] at h
      subst h
      exact ⟨cells, rfl, hl, hr⟩
  | (i, v) :: parts, us, cs, cs', cells, hp, h, hl, hr => by
    cases us with
    | nil => simp [All2] at hp
    | cons q us =>
      obtain ⟨j, u⟩ := q
      simp only [All2] at hp
      obtain ⟨⟨rfl, hv⟩, hrest⟩ := hp
      simp only [List.foldlM_cons, Option.bind_eq_bind, Option.bind_eq_some_iff] at h
      obtain ⟨cs1, h1, h2⟩ := h
      obtain ⟨off, size, ds, hpl, hds, hdl, hle, rfl⟩ := partAt_ok h1
      obtain ⟨h3, h4⟩ := cellsD_ok hds hv (fun x v => RD_one x v)
      have hul : u.cells.size = ds.length := by simpa using h3
      have hsp : u.cells.zipIdx.foldl (fun cs (x : Value × Nat) => cs.setIfInBounds (off + x.2) x.1) cells = (spl off u.cells.toList cells.toList).toArray := zipIdx_foldl off u.cells cells (by omega)
      have hr' := RCs.spl (off := off) hr h4 (by simpa using hl) h3 hle
      obtain ⟨cells', hf, h5, h6⟩ := run_fillAt place parts us (spl off ds cs) cs' (spl off u.cells.toList cells.toList).toArray (by
          refine All2.of_get (All2.len hrest) fun k p q hp hq => ?_
          obtain ⟨q', hq', hpq⟩ := All2.get hrest k p hp
          rw [hq] at hq'
          cases hq'
          exact hpq) h2 (by
          have e1 : (spl off u.cells.toList cells.toList).length = cells.toList.length := spl_len (by simp; omega)
          have e2 : (spl off ds cs).length = cs.length := spl_len hle
          rw [List.size_toArray, e1, e2]
          simpa using hl) (by simpa using hr')
      refine ⟨cells', ?_, h5, h6⟩
      simp only [Instr.fill, hpl]
      rw [if_neg (by simp; omega)]
      rw [← hf]
      congr 1

theorem run_build {t : TypeId} {raw : Bool} {parts : List (Nat × AV)} {cs : List Dat} (h : buildD P raw t parts = some cs) {us : List (Nat × Value)} (hp : All2 (fun _ (p : Nat × AV) (q : Nat × Value) => q.1 = p.1 ∧ RFlat S w β (0, 0) p.2 q.2) 0 parts us) :
    ∃ u, (Instr.build t us.toArray).run P w = .ok u w ∧ RFlat S w β (0, 0) (.agg cs) u := by
  unfold buildD at h
  split at h
  · rename_i fs zs hu hz
    obtain ⟨i, z, hi, hzz, hsz, hlen, hone, hcs⟩ := zeroX_ok hz
    split at h
    case h_2 => cases h
    rename_i places hpl
    obtain ⟨cells', hf, h5, h6⟩ := run_fillAt (S := S) (w := w) (places.toArray[·]?) parts us zs cs z.cells hp h (by omega) (hcs S w)
    refine ⟨.agg cells', Go.run_build w t us.toArray cells' ?_, ⟨cells'.toList, rfl, by simpa using h5, h6⟩⟩
    simp only [Program.built, hi, hu, hzz, hpl]
    exact hf
  · rename_i n E zs hu hz
    obtain ⟨i, z, hi, hzz, hsz, hlen, hone, hcs⟩ := zeroX_ok hz
    split at h
    case h_2 => cases h
    rename_i ei hei
    obtain ⟨cells', hf, h5, h6⟩ := run_fillAt (S := S) (w := w) (fun k => some (k * ei.size, ei.size)) parts us zs cs z.cells hp h (by omega) (hcs S w)
    refine ⟨.agg cells', Go.run_build w t us.toArray cells' ?_, ⟨cells'.toList, rfl, by simpa using h5, h6⟩⟩
    simp only [Program.built, hi, hu, hzz, hei]
    exact hf
  · cases h

theorem all2_map {val : Operand → AV} {ρ : Operand → Value} (hval : ∀ x, RFlat S w β (0, 0) (val x) (ρ x)) : ∀ (xs : List Operand) (i : Nat), All2 (fun _ x y => RFlat S w β (0, 0) x y) i (xs.map val) (xs.map ρ)
  | [], _ => trivial
  | x :: xs, i => ⟨hval x, all2_map hval xs (i + 1)⟩
theorem all2_parts {val : Operand → AV} {ρ : Operand → Value} (hval : ∀ x, RFlat S w β (0, 0) (val x) (ρ x)) : ∀ (xs : List (Nat × Operand)) (i : Nat), All2 (fun _ (p : Nat × AV) (q : Nat × Value) => q.1 = p.1 ∧ RFlat S w β (0, 0) p.2 q.2) i (xs.map fun q => (q.1, val q.2)) (xs.map fun q => (q.1, ρ q.2))
  | [], _ => trivial
  | x :: xs, i => ⟨⟨rfl, hval x.2⟩, all2_parts hval xs (i + 1)⟩

theorem aggEq_ok {cs ds : List Dat} {l m : List Value} (hl : l.length = cs.length) (hm : m.length = ds.length) (hc : RCs S w cs (fun j => l[j]?) 0) (hd : RCs S w ds (fun j => m[j]?) 0) (d : Nat) : ∀ (fs : List Field) {r : Bool}, aggEq P cs ds fs = some r → (Op.eqFields (d + 1) ⟨l⟩ ⟨m⟩ fs).run P w = .ok r w
  | [], r, h => by
    simp only [aggEq, Option.some.injEq] at h
    subst h
    rfl
  | f :: fs, r, h => by
    simp only [aggEq] at h
    split at h
    case isFalse => cases h
    rename_i hn
    simp only [Op.eqFields, if_pos hn]
    have fin : ∀ {u v : Value} {b r' : Bool}, (part f.type ⟨l⟩ f.offset).run P w = .ok u w → (part f.type ⟨m⟩ f.offset).run P w = .ok v w → (Op.equalIn (d + 1) f.type u v).run P w = .ok b w → aggEq P cs ds fs = some r' → r = (b && r') →
        (do
          let a ← part f.type ⟨l⟩ f.offset
          let b ← part f.type ⟨m⟩ f.offset
          let r ← Op.equalIn (d + 1) f.type a b
          if (!r) = true then pure false else Op.eqFields (d + 1) ⟨l⟩ ⟨m⟩ fs : Sem Bool).run P w = .ok r w := by
      intro u v b r' h1 h2 h3 h4 h5
      have ih := aggEq_ok hl hm hc hd d fs h4
      simp only [Sem.run_bind, h1, h2, h3, Result.andThen_ok]
      subst h5
      cases b with
      | true => simpa using ih
      | false => simp
    split at h
    · rename_i k1 a k2 b k h1 h2 h3
      split at h
      case isFalse => cases h
      rename_i hk
      subst hk
      simp only [Option.map_eq_some_iff] at h
      obtain ⟨r', h4, rfl⟩ := h
      obtain ⟨u, hu1, hu2, _⟩ := run_part (β := fun _ => .bool false) h1 hl hc
      obtain ⟨v, hv1, hv2, _⟩ := run_part (β := fun _ => .bool false) h2 hm hd
      have e1 : u = .int k1 a := hu2.1
      have e2 : v = .int k1 b := hv2.1
      subst e1 e2
      exact fin hu1 hv1 (run_equalIn_int w d f.type k1 k a b h3) h4 rfl
    · rename_i a b h1 h2 h3
      simp only [Option.map_eq_some_iff] at h
      obtain ⟨r', h4, rfl⟩ := h
      obtain ⟨u, hu1, hu2, _⟩ := run_part (β := fun _ => .bool false) h1 hl hc
      obtain ⟨v, hv1, hv2, _⟩ := run_part (β := fun _ => .bool false) h2 hm hd
      have e1 : u = .bool a := hu2.1
      have e2 : v = .bool b := hv2.1
      subst e1 e2
      exact fin hu1 hv1 (run_equalIn_bool P w d f.type a b h3) h4 rfl
    · rename_i a b h1 h2 h3
      simp only [Option.map_eq_some_iff] at h
      obtain ⟨r', h4, rfl⟩ := h
      obtain ⟨u, hu1, hu2, _⟩ := run_part (β := fun _ => .bool false) h1 hl hc
      obtain ⟨v, hv1, hv2, _⟩ := run_part (β := fun _ => .bool false) h2 hm hd
      have e1 : u = strOf a := hu2
      have e2 : v = strOf b := hv2
      subst e1 e2
      have hs : (⟨a.toArray⟩ : ByteArray).toList = a := by rw [ByteArray.toList_eq]
      have hs2 : (⟨b.toArray⟩ : ByteArray).toList = b := by rw [ByteArray.toList_eq]
      refine fin hu1 hv1 (run_equalIn_string w d f.type ⟨a.toArray⟩ ⟨b.toArray⟩ h3) h4 ?_
      rw [hs, hs2]
    · cases h

theorem binAgg_ok {op : BinOp} {t : TypeId} {cs ds : List Dat} {r : Bool} (h : binAgg P op t cs ds = some r) {X Y : Operand} {u v : Value} (hu : RFlat S w β (0, 0) (.agg cs) u) (hv : RFlat S w β (0, 0) (.agg ds) v) :
    (do eqGuard op t X Y u v; binOp op t u v : Sem Value).run P w = .ok (.bool r) w := by
  obtain ⟨l, rfl, hl, hc⟩ := hu
  obtain ⟨m, rfl, hm, hd⟩ := hv
  unfold binAgg at h
  split at h
  case h_2 => cases h
  rename_i fs hfs
  split at h
  case isFalse => cases h
  rename_i hh
  have hf : P.fieldsOf t = fs := by simp [Program.fieldsOf, hfs]
  have heq : ∀ b, aggEq P cs ds fs.toList = some b → (Op.equalIn 10000 t (.agg ⟨l⟩) (.agg ⟨m⟩)).run P w = .ok b w := by
    intro b hb
    rw [run_equalIn_agg w 9999 t ⟨l⟩ ⟨m⟩ (by rw [hf]; exact hfs) hh.1, hf]
    exact aggEq_ok hl hm hc hd 9998 fs.toList hb
  rw [Sem.run_bind, run_eqGuard_agg w op t X Y _ _ hh.2, Result.andThen_ok]
  split at h
  · rw [run_eql_struct, heq r h]
    rfl
  · simp only [Option.map_eq_some_iff] at h
    obtain ⟨b, hb, rfl⟩ := h
    rw [run_neq_struct, heq b hb]
    rfl
  · cases h

theorem opR_ok (hm : Mem e G S β fr (valsOf e a) w) {hint : Hint} {val : Operand → AV} (hval : ∀ x, RFlat S w β (0, 0) (val x) (a.eval x)) {o : Oper} {av : AV} {obl : Prop} (h : opR P hint val fr o = some (av, obl)) (ho : obl) :
    ∃ u, (execOp a.eval o).run P w = .ok (.value u) w ∧ RFlat S w β (0, 0) av u := by
  obtain ⟨dst, op, type, pos, after, guard⟩ := o
  unfold opR at h
  simp only at h
  have fin : ∀ {s : Sem Value} {u : Value}, s.run P w = .ok u w → (do pure (Next.value (← s)) : Sem Next).run P w = .ok (.value u) w := by
    intro s u hs
    simp [hs]
  split at h
  · simp only [Option.some.injEq, Prod.mk.injEq] at h
    obtain ⟨rfl, rfl⟩ := h
    exact ⟨_, rfl, hval _⟩
  · simp only [Option.some.injEq, Prod.mk.injEq] at h
    obtain ⟨rfl, rfl⟩ := h
    exact ⟨_, rfl, hval _⟩
  · obtain ⟨u, hu, hr, _⟩ := loadR_ok (P := P) hm h ho (hval _)
    exact ⟨u, fin hu, hr⟩
  · rename_i op t x y _
    split at h
    case h_3 => cases h
    case h_2 =>
      rename_i cs ds hA hB
      have h1 := hval x
      have h2 := hval y
      rw [hA] at h1
      rw [hB] at h2
      simp only [Option.map_eq_some_iff, Prod.mk.injEq] at h
      obtain ⟨r, hr, rfl, rfl⟩ := h
      exact ⟨.bool r, fin (binAgg_ok hr h1 h2), ⟨rfl, rfl⟩⟩
    rename_i A B hA hB
    have h1 := hval x
    have h2 := hval y
    rw [hA] at h1
    rw [hB] at h2
    split at h
    · rename_i z ob hz
      simp only [Option.some.injEq, Prod.mk.injEq] at h
      obtain ⟨rfl, rfl⟩ := h
      obtain ⟨r, hr1, hr2⟩ := binD_run P w op t x y A B z ob hz ho _ _ h1 h2
      exact ⟨r, fin hr1, hr2⟩
    · split at h
      case isFalse => cases h
      rename_i ht
      simp only [Option.map_eq_some_iff, Prod.mk.injEq] at h
      obtain ⟨z, hz, rfl, rfl⟩ := h
      have htt : P.underlying t = some .bool := by
        unfold isBoolT at ht
        split at ht
        · assumption
        · cases ht
      obtain ⟨r, hr1, hr2⟩ := boolD_run P w op t x y A B z htt hz _ _ h1 h2
      exact ⟨r, fin hr1, hr2⟩
  · rename_i op t x
    split at h
    case h_2 => cases h
    rename_i A hA
    have h1 := hval x
    rw [hA] at h1
    simp only [Option.map_eq_some_iff, Prod.mk.injEq] at h
    obtain ⟨z, hz, rfl, rfl⟩ := h
    obtain ⟨r, hr1, hr2⟩ := unD_run P w op A z hz _ h1
    exact ⟨r, fin hr1, hr2⟩
  · simp only [Option.map_eq_some_iff, Prod.mk.injEq] at h
    obtain ⟨z, hz, rfl, rfl⟩ := h
    obtain ⟨r, hr1, hr2, _⟩ := convR_ok (P := P) hz (hval _)
    exact ⟨r, fin hr1, hr2⟩
  · simp only [Option.map_eq_some_iff, Prod.mk.injEq] at h
    obtain ⟨z, hz, rfl, rfl⟩ := h
    obtain ⟨r, hr1, hr2, _⟩ := fieldAddrR_ok (P := P) hz (hval _)
    exact ⟨r, fin hr1, hr2⟩
  · simp only [Option.map_eq_some_iff, Prod.mk.injEq] at h
    obtain ⟨z, hz, rfl, rfl⟩ := h
    obtain ⟨r, hr1, hr2, _⟩ := fieldR_ok (P := P) hz (hval _)
    exact ⟨r, fin hr1, hr2⟩
  · obtain ⟨r, hr1, hr2, _⟩ := indexAddrR_ok (P := P) hm h ho (hval _) (hval _)
    exact ⟨r, fin hr1, hr2⟩
  · obtain ⟨r, hr1, hr2, _⟩ := indexR_ok (P := P) h ho (hval _) (hval _)
    exact ⟨r, fin hr1, hr2⟩
  · rename_i t x lo hi
    obtain ⟨r, hr1, hr2, _⟩ := sliceR_ok (P := P) (ulo := lo.map a.eval) (uhi := hi.map a.eval) h ho (hval x) (fun b hb => by
      cases lo with
      | none => cases hb
      | some l => simp only [Option.map_some, Option.some.injEq] at hb; subst hb; exact ⟨_, rfl, hval l⟩) (fun hb => by cases lo <;> simp_all) (fun b hb => by
      cases hi with
      | none => cases hb
      | some l => simp only [Option.map_some, Option.some.injEq] at hb; subst hb; exact ⟨_, rfl, hval l⟩) (fun hb => by cases hi <;> simp_all)
    exact ⟨r, fin hr1, hr2⟩
  · rename_i t parts
    simp only [Option.map_eq_some_iff, Prod.mk.injEq] at h
    obtain ⟨cs, hcs, rfl, rfl⟩ := h
    obtain ⟨u, hu, hr⟩ := Vm.run_build (P := P) (S := S) (w := w) (β := β) hcs (all2_parts hval parts.toList 0)
    refine ⟨u, ?_, hr⟩
    have he : (parts.map fun q => (q.1, a.eval q.2)) = (parts.toList.map fun q => (q.1, a.eval q.2)).toArray := by
      apply Array.ext'
      simp
    simp only [execOp]
    rw [he]
    exact fin hu
  · rename_i f caps
    simp only [Option.map_eq_some_iff, Prod.mk.injEq] at h
    obtain ⟨cs, hcs, rfl, rfl⟩ := h
    refine ⟨.func (.func f) #[] (caps.map a.eval), ?_, ⟨caps.toList.map a.eval, ?_, capsR_ok _ _ _ hcs (all2_map hval caps.toList 0)⟩⟩
    · simp [execOp, Instr.makeFunc]
    · congr 1
      apply Array.ext'
      simp
  · rename_i x
    have h1 := hval x
    split at h
    · rename_i y off hx
      simp only [Option.some.injEq, Prod.mk.injEq] at h
      obtain ⟨rfl, rfl⟩ := h
      rw [hx] at h1
      have h1' := h1
      obtain ⟨b, _, hb⟩ := h1
      refine ⟨_, ?_, h1'⟩
      simp only [execOp, hb]
      rfl
    · rename_i p sz i off hx
      simp only [Option.some.injEq, Prod.mk.injEq] at h
      obtain ⟨rfl, rfl⟩ := h
      rw [hx] at h1
      have h1' := h1
      obtain ⟨b, _, _, _, _, hb⟩ := h1
      refine ⟨_, ?_, h1'⟩
      simp only [execOp, hb]
      rfl
    · rename_i cs hx
      simp only [Option.some.injEq, Prod.mk.injEq] at h
      obtain ⟨rfl, rfl⟩ := h
      rw [hx] at h1
      have h1' := h1
      simp only [RFlat, RD] at h1
      obtain ⟨b, off, arr, E, fz, hb, _⟩ := h1
      refine ⟨_, ?_, h1'⟩
      simp only [execOp, hb]
      rfl
    · cases h
  · rename_i x t
    simp only [Option.map_eq_some_iff, Prod.mk.injEq] at h
    obtain ⟨z, hz, rfl, rfl⟩ := h
    obtain ⟨r, hr1, hr2, _⟩ := lenR_ok (P := P) (ty := type) hm hz (hval x)
    refine ⟨r, ?_, hr2⟩
    simp only [execOp, resolve, invoke, builtin, Sem.run_bind, Sem.run_pure, Result.andThen_ok]
    have : (#[x].map a.eval) = #[a.eval x] := by simp
    rw [this, hr1]
    rfl
  · rename_i x t
    simp only [Option.map_eq_some_iff, Prod.mk.injEq] at h
    obtain ⟨z, hz, rfl, rfl⟩ := h
    obtain ⟨r, hr1, hr2, _⟩ := capNil_ok (P := P) (ty := type) hz (hval x)
    refine ⟨r, ?_, hr2⟩
    simp only [execOp, resolve, invoke, builtin, Sem.run_bind, Sem.run_pure, Result.andThen_ok]
    have : (#[x].map a.eval) = #[a.eval x] := by simp
    rw [this, hr1]
    rfl
  · rename_i x r ts
    simp only [Option.map_eq_some_iff, Prod.mk.injEq] at h
    obtain ⟨z, hz, rfl, rfl⟩ := h
    obtain ⟨v, hv1, hv2, _⟩ := maxR_ok (P := P) _ _ _ _ _ hz (hval x) (all2_map hval r 0)
    refine ⟨v, ?_, hv2⟩
    simp only [execOp, resolve, invoke, builtin, Sem.run_bind, Sem.run_pure, Result.andThen_ok, Builtin.max_, List.map_toArray, List.map_cons]
    simp only [Bool.false_eq_true, if_false] at hv1
    rw [hv1]
    rfl
  · rename_i x r ts
    simp only [Option.map_eq_some_iff, Prod.mk.injEq] at h
    obtain ⟨z, hz, rfl, rfl⟩ := h
    obtain ⟨v, hv1, hv2, _⟩ := maxR_ok (P := P) _ _ _ _ _ hz (hval x) (all2_map hval r 0)
    refine ⟨v, ?_, hv2⟩
    simp only [execOp, resolve, invoke, builtin, Sem.run_bind, Sem.run_pure, Result.andThen_ok, Builtin.min_, List.map_toArray, List.map_cons]
    simp only [if_true] at hv1
    rw [hv1]
    rfl
  · cases h

end
end Go.Vm
