/-
  THE V-MACHINE, part 16: append at the model's own text; owners that move.
-/
import Derived.Test.YtnjggcljonbleaaDoorVmEff2
import Derived.Lib.AppendZerosOnto
namespace Go.Vm
section
variable {P : Program} {e : Env} {G : GEnv} {S : Nat → Prop} {β : Path → Value} {fr : Fr} {w : World} {a : Act}

def appSrc (P : Program) (t2 size : Nat) (fr : Fr) (v2 : AV) : Option (List (List Dat)) :=
  match P.underlying t2 with
  | some (.slice _) => match slv fr v2 with
    | some (sz, es) => if sz = size then some es else match es with
      | [] => some []
      | _ => none
    | none => none
  | some .string => match v2 with
    | .d (.str l) => if size = 1 then some (byteCells l) else none
    | _ => none
  | _ => none

theorem appSrc_ok (hm : Mem e G S β fr (valsOf e a) w) {t2 size : Nat} {v2 : AV} {nes : List (List Dat)} (h : appSrc P t2 size fr v2 = some nes) {x : Value} (hr : RFlat S w β (0, 0) v2 x) :
    ∃ news, Src P w t2 size x nes.length news ∧ REs S w size nes (fun j => news[j]?) 0 := by
  unfold appSrc at h
  split at h
  · rename_i E hu
    split at h
    case h_2 => cases h
    rename_i sz es hs
    have hat := slv_ok hm hs hr
    split at h
    · rename_i he
      subst he
      simp only [Option.some.injEq] at h
      subst h
      exact src_sl hu hat
    · split at h
      · simp only [Option.some.injEq] at h
        subst h
        refine src_sl (sz := size) hu ?_
        rcases hat with h | ⟨b, o, c, arr, E', fz, h1, h2, h3, _⟩
        · exact .inl h
        · exact .inr ⟨b, o, c, arr, E', fz, h1, h2, h3, by simp [REs]⟩
      · cases h
  · rename_i hu
    split at h
    · rename_i l
      split at h
      · rename_i hs
        subst hs
        simp only [Option.some.injEq] at h
        subst h
        have : x = strOf l := hr
        subst this
        exact src_str hu
      · cases h
    · cases h
  · cases h

def effAppend2 (P : Program) (t1 t2 : TypeId) (dst : Nat) (hes : Option (List (List Dat))) (v1 v2 : AV) (fr : Fr) : Option (Fr × Prop) :=
  match P.underlying t1 with
  | some (.slice E) =>
    match P.info? E, zeroD P E with
    | some i, some _ =>
      match appSrc P t2 i.size fr v2 with
      | some nes =>
        if i.bytes ≤ 32768 then
          match v1 with
          | .d (.v (.slice none 0 0)) => some (setA dst (.own E i.size (hes.getD nes)) fr, nes.length ≤ 4294967296 ∧ nes = hes.getD nes)
          | .vw p => match pget fr p with
            | .own κ sz es => if sz = i.size ∧ κ = E then some (setA dst (.own E i.size (hes.getD (es ++ nes))) (pset fr p .junk), es.length + nes.length ≤ 4294967296 ∧ es ++ nes = hes.getD (es ++ nes)) else none
            | _ => none
          | _ => none
        else none
      | none => none
    | _, _ => none
  | _ => none

theorem effAppend_ok (hm : Mem e G S β fr (valsOf e a) w) {t1 t2 ty dst : Nat} (ht : dst < a.tmps.size) {hes : Option (List (List Dat))} {v1 v2 : AV} {fr' : Fr} {obl : Prop}
    (h : effAppend2 P t1 t2 dst hes v1 v2 fr = some (fr', obl)) (ho : obl) {u x : Value} (h1 : RFlat S w β (0, 0) v1 u) (h2 : RFlat S w β (0, 0) v2 x) :
    ∃ v w', (Builtin.append_ #[t1, t2] ty #[u, x]).run P w = .ok v w' ∧ After e G fr' a dst v w' := by
  unfold effAppend2 at h
  split at h
  case h_2 => cases h
  rename_i E hu
  split at h
  case h_2 => cases h
  rename_i i zs hi hz
  obtain ⟨i', z, hi', hzz, hsz, _⟩ := zeroD_ok hz
  rw [hi] at hi'
  cases hi'
  split at h
  case h_2 => cases h
  rename_i nes hsrc
  split at h
  case isFalse => cases h
  rename_i hbytes
  obtain ⟨news, hS, hREs⟩ := appSrc_ok hm hsrc h2
  have fits : ∀ n : Nat, n ≤ 4294967296 → n * i.bytes ≤ 140737488355328 := by
    intro n hn
    have := Nat.mul_le_mul hn hbytes
    omega
  -- the result of own_append, put into slot dst, over the frame fr0 in which p's place is empty
  have finish : ∀ (fr0 : Fr) (es : List (List Dat)), Mem e G S β fr0 (valsOf e a) w → OwnAt S w u E i.size es → (∀ b, blk u = some b → ¬ S b ∧ Free e S β fr0 dst b) → es.length + nes.length ≤ 4294967296 →
      ∃ v w', (Builtin.append_ #[t1, t2] ty #[u, x]).run P w = .ok v w' ∧ After e G (setA dst (.own E i.size (es ++ nes)) fr0) a dst v w' := by
    intro fr0 es hm0 hown hfree hlen
    obtain ⟨v, w', hrun, hown', hoth, hsize, hos, htape, hout, hblk⟩ := own_append (ty := ty) hu hi hzz hsz hown (fun b hb => (hfree b hb).1) (fun b hb => (hm.stb b hb).1) hS hREs (by omega) (fits _ hlen)
    refine ⟨v, w', hrun, S, _, hm0.make2 dst _ v (fun _ => v) w' _ (put_old a dst v ht) (put_new a dst v ht) ((flat_slot rfl).2 ⟨by simp, hown'⟩) (fun l a h => by cases h) ?_ ?_ ?_ hsize hos htape hout⟩
    · intro j b _ hb
      rcases hblk b hb with h | h
      · exact (hfree b h).2
      · subst h
        exact hm0.free_new dst _ (Nat.le_refl _)
    · intro i j b h1 h2 _ _
      cases i <;> cases j <;> simp [AV.ownsAt] at h1 h2 ⊢
    · intro b hb
      by_cases hbu : blk u = some b
      · exact .inr (hfree b hbu).2
      · exact .inl (hoth b hb hbu)
  split at h
  · simp only [Option.some.injEq, Prod.mk.injEq] at h
    obtain ⟨rfl, rfl⟩ := h
    rw [← ho.2]
    have huu : u = .slice none 0 0 := h1.1
    have := finish fr [] hm (.inl ⟨huu, rfl⟩) (fun b hb => by rw [huu] at hb; simp [blk] at hb) (by simpa using ho.1)
    simpa using this
  · rename_i p
    split at h
    case h_2 => cases h
    rename_i κ sz es hp
    split at h
    case isFalse => cases h
    rename_i hs
    obtain ⟨rfl, rfl⟩ := hs
    simp only [Option.some.injEq, Prod.mk.injEq] at h
    obtain ⟨rfl, rfl⟩ := h
    rw [← ho.2]
    have huu : u = β p := h1
    have how := pget_owns hp
    refine finish (pset fr p .junk) es (hm.dropAt hp) (by rw [huu]; exact pget_own hm hp) (fun b hb => ?_) ho.1
    rw [huu] at hb
    exact ⟨(hm.fre p.1 p.2 b how hb).1, hm.free_dropped hp dst b hb⟩
  · cases h

/-- append(nil, make([]T, n)...). -/
def effAppMake (P : Program) (t1 t2 : TypeId) (dst : Nat) (hes : Option (List (List Dat))) (v1 v2 : AV) (fr : Fr) : Option (Fr × Prop) :=
  match P.underlying t1, P.underlying t2, v1, v2 with
  | some (.slice E), some (.int _), .d (.v (.slice none 0 0)), .d (.v (.int _ n)) =>
    match P.info? E, zeroD P E with
    | some i, some zs => if 0 < i.size ∧ i.bytes ≤ 32768 then some (setA dst (.own E i.size (hes.getD (List.replicate n.toNat zs))) fr, (0 < n ∧ n ≤ 4294967296) ∧ List.replicate n.toNat zs = hes.getD (List.replicate n.toNat zs)) else none
    | _, _ => none
  | _, _, _, _ => none

theorem effAppMake_ok (hm : Mem e G S β fr (valsOf e a) w) {t1 t2 ty dst : Nat} (ht : dst < a.tmps.size) {hes : Option (List (List Dat))} {v1 v2 : AV} {fr' : Fr} {obl : Prop}
    (h : effAppMake P t1 t2 dst hes v1 v2 fr = some (fr', obl)) (ho : obl) {u x : Value} (h1 : RFlat S w β (0, 0) v1 u) (h2 : RFlat S w β (0, 0) v2 x) :
    ∃ v w', (Builtin.append_ #[t1, t2] ty #[u, x]).run P w = .ok v w' ∧ After e G fr' a dst v w' := by
  unfold effAppMake at h
  split at h
  case h_2 => cases h
  rename_i E kn kq n hu hn
  split at h
  case h_2 => cases h
  rename_i i zs hi hz
  obtain ⟨i', z, hi', hzz, hsz, hlen, hone, hcs⟩ := zeroD_ok hz
  rw [hi] at hi'
  cases hi'
  split at h
  case isFalse => cases h
  rename_i hc
  simp only [Option.some.injEq, Prod.mk.injEq] at h
  obtain ⟨rfl, rfl⟩ := h
  obtain ⟨⟨ho1, ho2⟩, ho3⟩ := ho
  have huu : u = .slice none 0 0 := h1.1
  have hxx : x = .int kq n := h2.1
  subst huu hxx
  obtain ⟨k, rfl⟩ : ∃ k : Nat, n = k := ⟨n.toNat, by omega⟩
  simp only [Int.toNat_natCast] at ho3 ⊢
  rw [← ho3]
  have hbytes : k * i.bytes ≤ 140737488355328 := by
    have := Nat.mul_le_mul (show k ≤ 4294967296 by omega) hc.2
    omega
  have hold : (Builtin.firstCells i.size 0 (.slice none 0 0)).run P w.drew = .ok ([] : List Value).toArray w.drew := by simp [Builtin.firstCells]
  have hr := Lib.run_append_grow_zeros w t1 t2 ty E i z kq kn hu hn hi hzz none 0 0 [] hold k (by omega) hc.1 (by omega) (by omega) (by omega) (growslice_fits (by omega) (by simpa using hbytes))
  have hge : 0 + k ≤ grownCap w (0 + k) 0 E := grownCap_ge w _ _ _
  refine ⟨_, _, hr, S, _, hm.make2 dst _ _ (fun _ => .slice (some ⟨w.heap.size, 0, none⟩) (0 + k) (grownCap w (0 + k) 0 E)) _ _ (put_old a dst _ ht) (put_new a dst _ ht) ((flat_slot rfl).2 ⟨by simp, .inr ⟨w.heap.size, 0, grownCap w (0 + k) 0 E, _, E, (0, 0), by simp, by simpa using hge, ?_, ?_, heap_alloc_new w.drew _, ?_⟩⟩) (fun l a h => by cases h) ?_ ?_ (fun b hb => .inl (heap_alloc_old w.drew _ hb)) (by simp) rfl rfl rfl⟩
  · simp only [Nat.zero_add] at hge
    simp only [Array.size_append, List.size_toArray, size_zeroCells, hsz, List.length_nil, ← Nat.add_mul, Nat.zero_add]
    refine Nat.le_of_eq (congrArg (· * i.size) ?_)
    omega
  · intro o _ h
    simp at h
  · have := REs_replicate (S := S) (w := w.drew.alloc (.cells (([] : List Value).toArray ++ Builtin.zeroCells z.cells k ++ Builtin.zeroCells z.cells (grownCap w (0 + k) 0 E - (0 + k))) E)) (hcs S _) hlen (by simp [hsz]) k (fun j => z.cells[j % z.cells.size]!) (fun j hj => by
      have hpos : 0 < i.size := hc.1
      have hlt : j % z.cells.size < z.cells.size := Nat.mod_lt _ (by omega)
      rw [← hsz]
      simp [getElem!_pos, hlt]) k (Nat.le_refl _)
    refine ⟨rfl, REs.congr _ 0 0 (fun j hj => ?_) this⟩
    have hj' : j < k * i.size := by simpa using hj
    simp only [Nat.zero_add]
    rw [Array.getElem?_append_left (by simp [size_zeroCells, hsz]; exact hj')]
    simp only [Builtin.zeroCells, hsz, List.getElem?_map]
    congr 1
    rw [List.getElem?_range hj', Array.getElem?_eq_getElem (by simpa using hj')]
    simp
  · intro j b _ hb
    simp only [blk, Option.some.injEq] at hb
    subst hb
    exact hm.free_new dst _ (Nat.le_refl _)
  · intro i j b h1 h2 _ _
    cases i <;> cases j <;> simp [AV.ownsAt] at h1 h2 ⊢

/-- The head of an owner: it is taken. -/
def effCut (P : Program) (t : TypeId) (dst : Nat) (hes : Option (List (List Dat))) (v hi : AV) (fr : Fr) : Option (Fr × Prop) :=
  match P.underlying t, v, hi with
  | some (.slice E), .vw p, .d (.v (.int _ n)) =>
    match P.info? E, pget fr p with
    | some i, .own κ sz es => if sz = i.size then some (setA dst (.own κ sz (hes.getD (es.take n.toNat))) (pset fr p .junk), (0 ≤ n ∧ n ≤ (es.length : Int)) ∧ es.take n.toNat = hes.getD (es.take n.toNat)) else none
    | _, _ => none
  | _, _, _ => none

theorem effCut_ok (hm : Mem e G S β fr (valsOf e a) w) {t : TypeId} {dst : Nat} (ht : dst < a.tmps.size) {hes : Option (List (List Dat))} {v hi : AV} {fr' : Fr} {obl : Prop}
    (h : effCut P t dst hes v hi fr = some (fr', obl)) (ho : obl) {u x : Value} (h1 : RFlat S w β (0, 0) v u) (h2 : RFlat S w β (0, 0) hi x) :
    ∃ r, (Instr.sliceAt t u none (some x) none).run P w = .ok r w ∧ After e G fr' a dst r w := by
  unfold effCut at h
  split at h
  case h_2 => cases h
  rename_i E p k n hu
  split at h
  case h_2 => cases h
  rename_i i κ sz es hi' hp
  split at h
  case isFalse => cases h
  rename_i hsz
  subst hsz
  simp only [Option.some.injEq, Prod.mk.injEq] at h
  obtain ⟨rfl, rfl⟩ := h
  obtain ⟨⟨ho1, ho2⟩, ho3⟩ := ho
  rw [← ho3]
  have huu : u = β p := h1
  have how := pget_owns hp
  have hel : P.elem t = E := by simp [Program.elem, hu]
  have hrun : ∀ (ad : Option Addr) (cap : Nat), es.length ≤ cap → (Instr.sliceAt t (.slice ad es.length cap) none (some x) none).run P w = .ok (.slice (if cap = 0 then ad else ad.map (·.add (0 * i.size))) n.toNat cap) w := by
    intro ad cap hcap
    have hb := cutR_ok (P := P) (S := S) (w := w) (β := β) (isSlice := true) (len := es.length) (cap := cap) (lo := none) (hi := some (.d (.v (.int k n)))) (c := (0, n)) rfl (by exact ⟨Int.le_refl _, ho1, ho2⟩) hcap (ulo := none) (uhi := some x) (fun a h => by cases h) (fun _ => rfl) (fun a h => by cases h; exact ⟨x, rfl, h2⟩) (fun h => by cases h)
    rw [run_sliceAt_slice w t _ none (some x) none (by rw [hel]; exact hu)]
    simp only [Instr.slice, Sem.run_bind, run_underlying hu, Result.andThen_ok, hb, sizeOf, typeInfo, run_program, hi', Sem.run_pure]
    simp
  have hown := pget_own hm hp
  have finish : ∀ (r : Value), OwnAt S w r κ i.size (es.take n.toNat) → (∀ b, blk r = some b → blk u = some b) → After e G (setA dst (.own κ i.size (es.take n.toNat)) (pset fr p .junk)) a dst r w := by
    intro r hr hb
    refine ⟨S, _, (hm.dropAt hp).make2 dst _ r (fun _ => r) w _ (put_old a dst r ht) (put_new a dst r ht) ((flat_slot rfl).2 ⟨by simp, hr⟩) (fun l a h => by cases h) ?_ ?_ (fun b _ => .inl rfl) (Nat.le_refl _) rfl rfl rfl⟩
    · intro j b _ hbr
      have := hb b hbr
      rw [huu] at this
      exact hm.free_dropped hp dst b this
    · intro i j b h1 h2 _ _
      cases i <;> cases j <;> simp [AV.ownsAt] at h1 h2 ⊢
  rw [← huu] at hown
  rcases hown with ⟨rfl, rfl⟩ | ⟨b, off, c, arr, E', fz, rfl, h3, h4, h5, h6, hκ, h7⟩
  · have hn : n = 0 := by simp at ho2; omega
    subst hn
    exact ⟨_, by simpa using hrun none 0 (Nat.le_refl _), finish _ (.inl ⟨rfl, by simp⟩) (fun b h => by simp [blk] at h)⟩
  · have hr := hrun (some ⟨b, off, none⟩) c h3
    have ha : (if c = 0 then some (⟨b, off, none⟩ : Addr) else (some (⟨b, off, none⟩ : Addr)).map (·.add (0 * i.size))) = some ⟨b, off, none⟩ := by
      split
      · rfl
      · simp [Addr.add]
    rw [ha] at hr
    have hl : (es.take n.toNat).length = n.toNat := by simp; omega
    exact ⟨_, hr, finish _ (.inr ⟨b, off, c, arr, E', fz, by rw [hl], by omega, h4, h5, h6, hκ, REs.take _ _ _ h7⟩) (fun b h => h)⟩

/-- An owner (or a tuple) in slot s moves to slot dst. -/
def effMove (N : Nat) (assign : Bool) (dst s : Nat) (fr : Fr) : Option Fr :=
  match fget fr s with
  | .own _ _ _ => if assign ∧ s ≠ dst ∧ s < N then some (setA dst ((fget fr s).purge (slotP dst)) ((s, .junk) :: fr)) else none
  | .box _ => if assign ∧ s ≠ dst ∧ s < N then some (setA dst ((fget fr s).purge (slotP dst)) ((s, .junk) :: fr)) else none
  | .tup _ => if s ≠ dst ∧ s < N then some (setA dst ((fget fr s).purge (slotP dst)) ((s, .junk) :: fr)) else none
  | _ => none

theorem effMove_ok {N : Nat} (hN : a.tmps.size = N) (hm : Mem e G S β fr (valsOf e a) w) {assign : Bool} {dst s : Nat} (ht : dst < a.tmps.size) {fr' : Fr} (h : effMove N assign dst s fr = some fr') : After e G fr' a dst (a.eval (.tmp s)) w := by
  have key : s ≠ dst → s < N → (fget fr s).noGd = true → After e G (setA dst ((fget fr s).purge (slotP dst)) ((s, .junk) :: fr)) a dst (a.eval (.tmp s)) w := by
    intro h1 h2 h3
    have hs : s < a.tmps.size := by rw [hN]; exact h2
    exact ⟨S, _, hm.move h1 h3 (a.eval (.tmp s)) (eval_tmp hs) _ (put_old a dst _ ht) (put_new a dst _ ht)⟩
  unfold effMove at h
  split at h
  · rename_i hf
    split at h
    · rename_i hc
      simp only [Option.some.injEq] at h
      subst h
      exact key hc.2.1 hc.2.2 (by rw [hf]; rfl)
    · cases h
  · rename_i hf
    split at h
    · rename_i hc
      simp only [Option.some.injEq] at h
      subst h
      exact key hc.2.1 hc.2.2 (by rw [hf]; rfl)
    · cases h
  · rename_i hf
    split at h
    · rename_i hc
      simp only [Option.some.injEq] at h
      subst h
      exact key hc.1 hc.2 (by rw [hf]; rfl)
    · cases h
  · cases h

/-- A part of a tuple that is owned. -/
def effExtract (N dst s j : Nat) (fr : Fr) : Option Fr :=
  match fget fr s with
  | .tup vs => match vs[j]? with
    | some (.own κ sz es) => if s ≠ dst ∧ s < N then some (setA dst (.own κ sz es) ((s, .tup (vs.set j .junk)) :: fr)) else none
    | _ => none
  | _ => none

theorem effExtract_ok {N : Nat} (hN : a.tmps.size = N) (hm : Mem e G S β fr (valsOf e a) w) {dst s j : Nat} (ht : dst < a.tmps.size) {fr' : Fr} (h : effExtract N dst s j fr = some fr') :
    ∃ u, (Instr.extract (a.eval (.tmp s)) j).run P w = .ok u w ∧ After e G fr' a dst u w := by
  unfold effExtract at h
  split at h
  case h_2 => cases h
  rename_i vs hf
  split at h
  case h_2 => cases h
  rename_i sz es hj
  split at h
  case isFalse => cases h
  rename_i hc
  simp only [Option.some.injEq] at h
  subst h
  have hs : s < a.tmps.size := by rw [hN]; exact hc.2
  obtain ⟨u0, hr, hu0⟩ := hm.rel s
  have hev := hu0 _ (eval_tmp hs)
  rw [hf] at hr
  obtain ⟨l, rfl, _, hp⟩ := hr
  obtain ⟨u, hu, _⟩ := All2.get hp j _ hj
  refine ⟨u, ?_, S, _, hm.extract hc.1 hf hj l (by rw [eval_tmp hs, hev]) u hu _ (put_old a dst u ht) (put_new a dst u ht)⟩
  rw [hev]
  simp [Instr.extract, hu]

theorem tupR_ok {N : Nat} (hN : a.tmps.size = N) (hm : Mem e G S β fr (valsOf e a) w) {s j : Nat} (hs : s < N) {av : AV} (h : tupR j (fget fr s) = some av) :
    ∃ u, (Instr.extract (a.eval (.tmp s)) j).run P w = .ok u w ∧ RFlat S w β (0, 0) av u ∧ av.isOwn = false := by
  have hs' : s < a.tmps.size := by rw [hN]; exact hs
  unfold tupR at h
  split at h
  case h_2 => cases h
  rename_i vs hf
  obtain ⟨u0, hr, hu0⟩ := hm.rel s
  have hev := hu0 _ (eval_tmp hs')
  rw [hf] at hr
  obtain ⟨l, rfl, _, hp⟩ := hr
  split at h
  · rename_i x hx
    simp only [Option.some.injEq] at h
    subst h
    obtain ⟨u, hu, hru⟩ := All2.get hp j _ hx
    exact ⟨u, by rw [hev]; simp [Instr.extract, hu], hru, rfl⟩
  · rename_i x hx
    simp only [Option.some.injEq] at h
    subst h
    obtain ⟨u, hu, hru⟩ := All2.get hp j _ hx
    exact ⟨u, by rw [hev]; simp [Instr.extract, hu], hru, rfl⟩
  · cases h

/-- []byte(s). -/
def effBytes (P : Program) (src dst : TypeId) (t : Nat) (hes : Option (List (List Dat))) (v : AV) (fr : Fr) : Option (Fr × Prop) :=
  match P.underlying src, P.underlying dst, v with
  | some .string, some (.slice E), .d (.str l) => match P.underlying E with
    | some (.int .u8) => some (setA t (.own E 1 (hes.getD (byteCells l))) fr, l.length ≤ 4611686018427387904 ∧ byteCells l = hes.getD (byteCells l))
    | _ => none
  | _, _, _ => none

end
end Go.Vm
