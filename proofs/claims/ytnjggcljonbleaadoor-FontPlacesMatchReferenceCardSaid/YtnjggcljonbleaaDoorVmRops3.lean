/-
  THE V-MACHINE, part 7: the other operations that leave the world as it is; all of them together.
-/
import Derived.Test.YtnjggcljonbleaaDoorVmRops2
namespace Go.Vm

def indexR (P : Program) (t : TypeId) (hint : Hint) (a ix : AV) : Option (AV × Prop) :=
  match ix, a, P.underlying t with
  | .d (.v (.int _ i)), .d (.str l), some .string => some (.d (.v (.int .u8 ((l.getD i.toNat 0).toNat))), 0 ≤ i ∧ i < l.length)
  | .d (.v (.int _ i)), .agg cs, some (.array n E) =>
    match P.info? E with
    | some ei => (partD P E hint.cs 0).map fun av => (av, (0 ≤ i ∧ i < n) ∧ hint.cs = (cs.drop (i.toNat * ei.size)).take ei.size)
    | none => none
  | _, _, _ => none

def lenR (P : Program) (t : TypeId) (fr : Fr) (a : AV) : Option AV :=
  match P.underlying t with
  | some .string => match a with
    | .d (.str l) => some (.d (.v (.int .i64 l.length)))
    | _ => none
  | some (.array n _) => some (.d (.v (.int .i64 n)))
  | some (.slice _) => (slv fr a).map fun x => .d (.v (.int .i64 x.2.length))
  | _ => none

/-- The capacity of nil. -/
def capNil (P : Program) (t : TypeId) (a : AV) : Option AV :=
  match P.underlying t, a with
  | some (.slice _), .d (.v (.slice none 0 0)) => some (.d (.v (.int .i64 0)))
  | _, _ => none

def maxD (lo : Bool) : AV → AV → Option AV
  | .d (.v (.int k x)), .d (.v (.int k' y)) => if k = k' then some (.d (.v (.int k (if lo then (if y < x then y else x) else (if x < y then y else x))))) else none
  | _, _ => none
def maxR (lo : Bool) : AV → List AV → Option AV
  | a, [] => match a with
    | .d (.v (.int k x)) => some (.d (.v (.int k x)))
    | _ => none
  | a, b :: r => match maxD lo a b with
    | some c => maxR lo c r
    | none => none

def intOf? : AV → Option Int
  | .d (.v (.int _ i)) => some i
  | _ => none

/-- The bounds of a slice expression: where it begins, where it ends. -/
def cutR (len : Nat) (lo hi : Option AV) : Option (Int × Int) :=
  match lo, hi with
  | none, none => some (0, len)
  | some a, none => (intOf? a).map fun i => (i, (len : Int))
  | none, some b => (intOf? b).map fun j => (0, j)
  | some a, some b => match intOf? a, intOf? b with
    | some i, some j => some (i, j)
    | _, _ => none

def sliceR (P : Program) (t : TypeId) (a : AV) (lo hi : Option AV) : Option (AV × Prop) :=
  match P.underlying t with
  | some .string => match a with
    | .d (.str l) => (cutR l.length lo hi).map fun c => (.d (.str ((l.drop c.1.toNat).take (c.2.toNat - c.1.toNat))), 0 ≤ c.1 ∧ c.1 ≤ c.2 ∧ c.2 ≤ (l.length : Int))
    | _ => none
  | some (.slice E) => match a, P.info? E with
    | .d (.sl sz es), some i => if sz = i.size then (cutR es.length lo hi).map fun c => (.d (.sl sz ((es.drop c.1.toNat).take (c.2.toNat - c.1.toNat))), 0 ≤ c.1 ∧ c.1 ≤ c.2 ∧ c.2 ≤ (es.length : Int)) else none
    | .d (.v (.slice none 0 0)), some _ => (cutR 0 lo hi).map fun c => (.d (.v (.slice none 0 0)), 0 ≤ c.1 ∧ c.1 ≤ c.2 ∧ c.2 ≤ 0)
    | _, _ => none
  | _ => none

def convR (P : Program) (src dst : TypeId) (a : AV) : Option AV :=
  match P.underlying src, P.underlying dst with
  | some (.int _), some (.int k) => match a with
    | .d (.v (.int _ n)) => some (.d (.v (.int k (k.wrap n))))
    | _ => none
  | some .string, some .string => match a with
    | .d (.str l) => some (.d (.str l))
    | _ => none
  | _, _ => none

/-- What a closure captures. -/
def capR : AV → Option AV
  | .d x => some (.d x)
  | .vw p => some (.vw p)
  | .bp x off => some (.bp x off)
  | _ => none
def capsR : List AV → Option (List AV)
  | [] => some []
  | a :: r => match capR a, capsR r with
    | some c, some cs => some (c :: cs)
    | _, _ => none

def tupR (i : Nat) : AV → Option AV
  | .tup vs => match vs[i]? with
    | some (.d x) => some (.d x)
    | some (.agg cs) => some (.agg cs)
    | _ => none
  | _ => none

section
variable {P : Program} {e : Env} {G : GEnv} {S : Nat → Prop} {β : Path → Value} {fr : Fr} {vals : Nat → Option Value} {w : World}

theorem indexR_ok {t : TypeId} {hint : Hint} {a ix av : AV} {obl : Prop} (h : indexR P t hint a ix = some (av, obl)) (ho : obl) {u y : Value} (hr : RFlat S w β (0, 0) a u) (hy : RFlat S w β (0, 0) ix y) :
    ∃ v, (Instr.index t u y).run P w = .ok v w ∧ RFlat S w β (0, 0) av v ∧ av.isOwn = false := by
  unfold indexR at h
  split at h
  · rename_i k i l hu
    simp only [Option.some.injEq, Prod.mk.injEq] at h
    obtain ⟨rfl, rfl⟩ := h
    have hyy : y = .int k i := hy.1
    have huu : u = strOf l := hr
    subst hyy huu
    have hlt : i.toNat < l.length := by omega
    refine ⟨.int .u8 ((l.getD i.toNat 0).toNat), ?_, ⟨rfl, rfl⟩, rfl⟩
    · simp only [Instr.index, asIntOf, Sem.run_bind, Sem.run_pure, Result.andThen_ok, run_underlying hu, strOf, if_pos ho.1]
      have : (⟨l.toArray⟩ : ByteArray)[i.toNat]? = some (l[i.toNat]'hlt) := by
        rw [getElem?_pos (⟨l.toArray⟩ : ByteArray) i.toNat (by simpa [ByteArray.size] using hlt)]
        rfl
      rw [this]
      simp [List.getD_eq_getElem?_getD, List.getElem?_eq_getElem hlt]
  · rename_i k i cs n E hu
    split at h
    · rename_i ei hei
      simp only [Option.map_eq_some_iff, Prod.mk.injEq] at h
      obtain ⟨av', hp, rfl, rfl⟩ := h
      obtain ⟨ho1, ho2⟩ := ho
      have hyy : y = .int k i := hy.1
      subst hyy
      obtain ⟨l, rfl, hl, hc⟩ := hr
      have hp' : partD P E cs (i.toNat * ei.size) = some av' := by
        rw [ho2] at hp
        unfold partD at hp ⊢
        split at hp
        · rename_i a1 a2
          simp only [Nat.zero_add, List.drop_zero] at hp ⊢
          rw [hei] at a2
          cases a2
          split at hp
          · rename_i hle
            simp only [List.length_take, List.length_drop] at hle
            by_cases h0 : i.toNat * ei.size ≤ cs.length
            · rw [if_pos (by omega)]
              simpa [List.take_take] using hp
            · have hz : ei.size = 0 := by omega
              simp [hz] at h0
          · cases hp
        · rename_i a1 a2
          simp only [Nat.zero_add, List.drop_zero] at hp ⊢
          rw [hei] at a2
          cases a2
          split at hp
          · rename_i hle
            simp only [List.length_take, List.length_drop] at hle
            by_cases h0 : i.toNat * ei.size ≤ cs.length
            · rw [if_pos (by omega)]
              simpa [List.take_take] using hp
            · have hz : ei.size = 0 := by omega
              simp [hz] at h0
          · cases hp
        · rename_i d i' hu' hi' h1 h2
          try rw [h1, h2]
          try simp only
          rw [List.getElem?_take] at hp
          split at hp
          · simpa [List.getElem?_drop] using hp
          · cases hp
        · cases hp
      obtain ⟨v, hv, hrv⟩ := run_part (β := β) hp' hl hc
      refine ⟨v, ?_, hrv⟩
      simp only [Instr.index, asIntOf, Sem.run_bind, Sem.run_pure, Result.andThen_ok, run_underlying hu, if_pos ho1, sizeOf, typeInfo, run_program, hei, hv]
    · cases h
  · cases h

theorem lenR_ok (hm : Mem e G S β fr vals w) {t ty : TypeId} {a av : AV} (h : lenR P t fr a = some av) {u : Value} (hr : RFlat S w β (0, 0) a u) :
    ∃ v, (Builtin.len_ #[t] ty #[u]).run P w = .ok v w ∧ RFlat S w β (0, 0) av v ∧ av.isOwn = false := by
  unfold lenR at h
  split at h
  · rename_i hu
    split at h
    · rename_i l
      simp only [Option.some.injEq] at h
      subst h
      have huu : u = strOf l := hr
      subst huu
      refine ⟨.int .i64 l.length, ?_, ⟨rfl, rfl⟩, rfl⟩
      have hsz : (⟨l.toArray⟩ : ByteArray).size = l.length := by simp [ByteArray.size]
      simp only [Builtin.len_, List.getElem?_toArray, List.getElem?_cons_zero, Sem.run_bind, run_underlying hu, Result.andThen_ok, strOf, hsz, goInt, Sem.run_pure]
    · cases h
  · rename_i n E hu
    simp only [Option.some.injEq] at h
    subst h
    refine ⟨goInt n, ?_, ⟨rfl, rfl⟩, rfl⟩
    simp [Builtin.len_, run_underlying hu]
  · rename_i E hu
    simp only [Option.map_eq_some_iff] at h
    obtain ⟨⟨sz, es⟩, hs, rfl⟩ := h
    rcases slv_ok hm hs hr with ⟨⟨q, rfl⟩, rfl⟩ | ⟨b, o, c, arr, E', fz, rfl, _⟩
    · exact ⟨goInt 0, by simp [Builtin.len_, run_underlying hu], ⟨rfl, rfl⟩, rfl⟩
    · exact ⟨goInt es.length, by simp [Builtin.len_, run_underlying hu], ⟨rfl, rfl⟩, rfl⟩
  · cases h

theorem capNil_ok {t ty : TypeId} {a av : AV} (h : capNil P t a = some av) {u : Value} (hr : RFlat S w β (0, 0) a u) :
    ∃ v, (Builtin.cap_ #[t] ty #[u]).run P w = .ok v w ∧ RFlat S w β (0, 0) av v ∧ av.isOwn = false := by
  unfold capNil at h
  split at h
  · rename_i E hu
    simp only [Option.some.injEq] at h
    subst h
    have huu : u = .slice none 0 0 := hr.1
    subst huu
    exact ⟨goInt 0, by simp [Builtin.cap_, run_underlying hu], ⟨rfl, rfl⟩, rfl⟩
  · cases h

theorem maxD_ok {lo : Bool} {a b av : AV} (h : maxD lo a b = some av) {u v : Value} (hu : RFlat S w β (0, 0) a u) (hv : RFlat S w β (0, 0) b v) :
    ∃ r, (if lo then Builtin.min2 u v else Builtin.max2 u v).run P w = .ok r w ∧ RFlat S w β (0, 0) av r := by
  unfold maxD at h
  split at h
  · rename_i k x k' y
    split at h
    · rename_i hk
      subst hk
      simp only [Option.some.injEq] at h
      subst h
      have h1 : u = .int k x := hu.1
      have h2 : v = .int k y := hv.1
      subst h1 h2
      cases lo
      · exact ⟨_, rfl, rfl, rfl⟩
      · exact ⟨_, rfl, rfl, rfl⟩
    · cases h
  · cases h

theorem maxR_ok {lo : Bool} : ∀ (r : List AV) (us : List Value) (a av : AV) (u : Value), maxR lo a r = some av → RFlat S w β (0, 0) a u → All2 (fun _ x y => RFlat S w β (0, 0) x y) 0 r us →
    ∃ v, (us.foldlM (if lo then Builtin.min2 else Builtin.max2) u).run P w = .ok v w ∧ RFlat S w β (0, 0) av v ∧ av.isOwn = false
  | [], us, a, av, u, h, hu, hr => by
    cases us with
    | cons _ _ => simp [All2] at hr
    | nil =>
      simp only [maxR] at h
      split at h
      · simp only [Option.some.injEq] at h
        subst h
        exact ⟨u, rfl, hu, rfl⟩
      · cases h
  | b :: r, us, a, av, u, h, hu, hr => by
    cases us with
    | nil => simp [All2] at hr
    | cons v us =>
      simp only [All2] at hr
      simp only [maxR] at h
      split at h
      · rename_i c hc
        obtain ⟨x, hx, hrx⟩ := maxD_ok (P := P) hc hu hr.1
        obtain ⟨z, hz, hrz⟩ := maxR_ok r us c av x h hrx (by
          have := hr.2
          refine All2.of_get (All2.len this) fun j p q hp hq => ?_
          obtain ⟨q', hq', hpq⟩ := All2.get this j p hp
          rw [hq] at hq'
          cases hq'
          exact hpq)
        refine ⟨z, ?_, hrz⟩
        simp only [List.foldlM_cons, Sem.run_bind]
        have hx' : ((if lo = true then Builtin.min2 else Builtin.max2) u v).run P w = .ok x w := by cases lo <;> exact hx
        rw [hx']
        exact hz
      · cases h

theorem intOf?_ok {a : AV} {i : Int} (h : intOf? a = some i) {u : Value} (hr : RFlat S w β (0, 0) a u) : ∃ k, u = .int k i := by
  unfold intOf? at h
  split at h
  · simp only [Option.some.injEq] at h
    subst h
    exact ⟨_, hr.1⟩
  · cases h

/-- The bounds as the model reckons them. -/
theorem cutR_ok {isSlice : Bool} {len cap : Nat} {lo hi : Option AV} {c : Int × Int} (h : cutR len lo hi = some c) (hob : 0 ≤ c.1 ∧ c.1 ≤ c.2 ∧ c.2 ≤ len) (hcap : len ≤ cap) {ulo uhi : Option Value}
    (hlo : ∀ a, lo = some a → ∃ u, ulo = some u ∧ RFlat S w β (0, 0) a u) (hlo0 : lo = none → ulo = none) (hhi : ∀ a, hi = some a → ∃ u, uhi = some u ∧ RFlat S w β (0, 0) a u) (hhi0 : hi = none → uhi = none) :
    (Instr.sliceBounds isSlice len cap ulo uhi none).run P w = .ok (c.1.toNat, c.2.toNat, cap) w := by
  have bound : ∀ (k : IntKind) (i : Int) (y : Nat) (code : BoundsCode), 0 ≤ i → i ≤ y → (Instr.sliceBound (.int k i) y code).run P w = .ok i.toNat w := by
    intro k i y code h0 h1
    simp [Instr.sliceBound, asIntOf, h0, h1]
  unfold cutR at h
  split at h
  · simp only [Option.some.injEq] at h
    subst h
    rw [hlo0 rfl, hhi0 rfl]
    simp [Instr.sliceBounds]
  · rename_i a
    simp only [Option.map_eq_some_iff] at h
    obtain ⟨i, hi', rfl⟩ := h
    obtain ⟨u, rfl, hu⟩ := hlo a rfl
    obtain ⟨k, rfl⟩ := intOf?_ok hi' hu
    rw [hhi0 rfl]
    simp only [Instr.sliceBounds, Sem.run_bind, Sem.run_pure, Result.andThen_ok, Option.isSome_none, Bool.false_eq_true, if_false, bound k i len .sliceB hob.1 (by simpa using hob.2.1)]
    simp
  · rename_i b
    simp only [Option.map_eq_some_iff] at h
    obtain ⟨j, hj, rfl⟩ := h
    obtain ⟨u, rfl, hu⟩ := hhi b rfl
    obtain ⟨k, rfl⟩ := intOf?_ok hj hu
    rw [hlo0 rfl]
    simp only [Instr.sliceBounds, Sem.run_bind, Sem.run_pure, Result.andThen_ok, bound k j cap _ (by simpa using hob.2.1) (by have := hob.2.2; simp only at this; omega)]
    simp
  · rename_i a b
    split at h
    · rename_i i j hi' hj
      simp only [Option.some.injEq] at h
      subst h
      obtain ⟨u, rfl, hu⟩ := hlo a rfl
      obtain ⟨k, rfl⟩ := intOf?_ok hi' hu
      obtain ⟨v, rfl, hv⟩ := hhi b rfl
      obtain ⟨k', rfl⟩ := intOf?_ok hj hv
      simp only [] at hob
      simp only [Instr.sliceBounds, Sem.run_bind, Sem.run_pure, Result.andThen_ok, Option.isSome_none, Bool.false_eq_true, if_false, bound k' j cap _ (by omega) (by omega), bound k i j.toNat .sliceB (by omega) (by omega)]
    · cases h

theorem REs.drop {g : Nat → Option Value} {sz : Nat} (es : List (List Dat)) (o k : Nat) (h : REs S w sz es g o) : REs S w sz (es.drop k) g (o + k * sz) := by
  refine REs.of_get _ _ fun j x hj => ?_
  rw [List.getElem?_drop] at hj
  obtain ⟨h1, h2⟩ := REs.get es o (k + j) x h hj
  refine ⟨h1, ?_⟩
  have e : o + k * sz + j * sz = o + (k + j) * sz := by rw [Nat.add_mul]; omega
  rw [e]; exact h2
theorem REs.take {g : Nat → Option Value} {sz : Nat} (es : List (List Dat)) (o k : Nat) (h : REs S w sz es g o) : REs S w sz (es.take k) g o := by
  refine REs.of_get _ _ fun j x hj => ?_
  rw [List.getElem?_take] at hj
  split at hj
  · exact REs.get es o j x h hj
  · cases hj

theorem RD_nil {sz : Nat} {es : List (List Dat)} {q : Option Addr} (h : es = []) : RD S w (.sl sz es) (.slice q 0 0) := by
  unfold RD
  exact .inl ⟨⟨_, rfl⟩, h⟩

theorem sliceR_ok {t : TypeId} {a av : AV} {lo hi : Option AV} {obl : Prop} (h : sliceR P t a lo hi = some (av, obl)) (ho : obl) {u : Value} (hr : RFlat S w β (0, 0) a u) {ulo uhi : Option Value}
    (hlo : ∀ a, lo = some a → ∃ u, ulo = some u ∧ RFlat S w β (0, 0) a u) (hlo0 : lo = none → ulo = none) (hhi : ∀ a, hi = some a → ∃ u, uhi = some u ∧ RFlat S w β (0, 0) a u) (hhi0 : hi = none → uhi = none) :
    ∃ v, (Instr.sliceAt t u ulo uhi none).run P w = .ok v w ∧ RFlat S w β (0, 0) av v ∧ av.isOwn = false := by
  unfold sliceR at h
  split at h
  · rename_i hu
    split at h
    · rename_i l
      simp only [Option.map_eq_some_iff, Prod.mk.injEq] at h
      obtain ⟨c, hc, rfl, rfl⟩ := h
      have huu : u = strOf l := hr
      subst huu
      have hsz : (⟨l.toArray⟩ : ByteArray).size = l.length := by simp [ByteArray.size]
      have hb := cutR_ok (P := P) (isSlice := false) hc ho (Nat.le_refl _) hlo hlo0 hhi hhi0
      refine ⟨strOf ((l.drop c.1.toNat).take (c.2.toNat - c.1.toNat)), ?_, rfl, rfl⟩
      rw [run_sliceAt_string w t _ ulo uhi none hu]
      simp only [Instr.slice, strOf, Sem.run_bind, run_underlying hu, Result.andThen_ok, Option.isSome_none, Bool.false_eq_true, if_false, Sem.run_pure, hsz, hb, Lib.extract_eq]
    · cases h
  · rename_i E hu
    have hel : P.elem t = E := by simp [Program.elem, hu]
    split at h
    · rename_i sz es i hi'
      split at h
      · rename_i hsz
        subst hsz
        simp only [Option.map_eq_some_iff, Prod.mk.injEq] at h
        obtain ⟨c, hc, rfl, rfl⟩ := h
        simp only [RFlat, RD] at hr
        have hrun : ∀ (ad : Option Addr) (cap : Nat), es.length ≤ cap → (Instr.sliceAt t (.slice ad es.length cap) ulo uhi none).run P w = .ok (.slice (if cap = c.1.toNat then ad else ad.map (·.add (c.1.toNat * i.size))) (c.2.toNat - c.1.toNat) (cap - c.1.toNat)) w := by
          intro ad cap hcap
          have hb := cutR_ok (P := P) (isSlice := true) hc ho hcap hlo hlo0 hhi hhi0
          rw [run_sliceAt_slice w t _ ulo uhi none (by rw [hel]; exact hu)]
          simp only [Instr.slice, Sem.run_bind, run_underlying hu, Result.andThen_ok, hb, sizeOf, typeInfo, run_program, hi', Sem.run_pure]
        rcases hr with ⟨⟨q, rfl⟩, rfl⟩ | ⟨b, o, cap, arr, E', fz, rfl, h2, hS, hb, hcs⟩
        · have := hrun q 0 (by simp)
          obtain ⟨h1, h2, h3⟩ := ho
          simp only [List.length_nil, Int.natCast_zero] at h3
          have e1 : c.1 = 0 := by omega
          have e2 : c.2 = 0 := by omega
          simp only [e1, e2, List.length_nil, Int.toNat_zero, if_true, Nat.sub_self] at this
          exact ⟨_, this, RD_nil (by simp), rfl⟩
        · have := hrun (some ⟨b, o, none⟩) cap h2
          refine ⟨_, this, ?_, rfl⟩
          simp only [RFlat, RD]
          obtain ⟨h1, h3, h4⟩ := ho
          have hlen : ((es.drop c.1.toNat).take (c.2.toNat - c.1.toNat)).length = c.2.toNat - c.1.toNat := by
            simp only [List.length_take, List.length_drop]; omega
          have hd := (REs.drop es o c.1.toNat hcs).take _ _ (c.2.toNat - c.1.toNat)
          by_cases hk : cap = c.1.toNat
          · have he : (es.drop c.1.toNat).take (c.2.toNat - c.1.toNat) = [] := by
              apply List.eq_nil_of_length_eq_zero; rw [hlen]; omega
            rw [if_pos hk]
            refine .inr ⟨b, o, cap - c.1.toNat, arr, E', fz, by rw [hlen], by rw [hlen]; omega, hS, hb, ?_⟩
            rw [he]; simp [REs]
          · rw [if_neg hk]
            refine .inr ⟨b, o + c.1.toNat * i.size, cap - c.1.toNat, arr, E', fz, ?_, by rw [hlen]; omega, hS, hb, hd⟩
            rw [hlen]
            simp [addr_add]
      · cases h
    · rename_i i hi'
      simp only [Option.map_eq_some_iff, Prod.mk.injEq] at h
      obtain ⟨c, hc, rfl, rfl⟩ := h
      simp only [RFlat, RD] at hr
      replace hr := hr.1
      subst hr
      have hb := cutR_ok (P := P) (isSlice := true) (len := 0) (cap := 0) hc (by simpa using ho) (Nat.le_refl _) hlo hlo0 hhi hhi0
      obtain ⟨h1, h2, h3⟩ := ho
      have e1 : c.1 = 0 := by omega
      have e2 : c.2 = 0 := by omega
      refine ⟨.slice none 0 0, ?_, ?_, rfl⟩
      · rw [run_sliceAt_slice w t _ ulo uhi none (by rw [hel]; exact hu)]
        simp only [Instr.slice, Sem.run_bind, run_underlying hu, Result.andThen_ok, hb, sizeOf, typeInfo, run_program, hi', Sem.run_pure, e1, e2]
        simp
      · exact ⟨rfl, rfl⟩
    · cases h
  · cases h

theorem convR_ok {src dst : TypeId} {a av : AV} (h : convR P src dst a = some av) {u : Value} (hr : RFlat S w β (0, 0) a u) :
    ∃ v, (convert src dst u).run P w = .ok v w ∧ RFlat S w β (0, 0) av v ∧ av.isOwn = false := by
  unfold convR at h
  split at h
  · rename_i k' k hs hd
    split at h
    · rename_i k0 n
      simp only [Option.some.injEq] at h
      subst h
      have huu : u = .int k0 n := hr.1
      subst huu
      refine ⟨.int k (k.wrap n), ?_, ⟨rfl, rfl⟩, rfl⟩
      simp [convert, run_underlying hs, run_underlying hd, Conv.intToInt]
    · cases h
  · rename_i hs hd
    split at h
    · rename_i l
      simp only [Option.some.injEq] at h
      subst h
      have huu : u = strOf l := hr
      subst huu
      refine ⟨strOf l, ?_, rfl, rfl⟩
      simp [convert, run_underlying hs, run_underlying hd, strOf]
    · cases h
  · cases h

theorem capsR_ok : ∀ (as cs : List AV) (us : List Value), capsR as = some cs → All2 (fun _ x y => RFlat S w β (0, 0) x y) 0 as us → All2 (fun _ => RCap S w β) 0 cs us
  | [], cs, us, h, hr => by
    simp [capsR] at h
    subst h
    cases us <;> simp_all [All2]
  | a :: r, cs, us, h, hr => by
    cases us with
    | nil => simp [All2] at hr
    | cons u us =>
      simp only [All2] at hr
      simp only [capsR] at h
      split at h
      · rename_i c cs' hc hcs
        simp only [Option.some.injEq] at h
        subst h
        have hrest := capsR_ok r cs' us hcs (All2.of_get (All2.len hr.2) fun j p q hp hq => by
          obtain ⟨q', hq', hpq⟩ := All2.get hr.2 j p hp
          rw [hq] at hq'
          cases hq'
          exact hpq)
        simp only [All2]
        refine ⟨?_, All2.of_get (All2.len hrest) fun j p q hp hq => by
          obtain ⟨q', hq', hpq⟩ := All2.get hrest j p hp
          rw [hq] at hq'
          cases hq'
          exact hpq⟩
        have h1 := hr.1
        unfold capR at hc
        split at hc <;> simp only [Option.some.injEq, reduceCtorEq] at hc
        all_goals (subst hc; exact h1)
      · cases h

end
end Go.Vm
