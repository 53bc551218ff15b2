/-
  THE V-MACHINE, part 17: calls of Go functions by their contracts.
-/
import Derived.Test.YtnjggcljonbleaaDoorVmEff3
namespace Go.Vm

def virtBase : Nat := 1000000
def resSlot : Nat := 999999

def argFr : Nat → List AV → Fr
  | _, [] => []
  | i, a :: r => (i, a) :: argFr (i + 1) r
/-- The places that are lent to a call, as the callee names them: boxes and owners. -/
def boxFr : Nat → List AV → Fr
  | _, [] => []
  | i, a :: r => (i, a) :: boxFr (i + 1) r

theorem fget_argFr (rest : Fr) : ∀ (as : List AV) (i x : Nat), fget (argFr i as ++ rest) x = if i ≤ x ∧ x < i + as.length then as.getD (x - i) .junk else fget rest x
  | [], i, x => by
    simp only [argFr, List.nil_append, List.length_nil, Nat.add_zero]
    rw [if_neg (by omega)]
  | a :: as, i, x => by
    simp only [argFr, List.cons_append, fget_cons, List.length_cons]
    rw [fget_argFr rest as (i + 1) x]
    by_cases h : i = x
    · subst h; simp
    · rw [if_neg h]
      by_cases h2 : i + 1 ≤ x ∧ x < i + 1 + as.length
      · rw [if_pos h2, if_pos (by omega), show x - i = (x - (i + 1)) + 1 by omega, List.getD_cons_succ]
      · rw [if_neg h2, if_neg (by omega)]

theorem fget_boxFr : ∀ (vs : List AV) (i x : Nat), fget (boxFr i vs) x = if i ≤ x ∧ x < i + vs.length then vs.getD (x - i) .junk else .junk
  | [], i, x => by
    simp only [boxFr, fget, List.length_nil, Nat.add_zero]
    rw [if_neg (by omega)]
  | a :: as, i, x => by
    simp only [boxFr, fget_cons, List.length_cons]
    rw [fget_boxFr as (i + 1) x]
    by_cases h : i = x
    · subst h; simp
    · rw [if_neg h]
      by_cases h2 : i + 1 ≤ x ∧ x < i + 1 + as.length
      · rw [if_pos h2, if_pos (by omega), show x - i = (x - (i + 1)) + 1 by omega, List.getD_cons_succ]
      · rw [if_neg h2, if_neg (by omega)]

def ownedBy (fr : Fr) (β : Path → Value) (b : Nat) : Prop := ∃ x i, (fget fr x).ownsAt i = true ∧ blk (β (x, i)) = some b

def Callable (P : Program) (k : Nat) : Prop := ∃ fn, P.funcs[k]? = some fn ∧ fn.body.isNone = false ∧ (fn.name == "runtime.NumGoroutine") = false

def finFr (args : List AV) (vin : List AV) : Fr := argFr 0 args ++ boxFr virtBase vin

/-- The addresses of the boxes that are lent to a call. -/
def lentAt (β : Path → Value) (n : Nat) : Nat → Option Value := fun x => if virtBase ≤ x ∧ x < virtBase + n then some (β (x, 0)) else none

/-- THE CONTRACT of a function: called with args (and the boxes vin lent to it) it returns res, and the boxes hold vout. -/
def ACall (P : Program) (k : Nat) (args : List AV) (vin : List AV) (res : AV) (vout : List AV) : Prop :=
  Callable P k ∧ ∀ (w : World) (S : Nat → Prop) (β : Path → Value) (us : List Value), us.length = args.length →
    Mem ⟨w, ownedBy (finFr args vin) β, S, lentAt β vin.length⟩ [] S β (finFr args vin) (fun x => (us[x]?).or (lentAt β vin.length x)) w →
    Calls P k us.toArray w fun e w' => ∃ u S' β', e = .returned u ∧
      Mem ⟨w, ownedBy (finFr args vin) β, S, lentAt β vin.length⟩ [] S' β' ((resSlot, res) :: boxFr virtBase vout) (fun x => if x = resSlot then some u else lentAt β vin.length x) w'

/-- An argument: taken from slot s, or a value as it is read. -/
abbrev ArgIn := Option Nat × AV

def trCaps (xs : List Nat) (fr : Fr) : List AV → Option (List AV × List Path)
  | [] => some ([], [])
  | c :: r => match trCaps xs fr r with
    | none => none
    | some (cs, l) => match c with
      | .d x => some (.d x :: cs, l)
      | .bp x off => (xs.idxOf? x).map fun j => (.bp (virtBase + j) off :: cs, l)
      | .vw p => match pget fr p with
        | .own _κ sz es => some (.d (.sl sz es) :: cs, p :: l)
        | .fz sz es => some (.d (.sl sz es) :: cs, l)
        | _ => none
      | _ => none

def trV (xs : List Nat) (fr : Fr) : AV → Option (AV × List Path)
  | .d x => some (.d x, [])
  | .agg cs => some (.agg cs, [])
  | .vw p => match xs.idxOf? p.1 with
    | some j => some (.vw (virtBase + j, p.2), [])
    | none => match pget fr p with
      | .own _κ sz es => some (.d (.sl sz es), [p])
      | .fz sz es => some (.d (.sl sz es), [])
      | _ => none
  | .bp x off => (xs.idxOf? x).map fun j => (.bp (virtBase + j) off, [])
  | .clo f caps => (trCaps xs fr caps).map fun r => (.clo f r.1, r.2)
  | _ => none

/-- All arguments: their contract's form, the slots that are taken (by position), the owners that are lent. -/
def trArgs (N : Nat) (xs : List Nat) (fr : Fr) : List ArgIn → Option (List AV × List (Option Nat) × List Path)
  | [] => some ([], [], [])
  | (tk, v) :: r => match trArgs N xs fr r with
    | none => none
    | some (as, ts, l) => match tk with
      | some s => match fget fr s with
        | .own κ sz es => if s < N then some (.own κ sz es :: as, some s :: ts, l) else none
        | _ => none
      | none => match trV xs fr v with
        | some (a, l') => some (a :: as, none :: ts, l' ++ l)
        | none => none

/-- A cell of a box that is lent. -/
def lendCell : AV → AV
  | .d x => .d x
  | .own κ sz es => .own κ sz es
  | .fz sz es => .d (.sl sz es)
  | .slf off E => .slf off E
  | _ => .junk

/-- What is lent: a box, or an owner. -/
def lendA : AV → AV
  | .box cs => .box (cs.map lendCell)
  | a => a
def AV.lendable : AV → Bool
  | .box _ | .own _ _ _ | .glo _ _ => true
  | _ => false
/-- What may lie in a cell. -/
def AV.cell : AV → Bool
  | .slf _ _ => true
  | a => a.flat
/-- What comes back of it refers to nothing. -/
def AV.backOk : AV → Bool
  | .box cs => cs.all fun c => c.paths1.isEmpty && c.cell
  | .own _ _ _ => true
  | .glo _ _ => true
  | _ => false

def boxesOf (fr : Fr) : List Nat → Option (List AV)
  | [] => some []
  | x :: r => match (fget fr x).lendable, boxesOf fr r with
    | true, some l => some (lendA (fget fr x) :: l)
    | _, _ => none

/-- A result without any footprint. -/
def AV.bare : AV → Bool
  | .d (.v _) | .d (.str _) | .junk => true
  | .tup vs => vs.all fun v => match v with
    | .d (.v _) | .d (.str _) | .junk => true
    | _ => false
  | _ => false

/-- A result, or a cell, that refers to nothing. -/
def AV.closed (a : AV) : Bool := a.paths.isEmpty && a.noGd

def nodupB : List Nat → Bool
  | [] => true
  | x :: r => !r.contains x && nodupB r

theorem nodupB_ok : ∀ {l : List Nat}, nodupB l = true → l.Nodup
  | [], _ => List.nodup_nil
  | x :: r, h => by
    simp only [nodupB, Bool.and_eq_true, Bool.not_eq_true'] at h
    exact List.nodup_cons.2 ⟨by simpa using h.1, nodupB_ok h.2⟩

/-- The slots that are taken. -/
def taken (ts : List (Option Nat)) : List Nat := ts.filterMap id

def callP (dst : Nat) (xs : List Nat) : Path → Bool := fun p => p.1 == dst || (p.2 != 0 && xs.contains p.1)

def callFr (dst : Nat) (xs tk : List Nat) (res : AV) (vout : List AV) (fr : Fr) : Fr :=
  (dst, res) :: purgeP (callP dst xs) (tk.map (fun s => (s, AV.junk)) ++ (xs.zip vout) ++ fr)

def callEff (P : Program) (N dst k : Nat) (items : List ArgIn) (h : Hint) (fr : Fr) : Option (Fr × Prop) :=
  match trArgs N h.xs fr items, boxesOf fr h.xs with
  | some (as, ts, lent), some vin =>
    if nodupB (taken ts ++ h.xs) && !(h.xs.contains dst) && decide (dst < N) && decide (as.length < resSlot) && h.res.closed && h.vout.all AV.backOk && decide (h.vout.length = h.xs.length)
        && lent.all (fun p => !((taken ts ++ h.xs).contains p.1)) && (lent.isEmpty || (h.res.bare && h.xs.isEmpty)) then
      some (callFr dst h.xs (taken ts) h.res h.vout fr, ACall P k as vin h.res h.vout)
    else none
  | _, _ => none

section
variable {P : Program} {e : Env} {G : GEnv} {S : Nat → Prop} {β : Path → Value} {fr : Fr} {w : World} {a : Act}

theorem idxOf?_get {xs : List Nat} {x j : Nat} (h : xs.idxOf? x = some j) : xs[j]? = some x := by
  rw [List.idxOf?_eq_some_iff] at h
  obtain ⟨h1, h2, _⟩ := h
  rw [List.getElem?_eq_getElem h1, h2]

/-- The callee's names of the places. -/
def calleeβ (β : Path → Value) (ts : List (Option Nat)) (xs : List Nat) : Path → Value := fun p =>
  if virtBase ≤ p.1 then match xs[p.1 - virtBase]? with
    | some x => β (x, p.2)
    | none => .bool false
  else match (ts[p.1]?).join with
    | some s => β (s, p.2)
    | none => .bool false

/-- What the callee may read for ever. -/
def calleeS (S : Nat → Prop) (β : Path → Value) (lent : List Path) : Nat → Prop := fun b => S b ∨ ∃ p ∈ lent, blk (β p) = some b

theorem calleeβ_virt {ts : List (Option Nat)} {xs : List Nat} {j x : Nat} (h : xs[j]? = some x) (i : Nat) : calleeβ β ts xs (virtBase + j, i) = β (x, i) := by
  simp [calleeβ, h]
theorem calleeβ_arg {ts : List (Option Nat)} {xs : List Nat} {i s : Nat} (hi : i < virtBase) (h : ts[i]? = some (some s)) (j : Nat) : calleeβ β ts xs (i, j) = β (s, j) := by
  simp only [calleeβ]
  rw [if_neg (by omega), h]
  rfl

theorem lent_rd (hm : Mem e G S β fr (valsOf e a) w) {p : Path} {κ : TypeId} {sz : Nat} {es : List (List Dat)} (hp : pget fr p = .own κ sz es) {lent : List Path} (hl : p ∈ lent) : RD (calleeS S β lent) w (.sl sz es) (β p) := by
  have ho := pget_own hm hp
  simp only [RD]
  rcases ho with h | ⟨b, off, c, arr, E, fz, h1, h2, h3, h4, h5, hκ, h6⟩
  · exact .inl ⟨⟨_, h.1⟩, h.2⟩
  · exact .inr ⟨b, off, c, arr, E, fz, h1, h2, .inr ⟨p, hl, by rw [h1]; rfl⟩, h5, REs.mono (fun _ h => .inl h) (fun _ _ => rfl) sz es _ _ h6⟩

theorem trCaps_ok (hm : Mem e G S β fr (valsOf e a) w) {xs : List Nat} {ts : List (Option Nat)} {lent : List Path} : ∀ (caps cs : List AV) (l : List Path) (us : List Value), trCaps xs fr caps = some (cs, l) → (∀ p ∈ l, p ∈ lent) →
    All2 (fun _ => RCap S w β) 0 caps us → All2 (fun _ => RCap (calleeS S β lent) w (calleeβ β ts xs)) 0 cs us
  | [], cs, l, us, h, _, hr => by
    simp only [trCaps, Option.some.injEq, Prod.mk.injEq] at h
    obtain ⟨rfl, rfl⟩ := h
    cases us <;> simp_all [All2]
  | c :: caps, cs, l, us, h, hl, hr => by
    cases us with
    | nil => simp [All2] at hr
    | cons u us =>
      simp only [All2] at hr
      simp only [trCaps] at h
      split at h
      · cases h
      rename_i cs' l' hrest
      have shift : ∀ {cs' : List AV}, All2 (fun _ => RCap (calleeS S β lent) w (calleeβ β ts xs)) 0 cs' us → All2 (fun _ => RCap (calleeS S β lent) w (calleeβ β ts xs)) (0 + 1) cs' us := fun h2 =>
        All2.of_get (All2.len h2) fun k p q hp hq => by
          obtain ⟨q', hq', hpq⟩ := All2.get h2 k p hp
          rw [hq] at hq'
          cases hq'
          exact hpq
      have hr2 : All2 (fun _ => RCap S w β) 0 caps us := All2.of_get (All2.len hr.2) fun k p q hp hq => by
        obtain ⟨q', hq', hpq⟩ := All2.get hr.2 k p hp
        rw [hq] at hq'
        cases hq'
        exact hpq
      have ih := fun hl' => shift (trCaps_ok hm caps cs' l' us hrest hl' hr2)
      split at h
      · simp only [Option.some.injEq, Prod.mk.injEq] at h
        obtain ⟨rfl, rfl⟩ := h
        exact ⟨RD.mono (fun _ h => .inl h) (fun _ _ => rfl) _ _ hr.1, ih hl⟩
      · rename_i x off
        simp only [Option.map_eq_some_iff, Prod.mk.injEq] at h
        obtain ⟨j, hj, rfl, rfl⟩ := h
        refine ⟨?_, ih hl⟩
        obtain ⟨b, h1, h2⟩ := hr.1
        exact ⟨b, by rw [calleeβ_virt (idxOf?_get hj)]; exact h1, h2⟩
      · rename_i p
        have hu : u = β p := hr.1
        split at h
        · rename_i sz es hp
          simp only [Option.some.injEq, Prod.mk.injEq] at h
          obtain ⟨rfl, rfl⟩ := h
          exact ⟨by rw [hu]; exact lent_rd hm hp (hl p (by simp)), ih fun q hq => hl q (by simp [hq])⟩
        · rename_i sz es hp
          simp only [Option.some.injEq, Prod.mk.injEq] at h
          obtain ⟨rfl, rfl⟩ := h
          exact ⟨by rw [hu]; exact RD.mono (fun _ h => .inl h) (fun _ _ => rfl) _ _ (pget_fz hm hp), ih hl⟩
        · cases h
      · cases h

theorem trV_ok (hm : Mem e G S β fr (valsOf e a) w) {xs : List Nat} {ts : List (Option Nat)} {lent : List Path} {v av : AV} {l : List Path} (h : trV xs fr v = some (av, l)) (hl : ∀ p ∈ l, p ∈ lent) {u : Value} (hr : RFlat S w β (0, 0) v u) (q : Path) :
    RFlat (calleeS S β lent) w (calleeβ β ts xs) q av u ∧ av.isOwn = false ∧ av.flat = true := by
  unfold trV at h
  split at h
  · simp only [Option.some.injEq, Prod.mk.injEq] at h
    obtain ⟨rfl, rfl⟩ := h
    exact ⟨RD.mono (fun _ h => .inl h) (fun _ _ => rfl) _ _ hr, rfl, rfl⟩
  · simp only [Option.some.injEq, Prod.mk.injEq] at h
    obtain ⟨rfl, rfl⟩ := h
    obtain ⟨l, h1, h2, h3⟩ := hr
    exact ⟨⟨l, h1, h2, RCs.mono (fun _ h => .inl h) (fun _ _ => rfl) _ _ _ h3⟩, rfl, rfl⟩
  · rename_i p
    have hu : u = β p := hr
    split at h
    · rename_i j hj
      simp only [Option.some.injEq, Prod.mk.injEq] at h
      obtain ⟨rfl, rfl⟩ := h
      exact ⟨by rw [hu]; exact (calleeβ_virt (idxOf?_get hj) p.2).symm, rfl, rfl⟩
    split at h
    · rename_i sz es hp
      simp only [Option.some.injEq, Prod.mk.injEq] at h
      obtain ⟨rfl, rfl⟩ := h
      exact ⟨by rw [hu]; exact lent_rd hm hp (hl p (by simp)), rfl, rfl⟩
    · rename_i sz es hp
      simp only [Option.some.injEq, Prod.mk.injEq] at h
      obtain ⟨rfl, rfl⟩ := h
      exact ⟨by rw [hu]; exact RD.mono (fun _ h => .inl h) (fun _ _ => rfl) _ _ (pget_fz hm hp), rfl, rfl⟩
    · cases h
  · rename_i x off
    simp only [Option.map_eq_some_iff, Prod.mk.injEq] at h
    obtain ⟨j, hj, rfl, rfl⟩ := h
    obtain ⟨b, h1, h2⟩ := hr
    exact ⟨⟨b, by rw [calleeβ_virt (idxOf?_get hj)]; exact h1, h2⟩, rfl, rfl⟩
  · rename_i f caps
    simp only [Option.map_eq_some_iff, Prod.mk.injEq] at h
    obtain ⟨⟨cs, l'⟩, hc, rfl, rfl⟩ := h
    obtain ⟨us, h1, h2⟩ := hr
    exact ⟨⟨us, h1, trCaps_ok hm caps cs l' us hc hl h2⟩, rfl, rfl⟩
  · cases h

/-- What an argument's value is known to be. -/
def ArgOk (_N : Nat) (S : Nat → Prop) (w : World) (β : Path → Value) (a : Act) (it : ArgIn) (u : Value) : Prop :=
  match it.1 with
  | some s => u = a.eval (.tmp s)
  | none => RFlat S w β (0, 0) it.2 u

theorem trArgs_ok {N : Nat} (hN : a.tmps.size = N) (hm : Mem e G S β fr (valsOf e a) w) {xs : List Nat} {lent : List Path} (ts0 : List (Option Nat)) : ∀ (items : List ArgIn) (as : List AV) (ts : List (Option Nat)) (l : List Path) (us : List Value) (i : Nat),
    trArgs N xs fr items = some (as, ts, l) → (∀ p ∈ l, p ∈ lent) → All2 (fun _ => ArgOk N S w β a) i items us → i + items.length ≤ virtBase → (∀ j t, ts[j]? = some t → ts0[i + j]? = some t) →
    as.length = items.length ∧ ts.length = items.length ∧ All2 (fun j av u => RFlat (calleeS S β lent) w (calleeβ β ts0 xs) (j, 0) av u) i as us ∧
    (∀ (j : Nat) (av : AV), as[j]? = some av → av.flat = true ∧ (av.isOwn = true → ∃ s, ts[j]? = some (some s) ∧ s < N ∧ (fget fr s).isOwn = true ∧ (fget fr s).flat = true))
  | [], as, ts, l, us, i, h, _, hr, _, _ => by
    simp only [trArgs, Option.some.injEq, Prod.mk.injEq] at h
    obtain ⟨rfl, rfl, rfl⟩ := h
    cases us <;> simp_all [All2]
  | (tk, v) :: items, as, ts, l, us, i, h, hl, hr, hi, hts => by
    cases us with
    | nil => simp [All2] at hr
    | cons u us =>
      simp only [All2] at hr
      simp only [trArgs] at h
      split at h
      · cases h
      rename_i as' ts' l' hrest
      simp only [List.length_cons] at hi
      cases tk with
      | some s =>
        simp only at h
        split at h
        case h_2 => cases h
        rename_i sz es hf
        split at h
        case isFalse => cases h
        rename_i hs
        simp only [Option.some.injEq, Prod.mk.injEq] at h
        obtain ⟨rfl, rfl, rfl⟩ := h
        obtain ⟨h1, h2, h3, h4⟩ := trArgs_ok hN hm ts0 items as' ts' l' us (i + 1) hrest hl hr.2 (by omega) (fun j t hj => by have := hts (j + 1) t (by simpa using hj); rwa [Nat.add_assoc, Nat.add_comm 1 j])
        refine ⟨by simp [h1], by simp [h2], ⟨?_, h3⟩, fun j av hj => ?_⟩
        · have hu : u = a.eval (.tmp s) := hr.1
          obtain ⟨u0, hru, hu0⟩ := hm.rel s
          have := hu0 _ (eval_tmp (by rw [hN]; exact hs))
          rw [← hu] at this
          subst this
          rw [hf] at hru
          refine ⟨?_, hru.2.turn (fun _ h => .inl h) (fun _ _ => rfl) (fun _ _ => rfl)⟩
          rw [calleeβ_arg (s := s) (by omega) (by have := hts 0 (some s) (by simp); simpa using this)]
          exact hru.1
        · cases j with
          | zero =>
            simp only [List.getElem?_cons_zero, Option.some.injEq] at hj
            subst hj
            exact ⟨rfl, fun _ => ⟨s, by simp, hs, by rw [hf]; rfl, by rw [hf]; rfl⟩⟩
          | succ j => simpa using h4 j av (by simpa using hj)
      | none =>
        simp only at h
        split at h
        case h_2 => cases h
        rename_i a' l'' hv
        simp only [Option.some.injEq, Prod.mk.injEq] at h
        obtain ⟨rfl, rfl, rfl⟩ := h
        obtain ⟨h1, h2, h3, h4⟩ := trArgs_ok hN hm ts0 items as' ts' l' us (i + 1) hrest (fun p hp => hl p (by simp [hp])) hr.2 (by omega) (fun j t hj => by have := hts (j + 1) t (by simpa using hj); rwa [Nat.add_assoc, Nat.add_comm 1 j])
        obtain ⟨hv1, hv2, hv3⟩ := trV_ok (ts := ts0) hm hv (fun p hp => hl p (by simp [hp])) hr.1 (i, 0)
        refine ⟨by simp [h1], by simp [h2], ⟨hv1, h3⟩, fun j av hj => ?_⟩
        cases j with
        | zero =>
          simp only [List.getElem?_cons_zero, Option.some.injEq] at hj
          subst hj
          exact ⟨hv3, fun ho => by rw [hv2] at ho; cases ho⟩
        | succ j => simpa using h4 j av (by simpa using hj)

theorem boxesOf_ok : ∀ (xs : List Nat) (vin : List AV), boxesOf fr xs = some vin → vin.length = xs.length ∧ ∀ (j x : Nat), xs[j]? = some x → (fget fr x).lendable = true ∧ vin[j]? = some (lendA (fget fr x))
  | [], vin, h => by
    simp only [boxesOf, Option.some.injEq] at h
    subst h
    simp
  | x :: xs, vin, h => by
    simp only [boxesOf] at h
    split at h
    case h_2 => cases h
    rename_i l hf hrest
    simp only [Option.some.injEq] at h
    subst h
    obtain ⟨h1, h2⟩ := boxesOf_ok xs l hrest
    refine ⟨by simp [h1], fun j y hj => ?_⟩
    cases j with
    | zero =>
      simp only [List.getElem?_cons_zero, Option.some.injEq] at hj
      subst hj
      exact ⟨hf, by simp⟩
    | succ j => simpa using h2 j y (by simpa using hj)

theorem lendCell_ok {S' : Nat → Prop} {β' : Path → Value} {p q : Path} {c : AV} {u : Value} (h : RFlat S w β p c u) (hs : ∀ b, S b → S' b) (hpq : β' q = β p) (hslf : β' (q.1, 0) = β (p.1, 0)) (hq : q.2 ≠ 0) : RFlat S' w β' q (lendCell c) u := by
  cases c <;> simp only [lendCell, RFlat] at h ⊢
  case d => exact RD.mono hs (fun _ _ => rfl) _ _ h
  case own => exact ⟨h.1.trans hpq.symm, h.2.turn hs (fun _ _ => rfl) (fun _ _ => rfl)⟩
  case fz => exact RD.mono hs (fun _ _ => rfl) _ _ h.2
  case slf => rw [hslf]; exact ⟨hq, h.2⟩

theorem lendA_own {c : AV} {i : Nat} (hl : c.lendable = true) (h : (lendA c).ownsAt i = true) : c.ownsAt i = true := by
  cases c <;> simp only [AV.lendable, reduceCtorEq] at hl
  case own => exact h
  case glo => exact h
  case box cs =>
    cases i with
    | zero => rfl
    | succ i =>
      simp only [lendA, AV.ownsAt, List.getElem?_map, Option.map_map] at h ⊢
      cases hc : cs[i]? with
      | none => simp [hc] at h
      | some c =>
        simp only [hc, Option.map_some, Function.comp, Option.getD_some] at h ⊢
        cases c <;> simp_all [lendCell, AV.isOwn]

theorem lendCell_own {c : AV} (h : (lendCell c).isOwn = true) : c.isOwn = true := by
  cases c <;> simp_all [lendCell, AV.isOwn]

end
end Go.Vm
