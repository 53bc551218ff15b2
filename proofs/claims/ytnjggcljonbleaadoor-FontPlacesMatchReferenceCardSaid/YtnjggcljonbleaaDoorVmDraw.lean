/-
  THE V-MACHINE, part 26: regions whose order is drawn. All operations are still: whatever comes up, the textual order may be taken.
-/
import Derived.Test.YtnjggcljonbleaaDoorVmLib
import Derived.OrdersHeld
namespace Go.Vm

/-- A still operation that moves an owner. -/
def opP (P : Program) (N : Nat) (t : Nat) (fr : Fr) (o : Oper) : Option Fr :=
  match o.op with
  | .assign (.tmp s) => effMove N true t s fr
  | .move (.tmp s) => effMove N false t s fr
  | .assign (.const (.slice none 0 0)) => effNil P t o.type fr
  | _ => none

def stepP (P : Program) (N : Nat) (ops : Array Oper) (i : Nat) (h : Hint) (G : GEnv) (fr : Fr) : Option (GEnv × Fr × Prop) :=
  match ops[i]? with
  | none => none
  | some o => if dstFree N G o.dst then
    match chainOf ops G o, o.dst with
    | some [], some t => match opP P N t fr o with
      | some fr' => some (G, fr', True)
      | none => match opR' P N G [] h fr o with
        | some r => if (rwA h r).1.plain then some (pushG G t [] (rwA h r).1, setA t (rwA h r).1 fr, (rwA h r).2) else none
        | none => none
    | some (q :: g), some t => match opR' P N G (q :: g) h fr o with
      | some r => if (rwA h r).1.plain then some (pushG G t (q :: g) (rwA h r).1, setA t (.gd (q :: g) (rwA h r).1) fr, condG G (q :: g) = true → (rwA h r).2) else none
      | none => none
    | _, _ => none
  else none

def runP (P : Program) (N : Nat) (ops : Array Oper) (hs : List (Nat × Hint)) : List Nat → Array Bool → GEnv → Fr → Option (Fr × List Prop)
  | [], listed, _, fr => if (Region.ready .any ops listed).isEmpty then some (fr, []) else none
  | i :: r, listed, G, fr => if Region.free .any ops listed i && (Region.ready .any ops listed).contains i then
      match stepP P N ops i (hintAt hs i) G fr with
      | some (G1, fr1, obl) => match runP P N ops hs r (listed.setIfInBounds i true) G1 fr1 with
        | some (f, l) => some (f, obl :: l)
        | none => none
      | none => none
    else none

def runD (P : Program) (N : Nat) (ops : Array Oper) (hs : List (Nat × Hint)) (keep : List Nat) (cs : List Co) (fr : Fr) : Option (Fr × List Prop) :=
  if Region.noSelect ops then
  match runP P N ops hs (List.range ops.size) (Array.replicate ops.size false) [] fr with
  | some (f, l) => match coStep (.keep keep) f with
    | some f' => match coAll cs f' with
      | some f'' => some (f'', l)
      | none => none
    | none => none
  | none => none
  else none

section
variable {P : Program} {e : Env} {G : GEnv} {S : Nat → Prop} {β : Path → Value} {fr : Fr} {w : World} {a : Act} {N : Nat}

theorem opP_ok (hN : a.tmps.size = N) (hm : Mem e G S β fr (valsOf e a) w) {t : Nat} (ht : t < a.tmps.size) {o : Oper} {fr' : Fr} (h : opP P N t fr o = some fr') :
    ∃ u, (execOp a.eval o).run P w = .ok (.value u) w ∧ After e G fr' a t u w := by
  obtain ⟨dst, op, type, pos, after, guard⟩ := o
  unfold opP at h
  simp only at h
  split at h
  · exact ⟨_, rfl, effMove_ok hN hm ht h⟩
  · exact ⟨_, rfl, effMove_ok hN hm ht h⟩
  · exact ⟨_, rfl, effNil_ok hm ht h⟩
  · cases h

theorem stepP_ok {ops : Array Oper} {i : Nat} {h : Hint} {G' : GEnv} {fr' : Fr} {obl : Prop} (hs : stepP P N ops i h G fr = some (G', fr', obl)) (ho : obl) (hm : MemG e G N fr a w) :
    ∃ o u, ops[i]? = some o ∧ YieldsIf P ops (fun w' => w' = w) o u a ∧ MemG e G' N fr' (a.put o.dst u) w := by
  obtain ⟨hd, hN, hI, S, β, hm⟩ := hm
  unfold stepP at hs
  split at hs
  · cases hs
  rename_i o hoi
  split at hs
  case isFalse => cases hs
  rename_i hfree
  have hdst : ∀ t, o.dst = some t → t < N ∧ lookG G t = none := by
    intro t ht
    simpa [dstFree, ht] using hfree
  refine ⟨o, ?_⟩
  split at hs
  · -- no guard
    rename_i t hch ht
    obtain ⟨hw, _⟩ := chainOf_ok hI hch
    rw [condG_nil] at hw
    obtain ⟨htN, htG⟩ := hdst t ht
    have hts : t < a.tmps.size := by rw [hN]; exact htN
    split at hs
    · rename_i fr1 hE
      simp only [Option.some.injEq, Prod.mk.injEq] at hs
      obtain ⟨rfl, rfl, rfl⟩ := hs
      obtain ⟨u, hu, S', β', hm'⟩ := opP_ok hN hm hts hE
      refine ⟨u, hoi, .inl ⟨hw, fun w' hw' => by subst hw'; exact hu⟩, ?_⟩
      rw [ht]
      exact ⟨by rw [put_defers]; exact hd, by rw [put_size]; exact hN, hI.put hN htN htG u, S', β', hm'⟩
    · split at hs
      case h_2 => cases hs
      rename_i r hR
      split at hs
      case isFalse => cases hs
      rename_i hpl
      simp only [Option.some.injEq, Prod.mk.injEq] at hs
      obtain ⟨rfl, rfl, rfl⟩ := hs
      obtain ⟨u, hu, hru⟩ := opR'_ok (P := P) hN hI hm condG_nil hR ho
      refine ⟨u, hoi, .inl ⟨hw, fun w' hw' => by subst hw'; exact hu⟩, ?_⟩
      rw [ht]
      refine ⟨by rw [put_defers]; exact hd, by rw [put_size]; exact hN, ?_, S, β, ?_⟩
      · exact pushG_inv (hI.put hN htN htG u) htN htG (by simp) (u := u) (by rw [put_get a t u hts, if_pos rfl]) (fun _ => hru) (fun h => by rw [condG_nil] at h; cases h)
      · refine pushG_mem (hm.setPlain t _ u _ (put_old a t u hts) (put_new a t u hts) (plain_slot hpl hru) (plain_ownsAt hpl) (fun l a h => ?_)) htG _ _
        rw [h] at hpl
        cases hpl
  · -- under a guard
    rename_i q g t hch ht
    obtain ⟨hw, hgs⟩ := chainOf_ok hI hch
    obtain ⟨htN, htG⟩ := hdst t ht
    have hts : t < a.tmps.size := by rw [hN]; exact htN
    split at hs
    case h_2 => cases hs
    rename_i r hR
    split at hs
    case isFalse => cases hs
    rename_i hpl
    simp only [Option.some.injEq, Prod.mk.injEq] at hs
    obtain ⟨rfl, rfl, rfl⟩ := hs
    cases hc : condG G (q :: g) with
    | true =>
      obtain ⟨u, hu, hru⟩ := opR'_ok (P := P) hN hI hm hc hR (ho hc)
      refine ⟨u, hoi, .inl ⟨by rw [hw, hc], fun w' hw' => by subst hw'; exact hu⟩, ?_⟩
      rw [ht]
      refine ⟨by rw [put_defers]; exact hd, by rw [put_size]; exact hN, ?_, S, β, ?_⟩
      · exact pushG_inv (hI.put hN htN htG u) htN htG hgs (u := u) (by rw [put_get a t u hts, if_pos rfl]) (fun _ => hru) (fun h => by rw [hc] at h; cases h)
      · refine pushG_mem (hm.setPlain t _ u _ (put_old a t u hts) (put_new a t u hts) (show RSlot (condG G) S w β t (.gd (q :: g) _) u from ⟨fun _ => plain_path hpl hru, fun h => by rw [hc] at h; cases h⟩) ?_ (fun l a h => ?_)) htG _ _
        · intro j
          cases j <;> simp [AV.ownsAt, AV.isOwn, plain_isOwn hpl]
        · cases h
          exact ⟨plain_isOwn hpl, hgs⟩
    | false =>
      refine ⟨undef, hoi, .inr ⟨by rw [hw, hc], rfl⟩, ?_⟩
      rw [ht]
      refine ⟨by rw [put_defers]; exact hd, by rw [put_size]; exact hN, ?_, S, β, ?_⟩
      · exact pushG_inv (S := S) (w := w) (β := β) (hI.put hN htN htG undef) htN htG hgs (u := undef) (by rw [put_get a t undef hts, if_pos rfl]) (fun h => by rw [hc] at h; cases h) (fun _ => rfl)
      · refine pushG_mem (hm.setPlain t _ undef _ (put_old a t undef hts) (put_new a t undef hts) (show RSlot (condG G) S w β t (.gd (q :: g) _) undef from ⟨fun h => (by rw [hc] at h; cases h), fun _ => rfl⟩) ?_ (fun l a h => ?_)) htG _ _
        · intro j
          cases j <;> simp [AV.ownsAt, AV.isOwn, plain_isOwn hpl]
        · cases h
          exact ⟨plain_isOwn hpl, hgs⟩
  · cases hs

theorem runP_ok {ops : Array Oper} {hs : List (Nat × Hint)} (hsel : Region.noSelect ops = true) {Q : Exit → Act → World → Prop} (hQp : ∀ c a w, ¬ Q (.panic c) a w) : ∀ (l : List Nat) (listed : Array Bool) (G : GEnv) (fr fr' : Fr) (obs : List Prop) (a : Act), runP P N ops hs l listed G fr = some (fr', obs) → AllP obs → MemG e G N fr a w →
    (∀ G' a', MemG e G' N fr' a' w → Q .normal a' w) → wpAnyH P .any ops Q (fun w' => w' = w) l.length listed a w
  | [], listed, G, fr, fr', obs, a, h, _, hm, hQ => by
    simp only [runP] at h
    split at h
    case isFalse => cases h
    rename_i hr
    simp only [Option.some.injEq, Prod.mk.injEq] at h
    obtain ⟨rfl, _⟩ := h
    exact wpAnyH_done (by simpa using hr) (hQ G a hm) _
  | i :: r, listed, G, fr, fr', obs, a, h, ho, hm, hQ => by
    simp only [runP] at h
    split at h
    case isFalse => cases h
    rename_i hfr
    simp only [Bool.and_eq_true] at hfr
    split at h
    case h_2 => cases h
    rename_i G1 fr1 obl hs1
    split at h
    case h_2 => cases h
    rename_i f l hl
    simp only [Option.some.injEq, Prod.mk.injEq] at h
    obtain ⟨rfl, rfl⟩ := h
    obtain ⟨o, u, ho1, hy, hm'⟩ := stepP_ok hs1 ho.1 hm
    exact wpAnyH_take ho1 hsel hfr.1 hfr.2 (fun c a w h => absurd h (hQp c _ w)) hy rfl (runP_ok hsel hQp r _ G1 fr1 f l _ hl ho.2 hm' hQ)

theorem Mem.drawn {vals : Nat → Option Value} (hm : Mem e G S β fr vals w) (n : Nat) : Mem e G S β fr vals { w with drawn := n } := by
  have h : Mem e G S β ((0, fget fr 0) :: fr) vals { w with drawn := n } := by
    refine hm.change 0 (fget fr 0) (slotP 0) (fget_cons_self 0 _ fr) (fun y hy => .inl ⟨fget_cons_ne _ _ (Ne.symm hy), fun _ => rfl⟩) (fun _ _ _ => rfl) (fun _ _ => rfl) (fun _ _ _ h => h) ?_ (hm.gok 0) ?_ ?_ ?_ (fun _ h => h) (fun _ h => .inl h) (fun _ _ => rfl) (fun _ _ _ _ _ _ => rfl) (fun _ _ _ => rfl) (Nat.le_refl _) rfl rfl rfl
    · obtain ⟨u, hr, hu⟩ := hm.rel 0
      exact ⟨u, RSlot.turn hr (fun _ _ _ => rfl) (fun _ h => h) (fun _ _ => rfl) (fun _ => rfl) (fun _ _ _ _ => rfl) (fun _ _ => rfl), hu⟩
    · intro i j b h1 h2 h3 h4
      exact (hm.dis 0 i 0 j b h1 h2 h3 h4).2
    · intro i y j b h1 hy h2 h3 h4
      exact hy (hm.dis 0 i y j b h1 h2 h3 h4).1.symm
    · intro i b h1 h2
      exact hm.fre 0 i b h1 h2
  exact h.congr fun x => by
    by_cases hx : x = 0
    · subst hx; rw [fget_cons_self]
    · rw [fget_cons_ne _ _ (Ne.symm hx)]

theorem wp_runD {id : Nat} {ops : Array Oper} {hs : List (Nat × Hint)} {keep : List Nat} {cs : List Co} {fr' : Fr} {obs : List Prop} {Q : Exit → Act → World → Prop} (hmx : P.follows .mixedOrders = true) (h : runD P N ops hs keep cs fr = some (fr', obs)) (ho : AllP obs) (hm : MemA e [] N fr a w)
    (hQ : ∀ a' w', MemA e [] N fr' a' w' → Q .normal a' w') : (Code.region id ops true).wp P Q a w := by
  unfold runD at h
  split at h
  case isFalse => cases h
  rename_i hsel
  split at h
  case h_2 => cases h
  rename_i f l hl
  split at h
  case h_2 => cases h
  rename_i f' hk
  split at h
  case h_2 => cases h
  rename_i f'' hc
  simp only [Option.some.injEq, Prod.mk.injEq] at h
  obtain ⟨rfl, rfl⟩ := h
  refine wp_mono (Q := fun ex a w => match ex with | .normal => Q .normal a w | _ => False) ?_ (fun ex a' w' hq => by cases ex <;> first | exact hq | exact hq.elim)
  refine wp_region_held hmx (S := fun w' => w' = { w with drawn := w.drawn + 1 }) ?_
  obtain ⟨h1, h2, S, β, hm⟩ := hm
  have hrun := runP_ok (e := e) (w := { w with drawn := w.drawn + 1 }) hsel (Q := fun ex a w => match ex with | .normal => Q .normal a w | _ => False) (fun _ _ _ h => h) (List.range ops.size) (Array.replicate ops.size false) [] fr f l a hl ho (memG_nil ⟨h1, h2, S, β, hm.drawn _⟩) (fun G' a' hm' => by
    obtain ⟨g1, g2, _, S', β', hm'⟩ := hm'
    obtain ⟨S'', β'', hm''⟩ := coAll_ok cs _ _ S' β' (coKeep hm' hk) hc
    exact hQ a' _ ⟨g1, g2, S'', β'', hm''⟩)
  simpa using hrun

variable {Q : Exit → Act → World → Prop}
theorem T_draw {id : Nat} {ops : Array Oper} (hmx : P.follows .mixedOrders = true) (hs : List (Nat × Hint)) (keep : List Nat) (cs : List Co) (fr' : Fr) (obs : List (Nat × Prop)) (n : Nat) {k : Code} (h : runD P N ops hs keep cs fr = some (fr', owed obs n)) (ho : Owed obs) (hk : T P e N k fr' Q) : T P e N (.seq (.region id ops true) k) fr Q :=
  fun _ _ hm => wp_seq (wp_runD hmx h ho.all hm fun a' w' hm' => hk a' w' hm')
theorem T_draw_end {id : Nat} {ops : Array Oper} (hmx : P.follows .mixedOrders = true) (hs : List (Nat × Hint)) (keep : List Nat) (cs : List Co) (fr' : Fr) (obs : List (Nat × Prop)) (n : Nat) (h : runD P N ops hs keep cs fr = some (fr', owed obs n)) (ho : Owed obs) (hk : ∀ a w, MemA e [] N fr' a w → Q .normal a w) : T P e N (.region id ops true) fr Q :=
  fun _ _ hm => wp_runD hmx h ho.all hm hk
end
end Go.Vm
