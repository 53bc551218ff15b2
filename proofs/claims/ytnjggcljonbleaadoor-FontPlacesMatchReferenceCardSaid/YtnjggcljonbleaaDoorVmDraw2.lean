/-
  THE V-MACHINE, part 29: drawn regions: still operations in front, and behind them others, each of which waits for all that are still.
-/
import Derived.Test.YtnjggcljonbleaaDoorVmNil
namespace Go.Vm

/-- Any order; the operations in front of m keep the world. -/
def wpAnyL (P : Program) (ops : Array Oper) (Q : Exit → Act → World → Prop) (m : Nat) : Nat → Array Bool → Act → World → Prop
  | 0, listed, a, w => Region.ready .any ops listed = [] ∧ Q .normal a w
  | fuel + 1, listed, a, w => (Region.ready .any ops listed = [] → Q .normal a w) ∧
    ∀ i ∈ Region.ready .any ops listed, wpOp P ops Q i (fun a' w' => (i < m → w' = w) ∧ wpAnyL P ops Q m fuel (listed.setIfInBounds i true) a' w') a w

/-- Each operation from m on waits for each in front of m. -/
def waits (ops : Array Oper) (m : Nat) : Bool := (List.range ops.size).all fun j => decide (j < m) || (match ops[j]? with
  | some o => (List.range m).all fun i => o.after.any fun e => Region.binds .any e && e.on == i
  | none => true)

section
variable {P : Program} {ops : Array Oper} {Q : Exit → Act → World → Prop} {m : Nat}

theorem wpAny_of_L : ∀ (fuel : Nat) (listed : Array Bool) (a : Act) (w : World), wpAnyL P ops Q m fuel listed a w → wpAny P .any ops Q fuel listed a w
  | 0, _, _, _, h => h
  | fuel + 1, _, _, _, h => ⟨h.1, fun i hi => wpOp_mono (fun a' w' h' => wpAny_of_L fuel _ a' w' h'.2) (h.2 i hi)⟩

theorem unlisted {listed : Array Bool} {i : Nat} (h0 : listed.getD i true = false) : listed.getD i false ≠ true := by
  intro h1
  rcases Nat.lt_or_ge i listed.size with h' | h'
  · simp [h'] at h0 h1
    rw [h0] at h1
    cases h1
  · simp [Array.getElem?_eq_none h'] at h1

theorem front {listed : Array Bool} {i j : Nat} (hw : waits ops m = true) (hi : i < m) (hr : i ∈ Region.ready .any ops listed) (hj : j ∈ Region.ready .any ops listed) : j < m := by
  rcases Nat.lt_or_ge j m with h | h
  · exact h
  · exfalso
    obtain ⟨_, oj, hoj, hall⟩ := mem_ready.1 hj
    have hlt : j < ops.size := (Array.getElem?_eq_some_iff.1 hoj).1
    have h1 := (List.all_eq_true.1 hw) j (List.mem_range.2 hlt)
    simp only [hoj, Bool.or_eq_true, decide_eq_true_eq] at h1
    have h2 := (List.all_eq_true.1 (h1.resolve_left (by omega))) i (List.mem_range.2 hi)
    rw [← Array.any_toList, List.any_eq_true] at h2
    obtain ⟨e, he, hbe⟩ := h2
    simp only [Bool.and_eq_true, beq_iff_eq] at hbe
    obtain ⟨hb, hon⟩ := hbe
    have he := Array.mem_toList_iff.1 he
    have := hall e he hb
    rw [hon] at this
    exact unlisted (mem_ready.1 hr).1 this

theorem takeL {i : Nat} {oi : Oper} {v : Value} (hi : ops[i]? = some oi) (him : i < m) (hw : waits ops m = true) (hsel : Region.noSelect ops = true) (hQp : ∀ c a w, ¬ Q (.panic c) a w) (w : World) :
    ∀ (fuel : Nat) (listed : Array Bool) (a : Act), Region.free .any ops listed i = true → i ∈ Region.ready .any ops listed → YieldsIf P ops (fun w' => w' = w) oi v a →
      wpAnyL P ops Q m fuel (listed.setIfInBounds i true) (a.put oi.dst v) w → wpAnyL P ops Q m (fuel + 1) listed a w := by
  have main : ∀ (fuel : Nat) (listed : Array Bool) (a : Act), (∀ j oj, ops[j]? = some oj → j ≠ i → listed.getD j true = false → (∀ e ∈ oj.after, Region.binds .any e = true → e.on ≠ i) → oi.apart ops oj = true) → i ∈ Region.ready .any ops listed → YieldsIf P ops (fun w' => w' = w) oi v a →
      wpAnyL P ops Q m fuel (listed.setIfInBounds i true) (a.put oi.dst v) w → wpAnyL P ops Q m (fuel + 1) listed a w := by
    intro fuel
    induction fuel with
    | zero =>
      intro listed a _ hr hy H
      refine ⟨fun h => (by rw [h] at hr; cases hr), fun j hj => ?_⟩
      by_cases hji : j = i
      · subst hji
        exact hy.wpOp hi rfl ⟨fun _ => rfl, H⟩
      · have := ready_mono hj hji
        rw [H.1] at this
        cases this
    | succ fuel ih =>
      intro listed a hfree hr hy H
      refine ⟨fun h => (by rw [h] at hr; cases hr), fun j hj => ?_⟩
      by_cases hji : j = i
      · subst hji
        exact hy.wpOp hi rfl ⟨fun _ => rfl, H⟩
      · have hjm := front hw him hr hj
        obtain ⟨hjun, oj, hoj, hall⟩ := mem_ready.1 hj
        have hnot : ∀ e ∈ oj.after, Region.binds .any e = true → e.on ≠ i := fun e he hb heq => by
          have h1 := hall e he hb
          rw [heq] at h1
          exact unlisted (mem_ready.1 hr).1 h1
        have h2 := wpOp_putIf hoj (hfree j oj hoj hji hjun hnot) (fun cs b => Region.noSelect_spec hsel i oi cs b hi) (fun cs b => Region.noSelect_spec hsel j oj cs b hoj) (fun c a w h => absurd h (hQp c _ w)) hy (H.2 j (ready_mono hj hji))
        refine wpOp_mono (fun a' w' h3 => ?_) h2
        obtain ⟨h4, h5, h6⟩ := h3
        have hww := h5 hjm
        subst hww
        refine ⟨fun _ => rfl, ih (listed.setIfInBounds j true) a' (fun k ok hk hki hun hno => ?_) (ready_mono hr (Ne.symm hji)) h4 ?_⟩
        · refine hfree k ok hk hki ?_ hno
          by_cases hjk : j = k
          · subst hjk; exact hjun
          · rw [getD_set_ne true hjk] at hun; exact hun
        · rw [Array.setIfInBounds_comm _ _ hji]
          exact h6
  intro fuel listed a hf
  exact main fuel listed a (Region.free_spec hi hf)
end

/-- In front the still operations, behind them the others, one by one. -/
def runS (P : Program) (N : Nat) (ops : Array Oper) (hs : List (Nat × Hint)) (m : Nat) : List Nat → Array Bool → GEnv → Fr → Option (Fr × List Prop)
  | [], listed, _, fr => if (Region.ready .any ops listed).isEmpty then some (fr, []) else none
  | i :: r, listed, G, fr => if i < m then
      if Region.free .any ops listed i && (Region.ready .any ops listed).contains i then
        match stepP P N ops i (hintAt hs i) G fr with
        | some (G1, fr1, obl) => match runS P N ops hs m r (listed.setIfInBounds i true) G1 fr1 with
          | some (f, l) => some (f, obl :: l)
          | none => none
        | none => none
      else none
    else if Region.ready .any ops listed == [i] then
      match step1 P N ops i (hintAt hs i) G fr with
      | some (G1, fr1, obl) => match runS P N ops hs m r (listed.setIfInBounds i true) G1 fr1 with
        | some (f, l) => some (f, obl :: l)
        | none => none
      | none => none
    else none

def runDS (P : Program) (N : Nat) (ops : Array Oper) (hs : List (Nat × Hint)) (m : Nat) (keep : List Nat) (cs : List Co) (fr : Fr) : Option (Fr × List Prop) :=
  if Region.noSelect ops && waits ops m then
  match runS P N ops hs m (List.range ops.size) (Array.replicate ops.size false) [] fr with
  | some (f, l) => match coStep (.keep keep) f with
    | some f' => match coAll cs f' with
      | some f'' => some (f'', l)
      | none => none
    | none => none
  | none => none
  else none

section
variable {P : Program} {e : Env} {fr : Fr} {w : World} {a : Act} {N : Nat}

theorem runS_ok {ops : Array Oper} {hs : List (Nat × Hint)} {m : Nat} (hsel : Region.noSelect ops = true) (hw : waits ops m = true) {Q : Exit → Act → World → Prop} (hQp : ∀ c a w, ¬ Q (.panic c) a w) : ∀ (l : List Nat) (listed : Array Bool) (G : GEnv) (fr fr' : Fr) (obs : List Prop) (a : Act) (w : World), runS P N ops hs m l listed G fr = some (fr', obs) → AllP obs → MemG e G N fr a w →
    (∀ G' a' w', MemG e G' N fr' a' w' → Q .normal a' w') → wpAnyL P ops Q m l.length listed a w
  | [], listed, G, fr, fr', obs, a, w, h, _, hm, hQ => by
    simp only [runS] at h
    split at h
    case isFalse => cases h
    rename_i hr
    simp only [Option.some.injEq, Prod.mk.injEq] at h
    obtain ⟨rfl, _⟩ := h
    exact ⟨by simpa using hr, hQ G a w hm⟩
  | i :: r, listed, G, fr, fr', obs, a, w, h, ho, hm, hQ => by
    simp only [runS] at h
    split at h
    · rename_i him
      split at h
      case isFalse => cases h
      rename_i hfr
      simp only [Bool.and_eq_true] at hfr
      split at h
      case h_2 => cases h
      rename_i G1 fr1 obl hs1
      split at h
      case h_2 => cases h
      rename_i f l hl
      simp only [Option.some.injEq, Prod.mk.injEq] at h
      obtain ⟨rfl, rfl⟩ := h
      obtain ⟨o, u, ho1, hy, hm'⟩ := stepP_ok hs1 ho.1 hm
      exact takeL ho1 him hw hsel hQp w r.length listed a hfr.1 (by simpa using hfr.2) hy (runS_ok hsel hw hQp r _ G1 fr1 f l _ w hl ho.2 hm' hQ)
    · rename_i him
      split at h
      case isFalse => cases h
      rename_i hrd
      have hrd' : Region.ready .any ops listed = [i] := by simpa using hrd
      split at h
      case h_2 => cases h
      rename_i G1 fr1 obl hs1
      split at h
      case h_2 => cases h
      rename_i f l hl
      simp only [Option.some.injEq, Prod.mk.injEq] at h
      obtain ⟨rfl, rfl⟩ := h
      refine ⟨fun h => (by rw [hrd'] at h; cases h), fun j hj => ?_⟩
      rw [hrd', List.mem_singleton] at hj
      subst hj
      obtain ⟨o, ho1, hwt, hnw⟩ := step1_ok (K := fun a' w' => (j < m → w' = w) ∧ wpAnyL P ops Q m r.length (listed.setIfInBounds j true) a' w') (Q := Q) hs1 ho.1 hm fun a' w' hm' => ⟨fun h => absurd h him, runS_ok hsel hw hQp r _ G1 fr1 f l a' w' hl ho.2 hm' hQ⟩
      unfold wpOp
      simp only [ho1]
      by_cases hwant : Region.wanted o (yielded ops a.tmps) = true
      · rw [if_pos hwant]
        exact .inl (hwt hwant)
      · rw [if_neg hwant]
        exact ⟨fun _ => trivial, (hnw (by simpa using hwant)).2⟩

theorem wp_runDS {id : Nat} {ops : Array Oper} {hs : List (Nat × Hint)} {m : Nat} {keep : List Nat} {cs : List Co} {fr' : Fr} {obs : List Prop} {Q : Exit → Act → World → Prop} (hmx : P.follows .mixedOrders = true) (h : runDS P N ops hs m keep cs fr = some (fr', obs)) (ho : AllP obs) (hm : MemA e [] N fr a w)
    (hQ : ∀ a' w', MemA e [] N fr' a' w' → Q .normal a' w') : (Code.region id ops true).wp P Q a w := by
  unfold runDS at h
  split at h
  case isFalse => cases h
  rename_i hsw
  simp only [Bool.and_eq_true] at hsw
  split at h
  case h_2 => cases h
  rename_i f l hl
  split at h
  case h_2 => cases h
  rename_i f' hk
  split at h
  case h_2 => cases h
  rename_i f'' hc
  simp only [Option.some.injEq, Prod.mk.injEq] at h
  obtain ⟨rfl, rfl⟩ := h
  refine wp_mono (Q := fun ex a w => match ex with | .normal => Q .normal a w | _ => False) ?_ (fun ex a' w' hq => by cases ex <;> first | exact hq | exact hq.elim)
  refine wp_region_any hmx (wpAny_of_L (m := m) _ _ _ _ ?_)
  obtain ⟨h1, h2, S, β, hm⟩ := hm
  have hrun := runS_ok (e := e) hsw.1 hsw.2 (Q := fun ex a w => match ex with | .normal => Q .normal a w | _ => False) (fun _ _ _ h => h) (List.range ops.size) (Array.replicate ops.size false) [] fr f l a { w with drawn := w.drawn + 1 } hl ho (memG_nil ⟨h1, h2, S, β, hm.drawn _⟩) (fun G' a' w' hm' => by
    obtain ⟨g1, g2, _, S', β', hm'⟩ := hm'
    obtain ⟨S'', β'', hm''⟩ := coAll_ok cs _ _ S' β' (coKeep hm' hk) hc
    exact hQ a' _ ⟨g1, g2, S'', β'', hm''⟩)
  simpa using hrun

variable {Q : Exit → Act → World → Prop}
theorem T_drawS {id : Nat} {ops : Array Oper} (hmx : P.follows .mixedOrders = true) (m : Nat) (hs : List (Nat × Hint)) (keep : List Nat) (cs : List Co) (fr' : Fr) (obs : List (Nat × Prop)) (n : Nat) {k : Code} (h : runDS P N ops hs m keep cs fr = some (fr', owed obs n)) (ho : Owed obs) (hk : T P e N k fr' Q) : T P e N (.seq (.region id ops true) k) fr Q :=
  fun _ _ hm => wp_seq (wp_runDS hmx h ho.all hm fun a' w' hm' => hk a' w' hm')
theorem T_drawS_end {id : Nat} {ops : Array Oper} (hmx : P.follows .mixedOrders = true) (m : Nat) (hs : List (Nat × Hint)) (keep : List Nat) (cs : List Co) (fr' : Fr) (obs : List (Nat × Prop)) (n : Nat) (h : runDS P N ops hs m keep cs fr = some (fr', owed obs n)) (ho : Owed obs) (hk : ∀ a w, MemA e [] N fr' a w → Q .normal a w) : T P e N (.region id ops true) fr Q :=
  fun _ _ hm => wp_runDS hmx h ho.all hm hk
end
end Go.Vm
