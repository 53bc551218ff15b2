/-
  THE V-MACHINE, part 23: regions, branches, loops, whole functions.
-/
import Derived.Test.YtnjggcljonbleaaDoorVmRun
namespace Go.Vm

def hintAt : List (Nat × Hint) → Nat → Hint
  | [], _ => {}
  | (j, h) :: r, i => if j == i then h else hintAt r i

/-- The operations, one behind the other: the frame behind them, and what is owed. -/
def runL (P : Program) (N : Nat) (ops : Array Oper) (hs : List (Nat × Hint)) : List Nat → GEnv → Fr → Option (Fr × List Prop)
  | [], _, fr => some (fr, [])
  | i :: r, G, fr => match step1 P N ops i (hintAt hs i) G fr with
    | some (G', fr', obl) => match runL P N ops hs r G' fr' with
      | some (f, l) => some (f, obl :: l)
      | none => none
    | none => none

/-- What is done between two pieces of code: owners freeze; a frozen slice is held as plain data; a slot that refers to an owner takes it over; slots are kept, all others forgotten. -/
inductive Co where
  | frz (p : Path)
  | thaw (x : Nat)
  | claim (x : Nat)
  | nil (x : Nat) (κ : TypeId) (sz : Nat)
  | nild (x sz : Nat)
  | nilc (x off : Nat) (κ : TypeId) (sz : Nat)
  | thawc (x q : Nat)
  | keep (l : List Nat)

def coStep : Co → Fr → Option Fr
  | .frz p, fr => match pget fr p with
    | .own _κ sz es => some (pset fr p (.fz sz es))
    | _ => none
  | .thaw x, fr => match fget fr x with
    | .fz sz es => some ((x, .d (.sl sz es)) :: fr)
    | .own _κ sz es => some ((x, .d (.sl sz es)) :: pset fr (x, 0) (.fz sz es))
    | .vw p => match pget fr p with
      | .own _κ sz es => some ((x, .d (.sl sz es)) :: pset fr p (.fz sz es))
      | .fz sz es => some ((x, .d (.sl sz es)) :: fr)
      | _ => none
    | _ => none
  | .claim x, fr => match fget fr x with
    | .vw (s, 0) => match fget fr s with
      | .own κ sz es => if s ≠ x then some (setA x (.own κ sz es) ((s, .junk) :: fr)) else none
      | _ => none
    | .bp s 0 => match fget fr s with
      | .box _cs => if s ≠ x then some (setA x ((fget fr s).purge (slotP x)) ((s, .junk) :: fr)) else none
      | _ => none
    | _ => none
  | .nil x κ sz, fr => match fget fr x with
    | .d (.v (.slice none 0 0)) => some (setA x (.own κ sz []) fr)
    | _ => none
  | .nild x sz, fr => match fget fr x with
    | .d (.v (.slice none 0 0)) => some ((x, .d (.sl sz [])) :: fr)
    | _ => none
  | .nilc x off κ sz, fr => match fget fr x with
    | .box cs => match cs[off]? with
      | some (.d (.v (.slice none 0 0))) => some ((x, .box ((cs.map (AV.purge1 (cellP x off))).set off (.own κ sz []))) :: purgeP (cellP x off) fr)
      | _ => none
    | _ => none
  | .thawc x q, fr => match fget fr x with
    | .box cs => match cs[q]? with
      | some (.fz sz es) => some ((x, .box (cs.set q (.d (.sl sz es)))) :: fr)
      | _ => none
    | _ => none
  | .keep l, fr => if l.all (fun x => (fget fr x).noGd) then some (l.map fun x => (x, fget fr x)) else none

def coAll : List Co → Fr → Option Fr
  | [], fr => some fr
  | c :: r, fr => match coStep c fr with
    | some fr' => coAll r fr'
    | none => none

/-- A whole region, and what is done behind it. -/
def runR (P : Program) (N : Nat) (ops : Array Oper) (hs : List (Nat × Hint)) (keep : List Nat) (cs : List Co) (fr : Fr) : Option (Fr × List Prop) :=
  match runL P N ops hs (List.range ops.size) [] fr with
  | some (f, l) => match coStep (.keep keep) f with
    | some f' => match coAll cs f' with
      | some f'' => some (f'', l)
      | none => none
    | none => none
  | none => none

def AllP : List Prop → Prop
  | [] => True
  | p :: r => p ∧ AllP r

/-- What is owed, with the operations that owe nothing counted. -/
def owed : List (Nat × Prop) → Nat → List Prop
  | [], n => List.replicate n True
  | (k, p) :: r, n => List.replicate k True ++ p :: owed r n
def Owed : List (Nat × Prop) → Prop
  | [] => True
  | [(_, p)] => p
  | (_, p) :: r => p ∧ Owed r

theorem allP_true (n : Nat) (l : List Prop) (h : AllP l) : AllP (List.replicate n True ++ l) := by
  induction n with
  | zero => simpa using h
  | succ n ih => simp only [List.replicate_succ, List.cons_append]; exact ⟨trivial, ih⟩
theorem Owed.all : ∀ {l : List (Nat × Prop)} {n : Nat}, Owed l → AllP (owed l n)
  | [], n, _ => by simpa [owed] using allP_true n [] trivial
  | [(k, p)], n, h => by
    simp only [owed]
    exact allP_true k _ ⟨h, by simpa using allP_true n [] trivial⟩
  | (k, p) :: q :: r, n, h => by
    rw [owed]
    exact allP_true k _ ⟨h.1, Owed.all h.2⟩

section
variable {P : Program} {e : Env} {G : GEnv} {S : Nat → Prop} {β : Path → Value} {fr : Fr} {w : World} {a : Act} {N : Nat}

theorem runL_ok {ops : Array Oper} {hs : List (Nat × Hint)} {Q : Exit → Act → World → Prop} : ∀ (l : List Nat) (G : GEnv) (fr fr' : Fr) (obs : List Prop) (a : Act) (w : World), runL P N ops hs l G fr = some (fr', obs) → AllP obs → MemG e G N fr a w →
    (∀ G' a' w', MemG e G' N fr' a' w' → Q .normal a' w') → wpOps P ops Q l a w
  | [], G, fr, fr', obs, a, w, h, _, hm, hQ => by
    simp only [runL, Option.some.injEq, Prod.mk.injEq] at h
    obtain ⟨rfl, _⟩ := h
    exact hQ G a w hm
  | i :: r, G, fr, fr', obs, a, w, h, ho, hm, hQ => by
    simp only [runL] at h
    split at h
    case h_2 => cases h
    rename_i G1 fr1 obl hs1
    split at h
    case h_2 => cases h
    rename_i f l hl
    simp only [Option.some.injEq, Prod.mk.injEq] at h
    obtain ⟨rfl, rfl⟩ := h
    obtain ⟨o, ho1, hw, hnw⟩ := step1_ok (K := wpOps P ops Q r) (Q := Q) hs1 ho.1 hm fun a' w' hm' => runL_ok r G1 fr1 f l a' w' hl ho.2 hm' hQ
    simp only [wpOps, ho1]
    by_cases hwant : Region.wanted o (yielded ops a.tmps) = true
    · rw [if_pos hwant]
      exact .inl (hw hwant)
    · rw [if_neg hwant]
      exact hnw (by simpa using hwant)

theorem fget_keep (fr : Fr) : ∀ (l : List Nat) (x : Nat), fget (l.map fun y => (y, fget fr y)) x = if x ∈ l then fget fr x else .junk
  | [], x => by simp [fget]
  | y :: l, x => by
    simp only [List.map_cons, fget_cons, fget_keep fr l x, List.mem_cons]
    by_cases h : y = x
    · simp [h]
    · simp [h, Ne.symm h]

theorem coKeep {l : List Nat} {fr' : Fr} (hm : Mem e G S β fr (valsOf e a) w) (h : coStep (.keep l) fr = some fr') : Mem e [] S β fr' (valsOf e a) w := by
  simp only [coStep] at h
  split at h
  case isFalse => cases h
  rename_i hng
  simp only [Option.some.injEq] at h
  subst h
  have hng' : ∀ x ∈ l, (fget fr x).noGd = true := List.all_eq_true.1 hng
  have ho : ∀ x i, (fget (l.map fun y => (y, fget fr y)) x).ownsAt i = true → (fget fr x).ownsAt i = true := by
    intro x i h
    rw [fget_keep] at h
    split at h
    · exact h
    · cases i <;> simp [AV.ownsAt, AV.isOwn] at h
  refine ⟨fun x => ?_, fun x l' av h => ?_, fun x i y j b h1 h2 => hm.dis x i y j b (ho x i h1) (ho y j h2), fun x i b h1 => hm.fre x i b (ho x i h1), hm.stb, hm.s0, hm.old, hm.os, hm.tape, hm.output, hm.size⟩
  · obtain ⟨u, hr, hu⟩ := hm.rel x
    refine ⟨u, ?_, hu⟩
    rw [fget_keep]
    split
    · rename_i hx
      exact noGd_slot (hng' x hx) hr
    · exact trivial
  · rw [fget_keep] at h
    split at h
    · rename_i hx
      have := hng' x hx
      rw [h] at this
      cases this
    · cases h

theorem Mem.claim (hm : Mem e G S β fr (valsOf e a) w) {s x : Nat} (hst : s ≠ x) (hng : (fget fr s).noGd = true) (hv : ∀ u u', RSlot (condG G) S w β s (fget fr s) u → RSlot (condG G) S w β x (fget fr x) u' → u' = u) :
    ∃ β', Mem e G S β' (setA x ((fget fr s).purge (slotP x)) ((s, .junk) :: fr)) (valsOf e a) w := by
  have hd := hm.drop s
  have hf : ∀ y, y ≠ s → fget ((s, AV.junk) :: fr) y = fget fr y := fun y hy => fget_cons_ne _ _ (Ne.symm hy)
  have hfs : fget ((s, AV.junk) :: fr) s = .junk := fget_cons_self s _ _
  obtain ⟨u0, hr, hu0⟩ := hm.rel s
  obtain ⟨u1, hr1, hu1⟩ := hm.rel x
  have huu := hv u0 u1 hr hr1
  refine ⟨_, hd.make2 x _ u0 (fun j => β (s, j)) w (valsOf e a) (fun _ _ => rfl) (fun u' h => by rw [hu1 u' h, huu]) ?_ ?_ ?_ ?_ (fun _ _ => .inl rfl) (Nat.le_refl _) rfl rfl rfl⟩
  · refine (hr.purge (slotP x)).rename (fun j => by simp) fun q hq => ?_
    exact if_neg (slotP_ne (AV.purge_paths hq).1)
  · intro l a h
    have := AV.purge_noGd (π := slotP x) hng
    rw [h] at this
    cases this
  · intro i b ho hb
    have ho' := AV.purge_ownsAt (slotP x) _ i ho
    have hfr := hm.fre s i b ho' hb
    refine ⟨hfr.1, hfr.2, fun y j _ hoy hby => ?_⟩
    by_cases hys : y = s
    · subst hys
      rw [hfs] at hoy
      cases j <;> simp [AV.ownsAt, AV.isOwn] at hoy
    · rw [hf y hys] at hoy
      exact hys (hm.dis y j s i b hoy ho' hby hb).1
  · intro i j b h1 h2 h3 h4
    exact (hm.dis s i s j b (AV.purge_ownsAt (slotP x) _ i h1) (AV.purge_ownsAt (slotP x) _ j h2) h3 h4).2

theorem Mem.thawed (hm : Mem e G S β fr (valsOf e a) w) {x : Nat} {sz : Nat} {es : List (List Dat)} (hv : ∀ u, RSlot (condG G) S w β x (fget fr x) u → RD S w (.sl sz es) u) : Mem e G S β ((x, .d (.sl sz es)) :: fr) (valsOf e a) w :=
  hm.weaken x _ (fun u hr => hv u hr) (fun j h => by cases j <;> simp [AV.ownsAt, AV.isOwn] at h) (fun _ _ h => by cases h)

theorem pset_fz_self {x : Nat} {sz : Nat} {es : List (List Dat)} : fget (pset fr (x, 0) (.fz sz es)) x = .fz sz es := by
  simp [pset, fget_cons_self]

/-- A cell that holds nil owns the empty slice. -/
theorem Mem.nilCell {G : GEnv} {vals : Nat → Option Value} (hm : Mem e G S β fr vals w) {x off : Nat} {κ : TypeId} {sz : Nat} {cs : List AV} (hf : fget fr x = .box cs) (hc : cs[off]? = some (.d (.v (.slice none 0 0)))) :
    Mem e G S (fun p => if p = (x, off + 1) then .slice none 0 0 else β p) ((x, .box ((cs.map (AV.purge1 (cellP x off))).set off (.own κ sz []))) :: purgeP (cellP x off) fr) vals w := by
  have hoff : off < cs.length := (List.getElem?_eq_some_iff.1 hc).1
  have hcase : ∀ i, (AV.box ((cs.map (AV.purge1 (cellP x off))).set off (.own κ sz []))).ownsAt i = true → i = off + 1 ∨ (i ≠ off + 1 ∧ (fget fr x).ownsAt i = true) := by
    intro i h
    rcases box_ownsAt_set h with ⟨h1, _⟩ | ⟨h1, h2⟩
    · exact .inl h1
    · refine .inr ⟨h1, ?_⟩
      rw [hf]
      exact AV.purge_ownsAt (cellP x off) (.box cs) i h2
  have hnew : ∀ i k, (AV.box ((cs.map (AV.purge1 (cellP x off))).set off (.own κ sz []))).ownsAt i = true → blk ((fun p => if p = (x, off + 1) then Value.slice none 0 0 else β p) (x, i)) = some k → i ≠ off + 1 ∧ (fget fr x).ownsAt i = true ∧ blk (β (x, i)) = some k := by
    intro i k h1 h2
    rcases hcase i h1 with rfl | ⟨h3, h4⟩
    · simp [blk] at h2
    · have : (x, i) ≠ (x, off + 1) := by simp; exact h3
      simp only [this, if_false] at h2
      exact ⟨h3, h4, h2⟩
  refine hm.change x (.box ((cs.map (AV.purge1 (cellP x off))).set off (.own κ sz []))) (cellP x off) (fget_cons_self _ _ _) (fun z hz => .inr ?_) (fun z j hz => by simp [hz]) (fun p hp => if_neg (cellP_ne hp)) (fun _ _ _ h => h) ?_ (fun l a h => by cases h) ?_ ?_ ?_ (fun _ h => h) (fun _ h => .inl h) (fun _ _ => rfl) (fun _ _ _ _ _ _ => rfl) (fun _ _ _ => rfl) (Nat.le_refl _) rfl rfl rfl
  · rw [fget_cons_ne _ _ (Ne.symm hz)]
    exact fget_purgeP _ z _
  · obtain ⟨u, hr, hu⟩ := hm.rel x
    rw [hf] at hr
    obtain ⟨h0, b, l, E, h1, h2, h3⟩ := hr
    refine ⟨u, ⟨by simpa using h0, b, l, E, h1, h2, ?_⟩, hu⟩
    refine All2.of_get (by simpa using All2.len h3) fun j p c hp hcj => ?_
    rw [List.getElem?_set] at hp
    by_cases hj : off = j
    · subst hj
      rw [if_pos rfl, if_pos (by simpa using hoff)] at hp
      simp only [Option.some.injEq] at hp
      subst hp
      obtain ⟨c', hc', hrc⟩ := All2.get h3 off _ hc
      rw [hcj] at hc'
      cases hc'
      have hcn : c = .slice none 0 0 := hrc.1
      subst hcn
      exact ⟨by simp, .inl ⟨rfl, rfl⟩⟩
    · rw [if_neg hj] at hp
      simp only [List.getElem?_map, Option.map_eq_some_iff] at hp
      obtain ⟨p0, hp0, rfl⟩ := hp
      obtain ⟨c', hc', hrc⟩ := All2.get h3 j p0 hp0
      rw [hcj] at hc'
      cases hc'
      simp only [Nat.zero_add] at hrc ⊢
      refine (hrc.purge (cellP x off)).turn (fun _ h => h) (fun _ _ => rfl) ?_ (fun _ _ => ⟨by simp, rfl⟩) (fun ho k hk => rfl) fun q hq => ?_
      · have : (x, j + 1) ≠ (x, off + 1) := by simp; omega
        simp [this]
      · exact if_neg (cellP_ne (AV.purge1_paths (AV.paths01 _ _ hq)).1)
  · intro i j k h1 h2 h3 h4
    obtain ⟨_, h5, h6⟩ := hnew i k h1 h3
    obtain ⟨_, h7, h8⟩ := hnew j k h2 h4
    exact (hm.dis x i x j k h5 h7 h6 h8).2
  · intro i z j k h1 hz h2 h3 h4
    obtain ⟨_, h5, h6⟩ := hnew i k h1 h3
    exact hz (hm.dis x i z j k h5 h2 h6 h4).1.symm
  · intro i k h1 h2
    obtain ⟨_, h5, h6⟩ := hnew i k h1 h2
    exact hm.fre x i k h5 h6

theorem coStep_ok {c : Co} {fr' : Fr} (hm : Mem e [] S β fr (valsOf e a) w) (h : coStep c fr = some fr') : ∃ S' β', Mem e [] S' β' fr' (valsOf e a) w := by
  cases c with
  | frz p =>
    simp only [coStep] at h
    split at h
    · rename_i sz es hp
      simp only [Option.some.injEq] at h
      subst h
      exact ⟨_, _, hm.freeze hp⟩
    · cases h
  | keep l => exact ⟨S, β, coKeep hm h⟩
  | thawc x q =>
    simp only [coStep] at h
    split at h
    case h_2 => cases h
    rename_i cs hf
    split at h
    case h_2 => cases h
    rename_i sz es hc
    simp only [Option.some.injEq] at h
    subst h
    exact ⟨S, β, hm.weakCell hf hc (fun u hu => hu.2) rfl⟩
  | thaw x =>
    simp only [coStep] at h
    split at h
    · rename_i sz es hf
      simp only [Option.some.injEq] at h
      subst h
      refine ⟨S, β, hm.thawed fun u hr => ?_⟩
      rw [hf] at hr
      exact hr.2
    · rename_i sz es hf
      simp only [Option.some.injEq] at h
      subst h
      have hfz := hm.freeze (p := (x, 0)) (by simpa [pget] using hf)
      refine ⟨_, β, hfz.thawed fun u hr => ?_⟩
      rw [pset_fz_self] at hr
      exact hr.2
    · rename_i p hf
      split at h
      · rename_i sz es hp
        simp only [Option.some.injEq] at h
        subst h
        have hfz := hm.freeze hp
        have hpp : pget (pset fr p (.fz sz es)) p = .fz sz es := by
          obtain ⟨y, i⟩ := p
          cases i with
          | zero => simp [pget, pset, fget_cons_self]
          | succ j =>
            simp only [pget] at hp
            split at hp
            · rename_i cs hb
              simp only [pset, hb, pget, fget_cons_self, List.getD_eq_getElem?_getD]
              simp only [List.getD_eq_getElem?_getD] at hp
              have hlt : j < cs.length := by
                rcases Nat.lt_or_ge j cs.length with h | h
                · exact h
                · rw [List.getElem?_eq_none h] at hp; simp at hp
              simp [hlt]
            · cases hp
        have hrd := pget_fz hfz hpp
        refine ⟨_, β, hfz.thawed fun u hr => ?_⟩
        -- the slot's value is the place's
        obtain ⟨u0, hr0, hu0⟩ := hm.rel x
        by_cases hxp : p = (x, 0)
        · subst hxp
          rw [pset_fz_self] at hr
          exact hr.2
        · have hsame : fget (pset fr p (.fz sz es)) x = .vw p := by
            obtain ⟨y, i⟩ := p
            have hyx : y ≠ x := by
              rintro rfl
              have how := pget_owns hp
              simp only at how
              rw [hf] at how
              cases i <;> simp [AV.ownsAt, AV.isOwn] at how
            cases i with
            | zero => simp only [pset]; rw [fget_cons_ne _ _ hyx]; exact hf
            | succ j =>
              simp only [pset]
              split
              · rw [fget_cons_ne _ _ hyx]; exact hf
              · exact hf
          rw [hsame] at hr
          have : u = β p := hr
          rw [this]; exact hrd
      · rename_i sz es hp
        simp only [Option.some.injEq] at h
        subst h
        refine ⟨S, β, hm.thawed fun u hr => ?_⟩
        rw [hf] at hr
        have : u = β p := hr
        rw [this]
        exact pget_fz hm hp
      · cases h
    · cases h
  | nil x κ sz =>
    simp only [coStep] at h
    split at h
    · rename_i hf
      simp only [Option.some.injEq] at h
      subst h
      obtain ⟨β', hm'⟩ := hm.newNil x κ sz (valsOf e a) (fun _ _ => rfl) (fun u' hu' => by
        obtain ⟨u, hr, hu⟩ := hm.rel x
        rw [hu u' hu']
        rw [hf] at hr
        exact hr.1)
      exact ⟨S, β', hm'⟩
    · cases h
  | nilc x off κ sz =>
    simp only [coStep] at h
    split at h
    · rename_i cs hf
      split at h
      · rename_i hc
        simp only [Option.some.injEq] at h
        subst h
        exact ⟨S, _, hm.nilCell hf hc⟩
      · cases h
    · cases h
  | nild x sz =>
    simp only [coStep] at h
    split at h
    · rename_i hf
      simp only [Option.some.injEq] at h
      subst h
      refine ⟨S, β, hm.weaken x _ (fun u hr => ?_) (fun j h => by cases j <;> simp [AV.ownsAt, AV.isOwn] at h) (fun _ _ h => by cases h)⟩
      rw [hf] at hr
      have : u = .slice none 0 0 := hr.1
      subst this
      exact RD_nil rfl
    · cases h
  | claim x =>
    simp only [coStep] at h
    split at h
    · rename_i s hf
      split at h
      · rename_i sz es hs
        split at h
        case isFalse => cases h
        rename_i hne
        simp only [Option.some.injEq] at h
        subst h
        obtain ⟨β', hm'⟩ := hm.claim hne (by rw [hs]; rfl) fun u u' h1 h2 => by
          rw [hs] at h1
          rw [hf] at h2
          have h3 : u' = β (s, 0) := h2
          rw [h3, h1.1]
        rw [hs] at hm'
        exact ⟨S, β', by simpa [AV.purge, AV.purge1, AV.paths1, AV.paths0, AV.pathsF] using hm'⟩
      · cases h
    · rename_i s hf
      split at h
      · rename_i cs hs
        split at h
        case isFalse => cases h
        rename_i hne
        simp only [Option.some.injEq] at h
        subst h
        obtain ⟨β', hm'⟩ := hm.claim hne (by rw [hs]; rfl) fun u u' h1 h2 => by
          rw [hs] at h1
          rw [hf] at h2
          obtain ⟨h0, b, l, E, h3, _⟩ := h1
          obtain ⟨b', h4, h5⟩ := h2
          rw [← h0, h3] at h4
          simp only [Value.pointer.injEq, Option.some.injEq, Addr.mk.injEq] at h4
          rw [h5, h3, h4.1]
        exact ⟨S, β', hm'⟩
      · cases h
    · cases h

theorem coAll_ok : ∀ (cs : List Co) (fr fr' : Fr) (S : Nat → Prop) (β : Path → Value), Mem e [] S β fr (valsOf e a) w → coAll cs fr = some fr' → ∃ S' β', Mem e [] S' β' fr' (valsOf e a) w
  | [], fr, fr', S, β, hm, h => by
    simp only [coAll, Option.some.injEq] at h
    subst h
    exact ⟨S, β, hm⟩
  | c :: r, fr, fr', S, β, hm, h => by
    simp only [coAll] at h
    split at h
    · rename_i f hf
      obtain ⟨S', β', hm'⟩ := coStep_ok hm hf
      exact coAll_ok r f fr' S' β' hm' h
    · cases h

theorem MemA.co {cs : List Co} {fr' : Fr} (hm : MemA e [] N fr a w) (h : coAll cs fr = some fr') : MemA e [] N fr' a w :=
  let ⟨h1, h2, S, β, hm⟩ := hm
  ⟨h1, h2, coAll_ok cs fr fr' S β hm h⟩

theorem memG_nil (hm : MemA e [] N fr a w) : MemG e [] N fr a w :=
  ⟨hm.1, hm.2.1, fun s l b h => by simp [lookG] at h, hm.2.2⟩

/-- A region without a draw. -/
theorem wp_runR {id : Nat} {ops : Array Oper} {hs : List (Nat × Hint)} {keep : List Nat} {cs : List Co} {fr' : Fr} {obs : List Prop} {Q : Exit → Act → World → Prop} (h : runR P N ops hs keep cs fr = some (fr', obs)) (ho : AllP obs) (hm : MemA e [] N fr a w)
    (hQ : ∀ a' w', MemA e [] N fr' a' w' → Q .normal a' w') : (Code.region id ops false).wp P Q a w := by
  unfold runR at h
  split at h
  case h_2 => cases h
  rename_i f l hl
  split at h
  case h_2 => cases h
  rename_i f' hk
  split at h
  case h_2 => cases h
  rename_i f'' hc
  simp only [Option.some.injEq, Prod.mk.injEq] at h
  obtain ⟨rfl, rfl⟩ := h
  refine wp_region (runL_ok _ [] fr f l a w hl ho (memG_nil hm) fun G' a' w' hm' => hQ a' w' ?_)
  obtain ⟨h1, h2, _, S, β, hm'⟩ := hm'
  exact ⟨h1, h2, coAll_ok cs f' f'' S β (coKeep hm' hk) hc⟩

/-- From a frame, a piece of code does what Q says. -/
def T (P : Program) (e : Env) (N : Nat) (c : Code) (fr : Fr) (Q : Exit → Act → World → Prop) : Prop := ∀ a w, MemA e [] N fr a w → c.wp P Q a w

/-- The post that says: here the frame is fr. -/
def At (e : Env) (N : Nat) (fr : Fr) : Act → World → Prop := fun a w => MemA e [] N fr a w

variable {Q : Exit → Act → World → Prop}

theorem T_region {id : Nat} {ops : Array Oper} (hs : List (Nat × Hint)) (keep : List Nat) (cs : List Co) (fr' : Fr) (obs : List (Nat × Prop)) (n : Nat) {k : Code} (h : runR P N ops hs keep cs fr = some (fr', owed obs n)) (ho : Owed obs) (hk : T P e N k fr' Q) : T P e N (.seq (.region id ops false) k) fr Q :=
  fun _ _ hm => wp_seq (wp_runR h ho.all hm fun a' w' hm' => hk a' w' hm')

theorem T_region_end {id : Nat} {ops : Array Oper} (hs : List (Nat × Hint)) (keep : List Nat) (cs : List Co) (fr' : Fr) (obs : List (Nat × Prop)) (n : Nat) (h : runR P N ops hs keep cs fr = some (fr', owed obs n)) (ho : Owed obs) (hk : ∀ a w, MemA e [] N fr' a w → Q .normal a w) : T P e N (.region id ops false) fr Q :=
  fun _ _ hm => wp_runR h ho.all hm hk

theorem T_seq {x y : Code} (fr1 : Fr) (h : T P e N x fr (Exit.then (At e N fr1) Q)) (hk : T P e N y fr1 Q) : T P e N (.seq x y) fr Q :=
  fun a w hm => wp_seq (wp_mono (h a w hm) fun ex a' w' hq => by
    cases ex <;> first | exact hk a' w' hq | exact hq)

/-- The first of two pieces, the second behind it. -/
theorem T_seqk {x z : Code} (h : T P e N x fr (Exit.then (fun a w => z.wp P Q a w) Q)) : T P e N (.seq x z) fr Q := fun a w hm => wp_seq (h a w hm)

theorem T_cond {c : Operand} {x y : Code} (b : Bool) (hc : oval N [] fr c = .d (.v (.bool b))) (ht : b = true → T P e N x fr Q) (hf : b = false → T P e N y fr Q) : T P e N (.cond c x y) fr Q := by
  intro a w hm
  obtain ⟨h1, h2, S, β, hm'⟩ := hm
  have hv := oval_ok hm' h2 [] rfl c
  rw [hc] at hv
  exact wp_cond_split hv.1 (fun h => ht h a w ⟨h1, h2, S, β, hm'⟩) (fun h => hf h a w ⟨h1, h2, S, β, hm'⟩)

theorem T_block {id : Nat} {c : Code} (h : T P e N c fr (Exit.inBlock id Q)) : T P e N (.block id c) fr Q := fun a w hm => wp_block (h a w hm)
theorem T_exit {id : Nat} (h : ∀ a w, MemA e [] N fr a w → Q (.exit id) a w) : T P e N (.exit id) fr Q := fun a w hm => wp_exit (h a w hm)
theorem T_ret (h : ∀ a w, MemA e [] N fr a w → Q .ret a w) : T P e N .ret fr Q := fun a w hm => wp_ret (h a w hm)
theorem T_skip (h : ∀ a w, MemA e [] N fr a w → Q .normal a w) : T P e N .skip fr Q := fun a w hm => wp_skip (h a w hm)
theorem T_co {c : Code} (cs : List Co) (fr' : Fr) (h : coAll cs fr = some fr') (hk : T P e N c fr' Q) : T P e N c fr Q := fun a w hm => hk a w (hm.co h)

/-- A LOOP: the frame at its head is I i, for an index i; each round goes to an index with a smaller measure. -/
theorem T_loop {ι : Type} (I : ι → Fr) (pre : ι → Prop) (μ : ι → Nat) {body : Code} (round : ∀ i, pre i → T P e N body (I i) (Exit.then (fun a w => ∃ j, pre j ∧ μ j < μ i ∧ MemA e [] N (I j) a w) Q)) (i0 : ι) (h0 : pre i0) : T P e N (.loop body) (I i0) Q := by
  intro a w hm b k cs
  have key : ∀ n i a w, μ i = n → pre i → MemA e [] N (I i) a w →
      ∃ ex a' w', Q ex a' w' ∧ Arrives P (lone (b.at a (.code body :: .inLoop body :: k)) cs w) b k cs ex a' w' := by
    intro n
    induction n using Nat.strongRecOn with
    | _ n ih =>
      intro i a w hn hp hI
      obtain ⟨ex, a₁, w₁, hq, harr⟩ := round i hp a w hI b (.inLoop body :: k) cs
      cases ex with
      | normal =>
        obtain ⟨j, hj, hlt, hI₁⟩ := hq
        obtain ⟨e₂, a₂, w₂, hq₂, harr₂⟩ := ih (μ j) (hn ▸ hlt) j a₁ w₁ rfl hj hI₁
        exact ⟨e₂, a₂, w₂, hq₂, .of_steps (Steps.trans harr (.one step_inLoop)) harr₂⟩
      | exit id => exact ⟨_, a₁, w₁, hq, .pass (x := .inLoop body) rfl (fun _ _ => .inl (by simp)) harr⟩
      | goto l => exact ⟨_, a₁, w₁, hq, .pass (x := .inLoop body) rfl (fun _ _ => .inl (by simp)) harr⟩
      | ret => exact ⟨_, a₁, w₁, hq, .pass (x := .inLoop body) rfl (fun _ _ => .inl (by simp)) harr⟩
      | panic ch => exact ⟨_, a₁, w₁, hq, .pass (x := .inLoop body) rfl (fun _ _ => .inl (by simp)) harr⟩
      | outgrown => exact ⟨_, a₁, w₁, hq, .pass (x := .inLoop body) rfl (fun _ _ => .inl (by simp)) harr⟩
  obtain ⟨ex, a', w', hq, harr⟩ := key _ i0 a w rfl h0 hm
  exact ⟨ex, a', w', hq, .of_steps (.one step_loop) harr⟩

end
end Go.Vm
