/-
  THE V-MACHINE, part 27: nil as an argument.
-/
import Derived.Test.YtnjggcljonbleaaDoorVmDraw
namespace Go.Vm
section
variable {P : Program} {e : Env} {G : GEnv} {S : Nat → Prop} {β : Path → Value} {fr : Fr} {vals : Nat → Option Value} {w : World}

theorem fget_finFr_set {args : List AV} {vin : List AV} {i x : Nat} (v : AV) (h : x ≠ i) : fget (finFr (args.set i v) vin) x = fget (finFr args vin) x := by
  simp only [finFr, fget_argFr, List.length_set]
  split
  · rename_i hx
    simp only [Nat.sub_zero, List.getD_eq_getElem?_getD]
    rw [List.getElem?_set_ne (Ne.symm h)]
  · rfl

theorem fget_finFr_set_self {args : List AV} {vin : List AV} {i : Nat} (v : AV) (h : i < args.length) : fget (finFr (args.set i v) vin) i = v := by
  rw [fget_finFr_arg (by simpa using h), List.getD_eq_getElem?_getD]
  simp [h]

theorem nilAt (hm : Mem e G S β fr vals w) {i : Nat} (h : fget fr i = .d (.v (.slice none 0 0))) : ∀ u, vals i = some u → u = .slice none 0 0 := by
  obtain ⟨u, hr, hu⟩ := hm.rel i
  intro u' hu'
  rw [hu u' hu']
  rw [h] at hr
  exact hr.1

theorem ACall.nilArg {k : Nat} {args args' : List AV} {vin vout : List AV} {res : AV} {sz : Nat} (i : Nat) (h : ACall P k args vin res vout) (hi : args[i]? = some (.d (.sl sz []))) (he : args' = args.set i (.d (.v (.slice none 0 0)))) : ACall P k args' vin res vout := by
  obtain ⟨hc, hk⟩ := h
  subst he
  have hil : i < args.length := (List.getElem?_eq_some_iff.1 hi).1
  have hargs : fget (finFr args vin) i = .d (.sl sz []) := by
    rw [fget_finFr_arg hil, List.getD_eq_getElem?_getD, hi]
    rfl
  refine ⟨hc, fun w S β us hus hm => ?_⟩
  have hf := fget_finFr_set_self (vin := vin) (.d (.v (.slice none 0 0))) hil
  have hO : ownedBy (finFr args vin) β = ownedBy (finFr (args.set i (.d (.v (.slice none 0 0)))) vin) β := by
    funext b
    refine propext ⟨fun ⟨x, j, h1, h2⟩ => ?_, fun ⟨x, j, h1, h2⟩ => ?_⟩
    · by_cases hx : x = i
      · subst hx
        rw [hargs] at h1
        cases j <;> simp [AV.ownsAt, AV.isOwn] at h1
      · exact ⟨x, j, by rw [fget_finFr_set _ hx]; exact h1, h2⟩
    · by_cases hx : x = i
      · subst hx
        rw [hf] at h1
        cases j <;> simp [AV.ownsAt, AV.isOwn] at h1
      · exact ⟨x, j, by rw [fget_finFr_set _ hx] at h1; exact h1, h2⟩
  have hm2 := hm.weaken i (.d (.sl sz [])) (fun u hr => by
    rw [hf] at hr
    have hr' : u = .slice none 0 0 := hr.1
    subst hr'
    refine (flat_slot rfl).2 ?_
    simp only [RFlat, RD]
    exact .inl (by simp)) (fun j hj => by cases j <;> simp [AV.ownsAt, AV.isOwn] at hj) (fun l a h => by cases h)
  have hm3 := hm2.congr (fr' := finFr args vin) fun x => by
    by_cases hx : x = i
    · subst hx; rw [fget_cons_self, hargs]
    · rw [fget_cons_ne _ _ (Ne.symm hx), fget_finFr_set _ hx]
  rw [← hO] at hm3
  have := hk w S β us (by simpa using hus) hm3
  rw [hO] at this
  exact this

theorem ACall.nilArgOwn {k : Nat} {args args' : List AV} {vin vout : List AV} {res : AV} {κ : TypeId} {sz : Nat} (i : Nat) (h : ACall P k args vin res vout) (hi : args[i]? = some (.own κ sz [])) (he : args' = args.set i (.d (.v (.slice none 0 0)))) (hv : i < virtBase) (hp : purge i (finFr args' vin) = finFr args' vin) : ACall P k args' vin res vout := by
  obtain ⟨hc, hk⟩ := h
  subst he
  have hil : i < args.length := (List.getElem?_eq_some_iff.1 hi).1
  have hargs : fget (finFr args vin) i = .own κ sz [] := by
    rw [fget_finFr_arg hil, List.getD_eq_getElem?_getD, hi]
    rfl
  refine ⟨hc, fun w S β us hus hm => ?_⟩
  have hf := fget_finFr_set_self (vin := vin) (.d (.v (.slice none 0 0))) hil
  obtain ⟨β', hβ, hm2⟩ : ∃ β' : Path → Value, (β' = fun p => if p.1 = i then .slice none 0 0 else β p) ∧ Mem ⟨w, ownedBy (finFr (args.set i (.d (.v (.slice none 0 0)))) vin) β, S, lentAt β vin.length⟩ [] S β' (setA i (.own κ sz []) (finFr (args.set i (.d (.v (.slice none 0 0)))) vin)) (fun x => (us[x]?).or (lentAt β vin.length x)) w := by
    refine ⟨_, rfl, ?_⟩
    have h1 := hm.make2 i (.own κ sz []) (.slice none 0 0) (fun _ => .slice none 0 0) w (fun x => (us[x]?).or (lentAt β vin.length x)) (fun _ _ => rfl) (nilAt hm hf) ((flat_slot rfl).2 ⟨by simp, .inl ⟨rfl, rfl⟩⟩) (fun l a h => by cases h) (by
      intro i b _ hb
      simp [blk] at hb) (by
      intro i j b _ _ hb
      simp [blk] at hb) (fun b _ => .inl rfl) (Nat.le_refl _) rfl rfl rfl
    exact h1
  have hO : ownedBy (finFr args vin) β' = ownedBy (finFr (args.set i (.d (.v (.slice none 0 0)))) vin) β := by
    funext b
    refine propext ⟨fun ⟨x, j, h1, h2⟩ => ?_, fun ⟨x, j, h1, h2⟩ => ?_⟩
    · by_cases hx : x = i
      · subst hx
        rw [hβ] at h2
        simp [blk] at h2
      · exact ⟨x, j, by rw [fget_finFr_set _ hx]; exact h1, by rw [hβ] at h2; simpa [hx] using h2⟩
    · by_cases hx : x = i
      · subst hx
        rw [hf] at h1
        cases j <;> simp [AV.ownsAt, AV.isOwn] at h1
      · exact ⟨x, j, by rw [fget_finFr_set _ hx] at h1; exact h1, by rw [hβ]; simpa [hx] using h2⟩
  have hL : lentAt β' vin.length = lentAt β vin.length := by
    funext x
    simp only [lentAt]
    split
    · rename_i hx
      rw [hβ]
      have : x ≠ i := by omega
      simp [this]
    · rfl
  have hm3 := hm2.congr (fr' := finFr args vin) fun x => by
    by_cases hx : x = i
    · subst hx; rw [fget_setA_self, hargs]
    · rw [setA, fget_cons_ne _ _ (Ne.symm hx), hp, fget_finFr_set _ hx]
  rw [← hO, ← hL] at hm3
  have := hk w S β' us (by simpa using hus) hm3
  rw [hO, hL] at this
  exact this

/-- What is returned as an owner can be taken as data. -/
theorem ACall.thawRes {k : Nat} {args : List AV} {vin vout : List AV} {κ : TypeId} {sz : Nat} {es : List (List Dat)} (h : ACall P k args vin (.own κ sz es) vout) : ACall P k args vin (.d (.sl sz es)) vout := by
  refine ⟨h.1, fun w S β us hus hm => (h.2 w S β us hus hm).mono fun e w' ⟨u, S', β', he, hm'⟩ => ?_⟩
  have hf : fget ((resSlot, AV.own κ sz es) :: boxFr virtBase vout) resSlot = .own κ sz es := fget_cons_self _ _ _
  have hfz := hm'.freeze (p := (resSlot, 0)) (sz := sz) (es := es) hf
  refine ⟨u, _, β', he, (hfz.weaken resSlot (.d (.sl sz es)) (fun v hv => ?_) (fun j hj => by cases j <;> simp [AV.ownsAt, AV.isOwn] at hj) (fun l a hh => by cases hh)).congr fun x => ?_⟩
  · rw [show fget (pset ((resSlot, AV.own κ sz es) :: boxFr virtBase vout) (resSlot, 0) (.fz sz es)) resSlot = .fz sz es from by simp [pset, fget_cons_self]] at hv
    exact (flat_slot rfl).2 ((flat_slot rfl).1 hv).2
  · by_cases hx : x = resSlot
    · subst hx; rw [fget_cons_self, fget_cons_self]
    · rw [fget_cons_ne _ _ (Ne.symm hx), fget_cons_ne _ _ (Ne.symm hx)]
      simp only [pset]
      rw [fget_cons_ne _ _ (Ne.symm hx), fget_cons_ne _ _ (Ne.symm hx)]
end
end Go.Vm
