/-
  THE V-MACHINE, part 28: from a contract to a given row.
-/
import Derived.Test.YtnjggcljonbleaaDoorVmNil
import Derived.ProofKit
namespace Go.Vm
open Go.ChangeShapes

def AV.isData : AV → Bool
  | .d _ => true
  | .agg _ => true
  | _ => false

/-- Whatever W had, W' has. -/
structure KeptAll (W W' : World) : Prop where
  os : W'.os = W.os
  output : W'.output = W.output
  size : W.heap.size ≤ W'.heap.size
  heap : ∀ b, b < W.heap.size → W'.heap[b]? = W.heap[b]?

theorem KeptAll.but {W W' : World} (h : KeptAll W W') (may : MemPlace → Prop) : W.keptBut W' may := by
  refine ⟨h.os, h.output, fun i hi => ?_⟩
  rw [h.heap i hi]
  cases W.heap[i]? with
  | none => trivial
  | some o => cases o <;> simp
theorem KeptAll.frozen {W W' : World} (h : KeptAll W W') (a : Addr) (ha : a.block < W.heap.size) : W'.frozen? a = W.frozen? a := by
  simp only [World.frozen?, h.heap _ ha]

def allS (W : World) : Nat → Prop := fun b => b < W.heap.size

theorem start_mem {W : World} {args : List AV} {us : List Value} (hlen : us.length = args.length) (hd : args.all AV.isData = true) (hr : All2 (fun _ a u => RFlat (allS W) W (fun _ => .bool false) (0, 0) a u) 0 args us) :
    Mem ⟨W, ownedBy (finFr args []) (fun _ => .bool false), allS W, lentAt (fun _ => .bool false) ([] : List AV).length⟩ [] (allS W) (fun _ => .bool false) (finFr args []) (fun x => (us[x]?).or (lentAt (fun _ => .bool false) ([] : List AV).length x)) W := by
  have hat : ∀ x, (∃ a u, fget (finFr args []) x = a ∧ a.isData = true ∧ us[x]? = some u ∧ RFlat (allS W) W (fun _ => .bool false) (0, 0) a u) ∨ (fget (finFr args []) x = .junk ∧ us[x]? = none) := by
    intro x
    rcases Nat.lt_or_ge x args.length with h | h
    · left
      obtain ⟨u, hu, hru⟩ := All2.get hr x args[x] (by simp [h])
      refine ⟨args[x], u, ?_, ?_, by simpa using hu, hru⟩
      · rw [fget_finFr_arg h, List.getD_eq_getElem?_getD]
        simp [h]
      · exact (List.all_eq_true.1 hd) _ (List.getElem_mem h)
    · right
      refine ⟨?_, by simp; omega⟩
      rw [finFr, fget_argFr, if_neg (by omega)]
      rfl
  have hown : ∀ x i, (fget (finFr args []) x).ownsAt i = false := by
    intro x i
    rcases hat x with ⟨a, u, h1, h2, _, _⟩ | ⟨h1, _⟩
    · rw [h1]
      cases a <;> first | (cases i <;> rfl) | (simp [AV.isData] at h2)
    · rw [h1]
      cases i <;> rfl
  have hlent : ∀ x, lentAt (fun _ => .bool false) ([] : List AV).length x = none := by
    intro x
    simp only [lentAt, List.length_nil, Nat.add_zero]
    rw [if_neg (by omega)]
  refine ⟨fun x => ?_, fun x l a h => ?_, fun x i y j b h => ?_, fun x i b h => ?_, fun b hb => ⟨hb, .inl hb⟩, fun _ h => h, fun _ _ _ => rfl, rfl, rfl, rfl, Nat.le_refl _⟩
  · rcases hat x with ⟨a, u, h1, h2, h3, h4⟩ | ⟨h1, h2⟩
    · refine ⟨u, ?_, fun u' hu' => by simp [h3] at hu'; exact hu'.symm⟩
      rw [h1]
      cases a <;> first | exact (flat_slot rfl).2 h4 | (simp [AV.isData] at h2)
    · refine ⟨undef, ?_, fun u' hu' => by
        simp only [h2, hlent] at hu'
        cases hu'⟩
      rw [h1]
      exact (flat_slot rfl).2 trivial
  · rcases hat x with ⟨a', u, h1, h2, _, _⟩ | ⟨h1, _⟩
    · rw [h] at h1
      subst h1
      simp [AV.isData] at h2
    · rw [h] at h1
      cases h1
  · rw [hown] at h
    cases h
  · rw [hown] at h
    cases h

/-- A law that is true of data. -/
theorem ACall.law {P : Program} {k : Nat} {args : List AV} {us : List Value} {W : World} {b : Bool} (h : ACall P k args [] (.d (.v (.bool b))) []) (hlen : us.length = args.length) (hd : args.all AV.isData = true) (hr : All2 (fun _ a u => RFlat (allS W) W (fun _ => .bool false) (0, 0) a u) 0 args us) :
    Calls P k us.toArray W fun e W' => e = .returned (.bool b) ∧ KeptAll W W' := by
  refine (h.2 W (allS W) (fun _ => .bool false) us hlen (start_mem hlen hd hr)).mono fun e W' ⟨u, S', β', he, hm⟩ => ?_
  obtain ⟨v, hv1, hv2⟩ := hm.rel resSlot
  have hu := hv2 u (by simp)
  subst hu
  rw [show fget ((resSlot, AV.d (.v (.bool b))) :: boxFr virtBase []) resSlot = .d (.v (.bool b)) from fget_cons_self _ _ _] at hv1
  have hb : u = .bool b := hv1.1
  refine ⟨by rw [he, hb], hm.os, hm.output, hm.size, fun i hi => hm.old i hi ?_⟩
  rintro ⟨x, j, hx, _⟩
  have := (start_mem hlen hd hr).fre x j 0 hx
  have hx' : (fget (finFr args []) x).ownsAt j = false := by
    rcases Nat.lt_or_ge x args.length with h | h
    · have hdx := (List.all_eq_true.1 hd) _ (List.getElem_mem h)
      rw [fget_finFr_arg h, List.getD_eq_getElem?_getD]
      simp only [List.getElem?_eq_getElem h, Option.getD_some]
      cases hc : args[x] <;> rw [hc] at hdx <;> first | (cases j <;> rfl) | (simp [AV.isData] at hdx)
    · rw [finFr, fget_argFr, if_neg (by omega)]
      cases j <;> rfl
  rw [hx'] at hx
  cases hx

section
variable {H : Type} {enc : TypeId × Value → H} {P : Program}

/-- The given post, where nothing that was there has turned. -/
theorem post_kept {f : Func} {s : ChangeSpec} {apart fresh handsOn again : Bool} {W W' : World} {args : Array Value} {v : Value} {ds gs : List (DataW H)} {before pa pv : List MemPlace}
    (hW : DataW.Whole enc P f.params.toList s.vars apart W args.toList ds gs before) (hk : KeptAll W W')
    (hres : ∀ (b : Nat) (sp : Nat → Bool) (hd : Bool), DataW.TrodAll enc P W' b sp hd f.resultTypes.toList (v.resultList f.resultTypes.size) (s.fn H (ds ++ gs)).results [])
    (hargs : ∀ sp : Nat → Bool, (∀ p ∈ before, sp p.block = true) → DataW.TrodAll enc P W' 0 sp true f.params.toList args.toList (s.fn H (ds ++ gs)).args pa)
    (hvars : ∀ sp : Nat → Bool, (∀ p ∈ before, sp p.block = true) → DataW.TrodVars enc P W' sp s.vars (s.fn H (ds ++ gs)).vars pv)
    (hps : before = pa ++ pv)
    (hok : ∀ (j : Nat) (t : TypeId) (r : Value), f.resultTypes[j]? = some t → (v.resultList f.resultTypes.size)[j]? = some r → Value.okWide P W' .any 0 t r) :
    s.post enc P f apart fresh handsOn again W args v W' := by
  have hlt := hW.lt
  refine ⟨ds, gs, before, [], pa, pv, hW, hres _ _ _, hargs _ (fun p hp => by simpa using hlt p hp), hvars _ (fun p hp => by simpa using hlt p hp), hk.but _, fun _ => ?_⟩
  obtain ⟨_, _, _, _, _, hz, hn⟩ := hW
  refine ⟨hok, _, _, ([] ++ pa) ++ pv, ⟨[] ++ pa, pv, trodAll_append (hargs _ (fun _ _ => rfl)) (hres _ _ _), hvars _ (fun _ _ => rfl), rfl, ?_, ?_⟩, ?_⟩
  · intro b off hp
    have hb : MemPlace.cell b off ∈ before := by rw [hps]; simpa using hp
    rw [hk.frozen _ (hlt _ hb)]
    exact hz b off hb
  · intro ha
    have := hn ha
    rw [hps] at this
    simpa using this
  · intro p hp _
    rw [hps]
    simpa using hp
end
end Go.Vm
