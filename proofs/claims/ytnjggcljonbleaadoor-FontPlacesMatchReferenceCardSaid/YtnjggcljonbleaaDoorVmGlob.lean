/-
  THE V-MACHINE, part 35: a law that reads a package's variable: from its contract to a given row.
-/
import Derived.Test.YtnjggcljonbleaaDoorVmOpen
import Derived.LaidMore
import Derived.MakeChecks
import Derived.OpenShut
namespace Go.Vm
open Go.ChangeShapes Go.RowKit Go.WideShapes Go.ChangeAt Go.WideMaps Go.WideElems

def gb (k : Nat) : Path → Value := fun p => if p.1 = virtBase then .pointer (some ⟨k, 0, none⟩) else .bool false

theorem fget_glo {args : List AV} {k : Nat} {cs : List Dat} (_hn : args.length ≤ virtBase) (x : Nat) : fget (finFr args [.glo k cs]) x = if x < args.length then args.getD x .junk else if x = virtBase then .glo k cs else .junk := by
  rw [finFr, fget_argFr, Nat.zero_add]
  by_cases h : x < args.length
  · rw [if_pos ⟨Nat.zero_le _, h⟩, if_pos h, Nat.sub_zero]
  · rw [if_neg (fun h' => h h'.2), if_neg h]
    simp only [boxFr, fget_cons]
    by_cases hx : x = virtBase
    · subst hx; simp
    · rw [if_neg hx, if_neg (fun h => hx h.symm)]
      rfl

theorem start_memG {W : World} {args : List AV} {us : List Value} {k : Nat} {cs : List Dat} (hlen : us.length = args.length) (hn : args.length ≤ virtBase) (hd : args.all AV.isData = true) (hr : All2 (fun _ a u => RFlat (allS W) W (fun _ => .bool false) (0, 0) a u) 0 args us)
    (hg : RD (allS W) W (.pt cs) (.pointer (some ⟨k, 0, none⟩))) :
    Mem ⟨W, ownedBy (finFr args [.glo k cs]) (gb k), allS W, lentAt (gb k) ([.glo k cs] : List AV).length⟩ [] (allS W) (gb k) (finFr args [.glo k cs]) (fun x => (us[x]?).or (lentAt (gb k) ([.glo k cs] : List AV).length x)) W := by
  have hlent : ∀ x, lentAt (gb k) ([.glo k cs] : List AV).length x = if x = virtBase then some (.pointer (some ⟨k, 0, none⟩)) else none := by
    intro x
    simp only [lentAt, List.length_cons, List.length_nil, gb]
    by_cases h : x = virtBase
    · subst h; simp
    · have h2 : ¬ (virtBase ≤ x ∧ x < virtBase + (0 + 1)) := by omega
      rw [if_neg h2, if_neg h]
  have hat : ∀ x, (∃ a u, fget (finFr args [.glo k cs]) x = a ∧ a.isData = true ∧ us[x]? = some u ∧ RFlat (allS W) W (fun _ => .bool false) (0, 0) a u) ∨
      (x = virtBase ∧ fget (finFr args [.glo k cs]) x = .glo k cs ∧ us[x]? = none) ∨ (x ≠ virtBase ∧ fget (finFr args [.glo k cs]) x = .junk ∧ us[x]? = none) := by
    intro x
    rw [fget_glo hn]
    rcases Nat.lt_or_ge x args.length with h | h
    · left
      obtain ⟨u, hu, hru⟩ := All2.get hr x args[x] (by simp [h])
      refine ⟨args[x], u, ?_, ?_, by simpa using hu, hru⟩
      · rw [if_pos h, List.getD_eq_getElem?_getD]
        simp [h]
      · exact (List.all_eq_true.1 hd) _ (List.getElem_mem h)
    · right
      rw [if_neg (by omega)]
      have hu : us[x]? = none := by simp; omega
      by_cases hx : x = virtBase
      · exact .inl ⟨hx, by rw [if_pos hx], hu⟩
      · exact .inr ⟨hx, by rw [if_neg hx], hu⟩
  have hown : ∀ x i, (fget (finFr args [.glo k cs]) x).ownsAt i = false := by
    intro x i
    rcases hat x with ⟨a, u, h1, h2, _, _⟩ | ⟨_, h1, _⟩ | ⟨_, h1, _⟩
    · rw [h1]
      cases a <;> first | (cases i <;> rfl) | (simp [AV.isData] at h2)
    · rw [h1]
      cases i <;> rfl
    · rw [h1]
      cases i <;> rfl
  refine ⟨fun x => ?_, fun x l a h => ?_, fun x i y j b h => ?_, fun x i b h => ?_, fun b hb => ⟨hb, .inl hb⟩, fun _ h => h, fun _ _ _ => rfl, rfl, rfl, rfl, Nat.le_refl _⟩
  · rcases hat x with ⟨a, u, h1, h2, h3, h4⟩ | ⟨hx, h1, h2⟩ | ⟨hx, h1, h2⟩
    · refine ⟨u, ?_, fun u' hu' => by simp [h3] at hu'; exact hu'.symm⟩
      rw [h1]
      cases a with
      | d y => exact (flat_slot rfl).2 h4
      | agg y => exact (flat_slot rfl).2 h4
      | _ => simp [AV.isData] at h2
    · refine ⟨.pointer (some ⟨k, 0, none⟩), ?_, fun u' hu' => by
        simp only [h2, hlent, if_pos hx] at hu'
        simpa using hu'.symm⟩
      rw [h1]
      refine (flat_slot rfl).2 ⟨?_, rfl, hg⟩
      simp [gb, hx]
    · refine ⟨undef, ?_, fun u' hu' => by
        simp only [h2, hlent, if_neg hx] at hu'
        cases hu'⟩
      rw [h1]
      exact (flat_slot rfl).2 trivial
  · rcases hat x with ⟨a', u, h1, h2, _, _⟩ | ⟨_, h1, _⟩ | ⟨_, h1, _⟩
    · rw [h] at h1
      subst h1
      simp [AV.isData] at h2
    · rw [h] at h1
      cases h1
    · rw [h] at h1
      cases h1
  · rw [hown] at h
    cases h
  · rw [hown] at h
    cases h

/-- A law that is true of data and of a package's variable. -/
theorem ACall.lawG {P : Program} {k g : Nat} {cs : List Dat} {args : List AV} {us : List Value} {W : World} {b : Bool} (h : ACall P k args [.glo g cs] (.d (.v (.bool b))) [.glo g cs]) (hlen : us.length = args.length) (hn : args.length ≤ virtBase) (hd : args.all AV.isData = true)
    (hr : All2 (fun _ a u => RFlat (allS W) W (fun _ => .bool false) (0, 0) a u) 0 args us) (hg : RD (allS W) W (.pt cs) (.pointer (some ⟨g, 0, none⟩))) :
    Calls P k us.toArray W fun e W' => e = .returned (.bool b) ∧ KeptAll W W' := by
  refine (h.2 W (allS W) (gb g) us hlen (start_memG hlen hn hd hr hg)).mono fun e W' ⟨u, S', β', he, hm⟩ => ?_
  obtain ⟨v, hv1, hv2⟩ := hm.rel resSlot
  have hu := hv2 u (by simp)
  subst hu
  rw [show fget ((resSlot, AV.d (.v (.bool b))) :: boxFr virtBase [.glo g cs]) resSlot = .d (.v (.bool b)) from fget_cons_self _ _ _] at hv1
  have hb : u = .bool b := hv1.1
  refine ⟨by rw [he, hb], hm.os, hm.output, hm.size, fun i hi => hm.old i hi ?_⟩
  rintro ⟨x, j, hx, _⟩
  have hx' : (fget (finFr args [.glo g cs]) x).ownsAt j = false := by
    rw [fget_glo hn]
    split
    · rename_i h
      have hdx := (List.all_eq_true.1 hd) _ (List.getElem_mem h)
      rw [List.getD_eq_getElem?_getD]
      simp only [List.getElem?_eq_getElem h, Option.getD_some]
      cases hc : args[x] <;> rw [hc] at hdx <;> first | (cases j <;> rfl) | (simp [AV.isData] at hdx)
    · split <;> (cases j <;> rfl)
  rw [hx'] at hx
  cases hx

/-- The contract of a given row, from a law over data and a package's variable. -/
theorem law_contractG {β : Type} {H : Type} {enc : TypeId × Value → H} {P : Program} {k g : Nat} {cs : List Dat} {f : Func} {s : ChangeSpec} {av : β → List AV} {Q : β → Prop} {r : Bool} {tb : TypeId} {ts : List TypeId} {apart fresh handsOn : Bool}
    (hts : f.params.toList = ts) (hop : OpensArgs P ts av Q) (hav : ∀ b, (av b).length ≤ virtBase) (hlaw : ∀ b, Q b → ACall P k (av b) [.glo g cs] (.d (.v (.bool r))) [.glo g cs])
    (hlaid : laidOutB P = true) (hread : (ts.all fun t => P.readableRec t && decide (t < P.types.size)) = true) (hvars : s.vars = []) (hres : f.resultTypes = #[tb]) (htb : P.underlying tb = some .bool)
    (hspec : ∀ ds : List (DataW H), ds.length = ts.length → s.fn H (ds ++ []) = { results := [.lit (.bool r)], args := ds })
    (W : World) (base : Nat) (args : Array Value) (ds gs : List (DataW H)) (before : List MemPlace) (hg : RD (allS W) W (.pt cs) (.pointer (some ⟨g, 0, none⟩)))
    (hval : ∀ (j : Nat) t v, f.params[j]? = some t → args[j]? = some v → Value.okWide P W .any base t v)
    (hW : DataW.Whole enc P f.params.toList s.vars apart W args.toList ds gs before) :
    Calls P k args W fun e W' => ∃ v, e = .returned v ∧ s.post enc P f apart fresh handsOn false W args v W' := by
  subst hts
  have hW' := hW
  have hlt := hW.lt
  obtain ⟨p, q, hA, hV, rfl, hfz, hnd⟩ := hW
  rw [hvars] at hV
  obtain ⟨rfl, rfl⟩ : gs = [] ∧ q = [] := by
    cases gs with
    | nil => exact ⟨rfl, hV⟩
    | cons => exact hV.elim
  obtain ⟨b, hQ, hvl, hda, hr⟩ := hop H enc W base args.toList ds p (fun j t v h1 h2 => hval j t v (by simpa using h1) (by simpa using h2)) hA
  have hdl : ∀ {ts : List TypeId} {vs : List Value} {ds : List (DataW H)} {ps : List MemPlace}, DataW.TrodAll enc P W 0 (fun _ => true) true ts vs ds ps → ds.length = ts.length := by
    intro ts
    induction ts with
    | nil => intro vs ds ps h; cases vs <;> cases ds <;> first | rfl | exact h.elim
    | cons t ts ih =>
      intro vs ds ps h
      cases vs with
      | nil => exact h.elim
      | cons v vs =>
        cases ds with
        | nil => exact h.elim
        | cons d ds =>
          obtain ⟨_, _, _, h2, _⟩ := h
          simp [ih h2]
  have hsp := hspec ds (hdl hA)
  have hc := (hlaw b hQ).lawG (W := W) (us := args.toList) hvl (hav b) hda (hr 0) hg
  rw [show args.toList.toArray = args from by simp] at hc
  refine hc.mono fun e W' ⟨he, hk⟩ => ⟨_, he, ?_⟩
  refine post_kept (pa := p) (pv := []) hW' hk (fun _ _ _ => ?_) (fun sp hb => ?_) (fun sp hb => ?_) (by simp) ?_
  · rw [hsp, hres]
    exact trodAll_mk1 (shut_bool htb r)
  · rw [hsp]
    exact TrodAll_kept hlaid hk sp hread hA (fun x hx => hlt x (by simp [hx])) (fun x hx => hb x (by simp [hx]))
  · rw [hsp, hvars]
    rfl
  · exact ok_one hres rfl (okWide_bool_mk htb r)

/-- What a listed array of ints says of the world. -/
theorem laid_ints {P : Program} {W : World} {nm : String} {g : Nat} {t e : TypeId} {n : Nat} {k : IntKind} {l : List Int} (hg : P.globalNamed nm = some g) (hty : (P.globals[g]?).map (·.type) = some t) (ht : P.underlying t = some (.array n e)) (he : P.underlying e = some (.int k)) (h1 : P.cellsOf e = 1) (hn : l.length = n)
    (h : laidMet P [(nm, .agg (l.map fun i => .lit (.int k i)))] W) : RD (allS W) W (.pt (l.flatMap (cI k))) (.pointer (some ⟨g, 0, none⟩)) := by
  obtain ⟨ps, ⟨g0, t0, cs0, f0, p0, q0, hg0, ht0, hv0, hd0, _, _⟩, _, _⟩ := h
  obtain rfl := Option.some.inj (hg.symm.trans hg0)
  obtain rfl := Option.some.inj (hty.symm.trans ht0)
  obtain ⟨xs, m, rfl, hx, hlen, hxl, hel⟩ := DataW.trod_array ht hd0
  simp only [Prod.mk.injEq, DataW.agg.injEq] at hx
  have hheap : ∃ E fz, W.heap[g]? = some (.cells cs0 E fz) := by
    have hv := hv0
    simp only [World.var?, hg, Option.bind_some] at hv
    split at hv
    · rename_i c E fz hh
      cases hv
      exact ⟨E, fz, hh⟩
    · cases hv
  obtain ⟨E, fz, hh⟩ := hheap
  have hfl : ∀ (l : List Int), l.flatMap (cI k) = l.map fun i => .v (.int k i) := by
    intro l
    induction l with
    | nil => rfl
    | cons x l ih => rw [List.flatMap_cons, ih]; rfl
  rw [hfl]
  unfold RD
  refine ⟨g, 0, cs0, E, fz, rfl, heap_lt hh, hh, RCs.of_get _ 0 fun j x hx' => ?_⟩
  rw [List.getElem?_map, Option.map_eq_some_iff] at hx'
  obtain ⟨i, hi, rfl⟩ := hx'
  have hjl : j < l.length := (List.getElem?_eq_some_iff.1 hi).1
  have hj := hel j (by omega)
  rw [List.getElem?_eq_getElem (by omega), h1, Nat.mul_one] at hj
  obtain ⟨a, ha1, ha2, _⟩ := DataW.trod_int he hj
  have hxj : (xs.map (·.1))[j]? = (l.map fun i => (DataW.lit (.int k i) : DataW Unit))[j]? := by rw [hx.1]
  rw [List.getElem?_map, List.getElem?_map, hi, List.getElem?_eq_getElem (show j < xs.length by omega), ha2] at hxj
  simp only [Option.map_some, Option.some.injEq, DataW.lit.injEq, Lit.int.injEq, true_and] at hxj
  subst hxj
  have hc : cs0[j]? = some (.int k a) := by
    have := congrArg (fun l : List Value => l[0]?) ha1
    simpa [List.getElem?_take, List.getElem?_drop] using this
  exact ⟨_, by simpa using hc, by unfold RD; exact ⟨rfl, rfl⟩⟩
end Go.Vm
