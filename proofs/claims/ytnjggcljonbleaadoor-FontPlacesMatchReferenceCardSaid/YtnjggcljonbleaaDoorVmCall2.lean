/-
  THE V-MACHINE, part 18: a call, from the caller's state to the caller's state.
-/
import Derived.Test.YtnjggcljonbleaaDoorVmCall
namespace Go.Vm
section
variable {P : Program} {e : Env} {G : GEnv} {S : Nat → Prop} {β : Path → Value} {fr : Fr} {w : World} {a : Act}

theorem taken_get {ts : List (Option Nat)} {i s : Nat} (h : ts[i]? = some (some s)) : s ∈ taken ts := by
  simp only [taken, List.mem_filterMap, id]
  exact ⟨some s, List.mem_of_getElem? h, rfl⟩

/-- Two places of the list of slots that are taken. -/
theorem taken_inj : ∀ {ts : List (Option Nat)}, (taken ts).Nodup → ∀ (i j s : Nat), ts[i]? = some (some s) → ts[j]? = some (some s) → i = j
  | [], _, i, j, s, h, _ => by simp at h
  | t :: ts, hn, i, j, s, hi, hj => by
    cases t with
    | none =>
      have hn' : (taken ts).Nodup := by simpa [taken] using hn
      cases i with
      | zero => simp at hi
      | succ i => cases j with
        | zero => simp at hj
        | succ j => rw [taken_inj hn' i j s (by simpa using hi) (by simpa using hj)]
    | some t =>
      have hn' : t ∉ taken ts ∧ (taken ts).Nodup := by simpa [taken] using hn
      cases i with
      | zero =>
        simp at hi
        subst hi
        cases j with
        | zero => rfl
        | succ j => exact absurd (taken_get (by simpa using hj)) hn'.1
      | succ i => cases j with
        | zero =>
          simp at hj
          subst hj
          exact absurd (taken_get (by simpa using hi)) hn'.1
        | succ j => rw [taken_inj hn'.2 i j s (by simpa using hi) (by simpa using hj)]

/-- The owners of the callee's first frame are owners of the caller's, in slots that are taken or lent. -/
structure CalleeOwn (fr fin : Fr) (β β' : Path → Value) (tk xs : List Nat) : Prop where
  src : ∀ y i, (fget fin y).ownsAt i = true → ∃ z, (fget fr z).ownsAt i = true ∧ (z ∈ tk ∨ z ∈ xs) ∧ (∀ b, blk (β' (y, i)) = some b → blk (β (z, i)) = some b)
  inj : ∀ y i z j b, (fget fin y).ownsAt i = true → (fget fin z).ownsAt j = true → blk (β' (y, i)) = some b → blk (β' (z, j)) = some b → y = z ∧ i = j

theorem fget_finFr_arg {as : List AV} {vin : List AV} {x : Nat} (h : x < as.length) : fget (finFr as vin) x = as.getD x .junk := by
  rw [finFr, fget_argFr, if_pos ⟨Nat.zero_le _, by omega⟩, Nat.sub_zero]
theorem fget_finFr_virt {as : List AV} {vin : List AV} {j : Nat} (ha : as.length < resSlot) : fget (finFr as vin) (virtBase + j) = if j < vin.length then vin.getD j .junk else .junk := by
  rw [finFr, fget_argFr, if_neg (by simp only [virtBase, resSlot] at *; omega), fget_boxFr]
  by_cases h : j < vin.length
  · rw [if_pos ⟨by omega, by omega⟩, if_pos h, Nat.add_sub_cancel_left]
  · rw [if_neg (by omega), if_neg h]
theorem fget_finFr_none {as : List AV} {vin : List AV} {x : Nat} (h1 : as.length ≤ x) (h2 : x < virtBase) : fget (finFr as vin) x = .junk := by
  rw [finFr, fget_argFr, if_neg (by omega), fget_boxFr, if_neg (by omega)]

theorem finFr_cases (as : List AV) (_vin : List AV) (x : Nat) : x < as.length ∨ (as.length ≤ x ∧ x < virtBase) ∨ ∃ j, x = virtBase + j := by
  rcases Nat.lt_or_ge x as.length with h | h
  · exact .inl h
  · rcases Nat.lt_or_ge x virtBase with h2 | h2
    · exact .inr (.inl ⟨h, h2⟩)
    · exact .inr (.inr ⟨x - virtBase, by omega⟩)

theorem calleeOwn (hm : Mem e G S β fr (valsOf e a) w) {as : List AV} {ts : List (Option Nat)} {vin : List AV} {xs : List Nat} (hlen : as.length < resSlot) (hn : (taken ts ++ xs).Nodup)
    (hargs : ∀ (j : Nat) (av : AV), as[j]? = some av → av.flat = true ∧ (av.isOwn = true → ∃ s, ts[j]? = some (some s) ∧ (fget fr s).isOwn = true ∧ (fget fr s).flat = true))
    (hvl : vin.length = xs.length) (hbox : ∀ (j x : Nat), xs[j]? = some x → (fget fr x).lendable = true ∧ vin[j]? = some (lendA (fget fr x))) :
    CalleeOwn fr (finFr as vin) β (calleeβ β ts xs) (taken ts) xs := by
  have src : ∀ y i, (fget (finFr as vin) y).ownsAt i = true → ∃ z, (fget fr z).ownsAt i = true ∧ ((y < as.length ∧ ts[y]? = some (some z) ∧ i = 0) ∨ (∃ j, y = virtBase + j ∧ xs[j]? = some z)) ∧ calleeβ β ts xs (y, i) = β (z, i) := by
    intro y i ho
    rcases finFr_cases as vin y with hy | ⟨hy1, hy2⟩ | ⟨j, rfl⟩
    · rw [fget_finFr_arg hy] at ho
      have hg : as[y]? = some (as.getD y .junk) := by simp [List.getD_eq_getElem?_getD, List.getElem?_eq_getElem hy]
      obtain ⟨h1, h2⟩ := hargs y _ hg
      obtain ⟨rfl, h3⟩ := flat_ownsAt h1 i ho
      obtain ⟨s, hs, hso, hsf⟩ := h2 h3
      refine ⟨s, ?_, .inl ⟨hy, hs, rfl⟩, calleeβ_arg (by simp only [virtBase, resSlot] at *; omega) hs 0⟩
      cases hf : fget fr s <;> simp_all [AV.ownsAt, AV.isOwn, AV.flat]
    · rw [fget_finFr_none hy1 hy2] at ho
      cases i <;> simp [AV.ownsAt, AV.isOwn] at ho
    · rw [fget_finFr_virt hlen] at ho
      split at ho
      case isFalse => cases i <;> simp [AV.ownsAt, AV.isOwn] at ho
      rename_i hj
      have hx : xs[j]? = some (xs[j]'(by omega)) := List.getElem?_eq_getElem (by omega)
      obtain ⟨hl, hv⟩ := hbox j _ hx
      refine ⟨xs[j], ?_, .inr ⟨j, rfl, hx⟩, calleeβ_virt hx i⟩
      rw [List.getD_eq_getElem?_getD, hv, Option.getD_some] at ho
      exact lendA_own hl ho
  refine ⟨fun y i ho => ?_, fun y i z j b hy hz hyb hzb => ?_⟩
  · obtain ⟨z, h1, h2, h3⟩ := src y i ho
    refine ⟨z, h1, ?_, fun b hb => by rw [← h3]; exact hb⟩
    rcases h2 with ⟨_, h, _⟩ | ⟨j, _, h⟩
    · exact .inl (taken_get h)
    · exact .inr (List.mem_of_getElem? h)
  · obtain ⟨y', hy1, hy2, hy3⟩ := src y i hy
    obtain ⟨z', hz1, hz2, hz3⟩ := src z j hz
    rw [hy3] at hyb
    rw [hz3] at hzb
    obtain ⟨h1, h2⟩ := hm.dis y' i z' j b hy1 hz1 hyb hzb
    subst h1
    subst h2
    refine ⟨?_, rfl⟩
    rw [List.nodup_append] at hn
    obtain ⟨hn1, hn2, hn3⟩ := hn
    rcases hy2 with ⟨_, hys, _⟩ | ⟨j1, rfl, hyx⟩ <;> rcases hz2 with ⟨_, hzs, _⟩ | ⟨j2, rfl, hzx⟩
    · exact taken_inj hn1 y z y' hys hzs
    · exact absurd rfl (hn3 y' (taken_get hys) y' (List.mem_of_getElem? hzx))
    · exact absurd rfl (hn3 y' (taken_get hzs) y' (List.mem_of_getElem? hyx))
    · have hl1 := (List.getElem?_eq_some_iff.1 hyx)
      have hl2 := (List.getElem?_eq_some_iff.1 hzx)
      obtain ⟨p1, q1⟩ := hl1
      obtain ⟨p2, q2⟩ := hl2
      have : j1 = j2 := (List.getElem_inj (h₀ := p1) (h₁ := p2) hn2).1 (by rw [q1, q2])
      rw [this]

/-- The callee's first state. -/
theorem calleeMem (hm : Mem e G S β fr (valsOf e a) w) {as : List AV} {ts : List (Option Nat)} {lent : List Path} {vin : List AV} {xs : List Nat} {us : List Value} (hlen : as.length < resSlot) (hn : (taken ts ++ xs).Nodup)
    (hargs : ∀ (j : Nat) (av : AV), as[j]? = some av → av.flat = true ∧ (av.isOwn = true → ∃ s, ts[j]? = some (some s) ∧ (fget fr s).isOwn = true ∧ (fget fr s).flat = true))
    (hrel : All2 (fun j av u => RFlat (calleeS S β lent) w (calleeβ β ts xs) (j, 0) av u) 0 as us)
    (hvl : vin.length = xs.length) (hbox : ∀ (j x : Nat), xs[j]? = some x → (fget fr x).lendable = true ∧ vin[j]? = some (lendA (fget fr x)))
    (hlent : ∀ p ∈ lent, p.1 ∉ taken ts ++ xs ∧ (fget fr p.1).ownsAt p.2 = true) :
    Mem ⟨w, ownedBy (finFr as vin) (calleeβ β ts xs), calleeS S β lent, lentAt (calleeβ β ts xs) vin.length⟩ [] (calleeS S β lent) (calleeβ β ts xs) (finFr as vin) (fun x => (us[x]?).or (lentAt (calleeβ β ts xs) vin.length x)) w := by
  have hco := calleeOwn hm hlen hn hargs hvl hbox
  have hSnot : ∀ b, calleeS S β lent b → ∀ z i, (fget fr z).ownsAt i = true → (z ∈ taken ts ∨ z ∈ xs) → blk (β (z, i)) ≠ some b := by
    intro b hb z i ho hz hbl
    rcases hb with h | ⟨p, hp, h⟩
    · exact (hm.fre z i b ho hbl).1 h
    · obtain ⟨h1, h2⟩ := hlent p hp
      obtain ⟨h3, _⟩ := hm.dis z i p.1 p.2 b ho h2 hbl h
      subst h3
      exact h1 (by simpa using hz)
  refine ⟨fun x => ?_, fun x l av h => ?_, hco.inj, fun y i b ho hb => ?_, fun b hb => ⟨?_, .inl hb⟩, fun b hb => hb, fun _ _ _ => rfl, rfl, rfl, rfl, Nat.le_refl _⟩
  · rcases finFr_cases as vin x with hx | ⟨hx1, hx2⟩ | ⟨j, rfl⟩
    · have hg : as[x]? = some (as.getD x .junk) := by simp [List.getD_eq_getElem?_getD, List.getElem?_eq_getElem hx]
      obtain ⟨u, hu, hr⟩ := All2.get hrel x _ hg
      simp only [Nat.zero_add] at hr
      refine ⟨u, ?_, fun u' h' => by rw [hu] at h'; simpa using h'.symm⟩
      rw [fget_finFr_arg hx]
      exact (flat_slot (hargs x _ hg).1).2 hr
    · rw [fget_finFr_none hx1 hx2]
      have hnone : us[x]? = none := List.getElem?_eq_none (by rw [← All2.len hrel]; exact hx1)
      have hla : lentAt (calleeβ β ts xs) vin.length x = none := by
        unfold lentAt
        rw [if_neg (by omega)]
      exact ⟨undef, trivial, fun u' h' => by rw [hnone, hla] at h'; cases h'⟩
    · have hnone : us[virtBase + j]? = none := List.getElem?_eq_none (by rw [← All2.len hrel]; simp only [virtBase, resSlot] at *; omega)
      rw [fget_finFr_virt hlen]
      split
      case isFalse =>
        rename_i hj
        have hla : lentAt (calleeβ β ts xs) vin.length (virtBase + j) = none := by
          unfold lentAt
          rw [if_neg (by omega)]
        exact ⟨undef, trivial, fun u' h' => by rw [hnone, hla] at h'; cases h'⟩
      rename_i hj
      have hx : xs[j]? = some (xs[j]'(by omega)) := List.getElem?_eq_getElem (by omega)
      obtain ⟨hl, hv⟩ := hbox j _ hx
      obtain ⟨u, hr, _⟩ := hm.rel xs[j]
      rw [List.getD_eq_getElem?_getD, hv, Option.getD_some]
      have hla0 : u = β (xs[j], 0) → lentAt (calleeβ β ts xs) vin.length (virtBase + j) = some u := by
        intro h0
        unfold lentAt
        rw [if_pos ⟨by omega, by omega⟩, calleeβ_virt hx, h0]
      cases hf : fget fr xs[j] <;> rw [hf] at hl <;> simp only [AV.lendable, reduceCtorEq] at hl
      case own sz es =>
        rw [hf] at hr
        have hla := hla0 hr.1
        exact ⟨u, ⟨by rw [calleeβ_virt hx]; exact hr.1, hr.2.turn (fun _ h => .inl h) (fun _ _ => rfl) (fun _ _ => rfl)⟩, fun u' h' => by rw [hnone, hla] at h'; simpa using h'.symm⟩
      case glo k cs =>
        rw [hf] at hr
        have hla := hla0 hr.1
        exact ⟨u, ⟨by rw [calleeβ_virt hx]; exact hr.1, hr.2.1, RD.mono (fun _ h => .inl h) (fun _ _ => rfl) _ _ hr.2.2⟩, fun u' h' => by rw [hnone, hla] at h'; simpa using h'.symm⟩
      rename_i cs
      rw [hf] at hr
      obtain ⟨h0, b, l, E, h1, h2, h3⟩ := hr
      have hla := hla0 h0
      refine ⟨u, ⟨by rw [calleeβ_virt hx]; exact h0, b, l, E, h1, h2, ?_⟩, fun u' h' => by rw [hnone, hla] at h'; simpa using h'.symm⟩
      refine All2.of_get (by simpa using All2.len h3) fun k av c hk hc => ?_
      simp only [List.getElem?_map, Option.map_eq_some_iff] at hk
      obtain ⟨c0, hc0, rfl⟩ := hk
      obtain ⟨c', hc', hrc⟩ := All2.get h3 k c0 hc0
      rw [hc] at hc'
      cases hc'
      simp only [Nat.zero_add] at hrc ⊢
      exact lendCell_ok hrc (fun _ h => .inl h) (calleeβ_virt hx (k + 1)) (calleeβ_virt hx 0) (by simp)
  · rcases finFr_cases as vin x with hx | ⟨hx1, hx2⟩ | ⟨j, rfl⟩
    · rw [fget_finFr_arg hx] at h
      have hg : as[x]? = some (as.getD x .junk) := by simp [List.getD_eq_getElem?_getD, List.getElem?_eq_getElem hx]
      have := (hargs x _ hg).1
      rw [h] at this
      cases this
    · rw [fget_finFr_none hx1 hx2] at h; cases h
    · rw [fget_finFr_virt hlen] at h
      split at h
      case isFalse => cases h
      rename_i hj
      obtain ⟨hl, hv⟩ := hbox j _ (List.getElem?_eq_getElem (l := xs) (i := j) (by omega))
      rw [List.getD_eq_getElem?_getD, hv, Option.getD_some] at h
      cases hf : fget fr xs[j] <;> rw [hf] at hl h <;> simp only [AV.lendable, reduceCtorEq] at hl <;> cases h
  · obtain ⟨z, h1, h2, h3⟩ := hco.src y i ho
    exact ⟨fun hb' => hSnot b hb' z i h1 h2 (h3 b hb), .inr ⟨y, i, ho, hb⟩⟩
  · rcases hb with h | ⟨p, hp, h⟩
    · exact (hm.stb b h).1
    · exact hm.blt (hlent p hp).2 h

end
end Go.Vm
