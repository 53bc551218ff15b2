/-
  THE V-MACHINE, part 19: behind a call.
-/
import Derived.Test.YtnjggcljonbleaaDoorVmCall2
namespace Go.Vm
section
variable {P : Program} {e : Env} {G : GEnv} {S : Nat → Prop} {β : Path → Value} {fr : Fr} {w : World} {a : Act}

theorem fget_tk (r : Fr) (x : Nat) : ∀ tk : List Nat, fget (tk.map (fun s => (s, AV.junk)) ++ r) x = if x ∈ tk then .junk else fget r x
  | [] => by simp
  | t :: tk => by
    simp only [List.map_cons, List.cons_append, fget_cons, fget_tk r x tk, List.mem_cons]
    by_cases h : t = x
    · simp [h]
    · simp [h, Ne.symm h]

theorem fget_zip_out (r : Fr) (x : Nat) : ∀ (xs : List Nat) (vs : List AV), x ∉ xs → fget ((xs.zip vs) ++ r) x = fget r x
  | [], vs, _ => by simp
  | y :: xs, [], _ => by simp
  | y :: xs, v :: vs, h => by
    simp only [List.mem_cons, not_or] at h
    simp only [List.zip_cons_cons, List.cons_append]
    rw [fget_cons_ne _ _ (Ne.symm h.1)]
    exact fget_zip_out r x xs vs h.2

theorem fget_zip_in (r : Fr) (x : Nat) : ∀ (xs : List Nat) (vs : List AV) (j : Nat) (v : AV), xs.Nodup → xs[j]? = some x → vs[j]? = some v → fget ((xs.zip vs) ++ r) x = v
  | [], vs, j, v, _, h, _ => by simp at h
  | y :: xs, [], j, v, _, _, h => by simp at h
  | y :: xs, v' :: vs, 0, v, _, h1, h2 => by
    simp at h1 h2
    subst h1 h2
    simp [fget_cons_self]
  | y :: xs, v' :: vs, j + 1, v, hn, h1, h2 => by
    have hn' := List.nodup_cons.1 hn
    have hmem : x ∈ xs := List.mem_of_getElem? (by simpa using h1)
    simp only [List.zip_cons_cons, List.cons_append]
    have hne : y ≠ x := by
      rintro rfl
      exact hn'.1 hmem
    rw [fget_cons_ne _ _ hne]
    exact fget_zip_in r x xs vs j v hn'.2 (by simpa using h1) (by simpa using h2)

theorem purge1_closed {π : Path → Bool} {c : AV} (h : c.paths1 = []) : c.purge1 π = c := by simp [AV.purge1, h]

theorem noGd_slot {g g' : List (Nat × Bool) → Bool} {S : Nat → Prop} {w : World} {β : Path → Value} {x : Nat} {av : AV} {u : Value} (hn : av.noGd = true) (h : RSlot g S w β x av u) : RSlot g' S w β x av u := by
  cases av
  case gd => cases hn
  all_goals exact h

/-- What is known behind a call holds of fewer stable blocks, if it has no footprint. -/
theorem bare_slot {g : List (Nat × Bool) → Bool} {S S' : Nat → Prop} {w : World} {β : Path → Value} {x : Nat} {av : AV} {u : Value} (hb : av.bare = true) (h : RSlot g S w β x av u) : RSlot g S' w β x av u := by
  have d : ∀ (p : Path) (c : AV) (v : Value), (match c with | .d (.v _) | .d (.str _) | .junk => true | _ => false) = true → RFlat S w β p c v → RFlat S' w β p c v := by
    intro p c v hc hr
    split at hc
    · exact hr
    · exact hr
    · exact trivial
    · cases hc
  unfold AV.bare at hb
  split at hb
  · exact h
  · exact h
  · exact trivial
  · rename_i vs
    obtain ⟨l, h1, h0, h2⟩ := h
    refine ⟨l, h1, h0, All2.mono h2 fun j c v hc _ hr => d _ c v ?_ hr⟩
    exact List.all_eq_true.1 hb c (List.mem_of_getElem? hc)
  · cases hb

theorem back_ptr {g : List (Nat × Bool) → Bool} {S : Nat → Prop} {w : World} {β : Path → Value} {x : Nat} {av : AV} {u : Value} (hb : av.backOk = true) (h : RSlot g S w β x av u) : u = β (x, 0) := by
  cases av <;> simp only [AV.backOk, reduceCtorEq] at hb
  all_goals exact h.1
theorem lend_ptr {g : List (Nat × Bool) → Bool} {S : Nat → Prop} {w : World} {β : Path → Value} {x : Nat} {av : AV} {u : Value} (hb : av.lendable = true) (h : RSlot g S w β x av u) : u = β (x, 0) := by
  cases av <;> simp only [AV.lendable, reduceCtorEq] at hb
  all_goals exact h.1
theorem back_noGd {av : AV} (hb : av.backOk = true) : av.noGd = true := by
  cases av <;> simp only [AV.backOk, reduceCtorEq] at hb <;> rfl
theorem back_paths {av : AV} (hb : av.backOk = true) : av.paths = [] := by
  cases av <;> simp only [AV.backOk, reduceCtorEq] at hb
  · rfl
  · rename_i cs
    simp only [List.all_eq_true, Bool.and_eq_true, List.isEmpty_iff] at hb
    simp only [AV.paths, List.flatMap_eq_nil_iff]
    exact fun c hc => (hb c hc).1
  · rfl
theorem back_purge {π : Path → Bool} {av : AV} (hb : av.backOk = true) : av.purge π = av := by
  cases av <;> simp only [AV.backOk, reduceCtorEq] at hb
  · rfl
  · rename_i cs
    simp only [List.all_eq_true, Bool.and_eq_true, List.isEmpty_iff] at hb
    simp only [AV.purge, AV.box.injEq]
    rw [List.map_congr_left (g := id)]
    · simp
    · intro c hc
      exact purge1_closed (hb c hc).1
  · rfl

theorem call_after (hm : Mem e G S β fr (valsOf e a) w) {as : List AV} {ts : List (Option Nat)} {lent : List Path} {vin vout : List AV} {xs : List Nat} {res : AV} {dst : Nat} (hdst : dst < a.tmps.size) (_hlen : as.length < resSlot) (hn : (taken ts ++ xs).Nodup)
    (hco : CalleeOwn fr (finFr as vin) β (calleeβ β ts xs) (taken ts) xs) (hdx : dst ∉ xs)
    (hbox : ∀ (j x : Nat), xs[j]? = some x → (fget fr x).lendable = true ∧ vin[j]? = some (lendA (fget fr x))) (hvl : vin.length = xs.length) (hvo : vout.length = xs.length)
    (hlent : ∀ p ∈ lent, p.1 ∉ taken ts ++ xs ∧ (fget fr p.1).ownsAt p.2 = true) (hres : res.closed = true) (hvc : ∀ a ∈ vout, a.backOk = true) (hlb : lent = [] ∨ (res.bare = true ∧ xs = []))
    {u : Value} {S' : Nat → Prop} {β' : Path → Value} {w' : World}
    (hm' : Mem ⟨w, ownedBy (finFr as vin) (calleeβ β ts xs), calleeS S β lent, lentAt (calleeβ β ts xs) vin.length⟩ [] S' β' ((resSlot, res) :: boxFr virtBase vout) (fun x => if x = resSlot then some u else lentAt (calleeβ β ts xs) vin.length x) w') :
    After e G (callFr dst xs (taken ts) res vout fr) a dst u w' := by
  have hptr : ∀ j, j < vin.length → β' (virtBase + j, 0) = calleeβ β ts xs (virtBase + j, 0) := by
    intro j hj
    obtain ⟨u0, hr0, hu0⟩ := hm'.rel (virtBase + j)
    rw [fget_cons_ne _ _ (by simp only [virtBase, resSlot]; omega), fget_boxFr, if_pos ⟨by omega, by omega⟩] at hr0
    have hbk : (vout.getD (virtBase + j - virtBase) .junk).backOk = true := by
      rw [List.getD_eq_getElem?_getD, List.getElem?_eq_getElem (by omega)]
      exact hvc _ (List.getElem_mem _)
    have := hu0 (calleeβ β ts xs (virtBase + j, 0)) (by
      rw [if_neg (by simp only [virtBase, resSlot]; omega)]
      unfold lentAt
      rw [if_pos ⟨by omega, by omega⟩])
    rw [this, ← back_ptr hbk hr0]
  obtain ⟨hres1, hres2⟩ : res.paths = [] ∧ res.noGd = true := by simpa [AV.closed] using hres
  have hnt : (taken ts).Nodup ∧ xs.Nodup ∧ ∀ y ∈ taken ts, y ∉ xs := by
    rw [List.nodup_append] at hn
    exact ⟨hn.1, hn.2.1, fun y h1 h2 => hn.2.2 y h1 y h2 rfl⟩
  -- the blocks that the callee was given
  have hA : ∀ b, ownedBy (finFr as vin) (calleeβ β ts xs) b → ∃ z i, (fget fr z).ownsAt i = true ∧ (z ∈ taken ts ∨ z ∈ xs) ∧ blk (β (z, i)) = some b := by
    rintro b ⟨y, i, ho, hb⟩
    obtain ⟨z, h1, h2, h3⟩ := hco.src y i ho
    exact ⟨z, i, h1, h2, h3 b hb⟩
  have hSA : ∀ b, S b → ¬ ownedBy (finFr as vin) (calleeβ β ts xs) b := by
    intro b hS hb
    obtain ⟨z, i, h1, _, h3⟩ := hA b hb
    exact (hm.fre z i b h1 h3).1 hS
  have hag : Agree S w w' := fun b hS => hm'.old b (hm.stb b hS).1 (hSA b hS)
  have hkeep : ∀ y j b, y ∉ taken ts → y ∉ xs → (fget fr y).ownsAt j = true → blk (β (y, j)) = some b → b < w.heap.size ∧ ¬ ownedBy (finFr as vin) (calleeβ β ts xs) b := by
    intro y j b h1 h2 ho hb
    refine ⟨hm.blt ho hb, fun hAb => ?_⟩
    obtain ⟨z, i, h3, h4, h5⟩ := hA b hAb
    obtain ⟨h6, _⟩ := hm.dis y j z i b ho h3 hb h5
    subst h6
    rcases h4 with h | h
    · exact h1 h
    · exact h2 h
  have hAfre : ∀ b, (w.heap.size ≤ b ∨ ownedBy (finFr as vin) (calleeβ β ts xs) b) → e.w0.heap.size ≤ b ∨ e.A b := by
    rintro b (h | h)
    · exact .inl (Nat.le_trans hm.size h)
    · obtain ⟨z, i, h1, _, h3⟩ := hA b h
      exact (hm.fre z i b h1 h3).2
  let S'' : Nat → Prop := fun b => S' b ∧ ¬ ∃ p ∈ lent, blk (β p) = some b
  let β'' : Path → Value := fun p => if p.1 = dst then β' (resSlot, p.2) else match xs.idxOf? p.1 with
    | some j => β' (virtBase + j, p.2)
    | none => β p
  have hSS : ∀ b, S b → S'' b := by
    intro b hS
    refine ⟨hm'.s0 b (.inl hS), ?_⟩
    rintro ⟨p, hp, hb⟩
    exact (hm.fre p.1 p.2 b (hlent p hp).2 hb).1 hS
  have hβd : ∀ j, β'' (dst, j) = β' (resSlot, j) := fun j => by simp [β'']
  have hidx : ∀ (j x : Nat), xs[j]? = some x → xs.idxOf? x = some j := by
    intro j x h
    cases hi : xs.idxOf? x with
    | none =>
      rw [List.idxOf?_eq_none_iff] at hi
      exact absurd (List.mem_of_getElem? h) hi
    | some i =>
      have hg := idxOf?_get hi
      obtain ⟨p1, q1⟩ := List.getElem?_eq_some_iff.1 hg
      obtain ⟨p2, q2⟩ := List.getElem?_eq_some_iff.1 h
      have : i = j := (List.getElem_inj (h₀ := p1) (h₁ := p2) hnt.2.1).1 (by rw [q1, q2])
      rw [this]
  have hβx : ∀ (j x i : Nat), xs[j]? = some x → β'' (x, i) = β' (virtBase + j, i) := by
    intro j x i h
    have hne : x ≠ dst := fun h' => hdx (h' ▸ List.mem_of_getElem? h)
    simp only [β'', if_neg hne, hidx j x h]
  have hβo : ∀ x i, x ≠ dst → x ∉ xs → β'' (x, i) = β (x, i) := by
    intro x i h1 h2
    have : xs.idxOf? x = none := List.idxOf?_eq_none_iff.2 h2
    simp only [β'', if_neg h1, this]
  have hβ0 : ∀ p, callP dst xs p = false → β'' p = β p := by
    rintro ⟨x, i⟩ h
    simp only [callP, Bool.or_eq_false_iff, beq_eq_false_iff_ne, ne_eq, Bool.and_eq_false_iff, bne_eq_false_iff_eq] at h
    obtain ⟨h1, h2⟩ := h
    by_cases hx : x ∈ xs
    · rcases h2 with h2 | h2
      · subst h2
        obtain ⟨j, hj⟩ := List.getElem?_of_mem hx
        have hjl := (List.getElem?_eq_some_iff.1 hj).1
        rw [hβx j x 0 hj, hptr j (by omega), calleeβ_virt hj]
      · simp [hx] at h2
    · exact hβo x i h1 hx
  -- the new frame, slot by slot
  have hf1 : fget (callFr dst xs (taken ts) res vout fr) dst = res := fget_cons_self _ _ _
  have hf0 : ∀ x, x ≠ dst → fget (callFr dst xs (taken ts) res vout fr) x = (fget ((taken ts).map (fun s => (s, AV.junk)) ++ (xs.zip vout) ++ fr) x).purge (callP dst xs) := by
    intro x hx
    rw [callFr, fget_cons_ne _ _ (Ne.symm hx), fget_purgeP]
  have hft : ∀ x, x ≠ dst → x ∈ taken ts → fget (callFr dst xs (taken ts) res vout fr) x = .junk := by
    intro x hx ht
    rw [hf0 x hx, List.append_assoc, fget_tk, if_pos ht]
    rfl
  have hfx : ∀ (j x : Nat), xs[j]? = some x → ∃ v, vout[j]? = some v ∧ fget (callFr dst xs (taken ts) res vout fr) x = v := by
    intro j x hj
    have hjl := (List.getElem?_eq_some_iff.1 hj).1
    have hmem := List.mem_of_getElem? hj
    refine ⟨vout[j]'(by omega), List.getElem?_eq_getElem (by omega), ?_⟩
    rw [hf0 x (fun h => hdx (h ▸ hmem)), List.append_assoc, fget_tk, if_neg (fun h => hnt.2.2 x h hmem), fget_zip_in fr x xs vout j _ hnt.2.1 hj (List.getElem?_eq_getElem (by omega))]
    exact back_purge (hvc _ (List.getElem_mem _))
  have hfo : ∀ x, x ≠ dst → x ∉ taken ts → x ∉ xs → fget (callFr dst xs (taken ts) res vout fr) x = (fget fr x).purge (callP dst xs) := by
    intro x h1 h2 h3
    rw [hf0 x h1, List.append_assoc, fget_tk, if_neg h2, fget_zip_out fr x xs vout h3]
  have hgv : ∀ (j : Nat) (v : AV), vout[j]? = some v → fget ((resSlot, res) :: boxFr virtBase vout) (virtBase + j) = v := by
    intro j v hv
    have hjl := (List.getElem?_eq_some_iff.1 hv).1
    rw [fget_cons_ne _ _ (by simp only [virtBase, resSlot]; omega), fget_boxFr, if_pos ⟨by omega, by omega⟩, Nat.add_sub_cancel_left, List.getD_eq_getElem?_getD, hv, Option.getD_some]
  have hgr : fget ((resSlot, res) :: boxFr virtBase vout) resSlot = res := fget_cons_self _ _ _
  -- the owners of the new frame
  have hown : ∀ x i, (fget (callFr dst xs (taken ts) res vout fr) x).ownsAt i = true →
      (∃ y, (fget ((resSlot, res) :: boxFr virtBase vout) y).ownsAt i = true ∧ β'' (x, i) = β' (y, i) ∧ ((x = dst ∧ y = resSlot) ∨ ∃ j, xs[j]? = some x ∧ y = virtBase + j)) ∨
      (x ≠ dst ∧ x ∉ taken ts ∧ x ∉ xs ∧ (fget fr x).ownsAt i = true ∧ β'' (x, i) = β (x, i)) := by
    intro x i ho
    by_cases h1 : x = dst
    · subst h1
      rw [hf1] at ho
      exact .inl ⟨resSlot, by rw [hgr]; exact ho, hβd i, .inl ⟨rfl, rfl⟩⟩
    · by_cases h2 : x ∈ taken ts
      · rw [hft x h1 h2] at ho
        cases i <;> simp [AV.ownsAt, AV.isOwn] at ho
      · by_cases h3 : x ∈ xs
        · obtain ⟨j, hj⟩ := List.getElem?_of_mem h3
          obtain ⟨v, hv, hf⟩ := hfx j x hj
          rw [hf] at ho
          exact .inl ⟨virtBase + j, by rw [hgv j v hv]; exact ho, hβx j x i hj, .inr ⟨j, hj, rfl⟩⟩
        · rw [hfo x h1 h2 h3] at ho
          exact .inr ⟨h1, h2, h3, AV.purge_ownsAt _ _ i ho, hβo x i h1 h3⟩
  refine ⟨S'', β'', ?_, ?_, ?_, ?_, ?_, fun b hb => hSS b (hm.s0 b hb), ?_, hm'.os.trans hm.os, hm'.tape.trans hm.tape, hm'.output.trans hm.output, Nat.le_trans hm.size hm'.size⟩
  · intro x
    by_cases h1 : x = dst
    · subst h1
      rw [hf1]
      obtain ⟨u0, hr, hu0⟩ := hm'.rel resSlot
      rw [hgr] at hr
      have huu : u = u0 := hu0 u (by simp)
      subst huu
      refine ⟨u, ?_, put_new a x u hdst⟩
      have hr1 : RSlot (condG G) S' w' β' resSlot res u := noGd_slot hres2 hr
      have hr2 : RSlot (condG G) S'' w' β' resSlot res u := by
        rcases hlb with h | h
        · have hS : S'' = S' := by
            funext b
            simp [S'', h]
          rw [hS]; exact hr1
        · exact bare_slot h.1 hr1
      exact hr2.rename (fun j => hβd j) (fun q hq => by rw [hres1] at hq; cases hq)
    · by_cases h2 : x ∈ taken ts
      · rw [hft x h1 h2]
        refine ⟨(valsOf e (a.put (some dst) u) x).getD undef, trivial, fun u' h => ?_⟩
        simp only [h, Option.getD_some]
      · by_cases h3 : x ∈ xs
        · obtain ⟨j, hj⟩ := List.getElem?_of_mem h3
          obtain ⟨v, hv, hf⟩ := hfx j x hj
          rw [hf]
          obtain ⟨hl0, _⟩ := hbox j x hj
          have hjl := (List.getElem?_eq_some_iff.1 hj).1
          obtain ⟨u0, hr0, hu0⟩ := hm.rel x
          have hvb := hvc v (List.mem_of_getElem? hv)
          obtain ⟨ux, hrx, _⟩ := hm'.rel (virtBase + j)
          rw [hgv j v hv] at hrx
          have hlx : lent = [] := by
            rcases hlb with h | h
            · exact h
            · rw [h.2] at h3; cases h3
          have hS : S'' = S' := by
            funext b
            simp [S'', hlx]
          have hux : ux = u0 := by rw [back_ptr hvb hrx, lend_ptr hl0 hr0, hptr j (by omega), calleeβ_virt hj]
          refine ⟨u0, ?_, fun u' h => hu0 u' (by rw [put_old a dst u hdst x h1] at h; exact h)⟩
          rw [hS, ← hux]
          refine (noGd_slot (g' := condG G) (back_noGd hvb) hrx).rename (fun i => hβx j x i hj) fun q hq => ?_
          rw [back_paths hvb] at hq
          cases hq
        · rw [hfo x h1 h2 h3]
          obtain ⟨u0, hr0, hu0⟩ := hm.rel x
          refine ⟨u0, ?_, fun u' h => hu0 u' (by rw [put_old a dst u hdst x h1] at h; exact h)⟩
          refine (hr0.purge (callP dst xs)).turn (fun _ _ _ => rfl) hSS hag (fun j => hβo x j h1 h3) (fun j ho b hb => ?_) (fun q hq => hβ0 q (AV.purge_paths hq).1)
          obtain ⟨h4, h5⟩ := hkeep x j b h2 h3 (AV.purge_ownsAt _ _ j ho) hb
          exact hm'.old b h4 h5
  · intro x l av hx
    by_cases h1 : x = dst
    · subst h1
      rw [hf1] at hx
      rw [hx] at hres2
      cases hres2
    · by_cases h2 : x ∈ taken ts
      · rw [hft x h1 h2] at hx; cases hx
      · by_cases h3 : x ∈ xs
        · obtain ⟨j, hj⟩ := List.getElem?_of_mem h3
          obtain ⟨v, hv, hf⟩ := hfx j x hj
          rw [hf] at hx
          have := back_noGd (hvc v (List.mem_of_getElem? hv))
          rw [hx] at this
          cases this
        · rw [hfo x h1 h2 h3] at hx
          exact hm.gok x l av (AV.purge_gd hx)
  · intro x i y j b hx hy hxb hyb
    rcases hown x i hx with ⟨x', hx1, hx2, hx3⟩ | ⟨hx1, hx2, hx3, hx4, hx5⟩ <;> rcases hown y j hy with ⟨y', hy1, hy2, hy3⟩ | ⟨hy1, hy2, hy3, hy4, hy5⟩
    · rw [hx2] at hxb
      rw [hy2] at hyb
      obtain ⟨h1, h2⟩ := hm'.dis x' i y' j b hx1 hy1 hxb hyb
      refine ⟨?_, h2⟩
      rcases hx3 with ⟨rfl, rfl⟩ | ⟨j1, hj1, rfl⟩ <;> rcases hy3 with ⟨rfl, rfl⟩ | ⟨j2, hj2, rfl⟩
      · rfl
      · simp only [virtBase, resSlot] at h1; omega
      · simp only [virtBase, resSlot] at h1; omega
      · have : j1 = j2 := by omega
        rw [this] at hj1
        rw [hj1] at hj2
        exact Option.some.inj hj2
    · rw [hx2] at hxb
      rw [hy5] at hyb
      have hf := hm'.fre x' i b hx1 hxb
      obtain ⟨h1, h2⟩ := hkeep y j b hy2 hy3 hy4 hyb
      rcases hf.2 with h | h
      · simp only at h; omega
      · exact absurd h h2
    · rw [hx5] at hxb
      rw [hy2] at hyb
      have hf := hm'.fre y' j b hy1 hyb
      obtain ⟨h1, h2⟩ := hkeep x i b hx2 hx3 hx4 hxb
      rcases hf.2 with h | h
      · simp only at h; omega
      · exact absurd h h2
    · rw [hx5] at hxb
      rw [hy5] at hyb
      exact hm.dis x i y j b hx4 hy4 hxb hyb
  · intro x i b hx hxb
    rcases hown x i hx with ⟨x', hx1, hx2, _⟩ | ⟨hx1, hx2, hx3, hx4, hx5⟩
    · rw [hx2] at hxb
      have hf := hm'.fre x' i b hx1 hxb
      exact ⟨fun h => hf.1 h.1, hAfre b hf.2⟩
    · rw [hx5] at hxb
      have hf := hm.fre x i b hx4 hxb
      refine ⟨fun h => ?_, hf.2⟩
      obtain ⟨h1, h2⟩ := hkeep x i b hx2 hx3 hx4 hxb
      rcases (hm'.stb b h.1).2 with (h3 | h3) | h3 | h3
      · exact hf.1 h3
      · exact h.2 h3
      · simp only at h3; omega
      · exact h2 h3
  · intro b hb
    refine ⟨(hm'.stb b hb.1).1, ?_⟩
    rcases (hm'.stb b hb.1).2 with (h3 | h3) | h3
    · exact (hm.stb b h3).2
    · exact absurd h3 hb.2
    · exact .inr (hAfre b h3)
  · intro b h1 h2
    rw [← hm.old b h1 h2]
    refine hm'.old b (Nat.lt_of_lt_of_le h1 hm.size) fun h => ?_
    obtain ⟨z, i, h3, _, h5⟩ := hA b h
    rcases (hm.fre z i b h3 h5).2 with h' | h'
    · omega
    · exact h2 h'

/-- A call by its contract. -/
theorem callEff_ok {N : Nat} (hN : a.tmps.size = N) (hm : Mem e G S β fr (valsOf e a) w) {dst k : Nat} {items : List ArgIn} {h : Hint} {fr' : Fr} {obl : Prop} (he : callEff P N dst k items h fr = some (fr', obl)) (ho : obl) {us : List Value}
    (hargs : All2 (fun _ => ArgOk N S w β a) 0 items us) : Callable P k ∧ Calls P k us.toArray w fun e' w' => ∃ u, e' = .returned u ∧ After e G fr' a dst u w' := by
  unfold callEff at he
  split at he
  case h_2 => cases he
  rename_i as ts lent vin htr hbx
  split at he
  case isFalse => cases he
  rename_i hc
  simp only [Bool.and_eq_true, decide_eq_true_eq, Bool.not_eq_true', List.all_eq_true, Bool.or_eq_true, List.isEmpty_iff, List.contains_eq_mem, decide_eq_false_iff_not] at hc
  obtain ⟨⟨⟨⟨⟨⟨⟨⟨hnd, hdx⟩, hdN⟩, hal⟩, hres⟩, hvc⟩, hvo⟩, hle⟩, hlb⟩ := hc
  simp only [Option.some.injEq, Prod.mk.injEq] at he
  obtain ⟨rfl, rfl⟩ := he
  obtain ⟨hcall, hcon⟩ := ho
  have hnodup := nodupB_ok hnd
  have hil : items.length ≤ 999999 := by
    have : as.length = items.length := by
      clear hal hlb hle hnd hnodup hcon hvc hvo hargs
      induction items generalizing as ts lent with
      | nil => simp only [trArgs, Option.some.injEq, Prod.mk.injEq] at htr; obtain ⟨rfl, _⟩ := htr; rfl
      | cons it r ih =>
        obtain ⟨tk, v⟩ := it
        simp only [trArgs] at htr
        split at htr
        · cases htr
        rename_i as' ts' l' hrest
        have := ih as' ts' l' hrest
        split at htr
        · split at htr
          case h_2 => cases htr
          split at htr
          case isFalse => cases htr
          simp only [Option.some.injEq, Prod.mk.injEq] at htr
          obtain ⟨rfl, _⟩ := htr
          simp [this]
        · split at htr
          case h_2 => cases htr
          simp only [Option.some.injEq, Prod.mk.injEq] at htr
          obtain ⟨rfl, _⟩ := htr
          simp [this]
    rw [← this]
    simp only [resSlot] at hal
    omega
  obtain ⟨h1, h2, h3, h4⟩ := trArgs_ok hN hm (lent := lent) ts items as ts lent us 0 htr (fun p hp => hp) hargs (by simp only [virtBase]; omega) (fun j t hj => by simpa using hj)
  obtain ⟨h5, h6⟩ := boxesOf_ok h.xs vin hbx
  have h4' : ∀ (j : Nat) (av : AV), as[j]? = some av → av.flat = true ∧ (av.isOwn = true → ∃ s, ts[j]? = some (some s) ∧ (fget fr s).isOwn = true ∧ (fget fr s).flat = true) := fun j av hj =>
    ⟨(h4 j av hj).1, fun ho => let ⟨s, q1, _, q3, q4⟩ := (h4 j av hj).2 ho; ⟨s, q1, q3, q4⟩⟩
  have hlent : ∀ p ∈ lent, p.1 ∉ taken ts ++ h.xs ∧ (fget fr p.1).ownsAt p.2 = true := by
    intro p hp
    refine ⟨hle p hp, ?_⟩
    -- what is lent is owned
    have capsOwn : ∀ (caps cs : List AV) (l : List Path), trCaps h.xs fr caps = some (cs, l) → ∀ p ∈ l, (fget fr p.1).ownsAt p.2 = true := by
      intro caps
      induction caps with
      | nil => intro cs l hh p hp; simp only [trCaps, Option.some.injEq, Prod.mk.injEq] at hh; obtain ⟨_, rfl⟩ := hh; cases hp
      | cons c r ih =>
        intro cs l hh p hp
        simp only [trCaps] at hh
        split at hh
        · cases hh
        rename_i cs' l' hrest
        have ih' := ih cs' l' hrest
        split at hh
        · simp only [Option.some.injEq, Prod.mk.injEq] at hh
          obtain ⟨_, rfl⟩ := hh
          exact ih' p hp
        · simp only [Option.map_eq_some_iff, Prod.mk.injEq] at hh
          obtain ⟨_, _, _, rfl⟩ := hh
          exact ih' p hp
        · split at hh
          · rename_i q sz es hq
            simp only [Option.some.injEq, Prod.mk.injEq] at hh
            obtain ⟨_, rfl⟩ := hh
            rcases List.mem_cons.1 hp with h | h
            · rw [h]; exact pget_owns hq
            · exact ih' p h
          · simp only [Option.some.injEq, Prod.mk.injEq] at hh
            obtain ⟨_, rfl⟩ := hh
            exact ih' p hp
          · cases hh
        · cases hh
    have allOwn : ∀ (items : List ArgIn) (as : List AV) (ts : List (Option Nat)) (l : List Path), trArgs N h.xs fr items = some (as, ts, l) → ∀ p ∈ l, (fget fr p.1).ownsAt p.2 = true := by
      intro items
      induction items with
      | nil => intro as ts l hh p hp; simp only [trArgs, Option.some.injEq, Prod.mk.injEq] at hh; obtain ⟨_, _, rfl⟩ := hh; cases hp
      | cons it r ih =>
        intro as ts l hh p hp
        obtain ⟨tk, v⟩ := it
        simp only [trArgs] at hh
        split at hh
        · cases hh
        rename_i as' ts' l' hrest
        have ih' := ih as' ts' l' hrest
        split at hh
        · split at hh
          case h_2 => cases hh
          split at hh
          case isFalse => cases hh
          simp only [Option.some.injEq, Prod.mk.injEq] at hh
          obtain ⟨_, _, rfl⟩ := hh
          exact ih' p hp
        · split at hh
          case h_2 => cases hh
          rename_i a' l'' hv
          simp only [Option.some.injEq, Prod.mk.injEq] at hh
          obtain ⟨_, _, rfl⟩ := hh
          rcases List.mem_append.1 hp with hp | hp
          · unfold trV at hv
            split at hv
            · simp only [Option.some.injEq, Prod.mk.injEq] at hv
              obtain ⟨_, rfl⟩ := hv
              cases hp
            · simp only [Option.some.injEq, Prod.mk.injEq] at hv
              obtain ⟨_, rfl⟩ := hv
              cases hp
            · split at hv
              · simp only [Option.some.injEq, Prod.mk.injEq] at hv
                obtain ⟨_, rfl⟩ := hv
                cases hp
              split at hv
              · rename_i q sz es hq
                simp only [Option.some.injEq, Prod.mk.injEq] at hv
                obtain ⟨_, rfl⟩ := hv
                simp only [List.mem_singleton] at hp
                rw [hp]; exact pget_owns hq
              · simp only [Option.some.injEq, Prod.mk.injEq] at hv
                obtain ⟨_, rfl⟩ := hv
                cases hp
              · cases hv
            · simp only [Option.map_eq_some_iff, Prod.mk.injEq] at hv
              obtain ⟨_, _, _, rfl⟩ := hv
              cases hp
            · simp only [Option.map_eq_some_iff, Prod.mk.injEq] at hv
              obtain ⟨⟨cs, l3⟩, hcs, _, rfl⟩ := hv
              exact capsOwn _ cs l3 hcs p hp
            · cases hv
          · exact ih' p hp
    exact allOwn items as ts lent htr p hp
  refine ⟨hcall, ?_⟩
  have hmem := calleeMem hm hal hnodup h4' h3 h5 h6 hlent
  have hco := calleeOwn hm hal hnodup h4' h5 h6
  refine (hcon w _ _ us (All2.len h3).symm hmem).mono ?_
  rintro e' w' ⟨u, S', β', rfl, hm'⟩
  refine ⟨u, rfl, call_after hm (by rw [hN]; exact hdN) hal hnodup hco hdx h6 h5 hvo hlent hres hvc (by simpa using hlb) hm'⟩

end
end Go.Vm
