/-
  THE V-MACHINE, part 15: stores and append, at the model's own text.
-/
import Derived.Test.YtnjggcljonbleaaDoorVmEff
namespace Go.Vm

def AfterS (e : Env) (G : GEnv) (fr' : Fr) (a : Act) (w' : World) : Prop := ∃ S β, Mem e G S β fr' (valsOf e a) w'

/-- One cell of a box. -/
def cellP (y off : Nat) : Path → Bool := fun p => p.1 == y && p.2 == off + 1
theorem cellP_ne {y off : Nat} {p : Path} (h : cellP y off p = false) : p ≠ (y, off + 1) := by
  rintro rfl
  simp [cellP] at h

/-- What a store puts into a box: the new cells; whether slot s gives its owner away. -/
def effStore (P : Program) (N : Nat) (T : TypeId) (hint : Hint) (hes : Option (List (List Dat))) (x : Operand) (addr v : AV) (fr : Fr) : Option (Fr × Prop) :=
  match addr, P.info? T with
  | .bp y off, some i =>
    match fget fr y with
    | .box cs =>
      let plainly : Option (Fr × Prop) := match cellsA v with
        | some ds => if ds.length = i.size ∧ off + ds.length ≤ cs.length then some ((y, .box (spl off ds cs)) :: fr, True) else none
        | none => none
      match x with
      | .tmp s => match fget fr s with
        | .own κ sz es => if s ≠ y ∧ s < N ∧ i.size = 1 ∧ off < cs.length then some ((y, .box ((cs.map (AV.purge1 (cellP y off))).set off (.own κ sz es))) :: purgeP (cellP y off) ((s, .junk) :: fr), True) else none
        | _ => plainly
      | _ => plainly
    | _ => none
  | .ep p sz k off, some i =>
    match pget fr p with
    | .own κ sz' es =>
      match cellsD v with
      | some ds => if sz = sz' ∧ ds.length = i.size ∧ off + ds.length ≤ sz then
          some (pset fr p (.own κ sz (hes.getD (es.set k (spl off ds hint.cs)))), es[k]? = some hint.cs ∧ es.set k (spl off ds hint.cs) = hes.getD (es.set k (spl off ds hint.cs)))
        else none
      | none => none
    | _ => none
  | _, _ => none
section
variable {P : Program} {e : Env} {G : GEnv} {S : Nat → Prop} {β : Path → Value} {fr : Fr} {w : World} {a : Act}

theorem run_storeVar_row' {T : TypeId} {i : TypeInfo} (hi : P.info? T = some i) (b o : Nat) (arr : Array Value) (E : TypeId) (fz : Nat × Nat) (hb : w.heap[b]? = some (.cells arr E fz)) (hfr : ∀ k, k < arr.size → ¬ (fz.1 ≤ k ∧ k < fz.2)) (u : Value) (hsz : u.cells.size = i.size) (hle : o + u.cells.size ≤ arr.size) (hone : ∀ v ∈ u.cells.toList, v.oneCell' = true) :
    (Instr.storeAt T (.pointer (some ⟨b, o, none⟩)) u).run P w = .ok () (w.setRow b (spl o u.cells.toList arr.toList).toArray) := by
  have := run_storeCells_fz (P := P) b o E fz u.cells.toList 0 arr w hb hfr (by simpa using hle) hone
  simp only [Instr.storeAt, Instr.sureAddr, Sem.run_bind, Sem.run_pure, Result.andThen_ok, storeVar, sizeOf, typeInfo, run_program, hi, hsz, ne_eq, not_true_eq_false, if_false, this]
  simp [spl]

theorem tyAt_setRow {w : World} {b o : Nat} {arr arr' : Array Value} {E : TypeId} {fz : Nat × Nat} (hb : w.heap[b]? = some (.cells arr E fz)) : tyAt (w.setRow b arr') (.pointer (some ⟨b, o, none⟩)) = tyAt w (.pointer (some ⟨b, o, none⟩)) := by
  simp only [tyAt, setRow_heap w b _ _ E fz hb, hb]

theorem Mem.storeBox {vals : Nat → Option Value} (hm : Mem e G S β fr vals w) {y b : Nat} {cs cs' : List AV} {l l' : List Value} {E : TypeId} (hf : fget fr y = .box cs) (hptr : β (y, 0) = .pointer (some ⟨b, 0, none⟩)) (hb : w.heap[b]? = some (.cells ⟨l⟩ E (0, 0)))
    (_hl : l'.length = l.length) (hparts : RParts S w β y cs' l') (hown : ∀ i, (AV.box cs').ownsAt i = true → (AV.box cs).ownsAt i = true) :
    Mem e G S β ((y, .box cs') :: fr) vals (w.setRow b ⟨l'⟩) := by
  have hob : (fget fr y).ownsAt 0 = true := by rw [hf]; rfl
  have hbb : blk (β (y, 0)) = some b := by rw [hptr]; rfl
  have hother : ∀ k, k ≠ b → (w.setRow b ⟨l'⟩).heap[k]? = w.heap[k]? := fun k hk => setRow_other w b k _ hk
  have hag : Agree S w (w.setRow b ⟨l'⟩) := fun k hS => hother k fun h => (hm.fre y 0 b hob hbb).1 (h ▸ hS)
  have hoth : ∀ z j k, (z, j) ≠ (y, 0) → (fget fr z).ownsAt j = true → blk (β (z, j)) = some k → (w.setRow b ⟨l'⟩).heap[k]? = w.heap[k]? := by
    intro z j k hne ho hk
    refine hother k fun h => hne ?_
    subst h
    obtain ⟨h1, h2⟩ := hm.dis z j y 0 k ho hob hk hbb
    rw [h1, h2]
  refine hm.change y (.box cs') (slotP y) (fget_cons_self _ _ _) (fun z hz => .inl ⟨fget_cons_ne _ _ (Ne.symm hz), fun _ => rfl⟩) (fun _ _ _ => rfl) (fun _ _ => rfl) (fun _ _ _ h => h) ?_ (fun l a h => by cases h) ?_ ?_ ?_ (fun _ h => h) (fun _ h => .inl h) hag (fun z j k hz ho hk => hoth z j k (by simp [hz]) ho hk) ?_ (by simp) rfl rfl rfl
  · obtain ⟨u, hr, hu⟩ := hm.rel y
    rw [hf] at hr
    obtain ⟨h0, b', l0, E', h1, h2, h3⟩ := hr
    refine ⟨u, ⟨h0, b, l', E, by rw [h0]; exact hptr, setRow_heap w b _ _ E (0, 0) hb, ?_⟩, hu⟩
    refine All2.mono hparts fun j c v hc _ hr => ?_
    simp only [Nat.zero_add] at hr ⊢
    refine hr.turn (fun _ h => h) hag rfl (fun _ _ => ⟨rfl, by rw [hptr]; exact tyAt_setRow hb⟩) (fun ho k hk => hoth y (j + 1) k (by simp) ?_ hk) (fun _ _ => rfl)
    rw [hf]
    exact hown (j + 1) (by simp [AV.ownsAt, hc, ho])
  · intro i j k h1 h2 h3 h4
    exact (hm.dis y i y j k (by rw [hf]; exact hown i h1) (by rw [hf]; exact hown j h2) h3 h4).2
  · intro i z j k h1 hz h2 h3 h4
    exact hz (hm.dis y i z j k (by rw [hf]; exact hown i h1) h2 h3 h4).1.symm
  · intro i k h1 h2
    exact hm.fre y i k (by rw [hf]; exact hown i h1) h2
  · intro k h1 h2
    refine hother k fun h => ?_
    subst h
    rcases (hm.fre y 0 k hob hbb).2 with h' | h'
    · omega
    · exact h2 h'

theorem spl_map_get {cs ds : List AV} {off : Nat} (h : off + ds.length ≤ cs.length) {i : Nat} (ho : (AV.box (spl off ds cs)).ownsAt i = true) (hp : ∀ c ∈ ds, c.isOwn = false) : (AV.box cs).ownsAt i = true := by
  cases i with
  | zero => rfl
  | succ i =>
    simp only [AV.ownsAt] at ho ⊢
    rw [spl_get h] at ho
    split at ho
    · cases hd : ds[i - off]? with
      | none => simp [hd] at ho
      | some c =>
        have := hp c (List.mem_of_getElem? hd)
        simp [hd, this] at ho
    · exact ho

theorem effStore_ok {N : Nat} (hN : a.tmps.size = N) (hm : Mem e G S β fr (valsOf e a) w) {T : TypeId} {hint : Hint} {hes : Option (List (List Dat))} {x : Operand} {addr : AV} {fr' : Fr} {obl : Prop}
    (h : effStore P N T hint hes x addr (oval N [] fr x) fr = some (fr', obl)) (ho : obl) {u : Value} (hr : RFlat S w β (0, 0) addr u) :
    ∃ w', (Instr.storeAt T u (a.eval x)).run P w = .ok () w' ∧ AfterS e G fr' a w' := by
  have hval := oval_ok hm hN [] rfl x
  unfold effStore at h
  split at h
  · rename_i y off i hi
    split at h
    case h_2 => cases h
    rename_i cs hf
    obtain ⟨b, hptr, rfl⟩ := hr
    have hbox : ∃ l E, w.heap[b]? = some (.cells ⟨l⟩ E (0, 0)) ∧ RParts S w β y cs l := by
      obtain ⟨u', hr', _⟩ := hm.rel y
      rw [hf] at hr'
      obtain ⟨h0, b', l, E, h2, h3, h4⟩ := hr'
      rw [← h0, h2] at hptr
      simp only [Value.pointer.injEq, Option.some.injEq, Addr.mk.injEq] at hptr
      obtain ⟨rfl, _⟩ := hptr
      exact ⟨l, E, h3, h4⟩
    obtain ⟨l, E, hb, hparts⟩ := hbox
    have hlen : l.length = cs.length := (All2.len hparts).symm
    have plainly : (match cellsA (oval N [] fr x) with
        | some ds => if ds.length = i.size ∧ off + ds.length ≤ cs.length then some ((y, AV.box (spl off ds cs)) :: fr, True) else none
        | none => none) = some (fr', obl) → ∃ w', (Instr.storeAt T (.pointer (some ⟨b, off, none⟩)) (a.eval x)).run P w = .ok () w' ∧ AfterS e G fr' a w' := by
      intro h
      split at h
      case h_2 => cases h
      rename_i ds hds
      split at h
      case isFalse => cases h
      rename_i hc
      simp only [Option.some.injEq, Prod.mk.injEq] at h
      obtain ⟨rfl, _⟩ := h
      obtain ⟨h1, h2, h3, h4⟩ := cellsA_ok hds hval y
      have hl2 : (a.eval x).cells.size = ds.length := by simpa using h1
      have hrun := run_storeVar_row' hi b off ⟨l⟩ E (0, 0) hb (fun k _ h => by simp at h) (a.eval x) (by rw [hl2]; exact hc.1) (by rw [hl2]; simpa [hlen] using hc.2) h4
      refine ⟨_, hrun, S, β, hm.storeBox hf hptr hb (spl_len (by simp; omega)) ?_ (fun i ho => spl_map_get hc.2 ho fun c hc => plain_isOwn (h3 c hc))⟩
      refine All2.of_get (by rw [spl_len hc.2, spl_len (by simp; omega)]; exact All2.len hparts) fun j p c hp hcj => ?_
      rw [spl_get hc.2] at hp
      rw [spl_get (by simp; omega)] at hcj
      rw [h1] at hcj
      split at hp
      · rename_i hin
        rw [if_pos hin] at hcj
        obtain ⟨c', hc', hrc⟩ := All2.get h2 (j - off) p hp
        rw [hcj] at hc'
        cases hc'
        exact plain_path (h3 p (List.mem_of_getElem? hp)) hrc
      · rename_i hin
        rw [if_neg hin] at hcj
        obtain ⟨c', hc', hrc⟩ := All2.get hparts j p hp
        rw [hcj] at hc'
        cases hc'
        exact hrc
    simp only at h
    split at h
    case h_2 => exact plainly h
    rename_i s
    split at h
    case h_2 => exact plainly h
    rename_i κ sz es hs
    split at h
    case isFalse => cases h
    rename_i hc
    obtain ⟨hsy, hsN, hi1, hoff⟩ := hc
    simp only [Option.some.injEq, Prod.mk.injEq] at h
    obtain ⟨rfl, _⟩ := h
    -- the owner of slot s goes into the cell (y, off + 1)
    have hsl : s < a.tmps.size := by rw [hN]; exact hsN
    have hd := hm.drop s
    have hfd : fget ((s, AV.junk) :: fr) y = .box cs := by rw [fget_cons_ne _ _ hsy]; exact hf
    obtain ⟨u0, hr0, hu0⟩ := hm.rel s
    have hus : a.eval (.tmp s) = u0 := hu0 _ (eval_tmp hsl)
    rw [hs] at hr0
    have hown : OwnAt S w u0 κ sz es := hr0.2
    have hub : u0 = β (s, 0) := hr0.1
    have hcells : (a.eval (.tmp s)).cells = #[u0] := by
      rw [hus]
      rcases hown with ⟨h, _⟩ | ⟨b, off, c, arr, E, fz, h, _⟩ <;> (rw [h]; rfl)
    have hone : u0.oneCell' = true := by
      rcases hown with ⟨h, _⟩ | ⟨b, off, c, arr, E, fz, h, _⟩ <;> (rw [h]; rfl)
    have hrun := run_storeVar_row' hi b off ⟨l⟩ E (0, 0) hb (fun k _ h => by simp at h) (a.eval (.tmp s)) (by rw [hcells, hi1]; rfl) (by rw [hcells]; simp; omega) (by rw [hcells]; simpa using hone)
    rw [hcells] at hrun
    have hob : (fget fr y).ownsAt 0 = true := by rw [hf]; rfl
    have hbb : blk (β (y, 0)) = some b := by rw [hptr]; rfl
    have hos : (fget fr s).ownsAt 0 = true := by rw [hs]; rfl
    have hsb : ∀ k, blk (β (s, 0)) = some k → k ≠ b := by
      intro k hk h
      subst h
      exact hsy (hm.dis s 0 y 0 k hos hob hk hbb).1
    let w' := w.setRow b (spl off [u0] l).toArray
    have hother : ∀ k, k ≠ b → w'.heap[k]? = w.heap[k]? := fun k hk => setRow_other w b k _ hk
    have hag : Agree S w w' := fun k hS => hother k fun h => (hm.fre y 0 b hob hbb).1 (h ▸ hS)
    have hoth : ∀ z j k, (z, j) ≠ (y, 0) → (fget fr z).ownsAt j = true → blk (β (z, j)) = some k → w'.heap[k]? = w.heap[k]? := by
      intro z j k hne ho hk
      refine hother k fun h => hne ?_
      subst h
      obtain ⟨h1, h2⟩ := hm.dis z j y 0 k ho hob hk hbb
      rw [h1, h2]
    have hcase : ∀ i, (AV.box ((cs.map (AV.purge1 (cellP y off))).set off (.own κ sz es))).ownsAt i = true → i = off + 1 ∨ (i ≠ off + 1 ∧ (fget fr y).ownsAt i = true) := by
      intro i h
      rcases box_ownsAt_set h with ⟨h1, _⟩ | ⟨h1, h2⟩
      · exact .inl h1
      · refine .inr ⟨h1, ?_⟩
        rw [hf]
        exact AV.purge_ownsAt (cellP y off) (.box cs) i h2
    have hdrop : ∀ z j, (fget ((s, AV.junk) :: fr) z).ownsAt j = true → z ≠ s ∧ (fget fr z).ownsAt j = true := by
      intro z j h
      by_cases hz : z = s
      · subst hz
        rw [fget_cons_self] at h
        cases j <;> simp [AV.ownsAt, AV.isOwn] at h
      · rw [fget_cons_ne _ _ (Ne.symm hz)] at h
        exact ⟨hz, h⟩
    have hnew : ∀ i k, (AV.box ((cs.map (AV.purge1 (cellP y off))).set off (.own κ sz es))).ownsAt i = true → blk ((fun p => if p = (y, off + 1) then β (s, 0) else β p) (y, i)) = some k →
        (i = off + 1 ∧ blk (β (s, 0)) = some k) ∨ (i ≠ off + 1 ∧ (fget fr y).ownsAt i = true ∧ blk (β (y, i)) = some k) := by
      intro i k h1 h2
      rcases hcase i h1 with rfl | ⟨h3, h4⟩
      · simp only [if_true] at h2
        exact .inl ⟨rfl, h2⟩
      · have : (y, i) ≠ (y, off + 1) := by simp; exact h3
        simp only [this, if_false] at h2
        exact .inr ⟨h3, h4, h2⟩
    refine ⟨w', hrun, S, fun p => if p = (y, off + 1) then β (s, 0) else β p, ?_⟩
    refine hd.change y (.box ((cs.map (AV.purge1 (cellP y off))).set off (.own κ sz es))) (cellP y off) (fget_cons_self _ _ _) (fun z hz => .inr ?_) (fun z j hz => by simp [hz]) (fun p hp => if_neg (cellP_ne hp)) (fun _ _ _ h => h) ?_ (fun l a h => by cases h) ?_ ?_ ?_ (fun _ h => h) (fun _ h => .inl h) hag (fun z j k hz ho hk => hoth z j k (by simp [hz]) (hdrop z j ho).2 hk) ?_ (by simp [w']) rfl rfl rfl
    · rw [fget_cons_ne _ _ (Ne.symm hz)]
      exact fget_purgeP _ z _
    · obtain ⟨u, hr, hu⟩ := hm.rel y
      rw [hf] at hr
      obtain ⟨h0, _⟩ := hr
      refine ⟨u, ⟨by simpa using h0, b, spl off [u0] l, E, by rw [h0]; exact hptr, setRow_heap w b _ _ E (0, 0) hb, ?_⟩, hu⟩
      refine All2.of_get (by rw [spl_len (by simp; omega)]; simpa using All2.len hparts) fun j p c hp hcj => ?_
      rw [List.getElem?_set] at hp
      rw [spl_get (by simp; omega)] at hcj
      simp only [List.length_cons, List.length_nil, Nat.zero_add] at hcj
      by_cases hj : off = j
      · subst hj
        rw [if_pos rfl, if_pos (by simp; omega)] at hp
        simp only [Option.some.injEq] at hp
        subst hp
        rw [if_pos (by omega)] at hcj
        simp only [Nat.sub_self, List.getElem?_cons_zero, Option.some.injEq] at hcj
        subst hcj
        refine ⟨by simpa using hub, hown.turn (fun _ h => h) hag fun k hk => hother k (hsb k (by rw [← hub]; exact hk))⟩
      · rw [if_neg hj] at hp
        rw [if_neg (by omega)] at hcj
        simp only [List.getElem?_map, Option.map_eq_some_iff] at hp
        obtain ⟨p0, hp0, rfl⟩ := hp
        obtain ⟨c', hc', hrc⟩ := All2.get hparts j p0 hp0
        rw [hcj] at hc'
        cases hc'
        simp only [Nat.zero_add] at hrc ⊢
        refine (hrc.purge (cellP y off)).turn (fun _ h => h) hag ?_ (fun _ _ => ⟨by simp, by rw [hptr]; exact tyAt_setRow hb⟩) (fun ho k hk => hoth y (j + 1) k (by simp) ?_ hk) fun q hq => ?_
        · have : (y, j + 1) ≠ (y, off + 1) := by simp; omega
          simp [this]
        · rw [hf]
          simp [AV.ownsAt, hp0, AV.purge1_isOwn _ _ ho]
        · exact if_neg (cellP_ne (AV.purge1_paths (AV.paths01 _ _ hq)).1)
    · intro i j k h1 h2 h3 h4
      rcases hnew i k h1 h3 with ⟨rfl, h5⟩ | ⟨_, h5, h6⟩ <;> rcases hnew j k h2 h4 with ⟨rfl, h7⟩ | ⟨_, h7, h8⟩
      · rfl
      · exact absurd (hm.dis s 0 y j k hos h7 h5 h8).1 hsy
      · exact absurd (hm.dis s 0 y i k hos h5 h7 h6).1 hsy
      · exact (hm.dis y i y j k h5 h7 h6 h8).2
    · intro i z j k h1 hz h2 h3 h4
      obtain ⟨hzs, h2'⟩ := hdrop z j h2
      rcases hnew i k h1 h3 with ⟨rfl, h5⟩ | ⟨_, h5, h6⟩
      · exact hzs (hm.dis z j s 0 k h2' hos h4 h5).1
      · exact hz (hm.dis y i z j k h5 h2' h6 h4).1.symm
    · intro i k h1 h2
      rcases hnew i k h1 h2 with ⟨rfl, h5⟩ | ⟨_, h5, h6⟩
      · exact hm.fre s 0 k hos h5
      · exact hm.fre y i k h5 h6
    · intro k h1 h2
      refine hother k fun h => ?_
      subst h
      rcases (hm.fre y 0 k hob hbb).2 with h' | h'
      · omega
      · exact h2 h'
  · rename_i p sz k off i hi
    split at h
    case h_2 => cases h
    rename_i κ sz' es hp
    split at h
    case h_2 => cases h
    rename_i ds hds
    split at h
    case isFalse => cases h
    rename_i hc
    obtain ⟨rfl, hdl, hle⟩ := hc
    simp only [Option.some.injEq, Prod.mk.injEq] at h
    obtain ⟨rfl, rfl⟩ := h
    obtain ⟨ho1, ho2⟩ := ho
    rw [← ho2]
    obtain ⟨b, o, n, c, hptr, rfl⟩ := hr
    have hown := pget_own hm hp
    rcases hown with ⟨_, rfl⟩ | ⟨b', o', c', arr, E, fz, h1, h2, h3, hfr, hb, hκ, hcs⟩
    · simp at ho1
    rw [hptr] at h1
    simp only [Value.slice.injEq, Option.some.injEq, Addr.mk.injEq] at h1
    obtain ⟨⟨rfl, rfl, _⟩, rfl, rfl⟩ := h1
    obtain ⟨hd1, hd2⟩ := cellsD_ok hds hval (fun x v => RD_one x v)
    have hl2 : (a.eval x).cells.size = ds.length := by simpa using hd1
    have hk : k < es.length := (List.getElem?_eq_some_iff.1 ho1).1
    have hks : k * sz + sz ≤ es.length * sz := by
      have : (k + 1) * sz ≤ es.length * sz := Nat.mul_le_mul_right _ hk
      rwa [Nat.add_mul, Nat.one_mul] at this
    have hcap : o + es.length * sz ≤ arr.size := Nat.le_trans (Nat.add_le_add_left (Nat.mul_le_mul_right _ h2) _) h3
    have hele := REs.get es o k hint.cs hcs ho1
    have hsle : o + (k * sz + off) + (a.eval x).cells.toList.length ≤ arr.toList.length := by simp [hl2]; omega
    have hrun := run_storeVar_row' hi b (o + (k * sz + off)) arr E fz hb hfr (a.eval x) (by omega) (by simpa using hsle) (RCs.one hd2 hd1)
    have how := pget_owns hp
    have hbb : blk (β p) = some b := by rw [hptr]; rfl
    have hag : Agree S w (w.setRow b (spl (o + (k * sz + off)) (a.eval x).cells.toList arr.toList).toArray) := fun j hS => setRow_other w b j _ fun h => (hm.fre p.1 p.2 b how hbb).1 (h ▸ hS)
    refine ⟨_, hrun, S, β, hm.pset hp rfl ⟨rfl, .inr ⟨b, o, c, _, E, fz, by rw [hptr]; simp, by simpa using h2, ?_, ?_, setRow_heap w b _ _ E fz hb, hκ, ?_⟩⟩ (fun _ h => h) (fun _ h => .inl h) (fun j hj => setRow_other w b j _ fun h => hj (by rw [h]; exact hbb)) (by simp) rfl rfl rfl⟩
    · rw [List.size_toArray, spl_len hsle]
      simpa using h3
    · intro q hq
      rw [List.size_toArray, spl_len hsle] at hq
      exact hfr q (by simpa using hq)
    · refine REs.mono (fun _ h => h) hag _ _ _ _ (REs.of_get _ _ fun j x' hj => ?_)
      rw [List.getElem?_set] at hj
      by_cases hkj : k = j
      · subst hkj
        rw [if_pos rfl, if_pos hk] at hj
        simp only [Option.some.injEq] at hj
        subst hj
        have hsl : off + ds.length ≤ hint.cs.length := by rw [hele.1]; exact hle
        refine ⟨by rw [spl_len hsl]; exact hele.1, RCs.of_get _ _ fun m y hm' => ?_⟩
        rw [spl_get hsl] at hm'
        simp only [List.getElem?_toArray]
        rw [spl_get hsle]
        split at hm'
        · rename_i hin
          obtain ⟨v, hv, hrv⟩ := RCs.get ds 0 (m - off) y hd2 hm'
          refine ⟨v, ?_, hrv⟩
          rw [if_pos (by simp [hl2]; omega)]
          simp only [Nat.zero_add] at hv
          rw [← hv]
          congr 1
          omega
        · rename_i hin
          obtain ⟨v, hv, hrv⟩ := RCs.get hint.cs _ m y hele.2 hm'
          refine ⟨v, ?_, hrv⟩
          rw [if_neg (by simp [hl2]; omega)]
          simpa using hv
      · rw [if_neg hkj] at hj
        obtain ⟨h5, h6⟩ := REs.get es o j x' hcs hj
        refine ⟨h5, RCs.congr _ _ _ (fun m hm' => ?_) h6⟩
        simp only [List.getElem?_toArray]
        rw [spl_get hsle, if_neg]
        · simp
        · rw [h5] at hm'
          simp only [Array.length_toList, hl2]
          intro hcon
          rcases Nat.lt_or_ge j k with hlt | hge
          · have : (j + 1) * sz ≤ k * sz := Nat.mul_le_mul_right _ hlt
            rw [Nat.add_mul, Nat.one_mul] at this
            omega
          · have : (k + 1) * sz ≤ j * sz := Nat.mul_le_mul_right _ (by omega)
            rw [Nat.add_mul, Nat.one_mul] at this
            omega
  · cases h

end
end Go.Vm
