/-
  THE V-MACHINE, part 24: what a function hands back; a contract out of its text.
-/
import Derived.Test.YtnjggcljonbleaaDoorVmCode
namespace Go.Vm

/-- The result, out of the slots that hold it. -/
def resAV (fr : Fr) : List Nat → AV
  | [t] => fget fr t
  | ts => .tup (ts.map (fget fr))

/-- May these slots be handed back? -/
def resOk (N : Nat) (fr : Fr) : List Nat → Bool
  | [t] => decide (t < N) && (fget fr t).closed
  | ts => ts.all (fun t => decide (t < N) && (fget fr t).flat && (fget fr t).closed && (fget fr t).noSlf) && nodupB ts

/-- The boxes that were lent, as they are now. -/
def voutOk (fr : Fr) : Nat → List AV → Prop
  | _, [] => True
  | i, a :: r => (fget fr i = a ∧ a.backOk = true) ∧ voutOk fr (i + 1) r

def tmpsOf : List ResultVar → Option (List Nat)
  | [] => some []
  | .tmp t :: r => (tmpsOf r).map (t :: ·)
  | _ => none

section
variable {P : Program} {e : Env} {S : Nat → Prop} {β : Path → Value} {fr : Fr} {w : World} {a : Act} {N : Nat}

/-- The places of the result. -/
def resβ (β : Path → Value) (ts : List Nat) : Path → Value := fun p => if p.1 = resSlot then (match ts with
    | [t] => β (t, p.2)
    | _ => match p.2 with
      | 0 => .bool false
      | j + 1 => β (ts.getD j 0, 0)) else β p
theorem resβ_ne {β : Path → Value} {ts : List Nat} {x i : Nat} (h : x ≠ resSlot) : resβ β ts (x, i) = β (x, i) := by
  unfold resβ
  exact if_neg h
theorem resβ_one {β : Path → Value} {t i : Nat} : resβ β [t] (resSlot, i) = β (t, i) := by
  unfold resβ
  exact if_pos rfl
theorem resβ_many {β : Path → Value} {t1 t2 : Nat} {r : List Nat} {j t : Nat} (h : (t1 :: t2 :: r)[j]? = some t) : resβ β (t1 :: t2 :: r) (resSlot, j + 1) = β (t, 0) := by
  have e : resβ β (t1 :: t2 :: r) (resSlot, j + 1) = β ((t1 :: t2 :: r).getD j 0, 0) := if_pos rfl
  rw [e, List.getD_eq_getElem?_getD, h]
  rfl

theorem own_flat {a : AV} (hf : a.flat = true) (h : a.isOwn = true) : a.ownsAt 0 = true := by
  cases a <;> first | exact h | cases hf

theorem flat_paths {a : AV} {q : Path} (hf : a.flat = true) (h : q ∈ a.paths1) : q ∈ a.paths := by
  cases a <;> first | exact h | cases hf

theorem voutOk_get {fr : Fr} : ∀ {vs : List AV} {i : Nat}, voutOk fr i vs → ∀ (j : Nat) (a : AV), vs[j]? = some a → fget fr (i + j) = a ∧ a.backOk = true
  | [], _, _, j, cs, h => by simp at h
  | v :: vs, i, h, 0, cs, hj => by
    simp at hj
    subst hj
    exact h.1
  | v :: vs, i, h, j + 1, cs, hj => by
    have := voutOk_get h.2 j cs (by simpa using hj)
    rwa [Nat.add_assoc, Nat.add_comm 1 j] at this

theorem res_mem (hm : Mem e [] S β fr (valsOf e a) w) (hN : a.tmps.size = N) (hNr : N ≤ resSlot) {ts : List Nat} (ho : resOk N fr ts = true) {vout : List AV} (hv : voutOk fr virtBase vout) {u : Value}
    (hu : u = (if h : (ts.map fun t => a.tmps.getD t undef).length = 1 then (ts.map fun t => a.tmps.getD t undef)[0] else .tuple (ts.map fun t => a.tmps.getD t undef).toArray)) :
    ∃ S' β', Mem e [] S' β' ((resSlot, resAV fr ts) :: boxFr virtBase vout) (fun x => if x = resSlot then some u else e.vp x) w := by
  have hvals : ∀ t, t < N → valsOf e a t = some (a.tmps.getD t undef) := by
    intro t ht
    have := eval_tmp (e := e) (a := a) (s := t) (by rw [hN]; exact ht)
    simpa [Act.eval] using this
  -- the parts of the result that own, and where they come from
  have hfb : ∀ x, x ≠ resSlot → fget ((resSlot, resAV fr ts) :: boxFr virtBase vout) x = if virtBase ≤ x ∧ x < virtBase + vout.length then vout.getD (x - virtBase) .junk else .junk := fun x h => by
    rw [fget_cons_ne _ _ (Ne.symm h), fget_boxFr]
  have hbx : ∀ x, virtBase ≤ x → x < virtBase + vout.length → fget fr x = vout.getD (x - virtBase) .junk ∧ (vout.getD (x - virtBase) .junk).backOk = true := by
    intro x h1 h2
    have hg : vout[x - virtBase]? = some (vout.getD (x - virtBase) .junk) := by
      rw [List.getD_eq_getElem?_getD, List.getElem?_eq_getElem (by omega)]
      rfl
    have := voutOk_get hv _ _ hg
    rwa [show virtBase + (x - virtBase) = x by omega] at this
  -- every owner of the new frame is an owner of the old one
  have hsrc : ∀ x i, (fget ((resSlot, resAV fr ts) :: boxFr virtBase vout) x).ownsAt i = true → ∃ y k, (fget fr y).ownsAt k = true ∧ resβ β ts (x, i) = β (y, k) ∧ ((x ≠ resSlot ∧ y = x ∧ k = i ∧ virtBase ≤ x) ∨ (x = resSlot ∧ y < N ∧ ((∃ t, ts = [t] ∧ y = t ∧ k = i) ∨ ((∀ t, ts ≠ [t]) ∧ ∃ j, i = j + 1 ∧ ts[j]? = some y ∧ k = 0)))) := by
    intro x i h
    by_cases hx : x = resSlot
    · subst hx
      rw [fget_cons_self] at h
      match ts, ho, h with
      | [t], ho, h =>
        simp only [resAV] at h
        simp only [resOk, Bool.and_eq_true, decide_eq_true_eq] at ho
        exact ⟨t, i, h, resβ_one, .inr ⟨rfl, ho.1, .inl ⟨t, rfl, rfl, rfl⟩⟩⟩
      | [], ho, h => cases i <;> simp [resAV, AV.ownsAt, AV.isOwn] at h
      | t1 :: t2 :: r, ho, h =>
        simp only [resAV] at h
        cases i with
        | zero => simp [AV.ownsAt, AV.isOwn] at h
        | succ j =>
          simp only [AV.ownsAt, List.getElem?_map] at h
          cases hj : (t1 :: t2 :: r)[j]? with
          | none => simp [hj] at h
          | some t =>
            simp only [hj, Option.map_some, Option.getD_some] at h
            simp only [resOk, Bool.and_eq_true, List.all_eq_true, decide_eq_true_eq] at ho
            obtain ⟨⟨⟨h1, h2⟩, _⟩, _⟩ := ho.1 t (List.mem_of_getElem? hj)
            refine ⟨t, 0, ?_, ?_, .inr ⟨rfl, h1, .inr ⟨fun t' => by simp, j, rfl, hj, rfl⟩⟩⟩
            · exact own_flat h2 h
            · exact resβ_many hj
    · rw [hfb x hx] at h
      split at h
      case isFalse => cases i <;> simp [AV.ownsAt, AV.isOwn] at h
      rename_i hc
      refine ⟨x, i, ?_, resβ_ne hx, .inl ⟨hx, rfl, rfl, hc.1⟩⟩
      rw [(hbx x hc.1 hc.2).1]
      exact h
  refine ⟨S, resβ β ts, fun x => ?_, fun x l av h => ?_, fun x i y j b hx hy hxb hyb => ?_, fun x i b hx hxb => ?_, hm.stb, hm.s0, hm.old, hm.os, hm.tape, hm.output, hm.size⟩
  · by_cases hx : x = resSlot
    · subst hx
      rw [fget_cons_self]
      refine ⟨u, ?_, fun u' h => by simpa using h.symm⟩
      match ts, ho, hu with
      | [t], ho, hu =>
        simp only [resOk, Bool.and_eq_true, decide_eq_true_eq] at ho
        obtain ⟨u0, hr, hu0⟩ := hm.rel t
        have huu : u = u0 := by
          rw [hu]
          exact hu0 _ (by simpa using hvals t ho.1)
        subst huu
        have hcl : (fget fr t).paths = [] := by
          have := ho.2
          simp only [AV.closed, Bool.and_eq_true, List.isEmpty_iff] at this
          exact this.1
        exact hr.rename (fun j => resβ_one) (fun q hq => by rw [hcl] at hq; cases hq)
      | [], ho, hu =>
        refine ⟨[], ?_, rfl, trivial⟩
        rw [hu]
        rfl
      | t1 :: t2 :: r, ho, hu =>
        refine ⟨(t1 :: t2 :: r).map fun t => a.tmps.getD t undef, ?_, ?_, ?_⟩
        · rw [hu, dif_neg (by simp)]
        · simp only [resOk, Bool.and_eq_true, List.all_eq_true, decide_eq_true_eq] at ho
          rw [List.all_map, List.all_eq_true]
          exact fun t ht => (ho.1 t ht).2
        · refine All2.of_get (by simp) fun j p c hp hc => ?_
          simp only [List.getElem?_map, Option.map_eq_some_iff] at hp hc
          obtain ⟨t, ht, rfl⟩ := hp
          obtain ⟨t', ht', rfl⟩ := hc
          rw [ht] at ht'
          cases ht'
          simp only [resOk, Bool.and_eq_true, List.all_eq_true, decide_eq_true_eq] at ho
          obtain ⟨⟨⟨h1, h2⟩, h3⟩, h4⟩ := ho.1 t (List.mem_of_getElem? ht)
          obtain ⟨u0, hr, hu0⟩ := hm.rel t
          have := hu0 _ (hvals t h1)
          rw [this]
          have hcl : (fget fr t).paths = [] := by
            simp only [AV.closed, Bool.and_eq_true, List.isEmpty_iff] at h3
            exact h3.1
          refine ((flat_slot h2).1 hr).rename ?_ (.inl h4) fun q hq => ?_
          · rw [Nat.zero_add]
            exact resβ_many ht
          · have : q ∈ (fget fr t).paths := flat_paths h2 (AV.paths01 _ q hq)
            rw [hcl] at this
            cases this
    · rw [hfb x hx]
      split
      · rename_i hc
        obtain ⟨u0, hr, hu0⟩ := hm.rel x
        obtain ⟨hb1, hb2⟩ := hbx x hc.1 hc.2
        rw [hb1] at hr
        refine ⟨u0, hr.turn (fun _ _ _ => rfl) (fun _ h => h) (fun _ _ => rfl) (fun j => resβ_ne hx) (fun _ _ _ _ => rfl) (fun q hq => by rw [back_paths hb2] at hq; cases hq), fun u' h => hu0 u' ?_⟩
        · have : a.tmps[x]? = none := Array.getElem?_eq_none (by
            have q1 : N ≤ 999999 := hNr
            have q2 : 1000000 ≤ x := hc.1
            omega)
          simp only [valsOf, this]
          exact h
      · refine ⟨(e.vp x).getD undef, trivial, fun u' h => ?_⟩
        simp [h]
  · by_cases hx : x = resSlot
    · subst hx
      rw [fget_cons_self] at h
      match ts, ho, h with
      | [t], ho, h =>
        simp only [resOk, Bool.and_eq_true, AV.closed] at ho
        simp only [resAV] at h
        rw [h] at ho
        have := ho.2.2
        cases this
      | [], ho, h => cases h
      | t1 :: t2 :: r, ho, h => cases h
    · rw [hfb x hx] at h
      split at h
      case isFalse => cases h
      rename_i hc
      have := back_noGd (hbx x hc.1 hc.2).2
      rw [h] at this
      cases this
  · obtain ⟨y1, k1, h1, h2, h3⟩ := hsrc x i hx
    obtain ⟨y2, k2, h4, h5, h6⟩ := hsrc y j hy
    rw [h2] at hxb
    rw [h5] at hyb
    obtain ⟨h7, h8⟩ := hm.dis y1 k1 y2 k2 b h1 h4 hxb hyb
    subst h7
    subst h8
    rcases h3 with ⟨g1, g2, g3, g4⟩ | ⟨g1, g2, g3⟩ <;> rcases h6 with ⟨f1, f2, f3, f4⟩ | ⟨f1, f2, f3⟩
    · exact ⟨g2.symm.trans f2, g3.symm.trans f3⟩
    · subst g2
      have q1 : N ≤ 999999 := hNr
      have q2 : 1000000 ≤ y1 := g4
      omega
    · subst f2
      have q1 : N ≤ 999999 := hNr
      have q2 : 1000000 ≤ y1 := f4
      omega
    · refine ⟨g1.trans f1.symm, ?_⟩
      rcases g3 with ⟨t, g3, g4, g5⟩ | ⟨gn, j1, g4, g5, g6⟩ <;> rcases f3 with ⟨t', f3, f4, f5⟩ | ⟨fn, j2, f4, f5, f6⟩
      · exact g5.symm.trans f5
      · exact absurd g3 (fn t)
      · exact absurd f3 (gn t')
      · have hnd : ts.Nodup := by
          match ts, ho, gn with
          | [t], _, gn => exact absurd rfl (gn t)
          | [], _, _ => exact List.nodup_nil
          | t1 :: t2 :: r, ho, _ =>
            simp only [resOk, Bool.and_eq_true] at ho
            exact nodupB_ok ho.2
        obtain ⟨p1, q1⟩ := List.getElem?_eq_some_iff.1 g5
        obtain ⟨p2, q2⟩ := List.getElem?_eq_some_iff.1 f5
        have : j1 = j2 := (List.getElem_inj (h₀ := p1) (h₁ := p2) hnd).1 (by rw [q1, q2])
        omega
  · obtain ⟨y1, k1, h1, h2, _⟩ := hsrc x i hx
    rw [h2] at hxb
    exact hm.fre y1 k1 b h1 hxb

/-- What a function's end owes. -/
def RPost (P : Program) (fn : Func) (e : Env) (res : AV) (vout : List AV) : Exit → Act → World → Prop :=
  bodyPost P fn fun e' w' => ∃ u S' β', e' = .returned u ∧ Mem e [] S' β' ((resSlot, res) :: boxFr virtBase vout) (fun x => if x = resSlot then some u else e.vp x) w'

theorem results_run {fn : Func} {ts : List Nat} (h : tmpsOf fn.results.toList = some ts) (tmps : Array Value) :
    (results fn tmps).run P w = .ok (if h : (ts.map fun t => tmps.getD t undef).length = 1 then (ts.map fun t => tmps.getD t undef)[0] else .tuple (ts.map fun t => tmps.getD t undef).toArray) w := by
  have key : ∀ (l : List ResultVar) (ts : List Nat), tmpsOf l = some ts → (l.mapM (m := Sem) fun
      | .tmp t => pure (tmps.getD t undef)
      | .cell a t => do loadVar t (← asAddr (tmps.getD a undef))).run P w = .ok (ts.map fun t => tmps.getD t undef) w := by
    intro l
    induction l with
    | nil => intro ts h; simp only [tmpsOf, Option.some.injEq] at h; subst h; rfl
    | cons r l ih =>
      intro ts h
      cases r with
      | cell a t => simp [tmpsOf] at h
      | tmp t =>
        simp only [tmpsOf, Option.map_eq_some_iff] at h
        obtain ⟨ts', h1, rfl⟩ := h
        simp only [List.mapM_cons, Sem.run_bind, Sem.run_pure, Result.andThen_ok, ih ts' h1, List.map_cons]
  have hk := key fn.results.toList ts h
  have e : fn.results = fn.results.toList.toArray := (Array.toArray_toList).symm
  unfold results
  rw [Sem.run_bind, e, List.mapM_toArray, Sem.run_map]
  exact congrArg (fun r : Result (List Value) => (r.andThen fun a w' => Result.ok a.toArray w').andThen fun a w' => Sem.run P (pure (if h : a.size = 1 then a[0] else Value.tuple a)) w') hk

theorem T_return {fn : Func} (ts : List Nat) (hts : tmpsOf fn.results.toList = some ts) (cs : List Co) {fr fr' : Fr} (h : coAll cs fr = some fr') (hNr : decide (N ≤ resSlot) = true) (ho : resOk N fr' ts = true) {res : AV} (hres : resAV fr' ts = res) {vout : List AV} (hv : voutOk fr' virtBase vout) :
    ∀ a w, MemA e [] N fr a w → RPost P fn e res vout .ret a w := by
  intro a w hm
  obtain ⟨h1, h2, S, β, hm'⟩ := hm.co h
  obtain ⟨S', β', hm2⟩ := res_mem hm' h2 (of_decide_eq_true hNr) ho hv rfl
  rw [hres] at hm2
  exact ⟨h1, _, results_run hts a.tmps, _, S', β', rfl, hm2⟩

/-- THE CONTRACT OUT OF THE TEXT. -/
theorem ACall.intro {k : Nat} {fn : Func} {c : Code} (hf : P.funcs[k]? = some fn) (hb : fn.body = some c) (hname : (fn.name == "runtime.NumGoroutine") = false) (hN : fn.ntmps = N) {args : List AV} (hlen : decide (args.length ≤ N) = true) (hNr : decide (N ≤ resSlot) = true) {vin vout : List AV} {res : AV}
    (hT : ∀ e : Env, T P e N c (finFr args vin) (RPost P fn e res vout)) : ACall P k args vin res vout := by
  have hlen' := of_decide_eq_true hlen
  have hNr' : N ≤ 999999 := of_decide_eq_true hNr
  refine ⟨⟨fn, hf, by simp [hb], hname⟩, fun w S β us hus hm => ?_⟩
  refine calls_of_wp hf hb (hT _ _ w ⟨rfl, by simp; omega, S, β, ?_⟩)
  have hsz : (us.toArray ++ Array.replicate (fn.ntmps - us.toArray.size) undef).size = N := by simp; omega
  refine ⟨fun x => ?_, hm.gok, hm.dis, hm.fre, hm.stb, hm.s0, hm.old, hm.os, hm.tape, hm.output, hm.size⟩
  obtain ⟨u, hr, hu⟩ := hm.rel x
  by_cases hx : x < args.length
  · refine ⟨u, hr, fun u' h => hu u' ?_⟩
    have h1 : us[x]? = some us[x] := List.getElem?_eq_getElem (by omega)
    simp only [valsOf] at h
    rw [Array.getElem?_append_left (by simpa using (by omega : x < us.length))] at h
    simp only [List.getElem?_toArray, h1] at h
    rw [h1]
    simpa using h
  · by_cases hx2 : x < N
    · -- a slot that holds nothing yet
      have hfr : fget (finFr args vin) x = .junk := fget_finFr_none (by omega) (by simp only [virtBase]; omega)
      rw [hfr]
      refine ⟨undef, trivial, fun u' h => ?_⟩
      simp only [valsOf] at h
      rw [Array.getElem?_append_right (by simpa using (by omega : us.length ≤ x))] at h
      rw [Array.getElem?_replicate] at h
      split at h
      · rename_i h'
        split at h' <;> simp_all
      · rename_i h'
        rw [if_pos (by simp; omega)] at h'
        cases h'
    · refine ⟨u, hr, fun u' h => hu u' ?_⟩
      simp only [valsOf] at h
      have hnone : (us.toArray ++ Array.replicate (fn.ntmps - us.toArray.size) undef)[x]? = none := Array.getElem?_eq_none (by rw [hsz]; omega)
      rw [hnone] at h
      have h1 : us[x]? = none := List.getElem?_eq_none (by omega)
      rw [h1]
      simpa using h

end
end Go.Vm
