/-
  THE V-MACHINE, part 30: results that lie in variables.
-/
import Derived.Test.YtnjggcljonbleaaDoorVmDraw2
namespace Go.Vm

/-- The slots that hold the results, where each result in a variable is held by one more slot behind all others. -/
def cellsOf (P : Program) (N0 : Nat) : List ResultVar → Nat → Fr → Option (List Nat × Nat × Fr)
  | [], N, fr => some ([], N, fr)
  | .tmp t :: r, N, fr => if t < N0 then match cellsOf P N0 r N fr with
      | some (ts, N', fr') => some (t :: ts, N', fr')
      | none => none
    else none
  | .cell s t :: r, N, fr => if s < N0 then match fget fr s, loadR P t {} fr (.bp s 0) with
      | .box _, some (av, _) => if av.plain then
          match cellsOf P N0 r (N + 1) (setA N av fr) with
          | some (ts, N', fr') => some (N :: ts, N', fr')
          | none => none
        else none
      | _, _ => none
    else none

section
variable {P : Program} {e : Env} {G : GEnv} {S : Nat → Prop} {β : Path → Value} {fr : Fr} {w : World} {a : Act} {N : Nat}

theorem push_mem (hm : Mem e G S β fr (valsOf e a) w) (hN : a.tmps.size = N) {av : AV} {u : Value} (hp : av.plain = true) (hr : RFlat S w β (0, 0) av u) : Mem e G S β (setA N av fr) (valsOf e { a with tmps := a.tmps.push u }) w := by
  refine hm.setPlain N av u _ (fun y hy => ?_) (fun u' h => ?_) (plain_slot hp hr) (plain_ownsAt hp) (fun l a h => by rw [h] at hp; cases hp)
  · simp only [valsOf]
    rw [Array.getElem?_push, if_neg (by omega)]
  · simp only [valsOf] at h
    rw [Array.getElem?_push, if_pos (by omega)] at h
    simpa using h.symm

theorem loadR_bp {t : TypeId} {s : Nat} {av : AV} {obl : Prop} {cs : List AV} (hf : fget fr s = .box cs) (h : loadR P t {} fr (.bp s 0) = some (av, obl)) : obl := by
  simp only [loadR, hf] at h
  split at h
  · simp only [Option.map_eq_some_iff, Prod.mk.injEq] at h
    obtain ⟨_, _, _, rfl⟩ := h
    trivial
  · split at h
    · simp only [Option.map_eq_some_iff, Prod.mk.injEq] at h
      obtain ⟨_, _, _, rfl⟩ := h
      trivial
    · cases h
  · cases h

theorem getD_push {tmps : Array Value} {u : Value} {t : Nat} (h : t < tmps.size) : (tmps.push u).getD t undef = tmps.getD t undef := by
  simp only [Array.getD_eq_getD_getElem?]
  rw [Array.getElem?_push, if_neg (by omega)]

theorem cells_ok {N0 : Nat} {tmps0 : Array Value} : ∀ (rs : List ResultVar) (N : Nat) (fr fr' : Fr) (ts : List Nat) (N' : Nat) (a : Act), N0 ≤ N → a.tmps.size = N → (∀ t, t < N0 → a.tmps.getD t undef = tmps0.getD t undef) → Mem e [] S β fr (valsOf e a) w → cellsOf P N0 rs N fr = some (ts, N', fr') →
    ∃ a' : Act, a'.tmps.size = N' ∧ N ≤ N' ∧ (∀ t, t < N → a'.tmps.getD t undef = a.tmps.getD t undef) ∧ Mem e [] S β fr' (valsOf e a') w ∧
      (rs.mapM (m := Sem) fun
        | .tmp t => pure (tmps0.getD t undef)
        | .cell a t => do loadVar t (← asAddr (tmps0.getD a undef))).run P w = .ok (ts.map fun t => a'.tmps.getD t undef) w
  | [], N, fr, fr', ts, N', a, _, hN, _, hm, h => by
    simp only [cellsOf, Option.some.injEq, Prod.mk.injEq] at h
    obtain ⟨rfl, rfl, rfl⟩ := h
    exact ⟨a, hN, Nat.le_refl _, fun _ _ => rfl, hm, rfl⟩
  | .tmp t :: rs, N, fr, fr', ts, N', a, h0, hN, hold, hm, h => by
    simp only [cellsOf] at h
    split at h
    case isFalse => cases h
    rename_i ht
    split at h
    case h_2 => cases h
    rename_i ts1 N1 fr1 h1
    simp only [Option.some.injEq, Prod.mk.injEq] at h
    obtain ⟨rfl, rfl, rfl⟩ := h
    obtain ⟨a', g1, g2, g3, g4, g5⟩ := cells_ok (tmps0 := tmps0) rs N fr _ ts1 _ a h0 hN hold hm h1
    refine ⟨a', g1, g2, g3, g4, ?_⟩
    simp only [List.mapM_cons, Sem.run_bind, Sem.run_pure, Result.andThen_ok, g5, List.map_cons]
    rw [g3 t (Nat.lt_of_lt_of_le ht h0), hold t ht]
  | .cell s t :: rs, N, fr, fr', ts, N', a, h0, hN, hold, hm, h => by
    simp only [cellsOf] at h
    split at h
    case isFalse => cases h
    rename_i hs
    split at h
    case h_2 => cases h
    rename_i cs av obl hf hl
    split at h
    case isFalse => cases h
    rename_i hp
    split at h
    case h_2 => cases h
    rename_i ts1 N1 fr1 h1
    simp only [Option.some.injEq, Prod.mk.injEq] at h
    obtain ⟨rfl, rfl, rfl⟩ := h
    obtain ⟨u0, hr0, hu0⟩ := hm.rel s
    have hsz : s < a.tmps.size := by rw [hN]; exact Nat.lt_of_lt_of_le hs h0
    have hev := hu0 _ (eval_tmp (e := e) hsz)
    rw [hf] at hr0
    have hbp : RFlat S w β (0, 0) (.bp s 0) (a.eval (.tmp s)) := by
      rw [hev]
      exact read_ok (t := s) (a := .box cs) hr0
    obtain ⟨v, hv1, hv2, _⟩ := loadR_ok (P := P) hm hl (loadR_bp hf hl) hbp
    obtain ⟨a', g1, g2, g3, g4, g5⟩ := cells_ok (tmps0 := tmps0) rs (N + 1) (setA N av fr) _ ts1 _ { a with tmps := a.tmps.push v } (by omega) (by simp [hN]) (fun t ht => by
      show (a.tmps.push v).getD t undef = _
      rw [getD_push (by rw [hN]; exact Nat.lt_of_lt_of_le ht h0)]
      exact hold t ht) (push_mem hm hN hp hv2) h1
    refine ⟨a', g1, by omega, fun t ht => by rw [g3 t (by omega), getD_push (by omega)], g4, ?_⟩
    have hN2 : a'.tmps.getD N undef = v := by
      rw [g3 N (by omega)]
      simp only [Array.getD_eq_getD_getElem?]
      rw [Array.getElem?_push, if_pos hN.symm]
      rfl
    have hrun : (do loadVar t (← asAddr (tmps0.getD s undef)) : Sem Value).run P w = .ok v w := by
      rw [← hold s hs]
      have h2 : a.tmps.getD s undef = a.eval (.tmp s) := rfl
      rw [h2]
      obtain ⟨b, _, hb⟩ := hbp
      rw [hb] at hv1 ⊢
      exact hv1
    rw [List.mapM_cons, Sem.run_bind, hrun, List.map_cons, hN2]
    simp only [Result.andThen_ok, Sem.run_bind, g5, Sem.run_pure]

theorem T_returnC {fn : Func} (cs : List Co) {fr fr' : Fr} (h : coAll cs fr = some fr') {ts : List Nat} {N' : Nat} {fr2 : Fr} (hc : cellsOf P N fn.results.toList N fr' = some (ts, N', fr2)) (hNr : decide (N' ≤ resSlot) = true) (ho : resOk N' fr2 ts = true) {res : AV} (hres : resAV fr2 ts = res) {vout : List AV} (hv : voutOk fr2 virtBase vout) :
    ∀ a w, MemA e [] N fr a w → RPost P fn e res vout .ret a w := by
  intro a w hm
  obtain ⟨h1, h2, S, β, hm'⟩ := hm.co h
  obtain ⟨a', g1, _, _, g4, hk⟩ := cells_ok (tmps0 := a.tmps) fn.results.toList N fr' fr2 ts N' a (Nat.le_refl _) h2 (fun _ _ => rfl) hm' hc
  obtain ⟨S', β', hm2⟩ := res_mem g4 g1 (of_decide_eq_true hNr) ho hv rfl
  rw [hres] at hm2
  refine ⟨h1, _, ?_, _, S', β', rfl, hm2⟩
  have e : fn.results = fn.results.toList.toArray := (Array.toArray_toList).symm
  unfold results
  rw [Sem.run_bind, e, List.mapM_toArray, Sem.run_map]
  exact congrArg (fun r : Result (List Value) => (r.andThen fun a w' => Result.ok a.toArray w').andThen fun a w' => Sem.run P (pure (if h : a.size = 1 then a[0] else Value.tuple a)) w') hk
end
end Go.Vm
