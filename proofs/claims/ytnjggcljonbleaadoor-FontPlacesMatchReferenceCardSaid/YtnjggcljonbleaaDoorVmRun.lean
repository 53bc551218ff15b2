/-
  THE V-MACHINE, part 22: one step, a region.
-/
import Derived.Test.YtnjggcljonbleaaDoorVmRegion
namespace Go.Vm
section
variable {P : Program} {e : Env} {G : GEnv} {S : Nat → Prop} {β : Path → Value} {fr : Fr} {w : World} {a : Act}

theorem wp_value {o : Oper} {u : Value} {w' : World} (hr : (execOp a.eval o).run P w = .ok (.value u) w') {K : Act → World → Prop} {Q : Exit → Act → World → Prop} (h : K (a.put o.dst u) w') : o.wp P a w K Q := by
  simp only [Oper.wp, Oper.upon, hr]; exact h
theorem wp_skipv {o : Oper} {w' : World} (hr : (execOp a.eval o).run P w = .ok .skip w') {K : Act → World → Prop} {Q : Exit → Act → World → Prop} (h : K (a.put o.dst undef) w') : o.wp P a w K Q := by
  simp only [Oper.wp, Oper.upon, hr]; exact h
theorem wp_enter {o : Oper} {k : Nat} {us : Array Value} (hr : (execOp a.eval o).run P w = .ok (.enter k us) w) {K : Act → World → Prop} {Q : Exit → Act → World → Prop} {R : Value → World → Prop}
    (hc : Calls P k us w fun e' w' => ∃ u, e' = .returned u ∧ R u w') (h : ∀ u w', R u w' → K (a.put o.dst u) w') : o.wp P a w K Q := by
  simp only [Oper.wp, Oper.upon, hr]
  refine hc.mono ?_
  rintro e' w' ⟨u, rfl, hR⟩
  exact h u w' hR

theorem opE_ok {N : Nat} (hN : a.tmps.size = N) (hm : Mem e G S β fr (valsOf e a) w) {hint : Hint} {o : Oper} {fr' : Fr} {obl : Prop} (hdst : ∀ t, o.dst = some t → t < N) (h : opE P N hint fr o = some (fr', obl)) (ho : obl) {K : Act → World → Prop} {Q : Exit → Act → World → Prop}
    (hK : ∀ a' w', (∃ u, a' = a.put o.dst u) → (∃ S β, Mem e G S β fr' (valsOf e a') w') → K a' w') : o.wp P a w K Q := by
  obtain ⟨dst, op, type, pos, after, guard⟩ := o
  have hval := fun x => oval_ok hm hN [] rfl x
  have fin : ∀ {t : Nat} {u : Value} {w' : World} {s : Sem Value} {pos' : String}, dst = some t → s.run P w = .ok u w' → (execOp a.eval ⟨dst, op, type, pos, after, guard⟩ = do pure (Next.value (← s))) → After e G fr' a t u w' → Oper.wp P ⟨dst, op, type, pos, after, guard⟩ a w K Q := by
    intro t u w' s _ hd hs he ha
    refine wp_value (u := u) (w' := w') (by rw [he]; simp [hs]) (hK _ _ ⟨u, rfl⟩ ?_)
    simp only [hd]
    exact ha
  unfold opE at h
  simp only at h hdst
  split at h
  · rename_i s t
    simp only [Option.map_eq_some_iff, Prod.mk.injEq] at h
    obtain ⟨f, hf, rfl, rfl⟩ := h
    have := effMove_ok hN hm (by rw [hN]; exact hdst t rfl) hf
    exact wp_value (u := a.eval (.tmp s)) (w' := w) rfl (hK _ _ ⟨_, rfl⟩ this)
  · rename_i s t
    simp only [Option.map_eq_some_iff, Prod.mk.injEq] at h
    obtain ⟨f, hf, rfl, rfl⟩ := h
    have := effMove_ok hN hm (by rw [hN]; exact hdst t rfl) hf
    exact wp_value (u := a.eval (.tmp s)) (w' := w) rfl (hK _ _ ⟨_, rfl⟩ this)
  · rename_i t
    simp only [Option.map_eq_some_iff, Prod.mk.injEq] at h
    obtain ⟨f, hf, rfl, rfl⟩ := h
    have := effNil_ok hm (by rw [hN]; exact hdst t rfl) hf
    exact wp_value (u := .slice none 0 0) (w' := w) rfl (hK _ _ ⟨_, rfl⟩ this)
  · rename_i T t
    simp only [Option.map_eq_some_iff, Prod.mk.injEq] at h
    obtain ⟨f, hf, rfl, rfl⟩ := h
    obtain ⟨u, w', h1, h2⟩ := effAlloc_ok hm (by rw [hN]; exact hdst t rfl) hf
    exact fin (pos' := pos) rfl h1 rfl h2
  · rename_i T x t
    simp only [Option.map_eq_some_iff, Prod.mk.injEq] at h
    obtain ⟨f, hf, rfl, rfl⟩ := h
    obtain ⟨u, w', h1, h2⟩ := effBox_ok (T := T) hm hN (by rw [hN]; exact hdst t rfl) hf
    exact fin (pos' := pos) rfl h1 rfl h2
  · rename_i T l c t
    obtain ⟨u, w', h1, h2⟩ := effMake_ok hm (by rw [hN]; exact hdst t rfl) h ho (hval l) (hval c)
    exact fin (pos' := pos) rfl h1 rfl h2
  · rename_i T len parts t
    obtain ⟨u, w', h1, h2⟩ := effLit_ok hm (by rw [hN]; exact hdst t rfl) h ho (all2_parts hval parts.toList 0)
    have he : (parts.map fun q => (q.1, a.eval q.2)) = (parts.toList.map fun q => (q.1, a.eval q.2)).toArray := by
      apply Array.ext'
      simp
    exact fin (pos' := pos) rfl h1 (by simp only [execOp]; rw [he]) h2
  · rename_i s j t
    simp only [Option.map_eq_some_iff, Prod.mk.injEq] at h
    obtain ⟨f, hf, rfl, rfl⟩ := h
    obtain ⟨u, h1, h2⟩ := effExtract_ok (P := P) hN hm (by rw [hN]; exact hdst t rfl) hf
    exact fin (pos' := pos) rfl h1 rfl h2
  · rename_i x y t1 t2 t
    obtain ⟨v, w', h1, h2⟩ : ∃ v w', (Builtin.append_ #[t1, t2] type #[a.eval x, a.eval y]).run P w = .ok v w' ∧ After e G fr' a t v w' := by
      split at h
      · rename_i r hr
        simp only [Option.some.injEq] at h
        subst h
        exact effAppend_ok (P := P) (ty := type) hm (by rw [hN]; exact hdst t rfl) hr ho (hval x) (hval y)
      · exact effAppMake_ok (P := P) (ty := type) hm (by rw [hN]; exact hdst t rfl) h ho (hval x) (hval y)
    refine wp_value (u := v) (w' := w') ?_ (hK _ _ ⟨v, rfl⟩ h2)
    simp only [execOp, resolve, invoke, builtin, Sem.run_bind, Sem.run_pure, Result.andThen_ok, List.map_toArray, List.map_cons, List.map_nil, h1]
  · rename_i T x hi t
    split at h
    case isTrue => cases h
    obtain ⟨v, h1, h2⟩ := effCut_ok (P := P) hm (by rw [hN]; exact hdst t rfl) h ho (hval x) (hval hi)
    exact fin (pos' := pos) rfl h1 rfl h2
  · rename_i f args ats t
    split at h
    case h_2 => cases h
    rename_i k caps hf
    have hfv := hval f
    rw [hf] at hfv
    obtain ⟨l, hl, hcaps⟩ := hfv
    have hargs : All2 (fun _ => ArgOk N S w β a) 0 (callItems N fr hint.take (oval N [] fr) 0 args.toList ++ caps.map fun c => ((none, c) : ArgIn)) (args.toList.map a.eval ++ l) :=
      All2.append (fun _ _ _ _ h => h) (callItems_ok hN hm hval args.toList 0 0) (caps_ok caps l 0 0 hcaps)
    obtain ⟨hc, hcalls⟩ := callEff_ok hN hm h ho hargs
    refine wp_enter (run_call rfl hl hc) hcalls fun u w' hR => hK _ _ ⟨u, rfl⟩ hR
  · rename_i T addr x
    obtain ⟨w', h1, h2⟩ := effStore_ok hN hm h ho (hval addr)
    refine wp_skipv (w' := w') ?_ (hK _ _ ⟨undef, rfl⟩ h2)
    simp only [execOp]
    simp [h1]
  · cases h

theorem condG_nil : condG G [] = true := rfl

theorem Mem.congr {fr' : Fr} {vals : Nat → Option Value} (hm : Mem e G S β fr vals w) (h : ∀ x, fget fr' x = fget fr x) : Mem e G S β fr' vals w :=
  ⟨fun x => by rw [h x]; exact hm.rel x, fun x l a hx => hm.gok x l a (by rw [← h x]; exact hx), fun x i y j b h1 h2 => hm.dis x i y j b (by rw [← h x]; exact h1) (by rw [← h y]; exact h2), fun x i b h1 => hm.fre x i b (by rw [← h x]; exact h1), hm.stb, hm.s0, hm.old, hm.os, hm.tape, hm.output, hm.size⟩

theorem trArgs_none {N : Nat} {xs : List Nat} : ∀ (items : List ArgIn) (as : List AV) (ts : List (Option Nat)) (l : List Path), trArgs N xs fr items = some (as, ts, l) → (∀ it ∈ items, it.1 = none) → taken ts = []
  | [], as, ts, l, h, _ => by
    simp only [trArgs, Option.some.injEq, Prod.mk.injEq] at h
    obtain ⟨_, rfl, _⟩ := h
    rfl
  | (tk, v) :: r, as, ts, l, h, hn => by
    have : tk = none := hn (tk, v) (by simp)
    subst this
    simp only [trArgs] at h
    split at h
    · cases h
    rename_i as' ts' l' hrest
    split at h
    case h_2 => cases h
    simp only [Option.some.injEq, Prod.mk.injEq] at h
    obtain ⟨_, rfl, _⟩ := h
    have := trArgs_none r as' ts' l' hrest (fun it hit => hn it (by simp [hit]))
    simpa [taken] using this

theorem purge1_congr {π π' : Path → Bool} {a : AV} (h : ∀ q ∈ a.paths1, π q = π' q) : a.purge1 π = a.purge1 π' := by
  have : a.paths1.any π = a.paths1.any π' := by
    rw [Bool.eq_iff_iff, List.any_eq_true, List.any_eq_true]
    exact ⟨fun ⟨q, hq, hp⟩ => ⟨q, hq, by rw [← h q hq]; exact hp⟩, fun ⟨q, hq, hp⟩ => ⟨q, hq, by rw [h q hq]; exact hp⟩⟩
  simp only [AV.purge1, this]
theorem purge_congr {π π' : Path → Bool} {a : AV} (h : ∀ q ∈ a.paths, π q = π' q) : a.purge π = a.purge π' := by
  cases a
  case box cs =>
    simp only [AV.purge, AV.box.injEq]
    exact List.map_congr_left fun c hc => purge1_congr fun q hq => h q (List.mem_flatMap.2 ⟨c, hc, hq⟩)
  case tup cs =>
    simp only [AV.purge, AV.tup.injEq]
    exact List.map_congr_left fun c hc => purge1_congr fun q hq => h q (List.mem_flatMap.2 ⟨c, hc, hq⟩)
  all_goals exact purge1_congr fun q hq => h q hq
theorem fget_mem : ∀ (fr : Fr) (x : Nat), fget fr x = .junk ∨ (x, fget fr x) ∈ fr
  | [], _ => .inl rfl
  | (y, a) :: r, x => by
    rw [fget_cons]
    split
    · rename_i h; subst h; exact .inr (List.mem_cons_self ..)
    · exact (fget_mem r x).imp id fun h => List.mem_cons_of_mem _ h
theorem fget_zip_self (x : Nat) : ∀ (xs : List Nat), fget (xs.zip (xs.map (fget fr)) ++ fr) x = fget fr x
  | [] => rfl
  | y :: xs => by
    simp only [List.map_cons, List.zip_cons_cons, List.cons_append, fget_cons]
    split
    · rename_i h; subst h; rfl
    · exact fget_zip_self x xs

theorem callEff_fr {N dst k : Nat} {items : List ArgIn} {h : Hint} {frc : Fr} {ob : Prop} (he : callEff P N dst k items h fr = some (frc, ob)) (hx : gloOnly fr h.xs = true) (hv : h.vout = h.xs.map (fget fr)) (hn : ∀ it ∈ items, it.1 = none) (x : Nat) : fget frc x = if x = dst then h.res else (fget fr x).purge (slotP dst) := by
  unfold callEff at he
  split at he
  case h_2 => cases he
  rename_i as ts lent vin htr hbx
  split at he
  case isFalse => cases he
  simp only [Option.some.injEq, Prod.mk.injEq] at he
  obtain ⟨rfl, _⟩ := he
  rw [trArgs_none items as ts lent htr hn, hv]
  by_cases hd : x = dst
  · subst hd; rw [if_pos rfl]; exact fget_cons_self _ _ _
  · rw [if_neg hd, callFr, fget_cons_ne _ _ (Ne.symm hd), fget_purgeP]
    simp only [List.map_nil, List.nil_append]
    rw [fget_zip_self]
    refine purge_congr fun q hq => ?_
    simp only [gloOnly, Bool.and_eq_true, List.all_eq_true] at hx
    have hq' : h.xs.contains q.1 = false := by
      rcases fget_mem fr x with hj | hj
      · rw [hj] at hq; cases hq
      · have := hx.2 _ hj q hq
        simpa using this
    simp only [callP, slotP, hq', Bool.and_false, Bool.or_false]

/-- ONE STEP. -/
theorem opGL_ok {N : Nat} (hN : a.tmps.size = N) (hm : Mem e G S β fr (valsOf e a) w) {g : List (Nat × Bool)} (hg : condG G g = true) {t : Nat} (ht : t < N) {hint : Hint} {o : Oper} (hdst : o.dst = some t) {r : AV × Prop} (h : opGL P N g hint fr o = some r) (ho : r.2) :
    ∃ u w', (execOp a.eval o).run P w = .ok (.value u) w' ∧ ∃ S' β', Mem e G S' β' (setA t r.1 fr) (valsOf e (a.put (some t) u)) w' := by
  obtain ⟨dst, op, type, pos, after, guard⟩ := o
  simp only at hdst
  subst hdst
  unfold opGL at h
  simp only at h
  split at h
  case h_2 => cases h
  rename_i T len parts t' heq
  cases heq
  split at h
  case h_2 => cases h
  rename_i f obl hE
  split at h
  case h_2 => cases h
  rename_i κ sz es hf
  simp only [Option.some.injEq] at h
  subst h
  have hts : t < a.tmps.size := by rw [hN]; exact ht
  have hval := fun x => oval_ok hm hN g hg x
  obtain ⟨u, w', h1, S', β', hm'⟩ := effLit_ok hm hts hE ho (all2_parts hval parts.toList 0)
  have hfr : f = setA t (.own κ sz es) fr := by
    unfold effLit at hE
    split at hE
    case h_2 => cases hE
    split at hE
    case h_2 => cases hE
    split at hE
    case isFalse => cases hE
    simp only [Option.map_eq_some_iff, Prod.mk.injEq] at hE
    obtain ⟨es', _, rfl, _⟩ := hE
    rw [fget_setA_self] at hf
    rw [hf]
  subst hfr
  refine ⟨u, w', ?_, ?_⟩
  · have he : (parts.map fun q => (q.1, a.eval q.2)) = (parts.toList.map fun q => (q.1, a.eval q.2)).toArray := by
      apply Array.ext'
      simp
    simp only [execOp]
    rw [he]
    simp [h1]
  · have hfz := hm'.freeze (p := (t, 0)) (sz := sz) (es := es) hf
    refine ⟨fun b => S' b ∨ blk (β' (t, 0)) = some b, β', ?_⟩
    have hw := hfz.weaken t (.d (.sl sz es)) (fun v hv => by
      rw [show fget (pset (setA t (.own κ sz es) fr) (t, 0) (.fz sz es)) t = .fz sz es from by simp [pset, fget_cons_self]] at hv
      exact (flat_slot rfl).2 ((flat_slot rfl).1 hv).2) (fun j hj => by cases j <;> simp [AV.ownsAt, AV.isOwn] at hj) (fun l a hh => by cases hh)
    exact hw.congr fun x => by
      by_cases hx : x = t
      · subst hx; rw [fget_cons_self, fget_setA_self]
      · rw [fget_cons_ne _ _ (Ne.symm hx), fget_setA_ne _ _ hx]
        simp only [pset]
        rw [fget_cons_ne _ _ (Ne.symm hx), fget_setA_ne _ _ hx]

theorem step1_ok {N : Nat} {ops : Array Oper} {i : Nat} {h : Hint} {G' : GEnv} {fr' : Fr} {obl : Prop} (hs : step1 P N ops i h G fr = some (G', fr', obl)) (ho : obl) (hm : MemG e G N fr a w) {K : Act → World → Prop} {Q : Exit → Act → World → Prop}
    (hK : ∀ a' w', MemG e G' N fr' a' w' → K a' w') :
    ∃ o, ops[i]? = some o ∧ (Region.wanted o (yielded ops a.tmps) = true → o.wp P a w K Q) ∧ (Region.wanted o (yielded ops a.tmps) = false → K (a.put o.dst undef) w) := by
  obtain ⟨hd, hN, hI, S, β, hm⟩ := hm
  unfold step1 at hs
  split at hs
  · cases hs
  rename_i o hoi
  split at hs
  case isFalse => cases hs
  rename_i hfree
  refine ⟨o, hoi, ?_⟩
  have hdst : ∀ t, o.dst = some t → t < N ∧ lookG G t = none := by
    intro t ht
    simpa [dstFree, ht] using hfree
  split at hs
  · cases hs
  · -- no guard
    rename_i hch
    obtain ⟨hw, _⟩ := chainOf_ok hI hch
    rw [condG_nil] at hw
    refine ⟨fun _ => ?_, fun h => by rw [hw] at h; cases h⟩
    split at hs
    · cases hs
    rename_i fr0 hfz
    obtain ⟨S0, hm0⟩ := freezeAll_ok h.frz fr fr0 S hm hfz
    split at hs
    · rename_i fr1 ob hE
      simp only [Option.some.injEq, Prod.mk.injEq] at hs
      obtain ⟨rfl, rfl, rfl⟩ := hs
      refine opE_ok hN hm0 (fun t ht => (hdst t ht).1) hE ho fun a' w' ⟨u, hu⟩ hmem => hK a' w' ⟨?_, ?_, ?_, hmem⟩
      · rw [hu, put_defers]; exact hd
      · rw [hu, put_size]; exact hN
      · rw [hu]
        cases hd' : o.dst with
        | none => exact hI
        | some t => exact hI.put hN (hdst t hd').1 (hdst t hd').2 u
    · split at hs
      · rename_i r t hR ht
        split at hs
        case isFalse => cases hs
        rename_i hpl
        simp only [Option.some.injEq, Prod.mk.injEq] at hs
        obtain ⟨rfl, rfl, rfl⟩ := hs
        obtain ⟨u, hu, hru⟩ := opR'_ok (P := P) hN hI hm0 condG_nil hR ho
        obtain ⟨htN, htG⟩ := hdst t ht
        have hts : t < a.tmps.size := by rw [hN]; exact htN
        refine wp_value hu (hK _ _ ⟨by rw [put_defers]; exact hd, by rw [put_size]; exact hN, ?_, S0, β, ?_⟩)
        · rw [ht]
          exact pushG_inv (hI.put hN htN htG u) htN htG (by simp) (u := u) (by rw [put_get a t u hts, if_pos rfl]) (fun _ => hru) (fun h => by rw [condG_nil] at h; cases h)
        · rw [ht]
          refine pushG_mem (hm0.setPlain t _ u _ (put_old a t u hts) (put_new a t u hts) (plain_slot hpl hru) (plain_ownsAt hpl) (fun l a h => ?_)) htG _ _
          rw [h] at hpl
          cases hpl
      · cases hs
  · -- under a guard
    rename_i q g hch
    obtain ⟨hw, hgs⟩ := chainOf_ok hI hch
    split at hs
    case h_2 => cases hs
    rename_i t ht
    obtain ⟨htN, htG⟩ := hdst t ht
    have hts : t < a.tmps.size := by rw [hN]; exact htN
    have notWanted : ∀ (av : AV), av.plain = true → condG G (q :: g) = false → MemG e (pushG G t (q :: g) av) N (setA t (.gd (q :: g) av) fr) (a.put o.dst undef) w := by
      intro av hpl hc
      rw [ht]
      refine ⟨by rw [put_defers]; exact hd, by rw [put_size]; exact hN, ?_, S, β, ?_⟩
      · exact pushG_inv (S := S) (w := w) (β := β) (hI.put hN htN htG undef) htN htG hgs (u := undef) (by rw [put_get a t undef hts, if_pos rfl]) (fun h => by rw [hc] at h; cases h) (fun _ => rfl)
      · refine pushG_mem (hm.setPlain t _ undef _ (put_old a t undef hts) (put_new a t undef hts) (show RSlot (condG G) S w β t (.gd (q :: g) av) undef from ⟨fun h => (by rw [hc] at h; cases h), fun _ => rfl⟩) ?_ (fun l a h => ?_)) htG _ _
        · intro j
          cases j <;> simp [AV.ownsAt, AV.isOwn, plain_isOwn hpl]
        · cases h
          exact ⟨plain_isOwn hpl, hgs⟩
    have wanted : ∀ (av : AV) (u : Value) (w' : World), av.plain = true → condG G (q :: g) = true → RFlat S w β (0, 0) av u → MemG e (pushG G t (q :: g) av) N (setA t (.gd (q :: g) av) fr) (a.put o.dst u) w := by
      intro av u w' hpl hc hru
      rw [ht]
      refine ⟨by rw [put_defers]; exact hd, by rw [put_size]; exact hN, ?_, S, β, ?_⟩
      · exact pushG_inv (hI.put hN htN htG u) htN htG hgs (u := u) (by rw [put_get a t u hts, if_pos rfl]) (fun _ => hru) (fun h => by rw [hc] at h; cases h)
      · refine pushG_mem (hm.setPlain t _ u _ (put_old a t u hts) (put_new a t u hts) (show RSlot (condG G) S w β t (.gd (q :: g) av) u from ⟨fun _ => plain_path hpl hru, fun h => by rw [hc] at h; cases h⟩) ?_ (fun l a h => ?_)) htG _ _
        · intro j
          cases j <;> simp [AV.ownsAt, AV.isOwn, plain_isOwn hpl]
        · cases h
          exact ⟨plain_isOwn hpl, hgs⟩
    split at hs
    · rename_i r hR
      split at hs
      case isFalse => cases hs
      rename_i hpl
      simp only [Option.some.injEq, Prod.mk.injEq] at hs
      obtain ⟨rfl, rfl, rfl⟩ := hs
      refine ⟨fun hwt => ?_, fun hwf => hK _ _ (notWanted _ hpl (by rw [← hw]; exact hwf))⟩
      rw [hw] at hwt
      obtain ⟨u, hu, hru⟩ := opR'_ok (P := P) hN hI hm hwt hR (ho hwt)
      exact wp_value hu (hK _ _ (wanted _ u w hpl hwt hru))
    · split at hs
      rotate_left
      · split at hs
        case h_2 => cases hs
        rename_i r hC
        split at hs
        case isFalse => cases hs
        rename_i hpl
        simp only [Option.some.injEq, Prod.mk.injEq] at hs
        obtain ⟨rfl, rfl, rfl⟩ := hs
        refine ⟨fun hwt => ?_, fun hwf => hK _ _ (notWanted _ hpl (by rw [← hw]; exact hwf))⟩
        rw [hw] at hwt
        obtain ⟨u, w', hu, S', β', hm'⟩ := opGL_ok hN hm hwt htN ht hC (ho hwt)
        have hm2 := hm'.weaken t (.gd (q :: g) r.1) (fun v hv => by
            rw [fget_setA_self] at hv
            exact ⟨fun _ => (flat_slot (by cases hr : r.1 <;> simp_all [AV.plain, AV.flat])).1 hv, fun hc => by rw [hwt] at hc; cases hc⟩) (fun j hj => by cases j <;> simp [AV.ownsAt, AV.isOwn, plain_isOwn hpl] at hj) (fun l a hh => by cases hh; exact ⟨plain_isOwn hpl, hgs⟩)
        have hm3 : Mem e G S' β' (setA t (.gd (q :: g) r.1) fr) (valsOf e (a.put (some t) u)) w' := hm2.congr fun x => by
          by_cases hx : x = t
          · subst hx; rw [fget_cons_self, fget_setA_self]
          · rw [fget_cons_ne _ _ (Ne.symm hx), fget_setA_ne _ _ hx, fget_setA_ne _ _ hx]
        refine wp_value hu (hK _ _ ⟨by rw [put_defers]; exact hd, by rw [put_size]; exact hN, ?_, S', β', ?_⟩)
        · rw [ht]
          obtain ⟨v, hv1, hv2⟩ := hm3.rel t
          rw [fget_setA_self] at hv1
          have hput : (a.put (some t) u).tmps[t]? = some u := by rw [put_get a t u hts, if_pos rfl]
          have huv := hv2 u (put_at a t u hts)
          subst huv
          exact pushG_inv (hI.put hN htN htG u) htN htG hgs hput (fun hc => plain_path hpl (hv1.1 hc)) (fun hc => by rw [hwt] at hc; cases hc)
        · rw [ht]
          exact pushG_mem hm3 htG _ _
      rename_i r hC
      split at hs
      case isFalse => cases hs
      rename_i hpl
      simp only [Option.some.injEq, Prod.mk.injEq] at hs
      obtain ⟨rfl, rfl, rfl⟩ := hs
      refine ⟨fun hwt => ?_, fun hwf => hK _ _ (notWanted _ hpl (by rw [← hw]; exact hwf))⟩
      rw [hw] at hwt
      have hval := fun x => oval_ok hm hN (q :: g) hwt x
      unfold opGC at hC
      obtain ⟨dst, op, type, pos, after, guard⟩ := o
      subst ht
      split at hC
      case h_2 => cases hC
      rename_i f args ats t' hop hdt
      simp only [Option.some.injEq] at hdt
      subst hdt
      split at hC
      case h_2 => cases hC
      rename_i k caps hf
      split at hC
      case isFalse => cases hC
      rename_i hemp
      simp only [Bool.and_eq_true, List.isEmpty_iff] at hemp
      simp only [Option.map_eq_some_iff] at hC
      obtain ⟨⟨frc, ob⟩, hce, rfl⟩ := hC
      have hfv := hval f
      rw [hf] at hfv
      obtain ⟨l, hl, hcaps⟩ := hfv
      have hitems : ∀ (xs : List Operand) (j : Nat), All2 (fun _ => ArgOk N S w β a) j (xs.map fun x => ((none, oval N (q :: g) fr x) : ArgIn)) (xs.map a.eval) := by
        intro xs
        induction xs with
        | nil => intro j; trivial
        | cons x xs ih => intro j; exact ⟨hval x, ih (j + 1)⟩
      have hargs : All2 (fun _ => ArgOk N S w β a) 0 ((args.toList.map fun x => ((none, oval N (q :: g) fr x) : ArgIn)) ++ caps.map fun c => ((none, c) : ArgIn)) (args.toList.map a.eval ++ l) :=
        All2.append (fun _ _ _ _ h => h) (hitems _ 0) (caps_ok caps l 0 0 hcaps)
      obtain ⟨hcb, hcalls⟩ := callEff_ok hN hm hce (ho hwt) hargs
      refine wp_enter (run_call hop hl hcb) hcalls fun u w' hR => ?_
      obtain ⟨S', β', hm'⟩ := hR
      have hfr := callEff_fr hce hemp.1 rfl (by
        intro it hit
        rcases List.mem_append.1 hit with h | h
        · obtain ⟨x, _, rfl⟩ := List.mem_map.1 h
          rfl
        · obtain ⟨x, _, rfl⟩ := List.mem_map.1 h
          rfl)
      have hm2 := hm'.weaken t (.gd (q :: g) h.res) (fun v hv => by
          rw [hfr t, if_pos rfl] at hv
          refine ⟨fun _ => ?_, fun hc => by rw [hwt] at hc; cases hc⟩
          have : h.res.flat = true := by cases hr : h.res <;> simp_all [AV.plain, AV.flat]
          exact (flat_slot this).1 hv) (fun j hj => by cases j <;> simp [AV.ownsAt, AV.isOwn, plain_isOwn hpl] at hj) (fun l a hh => by cases hh; exact ⟨plain_isOwn hpl, hgs⟩)
      have hm3 : Mem e G S' β' (setA t (.gd (q :: g) h.res) fr) (valsOf e (a.put (some t) u)) w' := hm2.congr fun x => by
        by_cases hx : x = t
        · subst hx; rw [fget_cons_self, fget_setA_self]
        · rw [fget_cons_ne _ _ (Ne.symm hx), hfr x, if_neg hx, fget_setA_ne _ _ hx]
      refine hK _ _ ⟨by rw [put_defers]; exact hd, by rw [put_size]; exact hN, ?_, S', β', pushG_mem hm3 htG _ _⟩
      obtain ⟨v, hv1, hv2⟩ := hm3.rel t
      rw [fget_setA_self] at hv1
      have hput : (a.put (some t) u).tmps[t]? = some u := by rw [put_get a t u hts, if_pos rfl]
      have huv := hv2 u (put_at a t u hts)
      subst huv
      exact pushG_inv (hI.put hN htN htG u) htN htG hgs hput (fun hc => plain_path hpl (hv1.1 hc)) (fun hc => by rw [hwt] at hc; cases hc)

end
end Go.Vm
