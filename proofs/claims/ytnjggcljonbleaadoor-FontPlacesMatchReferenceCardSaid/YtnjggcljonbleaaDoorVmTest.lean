/-
  THE V-MACHINE, part 34: a slice that came in is held against nil: both answers are walked.
-/
import Derived.Test.YtnjggcljonbleaaDoorVmDraw3
namespace Go.Vm

/-- t3 := s; t4 := t3 == nil -/
def nilOps (ops : Array Oper) : Option (Nat × Nat × Nat × TypeId) :=
  match ops.toList with
  | [o1, o2] => match o1.dst, o1.op, o1.guard, o2.dst, o2.op, o2.guard with
    | some t3, .move (.tmp s), none, some t4, .binOp .eql T (.tmp t3') (.const (.slice none 0 0)) _, none => if t3' = t3 then some (s, t3, t4, T) else none
    | _, _, _, _, _, _ => none
  | _ => none
def isSliceT (P : Program) (t : TypeId) : Bool :=
  match P.underlying t with
  | some (.slice _) => true
  | _ => false

section
variable {P : Program} {e : Env} {fr : Fr} {w : World} {N : Nat} {Q : Exit → Act → World → Prop}

theorem run_equalIn_nil (d : Nat) {t E : TypeId} {q : Option Addr} {l c : Nat} (h : P.underlying t = some (.slice E)) : (Op.equalIn (d + 1) t (.slice q l c) (.slice none 0 0)).run P w = .ok q.isNone w := by
  cases q <;> simp [Op.equalIn, run_underlying h]
theorem run_eql_slice_nil {t E : TypeId} {q : Option Addr} {l c : Nat} {X Y : Operand} (h : P.underlying t = some (.slice E)) :
    (do eqGuard .eql t X Y (.slice q l c) (.slice none 0 0); binOp .eql t (.slice q l c) (.slice none 0 0) : Sem Value).run P w = .ok (.bool q.isNone) w := by
  have hg : eqGuard .eql t X Y (.slice q l c) (.slice none 0 0) = pure () := rfl
  have he : (Op.equal t (.slice q l c) (.slice none 0 0)).run P w = .ok q.isNone w := run_equalIn_nil 9999 h
  rw [hg]
  simp only [Sem.run_bind, Sem.run_pure, Result.andThen_ok, binOp]
  simp [he]

theorem T_nilTest {id : Nat} {ops : Array Oper} (s t3 t4 : Nat) (T' : TypeId) (hop : nilOps ops = some (s, t3, t4, T')) (hT : isSliceT P T' = true) {sz : Nat} {es : List (List Dat)} (hs : oval N [] fr (.tmp s) = .d (.sl sz es)) (hlt : decide (s < N ∧ t3 < N ∧ t4 < N ∧ t3 ≠ t4) = true) (keep : List Nat) (fr' : Fr)
    (hk : ∀ b, coAll [.keep keep] (setA t4 (.d (.v (.bool b))) (setA t3 .junk fr)) = some fr') {A B : Code} (hA : es = [] → T P e N A fr' Q) (hB : T P e N B fr' Q) : T P e N (.seq (.region id ops false) (.cond (.tmp t4) A B)) fr Q := by
  intro a w hm
  obtain ⟨hd, hN, S, β, hm⟩ := hm
  obtain ⟨hlt1, hlt2, hlt3, hne⟩ := of_decide_eq_true hlt
  obtain ⟨E, hE⟩ : ∃ E, P.underlying T' = some (.slice E) := by
    unfold isSliceT at hT
    split at hT
    · exact ⟨_, by assumption⟩
    · cases hT
  unfold nilOps at hop
  split at hop
  case h_2 => cases hop
  rename_i o1 o2 hol
  split at hop
  case h_2 => cases hop
  rename_i u3 us u4 uT u3' ty h1 h2 h3 h4 h5 h6
  split at hop
  case isFalse => cases hop
  rename_i heq
  simp only [Option.some.injEq, Prod.mk.injEq] at hop
  obtain ⟨rfl, rfl, rfl, rfl⟩ := hop
  subst heq
  have hops : ops = #[o1, o2] := by
    apply Array.ext'
    simpa using hol
  subst hops
  have hv := oval_ok hm hN [] rfl (.tmp us)
  rw [hs] at hv
  obtain ⟨q, n, c, hq, hnil⟩ : ∃ q n c, a.eval (.tmp us) = .slice q n c ∧ (q = none → es = []) := by
    have hv' := hv
    simp only [RFlat, RD] at hv'
    rcases hv' with ⟨⟨q, h⟩, rfl⟩ | ⟨b, o, c, arr, E', fz, h, _⟩
    · exact ⟨q, 0, 0, h, fun _ => rfl⟩
    · exact ⟨_, _, _, h, fun h => by cases h⟩
  have hw1 : Region.wanted o1 (yielded #[o1, o2] a.tmps) = true := by unfold Region.wanted; rw [h3]
  refine wp_seq (wp_region ?_)
  show wpOps P #[o1, o2] _ [0, 1] a w
  simp only [wpOps, List.getElem?_toArray, List.getElem?_cons_zero, List.getElem?_cons_succ]
  rw [if_pos hw1]
  refine .inl (wp_value (u := .slice q n c) (w' := w) (by simp only [execOp, h2]; rw [hq]; rfl) ?_)
  rw [h1]
  have hw2 : Region.wanted o2 (yielded #[o1, o2] (a.put (some u3') (.slice q n c)).tmps) = true := by unfold Region.wanted; rw [h6]
  rw [if_pos hw2]
  have hts3 : u3' < a.tmps.size := by rw [hN]; exact hlt2
  have he3 : (a.put (some u3') (.slice q n c)).eval (.tmp u3') = .slice q n c :=
    Option.some.inj ((eval_tmp (e := e) (by rw [put_size]; exact hts3)).symm.trans (put_at (e := e) a u3' _ hts3))
  refine .inl (wp_value (u := .bool q.isNone) (w' := w) ?_ ?_)
  · simp only [execOp, h5, he3]
    exact run_value (run_eql_slice_nil hE)
  rw [h4]
  have hsz2 : (a.put (some u3') (.slice q n c)).tmps.size = N := by rw [put_size]; exact hN
  have hts4 : u4 < (a.put (some u3') (.slice q n c)).tmps.size := by rw [hsz2]; exact hlt3
  have hm3 := hm.setPlain u3' .junk (.slice q n c) _ (put_old a u3' _ hts3) (put_new a u3' _ hts3) trivial (fun j => by cases j <;> rfl) (fun l a h => by cases h)
  have hm4 := hm3.setPlain u4 (.d (.v (.bool q.isNone))) (.bool q.isNone) _ (put_old (a.put (some u3') (.slice q n c)) u4 _ hts4) (put_new _ u4 _ hts4) ((flat_slot rfl).2 ⟨rfl, rfl⟩) (fun j => by cases j <;> rfl) (fun l a h => by cases h)
  have hm5 : MemA e [] N (setA u4 (.d (.v (.bool q.isNone))) (setA u3' .junk fr)) ((a.put (some u3') (.slice q n c)).put (some u4) (.bool q.isNone)) w :=
    ⟨by rw [put_defers, put_defers]; exact hd, by rw [put_size]; exact hsz2, S, β, hm4⟩
  refine T_cond q.isNone ?_ (fun hb => ?_) (fun hb => ?_) _ w hm5
  · have hlt4 : decide (u4 < N) = true := decide_eq_true hlt3
    simp only [oval, oval0, unvw, fget_setA_self, AV.read, AV.under]
    simp [hlt3]
  · exact T_co _ _ (hk q.isNone) (hA (hnil (by simpa using hb)))
  · exact T_co _ _ (hk q.isNone) hB
end
end Go.Vm
