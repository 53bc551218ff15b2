/-
  THE V-MACHINE, part 21: the operations of a region, one behind the other.
-/
import Derived.Test.YtnjggcljonbleaaDoorVmStep
namespace Go.Vm

/-- The slot that is taken with an argument: the slot itself, or the owner to which it refers. -/
def takeSlot (N : Nat) (fr : Fr) (v : AV) (s : Nat) : Nat := match v with
  | .vw (s', 0) => match fget fr s' with
    | .own _ _ _ => if s' < N then s' else s
    | _ => s
  | _ => s
def callItems (N : Nat) (fr : Fr) (take : List Nat) (val : Operand → AV) : Nat → List Operand → List ArgIn
  | _, [] => []
  | i, x :: r => (if take.contains i then match x with
      | .tmp s => (some (takeSlot N fr (val x) s), val x)
      | _ => (none, val x)
    else (none, val x)) :: callItems N fr take val (i + 1) r

/-- An operation that makes memory, writes, moves owners, or calls. -/
def opE (P : Program) (N : Nat) (hint : Hint) (fr : Fr) (o : Oper) : Option (Fr × Prop) :=
  match o.op, o.dst with
  | .assign (.tmp s), some t => (effMove N true t s fr).map (·, True)
  | .move (.tmp s), some t => (effMove N false t s fr).map (·, True)
  | .assign (.const (.slice none 0 0)), some t => (effNil P t o.type fr).map (·, True)
  | .alloc T, some t => (effAlloc P t T hint.slfs fr).map (·, True)
  | .box _T x, some t => (effBox t N x (oval N [] fr x) fr).map (·, True)
  | .makeSlice T l c, some t => effMake P t T hint.es (oval N [] fr l) (oval N [] fr c) fr
  | .buildSlice T len parts, some t => effLit P t T hint.es len (parts.toList.map fun q => (q.1, oval N [] fr q.2)) fr
  | .extract (.tmp s) j, some t => (effExtract N t s j fr).map (·, True)
  | .call { callee := .builtin .append, args := ⟨[x, y]⟩, argTypes := ⟨[t1, t2]⟩ }, some t => match effAppend2 P t1 t2 t hint.es (oval N [] fr x) (oval N [] fr y) fr with
    | some r => some r
    | none => effAppMake P t1 t2 t hint.es (oval N [] fr x) (oval N [] fr y) fr
  | .slice T x none (some hi) none, some t => if hint.take = [] then none else effCut P T t hint.es (oval N [] fr x) (oval N [] fr hi) fr
  | .call { callee := .value f, args := args, argTypes := _ }, some t => match oval N [] fr f with
    | .clo k caps => callEff P N t k (callItems N fr hint.take (oval N [] fr) 0 args.toList ++ caps.map fun c => (none, c)) hint fr
    | _ => none
  | .store T addr x, none => effStore P N T hint hint.es x (oval N [] fr addr) (oval N [] fr x) fr
  | _, _ => none

def freezeAll : List Path → Fr → Option Fr
  | [], fr => some fr
  | p :: r, fr => match pget fr p with
    | .own _κ sz es => freezeAll r (pset fr p (.fz sz es))
    | _ => none

def extG (G : GEnv) (g : List (Nat × Bool)) (c : Operand) (want : Bool) : List (Nat × Bool) :=
  match c with
  | .tmp s => if (lookG G s).isSome then (s, want) :: g else g
  | _ => g

def opPick (N : Nat) (G : GEnv) (g : List (Nat × Bool)) (fr : Fr) (c x y : Operand) : Option (AV × Prop) :=
  match oval N g fr c, oval N (extG G g c true) fr x, oval N (extG G g c false) fr y with
  | .d (.v (.bool b)), .d X, .d Y => (pickD b X Y).map fun z => (.d z, True)
  | _, _, _ => none

def opR' (P : Program) (N : Nat) (G : GEnv) (g : List (Nat × Bool)) (hint : Hint) (fr : Fr) (o : Oper) : Option (AV × Prop) :=
  match o.op with
  | .pick c x y => opPick N G g fr c x y
  | .extract (.tmp s) j => if s < N then (tupR j (fget fr s)).map (·, True) else none
  | _ => opR P hint (oval N g fr) fr o

def rwA (hint : Hint) (r : AV × Prop) : AV × Prop :=
  match hint.rw with
  | some av => (av, r.2 ∧ r.1 = av)
  | none => r

def pushG (G : GEnv) (t : Nat) (g : List (Nat × Bool)) : AV → GEnv
  | .d (.v (.bool b)) => (t, g, b) :: G
  | _ => G

def chainOf (ops : Array Oper) (G : GEnv) (o : Oper) : Option (List (Nat × Bool)) :=
  match o.guard with
  | none => some []
  | some (j, want) => match (ops[j]?).bind (·.dst) with
    | some s => match lookG G s with
      | some (l, _) => some ((s, want) :: l)
      | none => none
    | none => none

def dstFree (N : Nat) (G : GEnv) : Option Nat → Bool
  | some t => decide (t < N) && (lookG G t).isNone
  | none => true

def AV.isGlo : AV → Bool
  | .glo _ _ => true
  | _ => false
/-- Nothing is lent but addresses of a package's variables. -/
def gloOnly (fr : Fr) (xs : List Nat) : Bool := xs.all (fun x => (fget fr x).isGlo) && fr.all fun q => q.2.paths.all fun p => !xs.contains p.1

/-- A call under a guard: nothing is handed over, nothing but a package's variables is lent, the result is plain. -/
def opGC (P : Program) (N : Nat) (g : List (Nat × Bool)) (hint : Hint) (fr : Fr) (o : Oper) : Option (AV × Prop) :=
  match o.op, o.dst with
  | .call { callee := .value f, args := args, argTypes := _ }, some t => match oval N g fr f with
    | .clo k caps => if gloOnly fr hint.xs && hint.take.isEmpty then
        (callEff P N t k ((args.toList.map fun x => (none, oval N g fr x)) ++ caps.map fun c => (none, c)) { hint with vout := hint.xs.map (fget fr) } fr).map fun r => (hint.res, r.2)
      else none
    | _ => none
  | _, _ => none

/-- A slice literal under a guard: it is frozen at once. -/
def opGL (P : Program) (N : Nat) (g : List (Nat × Bool)) (hint : Hint) (fr : Fr) (o : Oper) : Option (AV × Prop) :=
  match o.op, o.dst with
  | .buildSlice T len parts, some t => match effLit P t T hint.es len (parts.toList.map fun q => (q.1, oval N g fr q.2)) fr with
    | some (f, obl) => match fget f t with
      | .own _κ sz es => some (.d (.sl sz es), obl)
      | _ => none
    | none => none
  | _, _ => none

def step1 (P : Program) (N : Nat) (ops : Array Oper) (i : Nat) (h : Hint) (G : GEnv) (fr : Fr) : Option (GEnv × Fr × Prop) :=
  match ops[i]? with
  | none => none
  | some o => if dstFree N G o.dst then
    match chainOf ops G o with
    | none => none
    | some [] => match freezeAll h.frz fr with
      | none => none
      | some fr0 => match opE P N h fr0 o with
        | some (fr', obl) => some (G, fr', obl)
        | none => match opR' P N G [] h fr0 o, o.dst with
          | some r, some t => if (rwA h r).1.plain then some (pushG G t [] (rwA h r).1, setA t (rwA h r).1 fr0, (rwA h r).2) else none
          | _, _ => none
    | some (q :: g) => match o.dst with
      | some t => match opR' P N G (q :: g) h fr o with
        | some r => if (rwA h r).1.plain then some (pushG G t (q :: g) (rwA h r).1, setA t (.gd (q :: g) (rwA h r).1) fr, condG G (q :: g) = true → (rwA h r).2) else none
        | none => match opGC P N (q :: g) h fr o with
          | some r => if r.1.plain then some (pushG G t (q :: g) r.1, setA t (.gd (q :: g) r.1) fr, condG G (q :: g) = true → r.2) else none
          | none => match opGL P N (q :: g) h fr o with
            | some r => if r.1.plain then some (pushG G t (q :: g) r.1, setA t (.gd (q :: g) r.1) fr, condG G (q :: g) = true → r.2) else none
            | none => none
      | none => none
  else none

/-- What is known of the slots that guard. -/
def InvG (N : Nat) (a : Act) (G : GEnv) : Prop := ∀ s l b, lookG G s = some (l, b) → s < N ∧ (∀ q ∈ l, (lookG G q.1).isSome = true) ∧ (condG G l = true → a.tmps[s]? = some (.bool b)) ∧ (condG G l = false → a.tmps[s]? = some undef)

def MemG (e : Env) (G : GEnv) (N : Nat) (fr : Fr) (a : Act) (w : World) : Prop :=
  a.defers = [] ∧ a.tmps.size = N ∧ InvG N a G ∧ ∃ S β, Mem e G S β fr (valsOf e a) w

section
variable {P : Program} {e : Env} {G : GEnv} {S : Nat → Prop} {β : Path → Value} {fr : Fr} {w : World} {a : Act}

theorem InvG.put {N : Nat} (h : InvG N a G) (hN : a.tmps.size = N) {t : Nat} (ht : t < N) (hf : lookG G t = none) (u : Value) : InvG N (a.put (some t) u) G := by
  intro s l b hs
  obtain ⟨h1, h2, h3, h4⟩ := h s l b hs
  have hne : s ≠ t := by
    rintro rfl
    rw [hf] at hs
    cases hs
  have hg : (a.put (some t) u).tmps[s]? = a.tmps[s]? := by rw [put_get a t u (by rw [hN]; exact ht), if_neg hne]
  exact ⟨h1, h2, fun h => by rw [hg]; exact h3 h, fun h => by rw [hg]; exact h4 h⟩

theorem InvG.push {N : Nat} (h : InvG N a G) {t : Nat} (ht : t < N) (hf : lookG G t = none) {g : List (Nat × Bool)} (hg : ∀ q ∈ g, (lookG G q.1).isSome = true) {b : Bool} (h1 : condG G g = true → a.tmps[t]? = some (.bool b)) (h2 : condG G g = false → a.tmps[t]? = some undef) : InvG N a ((t, g, b) :: G) := by
  have ext : ∀ q : Nat × Bool, (lookG G q.1).isSome = true → (lookG ((t, g, b) :: G) q.1).isSome = true := by
    intro q hq
    simp only [lookG]
    split
    · rfl
    · exact hq
  intro s l b' hs
  simp only [lookG] at hs
  split at hs
  · rename_i hst
    simp only [beq_iff_eq] at hst
    subst hst
    simp only [Option.some.injEq, Prod.mk.injEq] at hs
    obtain ⟨rfl, rfl⟩ := hs
    rw [condG_cons hf hg]
    exact ⟨ht, fun q hq => ext q (hg q hq), h1, h2⟩
  · obtain ⟨h3, h4, h5, h6⟩ := h s l b' hs
    rw [condG_cons hf h4]
    exact ⟨h3, fun q hq => ext q (h4 q hq), h5, h6⟩

theorem pushG_inv {N : Nat} (h : InvG N a G) {t : Nat} (ht : t < N) (hf : lookG G t = none) {g : List (Nat × Bool)} (hg : ∀ q ∈ g, (lookG G q.1).isSome = true) {av : AV} {u : Value} (hu : a.tmps[t]? = some u) (h1 : condG G g = true → RFlat S w β (0, 0) av u) (h2 : condG G g = false → u = undef) : InvG N a (pushG G t g av) := by
  unfold pushG
  split
  · rename_i b
    refine h.push ht hf hg (fun hc => ?_) (fun hc => ?_)
    · have := (h1 hc).1
      rw [hu, this]
    · rw [hu, h2 hc]
  · exact h

theorem pushG_mem {fr' : Fr} {vals : Nat → Option Value} (hm : Mem e G S β fr' vals w) {t : Nat} (hf : lookG G t = none) (g : List (Nat × Bool)) (av : AV) : Mem e (pushG G t g av) S β fr' vals w := by
  unfold pushG
  split
  · exact hm.guard t g _ hf
  · exact hm

theorem chainOf_ok {N : Nat} (hI : InvG N a G) {ops : Array Oper} {o : Oper} {g : List (Nat × Bool)} (h : chainOf ops G o = some g) : Region.wanted o (yielded ops a.tmps) = condG G g ∧ ∀ q ∈ g, (lookG G q.1).isSome = true := by
  unfold chainOf at h
  split at h
  · rename_i hg
    simp only [Option.some.injEq] at h
    subst h
    exact ⟨by simp [Region.wanted, hg, condG], by simp⟩
  · rename_i j want hg
    split at h
    case h_2 => cases h
    rename_i s hs
    split at h
    case h_2 => cases h
    rename_i l b hl
    simp only [Option.some.injEq] at h
    subst h
    obtain ⟨_, h2, h3, h4⟩ := hI s l b hl
    refine ⟨?_, fun q hq => ?_⟩
    · have hc : condG G ((s, want) :: l) = ((b == want) && condG G l) := by simp [condG, hl]
      simp only [Region.wanted, hg, yielded, hs, Option.bind_some, hc]
      cases hcl : condG G l with
      | true =>
        rw [h3 hcl]
        cases b <;> cases want <;> rfl
      | false =>
        rw [h4 hcl]
        simp [undef]
    · rcases List.mem_cons.1 hq with h | h
      · subst h; simp [hl]
      · exact h2 q h

theorem freezeAll_ok : ∀ (ps : List Path) (fr fr' : Fr) (S : Nat → Prop), Mem e G S β fr (valsOf e a) w → freezeAll ps fr = some fr' → ∃ S', Mem e G S' β fr' (valsOf e a) w
  | [], fr, fr', S, hm, h => by
    simp only [freezeAll, Option.some.injEq] at h
    subst h
    exact ⟨S, hm⟩
  | p :: ps, fr, fr', S, hm, h => by
    simp only [freezeAll] at h
    split at h
    · rename_i sz es hp
      exact freezeAll_ok ps _ fr' _ (hm.freeze hp) h
    · cases h

theorem opPick_ok {N : Nat} (hN : a.tmps.size = N) (hI : InvG N a G) (hm : Mem e G S β fr (valsOf e a) w) {g : List (Nat × Bool)} (hg : condG G g = true) {c x y : Operand} {o : Oper} (hop : o.op = .pick c x y) {av : AV} {obl : Prop} (h : opPick N G g fr c x y = some (av, obl)) :
    ∃ u, (execOp a.eval o).run P w = .ok (.value u) w ∧ RFlat S w β (0, 0) av u := by
  unfold opPick at h
  split at h
  case h_2 => cases h
  rename_i b X Y hc hx hy
  simp only [Option.map_eq_some_iff, Prod.mk.injEq] at h
  obtain ⟨z, hz, rfl, rfl⟩ := h
  have h1 := oval_ok hm hN g hg c
  rw [hc] at h1
  have hcv : a.eval c = .bool b := h1.1
  -- the guards that hold on the side that is taken
  have hext : condG G (extG G g c b) = true := by
    unfold extG
    split
    · rename_i s
      split
      · rename_i hs
        obtain ⟨⟨l, bG⟩, hl⟩ := Option.isSome_iff_exists.1 hs
        obtain ⟨h2, _, h3, h4⟩ := hI s l bG hl
        have hev := eval_tmp0 (a := a) (s := s) (by rw [hN]; exact h2)
        rw [hcv] at hev
        have hbb : bG = b := by
          cases hcl : condG G l with
          | true =>
            have := h3 hcl
            rw [hev] at this
            simp only [Option.some.injEq, Value.bool.injEq] at this
            exact this.symm
          | false =>
            have := h4 hcl
            rw [hev] at this
            simp [undef] at this
        have : condG G ((s, b) :: g) = ((bG == b) && condG G g) := by simp [condG, hl]
        rw [this, hbb, hg]
        simp
      · exact hg
    · exact hg
  refine ⟨if b then a.eval x else a.eval y, ?_, ?_⟩
  · simp only [execOp, hop, hcv, asBool, Sem.run_bind, Sem.run_pure, Result.andThen_ok]
  · cases b with
    | true =>
      have h2 := oval_ok hm hN _ hext x
      rw [hx] at h2
      exact pickD_true hz h2
    | false =>
      have h2 := oval_ok hm hN _ hext y
      rw [hy] at h2
      exact pickD_false hz h2

theorem opR'_ok {N : Nat} (hN : a.tmps.size = N) (hI : InvG N a G) (hm : Mem e G S β fr (valsOf e a) w) {g : List (Nat × Bool)} (hg : condG G g = true) {hint : Hint} {o : Oper} {r : AV × Prop} (h : opR' P N G g hint fr o = some r) (ho : (rwA hint r).2) :
    ∃ u, (execOp a.eval o).run P w = .ok (.value u) w ∧ RFlat S w β (0, 0) (rwA hint r).1 u := by
  have key : r.2 → ∃ u, (execOp a.eval o).run P w = .ok (.value u) w ∧ RFlat S w β (0, 0) r.1 u := by
    intro ho
    unfold opR' at h
    split at h
    · rename_i c x y hop
      exact opPick_ok hN hI hm hg hop (av := r.1) (obl := r.2) h
    · rename_i s j hop
      split at h
      case isFalse => cases h
      rename_i hs
      simp only [Option.map_eq_some_iff] at h
      obtain ⟨z, hz, rfl⟩ := h
      obtain ⟨u, hu1, hu2, _⟩ := tupR_ok (P := P) hN hm hs hz
      exact ⟨u, by simp [execOp, hop, hu1], hu2⟩
    · exact opR_ok hm (fun x => oval_ok hm hN g hg x) (av := r.1) (obl := r.2) h ho
  unfold rwA at ho ⊢
  split
  · rename_i av hrw
    rw [hrw] at ho
    obtain ⟨u, h1, h2⟩ := key ho.1
    exact ⟨u, h1, by rw [← ho.2]; exact h2⟩
  · rename_i hrw
    rw [hrw] at ho
    exact key ho

theorem takeSlot_ok {N : Nat} (hN : a.tmps.size = N) (hm : Mem e G S β fr (valsOf e a) w) {v : AV} {s : Nat} (hv : RFlat S w β (0, 0) v (a.eval (.tmp s))) : a.eval (.tmp s) = a.eval (.tmp (takeSlot N fr v s)) := by
  unfold takeSlot
  split
  · rename_i s'
    split
    · rename_i sz es hf
      split
      · rename_i hlt
        obtain ⟨u, hr, hu⟩ := hm.rel s'
        rw [hf] at hr
        have h1 := hu _ (eval_tmp (a := a) (e := e) (s := s') (by rw [hN]; exact hlt))
        rw [h1, hr.1]
        exact hv
      · rfl
    · rfl
  · rfl
theorem callItems_ok {N : Nat} (hN : a.tmps.size = N) (hm : Mem e G S β fr (valsOf e a) w) {take : List Nat} {val : Operand → AV} (hval : ∀ x, RFlat S w β (0, 0) (val x) (a.eval x)) : ∀ (xs : List Operand) (i j : Nat), All2 (fun _ => ArgOk N S w β a) j (callItems N fr take val i xs) (xs.map a.eval)
  | [], _, _ => trivial
  | x :: xs, i, j => by
    simp only [callItems, List.map_cons]
    refine ⟨?_, callItems_ok hN hm hval xs (i + 1) (j + 1)⟩
    split
    · split
      · exact takeSlot_ok hN hm (hval _)
      · exact hval _
    · exact hval x

theorem caps_ok {N : Nat} : ∀ (caps : List AV) (us : List Value) (i j : Nat), All2 (fun _ => RCap S w β) i caps us → All2 (fun _ => ArgOk N S w β a) j (caps.map fun c => ((none, c) : ArgIn)) us
  | [], [], _, _, _ => trivial
  | c :: caps, u :: us, i, j, h => by
    simp only [All2] at h
    refine ⟨?_, caps_ok caps us (i + 1) (j + 1) h.2⟩
    have h1 := h.1
    show RFlat S w β (0, 0) c u
    cases c <;> simp only [RCap] at h1 <;> first | exact h1 | exact h1.elim
  | [], _ :: _, _, _, h => by simp [All2] at h
  | _ :: _, [], _, _, h => by simp [All2] at h

theorem All2.append {α γ : Type} {R : Nat → α → γ → Prop} (hR : ∀ i j a c, R i a c → R j a c) : ∀ {i : Nat} {as bs : List α} {cs ds : List γ}, All2 R i as cs → All2 R 0 bs ds → All2 R i (as ++ bs) (cs ++ ds)
  | i, [], bs, [], ds, _, h2 => by
    simp only [List.nil_append]
    exact All2.of_get (All2.len h2) fun j a c ha hc => by
      obtain ⟨c', hc', hr⟩ := All2.get h2 j a ha
      rw [hc] at hc'
      cases hc'
      exact hR _ _ _ _ hr
  | i, a :: as, bs, c :: cs, ds, h1, h2 => by
    simp only [All2] at h1
    exact ⟨h1.1, All2.append hR h1.2 h2⟩
  | _, [], _, _ :: _, _, h, _ => by simp [All2] at h
  | _, _ :: _, _, [], _, h, _ => by simp [All2] at h

/-- The call of a function value, at the model's own text. -/
theorem run_call {o : Oper} {f : Operand} {args : Array Operand} {ats : Array TypeId} (hop : o.op = .call { callee := .value f, args := args, argTypes := ats }) {k : Nat} {l : List Value} (hf : a.eval f = .func (.func k) #[] ⟨l⟩) (hc : Callable P k) :
    (execOp a.eval o).run P w = .ok (.enter k (args.toList.map a.eval ++ l).toArray) w := by
  obtain ⟨fn, h1, h2, h3⟩ := hc
  simp only [execOp, hop, resolve, hf, Deferred.ofValue, invoke, callFunc, Sem.run_bind, Sem.run_pure, Result.andThen_ok, run_program, h1, h3, Bool.false_eq_true, if_false, h2]
  congr 2
  apply Array.ext'
  simp

end
end Go.Vm
