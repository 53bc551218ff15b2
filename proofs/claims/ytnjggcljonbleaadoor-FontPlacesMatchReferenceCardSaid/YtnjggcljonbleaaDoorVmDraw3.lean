/-
  THE V-MACHINE, part 33: drawn regions whose operations come in several orders: those that look at no memory are taken first, of the others each order is walked.
-/
import Derived.Test.YtnjggcljonbleaaDoorVmDraw2
namespace Go.Vm

/-- Data that say which value they are. -/
def Dat.rigid : Dat → Bool
  | .v _ => true
  | .str _ => true
  | _ => false
def AV.rigid : AV → Bool
  | .d z => z.rigid
  | .bp _ _ => true
  | .ep _ _ _ _ => true
  | _ => false
theorem rigid_unique {S S' : Nat → Prop} {w w' : World} {z : Dat} {u u' : Value} (hz : z.rigid = true) (h : RD S w z u) (h' : RD S' w' z u') : u = u' := by
  cases z <;> simp [Dat.rigid] at hz
  · rw [(RD_v.1 h).1, (RD_v.1 h').1]
  · rw [RD_str.1 h, RD_str.1 h']
theorem rigid_move {S S' : Nat → Prop} {w w' : World} {z : Dat} {u : Value} (hz : z.rigid = true) (h : RD S w z u) : RD S' w' z u := by
  cases z <;> simp [Dat.rigid] at hz
  · exact RD_v.2 (RD_v.1 h)
  · exact RD_str.2 (RD_str.1 h)
theorem rigidA_unique {S : Nat → Prop} {w w' : World} {β : Path → Value} {p p' : Path} {z : AV} {u u' : Value} (hz : z.rigid = true) (h : RFlat S w β p z u) (h' : RFlat S w' β p' z u') : u = u' := by
  cases z <;> simp only [AV.rigid, Bool.false_eq_true] at hz
  · exact rigid_unique hz h h'
  · obtain ⟨b, h1, h2⟩ := h
    obtain ⟨b', h1', h2'⟩ := h'
    rw [h1] at h1'
    cases h1'
    rw [h2, h2']
  · obtain ⟨b, o, n, c, h1, h2⟩ := h
    obtain ⟨b', o', n', c', h1', h2'⟩ := h'
    rw [h1] at h1'
    cases h1'
    rw [h2, h2']
theorem rigidA_move {S : Nat → Prop} {w w' : World} {β : Path → Value} {p : Path} {z : AV} {u : Value} (hz : z.rigid = true) (h : RFlat S w β p z u) : RFlat S w' β p z u := by
  cases z <;> simp only [AV.rigid, Bool.false_eq_true] at hz
  · exact rigid_move hz h
  · exact h
  · exact h

/-- An operation that looks at no memory. -/
def freeOp (P : Program) (N : Nat) (_G : GEnv) (hint : Hint) (fr : Fr) (o : Oper) : Bool :=
  match o.op with
  | .move _ => true
  | .assign _ => true
  | .binOp _ _ x y _ => (oval N [] fr x).rigid && (oval N [] fr y).rigid && (match opR P hint (oval N [] fr) fr o with
    | some r => r.1.rigid
    | none => false)
  | .unOp _ _ x => (oval N [] fr x).rigid && (match opR P hint (oval N [] fr) fr o with
    | some r => r.1.rigid
    | none => false)
  | .fieldAddr _ x _ => (oval N [] fr x).rigid && (match opR P hint (oval N [] fr) fr o with
    | some r => r.1.rigid
    | none => false)
  | .nilCheck x => (oval N [] fr x).rigid && (match opR P hint (oval N [] fr) fr o with
    | some r => r.1.rigid
    | none => false)
  | .indexAddr _ x ix => (match oval N [] fr x with
    | .vw p => (match pget fr p with
      | .own _ _ _ => true
      | _ => false)
    | _ => false) && (oval N [] fr ix).rigid && (match opR P hint (oval N [] fr) fr o with
    | some r => r.1.rigid
    | none => false)
  | .call { callee := .builtin .max, args := ⟨x :: r⟩, argTypes := _ } => (x :: r).all (fun y => (oval N [] fr y).rigid) && (match opR P hint (oval N [] fr) fr o with
    | some r => r.1.rigid
    | none => false)
  | .call { callee := .builtin .min, args := ⟨x :: r⟩, argTypes := _ } => (x :: r).all (fun y => (oval N [] fr y).rigid) && (match opR P hint (oval N [] fr) fr o with
    | some r => r.1.rigid
    | none => false)
  | _ => false

def stepW (P : Program) (N : Nat) (ops : Array Oper) (i : Nat) (h : Hint) (G : GEnv) (fr : Fr) : Option (GEnv × Fr × Prop) :=
  match ops[i]? with
  | some o => match chainOf ops G o with
    | some [] => if freeOp P N G h fr o then stepP P N ops i h G fr else none
    | _ => none
  | none => none

/-- A set of small numbers as one number. -/
def bitsOf : List Nat → Nat
  | [] => 0
  | i :: r => 2 ^ i ||| bitsOf r
theorem bitsOf_test : ∀ (l : List Nat) (j : Nat), (bitsOf l).testBit j = l.contains j
  | [], j => by simp [bitsOf]
  | i :: r, j => by
    simp only [bitsOf, Nat.testBit_or, Nat.testBit_two_pow, bitsOf_test r j, List.contains_cons]
    congr 1
    rw [Bool.eq_iff_iff]
    simp
    exact eq_comm

/-- For which operations each waits; which may not come up behind it. -/
def needsOf (ops : Array Oper) : List Nat := ops.toList.map fun o => bitsOf ((o.after.toList.filter (Region.binds .any ·)).map (·.on))
def conflOf (ops : Array Oper) : List Nat := (List.range ops.size).map fun i => bitsOf ((List.range ops.size).filter fun j => j != i && !(match ops[i]?, ops[j]? with
  | some oi, some oj => oj.after.any (fun e => Region.binds .any e && e.on == i) || oi.apart ops oj
  | _, _ => false))

def readyM (needs : List Nat) (mask : Nat) : List Nat := (List.range needs.length).filter fun i => !mask.testBit i && (needs.getD i 0 &&& mask == needs.getD i 0)
def freeM (confl : List Nat) (mask i : Nat) : Bool := decide (i < confl.length) && ((confl.getD i 0 &&& mask) == confl.getD i 0)

/-- The mask says what is listed. -/
def Rel (ops : Array Oper) (listed : Array Bool) (mask : Nat) : Prop := listed.size = ops.size ∧ ∀ j, listed.getD j false = mask.testBit j

theorem sub_iff (x m : Nat) : (x &&& m == x) = true ↔ ∀ j, x.testBit j = true → m.testBit j = true := by
  rw [beq_iff_eq]
  constructor
  · intro h j hj
    rw [← h, Nat.testBit_and] at hj
    simp only [Bool.and_eq_true] at hj
    exact hj.2
  · intro h
    apply Nat.eq_of_testBit_eq
    intro j
    rw [Nat.testBit_and]
    cases hx : x.testBit j with
    | false => rfl
    | true => rw [h j hx]; rfl

theorem Rel.get_true {ops : Array Oper} {listed : Array Bool} {mask : Nat} (h : Rel ops listed mask) {j : Nat} (hj : j < ops.size) : listed.getD j true = mask.testBit j := by
  rw [← h.2 j]
  have hs : j < listed.size := by rw [h.1]; exact hj
  simp [hs]

theorem Rel.ready {ops : Array Oper} {listed : Array Bool} {mask : Nat} (h : Rel ops listed mask) : Region.ready .any ops listed = readyM (needsOf ops) mask := by
  unfold Region.ready readyM
  have hl : (needsOf ops).length = ops.size := by simp [needsOf]
  rw [hl]
  apply List.filter_congr
  intro i hi
  have hi := List.mem_range.1 hi
  rw [h.get_true hi]
  congr 1
  have hn : (needsOf ops).getD i 0 = bitsOf ((ops[i].after.toList.filter (Region.binds .any ·)).map (·.on)) := by
    rw [List.getD_eq_getElem?_getD]
    simp [needsOf, hi]
  rw [hn, Array.getElem?_eq_getElem hi]
  simp only [Option.map_some, Option.getD_some]
  rw [Bool.eq_iff_iff, sub_iff, ← Array.all_toList, List.all_eq_true]
  constructor
  · intro ha j hj
    rw [bitsOf_test, List.contains_iff_mem, List.mem_map] at hj
    obtain ⟨e, he, rfl⟩ := hj
    obtain ⟨h1, h2⟩ := List.mem_filter.1 he
    have := ha e h1
    rw [h2] at this
    simpa [h.2] using this
  · intro ha e he
    cases hb : Region.binds .any e with
    | false => rfl
    | true =>
      have := ha e.on (by
        rw [bitsOf_test, List.contains_iff_mem, List.mem_map]
        exact ⟨e, List.mem_filter.2 ⟨he, hb⟩, rfl⟩)
      simpa [h.2] using this

theorem Rel.free {ops : Array Oper} {listed : Array Bool} {mask i : Nat} (h : Rel ops listed mask) (hf : freeM (conflOf ops) mask i = true) : Region.free .any ops listed i = true := by
  unfold freeM at hf
  simp only [Bool.and_eq_true, decide_eq_true_eq] at hf
  obtain ⟨hi, hs⟩ := hf
  have hi : i < ops.size := by simpa [conflOf] using hi
  have hn : (conflOf ops).getD i 0 = bitsOf ((List.range ops.size).filter fun j => j != i && !(match ops[i]?, ops[j]? with
      | some oi, some oj => oj.after.any (fun e => Region.binds .any e && e.on == i) || oi.apart ops oj
      | _, _ => false)) := by
    rw [List.getD_eq_getElem?_getD]
    simp [conflOf, hi]
  rw [hn] at hs
  rw [sub_iff] at hs
  unfold Region.free
  rw [Array.getElem?_eq_getElem hi]
  simp only [List.all_eq_true, List.mem_range]
  intro j hj
  by_cases hji : j = i
  · simp [hji]
  cases hl : listed.getD j true with
  | true => simp
  | false =>
    have hm : mask.testBit j = false := by rw [← h.get_true hj]; exact hl
    have hnot : ¬ (bitsOf ((List.range ops.size).filter fun j => j != i && !(match ops[i]?, ops[j]? with
      | some oi, some oj => oj.after.any (fun e => Region.binds .any e && e.on == i) || oi.apart ops oj
      | _, _ => false))).testBit j = true := fun hc => by rw [hs j hc] at hm; cases hm
    rw [bitsOf_test, List.contains_iff_mem, List.mem_filter, List.mem_range, Array.getElem?_eq_getElem hi, Array.getElem?_eq_getElem hj] at hnot
    have hji' : (j != i) = true := by simpa using hji
    simp only [hj, true_and, hji', Bool.true_and, Bool.not_eq_true', Bool.not_eq_false] at hnot
    rw [Array.getElem?_eq_getElem hj]
    simp only [Bool.or_false, Bool.or_eq_true]
    right
    simpa using hnot

theorem Rel.set {ops : Array Oper} {listed : Array Bool} {mask i : Nat} (h : Rel ops listed mask) (hi : i < ops.size) : Rel ops (listed.setIfInBounds i true) (mask ||| 2 ^ i) := by
  refine ⟨by simpa using h.1, fun j => ?_⟩
  have hs : i < listed.size := by rw [h.1]; exact hi
  rw [Nat.testBit_or, Nat.testBit_two_pow, ← h.2 j]
  by_cases hij : i = j
  · subst hij
    simp [hs]
  · simp [hij]
theorem Rel.start (ops : Array Oper) : Rel ops (Array.replicate ops.size false) 0 := by
  refine ⟨by simp, fun j => ?_⟩
  rw [Nat.zero_testBit]
  simp only [Array.getD_eq_getD_getElem?, Array.getElem?_replicate]
  split <;> rfl

/-- In which order the operations are walked: one that looks at no memory is taken; or all that may come up. -/
inductive Plan where
  | done
  | take (i : Nat) (p : Plan)
  | all (p : Plan)
  | alt (i : Nat) (p r : Plan)
  | stop

def freeW (P : Program) (N : Nat) (ops : Array Oper) (i : Nat) (h : Hint) (G : GEnv) (fr : Fr) : Bool :=
  match ops[i]? with
  | some o => match chainOf ops G o with
    | some [] => freeOp P N G h fr o
    | _ => false
  | none => false
/-- All that are not still wait for i. -/
def awaited (needs : List Nat) (st i : Nat) : Bool := (List.range needs.length).all fun j => st.testBit j || (needs.getD j 0).testBit i

def runX (P : Program) (N : Nat) (ops : Array Oper) (tb : List Nat × List Nat) (st : Nat) (hs : List (Nat × Hint)) (fin : Fr → Option Fr) : Plan → Bool → Nat → Nat → GEnv → Fr → Option (List Nat × List Fr × List Prop)
  | .done, true, _, mask, _, fr => if (readyM tb.1 mask).isEmpty then (fin fr).map fun f => ([], [f], []) else none
  | .take i p, true, fuel + 1, mask, G, fr => if st.testBit i && freeM tb.2 mask i && (readyM tb.1 mask).contains i && (freeW P N ops i (hintAt hs i) G fr || awaited tb.1 st i) then
      match stepP P N ops i (hintAt hs i) G fr with
      | some (G1, fr1, obl) => match runX P N ops tb st hs fin p true fuel (mask ||| 2 ^ i) G1 fr1 with
        | some (_, f, l) => some ([], f, obl :: l)
        | none => none
      | none => none
    else none
  | .all p, true, fuel + 1, mask, G, fr => match runX P N ops tb st hs fin p false fuel mask G fr with
    | some (is, f, l) => if readyM tb.1 mask == is && !is.isEmpty then some ([], f, l) else none
    | none => none
  | .alt i p r, false, fuel, mask, G, fr => if st.testBit i then none else match step1 P N ops i (hintAt hs i) G fr with
    | some (G1, fr1, obl) => match runX P N ops tb st hs fin p true fuel (mask ||| 2 ^ i) G1 fr1 with
      | some (_, f, l) => match runX P N ops tb st hs fin r false fuel mask G fr with
        | some (is, f', l') => some (i :: is, f ++ f', obl :: (l ++ l'))
        | none => none
      | none => none
    | none => none
  | .stop, false, _, _, _, _ => some ([], [], [])
  | _, _, _, _, _, _ => none

def finX (keep : List Nat) (cs : List Co) (f : Fr) : Option Fr := match coStep (.keep keep) f with
  | some f' => coAll cs f'
  | none => none

section
variable {P : Program} {e : Env} {G : GEnv} {S : Nat → Prop} {β : Path → Value} {fr : Fr} {w : World} {a : Act} {N : Nat}

theorem run_value {s : Sem Value} {u : Value} (h : s.run P w = .ok u w) : (do pure (Next.value (← s)) : Sem Next).run P w = .ok (.value u) w := by
  simp [h]
theorem value_run {s : Sem Value} {u r : Value} (h : (do pure (Next.value (← s)) : Sem Next).run P w = .ok (.value u) w) (h' : s.run P w = .ok r w) : u = r := by
  simp [h'] at h
  exact h.symm

theorem hx0' {N : Nat} {fr : Fr} {x : Operand} {r : List Operand} (h : ∀ y ∈ x :: r, (oval N [] fr y).rigid = true) {j : Nat} {y : AV} (hy : (r.map (oval N [] fr))[j]? = some y) : y.rigid = true := by
  rw [List.getElem?_map, Option.map_eq_some_iff] at hy
  obtain ⟨z, hz, rfl⟩ := hy
  exact h z (List.mem_cons_of_mem _ (List.mem_of_getElem? hz))

theorem free_indep (hN : a.tmps.size = N) (hm : Mem e G S β fr (valsOf e a) w) {hint : Hint} {o : Oper} (hf : freeOp P N G hint fr o = true) (ho : ∀ r, opR P hint (oval N [] fr) fr o = some r → (∃ x, o.op = .move x ∨ o.op = .assign x) ∨ r.2) {u : Value} (hu : (execOp a.eval o).run P w = .ok (.value u) w) (w' : World) :
    (execOp a.eval o).run P w' = .ok (.value u) w' := by
  obtain ⟨dst, op, type, pos, after, guard⟩ := o
  have hval := fun x => oval_ok hm hN [] rfl x
  unfold freeOp at hf
  simp only at hf
  split at hf
  · rename_i x
    have h1 : (execOp a.eval ⟨dst, .move x, type, pos, after, guard⟩).run P w = .ok (.value (a.eval x)) w := rfl
    rw [h1] at hu
    cases hu
    rfl
  · rename_i x
    have h1 : (execOp a.eval ⟨dst, .assign x, type, pos, after, guard⟩).run P w = .ok (.value (a.eval x)) w := rfl
    rw [h1] at hu
    cases hu
    rfl
  · rename_i op t x y z
    simp only [Bool.and_eq_true] at hf
    obtain ⟨⟨hx, hy⟩, hz⟩ := hf
    split at hz
    case h_2 => cases hz
    rename_i r hr
    have hob : r.2 := by
      rcases ho r hr with ⟨q, hq⟩ | h
      · rcases hq with hq | hq <;> cases hq
      · exact h
    unfold opR at hr
    simp only at hr
    split at hr
    case h_3 => cases hr
    case h_2 =>
      rename_i hA _
      rw [hA] at hx
      cases hx
    rename_i A B hA hB
    have h1 := hval x
    have h2 := hval y
    rw [hA] at h1 hx
    rw [hB] at h2 hy
    split at hr
    · rename_i z ob hzz
      simp only [Option.some.injEq] at hr
      subst hr
      obtain ⟨r1, hr1, hr2⟩ := binD_run P (S := S) w op t x y A B z ob hzz hob _ _ h1 h2
      obtain ⟨r2, hr3, hr4⟩ := binD_run P (S := S) w' op t x y A B z ob hzz hob _ _ (rigid_move hx h1) (rigid_move hy h2)
      have := rigid_unique hz hr2 hr4
      subst this
      have : u = r1 := value_run hu hr1
      subst this
      exact run_value hr3
    · split at hr
      case isFalse => cases hr
      rename_i ht
      simp only [Option.map_eq_some_iff] at hr
      obtain ⟨z, hzz, rfl⟩ := hr
      have htt : P.underlying t = some .bool := by
        unfold isBoolT at ht
        split at ht
        · assumption
        · cases ht
      obtain ⟨r1, hr1, hr2⟩ := boolD_run P (S := S) w op t x y A B z htt hzz _ _ h1 h2
      obtain ⟨r2, hr3, hr4⟩ := boolD_run P (S := S) w' op t x y A B z htt hzz _ _ (rigid_move hx h1) (rigid_move hy h2)
      have := rigid_unique hz hr2 hr4
      subst this
      have : u = r1 := value_run hu hr1
      subst this
      exact run_value hr3
  · rename_i op t x
    simp only [Bool.and_eq_true] at hf
    obtain ⟨hx, hz⟩ := hf
    split at hz
    case h_2 => cases hz
    rename_i r hr
    unfold opR at hr
    simp only at hr
    split at hr
    case h_2 => cases hr
    rename_i A hA
    have h1 := hval x
    rw [hA] at h1 hx
    simp only [Option.map_eq_some_iff] at hr
    obtain ⟨z, hzz, rfl⟩ := hr
    obtain ⟨r1, hr1, hr2⟩ := unD_run P (S := S) w op A z hzz _ h1
    obtain ⟨r2, hr3, hr4⟩ := unD_run P (S := S) w' op A z hzz _ (rigid_move hx h1)
    have := rigid_unique hz hr2 hr4
    subst this
    have : u = r1 := value_run hu hr1
    subst this
    exact run_value hr3
  · rename_i s x f
    simp only [Bool.and_eq_true] at hf
    obtain ⟨hx, hz⟩ := hf
    split at hz
    case h_2 => cases hz
    rename_i r hr
    unfold opR at hr
    simp only [Option.map_eq_some_iff] at hr
    obtain ⟨z, hzz, rfl⟩ := hr
    obtain ⟨r1, hr1, hr2, _⟩ := fieldAddrR_ok (P := P) hzz (hval x)
    obtain ⟨r2, hr3, hr4, _⟩ := fieldAddrR_ok (P := P) (w := w') hzz (rigidA_move hx (hval x))
    have := rigidA_unique hz hr2 hr4
    subst this
    have : u = r1 := value_run hu hr1
    subst this
    exact run_value hr3
  · rename_i x
    simp only [Bool.and_eq_true] at hf
    obtain ⟨hx, hz⟩ := hf
    split at hz
    case h_2 => cases hz
    rename_i r hr
    have h1 := hval x
    unfold opR at hr
    simp only at hr
    split at hr
    · rename_i y off hxx
      rw [hxx] at h1
      obtain ⟨b, _, hb⟩ := h1
      have key : ∀ w, (execOp a.eval ⟨dst, .nilCheck x, type, pos, after, guard⟩).run P w = .ok (.value (a.eval x)) w := by
        intro w
        simp only [execOp, hb]
        rfl
      rw [key] at hu
      cases hu
      exact key w'
    · rename_i p sz i off hxx
      rw [hxx] at h1
      obtain ⟨b, _, _, _, _, hb⟩ := h1
      have key : ∀ w, (execOp a.eval ⟨dst, .nilCheck x, type, pos, after, guard⟩).run P w = .ok (.value (a.eval x)) w := by
        intro w
        simp only [execOp, hb]
        rfl
      rw [key] at hu
      cases hu
      exact key w'
    · rename_i cs hxx
      rw [hxx] at hx
      cases hx
    · cases hr
  · rename_i t x ix
    simp only [Bool.and_eq_true] at hf
    obtain ⟨⟨hx, hix⟩, hz⟩ := hf
    split at hx
    case h_2 => cases hx
    rename_i p hxp
    split at hx
    case h_2 => cases hx
    rename_i sz es hp
    split at hz
    case h_2 => cases hz
    rename_i r hr
    have hob : r.2 := by
      rcases ho r hr with ⟨q, hq⟩ | h
      · rcases hq with hq | hq <;> cases hq
      · exact h
    unfold opR at hr
    simp only at hr
    have h1 := hval x
    have h2 := hval ix
    rw [hxp] at hr h1
    unfold indexAddrR at hr
    split at hr
    · rename_i k i m size hiv hes
      rw [hiv] at h2
      have hyy : a.eval ix = .int k i := h2.1
      unfold elemSize at hes
      split at hes
      · rename_i E hu'
        simp only [Option.map_eq_some_iff, Prod.mk.injEq] at hes
        obtain ⟨ti, hti, _, _, rfl⟩ := hes
        simp only [hp] at hr
        split at hr
        case isFalse => cases hr
        rename_i hsz
        subst hsz
        simp only [Option.some.injEq] at hr
        subst hr
        have huu : a.eval x = β p := h1
        have hown := pget_own hm hp
        rcases hown with ⟨_, rfl⟩ | ⟨b, o, c, arr, E', fz, h5, _⟩
        · obtain ⟨h3, h4⟩ := hob
          simp at h4
          omega
        · have key : ∀ w, (execOp a.eval ⟨dst, .indexAddr t x ix, type, pos, after, guard⟩).run P w = .ok (.value (.pointer (some ⟨b, o + i.toNat * ti.size, none⟩))) w := by
            intro w
            simp only [execOp]
            rw [huu, h5, hyy]
            exact run_value (run_indexAt_sl hu' hti b o es.length c k i hob.1 hob.2)
          rw [key] at hu
          cases hu
          exact key w'
      · simp only [Option.map_eq_some_iff, Prod.mk.injEq] at hes
        obtain ⟨_, _, h, _⟩ := hes
        cases h
      · cases hes
    · cases hr
    · cases hr
  · rename_i x r ts
    simp only [Bool.and_eq_true] at hf
    obtain ⟨hx, hz⟩ := hf
    split at hz
    case h_2 => cases hz
    rename_i q hr
    unfold opR at hr
    simp only [Option.map_eq_some_iff] at hr
    obtain ⟨z, hzz, rfl⟩ := hr
    have hx0 := List.all_eq_true.1 hx
    obtain ⟨v1, hr1, hr2, _⟩ := maxR_ok (P := P) _ _ _ _ _ hzz (hval x) (all2_map hval r 0)
    obtain ⟨v2, hr3, hr4, _⟩ := maxR_ok (P := P) (w := w') _ _ _ _ _ hzz (rigidA_move (hx0 x (List.mem_cons_self ..)) (hval x)) (All2.mono (all2_map hval r 0) fun j y c hy _ hrr => rigidA_move (hx0' hx0 hy) hrr)
    have := rigidA_unique hz hr2 hr4
    subst this
    have key : ∀ w, ((r.map a.eval).foldlM (if false = true then Builtin.min2 else Builtin.max2) (a.eval x)).run P w = .ok v1 w → (execOp a.eval ⟨dst, .call { callee := .builtin .max, args := ⟨x :: r⟩, argTypes := ts }, type, pos, after, guard⟩).run P w = .ok (.value v1) w := by
      intro w hv
      simp only [execOp, resolve, invoke, builtin, Sem.run_bind, Sem.run_pure, Result.andThen_ok, Builtin.max_, List.map_toArray, List.map_cons]
      simp only [Bool.false_eq_true, if_false] at hv
      rw [hv]
      rfl
    rw [key w hr1] at hu
    cases hu
    exact key w' hr3
  · rename_i x r ts
    simp only [Bool.and_eq_true] at hf
    obtain ⟨hx, hz⟩ := hf
    split at hz
    case h_2 => cases hz
    rename_i q hr
    unfold opR at hr
    simp only [Option.map_eq_some_iff] at hr
    obtain ⟨z, hzz, rfl⟩ := hr
    have hx0 := List.all_eq_true.1 hx
    obtain ⟨v1, hr1, hr2, _⟩ := maxR_ok (P := P) _ _ _ _ _ hzz (hval x) (all2_map hval r 0)
    obtain ⟨v2, hr3, hr4, _⟩ := maxR_ok (P := P) (w := w') _ _ _ _ _ hzz (rigidA_move (hx0 x (List.mem_cons_self ..)) (hval x)) (All2.mono (all2_map hval r 0) fun j y c hy _ hrr => rigidA_move (hx0' hx0 hy) hrr)
    have := rigidA_unique hz hr2 hr4
    subst this
    have key : ∀ w, ((r.map a.eval).foldlM (if true = true then Builtin.min2 else Builtin.max2) (a.eval x)).run P w = .ok v1 w → (execOp a.eval ⟨dst, .call { callee := .builtin .min, args := ⟨x :: r⟩, argTypes := ts }, type, pos, after, guard⟩).run P w = .ok (.value v1) w := by
      intro w hv
      simp only [execOp, resolve, invoke, builtin, Sem.run_bind, Sem.run_pure, Result.andThen_ok, Builtin.min_, List.map_toArray, List.map_cons]
      simp only [if_true] at hv
      rw [hv]
      rfl
    rw [key w hr1] at hu
    cases hu
    exact key w' hr3
  · cases hf

theorem stepW_ok {ops : Array Oper} {i : Nat} {h : Hint} {G' : GEnv} {fr' : Fr} {obl : Prop} (hs : stepW P N ops i h G fr = some (G', fr', obl)) (ho : obl) (hm : MemG e G N fr a w) :
    ∃ o u, ops[i]? = some o ∧ YieldsIf P ops (fun _ => True) o u a ∧ MemG e G' N fr' (a.put o.dst u) w := by
  unfold stepW at hs
  split at hs
  case h_2 => cases hs
  rename_i o hoi
  split at hs
  case h_2 => cases hs
  rename_i hch
  split at hs
  case isFalse => cases hs
  rename_i hf
  obtain ⟨o', u, h1, h2, h3⟩ := stepP_ok hs ho hm
  rw [hoi] at h1
  cases h1
  refine ⟨o, u, hoi, ?_, h3⟩
  rcases h2 with ⟨hw, hr⟩ | h2
  · refine .inl ⟨hw, fun w' _ => ?_⟩
    obtain ⟨hd, hN, hI, S, β, hmm⟩ := hm
    refine free_indep hN hmm hf (fun r hr' => ?_) (hr w rfl) w'
    unfold stepP at hs
    rw [hoi] at hs
    simp only at hs
    split at hs
    case isFalse => cases hs
    rw [hch] at hs
    split at hs
    · rename_i t hc ht
      split at hs
      · rename_i fr1 hE
        left
        unfold opP at hE
        split at hE
        · rename_i hop; exact ⟨_, .inr hop⟩
        · rename_i hop; exact ⟨_, .inl hop⟩
        · rename_i hop; exact ⟨_, .inr hop⟩
        · cases hE
      · split at hs
        case h_2 => cases hs
        rename_i r1 hR
        split at hs
        case isFalse => cases hs
        simp only [Option.some.injEq, Prod.mk.injEq] at hs
        obtain ⟨_, _, rfl⟩ := hs
        unfold opR' at hR
        split at hR
        · rename_i hop
          unfold freeOp at hf
          rw [hop] at hf
          cases hf
        · rename_i hop
          unfold freeOp at hf
          rw [hop] at hf
          cases hf
        · rw [hR] at hr'
          cases hr'
          right
          unfold rwA at ho
          split at ho
          · exact ho.1
          · exact ho
    · rename_i hc _
      cases hc
    · cases hs
  · exact .inr h2

theorem stepM_ok {ops : Array Oper} {i : Nat} {h : Hint} {G' : GEnv} {fr' : Fr} {obl : Prop} (hs : stepP P N ops i h G fr = some (G', fr', obl)) (ho : obl) (hm : MemG e G N fr a w) :
    ∃ o u, ops[i]? = some o ∧ YieldsIf P ops (fun w' => freeW P N ops i h G fr = true ∨ w' = w) o u a ∧ MemG e G' N fr' (a.put o.dst u) w := by
  cases hb : freeW P N ops i h G fr with
  | true =>
    have hw : stepW P N ops i h G fr = some (G', fr', obl) := by
      unfold freeW at hb
      unfold stepW
      split at hb
      case h_2 => cases hb
      rename_i o hoi
      split at hb
      case h_2 => cases hb
      rename_i hch
      simp only [hb, if_true]
      exact hs
    obtain ⟨o, u, h1, h2, h3⟩ := stepW_ok hw ho hm
    refine ⟨o, u, h1, ?_, h3⟩
    rcases h2 with ⟨h4, h5⟩ | h2
    · exact .inl ⟨h4, fun w' _ => h5 w' trivial⟩
    · exact .inr h2
  | false =>
    obtain ⟨o, u, h1, h2, h3⟩ := stepP_ok hs ho hm
    refine ⟨o, u, h1, ?_, h3⟩
    rcases h2 with ⟨h4, h5⟩ | h2
    · exact .inl ⟨h4, fun w' hw' => h5 w' (hw'.resolve_left (by simp))⟩
    · exact .inr h2

/-- Any order; the operations of st keep the world. -/
def wpAnyM (P : Program) (ops : Array Oper) (Q : Exit → Act → World → Prop) (st : Nat) : Nat → Array Bool → Act → World → Prop
  | 0, listed, a, w => Region.ready .any ops listed = [] ∧ Q .normal a w
  | fuel + 1, listed, a, w => (Region.ready .any ops listed = [] → Q .normal a w) ∧
    ∀ i ∈ Region.ready .any ops listed, wpOp P ops Q i (fun a' w' => (st.testBit i = true → w' = w) ∧ wpAnyM P ops Q st fuel (listed.setIfInBounds i true) a' w') a w

theorem wpAny_of_M {ops : Array Oper} {Q : Exit → Act → World → Prop} {st : Nat} : ∀ (fuel : Nat) (listed : Array Bool) (a : Act) (w : World), wpAnyM P ops Q st fuel listed a w → wpAny P .any ops Q fuel listed a w
  | 0, _, _, _, h => h
  | fuel + 1, _, _, _, h => ⟨h.1, fun i hi => wpOp_mono (fun a' w' h' => wpAny_of_M fuel _ a' w' h'.2) (h.2 i hi)⟩

theorem takeM {ops : Array Oper} {Q : Exit → Act → World → Prop} {st i : Nat} {oi : Oper} {v : Value} {b : Bool} (hi : ops[i]? = some oi)
    (hw : b = false → ∀ j oj, ops[j]? = some oj → st.testBit j = false → ∃ e ∈ oj.after, Region.binds .any e = true ∧ e.on = i) (hsel : Region.noSelect ops = true) (hQp : ∀ c a w, ¬ Q (.panic c) a w) :
    ∀ (fuel : Nat) (listed : Array Bool) (a : Act) (w : World), (∀ j oj, ops[j]? = some oj → j ≠ i → listed.getD j true = false → (∀ e ∈ oj.after, Region.binds .any e = true → e.on ≠ i) → oi.apart ops oj = true) → i ∈ Region.ready .any ops listed → YieldsIf P ops (fun w' => b = true ∨ w' = w) oi v a →
      wpAnyM P ops Q st fuel (listed.setIfInBounds i true) (a.put oi.dst v) w → wpAnyM P ops Q st (fuel + 1) listed a w := by
  intro fuel
  induction fuel with
  | zero =>
    intro listed a w _ hr hy H
    refine ⟨fun h => (by rw [h] at hr; cases hr), fun j hj => ?_⟩
    by_cases hji : j = i
    · subst hji
      exact hy.wpOp hi (.inr rfl) ⟨fun _ => rfl, H⟩
    · have := ready_mono hj hji
      rw [H.1] at this
      cases this
  | succ fuel ih =>
    intro listed a w hfree hr hy H
    refine ⟨fun h => (by rw [h] at hr; cases hr), fun j hj => ?_⟩
    by_cases hji : j = i
    · subst hji
      exact hy.wpOp hi (.inr rfl) ⟨fun _ => rfl, H⟩
    · obtain ⟨hjun, oj, hoj, hall⟩ := mem_ready.1 hj
      have hnot : ∀ e ∈ oj.after, Region.binds .any e = true → e.on ≠ i := fun e he hb heq => by
        have h1 := hall e he hb
        rw [heq] at h1
        exact unlisted (mem_ready.1 hr).1 h1
      have h2 := wpOp_putIf hoj (hfree j oj hoj hji hjun hnot) (fun cs b => Region.noSelect_spec hsel i oi cs b hi) (fun cs b => Region.noSelect_spec hsel j oj cs b hoj) (fun c a w h => absurd h (hQp c _ w)) hy (H.2 j (ready_mono hj hji))
      refine wpOp_mono (fun a' w' h3 => ?_) h2
      obtain ⟨h4, h5, h6⟩ := h3
      refine ⟨h5, ih (listed.setIfInBounds j true) a' w' (fun k ok hk hki hun hno => ?_) (ready_mono hr (Ne.symm hji)) ?_ ?_⟩
      · refine hfree k ok hk hki ?_ hno
        by_cases hjk : j = k
        · subst hjk; exact hjun
        · rw [getD_set_ne true hjk] at hun; exact hun
      · cases b with
        | true =>
          rcases h4 with ⟨h7, h8⟩ | h4
          · exact .inl ⟨h7, fun w'' _ => h8 w'' (.inl rfl)⟩
          · exact .inr h4
        | false =>
          have hst : st.testBit j = true := by
            cases hs : st.testBit j with
            | true => rfl
            | false =>
              obtain ⟨e, he, hb, hon⟩ := hw rfl j oj hoj hs
              exact absurd hon (hnot e he hb)
          have := h5 hst
          subst this
          exact h4
      · rw [Array.setIfInBounds_comm _ _ hji]
        exact h6

theorem allP_split : ∀ {a b : List Prop}, AllP (a ++ b) → AllP a ∧ AllP b
  | [], _, h => ⟨trivial, h⟩
  | _ :: _, _, h => ⟨⟨h.1, (allP_split h.2).1⟩, (allP_split h.2).2⟩

theorem awaited_ok {ops : Array Oper} {st i : Nat} (h : awaited (needsOf ops) st i = true) {j : Nat} {oj : Oper} (hj : ops[j]? = some oj) (hs : st.testBit j = false) : ∃ e ∈ oj.after, Region.binds .any e = true ∧ e.on = i := by
  have hlt : j < ops.size := (Array.getElem?_eq_some_iff.1 hj).1
  unfold awaited at h
  have := (List.all_eq_true.1 h) j (List.mem_range.2 (by simpa [needsOf] using hlt))
  rw [hs, Bool.false_or, List.getD_eq_getElem?_getD] at this
  have hn : (needsOf ops)[j]? = some (bitsOf ((oj.after.toList.filter (Region.binds .any ·)).map (·.on))) := by
    simp [needsOf, hj]
  rw [hn] at this
  simp only [Option.getD_some, bitsOf_test, List.contains_iff_mem, List.mem_map] at this
  obtain ⟨e, he, hon⟩ := this
  obtain ⟨h1, h2⟩ := List.mem_filter.1 he
  exact ⟨e, Array.mem_toList_iff.1 h1, h2, hon⟩

theorem runX_ok {ops : Array Oper} {tb : List Nat × List Nat} (htb : tb = (needsOf ops, conflOf ops)) {st : Nat} {hs : List (Nat × Hint)} {keep : List Nat} {cs : List Co} (hsel : Region.noSelect ops = true) {Q : Exit → Act → World → Prop} (hQp : ∀ c a w, ¬ Q (.panic c) a w) {fr' : Fr} (hQ : ∀ a' w', MemA e [] N fr' a' w' → Q .normal a' w') : ∀ (p : Plan) (b : Bool) (fuel : Nat) (listed : Array Bool) (mask : Nat) (G : GEnv) (fr : Fr) (is : List Nat) (frs : List Fr) (obs : List Prop) (a : Act) (w : World), Rel ops listed mask → runX P N ops tb st hs (finX keep cs) p b fuel mask G fr = some (is, frs, obs) → (∀ f ∈ frs, f = fr') → AllP obs → MemG e G N fr a w →
    (b = true → wpAnyM P ops Q st fuel listed a w) ∧ (b = false → ∀ i ∈ is, i < ops.size → wpOp P ops Q i (fun a' w' => (st.testBit i = true → w' = w) ∧ wpAnyM P ops Q st fuel (listed.setIfInBounds i true) a' w') a w) := by
  subst htb
  intro p
  induction p with
  | done =>
    intro b fuel listed mask G fr is frs obs a w hrel h hf _ hm
    cases b with
    | false => simp [runX] at h
    | true =>
      simp only [runX] at h
      split at h
      case isFalse => cases h
      rename_i hr
      simp only [Option.map_eq_some_iff, Prod.mk.injEq] at h
      obtain ⟨f, hfin, _, rfl, _⟩ := h
      have := hf f (List.mem_singleton.2 rfl)
      subst this
      have hq : Q .normal a w := by
        refine hQ a w ?_
        unfold finX at hfin
        split at hfin
        case h_2 => cases hfin
        rename_i f' hk
        obtain ⟨g1, g2, _, S', β', hm'⟩ := hm
        obtain ⟨S'', β'', hm''⟩ := coAll_ok cs _ _ S' β' (coKeep hm' hk) hfin
        exact ⟨g1, g2, S'', β'', hm''⟩
      have hr' : Region.ready .any ops listed = [] := by rw [hrel.ready]; simpa using hr
      refine ⟨fun _ => ?_, fun h => by cases h⟩
      cases fuel with
      | zero => exact ⟨hr', hq⟩
      | succ fuel => exact ⟨fun _ => hq, fun i hi => (by rw [hr'] at hi; cases hi)⟩
  | stop =>
    intro b fuel listed mask G fr is frs obs a w _ h _ _ _
    cases b with
    | true => simp [runX] at h
    | false =>
      simp only [runX, Option.some.injEq, Prod.mk.injEq] at h
      obtain ⟨rfl, _⟩ := h
      exact ⟨fun h => (by cases h), fun _ i hi _ => (by cases hi)⟩
  | take i p ih =>
    intro b fuel listed mask G fr is frs obs a w hrel h hf ho hm
    cases b with
    | false => simp [runX] at h
    | true =>
      cases fuel with
      | zero => simp [runX] at h
      | succ fuel =>
        simp only [runX] at h
        split at h
        case isFalse => cases h
        rename_i hc
        simp only [Bool.and_eq_true, Bool.or_eq_true] at hc
        obtain ⟨⟨⟨hst, hfr⟩, hrd⟩, hcase⟩ := hc
        split at h
        case h_2 => cases h
        rename_i G1 fr1 obl hsp
        split at h
        case h_2 => cases h
        rename_i is2 f2 l2 h2
        simp only [Option.some.injEq, Prod.mk.injEq] at h
        obtain ⟨_, rfl, rfl⟩ := h
        obtain ⟨o, u, ho1, hy, hm'⟩ := stepM_ok hsp ho.1 hm
        have hready : i ∈ Region.ready .any ops listed := by rw [hrel.ready]; simpa using hrd
        exact ⟨fun _ => takeM (b := freeW P N ops i (hintAt hs i) G fr) ho1 (fun hb j oj hj hs => awaited_ok (hcase.resolve_left (by rw [hb]; simp)) hj hs) hsel hQp fuel listed a w (Region.free_spec ho1 (hrel.free hfr)) hready hy ((ih true fuel _ _ G1 fr1 is2 f2 l2 _ w (hrel.set (Array.getElem?_eq_some_iff.1 ho1).1) h2 hf ho.2 hm').1 rfl), fun h => by cases h⟩
  | all p ih =>
    intro b fuel listed mask G fr is frs obs a w hrel h hf ho hm
    cases b with
    | false => simp [runX] at h
    | true =>
      cases fuel with
      | zero => simp [runX] at h
      | succ fuel =>
        simp only [runX] at h
        split at h
        case h_2 => cases h
        rename_i is2 f2 l2 h2
        split at h
        case isFalse => cases h
        rename_i hc
        simp only [Bool.and_eq_true, beq_iff_eq, Bool.not_eq_true', List.isEmpty_eq_false_iff] at hc
        simp only [Option.some.injEq, Prod.mk.injEq] at h
        obtain ⟨_, rfl, rfl⟩ := h
        have hrd : Region.ready .any ops listed = is2 := hrel.ready.trans hc.1
        refine ⟨fun _ => ⟨fun h => absurd (hrd ▸ h) hc.2, fun j hj => ?_⟩, fun h => by cases h⟩
        have hj2 : j ∈ is2 := by rw [← hrd]; exact hj
        refine (ih false fuel listed mask G fr is2 f2 l2 a w hrel h2 hf ho hm).2 rfl j hj2 ?_
        obtain ⟨_, o, ho, _⟩ := mem_ready.1 hj
        exact (Array.getElem?_eq_some_iff.1 ho).1
  | alt i p r ihp ihr =>
    intro b fuel listed mask G fr is frs obs a w hrel h hf ho hm
    cases b with
    | true => simp [runX] at h
    | false =>
      simp only [runX] at h
      split at h
      case isTrue => cases h
      rename_i hns
      split at h
      case h_2 => cases h
      rename_i G1 fr1 obl hs1
      split at h
      case h_2 => cases h
      rename_i is2 f2 l2 h2
      split at h
      case h_2 => cases h
      rename_i is3 f3 l3 h3
      simp only [Option.some.injEq, Prod.mk.injEq] at h
      obtain ⟨rfl, rfl, rfl⟩ := h
      refine ⟨fun h => (by cases h), fun _ j hj hlt => ?_⟩
      have hob := allP_split ho.2
      rcases List.mem_cons.1 hj with rfl | hj
      · obtain ⟨o, ho1, hwt, hnw⟩ := step1_ok (K := fun a' w' => (st.testBit j = true → w' = w) ∧ wpAnyM P ops Q st fuel (listed.setIfInBounds j true) a' w') (Q := Q) hs1 ho.1 hm fun a' w' hm' => ⟨fun h => absurd h hns, (ihp true fuel _ _ G1 fr1 is2 f2 l2 a' w' (hrel.set hlt) h2 (fun y hy => hf y (List.mem_append.2 (.inl hy))) hob.1 hm').1 rfl⟩
        unfold wpOp
        simp only [ho1]
        by_cases hwant : Region.wanted o (yielded ops a.tmps) = true
        · rw [if_pos hwant]
          exact .inl (hwt hwant)
        · rw [if_neg hwant]
          exact ⟨fun h => absurd h hns, (hnw (by simpa using hwant)).2⟩
      · exact (ihr false fuel listed mask G fr is3 f3 l3 a w hrel h3 (fun y hy => hf y (List.mem_append.2 (.inr hy))) hob.2 hm).2 rfl j hj hlt

theorem wp_runX {id : Nat} {ops : Array Oper} {hs : List (Nat × Hint)} {keep : List Nat} {cs : List Co} {fr' : Fr} {obs : List Prop} {k : Nat} {Q : Exit → Act → World → Prop} (hmx : P.follows .mixedOrders = true) (hsel : Region.noSelect ops = true) {p : Plan} {tb : List Nat × List Nat} {st : Nat} (htb : (needsOf ops, conflOf ops) = tb) (h : runX P N ops tb st hs (finX keep cs) p true ops.size 0 [] fr = some ([], List.replicate k fr', obs)) (ho : AllP obs) (hm : MemA e [] N fr a w)
    (hQ : ∀ a' w', MemA e [] N fr' a' w' → Q .normal a' w') : (Code.region id ops true).wp P Q a w := by
  refine wp_mono (Q := fun ex a w => match ex with | .normal => Q .normal a w | _ => False) ?_ (fun ex a' w' hq => by cases ex <;> first | exact hq | exact hq.elim)
  refine wp_region_any hmx (wpAny_of_M (st := st) _ _ _ _ ?_)
  obtain ⟨h1, h2, S, β, hm⟩ := hm
  exact (runX_ok (e := e) htb.symm hsel (Q := fun ex a w => match ex with | .normal => Q .normal a w | _ => False) (fun _ _ _ h => h) hQ p true ops.size _ 0 [] fr [] _ obs a { w with drawn := w.drawn + 1 } (Rel.start ops) h (fun f hf => (List.mem_replicate.1 hf).2) ho (memG_nil ⟨h1, h2, S, β, hm.drawn _⟩)).1 rfl

variable {Q : Exit → Act → World → Prop}
theorem T_drawX {id : Nat} {ops : Array Oper} (hmx : P.follows .mixedOrders = true) (m : Nat) (p : Plan) (tb : List Nat × List Nat) (st : Nat) (hs : List (Nat × Hint)) (keep : List Nat) (cs : List Co) (fr' : Fr) (obs : List (Nat × Prop)) (n : Nat) {k : Code} (hsel : Region.noSelect ops = true) (htb : (needsOf ops, conflOf ops) = tb) (h : runX P N ops tb st hs (finX keep cs) p true ops.size 0 [] fr = some ([], List.replicate m fr', owed obs n)) (ho : Owed obs) (hk : T P e N k fr' Q) : T P e N (.seq (.region id ops true) k) fr Q :=
  fun _ _ hm => wp_seq (wp_runX hmx hsel htb h ho.all hm fun a' w' hm' => hk a' w' hm')
theorem T_drawX_end {id : Nat} {ops : Array Oper} (hmx : P.follows .mixedOrders = true) (m : Nat) (p : Plan) (tb : List Nat × List Nat) (st : Nat) (hs : List (Nat × Hint)) (keep : List Nat) (cs : List Co) (fr' : Fr) (obs : List (Nat × Prop)) (n : Nat) (hsel : Region.noSelect ops = true) (htb : (needsOf ops, conflOf ops) = tb) (h : runX P N ops tb st hs (finX keep cs) p true ops.size 0 [] fr = some ([], List.replicate m fr', owed obs n)) (ho : Owed obs) (hk : ∀ a w, MemA e [] N fr' a w → Q .normal a w) : T P e N (.region id ops true) fr Q :=
  fun _ _ hm => wp_runX hmx hsel htb h ho.all hm hk
end
end Go.Vm
