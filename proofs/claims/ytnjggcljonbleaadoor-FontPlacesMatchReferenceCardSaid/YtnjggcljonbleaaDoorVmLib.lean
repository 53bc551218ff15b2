/-
  THE V-MACHINE, part 25: words for the plain functions that a program prints, and for their proofs.
-/
import Derived.Test.YtnjggcljonbleaaDoorVmFunc
namespace Go.Vm

abbrev wI (x : Int) : Int := IntKind.i64.wrap x
def cI (k : IntKind) (x : Int) : List Dat := [.v (.int k x)]
def cB (x : Bool) : List Dat := [.v (.bool x)]
def cS (x : List UInt8) : List Dat := [.str x]
abbrev aI (k : IntKind) (x : Int) : AV := .d (.v (.int k x))
abbrev aB (x : Bool) : AV := .d (.v (.bool x))
abbrev aS (x : List UInt8) : AV := .d (.str x)
abbrev aL (sz : Nat) (es : List (List Dat)) : AV := .d (.sl sz es)

/-- A condition that must hold here. -/
def chk {α : Type} (p : Prop) [Decidable p] (k : Option α) : Option α := if p then k else none
theorem chk_ok {α : Type} {p : Prop} [Decidable p] {k : Option α} {r : α} (h : chk p k = some r) : p ∧ k = some r := by
  unfold chk at h
  split at h
  · exact ⟨by assumption, h⟩
  · cases h
theorem cond_tt {α : Type} {b : Bool} {x y : Option α} {r : α} (hb : b = true) (h : (bif b then x else y) = some r) : x = some r := by
  subst hb; exact h
theorem cond_ff {α : Type} {b : Bool} {x y : Option α} {r : α} (hb : b = false) (h : (bif b then x else y) = some r) : y = some r := by
  subst hb; exact h
def call {α γ : Type} (m : Option α) (k : α → Option γ) : Option γ := match m with
  | some x => k x
  | none => none
theorem call_ok {α γ : Type} {m : Option α} {k : α → Option γ} {r : γ} (h : call m k = some r) : ∃ x, m = some x ∧ k x = some r := by
  unfold call at h
  split at h
  · exact ⟨_, rfl, h⟩
  · cases h

def cL {α : Type} (sz : Nat) (enc : α → List Dat) (x : List α) : List Dat := [.sl sz (x.map enc)]
/-- A value that is given a name. -/
def lett {α γ : Type} (x : α) (k : α → Option γ) : Option γ := k x
theorem lett_ok {α γ : Type} {x : α} {k : α → Option γ} {r : γ} (h : lett x k = some r) : ∃ y, x = y ∧ k y = some r := ⟨x, rfl, h⟩
/-- What a piece of code comes to: it goes on, or it leaves. -/
inductive Out (σ ε : Type) where
  | go (s : σ)
  | esc (e : ε)
def callE {σ ε γ : Type} (m : Option (Out σ ε)) (kr : ε → Option γ) (k : σ → Option γ) : Option γ := match m with
  | some (.go s) => k s
  | some (.esc e) => kr e
  | none => none
theorem callE_ok {σ ε γ : Type} {m : Option (Out σ ε)} {kr : ε → Option γ} {k : σ → Option γ} {r : γ} (h : callE m kr k = some r) : ∃ o, m = some o ∧ callE (some o) kr k = some r := by
  cases m with
  | none => cases h
  | some o => exact ⟨o, rfl, h⟩
theorem callE_esc {σ ε γ : Type} {x : ε} {kr : ε → Option γ} {k : σ → Option γ} {r : γ} (h : callE (some (.esc x)) kr k = some r) : kr x = some r := h
theorem gcall_ok {α : Type} {b : Bool} {m : Option α} {d y : α} (hb : b = true) (h : (bif b then m else some d) = some y) : m = some y := by
  subst hb; exact h
theorem and_trans {α : Type} {p : Prop} {x y z : α} (h : p ∧ x = y) (h2 : y = z) : p ∧ x = z := ⟨h.1, h.2.trans h2⟩
theorem len_ok {α : Type} {xs : List α} (enc : α → List Dat) : True ∧ AV.d (.v (.int .i64 ((xs.map enc).length : Int))) = AV.d (.v (.int .i64 (xs.length : Int))) := ⟨trivial, by simp⟩
theorem cutH {α : Type} {xs : List α} (enc : α → List Dat) {l r : Int} {sz : Nat} (h : 0 ≤ l ∧ l ≤ r ∧ r ≤ (xs.length : Int)) : (0 ≤ l ∧ l ≤ r ∧ r ≤ ((xs.map enc).length : Int)) ∧ AV.d (.sl sz (((xs.map enc).drop l.toNat).take (r.toNat - l.toNat))) = AV.d (.sl sz (((xs.drop l.toNat).take (r.toNat - l.toNat)).map enc)) := by
  refine ⟨by simpa using h, ?_⟩
  simp [List.map_take, List.map_drop]
theorem cutL {α : Type} {xs : List α} (enc : α → List Dat) {l : Int} {sz : Nat} (h : 0 ≤ l ∧ l ≤ (xs.length : Int) ∧ (xs.length : Int) ≤ (xs.length : Int)) : (0 ≤ l ∧ l ≤ ((xs.map enc).length : Int) ∧ ((xs.map enc).length : Int) ≤ ((xs.map enc).length : Int)) ∧ AV.d (.sl sz (((xs.map enc).drop l.toNat).take (((xs.map enc).length : Int).toNat - l.toNat))) = AV.d (.sl sz (((xs.drop l.toNat).take ((xs.length : Int).toNat - l.toNat)).map enc)) := by
  refine ⟨by simpa using h, ?_⟩
  simp [List.map_take, List.map_drop]

/-- An index into a list that is read as data. -/
theorem idx_ok {α : Type} {xs : List α} {i : Int} {d : α} (enc : α → List Dat) (h : 0 ≤ i ∧ i < xs.length) : 0 ≤ i ∧ (xs.map enc)[i.toNat]? = some (enc (xs.getD i.toNat d)) := by
  refine ⟨h.1, ?_⟩
  have : i.toNat < xs.length := by omega
  simp [List.getD_eq_getElem?_getD, List.getElem?_eq_getElem this]
theorem arr_ok {α : Type} {d : α} (enc : α → List Dat) (sz n : Nat) (xs : List α) {i : Int} (hl : xs.length = n) (hsz : ∀ a, (enc a).length = sz) (h : 0 ≤ i ∧ i < n) {cs : List Dat} (hcs : cs = xs.flatMap enc) : enc (xs.getD i.toNat d) = (cs.drop (i.toNat * sz)).take sz := by
  subst hcs
  obtain ⟨k, rfl⟩ := Int.eq_ofNat_of_zero_le h.1
  have hk : k < xs.length := by omega
  clear h hl
  rw [Int.toNat_natCast]
  induction xs generalizing k with
  | nil => simp at hk
  | cons x xs ih =>
    cases k with
    | zero => simp [← hsz x]
    | succ k =>
      have := ih k (by simpa using hk)
      rw [List.getD_cons_succ, this, List.flatMap_cons, Nat.succ_mul, Nat.add_comm, ← List.drop_drop, ← hsz x, List.drop_left]
theorem own_idx {α : Type} {xs : List α} {i : Int} (enc : α → List Dat) (h : 0 ≤ i ∧ i < xs.length) : 0 ≤ i ∧ i < (xs.map enc).length := by
  simpa using h
theorem set_ok {α : Type} {xs : List α} {i : Nat} {x : α} {e : List Dat} (enc : α → List Dat) (h : e = enc x) : (xs.map enc).set i e = (xs.set i x).map enc := by
  rw [h, List.map_set]
theorem app_ok {α : Type} {xs ys : List α} (enc : α → List Dat) {n : Nat} (h : xs.length + ys.length ≤ n) : (xs.map enc).length + (ys.map enc).length ≤ n ∧ xs.map enc ++ ys.map enc = (xs ++ ys).map enc := by
  simpa using h
theorem app1_ok {α : Type} {xs : List α} {x : α} {e : List Dat} (enc : α → List Dat) {n : Nat} (he : e = enc x) (h : xs.length + 1 ≤ n) : (xs.map enc).length + [e].length ≤ n ∧ xs.map enc ++ [e] = (xs ++ [x]).map enc := by
  subst he; simpa using h
theorem take_ok {α : Type} {xs : List α} (enc : α → List Dat) {n : Int} (h : 0 ≤ n ∧ n ≤ (xs.length : Int)) : (0 ≤ n ∧ n ≤ ((xs.map enc).length : Int)) ∧ (xs.map enc).take n.toNat = (xs.take n.toNat).map enc := ⟨by simpa using h, by simp [List.map_take]⟩
theorem repl_ok {α : Type} {n : Nat} {x : α} {e : List Dat} (enc : α → List Dat) (he : e = enc x) : List.replicate n e = (List.replicate n x).map enc := by
  subst he; simp
theorem cut_ok {α : Type} {xs : List α} (enc : α → List Dat) (i n : Nat) (sz : Nat) : AV.d (.sl sz (((xs.map enc).drop i).take n)) = AV.d (.sl sz (((xs.drop i).take n).map enc)) := by
  simp [List.map_take, List.map_drop]

section
variable {P : Program} {e : Env} {N : Nat} {fr : Fr} {Q : Exit → Act → World → Prop}

theorem inBlock_exit {id : Nat} {a : Act} {w : World} (h : Q .normal a w) : Exit.inBlock id Q (.exit id) a w := by
  simp [Exit.inBlock, h]
theorem inBlock_pass {id id' : Nat} {a : Act} {w : World} (hne : (id' == id) = false) (h : Q (.exit id') a w) : Exit.inBlock id Q (.exit id') a w := by
  have : id' ≠ id := by simpa using hne
  simp [Exit.inBlock, this, h]

/-- Two pieces, and what holds between them. -/
theorem T_join {σ : Type} (I : σ → Fr) (R : σ → Prop) {x z : Code} (hx : T P e N x fr (Exit.then (fun a w => ∃ s, R s ∧ MemA e [] N (I s) a w) Q)) (hz : ∀ s, R s → T P e N z (I s) Q) : T P e N (.seq x z) fr Q :=
  fun a w hm => wp_seq (wp_mono (hx a w hm) fun ex a' w' hq => by
    cases ex with
    | normal =>
      obtain ⟨s, hs, hm'⟩ := hq
      exact hz s hs a' w' hm'
    | exit id => exact hq
    | goto l => exact hq
    | ret => exact hq
    | panic ch => exact hq
    | outgrown => exact hq)

/-- A LOOP that a plain function follows with fuel. -/
theorem T_loopF {ι : Type} (I : ι → Fr) (R : Nat → ι → Prop) {body : Code} (h0 : ∀ i, ¬ R 0 i) (round : ∀ n i, R (n + 1) i → T P e N body (I i) (Exit.then (fun a w => ∃ j, R n j ∧ MemA e [] N (I j) a w) Q)) (n : Nat) (i : ι) (h : R n i) : T P e N (.loop body) (I i) Q := by
  refine T_loop (ι := Nat × ι) (fun p => I p.2) (fun p => R p.1 p.2) (fun p => p.1) (fun p hp => ?_) (n, i) h
  obtain ⟨m, j⟩ := p
  cases m with
  | zero => exact absurd hp (h0 j)
  | succ m =>
    intro a w hm
    refine wp_mono (round m j hp a w hm) fun ex a' w' hq => ?_
    cases ex with
    | normal =>
      obtain ⟨j', hj, hm'⟩ := hq
      exact ⟨(m, j'), hj, Nat.lt_succ_self m, hm'⟩
    | exit id => exact hq
    | goto l => exact hq
    | ret => exact hq
    | panic ch => exact hq
    | outgrown => exact hq
theorem inBlock_norm {id : Nat} {a : Act} {w : World} (h : Q .normal a w) : Exit.inBlock id Q .normal a w := h
theorem inBlock_ret {id : Nat} {a : Act} {w : World} (h : Q .ret a w) : Exit.inBlock id Q .ret a w := h
theorem then_norm {K : Act → World → Prop} {a : Act} {w : World} (h : K a w) : Exit.then K Q .normal a w := h
theorem then_ret {K : Act → World → Prop} {a : Act} {w : World} (h : Q .ret a w) : Exit.then K Q .ret a w := h
theorem then_exit {K : Act → World → Prop} {id : Nat} {a : Act} {w : World} (h : Q (.exit id) a w) : Exit.then K Q (.exit id) a w := h

theorem T_joinct {σ ρ : Type} {m : Option σ} {k : σ → Option ρ} {r : ρ} (h : call m k = some r) (I : σ → Fr) {x : Code} (hx : ∀ s, m = some s → T P e N x fr (Exit.then (fun a w => MemA e [] N (I s) a w) Q)) (hz : ∀ s, k s = some r → ∀ a w, MemA e [] N (I s) a w → Q .normal a w) : T P e N x fr Q := by
  obtain ⟨s, hm, hk⟩ := call_ok h
  intro a w hw
  refine wp_mono (hx s hm a w hw) fun ex a' w' hq => ?_
  cases ex with
  | normal => exact hz s hk a' w' hq
  | exit id => exact hq
  | goto l => exact hq
  | ret => exact hq
  | panic ch => exact hq
  | outgrown => exact hq
theorem T_joinc {σ ρ : Type} {m : Option σ} {k : σ → Option ρ} {r : ρ} (h : call m k = some r) (I : σ → Fr) {x z : Code} (hx : ∀ s, m = some s → T P e N x fr (Exit.then (fun a w => MemA e [] N (I s) a w) Q)) (hz : ∀ s, k s = some r → T P e N z (I s) Q) : T P e N (.seq x z) fr Q := by
  obtain ⟨s, hm, hk⟩ := call_ok h
  exact T_seq (I s) (hx s hm) (hz s hk)
theorem T_joinEt {σ ε ρ : Type} {m : Option (Out σ ε)} {kr : ε → Option ρ} {k : σ → Option ρ} {r : ρ} (h : callE m kr k = some r) (I : σ → Fr) {x : Code} (hx : ∀ o, m = some o → callE (some o) kr k = some r → T P e N x fr (Exit.then (fun a w => ∃ s, o = .go s ∧ MemA e [] N (I s) a w) Q)) (hz : ∀ s, k s = some r → ∀ a w, MemA e [] N (I s) a w → Q .normal a w) : T P e N x fr Q := by
  obtain ⟨o, hm, hk⟩ := callE_ok h
  intro a w hw
  refine wp_mono (hx o hm hk a w hw) fun ex a' w' hq => ?_
  cases ex with
  | normal =>
    obtain ⟨s, rfl, hq⟩ := hq
    exact hz s hk a' w' hq
  | exit id => exact hq
  | goto l => exact hq
  | ret => exact hq
  | panic ch => exact hq
  | outgrown => exact hq
theorem T_joinE {σ ε ρ : Type} {m : Option (Out σ ε)} {kr : ε → Option ρ} {k : σ → Option ρ} {r : ρ} (h : callE m kr k = some r) (I : σ → Fr) {x z : Code} (hx : ∀ o, m = some o → callE (some o) kr k = some r → T P e N x fr (Exit.then (fun a w => ∃ s, o = .go s ∧ MemA e [] N (I s) a w) Q)) (hz : ∀ s, k s = some r → T P e N z (I s) Q) : T P e N (.seq x z) fr Q := by
  obtain ⟨o, hm, hk⟩ := callE_ok h
  refine fun a w hw => wp_seq (wp_mono (hx o hm hk a w hw) fun ex a' w' hq => ?_)
  cases ex with
  | normal =>
    obtain ⟨s, rfl, hq⟩ := hq
    exact hz s hk a' w' hq
  | exit id => exact hq
  | goto l => exact hq
  | ret => exact hq
  | panic ch => exact hq
  | outgrown => exact hq

end
end Go.Vm
