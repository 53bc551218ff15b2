/-
  THE V-MACHINE, part 32: what a reading of the arguments says: data.
-/
import Derived.Test.YtnjggcljonbleaaDoorVmEntry
import Derived.Test.YtnjggcljonbleaaDoorVmMath
namespace Go.Vm
open Go.ChangeShapes Go.RowKit Go.WideShapes

/-- Whatever reads as a t is some a, encoded. -/
def Opens {α : Type} (P : Program) (t : TypeId) (enc : α → List Dat) (Q : α → Prop) : Prop :=
  ∀ (H : Type) (en : TypeId × Value → H) (W : World) (n : Nat) (cs : List Value) (x : DataW H × List MemPlace),
    DataW.trod en P W 0 (fun _ => true) true n t cs = some x → ∃ a, Q a ∧ cs.length = (enc a).length ∧ RCs (allS W) W (enc a) (fun j => cs[j]?) 0

section
variable {P : Program} {t : TypeId}

theorem opens_int {k : IntKind} (ht : P.underlying t = some (.int k)) : Opens P t (cI k) (fun n => (Lit.int k n).wf = true) := by
  intro H en W n cs x h
  obtain ⟨a, rfl, rfl, hw⟩ := DataW.trod_int ht h
  exact ⟨a, hw, rfl, by simp [cI, RCs, RD, Value.oneCell']⟩
theorem opens_bool (ht : P.underlying t = some .bool) : Opens P t cB (fun _ => True) := by
  intro H en W n cs x h
  obtain ⟨a, rfl, rfl⟩ := DataW.trod_bool ht h
  exact ⟨a, trivial, rfl, by simp [cB, RCs, RD, Value.oneCell']⟩
theorem opens_str (ht : P.underlying t = some .string) : Opens P t cS (fun l => l.length ≤ maxLen) := by
  intro H en W n cs x h
  obtain ⟨a, rfl, rfl, hw⟩ := DataW.trod_string ht h
  exact ⟨a.data.toList, by show a.data.toList.length ≤ maxLen; rw [Array.length_toList]; exact hw, rfl, by simp only [cS, RCs, RD, strOf]; exact ⟨⟨_, rfl, rfl⟩, trivial⟩⟩

theorem lists_of {α : Type} {R : Nat → α → Prop} : ∀ (n : Nat), (∀ i, i < n → ∃ a, R i a) → ∃ l : List α, l.length = n ∧ ∀ i a, l[i]? = some a → R i a
  | 0, _ => ⟨[], rfl, fun i a h => by simp at h⟩
  | n + 1, h => by
    obtain ⟨l, h1, h2⟩ := lists_of n (fun i hi => h i (by omega))
    obtain ⟨a, ha⟩ := h n (by omega)
    refine ⟨l ++ [a], by simp [h1], fun i b hb => ?_⟩
    rcases Nat.lt_or_ge i n with hi | hi
    · rw [List.getElem?_append_left (by omega)] at hb
      exact h2 i b hb
    · rw [List.getElem?_append_right (by omega), h1] at hb
      have hi0 : i - n = 0 := by
        rcases Nat.eq_zero_or_pos (i - n) with h0 | h0
        · exact h0
        · rw [List.getElem?_eq_none (by simp; omega)] at hb
          cases hb
      rw [hi0] at hb
      simp at hb
      have : i = n := by omega
      subst this
      subst hb
      exact ha

/-- The cells of a place that can be read. -/
theorem cells_at {W : World} {a : Addr} {n : Nat} {cs : List Value} (h : W.cells? 0 a n = some cs) (hn : 0 < n) : a.spot = none ∧ cs.length = n ∧ ∃ arr E fz, W.heap[a.block]? = some (.cells arr E fz) ∧ ∀ j, j < n → arr[a.off + j]? = cs[j]? := by
  unfold World.cells? at h
  rw [if_pos (Nat.zero_le _)] at h
  have hl : cs.length = n := by simpa using mapM_some_length h
  have hg : ∀ j, j < n → W.cell? (a.add j) = cs[j]? := fun j hj => mapM_some_get h j j (by simp [hj])
  have h0 := hg 0 hn
  rw [List.getElem?_eq_getElem (by omega)] at h0
  simp only [Addr.add, if_true, World.cell?] at h0
  split at h0
  · rename_i arr E fz hb
    split at h0
    · cases h0
    · rename_i hs
      have hs' : a.spot = none := by simpa using hs
      refine ⟨hs', hl, arr, E, fz, hb, fun j hj => ?_⟩
      have := hg j hj
      rw [← this]
      by_cases hj0 : j = 0
      · subst hj0
        simp [World.cell?, Addr.add, hb, hs']
      · simp [World.cell?, Addr.add, hb, hj0]
  · cases h0

theorem opens_slice {α : Type} {e : TypeId} {enc : α → List Dat} {Q : α → Prop} {sz : Nat} (ht : P.underlying t = some (.slice e)) (hsz : P.cellsOf e = sz) (h0 : 0 < sz) (he : Opens P e enc Q) : Opens P t (cL sz enc) (fun l => l.length ≤ maxLen ∧ ∀ a ∈ l, Q a) := by
  intro H en W n cs x h
  rcases DataW.trod_slice ht h with ⟨rfl, rfl⟩ | ⟨a, len, cap, elems, rest, m, _, rfl, rfl, _, hlc, hcm, hlen, hel, hsp, _⟩
  · refine ⟨[], ⟨Nat.zero_le _, by simp⟩, rfl, ?_⟩
    simp only [cL, List.map_nil, RCs, and_true]
    exact ⟨_, rfl, by unfold RD; exact .inl ⟨⟨_, rfl⟩, rfl⟩⟩
  · obtain ⟨hrl, hre⟩ := hsp rfl
    rw [hsz] at hel hre
    have each : ∀ i, i < len → ∃ y, Q y ∧ (enc y).length = sz ∧ ∃ cs', W.cells? 0 (a.add (i * sz)) sz = some cs' ∧ RCs (allS W) W (enc y) (fun j => cs'[j]?) 0 := by
      intro i hi
      have h1 := hel i hi
      rw [List.getElem?_eq_getElem (by omega), Option.bind_eq_some_iff] at h1
      obtain ⟨cs', h2, h3⟩ := h1
      obtain ⟨y, hq, hl, hr⟩ := he H en W _ _ _ h3
      exact ⟨y, hq, by rw [← hl, (cells_at h2 h0).2.1], cs', h2, hr⟩
    obtain ⟨l, hll, hl⟩ := lists_of len each
    have hadd : ∀ i, a.spot = none → a.add i = ⟨a.block, a.off + i, none⟩ := by
      intro i hs
      obtain ⟨b, o, s⟩ := a
      simp only at hs
      subst hs
      simp only [Addr.add]
      split
      · rename_i hi; subst hi; rfl
      · rfl
    refine ⟨l, ⟨by omega, fun y hy => ?_⟩, rfl, ?_⟩
    · obtain ⟨i, hi, rfl⟩ := List.getElem_of_mem hy
      exact (hl i _ (List.getElem?_eq_getElem hi)).1
    · simp only [cL, RCs, and_true]
      refine ⟨_, rfl, ?_⟩
      unfold RD
      by_cases hc : cap = 0
      · left
        have : len = 0 := by omega
        subst hc
        subst this
        exact ⟨⟨_, rfl⟩, by rw [List.eq_nil_of_length_eq_zero hll]; rfl⟩
      · right
        have first : ∃ cs', W.cells? 0 (a.add 0) sz = some cs' := by
          rcases Nat.eq_zero_or_pos len with hz | hp
          · have h1 := hre 0 (by omega)
            rw [List.getElem?_eq_getElem (by omega), Option.bind_eq_some_iff] at h1
            obtain ⟨cs', h2, _⟩ := h1
            rw [hz] at h2
            simp only [Nat.zero_add, Nat.zero_mul] at h2
            exact ⟨cs', h2⟩
          · obtain ⟨_, _, _, cs', h2, _⟩ := each 0 hp
            simp only [Nat.zero_mul] at h2
            exact ⟨cs', h2⟩
        obtain ⟨cs0, hf⟩ := first
        rw [show a.add 0 = a from rfl] at hf
        obtain ⟨hspot, _, arr, E, fz, hb, _⟩ := cells_at hf h0
        refine ⟨a.block, a.off, cap, arr, E, fz, ?_, by simp [hll]; omega, ?_, hb, REs.of_get _ _ fun j d hd => ?_⟩
        · rw [List.length_map, hll, show (⟨a.block, a.off, none⟩ : Addr) = a.add 0 from (hadd 0 hspot).symm]
          rfl
        · exact (Array.getElem?_eq_some_iff.1 hb).1
        · rw [List.getElem?_map, Option.map_eq_some_iff] at hd
          obtain ⟨y, hy, rfl⟩ := hd
          obtain ⟨_, h1, cs', h2, h3⟩ := hl j y hy
          refine ⟨h1, RCs.congr _ 0 _ (fun i hi => ?_) h3⟩
          obtain ⟨_, _, arr', E', fz', hb', hg⟩ := cells_at h2 h0
          rw [hadd _ hspot] at hb' hg
          simp only at hb' hg
          rw [hb] at hb'
          cases hb'
          rw [hg i (by omega), Nat.zero_add]

theorem Opens.map {α γ : Type} {enc : α → List Dat} {enc' : γ → List Dat} {Q : α → Prop} {Q' : γ → Prop} (h : Opens P t enc Q) (f : α → γ) (he : ∀ a, enc' (f a) = enc a) (hq : ∀ a, Q a → Q' (f a)) : Opens P t enc' Q' := by
  intro H en W n cs x hx
  obtain ⟨a, h1, h2, h3⟩ := h H en W n cs x hx
  exact ⟨f a, hq a h1, by rw [he]; exact h2, by rw [he]; exact h3⟩

/-- Fields from o on, in rows of N cells. -/
def OpensN {β : Type} (P : Program) (N : Nat) (fs : List Field) (o : Nat) (enc : β → List Dat) (Q : β → Prop) : Prop :=
  ∀ (H : Type) (en : TypeId × Value → H) (W : World) (n : Nat) (cs : List Value), cs.length = N →
    (∀ f ∈ fs, ∃ x, DataW.trod en P W 0 (fun _ => true) true n f.type ((cs.drop f.offset).take (P.cellsOf f.type)) = some x) → ∃ b, Q b ∧ o + (enc b).length = N ∧ RCs (allS W) W (enc b) (fun j => cs[j]?) o
theorem opensN_nil (P : Program) (N : Nat) : OpensN P N [] N (fun _ : Unit => []) (fun _ => True) := fun _ _ _ _ _ _ _ => ⟨(), trivial, by simp, by simp [RCs]⟩

theorem RCs.append' {S : Nat → Prop} {w : World} {g : Nat → Option Value} : ∀ (xs ys : List Dat) (o : Nat), RCs S w xs g o → RCs S w ys g (o + xs.length) → RCs S w (xs ++ ys) g o
  | [], ys, o, _, h => by simpa using h
  | x :: xs, ys, o, h, h2 => by
    simp only [List.cons_append, RCs] at h ⊢
    refine ⟨h.1, RCs.append' xs ys (o + 1) h.2 ?_⟩
    have : o + (x :: xs).length = o + 1 + xs.length := by simp; omega
    rwa [this] at h2

theorem opensN_cons {α β : Type} {f : Field} {fs : List Field} {N o sz : Nat} {enc : α → List Dat} {encs : β → List Dat} {Q : α → Prop} {Qs : β → Prop} (ho : f.offset = o) (hsz : P.cellsOf f.type = sz) (hN : o + sz ≤ N)
    (h : Opens P f.type enc Q) (hs : OpensN P N fs (o + sz) encs Qs) : OpensN P N (f :: fs) o (fun x : α × β => enc x.1 ++ encs x.2) (fun x => Q x.1 ∧ Qs x.2) := by
  intro H en W n cs hcs hx
  obtain ⟨b, h1, h2, h3⟩ := hs H en W n cs hcs (fun f' hf => hx f' (List.mem_cons_of_mem _ hf))
  obtain ⟨x, hx0⟩ := hx f (List.mem_cons_self ..)
  rw [ho, hsz] at hx0
  obtain ⟨a, h4, h5, h6⟩ := h H en W n _ _ hx0
  have hl : (enc a).length = sz := by
    rw [← h5, List.length_take, List.length_drop]
    omega
  refine ⟨(a, b), ⟨h4, h1⟩, by simp [hl]; omega, RCs.append' _ _ _ (RCs.congr _ 0 o (fun j hj => ?_) h6) (by rw [hl]; exact h3)⟩
  simp only [Nat.zero_add, List.getElem?_take, List.getElem?_drop]
  simp only at hj
  rw [if_pos (by omega)]

theorem opens_struct {β : Type} {fs : Array Field} {N : Nat} {enc : β → List Dat} {Q : β → Prop} (ht : P.underlying t = some (.struct fs)) (hN : P.cellsOf t = N) (h : OpensN P N fs.toList 0 enc Q) : Opens P t enc Q := by
  intro H en W n cs x hx
  obtain ⟨xs, m, _, _, hl, hxl, hf⟩ := DataW.trod_struct ht hx
  obtain ⟨b, h1, h2, h3⟩ := h H en W m cs (by rw [hl, hN]) (fun f hfm => by
    obtain ⟨i, hi, rfl⟩ := List.getElem_of_mem hfm
    have hi' : i < fs.size := by simpa using hi
    have := hf i fs[i] (by simp [hi'])
    rw [List.getElem?_eq_getElem (by omega)] at this
    exact ⟨_, by simpa using this⟩)
  exact ⟨b, h1, by rw [hl, hN, ← h2]; omega, h3⟩

/-- The arguments of a call. -/
def OpensArgs {β : Type} (P : Program) (ts : List TypeId) (av : β → List AV) (Q : β → Prop) : Prop :=
  ∀ (H : Type) (en : TypeId × Value → H) (W : World) (base : Nat) (vs : List Value) (ds : List (DataW H)) (ps : List MemPlace),
    (∀ (j : Nat) t v, ts[j]? = some t → vs[j]? = some v → Value.okWide P W .any base t v) → DataW.TrodAll en P W 0 (fun _ => true) true ts vs ds ps →
    ∃ b, Q b ∧ vs.length = (av b).length ∧ (av b).all AV.isData = true ∧ ∀ i, All2 (fun _ a u => RFlat (allS W) W (fun _ => .bool false) (0, 0) a u) i (av b) vs
theorem opensArgs_nil (P : Program) : OpensArgs P [] (fun _ : Unit => []) (fun _ => True) := by
  intro H en W base vs ds ps _ h
  cases vs with
  | nil => exact ⟨(), trivial, rfl, rfl, fun _ => by simp [All2]⟩
  | cons v vs => exact h.elim

def plainType (P : Program) (t : TypeId) : Bool := match P.underlying t with
  | some (.struct _) | some (.array _ _) => false
  | _ => true
theorem okWide_one {r : Reach} {b0 : Nat} {W : World} {v : Value} (h : plainType P t = true) (ho : Value.okWide P W r b0 t v) : v.cells = #[v] := by
  unfold plainType at h
  unfold Value.okWide at ho
  split at ho
  · rename_i hu; rw [hu] at h; cases h
  · rename_i hu; rw [hu] at h; cases h
  · cases v <;> try rfl
    exfalso
    unfold Cell.okWide at ho
    split at ho <;> try contradiction
    unfold Cell.ok at ho
    split at ho <;> contradiction
theorem okWide_agg {r : Reach} {b0 : Nat} {W : World} {v : Value} {fs : Array Field} (ht : P.underlying t = some (.struct fs)) (ho : Value.okWide P W r b0 t v) : ∃ cs, v = .agg cs := by
  simp only [Value.okWide, ht] at ho
  exact ⟨_, ho.choose_spec.1⟩

theorem opensArgs_flat {α β : Type} {ts : List TypeId} {x : α → Dat} {enc : α → List Dat} {av : β → List AV} {Q : α → Prop} {Qs : β → Prop} (hp : plainType P t = true) (he : ∀ a, enc a = [x a]) (h : Opens P t enc Q) (hs : OpensArgs P ts av Qs) :
    OpensArgs P (t :: ts) (fun z : α × β => .d (x z.1) :: av z.2) (fun z => Q z.1 ∧ Qs z.2) := by
  intro H en W base vs ds ps hok hd
  cases vs with
  | nil => exact hd.elim
  | cons v vs =>
    cases ds with
    | nil => exact hd.elim
    | cons d ds =>
      obtain ⟨p, q, ⟨n, h1⟩, h2, _⟩ := hd
      obtain ⟨b, h3, h4, h5, h6⟩ := hs H en W base vs ds q (fun j t' v' ht hv => hok (j + 1) t' v' (by simpa using ht) (by simpa using hv)) h2
      obtain ⟨a, h7, h8, h9⟩ := h H en W n _ _ h1
      rw [okWide_one hp (hok 0 t v rfl rfl), he] at h9
      simp only [RCs, and_true] at h9
      obtain ⟨u, hu, hr⟩ := h9
      have hu : v = u := by simpa using hu
      subst hu
      refine ⟨(a, b), ⟨h7, h3⟩, by simp [h4], by simpa [AV.isData] using h5, fun i => ?_⟩
      simp only [All2]
      exact ⟨hr, h6 _⟩
theorem opensArgs_agg {α β : Type} {ts : List TypeId} {fs : Array Field} {enc : α → List Dat} {av : β → List AV} {Q : α → Prop} {Qs : β → Prop} (ht : P.underlying t = some (.struct fs)) (h : Opens P t enc Q) (hs : OpensArgs P ts av Qs) :
    OpensArgs P (t :: ts) (fun z : α × β => .agg (enc z.1) :: av z.2) (fun z => Q z.1 ∧ Qs z.2) := by
  intro H en W base vs ds ps hok hd
  cases vs with
  | nil => exact hd.elim
  | cons v vs =>
    cases ds with
    | nil => exact hd.elim
    | cons d ds =>
      obtain ⟨p, q, ⟨n, h1⟩, h2, _⟩ := hd
      obtain ⟨b, h3, h4, h5, h6⟩ := hs H en W base vs ds q (fun j t' v' ht hv => hok (j + 1) t' v' (by simpa using ht) (by simpa using hv)) h2
      obtain ⟨a, h7, h8, h9⟩ := h H en W n _ _ h1
      obtain ⟨cs, rfl⟩ := okWide_agg ht (hok 0 t v rfl rfl)
      refine ⟨(a, b), ⟨h7, h3⟩, by simp [h4], by simpa [AV.isData] using h5, fun i => ?_⟩
      simp only [All2]
      exact ⟨⟨cs.toList, by simp, h8, h9⟩, h6 _⟩

theorem KeptAll.below {W W' : World} (h : KeptAll W W') : W.keptBut W' (fun _ => False) := h.but _
theorem KeptAll.same {W W' : World} (h : KeptAll W W') {p : MemPlace} (hp : p.block < W.heap.size) : W.sameAt W' p := by
  cases p with
  | cell b o => exact World.cell?_of_block (w := W) (h.heap b hp)
  | map b => exact h.heap b hp

theorem TrodAll_kept {H : Type} {en : TypeId × Value → H} {W W' : World} (hl : laidOutB P = true) (hk : KeptAll W W') (sp : Nat → Bool) : ∀ {ts : List TypeId} {vs : List Value} {ds : List (DataW H)} {ps : List MemPlace},
    (ts.all fun t => P.readableRec t && decide (t < P.types.size)) = true → DataW.TrodAll en P W 0 (fun _ => true) true ts vs ds ps → (∀ p ∈ ps, p.block < W.heap.size) → (∀ p ∈ ps, sp p.block = true) → DataW.TrodAll en P W' 0 sp true ts vs ds ps
  | [], [], [], _, _, h, _, _ => h
  | [], [], _ :: _, _, _, h, _, _ => h.elim
  | [], _ :: _, _, _, _, h, _, _ => h.elim
  | _ :: _, [], _, _, _, h, _, _ => h.elim
  | _ :: _, _ :: _, [], _, _, h, _, _ => h.elim
  | t :: ts, v :: vs, d :: ds, ps, hr, h, hlt, hsp => by
    obtain ⟨p, q, h1, h2, rfl⟩ := h
    simp only [List.all_cons, Bool.and_eq_true, decide_eq_true_eq] at hr
    refine ⟨p, q, WideElems.Trod_stays hl hr.1.1 hr.1.2 h1 (fun x hx => hk.same (hlt x (by simp [hx]))) (fun x hx => hsp x (by simp [hx])), TrodAll_kept hl hk sp hr.2 h2 (fun x hx => hlt x (by simp [hx])) (fun x hx => hsp x (by simp [hx])), rfl⟩
end

/-- The contract of a given row, from a law over data. -/
theorem law_contract {β : Type} {H : Type} {enc : TypeId × Value → H} {P : Program} {k : Nat} {f : Func} {s : ChangeSpec} {av : β → List AV} {Q : β → Prop} {r : Bool} {tb : TypeId} {ts : List TypeId} {apart fresh handsOn : Bool}
    (hts : f.params.toList = ts) (hop : OpensArgs P ts av Q) (hlaw : ∀ b, Q b → ACall P k (av b) [] (.d (.v (.bool r))) [])
    (hlaid : laidOutB P = true) (hread : (ts.all fun t => P.readableRec t && decide (t < P.types.size)) = true) (hvars : s.vars = []) (hres : f.resultTypes = #[tb]) (htb : P.underlying tb = some .bool)
    (hspec : ∀ ds : List (DataW H), ds.length = ts.length → s.fn H (ds ++ []) = { results := [.lit (.bool r)], args := ds })
    (W : World) (base : Nat) (args : Array Value) (ds gs : List (DataW H)) (before : List MemPlace)
    (hval : ∀ (j : Nat) t v, f.params[j]? = some t → args[j]? = some v → Value.okWide P W .any base t v)
    (hW : DataW.Whole enc P f.params.toList s.vars apart W args.toList ds gs before) :
    Calls P k args W fun e W' => ∃ v, e = .returned v ∧ s.post enc P f apart fresh handsOn false W args v W' := by
  subst hts
  have hW' := hW
  have hlt := hW.lt
  obtain ⟨p, q, hA, hV, rfl, hfz, hnd⟩ := hW
  rw [hvars] at hV
  obtain ⟨rfl, rfl⟩ : gs = [] ∧ q = [] := by
    cases gs with
    | nil => exact ⟨rfl, hV⟩
    | cons => exact hV.elim
  obtain ⟨b, hQ, hvl, hda, hr⟩ := hop H enc W base args.toList ds p (fun j t v h1 h2 => hval j t v (by simpa using h1) (by simpa using h2)) hA
  have hdl : ∀ {ts : List TypeId} {vs : List Value} {ds : List (DataW H)} {ps : List MemPlace}, DataW.TrodAll enc P W 0 (fun _ => true) true ts vs ds ps → ds.length = ts.length := by
    intro ts
    induction ts with
    | nil => intro vs ds ps h; cases vs <;> cases ds <;> first | rfl | exact h.elim
    | cons t ts ih =>
      intro vs ds ps h
      cases vs with
      | nil => exact h.elim
      | cons v vs =>
        cases ds with
        | nil => exact h.elim
        | cons d ds =>
          obtain ⟨_, _, _, h2, _⟩ := h
          simp [ih h2]
  have hsp := hspec ds (hdl hA)
  have hc := (hlaw b hQ).law (W := W) (us := args.toList) hvl hda (hr 0)
  rw [show args.toList.toArray = args from by simp] at hc
  refine hc.mono fun e W' ⟨he, hk⟩ => ⟨_, he, ?_⟩
  refine post_kept (pa := p) (pv := []) hW' hk (fun _ _ _ => ?_) (fun sp hb => ?_) (fun sp hb => ?_) (by simp) ?_
  · rw [hsp, hres]
    exact trodAll_mk1 (shut_bool htb r)
  · rw [hsp]
    exact TrodAll_kept hlaid hk sp hread hA (fun x hx => hlt x (by simp [hx])) (fun x hx => hb x (by simp [hx]))
  · rw [hsp, hvars]
    rfl
  · exact ok_one hres rfl (okWide_bool_mk htb r)
end Go.Vm
