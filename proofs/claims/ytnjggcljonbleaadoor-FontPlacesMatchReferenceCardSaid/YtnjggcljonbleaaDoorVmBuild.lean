/-
  THE V-MACHINE, part 36: strings.Builder: contracts out of what a walk of its methods says of the world.
-/
import Derived.Test.YtnjggcljonbleaaDoorVmEntry
import Derived.Lib.Builder
import Derived.Lib.UnsafeStr
import Derived.Below
namespace Go.Vm
open Go.RowKit (Below)

/-- A byte of a slice. -/
def cU (x : UInt8) : List Dat := [.v (.int .u8 (x.toNat : Int))]
theorem cU_ofInt {v : Int} (h : 0 ≤ v ∧ v < 256) : [Dat.v (.int .u8 v)] = cU (UInt8.ofNat v.toNat) := by
  obtain ⟨k, rfl⟩ := Int.eq_ofNat_of_zero_le h.1
  have : k < 256 := by omega
  simp only [cU, Int.toNat_natCast, UInt8.toNat_ofNat']
  rw [Nat.mod_eq_of_lt (by omega)]
theorem lit_u {v : Int} {rs : List (List Dat)} {r : List UInt8} (h : 0 ≤ v ∧ v < 256) (hr : rs = r.map cU) : [Dat.v (.int .u8 v)] :: rs = (UInt8.ofNat v.toNat :: r).map cU := by
  rw [cU_ofInt h, hr]; rfl
theorem lit_k {x : UInt8} {rs : List (List Dat)} {r : List UInt8} (hr : rs = r.map cU) : cU x :: rs = (x :: r).map cU := by
  rw [hr]; rfl

section
variable {P : Program} {e : Env} {S : Nat → Prop} {β : Path → Value} {fr : Fr} {vals : Nat → Option Value} {w : World}

/-- Only what is handed back is kept. -/
theorem Mem.toRes (hm : Mem e [] S β fr vals w) {vout : List AV} (hv : ∀ j a, vout[j]? = some a → fget fr (virtBase + j) = a ∧ a.backOk = true) {res : AV} {u : Value} (hres : ∀ β', RSlot (condG []) S w β' resSlot res u) (hown : ∀ j, res.ownsAt j = false) (hgd : res.noGd = true)
    {L : Nat → Option Value} (hL : ∀ x u', virtBase ≤ x → L x = some u' → vals x = some u') : Mem e [] S β ((resSlot, res) :: boxFr virtBase vout) (fun x => if x = resSlot then some u else L x) w := by
  have hat : ∀ x, x ≠ resSlot → (∃ j a, x = virtBase + j ∧ vout[j]? = some a ∧ fget ((resSlot, res) :: boxFr virtBase vout) x = a) ∨ fget ((resSlot, res) :: boxFr virtBase vout) x = .junk := by
    intro x hx
    rw [fget_cons_ne _ _ (Ne.symm hx), fget_boxFr]
    split
    · rename_i hc
      left
      refine ⟨x - virtBase, vout.getD (x - virtBase) .junk, by omega, ?_, rfl⟩
      rw [List.getD_eq_getElem?_getD, List.getElem?_eq_getElem (by omega)]
      rfl
    · exact .inr rfl
  have hsrc : ∀ x i, (fget ((resSlot, res) :: boxFr virtBase vout) x).ownsAt i = true → (fget fr x).ownsAt i = true := by
    intro x i ho
    by_cases hx : x = resSlot
    · subst hx; rw [fget_cons_self, hown] at ho; cases ho
    · rcases hat x hx with ⟨j, a, rfl, ha, hf⟩ | hf
      · rw [hf] at ho; rw [(hv j a ha).1]; exact ho
      · rw [hf] at ho; cases i <;> simp [AV.ownsAt, AV.isOwn] at ho
  refine ⟨fun x => ?_, fun x l av h => ?_, fun x i y j b h1 h2 => hm.dis x i y j b (hsrc x i h1) (hsrc y j h2), fun x i b h1 => hm.fre x i b (hsrc x i h1), hm.stb, hm.s0, hm.old, hm.os, hm.tape, hm.output, hm.size⟩
  · by_cases hx : x = resSlot
    · subst hx
      exact ⟨u, by rw [fget_cons_self]; exact hres β, fun u' h => by simpa using h.symm⟩
    · rcases hat x hx with ⟨j, a, rfl, ha, hf⟩ | hf
      · obtain ⟨u0, hr, hu⟩ := hm.rel (virtBase + j)
        rw [(hv j a ha).1] at hr
        refine ⟨u0, by rw [hf]; exact hr, fun u' h => hu u' ?_⟩
        rw [if_neg hx] at h
        exact hL _ _ (by omega) h
      · refine ⟨(L x).getD undef, by rw [hf]; exact trivial, fun u' h => ?_⟩
        rw [if_neg hx] at h
        simp [h]
  · by_cases hx : x = resSlot
    · subst hx; rw [fget_cons_self] at h; rw [h] at hgd; cases hgd
    · rcases hat x hx with ⟨j, a, rfl, ha, hf⟩ | hf
      · have := back_noGd (hv j a ha).2
        rw [hf] at h; rw [h] at this; cases this
      · rw [hf] at h; cases h

theorem bp_fin {off : Nat} {vin : List AV} {us : List Value} (hus : us.length = 1) (hm : Mem e [] S β (finFr [.bp virtBase off] vin) (fun x => (us[x]?).or (lentAt β vin.length x)) w) : ∃ b, us = [.pointer (some ⟨b, off, none⟩)] ∧ β (virtBase, 0) = .pointer (some ⟨b, 0, none⟩) := by
  match us, hus with
  | [u], _ =>
    obtain ⟨u0, hr, hu⟩ := hm.rel 0
    rw [fget_finFr_arg (by simp)] at hr
    have := hu u (by simp)
    subst this
    obtain ⟨b, h1, h2⟩ := (flat_slot rfl).1 hr
    exact ⟨b, by rw [h2], h1⟩

theorem box_fin {args : List AV} {cs : List AV} {_us : List Value} (hal : args.length < resSlot) (hm : Mem e [] S β (finFr args [.box cs]) vals w) {b : Nat} (hb : β (virtBase, 0) = .pointer (some ⟨b, 0, none⟩)) :
    ∃ l E, w.heap[b]? = some (.cells ⟨l⟩ E (0, 0)) ∧ RParts S w β virtBase cs l := by
  obtain ⟨u0, hr, _⟩ := hm.rel virtBase
  have hf : fget (finFr args [.box cs]) virtBase = .box cs := by
    have := fget_finFr_virt (vin := [.box cs]) (j := 0) hal
    simpa using this
  rw [hf] at hr
  obtain ⟨h0, b', l, E, h1, h2, h3⟩ := hr
  rw [← h0, h1] at hb
  simp only [Value.pointer.injEq, Option.some.injEq, Addr.mk.injEq] at hb
  obtain ⟨rfl, _⟩ := hb
  exact ⟨l, E, h2, h3⟩

theorem lent_virt {us : List Value} {n : Nat} (h : us.length ≤ virtBase) {x : Nat} {u' : Value} (hx : virtBase ≤ x) (hl : lentAt β n x = some u') : ((us[x]?).or (lentAt β n x)) = some u' := by
  rw [List.getElem?_eq_none (by omega)]
  simpa using hl

/-- copyCheck: nothing turns but the builder's own address. -/
theorem ACall.copyCheck {k tb : Nat} (hk : Callable P k)
    (used : ∀ (b off : Nat) (w : World), w.cell? ⟨b, off, none⟩ = some (.pointer (some ⟨b, off, none⟩)) → Calls P k #[.pointer (some ⟨b, off, none⟩)] w fun e w' => e = .returned (.tuple #[]) ∧ w' = w)
    (fresh : ∀ (b off E n : Nat) (w : World), w.cell? ⟨b, off, none⟩ = some (.pointer none) → w.shape? b = some (E, n) → off < n → liesAt P P.depth E (n / P.cellsOf E) off tb 1 = true → w.frozen? ⟨b, off, none⟩ = false →
      Calls P k #[.pointer (some ⟨b, off, none⟩)] w fun e w' => e = .returned (.tuple #[]) ∧ w' = w.setCell ⟨b, off, none⟩ (.pointer (some ⟨b, off, none⟩)))
    {off E : Nat} {cs : List AV} (hc : cs[off]? = some (.slf off E)) (hlies : liesAt P P.depth E (cs.length / P.cellsOf E) off tb 1 = true) (hb : (AV.box cs).backOk = true) :
    ACall P k [.bp virtBase off] [.box cs] (.tup []) [.box cs] := by
  refine ⟨hk, fun w S β us hus hm => ?_⟩
  obtain ⟨b, rfl, hβ⟩ := bp_fin (by simpa using hus) hm
  obtain ⟨l, E', hb', hparts⟩ := box_fin (_us := []) (by simp [resSlot]) hm hβ
  have hlen : l.length = cs.length := (All2.len hparts).symm
  obtain ⟨c, hcl, hrc⟩ := All2.get hparts off _ hc
  obtain ⟨_, hty, hcase⟩ := hrc
  have hE : E' = E := by
    rw [hβ] at hty
    simp only [tyAt, hb', Option.some.injEq] at hty
    exact hty
  subst hE
  have hoff : off < l.length := (List.getElem?_eq_some_iff.1 hcl).1
  have hcell : w.cell? ⟨b, off, none⟩ = some c := by simp [World.cell?, hb', hcl]
  have hfin : ∀ w', (∃ S' β', Mem ⟨w, ownedBy (finFr [.bp virtBase off] [.box cs]) β, S, lentAt β [AV.box cs].length⟩ [] S' β' (finFr [.bp virtBase off] [.box cs]) (fun x => (([Value.pointer (some ⟨b, off, none⟩)])[x]?).or (lentAt β [AV.box cs].length x)) w') →
      ∃ u S' β', Ending.returned (.tuple #[]) = .returned u ∧ Mem ⟨w, ownedBy (finFr [.bp virtBase off] [.box cs]) β, S, lentAt β [AV.box cs].length⟩ [] S' β' ((resSlot, .tup []) :: boxFr virtBase [.box cs]) (fun x => if x = resSlot then some u else lentAt β [AV.box cs].length x) w' := by
    rintro w' ⟨S', β', hm'⟩
    refine ⟨.tuple #[], S', β', rfl, hm'.toRes (res := .tup []) (u := .tuple #[]) (fun j a ha => ?_) (fun β' => (⟨[], rfl, rfl, trivial⟩ : ∃ l, Value.tuple #[] = .tuple ⟨l⟩ ∧ ([] : List AV).all AV.noSlf = true ∧ RParts S' w' β' resSlot [] l)) (fun j => by cases j <;> rfl) rfl (fun x u' hx hl => lent_virt (by simp [virtBase]) hx hl)⟩
    have hj : j = 0 ∧ a = .box cs := by
      cases j with
      | zero => simp at ha; exact ⟨rfl, ha.symm⟩
      | succ j => simp at ha
    obtain ⟨rfl, rfl⟩ := hj
    refine ⟨?_, hb⟩
    have := fget_finFr_virt (as := [.bp virtBase off]) (vin := [.box cs]) (j := 0) (by simp [resSlot])
    simpa using this
  rcases hcase with rfl | ⟨b2, h1, rfl⟩
  · refine (fresh b off E' cs.length w hcell (by simp [World.shape?, hb', hlen]) (by omega) hlies (by simp [World.frozen?, hb'])).mono ?_
    rintro e w' ⟨rfl, rfl⟩
    refine hfin _ ?_
    rw [setCell_eq_setRow w b off _ _ _ _ hb']
    have hst := hm.storeBox (l' := l.set off (.pointer (some ⟨b, off, none⟩))) (cs' := cs) (y := virtBase) (b := b) (by
        have := fget_finFr_virt (as := [.bp virtBase off]) (vin := [.box cs]) (j := 0) (by simp [resSlot])
        simpa using this) hβ hb' (by simp) ?_ (fun i h => h)
    · refine ⟨S, β, ?_⟩
      have hl2 : (l.toArray.setIfInBounds off (Value.pointer (some ⟨b, off, none⟩))) = (l.set off (.pointer (some ⟨b, off, none⟩))).toArray := by simp
      rw [hl2]
      refine hst.congr0 fun x => ?_
      by_cases hx : x = virtBase
      · subst hx
        rw [fget_cons_self]
        have := fget_finFr_virt (as := [.bp virtBase off]) (vin := [.box cs]) (j := 0) (by simp [resSlot])
        simpa using this
      · rw [fget_cons_ne _ _ (Ne.symm hx)]
    · refine All2.of_get (by simp; omega) fun j a v ha hv => ?_
      rw [List.getElem?_set] at hv
      by_cases hj : off = j
      · subst hj
        rw [if_pos rfl, if_pos hoff] at hv
        rw [hc] at ha
        cases hv
        cases ha
        exact ⟨by simp, hty, .inr ⟨b, hβ, rfl⟩⟩
      · rw [if_neg hj] at hv
        obtain ⟨v', hv', hr⟩ := All2.get hparts j a ha
        rw [hv] at hv'
        cases hv'
        exact hr
  · rw [hβ] at h1
    simp only [Value.pointer.injEq, Option.some.injEq, Addr.mk.injEq] at h1
    obtain ⟨rfl, _⟩ := h1
    refine (used b off w hcell).mono ?_
    rintro e w' ⟨rfl, rfl⟩
    exact hfin _ ⟨S, β, hm⟩

/-- unsafe.String over a part of a row of bytes. -/
theorem run_unsafeString_off (w : World) {pt it ty e : TypeId} (hp : P.underlying pt = some (.pointer e)) (hc : P.cellsOf e = 1) (g o cells : Nat) (hsh : w.shape? g = some (e, cells)) (l : List UInt8) (h0 : l ≠ []) (hn : o + l.length ≤ cells) (h63 : l.length ≤ 9223372036854775807)
    (hcell : ∀ j x, l[j]? = some x → w.cell? ((⟨g, o, none⟩ : Addr).add j) = some (.int .u8 x.toNat)) :
    (Builtin.unsafeString_ #[pt, it] ty #[.pointer (some ⟨g, o, none⟩), .int .i64 l.length]).run P w = .ok (.string ⟨l.toArray⟩) (w.freeze ⟨g, o, none⟩ l.length) := by
  have hl : l.length ≠ 0 := by simpa using h0
  have hlb := Lib.run_loadBytes (P := P) w l ⟨g, o, none⟩ .empty hcell
  have hlies : liesAt P P.depth e (cells / P.cellsOf e) o e l.length = true := by
    have hd : P.depth = (2 * (P.types.size + Made.depth) + 1) + 1 := rfl
    rw [hd]
    simp only [liesAt, Bool.or_eq_true]
    left
    rw [hd]
    simp [rowAt, hc, hn, sameLayout, Nat.mod_one]
  have h63' : ¬ (9223372036854775807 : Int) < (l.length : Int) := by omega
  have hdef : Builtin.unsafeString_ #[pt, it] ty #[.pointer (some ⟨g, o, none⟩), .int .i64 l.length] =
      (do
        let n ← asInt (.int .i64 l.length)
        if n < 0 then runtimePanic (.error "unsafe.String: len out of range")
        if n > IntKind.i64.max then unsupported (.unsafePointer "String: a length above the largest int")
        if n = 0 then pure (.string .empty)
        else if ← variablesAt ⟨g, o, none⟩ (← elemOf pt) n.toNat then do
          let s ← loadBytes ⟨g, o, none⟩ .empty n.toNat
          freeze ⟨g, o, none⟩ n.toNat
          pure (.string s)
        else unsupported (.unsafePointer "String: not so many bytes at ptr")) := rfl
  rw [hdef]
  have hmax : IntKind.i64.max = 9223372036854775807 := rfl
  have hneg : ¬ (l.length : Int) < 0 := by omega
  simp [asInt, asIntOf, hmax, h63', hneg, hl, variablesAt, hsh, elemOf, run_underlying hp, hlies, hlb]

theorem freeze_other (w : World) {g o n k : Nat} (h : k ≠ g) : (w.freeze ⟨g, o, none⟩ n).heap[k]? = w.heap[k]? := by
  unfold World.freeze
  split
  · rfl
  · simp only [Array.getElem?_modify]
    rw [if_neg (Ne.symm h)]
theorem freeze_size (w : World) (a : Addr) (n : Nat) : (w.freeze a n).heap.size = w.heap.size := by
  unfold World.freeze
  split
  · rfl
  · simp
theorem freeze_rest (w : World) (a : Addr) (n : Nat) : (w.freeze a n).os = w.os ∧ (w.freeze a n).tape = w.tape ∧ (w.freeze a n).output = w.output := by
  unfold World.freeze
  split <;> exact ⟨rfl, rfl, rfl⟩

/-- String: the bytes; the builder is not used any more. -/
theorem ACall.bString {k tsl tbp ti ts κ : Nat} (hk : Callable P k) (hp : P.underlying tbp = some (.pointer κ)) (hcκ : P.cellsOf κ = 1)
    (walk : ∀ (b off n c : Nat) (q p : Option Addr) (s : ByteArray) (w w1 w2 : World), w.drew.cell? ⟨b, off + 1, none⟩ = some (.slice q n c) → w1.cell? ⟨b, off + 1, none⟩ = some (.slice q n c) →
      (Builtin.unsafeSliceData_ #[tsl] tbp #[.slice q n c]).run P w.drew = .ok (.pointer p) w1 → (Builtin.unsafeString_ #[tbp, ti] ts #[.pointer p, .int .i64 n]).run P w1 = .ok (.string s) w2 →
      Calls P k #[.pointer (some ⟨b, off, none⟩)] w fun e w' => e = .returned (.string s) ∧ w' = w2)
    {off : Nat} {cs : List AV} {l : List UInt8} (hl63 : l.length ≤ 9223372036854775807) (hc : cs[off + 1]? = some (.own κ 1 (l.map cU))) (hb : (AV.box (cs.set (off + 1) .junk)).backOk = true) :
    ACall P k [.bp virtBase off] [.box cs] (.d (.str l)) [.box (cs.set (off + 1) .junk)] := by
  refine ⟨hk, fun w S β us hus hm => ?_⟩
  obtain ⟨b, rfl, hβ⟩ := bp_fin (by simpa using hus) hm
  obtain ⟨lv, E', hb', hparts⟩ := box_fin (_us := []) (by simp [resSlot]) hm hβ
  have hfin : fget (finFr [.bp virtBase off] [.box cs]) virtBase = .box cs := by
    have := fget_finFr_virt (as := [.bp virtBase off]) (vin := [.box cs]) (j := 0) (by simp [resSlot])
    simpa using this
  obtain ⟨v, hv, hrv⟩ := All2.get hparts (off + 1) _ hc
  simp only [Nat.zero_add] at hrv
  obtain ⟨hvβ, hown⟩ := hrv
  have hpg : pget (finFr [.bp virtBase off] [.box cs]) (virtBase, off + 1 + 1) = .own κ 1 (l.map cU) := by
    simp only [pget, hfin, List.getD_eq_getElem?_getD, hc, Option.getD_some]
  have hcell : ∀ w' : World, w'.heap[b]? = w.heap[b]? → w'.cell? ⟨b, off + 1, none⟩ = some v := by
    intro w' h
    simp [World.cell?, h, hb', hv]
  have hblt : b < w.heap.size := heap_lt hb'
  -- the end, once
  have finish : ∀ w2 : World, Mem ⟨w, ownedBy (finFr [.bp virtBase off] [.box cs]) β, S, lentAt β [AV.box cs].length⟩ [] S β (Vm.pset (finFr [.bp virtBase off] [.box cs]) (virtBase, off + 1 + 1) .junk) (fun x => (([Value.pointer (some ⟨b, off, none⟩)])[x]?).or (lentAt β [AV.box cs].length x)) w2 →
      ∃ u S' β', Ending.returned (strOf l) = .returned u ∧ Mem ⟨w, ownedBy (finFr [.bp virtBase off] [.box cs]) β, S, lentAt β [AV.box cs].length⟩ [] S' β' ((resSlot, .d (.str l)) :: boxFr virtBase [.box (cs.set (off + 1) .junk)]) (fun x => if x = resSlot then some u else lentAt β [AV.box cs].length x) w2 := by
    intro w2 hm2
    refine ⟨strOf l, S, β, rfl, hm2.toRes (res := .d (.str l)) (u := strOf l) (fun j a ha => ?_) (fun β' => (rfl : RD S w2 (.str l) (strOf l))) (fun j => by cases j <;> rfl) rfl (fun x u' hx hl => lent_virt (by simp [virtBase]) hx hl)⟩
    have hj : j = 0 ∧ a = .box (cs.set (off + 1) .junk) := by
      cases j with
      | zero => simp at ha; exact ⟨rfl, ha.symm⟩
      | succ j => simp at ha
    obtain ⟨rfl, rfl⟩ := hj
    exact ⟨by simp only [Vm.pset, hfin]; exact fget_cons_self _ _ _, hb⟩
  have empty : (⟨#[]⟩ : ByteArray) = .empty := rfl
  have stay : Mem ⟨w, ownedBy (finFr [.bp virtBase off] [.box cs]) β, S, lentAt β [AV.box cs].length⟩ [] S β (Vm.pset (finFr [.bp virtBase off] [.box cs]) (virtBase, off + 1 + 1) .junk) (fun x => (([Value.pointer (some ⟨b, off, none⟩)])[x]?).or (lentAt β [AV.box cs].length x)) w.drew :=
    hm.pset hpg rfl trivial (fun _ h => h) (fun _ h => .inl h) (fun _ _ => rfl) rfl rfl rfl rfl
  rcases hown with ⟨rfl, hnil⟩ | ⟨g, o, c, arr, E, fz, rfl, hnc, hroom, hfr, hg, hEκ, hes⟩
  · have hl0 : l = [] := by simpa using hnil
    subst hl0
    refine (walk b off 0 0 none none .empty w w.drew w.drew (hcell _ rfl) (hcell _ rfl) rfl (Lib.run_unsafeString_none _ _ _ _ _)).mono ?_
    rintro e w' ⟨rfl, rfl⟩
    exact finish _ stay
  · simp only [List.length_map] at hnc hcell ⊢
    subst hEκ
    have hbg : blk (β (virtBase, off + 1 + 1)) = some g := by rw [← hvβ]; rfl
    have hgb : g ≠ b := by
      intro h
      subst h
      have h1 : (fget (finFr [.bp virtBase off] [.box cs]) virtBase).ownsAt (off + 1 + 1) = true := pget_owns hpg
      have h2 : (fget (finFr [.bp virtBase off] [.box cs]) virtBase).ownsAt 0 = true := by rw [hfin]; rfl
      have := (hm.dis virtBase (off + 1 + 1) virtBase 0 g h1 h2 hbg (by rw [hβ]; rfl)).2
      omega
    by_cases hc0 : c = 0
    · subst hc0
      have hl0 : l = [] := by
        have : l.length = 0 := by omega
        exact List.eq_nil_of_length_eq_zero this
      subst hl0
      have hsd := Lib.run_unsafeSliceData_zero (P := P) w.drew #[tsl] tbp E hp ⟨g, o, none⟩ 0 (E, arr.size) (by
        have hg' : w.drew.heap[g]? = some (.cells arr E fz) := hg
        simp [World.shape?, hg'])
      have hold : ∀ k, k < w.heap.size → (w.drew.alloc (.view ⟨g, o, none⟩ E)).heap[k]? = w.heap[k]? := fun k hk => heap_alloc_old w.drew _ hk
      refine (walk b off 0 0 (some ⟨g, o, none⟩) _ .empty w _ _ (hcell _ rfl) (hcell _ (hold b hblt)) hsd (Lib.run_unsafeString_none _ _ _ _ _)).mono ?_
      rintro e w' ⟨rfl, rfl⟩
      refine finish _ (Mem.grow stay _ (fun k hk => heap_alloc_old w.drew _ hk) (by simp [World.alloc]) rfl rfl rfl)
    · have hsd : (Builtin.unsafeSliceData_ #[tsl] tbp #[.slice (some ⟨g, o, none⟩) l.length c]).run P w.drew = .ok (.pointer (some ⟨g, o, none⟩)) w.drew := Lib.run_unsafeSliceData_row _ _ _ _ _ _ hc0
      by_cases hl0 : l = []
      · subst hl0
        refine (walk b off 0 c (some ⟨g, o, none⟩) _ .empty w w.drew w.drew (hcell _ rfl) (hcell _ rfl) hsd (Lib.run_unsafeString_none _ _ _ _ _)).mono ?_
        rintro e w' ⟨rfl, rfl⟩
        exact finish _ stay
      · have hus := run_unsafeString_off (P := P) w.drew (it := ti) (ty := ts) hp hcκ g o arr.size (by
          have hg' : w.drew.heap[g]? = some (.cells arr E fz) := hg
          simp [World.shape?, hg']) l hl0 (by omega) hl63 (fun j x hx => by
            have hj := REs.get _ _ j (cU x) hes (by simp [hx])
            have h0 := hj.2
            simp only [cU, RCs, and_true, Nat.mul_one] at h0
            obtain ⟨y, hy, hyx⟩ := h0
            have hyx' : y = .int .u8 x.toNat := hyx.1
            subst hyx'
            have hadd : (⟨g, o, none⟩ : Addr).add j = ⟨g, o + j, none⟩ := by
              unfold Addr.add
              split
              · rename_i h; subst h; rfl
              · rfl
            rw [hadd]
            have hg' : w.drew.heap[g]? = some (.cells arr E fz) := hg
            simp [World.cell?, hg', hy])
        refine (walk b off l.length c (some ⟨g, o, none⟩) _ ⟨l.toArray⟩ w w.drew _ (hcell _ rfl) (hcell _ rfl) hsd hus).mono ?_
        rintro e w' ⟨rfl, rfl⟩
        obtain ⟨h1, h2, h3⟩ := freeze_rest w.drew ⟨g, o, none⟩ l.length
        refine finish _ (hm.pset hpg rfl trivial (fun _ h => h) (fun _ h => .inl h) (fun k hk => ?_) (freeze_size _ _ _) h1 h2 h3)
        exact freeze_other w.drew fun h => hk (by rw [h]; exact hbg)

/-- A value that has no memory. -/
def flatV : AV → Option Value
  | .d (.v x) => if x.oneCell' then some x else none
  | .d (.str l) => some (strOf l)
  | _ => none
def flatVs : List AV → Option (List Value)
  | [] => some []
  | a :: r => match flatV a, flatVs r with
    | some u, some us => some (u :: us)
    | _, _ => none

theorem flatV_ok {a : AV} {u : Value} (h : flatV a = some u) {p : Path} {u' : Value} (hr : RFlat S w β p a u') : u' = u := by
  unfold flatV at h
  split at h
  · split at h
    · cases h; exact hr.1
    · cases h
  · cases h; exact hr
  · cases h
theorem flatV_mk {a : AV} {u : Value} (h : flatV a = some u) (p : Path) : RFlat S w β p a u ∧ a.noSlf = true ∧ a.isOwn = false ∧ a.flat = true := by
  unfold flatV at h
  split at h
  · split at h
    · cases h; exact ⟨⟨rfl, by assumption⟩, rfl, rfl, rfl⟩
    · cases h
  · cases h; exact ⟨rfl, rfl, rfl, rfl⟩
  · cases h
theorem flatVs_get : ∀ {as : List AV} {us : List Value}, flatVs as = some us → as.length = us.length ∧ ∀ (i : Nat) (a : AV), as[i]? = some a → ∃ u, us[i]? = some u ∧ flatV a = some u
  | [], us, h => by
    simp only [flatVs, Option.some.injEq] at h
    subst h
    simp
  | a :: as, us, h => by
    simp only [flatVs] at h
    split at h
    case h_2 => cases h
    rename_i u us' h1 h2
    simp only [Option.some.injEq] at h
    subst h
    obtain ⟨h3, h4⟩ := flatVs_get h2
    refine ⟨by simp [h3], fun i b hb => ?_⟩
    cases i with
    | zero => simp at hb; subst hb; exact ⟨u, by simp, h1⟩
    | succ i => simpa using h4 i b (by simpa using hb)

/-- What a function hands back, if it has no memory: one value, or several. -/
def flatR : AV → Option Value
  | .tup vs => (flatVs vs).map fun us => .tuple us.toArray
  | a => flatV a
theorem flatR_mk {a : AV} {u : Value} (h : flatR a = some u) (β' : Path → Value) : RSlot (condG []) S w β' resSlot a u ∧ (∀ j, a.ownsAt j = false) ∧ a.noGd = true := by
  unfold flatR at h
  split at h
  · rename_i vs
    simp only [Option.map_eq_some_iff] at h
    obtain ⟨us, hus, rfl⟩ := h
    obtain ⟨h1, h2⟩ := flatVs_get hus
    refine ⟨⟨us, rfl, ?_, All2.of_get h1 fun j a c ha hc => ?_⟩, fun j => ?_, rfl⟩
    · rw [List.all_eq_true]
      intro a ha
      obtain ⟨i, hi⟩ := List.getElem?_of_mem ha
      obtain ⟨u, _, hu⟩ := h2 i a hi
      exact (flatV_mk (S := S) (w := w) (β := β') hu (0, 0)).2.1
    · obtain ⟨u, hu, hv⟩ := h2 j a ha
      rw [hc] at hu
      cases hu
      exact (flatV_mk hv _).1
    · cases j with
      | zero => rfl
      | succ j =>
        simp only [AV.ownsAt]
        cases hj : vs[j]? with
        | none => rfl
        | some a =>
          obtain ⟨u, _, hv⟩ := h2 j a hj
          simpa using (flatV_mk (S := S) (w := w) (β := β') hv (0, 0)).2.2.1
  · obtain ⟨h1, h2, h3, h4⟩ := flatV_mk (S := S) (w := w) (β := β') h (resSlot, 0)
    refine ⟨(flat_slot h4).2 h1, fun j => ?_, ?_⟩
    · cases hj : a.ownsAt j with
      | false => rfl
      | true =>
        have := (flat_ownsAt h4 j hj).2
        rw [h3] at this; cases this
    · cases a <;> first | rfl | cases h4

/-- A function of values, of which it is known what it returns, and that it turns nothing that was there. -/
theorem ACall.ofBelow {k : Nat} (hk : Callable P k) {args : List AV} {us : List Value} {res : AV} {u : Value} (hargs : flatVs args = some us) (hal : decide (args.length < resSlot) = true) (hres : flatR res = some u)
    (h : ∀ w : World, Calls P k us.toArray w fun e w' => e = .returned u ∧ Below w.heap.size w w') : ACall P k args [] res [] := by
  have hal' := of_decide_eq_true hal
  refine ⟨hk, fun w S β vs hvs hm => ?_⟩
  obtain ⟨h1, h2⟩ := flatVs_get hargs
  have hvu : vs = us := by
    apply List.ext_getElem?
    intro i
    rcases Nat.lt_or_ge i args.length with hi | hi
    · have ha : args[i]? = some args[i] := List.getElem?_eq_getElem hi
      obtain ⟨u', hu', hv⟩ := h2 i _ ha
      obtain ⟨u0, hr, hu0⟩ := hm.rel i
      rw [fget_finFr_arg hi, List.getD_eq_getElem?_getD, ha, Option.getD_some] at hr
      have hvi : vs[i]? = some vs[i] := List.getElem?_eq_getElem (by omega)
      have e1 := hu0 vs[i] (by simp [hvi])
      have hfl := (flatV_mk (S := S) (w := w) (β := β) hv (i, 0)).2.2.2
      have e2 := flatV_ok hv ((flat_slot hfl).1 hr)
      rw [hvi, hu', e1, e2]
    · rw [List.getElem?_eq_none (by omega), List.getElem?_eq_none (by omega)]
  subst hvu
  refine (h w).mono ?_
  rintro e w' ⟨rfl, hb⟩
  have hg := Mem.grow hm w' hb.block hb.size hb.os hb.tape hb.output
  have hr : ∀ β', RSlot (condG []) S w' β' resSlot res u := fun β' => (flatR_mk hres β').1
  refine ⟨u, S, β, rfl, hg.toRes (vout := []) (fun j a ha => by simp at ha) hr (flatR_mk (S := S) (w := w') hres β).2.1 (flatR_mk (S := S) (w := w') hres β).2.2 (fun x u' hx hl => lent_virt (by rw [← h1]; have : virtBase = resSlot + 1 := rfl; omega) hx hl)⟩
end
end Go.Vm
namespace Go.Vm
/-- An element of a package's array. -/
theorem glo_ok {α : Type} {d : α} {xs : List α} {i : Int} (enc : α → List Dat) (sz n : Nat) (hl : xs.length = n) (hsz : ∀ a, (enc a).length = sz) (h : 0 ≤ i ∧ i < n) :
    AV.d (.pt ((xs.flatMap enc).drop (i.toNat * sz))) = AV.d (.pt (enc (xs.getD i.toNat d) ++ (xs.flatMap enc).drop (i.toNat * sz + sz))) := by
  obtain ⟨k, rfl⟩ := Int.eq_ofNat_of_zero_le h.1
  have hk : k < xs.length := by omega
  clear h hl
  simp only [Int.toNat_natCast, AV.d.injEq, Dat.pt.injEq]
  induction xs generalizing k with
  | nil => simp at hk
  | cons x xs ih =>
    cases k with
    | zero => simp [← hsz x]
    | succ k =>
      have := ih k (by simpa using hk)
      have h2 : ∀ m, (enc x ++ xs.flatMap enc).drop (sz + m) = (xs.flatMap enc).drop m := by
        intro m
        rw [← List.drop_drop, ← hsz x, List.drop_left]
      rw [List.getD_cons_succ, List.flatMap_cons, Nat.succ_mul, Nat.add_comm (k * sz) sz, h2, Nat.add_assoc, h2]
      exact this
end Go.Vm
