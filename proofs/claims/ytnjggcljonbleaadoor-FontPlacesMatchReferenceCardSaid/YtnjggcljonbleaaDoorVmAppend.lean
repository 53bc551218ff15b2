/-
  THE V-MACHINE, part 10: append.
-/
import Derived.Test.YtnjggcljonbleaaDoorVmOwn
namespace Go.Vm
section
variable {P : Program} {e : Env} {G : GEnv} {S : Nat → Prop} {β : Path → Value} {fr : Fr} {vals : Nat → Option Value} {w : World}

theorem run_storeCells_fz (g o : Nat) (t : TypeId) (fz : Nat × Nat) : ∀ (vs : List Value) (i : Nat) (cur : Array Value) (w : World), w.heap[g]? = some (.cells cur t fz) → (∀ k, k < cur.size → ¬ (fz.1 ≤ k ∧ k < fz.2)) → o + i + vs.length ≤ cur.size → (∀ v ∈ vs, v.oneCell' = true) →
    (storeCells ⟨g, o, none⟩ vs i).run P w = .ok () (w.setRow g (cur.toList.take (o + i) ++ vs ++ cur.toList.drop (o + i + vs.length)).toArray)
  | [], i, cur, w, hg, _, _, _ => by
    simp only [storeCells, List.append_nil, List.length_nil, Nat.add_zero, List.take_append_drop, Array.toArray_toList]
    rw [setRow_self w g cur t fz hg]
    rfl
  | v :: rest, i, cur, w, hg, hfr, hl, h1 => by
    have hi : o + i < cur.size := by simp at hl; omega
    have hadd : (⟨g, o, none⟩ : Addr).add i = ⟨g, o + i, none⟩ := addr_add g o i
    have hcell : w.cell? ⟨g, o + i, none⟩ = some cur[o + i] := by simp [World.cell?, hg, hi]
    have hfro : w.frozen? ⟨g, o + i, none⟩ = false := by
      simp only [World.frozen?, hg]
      have := hfr (o + i) hi
      simp only [Bool.and_eq_false_iff, decide_eq_false_iff_not]
      omega
    have hst : (store ((⟨g, o, none⟩ : Addr).add i) v).run P w = .ok () (w.setRow g (cur.setIfInBounds (o + i) v)) := by
      rw [hadd, run_store P w _ v _ (h1 v (by simp)), hcell]
      simp [hfro, setCell_eq_setRow w g (o + i) cur t fz v hg]
    have ih := run_storeCells_fz g o t fz rest (i + 1) (cur.setIfInBounds (o + i) v) (w.setRow g (cur.setIfInBounds (o + i) v)) (setRow_heap w g cur _ t _ hg) (by simpa using hfr) (by simp at hl ⊢; omega) (fun x hx => h1 x (by simp [hx]))
    simp only [storeCells, Sem.run_bind, hst, Result.andThen_ok, ih, setRow_setRow]
    congr 3
    have e := list_seg_step cur.toList (o + i) v rest (by simp at hl ⊢; omega)
    simpa [Array.toList_setIfInBounds, Nat.add_assoc] using e

/-- What is appended: a slice that can be read, or a string. -/
structure Src (P : Program) (w : World) (t2 : TypeId) (size : Nat) (x : Value) (m : Nat) (news : List Value) : Prop where
  ty : (∃ E, P.underlying t2 = some (.slice E)) ∨ P.underlying t2 = some .string
  len : (Builtin.lenOf x).run P w = .ok m w
  first : ∀ w' : World, w'.heap = w.heap → (Builtin.firstCells size m x).run P w' = .ok news.toArray w'
  count : news.length = m * size
  one : ∀ v ∈ news, v.oneCell' = true

theorem run_append_room' (t t2 ty E : TypeId) (i : TypeInfo) (ht : P.underlying t = some (.slice E)) (hi : P.info? E = some i) (b : Option Addr) (n c : Nat) {x : Value} {m : Nat} {news : List Value} (hx : Src P w t2 i.size x m news) (hroom : n + m ≤ c) :
    (Builtin.append_ #[t, t2] ty #[.slice b n c, x]).run P w =
      match b with
      | some a => ((storeCells (a.add (n * i.size)) news).run P w).andThen fun _ w' => .ok (.slice (some a) (n + m) c) w'
      | none => .ok (.slice none (n + m) c) w := by
  have hf := hx.first w rfl
  have hl := hx.len
  rcases hx.ty with ⟨E2, h2⟩ | h2 <;> cases b <;> simp [Builtin.append_, run_underlying ht, run_underlying h2, sizeOf, typeInfo, hi, hl, hroom, hf]

theorem run_append_grow' (t t2 ty E : TypeId) (i : TypeInfo) (z : Value) (ht : P.underlying t = some (.slice E)) (hi : P.info? E = some i) (hz : i.zero = some z) (b : Option Addr) (n c : Nat) (olds : List Value)
    (hold : ∀ w' : World, w'.heap = w.heap → (Builtin.firstCells i.size n (.slice b n c)).run P w' = .ok olds.toArray w') {x : Value} {m : Nat} {news : List Value} (hx : Src P w t2 i.size x m news) (hg : c < n + m) (h63 : n + m ≤ 9223372036854775807) (hfit : (n + m) * i.bytes ≤ 140737488355328) :
    (Builtin.append_ #[t, t2] ty #[.slice b n c, x]).run P w =
      .ok (.slice (some ⟨w.heap.size, 0, none⟩) (n + m) (grownCap w (n + m) c E)) (w.drew.alloc (.cells (olds.toArray ++ news.toArray ++ Builtin.zeroCells z.cells (grownCap w (n + m) c E - (n + m))) E)) := by
  have hf := hx.first w.drew rfl
  have hfo := hold w.drew rfl
  have hl := hx.len
  have hn : ¬ (n + m ≤ c) := by omega
  have h63' : ¬ (9223372036854775807 < ((n : Int) + (m : Int))) := by omega
  have h48' : ¬ (281474976710656 < Builtin.nextslicecap (n + m) c * i.bytes) := by have := growslice_fits hg hfit; omega
  rcases hx.ty with ⟨E2, h2⟩ | h2
  all_goals (
    simp only [Builtin.append_, List.getElem?_toArray, List.getElem?_cons_zero, List.getElem?_cons_succ, Sem.run_bind, run_underlying ht, run_underlying h2, Result.andThen_ok, sizeOf, typeInfo, run_program, hi, Sem.run_pure, hl, hn, if_false, Bool.false_eq_true]
    simp [h63', h48', Question.forced, hf, hfo, newRow, grownCap, zeroValue, typeInfo, hi, hz]
    try (congr 2; apply Array.ext'; simp [List.append_assoc]))

theorem REs.append {g : Nat → Option Value} {sz : Nat} : ∀ (es nes : List (List Dat)) (o : Nat), REs S w sz es g o → REs S w sz nes g (o + es.length * sz) → REs S w sz (es ++ nes) g o
  | [], nes, o, _, h => by simpa using h
  | x :: es, nes, o, h1, h2 => by
    simp only [REs, List.cons_append] at h1 ⊢
    refine ⟨h1.1, h1.2.1, REs.append es nes (o + sz) h1.2.2 ?_⟩
    have e : o + sz + es.length * sz = o + (x :: es).length * sz := by simp [Nat.add_mul]; omega
    rw [e]; exact h2

theorem blk_slice (b o n c : Nat) : blk (.slice (some ⟨b, o, none⟩) n c) = some b := rfl

/-- APPEND to a slice that is owned. -/
theorem own_append {t t2 ty E : TypeId} {i : TypeInfo} {z : Value} (ht : P.underlying t = some (.slice E)) (hi : P.info? E = some i) (hz : i.zero = some z) (hzs : z.cells.size = i.size)
    {u : Value} {es : List (List Dat)} (hu : OwnAt S w u E i.size es) (hSu : ∀ b, blk u = some b → ¬ S b) (hSlt : ∀ b, S b → b < w.heap.size) {x : Value} {nes : List (List Dat)} {news : List Value} (hx : Src P w t2 i.size x nes.length news)
    (hn : REs S w i.size nes (fun j => news[j]?) 0) (h63 : es.length + nes.length ≤ 9223372036854775807) (hfit : (es.length + nes.length) * i.bytes ≤ 140737488355328) :
    ∃ v w', (Builtin.append_ #[t, t2] ty #[u, x]).run P w = .ok v w' ∧ OwnAt S w' v E i.size (es ++ nes) ∧ (∀ b, b < w.heap.size → blk u ≠ some b → w'.heap[b]? = w.heap[b]?) ∧ w.heap.size ≤ w'.heap.size ∧ w'.os = w.os ∧ w'.tape = w.tape ∧ w'.output = w.output ∧
      (∀ b, blk v = some b → blk u = some b ∨ b = w.heap.size) := by
  -- the growing case, once
  have grow : ∀ (b : Option Addr) (c : Nat) (olds : List Value), olds.length = es.length * i.size → c < es.length + nes.length →
      (∀ w' : World, w'.heap = w.heap → (Builtin.firstCells i.size es.length (.slice b es.length c)).run P w' = .ok olds.toArray w') → REs S w i.size es (fun j => olds[j]?) 0 → u = .slice b es.length c →
      ∃ v w', (Builtin.append_ #[t, t2] ty #[u, x]).run P w = .ok v w' ∧ OwnAt S w' v E i.size (es ++ nes) ∧ (∀ b, b < w.heap.size → blk u ≠ some b → w'.heap[b]? = w.heap[b]?) ∧ w.heap.size ≤ w'.heap.size ∧ w'.os = w.os ∧ w'.tape = w.tape ∧ w'.output = w.output ∧
        (∀ b, blk v = some b → blk u = some b ∨ b = w.heap.size) := by
    intro b c olds hlo hg hold hro huu
    have hr := run_append_grow' (w := w) t t2 ty E i z ht hi hz b es.length c olds hold hx hg h63 hfit
    have hge : es.length + nes.length ≤ grownCap w (es.length + nes.length) c E := grownCap_ge w _ _ _
    subst huu
    have hag : Agree S w (w.drew.alloc (.cells (olds.toArray ++ news.toArray ++ Builtin.zeroCells z.cells (grownCap w (es.length + nes.length) c E - (es.length + nes.length))) E)) := fun b hS => heap_alloc_old w.drew _ (hSlt b hS)
    refine ⟨_, _, hr, .inr ⟨w.heap.size, 0, grownCap w (es.length + nes.length) c E, _, E, (0, 0), by simp, by simpa using hge, ?_, ?_, heap_alloc_new w.drew _, ?_⟩, fun k hk _ => heap_alloc_old w.drew _ hk, by simp, rfl, rfl, rfl, fun k hk => .inr ?_⟩
    · simp only [Array.size_append, List.size_toArray, size_zeroCells, hzs, hlo, hx.count, ← Nat.add_mul, Nat.zero_add]
      refine Nat.le_of_eq (congrArg (· * i.size) ?_)
      omega
    · intro o _ h
      simp at h
    · refine ⟨rfl, REs.append es nes 0 ?_ ?_⟩
      · refine REs.mono (fun _ h => h) hag _ _ _ _ (REs.congr es 0 0 (fun j hj => ?_) hro)
        rw [← hlo] at hj
        simp only [Nat.zero_add, Array.append_assoc]
        rw [Array.getElem?_append_left (by simpa using hj)]
        simp
      · refine REs.mono (fun _ h => h) hag _ _ _ _ (REs.congr nes 0 _ (fun j hj => ?_) hn)
        simp only [Nat.zero_add]
        have h1 : olds.length ≤ es.length * i.size + j := by omega
        rw [← hx.count] at hj
        rw [Array.getElem?_append_left (by simp; omega), Array.getElem?_append_right (by simpa using h1)]
        simp [hlo]
    · simp only [blk_slice, Option.some.injEq] at hk
      exact hk.symm
  rcases hu with ⟨rfl, rfl⟩ | ⟨b, off, c, arr, E', fz, rfl, h2, h3, hfr, hb, hκ, hc⟩
  · by_cases hm : nes.length = 0
    · have hnil : nes = [] := List.eq_nil_of_length_eq_zero hm
      have hr := run_append_room' (w := w) t t2 ty E i ht hi none 0 0 hx (by omega)
      refine ⟨.slice none 0 0, w, by rw [hr]; simp [hm], .inl ⟨rfl, by simp [hnil]⟩, fun _ _ _ => rfl, Nat.le_refl _, rfl, rfl, rfl, fun b h => by simp [blk] at h⟩
    · exact grow none 0 [] (by simp) (by simp; omega) (fun w' _ => by simp [Builtin.firstCells]) (by simp [REs]) (by simp)
  · have hoff : off + es.length * i.size ≤ arr.size := Nat.le_trans (Nat.add_le_add_left (Nat.mul_le_mul_right _ h2) _) h3
    by_cases hroom : es.length + nes.length ≤ c
    · have hr := run_append_room' (w := w) t t2 ty E i ht hi (some ⟨b, off, none⟩) es.length c hx hroom
      have hle : off + es.length * i.size + news.length ≤ arr.size := by
        rw [hx.count, Nat.add_assoc, ← Nat.add_mul]
        exact Nat.le_trans (Nat.add_le_add_left (Nat.mul_le_mul_right _ hroom) _) h3
      simp only [addr_add] at hr
      rw [run_storeCells_fz (P := P) b (off + es.length * i.size) E' fz news 0 arr w hb hfr (by simpa using hle) hx.one] at hr
      simp only [Nat.add_zero, Result.andThen_ok] at hr
      have hag : Agree S w (w.setRow b (arr.toList.take (off + es.length * i.size) ++ news ++ arr.toList.drop (off + es.length * i.size + news.length)).toArray) := by
        intro k hS
        exact setRow_other w b k _ (fun h => hSu b rfl (h ▸ hS))
      refine ⟨_, _, hr, .inr ⟨b, off, c, _, E', fz, by simp, by simpa using hroom, ?_, ?_, setRow_heap w b arr _ E' fz hb, hκ, ?_⟩, fun k _ hk => setRow_other w b k _ (fun h => hk (by rw [h]; rfl)), by simp, rfl, rfl, rfl, fun k hk => .inl hk⟩
      · simp only [List.size_toArray, List.length_append, List.length_take, List.length_drop, Array.length_toList]
        omega
      · intro o ho
        refine hfr o ?_
        simp only [List.size_toArray, List.length_append, List.length_take, List.length_drop, Array.length_toList] at ho
        omega
      · have hlt : (arr.toList.take (off + es.length * i.size)).length = off + es.length * i.size := by simp; omega
        refine REs.append es nes off ?_ ?_
        · refine REs.mono (fun _ h => h) hag _ _ _ _ (REs.congr es off off (fun j hj => ?_) hc)
          simp only [List.getElem?_toArray, List.append_assoc]
          rw [List.getElem?_append_left (by rw [hlt]; omega), List.getElem?_take, if_pos (by omega)]
          simp
        · refine REs.mono (fun _ h => h) hag _ _ _ _ (REs.congr nes 0 _ (fun j hj => ?_) hn)
          rw [← hx.count] at hj
          simp only [List.getElem?_toArray, List.append_assoc, Nat.zero_add]
          rw [List.getElem?_append_right (by rw [hlt]; omega), hlt, List.getElem?_append_left (by omega)]
          congr 1
          omega
    · refine grow (some ⟨b, off, none⟩) c (arr.extract off (off + es.length * i.size)).toList (by simp; omega) (by omega) (fun w' hw' => ?_) ?_ rfl
      · simp only [Builtin.firstCells]
        have := run_loadCells_row P w' b off arr E' fz (by rw [hw']; exact hb) (es.length * i.size) hoff
        simpa only [Array.toArray_toList] using this
      · refine REs.congr es off 0 (fun j hj => ?_) hc
        simp only [Nat.zero_add, Array.getElem?_toList, Array.getElem?_extract]
        rw [if_pos (by omega)]

end
end Go.Vm
