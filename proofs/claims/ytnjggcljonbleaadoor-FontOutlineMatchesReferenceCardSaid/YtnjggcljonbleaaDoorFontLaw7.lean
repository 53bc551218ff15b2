/-
  FONT, PLAIN, part 7: Outline returns the contours of a glyph and of its parts, as the reference draws them.
-/
import Derived.Test.YtnjggcljonbleaaDoorFontLaw6
namespace Go.Vm.FontG

/-! ### Ranks are depths -/

theorem depS_part {d : Nat → Option (Nat × Nat)} : ∀ (l : List Nat) (m s : Nat) (r : Nat × Nat), depS d l m s = some r → ∀ p ∈ l, ∀ y, d p = some y → y.1 + 1 ≤ r.1
  | [], _, _, _, _, p, hp => by cases hp
  | q :: ps, m, s, r, h, p, hp => by
    intro y hy
    rw [depS] at h
    cases hq : d q with
    | none => rw [hq] at h; cases h
    | some x =>
      rw [hq] at h
      rcases List.mem_cons.1 hp with rfl | hp
      · rw [hq] at hy
        cases hy
        have := (depS_ge _ _ _ _ h).1
        omega
      · exact depS_part ps _ _ r h p hp y hy

theorem dep_rank {own : Nat → Nat} {par : Nat → List Nat} : ∀ (k g : Nat) (x : Nat × Nat), dep own par k g = some x → dep own par x.1 g = some x
  | 0, _, _, h => by cases h
  | k + 1, g, x, h => by
    have h1 := dep_pos _ _ _ h
    rw [dep] at h
    obtain ⟨j, hj⟩ : ∃ j, x.1 = j + 1 := ⟨x.1 - 1, by omega⟩
    rw [hj, dep]
    refine depS_mono _ _ _ _ (fun p hp y hy => ?_) h
    have := depS_part _ _ _ _ h p hp y hy
    exact dep_mono (by omega) (dep_rank k p y hy)

/-- A font without error: every glyph has a depth of at most 4. -/
theorem good_dep {a0 : S_Font} (hg : FontGood a0) {g : Nat} (h : g < a0.f1.length) : dep (fown a0) (fpar a0) 4 g ≠ none := by
  obtain ⟨d, s, ht, hd, _⟩ := hg.dep g h
  have := dep_rank _ _ _ ht
  rw [dep_mono hd this]
  exact fun h => by cases h

/-! ### What is drawn -/

def mv (x y : Int) (p : S_FontPoint) : S_FontPoint := S_FontPoint.mk (IntKind.i64.wrap (p.f0 + x)) (IntKind.i64.wrap (p.f1 + y)) p.f2
def cons' (a0 : S_Font) (g : Nat) (x y : Int) : List (List S_FontPoint) := (gly a0 g).f1.map fun l => l.map (mv x y)
def drw (a0 : S_Font) : Nat → Nat → Int → Int → List (List S_FontPoint)
  | 0, _, _, _ => []
  | k + 1, g, x, y => cons' a0 g x y ++ (gly a0 g).f2.flatMap fun q => drw a0 k q.f0.toNat (IntKind.i64.wrap (x + q.f1)) (IntKind.i64.wrap (y + q.f2))
def cnt (a0 : S_Font) : Nat → Nat → Nat
  | 0, _ => 0
  | k + 1, g => 1 + ((gly a0 g).f2.map fun q => cnt a0 k q.f0.toNat).sum

theorem part_dep {a0 : S_Font} {k g : Nat} (h : dep (fown a0) (fpar a0) (k + 1) g ≠ none) {q : S_FontPart} (hq : q ∈ (gly a0 g).f2) : dep (fown a0) (fpar a0) k q.f0.toNat ≠ none := by
  rw [dep] at h
  exact depS_parts _ _ _ h _ (List.mem_map.2 ⟨q, hq, rfl⟩)

theorem flatMap_congr' {α γ : Type} {f g : α → List γ} : ∀ (l : List α), (∀ x ∈ l, f x = g x) → l.flatMap f = l.flatMap g
  | [], _ => rfl
  | x :: l, h => by rw [List.flatMap_cons, List.flatMap_cons, h x List.mem_cons_self, flatMap_congr' l fun y hy => h y (List.mem_cons_of_mem _ hy)]
theorem map_congr' {α γ : Type} {f g : α → γ} : ∀ (l : List α), (∀ x ∈ l, f x = g x) → l.map f = l.map g
  | [], _ => rfl
  | x :: l, h => by rw [List.map_cons, List.map_cons, h x List.mem_cons_self, map_congr' l fun y hy => h y (List.mem_cons_of_mem _ hy)]

theorem drw_succ (a0 : S_Font) : ∀ (k g : Nat) (x y : Int), dep (fown a0) (fpar a0) k g ≠ none → drw a0 (k + 1) g x y = drw a0 k g x y
  | 0, _, _, _, h => absurd rfl h
  | k + 1, g, x, y, h => by
    rw [drw, drw]
    congr 1
    exact flatMap_congr' _ fun q hq => drw_succ a0 k _ _ _ (part_dep h hq)
theorem cnt_succ (a0 : S_Font) : ∀ (k g : Nat), dep (fown a0) (fpar a0) k g ≠ none → cnt a0 (k + 1) g = cnt a0 k g
  | 0, _, h => absurd rfl h
  | k + 1, g, h => by
    rw [cnt, cnt]
    congr 2
    exact map_congr' _ fun q hq => cnt_succ a0 k _ (part_dep h hq)

/-- How much there can be. -/
def bnd : Nat → Nat
  | 0 => 0
  | k + 1 => 8 + 4 * bnd k
theorem flat_le {α γ : Type} (f : α → List γ) (b : Nat) : ∀ (l : List α), (∀ x ∈ l, (f x).length ≤ b) → (l.flatMap f).length ≤ l.length * b
  | [], _ => by simp
  | x :: l, h => by
    have h1 := h x List.mem_cons_self
    have h2 := flat_le f b l fun y hy => h y (List.mem_cons_of_mem _ hy)
    rw [List.flatMap_cons, List.length_append, List.length_cons, Nat.succ_mul]
    omega
theorem sum_le' {α : Type} (f : α → Nat) (b : Nat) : ∀ (l : List α), (∀ x ∈ l, f x ≤ b) → (l.map f).sum ≤ l.length * b
  | [], _ => by simp
  | x :: l, h => by
    have h1 := h x List.mem_cons_self
    have h2 := sum_le' f b l fun y hy => h y (List.mem_cons_of_mem _ hy)
    rw [List.map_cons, List.sum_cons, List.length_cons, Nat.succ_mul]
    omega
theorem part_lt {a0 : S_Font} (ok : FontOk a0) {g : Nat} (hg : g < a0.f1.length) {q : S_FontPart} (hq : q ∈ (gly a0 g).f2) : q.f0.toNat < a0.f1.length := fpar_lt ok g hg _ (List.mem_map.2 ⟨q, hq, rfl⟩)
theorem drw_le {a0 : S_Font} (ok : FontOk a0) : ∀ (k g : Nat) (x y : Int), g < a0.f1.length → (drw a0 k g x y).length ≤ bnd k
  | 0, _, _, _, _ => Nat.le_refl _
  | k + 1, g, x, y, hg => by
    have h1 := (ok.ok g hg).cons
    have h2 := (ok.ok g hg).parts
    have h3 := flat_le (fun q => drw a0 k q.f0.toNat (IntKind.i64.wrap (x + q.f1)) (IntKind.i64.wrap (y + q.f2))) (bnd k) (gly a0 g).f2 fun q hq => drw_le ok k _ _ _ (part_lt ok hg hq)
    have h4 := Nat.mul_le_mul_right (bnd k) h2
    rw [drw, List.length_append, cons', List.length_map, bnd]
    omega
theorem cnt_le {a0 : S_Font} (ok : FontOk a0) : ∀ (k g : Nat), g < a0.f1.length → cnt a0 k g ≤ bnd k
  | 0, _, _ => Nat.le_refl _
  | k + 1, g, hg => by
    have h2 := (ok.ok g hg).parts
    have h3 := sum_le' (fun q : S_FontPart => cnt a0 k q.f0.toNat) (bnd k) (gly a0 g).f2 fun q hq => cnt_le ok k _ (part_lt ok hg hq)
    have h4 := Nat.mul_le_mul_right (bnd k) h2
    rw [cnt, bnd]
    omega

/-! ### outline -/

theorem outline_L2 (F : Nat) (hF : 1000 ≤ F) {a0 : S_Font} {g j : Nat} {x : List S_FontPoint} (hx : (gly a0 g).f1[j]? = some x) (hl : x.length ≤ 32) (dx dy : Int) : font_outline_L2 F a0 g dx dy j F [] 0 = some (x.map (mv dx dy)) := by
  obtain ⟨l, h, hl⟩ := range_ex x (fun n s i => font_outline_L2 F a0 g dx dy j n s i) (fun i s => s = (x.take i).map (mv dx dy)) (fun n s i p hp hs => by
    have hi := lt_of_get hp
    subst hs
    refine ⟨_, ?_, rfl⟩
    simp only [font_outline_L2, Int.toNat_natCast, gly_eq, getD_of hx, dec_lt hi, lett_eq, cond_true, chk_in hi, getD_of hp, wrap_succ (show i < 9223372036854775807 by omega)]
    rw [chk_pos (by simp only [List.length_map, List.length_take, List.length_cons, List.length_nil]; omega), List.take_add_one, hp, List.map_append]
    rfl) (fun n s _ => by simp only [font_outline_L2, Int.toNat_natCast, gly_eq, getD_of hx, dec_end, lett_eq, cond_false]) F (by omega) [] (by simp)
  rw [h, hl, List.take_length]

theorem outline_L0 (F : Nat) (hF : 1000 ≤ F) {a0 : S_Font} (ok : FontOk a0) {g : Nat} (hg : g < a0.f1.length) (dx dy : Int) (acc : List (List S_FontPoint)) (ha : acc.length ≤ 1000000) : font_outline_L0 F a0 g dx dy F acc 0 = some (acc ++ cons' a0 g dx dy) := by
  have hgo := ok.ok g hg
  have hcl := hgo.cons
  obtain ⟨l, h, hl⟩ := range_ex (gly a0 g).f1 (fun n s i => font_outline_L0 F a0 g dx dy n s i) (fun i s => s = acc ++ ((gly a0 g).f1.take i).map fun l => l.map (mv dx dy)) (fun n s i x hx hs => by
    have hi := lt_of_get hx
    subst hs
    refine ⟨_, ?_, rfl⟩
    simp only [font_outline_L0, Int.toNat_natCast, gly_eq, dec_lt hi, cond_true, chk_in hi, outline_L2 F hF hx (hgo.con x (List.mem_of_getElem? hx)), call_some, wrap_succ (show i < 9223372036854775807 by omega)]
    rw [chk_pos (by simp only [List.length_append, List.length_map, List.length_take, List.length_cons, List.length_nil]; omega), List.take_add_one, hx, List.map_append, List.append_assoc]
    rfl) (fun n s _ => by simp only [font_outline_L0, Int.toNat_natCast, gly_eq, dec_end, cond_false]) F (by omega) acc (by simp)
  rw [h, hl, List.take_length]
  rfl

theorem outline_ok (F : Nat) (hF : 1000 ≤ F) {a0 : S_Font} (ok : FontOk a0) : ∀ (k n g : Nat) (dx dy : Int) (acc : List (List S_FontPoint)), k ≤ n → g < a0.f1.length → dep (fown a0) (fpar a0) k g ≠ none → k ≤ 4 → acc.length + bnd k ≤ 900000 →
    font_outline_fuel F n a0 g dx dy acc = some (acc ++ drw a0 k g dx dy)
  | 0, _, _, _, _, _, _, _, h, _, _ => absurd rfl h
  | k + 1, n, g, dx, dy, acc, hn, hg, hd, hk, ha => by
    obtain ⟨n, rfl⟩ : ∃ m, n = m + 1 := ⟨n - 1, by omega⟩
    have hgo := ok.ok g hg
    have hp := hgo.parts
    have hc := hgo.cons
    rw [bnd] at ha
    have hcl : (cons' a0 g dx dy).length ≤ 8 := by rw [cons', List.length_map]; exact hc
    rw [font_outline_fuel, font_outline_body]
    simp only [chk_in hg, outline_L0 F hF ok hg dx dy acc (by omega), call_some]
    obtain ⟨l, h, hl⟩ := range_ex (gly a0 g).f2 (fun m s i => font_outline_L4 F a0 g dx dy (font_outline_fuel F n) m s i)
      (fun i s => s = acc ++ cons' a0 g dx dy ++ ((gly a0 g).f2.take i).flatMap fun q => drw a0 k q.f0.toNat (IntKind.i64.wrap (dx + q.f1)) (IntKind.i64.wrap (dy + q.f2))) (fun m s i q hq hs => by
      have hi := lt_of_get hq
      have hqm := List.mem_of_getElem? hq
      have hql := part_lt ok hg hqm
      have hqi : ((q.f0.toNat : Nat) : Int) = q.f0 := by have := hgo.pt q hqm; omega
      have hlen := flat_le (fun q => drw a0 k q.f0.toNat (IntKind.i64.wrap (dx + q.f1)) (IntKind.i64.wrap (dy + q.f2))) (bnd k) ((gly a0 g).f2.take i) fun q hq => drw_le ok k _ _ _ (part_lt ok hg (List.mem_of_mem_take hq))
      have hi3 : ((gly a0 g).f2.take i).length ≤ 3 := by rw [List.length_take]; omega
      have hm := Nat.mul_le_mul_right (bnd k) hi3
      subst hs
      have hr := outline_ok F hF ok k n q.f0.toNat (IntKind.i64.wrap (dx + q.f1)) (IntKind.i64.wrap (dy + q.f2)) (acc ++ cons' a0 g dx dy ++ ((gly a0 g).f2.take i).flatMap fun q => drw a0 k q.f0.toNat (IntKind.i64.wrap (dx + q.f1)) (IntKind.i64.wrap (dy + q.f2))) (by omega) hql (part_dep hd hqm) (by omega) (by
        rw [List.length_append, List.length_append]
        omega)
      rw [hqi] at hr
      refine ⟨_, ?_, rfl⟩
      simp only [font_outline_L4, Int.toNat_natCast, gly_eq, dec_lt hi, cond_true, chk_in hi, lett_eq, getD_of hq, hr, call_some, wrap_succ (show i < 9223372036854775807 by omega)]
      rw [List.take_add_one, hq, List.flatMap_append, ← List.append_assoc]
      simp only [Option.toList_some, List.flatMap_cons, List.flatMap_nil, List.append_nil]) (fun m s _ => by simp only [font_outline_L4, Int.toNat_natCast, gly_eq, dec_end, cond_false]) F (by omega) (acc ++ cons' a0 g dx dy) (by simp)
    rw [h, call_some, hl, List.take_length, drw, List.append_assoc]
end Go.Vm.FontG
