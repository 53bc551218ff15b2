/-
  FONT, PLAIN, part 10: Places and Glyph return the glyphs of codes, their places and their width.
-/
import Derived.Test.YtnjggcljonbleaaDoorFontLaw9
namespace Go.Vm.FontG

theorem cmpP_lt (p q : S_FontPair) : decide (cmpP p q < 0) = decide (p.f0 < q.f0 ∨ (p.f0 = q.f0 ∧ p.f1 < q.f1)) := by
  refine decide_eq_decide.2 ?_
  unfold cmpP cmpI
  by_cases e1 : p.f0 < q.f0
  · simp [e1]
  · by_cases e2 : p.f0 > q.f0
    · simp [e1, e2]; omega
    · simp only [e1, e2, if_false, bne_self_eq_false, Bool.false_eq_true]
      by_cases e3 : p.f1 < q.f1
      · simp [e3]; omega
      · by_cases e4 : p.f1 > q.f1
        · simp [e3, e4]
        · simp [e3, e4]
theorem cmpP_eq (p q : S_FontPair) : (cmpP p q == 0) = decide (p.f0 = q.f0 ∧ p.f1 = q.f1) := by
  unfold cmpP cmpI
  by_cases e1 : p.f0 < q.f0
  · simp [e1]; omega
  · by_cases e2 : p.f0 > q.f0
    · simp [e1, e2]; omega
    · simp only [e1, e2, if_false, bne_self_eq_false, Bool.false_eq_true]
      by_cases e3 : p.f1 < q.f1
      · simp [e3]; omega
      · by_cases e4 : p.f1 > q.f1
        · simp [e3, e4]; omega
        · simp [e3, e4]; omega

structure KernOk (l : List S_FontPair) : Prop where
  each : ∀ (i : Nat) x, l[i]? = some x → -2047 ≤ x.f2 ∧ x.f2 ≤ 2047
  sorted : ∀ (i j : Nat) x y, i < j → l[i]? = some x → l[j]? = some y → (x.f0 < y.f0 ∨ (x.f0 = y.f0 ∧ x.f1 < y.f1))

theorem krn_ok {n : Int} {l : List S_FontPair} (h : krnOut n l = .go ()) : KernOk l := by
  have key := runT_go (krnF n l) (fun i x r hr => by
    unfold krnF at hr
    split at hr
    · cases hr; exact fun h => by cases h
    · split at hr
      · cases hr; exact fun h => by cases h
      · split at hr
        · cases hr; exact fun h => by cases h
        · cases hr) l 0 h
  have each : ∀ (i : Nat) x, l[i]? = some x → (-2047 ≤ x.f2 ∧ x.f2 ≤ 2047) ∧ (0 < i → cmpP (l.getD (i - 1) (S_FontPair.mk 0 0 0)) x < 0) := by
    intro i x hx
    have := key i x hx
    rw [Nat.zero_add] at this
    unfold krnF at this
    split at this
    · cases this
    · split at this
      · cases this
      · rename_i t2
        split at this
        · cases this
        · rename_i t3
          unfold farB at t2
          simp only [Bool.or_eq_true, Bool.and_eq_true, decide_eq_true_eq] at t2 t3
          refine ⟨by omega, fun hi => ?_⟩
          by_cases hlt : cmpP (l.getD (i - 1) (S_FontPair.mk 0 0 0)) x < 0
          · exact hlt
          · exact absurd ⟨hi, by omega⟩ t3
  refine ⟨fun i x hx => (each i x hx).1, fun i j => ?_⟩
  induction j with
  | zero => intro x y h; omega
  | succ j ih =>
    intro x y hij hx hy
    have hj : j < l.length := by have := lt_of_get hy; omega
    have hz : l[j]? = some l[j] := List.getElem?_eq_getElem hj
    have h1 := (each (j + 1) y hy).2 (by omega)
    rw [show j + 1 - 1 = j by omega, getD_of hz] at h1
    have h1' := decide_eq_true h1
    rw [cmpP_lt, decide_eq_true_eq] at h1'
    by_cases he : i = j
    · subst he
      rw [hx] at hz
      cases hz
      exact h1'
    · have h2 := ih x l[j] (by omega) hx hz
      omega

/-- What the kerning of two glyphs is. -/
def Krn (l : List S_FontPair) (a b r : Int) : Prop := (∃ (k : Nat) (x : S_FontPair), l[k]? = some x ∧ x.f0 = a ∧ x.f1 = b ∧ r = x.f2) ∨ (r = 0 ∧ ∀ (k : Nat) x, l[k]? = some x → ¬ (x.f0 = a ∧ x.f1 = b))
theorem Krn.uniq {l : List S_FontPair} (ok : KernOk l) {a b r r' : Int} (h : Krn l a b r) (h' : Krn l a b r') : r = r' := by
  rcases h with ⟨k, x, hx, h1, h2, rfl⟩ | ⟨rfl, hn⟩
  · rcases h' with ⟨k', x', hx', h1', h2', rfl⟩ | ⟨_, hn⟩
    · rcases Nat.lt_trichotomy k k' with hk | rfl | hk
      · have := ok.sorted k k' x x' hk hx hx'; omega
      · rw [hx] at hx'; cases hx'; rfl
      · have := ok.sorted k' k x' x hk hx' hx; omega
    · exact absurd ⟨h1, h2⟩ (hn k x hx)
  · rcases h' with ⟨k', x', hx', h1', h2', rfl⟩ | ⟨rfl, _⟩
    · exact absurd ⟨h1', h2'⟩ (hn k' x' hx')
    · rfl
theorem Krn.bound {l : List S_FontPair} (ok : KernOk l) {a b r : Int} (h : Krn l a b r) : -2047 ≤ r ∧ r ≤ 2047 := by
  rcases h with ⟨k, x, hx, h1, h2, rfl⟩ | ⟨rfl, _⟩
  · exact ok.each k x hx
  · omega

theorem between_eq (F : Nat) (hF : 1000 ≤ F) {a0 : S_Font} (ok : KernOk a0.f3) (hl : a0.f3.length ≤ 128) (a b : Int) : ∃ r, font_between F a0 a b = some r ∧ Krn a0.f3 a b r := by
  obtain ⟨p, h1, h2, h3, h4⟩ := bsearch a0.f3.length (fun k => decide (cmpP (a0.f3.getD k (S_FontPair.mk 0 0 0)) (S_FontPair.mk a b 0) < 0)) (fun n i j => slices_BinarySearchFunc_FontPair_L0 F a0.f3 (S_FontPair.mk a b 0) n i j) (fun k k' hk hk' hlt => by
      rcases Nat.eq_or_lt_of_le hk with rfl | hk
      · exact hlt
      · have hx : a0.f3[k]? = some a0.f3[k] := List.getElem?_eq_getElem (by omega)
        have hy : a0.f3[k']? = some a0.f3[k'] := List.getElem?_eq_getElem hk'
        have hs := ok.sorted k k' _ _ hk hx hy
        simp only [getD_of hx, getD_of hy, cmpP_lt, decide_eq_true_eq] at hlt ⊢
        omega) (fun m i j hij hj => by
      have hm : (i + j) / 2 < a0.f3.length := by omega
      simp only [slices_BinarySearchFunc_FontPair_L0, dec_lt hij, cond_true, lett_eq, mid_eq (show i + j < 1000000 by omega), chk_in hm, Int.toNat_natCast, pairs_eq F _ _ (show 3 ≤ F by omega), call_some, wrap_succ (show (i + j) / 2 < 9223372036854775807 by omega)]
      cases decide (cmpP (a0.f3.getD ((i + j) / 2) (S_FontPair.mk 0 0 0)) (S_FontPair.mk a b 0) < 0) <;> rfl) (fun m i => by simp only [slices_BinarySearchFunc_FontPair_L0, dec_end, cond_false]) a0.f3.length F 0 a0.f3.length (by omega) (by omega) (by omega) (Nat.le_refl _) (fun k hk => by omega) (fun k h1 h2 => by omega)
  have hlo : ∀ (k : Nat) (x : S_FontPair), k < p → a0.f3[k]? = some x → ¬ (x.f0 = a ∧ x.f1 = b) := by
    intro k x hk hx
    have := h3 k hk
    simp only [getD_of hx, cmpP_lt, decide_eq_true_eq] at this
    omega
  have hhi : ∀ (k : Nat) (x : S_FontPair), p < k → a0.f3[k]? = some x → ¬ (x.f0 = a ∧ x.f1 = b) := by
    intro k x hk hx
    have hpl : p < a0.f3.length := by have := lt_of_get hx; omega
    have hy : a0.f3[p]? = some a0.f3[p] := List.getElem?_eq_getElem hpl
    have hs := ok.sorted p k _ x hk hy hx
    have := h4 p (Nat.le_refl _) hpl
    simp only [getD_of hy, cmpP_lt, decide_eq_false_iff_not] at this
    omega
  unfold font_between slices_BinarySearchFunc_FontPair
  simp only [show ((0 : Nat) : Int) = 0 from rfl] at h2
  rw [h2, call_some]
  by_cases hpl : p < a0.f3.length
  · have hx : a0.f3[p]? = some a0.f3[p] := List.getElem?_eq_getElem hpl
    rw [chk_pos (fun _ => by omega)]
    simp only [dec_lt hpl, beq_self_eq_true, Bool.and_self, cond_true, Int.toNat_natCast, getD_of hx, pairs_eq F _ _ (show 3 ≤ F by omega), call_some, cmpP_eq, chk_in hpl]
    by_cases hc : (a0.f3[p]).f0 = a ∧ (a0.f3[p]).f1 = b
    · rw [show decide ((a0.f3[p]).f0 = a ∧ (a0.f3[p]).f1 = b) = true by simpa using hc]
      exact ⟨_, rfl, .inl ⟨p, _, hx, hc.1, hc.2, rfl⟩⟩
    · rw [show decide ((a0.f3[p]).f0 = a ∧ (a0.f3[p]).f1 = b) = false by simpa using hc]
      refine ⟨0, rfl, .inr ⟨rfl, fun k x hk => ?_⟩⟩
      rcases Nat.lt_trichotomy k p with h | rfl | h
      · exact hlo k x h hk
      · rw [hx] at hk; cases hk; exact hc
      · exact hhi k x h hk
  · obtain rfl : p = a0.f3.length := by omega
    rw [chk_pos (by simp)]
    simp only [dec_end, cond_false, Bool.and_true, call_some, Bool.not_false, cond_true, show (false == true) = false from rfl]
    exact ⟨0, rfl, .inr ⟨rfl, fun k x hk => hlo k x (lt_of_get hk) hk⟩⟩

/-! ### Places -/

section
variable (F : Nat) (a0 : S_Font) (cs : List Int)
def gl (i : Nat) : Int := (font_find F a0 (cs.getD i 0)).getD 0
def kn (i : Nat) : Int := if i = 0 then 0 else (font_between F a0 (gl F a0 cs (i - 1)) (gl F a0 cs i)).getD 0
def adv (i : Nat) : Int := (gly a0 (gl F a0 cs i).toNat).f0
def posX : Nat → Int
  | 0 => 0
  | i + 1 => posX i + kn F a0 cs i + adv F a0 cs i
def ent (i : Nat) : S_ParaGlyph := S_ParaGlyph.mk (gl F a0 cs i) (posX F a0 cs i + kn F a0 cs i) 0
end

structure PlOk (F : Nat) (a0 : S_Font) (cs : List Int) : Prop where
  find : ∀ i, font_find F a0 (cs.getD i 0) = some (gl F a0 cs i)
  glyphOf : ∀ i, ref3_GlyphOf F a0 (cs.getD i 0) = some (gl F a0 cs i)
  bound : ∀ i, 0 ≤ gl F a0 cs i ∧ gl F a0 cs i < (a0.f1.length : Int)
  betw : ∀ i, 0 < i → font_between F a0 (gl F a0 cs (i - 1)) (gl F a0 cs i) = some (kn F a0 cs i) ∧ Krn a0.f3 (gl F a0 cs (i - 1)) (gl F a0 cs i) (kn F a0 cs i)
  knb : ∀ i, -2047 ≤ kn F a0 cs i ∧ kn F a0 cs i ≤ 2047
  advb : ∀ i, 0 ≤ adv F a0 cs i ∧ adv F a0 cs i ≤ 2047

theorem plOk (F : Nat) (hF : 1200000 ≤ F) {a0 : S_Font} (hg : FontGood a0) (h0 : 0 < a0.f1.length) (ro : RngOk (a0.f1.length : Int) a0.f2) (ko : KernOk a0.f3) (cs : List Int) : PlOk F a0 cs := by
  have hlen := hg.ok.len
  have hf : ∀ i, font_find F a0 (cs.getD i 0) = some (gl F a0 cs i) ∧ Glo a0.f2 (cs.getD i 0) (gl F a0 cs i) := by
    intro i
    obtain ⟨r, h1, h2⟩ := find_eq F (by omega) (by omega) ro hg.maps (cs.getD i 0)
    have : gl F a0 cs i = r := by unfold gl; rw [h1]; rfl
    rw [this]
    exact ⟨h1, h2⟩
  have hb : ∀ i, 0 ≤ gl F a0 cs i ∧ gl F a0 cs i < (a0.f1.length : Int) := fun i => (hf i).2.bound ro (by omega)
  have hk : ∀ i, 0 < i → font_between F a0 (gl F a0 cs (i - 1)) (gl F a0 cs i) = some (kn F a0 cs i) ∧ Krn a0.f3 (gl F a0 cs (i - 1)) (gl F a0 cs i) (kn F a0 cs i) := by
    intro i hi
    obtain ⟨r, h1, h2⟩ := between_eq F (by omega) ko hg.kern (gl F a0 cs (i - 1)) (gl F a0 cs i)
    have : kn F a0 cs i = r := by unfold kn; rw [if_neg (by omega), h1]; rfl
    rw [this]
    exact ⟨h1, h2⟩
  refine ⟨fun i => (hf i).1, fun i => ?_, hb, hk, fun i => ?_, fun i => ?_⟩
  · obtain ⟨r, h1, h2⟩ := GlyphOf_eq F hF (by omega) ro hg.maps (cs.getD i 0)
    rw [h1, h2.uniq ro (hf i).2]
  · rcases Nat.eq_zero_or_pos i with rfl | hi
    · unfold kn; simp
    · exact (hk i hi).2.bound ko
  · exact (hg.ok.ok (gl F a0 cs i).toNat (by have := hb i; omega)).adv

theorem posX_le {F : Nat} {a0 : S_Font} {cs : List Int} (h : PlOk F a0 cs) : ∀ i : Nat, -4094 * (i : Int) ≤ posX F a0 cs i ∧ posX F a0 cs i ≤ 4094 * (i : Int)
  | 0 => by unfold posX; omega
  | i + 1 => by
    have h1 := posX_le h i
    have h2 := h.knb i
    have h3 := h.advb i
    rw [posX]
    omega

theorem ent_get (F : Nat) (a0 : S_Font) (cs : List Int) {m i : Nat} (h : i < m) : ((List.range m).map (ent F a0 cs)).getD i (S_ParaGlyph.mk 0 0 0) = ent F a0 cs i := by
  rw [List.getD_eq_getElem?_getD, List.getElem?_map, List.getElem?_range h]
  rfl

theorem places_L0 (F : Nat) (hF : 1200000 ≤ F) {a0 : S_Font} {cs : List Int} (h : PlOk F a0 cs) (hl : cs.length ≤ 1024) : font_Places_L0 F a0 cs F [] 0 0 = some ((List.range cs.length).map (ent F a0 cs), posX F a0 cs cs.length) := by
  obtain ⟨s, hs, h1, h2⟩ := range_ex cs (fun n (s : List S_ParaGlyph × Int) i => font_Places_L0 F a0 cs n s.1 s.2 i) (fun i s => s.1 = (List.range i).map (ent F a0 cs) ∧ s.2 = posX F a0 cs i) (fun n s i c hc hs => by
    obtain ⟨s1, s2⟩ := s
    obtain ⟨rfl, rfl⟩ := hs
    have hi := lt_of_get hc
    have hX := posX_le h i
    have hK := h.knb i
    have hA := h.advb i
    have hB := h.bound i
    have hf : font_find F a0 c = some (gl F a0 cs i) := by rw [← getD_of (d := 0) hc]; exact h.find i
    refine ⟨((List.range (i + 1)).map (ent F a0 cs), posX F a0 cs (i + 1)), ?_, rfl, rfl⟩
    have hmid : (bif (decide ((i : Int) > (0 : Int))) then
          chk (0 ≤ (IntKind.i64.wrap ((i : Int) - (1 : Int))) ∧ (IntKind.i64.wrap ((i : Int) - (1 : Int))) < ((List.range i).map (ent F a0 cs)).length) <|
          call (font_between F a0 ((((List.range i).map (ent F a0 cs)).getD (IntKind.i64.wrap ((i : Int) - (1 : Int))).toNat (S_ParaGlyph.mk 0 0 0)).f0) (gl F a0 cs i)) fun y2 =>
          some (IntKind.i64.wrap (posX F a0 cs i + y2))
        else
          some (posX F a0 cs i)) = some (posX F a0 cs i + kn F a0 cs i) := by
      rcases Nat.eq_zero_or_pos i with rfl | hi0
      · simp [kn]
      · rw [show decide ((i : Int) > 0) = true by simpa using hi0, cond_true, wrap_pred hi0 (by omega), chk_pos (by simp only [List.length_map, List.length_range]; omega), Int.toNat_natCast, ent_get F a0 cs (by omega)]
        show call (font_between F a0 (gl F a0 cs (i - 1)) (gl F a0 cs i)) _ = _
        rw [(h.betw i hi0).1, call_some, wrap_id (by omega)]
    simp only [font_Places_L0, dec_lt hi, cond_true, chk_in hi, Int.toNat_natCast, getD_of hc, hf, call_some, hmid]
    rw [chk_pos (by simp only [List.length_map, List.length_range, List.length_cons, List.length_nil]; omega), chk_pos hB, wrap_succ (by omega), gly_eq]
    rw [show (gly a0 (gl F a0 cs i).toNat).f0 = adv F a0 cs i from rfl, wrap_id (by omega), List.range_succ, List.map_append]
    rfl) (fun n s _ => by simp only [font_Places_L0, dec_end, cond_false]) F (by omega) ([], 0) ⟨rfl, rfl⟩
  obtain ⟨s1, s2⟩ := s
  simp only at h1 h2
  rw [← h1, ← h2]
  exact hs

theorem law_L2 (F : Nat) (hF : 1000 ≤ F) {a0 : S_Font} (hk : a0.f3.length ≤ 128) (ko : KernOk a0.f3) (cs : List Int) (h : PlOk F a0 cs) (w e : Int) {i : Nat} (hi : i < cs.length) (hl : cs.length ≤ 1024) :
    law3_FontPlacesMatchReference_L2 F a0 ((List.range cs.length).map (ent F a0 cs), w, e) i (gl F a0 cs i) F (posX F a0 cs i) 0 = some (posX F a0 cs i + kn F a0 cs i) := by
  have hX := posX_le h i
  have hK := h.knb i
  rcases Nat.eq_zero_or_pos i with rfl | hi0
  · obtain ⟨s, hs, h1⟩ := range_ex a0.f3 (fun n s j => law3_FontPlacesMatchReference_L2 F a0 ((List.range cs.length).map (ent F a0 cs), w, e) 0 (gl F a0 cs 0) n s j) (fun _ s => s = posX F a0 cs 0) (fun n s j x hx hs => by
      have hj := lt_of_get hx
      subst hs
      refine ⟨_, ?_, rfl⟩
      simp only [law3_FontPlacesMatchReference_L2, dec_lt hj, cond_true, chk_in hj, lett_eq, show decide ((0 : Int) > 0) = false from rfl, cond_false, wrap_succ (show j < 9223372036854775807 by omega)]
      rw [chk_pos (fun h => by simp at h), call_some]) (fun n s _ => by simp only [law3_FontPlacesMatchReference_L2, dec_end, cond_false]) F (by omega) (posX F a0 cs 0) rfl
    rw [show ((0 : Nat) : Int) = 0 from rfl, hs, h1]
    simp [kn]
  · obtain ⟨s, hs, h1⟩ := range_ex a0.f3 (fun n s j => law3_FontPlacesMatchReference_L2 F a0 ((List.range cs.length).map (ent F a0 cs), w, e) i (gl F a0 cs i) n s j)
      (fun j s => (∃ (k : Nat) (x : S_FontPair), k < j ∧ a0.f3[k]? = some x ∧ x.f0 = gl F a0 cs (i - 1) ∧ x.f1 = gl F a0 cs i ∧ s = posX F a0 cs i + x.f2) ∨ (s = posX F a0 cs i ∧ ∀ (k : Nat) (x : S_FontPair), k < j → a0.f3[k]? = some x → ¬ (x.f0 = gl F a0 cs (i - 1) ∧ x.f1 = gl F a0 cs i))) (fun n s j x hx hs => by
      have hj := lt_of_get hx
      have hpred := wrap_pred hi0 (show i < 9223372036854775807 by omega)
      have hstep : law3_FontPlacesMatchReference_L2 F a0 ((List.range cs.length).map (ent F a0 cs), w, e) i (gl F a0 cs i) (n + 1) s j = law3_FontPlacesMatchReference_L2 F a0 ((List.range cs.length).map (ent F a0 cs), w, e) i (gl F a0 cs i) n (bif (bif x.f0 == gl F a0 cs (i - 1) then x.f1 == gl F a0 cs i else false) then IntKind.i64.wrap (s + x.f2) else s) ((j + 1 : Nat) : Int) := by
        have hent : (((List.range cs.length).map (ent F a0 cs)).getD (i - 1) (S_ParaGlyph.mk 0 0 0)).f0 = gl F a0 cs (i - 1) := by rw [ent_get F a0 cs (by omega)]; rfl
        simp only [law3_FontPlacesMatchReference_L2, dec_lt hj, cond_true, chk_in hj, lett_eq, show decide ((i : Int) > 0) = true by simpa using hi0, hpred, Int.toNat_natCast, getD_of hx, hent, wrap_succ (show j < 9223372036854775807 by omega)]
        rw [chk_pos (fun _ => by simp only [List.length_map, List.length_range]; omega)]
        cases (bif x.f0 == gl F a0 cs (i - 1) then x.f1 == gl F a0 cs i else false) <;> rfl
      refine ⟨_, hstep, ?_⟩
      by_cases hm : x.f0 = gl F a0 cs (i - 1) ∧ x.f1 = gl F a0 cs i
      · have hb : (bif x.f0 == gl F a0 cs (i - 1) then x.f1 == gl F a0 cs i else false) = true := by rw [hm.1, hm.2]; simp
        rw [hb, cond_true]
        left
        rcases hs with ⟨k, y, hkj, hy, h1, h2, _⟩ | ⟨rfl, _⟩
        · have := ko.sorted k j y x hkj hy hx
          omega
        · have := ko.each j x hx
          exact ⟨j, x, by omega, hx, hm.1, hm.2, wrap_id (by omega)⟩
      · have hb : (bif x.f0 == gl F a0 cs (i - 1) then x.f1 == gl F a0 cs i else false) = false := by
          cases hc : (bif x.f0 == gl F a0 cs (i - 1) then x.f1 == gl F a0 cs i else false)
          · rfl
          · exfalso
            rw [and_cond, Bool.and_eq_true, beq_iff_eq, beq_iff_eq] at hc
            exact hm hc
        rw [hb, cond_false]
        rcases hs with ⟨k, y, hkj, hy, h1, h2, h3⟩ | ⟨rfl, hn⟩
        · exact .inl ⟨k, y, by omega, hy, h1, h2, h3⟩
        · refine .inr ⟨rfl, fun k y hk hy => ?_⟩
          by_cases hkj : k = j
          · subst hkj
            rw [hx] at hy
            cases hy
            exact hm
          · exact hn k y (by omega) hy) (fun n s _ => by simp only [law3_FontPlacesMatchReference_L2, dec_end, cond_false]) F (by omega) (posX F a0 cs i) (.inr ⟨rfl, fun k x hk => by omega⟩)
    rw [hs]
    have hkr : Krn a0.f3 (gl F a0 cs (i - 1)) (gl F a0 cs i) (s - posX F a0 cs i) := by
      rcases h1 with ⟨k, x, _, hx, e1, e2, e3⟩ | ⟨e1, hn⟩
      · exact .inl ⟨k, x, hx, e1, e2, by omega⟩
      · exact .inr ⟨by omega, fun k x hx => hn k x (lt_of_get hx) hx⟩
    have := hkr.uniq ko (h.betw i hi0).2
    congr 1
    omega

theorem law_L0 (F : Nat) (hF : 1200000 ≤ F) {a0 : S_Font} (hk : a0.f3.length ≤ 128) (ko : KernOk a0.f3) (cs : List Int) (h : PlOk F a0 cs) (hcheck : font_Check F a0 = some 0) (w e : Int) (hl : cs.length ≤ 1024) : ∀ (j i n : Nat), i + j = cs.length → j < n →
    law3_FontPlacesMatchReference_L0 F a0 cs ((List.range cs.length).map (ent F a0 cs), w, e) n (posX F a0 cs i) i = some (.go (posX F a0 cs cs.length))
  | 0, i, n, hi, hn => by
    obtain ⟨n, rfl⟩ : ∃ k, n = k + 1 := ⟨n - 1, by omega⟩
    obtain rfl : i = cs.length := by omega
    simp only [law3_FontPlacesMatchReference_L0, dec_end, cond_false]
  | j + 1, i, n, hi, hn => by
    obtain ⟨n, rfl⟩ : ∃ k, n = k + 1 := ⟨n - 1, by omega⟩
    have hil : i < cs.length := by omega
    have hX := posX_le h i
    have hK := h.knb i
    have hA := h.advb i
    have hB := h.bound i
    have ih := law_L0 F hF hk ko cs h hcheck w e hl j (i + 1) n (by omega) (by omega)
    have hGl : font_Glyph F a0 (cs.getD i 0) = some (gl F a0 cs i, 0) := by
      unfold font_Glyph
      rw [hcheck, call_some]
      simp only [bne_self_eq_false, cond_false, h.find i, call_some]
    have hin : i < ((List.range cs.length).map (ent F a0 cs)).length := by simpa using hil
    simp only [law3_FontPlacesMatchReference_L0, dec_lt hil, cond_true, chk_in hil, Int.toNat_natCast, h.glyphOf i, call_some, law_L2 F (by omega) hk ko cs h w e hil hl, hGl, chk_in hin, lett_eq, ent_get F a0 cs hil, wrap_succ (show i < 9223372036854775807 by omega)]
    simp only [ent, beq_self_eq_true, Bool.and_self, Bool.not_true, cond_false, bne_self_eq_false]
    rw [chk_pos hB, gly_eq, show (gly a0 (gl F a0 cs i).toNat).f0 = adv F a0 cs i from rfl, wrap_id (by omega)]
    exact ih

theorem font_fact2 : law3_fontFact 2000000 = some true := by decide +kernel

theorem fontPlaces_law (a0 : S_Font) (cs : List Int) : law3_FontPlacesMatchReference 2000000 a0 cs = some true := by
  obtain ⟨e, h1, h2, h3⟩ := check_eq 2000000 (by omega) a0
  unfold law3_FontPlacesMatchReference font_Places
  rw [font_fact2, h1, h2]
  simp only [call_some, Bool.not_true, cond_false, lett_eq, or_cond, and_cond]
  by_cases he : e = 0
  · subst he
    have hg := h3 rfl
    simp only [bne_self_eq_false, cond_false, beq_self_eq_true, Bool.true_and]
    by_cases hl : cs.length ≤ 1024
    · have hd : decide ((cs.length : Int) > 1024) = false := by simp only [decide_eq_false_iff_not]; omega
      have h0 : 0 < a0.f1.length := by
        rcases Nat.eq_zero_or_pos a0.f1.length with hz | hz
        · exfalso
          unfold font_Check at h1
          rw [hz] at h1
          simp only [or_cond] at h1
          cases hq : decide (a0.f0 < 16) || decide (a0.f0 > 1024)
          · rw [hq] at h1
            simp at h1
          · rw [hq] at h1
            simp at h1
        · exact hz
      have htab := hg.tab
      unfold tabE at htab
      have hr : rngOut (a0.f1.length : Int) a0.f2 = .go () := by
        cases hc : rngOut (a0.f1.length : Int) a0.f2 with
        | go u => rfl
        | esc e =>
          rw [hc] at htab
          simp only at htab
          subst htab
          exfalso
          have key : ∀ (l : List S_FontRange) (i : Nat), runT (rngF (a0.f1.length : Int) a0.f2) (fun _ => (Out.go () : Out Unit Int)) i l () ≠ .esc 0 := by
            intro l
            induction l with
            | nil => intro i h; cases h
            | cons x l ih =>
              intro i h
              rw [runT] at h
              unfold rngF at h
              split at h
              · exact ih _ h
              · rename_i r hr
                subst h
                split at hr
                · cases hr
                · split at hr
                  · cases hr
                  · split at hr <;> cases hr
          exact key _ _ hc
      rw [hr] at htab
      have hkr : krnOut (a0.f1.length : Int) a0.f3 = .go () := by
        cases hc : krnOut (a0.f1.length : Int) a0.f3 with
        | go u => rfl
        | esc e =>
          rw [hc] at htab
          simp only at htab
          subst htab
          exfalso
          have key : ∀ (l : List S_FontPair) (i : Nat), runT (krnF (a0.f1.length : Int) a0.f3) (fun _ => (Out.go () : Out Unit Int)) i l () ≠ .esc 0 := by
            intro l
            induction l with
            | nil => intro i h; cases h
            | cons x l ih =>
              intro i h
              rw [runT] at h
              unfold krnF at h
              split at h
              · exact ih _ h
              · rename_i r hr
                subst h
                split at hr
                · cases hr
                · split at hr
                  · cases hr
                  · split at hr <;> cases hr
          exact key _ _ hc
      have ko := krn_ok hkr
      have pl := plOk 2000000 (by omega) hg h0 (rng_ok hr) ko cs
      have hL := law_L0 2000000 (by omega) hg.kern ko cs pl h1 (posX 2000000 a0 cs cs.length) 0 hl cs.length 0 2000000 (by omega) (by omega)
      simp only [show posX 2000000 a0 cs 0 = 0 from rfl, show ((0 : Nat) : Int) = 0 from rfl] at hL
      simp only [hd, cond_false, places_L0 2000000 (by omega) pl hl, call_some, bne_self_eq_false, List.length_map, List.length_range, Bool.or_false, hL, callE_go, beq_self_eq_true]
    · have hd : decide ((cs.length : Int) > 1024) = true := by simp only [decide_eq_true_eq]; omega
      simp only [hd, cond_true, call_some]
      rfl
  · have hb : (e == 0) = false := by simpa using he
    have hb2 : (e != 0) = true := by simpa using he
    simp only [hb, hb2, cond_true, call_some, Bool.false_and, cond_false, beq_self_eq_true, Bool.true_and]
    rfl
end Go.Vm.FontG
