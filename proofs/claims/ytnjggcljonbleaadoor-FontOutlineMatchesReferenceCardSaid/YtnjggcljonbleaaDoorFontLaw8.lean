/-
  FONT, PLAIN, part 8: the reference draws the same contours.
-/
import Derived.Test.YtnjggcljonbleaaDoorFontLaw7
namespace Go.Vm.FontG

abbrev dRW (a0 : S_Font) (w : S_ref3_work) : List (List S_FontPoint) := drw a0 4 w.f0.toNat w.f1 w.f2
theorem dRW_eq {a0 : S_Font} (hg : FontGood a0) {g : Nat} (h : g < a0.f1.length) (x y : Int) : drw a0 4 g x y = cons' a0 g x y ++ (gly a0 g).f2.flatMap fun q => drw a0 4 q.f0.toNat (IntKind.i64.wrap (x + q.f1)) (IntKind.i64.wrap (y + q.f2)) := by
  rw [drw]
  congr 1
  exact flatMap_congr' _ fun q hq => (drw_succ a0 3 _ _ _ (part_dep (good_dep hg h) hq)).symm
theorem cnt_eq {a0 : S_Font} (hg : FontGood a0) {g : Nat} (h : g < a0.f1.length) : cnt a0 4 g = 1 + ((gly a0 g).f2.map fun q => cnt a0 4 q.f0.toNat).sum := by
  rw [cnt]
  congr 2
  exact map_congr' _ fun q hq => (cnt_succ a0 3 _ (part_dep (good_dep hg h) hq)).symm

theorem take_get {α : Type} {l : List α} {s : List α} {n : Nat} (h : s.length = n) (hl : l.length = n) (hg : ∀ j x, j < n → l[j]? = some x → s[j]? = some x) : s = l := by
  refine List.ext_getElem? fun j => ?_
  rcases Nat.lt_or_ge j n with hj | hj
  · rw [hg j l[j] hj (List.getElem?_eq_getElem (by omega)), List.getElem?_eq_getElem (by omega)]
  · rw [List.getElem?_eq_none (by omega), List.getElem?_eq_none (by omega)]

theorem top_get (st : List S_ref3_work) (w : S_ref3_work) (d : S_ref3_work) : (st ++ [w]).getD st.length d = w := by
  rw [List.getD_eq_getElem?_getD, List.getElem?_append_right (Nat.le_refl _)]
  simp

theorem drawn_L4 (F : Nat) (hF : 1000 ≤ F) (st : List S_ref3_work) (w : S_ref3_work) (hst : st.length ≤ 1000000) {z1 : List (List S_FontPoint)} {j : Nat} {x : List S_FontPoint} (hx : z1[j]? = some x) (hl : x.length ≤ 32) :
    ref3_Drawn_L4 F (st ++ [w]) z1 j F (List.replicate x.length (S_FontPoint.mk 0 0 false)) 0 = some (x.map (mv w.f1 w.f2)) := by
  have htop : (IntKind.i64.wrap (((st ++ [w]).length : Int) - 1)).toNat = st.length := by
    rw [List.length_append, List.length_cons, List.length_nil, wrap_id (by omega)]
    omega
  obtain ⟨l, h, h1, h2⟩ := range_ex x (fun n s i => ref3_Drawn_L4 F (st ++ [w]) z1 j n s i) (fun i s => s.length = x.length ∧ ∀ k p, k < i → x[k]? = some p → s[k]? = some (mv w.f1 w.f2 p)) (fun n s i p hp hs => by
    have hi := lt_of_get hp
    have his : i < s.length := by omega
    refine ⟨s.set i (mv w.f1 w.f2 p), ?_, by rw [List.length_set]; exact hs.1, fun k q hk hq => ?_⟩
    · simp only [ref3_Drawn_L4, Int.toNat_natCast, getD_of hx, dec_lt hi, cond_true, chk_in hi, lett_eq, getD_of hp, htop, top_get, chk_in his, wrap_succ (show i < 9223372036854775807 by omega)]
      rfl
    · rw [List.getElem?_set]
      by_cases hik : i = k
      · subst hik
        rw [hp] at hq
        cases hq
        simp [his]
      · rw [if_neg hik]
        exact hs.2 k q (by omega) hq) (fun n s _ => by simp only [ref3_Drawn_L4, Int.toNat_natCast, getD_of hx, dec_end, cond_false]) F (by omega) (List.replicate x.length (S_FontPoint.mk 0 0 false)) ⟨by simp, fun k p hk => by omega⟩
  rw [h]
  congr 1
  refine take_get (n := x.length) h1 (by simp) fun k q hk hq => ?_
  rw [List.getElem?_map, Option.map_eq_some_iff] at hq
  obtain ⟨p, hp, rfl⟩ := hq
  exact h2 k p hk hp

theorem drawn_L2 (F : Nat) (hF : 1000 ≤ F) (st : List S_ref3_work) (w : S_ref3_work) (hst : st.length ≤ 1000000) (z1 : List (List S_FontPoint)) (hz : z1.length ≤ 8) (hl : ∀ x ∈ z1, x.length ≤ 32) (acc : List (List S_FontPoint)) (ha : acc.length ≤ 1000000) :
    ref3_Drawn_L2 F (st ++ [w]) z1 F acc 0 = some (acc ++ z1.map fun l => l.map (mv w.f1 w.f2)) := by
  obtain ⟨l, h, h1⟩ := range_ex z1 (fun n s i => ref3_Drawn_L2 F (st ++ [w]) z1 n s i) (fun i s => s = acc ++ (z1.take i).map fun l => l.map (mv w.f1 w.f2)) (fun n s i x hx hs => by
    have hi := lt_of_get hx
    have hx32 := hl x (List.mem_of_getElem? hx)
    subst hs
    refine ⟨_, ?_, rfl⟩
    simp only [ref3_Drawn_L2, Int.toNat_natCast, getD_of hx, dec_lt hi, cond_true, chk_in hi]
    rw [chk_pos (by omega), drawn_L4 F hF st w hst hx hx32, call_some, chk_pos (by simp only [List.length_append, List.length_map, List.length_take, List.length_cons, List.length_nil]; omega), wrap_succ (by omega), List.take_add_one, hx, List.map_append, List.append_assoc]
    rfl) (fun n s _ => by simp only [ref3_Drawn_L2, dec_end, cond_false]) F (by omega) acc (by simp)
  rw [h, h1, List.take_length]

def wrk (w : S_ref3_work) (q : S_FontPart) : S_ref3_work := S_ref3_work.mk q.f0 (IntKind.i64.wrap (w.f1 + q.f1)) (IntKind.i64.wrap (w.f2 + q.f2))

theorem drawn_L6 (F : Nat) (hF : 1000 ≤ F) (st : List S_ref3_work) (w : S_ref3_work) (hst : st.length ≤ 1000000) (z : List S_FontPart) (hz : z.length ≤ 4) :
    ref3_Drawn_L6 F (st ++ [w]) z F st 0 = some (st ++ z.reverse.map (wrk w)) := by
  have htop : (IntKind.i64.wrap (((st ++ [w]).length : Int) - 1)).toNat = st.length := by
    rw [List.length_append, List.length_cons, List.length_nil, wrap_id (by omega)]
    omega
  obtain ⟨l, h, h1⟩ := range_ex z.reverse (fun n s i => ref3_Drawn_L6 F (st ++ [w]) z n s i) (fun i s => s = st ++ (z.reverse.take i).map (wrk w)) (fun n s i q hq hs => by
    have hi := lt_of_get hq
    rw [List.length_reverse] at hi
    subst hs
    have hq2 : z[z.length - 1 - i]? = some q := by rwa [List.getElem?_reverse hi] at hq
    have hix : IntKind.i64.wrap (IntKind.i64.wrap ((z.length : Int) - 1) - (i : Int)) = ((z.length - 1 - i : Nat) : Int) := by
      rw [wrap_id (x := (z.length : Int) - 1) (by omega), wrap_id (by omega)]
      omega
    have hzi : z.length - 1 - i < z.length := by omega
    refine ⟨_, ?_, rfl⟩
    simp only [ref3_Drawn_L6, dec_lt hi, cond_true, hix, chk_in hzi, Int.toNat_natCast, getD_of hq2, lett_eq, htop, top_get]
    rw [chk_pos (by simp only [List.length_append, List.length_map, List.length_take, List.length_reverse, List.length_cons, List.length_nil]; omega), wrap_succ (by omega), List.take_add_one, hq, List.map_append, List.append_assoc]
    rfl) (fun n s _ => by rw [List.length_reverse]; simp only [ref3_Drawn_L6, dec_end, cond_false]) F (by rw [List.length_reverse]; omega) st (by simp)
  rw [h, h1, List.take_length]

theorem drawn_L0 (F : Nat) (hF : 1000 ≤ F) {a0 : S_Font} (hg : FontGood a0) : ∀ (m n : Nat) (st : List S_ref3_work) (acc : List (List S_FontPoint)), m < n → (∀ w ∈ st, 0 ≤ w.f0 ∧ w.f0 < (a0.f1.length : Int)) → (st.map fun w => cnt a0 4 w.f0.toNat).sum ≤ m → m ≤ 100000 →
    acc.length + (st.map fun w => (dRW a0 w).length).sum ≤ 1000000 → ref3_Drawn_L0 F a0 n acc st = some (acc ++ st.reverse.flatMap (dRW a0)) := by
  intro m
  induction m with
  | zero =>
    intro n st acc hn hw hs _ _
    obtain ⟨n, rfl⟩ : ∃ k, n = k + 1 := ⟨n - 1, by omega⟩
    rcases st.eq_nil_or_concat with rfl | ⟨st, w, rfl⟩
    · simp [ref3_Drawn_L0]
    · exfalso
      have hwm := hw w (by simp)
      have := cnt_eq hg (g := w.f0.toNat) (by omega)
      simp only [List.concat_eq_append, List.map_append, List.sum_append, List.map_cons, List.map_nil, List.sum_cons, List.sum_nil] at hs
      omega
  | succ m ih =>
    intro n st acc hn hw hs hm ha
    obtain ⟨n, rfl⟩ : ∃ k, n = k + 1 := ⟨n - 1, by omega⟩
    rcases st.eq_nil_or_concat with rfl | ⟨st, w, rfl⟩
    · simp [ref3_Drawn_L0]
    · simp only [List.concat_eq_append] at *
      have hwm := hw w (by simp)
      obtain ⟨g, hgw⟩ : ∃ g : Nat, w.f0 = (g : Int) := ⟨w.f0.toNat, by omega⟩
      have hgl : g < a0.f1.length := by omega
      have hc := cnt_eq hg (g := g) hgl
      have hd := dRW_eq hg hgl w.f1 w.f2
      have hgo := hg.ok.ok g hgl
      have hz := hgo.parts
      have hcl := hgo.cons
      simp only [List.map_append, List.sum_append, List.map_cons, List.map_nil, List.sum_cons, List.sum_nil, hgw, Int.toNat_natCast, Nat.add_zero] at hs ha
      have hsl : ∀ (l : List S_ref3_work), (∀ w ∈ l, 0 ≤ w.f0 ∧ w.f0 < (a0.f1.length : Int)) → l.length ≤ (l.map fun w => cnt a0 4 w.f0.toNat).sum := by
        intro l
        induction l with
        | nil => intro _; exact Nat.le_refl _
        | cons v l ih2 =>
          intro hv
          have h1 := ih2 fun u hu => hv u (List.mem_cons_of_mem _ hu)
          have h2 := cnt_eq hg (g := v.f0.toNat) (by have := hv v List.mem_cons_self; omega)
          rw [List.map_cons, List.sum_cons, List.length_cons]
          omega
      have hstl := hsl st fun u hu => hw u (by simp [hu])
      have htop : (IntKind.i64.wrap (((st ++ [w]).length : Int) - 1)).toNat = st.length := by
        rw [List.length_append, List.length_cons, List.length_nil, wrap_id (by omega)]
        omega
      have htop2 : IntKind.i64.wrap (((st ++ [w]).length : Int) - 1) = (st.length : Int) := by
        rw [List.length_append, List.length_cons, List.length_nil, wrap_id (by omega)]
        omega
      have hin : st.length < (st ++ [w]).length := by simp
      have hdec : decide ((((st ++ [w]).length : Nat) : Int) > 0) = true := by simp
      have e1 : ref3_Drawn_L0 F a0 (n + 1) acc (st ++ [w]) = ref3_Drawn_L0 F a0 n (acc ++ cons' a0 g w.f1 w.f2) (st ++ (gly a0 g).f2.reverse.map (wrk w)) := by
        simp only [ref3_Drawn_L0, hdec, cond_true, htop2, Int.toNat_natCast, chk_in hin, top_get, hgw, chk_in hgl, lett_eq, gly_eq, List.take_left]
        rw [chk_pos (by simp only [List.length_append, List.length_cons, List.length_nil]; omega), drawn_L2 F hF st w (by omega) _ hcl hgo.con acc (by omega), call_some, drawn_L6 F hF st w (by omega) _ hz, call_some]
        rfl
      have k1 : ∀ u ∈ st ++ (gly a0 g).f2.reverse.map (wrk w), 0 ≤ u.f0 ∧ u.f0 < (a0.f1.length : Int) := by
        intro u hu
        rcases List.mem_append.1 hu with hu | hu
        · exact hw u (by simp [hu])
        · obtain ⟨q, hq, rfl⟩ := List.mem_map.1 hu
          exact hgo.pt q (List.mem_reverse.1 hq)
      have k2 : ((st ++ (gly a0 g).f2.reverse.map (wrk w)).map fun w => cnt a0 4 w.f0.toNat).sum ≤ m := by
        have e2 : (((gly a0 g).f2.reverse.map (wrk w)).map fun w => cnt a0 4 w.f0.toNat).sum = ((gly a0 g).f2.map fun q => cnt a0 4 q.f0.toNat).sum := by
          rw [List.map_map, List.map_reverse, List.sum_reverse]
          rfl
        rw [List.map_append, List.sum_append, e2]
        omega
      have k3 : (acc ++ cons' a0 g w.f1 w.f2).length + ((st ++ (gly a0 g).f2.reverse.map (wrk w)).map fun w => (dRW a0 w).length).sum ≤ 1000000 := by
        have e2 : (((gly a0 g).f2.reverse.map (wrk w)).map fun w => (dRW a0 w).length).sum = ((gly a0 g).f2.flatMap fun q => drw a0 4 q.f0.toNat (IntKind.i64.wrap (w.f1 + q.f1)) (IntKind.i64.wrap (w.f2 + q.f2))).length := by
          rw [List.map_map, List.map_reverse, List.sum_reverse, List.length_flatMap]
          rfl
        rw [List.map_append, List.sum_append, e2, List.length_append]
        have e3 : (dRW a0 w).length = (cons' a0 g w.f1 w.f2).length + ((gly a0 g).f2.flatMap fun q => drw a0 4 q.f0.toNat (IntKind.i64.wrap (w.f1 + q.f1)) (IntKind.i64.wrap (w.f2 + q.f2))).length := by
          show (drw a0 4 w.f0.toNat w.f1 w.f2).length = _
          rw [hgw, Int.toNat_natCast, hd, List.length_append]
        omega
      rw [e1, ih n _ _ (by omega) k1 k2 (by omega) k3, List.append_assoc]
      congr 2
      rw [List.reverse_append, List.reverse_append, List.reverse_cons, List.reverse_nil, List.nil_append, List.cons_append, List.nil_append, List.flatMap_cons, List.flatMap_append, ← List.append_assoc]
      congr 1
      show _ = drw a0 4 w.f0.toNat w.f1 w.f2
      rw [hgw, Int.toNat_natCast, hd, ← List.map_reverse, List.reverse_reverse, List.flatMap_map]
      rfl

theorem drawn_eq (F : Nat) (hF : 1000 ≤ F) {a0 : S_Font} (hg : FontGood a0) {g : Nat} (h : g < a0.f1.length) : ref3_Drawn F a0 g = some (drw a0 4 g 0 0) := by
  have h1 := cnt_le hg.ok 4 g h
  have h2 := drw_le hg.ok 4 g 0 0 h
  have hb : bnd 4 = 680 := rfl
  have hw1 : dRW a0 (S_ref3_work.mk (g : Int) 0 0) = drw a0 4 g 0 0 := by
    show drw a0 4 ((g : Int)).toNat 0 0 = _
    rw [Int.toNat_natCast]
  unfold ref3_Drawn
  rw [drawn_L0 F hF hg 680 F [S_ref3_work.mk g 0 0] [] (by omega) (fun w hw => by
    rw [List.mem_singleton] at hw
    subst hw
    show 0 ≤ (g : Int) ∧ (g : Int) < _
    omega) (by simpa using (hb ▸ h1)) (by omega) (by
      simp only [List.length_nil, List.map_cons, List.map_nil, List.sum_cons, List.sum_nil]
      rw [hw1]
      omega), call_some]
  simp [hw1]

theorem outline_eq (F : Nat) (hF : 1000 ≤ F) {a0 : S_Font} (hg : FontGood a0) {g : Nat} (h : g < a0.f1.length) : font_outline F a0 g 0 0 [] = some (drw a0 4 g 0 0) := by
  have hb : bnd 4 = 680 := rfl
  unfold font_outline
  rw [outline_ok F hF hg.ok 4 F g 0 0 [] (by omega) h (good_dep hg h) (by omega) (by simp only [List.length_nil]; omega)]
  rfl

theorem same_L2 (F : Nat) (l : List (List S_FontPoint)) {j : Nat} {x : List S_FontPoint} (hx : l[j]? = some x) (hl : x.length < F) (hl2 : x.length ≤ 1000000) : ref3_SameContours_L2 F l l j F 0 = some (.go ()) := by
  have hj := lt_of_get hx
  have h := range_fold x (fun n (_ : Unit) i => (ref3_SameContours_L2 F l l j n i).map fun _ => ()) (fun s _ => s) (fun _ _ => True) (fun n s i p hp _ => by
    have hi := lt_of_get hp
    refine ⟨?_, trivial⟩
    simp only [ref3_SameContours_L2, Int.toNat_natCast, getD_of hx, dec_lt hi, cond_true, chk_in hi, chk_in hj, lett_eq, getD_of hp, beq_self_eq_true, Bool.and_self, Bool.not_true, cond_false, wrap_succ (show i < 9223372036854775807 by omega)]) (fun n s _ => by simp only [ref3_SameContours_L2, Int.toNat_natCast, getD_of hx, dec_end, cond_false]; rfl) F hl () trivial
  have key : ∀ (k i n : Nat), i + k = x.length → k < n → ref3_SameContours_L2 F l l j n i = some (.go ()) := by
    intro k
    induction k with
    | zero =>
      intro i n hi hn
      obtain ⟨n, rfl⟩ : ∃ k, n = k + 1 := ⟨n - 1, by omega⟩
      obtain rfl : i = x.length := by omega
      simp only [ref3_SameContours_L2, Int.toNat_natCast, getD_of hx, dec_end, lett_eq, cond_false]
    | succ k ih =>
      intro i n hi hn
      obtain ⟨n, rfl⟩ : ∃ k, n = k + 1 := ⟨n - 1, by omega⟩
      have hil : i < x.length := by omega
      simp only [ref3_SameContours_L2, Int.toNat_natCast, getD_of hx, dec_lt hil, cond_true, chk_in hil, chk_in hj, lett_eq, beq_self_eq_true, Bool.and_self, Bool.not_true, cond_false, wrap_succ (show i < 9223372036854775807 by omega)]
      exact ih (i + 1) n (by omega) (by omega)
  exact key x.length 0 F (by omega) hl

theorem same_eq (F : Nat) (hF : 100000 ≤ F) (l : List (List S_FontPoint)) (hl : l.length ≤ 1000) (hc : ∀ x ∈ l, x.length ≤ 1000) : ref3_SameContours F l l = some true := by
  have key : ∀ (k i n : Nat), i + k = l.length → k < n → ref3_SameContours_L0 F l l n i = some (.go ()) := by
    intro k
    induction k with
    | zero =>
      intro i n hi hn
      obtain ⟨n, rfl⟩ : ∃ k, n = k + 1 := ⟨n - 1, by omega⟩
      obtain rfl : i = l.length := by omega
      simp only [ref3_SameContours_L0, dec_end, cond_false]
    | succ k ih =>
      intro i n hi hn
      obtain ⟨n, rfl⟩ : ∃ k, n = k + 1 := ⟨n - 1, by omega⟩
      have hil : i < l.length := by omega
      have hx : l[i]? = some l[i] := List.getElem?_eq_getElem hil
      have hx2 := hc l[i] (List.getElem_mem hil)
      simp only [ref3_SameContours_L0, Int.toNat_natCast, dec_lt hil, cond_true, chk_in hil, bne_self_eq_false, cond_false, same_L2 F l hx (by omega) (by omega), callE_go, wrap_succ (show i < 9223372036854775807 by omega)]
      exact ih (i + 1) n (by omega) (by omega)
  unfold ref3_SameContours
  simp only [bne_self_eq_false, cond_false]
  rw [show (0 : Int) = ((0 : Nat) : Int) from rfl, key l.length 0 F (by omega) (by omega), callE_go]

theorem drw_con {a0 : S_Font} (ok : FontOk a0) : ∀ (k g : Nat) (x y : Int), g < a0.f1.length → ∀ l ∈ drw a0 k g x y, l.length ≤ 32
  | 0, _, _, _, _, l, hl => by cases hl
  | k + 1, g, x, y, hg, l, hl => by
    rw [drw] at hl
    rcases List.mem_append.1 hl with hl | hl
    · obtain ⟨c, hc, rfl⟩ := List.mem_map.1 hl
      rw [List.length_map]
      exact (ok.ok g hg).con c hc
    · obtain ⟨q, hq, hl⟩ := List.mem_flatMap.1 hl
      exact drw_con ok k _ _ _ (part_lt ok hg hq) l hl

theorem fontOutline_law (a0 : S_Font) (a1 : Int) : law3_FontOutlineMatchesReference 300000 a0 a1 = some true := by
  obtain ⟨e, h1, h2, h3⟩ := check_eq 300000 (by omega) a0
  unfold law3_FontOutlineMatchesReference font_Outline
  rw [font_fact, h1, h2]
  simp only [call_some, Bool.not_true, cond_false, lett_eq, or_cond, and_cond]
  by_cases he : e = 0
  · subst he
    have hg := h3 rfl
    simp only [bne_self_eq_false, cond_false, beq_self_eq_true, Bool.true_and]
    cases hr : decide (a1 < 0) || decide (a1 ≥ (a0.f1.length : Int))
    · obtain ⟨g, rfl⟩ : ∃ g : Nat, a1 = (g : Int) := ⟨a1.toNat, by simp only [Bool.or_eq_false_iff, decide_eq_false_iff_not] at hr; omega⟩
      have hgl : g < a0.f1.length := by simp only [Bool.or_eq_false_iff, decide_eq_false_iff_not] at hr; omega
      have hlen := drw_le hg.ok 4 g 0 0 hgl
      have hb : bnd 4 = 680 := rfl
      simp only [cond_false, outline_eq 300000 (by omega) hg hgl, call_some, bne_self_eq_false, beq_self_eq_true, Bool.and_self, cond_true, drawn_eq 300000 (by omega) hg hgl, same_eq 300000 (by omega) _ (show (drw a0 4 g 0 0).length ≤ 1000 by omega) (fun x hx => by have := drw_con hg.ok 4 g 0 0 hgl x hx; omega)]
    · rfl
  · have hb : (e == 0) = false := by simpa using he
    have hb2 : (e != 0) = true := by simpa using he
    simp only [hb, hb2, cond_true, call_some, Bool.false_and, cond_false, beq_self_eq_true, Bool.true_and]
    rfl
end Go.Vm.FontG
