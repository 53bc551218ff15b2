/-
  filter, plain law 9: the code that is written; the table from the front; the law.
-/
import Derived.Test.YtmaolabjdmhinaaDoorFilLaw8
namespace Go.Vm.FilG

theorem Code.lit1 (p : List UInt8) (h : 1 ≤ p.length) (h2 : p.length ≤ 128) : Code p (1 + p.length) := by
  have := Code.lit p [] 0 h h2 .nil
  rwa [List.append_nil, Nat.add_zero] at this

theorem Code.run1 (x : UInt8) (k : Nat) (h : 1 ≤ k) (h2 : k ≤ 128) : Code (List.replicate k x) 2 := by
  have := Code.run x k [] 0 h h2 .nil
  rwa [List.append_nil, Nat.add_zero] at this

theorem getD_head {s : List UInt8} {i : Nat} (hi : i < s.length) : s.drop i = s.getD i 0 :: s.drop (i + 1) := by
  rw [List.getD_eq_getElem?_getD, List.getElem?_eq_getElem hi]
  exact List.drop_eq_getElem_cons hi

theorem enc_L0 {F : Nat} (hF : 200 ≤ F) (s : List UInt8) (hs : s.length ≤ 2000) (best : Nat → Nat) (hm : ∀ j, MinP (s.drop j) (best j)) : ∀ (i n : Nat) (v7 v8 : List Int), i ≤ s.length → i < n → v7.length = s.length + 1 → v8.length = s.length + 1 →
    (∀ j, i ≤ j → j ≤ s.length → At v7 j (best j)) → (∀ j, i ≤ j → j < s.length → ∃ t, v8[j]? = some t ∧ Choice s best j t) →
    ∃ v, filter_runs_encode_L0 F s n v7 v8 ((i : Int) - 1) = some v ∧ v.length = s.length + 1 ∧ ∀ j, j < s.length → ∃ t, v[j]? = some t ∧ Choice s best j t
  | 0, n, v7, v8, hi, hn, h7, h8, hb, hc => by
    obtain ⟨n, rfl⟩ : ∃ q, n = q + 1 := ⟨n - 1, by omega⟩
    refine ⟨v8, ?_, h8, fun j hj => hc j (by omega) hj⟩
    rw [filter_runs_encode_L0, decide_eq_false (by omega)]
    rfl
  | i + 1, n, v7, v8, hi, hn, h7, h8, hb, hc => by
    obtain ⟨n, rfl⟩ : ∃ q, n = q + 1 := ⟨n - 1, by omega⟩
    have hlt : i < s.length := by omega
    have he : ((i + 1 : Nat) : Int) - 1 = (i : Int) := by omega
    have hbl := fun j => best_le hm j
    have hd := getD_head hlt
    have hrl := rep_le (s.getD i 0) (s.drop (i + 1)) 127
    rw [List.length_drop] at hrl
    have ht : (s.drop i).take ((s.length : Int).toNat - ((i : Nat) : Int).toNat) = s.getD i 0 :: s.drop (i + 1) := by
      rw [nat_toNat, nat_toNat, ← hd, List.take_of_length_le (by simp)]
    rw [he, filter_runs_encode_L0, decide_eq_true (by omega), cond_true, chk_pos ⟨by omega, by omega, by omega⟩]
    rw [show (s.drop ((i : Nat) : Int).toNat).take ((s.length : Int).toNat - ((i : Nat) : Int).toNat) = s.getD i 0 :: s.drop (i + 1) from ht]
    rw [repeated_eq (by omega) _ _ (by simp; omega), call_some]
    generalize hn1 : 1 + rep (s.getD i 0) (s.drop (i + 1)) 127 = r at hrl
    have hr1 : 1 ≤ r := by omega
    have hr2 : r ≤ 128 := by omega
    have hr3 : i + r ≤ s.length := by omega
    have hw : IntKind.i64.wrap ((i : Int) + (r : Int)) = ((i + r : Nat) : Int) := by rw [wrap_id (by omega)]; omega
    have hA := hb (i + r) (by omega) hr3
    have hbr := hbl (i + r)
    have h2 : IntKind.i64.wrap ((2 : Int) + v7.getD (i + r) 0) = ((2 + best (i + r) : Nat) : Int) := by
      rw [hA.getD, wrap_id (by omega)]; omega
    have hneg : IntKind.i64.wrap (0 - (r : Int)) = -(r : Int) := by rw [wrap_id (by omega)]; omega
    rw [hw, nat_toNat, nat_toNat, h2, hneg, chk_in (by omega), chk_in (by omega), chk_in (by omega)]
    have fin : ∀ (v9 v10 : List Int) (b : Nat) (t : Int), v9.length = s.length + 1 → v10.length = s.length + 1 → (∀ j, i < j → j ≤ s.length → At v9 j (best j)) → At v9 i b → v10[i]? = some t → (∀ j, i < j → j < s.length → ∃ t, v10[j]? = some t ∧ Choice s best j t) → b ≤ 2 + best (i + r) →
        ((∃ k : Nat, t = (k : Int) ∧ 1 ≤ k ∧ k ≤ 128 ∧ i + k ≤ s.length ∧ b = 1 + k + best (i + k)) ∨ (∃ k : Nat, t = -(k : Int) ∧ 2 ≤ k ∧ k ≤ 128 ∧ i + k ≤ s.length ∧ b = 2 + best (i + k) ∧ (s.drop i).take k = List.replicate k (s.getD i 0))) →
        ∃ v, (call (filter_runs_encode_L2 F s (i : Int) F v9 v10 (1 : Int)) fun (v11, v12) => filter_runs_encode_L0 F s n v11 v12 (IntKind.i64.wrap ((i : Int) - (1 : Int)))) = some v ∧ v.length = s.length + 1 ∧ ∀ j, j < s.length → ∃ t, v[j]? = some t ∧ Choice s best j t := by
      intro v9 v10 b t q1 q2 q3 q4 q5 q6 q7 q8
      obtain ⟨b', t', r1, r2, r3, r4⟩ := enc_L2 (F := F) s hs best (fun j _ => hbl j) i hlt 128 1 F v9 v10 b t rfl (by decide) (by omega) q1 q2 q3 q4 q5 (by omega) q8
      have hbb : b' = best i := best_of hm hlt hn1.symm (by omega) (fun j h1 h2 h3 => r3 j h1 h2 h3) (by
        rcases r4 with ⟨k, _, w2, w3, w4, w5⟩ | ⟨k, _, w2, w3, w4, w5, w6⟩
        · exact .inl ⟨k, w2, w3, w4, w5⟩
        · exact .inr ⟨k, w2, w3, w4, w5, w6⟩)
      rw [show (1 : Int) = ((1 : Nat) : Int) from rfl, r1, call_some]
      simp only
      rw [wrap_id (by omega)]
      subst hbb
      refine enc_L0 hF s hs best hm i n _ _ (by omega) (by omega) (by simpa using q1) (by simpa using q2) (fun j h1 h2 => ?_) (fun j h1 h2 => ?_)
      · by_cases h : j = i
        · subst h; exact At.set_eq (by omega)
        · exact (q3 j (by omega) h2).set_ne (by omega)
      · by_cases h : j = i
        · subst h; exact ⟨t', List.getElem?_set_self (by omega), r4⟩
        · rw [List.getElem?_set_ne (by omega)]; exact q6 j (by omega) h2
    by_cases hone : r = 1
    · subst hone
      have hw1 : IntKind.i64.wrap ((i : Int) + 1) = ((i + 1 : Nat) : Int) := wrap_succ (by omega)
      have hA1 : At (v7.set i ((2 + best (i + 1) : Nat) : Int)) (i + 1) (best (i + 1)) := hA.set_ne (by omega)
      have hz : IntKind.i64.wrap ((2 : Int) + (v7.set i ((2 + best (i + 1) : Nat) : Int)).getD (i + 1) 0) = ((2 + best (i + 1) : Nat) : Int) := by
        rw [hA1.getD, wrap_id (by omega)]; omega
      have hbq : (((1 : Nat) : Int) == 1) = true := rfl
      rw [hbq, cond_true]
      rw [show (IntKind.i64.wrap ((i : Int) + (1 : Int))) = ((i + 1 : Nat) : Int) from hw1, chk_in (by simp; omega), nat_toNat, lett_eq, chk_in (by simp; omega), chk_in (by simp; omega), hz, call_some, List.set_set, List.set_set]
      refine fin _ _ (2 + best (i + 1)) ((1 : Nat) : Int) (by simpa using h7) (by simpa using h8) (fun j h1 h2 => (hb j (by omega) h2).set_ne (by omega)) (At.set_eq (by omega)) (List.getElem?_set_self (by omega)) (fun j h1 h2 => ?_) (Nat.le_refl _) (.inl ⟨1, rfl, by decide, by decide, by omega, by omega⟩)
      rw [List.getElem?_set_ne (by omega)]; exact hc j (by omega) h2
    · have hbq : ((r : Int) == 1) = false := by rw [beq_eq_false_iff_ne]; omega
      rw [hbq, cond_false, call_some]
      refine fin _ _ (2 + best (i + r)) (-(r : Int)) (by simpa using h7) (by simpa using h8) (fun j h1 h2 => (hb j (by omega) h2).set_ne (by omega)) (At.set_eq (by omega)) (List.getElem?_set_self (by omega)) (fun j h1 h2 => ?_) (Nat.le_refl _) (.inr ⟨r, rfl, by omega, hr2, hr3, rfl, ?_⟩)
      · rw [List.getElem?_set_ne (by omega)]; exact hc j (by omega) h2
      · obtain ⟨q, rfl⟩ : ∃ q, r = q + 1 := ⟨r - 1, by omega⟩
        have hq : q = rep (s.getD i 0) (s.drop (i + 1)) 127 := by omega
        rw [hd, List.take_succ_cons, List.replicate_succ, hq, rep_take]

/-- What is written from a place on. -/
theorem enc_L4 {F : Nat} (s : List UInt8) (hs : s.length ≤ 2000) (best : Nat → Nat) (v : List Int) (hvl : v.length = s.length + 1) (h0 : best s.length = 0) (hbl : ∀ j, best j ≤ 2 * (s.length - j)) (hc : ∀ j, j < s.length → ∃ t, v[j]? = some t ∧ Choice s best j t) :
    ∀ (m i : Nat), m + i = s.length → ∃ E : List UInt8, E.length = best i ∧ (∀ (n : Nat) (out : List UInt8), m < n → out.length + 2 * m ≤ 100000 → filter_runs_encode_L4 F s v n out (i : Int) = some (out ++ E)) ∧
      ∀ (K : Nat) (acc : List UInt8), E.length ≤ K → acc.length + m ≤ 65536 → unp false K E acc = .inl (acc ++ s.drop i) := by
  intro m
  induction m using Nat.strongRecOn with
  | _ m ih =>
    intro i hmi
    by_cases hm0 : m = 0
    · subst hm0
      obtain rfl : i = s.length := by omega
      refine ⟨[], h0.symm, fun n out hn _ => ?_, fun K acc _ _ => ?_⟩
      · obtain ⟨n, rfl⟩ : ∃ q, n = q + 1 := ⟨n - 1, by omega⟩
        rw [filter_runs_encode_L4, dec_end]
        simp
      · cases K <;> simp [unp]
    · have hlt : i < s.length := by omega
      obtain ⟨t, ht, hch⟩ := hc i hlt
      have htd : v.getD i 0 = t := by rw [List.getD_eq_getElem?_getD, ht]; rfl
      rcases hch with ⟨k, rfl, h1, h2, h3, h4⟩ | ⟨k, rfl, h1, h2, h3, h4, h5⟩
      · obtain ⟨E, e1, e2, e3⟩ := ih (m - k) (by omega) (i + k) (by omega)
        have htl : ((s.drop i).take k).length = k := by simp; omega
        have hcn : (UInt8.ofNat (k - 1)).toNat = k - 1 := by simp; omega
        refine ⟨UInt8.ofNat (k - 1) :: ((s.drop i).take k ++ E), by simp [e1]; omega, fun n out hn ho => ?_, fun K acc hK ha => ?_⟩
        · obtain ⟨n, rfl⟩ : ∃ q, n = q + 1 := ⟨n - 1, by omega⟩
          have hw : IntKind.i64.wrap ((i : Int) + (k : Int)) = ((i + k : Nat) : Int) := by rw [wrap_id (by omega)]; omega
          have hw1 : IntKind.u8.wrap (IntKind.i64.wrap ((k : Int) - 1)) = ((k - 1 : Nat) : Int) := by rw [wrap_id (by omega), wrap_u8 (by omega)]; omega
          rw [filter_runs_encode_L4, dec_lt hlt, cond_true, chk_in (by omega), nat_toNat, htd, decide_eq_false (by omega), cond_false, hw1]
          unfold strings_Builder_WriteByte strings_Builder_WriteString
          rw [chk_pos ⟨by omega, by omega⟩, chk_pos (by simp; omega), call_some, hw, chk_pos ⟨by omega, by omega, by omega⟩, nat_toNat, nat_toNat, show i + k - i = k by omega]
          rw [lett_eq, chk_pos (by simp; omega)]
          simp only [call_some]
          rw [e2 n _ (by omega) (by simp; omega)]
          simp [List.append_assoc]
        · obtain ⟨K, rfl⟩ : ∃ q, K = q + 1 := ⟨K - 1, by simp at hK; omega⟩
          have hp : pstep false (k - 1) ((s.drop i).take k ++ E) acc = .inr (acc ++ (s.drop i).take k, E) := by
            unfold pstep
            rw [if_neg (by omega), if_pos (by omega), if_neg (by simp; omega), show k - 1 + 1 = k by omega]
            have a1 : ((s.drop i).take k ++ E).take k = (s.drop i).take k := by rw [List.take_append_of_le_length (by omega), List.take_of_length_le (by omega)]
            have a2 : ((s.drop i).take k ++ E).drop k = E := by rw [List.drop_append_of_le_length (by omega), List.drop_of_length_le (by omega)]; rfl
            rw [a1, a2]
          rw [unp, hcn, hp]
          simp only
          rw [if_neg (by simp; omega), e3 K _ (by simp at hK; omega) (by simp; omega), List.append_assoc, ← List.drop_drop, List.take_append_drop]
      · obtain ⟨E, e1, e2, e3⟩ := ih (m - k) (by omega) (i + k) (by omega)
        have hcn : (UInt8.ofNat (257 - k)).toNat = 257 - k := by simp; omega
        refine ⟨UInt8.ofNat (257 - k) :: s.getD i 0 :: E, by simp [e1]; omega, fun n out hn ho => ?_, fun K acc hK ha => ?_⟩
        · obtain ⟨n, rfl⟩ : ∃ q, n = q + 1 := ⟨n - 1, by omega⟩
          have hw : IntKind.i64.wrap ((i : Int) - -(k : Int)) = ((i + k : Nat) : Int) := by rw [wrap_id (by omega)]; omega
          have hw1 : IntKind.u8.wrap (IntKind.i64.wrap ((257 : Int) + -(k : Int))) = ((257 - k : Nat) : Int) := by rw [wrap_id (by omega), wrap_u8 (by omega)]; omega
          rw [filter_runs_encode_L4, dec_lt hlt, cond_true, chk_in (by omega), nat_toNat, htd, decide_eq_true (by omega), cond_true, hw1]
          unfold strings_Builder_WriteByte
          rw [chk_pos ⟨by omega, by omega⟩, chk_pos (by simp; omega), call_some, chk_in hlt, chk_pos (u8_in _)]
          simp only
          rw [chk_pos (by simp; omega)]
          simp only [call_some]
          rw [hw, u8_back, e2 n _ (by omega) (by simp; omega), nat_toNat]
          simp [List.append_assoc]
        · obtain ⟨K, rfl⟩ : ∃ q, K = q + 1 := ⟨K - 1, by simp at hK; omega⟩
          have hp : pstep false (257 - k) (s.getD i 0 :: E) acc = .inr (acc ++ List.replicate k (s.getD i 0), E) := by
            unfold pstep
            rw [if_neg (by omega), if_neg (by omega), if_neg (by decide), if_neg (by simp), show 257 - (257 - k) = k by omega]
            rfl
          rw [unp, hcn, hp]
          simp only
          rw [if_neg (by simp; omega), e3 K _ (by simp at hK; omega) (by simp; omega), List.append_assoc, ← h5, ← List.drop_drop, List.take_append_drop]

theorem runs_encode_eq {F : Nat} (hF : 3000 ≤ F) (z : S_filter_copies) (s : List UInt8) (hs : s.length ≤ 2000) : ∃ E m, filter_runs_encode F z s = some E ∧ MinP s m ∧ E.length = m ∧ ∀ K : Nat, E.length ≤ K → unp false K E [] = .inl s := by
  obtain ⟨best, hm⟩ := best_ex s
  have hbl := fun j => best_le hm j
  have h0 : best s.length = 0 := by
    have := hbl s.length
    omega
  have hw : IntKind.i64.wrap ((s.length : Int) + 1) = ((s.length + 1 : Nat) : Int) := wrap_succ (by omega)
  obtain ⟨v, e1, e2, e3⟩ := enc_L0 (F := F) (by omega) s hs best hm s.length F (List.replicate (s.length + 1) 0) (List.replicate (s.length + 1) 0) (Nat.le_refl _) (by omega) (by simp) (by simp) (fun j h1 h2 => by
    obtain rfl : j = s.length := by omega
    unfold At
    rw [h0, List.getElem?_replicate, if_pos (by omega)]
    rfl) (fun j h1 h2 => by omega)
  obtain ⟨E, f1, f2, f3⟩ := enc_L4 (F := F) s hs best v e2 h0 hbl e3 s.length 0 (by omega)
  have hb0 := hbl 0
  refine ⟨E, best 0, ?_, ?_, f1, fun K hK => ?_⟩
  · unfold filter_runs_encode
    have hc : 0 ≤ ((s.length + 1 : Nat) : Int) ∧ ((s.length + 1 : Nat) : Int) ≤ ((s.length + 1 : Nat) : Int) ∧ ((s.length + 1 : Nat) : Int) ≤ 9223372036854775807 ∧ ((8 : Nat) : Int) * ((s.length + 1 : Nat) : Int) ≤ 281474976710656 := ⟨by omega, by omega, by omega, by omega⟩
    rw [hw, chk_pos hc, chk_pos hc, nat_toNat, wrap_id (x := (s.length : Int) - 1) (by omega), e1, call_some, show filter_runs_encode_L4 F s v F [] 0 = some ([] ++ E) from f2 F [] (by omega) (by simp; omega), call_some, List.nil_append, chk_pos (by omega)]
  · simpa using hm 0
  · simpa using f3 K [] hK (by simp; omega)

/-- The table from the front. -/
theorem pre_L2 {F : Nat} (s : List UInt8) (hs : s.length ≤ 2000) (best : Nat → Nat) (hm : ∀ j, MinP (s.take j) (best j)) (hbl : ∀ j, j ≤ s.length → best j ≤ 2 * j) (e : Nat) (he1 : 1 ≤ e) (he : e ≤ s.length) : ∀ (m k n : Nat) (v2 : List Int) (same : Bool) (b : Nat), m + k = 129 → 1 ≤ k → m < n →
    v2.length = s.length + 1 → (∀ j, j < e → At v2 j (best j)) → At v2 e b → b ≤ 10000 → Code (s.take e) b → (k ≤ e + 1 → (same = true ↔ ∃ x, (s.take e).drop (e - (k - 1)) = List.replicate (k - 1) x ∧ x = s.getD (e - 1) 0)) →
    ∃ b', ref3_RunBytes_L2 F s (e : Int) n v2 same (k : Int) = some (v2.set e ((b' : Nat) : Int)) ∧ b' ≤ b ∧ Code (s.take e) b' ∧ (∀ j, k ≤ j → j ≤ 128 → j ≤ e → b' ≤ best (e - j) + 1 + j ∧ (1 < j → (∃ x, (s.take e).drop (e - j) = List.replicate j x) → b' ≤ best (e - j) + 2))
  | m, k, n, v2, same, b, hmk, hk, hn, hl, hbest, hbe, hb0, hcode, hsame => by
    obtain ⟨n, rfl⟩ : ∃ q, n = q + 1 := ⟨n - 1, by omega⟩
    have hself : v2.set e ((b : Nat) : Int) = v2 := by
      apply List.ext_getElem?
      intro j
      by_cases h : e = j
      · subst h; rw [List.getElem?_set_self (by omega)]; exact hbe.symm
      · rw [List.getElem?_set_ne h]
    rw [ref3_RunBytes_L2]
    by_cases hgo : k ≤ 128 ∧ k ≤ e
    · obtain ⟨m, rfl⟩ : ∃ q, m = q + 1 := ⟨m - 1, by omega⟩
      have hc1 : (bif decide ((k : Int) ≤ 128) then decide ((k : Int) ≤ (e : Int)) else false) = true := by
        rw [decide_eq_true (by omega), decide_eq_true (by omega)]; rfl
      have hw : IntKind.i64.wrap ((e : Int) - (k : Int)) = ((e - k : Nat) : Int) := by rw [wrap_id (by omega)]; omega
      have hw1 : IntKind.i64.wrap ((e : Int) - 1) = ((e - 1 : Nat) : Int) := wrap_pred (by omega) (by omega)
      have hA := hbest (e - k) (by omega)
      have hbk := hbl (e - k) (by omega)
      have hz : IntKind.i64.wrap (IntKind.i64.wrap (v2.getD (e - k) 0 + 1) + (k : Int)) = ((best (e - k) + 1 + k : Nat) : Int) := by
        rw [hA.getD, wrap_id (x := ((best (e - k) : Nat) : Int) + 1) (by omega), wrap_id (by omega)]; omega
      have htl : (s.take e).length = e := by simp; omega
      have hcl : Code (s.take e) (best (e - k) + 1 + k) := by
        have hp : (s.take e).take (e - k) ++ (s.take e).drop (e - k) = s.take e := List.take_append_drop _ _
        have hl2 : ((s.take e).drop (e - k)).length = k := by rw [List.length_drop, htl]; omega
        have h1 : (s.take e).take (e - k) = s.take (e - k) := by rw [List.take_take, Nat.min_eq_left (by omega)]
        have := (hm (e - k)).1.append (Code.lit1 ((s.take e).drop (e - k)) (by omega) (by omega))
        rw [← h1, hp, hl2] at this
        rwa [Nat.add_assoc]
      -- the state behind the literal
      obtain ⟨b1, hb1, hv5, hcode1⟩ : ∃ b1 : Nat, b1 = min b (best (e - k) + 1 + k) ∧ (lett ((best (e - k) + 1 + k : Nat) : Int) fun z2 =>
          chk (0 ≤ (e : Int) ∧ (e : Int) < v2.length) <|
          bif (decide (z2 < (v2.getD e 0))) then
            chk (0 ≤ (e : Int) ∧ (e : Int) < v2.length) <|
            some (v2.set e z2)
          else
            some v2) = some (v2.set e ((b1 : Nat) : Int)) ∧ Code (s.take e) b1 := by
        rw [lett_eq, chk_in (by omega), hbe.getD]
        by_cases h : best (e - k) + 1 + k < b
        · refine ⟨best (e - k) + 1 + k, by omega, ?_, hcl⟩
          rw [decide_eq_true (by omega), cond_true, chk_in (by omega)]
        · refine ⟨b, by omega, ?_, hcode⟩
          rw [decide_eq_false (by omega), cond_false, hself]
      have hse : e - 1 < s.length := by omega
      have hsk : e - k < s.length := by omega
      rw [hc1, cond_true, hw, hw1, chk_pos (fun _ => ⟨by omega, by omega⟩), chk_pos (fun _ => ⟨by omega, by omega⟩), lett_eq, nat_toNat, nat_toNat, chk_in (by omega), hz]
      simp only [nat_toNat]
      rw [hv5, call_some]
      have hA5 : At (v2.set e ((b1 : Nat) : Int)) (e - k) (best (e - k)) := hA.set_ne (by omega)
      have hE5 : At (v2.set e ((b1 : Nat) : Int)) e b1 := At.set_eq (by omega)
      have hz3 : IntKind.i64.wrap ((v2.set e ((b1 : Nat) : Int)).getD (e - k) 0 + 2) = ((best (e - k) + 2 : Nat) : Int) := by
        rw [hA5.getD, wrap_id (by omega)]; omega
      rw [chk_in (by simp; omega), chk_pos (fun _ => ⟨by omega, by simp; omega⟩), hz3, lett_eq, hE5.getD, lett_eq]
      -- is the piece of k bytes a run?
      have heq : (((s.getD (e - k) 0).toNat : Int) == ((s.getD (e - 1) 0).toNat : Int)) = decide (s.getD (e - k) 0 = s.getD (e - 1) 0) := by
        rw [Bool.eq_iff_iff, beq_iff_eq, decide_eq_true_eq]
        exact ⟨fun h => UInt8.toNat_inj.1 (by omega), fun h => by rw [h]⟩
      have hcons : (s.take e).drop (e - k) = s.getD (e - k) 0 :: (s.take e).drop (e - (k - 1)) := by
        have := getD_head (s := s.take e) (i := e - k) (by omega)
        rw [show e - k + 1 = e - (k - 1) by omega] at this
        rw [this, List.getD_eq_getElem?_getD, List.getD_eq_getElem?_getD, List.getElem?_take, if_pos (by omega)]
      have hsame' : (bif same then decide (s.getD (e - k) 0 = s.getD (e - 1) 0) else false) = true ↔ ∃ x, (s.take e).drop (e - (k + 1 - 1)) = List.replicate (k + 1 - 1) x ∧ x = s.getD (e - 1) 0 := by
        rw [show k + 1 - 1 = k by omega, hcons]
        have hk' : List.replicate k (s.getD (e - 1) 0) = s.getD (e - 1) 0 :: List.replicate (k - 1) (s.getD (e - 1) 0) := by
          rw [← List.replicate_succ, show k - 1 + 1 = k by omega]
        constructor
        · intro h
          have h1 : same = true := by cases same <;> simp_all
          rw [h1, cond_true, decide_eq_true_eq] at h
          obtain ⟨x, q1, rfl⟩ := (hsame (by omega)).1 h1
          exact ⟨_, by rw [q1, h, hk'], rfl⟩
        · rintro ⟨x, q1, rfl⟩
          rw [hk'] at q1
          injection q1 with q2 q3
          rw [(hsame (by omega)).2 ⟨_, q3, rfl⟩, cond_true, decide_eq_true q2]
      rw [heq]
      generalize hsm : (bif same then decide (s.getD (e - k) 0 = s.getD (e - 1) 0) else false) = same2 at hsame'
      have hrun : same2 = true → 1 < k → Code (s.take e) (best (e - k) + 2) := by
        intro h1 h2
        obtain ⟨x, q1, _⟩ := hsame'.1 h1
        rw [show k + 1 - 1 = k by omega] at q1
        have hp : (s.take e).take (e - k) ++ (s.take e).drop (e - k) = s.take e := List.take_append_drop _ _
        have h3 : (s.take e).take (e - k) = s.take (e - k) := by rw [List.take_take, Nat.min_eq_left (by omega)]
        have := (hm (e - k)).1.append (Code.run1 x k (by omega) (by omega))
        rw [← q1, ← h3, hp] at this
        exact this
      obtain ⟨b2, hb2, hb2', hv6, hcode2⟩ : ∃ b2 : Nat, b2 ≤ b1 ∧ (same2 = true → 1 < k → b2 ≤ best (e - k) + 2) ∧ (bif (bif (bif same2 then decide ((k : Int) > 1) else false) then decide (((best (e - k) + 2 : Nat) : Int) < ((b1 : Nat) : Int)) else false) then
          chk (0 ≤ (e : Int) ∧ (e : Int) < (v2.set e ((b1 : Nat) : Int)).length) <|
          some (((v2.set e ((b1 : Nat) : Int)).set e ((best (e - k) + 2 : Nat) : Int)), same2)
        else
          some (v2.set e ((b1 : Nat) : Int), same2)) = some (v2.set e ((b2 : Nat) : Int), same2) ∧ Code (s.take e) b2 := by
        by_cases h : same2 = true ∧ 1 < k ∧ best (e - k) + 2 < b1
        · obtain ⟨h1, h2, h3⟩ := h
          refine ⟨best (e - k) + 2, by omega, fun _ _ => Nat.le_refl _, ?_, hrun h1 h2⟩
          rw [h1, cond_true, decide_eq_true (by omega), decide_eq_true (by omega), cond_true, cond_true, chk_in (by simp; omega), List.set_set]
        · refine ⟨b1, Nat.le_refl _, fun h1 h2 => ?_, ?_, hcode1⟩
          · have : ¬ best (e - k) + 2 < b1 := fun h3 => h ⟨h1, h2, h3⟩
            omega
          · have : (bif (bif same2 then decide ((k : Int) > 1) else false) then decide (((best (e - k) + 2 : Nat) : Int) < ((b1 : Nat) : Int)) else false) = false := by
              cases same2 with
              | false => rfl
              | true =>
                by_cases h2 : 1 < k
                · have h3 : ¬ best (e - k) + 2 < b1 := fun h3 => h ⟨rfl, h2, h3⟩
                  rw [decide_eq_true (by omega), decide_eq_false (by omega)]; rfl
                · rw [decide_eq_false (p := (k : Int) > 1) (by omega)]; rfl
            rw [this, cond_false]
      rw [hv6, call_some, wrap_succ (by omega)]
      simp only
      obtain ⟨b', r1, r2, r3, r4⟩ := pre_L2 (F := F) s hs best hm hbl e he1 he m (k + 1) n (v2.set e ((b2 : Nat) : Int)) same2 b2 (by omega) (by omega) (by omega) (by simpa using hl) (fun j hj => (hbest j hj).set_ne (by omega)) (At.set_eq (by omega)) (by omega) hcode2 (fun _ => hsame')
      refine ⟨b', ?_, by omega, r3, fun j h1 h2 h3 => ?_⟩
      · rw [r1, List.set_set]
      · by_cases hj : j = k
        · subst hj
          refine ⟨by omega, fun h4 ⟨x, hx⟩ => ?_⟩
          have : same2 = true := by
            refine hsame'.2 ⟨x, by rw [show j + 1 - 1 = j by omega]; exact hx, ?_⟩
            -- the last byte of a run is its byte
            have h5 : ((s.take e).drop (e - j))[j - 1]? = some x := by rw [hx, List.getElem?_replicate, if_pos (by omega)]
            rw [List.getElem?_drop, show e - j + (j - 1) = e - 1 by omega, List.getElem?_take, if_pos (by omega)] at h5
            rw [List.getD_eq_getElem?_getD, h5]
            rfl
          have := hb2' this h4
          omega
        · exact r4 j (by omega) h2 h3
    · have hc1 : (bif decide ((k : Int) ≤ 128) then decide ((k : Int) ≤ (e : Int)) else false) = false := by
        by_cases h : k ≤ 128
        · have : ¬ k ≤ e := fun h' => hgo ⟨h, h'⟩
          rw [decide_eq_true (by omega), decide_eq_false (by omega)]; rfl
        · rw [decide_eq_false (by omega)]; rfl
      refine ⟨b, ?_, Nat.le_refl _, hcode, fun j h1 h2 h3 => absurd ⟨by omega, by omega⟩ hgo⟩
      rw [hc1, hself]
      rfl
  termination_by m => m

theorem pre_L0 {F : Nat} (hF : 200 ≤ F) (s : List UInt8) (hs : s.length ≤ 2000) (best : Nat → Nat) (hm : ∀ j, MinP (s.take j) (best j)) (hbl : ∀ j, j ≤ s.length → best j ≤ 2 * j) : ∀ (m e n : Nat) (v : List Int), m + e = s.length + 1 → 1 ≤ e → m < n → v.length = s.length + 1 → (∀ j, j < e → At v j (best j)) →
    ∃ v', ref3_RunBytes_L0 F s n v (e : Int) = some v' ∧ v'.length = s.length + 1 ∧ At v' s.length (best s.length)
  | 0, e, n, v, hme, he, hn, hl, hb => by
    obtain ⟨n, rfl⟩ : ∃ q, n = q + 1 := ⟨n - 1, by omega⟩
    refine ⟨v, ?_, hl, hb _ (by omega)⟩
    rw [ref3_RunBytes_L0, decide_eq_false (by omega)]
    rfl
  | m + 1, e, n, v, hme, he, hn, hl, hb => by
    obtain ⟨n, rfl⟩ : ∃ q, n = q + 1 := ⟨n - 1, by omega⟩
    have hw1 : IntKind.i64.wrap ((e : Int) - 1) = ((e - 1 : Nat) : Int) := wrap_pred (by omega) (by omega)
    have hA := hb (e - 1) (by omega)
    have hbk := hbl (e - 1) (by omega)
    have hz : IntKind.i64.wrap (v.getD (e - 1) 0 + 2) = ((best (e - 1) + 2 : Nat) : Int) := by rw [hA.getD, wrap_id (by omega)]; omega
    have htl : (s.take e).length = e := by simp; omega
    have hcode : Code (s.take e) (best (e - 1) + 2) := by
      have hp : (s.take e).take (e - 1) ++ (s.take e).drop (e - 1) = s.take e := List.take_append_drop _ _
      have hl2 : ((s.take e).drop (e - 1)).length = 1 := by rw [List.length_drop, htl]; omega
      have h1 : (s.take e).take (e - 1) = s.take (e - 1) := by rw [List.take_take, Nat.min_eq_left (by omega)]
      have := (hm (e - 1)).1.append (Code.lit1 ((s.take e).drop (e - 1)) (by omega) (by omega))
      rw [← h1, hp, hl2] at this
      exact this
    rw [ref3_RunBytes_L0, decide_eq_true (by omega), cond_true, hw1, chk_in (by omega), chk_in (by omega), nat_toNat, nat_toNat, hz]
    obtain ⟨b', r1, r2, r3, r4⟩ := pre_L2 (F := F) s hs best hm hbl e he (by omega) 128 1 F (v.set e ((best (e - 1) + 2 : Nat) : Int)) true (best (e - 1) + 2) rfl (by decide) (by omega) (by simpa using hl) (fun j hj => (hb j hj).set_ne (by omega)) (At.set_eq (by omega)) (by omega) hcode (fun _ => ⟨fun _ => ⟨_, by simp [htl], rfl⟩, fun _ => rfl⟩)
    have hmin : b' = best e := by
      refine MinP.uniq ⟨r3, fun c hc => ?_⟩ (hm e)
      obtain ⟨k, c', q1, q2, q3, q4, q5⟩ := hc.last (by intro h; rw [h] at htl; simp at htl; omega)
      rw [htl] at q3 q4 q5
      have h1 : (s.take e).take (e - k) = s.take (e - k) := by rw [List.take_take, Nat.min_eq_left (by omega)]
      rw [h1] at q4
      have hle := (hm (e - k)).2 _ q4
      obtain ⟨w1, w2⟩ := r4 k q1 q2 q3
      rcases q5 with q5 | ⟨q5, x, q6⟩
      · omega
      · by_cases hk1 : 1 < k
        · have := w2 hk1 ⟨x, q6⟩
          omega
        · omega
    rw [show (1 : Int) = ((1 : Nat) : Int) from rfl, r1, call_some]
    rw [show ((1 : Nat) : Int) = (1 : Int) from rfl, wrap_succ (by omega), List.set_set]
    subst hmin
    refine pre_L0 hF s hs best hm hbl m (e + 1) n _ (by omega) (by omega) (by omega) (by simpa using hl) (fun j hj => ?_)
    by_cases h : j = e
    · subst h; exact At.set_eq (by omega)
    · exact (hb j (by omega)).set_ne (by omega)

theorem RunBytes_eq {F : Nat} (hF : 3000 ≤ F) (s : List UInt8) (hs : s.length ≤ 2000) {m : Nat} (hmin : MinP s m) : ref3_RunBytes F s = some (m : Int) := by
  obtain ⟨best, hm⟩ : ∃ best : Nat → Nat, ∀ j, MinP (s.take j) (best j) := ⟨fun j => Classical.choose (MinP.ex (s.take j)), fun j => Classical.choose_spec (MinP.ex (s.take j))⟩
  have hbl : ∀ j, j ≤ s.length → best j ≤ 2 * j := fun j hj => by
    have := (hm j).le
    rw [List.length_take] at this
    omega
  have h0 : best 0 = 0 := by have := hbl 0 (by omega); omega
  have hbm : best s.length = m := by
    have := hm s.length
    rw [List.take_length] at this
    exact this.uniq hmin
  have hw : IntKind.i64.wrap ((s.length : Int) + 1) = ((s.length + 1 : Nat) : Int) := wrap_succ (by omega)
  have hc : 0 ≤ ((s.length + 1 : Nat) : Int) ∧ ((s.length + 1 : Nat) : Int) ≤ ((s.length + 1 : Nat) : Int) ∧ ((s.length + 1 : Nat) : Int) ≤ 9223372036854775807 ∧ ((8 : Nat) : Int) * ((s.length + 1 : Nat) : Int) ≤ 281474976710656 := ⟨by omega, by omega, by omega, by omega⟩
  obtain ⟨v, e1, e2, e3⟩ := pre_L0 (F := F) (by omega) s hs best hm hbl s.length 1 F (List.replicate (s.length + 1) 0) (by omega) (by decide) (by omega) (by simp) (fun j hj => by
    obtain rfl : j = 0 := by omega
    unfold At
    rw [h0, List.getElem?_replicate, if_pos (by omega)]
    rfl)
  unfold ref3_RunBytes
  rw [hw, chk_pos hc, nat_toNat, show ref3_RunBytes_L0 F s F (List.replicate (s.length + 1) 0) 1 = some v from e1, call_some, chk_in (by omega), nat_toNat, e3.getD, hbm]

theorem runShortest_law {F : Nat} (s : List UInt8) (hF : 200000 ≤ F) : law3_FilterRunShortest F s = some true := by
  obtain ⟨n, rfl⟩ : ∃ n, F = n + 40 := ⟨F - 40, by omega⟩
  unfold law3_FilterRunShortest
  rw [fact_eq n, call_some]
  have hv : (bif (decide ((s.length : Int) > (2000 : Int))) then
        chk (0 ≤ (0 : Int) ∧ (0 : Int) ≤ (2000 : Int) ∧ (2000 : Int) ≤ (s.length : Int)) <|
        some ((s.drop (0 : Int).toNat).take ((2000 : Int).toNat - (0 : Int).toNat))
      else
        some s) = some (s.take 2000) := by
    by_cases h : 2000 < s.length
    · rw [decide_eq_true (by omega), cond_true, chk_pos ⟨by decide, by decide, by omega⟩]
      rfl
    · rw [decide_eq_false (by omega), cond_false, List.take_of_length_le (by omega)]
  have hl : (s.take 2000).length ≤ 2000 := by simp; omega
  simp only [Bool.not_true, cond_false]
  rw [hv, call_some]
  generalize s.take 2000 = u at hl
  obtain ⟨E, m, e1, e2, e3, e4⟩ := runs_encode_eq (F := n + 40) (by omega) (S_filter_copies.mk) u hl
  have hm := e2.le
  have hck : filter_Check (n + 40) [S_FilterStep.mk 1 0] = some 0 := by
    rw [Check_eq (by omega)]
    rfl
  have henc : filter_Encode (n + 40) [S_FilterStep.mk 1 0] u = some (E, 0) := by
    unfold filter_Encode
    rw [hck, call_some]
    simp only [bne_self_eq_false, cond_false]
    rw [decide_eq_false (by omega), cond_false]
    have h0 : filter_Encode_L0 (n + 40) [S_FilterStep.mk 1 0] (n + 40) u 0 = some E := by
      rw [filter_Encode_L0]
      have h1 : decide ((0 : Int) < (([S_FilterStep.mk 1 0] : List S_FilterStep).length : Int)) = true := by decide
      rw [h1, cond_true, chk_pos ⟨by decide, by decide⟩]
      have h2 : filter_codingOf (n + 40) (S_FilterStep.mk (([S_FilterStep.mk 1 0] : List S_FilterStep).getD (0 : Int).toNat (S_FilterStep.mk 0 0)).f0 (([S_FilterStep.mk 1 0] : List S_FilterStep).getD (0 : Int).toNat (S_FilterStep.mk 0 0)).f1) = some (I_filter_coding.k_runs (S_filter_copies.mk)) := rfl
      rw [h2, call_some]
      simp only [I_filter_coding_encode]
      rw [e1, call_some, wrap_id (x := (0 : Int) + 1) (by omega), filter_Encode_L0]
      have h3 : decide ((0 : Int) + 1 < (([S_FilterStep.mk 1 0] : List S_FilterStep).length : Int)) = false := by decide
      rw [h3]
      rfl
    rw [h0, call_some]
    unfold strings_Clone
    rw [chk_pos (by omega)]
    rfl
  have hdec : ref3_Decoded (n + 40) [S_FilterStep.mk 1 0] E = some (u, 0) := by
    unfold ref3_Decoded
    rw [← check_eq, hck, call_some]
    simp only [bne_self_eq_false, cond_false]
    rw [decide_eq_false (by omega), cond_false]
    have h1 : ref3_Decoded_L0 (n + 40) [S_FilterStep.mk 1 0] (n + 40) E 0 = some (outS (chain [S_FilterStep.mk 1 0] E)) := decoded_loop (F := n + 40) [S_FilterStep.mk 1 0] (by intro f hf; simp at hf; subst hf; exact ⟨by decide, by decide, fun h => by cases h⟩) hF (by decide) 1 (n + 40) 0 E rfl (by omega) (by omega)
    rw [h1]
    have h2 : chain [S_FilterStep.mk 1 0] E = .inl u := by
      simp only [chain]
      have : dec1 (S_FilterStep.mk 1 0) E = .inl u := by
        unfold dec1
        rw [if_pos rfl]
        exact e4 _ (Nat.le_refl _)
      rw [this]
    rw [h2]
    simp only [outS, callE_go]
    rw [decide_eq_false (by omega)]
    rfl
  rw [henc, call_some, hdec, call_some, RunBytes_eq (by omega) u hl e2]
  simp [call_some, lett_eq, e3]
theorem runShortest_total (s : List UInt8) : ∃ F, law3_FilterRunShortest F s = some true := ⟨200000, runShortest_law s (Nat.le_refl _)⟩
end Go.Vm.FilG
