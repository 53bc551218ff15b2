/-
  FOLD, PLAIN, part 9: the pairs.
-/
import Derived.Test.YtnjggcljonbleaaFoldLaw8
namespace Go.Vm.FoldG

def posOf {α : Type} (l : List α) (p : α → Bool) : Int := match l.findIdx? p with
  | some k => (k : Int)
  | none => -1

theorem findIdx_cons {α : Type} (x : α) (l : List α) (p : α → Bool) : (x :: l).findIdx? p = bif p x then some 0 else (l.findIdx? p).map (· + 1) := by
  rw [List.findIdx?_cons]
  cases p x <;> rfl

theorem f33_L0_eq (F : Nat) (c r : Int) : ∀ (B A : List S50) (n : Nat), B.length < n → A.length + B.length ≤ 10000 →
    f33_L0 F (A ++ B) n A.length c r = some (match B.findIdx? (fun y => y.f0 == c && y.f1 == r) with | some k => .esc (((A.length + k : Nat) : Int), c, r) | none => .go (c, r)) := by
  intro B
  induction B with
  | nil =>
    intro A n hn _
    obtain ⟨n, rfl⟩ : ∃ k, n = k + 1 := ⟨n - 1, by omega⟩
    have hd : decide ((A.length : Int) < ((A ++ ([] : List S50)).length : Int)) = false := by simp
    rw [f33_L0]
    simp only [hd, cond_false]
    simp
  | cons x B ih =>
    intro A n hn hl
    obtain ⟨n, rfl⟩ : ∃ k, n = k + 1 := ⟨n - 1, by omega⟩
    simp only [List.length_cons] at hn hl
    have hd : decide ((A.length : Int) < ((A ++ x :: B).length : Int)) = true := by simp; omega
    have hw : IntKind.i64.wrap ((A.length : Int) + 1) = ((A.length + 1 : Nat) : Int) := by rw [wrap_id (by omega)]; omega
    have hg : (A ++ x :: B).getD A.length (S50.mk 0 0 false false) = x := by
      rw [List.getD_eq_getElem?_getD, List.getElem?_append_right (Nat.le_refl _)]
      simp
    have hI := ih (A ++ [x]) n (by omega) (by simp; omega)
    simp only [List.append_assoc, List.singleton_append, List.length_append, List.length_singleton] at hI
    have hp : (bif (x.f0 == c) then (x.f1 == r) else false) = (x.f0 == c && x.f1 == r) := by cases (x.f0 == c) <;> rfl
    rw [f33_L0]
    simp only [hd, cond_true, Int.toNat_natCast, hg, hw]
    rw [chk_pos (by simp; omega)]
    unfold f34
    simp only [call_some, hp]
    rw [findIdx_cons]
    cases hpx : (x.f0 == c && x.f1 == r)
    · simp only [cond_false]
      rw [hI]
      cases B.findIdx? (fun y => y.f0 == c && y.f1 == r) with
      | none => rfl
      | some k => simp; omega
    · simp only [cond_true]
      simp

theorem f33_eq {F : Nat} (l : List S50) (hl : l.length < F) (hl2 : l.length ≤ 10000) (c r : Int) : f33 F l c r = some (posOf l (fun y => y.f0 == c && y.f1 == r), c, r) := by
  have := f33_L0_eq F c r l [] F hl (by simpa using hl2)
  simp only [List.nil_append, List.length_nil, Int.natCast_zero, Nat.zero_add] at this
  unfold f33
  rw [this]
  unfold posOf
  cases l.findIdx? (fun y => y.f0 == c && y.f1 == r) <;> rfl

/-- The neighbour at the spine. -/
def tgt (a0 : S23) (x : S50) : Int × Int :=
  if a0.f2.length = 0 then (-1, x.f1)
  else if lastSide a0 = 0 then (bif x.f2 then x.f0 + 1 else x.f0 - 1, x.f1)
  else if lastSide a0 = 1 then (bif x.f2 then x.f0 - 1 else x.f0 + 1, x.f1)
  else if lastSide a0 = 2 then (x.f0, bif x.f3 then x.f1 + 1 else x.f1 - 1)
  else (x.f0, bif x.f3 then x.f1 - 1 else x.f1 + 1)

theorem f13_step (a0 : S23) (hs : 0 ≤ lastSide a0 ∧ lastSide a0 ≤ 3) (x : S50) (hx : 0 ≤ x.f0 ∧ x.f0 ≤ 1000 ∧ 0 ≤ x.f1 ∧ x.f1 ≤ 1000) :
    (bif ((a0.f2.length : Int) == (0 : Int)) then
          some ((-1 : Int), x.f1)
        else
          call (bif (bif (lastSide a0 == (0 : Int)) then (!(x.f2)) else false) then
              some (bif (lastSide a0 == (0 : Int)) then (!(x.f2)) else false)
            else
              some (bif (lastSide a0 == (1 : Int)) then (x.f2) else false))
            fun v3 =>
          bif v3 then
            some (IntKind.i64.wrap (x.f0 - (1 : Int)), x.f1)
          else
            call (bif (lastSide a0 == (0 : Int)) then
                some (lastSide a0 == (0 : Int))
              else
                some (lastSide a0 == (1 : Int)))
              fun v4 =>
            bif v4 then
              some (IntKind.i64.wrap (x.f0 + (1 : Int)), x.f1)
            else
              call (bif (bif (lastSide a0 == (2 : Int)) then (!(x.f3)) else false) then
                  some (bif (lastSide a0 == (2 : Int)) then (!(x.f3)) else false)
                else
                  some (bif (lastSide a0 == (3 : Int)) then (x.f3) else false))
                fun v5 =>
              bif v5 then
                some (x.f0, IntKind.i64.wrap (x.f1 - (1 : Int)))
              else
                some (x.f0, IntKind.i64.wrap (x.f1 + (1 : Int)))) = some (tgt a0 x) := by
  have w1 : IntKind.i64.wrap (x.f0 - 1) = x.f0 - 1 := wrap_id (by omega)
  have w2 : IntKind.i64.wrap (x.f0 + 1) = x.f0 + 1 := wrap_id (by omega)
  have w3 : IntKind.i64.wrap (x.f1 - 1) = x.f1 - 1 := wrap_id (by omega)
  have w4 : IntKind.i64.wrap (x.f1 + 1) = x.f1 + 1 := wrap_id (by omega)
  rw [w1, w2, w3, w4]
  unfold tgt
  by_cases h0 : a0.f2.length = 0
  · have hb : (((a0.f2.length : Nat) : Int) == 0) = true := by rw [h0]; rfl
    rw [hb, if_pos h0]
    rfl
  · have hb : (((a0.f2.length : Nat) : Int) == 0) = false := beq_false_of_ne (by omega)
    rw [hb, if_neg h0]
    simp only [cond_false]
    rcases (by omega : lastSide a0 = 0 ∨ lastSide a0 = 1 ∨ lastSide a0 = 2 ∨ lastSide a0 = 3) with h | h | h | h <;> rw [h] <;> cases x.f2 <;> cases x.f3 <;> rfl

theorem f13_L0_eq {F : Nat} (hF : 1000 ≤ F) (a0 : S23) (hs : 0 ≤ lastSide a0 ∧ lastSide a0 ≤ 3) (P : List S50) (hP : P.length ≤ 300) (e : Int) :
    ∀ (B A : List S50) (n : Nat) (acc : List Int), P = A ++ B → B.length < n → (∀ x ∈ B, 0 ≤ x.f0 ∧ x.f0 ≤ 1000 ∧ 0 ≤ x.f1 ∧ x.f1 ≤ 1000) → acc.length + B.length ≤ 10000 →
      f13_L0 F a0 (P, lastSide a0, e) n acc A.length = some (acc ++ B.map fun x => posOf P (fun y => y.f0 == (tgt a0 x).1 && y.f1 == (tgt a0 x).2)) := by
  intro B
  induction B with
  | nil =>
    intro A n acc hPe hn _ _
    obtain ⟨n, rfl⟩ : ∃ k, n = k + 1 := ⟨n - 1, by omega⟩
    have hd : decide ((A.length : Int) < (P.length : Int)) = false := by rw [hPe]; simp
    rw [f13_L0]
    simp only [hd, cond_false]
    simp
  | cons x B ih =>
    intro A n acc hPe hn hx ho
    obtain ⟨n, rfl⟩ : ∃ k, n = k + 1 := ⟨n - 1, by omega⟩
    simp only [List.length_cons] at hn ho
    have hAP : A.length < P.length := by rw [hPe]; simp
    have hd : decide ((A.length : Int) < (P.length : Int)) = true := by simp; omega
    have hw : IntKind.i64.wrap ((A.length : Int) + 1) = ((A.length + 1 : Nat) : Int) := by rw [wrap_id (by omega)]; omega
    have hg : P.getD A.length (S50.mk 0 0 false false) = x := by
      rw [hPe, List.getD_eq_getElem?_getD, List.getElem?_append_right (Nat.le_refl _)]
      simp
    have hI := ih (A ++ [x]) n (acc ++ [posOf P (fun y => y.f0 == (tgt a0 x).1 && y.f1 == (tgt a0 x).2)]) (by rw [hPe]; simp) (by omega) (fun y hy => hx y (by simp [hy])) (by simp; omega)
    simp only [List.length_append, List.length_singleton] at hI
    rw [f13_L0]
    simp only [hd, cond_true, Int.toNat_natCast, hg, hw]
    rw [chk_pos (by omega), f13_step a0 hs x (hx x (by simp)), call_some]
    rw [f33_eq P (by omega) (by omega), call_some, chk_pos (by simp; omega), hI]
    simp

/-- What the reference asks of the leaf j. -/
def isAt (a0 : S23) (C : Nat) (c r : Int) (j : Nat) : Bool := bif (bif (decide ((a0.f2.length : Int) > 0)) then (((j % C : Nat) : Int) == c) else false) then (((j / C : Nat) : Int) == r) else false

theorem f15_L2_eq (F : Nat) (a0 : S23) {C : Nat} (hC : a0.f0 = C) (hC8 : 1 ≤ C ∧ C ≤ 8) (y1 : Int × Int) (T : (List Int) × (List Int) × (List Int) × (List Int) × (List Int) × (List Int) × (List Int) × Int × Int × Int × Int × Int) (z1 z2 z3 : Int) :
    ∀ (B A : List Nat) (n : Nat) (fd : Int), B.length < n → (∀ i ∈ B, i ≤ 1000) → A.length + B.length ≤ 10000 → B.Pairwise (fun i j => ¬ (isAt a0 C z2 (IntKind.i64.wrap (z3 + IntKind.i64.wrap (y1.2 * z1))) i = true ∧ isAt a0 C z2 (IntKind.i64.wrap (z3 + IntKind.i64.wrap (y1.2 * z1))) j = true)) →
      f15_L2 F a0 y1 ((A ++ B).map (fun j : Nat => (j : Int)), T) z1 z2 z3 n fd A.length =
        some (match B.findIdx? (isAt a0 C z2 (IntKind.i64.wrap (z3 + IntKind.i64.wrap (y1.2 * z1)))) with | some k => ((A.length + k : Nat) : Int) | none => fd) := by
  intro B
  induction B with
  | nil =>
    intro A n fd hn _ _ _
    obtain ⟨n, rfl⟩ : ∃ k, n = k + 1 := ⟨n - 1, by omega⟩
    have hd : decide ((A.length : Int) < (((A ++ ([] : List Nat)).map (fun j : Nat => (j : Int))).length : Int)) = false := by simp
    rw [f15_L2]
    simp only [hd, cond_false]
    simp
  | cons i B ih =>
    intro A n fd hn hx hl hp
    obtain ⟨n, rfl⟩ : ∃ k, n = k + 1 := ⟨n - 1, by omega⟩
    simp only [List.length_cons] at hn hl
    have hd : decide ((A.length : Int) < (((A ++ i :: B).map (fun j : Nat => (j : Int))).length : Int)) = true := by simp; omega
    have hw : IntKind.i64.wrap ((A.length : Int) + 1) = ((A.length + 1 : Nat) : Int) := by rw [wrap_id (by omega)]; omega
    have hg : ((A ++ i :: B).map (fun j : Nat => (j : Int))).getD A.length 0 = (i : Int) := by
      rw [List.getD_eq_getElem?_getD, List.getElem?_map, List.getElem?_append_right (Nat.le_refl _)]
      simp
    have hi := hx i (by simp)
    have em : (i : Int).tmod (C : Int) = ((i % C : Nat) : Int) := rfl
    have ed : (i : Int).tdiv (C : Int) = ((i / C : Nat) : Int) := rfl
    have hwq : IntKind.i64.wrap ((i / C : Nat) : Int) = ((i / C : Nat) : Int) := by
      have hdv : i / C ≤ i := Nat.div_le_self _ _
      generalize i / C = q at hdv ⊢
      exact wrap_id (by omega)
    have hpc := List.pairwise_cons.1 hp
    have hI := fun fd' => ih (A ++ [i]) n fd' (by omega) (fun y hy => hx y (by simp [hy])) (by simp; omega) hpc.2
    simp only [List.append_assoc, List.singleton_append, List.length_append, List.length_singleton] at hI
    rw [f15_L2]
    simp only [hd, cond_true, Int.toNat_natCast, hg, hw, hC, em, ed, hwq, lett_eq]
    rw [chk_pos (by simp; omega), chk_pos (fun _ => by omega), chk_pos (fun _ => by omega)]
    have hat : (bif (bif (decide ((a0.f2.length : Int) > 0)) then (((i % C : Nat) : Int) == z2) else false) then (((i / C : Nat) : Int) == IntKind.i64.wrap (z3 + IntKind.i64.wrap (y1.2 * z1))) else false) = isAt a0 C z2 (IntKind.i64.wrap (z3 + IntKind.i64.wrap (y1.2 * z1))) i := rfl
    rw [hat, findIdx_cons]
    cases hpi : isAt a0 C z2 (IntKind.i64.wrap (z3 + IntKind.i64.wrap (y1.2 * z1))) i
    · simp only [cond_false, call_some]
      rw [hI]
      cases B.findIdx? (isAt a0 C z2 (IntKind.i64.wrap (z3 + IntKind.i64.wrap (y1.2 * z1)))) with
      | none => rfl
      | some k => (simp only [Option.map_some]; rw [show A.length + (k + 1) = A.length + 1 + k from by omega])
    · simp only [cond_true, call_some]
      rw [hI]
      have hnone : B.findIdx? (isAt a0 C z2 (IntKind.i64.wrap (z3 + IntKind.i64.wrap (y1.2 * z1)))) = none := by
        rw [List.findIdx?_eq_none_iff]
        intro j hj
        have := hpc.1 j hj
        cases h : isAt a0 C z2 (IntKind.i64.wrap (z3 + IntKind.i64.wrap (y1.2 * z1))) j
        · rfl
        · exact absurd ⟨hpi, h⟩ this
      rw [hnone]
      simp

theorem isAt_tgt (a0 : S23) (C : Nat) (hs : 0 ≤ lastSide a0 ∧ lastSide a0 ≤ 3) (L : List Lf) (i : Nat) (hi : i ≤ 1000) (I : List Nat) :
    posOf I (isAt a0 C (IntKind.i64.wrap (IntKind.i64.wrap (((i % C : Nat) : Int) + IntKind.i64.wrap ((spn (lastSide a0)).1 * (pB (!(lf L i).fx) - pB (lf L i).fx))) + IntKind.i64.wrap ((spn (lastSide a0)).2 * 0)))
        (IntKind.i64.wrap (IntKind.i64.wrap (((i / C : Nat) : Int) + IntKind.i64.wrap ((spn (lastSide a0)).1 * 0)) + IntKind.i64.wrap ((spn (lastSide a0)).2 * (pB (!(lf L i).fy) - pB (lf L i).fy)))))
      = posOf (I.map (leafOf C L)) (fun y => y.f0 == (tgt a0 (leafOf C L i)).1 && y.f1 == (tgt a0 (leafOf C L i)).2) := by
  have hm : i % C ≤ i := Nat.mod_le _ _
  have hd : i / C ≤ i := Nat.div_le_self _ _
  have key : ∀ j, isAt a0 C (IntKind.i64.wrap (IntKind.i64.wrap (((i % C : Nat) : Int) + IntKind.i64.wrap ((spn (lastSide a0)).1 * (pB (!(lf L i).fx) - pB (lf L i).fx))) + IntKind.i64.wrap ((spn (lastSide a0)).2 * 0)))
        (IntKind.i64.wrap (IntKind.i64.wrap (((i / C : Nat) : Int) + IntKind.i64.wrap ((spn (lastSide a0)).1 * 0)) + IntKind.i64.wrap ((spn (lastSide a0)).2 * (pB (!(lf L i).fy) - pB (lf L i).fy)))) j
      = ((leafOf C L j).f0 == (tgt a0 (leafOf C L i)).1 && (leafOf C L j).f1 == (tgt a0 (leafOf C L i)).2) := by
    intro j
    unfold isAt tgt
    simp only [leafOf]
    generalize i % C = qm at hm ⊢
    generalize i / C = qd at hd ⊢
    have k0 : IntKind.i64.wrap 0 = 0 := rfl
    have k1 : IntKind.i64.wrap 1 = 1 := rfl
    have km : IntKind.i64.wrap (-1) = -1 := rfl
    have w1 : IntKind.i64.wrap (qm : Int) = qm := wrap_id (by omega)
    have w2 : IntKind.i64.wrap (qd : Int) = qd := wrap_id (by omega)
    have w3 : IntKind.i64.wrap ((qm : Int) + 1) = (qm : Int) + 1 := wrap_id (by omega)
    have w4 : IntKind.i64.wrap ((qd : Int) + 1) = (qd : Int) + 1 := wrap_id (by omega)
    have w5 : IntKind.i64.wrap ((qm : Int) + -1) = (qm : Int) - 1 := by rw [show (qm : Int) + -1 = (qm : Int) - 1 by omega]; exact wrap_id (by omega)
    have w6 : IntKind.i64.wrap ((qd : Int) + -1) = (qd : Int) - 1 := by rw [show (qd : Int) + -1 = (qd : Int) - 1 by omega]; exact wrap_id (by omega)
    have w7 : IntKind.i64.wrap ((qm : Int) - 1) = (qm : Int) - 1 := wrap_id (by omega)
    by_cases h0 : a0.f2.length = 0
    · have hb : decide ((a0.f2.length : Int) > 0) = false := decide_eq_false (by omega)
      rw [hb, if_pos h0]
      simp only [cond_false]
      have : (((j % C : Nat) : Int) == -1) = false := beq_false_of_ne (by omega)
      rw [this]
      rfl
    · have hb : decide ((a0.f2.length : Int) > 0) = true := decide_eq_true (by omega)
      rw [hb, if_neg h0]
      simp only [cond_true]
      have bb : ∀ a b : Bool, (bif a then b else false) = (a && b) := by intro a b; cases a <;> rfl
      rw [bb]
      rcases (by omega : lastSide a0 = 0 ∨ lastSide a0 = 1 ∨ lastSide a0 = 2 ∨ lastSide a0 = 3) with h | h | h | h <;> rw [h] <;> cases (lf L i).fx <;> cases (lf L i).fy <;>
        simp [spn, pB, k0, k1, km, w1, w2, w3, w4, w5, w6, w7]
  unfold posOf
  rw [List.findIdx?_map]
  congr 2
  funext j
  exact key j

theorem f15_L0_eq {F : Nat} (hF : 1000 ≤ F) (a0 : S23) {C : Nat} (hC : a0.f0 = C) (hC8 : 1 ≤ C ∧ C ≤ 8) (L : List Lf) (hl : L.length ≤ 1000) (hs : 0 ≤ lastSide a0 ∧ lastSide a0 ≤ 3) (x1 x2 x3 x4 x5 : Int) (g : List Int) (I : List Nat) (hI : ∀ i ∈ I, i < L.length) (hIl : I.length ≤ 300) (hnd : I.Pairwise (fun i j => i ≠ j)) :
    ∀ (B A : List Nat) (n : Nat) (acc : List Int), I = A ++ B → B.length < n → acc.length + B.length ≤ 10000 →
      f15_L0 F a0 (spn (lastSide a0)) (I.map (fun j : Nat => (j : Int)), (lists L).a, (lists L).b, (lists L).c, (lists L).d, (lists L).e, (lists L).f, g, x1, x2, x3, x4, x5) n acc A.length =
        some (acc ++ B.map fun i => posOf (I.map (leafOf C L)) (fun y => y.f0 == (tgt a0 (leafOf C L i)).1 && y.f1 == (tgt a0 (leafOf C L i)).2)) := by
  intro B
  induction B with
  | nil =>
    intro A n acc hIe hn _
    obtain ⟨n, rfl⟩ : ∃ k, n = k + 1 := ⟨n - 1, by omega⟩
    have hd : decide ((A.length : Int) < ((I.map (fun j : Nat => (j : Int))).length : Int)) = false := by rw [hIe]; simp
    rw [f15_L0]
    simp only [hd, cond_false]
    simp
  | cons i B ih =>
    intro A n acc hIe hn ho
    obtain ⟨n, rfl⟩ : ∃ k, n = k + 1 := ⟨n - 1, by omega⟩
    simp only [List.length_cons] at hn ho
    have hAI : A.length < I.length := by rw [hIe]; simp
    have hd : decide ((A.length : Int) < ((I.map (fun j : Nat => (j : Int))).length : Int)) = true := by simp; omega
    have hw : IntKind.i64.wrap ((A.length : Int) + 1) = ((A.length + 1 : Nat) : Int) := by rw [wrap_id (by omega)]; omega
    have hg : (I.map (fun j : Nat => (j : Int))).getD A.length 0 = (i : Int) := by
      rw [hIe, List.getD_eq_getElem?_getD, List.getElem?_map, List.getElem?_append_right (Nat.le_refl _)]
      simp
    have hi := hI i (by rw [hIe]; simp)
    obtain ⟨r1, r2, r3, r4⟩ := reads L i hi
    have hll : (lists L).a.length = L.length ∧ (lists L).b.length = L.length ∧ (lists L).c.length = L.length ∧ (lists L).d.length = L.length ∧ (lists L).e.length = L.length ∧ (lists L).f.length = L.length := by simp [lists]
    obtain ⟨h1, h2, h3, h4, h5, h6⟩ := hll
    have em : (i : Int).tmod (C : Int) = ((i % C : Nat) : Int) := rfl
    have ed : (i : Int).tdiv (C : Int) = ((i / C : Nat) : Int) := rfl
    have hwq : IntKind.i64.wrap ((i / C : Nat) : Int) = ((i / C : Nat) : Int) := by
      have hdv : i / C ≤ i := Nat.div_le_self _ _
      generalize i / C = q at hdv ⊢
      exact wrap_id (by omega)
    have hR := ih (A ++ [i]) n (acc ++ [posOf (I.map (leafOf C L)) (fun y => y.f0 == (tgt a0 (leafOf C L i)).1 && y.f1 == (tgt a0 (leafOf C L i)).2)]) (by rw [hIe]; simp) (by omega) (by simp; omega)
    simp only [List.length_append, List.length_singleton] at hR
    rw [f15_L0]
    simp only [hd, cond_true, Int.toNat_natCast, hg, lett_eq, hw, h1, h2, h3, h4, h5, h6, hC, em, ed, hwq]
    simp only [chk_pos (show (0 : Int) ≤ (i : Int) ∧ (i : Int) < (L.length : Int) from by omega)]
    rw [chk_pos (by simp; omega), chk_pos (by omega), chk_pos (by omega)]
    simp only [r1, r2, r3, r4]
    have e2 := f15_L2_eq F a0 hC hC8 (spn (lastSide a0)) ((lists L).a, (lists L).b, (lists L).c, (lists L).d, (lists L).e, (lists L).f, g, x1, x2, x3, x4, x5)
      (pB (!(lf L i).fy) - pB (lf L i).fy)
      (IntKind.i64.wrap (IntKind.i64.wrap (((i % C : Nat) : Int) + IntKind.i64.wrap ((spn (lastSide a0)).1 * (pB (!(lf L i).fx) - pB (lf L i).fx))) + IntKind.i64.wrap ((spn (lastSide a0)).2 * 0)))
      (IntKind.i64.wrap (((i / C : Nat) : Int) + IntKind.i64.wrap ((spn (lastSide a0)).1 * 0)))
      I [] F (-1) (by omega) (fun j hj => by have := hI j hj; omega) (by simp; omega) (by
        refine hnd.imp ?_
        rintro a b hab ⟨ha, hb⟩
        unfold isAt at ha hb
        simp only [Bool.cond_false_right, Bool.and_eq_true, beq_iff_eq] at ha hb
        have ea : a / C * C + a % C = a := by rw [Nat.mul_comm]; exact Nat.div_add_mod a C
        have eb : b / C * C + b % C = b := by rw [Nat.mul_comm]; exact Nat.div_add_mod b C
        have q1 : a % C = b % C := by have := ha.1.2.trans hb.1.2.symm; omega
        have q2 : a / C = b / C := by have := ha.2.trans hb.2.symm; omega
        rw [q1, q2] at ea
        exact hab (ea.symm.trans eb))
    simp only [List.nil_append, List.length_nil, Int.natCast_zero, Nat.zero_add] at e2
    rw [e2, call_some, chk_pos (by simp; omega)]
    have e3 := isAt_tgt a0 C hs L i (by omega) I
    unfold posOf at e3 hR ⊢
    rw [e3, hR]
    simp

theorem f14_L0_eq (F : Nat) (l : List Int) (hl : l.length ≤ 100000) : ∀ (m j n : Nat), j + m = l.length → m < n → f14_L0 F l l n j = some (.go ()) := by
  intro m
  induction m with
  | zero =>
    intro j n h hn
    obtain ⟨n, rfl⟩ : ∃ k, n = k + 1 := ⟨n - 1, by omega⟩
    have hd : decide ((j : Int) < (l.length : Int)) = false := by simp; omega
    rw [f14_L0]
    simp only [hd, cond_false]
  | succ m ih =>
    intro j n h hn
    obtain ⟨n, rfl⟩ : ∃ k, n = k + 1 := ⟨n - 1, by omega⟩
    have hd : decide ((j : Int) < (l.length : Int)) = true := by simp; omega
    have hw : IntKind.i64.wrap ((j : Int) + 1) = ((j + 1 : Nat) : Int) := by rw [wrap_id (by omega)]; omega
    have hne : ∀ x : Int, (x != x) = false := by intro x; simp
    rw [f14_L0]
    simp only [hd, cond_true, hw, hne, cond_false]
    rw [chk_pos (by omega), chk_pos (by omega)]
    exact ih (j + 1) n (by omega) (by omega)
theorem f14_eq {F : Nat} (l : List Int) (hl : l.length < F) (hl2 : l.length ≤ 100000) : f14 F l l = some true := by
  unfold f14
  have : (((l.length : Nat) : Int) != (l.length : Int)) = false := by simp
  rw [this, cond_false]
  rw [show (0 : Int) = ((0 : Nat) : Int) from rfl, f14_L0_eq F l hl2 l.length 0 F (by omega) hl]
  rfl

theorem law4 (a0 : S23) : f4 1000 a0 = some true := by
  have heta : S23.mk a0.f0 a0.f1 a0.f2 = a0 := rfl
  rcases found a0 with ⟨e, he, h25, h9⟩ | ⟨C, N, L, I, X0, Y0, p, q, G, hC, hC8, hl8, hside, inv, hp, hIl, hpl, h25, h12', h18, h19⟩
  · have hne : (e != (0 : Int)) = true := by simpa using he
    have h13 : f13 1000 a0 = some ([], e) := by
      unfold f13
      rw [heta, h25, call_some]
      simp only [hne, cond_true]
    unfold f4
    rw [f7_eq, call_some, heta, h13, h9]
    simp only [call_some, Bool.not_true, cond_false, hne, cond_true]
    simp
  · have hN := inv.hN
    have hlen := inv.len
    have hv : ∀ i ∈ I, i < L.length := by
      intro i hi
      obtain ⟨l, hl, _⟩ := (hpl.mem i).1 hi
      exact (List.getElem?_eq_some_iff.1 hl).1
    have hnd : I.Pairwise (fun i j => i ≠ j) := hpl.srt.imp (fun h e => by subst e; omega)
    have e13 := f13_L0_eq (F := 1000) (by omega) a0 hside (I.map (leafOf C L)) (by simp; omega) 0 (I.map (leafOf C L)) [] 1000 [] (by simp) (by simp; omega) (by
      intro x hx
      obtain ⟨i, hi, rfl⟩ := List.mem_map.1 hx
      have := hv i hi
      have h2 : i % C ≤ i := Nat.mod_le _ _
      have h3 : i / C ≤ i := Nat.div_le_self _ _
      simp only [leafOf]
      generalize i % C = qm at h2 ⊢
      generalize i / C = qd at h3 ⊢
      omega) (by simp; omega)
    have e15 := f15_L0_eq (F := 1000) (by omega) a0 hC hC8 L (by omega) hside X0 Y0 (X0 + 1) (Y0 + 1) C (lists L).g I hv (by omega) hnd I [] 1000 [] (by simp) (by omega) (by simp; omega)
    simp only [List.nil_append, List.length_nil, Int.natCast_zero] at e13 e15
    obtain ⟨R, hR⟩ : ∃ R, (I.map (leafOf C L)).map (fun x => posOf (I.map (leafOf C L)) (fun y => y.f0 == (tgt a0 x).1 && y.f1 == (tgt a0 x).2)) = R := ⟨_, rfl⟩
    have hR2 : I.map (fun i => posOf (I.map (leafOf C L)) (fun y => y.f0 == (tgt a0 (leafOf C L i)).1 && y.f1 == (tgt a0 (leafOf C L i)).2)) = R := by
      rw [← hR, List.map_map]; rfl
    have hRl : R.length ≤ 256 := by rw [← hR]; simp; omega
    rw [hR] at e13
    rw [hR2] at e15
    have h13 : f13 1000 a0 = some (R, 0) := by
      unfold f13
      rw [heta, h25, call_some]
      simp only
      rw [show ((0 : Int) != 0) = false from rfl, cond_false, e13]
      rfl
    have h15 : f15 1000 a0 = some R := by
      unfold f15
      rw [heta, h18, call_some, f27_eq 1000 a0 hl8, call_some]
      simp only [s47, shT]
      rw [h19, call_some, e15]
      rfl
    have h9 : ∃ l, f9 1000 a0 = some (l, 0) := by
      have e9 := f9_L0_eq (F := 1000) (by omega) a0 hC hC8 L (by omega) (lastSide a0) hside X0 Y0 (X0 + 1) (Y0 + 1) C (lists L).g I [] 1000 [] (by omega) hv (by simp; omega) (by simp; omega)
      have hbX := inv.bX
      have hbY := inv.bY
      have w1 : IntKind.i64.wrap (X0 + 1 - X0) = 1 := by rw [wrap_id (by omega)]; omega
      have w2 : IntKind.i64.wrap (Y0 + 1 - Y0) = 1 := by rw [wrap_id (by omega)]; omega
      unfold f9
      rw [heta, h12', call_some]
      rw [show ((0 : Int) != 0) = false from rfl, cond_false, h18, call_some, f27_eq 1000 a0 hl8]
      simp only [s47, shT, w1, w2, lett_eq]
      rw [show (bif ((1 : Int) != 1) then true else ((1 : Int) != 1)) = false from rfl, cond_false, call_some, h19, call_some]
      simp only [List.nil_append, List.length_nil, Int.natCast_zero] at e9
      rw [e9]
      exact ⟨_, rfl⟩
    obtain ⟨l9, h9⟩ := h9
    have h14 := f14_eq (F := 1000) R (by omega) (by omega)
    unfold f4
    rw [f7_eq, call_some, heta, h13, h9, h15]
    simp [call, h14]

end Go.Vm.FoldG
