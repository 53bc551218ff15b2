/-
  FOLD, PLAIN, part 7: the piles.
-/
import Derived.KernelRfl
import Derived.Test.YtnjggcljonbleaaFoldLaw6
namespace Go.Vm.FoldG

theorem f7_eq : f7 1000 = some true := by kernel_rfl

theorem f20_eq (F : Nat) (L : List Lf) (i : Nat) (hi : i < L.length) (hl : L.length ≤ 1000) {C : Nat} (hC : 1 ≤ C) (X0 Y0 X1 Y1 : Int) (g : List Int) :
    f20 F i (lists L).a (lists L).b (lists L).c (lists L).d (lists L).e (lists L).f g X0 Y0 X1 Y1 C = some (leafOf C L i, (lists L).a, (lists L).b, (lists L).c, (lists L).d, (lists L).e, (lists L).f, g, X0, Y0, X1, Y1, (C : Int)) := by
  have hget : L[i]? = some (lf L i) := by
    unfold lf
    rw [List.getElem?_eq_getElem hi]; rfl
  have ga : (L.map Lf.ax).getD i 0 = (lf L i).x + pB (lf L i).fx := getD_map L Lf.ax i _ hget
  have gb : (L.map Lf.ay).getD i 0 = (lf L i).y + pB (lf L i).fy := getD_map L Lf.ay i _ hget
  have gc : (L.map Lf.bx).getD i 0 = (lf L i).x + pB (!(lf L i).fx) := getD_map L Lf.bx i _ hget
  have gf : (L.map Lf.cy).getD i 0 = (lf L i).y + pB (!(lf L i).fy) := getD_map L Lf.cy i _ hget
  have e1 : decide ((lf L i).x + pB (!(lf L i).fx) < (lf L i).x + pB (lf L i).fx) = (lf L i).fx := by
    cases (lf L i).fx <;> simp [pB] <;> omega
  have e2 : decide ((lf L i).y + pB (!(lf L i).fy) < (lf L i).y + pB (lf L i).fy) = (lf L i).fy := by
    cases (lf L i).fy <;> simp [pB] <;> omega
  have em : (i : Int).tmod (C : Int) = ((i % C : Nat) : Int) := rfl
  have ed : (i : Int).tdiv (C : Int) = ((i / C : Nat) : Int) := rfl
  have hd : i / C ≤ i := Nat.div_le_self _ _
  have hwq : IntKind.i64.wrap ((i / C : Nat) : Int) = ((i / C : Nat) : Int) := by
    generalize i / C = q at hd ⊢
    exact wrap_id (by omega)
  unfold f20
  simp only [lists, List.length_map, Int.toNat_natCast, ga, gb, gc, gf, e1, e2, em, ed]
  rw [hwq]
  rw [chk_pos (by omega), chk_pos (by omega), chk_pos (by omega), chk_pos (by omega), chk_pos (by omega), chk_pos (by omega)]
  rfl

theorem getD_leaf (C : Nat) (L : List Lf) (I : List Nat) (j : Nat) (d : S50) (hj : j < I.length) : (I.map (leafOf C L)).getD j d = leafOf C L (I.getD j 0) := by
  rw [List.getD_eq_getElem?_getD, List.getD_eq_getElem?_getD, List.getElem?_map, List.getElem?_eq_getElem hj]
  rfl
theorem getD_cast (I : List Nat) (j : Nat) (hj : j < I.length) : (I.map (fun j : Nat => (j : Int))).getD j 0 = ((I.getD j 0 : Nat) : Int) := by
  rw [List.getD_eq_getElem?_getD, List.getD_eq_getElem?_getD, List.getElem?_map, List.getElem?_eq_getElem hj]
  rfl

theorem f5_L0_eq (F : Nat) (C : Nat) (hC : 1 ≤ C) (L : List Lf) (hl : L.length ≤ 1000) (I : List Nat) (hI : ∀ i ∈ I, i < L.length) (hIl : I.length ≤ 1000) (e : Int) (X0 Y0 X1 Y1 : Int) :
    ∀ (m j n : Nat), j + m = I.length → m < n →
      f5_L0 F (I.map (leafOf C L), e) (I.map (fun j : Nat => (j : Int)), (lists L).a, (lists L).b, (lists L).c, (lists L).d, (lists L).e, (lists L).f, (lists L).g, X0, Y0, X1, Y1, (C : Int)) n
        (lists L).a (lists L).b (lists L).c (lists L).d (lists L).e (lists L).f (lists L).g X0 Y0 X1 Y1 C j = some (.go ()) := by
  intro m
  induction m with
  | zero =>
    intro j n h hn
    obtain ⟨n, rfl⟩ : ∃ k, n = k + 1 := ⟨n - 1, by omega⟩
    have hd : decide ((j : Int) < ((I.map (fun j : Nat => (j : Int))).length : Int)) = false := by simp; omega
    rw [f5_L0]
    simp only [hd, cond_false]
  | succ m ih =>
    intro j n h hn
    obtain ⟨n, rfl⟩ : ∃ k, n = k + 1 := ⟨n - 1, by omega⟩
    have hd : decide ((j : Int) < ((I.map (fun j : Nat => (j : Int))).length : Int)) = true := by simp; omega
    have hw : IntKind.i64.wrap ((j : Int) + 1) = ((j + 1 : Nat) : Int) := by rw [wrap_id (by omega)]; omega
    have hj : j < I.length := by omega
    have hil : I.getD j 0 < L.length := hI _ (by
      rw [List.getD_eq_getElem?_getD, List.getElem?_eq_getElem hj]
      exact List.getElem_mem hj)
    rw [f5_L0]
    simp only [hd, cond_true, Int.toNat_natCast, getD_leaf C L I j _ hj, getD_cast I j hj, hw, f20_eq F L _ hil hl hC, call_some, lett_eq]
    rw [chk_pos (by simp; omega), chk_pos (by simp; omega)]
    simp only [beq_self_eq_true, Bool.and_self, Bool.not_true, cond_false]
    exact ih (j + 1) n (by omega) (by omega)

theorem law5 (a0 : S23) (a1 a2 a3 : Int) : f5 1000 a0 a1 a2 a3 = some true := by
  have heta : S23.mk a0.f0 a0.f1 a0.f2 = a0 := rfl
  obtain ⟨e, h11, h12, herr, hok⟩ := both (F := 1000) (by omega) a0
  unfold f5
  rw [f7_eq, call_some]
  simp only [Bool.not_true, cond_false]
  rw [heta, h12]
  by_cases he : e = 0
  · subst he
    obtain ⟨hl8, C, R, hC, hR, hC8, hR8, hout, hside, hall⟩ := hok rfl
    by_cases ha1 : a1 < 0 ∨ a1 > a0.f2.length
    · have h35 := hout a1 ha1
      have e16 : f16 1000 a0 a1 = some (0, 0, 3) := by
        unfold f16
        rw [heta, h35]; rfl
      have e17 : f17 1000 a0 a1 a2 a3 = some ([], 3) := by
        unfold f17
        rw [heta, h35]; rfl
      have eo : (bif decide (a1 < 0) then true else decide (a1 > (a0.f2.length : Int))) = true := by
        rw [orB]; simp; omega
      rw [e16, e17]
      simp only [call_some]
      rw [show ((0 : Int) != 0) = false from rfl, cond_false, eo]
      rfl
    · obtain ⟨k, rfl⟩ := Int.eq_ofNat_of_zero_le (show 0 ≤ a1 by omega)
      obtain ⟨t, u, h35, h18, hrel⟩ := hall k (by omega)
      obtain ⟨cols, rows, G, L, X0, Y0, rfl, rfl, inv⟩ := hrel
      have hpw := pow_le (k := k) (by omega)
      have hbX := inv.bX
      have hbY := inv.bY
      have hcc := inv.hc
      have hrr := inv.hr
      have hN := inv.hN
      have hlen := inv.len
      have eo : (bif decide ((k : Int) < 0) then true else decide ((k : Int) > (a0.f2.length : Int))) = false := by
        rw [orB]; simp; omega
      have e16 : f16 1000 a0 k = some ((cols : Int), (rows : Int), 0) := by
        unfold f16
        rw [heta, h35]; rfl
      have w1 : IntKind.i64.wrap (X0 + cols - X0) = cols := by rw [wrap_id (by omega)]; omega
      have w2 : IntKind.i64.wrap (Y0 + rows - Y0) = rows := by rw [wrap_id (by omega)]; omega
      have e5 : (bif bif ((0 : Int) != 0) then true else ((cols : Int) != IntKind.i64.wrap (X0 + cols - X0)) then true else ((rows : Int) != IntKind.i64.wrap (Y0 + rows - Y0))) = false := by
        rw [w1, w2]; simp
      by_cases hin : 0 ≤ a2 ∧ 0 ≤ a3 ∧ a2 < cols ∧ a3 < rows
      · obtain ⟨c, rfl⟩ := Int.eq_ofNat_of_zero_le hin.1
        obtain ⟨r, rfl⟩ := Int.eq_ofNat_of_zero_le hin.2.1
        have hc : c < cols := by omega
        have hr : r < rows := by omega
        have eb : (bif (bif (bif decide ((c : Int) < 0) then true else decide ((r : Int) < 0)) then true else decide ((c : Int) ≥ (cols : Int))) then true else decide ((r : Int) ≥ (rows : Int))) = false := by
          simp only [orB]; simp; omega
        obtain ⟨I, _, hp⟩ := inv.pile c r hc hr
        have hlg := inv.bG c r hc hr
        have hpi : pileI cols rows G c r = G c r := by
          unfold pileI
          rw [if_pos (by omega)]
          simp
        have e17 : f17 1000 a0 k c r = some (G c r, 0) := by
          unfold f17
          rw [heta, h35]
          simp only [call_some]
          rw [show ((0 : Int) != 0) = false from rfl, cond_false]
          have : S65.mk (mk cols rows G).f0 (mk cols rows G).f1 (mk cols rows G).f2 = mk cols rows G := rfl
          rw [this, f37_eq 1000 hcc.2 hrr.2 G c r, hpi]
          simp only [lett_eq, call_some]
          have eb' : (bif (bif (bif decide ((c : Int) < 0) then true else decide ((r : Int) < 0)) then true else decide ((c : Int) ≥ (mk cols rows G).f0)) then true else decide ((r : Int) ≥ (mk cols rows G).f1)) = false := eb
          rw [eb', cond_false]
          have e36 : f36 1000 (G c r) = some (G c r) := by
            unfold f36
            rw [chk_pos (by simp; omega)]; rfl
          rw [e36]; rfl
        have hv : ∀ i ∈ I, i < L.length := by
          intro i hi
          obtain ⟨l, hl, _⟩ := (hp.mem i).1 hi
          exact (List.getElem?_eq_some_iff.1 hl).1
        have hIl : I.length ≤ 256 := by
          have := congrArg List.length hp.g
          simp at this
          omega
        have e19 := f19_eq (F := 1000) (by omega) inv hpw.1 c r hc hr (X0 + cols) (Y0 + rows) C hp
        rw [e16, e17, h18]
        simp only [call_some]
        rw [show ((0 : Int) != 0) = false from rfl, cond_false, eo, cond_false]
        simp only [lett_eq, s47, shT]
        rw [show (bif bif false then true else ((cols : Int) != IntKind.i64.wrap (X0 + cols - X0)) then true else ((rows : Int) != IntKind.i64.wrap (Y0 + rows - Y0))) = false from e5, cond_false, eb, cond_false, e19, call_some]
        have hll : ((G c r).length : Int) = ((I.map (fun j : Nat => (j : Int))).length : Int) := by rw [hp.g]; simp
        simp only
        rw [hll]
        have hne : (((I.map (fun j : Nat => (j : Int))).length : Int) != ((I.map (fun j : Nat => (j : Int))).length : Int)) = false := by simp
        rw [hne]
        simp only [cond_false]
        have e5 := f5_L0_eq 1000 C (by omega) L (by omega) I hv (by omega) 0 X0 Y0 (X0 + cols) (Y0 + rows) I.length 0 1000 (by omega) (by omega)
        rw [hp.g]
        rw [show (0 : Int) = ((0 : Nat) : Int) from rfl] at e5 ⊢
        rw [e5]
        rfl
      · have eb : (bif (bif (bif decide (a2 < 0) then true else decide (a3 < 0)) then true else decide (a2 ≥ (cols : Int))) then true else decide (a3 ≥ (rows : Int))) = true := by
          simp only [orB]
          simp
          omega
        have e17 : f17 1000 a0 k a2 a3 = some ([], 3) := by
          unfold f17
          rw [heta, h35]
          simp only [call_some]
          rw [show ((0 : Int) != 0) = false from rfl, cond_false]
          simp only [lett_eq]
          have eb' : (bif (bif (bif decide (a2 < 0) then true else decide (a3 < 0)) then true else decide (a2 ≥ (mk cols rows G).f0)) then true else decide (a3 ≥ (mk cols rows G).f1)) = true := eb
          rw [eb', cond_true]
        rw [e16, e17, h18]
        simp only [call_some]
        rw [show ((0 : Int) != 0) = false from rfl, cond_false, eo, cond_false]
        simp only [lett_eq, s47, shT]
        rw [show (bif bif false then true else ((cols : Int) != IntKind.i64.wrap (X0 + cols - X0)) then true else ((rows : Int) != IntKind.i64.wrap (Y0 + rows - Y0))) = false from e5, cond_false, eb, cond_true]
        rfl
  · have h35 := herr he a1
    have hne : (e != (0 : Int)) = true := by simpa using he
    have e16 : f16 1000 a0 a1 = some (0, 0, e) := by
      unfold f16
      rw [heta, h35]; rfl
    have e17 : f17 1000 a0 a1 a2 a3 = some ([], e) := by
      unfold f17
      rw [heta, h35, call_some]
      simp only [hne, cond_true]
    rw [e16, e17]
    simp only [call_some, hne, cond_true, lett_eq]
    simp

end Go.Vm.FoldG
