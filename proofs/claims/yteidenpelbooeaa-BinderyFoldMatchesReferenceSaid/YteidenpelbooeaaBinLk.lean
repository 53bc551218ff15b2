/-
  BINDERY,PLAIN,part 3: sheets are cut and folded.
-/
import Derived.Test.YteidenpelbooeaaBinLj
namespace Go.Vm.BinG
theorem bne_of_ne {x y : Int} (h : x ≠ y) : (x != y) = true := by simpa using h
def pg0 : S_FoldPage := S_FoldPage.mk false 0 0 0
def pl0 : S_Plate := S_Plate.mk 0 0 []
/-- The face of a page. -/
def face (F : Nat) (s : S_BinderySheet) (l : S_ImposeLayout) (f : S_bindery_frame) (P : S_FoldPage) : Option S_Plate :=
  bindery_part F (bif P.f0 then s.f1 else s.f0) (IntKind.i64.wrap (l.f6 + IntKind.i64.wrap (P.f1 * (bif P.f3.tmod 2 == 1 then f.f1 else f.f0)))) (IntKind.i64.wrap (l.f6 + IntKind.i64.wrap (P.f2 * (bif P.f3.tmod 2 == 1 then f.f0 else f.f1))))
    (bif P.f3.tmod 2 == 1 then f.f1 else f.f0) (bif P.f3.tmod 2 == 1 then f.f0 else f.f1) (IntKind.i64.wrap (4 - P.f3))
theorem two_get {PG : List S_FoldPage} {i k : Nat} (hk : k < 2) (hi : i + 2 ≤ PG.length) : ((PG.drop i).take 2).getD k pg0 = PG.getD (i + k) pg0 := by
  have h1 : i + k < PG.length := by omega
  simp [List.getD_eq_getElem?_getD,hk]
theorem L2_step (F n : Nat) (s : S_BinderySheet) (l : S_ImposeLayout) (f : S_bindery_frame) (PG : List S_FoldPage) (er : Int) {i k : Nat} (hi : i + 2 ≤ PG.length) (hi2 : PG.length ≤ 1000) (hk : k < 2) {acc : List S_Plate} (hacc : acc.length = 2) :
    bindery_Fold_L2 F s l f (PG,er) i 2 (n + 1) acc k = call (face F s l f (PG.getD (i + k) pg0)) fun y => bindery_Fold_L2 F s l f (PG,er) i 2 n (acc.set k y) ((k + 1 : Nat) : Int) := by
  have hw : (IntKind.i64.wrap ((i : Int) + 2)).toNat - i = 2 := by rw [wrap_id (by omega)]; omega
  have hl : ((PG.drop i).take 2).length = 2 := by simp; omega
  rw [bindery_Fold_L2]
  simp only [Int.toNat_natCast,hw,lett_eq]
  rw [show decide ((k : Int) < 2) = true from decide_eq_true (by omega),cond_true,hl,chk_pos (by omega)]
  have hg : ((PG.drop i).take 2).getD k (S_FoldPage.mk false 0 0 0) = PG.getD (i + k) pg0 := two_get hk hi
  rw [hg]
  unfold face
  have hkk : (0 ≤ (k : Int) ∧ (k : Int) < 2) ∧ (k : Int) < acc.length := by rw [hacc]; omega
  simp only [wrap_succ (show k < 9223372036854775807 by omega),chk_pos hkk]
  cases (PG.getD (i + k) pg0).f0 <;> cases ((PG.getD (i + k) pg0).f3.tmod 2 == 1) <;> rfl
theorem L0_step {F n : Nat} (hF : 10 < F) (s : S_BinderySheet) (l : S_ImposeLayout) (f : S_bindery_frame) (PG : List S_FoldPage) (er : Int) {i : Nat} (hi : i + 2 ≤ PG.length) (hi2 : PG.length ≤ 1000) {acc : List S_BinderyLeaf} (hacc : acc.length ≤ 1000) :
    bindery_Fold_L0 F s l f (PG,er) (n + 1) acc i = call (face F s l f (PG.getD i pg0)) fun u => call (face F s l f (PG.getD (i + 1) pg0)) fun d => bindery_Fold_L0 F s l f (PG,er) n (acc ++ [⟨u,d⟩]) ((i + 2 : Nat) : Int) := by
  obtain ⟨m,rfl⟩ : ∃ m,F = m + 3 := ⟨F - 3,by omega⟩
  have hw : IntKind.i64.wrap ((i : Int) + 2) = ((i + 2 : Nat) : Int) := by rw [wrap_id (by omega)]; omega
  have hl : ((((PG.drop i).take ((((i + 2 : Nat) : Int)).toNat - ((i : Int)).toNat)).length : Nat) : Int) = 2 := by
    have : (((i + 2 : Nat) : Int)).toNat - ((i : Int)).toNat = 2 := by omega
    rw [this]
    simp
    omega
  rw [bindery_Fold_L0]
  simp only [hw]
  rw [show decide ((i : Int) < (PG.length : Int)) = true from decide_eq_true (by omega),cond_true,chk_pos (by omega),lett_eq]
  simp only [Int.toNat_natCast] at hl ⊢
  rw [hl]
  have e2 : ∀ acc : List S_Plate,bindery_Fold_L2 (m + 3) s l f (PG,er) i 2 (m + 1) acc 2 = some acc := by
    intro acc
    rw [bindery_Fold_L2,show decide ((2 : Int) < 2) = false from rfl,cond_false]
  have e0 := L2_step (m + 3) (m + 2) s l f PG er hi hi2 (k := 0) (by omega) (acc := [pl0,pl0]) rfl
  have e1 := fun u d : S_Plate => L2_step (m + 3) (m + 1) s l f PG er hi hi2 (k := 1) (by omega) (acc := [u,d]) rfl
  have ha : (List.replicate 2 (S_Plate.mk 0 0 [])) = [pl0,pl0] := rfl
  rw [ha]
  rw [show (0 : Int) = ((0 : Nat) : Int) from rfl,e0,Nat.add_zero]
  cases hu : face (m + 3) s l f (PG.getD i pg0) with
  | none => rfl
  | some u =>
    simp only [call_some,List.set_cons_zero,Nat.zero_add]
    rw [e1]
    cases hd : face (m + 3) s l f (PG.getD (i + 1) pg0) with
    | none => rfl
    | some d =>
      simp only [call_some,List.set_cons_succ,List.set_cons_zero]
      rw [show (((1 + 1 : Nat) : Int)) = 2 from rfl,e2,call_some]
      rw [chk_pos ⟨⟨by decide,by decide⟩,by simp⟩,chk_pos ⟨⟨by decide,by decide⟩,by simp⟩,chk_pos (by simp; omega),lett_eq]
      rfl
/-- Folding,where every face can be made. -/
theorem L0_all {F : Nat} (hF : 10 < F) (s : S_BinderySheet) (l : S_ImposeLayout) (f : S_bindery_frame) (PG : List S_FoldPage) (er : Int) (hi2 : PG.length ≤ 1000) (g : Nat → S_Plate) (hg : ∀ i,i < PG.length → face F s l f (PG.getD i pg0) = some (g i)) :
    ∀ (m i n : Nat) (acc : List S_BinderyLeaf),i + 2 * m = PG.length → m < n → acc.length + m ≤ 1000 →
      bindery_Fold_L0 F s l f (PG,er) n acc i = some (acc ++ (List.range m).map fun j => ⟨g (i + 2 * j),g (i + 2 * j + 1)⟩) := by
  intro m
  induction m with
  | zero =>
    intro i n acc h hn _
    obtain ⟨n,rfl⟩ : ∃ k,n = k + 1 := ⟨n - 1,by omega⟩
    rw [bindery_Fold_L0,show decide ((i : Int) < (PG.length : Int)) = false from decide_eq_false (by omega),cond_false]
    simp
  | succ m ih =>
    intro i n acc h hn ha
    obtain ⟨n,rfl⟩ : ∃ k,n = k + 1 := ⟨n - 1,by omega⟩
    rw [L0_step hF s l f PG er (by omega) hi2 (by omega),hg i (by omega),call_some,hg (i + 1) (by omega),call_some]
    refine (ih (i + 2) n _ (by omega) (by omega) (by simp; omega)).trans ?_
    rw [List.range_succ_eq_map]
    simp only [List.map_cons,List.map_map,List.append_assoc,List.singleton_append,Nat.mul_zero,Nat.add_zero,Option.some.injEq,List.append_cancel_left_eq,List.cons.injEq,true_and]
    apply List.map_congr_left
    intro j _
    simp only [Function.comp]
    congr 2 <;> omega
/-- The sizes that a layout gives. -/
theorem frame_eq {F : Nat} (l : S_ImposeLayout) {PG : List S_FoldPage} (hpos : 0 < PG.length) (h8 : fold_Pages F l.f0 = some (PG,0)) (h9 : ref3_Read F l.f0 = some (PG,0)) :
    ∃ lw lh : Int,ref3_leafSize F l = some (lw,lh) ∧
      (lw,lh) = (if (PG.getD 0 pg0).f3.tmod 2 = 1 then (IntKind.i64.wrap (l.f2 + IntKind.i64.wrap (2 * l.f3)),IntKind.i64.wrap (IntKind.i64.wrap (l.f1 + l.f4) + l.f5)) else (IntKind.i64.wrap (IntKind.i64.wrap (l.f1 + l.f4) + l.f5),IntKind.i64.wrap (l.f2 + IntKind.i64.wrap (2 * l.f3)))) ∧
      ref3_SingleSize F l = some (IntKind.i64.wrap (IntKind.i64.wrap (l.f0.f0 * lw) + IntKind.i64.wrap (2 * l.f6)),IntKind.i64.wrap (IntKind.i64.wrap (l.f0.f1 * lh) + IntKind.i64.wrap (2 * l.f6))) ∧
      bindery_frameOf F l = some ⟨IntKind.i64.wrap (IntKind.i64.wrap (l.f1 + l.f4) + l.f5),IntKind.i64.wrap (l.f2 + IntKind.i64.wrap (2 * l.f3)),IntKind.i64.wrap (IntKind.i64.wrap (l.f0.f0 * lw) + IntKind.i64.wrap (2 * l.f6)),IntKind.i64.wrap (IntKind.i64.wrap (l.f0.f1 * lh) + IntKind.i64.wrap (2 * l.f6))⟩ := by
  have hc : (0 : Int) ≤ (0 : Int) ∧ (0 : Int) < PG.length := by omega
  have hp : PG.getD (0 : Int).toNat (S_FoldPage.mk false 0 0 0) = PG.getD 0 pg0 := rfl
  have key : ∃ lw lh : Int,ref3_leafSize F l = some (lw,lh) ∧
      (lw,lh) = (if (PG.getD 0 pg0).f3.tmod 2 = 1 then (IntKind.i64.wrap (l.f2 + IntKind.i64.wrap (2 * l.f3)),IntKind.i64.wrap (IntKind.i64.wrap (l.f1 + l.f4) + l.f5)) else (IntKind.i64.wrap (IntKind.i64.wrap (l.f1 + l.f4) + l.f5),IntKind.i64.wrap (l.f2 + IntKind.i64.wrap (2 * l.f3)))) ∧
      bindery_frameOf F l = some ⟨IntKind.i64.wrap (IntKind.i64.wrap (l.f1 + l.f4) + l.f5),IntKind.i64.wrap (l.f2 + IntKind.i64.wrap (2 * l.f3)),IntKind.i64.wrap (IntKind.i64.wrap (l.f0.f0 * lw) + IntKind.i64.wrap (2 * l.f6)),IntKind.i64.wrap (IntKind.i64.wrap (l.f0.f1 * lh) + IntKind.i64.wrap (2 * l.f6))⟩ := by
    unfold ref3_leafSize bindery_frameOf
    rw [h8,h9]
    simp only [call_some]
    rw [chk_pos hc,hp]
    by_cases ht : (PG.getD 0 pg0).f3.tmod 2 = 1
    · rw [ht,beq_self_eq_true,cond_true]
      refine ⟨_,_,rfl,by rw [if_pos rfl],?_⟩
      simp only [call_some]
      rw [Int.add_comm (IntKind.i64.wrap (2 * l.f6)),Int.add_comm (IntKind.i64.wrap (2 * l.f6))]
    · rw [beq_false_of_ne ht,cond_false]
      refine ⟨_,_,rfl,by rw [if_neg ht],?_⟩
      simp only [call_some]
      rw [Int.add_comm (IntKind.i64.wrap (2 * l.f6)),Int.add_comm (IntKind.i64.wrap (2 * l.f6))]
  obtain ⟨lw,lh,h1,h2,h3⟩ := key
  refine ⟨lw,lh,h1,h2,?_,h3⟩
  unfold ref3_SingleSize
  rw [h1,call_some]
end Go.Vm.BinG
