/-
  BINDERY,PLAIN,part 3: sheets are cut and folded.
-/
import Derived.Test.YteidenpelbooeaaBinLj
namespace Go.Vm.BinG
theorem bne_of_ne {x y:Int} (h:x≠y):(x != y)=true:=by simpa using h
def pg0:S_FoldPage:=S_FoldPage.mk false 0 0 0
def pl0:S_Plate:=S_Plate.mk 0 0 []
/-- The sizes that a layout gives. -/
theorem frame_eq {F:Nat} (l:S_ImposeLayout) {PG:List S_FoldPage} (hpos:0 < PG.length) (h8:fold_Pages F l.f0=some (PG,0)) (h9:ref3_Read F l.f0=some (PG,0)) :
    ∃ lw lh:Int,ref3_leafSize F l=some (lw,lh) ∧
      (lw,lh)=(if (PG.getD 0 pg0).f3.tmod 2=1 then (IntKind.i64.wrap (l.f2+IntKind.i64.wrap (2 * l.f3)),IntKind.i64.wrap (IntKind.i64.wrap (l.f1+l.f4)+l.f5)) else (IntKind.i64.wrap (IntKind.i64.wrap (l.f1+l.f4)+l.f5),IntKind.i64.wrap (l.f2+IntKind.i64.wrap (2 * l.f3)))) ∧
      ref3_SingleSize F l=some (IntKind.i64.wrap (IntKind.i64.wrap (l.f0.f0 * lw)+IntKind.i64.wrap (2 * l.f6)),IntKind.i64.wrap (IntKind.i64.wrap (l.f0.f1 * lh)+IntKind.i64.wrap (2 * l.f6))) ∧
      bindery_frameOf F l=some ⟨IntKind.i64.wrap (IntKind.i64.wrap (l.f1+l.f4)+l.f5),IntKind.i64.wrap (l.f2+IntKind.i64.wrap (2 * l.f3)),IntKind.i64.wrap (IntKind.i64.wrap (l.f0.f0 * lw)+IntKind.i64.wrap (2 * l.f6)),IntKind.i64.wrap (IntKind.i64.wrap (l.f0.f1 * lh)+IntKind.i64.wrap (2 * l.f6))⟩:=by
  have hc:(0:Int)≤(0:Int)∧(0:Int) < PG.length:=by omega
  have hp:PG.getD (0:Int).toNat (S_FoldPage.mk false 0 0 0)=PG.getD 0 pg0:=rfl
  have key:∃ lw lh:Int,ref3_leafSize F l=some (lw,lh) ∧
      (lw,lh)=(if (PG.getD 0 pg0).f3.tmod 2=1 then (IntKind.i64.wrap (l.f2+IntKind.i64.wrap (2 * l.f3)),IntKind.i64.wrap (IntKind.i64.wrap (l.f1+l.f4)+l.f5)) else (IntKind.i64.wrap (IntKind.i64.wrap (l.f1+l.f4)+l.f5),IntKind.i64.wrap (l.f2+IntKind.i64.wrap (2 * l.f3)))) ∧
      bindery_frameOf F l=some ⟨IntKind.i64.wrap (IntKind.i64.wrap (l.f1+l.f4)+l.f5),IntKind.i64.wrap (l.f2+IntKind.i64.wrap (2 * l.f3)),IntKind.i64.wrap (IntKind.i64.wrap (l.f0.f0 * lw)+IntKind.i64.wrap (2 * l.f6)),IntKind.i64.wrap (IntKind.i64.wrap (l.f0.f1 * lh)+IntKind.i64.wrap (2 * l.f6))⟩:=by
    unfold ref3_leafSize bindery_frameOf
    rw [h8,h9]
    simp only [call_some]
    rw [chk_pos hc,hp]
    by_cases ht:(PG.getD 0 pg0).f3.tmod 2=1
    · rw [ht,beq_self_eq_true,cond_true]
      refine ⟨_,_,rfl,by rw [if_pos rfl],?_⟩
      simp only [call_some]
      rw [Int.add_comm (IntKind.i64.wrap (2 * l.f6)),Int.add_comm (IntKind.i64.wrap (2 * l.f6))]
    · rw [beq_false_of_ne ht,cond_false]
      refine ⟨_,_,rfl,by rw [if_neg ht],?_⟩
      simp only [call_some]
      rw [Int.add_comm (IntKind.i64.wrap (2 * l.f6)),Int.add_comm (IntKind.i64.wrap (2 * l.f6))]
  obtain ⟨lw,lh,h1,h2,h3⟩:=key
  refine ⟨lw,lh,h1,h2,?_,h3⟩
  unfold ref3_SingleSize
  rw [h1,call_some]
end Go.Vm.BinG
