/-
  BINDERY,PLAIN,part 7: the law of folded leaves.
-/
import Derived.Test.YteidenpelbooeaaBinLn
namespace Go.Vm.BinG
theorem pg_ok {C R:Nat} {L:List Lf} {I:List Nat} {turn:Int} (hC:1≤C∧C≤8) (ht:0≤turn∧turn≤3) (hI:I.Perm (List.range (R * C))) {P:S_FoldPage} (hP:P∈(I.map (leafOf C L)).flatMap (pgs C turn)) :
    ∃ T col row,PgOk C R (turn.tmod 2 == 1) P T col row:=by
  obtain ⟨x,hx,hP⟩:=List.mem_flatMap.1 hP
  obtain ⟨i,hi,rfl⟩:=List.mem_map.1 hx
  have hi2:i < R * C:=by simpa using hI.mem_iff.1 hi
  have hm:i % C < C:=Nat.mod_lt _ (by omega)
  have hd:i / C < R:=by rw [Nat.div_lt_iff_lt_mul (by omega)]; exact hi2
  have key:∀ back half,∃ T col row,PgOk C R (turn.tmod 2 == 1) (pg C turn (leafOf C L i) back half) T col row:=by
    intro back half
    obtain ⟨t,rfl⟩:∃ t:Nat,turn=t:=⟨turn.toNat,by omega⟩
    have ht4:t=0∨t=1∨t=2∨t=3:=by omega
    refine ⟨bif half then (t+2) % 4 else t,bif back then C - 1 - i % C else i % C,i / C,?_,?_,?_,?_,?_,rfl,hd⟩
    · rcases ht4 with rfl | rfl | rfl | rfl <;> cases half <;> rfl
    · rcases ht4 with rfl | rfl | rfl | rfl <;> cases half <;> decide
    · rw [tmod_par]
      rcases ht4 with rfl | rfl | rfl | rfl <;> cases half <;> rfl
    · cases back
      · rfl
      · simp only [pg,leafOf,cond_true]
        omega
    · cases back
      · exact hm
      · simp only [cond_true]; omega
  simp only [pgs,List.mem_cons,List.not_mem_nil,or_false] at hP
  rcases hP with rfl | rfl
  · exact key _ _
  · exact key _ _
end Go.Vm.BinG
