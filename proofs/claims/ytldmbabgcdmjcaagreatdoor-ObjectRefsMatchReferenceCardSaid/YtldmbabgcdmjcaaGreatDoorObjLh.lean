/-
  TICKETS,PLAIN,part 4: the error of an object.
-/
import Derived.KernelRfl
import Derived.Test.YtldmbabgcdmjcaaGreatDoorObjLg
namespace Go.Vm.ObjG
theorem print_eq {F:Nat} (hF:4294967300≤F) (hF2:maxLen < F) {o:S_Object} (hs:Sm o):∃ e s,object_Print F o=some (s,e)∧ref3_Shown F o=some (s,e)∧(e=0→OOk F o∧sz o≤4096):=by
  have h:=add_eq hF hF2 12 1 F o [] 0 (by omega) (by omega) hs (by omega) (by simp) (fun t ht=>by cases ht)
  change Same2 F (object_printer_add F o (1:Int) [] 0) (ref3_tokensOf F [] o (1:Int) (0:Int)) _ _ _ at h
  unfold object_Print ref3_Shown
  rcases h with ⟨e,l',k',k'',h0,g1,g2⟩ | ⟨l',k',g1,g2,g3,g4,g5,g6,g7⟩
  · have hne:(e != 0)=true:=by simpa using h0
    rw [g1,g2,call_some,call_some]
    simp only [hne,cond_true]
    exact ⟨e,_,rfl,rfl,fun h=>absurd h h0⟩
  · rw [g1,g2,call_some,call_some]
    simp only [bne_self_eq_false,cond_false]
    unfold token_Join
    simp only [List.length_nil] at g6
    have hj:=join_eq (F:=F) l' (l',0,(k':Int)) rfl g3 (by omega) l'.length 0 F [] (by omega) (by omega) (by simp)
    have e0:(decide (0 < 0) && lastR (l'.getD (0 - 1) tk0))=false:=rfl
    rw [e0,Int.natCast_zero] at hj
    rcases hj with ⟨q1,q2⟩ | ⟨r,q0,q1,q2⟩
    · rw [q1,q2]
      exact ⟨2,[],rfl,rfl,fun h=>by cases h⟩
    · rw [q1,q2,callE_go,callE_go]
      have hck:r.length≤9223372036854775807:=by omega
      rw [chk_pos hck]
      exact ⟨0,r,rfl,rfl,fun _=>⟨g7.1,by have:=g7.2; omega⟩⟩
set_option maxRecDepth 100000 in
theorem objectFact_eq (n:Nat):law3_objectFact (n+60)=some true:=by kernel_rfl
end Go.Vm.ObjG
