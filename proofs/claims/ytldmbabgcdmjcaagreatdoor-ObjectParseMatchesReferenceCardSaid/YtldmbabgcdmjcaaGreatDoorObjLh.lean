/-
  TICKETS,PLAIN,part 4: the error of an object.
-/
import Derived.KernelRfl
import Derived.Test.YtldmbabgcdmjcaaGreatDoorObjLg
namespace Go.Vm.ObjM
theorem cH6 {F:Nat} (hF:4294967300≤F) (hF2:maxLen < F) {o:aG} (hs:Sm o):∃ e s,nK F o=some (s,e)∧nA F o=some (s,e)∧(e=0→OOk F o∧sz o≤4096):=by
 have h:=add_eq hF hF2 12 1 F o [] 0 (by omega) (by omega) hs (by omega) (by simp) (fun t ht=>by cases ht)
 change yG F (oO F o (1:Int) [] 0) (uZ F [] o (1:Int) (0:Int)) _ _ _ at h
 unfold nK nA
 rcases h with ⟨e,l',k',k'',h0,g1,g2⟩ | ⟨l',k',g1,g2,g3,g4,g5,g6,g7⟩
 ·have hne:(e != 0)=true:=by simpa using h0
  rw [g1,g2,aA,aA]
  simp only [hne,cond_true]
  exact ⟨e,_,rfl,rfl,fun h=>absurd h h0⟩
 ·rw [g1,g2,aA,aA]
  simp only [bne_self_eq_false,cond_false]
  unfold wJ
  simp only [List.length_nil] at g6
  have hj:=join_eq (F:=F) l' (l',0,(k':Int)) rfl g3 (by omega) l'.length 0 F [] (by omega) (by omega) (by simp)
  have e0:(decide (0 < 0) && vL (l'.getD (0 - 1) tk0))=false:=rfl
  rw [e0,Int.natCast_zero] at hj
  rcases hj with ⟨q1,q2⟩ | ⟨r,q0,q1,q2⟩
  ·rw [q1,q2]
   exact ⟨2,[],rfl,rfl,fun h=>by cases h⟩
  ·rw [q1,q2,aW,aW]
   have hck:r.length≤9223372036854775807:=by omega
   rw [aL hck]
   exact ⟨0,r,rfl,rfl,fun _=>⟨g7.1,by have:=g7.2; omega⟩⟩
set_option maxRecDepth 100000 in
theorem aU5 (n:Nat):lU (n+60)=some true:=by kernel_rfl
end Go.Vm.ObjM
