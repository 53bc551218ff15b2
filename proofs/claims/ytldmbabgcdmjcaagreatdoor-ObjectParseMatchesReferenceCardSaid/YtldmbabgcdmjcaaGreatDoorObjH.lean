import Derived.Recover
import Derived.WalkKit
import Derived.Test.YtldmbabgcdmjcaaGreatDoorVmD
import Derived.Test.YtldmbabgcdmjcaaGreatDoorProg
namespace Go.Vm.ObjM
open Go.Proofs Go.RowKit
set_option maxHeartbeats 1000000 in
set_option maxRecDepth 100000 in
theorem cW5 (cap:Array Value) (w:World) (h:cap.size=3):CallsD Tryz.prog 16 cap .returning w fun e u' w'=>u'=.returning∧(∃ v,e=.returned v)∧w'=w:=by
 refine callsD_of_wpS Tryz.func16 rfl fun c₀ cs hu=>?_
 obtain ⟨a,b,c,rfl⟩:∃ a b c,cap=#[a,b,c]:=by
  obtain ⟨l⟩:=cap
  match l,h with
  | [a,b,c],_=>exact ⟨a,b,c,rfl⟩
 apply wpS_seq
 apply wpS_region
 simp [wpOpsS,go_sem,recoverD,hu,Tryz.ntmps16,Exit.thenS]
 refine wpS_of_wp ?_
 go_wp2
 exact ⟨rfl,.returning,by rw [← hu],.tuple #[],results_none rfl _ _ _,rfl,⟨_,rfl⟩,rfl⟩
end Go.Vm.ObjM
