import Derived.Test.YtflaiaeofndgmaaDoorArcWi
namespace Go.Vm.ArcG
open Go.Proofs
set_option maxRecDepth 20000
/-- printworks/printworkslaw3.archiveFact -/
def law3_archiveFact (F:Nat):Option Bool:=some true
theorem law3_archiveFact_ok {F:Nat} {r:Bool} (h:law3_archiveFact F=some r):ACall Tryd.prog 4 [] [.glo 0 (glob_filter_steps.flatMap (cI .u32))] (.d (.v (.bool r))) [.glo 0 (glob_filter_steps.flatMap (cI .u32))]:=by
  obtain hs:=Option.some.inj h; subst hs
  exact fact_ok
/-- printworks/printworkslaw3.ArchiveCutsMatchReference -/
def law3_ArchiveCutsMatchReference (F:Nat) (a0:List UInt8):Option Bool :=
  call (law3_archiveFact F) fun y1 =>
  bif (!y1) then
    some false
  else
    call (archive_Cuts F a0) fun y2 =>
    bif (decide ((a0.length:Int) > (16384:Int))) then
      some (bif (y2.2 == (2:Int)) then ((y2.1.length:Int) == (0:Int)) else false)
    else
      call ((bif (((y2.2 == (0:Int)) == true) && true) then ref3_Windows F a0 else some [])) fun y3 =>
      call ((bif (((y2.2 == (0:Int)) == true) && true) then slices_Equal_int F y2.1 y3 else some false)) fun y4 =>
      some (bif (y2.2 == (0:Int)) then y4 else false)
theorem law3_ArchiveCutsMatchReference_ok {F:Nat} {a0:List UInt8} {r:Bool} (h:law3_ArchiveCutsMatchReference F a0=some r):ACall Tryd.prog 3 [.d (.str a0)] [.glo 0 (glob_filter_steps.flatMap (cI .u32))] (.d (.v (.bool r))) [.glo 0 (glob_filter_steps.flatMap (cI .u32))]:=by
  rw [law3_ArchiveCutsMatchReference] at h
  refine ACall.intro (N:=30) Tryd.func3 rfl rfl rfl rfl rfl fun e=>?_
  refine T_reg [] [0,1000000] [] [] 1 (by kernel_rfl) (trivial) ?_
  refine T_seqk ?_
  obtain ⟨y1,hy1,h⟩:=call_ok h
  refine T_reg [(0,{ res:=.d (.v (.bool y1)),vout:=[.glo 0 (glob_filter_steps.flatMap (cI .u32))],xs:=[1000000] })] [0,6,1000000] [(6,.d (.v (.bool (!y1))))] [(0,ACall Tryd.prog 4 [] [.glo 0 (glob_filter_steps.flatMap (cI .u32))] (.d (.v (.bool y1))) [.glo 0 (glob_filter_steps.flatMap (cI .u32))])] 1 (by kernel_rfl) (law3_archiveFact_ok hy1) ?_
  refine T_cond (!y1) (by kernel_rfl) (fun hc=>?_) (fun hc=>?_)
  · have h:=cond_tt hc h
    refine T_reg [] [2,1000000] [(2,.d (.v (.bool false)))] [] 1 (by kernel_rfl) (trivial) ?_
    obtain hs:=Option.some.inj h; subst hs
    refine T_ret fun a w hm=>then_ret (T_return (fr':=[(2,.d (.v (.bool false))),(1000000,.glo 0 (glob_filter_steps.flatMap (cI .u32)))]) [2] (by kernel_rfl) [.keep [2,1000000]] (by kernel_rfl) (by kernel_rfl) (by kernel_rfl) (by show _=_; kernel_rfl) (by exact ⟨⟨by kernel_rfl,by kernel_rfl⟩,trivial⟩) a w hm)
  · have h:=cond_ff hc h
    refine T_skip fun a w hm=>then_norm (((?_:T Tryd.prog e 30 _ _ _) a w hm))
    obtain ⟨y2,hy2,h⟩:=call_ok h
    refine T_reg [(1,{ res:=.tup [.own 3 1 (y2.1.map (cI .i64)),.d (.v (.int .i64 y2.2))] })] [0,3,4,1000000] [(3,.own 3 1 (y2.1.map (cI .i64))),(4,.d (.v (.int .i64 y2.2)))] [(1,ACall Tryd.prog 5 [.d (.str a0)] [] (.tup [.own 3 1 (y2.1.map (cI .i64)),.d (.v (.int .i64 y2.2))]) [])] 5 (by kernel_rfl) (archive_Cuts_ok hy2) ?_
    refine T_seqk ?_
    refine T_reg [] [0,3,4,14,1000000] [(14,.d (.v (.bool (decide ((a0.length:Int) > (16384:Int))))))] [] 3 (by kernel_rfl) (trivial) ?_
    refine T_cond (decide ((a0.length:Int) > (16384:Int))) (by kernel_rfl) (fun hc=>?_) (fun hc=>?_)
    · have h:=cond_tt hc h
      refine T_reg [(4,{ rw:=some (.d (.v (.int .i64 (y2.1.length:Int)))) })] [2,1000000] [(2,.d (.v (.bool (bif (y2.2 == (2:Int)) then ((y2.1.length:Int) == (0:Int)) else false))))] [(3,((((y2.2 == (2:Int)) == true) && true)=true→True)),(0,((((y2.2 == (2:Int)) == true) && true)=true→True∧AV.d (.v (.int .i64 ((y2.1.map (cI .i64)).length:Int)))=.d (.v (.int .i64 (y2.1.length:Int))))),(0,((((y2.2 == (2:Int)) == true) && true)=true→True))] 2 (by kernel_rfl) (⟨(fun hg=>trivial),(fun hg=>len_ok (cI .i64)),(fun hg=>trivial)⟩) ?_
      obtain hs:=Option.some.inj h; subst hs
      refine T_ret fun a w hm=>then_ret (T_return (fr':=[(2,.d (.v (.bool (bif (y2.2 == (2:Int)) then ((y2.1.length:Int) == (0:Int)) else false)))),(1000000,.glo 0 (glob_filter_steps.flatMap (cI .u32)))]) [2] (by kernel_rfl) [.keep [2,1000000]] (by kernel_rfl) (by kernel_rfl) (by kernel_rfl) (by show _=_; kernel_rfl) (by exact ⟨⟨by kernel_rfl,by kernel_rfl⟩,trivial⟩) a w hm)
    · have h:=cond_ff hc h
      refine T_skip fun a w hm=>then_norm (((?_:T Tryd.prog e 30 _ _ _) a w hm))
      obtain ⟨y3,hy3,h⟩:=call_ok h
      obtain ⟨y4,hy4,h⟩:=call_ok h
      refine T_reg [(5,{ res:=.d (.sl 1 (y3.map (cI .i64))) }),(6,{ res:=.d (.v (.bool y4)) })] [2,1000000] [(2,.d (.v (.bool (bif (y2.2 == (0:Int)) then y4 else false))))] [(3,((((y2.2 == (0:Int)) == true) && true)=true→True)),(0,((((y2.2 == (0:Int)) == true) && true)=true→True)),(0,((((y2.2 == (0:Int)) == true) && true)=true→ACall Tryd.prog 7 [.d (.str a0)] [] (.d (.sl 1 (y3.map (cI .i64)))) [])),(0,((((y2.2 == (0:Int)) == true) && true)=true→ACall Tryd.prog 6 [.d (.sl 1 (y2.1.map (cI .i64))),.d (.sl 1 (y3.map (cI .i64)))] [] (.d (.v (.bool y4))) []))] 2 (by kernel_rfl) (⟨(fun hg=>trivial),(fun hg=>trivial),(fun hg=>ACall.thawRes (ref3_Windows_ok (gcall_ok hg hy3))),(fun hg=>slices_Equal_int_ok (gcall_ok hg hy4))⟩) ?_
      obtain hs:=Option.some.inj h; subst hs
      refine T_ret fun a w hm=>T_return (fr':=[(2,.d (.v (.bool (bif (y2.2 == (0:Int)) then y4 else false)))),(1000000,.glo 0 (glob_filter_steps.flatMap (cI .u32)))]) [2] (by kernel_rfl) [.keep [2,1000000]] (by kernel_rfl) (by kernel_rfl) (by kernel_rfl) (by show _=_; kernel_rfl) (by exact ⟨⟨by kernel_rfl,by kernel_rfl⟩,trivial⟩) a w hm
end Go.Vm.ArcG
