import Derived.Test.YtflaiaeofndgmaaGreatDoorProg
import Derived.Test.YtflaiaeofndgmaaGreatDoorArF
import Derived.Test.YtflaiaeofndgmaaGreatDoorArB
namespace Go.Vm.ArzG
open Go.Proofs
set_option maxRecDepth 20000
theorem mixed:Tryz.prog.follows .mixedOrders=true:=by kernel_rfl
theorem archive_cut_ok {F:Nat} {a0:List UInt8} {r:Int} (h:archive_cut F a0=some r):ACall Tryz.prog 37 [.d (.str a0)] [] (.d (.v (.int .i64 r))) []:=by
 rw [archive_cut] at h
 refine ACall.intro (N:=54) Tryz.func37 rfl rfl rfl rfl rfl fun e=>?_
 refine T_reg [] [0] [] [] 1 (by kernel_rfl) (trivial) ?_
 refine T_reg [] [0,3] [(3,.d (.v (.int .u32 (0:Int))))] [] 1 (by kernel_rfl) (trivial) ?_
 refine T_reg [] [0,3,4] [(4,.d (.v (.int .u32 (1:Int))))] [] 1 (by kernel_rfl) (trivial) ?_
 refine T_seqk ?_
 refine T_reg [] [0,3,4,6] [(6,.d (.v (.int .i64 (0:Int))))] [] 1 (by kernel_rfl) (trivial) ?_
 refine T_joinct h (fun (p:Int)=>[(0,.d (.str a0)),(3,.d (.v (.int .u32 (0:Int)))),(4,.d (.v (.int .u32 p)))]) (fun s h=>?_) (fun v3 h=>?_)
 ·refine T_co [.keep [0,3,4,6]] ((fun (p:Int×Int)=>[(0,.d (.str a0)),(3,.d (.v (.int .u32 (0:Int)))),(4,.d (.v (.int .u32 p.1))),(6,.d (.v (.int .i64 p.2)))]) ((1:Int),(0:Int))) (by show _=_; kernel_rfl) ?_
  refine T_block ?_
  refine T_loopF (ι:=Int×Int) (fun (p:Int×Int)=>[(0,.d (.str a0)),(3,.d (.v (.int .u32 (0:Int)))),(4,.d (.v (.int .u32 p.1))),(6,.d (.v (.int .i64 p.2)))]) (fun n p=>archive_cut_L0 F n p.1 p.2=some s) (fun i hh=>by simp [archive_cut_L0] at hh) (fun n p h=>?_) F ((1:Int),(0:Int)) h
  obtain ⟨v1,v2⟩:=p
  have h:archive_cut_L0 F (n+1) v1 v2=some s:=h
  rw [archive_cut_L0] at h
  refine T_reg [] [0,3,4,6,7] [(7,.d (.v (.bool (decide (v2 < (16:Int))))))] [] 1 (by kernel_rfl) (trivial) ?_
  refine T_seqk ?_
  refine T_cond (decide (v2 < (16:Int))) (by kernel_rfl) (fun hc=>?_) (fun hc=>?_)
  ·have h:=cond_tt hc h
   refine T_skip fun a w hm=>then_norm (((?_:T Tryz.prog e 54 _ _ _) a w hm))
   refine T_seqk ?_
   refine T_block ?_
   refine T_reg_end [] [0,3,4,6] [(4,.d (.v (.int .u32 (IntKind.u32.wrap (v1 * (31:Int))))))] [] 3 (by kernel_rfl) (trivial) fun a w hm=>inBlock_norm (then_norm (((?_:T Tryz.prog e 54 _ _ _) a w hm)))
   refine T_reg_end [] [0,3,4,6] [(6,.d (.v (.int .i64 (IntKind.i64.wrap (v2+(1:Int))))))] [] 2 (by kernel_rfl) (trivial) fun a w hm=>then_norm (⟨(IntKind.u32.wrap (v1 * (31:Int)),IntKind.i64.wrap (v2+(1:Int))),h,hm.co (cs:=[.keep [0,3,4,6]]) (by show _=_; kernel_rfl)⟩)
  ·have h:=cond_ff hc h
   obtain hs:=Option.some.inj h; subst hs
   refine T_exit fun a w hm=>then_exit (then_exit (inBlock_exit (then_norm (hm.co (cs:=[.keep [0,3,4]]) (by show _=_; kernel_rfl)))))
 ·skip
  refine fun a w hm=>then_norm (((?_:T Tryz.prog e 54 _ _ _) a w hm))
  refine T_seqk ?_
  refine T_reg [] [0,3,4,12,13] [(12,.d (.v (.int .i64 (a0.length:Int)))),(13,.d (.v (.int .i64 (0:Int))))] [] 3 (by kernel_rfl) (trivial) ?_
  refine T_joinEt h (fun (p:Unit)=>[(0,.d (.str a0))]) (fun s h hk1=>?_) (fun s h=>?_)
  ·refine T_co [.keep [0,3,4,12,13]] ((fun (p:Int×Int)=>[(0,.d (.str a0)),(3,.d (.v (.int .u32 p.1))),(4,.d (.v (.int .u32 v3))),(12,.d (.v (.int .i64 (a0.length:Int)))),(13,.d (.v (.int .i64 p.2)))]) ((0:Int),(0:Int))) (by show _=_; kernel_rfl) ?_
   refine T_block ?_
   refine T_loopF (ι:=Int×Int) (fun (p:Int×Int)=>[(0,.d (.str a0)),(3,.d (.v (.int .u32 p.1))),(4,.d (.v (.int .u32 v3))),(12,.d (.v (.int .i64 (a0.length:Int)))),(13,.d (.v (.int .i64 p.2)))]) (fun n p=>archive_cut_L2 F a0 v3 n p.1 p.2=some s) (fun i hh=>by simp [archive_cut_L2] at hh) (fun n p h=>?_) F ((0:Int),(0:Int)) h
   obtain ⟨v4,v5⟩:=p
   have h:archive_cut_L2 F a0 v3 (n+1) v4 v5=some s:=h
   rw [archive_cut_L2] at h
   refine T_reg [] [0,3,4,12,13,14] [(14,.d (.v (.bool (decide (v5 < (a0.length:Int))))))] [] 1 (by kernel_rfl) (trivial) ?_
   refine T_seqk ?_
   refine T_cond (decide (v5 < (a0.length:Int))) (by kernel_rfl) (fun hc=>?_) (fun hc=>?_)
   ·have h:=cond_tt hc h
    refine T_skip fun a w hm=>then_norm (((?_:T Tryz.prog e 54 _ _ _) a w hm))
    refine T_seqk ?_
    refine T_block ?_
    refine T_reg [] [0,3,4,5,12,13] [(5,.d (.v (.int .i64 v5)))] [] 2 (by kernel_rfl) (trivial) ?_
    obtain ⟨hp1,h⟩:=chk_ok h
    obtain ⟨z1,hz1,h⟩:=lett_ok h
    refine T_reg [(6,{ rw:=some (.d (.v (.int .u32 z1))) })] [0,3,4,5,12,13] [(3,.d (.v (.int .u32 (IntKind.u32.wrap (z1+(1:Int))))))] [(4,0≤v5∧v5 < a0.length),(1,(True)∧AV.d (.v (.int .u32 (IntKind.u32.wrap ((IntKind.u32.wrap (v4 * (31:Int)))+(IntKind.u32.wrap ((a0.getD v5.toNat 0).toNat:Int))))))=.d (.v (.int .u32 z1)))] 2 (by kernel_rfl) (⟨hp1,⟨trivial,(by subst hz1; rfl)⟩⟩) ?_
    refine T_joinc h (fun (p:Int)=>[(0,.d (.str a0)),(3,.d (.v (.int .u32 p))),(4,.d (.v (.int .u32 v3))),(5,.d (.v (.int .i64 v5))),(12,.d (.v (.int .i64 (a0.length:Int)))),(13,.d (.v (.int .i64 v5)))]) (fun s h=>?_) (fun v6 h=>?_)
    ·refine T_reg [] [0,3,4,5,12,13,25] [(25,.d (.v (.bool (decide (v5 ≥ (16:Int))))))] [] 2 (by kernel_rfl) (trivial) ?_
     refine T_cond (decide (v5 ≥ (16:Int))) (by kernel_rfl) (fun hc=>?_) (fun hc=>?_)
     ·have h:=cond_tt hc h
      obtain ⟨hp2,h⟩:=chk_ok h
      obtain ⟨z2,hz2,h⟩:=lett_ok h
      obtain hs:=Option.some.inj h; subst hs
      refine T_reg_end [(7,{ rw:=some (.d (.v (.int .u32 z2))) })] [0,3,4,5,12,13] [(3,.d (.v (.int .u32 (IntKind.u32.wrap ((IntKind.u32.wrap (z1+(1:Int))) - (IntKind.u32.wrap (v3 * z2)))))))] [(5,0≤(IntKind.i64.wrap (v5 - (16:Int)))∧(IntKind.i64.wrap (v5 - (16:Int))) < a0.length),(1,(True)∧AV.d (.v (.int .u32 (IntKind.u32.wrap ((IntKind.u32.wrap ((a0.getD (IntKind.i64.wrap (v5 - (16:Int))).toNat 0).toNat:Int))+(1:Int)))))=.d (.v (.int .u32 z2)))] 3 (by kernel_rfl) (⟨hp2,⟨trivial,(by subst hz2; rfl)⟩⟩) fun a w hm=>then_norm (hm.co (cs:=[.keep [0,3,4,5,12,13]]) (by show _=_; kernel_rfl))
     ·have h:=cond_ff hc h
      obtain hs:=Option.some.inj h; subst hs
      refine T_skip fun a w hm=>then_norm (hm.co (cs:=[.keep [0,3,4,5,12,13]]) (by show _=_; kernel_rfl))
    ·skip
     obtain ⟨z3,hz3,h⟩:=lett_ok h
     refine T_reg [(11,{ rw:=some (.d (.v (.bool z3))) })] [0,3,4,5,12,13,48] [(48,.d (.v (.bool (bif (decide ((IntKind.i64.wrap (v5+(1:Int))) ≥ (256:Int))) then true else z3))))] [(4,((((decide ((IntKind.i64.wrap (v5+(1:Int))) ≥ (256:Int))) == false) && true)=true→True)),(0,((((decide ((IntKind.i64.wrap (v5+(1:Int))) ≥ (256:Int))) == false) && true)=true→True)),(0,((((decide ((IntKind.i64.wrap (v5+(1:Int))) ≥ (256:Int))) == false) && true)=true→True)),(0,((((decide ((IntKind.i64.wrap (v5+(1:Int))) ≥ (256:Int))) == false) && true)=true→True)),(0,((((decide ((IntKind.i64.wrap (v5+(1:Int))) ≥ (32:Int))) == true) && (((decide ((IntKind.i64.wrap (v5+(1:Int))) ≥ (256:Int))) == false) && true))=true→True)),(0,((((decide ((IntKind.i64.wrap (v5+(1:Int))) ≥ (32:Int))) == true) && (((decide ((IntKind.i64.wrap (v5+(1:Int))) ≥ (256:Int))) == false) && true))=true→0≤(26:Int))),(0,((((decide ((IntKind.i64.wrap (v5+(1:Int))) ≥ (32:Int))) == true) && (((decide ((IntKind.i64.wrap (v5+(1:Int))) ≥ (256:Int))) == false) && true))=true→True)),(0,((((decide ((IntKind.i64.wrap (v5+(1:Int))) ≥ (256:Int))) == false) && true)=true→(True)∧AV.d (.v (.bool (bif (decide ((IntKind.i64.wrap (v5+(1:Int))) ≥ (32:Int))) then ((v6.fdiv (2 ^ (min (26:Int).toNat IntKind.u32.bits))) == (0:Int)) else false)))=.d (.v (.bool z3))))] 1 (by kernel_rfl) (⟨(fun hg=>trivial),(fun hg=>trivial),(fun hg=>trivial),(fun hg=>trivial),(fun hg=>trivial),(fun hg=>(show 0≤(26:Int) by decide)),(fun hg=>trivial),(fun hg=>⟨trivial,(by subst hz3; rfl)⟩)⟩) ?_
     refine T_cond (bif (decide ((IntKind.i64.wrap (v5+(1:Int))) ≥ (256:Int))) then true else z3) (by kernel_rfl) (fun hc=>?_) (fun hc=>?_)
     ·have h:=cond_tt hc h
      refine T_reg [] [2] [(2,.d (.v (.int .i64 (IntKind.i64.wrap (v5+(1:Int))))))] [] 3 (by kernel_rfl) (trivial) ?_
      obtain hs:=Option.some.inj h; subst hs
      have h:=callE_esc hk1
      obtain hs:=Option.some.inj h; subst hs
      refine T_ret fun a w hm=>inBlock_ret (then_ret (then_ret (inBlock_ret (then_ret (then_ret (T_return (fr':=[(2,.d (.v (.int .i64 (IntKind.i64.wrap (v5+(1:Int))))))]) [2] (by kernel_rfl) [.keep [2]] (by kernel_rfl) (by kernel_rfl) (by kernel_rfl) (by show _=_; kernel_rfl) (by exact trivial) a w hm))))))
     ·have h:=cond_ff hc h
      refine T_skip fun a w hm=>inBlock_norm (then_norm (((?_:T Tryz.prog e 54 _ _ _) a w hm)))
      refine T_reg_end [] [0,3,4,12,13] [(13,.d (.v (.int .i64 (IntKind.i64.wrap (v5+(1:Int))))))] [] 2 (by kernel_rfl) (trivial) fun a w hm=>then_norm (⟨(v6,IntKind.i64.wrap (v5+(1:Int))),h,hm.co (cs:=[.keep [0,3,4,12,13]]) (by show _=_; kernel_rfl)⟩)
   ·have h:=cond_ff hc h
    obtain hs:=Option.some.inj h; subst hs
    refine T_exit fun a w hm=>then_exit (then_exit (inBlock_exit (then_norm (⟨_,rfl,hm.co (cs:=[.keep [0]]) (by show _=_; kernel_rfl)⟩))))
  ·skip
   refine fun a w hm=>then_norm (((?_:T Tryz.prog e 54 _ _ _) a w hm))
   refine T_reg [] [2] [(2,.d (.v (.int .i64 (a0.length:Int))))] [] 3 (by kernel_rfl) (trivial) ?_
   obtain hs:=Option.some.inj h; subst hs
   refine T_ret fun a w hm=>T_return (fr':=[(2,.d (.v (.int .i64 (a0.length:Int))))]) [2] (by kernel_rfl) [.keep [2]] (by kernel_rfl) (by kernel_rfl) (by kernel_rfl) (by show _=_; kernel_rfl) (by exact trivial) a w hm
theorem archive_Cuts_ok {F:Nat} {a0:List UInt8} {r:(List Int)×Int} (h:archive_Cuts F a0=some r):ACall Tryz.prog 13 [.d (.str a0)] [] (.tup [.own 3 1 (r.1.map (cI .i64)),.d (.v (.int .i64 r.2))]) []:=by
 rw [archive_Cuts] at h
 refine ACall.intro (N:=21) Tryz.func13 rfl rfl rfl rfl rfl fun e=>?_
 refine T_reg [] [0] [] [] 2 (by kernel_rfl) (trivial) ?_
 refine T_seqk ?_
 refine T_reg [] [0,8] [(8,.d (.v (.bool (decide ((a0.length:Int) > (16384:Int))))))] [] 3 (by kernel_rfl) (trivial) ?_
 refine T_cond (decide ((a0.length:Int) > (16384:Int))) (by kernel_rfl) (fun hc=>?_) (fun hc=>?_)
 ·have h:=cond_tt hc h
  refine T_reg [] [2,3] [(2,.own 3 1 ([].map (cI .i64))),(3,.d (.v (.int .i64 (2:Int))))] [] 2 (by kernel_rfl) (trivial) ?_
  obtain hs:=Option.some.inj h; subst hs
  refine T_ret fun a w hm=>then_ret (T_return (fr':=[(2,.own 3 1 ([].map (cI .i64))),(3,.d (.v (.int .i64 (2:Int))))]) [2,3] (by kernel_rfl) [.keep [2,3]] (by kernel_rfl) (by kernel_rfl) (by kernel_rfl) (by show _=_; kernel_rfl) (by exact trivial) a w hm)
 ·have h:=cond_ff hc h
  refine T_skip fun a w hm=>then_norm (((?_:T Tryz.prog e 21 _ _ _) a w hm))
  refine T_reg [] [0,4] [(4,.own 3 1 ([].map (cI .i64)))] [] 1 (by kernel_rfl) (trivial) ?_
  refine T_joinc h (fun (p:(List Int))=>[(4,.own 3 1 (p.map (cI .i64)))]) (fun s h=>?_) (fun v3 h=>?_)
  ·refine T_co [.keep [0,4]] ((fun (p:(List UInt8)×(List Int))=>[(0,.d (.str p.1)),(4,.own 3 1 (p.2.map (cI .i64)))]) (a0,[])) (by show _=_; kernel_rfl) ?_
   refine T_block ?_
   refine T_loopF (ι:=(List UInt8)×(List Int)) (fun (p:(List UInt8)×(List Int))=>[(0,.d (.str p.1)),(4,.own 3 1 (p.2.map (cI .i64)))]) (fun n p=>archive_Cuts_L0 F n p.1 p.2=some s) (fun i hh=>by simp [archive_Cuts_L0] at hh) (fun n p h=>?_) F (a0,[]) h
   obtain ⟨v1,v2⟩:=p
   have h:archive_Cuts_L0 F (n+1) v1 v2=some s:=h
   rw [archive_Cuts_L0] at h
   refine T_seqk ?_
   refine T_reg [] [0,4,10] [(10,.d (.v (.bool (!(v1 == [])))))] [] 2 (by kernel_rfl) (trivial) ?_
   refine T_cond (!(v1 == [])) (by kernel_rfl) (fun hc=>?_) (fun hc=>?_)
   ·have h:=cond_tt hc h
    refine T_skip fun a w hm=>then_norm (((?_:T Tryz.prog e 21 _ _ _) a w hm))
    refine T_block ?_
    obtain ⟨y1,hy1,h⟩:=call_ok h
    refine T_reg [(1,{ res:=.d (.v (.int .i64 y1)) })] [0,4,5] [(5,.d (.v (.int .i64 y1)))] [(1,ACall Tryz.prog 37 [.d (.str v1)] [] (.d (.v (.int .i64 y1))) [])] 1 (by kernel_rfl) (archive_cut_ok hy1) ?_
    obtain ⟨hp1,h⟩:=chk_ok h
    refine T_reg [(2,{ es:=some (([y1]).map (cI .i64)) }),(3,{ es:=some ((v2++([y1])).map (cI .i64)) })] [0,4,5] [(4,.own 3 1 ((v2++([y1])).map (cI .i64)))] [(2,(([y1]).map (cI .i64))=(([y1]).map (cI .i64))),(0,(v2.map (cI .i64)).length+(([y1]).map (cI .i64)).length≤4294967296∧(v2.map (cI .i64))++(([y1]).map (cI .i64))=((v2++([y1])).map (cI .i64)))] 1 (by kernel_rfl) (⟨rfl,app_ok (cI .i64) hp1⟩) ?_
    obtain ⟨hp2,h⟩:=chk_ok h
    refine T_reg_end [] [0,4] [(0,.d (.str ((v1.drop y1.toNat).take ((v1.length:Int).toNat - y1.toNat))))] [(2,0≤y1∧y1≤(v1.length:Int)∧(v1.length:Int)≤(v1.length:Int))] 1 (by kernel_rfl) (hp2) fun a w hm=>inBlock_norm (then_norm (⟨(((v1.drop y1.toNat).take ((v1.length:Int).toNat - y1.toNat)),(v2++([y1]))),h,hm.co (cs:=[.keep [0,4]]) (by show _=_; kernel_rfl)⟩))
   ·have h:=cond_ff hc h
    obtain hs:=Option.some.inj h; subst hs
    refine T_exit fun a w hm=>then_exit (then_exit (inBlock_exit (then_norm (hm.co (cs:=[.keep [4]]) (by show _=_; kernel_rfl)))))
  ·skip
   refine T_reg [] [2,3,4] [(2,.vw (4,0)),(3,.d (.v (.int .i64 (0:Int))))] [] 3 (by kernel_rfl) (trivial) ?_
   obtain hs:=Option.some.inj h; subst hs
   refine T_ret fun a w hm=>T_return (fr':=[(2,.own 3 1 (v3.map (cI .i64))),(3,.d (.v (.int .i64 (0:Int))))]) [2,3] (by kernel_rfl) [.claim 2,.keep [2,3]] (by kernel_rfl) (by kernel_rfl) (by kernel_rfl) (by show _=_; kernel_rfl) (by exact trivial) a w hm
theorem archive_plain_ok {F:Nat} {a0:List UInt8} {r:Bool} (h:archive_plain F a0=some r):ACall Tryz.prog 33 [.d (.str a0)] [] (.d (.v (.bool r))) []:=by
 rw [archive_plain] at h
 refine ACall.intro (N:=45) Tryz.func33 rfl rfl rfl rfl rfl fun e=>?_
 refine T_reg [] [0] [] [] 1 (by kernel_rfl) (trivial) ?_
 refine T_seqk ?_
 refine T_reg [] [0,6,7] [(6,.d (.v (.int .i64 (a0.length:Int)))),(7,.d (.v (.int .i64 (0:Int))))] [] 3 (by kernel_rfl) (trivial) ?_
 refine T_joinEt h (fun (p:Unit)=>[(0,.d (.str a0))]) (fun s h hk1=>?_) (fun s h=>?_)
 ·refine T_co [.keep [0,6,7]] ((fun (p:Int)=>[(0,.d (.str a0)),(6,.d (.v (.int .i64 (a0.length:Int)))),(7,.d (.v (.int .i64 p)))]) (0:Int)) (by show _=_; kernel_rfl) ?_
  refine T_block ?_
  refine T_loopF (ι:=Int) (fun (p:Int)=>[(0,.d (.str a0)),(6,.d (.v (.int .i64 (a0.length:Int)))),(7,.d (.v (.int .i64 p)))]) (fun n p=>archive_plain_L0 F a0 n p=some s) (fun i hh=>by simp [archive_plain_L0] at hh) (fun n v1 h=>?_) F (0:Int) h
  have h:archive_plain_L0 F a0 (n+1) v1=some s:=h
  rw [archive_plain_L0] at h
  refine T_reg [] [0,6,7,8] [(8,.d (.v (.bool (decide (v1 < (a0.length:Int))))))] [] 1 (by kernel_rfl) (trivial) ?_
  refine T_seqk ?_
  refine T_cond (decide (v1 < (a0.length:Int))) (by kernel_rfl) (fun hc=>?_) (fun hc=>?_)
  ·have h:=cond_tt hc h
   refine T_skip fun a w hm=>then_norm (((?_:T Tryz.prog e 45 _ _ _) a w hm))
   refine T_seqk ?_
   refine T_block ?_
   refine T_reg [] [0,3,6,7] [(3,.d (.v (.int .i64 v1)))] [] 2 (by kernel_rfl) (trivial) ?_
   obtain ⟨hp1,h⟩:=chk_ok h
   refine T_reg [] [0,3,4,6,7] [(4,.d (.v (.int .u8 ((a0.getD v1.toNat 0).toNat:Int))))] [(2,0≤v1∧v1 < a0.length)] 1 (by kernel_rfl) (hp1) ?_
   obtain ⟨z1,hz1,h⟩:=lett_ok h
   obtain ⟨z2,hz2,h⟩:=lett_ok h
   obtain ⟨z3,hz3,h⟩:=lett_ok h
   refine T_reg [(5,{ rw:=some (.d (.v (.bool z1))) }),(16,{ rw:=some (.d (.v (.bool z2))) }),(22,{ rw:=some (.d (.v (.bool z3))) })] [0,6,7,36] [(36,.d (.v (.bool (bif (!z1) then z3 else false))))] [(3,((((decide ((97:Int)≤((a0.getD v1.toNat 0).toNat:Int))) == true) && true)=true→True)),(0,((((decide ((97:Int)≤((a0.getD v1.toNat 0).toNat:Int))) == true) && true)=true→True)),(0,(True)∧AV.d (.v (.bool (bif (decide ((97:Int)≤((a0.getD v1.toNat 0).toNat:Int))) then (decide (((a0.getD v1.toNat 0).toNat:Int)≤(122:Int))) else false)))=.d (.v (.bool z1))),(2,((((!z1) == true) && true)=true→True)),(0,((((!z1) == true) && true)=true→True)),(0,((((!z1) == true) && true)=true→True)),(0,((((v1 == (0:Int)) == false) && (((!z1) == true) && true))=true→True)),(0,((((v1 == (0:Int)) == false) && (((!z1) == true) && true))=true→True)),(0,((((v1 == (0:Int)) == false) && (((!z1) == true) && true))=true→True)),(0,((((decide ((48:Int)≤((a0.getD v1.toNat 0).toNat:Int))) == true) && (((v1 == (0:Int)) == false) && (((!z1) == true) && true)))=true→True)),(0,((((decide ((48:Int)≤((a0.getD v1.toNat 0).toNat:Int))) == true) && (((v1 == (0:Int)) == false) && (((!z1) == true) && true)))=true→True)),(0,((((v1 == (0:Int)) == false) && (((!z1) == true) && true))=true→(True)∧AV.d (.v (.bool (bif (decide ((48:Int)≤((a0.getD v1.toNat 0).toNat:Int))) then (decide (((a0.getD v1.toNat 0).toNat:Int)≤(57:Int))) else false)))=.d (.v (.bool z2)))),(0,((((v1 == (0:Int)) == false) && (((!z1) == true) && true))=true→True)),(0,((((v1 == (0:Int)) == false) && (((!z1) == true) && true))=true→True)),(0,((((!z2) == true) && (((v1 == (0:Int)) == false) && (((!z1) == true) && true)))=true→True)),(0,((((!z2) == true) && (((v1 == (0:Int)) == false) && (((!z1) == true) && true)))=true→True)),(0,((((v1 == (0:Int)) == false) && (((!z1) == true) && true))=true→True)),(0,((((!z1) == true) && true)=true→(True)∧AV.d (.v (.bool (bif (v1 == (0:Int)) then true else (bif (!z2) then (((a0.getD v1.toNat 0).toNat:Int) != (45:Int)) else false))))=.d (.v (.bool z3))))] 1 (by kernel_rfl) (⟨(fun hg=>trivial),(fun hg=>trivial),⟨trivial,(by subst hz1; rfl)⟩,(fun hg=>trivial),(fun hg=>trivial),(fun hg=>trivial),(fun hg=>trivial),(fun hg=>trivial),(fun hg=>trivial),(fun hg=>trivial),(fun hg=>trivial),(fun hg=>⟨trivial,(by subst hz2; rfl)⟩),(fun hg=>trivial),(fun hg=>trivial),(fun hg=>trivial),(fun hg=>trivial),(fun hg=>trivial),(fun hg=>⟨trivial,(by subst hz3; rfl)⟩)⟩) ?_
   refine T_cond (bif (!z1) then z3 else false) (by kernel_rfl) (fun hc=>?_) (fun hc=>?_)
   ·have h:=cond_tt hc h
    refine T_reg [] [2] [(2,.d (.v (.bool false)))] [] 1 (by kernel_rfl) (trivial) ?_
    obtain hs:=Option.some.inj h; subst hs
    have h:=callE_esc hk1
    obtain hs:=Option.some.inj h; subst hs
    refine T_ret fun a w hm=>inBlock_ret (then_ret (then_ret (inBlock_ret (then_ret (then_ret (T_return (fr':=[(2,.d (.v (.bool false)))]) [2] (by kernel_rfl) [.keep [2]] (by kernel_rfl) (by kernel_rfl) (by kernel_rfl) (by show _=_; kernel_rfl) (by exact trivial) a w hm))))))
   ·have h:=cond_ff hc h
    refine T_skip fun a w hm=>inBlock_norm (then_norm (((?_:T Tryz.prog e 45 _ _ _) a w hm)))
    refine T_reg_end [] [0,6,7] [(7,.d (.v (.int .i64 (IntKind.i64.wrap (v1+(1:Int))))))] [] 2 (by kernel_rfl) (trivial) fun a w hm=>then_norm (⟨IntKind.i64.wrap (v1+(1:Int)),h,hm.co (cs:=[.keep [0,6,7]]) (by show _=_; kernel_rfl)⟩)
  ·have h:=cond_ff hc h
   obtain hs:=Option.some.inj h; subst hs
   refine T_exit fun a w hm=>then_exit (then_exit (inBlock_exit (then_norm (⟨_,rfl,hm.co (cs:=[.keep [0]]) (by show _=_; kernel_rfl)⟩))))
 ·skip
  refine fun a w hm=>then_norm (((?_:T Tryz.prog e 45 _ _ _) a w hm))
  refine T_reg [] [2] [(2,.d (.v (.bool (bif (!(a0 == [])) then (decide ((a0.length:Int)≤(16:Int))) else false))))] [(3,((((!(a0 == [])) == true) && true)=true→True)),(0,((((!(a0 == [])) == true) && true)=true→True)),(0,((((!(a0 == [])) == true) && true)=true→True))] 2 (by kernel_rfl) (⟨(fun hg=>trivial),(fun hg=>trivial),(fun hg=>trivial)⟩) ?_
  obtain hs:=Option.some.inj h; subst hs
  refine T_ret fun a w hm=>T_return (fr':=[(2,.d (.v (.bool (bif (!(a0 == [])) then (decide ((a0.length:Int)≤(16:Int))) else false))))]) [2] (by kernel_rfl) [.keep [2]] (by kernel_rfl) (by kernel_rfl) (by kernel_rfl) (by show _=_; kernel_rfl) (by exact trivial) a w hm
theorem cmp_isNaN_string_ok {F:Nat} {a0:List UInt8} {r:Bool} (h:cmp_isNaN_string F a0=some r):ACall Tryz.prog 50 [.d (.str a0)] [] (.d (.v (.bool r))) []:=by
 rw [cmp_isNaN_string] at h
 refine ACall.intro (N:=6) Tryz.func50 rfl rfl rfl rfl rfl fun e=>?_
 refine T_reg [] [0] [] [] 1 (by kernel_rfl) (trivial) ?_
 refine T_reg [] [2] [(2,.d (.v (.bool (!(a0 == a0)))))] [] 4 (by kernel_rfl) (trivial) ?_
 obtain hs:=Option.some.inj h; subst hs
 refine T_ret fun a w hm=>T_return (fr':=[(2,.d (.v (.bool (!(a0 == a0)))))]) [2] (by kernel_rfl) [.keep [2]] (by kernel_rfl) (by kernel_rfl) (by kernel_rfl) (by show _=_; kernel_rfl) (by exact trivial) a w hm
theorem cmp_Less_string_ok {F:Nat} {a0:List UInt8} {a1:List UInt8} {r:Bool} (h:cmp_Less_string F a0 a1=some r):ACall Tryz.prog 30 [.d (.str a0),.d (.str a1)] [] (.d (.v (.bool r))) []:=by
 rw [cmp_Less_string] at h
 refine ACall.intro (N:=17) Tryz.func30 rfl rfl rfl rfl rfl fun e=>?_
 refine T_reg [] [0,1] [] [] 1 (by kernel_rfl) (trivial) ?_
 obtain ⟨y1,hy1,h⟩:=call_ok h
 obtain ⟨y2,hy2,h⟩:=call_ok h
 refine T_reg [(1,{ res:=.d (.v (.bool y1)) }),(4,{ res:=.d (.v (.bool y2)) })] [4] [(4,.d (.v (.bool (bif (bif y1 then (!y2) else false) then true else (Op.bytesLess a0 a1)))))] [(1,ACall Tryz.prog 50 [.d (.str a0)] [] (.d (.v (.bool y1))) []),(1,(((y1 == true) && true)=true→True)),(0,(((y1 == true) && true)=true→ACall Tryz.prog 50 [.d (.str a1)] [] (.d (.v (.bool y2))) [])),(0,(((y1 == true) && true)=true→True)),(2,((((bif y1 then (!y2) else false) == false) && true)=true→True)),(0,((((bif y1 then (!y2) else false) == false) && true)=true→True)),(0,((((bif y1 then (!y2) else false) == false) && true)=true→True))] 2 (by kernel_rfl) (⟨cmp_isNaN_string_ok hy1,(fun hg=>trivial),(fun hg=>cmp_isNaN_string_ok (gcall_ok hg hy2)),(fun hg=>trivial),(fun hg=>trivial),(fun hg=>trivial),(fun hg=>trivial)⟩) ?_
 obtain hs:=Option.some.inj h; subst hs
 refine T_ret fun a w hm=>T_return (fr':=[(4,.d (.v (.bool (bif (bif y1 then (!y2) else false) then true else (Op.bytesLess a0 a1)))))]) [4] (by kernel_rfl) [.keep [4]] (by kernel_rfl) (by kernel_rfl) (by kernel_rfl) (by show _=_; kernel_rfl) (by exact trivial) a w hm
theorem slices_isNaN_string_ok {F:Nat} {a0:List UInt8} {r:Bool} (h:slices_isNaN_string F a0=some r):ACall Tryz.prog 52 [.d (.str a0)] [] (.d (.v (.bool r))) []:=by
 rw [slices_isNaN_string] at h
 refine ACall.intro (N:=6) Tryz.func52 rfl rfl rfl rfl rfl fun e=>?_
 refine T_reg [] [0] [] [] 1 (by kernel_rfl) (trivial) ?_
 refine T_reg [] [2] [(2,.d (.v (.bool (!(a0 == a0)))))] [] 4 (by kernel_rfl) (trivial) ?_
 obtain hs:=Option.some.inj h; subst hs
 refine T_ret fun a w hm=>T_return (fr':=[(2,.d (.v (.bool (!(a0 == a0)))))]) [2] (by kernel_rfl) [.keep [2]] (by kernel_rfl) (by kernel_rfl) (by kernel_rfl) (by show _=_; kernel_rfl) (by exact trivial) a w hm
theorem slices_BinarySearch_string_ok {F:Nat} {a0:List (List UInt8)} {a1:List UInt8} {r:Int×Bool} (h:slices_BinarySearch_string F a0 a1=some r):ACall Tryz.prog 34 [.d (.sl 1 (a0.map cS)),.d (.str a1)] [] (.tup [.d (.v (.int .i64 r.1)),.d (.v (.bool r.2))]) []:=by
 rw [slices_BinarySearch_string] at h
 refine ACall.intro (N:=54) Tryz.func34 rfl rfl rfl rfl rfl fun e=>?_
 refine T_reg [] [0,1] [] [] 2 (by kernel_rfl) (trivial) ?_
 refine T_reg [(1,{ rw:=some (.d (.v (.int .i64 (a0.length:Int)))) })] [0,1,6] [(6,.d (.v (.int .i64 (a0.length:Int))))] [(1,True∧AV.d (.v (.int .i64 ((a0.map cS).length:Int)))=.d (.v (.int .i64 (a0.length:Int))))] 1 (by kernel_rfl) (len_ok cS) ?_
 refine T_reg [] [0,1,6,7,8] [(7,.d (.v (.int .i64 (0:Int)))),(8,.d (.v (.int .i64 (a0.length:Int))))] [] 3 (by kernel_rfl) (trivial) ?_
 refine T_joinc h (fun (p:Int)=>[(0,.d (.sl 1 (a0.map cS))),(1,.d (.str a1)),(6,.d (.v (.int .i64 (a0.length:Int)))),(7,.d (.v (.int .i64 p)))]) (fun s h=>?_) (fun v3 h=>?_)
 ·refine T_co [.keep [0,1,6,7,8]] ((fun (p:Int×Int)=>[(0,.d (.sl 1 (a0.map cS))),(1,.d (.str a1)),(6,.d (.v (.int .i64 (a0.length:Int)))),(7,.d (.v (.int .i64 p.1))),(8,.d (.v (.int .i64 p.2)))]) ((0:Int),(a0.length:Int))) (by show _=_; kernel_rfl) ?_
  refine T_block ?_
  refine T_loopF (ι:=Int×Int) (fun (p:Int×Int)=>[(0,.d (.sl 1 (a0.map cS))),(1,.d (.str a1)),(6,.d (.v (.int .i64 (a0.length:Int)))),(7,.d (.v (.int .i64 p.1))),(8,.d (.v (.int .i64 p.2)))]) (fun n p=>slices_BinarySearch_string_L0 F a0 a1 n p.1 p.2=some s) (fun i hh=>by simp [slices_BinarySearch_string_L0] at hh) (fun n p h=>?_) F ((0:Int),(a0.length:Int)) h
  obtain ⟨v1,v2⟩:=p
  have h:slices_BinarySearch_string_L0 F a0 a1 (n+1) v1 v2=some s:=h
  rw [slices_BinarySearch_string_L0] at h
  refine T_seqk ?_
  refine T_reg [] [0,1,6,7,8,15] [(15,.d (.v (.bool (decide (v1 < v2)))))] [] 3 (by kernel_rfl) (trivial) ?_
  refine T_cond (decide (v1 < v2)) (by kernel_rfl) (fun hc=>?_) (fun hc=>?_)
  ·have h:=cond_tt hc h
   refine T_skip fun a w hm=>then_norm (((?_:T Tryz.prog e 54 _ _ _) a w hm))
   refine T_block ?_
   obtain ⟨z1,hz1,h⟩:=lett_ok h
   refine T_reg [(4,{ rw:=some (.d (.v (.int .u64 z1))) })] [0,1,6,7,8,9] [(9,.d (.v (.int .i64 (IntKind.i64.wrap z1))))] [(4,(0≤(1:Int))∧AV.d (.v (.int .u64 ((IntKind.u64.wrap (IntKind.i64.wrap (v1+v2))).fdiv (2 ^ (min (1:Int).toNat IntKind.u64.bits)))))=.d (.v (.int .u64 z1)))] 2 (by kernel_rfl) (⟨(show 0≤(1:Int) by decide),(by subst hz1; rfl)⟩) ?_
   obtain ⟨hp1,h⟩:=chk_ok h
   obtain ⟨y1,hy1,h⟩:=call_ok h
   refine T_reg [(2,{ cs:=cS (a0.getD (IntKind.i64.wrap z1).toNat []) }),(5,{ res:=.d (.v (.bool y1)) })] [0,1,6,7,8,9,27] [(27,.d (.v (.bool y1)))] [(2,0≤(IntKind.i64.wrap z1)∧(a0.map cS)[(IntKind.i64.wrap z1).toNat]? = some (cS (a0.getD (IntKind.i64.wrap z1).toNat []))),(2,ACall Tryz.prog 30 [.d (.str (a0.getD (IntKind.i64.wrap z1).toNat [])),.d (.str a1)] [] (.d (.v (.bool y1))) [])] 0 (by kernel_rfl) (⟨idx_ok (d:=[]) cS hp1,cmp_Less_string_ok hy1⟩) ?_
   refine T_cond y1 (by kernel_rfl) (fun hc=>?_) (fun hc=>?_)
   ·have h:=cond_tt hc h
    refine T_reg_end [] [0,1,6,7,8] [(7,.d (.v (.int .i64 (IntKind.i64.wrap ((IntKind.i64.wrap z1)+(1:Int))))))] [] 3 (by kernel_rfl) (trivial) fun a w hm=>inBlock_norm (then_norm (⟨(IntKind.i64.wrap ((IntKind.i64.wrap z1)+(1:Int)),v2),h,hm.co (cs:=[.keep [0,1,6,7,8]]) (by show _=_; kernel_rfl)⟩))
   ·have h:=cond_ff hc h
    refine T_reg_end [] [0,1,6,7,8] [(8,.d (.v (.int .i64 (IntKind.i64.wrap z1))))] [] 2 (by kernel_rfl) (trivial) fun a w hm=>inBlock_norm (then_norm (⟨(v1,IntKind.i64.wrap z1),h,hm.co (cs:=[.keep [0,1,6,7,8]]) (by show _=_; kernel_rfl)⟩))
  ·have h:=cond_ff hc h
   obtain hs:=Option.some.inj h; subst hs
   refine T_exit fun a w hm=>then_exit (then_exit (inBlock_exit (then_norm (hm.co (cs:=[.keep [0,1,6,7]]) (by show _=_; kernel_rfl)))))
 ·skip
  obtain ⟨hp2,h⟩:=chk_ok h
  obtain ⟨hp3,h⟩:=chk_ok h
  obtain ⟨y2,hy2,h⟩:=call_ok h
  obtain ⟨y3,hy3,h⟩:=call_ok h
  obtain ⟨z2,hz2,h⟩:=lett_ok h
  refine T_reg [(7,{ cs:=cS (a0.getD v3.toNat []) }),(14,{ cs:=cS (a0.getD v3.toNat []) }),(16,{ res:=.d (.v (.bool y2)) }),(19,{ res:=.d (.v (.bool y3)) }),(22,{ rw:=some (.d (.v (.bool z2))) })] [4,5] [(4,.d (.v (.int .i64 v3))),(5,.d (.v (.bool z2)))] [(5,((((decide (v3 < (a0.length:Int))) == true) && true)=true→True)),(0,((((decide (v3 < (a0.length:Int))) == true) && true)=true→True)),(0,((((decide (v3 < (a0.length:Int))) == true) && true)=true→0≤v3∧(a0.map cS)[v3.toNat]? = some (cS (a0.getD v3.toNat [])))),(0,((((decide (v3 < (a0.length:Int))) == true) && true)=true→True)),(0,((((decide (v3 < (a0.length:Int))) == true) && true)=true→True)),(0,((((decide (v3 < (a0.length:Int))) == true) && true)=true→True)),(0,((((decide (v3 < (a0.length:Int))) == true) && true)=true→True)),(0,(((((a0.getD v3.toNat []) == a1) == false) && (((decide (v3 < (a0.length:Int))) == true) && true))=true→True)),(0,(((((a0.getD v3.toNat []) == a1) == false) && (((decide (v3 < (a0.length:Int))) == true) && true))=true→True)),(0,(((((a0.getD v3.toNat []) == a1) == false) && (((decide (v3 < (a0.length:Int))) == true) && true))=true→0≤v3∧(a0.map cS)[v3.toNat]? = some (cS (a0.getD v3.toNat [])))),(0,(((((a0.getD v3.toNat []) == a1) == false) && (((decide (v3 < (a0.length:Int))) == true) && true))=true→True)),(0,(((((a0.getD v3.toNat []) == a1) == false) && (((decide (v3 < (a0.length:Int))) == true) && true))=true→ACall Tryz.prog 52 [.d (.str (a0.getD v3.toNat []))] [] (.d (.v (.bool y2))) [])),(0,(((((a0.getD v3.toNat []) == a1) == false) && (((decide (v3 < (a0.length:Int))) == true) && true))=true→True)),(0,(((y2 == true) && ((((a0.getD v3.toNat []) == a1) == false) && (((decide (v3 < (a0.length:Int))) == true) && true)))=true→True)),(0,(((y2 == true) && ((((a0.getD v3.toNat []) == a1) == false) && (((decide (v3 < (a0.length:Int))) == true) && true)))=true→ACall Tryz.prog 52 [.d (.str a1)] [] (.d (.v (.bool y3))) [])),(0,(((((a0.getD v3.toNat []) == a1) == false) && (((decide (v3 < (a0.length:Int))) == true) && true))=true→True)),(0,((((decide (v3 < (a0.length:Int))) == true) && true)=true→True)),(0,(True)∧AV.d (.v (.bool (bif (decide (v3 < (a0.length:Int))) then (bif ((a0.getD v3.toNat []) == a1) then true else (bif y2 then y3 else false)) else false)))=.d (.v (.bool z2)))] 2 (by kernel_rfl) (⟨(fun hg=>trivial),(fun hg=>trivial),(fun hg=>idx_ok (d:=[]) cS (hp2 hg)),(fun hg=>trivial),(fun hg=>trivial),(fun hg=>trivial),(fun hg=>trivial),(fun hg=>trivial),(fun hg=>trivial),(fun hg=>idx_ok (d:=[]) cS (hp3 hg)),(fun hg=>trivial),(fun hg=>slices_isNaN_string_ok (gcall_ok hg hy2)),(fun hg=>trivial),(fun hg=>trivial),(fun hg=>slices_isNaN_string_ok (gcall_ok hg hy3)),(fun hg=>trivial),(fun hg=>trivial),⟨trivial,(by subst hz2; rfl)⟩⟩) ?_
  obtain hs:=Option.some.inj h; subst hs
  refine T_ret fun a w hm=>T_return (fr':=[(4,.d (.v (.int .i64 v3))),(5,.d (.v (.bool z2)))]) [4,5] (by kernel_rfl) [.keep [4,5]] (by kernel_rfl) (by kernel_rfl) (by kernel_rfl) (by show _=_; kernel_rfl) (by exact trivial) a w hm
theorem filter_Sum_ok {F:Nat} {a0:List UInt8} {r:Int} (h:filter_Sum F a0=some r):ACall Tryz.prog 40 [.d (.str a0)] [.glo 0 (glob_filter_steps.flatMap (cI .u32))] (.d (.v (.int .u32 r))) [.glo 0 (glob_filter_steps.flatMap (cI .u32))]:=by
 rw [filter_Sum] at h
 refine ACall.intro (N:=33) Tryz.func40 rfl rfl rfl rfl rfl fun e=>?_
 refine T_reg [] [0,1000000] [] [] 1 (by kernel_rfl) (trivial) ?_
 refine T_reg [] [0,3,1000000] [(3,.d (.v (.int .u32 (4294967295:Int))))] [] 1 (by kernel_rfl) (trivial) ?_
 refine T_seqk ?_
 refine T_reg [] [0,3,6,7,1000000] [(6,.d (.v (.int .i64 (a0.length:Int)))),(7,.d (.v (.int .i64 (0:Int))))] [] 3 (by kernel_rfl) (trivial) ?_
 refine T_joinct h (fun (p:Int)=>[(3,.d (.v (.int .u32 p))),(1000000,.glo 0 (glob_filter_steps.flatMap (cI .u32)))]) (fun s h=>?_) (fun v3 h=>?_)
 ·refine T_co [.keep [0,3,6,7,1000000]] ((fun (p:Int×Int)=>[(0,.d (.str a0)),(3,.d (.v (.int .u32 p.1))),(6,.d (.v (.int .i64 (a0.length:Int)))),(7,.d (.v (.int .i64 p.2))),(1000000,.glo 0 (glob_filter_steps.flatMap (cI .u32)))]) ((4294967295:Int),(0:Int))) (by show _=_; kernel_rfl) ?_
  refine T_block ?_
  refine T_loopF (ι:=Int×Int) (fun (p:Int×Int)=>[(0,.d (.str a0)),(3,.d (.v (.int .u32 p.1))),(6,.d (.v (.int .i64 (a0.length:Int)))),(7,.d (.v (.int .i64 p.2))),(1000000,.glo 0 (glob_filter_steps.flatMap (cI .u32)))]) (fun n p=>filter_Sum_L0 F a0 n p.1 p.2=some s) (fun i hh=>by simp [filter_Sum_L0] at hh) (fun n p h=>?_) F ((4294967295:Int),(0:Int)) h
  obtain ⟨v1,v2⟩:=p
  have h:filter_Sum_L0 F a0 (n+1) v1 v2=some s:=h
  rw [filter_Sum_L0] at h
  refine T_reg [] [0,3,6,7,8,1000000] [(8,.d (.v (.bool (decide (v2 < (a0.length:Int))))))] [] 1 (by kernel_rfl) (trivial) ?_
  refine T_seqk ?_
  refine T_cond (decide (v2 < (a0.length:Int))) (by kernel_rfl) (fun hc=>?_) (fun hc=>?_)
  ·have h:=cond_tt hc h
   refine T_skip fun a w hm=>then_norm (((?_:T Tryz.prog e 33 _ _ _) a w hm))
   refine T_seqk ?_
   refine T_block ?_
   refine T_reg [] [0,3,4,6,7,1000000] [(4,.d (.v (.int .i64 v2)))] [] 2 (by kernel_rfl) (trivial) ?_
   obtain ⟨hp1,h⟩:=chk_ok h
   obtain ⟨z1,hz1,h⟩:=lett_ok h
   refine T_reg [(5,{ rw:=some (.d (.v (.int .u32 z1))) })] [0,3,6,7,1000000] [(3,.d (.v (.int .u32 z1)))] [(3,0≤v2∧v2 < a0.length),(1,(True)∧AV.d (.v (.int .u32 (IntKind.u32.wrap ((BitVec.ofInt IntKind.u32.bits v1 ^^^ BitVec.ofInt IntKind.u32.bits (IntKind.u32.wrap ((a0.getD v2.toNat 0).toNat:Int))).toNat:Int))))=.d (.v (.int .u32 z1)))] 1 (by kernel_rfl) (⟨hp1,⟨trivial,(by subst hz1; rfl)⟩⟩) ?_
   obtain ⟨z2,hz2,h⟩:=lett_ok h
   obtain ⟨hp2,h⟩:=chk_ok h
   obtain ⟨z3,hz3,h⟩:=lett_ok h
   refine T_reg [(3,{ rw:=some (.d (.v (.int .u32 z2))) }),(4,{ rw:=some (.d (.pt (((cI .u32) (glob_filter_steps.getD z2.toNat 0))++((glob_filter_steps.flatMap (cI .u32)).drop (z2.toNat * 1+1))))) }),(6,{ rw:=some (.d (.v (.int .u32 z3))) })] [0,3,6,7,1000000] [(3,.d (.v (.int .u32 z3)))] [(1,0≤(4:Int)),(1,(True)∧AV.d (.v (.int .u32 (IntKind.u32.wrap ((BitVec.ofInt IntKind.u32.bits z1 &&& BitVec.ofInt IntKind.u32.bits (15:Int)).toNat:Int))))=.d (.v (.int .u32 z2))),(0,(0≤z2∧z2 < 16)∧AV.d (.pt ((glob_filter_steps.flatMap (cI .u32)).drop (z2.toNat * 1)))=AV.d (.pt (((cI .u32) (glob_filter_steps.getD z2.toNat 0))++((glob_filter_steps.flatMap (cI .u32)).drop (z2.toNat * 1+1))))),(1,(True)∧AV.d (.v (.int .u32 (IntKind.u32.wrap ((BitVec.ofInt IntKind.u32.bits (z1.fdiv (2 ^ (min (4:Int).toNat IntKind.u32.bits))) ^^^ BitVec.ofInt IntKind.u32.bits (glob_filter_steps.getD z2.toNat 0)).toNat:Int))))=.d (.v (.int .u32 z3)))] 1 (by kernel_rfl) (⟨(show 0≤(4:Int) by decide),⟨trivial,(by subst hz2; rfl)⟩,⟨hp2,glo_ok (cI .u32) 1 16 (by decide) (fun _=>rfl) hp2⟩,⟨trivial,(by subst hz3; rfl)⟩⟩) ?_
   obtain ⟨z4,hz4,h⟩:=lett_ok h
   obtain ⟨hp3,h⟩:=chk_ok h
   obtain ⟨z5,hz5,h⟩:=lett_ok h
   refine T_reg_end [(3,{ rw:=some (.d (.v (.int .u32 z4))) }),(4,{ rw:=some (.d (.pt (((cI .u32) (glob_filter_steps.getD z4.toNat 0))++((glob_filter_steps.flatMap (cI .u32)).drop (z4.toNat * 1+1))))) }),(6,{ rw:=some (.d (.v (.int .u32 z5))) })] [0,3,6,7,1000000] [(3,.d (.v (.int .u32 z5)))] [(1,0≤(4:Int)),(1,(True)∧AV.d (.v (.int .u32 (IntKind.u32.wrap ((BitVec.ofInt IntKind.u32.bits z3 &&& BitVec.ofInt IntKind.u32.bits (15:Int)).toNat:Int))))=.d (.v (.int .u32 z4))),(0,(0≤z4∧z4 < 16)∧AV.d (.pt ((glob_filter_steps.flatMap (cI .u32)).drop (z4.toNat * 1)))=AV.d (.pt (((cI .u32) (glob_filter_steps.getD z4.toNat 0))++((glob_filter_steps.flatMap (cI .u32)).drop (z4.toNat * 1+1))))),(1,(True)∧AV.d (.v (.int .u32 (IntKind.u32.wrap ((BitVec.ofInt IntKind.u32.bits (z3.fdiv (2 ^ (min (4:Int).toNat IntKind.u32.bits))) ^^^ BitVec.ofInt IntKind.u32.bits (glob_filter_steps.getD z4.toNat 0)).toNat:Int))))=.d (.v (.int .u32 z5)))] 1 (by kernel_rfl) (⟨(show 0≤(4:Int) by decide),⟨trivial,(by subst hz4; rfl)⟩,⟨hp3,glo_ok (cI .u32) 1 16 (by decide) (fun _=>rfl) hp3⟩,⟨trivial,(by subst hz5; rfl)⟩⟩) fun a w hm=>inBlock_norm (then_norm (((?_:T Tryz.prog e 33 _ _ _) a w hm)))
   refine T_reg_end [] [0,3,6,7,1000000] [(7,.d (.v (.int .i64 (IntKind.i64.wrap (v2+(1:Int))))))] [] 2 (by kernel_rfl) (trivial) fun a w hm=>then_norm (⟨(z5,IntKind.i64.wrap (v2+(1:Int))),h,hm.co (cs:=[.keep [0,3,6,7,1000000]]) (by show _=_; kernel_rfl)⟩)
  ·have h:=cond_ff hc h
   obtain hs:=Option.some.inj h; subst hs
   refine T_exit fun a w hm=>then_exit (then_exit (inBlock_exit (then_norm (hm.co (cs:=[.keep [3,1000000]]) (by show _=_; kernel_rfl)))))
 ·skip
  refine fun a w hm=>then_norm (((?_:T Tryz.prog e 33 _ _ _) a w hm))
  obtain ⟨z6,hz6,h⟩:=lett_ok h
  refine T_reg [(1,{ rw:=some (.d (.v (.int .u32 z6))) })] [2,1000000] [(2,.d (.v (.int .u32 z6)))] [(1,(True)∧AV.d (.v (.int .u32 (IntKind.u32.wrap (((BitVec.ofInt IntKind.u32.bits (4294967295)) ^^^ (BitVec.ofInt IntKind.u32.bits v3)).toNat:Int))))=.d (.v (.int .u32 z6)))] 1 (by kernel_rfl) (⟨trivial,(by subst hz6; rfl)⟩) ?_
  obtain hs:=Option.some.inj h; subst hs
  refine T_ret fun a w hm=>T_return (fr':=[(2,.d (.v (.int .u32 z6))),(1000000,.glo 0 (glob_filter_steps.flatMap (cI .u32)))]) [2] (by kernel_rfl) [.keep [2,1000000]] (by kernel_rfl) (by kernel_rfl) (by kernel_rfl) (by show _=_; kernel_rfl) (by exact ⟨⟨by kernel_rfl,by kernel_rfl⟩,trivial⟩) a w hm
theorem slices_Index_string_ok {F:Nat} {a0:List (List UInt8)} {a1:List UInt8} {r:Int} (h:slices_Index_string F a0 a1=some r):ACall Tryz.prog 53 [.d (.sl 1 (a0.map cS)),.d (.str a1)] [] (.d (.v (.int .i64 r))) []:=by
 rw [slices_Index_string] at h
 refine ACall.intro (N:=19) Tryz.func53 rfl rfl rfl rfl rfl fun e=>?_
 refine T_reg [] [0,1] [] [] 1 (by kernel_rfl) (trivial) ?_
 refine T_seqk ?_
 refine T_reg [(1,{ rw:=some (.d (.v (.int .i64 (a0.length:Int)))) })] [0,1,7,8] [(7,.d (.v (.int .i64 (a0.length:Int)))),(8,.d (.v (.int .i64 (0:Int))))] [(1,True∧AV.d (.v (.int .i64 ((a0.map cS).length:Int)))=.d (.v (.int .i64 (a0.length:Int))))] 1 (by kernel_rfl) (len_ok cS) ?_
 refine T_joinEt h (fun (p:Unit)=>[]) (fun s h hk1=>?_) (fun s h=>?_)
 ·refine T_co [.keep [0,1,7,8]] ((fun (p:Int)=>[(0,.d (.sl 1 (a0.map cS))),(1,.d (.str a1)),(7,.d (.v (.int .i64 (a0.length:Int)))),(8,.d (.v (.int .i64 p)))]) (0:Int)) (by show _=_; kernel_rfl) ?_
  refine T_block ?_
  refine T_loopF (ι:=Int) (fun (p:Int)=>[(0,.d (.sl 1 (a0.map cS))),(1,.d (.str a1)),(7,.d (.v (.int .i64 (a0.length:Int)))),(8,.d (.v (.int .i64 p)))]) (fun n p=>slices_Index_string_L0 F a0 a1 n p=some s) (fun i hh=>by simp [slices_Index_string_L0] at hh) (fun n v1 h=>?_) F (0:Int) h
  have h:slices_Index_string_L0 F a0 a1 (n+1) v1=some s:=h
  rw [slices_Index_string_L0] at h
  refine T_reg [] [0,1,7,8,9] [(9,.d (.v (.bool (decide (v1 < (a0.length:Int))))))] [] 1 (by kernel_rfl) (trivial) ?_
  refine T_seqk ?_
  refine T_cond (decide (v1 < (a0.length:Int))) (by kernel_rfl) (fun hc=>?_) (fun hc=>?_)
  ·have h:=cond_tt hc h
   refine T_skip fun a w hm=>then_norm (((?_:T Tryz.prog e 19 _ _ _) a w hm))
   refine T_seqk ?_
   refine T_block ?_
   refine T_reg [] [0,1,5,7,8] [(5,.d (.v (.int .i64 v1)))] [] 2 (by kernel_rfl) (trivial) ?_
   obtain ⟨hp1,h⟩:=chk_ok h
   refine T_reg [(3,{ cs:=cS (a0.getD v1.toNat []) })] [0,1,5,7,8,16] [(16,.d (.v (.bool (a1 == (a0.getD v1.toNat [])))))] [(3,0≤v1∧(a0.map cS)[v1.toNat]? = some (cS (a0.getD v1.toNat [])))] 2 (by kernel_rfl) (idx_ok (d:=[]) cS hp1) ?_
   refine T_cond (a1 == (a0.getD v1.toNat [])) (by kernel_rfl) (fun hc=>?_) (fun hc=>?_)
   ·have h:=cond_tt hc h
    refine T_reg [] [4] [(4,.d (.v (.int .i64 v1)))] [] 2 (by kernel_rfl) (trivial) ?_
    obtain hs:=Option.some.inj h; subst hs
    have h:=callE_esc hk1
    obtain hs:=Option.some.inj h; subst hs
    refine T_ret fun a w hm=>inBlock_ret (then_ret (then_ret (inBlock_ret (then_ret (then_ret (T_return (fr':=[(4,.d (.v (.int .i64 v1)))]) [4] (by kernel_rfl) [.keep [4]] (by kernel_rfl) (by kernel_rfl) (by kernel_rfl) (by show _=_; kernel_rfl) (by exact trivial) a w hm))))))
   ·have h:=cond_ff hc h
    refine T_skip fun a w hm=>inBlock_norm (then_norm (((?_:T Tryz.prog e 19 _ _ _) a w hm)))
    refine T_reg_end [] [0,1,7,8] [(8,.d (.v (.int .i64 (IntKind.i64.wrap (v1+(1:Int))))))] [] 2 (by kernel_rfl) (trivial) fun a w hm=>then_norm (⟨IntKind.i64.wrap (v1+(1:Int)),h,hm.co (cs:=[.keep [0,1,7,8]]) (by show _=_; kernel_rfl)⟩)
  ·have h:=cond_ff hc h
   obtain hs:=Option.some.inj h; subst hs
   refine T_exit fun a w hm=>then_exit (then_exit (inBlock_exit (then_norm (⟨_,rfl,hm.co (cs:=[.keep []]) (by show _=_; kernel_rfl)⟩))))
 ·skip
  refine fun a w hm=>then_norm (((?_:T Tryz.prog e 19 _ _ _) a w hm))
  refine T_reg [] [4] [(4,.d (.v (.int .i64 (-1:Int))))] [] 1 (by kernel_rfl) (trivial) ?_
  obtain hs:=Option.some.inj h; subst hs
  refine T_ret fun a w hm=>T_return (fr':=[(4,.d (.v (.int .i64 (-1:Int))))]) [4] (by kernel_rfl) [.keep [4]] (by kernel_rfl) (by kernel_rfl) (by kernel_rfl) (by show _=_; kernel_rfl) (by exact trivial) a w hm
theorem strings_Clone_ok {F:Nat} {a0:List UInt8} {r:(List UInt8)} (h:strings_Clone F a0=some r):ACall Tryz.prog 54 [.d (.str a0)] [] (.d (.str r)) []:=by
 rw [strings_Clone] at h
 refine ACall.intro (N:=5) Tryz.func54 rfl rfl rfl rfl rfl fun e=>?_
 refine T_reg [] [0] [] [] 1 (by kernel_rfl) (trivial) ?_
 obtain ⟨hp1,h⟩:=chk_ok h
 refine T_reg [(1,{ res:=.d (.str a0) })] [2] [(2,.d (.str a0))] [(1,ACall Tryz.prog 66 [.d (.str a0)] [] (.d (.str a0)) [])] 1 (by kernel_rfl) (b_Clone hp1) ?_
 obtain hs:=Option.some.inj h; subst hs
 refine T_ret fun a w hm=>T_return (fr':=[(2,.d (.str a0))]) [2] (by kernel_rfl) [.keep [2]] (by kernel_rfl) (by kernel_rfl) (by kernel_rfl) (by show _=_; kernel_rfl) (by exact trivial) a w hm
theorem filter_Hex_ok {F:Nat} {a0:Int} {r:(List UInt8)} (h:filter_Hex F a0=some r):ACall Tryz.prog 39 [.d (.v (.int .u32 a0))] [] (.d (.str r)) []:=by
 rw [filter_Hex] at h
 refine ACall.intro (N:=20) Tryz.func39 rfl rfl rfl rfl rfl fun e=>?_
 refine T_reg [] [0] [] [] 1 (by kernel_rfl) (trivial) ?_
 refine T_reg [(0,{ es:=some ((List.replicate 8 0).map cU) })] [0,3] [(3,.arr 101 1 ((List.replicate 8 0).map cU))] [(0,ArrZero Tryz.prog 101 8 5∧List.replicate 8 (cU 0)=((List.replicate 8 0).map cU))] 0 (by kernel_rfl) (⟨(by show _=_; kernel_rfl),repl_ok cU rfl⟩) ?_
 refine T_seqk ?_
 refine T_reg [] [0,3,5] [(5,.d (.v (.int .i64 (0:Int))))] [] 1 (by kernel_rfl) (trivial) ?_
 refine T_joinct h (fun (p:(List UInt8))=>[(3,.arr 101 1 (p.map cU))]) (fun s h=>?_) (fun v3 h=>?_)
 ·refine T_co [.keep [0,3,5]] ((fun (p:(List UInt8)×Int)=>[(0,.d (.v (.int .u32 a0))),(3,.arr 101 1 (p.1.map cU)),(5,.d (.v (.int .i64 p.2)))]) ((List.replicate 8 0),(0:Int))) (by show _=_; kernel_rfl) ?_
  refine T_block ?_
  refine T_loopF (ι:=(List UInt8)×Int) (fun (p:(List UInt8)×Int)=>[(0,.d (.v (.int .u32 a0))),(3,.arr 101 1 (p.1.map cU)),(5,.d (.v (.int .i64 p.2)))]) (fun n p=>filter_Hex_L0 F a0 n p.1 p.2=some s) (fun i hh=>by simp [filter_Hex_L0] at hh) (fun n p h=>?_) F ((List.replicate 8 0),(0:Int)) h
  obtain ⟨v1,v2⟩:=p
  have h:filter_Hex_L0 F a0 (n+1) v1 v2=some s:=h
  rw [filter_Hex_L0] at h
  refine T_reg [] [0,3,5,6] [(6,.d (.v (.bool (decide (v2 < (8:Int))))))] [] 1 (by kernel_rfl) (trivial) ?_
  refine T_seqk ?_
  refine T_cond (decide (v2 < (8:Int))) (by kernel_rfl) (fun hc=>?_) (fun hc=>?_)
  ·have h:=cond_tt hc h
   refine T_skip fun a w hm=>then_norm (((?_:T Tryz.prog e 20 _ _ _) a w hm))
   refine T_seqk ?_
   refine T_block ?_
   refine T_reg [] [0,3,4,5] [(4,.d (.v (.int .i64 v2)))] [] 2 (by kernel_rfl) (trivial) ?_
   obtain ⟨hp1,h⟩:=chk_ok h
   obtain ⟨z1,hz1,h⟩:=lett_ok h
   obtain ⟨z2,hz2,h⟩:=lett_ok h
   obtain ⟨hp2,h⟩:=chk_ok h
   obtain ⟨z3,hz3,h⟩:=lett_ok h
   obtain ⟨hp3,h⟩:=chk_ok h
   obtain ⟨hp4,h⟩:=chk_ok h
   refine T_reg_end [(5,{ rw:=some (.d (.v (.int .u32 z1))) }),(6,{ rw:=some (.d (.v (.int .u32 z2))) }),(7,{ rw:=some (.d (.v (.int .u8 z3))) }),(9,{ cs:=cU (v1.getD v2.toNat 0),es:=some ((v1.set v2.toNat (UInt8.ofNat z3.toNat)).map cU) })] [0,3,5] [(3,.arr 101 1 ((v1.set v2.toNat (UInt8.ofNat z3.toNat)).map cU))] [(5,(0≤(IntKind.i64.wrap ((28:Int) - (IntKind.i64.wrap ((4:Int) * v2)))))∧AV.d (.v (.int .u32 (a0.fdiv (2 ^ (min (IntKind.i64.wrap ((28:Int) - (IntKind.i64.wrap ((4:Int) * v2)))).toNat IntKind.u32.bits)))))=.d (.v (.int .u32 z1))),(0,(True)∧AV.d (.v (.int .u32 (IntKind.u32.wrap ((BitVec.ofInt IntKind.u32.bits z1 &&& BitVec.ofInt IntKind.u32.bits (15:Int)).toNat:Int))))=.d (.v (.int .u32 z2))),(0,(0≤z2∧z2 < ([48,49,50,51,52,53,54,55,56,57,97,98,99,100,101,102]:List UInt8).length)∧AV.d (.v (.int .u8 ((([48,49,50,51,52,53,54,55,56,57,97,98,99,100,101,102]:List UInt8).getD z2.toNat 0).toNat:Int)))=.d (.v (.int .u8 z3))),(0,0≤v2∧v2 < 8),(0,(v1.map cU)[v2.toNat]? = some (cU (v1.getD v2.toNat 0))∧(v1.map cU).set v2.toNat ([Dat.v (.int .u8 z3)])=((v1.set v2.toNat (UInt8.ofNat z3.toNat)).map cU))] 0 (by kernel_rfl) (⟨⟨hp1,(by subst hz1; rfl)⟩,⟨trivial,(by subst hz2; rfl)⟩,⟨hp2,(by subst hz3; rfl)⟩,(hp3).1,⟨(idx_ok (d:=0) cU ⟨(hp3).1.1,(hp3).2⟩).2,set_ok cU (cU_ofInt hp4)⟩⟩) fun a w hm=>inBlock_norm (then_norm (((?_:T Tryz.prog e 20 _ _ _) a w hm)))
   refine T_reg_end [] [0,3,5] [(5,.d (.v (.int .i64 (IntKind.i64.wrap (v2+(1:Int))))))] [] 2 (by kernel_rfl) (trivial) fun a w hm=>then_norm (⟨((v1.set v2.toNat (UInt8.ofNat z3.toNat)),IntKind.i64.wrap (v2+(1:Int))),h,hm.co (cs:=[.keep [0,3,5]]) (by show _=_; kernel_rfl)⟩)
  ·have h:=cond_ff hc h
   obtain hs:=Option.some.inj h; subst hs
   refine T_exit fun a w hm=>then_exit (then_exit (inBlock_exit (then_norm (hm.co (cs:=[.keep [3]]) (by show _=_; kernel_rfl)))))
 ·skip
  refine fun a w hm=>then_norm (((?_:T Tryz.prog e 20 _ _ _) a w hm))
  obtain ⟨hp5,h⟩:=chk_ok h
  refine T_reg [(0,{ frz:=[(3,0)],es:=some (((v3.drop (0:Int).toNat).take (((8:Nat):Int).toNat - (0:Int).toNat)).map cU) }),(1,{ cs:=[.str ((v3.drop (0:Int).toNat).take (((8:Nat):Int).toNat - (0:Int).toNat))] })] [2] [(2,.d (.str ((v3.drop (0:Int).toNat).take (((8:Nat):Int).toNat - (0:Int).toNat))))] [(0,(0≤(0:Int)∧(0:Int)≤((8:Nat):Int)∧((8:Nat):Int)≤((8:Nat):Int))∧(((v3.map cU).flatten.drop ((0:Int).toNat * 1)).take ((((8:Nat):Int).toNat - (0:Int).toNat) * 1)=(((v3.drop (0:Int).toNat).take (((8:Nat):Int).toNat - (0:Int).toNat)).map cU).flatten∧(((v3.drop (0:Int).toNat).take (((8:Nat):Int).toNat - (0:Int).toNat)).map cU).length=((8:Nat):Int).toNat - (0:Int).toNat∧∀ e∈(((v3.drop (0:Int).toNat).take (((8:Nat):Int).toNat - (0:Int).toNat)).map cU),e.length=1)),(0,(((v3.drop (0:Int).toNat).take (((8:Nat):Int).toNat - (0:Int).toNat)).map cU)=byteCells ((v3.drop (0:Int).toNat).take (((8:Nat):Int).toNat - (0:Int).toNat)))] 1 (by kernel_rfl) (⟨arrcut_ok cU 1 (fun _=>rfl) hp5,rfl⟩) ?_
  obtain hs:=Option.some.inj h; subst hs
  refine T_ret fun a w hm=>T_return (fr':=[(2,.d (.str ((v3.drop (0:Int).toNat).take (((8:Nat):Int).toNat - (0:Int).toNat))))]) [2] (by kernel_rfl) [.keep [2]] (by kernel_rfl) (by kernel_rfl) (by kernel_rfl) (by show _=_; kernel_rfl) (by exact trivial) a w hm
theorem archive_sealed_ok {F:Nat} {a0:List UInt8} {r:(List UInt8)} (h:archive_sealed F a0=some r):ACall Tryz.prog 17 [.d (.str a0)] [.glo 0 (glob_filter_steps.flatMap (cI .u32))] (.d (.str r)) [.glo 0 (glob_filter_steps.flatMap (cI .u32))]:=by
 rw [archive_sealed] at h
 refine ACall.intro (N:=10) Tryz.func17 rfl rfl rfl rfl rfl fun e=>?_
 refine T_reg [] [0,1000000] [] [] 1 (by kernel_rfl) (trivial) ?_
 obtain ⟨hp1,h⟩:=chk_ok h
 obtain ⟨y1,hy1,h⟩:=call_ok h
 obtain ⟨y2,hy2,h⟩:=call_ok h
 obtain ⟨hp2,h⟩:=chk_ok h
 obtain ⟨hp3,h⟩:=chk_ok h
 refine T_reg [(3,{ res:=.d (.v (.int .u32 y1)),vout:=[.glo 0 (glob_filter_steps.flatMap (cI .u32))],xs:=[1000000] }),(4,{ res:=.d (.str y2) })] [2,1000000] [(2,.d (.str (((a0++([32]:List UInt8))++y2)++([10]:List UInt8))))] [(1,a0.length+([32]:List UInt8).length≤9223372036854775807),(1,ACall Tryz.prog 40 [.d (.str a0)] [.glo 0 (glob_filter_steps.flatMap (cI .u32))] (.d (.v (.int .u32 y1))) [.glo 0 (glob_filter_steps.flatMap (cI .u32))]),(0,ACall Tryz.prog 39 [.d (.v (.int .u32 y1))] [] (.d (.str y2)) []),(0,(a0++([32]:List UInt8)).length+y2.length≤9223372036854775807),(0,((a0++([32]:List UInt8))++y2).length+([10]:List UInt8).length≤9223372036854775807)] 1 (by kernel_rfl) (⟨hp1,filter_Sum_ok hy1,filter_Hex_ok hy2,hp2,hp3⟩) ?_
 obtain hs:=Option.some.inj h; subst hs
 refine T_ret fun a w hm=>T_return (fr':=[(2,.d (.str (((a0++([32]:List UInt8))++y2)++([10]:List UInt8)))),(1000000,.glo 0 (glob_filter_steps.flatMap (cI .u32)))]) [2] (by kernel_rfl) [.keep [2,1000000]] (by kernel_rfl) (by kernel_rfl) (by kernel_rfl) (by show _=_; kernel_rfl) (by exact ⟨⟨by kernel_rfl,by kernel_rfl⟩,trivial⟩) a w hm
theorem filter_Check_ok {F:Nat} {a0:List S_FilterStep} {r:Int} (h:filter_Check F a0=some r):ACall Tryz.prog 63 [.d (.sl 2 (a0.map cS_FilterStep))] [] (.d (.v (.int .i64 r))) []:=by
 rw [filter_Check] at h
 refine ACall.intro (N:=47) Tryz.func63 rfl rfl rfl rfl rfl fun e=>?_
 refine T_reg [] [0] [] [] 1 (by kernel_rfl) (trivial) ?_
 refine T_seqk ?_
 refine T_reg [(1,{ rw:=some (.d (.v (.int .i64 (a0.length:Int)))) })] [0,7] [(7,.d (.v (.bool (decide ((a0.length:Int) > (4:Int))))))] [(1,True∧AV.d (.v (.int .i64 ((a0.map cS_FilterStep).length:Int)))=.d (.v (.int .i64 (a0.length:Int))))] 1 (by kernel_rfl) (len_ok cS_FilterStep) ?_
 refine T_cond (decide ((a0.length:Int) > (4:Int))) (by kernel_rfl) (fun hc=>?_) (fun hc=>?_)
 ·have h:=cond_tt hc h
  refine T_reg [] [2] [(2,.d (.v (.int .i64 (2:Int))))] [] 1 (by kernel_rfl) (trivial) ?_
  obtain hs:=Option.some.inj h; subst hs
  refine T_ret fun a w hm=>then_ret (T_return (fr':=[(2,.d (.v (.int .i64 (2:Int))))]) [2] (by kernel_rfl) [.keep [2]] (by kernel_rfl) (by kernel_rfl) (by kernel_rfl) (by show _=_; kernel_rfl) (by exact trivial) a w hm)
 ·have h:=cond_ff hc h
  refine T_skip fun a w hm=>then_norm (((?_:T Tryz.prog e 47 _ _ _) a w hm))
  refine T_seqk ?_
  refine T_reg [(1,{ rw:=some (.d (.v (.int .i64 (a0.length:Int)))) })] [8,9,10] [(8,.d (.sl 2 (a0.map cS_FilterStep))),(9,.d (.v (.int .i64 (a0.length:Int)))),(10,.d (.v (.int .i64 (0:Int))))] [(1,True∧AV.d (.v (.int .i64 ((a0.map cS_FilterStep).length:Int)))=.d (.v (.int .i64 (a0.length:Int))))] 1 (by kernel_rfl) (len_ok cS_FilterStep) ?_
  refine T_joinEt h (fun (p:Unit)=>[]) (fun s h hk1=>?_) (fun s h=>?_)
  ·refine T_co [.keep [8,9,10]] ((fun (p:Int)=>[(8,.d (.sl 2 (a0.map cS_FilterStep))),(9,.d (.v (.int .i64 (a0.length:Int)))),(10,.d (.v (.int .i64 p)))]) (0:Int)) (by show _=_; kernel_rfl) ?_
   refine T_block ?_
   refine T_loopF (ι:=Int) (fun (p:Int)=>[(8,.d (.sl 2 (a0.map cS_FilterStep))),(9,.d (.v (.int .i64 (a0.length:Int)))),(10,.d (.v (.int .i64 p)))]) (fun n p=>filter_Check_L0 F a0 n p=some s) (fun i hh=>by simp [filter_Check_L0] at hh) (fun n v1 h=>?_) F (0:Int) h
   have h:filter_Check_L0 F a0 (n+1) v1=some s:=h
   rw [filter_Check_L0] at h
   refine T_reg [] [8,9,10,11] [(11,.d (.v (.bool (decide (v1 < (a0.length:Int))))))] [] 1 (by kernel_rfl) (trivial) ?_
   refine T_seqk ?_
   refine T_cond (decide (v1 < (a0.length:Int))) (by kernel_rfl) (fun hc=>?_) (fun hc=>?_)
   ·have h:=cond_tt hc h
    refine T_skip fun a w hm=>then_norm (((?_:T Tryz.prog e 47 _ _ _) a w hm))
    refine T_seqk ?_
    refine T_block ?_
    obtain ⟨hp1,h⟩:=chk_ok h
    refine T_reg [(0,{ cs:=cS_FilterStep (a0.getD v1.toNat (S_FilterStep.mk 0 0)) })] [4,8,9,10] [(4,.box [.d (.v (.int .i64 ((a0.getD v1.toNat (S_FilterStep.mk 0 0)).f0))),.d (.v (.int .i64 ((a0.getD v1.toNat (S_FilterStep.mk 0 0)).f1)))])] [(0,0≤v1∧(a0.map cS_FilterStep)[v1.toNat]? = some (cS_FilterStep (a0.getD v1.toNat (S_FilterStep.mk 0 0))))] 3 (by kernel_rfl) (idx_ok (d:=(S_FilterStep.mk 0 0)) cS_FilterStep hp1) ?_
    refine T_block ?_
    obtain ⟨z1,hz1,h⟩:=lett_ok h
    refine T_reg [(7,{ rw:=some (.d (.v (.bool z1))) })] [4,8,9,10,14] [(14,.d (.v (.bool z1)))] [(4,((((decide (((a0.getD v1.toNat (S_FilterStep.mk 0 0)).f0) < (1:Int))) == false) && true)=true→True)),(0,((((decide (((a0.getD v1.toNat (S_FilterStep.mk 0 0)).f0) < (1:Int))) == false) && true)=true→True)),(0,((((decide (((a0.getD v1.toNat (S_FilterStep.mk 0 0)).f0) < (1:Int))) == false) && true)=true→True)),(0,(True)∧AV.d (.v (.bool (bif (decide (((a0.getD v1.toNat (S_FilterStep.mk 0 0)).f0) < (1:Int))) then true else (decide (((a0.getD v1.toNat (S_FilterStep.mk 0 0)).f0) > (4:Int))))))=.d (.v (.bool z1)))] 1 (by kernel_rfl) (⟨(fun hg=>trivial),(fun hg=>trivial),(fun hg=>trivial),⟨trivial,(by subst hz1; rfl)⟩⟩) ?_
    refine T_cond z1 (by kernel_rfl) (fun hc=>?_) (fun hc=>?_)
    ·have h:=cond_tt hc h
     refine T_reg [] [2] [(2,.d (.v (.int .i64 (14:Int))))] [] 1 (by kernel_rfl) (trivial) ?_
     obtain hs:=Option.some.inj h; subst hs
     have h:=callE_esc hk1
     obtain hs:=Option.some.inj h; subst hs
     refine T_ret fun a w hm=>inBlock_ret (inBlock_ret (then_ret (then_ret (inBlock_ret (then_ret (then_ret (T_return (fr':=[(2,.d (.v (.int .i64 (14:Int))))]) [2] (by kernel_rfl) [.keep [2]] (by kernel_rfl) (by kernel_rfl) (by kernel_rfl) (by show _=_; kernel_rfl) (by exact trivial) a w hm)))))))
    ·have h:=cond_ff hc h
     obtain ⟨z2,hz2,h⟩:=lett_ok h
     refine T_reg [(11,{ rw:=some (.d (.v (.bool z2))) })] [4,8,9,10,23] [(23,.d (.v (.bool (bif (((a0.getD v1.toNat (S_FilterStep.mk 0 0)).f0) == (2:Int)) then z2 else false))))] [(4,((((((a0.getD v1.toNat (S_FilterStep.mk 0 0)).f0) == (2:Int)) == true) && true)=true→True)),(0,((((((a0.getD v1.toNat (S_FilterStep.mk 0 0)).f0) == (2:Int)) == true) && true)=true→True)),(0,((((((a0.getD v1.toNat (S_FilterStep.mk 0 0)).f0) == (2:Int)) == true) && true)=true→True)),(0,((((((a0.getD v1.toNat (S_FilterStep.mk 0 0)).f0) == (2:Int)) == true) && true)=true→True)),(0,((((decide (((a0.getD v1.toNat (S_FilterStep.mk 0 0)).f1) < (1:Int))) == false) && (((((a0.getD v1.toNat (S_FilterStep.mk 0 0)).f0) == (2:Int)) == true) && true))=true→True)),(0,((((decide (((a0.getD v1.toNat (S_FilterStep.mk 0 0)).f1) < (1:Int))) == false) && (((((a0.getD v1.toNat (S_FilterStep.mk 0 0)).f0) == (2:Int)) == true) && true))=true→True)),(0,((((decide (((a0.getD v1.toNat (S_FilterStep.mk 0 0)).f1) < (1:Int))) == false) && (((((a0.getD v1.toNat (S_FilterStep.mk 0 0)).f0) == (2:Int)) == true) && true))=true→True)),(0,((((((a0.getD v1.toNat (S_FilterStep.mk 0 0)).f0) == (2:Int)) == true) && true)=true→(True)∧AV.d (.v (.bool (bif (decide (((a0.getD v1.toNat (S_FilterStep.mk 0 0)).f1) < (1:Int))) then true else (decide (((a0.getD v1.toNat (S_FilterStep.mk 0 0)).f1) > (1024:Int))))))=.d (.v (.bool z2))))] 2 (by kernel_rfl) (⟨(fun hg=>trivial),(fun hg=>trivial),(fun hg=>trivial),(fun hg=>trivial),(fun hg=>trivial),(fun hg=>trivial),(fun hg=>trivial),(fun hg=>⟨trivial,(by subst hz2; rfl)⟩)⟩) ?_
     refine T_cond (bif (((a0.getD v1.toNat (S_FilterStep.mk 0 0)).f0) == (2:Int)) then z2 else false) (by kernel_rfl) (fun hc=>?_) (fun hc=>?_)
     ·have h:=cond_tt hc h
      refine T_reg [] [2] [(2,.d (.v (.int .i64 (3:Int))))] [] 1 (by kernel_rfl) (trivial) ?_
      obtain hs:=Option.some.inj h; subst hs
      have h:=callE_esc hk1
      obtain hs:=Option.some.inj h; subst hs
      refine T_ret fun a w hm=>inBlock_ret (inBlock_ret (then_ret (then_ret (inBlock_ret (then_ret (then_ret (T_return (fr':=[(2,.d (.v (.int .i64 (3:Int))))]) [2] (by kernel_rfl) [.keep [2]] (by kernel_rfl) (by kernel_rfl) (by kernel_rfl) (by show _=_; kernel_rfl) (by exact trivial) a w hm)))))))
     ·have h:=cond_ff hc h
      obtain ⟨z3,hz3,h⟩:=lett_ok h
      refine T_reg [(7,{ rw:=some (.d (.v (.bool z3))) })] [8,9,10,37] [(37,.d (.v (.bool z3)))] [(4,((((((a0.getD v1.toNat (S_FilterStep.mk 0 0)).f0) != (2:Int)) == true) && true)=true→True)),(0,((((((a0.getD v1.toNat (S_FilterStep.mk 0 0)).f0) != (2:Int)) == true) && true)=true→True)),(0,((((((a0.getD v1.toNat (S_FilterStep.mk 0 0)).f0) != (2:Int)) == true) && true)=true→True)),(0,(True)∧AV.d (.v (.bool (bif (((a0.getD v1.toNat (S_FilterStep.mk 0 0)).f0) != (2:Int)) then (((a0.getD v1.toNat (S_FilterStep.mk 0 0)).f1) != (0:Int)) else false)))=.d (.v (.bool z3)))] 1 (by kernel_rfl) (⟨(fun hg=>trivial),(fun hg=>trivial),(fun hg=>trivial),⟨trivial,(by subst hz3; rfl)⟩⟩) ?_
      refine T_cond z3 (by kernel_rfl) (fun hc=>?_) (fun hc=>?_)
      ·have h:=cond_tt hc h
       refine T_reg [] [2] [(2,.d (.v (.int .i64 (4:Int))))] [] 1 (by kernel_rfl) (trivial) ?_
       obtain hs:=Option.some.inj h; subst hs
       have h:=callE_esc hk1
       obtain hs:=Option.some.inj h; subst hs
       refine T_ret fun a w hm=>inBlock_ret (inBlock_ret (then_ret (then_ret (inBlock_ret (then_ret (then_ret (T_return (fr':=[(2,.d (.v (.int .i64 (4:Int))))]) [2] (by kernel_rfl) [.keep [2]] (by kernel_rfl) (by kernel_rfl) (by kernel_rfl) (by show _=_; kernel_rfl) (by exact trivial) a w hm)))))))
      ·have h:=cond_ff hc h
       refine T_skip fun a w hm=>inBlock_norm (inBlock_norm (then_norm (((?_:T Tryz.prog e 47 _ _ _) a w hm))))
       refine T_reg_end [] [8,9,10] [(10,.d (.v (.int .i64 (IntKind.i64.wrap (v1+(1:Int))))))] [] 2 (by kernel_rfl) (trivial) fun a w hm=>then_norm (⟨IntKind.i64.wrap (v1+(1:Int)),h,hm.co (cs:=[.keep [8,9,10]]) (by show _=_; kernel_rfl)⟩)
   ·have h:=cond_ff hc h
    obtain hs:=Option.some.inj h; subst hs
    refine T_exit fun a w hm=>then_exit (then_exit (inBlock_exit (then_norm (⟨_,rfl,hm.co (cs:=[.keep []]) (by show _=_; kernel_rfl)⟩))))
  ·skip
   refine fun a w hm=>then_norm (((?_:T Tryz.prog e 47 _ _ _) a w hm))
   refine T_reg [] [2] [(2,.d (.v (.int .i64 (0:Int))))] [] 1 (by kernel_rfl) (trivial) ?_
   obtain hs:=Option.some.inj h; subst hs
   refine T_ret fun a w hm=>T_return (fr':=[(2,.d (.v (.int .i64 (0:Int))))]) [2] (by kernel_rfl) [.keep [2]] (by kernel_rfl) (by kernel_rfl) (by kernel_rfl) (by show _=_; kernel_rfl) (by exact trivial) a w hm
theorem filter_codingOf_ok {F:Nat} {a0:S_FilterStep} {r:I_filter_coding} (h:filter_codingOf F a0=some r):ACall Tryz.prog 64 [.agg (cS_FilterStep a0)] [] (.d (.v (vI_filter_coding r))) []:=by
 rw [filter_codingOf] at h
 refine ACall.intro (N:=21) Tryz.func64 rfl rfl rfl rfl rfl fun e=>?_
 refine T_reg [] [1] [(1,.box [.d (.v (.int .i64 a0.f0)),.d (.v (.int .i64 a0.f1))])] [] 2 (by kernel_rfl) (trivial) ?_
 refine T_seqk ?_
 refine T_reg [] [1,4] [(4,.d (.v (.int .i64 a0.f0)))] [] 2 (by kernel_rfl) (trivial) ?_
 refine T_block ?_
 refine T_reg [] [1,4,5] [(5,.d (.v (.bool (a0.f0 == (1:Int)))))] [] 2 (by kernel_rfl) (trivial) ?_
 refine T_cond (a0.f0 == (1:Int)) (by kernel_rfl) (fun hc=>?_) (fun hc=>?_)
 ·have h:=cond_tt hc h
  refine T_reg [] [2] [(2,.d (.v (vI_filter_coding (I_filter_coding.k_runs (S_filter_copies.mk )))))] [] 3 (by kernel_rfl) (trivial) ?_
  obtain hs:=Option.some.inj h; subst hs
  refine T_ret fun a w hm=>inBlock_ret (then_ret (T_return (fr':=[(2,.d (.v (vI_filter_coding (I_filter_coding.k_runs (S_filter_copies.mk )))))]) [2] (by kernel_rfl) [.keep [2]] (by kernel_rfl) (by kernel_rfl) (by kernel_rfl) (by show _=_; kernel_rfl) (by exact trivial) a w hm))
 ·have h:=cond_ff hc h
  refine T_reg [] [1,4,9] [(9,.d (.v (.bool (a0.f0 == (2:Int)))))] [] 2 (by kernel_rfl) (trivial) ?_
  refine T_cond (a0.f0 == (2:Int)) (by kernel_rfl) (fun hc=>?_) (fun hc=>?_)
  ·have h:=cond_tt hc h
   refine T_reg [] [2] [(2,.d (.v (vI_filter_coding (I_filter_coding.k_rows (S_filter_rows.mk a0.f1)))))] [] 5 (by kernel_rfl) (trivial) ?_
   obtain hs:=Option.some.inj h; subst hs
   refine T_ret fun a w hm=>inBlock_ret (then_ret (T_return (fr':=[(2,.d (.v (vI_filter_coding (I_filter_coding.k_rows (S_filter_rows.mk a0.f1)))))]) [2] (by kernel_rfl) [.keep [2]] (by kernel_rfl) (by kernel_rfl) (by kernel_rfl) (by show _=_; kernel_rfl) (by exact trivial) a w hm))
  ·have h:=cond_ff hc h
   refine T_reg [] [15] [(15,.d (.v (.bool (a0.f0 == (3:Int)))))] [] 2 (by kernel_rfl) (trivial) ?_
   refine T_cond (a0.f0 == (3:Int)) (by kernel_rfl) (fun hc=>?_) (fun hc=>?_)
   ·have h:=cond_tt hc h
    refine T_reg [] [2] [(2,.d (.v (vI_filter_coding (I_filter_coding.k_copies (S_filter_copies.mk )))))] [] 3 (by kernel_rfl) (trivial) ?_
    obtain hs:=Option.some.inj h; subst hs
    refine T_ret fun a w hm=>inBlock_ret (then_ret (T_return (fr':=[(2,.d (.v (vI_filter_coding (I_filter_coding.k_copies (S_filter_copies.mk )))))]) [2] (by kernel_rfl) [.keep [2]] (by kernel_rfl) (by kernel_rfl) (by kernel_rfl) (by show _=_; kernel_rfl) (by exact trivial) a w hm))
   ·have h:=cond_ff hc h
    refine T_skip fun a w hm=>inBlock_norm (then_norm (((?_:T Tryz.prog e 21 _ _ _) a w hm)))
    refine T_reg [] [2] [(2,.d (.v (vI_filter_coding (I_filter_coding.k_text (S_filter_copies.mk )))))] [] 3 (by kernel_rfl) (trivial) ?_
    obtain hs:=Option.some.inj h; subst hs
    refine T_ret fun a w hm=>T_return (fr':=[(2,.d (.v (vI_filter_coding (I_filter_coding.k_text (S_filter_copies.mk )))))]) [2] (by kernel_rfl) [.keep [2]] (by kernel_rfl) (by kernel_rfl) (by kernel_rfl) (by show _=_; kernel_rfl) (by exact trivial) a w hm
theorem strings_Builder_WriteString_ok {F:Nat} {a0:List UInt8} {c1:List UInt8} {r:Int×Unit×(List UInt8)} (h:strings_Builder_WriteString F a0 c1=some r):ACall Tryz.prog 31 [.bp 1000000 0,.d (.str a0)] [.box [.slf 0 74,.own 5 1 (c1.map cU)]] (.tup [.d (.v (.int .i64 r.1)),.d (.v .nilIface)]) [.box [.slf 0 74,.own 5 1 (r.2.2.map cU)]]:=by
 rw [strings_Builder_WriteString] at h
 refine ACall.intro (N:=19) Tryz.func31 rfl rfl rfl rfl rfl fun e=>?_
 refine T_reg [] [0,1,1000000] [] [] 2 (by kernel_rfl) (trivial) ?_
 refine T_reg [(1,{ xs:=[1000000],res:=.tup [],vout:=[.box [.slf 0 74,.own 5 1 (c1.map cU)]] })] [0,1,1000000] [] [(1,ACall Tryz.prog 51 [.bp 1000000 0] [.box [.slf 0 74,.own 5 1 (c1.map cU)]] (.tup []) [.box [.slf 0 74,.own 5 1 (c1.map cU)]])] 0 (by kernel_rfl) (b_copyCheck (E:=74) (by kernel_rfl) (by kernel_rfl) (by kernel_rfl)) ?_
 obtain ⟨hp1,h⟩:=chk_ok h
 refine T_reg [(6,{ es:=some ((c1++a0).map cU) })] [1,1000000] [(1000000,.box [.slf 0 74,.own 5 1 ((c1++a0).map cU)])] [(6,(c1.map cU).length+(a0.map cU).length≤4294967296∧(c1.map cU)++(a0.map cU)=((c1++a0).map cU))] 3 (by kernel_rfl) (app_ok cU hp1) ?_
 refine T_reg [] [4,5,1000000] [(4,.d (.v (.int .i64 (a0.length:Int)))),(5,.d (.v .nilIface))] [] 4 (by kernel_rfl) (trivial) ?_
 obtain hs:=Option.some.inj h; subst hs
 refine T_ret fun a w hm=>T_return (fr':=[(4,.d (.v (.int .i64 (a0.length:Int)))),(5,.d (.v .nilIface)),(1000000,.box [.slf 0 74,.own 5 1 ((c1++a0).map cU)])]) [4,5] (by kernel_rfl) [.keep [4,5,1000000]] (by kernel_rfl) (by kernel_rfl) (by kernel_rfl) (by show _=_; kernel_rfl) (by exact ⟨⟨by kernel_rfl,by kernel_rfl⟩,trivial⟩) a w hm
theorem strings_Builder_Len_ok {F:Nat} {c0:List UInt8} {r:Int×(List UInt8)} (h:strings_Builder_Len F c0=some r):ACall Tryz.prog 44 [.bp 1000000 0] [.box [.slf 0 74,.own 5 1 (c0.map cU)]] (.d (.v (.int .i64 r.1))) [.box [.slf 0 74,.own 5 1 (r.2.map cU)]]:=by
 rw [strings_Builder_Len] at h
 refine ACall.intro (N:=8) Tryz.func44 rfl rfl rfl rfl rfl fun e=>?_
 refine T_reg [] [0,1000000] [] [] 1 (by kernel_rfl) (trivial) ?_
 refine T_reg [(4,{ rw:=some (.d (.v (.int .i64 (c0.length:Int)))) })] [2,1000000] [(2,.d (.v (.int .i64 (c0.length:Int))))] [(4,True∧AV.d (.v (.int .i64 ((c0.map cU).length:Int)))=.d (.v (.int .i64 (c0.length:Int))))] 1 (by kernel_rfl) (len_ok cU) ?_
 obtain hs:=Option.some.inj h; subst hs
 refine T_ret fun a w hm=>T_return (fr':=[(2,.d (.v (.int .i64 (c0.length:Int)))),(1000000,.box [.slf 0 74,.own 5 1 (c0.map cU)])]) [2] (by kernel_rfl) [.keep [2,1000000]] (by kernel_rfl) (by kernel_rfl) (by kernel_rfl) (by show _=_; kernel_rfl) (by exact ⟨⟨by kernel_rfl,by kernel_rfl⟩,trivial⟩) a w hm
theorem filter_runs_decode_ok {F:Nat} {a0:S_filter_copies} {a1:List UInt8} {r:(List UInt8)×Int} (h:filter_runs_decode F a0 a1=some r):ACall Tryz.prog 120 [.agg (cS_filter_copies a0),.d (.str a1)] [] (.tup [.d (.str r.1),.d (.v (.int .i64 r.2))]) []:=by
 rw [filter_runs_decode] at h
 refine ACall.intro (N:=67) Tryz.func120 rfl rfl rfl rfl rfl fun e=>?_
 refine T_reg [] [1] [] [] 3 (by kernel_rfl) (trivial) ?_
 refine T_reg [(0,{ slfs:=[(0,0)] })] [1,6] [(6,.box [.slf 0 74,.own 5 1 ([].map cU)])] [] 1 (by kernel_rfl) (trivial) ?_
 refine T_seqk ?_
 refine T_reg [] [1,6,7] [(7,.d (.v (.int .i64 (0:Int))))] [] 1 (by kernel_rfl) (trivial) ?_
 refine T_joinEt h (fun (p:(List UInt8))=>[(6,.box [.slf 0 74,.own 5 1 (p.map cU)])]) (fun s h hk1=>?_) (fun v6 h=>?_)
 ·refine T_co [.keep [1,6,7]] ((fun (p:(List UInt8)×Int)=>[(1,.d (.str a1)),(6,.box [.slf 0 74,.own 5 1 (p.1.map cU)]),(7,.d (.v (.int .i64 p.2)))]) ([],(0:Int))) (by show _=_; kernel_rfl) ?_
  refine T_block ?_
  refine T_loopF (ι:=(List UInt8)×Int) (fun (p:(List UInt8)×Int)=>[(1,.d (.str a1)),(6,.box [.slf 0 74,.own 5 1 (p.1.map cU)]),(7,.d (.v (.int .i64 p.2)))]) (fun n p=>filter_runs_decode_L0 F a1 n p.1 p.2=some s) (fun i hh=>by simp [filter_runs_decode_L0] at hh) (fun n p h=>?_) F ([],(0:Int)) h
  obtain ⟨v1,v2⟩:=p
  have h:filter_runs_decode_L0 F a1 (n+1) v1 v2=some s:=h
  rw [filter_runs_decode_L0] at h
  refine T_seqk ?_
  refine T_reg [] [1,6,7,12] [(12,.d (.v (.bool (decide (v2 < (a1.length:Int))))))] [] 4 (by kernel_rfl) (trivial) ?_
  refine T_cond (decide (v2 < (a1.length:Int))) (by kernel_rfl) (fun hc=>?_) (fun hc=>?_)
  ·have h:=cond_tt hc h
   refine T_skip fun a w hm=>then_norm (((?_:T Tryz.prog e 67 _ _ _) a w hm))
   refine T_block ?_
   obtain ⟨hp1,h⟩:=chk_ok h
   refine T_reg [] [1,6,7,8] [(8,.d (.v (.int .i64 (IntKind.i64.wrap ((a1.getD v2.toNat 0).toNat:Int)))))] [(2,0≤v2∧v2 < a1.length)] 2 (by kernel_rfl) (hp1) ?_
   refine T_reg [] [1,6,7,8] [(7,.d (.v (.int .i64 (IntKind.i64.wrap (v2+(1:Int))))))] [] 3 (by kernel_rfl) (trivial) ?_
   refine T_joinE h (fun (p:(List UInt8)×Int)=>[(1,.d (.str a1)),(6,.box [.slf 0 74,.own 5 1 (p.1.map cU)]),(7,.d (.v (.int .i64 p.2)))]) (fun s h hk2=>?_) (fun s h=>?_)
   ·refine T_block ?_
    refine T_reg [] [1,6,7,8,30] [(30,.d (.v (.bool ((IntKind.i64.wrap ((a1.getD v2.toNat 0).toNat:Int)) == (128:Int)))))] [] 3 (by kernel_rfl) (trivial) ?_
    refine T_cond ((IntKind.i64.wrap ((a1.getD v2.toNat 0).toNat:Int)) == (128:Int)) (by kernel_rfl) (fun hc=>?_) (fun hc=>?_)
    ·have h:=cond_tt hc h
     refine T_reg [] [4,5] [(4,.d (.str [])),(5,.d (.v (.int .i64 (5:Int))))] [] 2 (by kernel_rfl) (trivial) ?_
     obtain hs:=Option.some.inj h; subst hs
     have h:=callE_esc hk2
     obtain hs:=Option.some.inj h; subst hs
     have h:=callE_esc hk1
     obtain hs:=Option.some.inj h; subst hs
     refine T_ret fun a w hm=>inBlock_ret (then_ret (inBlock_ret (then_ret (inBlock_ret (then_ret (then_ret (T_return (fr':=[(4,.d (.str [])),(5,.d (.v (.int .i64 (5:Int))))]) [4,5] (by kernel_rfl) [.keep [4,5]] (by kernel_rfl) (by kernel_rfl) (by kernel_rfl) (by show _=_; kernel_rfl) (by exact trivial) a w hm)))))))
    ·have h:=cond_ff hc h
     refine T_joinc h (fun (p:Bool)=>[(1,.d (.str a1)),(6,.box [.slf 0 74,.own 5 1 (v1.map cU)]),(7,.d (.v (.int .i64 (IntKind.i64.wrap (v2+(1:Int)))))),(8,.d (.v (.int .i64 (IntKind.i64.wrap ((a1.getD v2.toNat 0).toNat:Int))))),(33,.d (.v (.bool p)))]) (fun s h=>?_) (fun v3 h=>?_)
     ·obtain ⟨z1,hz1,h⟩:=lett_ok h
      obtain ⟨z2,hz2,h⟩:=lett_ok h
      refine T_reg [(5,{ rw:=some (.d (.v (.int .i64 z1))) }),(10,{ rw:=some (.d (.v (.bool z2))) })] [1,6,7,8,33] [(33,.d (.v (.bool z2)))] [(3,((((decide ((IntKind.i64.wrap ((a1.getD v2.toNat 0).toNat:Int)) < (128:Int))) == true) && true)=true→True)),(0,((((decide ((IntKind.i64.wrap ((a1.getD v2.toNat 0).toNat:Int)) < (128:Int))) == true) && true)=true→True)),(0,((((decide ((IntKind.i64.wrap ((a1.getD v2.toNat 0).toNat:Int)) < (128:Int))) == true) && true)=true→(True)∧AV.d (.v (.int .i64 (IntKind.i64.wrap ((IntKind.i64.wrap (v2+(1:Int)))+(IntKind.i64.wrap ((a1.getD v2.toNat 0).toNat:Int))))))=.d (.v (.int .i64 z1)))),(0,((((decide ((IntKind.i64.wrap ((a1.getD v2.toNat 0).toNat:Int)) < (128:Int))) == true) && true)=true→True)),(0,((((decide ((IntKind.i64.wrap ((a1.getD v2.toNat 0).toNat:Int)) < (128:Int))) == true) && true)=true→True)),(0,((((decide ((IntKind.i64.wrap ((a1.getD v2.toNat 0).toNat:Int)) < (128:Int))) == true) && true)=true→True)),(0,((((decide ((IntKind.i64.wrap ((a1.getD v2.toNat 0).toNat:Int)) < (128:Int))) == true) && true)=true→True)),(0,(True)∧AV.d (.v (.bool (bif (decide ((IntKind.i64.wrap ((a1.getD v2.toNat 0).toNat:Int)) < (128:Int))) then (decide ((IntKind.i64.wrap (z1+(1:Int))) > (a1.length:Int))) else false)))=.d (.v (.bool z2)))] 1 (by kernel_rfl) (⟨(fun hg=>trivial),(fun hg=>trivial),(fun hg=>⟨trivial,(by subst hz1; rfl)⟩),(fun hg=>trivial),(fun hg=>trivial),(fun hg=>trivial),(fun hg=>trivial),⟨trivial,(by subst hz2; rfl)⟩⟩) ?_
      refine T_cond z2 (by kernel_rfl) (fun hc=>?_) (fun hc=>?_)
      ·have h:=cond_tt hc h
       obtain hs:=Option.some.inj h; subst hs
       refine T_skip fun a w hm=>then_norm (hm.co (cs:=[.keep [1,6,7,8,33]]) (by show _=_; kernel_rfl))
      ·have h:=cond_ff hc h
       obtain hs:=Option.some.inj h; subst hs
       refine T_reg_end [] [1,6,7,8,33] [(33,.d (.v (.bool ((IntKind.i64.wrap (v2+(1:Int))) == (a1.length:Int)))))] [] 5 (by kernel_rfl) (trivial) fun a w hm=>then_norm (hm.co (cs:=[.keep [1,6,7,8,33]]) (by show _=_; kernel_rfl))
     ·skip
      refine T_cond v3 (by kernel_rfl) (fun hc=>?_) (fun hc=>?_)
      ·have h:=cond_tt hc h
       refine T_reg [] [4,5] [(4,.d (.str [])),(5,.d (.v (.int .i64 (12:Int))))] [] 2 (by kernel_rfl) (trivial) ?_
       obtain hs:=Option.some.inj h; subst hs
       have h:=callE_esc hk2
       obtain hs:=Option.some.inj h; subst hs
       have h:=callE_esc hk1
       obtain hs:=Option.some.inj h; subst hs
       refine T_ret fun a w hm=>inBlock_ret (then_ret (inBlock_ret (then_ret (inBlock_ret (then_ret (then_ret (T_return (fr':=[(4,.d (.str [])),(5,.d (.v (.int .i64 (12:Int))))]) [4,5] (by kernel_rfl) [.keep [4,5]] (by kernel_rfl) (by kernel_rfl) (by kernel_rfl) (by show _=_; kernel_rfl) (by exact trivial) a w hm)))))))
      ·have h:=cond_ff hc h
       refine T_reg [] [1,6,7,8,49] [(49,.d (.v (.bool (decide ((IntKind.i64.wrap ((a1.getD v2.toNat 0).toNat:Int)) < (128:Int))))))] [] 3 (by kernel_rfl) (trivial) ?_
       refine T_cond (decide ((IntKind.i64.wrap ((a1.getD v2.toNat 0).toNat:Int)) < (128:Int))) (by kernel_rfl) (fun hc=>?_) (fun hc=>?_)
       ·have h:=cond_tt hc h
        obtain ⟨z3,hz3,h⟩:=lett_ok h
        obtain ⟨hp2,h⟩:=chk_ok h
        obtain ⟨z4,hz4,h⟩:=lett_ok h
        obtain ⟨y1,hy1,h⟩:=call_ok h
        refine T_reg [(4,{ rw:=some (.d (.v (.int .i64 z3))) }),(6,{ rw:=some (.d (.str z4)) }),(7,{ res:=.tup [.d (.v (.int .i64 y1.1)),.d (.v .nilIface)],vout:=[.box [.slf 0 74,.own 5 1 (y1.2.2.map cU)]],xs:=[6] })] [1,6,7,8] [(6,.box [.slf 0 74,.own 5 1 (y1.2.2.map cU)])] [(4,(True)∧AV.d (.v (.int .i64 (IntKind.i64.wrap ((IntKind.i64.wrap (v2+(1:Int)))+(IntKind.i64.wrap ((a1.getD v2.toNat 0).toNat:Int))))))=.d (.v (.int .i64 z3))),(1,(0≤(IntKind.i64.wrap (v2+(1:Int)))∧(IntKind.i64.wrap (v2+(1:Int)))≤(IntKind.i64.wrap (z3+(1:Int)))∧(IntKind.i64.wrap (z3+(1:Int)))≤(a1.length:Int))∧AV.d (.str ((a1.drop (IntKind.i64.wrap (v2+(1:Int))).toNat).take ((IntKind.i64.wrap (z3+(1:Int))).toNat - (IntKind.i64.wrap (v2+(1:Int))).toNat)))=.d (.str z4)),(0,ACall Tryz.prog 31 [.bp 1000000 0,.d (.str z4)] [.box [.slf 0 74,.own 5 1 (v1.map cU)]] (.tup [.d (.v (.int .i64 y1.1)),.d (.v .nilIface)]) [.box [.slf 0 74,.own 5 1 (y1.2.2.map cU)]])] 0 (by kernel_rfl) (⟨⟨trivial,(by subst hz3; rfl)⟩,⟨hp2,(by subst hz4; rfl)⟩,strings_Builder_WriteString_ok hy1⟩) ?_
        obtain ⟨z5,hz5,h⟩:=lett_ok h
        obtain hs:=Option.some.inj h; subst hs
        refine T_reg_end [(3,{ rw:=some (.d (.v (.int .i64 z5))) })] [1,6,7] [(7,.d (.v (.int .i64 z5)))] [(3,(True)∧AV.d (.v (.int .i64 (IntKind.i64.wrap ((IntKind.i64.wrap (v2+(1:Int)))+(IntKind.i64.wrap ((IntKind.i64.wrap ((a1.getD v2.toNat 0).toNat:Int))+(1:Int)))))))=.d (.v (.int .i64 z5)))] 1 (by kernel_rfl) (⟨trivial,(by subst hz5; rfl)⟩) fun a w hm=>inBlock_norm (then_norm (⟨_,rfl,hm.co (cs:=[.keep [1,6,7]]) (by show _=_; kernel_rfl)⟩))
       ·have h:=cond_ff hc h
        obtain ⟨hp3,h⟩:=chk_ok h
        obtain ⟨z6,hz6,h⟩:=lett_ok h
        obtain ⟨hp4,h⟩:=chk_ok h
        obtain ⟨y2,hy2,h⟩:=call_ok h
        refine T_reg [(4,{ rw:=some (.d (.str z6)) }),(7,{ res:=.d (.str (Lib.repeatL z6 (IntKind.i64.wrap ((257:Int) - (IntKind.i64.wrap ((a1.getD v2.toNat 0).toNat:Int)))).toNat)) }),(8,{ res:=.tup [.d (.v (.int .i64 y2.1)),.d (.v .nilIface)],vout:=[.box [.slf 0 74,.own 5 1 (y2.2.2.map cU)]],xs:=[6] })] [1,6,7] [(6,.box [.slf 0 74,.own 5 1 (y2.2.2.map cU)])] [(4,(0≤(IntKind.i64.wrap (v2+(1:Int)))∧(IntKind.i64.wrap (v2+(1:Int)))≤(IntKind.i64.wrap ((IntKind.i64.wrap (v2+(1:Int)))+(1:Int)))∧(IntKind.i64.wrap ((IntKind.i64.wrap (v2+(1:Int)))+(1:Int)))≤(a1.length:Int))∧AV.d (.str ((a1.drop (IntKind.i64.wrap (v2+(1:Int))).toNat).take ((IntKind.i64.wrap ((IntKind.i64.wrap (v2+(1:Int)))+(1:Int))).toNat - (IntKind.i64.wrap (v2+(1:Int))).toNat)))=.d (.str z6)),(2,ACall Tryz.prog 122 [.d (.str z6),.d (.v (.int .i64 (IntKind.i64.wrap ((257:Int) - (IntKind.i64.wrap ((a1.getD v2.toNat 0).toNat:Int))))))] [] (.d (.str (Lib.repeatL z6 (IntKind.i64.wrap ((257:Int) - (IntKind.i64.wrap ((a1.getD v2.toNat 0).toNat:Int)))).toNat))) []),(0,ACall Tryz.prog 31 [.bp 1000000 0,.d (.str (Lib.repeatL z6 (IntKind.i64.wrap ((257:Int) - (IntKind.i64.wrap ((a1.getD v2.toNat 0).toNat:Int)))).toNat))] [.box [.slf 0 74,.own 5 1 (v1.map cU)]] (.tup [.d (.v (.int .i64 y2.1)),.d (.v .nilIface)]) [.box [.slf 0 74,.own 5 1 (y2.2.2.map cU)]])] 0 (by kernel_rfl) (⟨⟨hp3,(by subst hz6; rfl)⟩,b_Repeat hp4,strings_Builder_WriteString_ok hy2⟩) ?_
        obtain hs:=Option.some.inj h; subst hs
        refine T_reg_end [] [1,6,7] [(7,.d (.v (.int .i64 (IntKind.i64.wrap ((IntKind.i64.wrap (v2+(1:Int)))+(1:Int))))))] [] 3 (by kernel_rfl) (trivial) fun a w hm=>inBlock_norm (then_norm (⟨_,rfl,hm.co (cs:=[.keep [1,6,7]]) (by show _=_; kernel_rfl)⟩))
   ·obtain ⟨v4,v5⟩:=s
    try dsimp only at h
    obtain ⟨y3,hy3,h⟩:=call_ok h
    refine T_reg [(0,{ res:=.d (.v (.int .i64 y3.1)),vout:=[.box [.slf 0 74,.own 5 1 (y3.2.map cU)]],xs:=[6] })] [1,6,7,65] [(6,.box [.slf 0 74,.own 5 1 (y3.2.map cU)]),(65,.d (.v (.bool (decide (y3.1 > (65536:Int))))))] [(0,ACall Tryz.prog 44 [.bp 1000000 0] [.box [.slf 0 74,.own 5 1 (v4.map cU)]] (.d (.v (.int .i64 y3.1))) [.box [.slf 0 74,.own 5 1 (y3.2.map cU)]])] 1 (by kernel_rfl) (strings_Builder_Len_ok hy3) ?_
    refine T_cond (decide (y3.1 > (65536:Int))) (by kernel_rfl) (fun hc=>?_) (fun hc=>?_)
    ·have h:=cond_tt hc h
     refine T_reg [] [4,5] [(4,.d (.str [])),(5,.d (.v (.int .i64 (2:Int))))] [] 2 (by kernel_rfl) (trivial) ?_
     obtain hs:=Option.some.inj h; subst hs
     have h:=callE_esc hk1
     obtain hs:=Option.some.inj h; subst hs
     refine T_ret fun a w hm=>inBlock_ret (then_ret (inBlock_ret (then_ret (then_ret (T_return (fr':=[(4,.d (.str [])),(5,.d (.v (.int .i64 (2:Int))))]) [4,5] (by kernel_rfl) [.keep [4,5]] (by kernel_rfl) (by kernel_rfl) (by kernel_rfl) (by show _=_; kernel_rfl) (by exact trivial) a w hm)))))
    ·have h:=cond_ff hc h
     refine T_skip fun a w hm=>inBlock_norm (then_norm (⟨(y3.2,v5),h,hm.co (cs:=[.keep [1,6,7]]) (by show _=_; kernel_rfl)⟩))
  ·have h:=cond_ff hc h
   obtain hs:=Option.some.inj h; subst hs
   refine T_exit fun a w hm=>then_exit (then_exit (inBlock_exit (then_norm (⟨_,rfl,hm.co (cs:=[.keep [6]]) (by show _=_; kernel_rfl)⟩))))
 ·skip
  refine fun a w hm=>then_norm (((?_:T Tryz.prog e 67 _ _ _) a w hm))
  obtain ⟨hp5,h⟩:=chk_ok h
  refine T_reg [(0,{ xs:=[6],vout:=[.box [.slf 0 74,.junk]],res:=.d (.str v6) })] [4,5] [(4,.d (.str v6)),(5,.d (.v (.int .i64 (0:Int))))] [(0,ACall Tryz.prog 32 [.bp 1000000 0] [.box [.slf 0 74,.own 5 1 (v6.map cU)]] (.d (.str v6)) [.box [.slf 0 74,.junk]])] 2 (by kernel_rfl) (b_String (l:=v6) hp5 (by kernel_rfl) (by kernel_rfl)) ?_
  obtain hs:=Option.some.inj h; subst hs
  refine T_ret fun a w hm=>T_return (fr':=[(4,.d (.str v6)),(5,.d (.v (.int .i64 (0:Int))))]) [4,5] (by kernel_rfl) [.keep [4,5]] (by kernel_rfl) (by kernel_rfl) (by kernel_rfl) (by show _=_; kernel_rfl) (by exact trivial) a w hm
theorem filter_rows_decode_ok {F:Nat} {a0:S_filter_rows} {a1:List UInt8} {r:(List UInt8)×Int} (h:filter_rows_decode F a0 a1=some r):ACall Tryz.prog 131 [.agg (cS_filter_rows a0),.d (.str a1)] [] (.tup [.d (.str r.1),.d (.v (.int .i64 r.2))]) []:=by
 rw [filter_rows_decode] at h
 refine ACall.intro (N:=33) Tryz.func131 rfl rfl rfl rfl rfl fun e=>?_
 refine T_reg [] [1,2] [(2,.box [.d (.v (.int .i64 a0.f0))])] [] 3 (by kernel_rfl) (trivial) ?_
 refine T_reg [(1,{ es:=some (a1.map cU) })] [2,6] [(6,.own 5 1 (a1.map cU))] [(1,byteCells a1=(a1.map cU))] 1 (by kernel_rfl) (rfl) ?_
 refine T_seqk ?_
 refine T_reg [] [2,6,7] [(7,.d (.v (.int .i64 a0.f0)))] [] 3 (by kernel_rfl) (trivial) ?_
 refine T_joinct h (fun (p:(List UInt8))=>[(6,.own 5 1 (p.map cU))]) (fun s h=>?_) (fun v3 h=>?_)
 ·refine T_co [.keep [2,6,7]] ((fun (p:(List UInt8)×Int)=>[(2,.box [.d (.v (.int .i64 a0.f0))]),(6,.own 5 1 (p.1.map cU)),(7,.d (.v (.int .i64 p.2)))]) (a1,a0.f0)) (by show _=_; kernel_rfl) ?_
  refine T_block ?_
  refine T_loopF (ι:=(List UInt8)×Int) (fun (p:(List UInt8)×Int)=>[(2,.box [.d (.v (.int .i64 a0.f0))]),(6,.own 5 1 (p.1.map cU)),(7,.d (.v (.int .i64 p.2)))]) (fun n p=>filter_rows_decode_L0 F a0 n p.1 p.2=some s) (fun i hh=>by simp [filter_rows_decode_L0] at hh) (fun n p h=>?_) F (a1,a0.f0) h
  obtain ⟨v1,v2⟩:=p
  have h:filter_rows_decode_L0 F a0 (n+1) v1 v2=some s:=h
  rw [filter_rows_decode_L0] at h
  refine T_seqk ?_
  refine T_reg [(2,{ rw:=some (.d (.v (.int .i64 (v1.length:Int)))) })] [2,6,7,15] [(15,.d (.v (.bool (decide (v2 < (v1.length:Int))))))] [(2,True∧AV.d (.v (.int .i64 ((v1.map cU).length:Int)))=.d (.v (.int .i64 (v1.length:Int))))] 1 (by kernel_rfl) (len_ok cU) ?_
  refine T_cond (decide (v2 < (v1.length:Int))) (by kernel_rfl) (fun hc=>?_) (fun hc=>?_)
  ·have h:=cond_tt hc h
   refine T_skip fun a w hm=>then_norm (((?_:T Tryz.prog e 33 _ _ _) a w hm))
   refine T_seqk ?_
   refine T_block ?_
   obtain ⟨hp1,h⟩:=chk_ok h
   obtain ⟨hp2,h⟩:=chk_ok h
   obtain ⟨z1,hz1,h⟩:=lett_ok h
   obtain ⟨hp3,h⟩:=chk_ok h
   obtain ⟨hp4,h⟩:=chk_ok h
   refine T_drawS_end mixed 13 [(3,{ cs:=cU (v1.getD v2.toNat 0) }),(10,{ cs:=cU (v1.getD (IntKind.i64.wrap (v2 - a0.f0)).toNat 0) }),(11,{ rw:=some (.d (.v (.int .u8 z1))) }),(13,{ cs:=cU (v1.getD v2.toNat 0),es:=some ((v1.set v2.toNat (UInt8.ofNat z1.toNat)).map cU) })] [2,6,7] [] [(2,.box [.d (.v (.int .i64 a0.f0))]),(6,.own 5 1 ((v1.set v2.toNat (UInt8.ofNat z1.toNat)).map cU)),(7,.d (.v (.int .i64 v2)))] [(2,0≤v2∧v2 < (v1.map cU).length),(0,(v1.map cU)[v2.toNat]? = some (cU (v1.getD v2.toNat 0))),(5,0≤(IntKind.i64.wrap (v2 - a0.f0))∧(IntKind.i64.wrap (v2 - a0.f0)) < (v1.map cU).length),(0,(v1.map cU)[(IntKind.i64.wrap (v2 - a0.f0)).toNat]? = some (cU (v1.getD (IntKind.i64.wrap (v2 - a0.f0)).toNat 0))),(0,(True)∧AV.d (.v (.int .u8 (IntKind.u8.wrap (((v1.getD v2.toNat 0).toNat:Int)+((v1.getD (IntKind.i64.wrap (v2 - a0.f0)).toNat 0).toNat:Int)))))=.d (.v (.int .u8 z1))),(0,0≤v2∧v2 < (v1.map cU).length),(0,(v1.map cU)[v2.toNat]? = some (cU (v1.getD v2.toNat 0))∧(v1.map cU).set v2.toNat ([Dat.v (.int .u8 z1)])=((v1.set v2.toNat (UInt8.ofNat z1.toNat)).map cU))] 0 (by kernel_rfl) (⟨own_idx cU hp1,(idx_ok (d:=0) cU hp1).2,own_idx cU hp2,(idx_ok (d:=0) cU hp2).2,⟨trivial,(by subst hz1; rfl)⟩,own_idx cU hp3,⟨(idx_ok (d:=0) cU hp3).2,set_ok cU (cU_ofInt hp4)⟩⟩) fun a w hm=>inBlock_norm (then_norm (((?_:T Tryz.prog e 33 _ _ _) a w hm)))
   refine T_reg_end [] [2,6,7] [(7,.d (.v (.int .i64 (IntKind.i64.wrap (v2+(1:Int))))))] [] 3 (by kernel_rfl) (trivial) fun a w hm=>then_norm (⟨((v1.set v2.toNat (UInt8.ofNat z1.toNat)),IntKind.i64.wrap (v2+(1:Int))),h,hm.co (cs:=[.keep [2,6,7]]) (by show _=_; kernel_rfl)⟩)
  ·have h:=cond_ff hc h
   obtain hs:=Option.some.inj h; subst hs
   refine T_exit fun a w hm=>then_exit (then_exit (inBlock_exit (then_norm (hm.co (cs:=[.keep [6]]) (by show _=_; kernel_rfl)))))
 ·skip
  refine fun a w hm=>then_norm (((?_:T Tryz.prog e 33 _ _ _) a w hm))
  refine T_reg [(1,{ cs:=[.str v3] })] [4,5] [(4,.d (.str v3)),(5,.d (.v (.int .i64 (0:Int))))] [(1,(v3.map cU)=byteCells v3)] 2 (by kernel_rfl) (rfl) ?_
  obtain hs:=Option.some.inj h; subst hs
  refine T_ret fun a w hm=>T_return (fr':=[(4,.d (.str v3)),(5,.d (.v (.int .i64 (0:Int))))]) [4,5] (by kernel_rfl) [.keep [4,5]] (by kernel_rfl) (by kernel_rfl) (by kernel_rfl) (by show _=_; kernel_rfl) (by exact trivial) a w hm
theorem filter_copies_decode_ok {F:Nat} {a0:S_filter_copies} {a1:List UInt8} {r:(List UInt8)×Int} (h:filter_copies_decode F a0 a1=some r):ACall Tryz.prog 133 [.agg (cS_filter_copies a0),.d (.str a1)] [] (.tup [.d (.str r.1),.d (.v (.int .i64 r.2))]) []:=by
 rw [filter_copies_decode] at h
 refine ACall.intro (N:=88) Tryz.func133 rfl rfl rfl rfl rfl fun e=>?_
 refine T_reg [] [1] [] [] 3 (by kernel_rfl) (trivial) ?_
 refine T_reg [] [1,6] [(6,.own 5 1 ([].map cU))] [] 1 (by kernel_rfl) (trivial) ?_
 refine T_seqk ?_
 refine T_reg [] [1,6,7] [(7,.d (.v (.int .i64 (0:Int))))] [] 1 (by kernel_rfl) (trivial) ?_
 refine T_joinEt h (fun (p:(List UInt8))=>[(6,.own 5 1 (p.map cU))]) (fun s h hk1=>?_) (fun v8 h=>?_)
 ·refine T_co [.keep [1,6,7]] ((fun (p:(List UInt8)×Int)=>[(1,.d (.str a1)),(6,.own 5 1 (p.1.map cU)),(7,.d (.v (.int .i64 p.2)))]) ([],(0:Int))) (by show _=_; kernel_rfl) ?_
  refine T_block ?_
  refine T_loopF (ι:=(List UInt8)×Int) (fun (p:(List UInt8)×Int)=>[(1,.d (.str a1)),(6,.own 5 1 (p.1.map cU)),(7,.d (.v (.int .i64 p.2)))]) (fun n p=>filter_copies_decode_L0 F a1 n p.1 p.2=some s) (fun i hh=>by simp [filter_copies_decode_L0] at hh) (fun n p h=>?_) F ([],(0:Int)) h
  obtain ⟨v4,v1⟩:=p
  have h:filter_copies_decode_L0 F a1 (n+1) v4 v1=some s:=h
  rw [filter_copies_decode_L0] at h
  refine T_seqk ?_
  refine T_reg [] [1,6,7,13] [(13,.d (.v (.bool (decide (v1 < (a1.length:Int))))))] [] 4 (by kernel_rfl) (trivial) ?_
  refine T_cond (decide (v1 < (a1.length:Int))) (by kernel_rfl) (fun hc=>?_) (fun hc=>?_)
  ·have h:=cond_tt hc h
   refine T_skip fun a w hm=>then_norm (((?_:T Tryz.prog e 88 _ _ _) a w hm))
   refine T_block ?_
   obtain ⟨hp1,h⟩:=chk_ok h
   refine T_reg [] [1,6,7,8] [(8,.d (.v (.int .i64 (IntKind.i64.wrap ((a1.getD v1.toNat 0).toNat:Int)))))] [(2,0≤v1∧v1 < a1.length)] 2 (by kernel_rfl) (hp1) ?_
   refine T_reg [] [1,6,7,8] [(7,.d (.v (.int .i64 (IntKind.i64.wrap (v1+(1:Int))))))] [] 3 (by kernel_rfl) (trivial) ?_
   refine T_joinE h (fun (p:(List UInt8)×Int)=>[(1,.d (.str a1)),(6,.own 5 1 (p.1.map cU)),(7,.d (.v (.int .i64 p.2)))]) (fun s h hk2=>?_) (fun s h=>?_)
   ·refine T_reg [] [1,6,7,8,21] [(21,.d (.v (.bool (decide ((IntKind.i64.wrap ((a1.getD v1.toNat 0).toNat:Int)) < (128:Int))))))] [] 2 (by kernel_rfl) (trivial) ?_
    refine T_cond (decide ((IntKind.i64.wrap ((a1.getD v1.toNat 0).toNat:Int)) < (128:Int))) (by kernel_rfl) (fun hc=>?_) (fun hc=>?_)
    ·have h:=cond_tt hc h
     refine T_seqk ?_
     obtain ⟨z3,hz1,h⟩:=lett_ok h
     refine T_reg [(2,{ rw:=some (.d (.v (.int .i64 z3))) })] [1,6,7,8,28] [(28,.d (.v (.bool (decide ((IntKind.i64.wrap (z3+(1:Int))) > (a1.length:Int))))))] [(2,(True)∧AV.d (.v (.int .i64 (IntKind.i64.wrap ((IntKind.i64.wrap (v1+(1:Int)))+(IntKind.i64.wrap ((a1.getD v1.toNat 0).toNat:Int))))))=.d (.v (.int .i64 z3)))] 4 (by kernel_rfl) (⟨trivial,(by subst hz1; rfl)⟩) ?_
     refine T_cond (decide ((IntKind.i64.wrap (z3+(1:Int))) > (a1.length:Int))) (by kernel_rfl) (fun hc=>?_) (fun hc=>?_)
     ·have h:=cond_tt hc h
      refine T_reg [] [4,5] [(4,.d (.str [])),(5,.d (.v (.int .i64 (12:Int))))] [] 2 (by kernel_rfl) (trivial) ?_
      obtain hs:=Option.some.inj h; subst hs
      have h:=callE_esc hk2
      obtain hs:=Option.some.inj h; subst hs
      have h:=callE_esc hk1
      obtain hs:=Option.some.inj h; subst hs
      refine T_ret fun a w hm=>then_ret (then_ret (inBlock_ret (then_ret (inBlock_ret (then_ret (then_ret (T_return (fr':=[(4,.d (.str [])),(5,.d (.v (.int .i64 (12:Int))))]) [4,5] (by kernel_rfl) [.keep [4,5]] (by kernel_rfl) (by kernel_rfl) (by kernel_rfl) (by show _=_; kernel_rfl) (by exact trivial) a w hm)))))))
     ·have h:=cond_ff hc h
      refine T_skip fun a w hm=>then_norm (((?_:T Tryz.prog e 88 _ _ _) a w hm))
      obtain ⟨z4,hz2,h⟩:=lett_ok h
      obtain ⟨hp2,h⟩:=chk_ok h
      obtain ⟨z5,hz3,h⟩:=lett_ok h
      obtain ⟨hp3,h⟩:=chk_ok h
      refine T_reg [(5,{ rw:=some (.d (.v (.int .i64 z4))) }),(7,{ rw:=some (.d (.str z5)) }),(8,{ es:=some ((v4++z5).map cU) })] [1,6,7,8] [(6,.own 5 1 ((v4++z5).map cU))] [(5,(True)∧AV.d (.v (.int .i64 (IntKind.i64.wrap ((IntKind.i64.wrap (v1+(1:Int)))+(IntKind.i64.wrap ((a1.getD v1.toNat 0).toNat:Int))))))=.d (.v (.int .i64 z4))),(1,(0≤(IntKind.i64.wrap (v1+(1:Int)))∧(IntKind.i64.wrap (v1+(1:Int)))≤(IntKind.i64.wrap (z4+(1:Int)))∧(IntKind.i64.wrap (z4+(1:Int)))≤(a1.length:Int))∧AV.d (.str ((a1.drop (IntKind.i64.wrap (v1+(1:Int))).toNat).take ((IntKind.i64.wrap (z4+(1:Int))).toNat - (IntKind.i64.wrap (v1+(1:Int))).toNat)))=.d (.str z5)),(0,(v4.map cU).length+(z5.map cU).length≤4294967296∧(v4.map cU)++(z5.map cU)=((v4++z5).map cU))] 1 (by kernel_rfl) (⟨⟨trivial,(by subst hz2; rfl)⟩,⟨hp2,(by subst hz3; rfl)⟩,app_ok cU hp3⟩) ?_
      obtain ⟨z6,hz4,h⟩:=lett_ok h
      obtain hs:=Option.some.inj h; subst hs
      refine T_reg_end [(3,{ rw:=some (.d (.v (.int .i64 z6))) })] [1,6,7] [(7,.d (.v (.int .i64 z6)))] [(3,(True)∧AV.d (.v (.int .i64 (IntKind.i64.wrap ((IntKind.i64.wrap (v1+(1:Int)))+(IntKind.i64.wrap ((IntKind.i64.wrap ((a1.getD v1.toNat 0).toNat:Int))+(1:Int)))))))=.d (.v (.int .i64 z6)))] 1 (by kernel_rfl) (⟨trivial,(by subst hz4; rfl)⟩) fun a w hm=>then_norm (⟨_,rfl,hm.co (cs:=[.keep [1,6,7]]) (by show _=_; kernel_rfl)⟩)
    ·have h:=cond_ff hc h
     refine T_seqk ?_
     obtain ⟨z7,hz5,h⟩:=lett_ok h
     refine T_reg [(4,{ rw:=some (.d (.v (.bool z7))) })] [1,6,7,8,46] [(46,.d (.v (.bool z7)))] [(4,(True)∧AV.d (.v (.bool (decide ((IntKind.i64.wrap ((IntKind.i64.wrap (v1+(1:Int)))+(2:Int))) > (a1.length:Int)))))=.d (.v (.bool z7)))] 0 (by kernel_rfl) (⟨trivial,(by subst hz5; rfl)⟩) ?_
     refine T_cond z7 (by kernel_rfl) (fun hc=>?_) (fun hc=>?_)
     ·have h:=cond_tt hc h
      refine T_reg [] [4,5] [(4,.d (.str [])),(5,.d (.v (.int .i64 (12:Int))))] [] 2 (by kernel_rfl) (trivial) ?_
      obtain hs:=Option.some.inj h; subst hs
      have h:=callE_esc hk2
      obtain hs:=Option.some.inj h; subst hs
      have h:=callE_esc hk1
      obtain hs:=Option.some.inj h; subst hs
      refine T_ret fun a w hm=>then_ret (then_ret (inBlock_ret (then_ret (inBlock_ret (then_ret (then_ret (T_return (fr':=[(4,.d (.str [])),(5,.d (.v (.int .i64 (12:Int))))]) [4,5] (by kernel_rfl) [.keep [4,5]] (by kernel_rfl) (by kernel_rfl) (by kernel_rfl) (by show _=_; kernel_rfl) (by exact trivial) a w hm)))))))
     ·have h:=cond_ff hc h
      refine T_skip fun a w hm=>then_norm (((?_:T Tryz.prog e 88 _ _ _) a w hm))
      obtain ⟨hp4,h⟩:=chk_ok h
      obtain ⟨z8,hz6,h⟩:=lett_ok h
      obtain ⟨hp5,h⟩:=chk_ok h
      obtain ⟨z9,hz7,h⟩:=lett_ok h
      obtain ⟨z1,hz8,h⟩:=lett_ok h
      refine T_draw mixed [(4,{ rw:=some (.d (.v (.int .i64 z8))) }),(8,{ rw:=some (.d (.v (.int .u8 z9))) }),(10,{ rw:=some (.d (.v (.int .i64 z1))) })] [1,6,7,8,9] [] [(1,.d (.str a1)),(6,.own 5 1 (v4.map cU)),(7,.d (.v (.int .i64 (IntKind.i64.wrap (v1+(1:Int)))))),(8,.d (.v (.int .i64 (IntKind.i64.wrap ((a1.getD v1.toNat 0).toNat:Int))))),(9,.d (.v (.int .i64 z1)))] [(2,0≤(IntKind.i64.wrap (v1+(1:Int)))∧(IntKind.i64.wrap (v1+(1:Int))) < a1.length),(1,(0≤(8:Int))∧AV.d (.v (.int .i64 (IntKind.i64.wrap ((IntKind.i64.wrap ((a1.getD (IntKind.i64.wrap (v1+(1:Int))).toNat 0).toNat:Int)) * 2 ^ (min (8:Int).toNat IntKind.i64.bits)))))=.d (.v (.int .i64 z8))),(3,(0≤(IntKind.i64.wrap ((IntKind.i64.wrap (v1+(1:Int)))+(1:Int)))∧(IntKind.i64.wrap ((IntKind.i64.wrap (v1+(1:Int)))+(1:Int))) < a1.length)∧AV.d (.v (.int .u8 ((a1.getD (IntKind.i64.wrap ((IntKind.i64.wrap (v1+(1:Int)))+(1:Int))).toNat 0).toNat:Int)))=.d (.v (.int .u8 z9))),(1,(True)∧AV.d (.v (.int .i64 (IntKind.i64.wrap ((BitVec.ofInt IntKind.i64.bits z8 ||| BitVec.ofInt IntKind.i64.bits (IntKind.i64.wrap z9)).toNat:Int))))=.d (.v (.int .i64 z1)))] 1 (by kernel_rfl) (⟨hp4,⟨(show 0≤(8:Int) by decide),(by subst hz6; rfl)⟩,⟨hp5,(by subst hz7; rfl)⟩,⟨trivial,(by subst hz8; rfl)⟩⟩) ?_
      refine T_reg [] [1,6,7,8,9] [(7,.d (.v (.int .i64 (IntKind.i64.wrap ((IntKind.i64.wrap (v1+(1:Int)))+(2:Int))))))] [] 3 (by kernel_rfl) (trivial) ?_
      refine T_seqk ?_
      refine T_reg [(5,{ rw:=some (.d (.v (.int .i64 (v4.length:Int)))) })] [1,6,7,8,9,67] [(67,.d (.v (.bool (bif (z1 == (0:Int)) then true else (decide (z1 > (v4.length:Int)))))))] [(3,((((z1 == (0:Int)) == false) && true)=true→True)),(0,((((z1 == (0:Int)) == false) && true)=true→True)),(0,((((z1 == (0:Int)) == false) && true)=true→True∧AV.d (.v (.int .i64 ((v4.map cU).length:Int)))=.d (.v (.int .i64 (v4.length:Int))))),(0,((((z1 == (0:Int)) == false) && true)=true→True))] 1 (by kernel_rfl) (⟨(fun hg=>trivial),(fun hg=>trivial),(fun hg=>len_ok cU),(fun hg=>trivial)⟩) ?_
      refine T_cond (bif (z1 == (0:Int)) then true else (decide (z1 > (v4.length:Int)))) (by kernel_rfl) (fun hc=>?_) (fun hc=>?_)
      ·have h:=cond_tt hc h
       refine T_reg [] [4,5] [(4,.d (.str [])),(5,.d (.v (.int .i64 (3:Int))))] [] 2 (by kernel_rfl) (trivial) ?_
       obtain hs:=Option.some.inj h; subst hs
       have h:=callE_esc hk2
       obtain hs:=Option.some.inj h; subst hs
       have h:=callE_esc hk1
       obtain hs:=Option.some.inj h; subst hs
       refine T_ret fun a w hm=>then_ret (then_ret (inBlock_ret (then_ret (inBlock_ret (then_ret (then_ret (T_return (fr':=[(4,.d (.str [])),(5,.d (.v (.int .i64 (3:Int))))]) [4,5] (by kernel_rfl) [.keep [4,5]] (by kernel_rfl) (by kernel_rfl) (by kernel_rfl) (by show _=_; kernel_rfl) (by exact trivial) a w hm)))))))
      ·have h:=cond_ff hc h
       refine T_skip fun a w hm=>then_norm (((?_:T Tryz.prog e 88 _ _ _) a w hm))
       refine T_reg [] [1,6,7,9,69,70] [(69,.d (.v (.int .i64 (IntKind.i64.wrap ((IntKind.i64.wrap ((a1.getD v1.toNat 0).toNat:Int)) - (125:Int)))))),(70,.d (.v (.int .i64 (0:Int))))] [] 3 (by kernel_rfl) (trivial) ?_
       refine T_joinct h (fun (p:(List UInt8))=>[(1,.d (.str a1)),(6,.own 5 1 (p.map cU)),(7,.d (.v (.int .i64 (IntKind.i64.wrap ((IntKind.i64.wrap (v1+(1:Int)))+(2:Int))))))]) (fun s h=>?_) (fun v5 h=>?_)
       ·refine T_co [.keep [1,6,7,9,69,70]] ((fun (p:(List UInt8)×Int)=>[(1,.d (.str a1)),(6,.own 5 1 (p.1.map cU)),(7,.d (.v (.int .i64 (IntKind.i64.wrap ((IntKind.i64.wrap (v1+(1:Int)))+(2:Int)))))),(9,.d (.v (.int .i64 z1))),(69,.d (.v (.int .i64 (IntKind.i64.wrap ((IntKind.i64.wrap ((a1.getD v1.toNat 0).toNat:Int)) - (125:Int)))))),(70,.d (.v (.int .i64 p.2)))]) (v4,(0:Int))) (by show _=_; kernel_rfl) ?_
        refine T_block ?_
        refine T_loopF (ι:=(List UInt8)×Int) (fun (p:(List UInt8)×Int)=>[(1,.d (.str a1)),(6,.own 5 1 (p.1.map cU)),(7,.d (.v (.int .i64 (IntKind.i64.wrap ((IntKind.i64.wrap (v1+(1:Int)))+(2:Int)))))),(9,.d (.v (.int .i64 z1))),(69,.d (.v (.int .i64 (IntKind.i64.wrap ((IntKind.i64.wrap ((a1.getD v1.toNat 0).toNat:Int)) - (125:Int)))))),(70,.d (.v (.int .i64 p.2)))]) (fun n p=>filter_copies_decode_L2 F a1 v1 z1 n p.1 p.2=some s) (fun i hh=>by simp [filter_copies_decode_L2] at hh) (fun n p h=>?_) F (v4,(0:Int)) h
        obtain ⟨v2,v3⟩:=p
        have h:filter_copies_decode_L2 F a1 v1 z1 (n+1) v2 v3=some s:=h
        rw [filter_copies_decode_L2] at h
        obtain ⟨z2,hz9,h⟩:=lett_ok h
        refine T_reg [(0,{ rw:=some (.d (.v (.bool z2))) })] [1,6,7,9,69,70,71] [(71,.d (.v (.bool z2)))] [(0,(True)∧AV.d (.v (.bool (decide (v3 < (IntKind.i64.wrap ((IntKind.i64.wrap ((a1.getD v1.toNat 0).toNat:Int)) - (125:Int)))))))=.d (.v (.bool z2)))] 0 (by kernel_rfl) (⟨trivial,(by subst hz9; rfl)⟩) ?_
        refine T_seqk ?_
        refine T_cond z2 (by kernel_rfl) (fun hc=>?_) (fun hc=>?_)
        ·have h:=cond_tt hc h
         refine T_skip fun a w hm=>then_norm (((?_:T Tryz.prog e 88 _ _ _) a w hm))
         refine T_seqk ?_
         refine T_block ?_
         obtain ⟨hp6,h⟩:=chk_ok h
         obtain ⟨hp7,h⟩:=chk_ok h
         obtain ⟨hp8,h⟩:=chk_ok h
         obtain ⟨l1,hl1,h⟩:=lett_ok h
         refine T_reg_end [(3,{ rw:=some (.d (.v (.int .i64 (v2.length:Int)))) }),(7,{ cs:=cU (v2.getD (IntKind.i64.wrap ((v2.length:Int) - z1)).toNat 0) }),(8,{ es:=some (([(UInt8.ofNat ((v2.getD (IntKind.i64.wrap ((v2.length:Int) - z1)).toNat 0).toNat:Int).toNat)]).map cU) }),(9,{ es:=some (l1.map cU) })] [1,6,7,9,69,70] [(6,.own 5 1 (l1.map cU))] [(3,True∧AV.d (.v (.int .i64 ((v2.map cU).length:Int)))=.d (.v (.int .i64 (v2.length:Int)))),(2,0≤(IntKind.i64.wrap ((v2.length:Int) - z1))∧(IntKind.i64.wrap ((v2.length:Int) - z1)) < (v2.map cU).length),(0,(v2.map cU)[(IntKind.i64.wrap ((v2.length:Int) - z1)).toNat]? = some (cU (v2.getD (IntKind.i64.wrap ((v2.length:Int) - z1)).toNat 0))),(0,[[Dat.v (.int .u8 ((v2.getD (IntKind.i64.wrap ((v2.length:Int) - z1)).toNat 0).toNat:Int))]]=(([(UInt8.ofNat ((v2.getD (IntKind.i64.wrap ((v2.length:Int) - z1)).toNat 0).toNat:Int).toNat)]).map cU)),(0,(v2.map cU).length+(([(UInt8.ofNat ((v2.getD (IntKind.i64.wrap ((v2.length:Int) - z1)).toNat 0).toNat:Int).toNat)]).map cU).length≤4294967296∧(v2.map cU)++(([(UInt8.ofNat ((v2.getD (IntKind.i64.wrap ((v2.length:Int) - z1)).toNat 0).toNat:Int).toNat)]).map cU)=(l1.map cU))] 1 (by kernel_rfl) (⟨len_ok cU,own_idx cU hp6,(idx_ok (d:=0) cU hp6).2,(lit_u hp7 (rfl:([]:List (List Dat))=([]:List UInt8).map cU)),and_trans (app_ok cU hp8) (by subst hl1; rfl)⟩) fun a w hm=>inBlock_norm (then_norm (((?_:T Tryz.prog e 88 _ _ _) a w hm)))
         refine T_reg_end [] [1,6,7,9,69,70] [(70,.d (.v (.int .i64 (IntKind.i64.wrap (v3+(1:Int))))))] [] 2 (by kernel_rfl) (trivial) fun a w hm=>then_norm (⟨(l1,IntKind.i64.wrap (v3+(1:Int))),h,hm.co (cs:=[.keep [1,6,7,9,69,70]]) (by show _=_; kernel_rfl)⟩)
        ·have h:=cond_ff hc h
         obtain hs:=Option.some.inj h; subst hs
         refine T_exit fun a w hm=>then_exit (then_exit (inBlock_exit (then_norm (hm.co (cs:=[.keep [1,6,7]]) (by show _=_; kernel_rfl)))))
       ·skip
        obtain hs:=Option.some.inj h; subst hs
        refine fun a w hm=>then_norm (⟨_,rfl,hm.co (cs:=[.keep [1,6,7]]) (by show _=_; kernel_rfl)⟩)
   ·obtain ⟨v6,v7⟩:=s
    try dsimp only at h
    refine T_reg [(1,{ rw:=some (.d (.v (.int .i64 (v6.length:Int)))) })] [1,6,7,85] [(85,.d (.v (.bool (decide ((v6.length:Int) > (65536:Int))))))] [(1,True∧AV.d (.v (.int .i64 ((v6.map cU).length:Int)))=.d (.v (.int .i64 (v6.length:Int))))] 1 (by kernel_rfl) (len_ok cU) ?_
    refine T_cond (decide ((v6.length:Int) > (65536:Int))) (by kernel_rfl) (fun hc=>?_) (fun hc=>?_)
    ·have h:=cond_tt hc h
     refine T_reg [] [4,5] [(4,.d (.str [])),(5,.d (.v (.int .i64 (2:Int))))] [] 2 (by kernel_rfl) (trivial) ?_
     obtain hs:=Option.some.inj h; subst hs
     have h:=callE_esc hk1
     obtain hs:=Option.some.inj h; subst hs
     refine T_ret fun a w hm=>inBlock_ret (then_ret (inBlock_ret (then_ret (then_ret (T_return (fr':=[(4,.d (.str [])),(5,.d (.v (.int .i64 (2:Int))))]) [4,5] (by kernel_rfl) [.keep [4,5]] (by kernel_rfl) (by kernel_rfl) (by kernel_rfl) (by show _=_; kernel_rfl) (by exact trivial) a w hm)))))
    ·have h:=cond_ff hc h
     refine T_skip fun a w hm=>inBlock_norm (then_norm (⟨(v6,v7),h,hm.co (cs:=[.keep [1,6,7]]) (by show _=_; kernel_rfl)⟩))
  ·have h:=cond_ff hc h
   obtain hs:=Option.some.inj h; subst hs
   refine T_exit fun a w hm=>then_exit (then_exit (inBlock_exit (then_norm (⟨_,rfl,hm.co (cs:=[.keep [6]]) (by show _=_; kernel_rfl)⟩))))
 ·skip
  refine fun a w hm=>then_norm (((?_:T Tryz.prog e 88 _ _ _) a w hm))
  refine T_reg [(1,{ cs:=[.str v8] })] [4,5] [(4,.d (.str v8)),(5,.d (.v (.int .i64 (0:Int))))] [(1,(v8.map cU)=byteCells v8)] 2 (by kernel_rfl) (rfl) ?_
  obtain hs:=Option.some.inj h; subst hs
  refine T_ret fun a w hm=>T_return (fr':=[(4,.d (.str v8)),(5,.d (.v (.int .i64 (0:Int))))]) [4,5] (by kernel_rfl) [.keep [4,5]] (by kernel_rfl) (by kernel_rfl) (by kernel_rfl) (by show _=_; kernel_rfl) (by exact trivial) a w hm
theorem filter_group_ok {F:Nat} {a0:List UInt8} {r:(List UInt8)} (h:filter_group F a0=some r):ACall Tryz.prog 138 [.d (.str a0)] [] (.d (.str r)) []:=by
 rw [filter_group] at h
 refine ACall.intro (N:=47) Tryz.func138 rfl rfl rfl rfl rfl fun e=>?_
 refine T_reg [] [0] [] [] 1 (by kernel_rfl) (trivial) ?_
 refine T_reg [] [0,3] [(3,.d (.v (.int .u32 (0:Int))))] [] 1 (by kernel_rfl) (trivial) ?_
 refine T_seqk ?_
 refine T_reg [] [0,3,7] [(7,.d (.v (.int .i64 (0:Int))))] [] 1 (by kernel_rfl) (trivial) ?_
 refine T_joinct h (fun (p:Int)=>[(0,.d (.str a0)),(3,.d (.v (.int .u32 p)))]) (fun s h=>?_) (fun v7 h=>?_)
 ·refine T_co [.keep [0,3,7]] ((fun (p:Int×Int)=>[(0,.d (.str a0)),(3,.d (.v (.int .u32 p.1))),(7,.d (.v (.int .i64 p.2)))]) ((0:Int),(0:Int))) (by show _=_; kernel_rfl) ?_
  refine T_block ?_
  refine T_loopF (ι:=Int×Int) (fun (p:Int×Int)=>[(0,.d (.str a0)),(3,.d (.v (.int .u32 p.1))),(7,.d (.v (.int .i64 p.2)))]) (fun n p=>filter_group_L0 F a0 n p.1 p.2=some s) (fun i hh=>by simp [filter_group_L0] at hh) (fun n p h=>?_) F ((0:Int),(0:Int)) h
  obtain ⟨v1,v2⟩:=p
  have h:filter_group_L0 F a0 (n+1) v1 v2=some s:=h
  rw [filter_group_L0] at h
  refine T_reg [] [0,3,7,8] [(8,.d (.v (.bool (decide (v2 < (4:Int))))))] [] 1 (by kernel_rfl) (trivial) ?_
  refine T_seqk ?_
  refine T_cond (decide (v2 < (4:Int))) (by kernel_rfl) (fun hc=>?_) (fun hc=>?_)
  ·have h:=cond_tt hc h
   refine T_skip fun a w hm=>then_norm (((?_:T Tryz.prog e 47 _ _ _) a w hm))
   refine T_joinc h (fun (p:Int)=>[(0,.d (.str a0)),(3,.d (.v (.int .u32 p))),(7,.d (.v (.int .i64 v2)))]) (fun s h=>?_) (fun v3 h=>?_)
   ·refine T_block ?_
    refine T_reg [] [0,3,4,7] [(4,.d (.v (.int .i64 v2)))] [] 2 (by kernel_rfl) (trivial) ?_
    refine T_reg [] [0,3,4,7] [(3,.d (.v (.int .u32 (IntKind.u32.wrap (v1 * 2 ^ (min (8:Int).toNat IntKind.u32.bits))))))] [(1,0≤(8:Int))] 1 (by kernel_rfl) ((show 0≤(8:Int) by decide)) ?_
    refine T_reg [] [0,3,4,7,15] [(15,.d (.v (.bool (decide (v2 < (a0.length:Int))))))] [] 4 (by kernel_rfl) (trivial) ?_
    refine T_cond (decide (v2 < (a0.length:Int))) (by kernel_rfl) (fun hc=>?_) (fun hc=>?_)
    ·have h:=cond_tt hc h
     obtain ⟨hp1,h⟩:=chk_ok h
     obtain ⟨z1,hz1,h⟩:=lett_ok h
     obtain hs:=Option.some.inj h; subst hs
     refine T_reg_end [(5,{ rw:=some (.d (.v (.int .u32 z1))) })] [0,3,7] [(3,.d (.v (.int .u32 z1)))] [(3,0≤v2∧v2 < a0.length),(1,(True)∧AV.d (.v (.int .u32 (IntKind.u32.wrap ((BitVec.ofInt IntKind.u32.bits (IntKind.u32.wrap (v1 * 2 ^ (min (8:Int).toNat IntKind.u32.bits))) ||| BitVec.ofInt IntKind.u32.bits (IntKind.u32.wrap ((a0.getD v2.toNat 0).toNat:Int))).toNat:Int))))=.d (.v (.int .u32 z1)))] 1 (by kernel_rfl) (⟨hp1,⟨trivial,(by subst hz1; rfl)⟩⟩) fun a w hm=>inBlock_norm (then_norm (hm.co (cs:=[.keep [0,3,7]]) (by show _=_; kernel_rfl)))
    ·have h:=cond_ff hc h
     obtain hs:=Option.some.inj h; subst hs
     refine T_skip fun a w hm=>inBlock_norm (then_norm (hm.co (cs:=[.keep [0,3,7]]) (by show _=_; kernel_rfl)))
   ·skip
    refine T_reg_end [] [0,3,7] [(7,.d (.v (.int .i64 (IntKind.i64.wrap (v2+(1:Int))))))] [] 2 (by kernel_rfl) (trivial) fun a w hm=>then_norm (⟨(v3,IntKind.i64.wrap (v2+(1:Int))),h,hm.co (cs:=[.keep [0,3,7]]) (by show _=_; kernel_rfl)⟩)
  ·have h:=cond_ff hc h
   obtain hs:=Option.some.inj h; subst hs
   refine T_exit fun a w hm=>then_exit (then_exit (inBlock_exit (then_norm (hm.co (cs:=[.keep [0,3]]) (by show _=_; kernel_rfl)))))
 ·skip
  refine fun a w hm=>then_norm (((?_:T Tryz.prog e 47 _ _ _) a w hm))
  refine T_seqk ?_
  refine T_reg [] [0,3,29] [(29,.d (.v (.bool (bif (v7 == (0:Int)) then ((a0.length:Int) == (4:Int)) else false))))] [(3,((((v7 == (0:Int)) == true) && true)=true→True)),(0,((((v7 == (0:Int)) == true) && true)=true→True)),(0,((((v7 == (0:Int)) == true) && true)=true→True))] 1 (by kernel_rfl) (⟨(fun hg=>trivial),(fun hg=>trivial),(fun hg=>trivial)⟩) ?_
  refine T_cond (bif (v7 == (0:Int)) then ((a0.length:Int) == (4:Int)) else false) (by kernel_rfl) (fun hc=>?_) (fun hc=>?_)
  ·have h:=cond_tt hc h
   refine T_reg [] [2] [(2,.d (.str ([122]:List UInt8)))] [] 1 (by kernel_rfl) (trivial) ?_
   obtain hs:=Option.some.inj h; subst hs
   refine T_ret fun a w hm=>then_ret (T_return (fr':=[(2,.d (.str ([122]:List UInt8)))]) [2] (by kernel_rfl) [.keep [2]] (by kernel_rfl) (by kernel_rfl) (by kernel_rfl) (by show _=_; kernel_rfl) (by exact trivial) a w hm)
  ·have h:=cond_ff hc h
   refine T_skip fun a w hm=>then_norm (((?_:T Tryz.prog e 47 _ _ _) a w hm))
   refine T_reg [(0,{ es:=some ((List.replicate 5 0).map cU) })] [0,3,5] [(5,.arr 178 1 ((List.replicate 5 0).map cU))] [(0,ArrZero Tryz.prog 178 5 5∧List.replicate 5 (cU 0)=((List.replicate 5 0).map cU))] 0 (by kernel_rfl) (⟨(by show _=_; kernel_rfl),repl_ok cU rfl⟩) ?_
   refine T_seqk ?_
   refine T_reg [] [0,3,5,6] [(6,.d (.v (.int .i64 (4:Int))))] [] 1 (by kernel_rfl) (trivial) ?_
   refine T_joinct h (fun (p:(List UInt8))=>[(0,.d (.str a0)),(5,.arr 178 1 (p.map cU))]) (fun s h=>?_) (fun v8 h=>?_)
   ·refine T_co [.keep [0,3,5,6]] ((fun (p:Int×(List UInt8)×Int)=>[(0,.d (.str a0)),(3,.d (.v (.int .u32 p.1))),(5,.arr 178 1 (p.2.1.map cU)),(6,.d (.v (.int .i64 p.2.2)))]) (v7,(List.replicate 5 0),(4:Int))) (by show _=_; kernel_rfl) ?_
    refine T_block ?_
    refine T_loopF (ι:=Int×(List UInt8)×Int) (fun (p:Int×(List UInt8)×Int)=>[(0,.d (.str a0)),(3,.d (.v (.int .u32 p.1))),(5,.arr 178 1 (p.2.1.map cU)),(6,.d (.v (.int .i64 p.2.2)))]) (fun n p=>filter_group_L2 F n p.1 p.2.1 p.2.2=some s) (fun i hh=>by simp [filter_group_L2] at hh) (fun n p h=>?_) F (v7,(List.replicate 5 0),(4:Int)) h
    obtain ⟨v4,v5,v6⟩:=p
    have h:filter_group_L2 F (n+1) v4 v5 v6=some s:=h
    rw [filter_group_L2] at h
    refine T_seqk ?_
    refine T_reg [] [0,3,5,6,31] [(31,.d (.v (.bool (decide (v6 ≥ (0:Int))))))] [] 2 (by kernel_rfl) (trivial) ?_
    refine T_cond (decide (v6 ≥ (0:Int))) (by kernel_rfl) (fun hc=>?_) (fun hc=>?_)
    ·have h:=cond_tt hc h
     refine T_skip fun a w hm=>then_norm (((?_:T Tryz.prog e 47 _ _ _) a w hm))
     refine T_seqk ?_
     refine T_block ?_
     obtain ⟨hp2,h⟩:=chk_ok h
     obtain ⟨hp3,h⟩:=chk_ok h
     refine T_reg [(6,{ cs:=cU (v5.getD v6.toNat 0),es:=some ((v5.set v6.toNat (UInt8.ofNat (IntKind.u8.wrap ((33:Int)+(IntKind.u8.wrap (v4.tmod (85:Int))))).toNat)).map cU) })] [0,3,5,6] [(5,.arr 178 1 ((v5.set v6.toNat (UInt8.ofNat (IntKind.u8.wrap ((33:Int)+(IntKind.u8.wrap (v4.tmod (85:Int))))).toNat)).map cU))] [(2,(85:Int)≠0),(2,0≤v6∧v6 < 5),(0,(v5.map cU)[v6.toNat]? = some (cU (v5.getD v6.toNat 0))∧(v5.map cU).set v6.toNat ([Dat.v (.int .u8 (IntKind.u8.wrap ((33:Int)+(IntKind.u8.wrap (v4.tmod (85:Int))))))])=((v5.set v6.toNat (UInt8.ofNat (IntKind.u8.wrap ((33:Int)+(IntKind.u8.wrap (v4.tmod (85:Int))))).toNat)).map cU))] 0 (by kernel_rfl) (⟨(show (85:Int)≠0 by decide),(hp2).1,⟨(idx_ok (d:=0) cU ⟨(hp2).1.1,(hp2).2⟩).2,set_ok cU (cU_ofInt hp3)⟩⟩) ?_
     refine T_reg_end [] [0,3,5,6] [(3,.d (.v (.int .u32 (IntKind.u32.wrap (v4.tdiv (85:Int))))))] [(1,(85:Int)≠0)] 1 (by kernel_rfl) ((show (85:Int)≠0 by decide)) fun a w hm=>inBlock_norm (then_norm (((?_:T Tryz.prog e 47 _ _ _) a w hm)))
     refine T_reg_end [] [0,3,5,6] [(6,.d (.v (.int .i64 (IntKind.i64.wrap (v6 - (1:Int))))))] [] 3 (by kernel_rfl) (trivial) fun a w hm=>then_norm (⟨(IntKind.u32.wrap (v4.tdiv (85:Int)),(v5.set v6.toNat (UInt8.ofNat (IntKind.u8.wrap ((33:Int)+(IntKind.u8.wrap (v4.tmod (85:Int))))).toNat)),IntKind.i64.wrap (v6 - (1:Int))),h,hm.co (cs:=[.keep [0,3,5,6]]) (by show _=_; kernel_rfl)⟩)
    ·have h:=cond_ff hc h
     obtain hs:=Option.some.inj h; subst hs
     refine T_exit fun a w hm=>then_exit (then_exit (inBlock_exit (then_norm (hm.co (cs:=[.keep [0,5]]) (by show _=_; kernel_rfl)))))
   ·skip
    refine fun a w hm=>then_norm (((?_:T Tryz.prog e 47 _ _ _) a w hm))
    obtain ⟨hp4,h⟩:=chk_ok h
    obtain ⟨z2,hz2,h⟩:=lett_ok h
    refine T_reg [(3,{ frz:=[(5,0)],es:=some (((v8.drop (0:Int).toNat).take ((IntKind.i64.wrap ((a0.length:Int)+(1:Int))).toNat - (0:Int).toNat)).map cU),rw:=some (.d (.sl 1 (z2.map cU))) }),(4,{ cs:=[.str z2] })] [2] [(2,.d (.str z2))] [(3,((0≤(0:Int)∧(0:Int)≤(IntKind.i64.wrap ((a0.length:Int)+(1:Int)))∧(IntKind.i64.wrap ((a0.length:Int)+(1:Int)))≤((5:Nat):Int))∧(((v8.map cU).flatten.drop ((0:Int).toNat * 1)).take (((IntKind.i64.wrap ((a0.length:Int)+(1:Int))).toNat - (0:Int).toNat) * 1)=(((v8.drop (0:Int).toNat).take ((IntKind.i64.wrap ((a0.length:Int)+(1:Int))).toNat - (0:Int).toNat)).map cU).flatten∧(((v8.drop (0:Int).toNat).take ((IntKind.i64.wrap ((a0.length:Int)+(1:Int))).toNat - (0:Int).toNat)).map cU).length=(IntKind.i64.wrap ((a0.length:Int)+(1:Int))).toNat - (0:Int).toNat∧∀ e∈(((v8.drop (0:Int).toNat).take ((IntKind.i64.wrap ((a0.length:Int)+(1:Int))).toNat - (0:Int).toNat)).map cU),e.length=1))∧AV.d (.sl 1 (((v8.drop (0:Int).toNat).take ((IntKind.i64.wrap ((a0.length:Int)+(1:Int))).toNat - (0:Int).toNat)).map cU))=.d (.sl 1 (z2.map cU))),(0,(z2.map cU)=byteCells z2)] 1 (by kernel_rfl) (⟨⟨arrcut_ok cU 1 (fun _=>rfl) hp4,(by subst hz2; rfl)⟩,rfl⟩) ?_
    obtain hs:=Option.some.inj h; subst hs
    refine T_ret fun a w hm=>T_return (fr':=[(2,.d (.str z2))]) [2] (by kernel_rfl) [.keep [2]] (by kernel_rfl) (by kernel_rfl) (by kernel_rfl) (by show _=_; kernel_rfl) (by exact trivial) a w hm
theorem filter_ungroup_ok {F:Nat} {a0:List UInt8} {r:(List UInt8)×Int} (h:filter_ungroup F a0=some r):ACall Tryz.prog 137 [.d (.str a0)] [] (.tup [.d (.str r.1),.d (.v (.int .i64 r.2))]) []:=by
 rw [filter_ungroup] at h
 refine ACall.intro (N:=63) Tryz.func137 rfl rfl rfl rfl rfl fun e=>?_
 refine T_reg [] [0] [] [] 2 (by kernel_rfl) (trivial) ?_
 refine T_reg [] [0,4] [(4,.d (.v (.int .u64 (0:Int))))] [] 1 (by kernel_rfl) (trivial) ?_
 refine T_seqk ?_
 refine T_reg [] [0,4,8] [(8,.d (.v (.int .i64 (0:Int))))] [] 1 (by kernel_rfl) (trivial) ?_
 refine T_joinEt h (fun (p:Int)=>[(0,.d (.str a0)),(4,.d (.v (.int .u64 p)))]) (fun s h hk1=>?_) (fun v4 h=>?_)
 ·refine T_co [.keep [0,4,8]] ((fun (p:Int×Int)=>[(0,.d (.str a0)),(4,.d (.v (.int .u64 p.1))),(8,.d (.v (.int .i64 p.2)))]) ((0:Int),(0:Int))) (by show _=_; kernel_rfl) ?_
  refine T_block ?_
  refine T_loopF (ι:=Int×Int) (fun (p:Int×Int)=>[(0,.d (.str a0)),(4,.d (.v (.int .u64 p.1))),(8,.d (.v (.int .i64 p.2)))]) (fun n p=>filter_ungroup_L0 F a0 n p.1 p.2=some s) (fun i hh=>by simp [filter_ungroup_L0] at hh) (fun n p h=>?_) F ((0:Int),(0:Int)) h
  obtain ⟨v1,v2⟩:=p
  have h:filter_ungroup_L0 F a0 (n+1) v1 v2=some s:=h
  rw [filter_ungroup_L0] at h
  refine T_reg [] [0,4,8,9] [(9,.d (.v (.bool (decide (v2 < (5:Int))))))] [] 1 (by kernel_rfl) (trivial) ?_
  refine T_seqk ?_
  refine T_cond (decide (v2 < (5:Int))) (by kernel_rfl) (fun hc=>?_) (fun hc=>?_)
  ·have h:=cond_tt hc h
   refine T_skip fun a w hm=>then_norm (((?_:T Tryz.prog e 63 _ _ _) a w hm))
   refine T_seqk ?_
   refine T_block ?_
   refine T_reg [] [0,4,5,8] [(5,.d (.v (.int .i64 v2)))] [] 2 (by kernel_rfl) (trivial) ?_
   refine T_reg [] [0,4,5,6,8] [(6,.d (.v (.int .u64 (84:Int))))] [] 1 (by kernel_rfl) (trivial) ?_
   refine T_joinE h (fun (p:Int)=>[(0,.d (.str a0)),(4,.d (.v (.int .u64 v1))),(6,.d (.v (.int .u64 p))),(8,.d (.v (.int .i64 v2)))]) (fun s h hk2=>?_) (fun v3 h=>?_)
   ·refine T_reg [] [0,4,5,6,8,14] [(14,.d (.v (.bool (decide (v2 < (a0.length:Int))))))] [] 4 (by kernel_rfl) (trivial) ?_
    refine T_cond (decide (v2 < (a0.length:Int))) (by kernel_rfl) (fun hc=>?_) (fun hc=>?_)
    ·have h:=cond_tt hc h
     refine T_seqk ?_
     obtain ⟨hp1,h⟩:=chk_ok h
     obtain ⟨hp2,h⟩:=chk_ok h
     obtain ⟨z1,hz1,h⟩:=lett_ok h
     refine T_reg [(9,{ rw:=some (.d (.v (.bool z1))) })] [0,4,5,8,24] [(24,.d (.v (.bool z1)))] [(2,0≤v2∧v2 < a0.length),(2,((((decide (((a0.getD v2.toNat 0).toNat:Int) < (33:Int))) == false) && true)=true→True)),(0,((((decide (((a0.getD v2.toNat 0).toNat:Int) < (33:Int))) == false) && true)=true→True)),(0,((((decide (((a0.getD v2.toNat 0).toNat:Int) < (33:Int))) == false) && true)=true→0≤v2∧v2 < a0.length)),(0,((((decide (((a0.getD v2.toNat 0).toNat:Int) < (33:Int))) == false) && true)=true→True)),(0,(True)∧AV.d (.v (.bool (bif (decide (((a0.getD v2.toNat 0).toNat:Int) < (33:Int))) then true else (decide (((a0.getD v2.toNat 0).toNat:Int) > (117:Int))))))=.d (.v (.bool z1)))] 0 (by kernel_rfl) (⟨hp1,(fun hg=>trivial),(fun hg=>trivial),(fun hg=>(hp2 hg)),(fun hg=>trivial),⟨trivial,(by subst hz1; rfl)⟩⟩) ?_
     refine T_cond z1 (by kernel_rfl) (fun hc=>?_) (fun hc=>?_)
     ·have h:=cond_tt hc h
      refine T_reg [] [2,3] [(2,.d (.str [])),(3,.d (.v (.int .i64 (5:Int))))] [] 2 (by kernel_rfl) (trivial) ?_
      obtain hs:=Option.some.inj h; subst hs
      have h:=callE_esc hk2
      obtain hs:=Option.some.inj h; subst hs
      have h:=callE_esc hk1
      obtain hs:=Option.some.inj h; subst hs
      refine T_ret fun a w hm=>then_ret (then_ret (inBlock_ret (then_ret (then_ret (inBlock_ret (then_ret (then_ret (T_return (fr':=[(2,.d (.str [])),(3,.d (.v (.int .i64 (5:Int))))]) [2,3] (by kernel_rfl) [.keep [2,3]] (by kernel_rfl) (by kernel_rfl) (by kernel_rfl) (by show _=_; kernel_rfl) (by exact trivial) a w hm))))))))
     ·have h:=cond_ff hc h
      refine T_skip fun a w hm=>then_norm (((?_:T Tryz.prog e 63 _ _ _) a w hm))
      obtain ⟨hp3,h⟩:=chk_ok h
      obtain hs:=Option.some.inj h; subst hs
      refine T_reg_end [] [0,4,6,8] [(6,.d (.v (.int .u64 (IntKind.u64.wrap (IntKind.u8.wrap (((a0.getD v2.toNat 0).toNat:Int) - (33:Int)))))))] [(2,0≤v2∧v2 < a0.length)] 3 (by kernel_rfl) (hp3) fun a w hm=>then_norm (⟨_,rfl,hm.co (cs:=[.keep [0,4,6,8]]) (by show _=_; kernel_rfl)⟩)
    ·have h:=cond_ff hc h
     obtain hs:=Option.some.inj h; subst hs
     refine T_skip fun a w hm=>then_norm (⟨_,rfl,hm.co (cs:=[.keep [0,4,6,8]]) (by show _=_; kernel_rfl)⟩)
   ·skip
    refine T_reg_end [] [0,4,8] [(4,.d (.v (.int .u64 (IntKind.u64.wrap ((IntKind.u64.wrap (v1 * (85:Int)))+v3)))))] [] 5 (by kernel_rfl) (trivial) fun a w hm=>inBlock_norm (then_norm (((?_:T Tryz.prog e 63 _ _ _) a w hm)))
    refine T_reg_end [] [0,4,8] [(8,.d (.v (.int .i64 (IntKind.i64.wrap (v2+(1:Int))))))] [] 2 (by kernel_rfl) (trivial) fun a w hm=>then_norm (⟨(IntKind.u64.wrap ((IntKind.u64.wrap (v1 * (85:Int)))+v3),IntKind.i64.wrap (v2+(1:Int))),h,hm.co (cs:=[.keep [0,4,8]]) (by show _=_; kernel_rfl)⟩)
  ·have h:=cond_ff hc h
   obtain hs:=Option.some.inj h; subst hs
   refine T_exit fun a w hm=>then_exit (then_exit (inBlock_exit (then_norm (⟨_,rfl,hm.co (cs:=[.keep [0,4]]) (by show _=_; kernel_rfl)⟩))))
 ·skip
  refine fun a w hm=>then_norm (((?_:T Tryz.prog e 63 _ _ _) a w hm))
  refine T_seqk ?_
  refine T_reg [] [0,4,37] [(37,.d (.v (.bool ((a0.length:Int) == (1:Int)))))] [] 3 (by kernel_rfl) (trivial) ?_
  refine T_cond ((a0.length:Int) == (1:Int)) (by kernel_rfl) (fun hc=>?_) (fun hc=>?_)
  ·have h:=cond_tt hc h
   refine T_reg [] [2,3] [(2,.d (.str [])),(3,.d (.v (.int .i64 (12:Int))))] [] 2 (by kernel_rfl) (trivial) ?_
   obtain hs:=Option.some.inj h; subst hs
   refine T_ret fun a w hm=>then_ret (T_return (fr':=[(2,.d (.str [])),(3,.d (.v (.int .i64 (12:Int))))]) [2,3] (by kernel_rfl) [.keep [2,3]] (by kernel_rfl) (by kernel_rfl) (by kernel_rfl) (by show _=_; kernel_rfl) (by exact trivial) a w hm)
  ·have h:=cond_ff hc h
   refine T_skip fun a w hm=>then_norm (((?_:T Tryz.prog e 63 _ _ _) a w hm))
   refine T_seqk ?_
   refine T_reg [] [0,4,40] [(40,.d (.v (.bool ((v4.fdiv (2 ^ (min (32:Int).toNat IntKind.u64.bits))) != (0:Int)))))] [(1,0≤(32:Int))] 1 (by kernel_rfl) ((show 0≤(32:Int) by decide)) ?_
   refine T_cond ((v4.fdiv (2 ^ (min (32:Int).toNat IntKind.u64.bits))) != (0:Int)) (by kernel_rfl) (fun hc=>?_) (fun hc=>?_)
   ·have h:=cond_tt hc h
    refine T_reg [] [2,3] [(2,.d (.str [])),(3,.d (.v (.int .i64 (3:Int))))] [] 2 (by kernel_rfl) (trivial) ?_
    obtain hs:=Option.some.inj h; subst hs
    refine T_ret fun a w hm=>then_ret (T_return (fr':=[(2,.d (.str [])),(3,.d (.v (.int .i64 (3:Int))))]) [2,3] (by kernel_rfl) [.keep [2,3]] (by kernel_rfl) (by kernel_rfl) (by kernel_rfl) (by show _=_; kernel_rfl) (by exact trivial) a w hm)
   ·have h:=cond_ff hc h
    refine T_skip fun a w hm=>then_norm (((?_:T Tryz.prog e 63 _ _ _) a w hm))
    obtain ⟨hp4,h⟩:=chk_ok h
    obtain ⟨hp5,h⟩:=chk_ok h
    obtain ⟨hp6,h⟩:=chk_ok h
    obtain ⟨hp7,h⟩:=chk_ok h
    obtain ⟨hp8,h⟩:=chk_ok h
    obtain ⟨z2,hz2,h⟩:=lett_ok h
    refine T_reg [(11,{ es:=some (([(UInt8.ofNat (IntKind.u8.wrap (v4.fdiv (2 ^ (min (24:Int).toNat IntKind.u64.bits)))).toNat),(UInt8.ofNat (IntKind.u8.wrap (v4.fdiv (2 ^ (min (16:Int).toNat IntKind.u64.bits)))).toNat),(UInt8.ofNat (IntKind.u8.wrap (v4.fdiv (2 ^ (min (8:Int).toNat IntKind.u64.bits)))).toNat),(UInt8.ofNat (IntKind.u8.wrap v4).toNat)]).map cU) }),(15,{ take:=[0],es:=some ((([(UInt8.ofNat (IntKind.u8.wrap (v4.fdiv (2 ^ (min (24:Int).toNat IntKind.u64.bits)))).toNat),(UInt8.ofNat (IntKind.u8.wrap (v4.fdiv (2 ^ (min (16:Int).toNat IntKind.u64.bits)))).toNat),(UInt8.ofNat (IntKind.u8.wrap (v4.fdiv (2 ^ (min (8:Int).toNat IntKind.u64.bits)))).toNat),(UInt8.ofNat (IntKind.u8.wrap v4).toNat)]).take (IntKind.i64.wrap ((a0.length:Int) - (1:Int))).toNat).map cU) }),(16,{ cs:=[.str (([(UInt8.ofNat (IntKind.u8.wrap (v4.fdiv (2 ^ (min (24:Int).toNat IntKind.u64.bits)))).toNat),(UInt8.ofNat (IntKind.u8.wrap (v4.fdiv (2 ^ (min (16:Int).toNat IntKind.u64.bits)))).toNat),(UInt8.ofNat (IntKind.u8.wrap (v4.fdiv (2 ^ (min (8:Int).toNat IntKind.u64.bits)))).toNat),(UInt8.ofNat (IntKind.u8.wrap v4).toNat)]).take (IntKind.i64.wrap ((a0.length:Int) - (1:Int))).toNat)],rw:=some (.d (.str z2)) })] [0,7] [(7,.d (.str z2))] [(1,0≤(24:Int)),(2,0≤(16:Int)),(2,0≤(8:Int)),(3,[[Dat.v (.int .u8 (IntKind.u8.wrap (v4.fdiv (2 ^ (min (24:Int).toNat IntKind.u64.bits)))))],[Dat.v (.int .u8 (IntKind.u8.wrap (v4.fdiv (2 ^ (min (16:Int).toNat IntKind.u64.bits)))))],[Dat.v (.int .u8 (IntKind.u8.wrap (v4.fdiv (2 ^ (min (8:Int).toNat IntKind.u64.bits)))))],[Dat.v (.int .u8 (IntKind.u8.wrap v4))]]=(([(UInt8.ofNat (IntKind.u8.wrap (v4.fdiv (2 ^ (min (24:Int).toNat IntKind.u64.bits)))).toNat),(UInt8.ofNat (IntKind.u8.wrap (v4.fdiv (2 ^ (min (16:Int).toNat IntKind.u64.bits)))).toNat),(UInt8.ofNat (IntKind.u8.wrap (v4.fdiv (2 ^ (min (8:Int).toNat IntKind.u64.bits)))).toNat),(UInt8.ofNat (IntKind.u8.wrap v4).toNat)]).map cU)),(3,(0≤(IntKind.i64.wrap ((a0.length:Int) - (1:Int)))∧(IntKind.i64.wrap ((a0.length:Int) - (1:Int)))≤((([(UInt8.ofNat (IntKind.u8.wrap (v4.fdiv (2 ^ (min (24:Int).toNat IntKind.u64.bits)))).toNat),(UInt8.ofNat (IntKind.u8.wrap (v4.fdiv (2 ^ (min (16:Int).toNat IntKind.u64.bits)))).toNat),(UInt8.ofNat (IntKind.u8.wrap (v4.fdiv (2 ^ (min (8:Int).toNat IntKind.u64.bits)))).toNat),(UInt8.ofNat (IntKind.u8.wrap v4).toNat)]).map cU).length:Int))∧(([(UInt8.ofNat (IntKind.u8.wrap (v4.fdiv (2 ^ (min (24:Int).toNat IntKind.u64.bits)))).toNat),(UInt8.ofNat (IntKind.u8.wrap (v4.fdiv (2 ^ (min (16:Int).toNat IntKind.u64.bits)))).toNat),(UInt8.ofNat (IntKind.u8.wrap (v4.fdiv (2 ^ (min (8:Int).toNat IntKind.u64.bits)))).toNat),(UInt8.ofNat (IntKind.u8.wrap v4).toNat)]).map cU).take (IntKind.i64.wrap ((a0.length:Int) - (1:Int))).toNat=((([(UInt8.ofNat (IntKind.u8.wrap (v4.fdiv (2 ^ (min (24:Int).toNat IntKind.u64.bits)))).toNat),(UInt8.ofNat (IntKind.u8.wrap (v4.fdiv (2 ^ (min (16:Int).toNat IntKind.u64.bits)))).toNat),(UInt8.ofNat (IntKind.u8.wrap (v4.fdiv (2 ^ (min (8:Int).toNat IntKind.u64.bits)))).toNat),(UInt8.ofNat (IntKind.u8.wrap v4).toNat)]).take (IntKind.i64.wrap ((a0.length:Int) - (1:Int))).toNat).map cU)),(0,(((([(UInt8.ofNat (IntKind.u8.wrap (v4.fdiv (2 ^ (min (24:Int).toNat IntKind.u64.bits)))).toNat),(UInt8.ofNat (IntKind.u8.wrap (v4.fdiv (2 ^ (min (16:Int).toNat IntKind.u64.bits)))).toNat),(UInt8.ofNat (IntKind.u8.wrap (v4.fdiv (2 ^ (min (8:Int).toNat IntKind.u64.bits)))).toNat),(UInt8.ofNat (IntKind.u8.wrap v4).toNat)]).take (IntKind.i64.wrap ((a0.length:Int) - (1:Int))).toNat).map cU)=byteCells (([(UInt8.ofNat (IntKind.u8.wrap (v4.fdiv (2 ^ (min (24:Int).toNat IntKind.u64.bits)))).toNat),(UInt8.ofNat (IntKind.u8.wrap (v4.fdiv (2 ^ (min (16:Int).toNat IntKind.u64.bits)))).toNat),(UInt8.ofNat (IntKind.u8.wrap (v4.fdiv (2 ^ (min (8:Int).toNat IntKind.u64.bits)))).toNat),(UInt8.ofNat (IntKind.u8.wrap v4).toNat)]).take (IntKind.i64.wrap ((a0.length:Int) - (1:Int))).toNat))∧AV.d (.str (([(UInt8.ofNat (IntKind.u8.wrap (v4.fdiv (2 ^ (min (24:Int).toNat IntKind.u64.bits)))).toNat),(UInt8.ofNat (IntKind.u8.wrap (v4.fdiv (2 ^ (min (16:Int).toNat IntKind.u64.bits)))).toNat),(UInt8.ofNat (IntKind.u8.wrap (v4.fdiv (2 ^ (min (8:Int).toNat IntKind.u64.bits)))).toNat),(UInt8.ofNat (IntKind.u8.wrap v4).toNat)]).take (IntKind.i64.wrap ((a0.length:Int) - (1:Int))).toNat))=.d (.str z2))] 1 (by kernel_rfl) (⟨(show 0≤(24:Int) by decide),(show 0≤(16:Int) by decide),(show 0≤(8:Int) by decide),(lit_u hp4 (lit_u hp5 (lit_u hp6 (lit_u hp7 (rfl:([]:List (List Dat))=([]:List UInt8).map cU))))),take_ok cU hp8,⟨rfl,(by subst hz2; rfl)⟩⟩) ?_
    refine T_seqk ?_
    obtain ⟨y1,hy1,h⟩:=call_ok h
    refine T_reg [(1,{ res:=.d (.str y1) })] [7,61] [(61,.d (.v (.bool (!(y1 == a0)))))] [(1,ACall Tryz.prog 138 [.d (.str z2)] [] (.d (.str y1)) [])] 2 (by kernel_rfl) (filter_group_ok hy1) ?_
    refine T_cond (!(y1 == a0)) (by kernel_rfl) (fun hc=>?_) (fun hc=>?_)
    ·have h:=cond_tt hc h
     refine T_reg [] [2,3] [(2,.d (.str [])),(3,.d (.v (.int .i64 (4:Int))))] [] 2 (by kernel_rfl) (trivial) ?_
     obtain hs:=Option.some.inj h; subst hs
     refine T_ret fun a w hm=>then_ret (T_return (fr':=[(2,.d (.str [])),(3,.d (.v (.int .i64 (4:Int))))]) [2,3] (by kernel_rfl) [.keep [2,3]] (by kernel_rfl) (by kernel_rfl) (by kernel_rfl) (by show _=_; kernel_rfl) (by exact trivial) a w hm)
    ·have h:=cond_ff hc h
     refine T_skip fun a w hm=>then_norm (((?_:T Tryz.prog e 63 _ _ _) a w hm))
     refine T_reg [] [2,3] [(2,.d (.str z2)),(3,.d (.v (.int .i64 (0:Int))))] [] 3 (by kernel_rfl) (trivial) ?_
     obtain hs:=Option.some.inj h; subst hs
     refine T_ret fun a w hm=>T_return (fr':=[(2,.d (.str z2)),(3,.d (.v (.int .i64 (0:Int))))]) [2,3] (by kernel_rfl) [.keep [2,3]] (by kernel_rfl) (by kernel_rfl) (by kernel_rfl) (by show _=_; kernel_rfl) (by exact trivial) a w hm
theorem filter_text_decode_ok {F:Nat} {a0:S_filter_copies} {a1:List UInt8} {r:(List UInt8)×Int} (h:filter_text_decode F a0 a1=some r):ACall Tryz.prog 135 [.agg (cS_filter_copies a0),.d (.str a1)] [] (.tup [.d (.str r.1),.d (.v (.int .i64 r.2))]) []:=by
 rw [filter_text_decode] at h
 refine ACall.intro (N:=39) Tryz.func135 rfl rfl rfl rfl rfl fun e=>?_
 refine T_reg [] [1] [] [] 3 (by kernel_rfl) (trivial) ?_
 refine T_reg [(0,{ slfs:=[(0,0)] })] [1,6] [(6,.box [.slf 0 74,.own 5 1 ([].map cU)])] [] 1 (by kernel_rfl) (trivial) ?_
 refine T_joinE h (fun (p:(List UInt8))=>[(6,.box [.slf 0 74,.own 5 1 (p.map cU)])]) (fun s h hk1=>?_) (fun v5 h=>?_)
 ·refine T_co [.keep [1,6]] ((fun (p:(List UInt8)×(List UInt8))=>[(1,.d (.str p.1)),(6,.box [.slf 0 74,.own 5 1 (p.2.map cU)])]) (a1,[])) (by show _=_; kernel_rfl) ?_
  refine T_block ?_
  refine T_loopF (ι:=(List UInt8)×(List UInt8)) (fun (p:(List UInt8)×(List UInt8))=>[(1,.d (.str p.1)),(6,.box [.slf 0 74,.own 5 1 (p.2.map cU)])]) (fun n p=>filter_text_decode_L0 F n p.1 p.2=some s) (fun i hh=>by simp [filter_text_decode_L0] at hh) (fun n p h=>?_) F (a1,[]) h
  obtain ⟨v1,v2⟩:=p
  have h:filter_text_decode_L0 F (n+1) v1 v2=some s:=h
  rw [filter_text_decode_L0] at h
  refine T_seqk ?_
  refine T_reg [] [1,6,11] [(11,.d (.v (.bool (!(v1 == [])))))] [] 2 (by kernel_rfl) (trivial) ?_
  refine T_cond (!(v1 == [])) (by kernel_rfl) (fun hc=>?_) (fun hc=>?_)
  ·have h:=cond_tt hc h
   refine T_skip fun a w hm=>then_norm (((?_:T Tryz.prog e 39 _ _ _) a w hm))
   refine T_block ?_
   refine T_joinE h (fun (p:(List UInt8)×(List UInt8))=>[(1,.d (.str p.1)),(6,.box [.slf 0 74,.own 5 1 (p.2.map cU)])]) (fun s h hk2=>?_) (fun s h=>?_)
   ·obtain ⟨hp1,h⟩:=chk_ok h
    refine T_reg [] [1,6,14] [(14,.d (.v (.bool (((v1.getD (0:Int).toNat 0).toNat:Int) == (122:Int)))))] [(1,0≤(0:Int)∧(0:Int) < v1.length)] 1 (by kernel_rfl) (hp1) ?_
    refine T_cond (((v1.getD (0:Int).toNat 0).toNat:Int) == (122:Int)) (by kernel_rfl) (fun hc=>?_) (fun hc=>?_)
    ·have h:=cond_tt hc h
     obtain ⟨y1,hy1,h⟩:=call_ok h
     refine T_reg [(0,{ res:=.tup [.d (.v (.int .i64 y1.1)),.d (.v .nilIface)],vout:=[.box [.slf 0 74,.own 5 1 (y1.2.2.map cU)]],xs:=[6] })] [1,6] [(6,.box [.slf 0 74,.own 5 1 (y1.2.2.map cU)])] [(0,ACall Tryz.prog 31 [.bp 1000000 0,.d (.str ([0,0,0,0]:List UInt8))] [.box [.slf 0 74,.own 5 1 (v2.map cU)]] (.tup [.d (.v (.int .i64 y1.1)),.d (.v .nilIface)]) [.box [.slf 0 74,.own 5 1 (y1.2.2.map cU)]])] 0 (by kernel_rfl) (strings_Builder_WriteString_ok hy1) ?_
     obtain ⟨hp2,h⟩:=chk_ok h
     obtain hs:=Option.some.inj h; subst hs
     refine T_reg_end [] [1,6] [(1,.d (.str ((v1.drop (1:Int).toNat).take ((v1.length:Int).toNat - (1:Int).toNat))))] [(1,0≤(1:Int)∧(1:Int)≤(v1.length:Int)∧(v1.length:Int)≤(v1.length:Int))] 1 (by kernel_rfl) (hp2) fun a w hm=>then_norm (⟨_,rfl,hm.co (cs:=[.keep [1,6]]) (by show _=_; kernel_rfl)⟩)
    ·have h:=cond_ff hc h
     refine T_reg [] [1,6,7] [(7,.d (.v (.int .i64 (if (5:Int) < (v1.length:Int) then (5:Int) else (v1.length:Int)))))] [] 4 (by kernel_rfl) (trivial) ?_
     obtain ⟨hp3,h⟩:=chk_ok h
     obtain ⟨z1,hz1,h⟩:=lett_ok h
     obtain ⟨y2,hy2,h⟩:=call_ok h
     refine T_reg [(2,{ rw:=some (.d (.str z1)) }),(3,{ res:=.tup [.d (.str y2.1),.d (.v (.int .i64 y2.2))] })] [1,6,7,8,9] [(8,.d (.str y2.1)),(9,.d (.v (.int .i64 y2.2)))] [(2,(0≤(0:Int)∧(0:Int)≤(if (5:Int) < (v1.length:Int) then (5:Int) else (v1.length:Int))∧(if (5:Int) < (v1.length:Int) then (5:Int) else (v1.length:Int))≤(v1.length:Int))∧AV.d (.str ((v1.drop (0:Int).toNat).take ((if (5:Int) < (v1.length:Int) then (5:Int) else (v1.length:Int)).toNat - (0:Int).toNat)))=.d (.str z1)),(0,ACall Tryz.prog 137 [.d (.str z1)] [] (.tup [.d (.str y2.1),.d (.v (.int .i64 y2.2))]) [])] 5 (by kernel_rfl) (⟨⟨hp3,(by subst hz1; rfl)⟩,filter_ungroup_ok hy2⟩) ?_
     refine T_seqk ?_
     refine T_reg [] [1,6,7,8,9,29] [(29,.d (.v (.bool (y2.2 != (0:Int)))))] [] 2 (by kernel_rfl) (trivial) ?_
     refine T_cond (y2.2 != (0:Int)) (by kernel_rfl) (fun hc=>?_) (fun hc=>?_)
     ·have h:=cond_tt hc h
      refine T_reg [] [4,5] [(4,.d (.str [])),(5,.d (.v (.int .i64 y2.2)))] [] 3 (by kernel_rfl) (trivial) ?_
      obtain hs:=Option.some.inj h; subst hs
      have h:=callE_esc hk2
      obtain hs:=Option.some.inj h; subst hs
      have h:=callE_esc hk1
      obtain hs:=Option.some.inj h; subst hs
      refine T_ret fun a w hm=>then_ret (then_ret (inBlock_ret (then_ret (inBlock_ret (then_ret (T_return (fr':=[(4,.d (.str [])),(5,.d (.v (.int .i64 y2.2)))]) [4,5] (by kernel_rfl) [.keep [4,5]] (by kernel_rfl) (by kernel_rfl) (by kernel_rfl) (by show _=_; kernel_rfl) (by exact trivial) a w hm))))))
     ·have h:=cond_ff hc h
      refine T_skip fun a w hm=>then_norm (((?_:T Tryz.prog e 39 _ _ _) a w hm))
      obtain ⟨y3,hy3,h⟩:=call_ok h
      refine T_reg [(1,{ res:=.tup [.d (.v (.int .i64 y3.1)),.d (.v .nilIface)],vout:=[.box [.slf 0 74,.own 5 1 (y3.2.2.map cU)]],xs:=[6] })] [1,6,7] [(6,.box [.slf 0 74,.own 5 1 (y3.2.2.map cU)])] [(1,ACall Tryz.prog 31 [.bp 1000000 0,.d (.str y2.1)] [.box [.slf 0 74,.own 5 1 (v2.map cU)]] (.tup [.d (.v (.int .i64 y3.1)),.d (.v .nilIface)]) [.box [.slf 0 74,.own 5 1 (y3.2.2.map cU)]])] 0 (by kernel_rfl) (strings_Builder_WriteString_ok hy3) ?_
      obtain ⟨hp4,h⟩:=chk_ok h
      obtain ⟨z2,hz2,h⟩:=lett_ok h
      obtain hs:=Option.some.inj h; subst hs
      refine T_reg_end [(2,{ rw:=some (.d (.str z2)) })] [1,6] [(1,.d (.str z2))] [(2,(0≤(if (5:Int) < (v1.length:Int) then (5:Int) else (v1.length:Int))∧(if (5:Int) < (v1.length:Int) then (5:Int) else (v1.length:Int))≤(v1.length:Int)∧(v1.length:Int)≤(v1.length:Int))∧AV.d (.str ((v1.drop (if (5:Int) < (v1.length:Int) then (5:Int) else (v1.length:Int)).toNat).take ((v1.length:Int).toNat - (if (5:Int) < (v1.length:Int) then (5:Int) else (v1.length:Int)).toNat)))=.d (.str z2))] 1 (by kernel_rfl) (⟨hp4,(by subst hz2; rfl)⟩) fun a w hm=>then_norm (⟨_,rfl,hm.co (cs:=[.keep [1,6]]) (by show _=_; kernel_rfl)⟩)
   ·obtain ⟨v3,v4⟩:=s
    try dsimp only at h
    obtain ⟨y4,hy4,h⟩:=call_ok h
    refine T_reg [(0,{ res:=.d (.v (.int .i64 y4.1)),vout:=[.box [.slf 0 74,.own 5 1 (y4.2.map cU)]],xs:=[6] })] [1,6,37] [(6,.box [.slf 0 74,.own 5 1 (y4.2.map cU)]),(37,.d (.v (.bool (decide (y4.1 > (65536:Int))))))] [(0,ACall Tryz.prog 44 [.bp 1000000 0] [.box [.slf 0 74,.own 5 1 (v4.map cU)]] (.d (.v (.int .i64 y4.1))) [.box [.slf 0 74,.own 5 1 (y4.2.map cU)]])] 1 (by kernel_rfl) (strings_Builder_Len_ok hy4) ?_
    refine T_cond (decide (y4.1 > (65536:Int))) (by kernel_rfl) (fun hc=>?_) (fun hc=>?_)
    ·have h:=cond_tt hc h
     refine T_reg [] [4,5] [(4,.d (.str [])),(5,.d (.v (.int .i64 (2:Int))))] [] 2 (by kernel_rfl) (trivial) ?_
     obtain hs:=Option.some.inj h; subst hs
     have h:=callE_esc hk1
     obtain hs:=Option.some.inj h; subst hs
     refine T_ret fun a w hm=>inBlock_ret (then_ret (inBlock_ret (then_ret (T_return (fr':=[(4,.d (.str [])),(5,.d (.v (.int .i64 (2:Int))))]) [4,5] (by kernel_rfl) [.keep [4,5]] (by kernel_rfl) (by kernel_rfl) (by kernel_rfl) (by show _=_; kernel_rfl) (by exact trivial) a w hm))))
    ·have h:=cond_ff hc h
     refine T_skip fun a w hm=>inBlock_norm (then_norm (⟨(v3,y4.2),h,hm.co (cs:=[.keep [1,6]]) (by show _=_; kernel_rfl)⟩))
  ·have h:=cond_ff hc h
   obtain hs:=Option.some.inj h; subst hs
   refine T_exit fun a w hm=>then_exit (then_exit (inBlock_exit (then_norm (⟨_,rfl,hm.co (cs:=[.keep [6]]) (by show _=_; kernel_rfl)⟩))))
 ·skip
  obtain ⟨hp5,h⟩:=chk_ok h
  refine T_reg [(0,{ xs:=[6],vout:=[.box [.slf 0 74,.junk]],res:=.d (.str v5) })] [4,5] [(4,.d (.str v5)),(5,.d (.v (.int .i64 (0:Int))))] [(0,ACall Tryz.prog 32 [.bp 1000000 0] [.box [.slf 0 74,.own 5 1 (v5.map cU)]] (.d (.str v5)) [.box [.slf 0 74,.junk]])] 2 (by kernel_rfl) (b_String (l:=v5) hp5 (by kernel_rfl) (by kernel_rfl)) ?_
  obtain hs:=Option.some.inj h; subst hs
  refine T_ret fun a w hm=>T_return (fr':=[(4,.d (.str v5)),(5,.d (.v (.int .i64 (0:Int))))]) [4,5] (by kernel_rfl) [.keep [4,5]] (by kernel_rfl) (by kernel_rfl) (by kernel_rfl) (by show _=_; kernel_rfl) (by exact trivial) a w hm
theorem I_filter_coding_decode_ok {F : Nat} {x : I_filter_coding} {a1 : List UInt8} {r : (List UInt8) × Int} (h : I_filter_coding_decode F x a1 = some r) : ICall Tryz.prog "printworks/filter.decode" [.d (.v (vI_filter_coding x)),.d (.str a1)] [] (.tup [.d (.str r.1),.d (.v (.int .i64 r.2))]) [] := by
 cases x with
 | nil=>exact absurd h (by simp [I_filter_coding_decode])
 | k_runs x=>exact ⟨117,_,_,120,rfl,(fun _ h=>by cases h),by kernel_rfl,filter_runs_decode_ok (a0:=x) h⟩
 | k_rows x=>exact ⟨119,_,_,131,rfl,(List.forall_mem_cons.2 ⟨rfl,fun _ h=>by cases h⟩),by kernel_rfl,filter_rows_decode_ok (a0:=x) h⟩
 | k_copies x=>exact ⟨120,_,_,133,rfl,(fun _ h=>by cases h),by kernel_rfl,filter_copies_decode_ok (a0:=x) h⟩
 | k_text x=>exact ⟨121,_,_,135,rfl,(fun _ h=>by cases h),by kernel_rfl,filter_text_decode_ok (a0:=x) h⟩
theorem filter_Decode_ok {F:Nat} {a0:List S_FilterStep} {a1:List UInt8} {r:(List UInt8)×Int} (h:filter_Decode F a0 a1=some r):ACall Tryz.prog 43 [.d (.sl 2 (a0.map cS_FilterStep)),.d (.str a1)] [] (.tup [.d (.str r.1),.d (.v (.int .i64 r.2))]) []:=by
 rw [filter_Decode] at h
 refine ACall.intro (N:=42) Tryz.func43 rfl rfl rfl rfl rfl fun e=>?_
 refine T_reg [] [0,1] [] [] 2 (by kernel_rfl) (trivial) ?_
 refine T_seqk ?_
 obtain ⟨y3,hy1,h⟩:=call_ok h
 refine T_reg [(1,{ res:=.d (.v (.int .i64 y3)) })] [0,1,6] [(6,.d (.v (.int .i64 y3)))] [(1,ACall Tryz.prog 63 [.d (.sl 2 (a0.map cS_FilterStep))] [] (.d (.v (.int .i64 y3))) [])] 1 (by kernel_rfl) (filter_Check_ok hy1) ?_
 refine T_reg [] [0,1,6,12] [(12,.d (.v (.bool (y3 != (0:Int)))))] [] 2 (by kernel_rfl) (trivial) ?_
 refine T_cond (y3 != (0:Int)) (by kernel_rfl) (fun hc=>?_) (fun hc=>?_)
 ·have h:=cond_tt hc h
  refine T_reg [] [4,5] [(4,.d (.str [])),(5,.d (.v (.int .i64 y3)))] [] 3 (by kernel_rfl) (trivial) ?_
  obtain hs:=Option.some.inj h; subst hs
  refine T_ret fun a w hm=>then_ret (T_return (fr':=[(4,.d (.str [])),(5,.d (.v (.int .i64 y3)))]) [4,5] (by kernel_rfl) [.keep [4,5]] (by kernel_rfl) (by kernel_rfl) (by kernel_rfl) (by show _=_; kernel_rfl) (by exact trivial) a w hm)
 ·have h:=cond_ff hc h
  refine T_skip fun a w hm=>then_norm (((?_:T Tryz.prog e 42 _ _ _) a w hm))
  refine T_seqk ?_
  refine T_reg [] [0,1,16] [(16,.d (.v (.bool (decide ((a1.length:Int) > (65536:Int))))))] [] 3 (by kernel_rfl) (trivial) ?_
  refine T_cond (decide ((a1.length:Int) > (65536:Int))) (by kernel_rfl) (fun hc=>?_) (fun hc=>?_)
  ·have h:=cond_tt hc h
   refine T_reg [] [4,5] [(4,.d (.str [])),(5,.d (.v (.int .i64 (2:Int))))] [] 2 (by kernel_rfl) (trivial) ?_
   obtain hs:=Option.some.inj h; subst hs
   refine T_ret fun a w hm=>then_ret (T_return (fr':=[(4,.d (.str [])),(5,.d (.v (.int .i64 (2:Int))))]) [4,5] (by kernel_rfl) [.keep [4,5]] (by kernel_rfl) (by kernel_rfl) (by kernel_rfl) (by show _=_; kernel_rfl) (by exact trivial) a w hm)
  ·have h:=cond_ff hc h
   refine T_skip fun a w hm=>then_norm (((?_:T Tryz.prog e 42 _ _ _) a w hm))
   refine T_seqk ?_
   refine T_reg [(1,{ rw:=some (.d (.v (.int .i64 (a0.length:Int)))) })] [0,1,7] [(7,.d (.v (.int .i64 (IntKind.i64.wrap ((a0.length:Int) - (1:Int))))))] [(1,True∧AV.d (.v (.int .i64 ((a0.map cS_FilterStep).length:Int)))=.d (.v (.int .i64 (a0.length:Int))))] 2 (by kernel_rfl) (len_ok cS_FilterStep) ?_
   refine T_joinEt h (fun (p:(List UInt8))=>[(1,.d (.str p))]) (fun s h hk1=>?_) (fun v3 h=>?_)
   ·refine T_co [.keep [0,1,7]] ((fun (p:(List UInt8)×Int)=>[(0,.d (.sl 2 (a0.map cS_FilterStep))),(1,.d (.str p.1)),(7,.d (.v (.int .i64 p.2)))]) (a1,IntKind.i64.wrap ((a0.length:Int) - (1:Int)))) (by show _=_; kernel_rfl) ?_
    refine T_block ?_
    refine T_loopF (ι:=(List UInt8)×Int) (fun (p:(List UInt8)×Int)=>[(0,.d (.sl 2 (a0.map cS_FilterStep))),(1,.d (.str p.1)),(7,.d (.v (.int .i64 p.2)))]) (fun n p=>filter_Decode_L0 F a0 n p.1 p.2=some s) (fun i hh=>by simp [filter_Decode_L0] at hh) (fun n p h=>?_) F (a1,IntKind.i64.wrap ((a0.length:Int) - (1:Int))) h
    obtain ⟨v1,v2⟩:=p
    have h:filter_Decode_L0 F a0 (n+1) v1 v2=some s:=h
    rw [filter_Decode_L0] at h
    refine T_seqk ?_
    refine T_reg [] [0,1,7,21] [(21,.d (.v (.bool (decide (v2 ≥ (0:Int))))))] [] 2 (by kernel_rfl) (trivial) ?_
    refine T_cond (decide (v2 ≥ (0:Int))) (by kernel_rfl) (fun hc=>?_) (fun hc=>?_)
    ·have h:=cond_tt hc h
     refine T_skip fun a w hm=>then_norm (((?_:T Tryz.prog e 42 _ _ _) a w hm))
     refine T_seqk ?_
     refine T_block ?_
     refine T_reg [] [0,1,7] [] [] 1 (by kernel_rfl) (trivial) ?_
     obtain ⟨hp1,h⟩:=chk_ok h
     obtain ⟨y1,hy2,h⟩:=call_ok h
     obtain ⟨y2,hy3,h⟩:=call_ok h
     refine T_reg [(2,{ cs := cS_FilterStep (a0.getD v2.toNat (S_FilterStep.mk 0 0)) }),(4,{ res := .d (.v (vI_filter_coding y1)) }),(6,{ res := .tup [.d (.str y2.1),.d (.v (.int .i64 y2.2))] })] [0,1,7,8] [(1,.d (.str y2.1)),(8,.d (.v (.int .i64 y2.2)))] [(2,0 ≤ v2 ∧ (a0.map cS_FilterStep)[v2.toNat]? = some (cS_FilterStep (a0.getD v2.toNat (S_FilterStep.mk 0 0)))),(1,ACall Tryz.prog 64 [.agg (cS_FilterStep (a0.getD v2.toNat (S_FilterStep.mk 0 0)))] [] (.d (.v (vI_filter_coding y1))) []),(1,ICall Tryz.prog "printworks/filter.decode" [.d (.v (vI_filter_coding y1)),.d (.str v1)] [] (.tup [.d (.str y2.1),.d (.v (.int .i64 y2.2))]) [])] 5 (by kernel_rfl) (⟨idx_ok (d := (S_FilterStep.mk 0 0)) cS_FilterStep hp1,filter_codingOf_ok hy2,I_filter_coding_decode_ok hy3⟩) ?_
     refine T_reg [] [0,1,7,8,35] [(35,.d (.v (.bool (y2.2 != (0:Int)))))] [] 2 (by kernel_rfl) (trivial) ?_
     refine T_cond (y2.2 != (0:Int)) (by kernel_rfl) (fun hc=>?_) (fun hc=>?_)
     ·have h:=cond_tt hc h
      refine T_reg [] [4,5] [(4,.d (.str [])),(5,.d (.v (.int .i64 y2.2)))] [] 3 (by kernel_rfl) (trivial) ?_
      obtain hs:=Option.some.inj h; subst hs
      have h:=callE_esc hk1
      obtain hs:=Option.some.inj h; subst hs
      refine T_ret fun a w hm=>inBlock_ret (then_ret (then_ret (inBlock_ret (then_ret (then_ret (T_return (fr':=[(4,.d (.str [])),(5,.d (.v (.int .i64 y2.2)))]) [4,5] (by kernel_rfl) [.keep [4,5]] (by kernel_rfl) (by kernel_rfl) (by kernel_rfl) (by show _=_; kernel_rfl) (by exact trivial) a w hm))))))
     ·have h:=cond_ff hc h
      refine T_skip fun a w hm=>inBlock_norm (then_norm (((?_:T Tryz.prog e 42 _ _ _) a w hm)))
      refine T_reg_end [] [0,1,7] [(7,.d (.v (.int .i64 (IntKind.i64.wrap (v2 - (1:Int))))))] [] 3 (by kernel_rfl) (trivial) fun a w hm=>then_norm (⟨(y2.1,IntKind.i64.wrap (v2 - (1:Int))),h,hm.co (cs:=[.keep [0,1,7]]) (by show _=_; kernel_rfl)⟩)
    ·have h:=cond_ff hc h
     obtain hs:=Option.some.inj h; subst hs
     refine T_exit fun a w hm=>then_exit (then_exit (inBlock_exit (then_norm (⟨_,rfl,hm.co (cs:=[.keep [1]]) (by show _=_; kernel_rfl)⟩))))
   ·skip
    refine fun a w hm=>then_norm (((?_:T Tryz.prog e 42 _ _ _) a w hm))
    refine T_seqk ?_
    refine T_reg [] [1,39] [(39,.d (.v (.bool (decide ((v3.length:Int) > (16384:Int))))))] [] 3 (by kernel_rfl) (trivial) ?_
    refine T_cond (decide ((v3.length:Int) > (16384:Int))) (by kernel_rfl) (fun hc=>?_) (fun hc=>?_)
    ·have h:=cond_tt hc h
     refine T_reg [] [4,5] [(4,.d (.str [])),(5,.d (.v (.int .i64 (2:Int))))] [] 2 (by kernel_rfl) (trivial) ?_
     obtain hs:=Option.some.inj h; subst hs
     refine T_ret fun a w hm=>then_ret (T_return (fr':=[(4,.d (.str [])),(5,.d (.v (.int .i64 (2:Int))))]) [4,5] (by kernel_rfl) [.keep [4,5]] (by kernel_rfl) (by kernel_rfl) (by kernel_rfl) (by show _=_; kernel_rfl) (by exact trivial) a w hm)
    ·have h:=cond_ff hc h
     refine T_skip fun a w hm=>then_norm (((?_:T Tryz.prog e 42 _ _ _) a w hm))
     obtain ⟨y4,hy4,h⟩:=call_ok h
     refine T_reg [(1,{ res:=.d (.str y4) })] [4,5] [(4,.d (.str y4)),(5,.d (.v (.int .i64 (0:Int))))] [(1,ACall Tryz.prog 54 [.d (.str v3)] [] (.d (.str y4)) [])] 2 (by kernel_rfl) (strings_Clone_ok hy4) ?_
     obtain hs:=Option.some.inj h; subst hs
     refine T_ret fun a w hm=>T_return (fr':=[(4,.d (.str y4)),(5,.d (.v (.int .i64 (0:Int))))]) [4,5] (by kernel_rfl) [.keep [4,5]] (by kernel_rfl) (by kernel_rfl) (by kernel_rfl) (by show _=_; kernel_rfl) (by exact trivial) a w hm
theorem ref3_Parts_ok {F:Nat} {a0:List UInt8} {a1:Int} {r:(List (List UInt8))} (h:ref3_Parts F a0 a1=some r):ACall Tryz.prog 21 [.d (.str a0),.d (.v (.int .u8 a1))] [] (.own 9 1 (r.map cS)) []:=by
 rw [ref3_Parts] at h
 refine ACall.intro (N:=36) Tryz.func21 rfl rfl rfl rfl rfl fun e=>?_
 refine T_reg [] [0,1] [] [] 1 (by kernel_rfl) (trivial) ?_
 refine T_reg [(0,{ es:=some (([([]:List UInt8)]).map cS) })] [0,1,5] [(5,.own 9 1 (([([]:List UInt8)]).map cS))] [(0,(([([]:List UInt8)]).map cS)=(([([]:List UInt8)]).map cS))] 1 (by kernel_rfl) (rfl) ?_
 refine T_seqk ?_
 refine T_reg [] [0,1,5,9,10] [(9,.d (.v (.int .i64 (a0.length:Int)))),(10,.d (.v (.int .i64 (0:Int))))] [] 3 (by kernel_rfl) (trivial) ?_
 refine T_joinct h (fun (p:(List (List UInt8)))=>[(5,.own 9 1 (p.map cS))]) (fun s h=>?_) (fun v4 h=>?_)
 ·refine T_co [.keep [0,1,5,9,10]] ((fun (p:(List (List UInt8))×Int)=>[(0,.d (.str a0)),(1,.d (.v (.int .u8 a1))),(5,.own 9 1 (p.1.map cS)),(9,.d (.v (.int .i64 (a0.length:Int)))),(10,.d (.v (.int .i64 p.2)))]) ([([]:List UInt8)],(0:Int))) (by show _=_; kernel_rfl) ?_
  refine T_block ?_
  refine T_loopF (ι:=(List (List UInt8))×Int) (fun (p:(List (List UInt8))×Int)=>[(0,.d (.str a0)),(1,.d (.v (.int .u8 a1))),(5,.own 9 1 (p.1.map cS)),(9,.d (.v (.int .i64 (a0.length:Int)))),(10,.d (.v (.int .i64 p.2)))]) (fun n p=>ref3_Parts_L0 F a0 a1 n p.1 p.2=some s) (fun i hh=>by simp [ref3_Parts_L0] at hh) (fun n p h=>?_) F ([([]:List UInt8)],(0:Int)) h
  obtain ⟨v1,v2⟩:=p
  have h:ref3_Parts_L0 F a0 a1 (n+1) v1 v2=some s:=h
  rw [ref3_Parts_L0] at h
  refine T_reg [] [0,1,5,9,10,11] [(11,.d (.v (.bool (decide (v2 < (a0.length:Int))))))] [] 1 (by kernel_rfl) (trivial) ?_
  refine T_seqk ?_
  refine T_cond (decide (v2 < (a0.length:Int))) (by kernel_rfl) (fun hc=>?_) (fun hc=>?_)
  ·have h:=cond_tt hc h
   refine T_skip fun a w hm=>then_norm (((?_:T Tryz.prog e 36 _ _ _) a w hm))
   refine T_joinc h (fun (p:(List (List UInt8)))=>[(0,.d (.str a0)),(1,.d (.v (.int .u8 a1))),(5,.own 9 1 (p.map cS)),(9,.d (.v (.int .i64 (a0.length:Int)))),(10,.d (.v (.int .i64 v2)))]) (fun s h=>?_) (fun v3 h=>?_)
   ·refine T_block ?_
    refine T_reg [] [0,1,5,6,9,10] [(6,.d (.v (.int .i64 v2)))] [] 2 (by kernel_rfl) (trivial) ?_
    obtain ⟨hp1,h⟩:=chk_ok h
    refine T_reg [] [0,1,5,6,9,10,17] [(17,.d (.v (.bool (((a0.getD v2.toNat 0).toNat:Int) == a1))))] [(2,0≤v2∧v2 < a0.length)] 2 (by kernel_rfl) (hp1) ?_
    refine T_cond (((a0.getD v2.toNat 0).toNat:Int) == a1) (by kernel_rfl) (fun hc=>?_) (fun hc=>?_)
    ·have h:=cond_tt hc h
     obtain ⟨hp2,h⟩:=chk_ok h
     obtain hs:=Option.some.inj h; subst hs
     refine T_reg_end [(1,{ es:=some (([([]:List UInt8)]).map cS) }),(2,{ es:=some ((v1++([([]:List UInt8)])).map cS) })] [0,1,5,9,10] [(5,.own 9 1 ((v1++([([]:List UInt8)])).map cS))] [(1,(([([]:List UInt8)]).map cS)=(([([]:List UInt8)]).map cS)),(0,(v1.map cS).length+(([([]:List UInt8)]).map cS).length≤4294967296∧(v1.map cS)++(([([]:List UInt8)]).map cS)=((v1++([([]:List UInt8)])).map cS))] 1 (by kernel_rfl) (⟨rfl,app_ok cS hp2⟩) fun a w hm=>inBlock_norm (then_norm (hm.co (cs:=[.keep [0,1,5,9,10]]) (by show _=_; kernel_rfl)))
    ·have h:=cond_ff hc h
     obtain ⟨hp3,h⟩:=chk_ok h
     obtain ⟨hp4,h⟩:=chk_ok h
     obtain ⟨hp5,h⟩:=chk_ok h
     obtain ⟨z1,hz1,h⟩:=lett_ok h
     obtain ⟨hp6,h⟩:=chk_ok h
     obtain hs:=Option.some.inj h; subst hs
     refine T_drawS_end mixed 13 [(2,{ rw:=some (.d (.v (.int .i64 (v1.length:Int)))) }),(5,{ cs:=cS (v1.getD (IntKind.i64.wrap ((v1.length:Int) - (1:Int))).toNat []) }),(11,{ rw:=some (.d (.str z1)) }),(13,{ cs:=cS (v1.getD (IntKind.i64.wrap ((v1.length:Int) - (1:Int))).toNat []),es:=some ((v1.set (IntKind.i64.wrap ((v1.length:Int) - (1:Int))).toNat z1).map cS) })] [0,1,5,9,10] [] [(0,.d (.str a0)),(1,.d (.v (.int .u8 a1))),(5,.own 9 1 ((v1.set (IntKind.i64.wrap ((v1.length:Int) - (1:Int))).toNat z1).map cS)),(9,.d (.v (.int .i64 (a0.length:Int)))),(10,.d (.v (.int .i64 v2)))] [(2,True∧AV.d (.v (.int .i64 ((v1.map cS).length:Int)))=.d (.v (.int .i64 (v1.length:Int)))),(1,0≤(IntKind.i64.wrap ((v1.length:Int) - (1:Int)))∧(IntKind.i64.wrap ((v1.length:Int) - (1:Int))) < (v1.map cS).length),(0,(v1.map cS)[(IntKind.i64.wrap ((v1.length:Int) - (1:Int))).toNat]? = some (cS (v1.getD (IntKind.i64.wrap ((v1.length:Int) - (1:Int))).toNat []))),(4,0≤v2∧v2≤(IntKind.i64.wrap (v2+(1:Int)))∧(IntKind.i64.wrap (v2+(1:Int)))≤(a0.length:Int)),(0,((v1.getD (IntKind.i64.wrap ((v1.length:Int) - (1:Int))).toNat []).length+((a0.drop v2.toNat).take ((IntKind.i64.wrap (v2+(1:Int))).toNat - v2.toNat)).length≤9223372036854775807)∧AV.d (.str ((v1.getD (IntKind.i64.wrap ((v1.length:Int) - (1:Int))).toNat [])++((a0.drop v2.toNat).take ((IntKind.i64.wrap (v2+(1:Int))).toNat - v2.toNat))))=.d (.str z1)),(0,0≤(IntKind.i64.wrap ((v1.length:Int) - (1:Int)))∧(IntKind.i64.wrap ((v1.length:Int) - (1:Int))) < (v1.map cS).length),(0,(v1.map cS)[(IntKind.i64.wrap ((v1.length:Int) - (1:Int))).toNat]? = some (cS (v1.getD (IntKind.i64.wrap ((v1.length:Int) - (1:Int))).toNat []))∧(v1.map cS).set (IntKind.i64.wrap ((v1.length:Int) - (1:Int))).toNat (cS z1)=((v1.set (IntKind.i64.wrap ((v1.length:Int) - (1:Int))).toNat z1).map cS))] 0 (by kernel_rfl) (⟨len_ok cS,own_idx cS hp3,(idx_ok (d:=[]) cS hp3).2,hp4,⟨hp5,(by subst hz1; rfl)⟩,own_idx cS hp6,⟨(idx_ok (d:=[]) cS hp6).2,set_ok cS rfl⟩⟩) fun a w hm=>inBlock_norm (then_norm (hm.co (cs:=[.keep [0,1,5,9,10]]) (by show _=_; kernel_rfl)))
   ·skip
    refine T_reg_end [] [0,1,5,9,10] [(10,.d (.v (.int .i64 (IntKind.i64.wrap (v2+(1:Int))))))] [] 2 (by kernel_rfl) (trivial) fun a w hm=>then_norm (⟨(v3,IntKind.i64.wrap (v2+(1:Int))),h,hm.co (cs:=[.keep [0,1,5,9,10]]) (by show _=_; kernel_rfl)⟩)
  ·have h:=cond_ff hc h
   obtain hs:=Option.some.inj h; subst hs
   refine T_exit fun a w hm=>then_exit (then_exit (inBlock_exit (then_norm (hm.co (cs:=[.keep [5]]) (by show _=_; kernel_rfl)))))
 ·skip
  refine fun a w hm=>then_norm (((?_:T Tryz.prog e 36 _ _ _) a w hm))
  refine T_reg [] [4,5] [(4,.vw (5,0))] [] 2 (by kernel_rfl) (trivial) ?_
  obtain hs:=Option.some.inj h; subst hs
  refine T_ret fun a w hm=>T_return (fr':=[(4,.own 9 1 (v4.map cS))]) [4] (by kernel_rfl) [.claim 4,.keep [4]] (by kernel_rfl) (by kernel_rfl) (by kernel_rfl) (by show _=_; kernel_rfl) (by exact trivial) a w hm
theorem ref3_Stepped_ok {F:Nat} {a0:Int} {a1:Bool} {r:Int} (h:ref3_Stepped F a0 a1=some r):ACall Tryz.prog 46 [.d (.v (.int .u32 a0)),.d (.v (.bool a1))] [] (.d (.v (.int .u32 r))) []:=by
 rw [ref3_Stepped] at h
 refine ACall.intro (N:=17) Tryz.func46 rfl rfl rfl rfl rfl fun e=>?_
 refine T_reg [] [0,1] [] [] 1 (by kernel_rfl) (trivial) ?_
 refine T_reg [] [0,1,5] [(5,.d (.v (.int .u32 (IntKind.u32.wrap ((IntKind.u32.wrap (a0.tdiv (2:Int)))+(0:Int))))))] [(1,(2:Int)≠0)] 2 (by kernel_rfl) ((show (2:Int)≠0 by decide)) ?_
 refine T_seqk ?_
 refine T_reg [] [5,13] [(13,.d (.v (.bool (!(((a0.tmod (2:Int)) == (1:Int)) == a1)))))] [(1,(2:Int)≠0)] 3 (by kernel_rfl) ((show (2:Int)≠0 by decide)) ?_
 refine T_cond (!(((a0.tmod (2:Int)) == (1:Int)) == a1)) (by kernel_rfl) (fun hc=>?_) (fun hc=>?_)
 ·have h:=cond_tt hc h
  obtain ⟨z1,hz1,h⟩:=lett_ok h
  refine T_reg [(1,{ rw:=some (.d (.v (.int .u32 z1))) })] [4] [(4,.d (.v (.int .u32 z1)))] [(1,(True)∧AV.d (.v (.int .u32 (IntKind.u32.wrap ((BitVec.ofInt IntKind.u32.bits (IntKind.u32.wrap ((IntKind.u32.wrap (a0.tdiv (2:Int)))+(0:Int))) ^^^ BitVec.ofInt IntKind.u32.bits (3988292384:Int)).toNat:Int))))=.d (.v (.int .u32 z1)))] 1 (by kernel_rfl) (⟨trivial,(by subst hz1; rfl)⟩) ?_
  obtain hs:=Option.some.inj h; subst hs
  refine T_ret fun a w hm=>then_ret (T_return (fr':=[(4,.d (.v (.int .u32 z1)))]) [4] (by kernel_rfl) [.keep [4]] (by kernel_rfl) (by kernel_rfl) (by kernel_rfl) (by show _=_; kernel_rfl) (by exact trivial) a w hm)
 ·have h:=cond_ff hc h
  refine T_skip fun a w hm=>then_norm (((?_:T Tryz.prog e 17 _ _ _) a w hm))
  refine T_reg [] [4] [(4,.d (.v (.int .u32 (IntKind.u32.wrap ((IntKind.u32.wrap (a0.tdiv (2:Int)))+(0:Int))))))] [] 2 (by kernel_rfl) (trivial) ?_
  obtain hs:=Option.some.inj h; subst hs
  refine T_ret fun a w hm=>T_return (fr':=[(4,.d (.v (.int .u32 (IntKind.u32.wrap ((IntKind.u32.wrap (a0.tdiv (2:Int)))+(0:Int))))))]) [4] (by kernel_rfl) [.keep [4]] (by kernel_rfl) (by kernel_rfl) (by kernel_rfl) (by show _=_; kernel_rfl) (by exact trivial) a w hm
theorem ref3_Check32_ok {F:Nat} {a0:List UInt8} {r:Int} (h:ref3_Check32 F a0=some r):ACall Tryz.prog 23 [.d (.str a0)] [] (.d (.v (.int .u32 r))) []:=by
 rw [ref3_Check32] at h
 refine ACall.intro (N:=27) Tryz.func23 rfl rfl rfl rfl rfl fun e=>?_
 refine T_reg [] [0] [] [] 1 (by kernel_rfl) (trivial) ?_
 refine T_reg [] [0,3] [(3,.d (.v (.int .u32 (4294967295:Int))))] [] 1 (by kernel_rfl) (trivial) ?_
 refine T_seqk ?_
 refine T_reg [] [0,3,7,8] [(7,.d (.v (.int .i64 (a0.length:Int)))),(8,.d (.v (.int .i64 (0:Int))))] [] 3 (by kernel_rfl) (trivial) ?_
 refine T_joinct h (fun (p:Int)=>[(3,.d (.v (.int .u32 p)))]) (fun s h=>?_) (fun v6 h=>?_)
 ·refine T_co [.keep [0,3,7,8]] ((fun (p:Int×Int)=>[(0,.d (.str a0)),(3,.d (.v (.int .u32 p.1))),(7,.d (.v (.int .i64 (a0.length:Int)))),(8,.d (.v (.int .i64 p.2)))]) ((4294967295:Int),(0:Int))) (by show _=_; kernel_rfl) ?_
  refine T_block ?_
  refine T_loopF (ι:=Int×Int) (fun (p:Int×Int)=>[(0,.d (.str a0)),(3,.d (.v (.int .u32 p.1))),(7,.d (.v (.int .i64 (a0.length:Int)))),(8,.d (.v (.int .i64 p.2)))]) (fun n p=>ref3_Check32_L0 F a0 n p.1 p.2=some s) (fun i hh=>by simp [ref3_Check32_L0] at hh) (fun n p h=>?_) F ((4294967295:Int),(0:Int)) h
  obtain ⟨v4,v1⟩:=p
  have h:ref3_Check32_L0 F a0 (n+1) v4 v1=some s:=h
  rw [ref3_Check32_L0] at h
  refine T_reg [] [0,3,7,8,9] [(9,.d (.v (.bool (decide (v1 < (a0.length:Int))))))] [] 1 (by kernel_rfl) (trivial) ?_
  refine T_seqk ?_
  refine T_cond (decide (v1 < (a0.length:Int))) (by kernel_rfl) (fun hc=>?_) (fun hc=>?_)
  ·have h:=cond_tt hc h
   refine T_skip fun a w hm=>then_norm (((?_:T Tryz.prog e 27 _ _ _) a w hm))
   refine T_seqk ?_
   refine T_block ?_
   refine T_reg [] [0,3,4,7,8] [(4,.d (.v (.int .i64 v1)))] [] 2 (by kernel_rfl) (trivial) ?_
   refine T_reg [] [0,3,4,7,8,11] [(11,.d (.v (.int .i64 (0:Int))))] [] 1 (by kernel_rfl) (trivial) ?_
   refine T_joinct h (fun (p:Int)=>[(0,.d (.str a0)),(3,.d (.v (.int .u32 p))),(7,.d (.v (.int .i64 (a0.length:Int)))),(8,.d (.v (.int .i64 v1)))]) (fun s h=>?_) (fun v5 h=>?_)
   ·refine T_co [.keep [0,3,4,7,8,11]] ((fun (p:Int×Int)=>[(0,.d (.str a0)),(3,.d (.v (.int .u32 p.1))),(4,.d (.v (.int .i64 v1))),(7,.d (.v (.int .i64 (a0.length:Int)))),(8,.d (.v (.int .i64 v1))),(11,.d (.v (.int .i64 p.2)))]) (v4,(0:Int))) (by show _=_; kernel_rfl) ?_
    refine T_block ?_
    refine T_loopF (ι:=Int×Int) (fun (p:Int×Int)=>[(0,.d (.str a0)),(3,.d (.v (.int .u32 p.1))),(4,.d (.v (.int .i64 v1))),(7,.d (.v (.int .i64 (a0.length:Int)))),(8,.d (.v (.int .i64 v1))),(11,.d (.v (.int .i64 p.2)))]) (fun n p=>ref3_Check32_L2 F a0 v1 n p.1 p.2=some s) (fun i hh=>by simp [ref3_Check32_L2] at hh) (fun n p h=>?_) F (v4,(0:Int)) h
    obtain ⟨v2,v3⟩:=p
    have h:ref3_Check32_L2 F a0 v1 (n+1) v2 v3=some s:=h
    rw [ref3_Check32_L2] at h
    refine T_reg [] [0,3,4,7,8,11,12] [(12,.d (.v (.bool (decide (v3 < (8:Int))))))] [] 1 (by kernel_rfl) (trivial) ?_
    refine T_seqk ?_
    refine T_cond (decide (v3 < (8:Int))) (by kernel_rfl) (fun hc=>?_) (fun hc=>?_)
    ·have h:=cond_tt hc h
     refine T_skip fun a w hm=>then_norm (((?_:T Tryz.prog e 27 _ _ _) a w hm))
     refine T_seqk ?_
     refine T_block ?_
     refine T_reg [] [0,3,4,5,7,8,11] [(5,.d (.v (.int .i64 v3)))] [] 2 (by kernel_rfl) (trivial) ?_
     obtain ⟨hp1,h⟩:=chk_ok h
     obtain ⟨hp2,h⟩:=chk_ok h
     obtain ⟨z1,hz1,h⟩:=lett_ok h
     obtain ⟨y1,hy1,h⟩:=call_ok h
     refine T_reg_end [(6,{ rw:=some (.d (.v (.int .u8 z1))) }),(8,{ res:=.d (.v (.int .u32 y1)) })] [0,3,4,7,8,11] [(3,.d (.v (.int .u32 y1)))] [(3,0≤v1∧v1 < a0.length),(1,0≤v3),(0,(True)∧AV.d (.v (.int .u8 (IntKind.u8.wrap ((BitVec.ofInt IntKind.u8.bits (((a0.getD v1.toNat 0).toNat:Int).fdiv (2 ^ (min v3.toNat IntKind.u8.bits))) &&& BitVec.ofInt IntKind.u8.bits (1:Int)).toNat:Int))))=.d (.v (.int .u8 z1))),(1,ACall Tryz.prog 46 [.d (.v (.int .u32 v2)),.d (.v (.bool (z1 == (1:Int))))] [] (.d (.v (.int .u32 y1))) [])] 1 (by kernel_rfl) (⟨hp1,hp2,⟨trivial,(by subst hz1; rfl)⟩,ref3_Stepped_ok hy1⟩) fun a w hm=>inBlock_norm (then_norm (((?_:T Tryz.prog e 27 _ _ _) a w hm)))
     refine T_reg_end [] [0,3,4,7,8,11] [(11,.d (.v (.int .i64 (IntKind.i64.wrap (v3+(1:Int))))))] [] 2 (by kernel_rfl) (trivial) fun a w hm=>then_norm (⟨(y1,IntKind.i64.wrap (v3+(1:Int))),h,hm.co (cs:=[.keep [0,3,4,7,8,11]]) (by show _=_; kernel_rfl)⟩)
    ·have h:=cond_ff hc h
     obtain hs:=Option.some.inj h; subst hs
     refine T_exit fun a w hm=>then_exit (then_exit (inBlock_exit (then_norm (hm.co (cs:=[.keep [0,3,7,8]]) (by show _=_; kernel_rfl)))))
   ·skip
    refine fun a w hm=>inBlock_norm (then_norm (((?_:T Tryz.prog e 27 _ _ _) a w hm)))
    refine T_reg_end [] [0,3,7,8] [(8,.d (.v (.int .i64 (IntKind.i64.wrap (v1+(1:Int))))))] [] 2 (by kernel_rfl) (trivial) fun a w hm=>then_norm (⟨(v5,IntKind.i64.wrap (v1+(1:Int))),h,hm.co (cs:=[.keep [0,3,7,8]]) (by show _=_; kernel_rfl)⟩)
  ·have h:=cond_ff hc h
   obtain hs:=Option.some.inj h; subst hs
   refine T_exit fun a w hm=>then_exit (then_exit (inBlock_exit (then_norm (hm.co (cs:=[.keep [3]]) (by show _=_; kernel_rfl)))))
 ·skip
  refine fun a w hm=>then_norm (((?_:T Tryz.prog e 27 _ _ _) a w hm))
  obtain ⟨z2,hz2,h⟩:=lett_ok h
  refine T_reg [(1,{ rw:=some (.d (.v (.int .u32 z2))) })] [2] [(2,.d (.v (.int .u32 z2)))] [(1,(True)∧AV.d (.v (.int .u32 (IntKind.u32.wrap ((BitVec.ofInt IntKind.u32.bits v6 ^^^ BitVec.ofInt IntKind.u32.bits (4294967295:Int)).toNat:Int))))=.d (.v (.int .u32 z2)))] 1 (by kernel_rfl) (⟨trivial,(by subst hz2; rfl)⟩) ?_
  obtain hs:=Option.some.inj h; subst hs
  refine T_ret fun a w hm=>T_return (fr':=[(2,.d (.v (.int .u32 z2)))]) [2] (by kernel_rfl) [.keep [2]] (by kernel_rfl) (by kernel_rfl) (by kernel_rfl) (by show _=_; kernel_rfl) (by exact trivial) a w hm
theorem ref3_Hexed_ok {F:Nat} {a0:Int} {r:(List UInt8)} (h:ref3_Hexed F a0=some r):ACall Tryz.prog 22 [.d (.v (.int .u32 a0))] [] (.d (.str r)) []:=by
 rw [ref3_Hexed] at h
 refine ACall.intro (N:=18) Tryz.func22 rfl rfl rfl rfl rfl fun e=>?_
 refine T_reg [] [0] [] [] 1 (by kernel_rfl) (trivial) ?_
 refine T_reg [] [0,3] [(3,.d (.str []))] [] 1 (by kernel_rfl) (trivial) ?_
 refine T_seqk ?_
 refine T_reg [] [0,3,4] [(4,.d (.v (.int .i64 (0:Int))))] [] 1 (by kernel_rfl) (trivial) ?_
 refine T_joinct h (fun (p:(List UInt8))=>[(3,.d (.str p))]) (fun s h=>?_) (fun v4 h=>?_)
 ·refine T_co [.keep [0,3,4]] ((fun (p:Int×(List UInt8)×Int)=>[(0,.d (.v (.int .u32 p.1))),(3,.d (.str p.2.1)),(4,.d (.v (.int .i64 p.2.2)))]) (a0,[],(0:Int))) (by show _=_; kernel_rfl) ?_
  refine T_block ?_
  refine T_loopF (ι:=Int×(List UInt8)×Int) (fun (p:Int×(List UInt8)×Int)=>[(0,.d (.v (.int .u32 p.1))),(3,.d (.str p.2.1)),(4,.d (.v (.int .i64 p.2.2)))]) (fun n p=>ref3_Hexed_L0 F n p.1 p.2.1 p.2.2=some s) (fun i hh=>by simp [ref3_Hexed_L0] at hh) (fun n p h=>?_) F (a0,[],(0:Int)) h
  obtain ⟨v1,v2,v3⟩:=p
  have h:ref3_Hexed_L0 F (n+1) v1 v2 v3=some s:=h
  rw [ref3_Hexed_L0] at h
  refine T_reg [] [0,3,4,5] [(5,.d (.v (.bool (decide (v3 < (8:Int))))))] [] 1 (by kernel_rfl) (trivial) ?_
  refine T_seqk ?_
  refine T_cond (decide (v3 < (8:Int))) (by kernel_rfl) (fun hc=>?_) (fun hc=>?_)
  ·have h:=cond_tt hc h
   refine T_skip fun a w hm=>then_norm (((?_:T Tryz.prog e 18 _ _ _) a w hm))
   refine T_seqk ?_
   refine T_block ?_
   obtain ⟨hp1,h⟩:=chk_ok h
   obtain ⟨z1,hz1,h⟩:=lett_ok h
   obtain ⟨hp2,h⟩:=chk_ok h
   refine T_reg [(5,{ rw:=some (.d (.str z1)) })] [0,3,4] [(3,.d (.str (z1++v2)))] [(1,(16:Int)≠0),(1,(16:Int)≠0),(1,(0≤(v1.tmod (16:Int))∧(v1.tmod (16:Int))≤(IntKind.u32.wrap ((v1.tmod (16:Int))+(1:Int)))∧(IntKind.u32.wrap ((v1.tmod (16:Int))+(1:Int)))≤(([48,49,50,51,52,53,54,55,56,57,97,98,99,100,101,102]:List UInt8).length:Int))∧AV.d (.str ((([48,49,50,51,52,53,54,55,56,57,97,98,99,100,101,102]:List UInt8).drop (v1.tmod (16:Int)).toNat).take ((IntKind.u32.wrap ((v1.tmod (16:Int))+(1:Int))).toNat - (v1.tmod (16:Int)).toNat)))=.d (.str z1)),(1,z1.length+v2.length≤9223372036854775807)] 1 (by kernel_rfl) (⟨(show (16:Int)≠0 by decide),(show (16:Int)≠0 by decide),⟨hp1,(by subst hz1; rfl)⟩,hp2⟩) ?_
   refine T_reg_end [] [0,3,4] [(0,.d (.v (.int .u32 (IntKind.u32.wrap (v1.tdiv (16:Int))))))] [(1,(16:Int)≠0)] 1 (by kernel_rfl) ((show (16:Int)≠0 by decide)) fun a w hm=>inBlock_norm (then_norm (((?_:T Tryz.prog e 18 _ _ _) a w hm)))
   refine T_reg_end [] [0,3,4] [(4,.d (.v (.int .i64 (IntKind.i64.wrap (v3+(1:Int))))))] [] 2 (by kernel_rfl) (trivial) fun a w hm=>then_norm (⟨(IntKind.u32.wrap (v1.tdiv (16:Int)),(z1++v2),IntKind.i64.wrap (v3+(1:Int))),h,hm.co (cs:=[.keep [0,3,4]]) (by show _=_; kernel_rfl)⟩)
  ·have h:=cond_ff hc h
   obtain hs:=Option.some.inj h; subst hs
   refine T_exit fun a w hm=>then_exit (then_exit (inBlock_exit (then_norm (hm.co (cs:=[.keep [3]]) (by show _=_; kernel_rfl)))))
 ·skip
  refine fun a w hm=>then_norm (((?_:T Tryz.prog e 18 _ _ _) a w hm))
  refine T_reg [] [2] [(2,.d (.str v4))] [] 2 (by kernel_rfl) (trivial) ?_
  obtain hs:=Option.some.inj h; subst hs
  refine T_ret fun a w hm=>T_return (fr':=[(2,.d (.str v4))]) [2] (by kernel_rfl) [.keep [2]] (by kernel_rfl) (by kernel_rfl) (by kernel_rfl) (by show _=_; kernel_rfl) (by exact trivial) a w hm
theorem ref3_Lettered_ok {F:Nat} {a0:List UInt8} {r:(List UInt8)} (h:ref3_Lettered F a0=some r):ACall Tryz.prog 47 [.d (.str a0)] [] (.d (.str r)) []:=by
 rw [ref3_Lettered] at h
 refine ACall.intro (N:=66) Tryz.func47 rfl rfl rfl rfl rfl fun e=>?_
 refine T_reg [] [0] [] [] 1 (by kernel_rfl) (trivial) ?_
 refine T_reg [] [0,3] [(3,.own 5 1 ([].map cU))] [] 1 (by kernel_rfl) (trivial) ?_
 refine T_seqk ?_
 refine T_reg [] [0,3,4] [(4,.d (.v (.int .i64 (0:Int))))] [] 1 (by kernel_rfl) (trivial) ?_
 refine T_joinct h (fun (p:(List UInt8))=>[(3,.own 5 1 (p.map cU))]) (fun s h=>?_) (fun v13 h=>?_)
 ·refine T_co [.keep [0,3,4]] ((fun (p:(List UInt8)×Int)=>[(0,.d (.str a0)),(3,.own 5 1 (p.1.map cU)),(4,.d (.v (.int .i64 p.2)))]) ([],(0:Int))) (by show _=_; kernel_rfl) ?_
  refine T_block ?_
  refine T_loopF (ι:=(List UInt8)×Int) (fun (p:(List UInt8)×Int)=>[(0,.d (.str a0)),(3,.own 5 1 (p.1.map cU)),(4,.d (.v (.int .i64 p.2)))]) (fun n p=>ref3_Lettered_L0 F a0 n p.1 p.2=some s) (fun i hh=>by simp [ref3_Lettered_L0] at hh) (fun n p h=>?_) F ([],(0:Int)) h
  obtain ⟨v9,v1⟩:=p
  have h:ref3_Lettered_L0 F a0 (n+1) v9 v1=some s:=h
  rw [ref3_Lettered_L0] at h
  refine T_seqk ?_
  refine T_reg [] [0,3,4,12] [(12,.d (.v (.bool (decide (v1 < (a0.length:Int))))))] [] 4 (by kernel_rfl) (trivial) ?_
  refine T_cond (decide (v1 < (a0.length:Int))) (by kernel_rfl) (fun hc=>?_) (fun hc=>?_)
  ·have h:=cond_tt hc h
   refine T_skip fun a w hm=>then_norm (((?_:T Tryz.prog e 66 _ _ _) a w hm))
   refine T_joinc h (fun (p:(List UInt8))=>[(0,.d (.str a0)),(3,.own 5 1 (p.map cU)),(4,.d (.v (.int .i64 v1)))]) (fun s h=>?_) (fun v12 h=>?_)
   ·refine T_block ?_
    obtain ⟨z1,hz1,h⟩:=lett_ok h
    refine T_reg [(4,{ rw:=some (.d (.v (.int .i64 z1))) })] [0,3,4,5] [(5,.d (.v (.int .i64 z1)))] [(4,(True)∧AV.d (.v (.int .i64 (if (IntKind.i64.wrap ((a0.length:Int) - v1)) < (4:Int) then (IntKind.i64.wrap ((a0.length:Int) - v1)) else (4:Int))))=.d (.v (.int .i64 z1)))] 1 (by kernel_rfl) (⟨trivial,(by subst hz1; rfl)⟩) ?_
    refine T_reg [] [0,3,4,5,6] [(6,.d (.v (.int .i64 (0:Int))))] [] 1 (by kernel_rfl) (trivial) ?_
    refine T_seqk ?_
    refine T_reg [] [0,3,4,5,6,20] [(20,.d (.v (.int .i64 (0:Int))))] [] 1 (by kernel_rfl) (trivial) ?_
    refine T_joinct h (fun (p:Int)=>[(0,.d (.str a0)),(3,.own 5 1 (v9.map cU)),(4,.d (.v (.int .i64 v1))),(5,.d (.v (.int .i64 z1))),(6,.d (.v (.int .i64 p)))]) (fun s h=>?_) (fun v10 h=>?_)
    ·refine T_co [.keep [0,3,4,5,6,20]] ((fun (p:Int×Int)=>[(0,.d (.str a0)),(3,.own 5 1 (v9.map cU)),(4,.d (.v (.int .i64 v1))),(5,.d (.v (.int .i64 z1))),(6,.d (.v (.int .i64 p.1))),(20,.d (.v (.int .i64 p.2)))]) ((0:Int),(0:Int))) (by show _=_; kernel_rfl) ?_
     refine T_block ?_
     refine T_loopF (ι:=Int×Int) (fun (p:Int×Int)=>[(0,.d (.str a0)),(3,.own 5 1 (v9.map cU)),(4,.d (.v (.int .i64 v1))),(5,.d (.v (.int .i64 z1))),(6,.d (.v (.int .i64 p.1))),(20,.d (.v (.int .i64 p.2)))]) (fun n p=>ref3_Lettered_L2 F a0 v1 z1 n p.1 p.2=some s) (fun i hh=>by simp [ref3_Lettered_L2] at hh) (fun n p h=>?_) F ((0:Int),(0:Int)) h
     obtain ⟨v2,v3⟩:=p
     have h:ref3_Lettered_L2 F a0 v1 z1 (n+1) v2 v3=some s:=h
     rw [ref3_Lettered_L2] at h
     refine T_reg [] [0,3,4,5,6,20,21] [(21,.d (.v (.bool (decide (v3 < (4:Int))))))] [] 1 (by kernel_rfl) (trivial) ?_
     refine T_seqk ?_
     refine T_cond (decide (v3 < (4:Int))) (by kernel_rfl) (fun hc=>?_) (fun hc=>?_)
     ·have h:=cond_tt hc h
      refine T_skip fun a w hm=>then_norm (((?_:T Tryz.prog e 66 _ _ _) a w hm))
      refine T_joinc h (fun (p:Int)=>[(0,.d (.str a0)),(3,.own 5 1 (v9.map cU)),(4,.d (.v (.int .i64 v1))),(5,.d (.v (.int .i64 z1))),(6,.d (.v (.int .i64 p))),(20,.d (.v (.int .i64 v3)))]) (fun s h=>?_) (fun v4 h=>?_)
      ·refine T_block ?_
       refine T_reg [] [0,3,4,5,6,7,20] [(7,.d (.v (.int .i64 v3)))] [] 2 (by kernel_rfl) (trivial) ?_
       refine T_reg [] [0,3,4,5,6,7,20] [(6,.d (.v (.int .i64 (IntKind.i64.wrap (v2 * (256:Int))))))] [] 3 (by kernel_rfl) (trivial) ?_
       refine T_reg [] [0,3,4,5,6,7,20,27] [(27,.d (.v (.bool (decide (v3 < z1)))))] [] 3 (by kernel_rfl) (trivial) ?_
       refine T_cond (decide (v3 < z1)) (by kernel_rfl) (fun hc=>?_) (fun hc=>?_)
       ·have h:=cond_tt hc h
        obtain ⟨hp1,h⟩:=chk_ok h
        obtain ⟨z2,hz2,h⟩:=lett_ok h
        obtain hs:=Option.some.inj h; subst hs
        refine T_reg_end [(7,{ rw:=some (.d (.v (.int .i64 z2))) })] [0,3,4,5,6,20] [(6,.d (.v (.int .i64 z2)))] [(5,0≤(IntKind.i64.wrap (v1+v3))∧(IntKind.i64.wrap (v1+v3)) < a0.length),(1,(True)∧AV.d (.v (.int .i64 (IntKind.i64.wrap ((IntKind.i64.wrap (v2 * (256:Int)))+(IntKind.i64.wrap ((a0.getD (IntKind.i64.wrap (v1+v3)).toNat 0).toNat:Int))))))=.d (.v (.int .i64 z2)))] 1 (by kernel_rfl) (⟨hp1,⟨trivial,(by subst hz2; rfl)⟩⟩) fun a w hm=>inBlock_norm (then_norm (hm.co (cs:=[.keep [0,3,4,5,6,20]]) (by show _=_; kernel_rfl)))
       ·have h:=cond_ff hc h
        obtain hs:=Option.some.inj h; subst hs
        refine T_skip fun a w hm=>inBlock_norm (then_norm (hm.co (cs:=[.keep [0,3,4,5,6,20]]) (by show _=_; kernel_rfl)))
      ·skip
       refine T_reg_end [] [0,3,4,5,6,20] [(20,.d (.v (.int .i64 (IntKind.i64.wrap (v3+(1:Int))))))] [] 2 (by kernel_rfl) (trivial) fun a w hm=>then_norm (⟨(v4,IntKind.i64.wrap (v3+(1:Int))),h,hm.co (cs:=[.keep [0,3,4,5,6,20]]) (by show _=_; kernel_rfl)⟩)
     ·have h:=cond_ff hc h
      obtain hs:=Option.some.inj h; subst hs
      refine T_exit fun a w hm=>then_exit (then_exit (inBlock_exit (then_norm (hm.co (cs:=[.keep [0,3,4,5,6]]) (by show _=_; kernel_rfl)))))
    ·skip
     refine fun a w hm=>then_norm (((?_:T Tryz.prog e 66 _ _ _) a w hm))
     refine T_seqk ?_
     refine T_reg [] [0,3,4,5,6,42] [(42,.d (.v (.bool (bif (v10 == (0:Int)) then (z1 == (4:Int)) else false))))] [(3,((((v10 == (0:Int)) == true) && true)=true→True)),(0,((((v10 == (0:Int)) == true) && true)=true→True))] 1 (by kernel_rfl) (⟨(fun hg=>trivial),(fun hg=>trivial)⟩) ?_
     refine T_cond (bif (v10 == (0:Int)) then (z1 == (4:Int)) else false) (by kernel_rfl) (fun hc=>?_) (fun hc=>?_)
     ·have h:=cond_tt hc h
      obtain ⟨hp2,h⟩:=chk_ok h
      refine T_reg [(1,{ es:=some (([(UInt8.ofNat (122:Int).toNat)]).map cU) }),(2,{ es:=some ((v9++([(UInt8.ofNat (122:Int).toNat)])).map cU) })] [0,3,4] [(3,.own 5 1 ((v9++([(UInt8.ofNat (122:Int).toNat)])).map cU))] [(1,[[Dat.v (.int .u8 (122:Int))]]=(([(UInt8.ofNat (122:Int).toNat)]).map cU)),(0,(v9.map cU).length+(([(UInt8.ofNat (122:Int).toNat)]).map cU).length≤4294967296∧(v9.map cU)++(([(UInt8.ofNat (122:Int).toNat)]).map cU)=((v9++([(UInt8.ofNat (122:Int).toNat)])).map cU))] 1 (by kernel_rfl) (⟨(lit_u (by decide) (rfl:([]:List (List Dat))=([]:List UInt8).map cU)),app_ok cU hp2⟩) ?_
      obtain hs:=Option.some.inj h; subst hs
      refine T_exit fun a w hm=>then_exit (inBlock_exit (then_norm (hm.co (cs:=[.keep [0,3,4]]) (by show _=_; kernel_rfl))))
     ·have h:=cond_ff hc h
      refine T_skip fun a w hm=>then_norm (((?_:T Tryz.prog e 66 _ _ _) a w hm))
      refine T_reg [] [0,3,4,5,6,8] [(8,.d (.v (.int .i64 (52200625:Int))))] [] 1 (by kernel_rfl) (trivial) ?_
      refine T_reg [] [0,3,4,6,8,47,48] [(47,.d (.v (.int .i64 (IntKind.i64.wrap (z1+(1:Int)))))),(48,.d (.v (.int .i64 (0:Int))))] [] 3 (by kernel_rfl) (trivial) ?_
      refine T_joinct h (fun (p:(List UInt8))=>[(0,.d (.str a0)),(3,.own 5 1 (p.map cU)),(4,.d (.v (.int .i64 v1)))]) (fun s h=>?_) (fun v11 h=>?_)
      ·refine T_co [.keep [0,3,4,6,8,47,48]] ((fun (p:(List UInt8)×Int×Int×Int)=>[(0,.d (.str a0)),(3,.own 5 1 (p.1.map cU)),(4,.d (.v (.int .i64 v1))),(6,.d (.v (.int .i64 p.2.1))),(8,.d (.v (.int .i64 p.2.2.1))),(47,.d (.v (.int .i64 (IntKind.i64.wrap (z1+(1:Int)))))),(48,.d (.v (.int .i64 p.2.2.2)))]) (v9,v10,(52200625:Int),(0:Int))) (by show _=_; kernel_rfl) ?_
       refine T_block ?_
       refine T_loopF (ι:=(List UInt8)×Int×Int×Int) (fun (p:(List UInt8)×Int×Int×Int)=>[(0,.d (.str a0)),(3,.own 5 1 (p.1.map cU)),(4,.d (.v (.int .i64 v1))),(6,.d (.v (.int .i64 p.2.1))),(8,.d (.v (.int .i64 p.2.2.1))),(47,.d (.v (.int .i64 (IntKind.i64.wrap (z1+(1:Int)))))),(48,.d (.v (.int .i64 p.2.2.2)))]) (fun n p=>ref3_Lettered_L4 F z1 n p.1 p.2.1 p.2.2.1 p.2.2.2=some s) (fun i hh=>by simp [ref3_Lettered_L4] at hh) (fun n p h=>?_) F (v9,v10,(52200625:Int),(0:Int)) h
       obtain ⟨v5,v6,v7,v8⟩:=p
       have h:ref3_Lettered_L4 F z1 (n+1) v5 v6 v7 v8=some s:=h
       rw [ref3_Lettered_L4] at h
       refine T_reg [] [0,3,4,6,8,47,48,49] [(49,.d (.v (.bool (decide (v8 < (IntKind.i64.wrap (z1+(1:Int))))))))] [] 1 (by kernel_rfl) (trivial) ?_
       refine T_seqk ?_
       refine T_cond (decide (v8 < (IntKind.i64.wrap (z1+(1:Int))))) (by kernel_rfl) (fun hc=>?_) (fun hc=>?_)
       ·have h:=cond_tt hc h
        refine T_skip fun a w hm=>then_norm (((?_:T Tryz.prog e 66 _ _ _) a w hm))
        refine T_seqk ?_
        refine T_block ?_
        obtain ⟨hp3,h⟩:=chk_ok h
        obtain ⟨hp4,h⟩:=chk_ok h
        obtain ⟨hp5,h⟩:=chk_ok h
        obtain ⟨l1,hl1,h⟩:=lett_ok h
        refine T_reg [(6,{ es:=some (([(UInt8.ofNat (IntKind.u8.wrap (IntKind.i64.wrap ((33:Int)+(IntKind.i64.wrap (v6.tdiv v7))))).toNat)]).map cU) }),(7,{ es:=some (l1.map cU) })] [0,3,4,6,8,47,48] [(3,.own 5 1 (l1.map cU))] [(3,v7≠0),(2,[[Dat.v (.int .u8 (IntKind.u8.wrap (IntKind.i64.wrap ((33:Int)+(IntKind.i64.wrap (v6.tdiv v7))))))]]=(([(UInt8.ofNat (IntKind.u8.wrap (IntKind.i64.wrap ((33:Int)+(IntKind.i64.wrap (v6.tdiv v7))))).toNat)]).map cU)),(0,(v5.map cU).length+(([(UInt8.ofNat (IntKind.u8.wrap (IntKind.i64.wrap ((33:Int)+(IntKind.i64.wrap (v6.tdiv v7))))).toNat)]).map cU).length≤4294967296∧(v5.map cU)++(([(UInt8.ofNat (IntKind.u8.wrap (IntKind.i64.wrap ((33:Int)+(IntKind.i64.wrap (v6.tdiv v7))))).toNat)]).map cU)=(l1.map cU))] 1 (by kernel_rfl) (⟨hp3,(lit_u hp4 (rfl:([]:List (List Dat))=([]:List UInt8).map cU)),and_trans (app_ok cU hp5) (by subst hl1; rfl)⟩) ?_
        obtain ⟨hp6,h⟩:=chk_ok h
        refine T_reg [] [0,3,4,6,8,47,48] [(6,.d (.v (.int .i64 (v6.tmod v7))))] [(2,v7≠0)] 1 (by kernel_rfl) (hp6) ?_
        refine T_reg_end [] [0,3,4,6,8,47,48] [(8,.d (.v (.int .i64 (IntKind.i64.wrap (v7.tdiv (85:Int))))))] [(1,(85:Int)≠0)] 1 (by kernel_rfl) ((show (85:Int)≠0 by decide)) fun a w hm=>inBlock_norm (then_norm (((?_:T Tryz.prog e 66 _ _ _) a w hm)))
        refine T_reg_end [] [0,3,4,6,8,47,48] [(48,.d (.v (.int .i64 (IntKind.i64.wrap (v8+(1:Int))))))] [] 2 (by kernel_rfl) (trivial) fun a w hm=>then_norm (⟨(l1,(v6.tmod v7),IntKind.i64.wrap (v7.tdiv (85:Int)),IntKind.i64.wrap (v8+(1:Int))),h,hm.co (cs:=[.keep [0,3,4,6,8,47,48]]) (by show _=_; kernel_rfl)⟩)
       ·have h:=cond_ff hc h
        obtain hs:=Option.some.inj h; subst hs
        refine T_exit fun a w hm=>then_exit (then_exit (inBlock_exit (then_norm (hm.co (cs:=[.keep [0,3,4]]) (by show _=_; kernel_rfl)))))
      ·skip
       obtain hs:=Option.some.inj h; subst hs
       refine fun a w hm=>inBlock_norm (then_norm (hm.co (cs:=[.keep [0,3,4]]) (by show _=_; kernel_rfl)))
   ·skip
    refine T_reg_end [] [0,3,4] [(4,.d (.v (.int .i64 (IntKind.i64.wrap (v1+(4:Int))))))] [] 3 (by kernel_rfl) (trivial) fun a w hm=>then_norm (⟨(v12,IntKind.i64.wrap (v1+(4:Int))),h,hm.co (cs:=[.keep [0,3,4]]) (by show _=_; kernel_rfl)⟩)
  ·have h:=cond_ff hc h
   obtain hs:=Option.some.inj h; subst hs
   refine T_exit fun a w hm=>then_exit (then_exit (inBlock_exit (then_norm (hm.co (cs:=[.keep [3]]) (by show _=_; kernel_rfl)))))
 ·skip
  refine fun a w hm=>then_norm (((?_:T Tryz.prog e 66 _ _ _) a w hm))
  refine T_reg [(1,{ cs:=[.str v13] })] [2] [(2,.d (.str v13))] [(1,(v13.map cU)=byteCells v13)] 1 (by kernel_rfl) (rfl) ?_
  obtain hs:=Option.some.inj h; subst hs
  refine T_ret fun a w hm=>T_return (fr':=[(2,.d (.str v13))]) [2] (by kernel_rfl) [.keep [2]] (by kernel_rfl) (by kernel_rfl) (by kernel_rfl) (by show _=_; kernel_rfl) (by exact trivial) a w hm
theorem ref3_unletter_ok {F:Nat} {a0:List UInt8} {r:(List UInt8)×Int} (h:ref3_unletter F a0=some r):ACall Tryz.prog 24 [.d (.str a0)] [] (.tup [.d (.str r.1),.d (.v (.int .i64 r.2))]) []:=by
 rw [ref3_unletter] at h
 refine ACall.intro (N:=100) Tryz.func24 rfl rfl rfl rfl rfl fun e=>?_
 refine T_reg [] [0] [] [] 2 (by kernel_rfl) (trivial) ?_
 refine T_reg [] [0,4] [(4,.own 5 1 ([].map cU))] [] 1 (by kernel_rfl) (trivial) ?_
 refine T_seqk ?_
 refine T_reg [] [0,4,5] [(5,.d (.v (.int .i64 (0:Int))))] [] 1 (by kernel_rfl) (trivial) ?_
 refine T_joinEt h (fun (p:(List UInt8))=>[(4,.own 5 1 (p.map cU))]) (fun s h hk1=>?_) (fun v9 h=>?_)
 ·refine T_co [.keep [0,4,5]] ((fun (p:(List UInt8)×Int)=>[(0,.d (.str a0)),(4,.own 5 1 (p.1.map cU)),(5,.d (.v (.int .i64 p.2)))]) ([],(0:Int))) (by show _=_; kernel_rfl) ?_
  refine T_block ?_
  refine T_loopF (ι:=(List UInt8)×Int) (fun (p:(List UInt8)×Int)=>[(0,.d (.str a0)),(4,.own 5 1 (p.1.map cU)),(5,.d (.v (.int .i64 p.2)))]) (fun n p=>ref3_unletter_L0 F a0 n p.1 p.2=some s) (fun i hh=>by simp [ref3_unletter_L0] at hh) (fun n p h=>?_) F ([],(0:Int)) h
  obtain ⟨v5,v1⟩:=p
  have h:ref3_unletter_L0 F a0 (n+1) v5 v1=some s:=h
  rw [ref3_unletter_L0] at h
  refine T_seqk ?_
  refine T_reg [] [0,4,5,14] [(14,.d (.v (.bool (decide (v1 < (a0.length:Int))))))] [] 4 (by kernel_rfl) (trivial) ?_
  refine T_cond (decide (v1 < (a0.length:Int))) (by kernel_rfl) (fun hc=>?_) (fun hc=>?_)
  ·have h:=cond_tt hc h
   refine T_skip fun a w hm=>then_norm (((?_:T Tryz.prog e 100 _ _ _) a w hm))
   refine T_block ?_
   refine T_joinE h (fun (p:(List UInt8)×Int)=>[(0,.d (.str a0)),(4,.own 5 1 (p.1.map cU)),(5,.d (.v (.int .i64 p.2)))]) (fun s h hk2=>?_) (fun s h=>?_)
   ·obtain ⟨hp1,h⟩:=chk_ok h
    refine T_reg [] [0,4,5,18] [(18,.d (.v (.bool (((a0.getD v1.toNat 0).toNat:Int) == (122:Int)))))] [(2,0≤v1∧v1 < a0.length)] 1 (by kernel_rfl) (hp1) ?_
    refine T_cond (((a0.getD v1.toNat 0).toNat:Int) == (122:Int)) (by kernel_rfl) (fun hc=>?_) (fun hc=>?_)
    ·have h:=cond_tt hc h
     obtain ⟨hp2,h⟩:=chk_ok h
     obtain ⟨l1,hl1,h⟩:=lett_ok h
     refine T_reg [(1,{ es:=some (([(UInt8.ofNat (0:Int).toNat),(UInt8.ofNat (0:Int).toNat),(UInt8.ofNat (0:Int).toNat),(UInt8.ofNat (0:Int).toNat)]).map cU) }),(2,{ es:=some (l1.map cU) })] [0,4,5] [(4,.own 5 1 (l1.map cU))] [(1,[[Dat.v (.int .u8 (0:Int))],[Dat.v (.int .u8 (0:Int))],[Dat.v (.int .u8 (0:Int))],[Dat.v (.int .u8 (0:Int))]]=(([(UInt8.ofNat (0:Int).toNat),(UInt8.ofNat (0:Int).toNat),(UInt8.ofNat (0:Int).toNat),(UInt8.ofNat (0:Int).toNat)]).map cU)),(0,(v5.map cU).length+(([(UInt8.ofNat (0:Int).toNat),(UInt8.ofNat (0:Int).toNat),(UInt8.ofNat (0:Int).toNat),(UInt8.ofNat (0:Int).toNat)]).map cU).length≤4294967296∧(v5.map cU)++(([(UInt8.ofNat (0:Int).toNat),(UInt8.ofNat (0:Int).toNat),(UInt8.ofNat (0:Int).toNat),(UInt8.ofNat (0:Int).toNat)]).map cU)=(l1.map cU))] 1 (by kernel_rfl) (⟨(lit_u (by decide) (lit_u (by decide) (lit_u (by decide) (lit_u (by decide) (rfl:([]:List (List Dat))=([]:List UInt8).map cU))))),and_trans (app_ok cU hp2) (by subst hl1; rfl)⟩) ?_
     obtain hs:=Option.some.inj h; subst hs
     refine T_reg_end [] [0,4,5] [(5,.d (.v (.int .i64 (IntKind.i64.wrap (v1+(1:Int))))))] [] 3 (by kernel_rfl) (trivial) fun a w hm=>then_norm (⟨_,rfl,hm.co (cs:=[.keep [0,4,5]]) (by show _=_; kernel_rfl)⟩)
    ·have h:=cond_ff hc h
     obtain ⟨z1,hz1,h⟩:=lett_ok h
     obtain ⟨hp3,h⟩:=chk_ok h
     refine T_reg [(6,{ rw:=some (.d (.v (.int .i64 z1))) })] [0,4,5,6] [(6,.d (.str ((a0.drop v1.toNat).take (z1.toNat - v1.toNat))))] [(6,(True)∧AV.d (.v (.int .i64 (if (IntKind.i64.wrap (v1+(5:Int))) < (a0.length:Int) then (IntKind.i64.wrap (v1+(5:Int))) else (a0.length:Int))))=.d (.v (.int .i64 z1))),(0,0≤v1∧v1≤z1∧z1≤(a0.length:Int))] 1 (by kernel_rfl) (⟨⟨trivial,(by subst hz1; rfl)⟩,hp3⟩) ?_
     refine T_reg [] [0,4,5,6,7] [(7,.d (.v (.int .i64 (0:Int))))] [] 1 (by kernel_rfl) (trivial) ?_
     refine T_seqk ?_
     refine T_reg [] [0,4,5,6,7,32] [(32,.d (.v (.int .i64 (0:Int))))] [] 1 (by kernel_rfl) (trivial) ?_
     refine T_joinEt h (fun (p:Int)=>[(0,.d (.str a0)),(4,.own 5 1 (v5.map cU)),(5,.d (.v (.int .i64 v1))),(6,.d (.str ((a0.drop v1.toNat).take (z1.toNat - v1.toNat)))),(7,.d (.v (.int .i64 p)))]) (fun s h hk3=>?_) (fun v6 h=>?_)
     ·refine T_co [.keep [0,4,5,6,7,32]] ((fun (p:Int×Int)=>[(0,.d (.str a0)),(4,.own 5 1 (v5.map cU)),(5,.d (.v (.int .i64 v1))),(6,.d (.str ((a0.drop v1.toNat).take (z1.toNat - v1.toNat)))),(7,.d (.v (.int .i64 p.1))),(32,.d (.v (.int .i64 p.2)))]) ((0:Int),(0:Int))) (by show _=_; kernel_rfl) ?_
      refine T_block ?_
      refine T_loopF (ι:=Int×Int) (fun (p:Int×Int)=>[(0,.d (.str a0)),(4,.own 5 1 (v5.map cU)),(5,.d (.v (.int .i64 v1))),(6,.d (.str ((a0.drop v1.toNat).take (z1.toNat - v1.toNat)))),(7,.d (.v (.int .i64 p.1))),(32,.d (.v (.int .i64 p.2)))]) (fun n p=>ref3_unletter_L2 F a0 v1 z1 n p.1 p.2=some s) (fun i hh=>by simp [ref3_unletter_L2] at hh) (fun n p h=>?_) F ((0:Int),(0:Int)) h
      obtain ⟨v2,v3⟩:=p
      have h:ref3_unletter_L2 F a0 v1 z1 (n+1) v2 v3=some s:=h
      rw [ref3_unletter_L2] at h
      refine T_reg [] [0,4,5,6,7,32,33] [(33,.d (.v (.bool (decide (v3 < (5:Int))))))] [] 1 (by kernel_rfl) (trivial) ?_
      refine T_seqk ?_
      refine T_cond (decide (v3 < (5:Int))) (by kernel_rfl) (fun hc=>?_) (fun hc=>?_)
      ·have h:=cond_tt hc h
       refine T_skip fun a w hm=>then_norm (((?_:T Tryz.prog e 100 _ _ _) a w hm))
       refine T_seqk ?_
       refine T_block ?_
       refine T_reg [] [0,4,5,6,7,8,32] [(8,.d (.v (.int .i64 v3)))] [] 2 (by kernel_rfl) (trivial) ?_
       refine T_reg [] [0,4,5,6,7,8,9,32] [(9,.d (.v (.int .i64 (84:Int))))] [] 1 (by kernel_rfl) (trivial) ?_
       refine T_joinc h (fun (p:Int)=>[(0,.d (.str a0)),(4,.own 5 1 (v5.map cU)),(5,.d (.v (.int .i64 v1))),(6,.d (.str ((a0.drop v1.toNat).take (z1.toNat - v1.toNat)))),(7,.d (.v (.int .i64 v2))),(9,.d (.v (.int .i64 p))),(32,.d (.v (.int .i64 v3)))]) (fun s h=>?_) (fun v4 h=>?_)
       ·refine T_reg [] [0,4,5,6,7,8,9,32,38] [(38,.d (.v (.bool (decide (v3 < (((a0.drop v1.toNat).take (z1.toNat - v1.toNat)).length:Int))))))] [] 4 (by kernel_rfl) (trivial) ?_
        refine T_cond (decide (v3 < (((a0.drop v1.toNat).take (z1.toNat - v1.toNat)).length:Int))) (by kernel_rfl) (fun hc=>?_) (fun hc=>?_)
        ·have h:=cond_tt hc h
         obtain ⟨hp4,h⟩:=chk_ok h
         obtain ⟨z2,hz2,h⟩:=lett_ok h
         obtain hs:=Option.some.inj h; subst hs
         refine T_reg_end [(3,{ rw:=some (.d (.v (.int .i64 z2))) })] [0,4,5,6,7,9,32] [(9,.d (.v (.int .i64 (IntKind.i64.wrap (z2 - (33:Int))))))] [(2,0≤v3∧v3 < ((a0.drop v1.toNat).take (z1.toNat - v1.toNat)).length),(0,(True)∧AV.d (.v (.int .i64 (IntKind.i64.wrap ((((a0.drop v1.toNat).take (z1.toNat - v1.toNat)).getD v3.toNat 0).toNat:Int))))=.d (.v (.int .i64 z2)))] 2 (by kernel_rfl) (⟨hp4,⟨trivial,(by subst hz2; rfl)⟩⟩) fun a w hm=>then_norm (hm.co (cs:=[.keep [0,4,5,6,7,9,32]]) (by show _=_; kernel_rfl))
        ·have h:=cond_ff hc h
         obtain hs:=Option.some.inj h; subst hs
         refine T_skip fun a w hm=>then_norm (hm.co (cs:=[.keep [0,4,5,6,7,9,32]]) (by show _=_; kernel_rfl))
       ·skip
        refine T_seqk ?_
        refine T_reg [] [0,4,5,6,7,9,32,49] [(49,.d (.v (.bool (bif (decide (v4 < (0:Int))) then true else (decide (v4 > (84:Int)))))))] [(3,((((decide (v4 < (0:Int))) == false) && true)=true→True)),(0,((((decide (v4 < (0:Int))) == false) && true)=true→True))] 1 (by kernel_rfl) (⟨(fun hg=>trivial),(fun hg=>trivial)⟩) ?_
        refine T_cond (bif (decide (v4 < (0:Int))) then true else (decide (v4 > (84:Int)))) (by kernel_rfl) (fun hc=>?_) (fun hc=>?_)
        ·have h:=cond_tt hc h
         refine T_reg [] [2,3] [(2,.d (.str [])),(3,.d (.v (.int .i64 (5:Int))))] [] 2 (by kernel_rfl) (trivial) ?_
         obtain hs:=Option.some.inj h; subst hs
         have h:=callE_esc hk3
         obtain hs:=Option.some.inj h; subst hs
         have h:=callE_esc hk2
         obtain hs:=Option.some.inj h; subst hs
         have h:=callE_esc hk1
         obtain hs:=Option.some.inj h; subst hs
         refine T_ret fun a w hm=>then_ret (inBlock_ret (then_ret (then_ret (inBlock_ret (then_ret (then_ret (then_ret (inBlock_ret (then_ret (inBlock_ret (then_ret (then_ret (T_return (fr':=[(2,.d (.str [])),(3,.d (.v (.int .i64 (5:Int))))]) [2,3] (by kernel_rfl) [.keep [2,3]] (by kernel_rfl) (by kernel_rfl) (by kernel_rfl) (by show _=_; kernel_rfl) (by exact trivial) a w hm)))))))))))))
        ·have h:=cond_ff hc h
         refine T_skip fun a w hm=>then_norm (((?_:T Tryz.prog e 100 _ _ _) a w hm))
         refine T_reg_end [] [0,4,5,6,7,32] [(7,.d (.v (.int .i64 (IntKind.i64.wrap ((IntKind.i64.wrap (v2 * (85:Int)))+v4)))))] [] 5 (by kernel_rfl) (trivial) fun a w hm=>inBlock_norm (then_norm (((?_:T Tryz.prog e 100 _ _ _) a w hm)))
         refine T_reg_end [] [0,4,5,6,7,32] [(32,.d (.v (.int .i64 (IntKind.i64.wrap (v3+(1:Int))))))] [] 2 (by kernel_rfl) (trivial) fun a w hm=>then_norm (⟨(IntKind.i64.wrap ((IntKind.i64.wrap (v2 * (85:Int)))+v4),IntKind.i64.wrap (v3+(1:Int))),h,hm.co (cs:=[.keep [0,4,5,6,7,32]]) (by show _=_; kernel_rfl)⟩)
      ·have h:=cond_ff hc h
       obtain hs:=Option.some.inj h; subst hs
       refine T_exit fun a w hm=>then_exit (then_exit (inBlock_exit (then_norm (⟨_,rfl,hm.co (cs:=[.keep [0,4,5,6,7]]) (by show _=_; kernel_rfl)⟩))))
     ·skip
      refine fun a w hm=>then_norm (((?_:T Tryz.prog e 100 _ _ _) a w hm))
      refine T_seqk ?_
      refine T_reg [] [0,4,5,6,7,57] [(57,.d (.v (.bool ((((a0.drop v1.toNat).take (z1.toNat - v1.toNat)).length:Int) == (1:Int)))))] [] 3 (by kernel_rfl) (trivial) ?_
      refine T_cond ((((a0.drop v1.toNat).take (z1.toNat - v1.toNat)).length:Int) == (1:Int)) (by kernel_rfl) (fun hc=>?_) (fun hc=>?_)
      ·have h:=cond_tt hc h
       refine T_reg [] [2,3] [(2,.d (.str [])),(3,.d (.v (.int .i64 (12:Int))))] [] 2 (by kernel_rfl) (trivial) ?_
       obtain hs:=Option.some.inj h; subst hs
       have h:=callE_esc hk2
       obtain hs:=Option.some.inj h; subst hs
       have h:=callE_esc hk1
       obtain hs:=Option.some.inj h; subst hs
       refine T_ret fun a w hm=>then_ret (then_ret (inBlock_ret (then_ret (inBlock_ret (then_ret (then_ret (T_return (fr':=[(2,.d (.str [])),(3,.d (.v (.int .i64 (12:Int))))]) [2,3] (by kernel_rfl) [.keep [2,3]] (by kernel_rfl) (by kernel_rfl) (by kernel_rfl) (by show _=_; kernel_rfl) (by exact trivial) a w hm)))))))
      ·have h:=cond_ff hc h
       refine T_skip fun a w hm=>then_norm (((?_:T Tryz.prog e 100 _ _ _) a w hm))
       refine T_seqk ?_
       refine T_reg [] [0,4,5,6,7,59] [(59,.d (.v (.bool (decide (v6 ≥ (4294967296:Int))))))] [] 2 (by kernel_rfl) (trivial) ?_
       refine T_cond (decide (v6 ≥ (4294967296:Int))) (by kernel_rfl) (fun hc=>?_) (fun hc=>?_)
       ·have h:=cond_tt hc h
        refine T_reg [] [2,3] [(2,.d (.str [])),(3,.d (.v (.int .i64 (3:Int))))] [] 2 (by kernel_rfl) (trivial) ?_
        obtain hs:=Option.some.inj h; subst hs
        have h:=callE_esc hk2
        obtain hs:=Option.some.inj h; subst hs
        have h:=callE_esc hk1
        obtain hs:=Option.some.inj h; subst hs
        refine T_ret fun a w hm=>then_ret (then_ret (inBlock_ret (then_ret (inBlock_ret (then_ret (then_ret (T_return (fr':=[(2,.d (.str [])),(3,.d (.v (.int .i64 (3:Int))))]) [2,3] (by kernel_rfl) [.keep [2,3]] (by kernel_rfl) (by kernel_rfl) (by kernel_rfl) (by show _=_; kernel_rfl) (by exact trivial) a w hm)))))))
       ·have h:=cond_ff hc h
        refine T_skip fun a w hm=>then_norm (((?_:T Tryz.prog e 100 _ _ _) a w hm))
        obtain ⟨hp5,h⟩:=chk_ok h
        obtain ⟨hp6,h⟩:=chk_ok h
        obtain ⟨hp7,h⟩:=chk_ok h
        obtain ⟨hp8,h⟩:=chk_ok h
        refine T_reg [(14,{ es:=some (([(UInt8.ofNat (IntKind.u8.wrap (IntKind.i64.wrap (v6.tdiv (16777216:Int)))).toNat),(UInt8.ofNat (IntKind.u8.wrap ((IntKind.i64.wrap (v6.tdiv (65536:Int))).tmod (256:Int))).toNat),(UInt8.ofNat (IntKind.u8.wrap ((IntKind.i64.wrap (v6.tdiv (256:Int))).tmod (256:Int))).toNat),(UInt8.ofNat (IntKind.u8.wrap (v6.tmod (256:Int))).toNat)]).map cU) })] [0,4,5,6,10] [(10,.own 5 1 (([(UInt8.ofNat (IntKind.u8.wrap (IntKind.i64.wrap (v6.tdiv (16777216:Int)))).toNat),(UInt8.ofNat (IntKind.u8.wrap ((IntKind.i64.wrap (v6.tdiv (65536:Int))).tmod (256:Int))).toNat),(UInt8.ofNat (IntKind.u8.wrap ((IntKind.i64.wrap (v6.tdiv (256:Int))).tmod (256:Int))).toNat),(UInt8.ofNat (IntKind.u8.wrap (v6.tmod (256:Int))).toNat)]).map cU))] [(1,(16777216:Int)≠0),(2,(65536:Int)≠0),(0,(256:Int)≠0),(2,(256:Int)≠0),(0,(256:Int)≠0),(2,(256:Int)≠0),(1,[[Dat.v (.int .u8 (IntKind.u8.wrap (IntKind.i64.wrap (v6.tdiv (16777216:Int)))))],[Dat.v (.int .u8 (IntKind.u8.wrap ((IntKind.i64.wrap (v6.tdiv (65536:Int))).tmod (256:Int))))],[Dat.v (.int .u8 (IntKind.u8.wrap ((IntKind.i64.wrap (v6.tdiv (256:Int))).tmod (256:Int))))],[Dat.v (.int .u8 (IntKind.u8.wrap (v6.tmod (256:Int))))]]=(([(UInt8.ofNat (IntKind.u8.wrap (IntKind.i64.wrap (v6.tdiv (16777216:Int)))).toNat),(UInt8.ofNat (IntKind.u8.wrap ((IntKind.i64.wrap (v6.tdiv (65536:Int))).tmod (256:Int))).toNat),(UInt8.ofNat (IntKind.u8.wrap ((IntKind.i64.wrap (v6.tdiv (256:Int))).tmod (256:Int))).toNat),(UInt8.ofNat (IntKind.u8.wrap (v6.tmod (256:Int))).toNat)]).map cU))] 1 (by kernel_rfl) (⟨(show (16777216:Int)≠0 by decide),(show (65536:Int)≠0 by decide),(show (256:Int)≠0 by decide),(show (256:Int)≠0 by decide),(show (256:Int)≠0 by decide),(show (256:Int)≠0 by decide),(lit_u hp5 (lit_u hp6 (lit_u hp7 (lit_u hp8 (rfl:([]:List (List Dat))=([]:List UInt8).map cU)))))⟩) ?_
        refine T_seqk ?_
        obtain ⟨hp9,h⟩:=chk_ok h
        obtain ⟨z3,hz3,h⟩:=lett_ok h
        obtain ⟨y1,hy1,h⟩:=call_ok h
        refine T_reg [(4,{ frz:=[(10,0)],rw:=some (.d (.sl 1 (z3.map cU))) }),(5,{ cs:=[.str z3] }),(6,{ res:=.d (.str y1) })] [0,4,5,6,10,83] [(10,.fz 1 (([(UInt8.ofNat (IntKind.u8.wrap (IntKind.i64.wrap (v6.tdiv (16777216:Int)))).toNat),(UInt8.ofNat (IntKind.u8.wrap ((IntKind.i64.wrap (v6.tdiv (65536:Int))).tmod (256:Int))).toNat),(UInt8.ofNat (IntKind.u8.wrap ((IntKind.i64.wrap (v6.tdiv (256:Int))).tmod (256:Int))).toNat),(UInt8.ofNat (IntKind.u8.wrap (v6.tmod (256:Int))).toNat)]).map cU)),(83,.d (.v (.bool (!(y1 == ((a0.drop v1.toNat).take (z1.toNat - v1.toNat)))))))] [(4,(0≤(0:Int)∧(0:Int)≤(IntKind.i64.wrap ((((a0.drop v1.toNat).take (z1.toNat - v1.toNat)).length:Int) - (1:Int)))∧(IntKind.i64.wrap ((((a0.drop v1.toNat).take (z1.toNat - v1.toNat)).length:Int) - (1:Int)))≤((([(UInt8.ofNat (IntKind.u8.wrap (IntKind.i64.wrap (v6.tdiv (16777216:Int)))).toNat),(UInt8.ofNat (IntKind.u8.wrap ((IntKind.i64.wrap (v6.tdiv (65536:Int))).tmod (256:Int))).toNat),(UInt8.ofNat (IntKind.u8.wrap ((IntKind.i64.wrap (v6.tdiv (256:Int))).tmod (256:Int))).toNat),(UInt8.ofNat (IntKind.u8.wrap (v6.tmod (256:Int))).toNat)]).map cU).length:Int))∧AV.d (.sl 1 (((([(UInt8.ofNat (IntKind.u8.wrap (IntKind.i64.wrap (v6.tdiv (16777216:Int)))).toNat),(UInt8.ofNat (IntKind.u8.wrap ((IntKind.i64.wrap (v6.tdiv (65536:Int))).tmod (256:Int))).toNat),(UInt8.ofNat (IntKind.u8.wrap ((IntKind.i64.wrap (v6.tdiv (256:Int))).tmod (256:Int))).toNat),(UInt8.ofNat (IntKind.u8.wrap (v6.tmod (256:Int))).toNat)]).map cU).drop (0:Int).toNat).take ((IntKind.i64.wrap ((((a0.drop v1.toNat).take (z1.toNat - v1.toNat)).length:Int) - (1:Int))).toNat - (0:Int).toNat)))=.d (.sl 1 (z3.map cU))),(0,(z3.map cU)=byteCells z3),(0,ACall Tryz.prog 47 [.d (.str z3)] [] (.d (.str y1)) [])] 2 (by kernel_rfl) (⟨and_trans (cutH cU hp9) (by subst hz3; rfl),rfl,ref3_Lettered_ok hy1⟩) ?_
        refine T_cond (!(y1 == ((a0.drop v1.toNat).take (z1.toNat - v1.toNat)))) (by kernel_rfl) (fun hc=>?_) (fun hc=>?_)
        ·have h:=cond_tt hc h
         refine T_reg [] [2,3] [(2,.d (.str [])),(3,.d (.v (.int .i64 (4:Int))))] [] 2 (by kernel_rfl) (trivial) ?_
         obtain hs:=Option.some.inj h; subst hs
         have h:=callE_esc hk2
         obtain hs:=Option.some.inj h; subst hs
         have h:=callE_esc hk1
         obtain hs:=Option.some.inj h; subst hs
         refine T_ret fun a w hm=>then_ret (then_ret (inBlock_ret (then_ret (inBlock_ret (then_ret (then_ret (T_return (fr':=[(2,.d (.str [])),(3,.d (.v (.int .i64 (4:Int))))]) [2,3] (by kernel_rfl) [.keep [2,3]] (by kernel_rfl) (by kernel_rfl) (by kernel_rfl) (by show _=_; kernel_rfl) (by exact trivial) a w hm)))))))
        ·have h:=cond_ff hc h
         refine T_skip fun a w hm=>then_norm (((?_:T Tryz.prog e 100 _ _ _) a w hm))
         obtain ⟨z4,hz4,h⟩:=lett_ok h
         obtain ⟨hp10,h⟩:=chk_ok h
         obtain ⟨z5,hz5,h⟩:=lett_ok h
         obtain ⟨hp11,h⟩:=chk_ok h
         refine T_reg [(1,{ rw:=some (.d (.sl 1 (z4.map cU))) }),(5,{ rw:=some (.d (.sl 1 (z5.map cU))) }),(6,{ es:=some ((v5++z5).map cU) })] [0,4,5,6] [(4,.own 5 1 ((v5++z5).map cU))] [(1,(True)∧AV.d (.sl 1 (([(UInt8.ofNat (IntKind.u8.wrap (IntKind.i64.wrap (v6.tdiv (16777216:Int)))).toNat),(UInt8.ofNat (IntKind.u8.wrap ((IntKind.i64.wrap (v6.tdiv (65536:Int))).tmod (256:Int))).toNat),(UInt8.ofNat (IntKind.u8.wrap ((IntKind.i64.wrap (v6.tdiv (256:Int))).tmod (256:Int))).toNat),(UInt8.ofNat (IntKind.u8.wrap (v6.tmod (256:Int))).toNat)]).map cU))=.d (.sl 1 (z4.map cU))),(3,(0≤(0:Int)∧(0:Int)≤(IntKind.i64.wrap ((((a0.drop v1.toNat).take (z1.toNat - v1.toNat)).length:Int) - (1:Int)))∧(IntKind.i64.wrap ((((a0.drop v1.toNat).take (z1.toNat - v1.toNat)).length:Int) - (1:Int)))≤((z4.map cU).length:Int))∧AV.d (.sl 1 (((z4.map cU).drop (0:Int).toNat).take ((IntKind.i64.wrap ((((a0.drop v1.toNat).take (z1.toNat - v1.toNat)).length:Int) - (1:Int))).toNat - (0:Int).toNat)))=.d (.sl 1 (z5.map cU))),(0,(v5.map cU).length+(z5.map cU).length≤4294967296∧(v5.map cU)++(z5.map cU)=((v5++z5).map cU))] 1 (by kernel_rfl) (⟨⟨trivial,(by subst hz4; rfl)⟩,and_trans (cutH cU hp10) (by subst hz5; rfl),app_ok cU hp11⟩) ?_
         obtain hs:=Option.some.inj h; subst hs
         refine T_reg_end [] [0,4,5] [(5,.d (.v (.int .i64 (IntKind.i64.wrap (v1+(((a0.drop v1.toNat).take (z1.toNat - v1.toNat)).length:Int))))))] [] 5 (by kernel_rfl) (trivial) fun a w hm=>then_norm (⟨_,rfl,hm.co (cs:=[.keep [0,4,5]]) (by show _=_; kernel_rfl)⟩)
   ·obtain ⟨v7,v8⟩:=s
    try dsimp only at h
    refine T_reg [(1,{ rw:=some (.d (.v (.int .i64 (v7.length:Int)))) })] [0,4,5,97] [(97,.d (.v (.bool (decide ((v7.length:Int) > (65536:Int))))))] [(1,True∧AV.d (.v (.int .i64 ((v7.map cU).length:Int)))=.d (.v (.int .i64 (v7.length:Int))))] 1 (by kernel_rfl) (len_ok cU) ?_
    refine T_cond (decide ((v7.length:Int) > (65536:Int))) (by kernel_rfl) (fun hc=>?_) (fun hc=>?_)
    ·have h:=cond_tt hc h
     refine T_reg [] [2,3] [(2,.d (.str [])),(3,.d (.v (.int .i64 (2:Int))))] [] 2 (by kernel_rfl) (trivial) ?_
     obtain hs:=Option.some.inj h; subst hs
     have h:=callE_esc hk1
     obtain hs:=Option.some.inj h; subst hs
     refine T_ret fun a w hm=>inBlock_ret (then_ret (inBlock_ret (then_ret (then_ret (T_return (fr':=[(2,.d (.str [])),(3,.d (.v (.int .i64 (2:Int))))]) [2,3] (by kernel_rfl) [.keep [2,3]] (by kernel_rfl) (by kernel_rfl) (by kernel_rfl) (by show _=_; kernel_rfl) (by exact trivial) a w hm)))))
    ·have h:=cond_ff hc h
     refine T_skip fun a w hm=>inBlock_norm (then_norm (⟨(v7,v8),h,hm.co (cs:=[.keep [0,4,5]]) (by show _=_; kernel_rfl)⟩))
  ·have h:=cond_ff hc h
   obtain hs:=Option.some.inj h; subst hs
   refine T_exit fun a w hm=>then_exit (then_exit (inBlock_exit (then_norm (⟨_,rfl,hm.co (cs:=[.keep [4]]) (by show _=_; kernel_rfl)⟩))))
 ·skip
  refine fun a w hm=>then_norm (((?_:T Tryz.prog e 100 _ _ _) a w hm))
  refine T_reg [(1,{ cs:=[.str v9] })] [2,3] [(2,.d (.str v9)),(3,.d (.v (.int .i64 (0:Int))))] [(1,(v9.map cU)=byteCells v9)] 2 (by kernel_rfl) (rfl) ?_
  obtain hs:=Option.some.inj h; subst hs
  refine T_ret fun a w hm=>T_return (fr':=[(2,.d (.str v9)),(3,.d (.v (.int .i64 (0:Int))))]) [2,3] (by kernel_rfl) [.keep [2,3]] (by kernel_rfl) (by kernel_rfl) (by kernel_rfl) (by show _=_; kernel_rfl) (by exact trivial) a w hm
theorem ref3_digit_ok {F:Nat} {a0:Int} {r:Bool} (h:ref3_digit F a0=some r):ACall Tryz.prog 49 [.d (.v (.int .u8 a0))] [] (.d (.v (.bool r))) []:=by
 rw [ref3_digit] at h
 refine ACall.intro (N:=9) Tryz.func49 rfl rfl rfl rfl rfl fun e=>?_
 refine T_reg [] [0] [] [] 1 (by kernel_rfl) (trivial) ?_
 refine T_reg [] [2] [(2,.d (.v (.bool (bif (decide (a0 ≥ (48:Int))) then (decide (a0≤(57:Int))) else false))))] [(3,((((decide (a0 ≥ (48:Int))) == true) && true)=true→True)),(0,((((decide (a0 ≥ (48:Int))) == true) && true)=true→True))] 2 (by kernel_rfl) (⟨(fun hg=>trivial),(fun hg=>trivial)⟩) ?_
 obtain hs:=Option.some.inj h; subst hs
 refine T_ret fun a w hm=>T_return (fr':=[(2,.d (.v (.bool (bif (decide (a0 ≥ (48:Int))) then (decide (a0≤(57:Int))) else false))))]) [2] (by kernel_rfl) [.keep [2]] (by kernel_rfl) (by kernel_rfl) (by kernel_rfl) (by show _=_; kernel_rfl) (by exact trivial) a w hm
theorem ref3_whole_ok {F:Nat} {a0:List UInt8} {r:Int} (h:ref3_whole F a0=some r):ACall Tryz.prog 48 [.d (.str a0)] [] (.d (.v (.int .i64 r))) []:=by
 rw [ref3_whole] at h
 refine ACall.intro (N:=28) Tryz.func48 rfl rfl rfl rfl rfl fun e=>?_
 refine T_reg [] [0] [] [] 1 (by kernel_rfl) (trivial) ?_
 refine T_seqk ?_
 refine T_reg [] [0,6] [(6,.d (.v (.bool (a0 == []))))] [] 2 (by kernel_rfl) (trivial) ?_
 refine T_cond (a0 == []) (by kernel_rfl) (fun hc=>?_) (fun hc=>?_)
 ·have h:=cond_tt hc h
  refine T_reg [] [2] [(2,.d (.v (.int .i64 (-1:Int))))] [] 1 (by kernel_rfl) (trivial) ?_
  obtain hs:=Option.some.inj h; subst hs
  refine T_ret fun a w hm=>then_ret (T_return (fr':=[(2,.d (.v (.int .i64 (-1:Int))))]) [2] (by kernel_rfl) [.keep [2]] (by kernel_rfl) (by kernel_rfl) (by kernel_rfl) (by show _=_; kernel_rfl) (by exact trivial) a w hm)
 ·have h:=cond_ff hc h
  refine T_skip fun a w hm=>then_norm (((?_:T Tryz.prog e 28 _ _ _) a w hm))
  refine T_reg [] [0,3] [(3,.d (.v (.int .i64 (0:Int))))] [] 1 (by kernel_rfl) (trivial) ?_
  refine T_seqk ?_
  refine T_reg [] [0,3,8,9] [(8,.d (.v (.int .i64 (a0.length:Int)))),(9,.d (.v (.int .i64 (0:Int))))] [] 3 (by kernel_rfl) (trivial) ?_
  refine T_joinEt h (fun (p:Int)=>[(3,.d (.v (.int .i64 p)))]) (fun s h hk1=>?_) (fun v3 h=>?_)
  ·refine T_co [.keep [0,3,8,9]] ((fun (p:Int×Int)=>[(0,.d (.str a0)),(3,.d (.v (.int .i64 p.1))),(8,.d (.v (.int .i64 (a0.length:Int)))),(9,.d (.v (.int .i64 p.2)))]) ((0:Int),(0:Int))) (by show _=_; kernel_rfl) ?_
   refine T_block ?_
   refine T_loopF (ι:=Int×Int) (fun (p:Int×Int)=>[(0,.d (.str a0)),(3,.d (.v (.int .i64 p.1))),(8,.d (.v (.int .i64 (a0.length:Int)))),(9,.d (.v (.int .i64 p.2)))]) (fun n p=>ref3_whole_L0 F a0 n p.1 p.2=some s) (fun i hh=>by simp [ref3_whole_L0] at hh) (fun n p h=>?_) F ((0:Int),(0:Int)) h
   obtain ⟨v1,v2⟩:=p
   have h:ref3_whole_L0 F a0 (n+1) v1 v2=some s:=h
   rw [ref3_whole_L0] at h
   refine T_reg [] [0,3,8,9,10] [(10,.d (.v (.bool (decide (v2 < (a0.length:Int))))))] [] 1 (by kernel_rfl) (trivial) ?_
   refine T_seqk ?_
   refine T_cond (decide (v2 < (a0.length:Int))) (by kernel_rfl) (fun hc=>?_) (fun hc=>?_)
   ·have h:=cond_tt hc h
    refine T_skip fun a w hm=>then_norm (((?_:T Tryz.prog e 28 _ _ _) a w hm))
    refine T_seqk ?_
    refine T_block ?_
    refine T_reg [] [0,3,4,8,9] [(4,.d (.v (.int .i64 v2)))] [] 2 (by kernel_rfl) (trivial) ?_
    refine T_seqk ?_
    obtain ⟨hp1,h⟩:=chk_ok h
    obtain ⟨y1,hy1,h⟩:=call_ok h
    refine T_reg [(3,{ res:=.d (.v (.bool y1)) })] [0,3,4,8,9,16] [(16,.d (.v (.bool (!y1))))] [(2,0≤v2∧v2 < a0.length),(0,ACall Tryz.prog 49 [.d (.v (.int .u8 ((a0.getD v2.toNat 0).toNat:Int)))] [] (.d (.v (.bool y1))) [])] 1 (by kernel_rfl) (⟨hp1,ref3_digit_ok hy1⟩) ?_
    refine T_cond (!y1) (by kernel_rfl) (fun hc=>?_) (fun hc=>?_)
    ·have h:=cond_tt hc h
     refine T_reg [] [2] [(2,.d (.v (.int .i64 (-1:Int))))] [] 1 (by kernel_rfl) (trivial) ?_
     obtain hs:=Option.some.inj h; subst hs
     have h:=callE_esc hk1
     obtain hs:=Option.some.inj h; subst hs
     refine T_ret fun a w hm=>then_ret (inBlock_ret (then_ret (then_ret (inBlock_ret (then_ret (then_ret (T_return (fr':=[(2,.d (.v (.int .i64 (-1:Int))))]) [2] (by kernel_rfl) [.keep [2]] (by kernel_rfl) (by kernel_rfl) (by kernel_rfl) (by show _=_; kernel_rfl) (by exact trivial) a w hm)))))))
    ·have h:=cond_ff hc h
     refine T_skip fun a w hm=>then_norm (((?_:T Tryz.prog e 28 _ _ _) a w hm))
     obtain ⟨hp2,h⟩:=chk_ok h
     obtain ⟨z1,hz1,h⟩:=lett_ok h
     obtain ⟨z2,hz2,h⟩:=lett_ok h
     refine T_reg_end [(6,{ rw:=some (.d (.v (.int .i64 z1))) }),(8,{ rw:=some (.d (.v (.int .i64 z2))) })] [0,3,8,9] [(3,.d (.v (.int .i64 z2)))] [(4,0≤v2∧v2 < a0.length),(1,(True)∧AV.d (.v (.int .i64 (IntKind.i64.wrap ((IntKind.i64.wrap (v1 * (10:Int)))+(IntKind.i64.wrap ((a0.getD v2.toNat 0).toNat:Int))))))=.d (.v (.int .i64 z1))),(1,(True)∧AV.d (.v (.int .i64 (if (1099511627776:Int) < (IntKind.i64.wrap (z1 - (48:Int))) then (1099511627776:Int) else (IntKind.i64.wrap (z1 - (48:Int))))))=.d (.v (.int .i64 z2)))] 1 (by kernel_rfl) (⟨hp2,⟨trivial,(by subst hz1; rfl)⟩,⟨trivial,(by subst hz2; rfl)⟩⟩) fun a w hm=>inBlock_norm (then_norm (((?_:T Tryz.prog e 28 _ _ _) a w hm)))
     refine T_reg_end [] [0,3,8,9] [(9,.d (.v (.int .i64 (IntKind.i64.wrap (v2+(1:Int))))))] [] 2 (by kernel_rfl) (trivial) fun a w hm=>then_norm (⟨(z2,IntKind.i64.wrap (v2+(1:Int))),h,hm.co (cs:=[.keep [0,3,8,9]]) (by show _=_; kernel_rfl)⟩)
   ·have h:=cond_ff hc h
    obtain hs:=Option.some.inj h; subst hs
    refine T_exit fun a w hm=>then_exit (then_exit (inBlock_exit (then_norm (⟨_,rfl,hm.co (cs:=[.keep [3]]) (by show _=_; kernel_rfl)⟩))))
  ·skip
   refine fun a w hm=>then_norm (((?_:T Tryz.prog e 28 _ _ _) a w hm))
   refine T_reg [] [2] [(2,.d (.v (.int .i64 v3)))] [] 2 (by kernel_rfl) (trivial) ?_
   obtain hs:=Option.some.inj h; subst hs
   refine T_ret fun a w hm=>T_return (fr':=[(2,.d (.v (.int .i64 v3)))]) [2] (by kernel_rfl) [.keep [2]] (by kernel_rfl) (by kernel_rfl) (by kernel_rfl) (by show _=_; kernel_rfl) (by exact trivial) a w hm
theorem ref3_Tidy_ok {F:Nat} {a0:List UInt8} {r:Int} (h:ref3_Tidy F a0=some r):ACall Tryz.prog 25 [.d (.str a0)] [] (.d (.v (.int .i64 r))) []:=by
 rw [ref3_Tidy] at h
 refine ACall.intro (N:=18) Tryz.func25 rfl rfl rfl rfl rfl fun e=>?_
 refine T_reg [] [0] [] [] 1 (by kernel_rfl) (trivial) ?_
 refine T_seqk ?_
 obtain ⟨hp1,h⟩:=chk_ok h
 obtain ⟨z1,hz1,h⟩:=lett_ok h
 refine T_reg [(11,{ rw:=some (.d (.v (.bool z1))) })] [0,15] [(15,.d (.v (.bool (bif (decide ((a0.length:Int) > (9:Int))) then true else z1))))] [(4,((((decide ((a0.length:Int) > (9:Int))) == false) && true)=true→True)),(0,((((decide ((a0.length:Int) > (9:Int))) == false) && true)=true→True)),(0,((((decide ((a0.length:Int) > (9:Int))) == false) && true)=true→True)),(0,((((decide ((a0.length:Int) > (9:Int))) == false) && true)=true→True)),(0,((((decide ((a0.length:Int) > (1:Int))) == true) && (((decide ((a0.length:Int) > (9:Int))) == false) && true))=true→True)),(0,((((decide ((a0.length:Int) > (1:Int))) == true) && (((decide ((a0.length:Int) > (9:Int))) == false) && true))=true→0≤(0:Int)∧(0:Int) < a0.length)),(0,((((decide ((a0.length:Int) > (1:Int))) == true) && (((decide ((a0.length:Int) > (9:Int))) == false) && true))=true→True)),(0,((((decide ((a0.length:Int) > (9:Int))) == false) && true)=true→(True)∧AV.d (.v (.bool (bif (decide ((a0.length:Int) > (1:Int))) then (((a0.getD (0:Int).toNat 0).toNat:Int) == (48:Int)) else false)))=.d (.v (.bool z1))))] 1 (by kernel_rfl) (⟨(fun hg=>trivial),(fun hg=>trivial),(fun hg=>trivial),(fun hg=>trivial),(fun hg=>trivial),(fun hg=>(hp1 hg)),(fun hg=>trivial),(fun hg=>⟨trivial,(by subst hz1; rfl)⟩)⟩) ?_
 refine T_cond (bif (decide ((a0.length:Int) > (9:Int))) then true else z1) (by kernel_rfl) (fun hc=>?_) (fun hc=>?_)
 ·have h:=cond_tt hc h
  refine T_reg [] [2] [(2,.d (.v (.int .i64 (-1:Int))))] [] 1 (by kernel_rfl) (trivial) ?_
  obtain hs:=Option.some.inj h; subst hs
  refine T_ret fun a w hm=>then_ret (T_return (fr':=[(2,.d (.v (.int .i64 (-1:Int))))]) [2] (by kernel_rfl) [.keep [2]] (by kernel_rfl) (by kernel_rfl) (by kernel_rfl) (by show _=_; kernel_rfl) (by exact trivial) a w hm)
 ·have h:=cond_ff hc h
  refine T_skip fun a w hm=>then_norm (((?_:T Tryz.prog e 18 _ _ _) a w hm))
  obtain ⟨y1,hy1,h⟩:=call_ok h
  refine T_reg [(1,{ res:=.d (.v (.int .i64 y1)) })] [2] [(2,.d (.v (.int .i64 y1)))] [(1,ACall Tryz.prog 48 [.d (.str a0)] [] (.d (.v (.int .i64 y1))) [])] 1 (by kernel_rfl) (ref3_whole_ok hy1) ?_
  obtain hs:=Option.some.inj h; subst hs
  refine T_ret fun a w hm=>T_return (fr':=[(2,.d (.v (.int .i64 y1)))]) [2] (by kernel_rfl) [.keep [2]] (by kernel_rfl) (by kernel_rfl) (by kernel_rfl) (by show _=_; kernel_rfl) (by exact trivial) a w hm
theorem ref3_at_ok {F:Nat} {a0:List Int} {a1:Int} {r:Int} (h:ref3_at F a0 a1=some r):ACall Tryz.prog 26 [.d (.sl 1 (a0.map (cI .i64))),.d (.v (.int .i64 a1))] [] (.d (.v (.int .i64 r))) []:=by
 rw [ref3_at] at h
 refine ACall.intro (N:=19) Tryz.func26 rfl rfl rfl rfl rfl fun e=>?_
 refine T_reg [] [0,1] [] [] 1 (by kernel_rfl) (trivial) ?_
 refine T_seqk ?_
 refine T_reg [(1,{ rw:=some (.d (.v (.int .i64 (a0.length:Int)))) })] [1,7,8,9] [(7,.d (.sl 1 (a0.map (cI .i64)))),(8,.d (.v (.int .i64 (a0.length:Int)))),(9,.d (.v (.int .i64 (0:Int))))] [(1,True∧AV.d (.v (.int .i64 ((a0.map (cI .i64)).length:Int)))=.d (.v (.int .i64 (a0.length:Int))))] 1 (by kernel_rfl) (len_ok (cI .i64)) ?_
 refine T_joinEt h (fun (p:Unit)=>[]) (fun s h hk1=>?_) (fun s h=>?_)
 ·refine T_co [.keep [1,7,8,9]] ((fun (p:Int)=>[(1,.d (.v (.int .i64 a1))),(7,.d (.sl 1 (a0.map (cI .i64)))),(8,.d (.v (.int .i64 (a0.length:Int)))),(9,.d (.v (.int .i64 p)))]) (0:Int)) (by show _=_; kernel_rfl) ?_
  refine T_block ?_
  refine T_loopF (ι:=Int) (fun (p:Int)=>[(1,.d (.v (.int .i64 a1))),(7,.d (.sl 1 (a0.map (cI .i64)))),(8,.d (.v (.int .i64 (a0.length:Int)))),(9,.d (.v (.int .i64 p)))]) (fun n p=>ref3_at_L0 F a0 a1 n p=some s) (fun i hh=>by simp [ref3_at_L0] at hh) (fun n v1 h=>?_) F (0:Int) h
  have h:ref3_at_L0 F a0 a1 (n+1) v1=some s:=h
  rw [ref3_at_L0] at h
  refine T_reg [] [1,7,8,9,10] [(10,.d (.v (.bool (decide (v1 < (a0.length:Int))))))] [] 1 (by kernel_rfl) (trivial) ?_
  refine T_seqk ?_
  refine T_cond (decide (v1 < (a0.length:Int))) (by kernel_rfl) (fun hc=>?_) (fun hc=>?_)
  ·have h:=cond_tt hc h
   refine T_skip fun a w hm=>then_norm (((?_:T Tryz.prog e 19 _ _ _) a w hm))
   refine T_seqk ?_
   refine T_block ?_
   obtain ⟨hp1,h⟩:=chk_ok h
   refine T_reg [(1,{ cs:=(cI .i64) (a0.getD v1.toNat 0) })] [1,5,6,7,8,9] [(5,.d (.v (.int .i64 v1))),(6,.d (.v (.int .i64 (a0.getD v1.toNat 0))))] [(1,0≤v1∧(a0.map (cI .i64))[v1.toNat]? = some ((cI .i64) (a0.getD v1.toNat 0)))] 3 (by kernel_rfl) (idx_ok (d:=0) (cI .i64) hp1) ?_
   refine T_reg [] [1,5,7,8,9,16] [(16,.d (.v (.bool ((a0.getD v1.toNat 0) == a1))))] [] 3 (by kernel_rfl) (trivial) ?_
   refine T_cond ((a0.getD v1.toNat 0) == a1) (by kernel_rfl) (fun hc=>?_) (fun hc=>?_)
   ·have h:=cond_tt hc h
    refine T_reg [] [4] [(4,.d (.v (.int .i64 v1)))] [] 2 (by kernel_rfl) (trivial) ?_
    obtain hs:=Option.some.inj h; subst hs
    have h:=callE_esc hk1
    obtain hs:=Option.some.inj h; subst hs
    refine T_ret fun a w hm=>inBlock_ret (then_ret (then_ret (inBlock_ret (then_ret (then_ret (T_return (fr':=[(4,.d (.v (.int .i64 v1)))]) [4] (by kernel_rfl) [.keep [4]] (by kernel_rfl) (by kernel_rfl) (by kernel_rfl) (by show _=_; kernel_rfl) (by exact trivial) a w hm))))))
   ·have h:=cond_ff hc h
    refine T_skip fun a w hm=>inBlock_norm (then_norm (((?_:T Tryz.prog e 19 _ _ _) a w hm)))
    refine T_reg_end [] [1,7,8,9] [(9,.d (.v (.int .i64 (IntKind.i64.wrap (v1+(1:Int))))))] [] 2 (by kernel_rfl) (trivial) fun a w hm=>then_norm (⟨IntKind.i64.wrap (v1+(1:Int)),h,hm.co (cs:=[.keep [1,7,8,9]]) (by show _=_; kernel_rfl)⟩)
  ·have h:=cond_ff hc h
   obtain hs:=Option.some.inj h; subst hs
   refine T_exit fun a w hm=>then_exit (then_exit (inBlock_exit (then_norm (⟨_,rfl,hm.co (cs:=[.keep []]) (by show _=_; kernel_rfl)⟩))))
 ·skip
  refine fun a w hm=>then_norm (((?_:T Tryz.prog e 19 _ _ _) a w hm))
  refine T_reg [] [4] [(4,.d (.v (.int .i64 (-1:Int))))] [] 1 (by kernel_rfl) (trivial) ?_
  obtain hs:=Option.some.inj h; subst hs
  refine T_ret fun a w hm=>T_return (fr':=[(4,.d (.v (.int .i64 (-1:Int))))]) [4] (by kernel_rfl) [.keep [4]] (by kernel_rfl) (by kernel_rfl) (by kernel_rfl) (by show _=_; kernel_rfl) (by exact trivial) a w hm
theorem ref3_IsName_ok {F:Nat} {a0:List UInt8} {r:Bool} (h:ref3_IsName F a0=some r):ACall Tryz.prog 27 [.d (.str a0)] [] (.d (.v (.bool r))) []:=by
 rw [ref3_IsName] at h
 refine ACall.intro (N:=51) Tryz.func27 rfl rfl rfl rfl rfl fun e=>?_
 refine T_reg [] [0] [] [] 1 (by kernel_rfl) (trivial) ?_
 refine T_seqk ?_
 obtain ⟨hp1,h⟩:=chk_ok h
 obtain ⟨z3,hz1,h⟩:=lett_ok h
 obtain ⟨hp2,h⟩:=chk_ok h
 refine T_reg [(11,{ rw:=some (.d (.v (.bool z3))) })] [0,20] [(20,.d (.v (.bool (bif z3 then true else (decide (((a0.getD (0:Int).toNat 0).toNat:Int) > (122:Int)))))))] [(3,((((a0 == []) == false) && true)=true→True)),(0,((((a0 == []) == false) && true)=true→True)),(0,((((a0 == []) == false) && true)=true→True)),(2,((((bif (a0 == []) then true else (decide ((a0.length:Int) > (16:Int)))) == false) && true)=true→True)),(0,((((bif (a0 == []) then true else (decide ((a0.length:Int) > (16:Int)))) == false) && true)=true→0≤(0:Int)∧(0:Int) < a0.length)),(0,((((bif (a0 == []) then true else (decide ((a0.length:Int) > (16:Int)))) == false) && true)=true→True)),(0,(True)∧AV.d (.v (.bool (bif (bif (a0 == []) then true else (decide ((a0.length:Int) > (16:Int)))) then true else (decide (((a0.getD (0:Int).toNat 0).toNat:Int) < (97:Int))))))=.d (.v (.bool z3))),(1,(((z3 == false) && true)=true→True)),(0,(((z3 == false) && true)=true→0≤(0:Int)∧(0:Int) < a0.length)),(0,(((z3 == false) && true)=true→True))] 1 (by kernel_rfl) (⟨(fun hg=>trivial),(fun hg=>trivial),(fun hg=>trivial),(fun hg=>trivial),(fun hg=>(hp1 hg)),(fun hg=>trivial),⟨trivial,(by subst hz1; rfl)⟩,(fun hg=>trivial),(fun hg=>(hp2 hg)),(fun hg=>trivial)⟩) ?_
 refine T_cond (bif z3 then true else (decide (((a0.getD (0:Int).toNat 0).toNat:Int) > (122:Int)))) (by kernel_rfl) (fun hc=>?_) (fun hc=>?_)
 ·have h:=cond_tt hc h
  refine T_reg [] [2] [(2,.d (.v (.bool false)))] [] 1 (by kernel_rfl) (trivial) ?_
  obtain hs:=Option.some.inj h; subst hs
  refine T_ret fun a w hm=>then_ret (T_return (fr':=[(2,.d (.v (.bool false)))]) [2] (by kernel_rfl) [.keep [2]] (by kernel_rfl) (by kernel_rfl) (by kernel_rfl) (by show _=_; kernel_rfl) (by exact trivial) a w hm)
 ·have h:=cond_ff hc h
  refine T_skip fun a w hm=>then_norm (((?_:T Tryz.prog e 51 _ _ _) a w hm))
  refine T_seqk ?_
  refine T_reg [] [0,22,23] [(22,.d (.v (.int .i64 (a0.length:Int)))),(23,.d (.v (.int .i64 (0:Int))))] [] 3 (by kernel_rfl) (trivial) ?_
  refine T_joinEt h (fun (p:Unit)=>[]) (fun s h hk1=>?_) (fun s h=>?_)
  ·refine T_co [.keep [0,22,23]] ((fun (p:Int)=>[(0,.d (.str a0)),(22,.d (.v (.int .i64 (a0.length:Int)))),(23,.d (.v (.int .i64 p)))]) (0:Int)) (by show _=_; kernel_rfl) ?_
   refine T_block ?_
   refine T_loopF (ι:=Int) (fun (p:Int)=>[(0,.d (.str a0)),(22,.d (.v (.int .i64 (a0.length:Int)))),(23,.d (.v (.int .i64 p)))]) (fun n p=>ref3_IsName_L0 F a0 n p=some s) (fun i hh=>by simp [ref3_IsName_L0] at hh) (fun n v1 h=>?_) F (0:Int) h
   have h:ref3_IsName_L0 F a0 (n+1) v1=some s:=h
   rw [ref3_IsName_L0] at h
   refine T_reg [] [0,22,23,24] [(24,.d (.v (.bool (decide (v1 < (a0.length:Int))))))] [] 1 (by kernel_rfl) (trivial) ?_
   refine T_seqk ?_
   refine T_cond (decide (v1 < (a0.length:Int))) (by kernel_rfl) (fun hc=>?_) (fun hc=>?_)
   ·have h:=cond_tt hc h
    refine T_skip fun a w hm=>then_norm (((?_:T Tryz.prog e 51 _ _ _) a w hm))
    refine T_seqk ?_
    refine T_block ?_
    refine T_reg [] [0,3,22,23] [(3,.d (.v (.int .i64 v1)))] [] 2 (by kernel_rfl) (trivial) ?_
    obtain ⟨hp3,h⟩:=chk_ok h
    obtain ⟨hp4,h⟩:=chk_ok h
    obtain ⟨z1,hz2,h⟩:=lett_ok h
    obtain ⟨hp5,h⟩:=chk_ok h
    obtain ⟨y1,hy1,h⟩:=call_ok h
    obtain ⟨hp6,h⟩:=chk_ok h
    obtain ⟨z2,hz3,h⟩:=lett_ok h
    refine T_reg [(9,{ rw:=some (.d (.v (.bool z1))) }),(15,{ res:=.d (.v (.bool y1)) }),(23,{ rw:=some (.d (.v (.bool z2))) })] [0,22,23,49] [(49,.d (.v (.bool z2)))] [(2,0≤v1∧v1 < a0.length),(2,((((decide (((a0.getD v1.toNat 0).toNat:Int) ≥ (97:Int))) == true) && true)=true→True)),(0,((((decide (((a0.getD v1.toNat 0).toNat:Int) ≥ (97:Int))) == true) && true)=true→True)),(0,((((decide (((a0.getD v1.toNat 0).toNat:Int) ≥ (97:Int))) == true) && true)=true→0≤v1∧v1 < a0.length)),(0,((((decide (((a0.getD v1.toNat 0).toNat:Int) ≥ (97:Int))) == true) && true)=true→True)),(0,(True)∧AV.d (.v (.bool (bif (decide (((a0.getD v1.toNat 0).toNat:Int) ≥ (97:Int))) then (decide (((a0.getD v1.toNat 0).toNat:Int)≤(122:Int))) else false)))=.d (.v (.bool z1))),(2,((((!z1) == true) && true)=true→True)),(0,((((!z1) == true) && true)=true→True)),(0,((((!z1) == true) && true)=true→0≤v1∧v1 < a0.length)),(0,((((!z1) == true) && true)=true→ACall Tryz.prog 49 [.d (.v (.int .u8 ((a0.getD v1.toNat 0).toNat:Int)))] [] (.d (.v (.bool y1))) [])),(0,((((!z1) == true) && true)=true→True)),(2,((((bif (!z1) then (!y1) else false) == true) && true)=true→True)),(0,((((bif (!z1) then (!y1) else false) == true) && true)=true→True)),(0,((((bif (!z1) then (!y1) else false) == true) && true)=true→0≤v1∧v1 < a0.length)),(0,((((bif (!z1) then (!y1) else false) == true) && true)=true→True)),(0,(True)∧AV.d (.v (.bool (bif (bif (!z1) then (!y1) else false) then (((a0.getD v1.toNat 0).toNat:Int) != (45:Int)) else false)))=.d (.v (.bool z2)))] 0 (by kernel_rfl) (⟨hp3,(fun hg=>trivial),(fun hg=>trivial),(fun hg=>(hp4 hg)),(fun hg=>trivial),⟨trivial,(by subst hz2; rfl)⟩,(fun hg=>trivial),(fun hg=>trivial),(fun hg=>(hp5 hg)),(fun hg=>ref3_digit_ok (gcall_ok hg hy1)),(fun hg=>trivial),(fun hg=>trivial),(fun hg=>trivial),(fun hg=>(hp6 hg)),(fun hg=>trivial),⟨trivial,(by subst hz3; rfl)⟩⟩) ?_
    refine T_cond z2 (by kernel_rfl) (fun hc=>?_) (fun hc=>?_)
    ·have h:=cond_tt hc h
     refine T_reg [] [2] [(2,.d (.v (.bool false)))] [] 1 (by kernel_rfl) (trivial) ?_
     obtain hs:=Option.some.inj h; subst hs
     have h:=callE_esc hk1
     obtain hs:=Option.some.inj h; subst hs
     refine T_ret fun a w hm=>inBlock_ret (then_ret (then_ret (inBlock_ret (then_ret (then_ret (T_return (fr':=[(2,.d (.v (.bool false)))]) [2] (by kernel_rfl) [.keep [2]] (by kernel_rfl) (by kernel_rfl) (by kernel_rfl) (by show _=_; kernel_rfl) (by exact trivial) a w hm))))))
    ·have h:=cond_ff hc h
     refine T_skip fun a w hm=>inBlock_norm (then_norm (((?_:T Tryz.prog e 51 _ _ _) a w hm)))
     refine T_reg_end [] [0,22,23] [(23,.d (.v (.int .i64 (IntKind.i64.wrap (v1+(1:Int))))))] [] 2 (by kernel_rfl) (trivial) fun a w hm=>then_norm (⟨IntKind.i64.wrap (v1+(1:Int)),h,hm.co (cs:=[.keep [0,22,23]]) (by show _=_; kernel_rfl)⟩)
   ·have h:=cond_ff hc h
    obtain hs:=Option.some.inj h; subst hs
    refine T_exit fun a w hm=>then_exit (then_exit (inBlock_exit (then_norm (⟨_,rfl,hm.co (cs:=[.keep []]) (by show _=_; kernel_rfl)⟩))))
  ·skip
   refine fun a w hm=>then_norm (((?_:T Tryz.prog e 51 _ _ _) a w hm))
   refine T_reg [] [2] [(2,.d (.v (.bool true)))] [] 1 (by kernel_rfl) (trivial) ?_
   obtain hs:=Option.some.inj h; subst hs
   refine T_ret fun a w hm=>T_return (fr':=[(2,.d (.v (.bool true)))]) [2] (by kernel_rfl) [.keep [2]] (by kernel_rfl) (by kernel_rfl) (by kernel_rfl) (by show _=_; kernel_rfl) (by exact trivial) a w hm
theorem ref3_HasText_ok {F:Nat} {a0:List (List UInt8)} {a1:List UInt8} {r:Bool} (h:ref3_HasText F a0 a1=some r):ACall Tryz.prog 28 [.d (.sl 1 (a0.map cS)),.d (.str a1)] [] (.d (.v (.bool r))) []:=by
 rw [ref3_HasText] at h
 refine ACall.intro (N:=17) Tryz.func28 rfl rfl rfl rfl rfl fun e=>?_
 refine T_reg [] [0,1] [] [] 1 (by kernel_rfl) (trivial) ?_
 refine T_seqk ?_
 refine T_reg [(1,{ rw:=some (.d (.v (.int .i64 (a0.length:Int)))) })] [1,7,8,9] [(7,.d (.sl 1 (a0.map cS))),(8,.d (.v (.int .i64 (a0.length:Int)))),(9,.d (.v (.int .i64 (0:Int))))] [(1,True∧AV.d (.v (.int .i64 ((a0.map cS).length:Int)))=.d (.v (.int .i64 (a0.length:Int))))] 1 (by kernel_rfl) (len_ok cS) ?_
 refine T_joinEt h (fun (p:Unit)=>[]) (fun s h hk1=>?_) (fun s h=>?_)
 ·refine T_co [.keep [1,7,8,9]] ((fun (p:Int)=>[(1,.d (.str a1)),(7,.d (.sl 1 (a0.map cS))),(8,.d (.v (.int .i64 (a0.length:Int)))),(9,.d (.v (.int .i64 p)))]) (0:Int)) (by show _=_; kernel_rfl) ?_
  refine T_block ?_
  refine T_loopF (ι:=Int) (fun (p:Int)=>[(1,.d (.str a1)),(7,.d (.sl 1 (a0.map cS))),(8,.d (.v (.int .i64 (a0.length:Int)))),(9,.d (.v (.int .i64 p)))]) (fun n p=>ref3_HasText_L0 F a0 a1 n p=some s) (fun i hh=>by simp [ref3_HasText_L0] at hh) (fun n v1 h=>?_) F (0:Int) h
  have h:ref3_HasText_L0 F a0 a1 (n+1) v1=some s:=h
  rw [ref3_HasText_L0] at h
  refine T_reg [] [1,7,8,9,10] [(10,.d (.v (.bool (decide (v1 < (a0.length:Int))))))] [] 1 (by kernel_rfl) (trivial) ?_
  refine T_seqk ?_
  refine T_cond (decide (v1 < (a0.length:Int))) (by kernel_rfl) (fun hc=>?_) (fun hc=>?_)
  ·have h:=cond_tt hc h
   refine T_skip fun a w hm=>then_norm (((?_:T Tryz.prog e 17 _ _ _) a w hm))
   refine T_seqk ?_
   refine T_block ?_
   obtain ⟨hp1,h⟩:=chk_ok h
   refine T_reg [(0,{ cs:=cS (a0.getD v1.toNat []) })] [1,6,7,8,9] [(6,.d (.str (a0.getD v1.toNat [])))] [(0,0≤v1∧(a0.map cS)[v1.toNat]? = some (cS (a0.getD v1.toNat [])))] 2 (by kernel_rfl) (idx_ok (d:=[]) cS hp1) ?_
   refine T_reg [] [1,7,8,9,15] [(15,.d (.v (.bool ((a0.getD v1.toNat []) == a1))))] [] 3 (by kernel_rfl) (trivial) ?_
   refine T_cond ((a0.getD v1.toNat []) == a1) (by kernel_rfl) (fun hc=>?_) (fun hc=>?_)
   ·have h:=cond_tt hc h
    refine T_reg [] [4] [(4,.d (.v (.bool true)))] [] 1 (by kernel_rfl) (trivial) ?_
    obtain hs:=Option.some.inj h; subst hs
    have h:=callE_esc hk1
    obtain hs:=Option.some.inj h; subst hs
    refine T_ret fun a w hm=>inBlock_ret (then_ret (then_ret (inBlock_ret (then_ret (then_ret (T_return (fr':=[(4,.d (.v (.bool true)))]) [4] (by kernel_rfl) [.keep [4]] (by kernel_rfl) (by kernel_rfl) (by kernel_rfl) (by show _=_; kernel_rfl) (by exact trivial) a w hm))))))
   ·have h:=cond_ff hc h
    refine T_skip fun a w hm=>inBlock_norm (then_norm (((?_:T Tryz.prog e 17 _ _ _) a w hm)))
    refine T_reg_end [] [1,7,8,9] [(9,.d (.v (.int .i64 (IntKind.i64.wrap (v1+(1:Int))))))] [] 2 (by kernel_rfl) (trivial) fun a w hm=>then_norm (⟨IntKind.i64.wrap (v1+(1:Int)),h,hm.co (cs:=[.keep [1,7,8,9]]) (by show _=_; kernel_rfl)⟩)
  ·have h:=cond_ff hc h
   obtain hs:=Option.some.inj h; subst hs
   refine T_exit fun a w hm=>then_exit (then_exit (inBlock_exit (then_norm (⟨_,rfl,hm.co (cs:=[.keep []]) (by show _=_; kernel_rfl)⟩))))
 ·skip
  refine fun a w hm=>then_norm (((?_:T Tryz.prog e 17 _ _ _) a w hm))
  refine T_reg [] [4] [(4,.d (.v (.bool false)))] [] 1 (by kernel_rfl) (trivial) ?_
  obtain hs:=Option.some.inj h; subst hs
  refine T_ret fun a w hm=>T_return (fr':=[(4,.d (.v (.bool false)))]) [4] (by kernel_rfl) [.keep [4]] (by kernel_rfl) (by kernel_rfl) (by kernel_rfl) (by show _=_; kernel_rfl) (by exact trivial) a w hm
end Go.Vm.ArzG
