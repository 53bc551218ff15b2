import Derived.Test.YtflaiaeofndgmaaGreatDoorProg
import Derived.Test.YtflaiaeofndgmaaGreatDoorArNf
import Derived.Test.YtflaiaeofndgmaaGreatDoorArNb
namespace Go.Vm.ArzN
open Go.Proofs
set_option maxRecDepth 20000
theorem mixed:Tryz.prog.follows .mixedOrders=true:=by kernel_rfl
theorem internal_stringslite_Cut_ok {F:Nat} {a0:List UInt8} {a1:List UInt8} {r:(List UInt8)×(List UInt8)×Bool} (h:internal_stringslite_Cut F a0 a1=some r):ACall Tryz.prog 38 [.d (.str a0),.d (.str a1)] [] (.tup [.d (.str r.1),.d (.str r.2.1),.d (.v (.bool r.2.2))]) []:=by
 rw [internal_stringslite_Cut] at h
 refine ACall.intro (N:=23) Tryz.func38 rfl rfl rfl rfl rfl fun e=>?_
 refine T_reg [] [0,1] [] [] 3 (by kernel_rfl) (trivial) ?_
 refine T_seqk ?_
 obtain ⟨hp1,h⟩:=chk_ok h
 refine T_reg [(2,{ res:=.d (.v (.int .i64 (Lib.indexByte a0 (a1.getD 0 0)))) })] [0,1,7] [(7,.d (.v (.int .i64 (Lib.indexByte a0 (a1.getD 0 0)))))] [(2,ACall Tryz.prog 57 [.d (.str a0),.d (.str a1)] [] (.d (.v (.int .i64 (Lib.indexByte a0 (a1.getD 0 0))))) [])] 1 (by kernel_rfl) (b_Index1_57 hp1) ?_
 refine T_reg [] [0,1,7,12] [(12,.d (.v (.bool (decide ((Lib.indexByte a0 (a1.getD 0 0)) ≥ (0:Int))))))] [] 2 (by kernel_rfl) (trivial) ?_
 refine T_cond (decide ((Lib.indexByte a0 (a1.getD 0 0)) ≥ (0:Int))) (by kernel_rfl) (fun hc=>?_) (fun hc=>?_)
 ·have h:=cond_tt hc h
  obtain ⟨hp2,h⟩:=chk_ok h
  obtain ⟨hp3,h⟩:=chk_ok h
  obtain ⟨z1,hz1,h⟩:=lett_ok h
  refine T_draw mixed [(8,{ rw:=some (.d (.str z1)) })] [4,5,6] [] [(4,.d (.str ((a0.drop (0:Int).toNat).take ((Lib.indexByte a0 (a1.getD 0 0)).toNat - (0:Int).toNat)))),(5,.d (.str z1)),(6,.d (.v (.bool true)))] [(2,0≤(0:Int)∧(0:Int)≤(Lib.indexByte a0 (a1.getD 0 0))∧(Lib.indexByte a0 (a1.getD 0 0))≤(a0.length:Int)),(5,(0≤(IntKind.i64.wrap ((Lib.indexByte a0 (a1.getD 0 0))+(a1.length:Int)))∧(IntKind.i64.wrap ((Lib.indexByte a0 (a1.getD 0 0))+(a1.length:Int)))≤(a0.length:Int)∧(a0.length:Int)≤(a0.length:Int))∧AV.d (.str ((a0.drop (IntKind.i64.wrap ((Lib.indexByte a0 (a1.getD 0 0))+(a1.length:Int))).toNat).take ((a0.length:Int).toNat - (IntKind.i64.wrap ((Lib.indexByte a0 (a1.getD 0 0))+(a1.length:Int))).toNat)))=.d (.str z1))] 3 (by kernel_rfl) (⟨hp2,⟨hp3,(by subst hz1; rfl)⟩⟩) ?_
  obtain hs:=Option.some.inj h; subst hs
  refine T_ret fun a w hm=>then_ret (T_return (fr':=[(4,.d (.str ((a0.drop (0:Int).toNat).take ((Lib.indexByte a0 (a1.getD 0 0)).toNat - (0:Int).toNat)))),(5,.d (.str z1)),(6,.d (.v (.bool true)))]) [4,5,6] (by kernel_rfl) [.keep [4,5,6]] (by kernel_rfl) (by kernel_rfl) (by kernel_rfl) (by show _=_; kernel_rfl) (by exact trivial) a w hm)
 ·have h:=cond_ff hc h
  refine T_skip fun a w hm=>then_norm (((?_:T Tryz.prog e 23 _ _ _) a w hm))
  refine T_reg [] [4,5,6] [(4,.d (.str a0)),(5,.d (.str [])),(6,.d (.v (.bool false)))] [] 4 (by kernel_rfl) (trivial) ?_
  obtain hs:=Option.some.inj h; subst hs
  refine T_ret fun a w hm=>T_return (fr':=[(4,.d (.str a0)),(5,.d (.str [])),(6,.d (.v (.bool false)))]) [4,5,6] (by kernel_rfl) [.keep [4,5,6]] (by kernel_rfl) (by kernel_rfl) (by kernel_rfl) (by show _=_; kernel_rfl) (by exact trivial) a w hm
theorem strings_Cut_ok {F:Nat} {a0:List UInt8} {a1:List UInt8} {r:(List UInt8)×(List UInt8)×Bool} (h:strings_Cut F a0 a1=some r):ACall Tryz.prog 16 [.d (.str a0),.d (.str a1)] [] (.tup [.d (.str r.1),.d (.str r.2.1),.d (.v (.bool r.2.2))]) []:=by
 rw [strings_Cut] at h
 refine ACall.intro (N:=13) Tryz.func16 rfl rfl rfl rfl rfl fun e=>?_
 refine T_reg [] [0,1] [] [] 3 (by kernel_rfl) (trivial) ?_
 obtain ⟨y1,hy1,h⟩:=call_ok h
 refine T_reg [(2,{ res:=.tup [.d (.str y1.1),.d (.str y1.2.1),.d (.v (.bool y1.2.2))] })] [4,5,6] [(4,.d (.str y1.1)),(5,.d (.str y1.2.1)),(6,.d (.v (.bool y1.2.2)))] [(2,ACall Tryz.prog 38 [.d (.str a0),.d (.str a1)] [] (.tup [.d (.str y1.1),.d (.str y1.2.1),.d (.v (.bool y1.2.2))]) [])] 6 (by kernel_rfl) (internal_stringslite_Cut_ok hy1) ?_
 obtain hs:=Option.some.inj h; subst hs
 refine T_ret fun a w hm=>T_return (fr':=[(4,.d (.str y1.1)),(5,.d (.str y1.2.1)),(6,.d (.v (.bool y1.2.2)))]) [4,5,6] (by kernel_rfl) [.keep [4,5,6]] (by kernel_rfl) (by kernel_rfl) (by kernel_rfl) (by show _=_; kernel_rfl) (by exact trivial) a w hm
theorem strings_genSplit_ok {F:Nat} {a0:List UInt8} {a1:List UInt8} {a2:Int} {a3:Int} {r:(List (List UInt8))} (h:strings_genSplit F a0 a1 a2 a3=some r):ACall Tryz.prog 41 [.d (.str a0),.d (.str a1),.d (.v (.int .i64 a2)),.d (.v (.int .i64 a3))] [] (.own 9 1 (r.map cS)) []:=by
 rw [strings_genSplit] at h
 refine ACall.intro (N:=66) Tryz.func41 rfl rfl rfl rfl rfl fun e=>?_
 refine T_reg [] [0,1,2,3] [] [] 1 (by kernel_rfl) (trivial) ?_
 refine T_seqk ?_
 refine T_reg [] [0,1,2,3,13] [(13,.d (.v (.bool (a3 == (0:Int)))))] [] 2 (by kernel_rfl) (trivial) ?_
 refine T_cond (a3 == (0:Int)) (by kernel_rfl) (fun hc=>?_) (fun hc=>?_)
 ·have h:=cond_tt hc h
  refine T_reg [] [8] [(8,.own 9 1 ([].map cS))] [] 1 (by kernel_rfl) (trivial) ?_
  obtain hs:=Option.some.inj h; subst hs
  refine T_ret fun a w hm=>then_ret (T_return (fr':=[(8,.own 9 1 ([].map cS))]) [8] (by kernel_rfl) [.keep [8]] (by kernel_rfl) (by kernel_rfl) (by kernel_rfl) (by show _=_; kernel_rfl) (by exact trivial) a w hm)
 ·have h:=cond_ff hc h
  refine T_skip fun a w hm=>then_norm (((?_:T Tryz.prog e 66 _ _ _) a w hm))
  refine T_seqk ?_
  refine T_reg [] [0,1,2,3,15] [(15,.d (.v (.bool (a1 == []))))] [] 2 (by kernel_rfl) (trivial) ?_
  refine T_cond (a1 == []) (by kernel_rfl) (fun hc=>?_) (fun hc=>?_)
  ·have h:=cond_tt hc h
   cases h
  ·have h:=cond_ff hc h
   refine T_skip fun a w hm=>then_norm (((?_:T Tryz.prog e 66 _ _ _) a w hm))
   refine T_joinc h (fun (p:Int)=>[(0,.d (.str a0)),(1,.d (.str a1)),(2,.d (.v (.int .i64 a2))),(3,.d (.v (.int .i64 p)))]) (fun s h=>?_) (fun v4 h=>?_)
   ·refine T_reg [] [0,1,2,3,20] [(20,.d (.v (.bool (decide (a3 < (0:Int))))))] [] 2 (by kernel_rfl) (trivial) ?_
    refine T_cond (decide (a3 < (0:Int))) (by kernel_rfl) (fun hc=>?_) (fun hc=>?_)
    ·have h:=cond_tt hc h
     obtain ⟨hp1,h⟩:=chk_ok h
     obtain hs:=Option.some.inj h; subst hs
     refine T_reg_end [(2,{ res:=.d (.v (.int .i64 (Lib.countByte a0 (a1.getD 0 0)))) })] [0,1,2,3] [(3,.d (.v (.int .i64 (IntKind.i64.wrap ((Lib.countByte a0 (a1.getD 0 0))+(1:Int))))))] [(2,ACall Tryz.prog 59 [.d (.str a0),.d (.str a1)] [] (.d (.v (.int .i64 (Lib.countByte a0 (a1.getD 0 0))))) [])] 2 (by kernel_rfl) (b_Count1_59 hp1) fun a w hm=>then_norm (hm.co (cs:=[.keep [0,1,2,3]]) (by show _=_; kernel_rfl))
    ·have h:=cond_ff hc h
     obtain hs:=Option.some.inj h; subst hs
     refine T_skip fun a w hm=>then_norm (hm.co (cs:=[.keep [0,1,2,3]]) (by show _=_; kernel_rfl))
   ·skip
    obtain ⟨z1,hz1,h⟩:=lett_ok h
    refine T_reg [(4,{ rw:=some (.d (.v (.int .i64 z1))) })] [0,1,2,3] [(3,.d (.v (.int .i64 z1)))] [(4,(True)∧AV.d (.v (.int .i64 (if (IntKind.i64.wrap ((a0.length:Int)+(1:Int))) < v4 then (IntKind.i64.wrap ((a0.length:Int)+(1:Int))) else v4)))=.d (.v (.int .i64 z1)))] 1 (by kernel_rfl) (⟨trivial,(by subst hz1; rfl)⟩) ?_
    obtain ⟨hp2,h⟩:=chk_ok h
    refine T_reg [(1,{ es:=some ((List.replicate z1.toNat []).map cS) })] [0,1,2,3,9] [(9,.own 9 1 ((List.replicate z1.toNat []).map cS))] [(1,(0≤z1∧z1≤z1∧z1≤9223372036854775807∧((16:Nat):Int) * z1≤281474976710656)∧List.replicate z1.toNat (cS [])=((List.replicate z1.toNat []).map cS))] 1 (by kernel_rfl) (⟨hp2,repl_ok cS rfl⟩) ?_
    refine T_reg [] [0,1,2,3,9] [(3,.d (.v (.int .i64 (IntKind.i64.wrap (z1 - (1:Int))))))] [] 3 (by kernel_rfl) (trivial) ?_
    refine T_reg [] [0,1,2,3,9,10] [(10,.d (.v (.int .i64 (0:Int))))] [] 1 (by kernel_rfl) (trivial) ?_
    refine T_joinc h (fun (p:(List UInt8)×(List (List UInt8))×Int)=>[(0,.d (.str p.1)),(9,.own 9 1 (p.2.1.map cS)),(10,.d (.v (.int .i64 p.2.2)))]) (fun s h=>?_) (fun s h=>?_)
    ·refine T_co [.keep [0,1,2,3,9,10]] ((fun (p:(List UInt8)×(List (List UInt8))×Int)=>[(0,.d (.str p.1)),(1,.d (.str a1)),(2,.d (.v (.int .i64 a2))),(3,.d (.v (.int .i64 (IntKind.i64.wrap (z1 - (1:Int)))))),(9,.own 9 1 (p.2.1.map cS)),(10,.d (.v (.int .i64 p.2.2)))]) (a0,(List.replicate z1.toNat []),(0:Int))) (by show _=_; kernel_rfl) ?_
     refine T_block ?_
     refine T_loopF (ι:=(List UInt8)×(List (List UInt8))×Int) (fun (p:(List UInt8)×(List (List UInt8))×Int)=>[(0,.d (.str p.1)),(1,.d (.str a1)),(2,.d (.v (.int .i64 a2))),(3,.d (.v (.int .i64 (IntKind.i64.wrap (z1 - (1:Int)))))),(9,.own 9 1 (p.2.1.map cS)),(10,.d (.v (.int .i64 p.2.2)))]) (fun n p=>strings_genSplit_L0 F a1 a2 z1 n p.1 p.2.1 p.2.2=some s) (fun i hh=>by simp [strings_genSplit_L0] at hh) (fun n p h=>?_) F (a0,(List.replicate z1.toNat []),(0:Int)) h
     obtain ⟨v1,v2,v3⟩:=p
     have h:strings_genSplit_L0 F a1 a2 z1 (n+1) v1 v2 v3=some s:=h
     rw [strings_genSplit_L0] at h
     refine T_seqk ?_
     refine T_reg [] [0,1,2,3,9,10,36] [(36,.d (.v (.bool (decide (v3 < (IntKind.i64.wrap (z1 - (1:Int))))))))] [] 3 (by kernel_rfl) (trivial) ?_
     refine T_cond (decide (v3 < (IntKind.i64.wrap (z1 - (1:Int))))) (by kernel_rfl) (fun hc=>?_) (fun hc=>?_)
     ·have h:=cond_tt hc h
      refine T_skip fun a w hm=>then_norm (((?_:T Tryz.prog e 66 _ _ _) a w hm))
      refine T_block ?_
      obtain ⟨hp3,h⟩:=chk_ok h
      refine T_reg [(2,{ res:=.d (.v (.int .i64 (Lib.indexByte v1 (a1.getD 0 0)))) })] [0,1,2,3,9,10,11] [(11,.d (.v (.int .i64 (Lib.indexByte v1 (a1.getD 0 0)))))] [(2,ACall Tryz.prog 60 [.d (.str v1),.d (.str a1)] [] (.d (.v (.int .i64 (Lib.indexByte v1 (a1.getD 0 0))))) [])] 1 (by kernel_rfl) (b_Index1_60 hp3) ?_
      refine T_seqk ?_
      refine T_reg [] [0,1,2,3,9,10,11,41] [(41,.d (.v (.bool (decide ((Lib.indexByte v1 (a1.getD 0 0)) < (0:Int))))))] [] 2 (by kernel_rfl) (trivial) ?_
      refine T_cond (decide ((Lib.indexByte v1 (a1.getD 0 0)) < (0:Int))) (by kernel_rfl) (fun hc=>?_) (fun hc=>?_)
      ·have h:=cond_tt hc h
       obtain hs:=Option.some.inj h; subst hs
       refine T_exit fun a w hm=>then_exit (inBlock_pass rfl (then_exit (inBlock_exit (then_norm (hm.co (cs:=[.keep [0,9,10]]) (by show _=_; kernel_rfl))))))
      ·have h:=cond_ff hc h
       refine T_skip fun a w hm=>then_norm (((?_:T Tryz.prog e 66 _ _ _) a w hm))
       obtain ⟨hp4,h⟩:=chk_ok h
       obtain ⟨z2,hz2,h⟩:=lett_ok h
       obtain ⟨hp5,h⟩:=chk_ok h
       refine T_reg [(6,{ rw:=some (.d (.str z2)) }),(8,{ cs:=cS (v2.getD v3.toNat []),es:=some ((v2.set v3.toNat z2).map cS) })] [0,1,2,3,9,10,11] [(9,.own 9 1 ((v2.set v3.toNat z2).map cS))] [(6,(0≤(0:Int)∧(0:Int)≤(IntKind.i64.wrap ((Lib.indexByte v1 (a1.getD 0 0))+a2))∧(IntKind.i64.wrap ((Lib.indexByte v1 (a1.getD 0 0))+a2))≤(v1.length:Int))∧AV.d (.str ((v1.drop (0:Int).toNat).take ((IntKind.i64.wrap ((Lib.indexByte v1 (a1.getD 0 0))+a2)).toNat - (0:Int).toNat)))=.d (.str z2)),(0,0≤v3∧v3 < (v2.map cS).length),(0,(v2.map cS)[v3.toNat]? = some (cS (v2.getD v3.toNat []))∧(v2.map cS).set v3.toNat (cS z2)=((v2.set v3.toNat z2).map cS))] 0 (by kernel_rfl) (⟨⟨hp4,(by subst hz2; rfl)⟩,own_idx cS hp5,⟨(idx_ok (d:=[]) cS hp5).2,set_ok cS rfl⟩⟩) ?_
       obtain ⟨hp6,h⟩:=chk_ok h
       obtain ⟨z3,hz3,h⟩:=lett_ok h
       refine T_reg [(5,{ rw:=some (.d (.str z3)) })] [0,1,2,3,9,10] [(0,.d (.str z3))] [(5,(0≤(IntKind.i64.wrap ((Lib.indexByte v1 (a1.getD 0 0))+(a1.length:Int)))∧(IntKind.i64.wrap ((Lib.indexByte v1 (a1.getD 0 0))+(a1.length:Int)))≤(v1.length:Int)∧(v1.length:Int)≤(v1.length:Int))∧AV.d (.str ((v1.drop (IntKind.i64.wrap ((Lib.indexByte v1 (a1.getD 0 0))+(a1.length:Int))).toNat).take ((v1.length:Int).toNat - (IntKind.i64.wrap ((Lib.indexByte v1 (a1.getD 0 0))+(a1.length:Int))).toNat)))=.d (.str z3))] 1 (by kernel_rfl) (⟨hp6,(by subst hz3; rfl)⟩) ?_
       refine T_reg_end [] [0,1,2,3,9,10] [(10,.d (.v (.int .i64 (IntKind.i64.wrap (v3+(1:Int))))))] [] 3 (by kernel_rfl) (trivial) fun a w hm=>inBlock_norm (then_norm (⟨(z3,(v2.set v3.toNat z2),IntKind.i64.wrap (v3+(1:Int))),h,hm.co (cs:=[.keep [0,1,2,3,9,10]]) (by show _=_; kernel_rfl)⟩))
     ·have h:=cond_ff hc h
      obtain hs:=Option.some.inj h; subst hs
      refine T_exit fun a w hm=>then_exit (then_exit (inBlock_exit (then_norm (hm.co (cs:=[.keep [0,9,10]]) (by show _=_; kernel_rfl)))))
    ·obtain ⟨v5,v6,v7⟩:=s
     try dsimp only at h
     obtain ⟨hp7,h⟩:=chk_ok h
     refine T_reg [(4,{ cs:=cS (v6.getD v7.toNat []),es:=some ((v6.set v7.toNat v5).map cS) })] [9,10] [(9,.own 9 1 ((v6.set v7.toNat v5).map cS))] [(3,0≤v7∧v7 < (v6.map cS).length),(0,(v6.map cS)[v7.toNat]? = some (cS (v6.getD v7.toNat []))∧(v6.map cS).set v7.toNat (cS v5)=((v6.set v7.toNat v5).map cS))] 0 (by kernel_rfl) (⟨own_idx cS hp7,⟨(idx_ok (d:=[]) cS hp7).2,set_ok cS rfl⟩⟩) ?_
     obtain ⟨hp8,h⟩:=chk_ok h
     refine T_reg [(3,{ take:=[0],es:=some (((v6.set v7.toNat v5).take (IntKind.i64.wrap (v7+(1:Int))).toNat).map cS) })] [8] [(8,.own 9 1 (((v6.set v7.toNat v5).take (IntKind.i64.wrap (v7+(1:Int))).toNat).map cS))] [(3,(0≤(IntKind.i64.wrap (v7+(1:Int)))∧(IntKind.i64.wrap (v7+(1:Int)))≤(((v6.set v7.toNat v5).map cS).length:Int))∧((v6.set v7.toNat v5).map cS).take (IntKind.i64.wrap (v7+(1:Int))).toNat=(((v6.set v7.toNat v5).take (IntKind.i64.wrap (v7+(1:Int))).toNat).map cS))] 1 (by kernel_rfl) (take_ok cS hp8) ?_
     obtain hs:=Option.some.inj h; subst hs
     refine T_ret fun a w hm=>T_return (fr':=[(8,.own 9 1 (((v6.set v7.toNat v5).take (IntKind.i64.wrap (v7+(1:Int))).toNat).map cS))]) [8] (by kernel_rfl) [.keep [8]] (by kernel_rfl) (by kernel_rfl) (by kernel_rfl) (by show _=_; kernel_rfl) (by exact trivial) a w hm
theorem strings_Split_ok {F:Nat} {a0:List UInt8} {a1:List UInt8} {r:(List (List UInt8))} (h:strings_Split F a0 a1=some r):ACall Tryz.prog 18 [.d (.str a0),.d (.str a1)] [] (.own 9 1 (r.map cS)) []:=by
 rw [strings_Split] at h
 refine ACall.intro (N:=8) Tryz.func18 rfl rfl rfl rfl rfl fun e=>?_
 refine T_reg [] [0,1] [] [] 1 (by kernel_rfl) (trivial) ?_
 obtain ⟨y1,hy1,h⟩:=call_ok h
 refine T_reg [(2,{ res:=.own 9 1 (y1.map cS) })] [4] [(4,.own 9 1 (y1.map cS))] [(2,ACall Tryz.prog 41 [.d (.str a0),.d (.str a1),.d (.v (.int .i64 (0:Int))),.d (.v (.int .i64 (-1:Int)))] [] (.own 9 1 (y1.map cS)) [])] 1 (by kernel_rfl) (strings_genSplit_ok hy1) ?_
 obtain hs:=Option.some.inj h; subst hs
 refine T_ret fun a w hm=>T_return (fr':=[(4,.own 9 1 (y1.map cS))]) [4] (by kernel_rfl) [.keep [4]] (by kernel_rfl) (by kernel_rfl) (by kernel_rfl) (by show _=_; kernel_rfl) (by exact trivial) a w hm
end Go.Vm.ArzN
