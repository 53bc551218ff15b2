import Derived.Test.YtcjnhgcbefkbcaaGreatDoorProg
import Derived.Test.YtcjnhgcbefkbcaaGreatDoorPreF
import Derived.Test.YtcjnhgcbefkbcaaGreatDoorPreB
namespace Go.Vm.PreG
open Go.Proofs
set_option maxRecDepth 20000
variable {gm0:Int}
theorem mixed:Tryz.prog.follows .mixedOrders=true:=by kernel_rfl
theorem law3_rule_ok {F:Nat} {a0:List UInt8} {a1:Int} {a2:Int} {r:S_PrepressRule} (h:law3_rule F a0 a1 a2=some r):ACall Tryz.prog 22 [.d (.str a0),.d (.v (.int .i64 a1)),.d (.v (.int .i64 a2))] [] (.agg (cS_PrepressRule r)) []:=by
  rw [law3_rule] at h
  refine ACall.intro (N:=14) Tryz.func22 rfl rfl rfl rfl rfl fun e=>?_
  refine T_reg [] [0,1,2,6] [(6,.box [.d (.str []),.d (.v (.int .i64 0)),.own 86 2 ([].map cS_PrepressTerm),.d (.v (.int .i64 0)),.d (.v (.int .i64 0)),.own 33 5 ([].map rS_PrepressCond)])] [] 1 (by kernel_rfl) (trivial) ?_
  refine T_reg [(2,{ es:=some (([(S_PrepressTerm.mk (1:Int) a0)]).map cS_PrepressTerm) }),(5,{ frz:=[(9,0)] })] [6] [(6,.box [.d (.str ([97]:List UInt8)),.d (.v (.int .i64 0)),.d (.sl 2 (([(S_PrepressTerm.mk (1:Int) a0)]).map cS_PrepressTerm)),.d (.v (.int .i64 a1)),.d (.v (.int .i64 a2)),.d (.sl 5 ([].map rS_PrepressCond))])] [(2,(([(S_PrepressTerm.mk (1:Int) a0)]).map cS_PrepressTerm)=(([(S_PrepressTerm.mk (1:Int) a0)]).map cS_PrepressTerm))] 5 (by kernel_rfl) (rfl) ?_
  obtain hs:=Option.some.inj h; subst hs
  refine T_ret fun a w hm=>T_returnC (fr':=[(6,.box [.d (.str ([97]:List UInt8)),.d (.v (.int .i64 0)),.d (.sl 2 (([(S_PrepressTerm.mk (1:Int) a0)]).map cS_PrepressTerm)),.d (.v (.int .i64 a1)),.d (.v (.int .i64 a2)),.d (.sl 5 ([].map rS_PrepressCond))])]) (ts:=[14]) (N':=15) (fr2:=[(14,.agg (cS_PrepressRule (S_PrepressRule.mk ([97]:List UInt8) (S_PrepressCond.mk 0 ([(S_PrepressTerm.mk (1:Int) a0)]) a1 a2 []))))]++[(6,.box [.d (.str ([97]:List UInt8)),.d (.v (.int .i64 0)),.d (.sl 2 (([(S_PrepressTerm.mk (1:Int) a0)]).map cS_PrepressTerm)),.d (.v (.int .i64 a1)),.d (.v (.int .i64 a2)),.d (.sl 5 ([].map rS_PrepressCond))])]) [.keep [6]] (by kernel_rfl) (by kernel_rfl) (by kernel_rfl) (by kernel_rfl) (by show _=_; kernel_rfl) (by exact trivial) a w hm
theorem slices_Index_string_ok {F:Nat} {a0:List (List UInt8)} {a1:List UInt8} {r:Int} (h:slices_Index_string F a0 a1=some r):ACall Tryz.prog 80 [.d (.sl 1 (a0.map cS)),.d (.str a1)] [] (.d (.v (.int .i64 r))) []:=by
  rw [slices_Index_string] at h
  refine ACall.intro (N:=19) Tryz.func80 rfl rfl rfl rfl rfl fun e=>?_
  refine T_reg [] [0,1] [] [] 1 (by kernel_rfl) (trivial) ?_
  refine T_seqk ?_
  refine T_reg [(1,{ rw:=some (.d (.v (.int .i64 (a0.length:Int)))) })] [0,1,7,8] [(7,.d (.v (.int .i64 (a0.length:Int)))),(8,.d (.v (.int .i64 (0:Int))))] [(1,True∧AV.d (.v (.int .i64 ((a0.map cS).length:Int)))=.d (.v (.int .i64 (a0.length:Int))))] 1 (by kernel_rfl) (len_ok cS) ?_
  refine T_joinEt h (fun (p:Unit)=>[]) (fun s h hk1=>?_) (fun s h=>?_)
  · refine T_co [.keep [0,1,7,8]] ((fun (p:Int)=>[(0,.d (.sl 1 (a0.map cS))),(1,.d (.str a1)),(7,.d (.v (.int .i64 (a0.length:Int)))),(8,.d (.v (.int .i64 p)))]) (0:Int)) (by show _=_; kernel_rfl) ?_
    refine T_block ?_
    refine T_loopF (ι:=Int) (fun (p:Int)=>[(0,.d (.sl 1 (a0.map cS))),(1,.d (.str a1)),(7,.d (.v (.int .i64 (a0.length:Int)))),(8,.d (.v (.int .i64 p)))]) (fun n p=>slices_Index_string_L0 F a0 a1 n p=some s) (fun i hh=>by simp [slices_Index_string_L0] at hh) (fun n v1 h=>?_) F (0:Int) h
    have h:slices_Index_string_L0 F a0 a1 (n+1) v1=some s:=h
    rw [slices_Index_string_L0] at h
    refine T_reg [] [0,1,7,8,9] [(9,.d (.v (.bool (decide (v1 < (a0.length:Int))))))] [] 1 (by kernel_rfl) (trivial) ?_
    refine T_seqk ?_
    refine T_cond (decide (v1 < (a0.length:Int))) (by kernel_rfl) (fun hc=>?_) (fun hc=>?_)
    · have h:=cond_tt hc h
      refine T_skip fun a w hm=>then_norm (((?_:T Tryz.prog e 19 _ _ _) a w hm))
      refine T_seqk ?_
      refine T_block ?_
      refine T_reg [] [0,1,5,7,8] [(5,.d (.v (.int .i64 v1)))] [] 2 (by kernel_rfl) (trivial) ?_
      obtain ⟨hp1,h⟩:=chk_ok h
      refine T_reg [(3,{ cs:=cS (a0.getD v1.toNat []) })] [0,1,5,7,8,16] [(16,.d (.v (.bool (a1 == (a0.getD v1.toNat [])))))] [(3,0≤v1∧(a0.map cS)[v1.toNat]? = some (cS (a0.getD v1.toNat [])))] 2 (by kernel_rfl) (idx_ok (d:=[]) cS hp1) ?_
      refine T_cond (a1 == (a0.getD v1.toNat [])) (by kernel_rfl) (fun hc=>?_) (fun hc=>?_)
      · have h:=cond_tt hc h
        refine T_reg [] [4] [(4,.d (.v (.int .i64 v1)))] [] 2 (by kernel_rfl) (trivial) ?_
        obtain hs:=Option.some.inj h; subst hs
        have h:=callE_esc hk1
        obtain hs:=Option.some.inj h; subst hs
        refine T_ret fun a w hm=>inBlock_ret (then_ret (then_ret (inBlock_ret (then_ret (then_ret (T_return (fr':=[(4,.d (.v (.int .i64 v1)))]) [4] (by kernel_rfl) [.keep [4]] (by kernel_rfl) (by kernel_rfl) (by kernel_rfl) (by show _=_; kernel_rfl) (by exact trivial) a w hm))))))
      · have h:=cond_ff hc h
        refine T_skip fun a w hm=>inBlock_norm (then_norm (((?_:T Tryz.prog e 19 _ _ _) a w hm)))
        refine T_reg_end [] [0,1,7,8] [(8,.d (.v (.int .i64 (IntKind.i64.wrap (v1+(1:Int))))))] [] 2 (by kernel_rfl) (trivial) fun a w hm=>then_norm (⟨IntKind.i64.wrap (v1+(1:Int)),h,hm.co (cs:=[.keep [0,1,7,8]]) (by show _=_; kernel_rfl)⟩)
    · have h:=cond_ff hc h
      obtain hs:=Option.some.inj h; subst hs
      refine T_exit fun a w hm=>then_exit (then_exit (inBlock_exit (then_norm (⟨_,rfl,hm.co (cs:=[.keep []]) (by show _=_; kernel_rfl)⟩))))
  · skip
    refine fun a w hm=>then_norm (((?_:T Tryz.prog e 19 _ _ _) a w hm))
    refine T_reg [] [4] [(4,.d (.v (.int .i64 (-1:Int))))] [] 1 (by kernel_rfl) (trivial) ?_
    obtain hs:=Option.some.inj h; subst hs
    refine T_ret fun a w hm=>T_return (fr':=[(4,.d (.v (.int .i64 (-1:Int))))]) [4] (by kernel_rfl) [.keep [4]] (by kernel_rfl) (by kernel_rfl) (by kernel_rfl) (by show _=_; kernel_rfl) (by exact trivial) a w hm
theorem slices_Contains_string_ok {F:Nat} {a0:List (List UInt8)} {a1:List UInt8} {r:Bool} (h:slices_Contains_string F a0 a1=some r):ACall Tryz.prog 51 [.d (.sl 1 (a0.map cS)),.d (.str a1)] [] (.d (.v (.bool r))) []:=by
  rw [slices_Contains_string] at h
  refine ACall.intro (N:=9) Tryz.func51 rfl rfl rfl rfl rfl fun e=>?_
  refine T_reg [] [0,1] [] [] 1 (by kernel_rfl) (trivial) ?_
  obtain ⟨y1,hy1,h⟩:=call_ok h
  refine T_reg [(2,{ res:=.d (.v (.int .i64 y1)) })] [4] [(4,.d (.v (.bool (decide (y1 ≥ (0:Int))))))] [(2,ACall Tryz.prog 80 [.d (.sl 1 (a0.map cS)),.d (.str a1)] [] (.d (.v (.int .i64 y1))) [])] 2 (by kernel_rfl) (slices_Index_string_ok hy1) ?_
  obtain hs:=Option.some.inj h; subst hs
  refine T_ret fun a w hm=>T_return (fr':=[(4,.d (.v (.bool (decide (y1 ≥ (0:Int))))))]) [4] (by kernel_rfl) [.keep [4]] (by kernel_rfl) (by kernel_rfl) (by kernel_rfl) (by show _=_; kernel_rfl) (by exact trivial) a w hm
theorem prepress_plain_ok {F:Nat} {a0:List UInt8} {r:Bool} (h:prepress_plain F a0=some r):ACall Tryz.prog 27 [.d (.str a0)] [] (.d (.v (.bool r))) []:=by
  rw [prepress_plain] at h
  refine ACall.intro (N:=51) Tryz.func27 rfl rfl rfl rfl rfl fun e=>?_
  refine T_reg [] [0] [] [] 1 (by kernel_rfl) (trivial) ?_
  refine T_seqk ?_
  refine T_reg [] [0,6,7] [(6,.d (.v (.int .i64 (a0.length:Int)))),(7,.d (.v (.int .i64 (0:Int))))] [] 3 (by kernel_rfl) (trivial) ?_
  refine T_joinEt h (fun (p:Unit)=>[(0,.d (.str a0))]) (fun s h hk1=>?_) (fun s h=>?_)
  · refine T_co [.keep [0,6,7]] ((fun (p:Int)=>[(0,.d (.str a0)),(6,.d (.v (.int .i64 (a0.length:Int)))),(7,.d (.v (.int .i64 p)))]) (0:Int)) (by show _=_; kernel_rfl) ?_
    refine T_block ?_
    refine T_loopF (ι:=Int) (fun (p:Int)=>[(0,.d (.str a0)),(6,.d (.v (.int .i64 (a0.length:Int)))),(7,.d (.v (.int .i64 p)))]) (fun n p=>prepress_plain_L0 F a0 n p=some s) (fun i hh=>by simp [prepress_plain_L0] at hh) (fun n v1 h=>?_) F (0:Int) h
    have h:prepress_plain_L0 F a0 (n+1) v1=some s:=h
    rw [prepress_plain_L0] at h
    refine T_reg [] [0,6,7,8] [(8,.d (.v (.bool (decide (v1 < (a0.length:Int))))))] [] 1 (by kernel_rfl) (trivial) ?_
    refine T_seqk ?_
    refine T_cond (decide (v1 < (a0.length:Int))) (by kernel_rfl) (fun hc=>?_) (fun hc=>?_)
    · have h:=cond_tt hc h
      refine T_skip fun a w hm=>then_norm (((?_:T Tryz.prog e 51 _ _ _) a w hm))
      refine T_seqk ?_
      refine T_block ?_
      refine T_reg [] [0,3,6,7] [(3,.d (.v (.int .i64 v1)))] [] 2 (by kernel_rfl) (trivial) ?_
      obtain ⟨hp1,h⟩:=chk_ok h
      refine T_reg [] [0,3,4,6,7] [(4,.d (.v (.int .u8 ((a0.getD v1.toNat 0).toNat:Int))))] [(2,0≤v1∧v1 < a0.length)] 1 (by kernel_rfl) (hp1) ?_
      obtain ⟨z1,hz1,h⟩:=lett_ok h
      obtain ⟨z2,hz2,h⟩:=lett_ok h
      obtain ⟨z3,hz3,h⟩:=lett_ok h
      refine T_reg [(5,{ rw:=some (.d (.v (.bool z1))) }),(16,{ rw:=some (.d (.v (.bool z2))) }),(22,{ rw:=some (.d (.v (.bool z3))) })] [0,6,7,36] [(36,.d (.v (.bool (bif (!z1) then z3 else false))))] [(3,((((decide ((97:Int)≤((a0.getD v1.toNat 0).toNat:Int))) == true) && true)=true→True)),(0,((((decide ((97:Int)≤((a0.getD v1.toNat 0).toNat:Int))) == true) && true)=true→True)),(0,(True)∧AV.d (.v (.bool (bif (decide ((97:Int)≤((a0.getD v1.toNat 0).toNat:Int))) then (decide (((a0.getD v1.toNat 0).toNat:Int)≤(122:Int))) else false)))=.d (.v (.bool z1))),(2,((((!z1) == true) && true)=true→True)),(0,((((!z1) == true) && true)=true→True)),(0,((((!z1) == true) && true)=true→True)),(0,((((v1 == (0:Int)) == false) && (((!z1) == true) && true))=true→True)),(0,((((v1 == (0:Int)) == false) && (((!z1) == true) && true))=true→True)),(0,((((v1 == (0:Int)) == false) && (((!z1) == true) && true))=true→True)),(0,((((decide ((48:Int)≤((a0.getD v1.toNat 0).toNat:Int))) == true) && (((v1 == (0:Int)) == false) && (((!z1) == true) && true)))=true→True)),(0,((((decide ((48:Int)≤((a0.getD v1.toNat 0).toNat:Int))) == true) && (((v1 == (0:Int)) == false) && (((!z1) == true) && true)))=true→True)),(0,((((v1 == (0:Int)) == false) && (((!z1) == true) && true))=true→(True)∧AV.d (.v (.bool (bif (decide ((48:Int)≤((a0.getD v1.toNat 0).toNat:Int))) then (decide (((a0.getD v1.toNat 0).toNat:Int)≤(57:Int))) else false)))=.d (.v (.bool z2)))),(0,((((v1 == (0:Int)) == false) && (((!z1) == true) && true))=true→True)),(0,((((v1 == (0:Int)) == false) && (((!z1) == true) && true))=true→True)),(0,((((!z2) == true) && (((v1 == (0:Int)) == false) && (((!z1) == true) && true)))=true→True)),(0,((((!z2) == true) && (((v1 == (0:Int)) == false) && (((!z1) == true) && true)))=true→True)),(0,((((v1 == (0:Int)) == false) && (((!z1) == true) && true))=true→True)),(0,((((!z1) == true) && true)=true→(True)∧AV.d (.v (.bool (bif (v1 == (0:Int)) then true else (bif (!z2) then (((a0.getD v1.toNat 0).toNat:Int) != (45:Int)) else false))))=.d (.v (.bool z3))))] 1 (by kernel_rfl) (⟨(fun hg=>trivial),(fun hg=>trivial),⟨trivial,(by subst hz1; rfl)⟩,(fun hg=>trivial),(fun hg=>trivial),(fun hg=>trivial),(fun hg=>trivial),(fun hg=>trivial),(fun hg=>trivial),(fun hg=>trivial),(fun hg=>trivial),(fun hg=>⟨trivial,(by subst hz2; rfl)⟩),(fun hg=>trivial),(fun hg=>trivial),(fun hg=>trivial),(fun hg=>trivial),(fun hg=>trivial),(fun hg=>⟨trivial,(by subst hz3; rfl)⟩)⟩) ?_
      refine T_cond (bif (!z1) then z3 else false) (by kernel_rfl) (fun hc=>?_) (fun hc=>?_)
      · have h:=cond_tt hc h
        refine T_reg [] [2] [(2,.d (.v (.bool false)))] [] 1 (by kernel_rfl) (trivial) ?_
        obtain hs:=Option.some.inj h; subst hs
        have h:=callE_esc hk1
        obtain hs:=Option.some.inj h; subst hs
        refine T_ret fun a w hm=>inBlock_ret (then_ret (then_ret (inBlock_ret (then_ret (then_ret (T_return (fr':=[(2,.d (.v (.bool false)))]) [2] (by kernel_rfl) [.keep [2]] (by kernel_rfl) (by kernel_rfl) (by kernel_rfl) (by show _=_; kernel_rfl) (by exact trivial) a w hm))))))
      · have h:=cond_ff hc h
        refine T_skip fun a w hm=>inBlock_norm (then_norm (((?_:T Tryz.prog e 51 _ _ _) a w hm)))
        refine T_reg_end [] [0,6,7] [(7,.d (.v (.int .i64 (IntKind.i64.wrap (v1+(1:Int))))))] [] 2 (by kernel_rfl) (trivial) fun a w hm=>then_norm (⟨IntKind.i64.wrap (v1+(1:Int)),h,hm.co (cs:=[.keep [0,6,7]]) (by show _=_; kernel_rfl)⟩)
    · have h:=cond_ff hc h
      obtain hs:=Option.some.inj h; subst hs
      refine T_exit fun a w hm=>then_exit (then_exit (inBlock_exit (then_norm (⟨_,rfl,hm.co (cs:=[.keep [0]]) (by show _=_; kernel_rfl)⟩))))
  · skip
    refine fun a w hm=>then_norm (((?_:T Tryz.prog e 51 _ _ _) a w hm))
    obtain ⟨y1,hy1,h⟩:=call_ok h
    obtain ⟨z4,hz4,h⟩:=lett_ok h
    refine T_reg [(8,{ es:=some (([([114,117,108,101]:List UInt8),([110,111,116]:List UInt8),([97,110,100]:List UInt8),([111,114]:List UInt8)]).map cS) }),(10,{ res:=.d (.v (.bool y1)) }),(12,{ rw:=some (.d (.v (.bool z4))) })] [2] [(2,.d (.v (.bool z4)))] [(3,((((!(a0 == [])) == true) && true)=true→True)),(0,((((!(a0 == [])) == true) && true)=true→True)),(0,((((!(a0 == [])) == true) && true)=true→True)),(2,((((bif (!(a0 == [])) then (decide ((a0.length:Int)≤(16:Int))) else false) == true) && true)=true→(([([114,117,108,101]:List UInt8),([110,111,116]:List UInt8),([97,110,100]:List UInt8),([111,114]:List UInt8)]).map cS)=(([([114,117,108,101]:List UInt8),([110,111,116]:List UInt8),([97,110,100]:List UInt8),([111,114]:List UInt8)]).map cS))),(0,((((bif (!(a0 == [])) then (decide ((a0.length:Int)≤(16:Int))) else false) == true) && true)=true→True)),(0,((((bif (!(a0 == [])) then (decide ((a0.length:Int)≤(16:Int))) else false) == true) && true)=true→ACall Tryz.prog 51 [.d (.sl 1 (([([114,117,108,101]:List UInt8),([110,111,116]:List UInt8),([97,110,100]:List UInt8),([111,114]:List UInt8)]).map cS)),.d (.str a0)] [] (.d (.v (.bool y1))) [])),(0,((((bif (!(a0 == [])) then (decide ((a0.length:Int)≤(16:Int))) else false) == true) && true)=true→True)),(0,(True)∧AV.d (.v (.bool (bif (bif (!(a0 == [])) then (decide ((a0.length:Int)≤(16:Int))) else false) then (!y1) else false)))=.d (.v (.bool z4)))] 1 (by kernel_rfl) (⟨(fun hg=>trivial),(fun hg=>trivial),(fun hg=>trivial),(fun hg=>rfl),(fun hg=>trivial),(fun hg=>slices_Contains_string_ok (gcall_ok hg hy1)),(fun hg=>trivial),⟨trivial,(by subst hz4; rfl)⟩⟩) ?_
    obtain hs:=Option.some.inj h; subst hs
    refine T_ret fun a w hm=>T_return (fr':=[(2,.d (.v (.bool z4)))]) [2] (by kernel_rfl) [.keep [2]] (by kernel_rfl) (by kernel_rfl) (by kernel_rfl) (by show _=_; kernel_rfl) (by exact trivial) a w hm
theorem prepress_Check_c1_ok {F:Nat} {a0:S_PrepressRule} {c1:List UInt8} {c2:Int} {c3:List S_PrepressTerm} {c4:Int} {c5:Int} {c6:List S_PrepressCond} {r:Bool×(List UInt8)×Int×(List S_PrepressTerm)×Int×Int×(List S_PrepressCond)} (h:prepress_Check_c1 F a0 c1 c2 c3 c4 c5 c6=some r):ACall Tryz.prog 29 [.agg (cS_PrepressRule a0),.bp 1000000 0] [.box [.d (.str c1),.d (.v (.int .i64 c2)),.d (.sl 2 (c3.map cS_PrepressTerm)),.d (.v (.int .i64 c4)),.d (.v (.int .i64 c5)),.d (.sl 5 (c6.map rS_PrepressCond))]] (.d (.v (.bool r.1))) [.box [.d (.str r.2.1),.d (.v (.int .i64 r.2.2.1)),.d (.sl 2 (r.2.2.2.1.map cS_PrepressTerm)),.d (.v (.int .i64 r.2.2.2.2.1)),.d (.v (.int .i64 r.2.2.2.2.2.1)),.d (.sl 5 (r.2.2.2.2.2.2.map rS_PrepressCond))]]:=by
  rw [prepress_Check_c1] at h
  refine ACall.intro (N:=9) Tryz.func29 rfl rfl rfl rfl rfl fun e=>?_
  refine T_reg [] [1,2,1000000] [(2,.box [.d (.str a0.f0),.d (.v (.int .i64 a0.f1.f0)),.d (.sl 2 (a0.f1.f1.map cS_PrepressTerm)),.d (.v (.int .i64 a0.f1.f2)),.d (.v (.int .i64 a0.f1.f3)),.d (.sl 5 (a0.f1.f4.map rS_PrepressCond))])] [] 2 (by kernel_rfl) (trivial) ?_
  refine T_reg [] [3,1000000] [(3,.d (.v (.bool (a0.f0 == c1))))] [] 6 (by kernel_rfl) (trivial) ?_
  obtain hs:=Option.some.inj h; subst hs
  refine T_ret fun a w hm=>T_return (fr':=[(3,.d (.v (.bool (a0.f0 == c1)))),(1000000,.box [.d (.str c1),.d (.v (.int .i64 c2)),.d (.sl 2 (c3.map cS_PrepressTerm)),.d (.v (.int .i64 c4)),.d (.v (.int .i64 c5)),.d (.sl 5 (c6.map rS_PrepressCond))])]) [3] (by kernel_rfl) [.keep [3,1000000]] (by kernel_rfl) (by kernel_rfl) (by kernel_rfl) (by show _=_; kernel_rfl) (by exact ⟨⟨by kernel_rfl,by kernel_rfl⟩,trivial⟩) a w hm
theorem slices_IndexFunc_PrepressRule_ok {F:Nat} {a0:List S_PrepressRule} {c1:List UInt8} {c2:Int} {c3:List S_PrepressTerm} {c4:Int} {c5:Int} {c6:List S_PrepressCond} {r:Int×(List UInt8)×Int×(List S_PrepressTerm)×Int×Int×(List S_PrepressCond)} (h:slices_IndexFunc_PrepressRule F a0 c1 c2 c3 c4 c5 c6=some r):ACall Tryz.prog 52 [.d (.sl 6 (a0.map cS_PrepressRule)),.clo 29 [.bp 1000000 0]] [.box [.d (.str c1),.d (.v (.int .i64 c2)),.d (.sl 2 (c3.map cS_PrepressTerm)),.d (.v (.int .i64 c4)),.d (.v (.int .i64 c5)),.d (.sl 5 (c6.map rS_PrepressCond))]] (.d (.v (.int .i64 r.1))) [.box [.d (.str r.2.1),.d (.v (.int .i64 r.2.2.1)),.d (.sl 2 (r.2.2.2.1.map cS_PrepressTerm)),.d (.v (.int .i64 r.2.2.2.2.1)),.d (.v (.int .i64 r.2.2.2.2.2.1)),.d (.sl 5 (r.2.2.2.2.2.2.map rS_PrepressCond))]]:=by
  rw [slices_IndexFunc_PrepressRule] at h
  refine ACall.intro (N:=19) Tryz.func52 rfl rfl rfl rfl rfl fun e=>?_
  refine T_reg [] [0,1,1000000] [] [] 1 (by kernel_rfl) (trivial) ?_
  refine T_seqk ?_
  refine T_reg [(1,{ rw:=some (.d (.v (.int .i64 (a0.length:Int)))) })] [0,1,7,8,1000000] [(7,.d (.v (.int .i64 (a0.length:Int)))),(8,.d (.v (.int .i64 (0:Int))))] [(1,True∧AV.d (.v (.int .i64 ((a0.map cS_PrepressRule).length:Int)))=.d (.v (.int .i64 (a0.length:Int))))] 1 (by kernel_rfl) (len_ok cS_PrepressRule) ?_
  refine T_joinEt h (fun (p:(List UInt8)×Int×(List S_PrepressTerm)×Int×Int×(List S_PrepressCond))=>[(1000000,.box [.d (.str p.1),.d (.v (.int .i64 p.2.1)),.d (.sl 2 (p.2.2.1.map cS_PrepressTerm)),.d (.v (.int .i64 p.2.2.2.1)),.d (.v (.int .i64 p.2.2.2.2.1)),.d (.sl 5 (p.2.2.2.2.2.map rS_PrepressCond))])]) (fun s h hk1=>?_) (fun s h=>?_)
  · refine T_co [.keep [0,1,7,8,1000000]] ((fun (p:Int×(List UInt8)×Int×(List S_PrepressTerm)×Int×Int×(List S_PrepressCond))=>[(0,.d (.sl 6 (a0.map cS_PrepressRule))),(1,.clo 29 [.bp 1000000 0]),(7,.d (.v (.int .i64 (a0.length:Int)))),(8,.d (.v (.int .i64 p.1))),(1000000,.box [.d (.str p.2.1),.d (.v (.int .i64 p.2.2.1)),.d (.sl 2 (p.2.2.2.1.map cS_PrepressTerm)),.d (.v (.int .i64 p.2.2.2.2.1)),.d (.v (.int .i64 p.2.2.2.2.2.1)),.d (.sl 5 (p.2.2.2.2.2.2.map rS_PrepressCond))])]) ((0:Int),c1,c2,c3,c4,c5,c6)) (by show _=_; kernel_rfl) ?_
    refine T_block ?_
    refine T_loopF (ι:=Int×(List UInt8)×Int×(List S_PrepressTerm)×Int×Int×(List S_PrepressCond)) (fun (p:Int×(List UInt8)×Int×(List S_PrepressTerm)×Int×Int×(List S_PrepressCond))=>[(0,.d (.sl 6 (a0.map cS_PrepressRule))),(1,.clo 29 [.bp 1000000 0]),(7,.d (.v (.int .i64 (a0.length:Int)))),(8,.d (.v (.int .i64 p.1))),(1000000,.box [.d (.str p.2.1),.d (.v (.int .i64 p.2.2.1)),.d (.sl 2 (p.2.2.2.1.map cS_PrepressTerm)),.d (.v (.int .i64 p.2.2.2.2.1)),.d (.v (.int .i64 p.2.2.2.2.2.1)),.d (.sl 5 (p.2.2.2.2.2.2.map rS_PrepressCond))])]) (fun n p=>slices_IndexFunc_PrepressRule_L0 F a0 n p.1 p.2.1 p.2.2.1 p.2.2.2.1 p.2.2.2.2.1 p.2.2.2.2.2.1 p.2.2.2.2.2.2=some s) (fun i hh=>by simp [slices_IndexFunc_PrepressRule_L0] at hh) (fun n p h=>?_) F ((0:Int),c1,c2,c3,c4,c5,c6) h
    obtain ⟨v1,v2,v3,v4,v5,v6,v7⟩:=p
    have h:slices_IndexFunc_PrepressRule_L0 F a0 (n+1) v1 v2 v3 v4 v5 v6 v7=some s:=h
    rw [slices_IndexFunc_PrepressRule_L0] at h
    refine T_reg [] [0,1,7,8,9,1000000] [(9,.d (.v (.bool (decide (v1 < (a0.length:Int))))))] [] 1 (by kernel_rfl) (trivial) ?_
    refine T_seqk ?_
    refine T_cond (decide (v1 < (a0.length:Int))) (by kernel_rfl) (fun hc=>?_) (fun hc=>?_)
    · have h:=cond_tt hc h
      refine T_skip fun a w hm=>then_norm (((?_:T Tryz.prog e 19 _ _ _) a w hm))
      refine T_seqk ?_
      refine T_block ?_
      refine T_reg [] [0,1,5,7,8,1000000] [(5,.d (.v (.int .i64 v1)))] [] 2 (by kernel_rfl) (trivial) ?_
      obtain ⟨hp1,h⟩:=chk_ok h
      obtain ⟨y1,hy1,h⟩:=call_ok h
      refine T_reg [(3,{ cs:=cS_PrepressRule (a0.getD v1.toNat (S_PrepressRule.mk [] (S_PrepressCond.mk 0 [] 0 0 []))) }),(5,{ res:=.d (.v (.bool y1.1)),vout:=[.box [.d (.str y1.2.1),.d (.v (.int .i64 y1.2.2.1)),.d (.sl 2 (y1.2.2.2.1.map cS_PrepressTerm)),.d (.v (.int .i64 y1.2.2.2.2.1)),.d (.v (.int .i64 y1.2.2.2.2.2.1)),.d (.sl 5 (y1.2.2.2.2.2.2.map rS_PrepressCond))]],xs:=[1000000] })] [0,1,5,7,8,16,1000000] [(16,.d (.v (.bool y1.1))),(1000000,.box [.d (.str y1.2.1),.d (.v (.int .i64 y1.2.2.1)),.d (.sl 2 (y1.2.2.2.1.map cS_PrepressTerm)),.d (.v (.int .i64 y1.2.2.2.2.1)),.d (.v (.int .i64 y1.2.2.2.2.2.1)),.d (.sl 5 (y1.2.2.2.2.2.2.map rS_PrepressCond))])] [(3,0≤v1∧(a0.map cS_PrepressRule)[v1.toNat]? = some (cS_PrepressRule (a0.getD v1.toNat (S_PrepressRule.mk [] (S_PrepressCond.mk 0 [] 0 0 []))))),(1,ACall Tryz.prog 29 [.agg (cS_PrepressRule (a0.getD v1.toNat (S_PrepressRule.mk [] (S_PrepressCond.mk 0 [] 0 0 [])))),.bp 1000000 0] [.box [.d (.str v2),.d (.v (.int .i64 v3)),.d (.sl 2 (v4.map cS_PrepressTerm)),.d (.v (.int .i64 v5)),.d (.v (.int .i64 v6)),.d (.sl 5 (v7.map rS_PrepressCond))]] (.d (.v (.bool y1.1))) [.box [.d (.str y1.2.1),.d (.v (.int .i64 y1.2.2.1)),.d (.sl 2 (y1.2.2.2.1.map cS_PrepressTerm)),.d (.v (.int .i64 y1.2.2.2.2.1)),.d (.v (.int .i64 y1.2.2.2.2.2.1)),.d (.sl 5 (y1.2.2.2.2.2.2.map rS_PrepressCond))]])] 0 (by kernel_rfl) (⟨idx_ok (d:=(S_PrepressRule.mk [] (S_PrepressCond.mk 0 [] 0 0 []))) cS_PrepressRule hp1,prepress_Check_c1_ok hy1⟩) ?_
      refine T_cond y1.1 (by kernel_rfl) (fun hc=>?_) (fun hc=>?_)
      · have h:=cond_tt hc h
        refine T_reg [] [4,1000000] [(4,.d (.v (.int .i64 v1)))] [] 2 (by kernel_rfl) (trivial) ?_
        obtain hs:=Option.some.inj h; subst hs
        have h:=callE_esc hk1
        obtain hs:=Option.some.inj h; subst hs
        refine T_ret fun a w hm=>inBlock_ret (then_ret (then_ret (inBlock_ret (then_ret (then_ret (T_return (fr':=[(4,.d (.v (.int .i64 v1))),(1000000,.box [.d (.str y1.2.1),.d (.v (.int .i64 y1.2.2.1)),.d (.sl 2 (y1.2.2.2.1.map cS_PrepressTerm)),.d (.v (.int .i64 y1.2.2.2.2.1)),.d (.v (.int .i64 y1.2.2.2.2.2.1)),.d (.sl 5 (y1.2.2.2.2.2.2.map rS_PrepressCond))])]) [4] (by kernel_rfl) [.keep [4,1000000]] (by kernel_rfl) (by kernel_rfl) (by kernel_rfl) (by show _=_; kernel_rfl) (by exact ⟨⟨by kernel_rfl,by kernel_rfl⟩,trivial⟩) a w hm))))))
      · have h:=cond_ff hc h
        refine T_skip fun a w hm=>inBlock_norm (then_norm (((?_:T Tryz.prog e 19 _ _ _) a w hm)))
        refine T_reg_end [] [0,1,7,8,1000000] [(8,.d (.v (.int .i64 (IntKind.i64.wrap (v1+(1:Int))))))] [] 2 (by kernel_rfl) (trivial) fun a w hm=>then_norm (⟨(IntKind.i64.wrap (v1+(1:Int)),y1.2.1,y1.2.2.1,y1.2.2.2.1,y1.2.2.2.2.1,y1.2.2.2.2.2.1,y1.2.2.2.2.2.2),h,hm.co (cs:=[.keep [0,1,7,8,1000000]]) (by show _=_; kernel_rfl)⟩)
    · have h:=cond_ff hc h
      obtain hs:=Option.some.inj h; subst hs
      refine T_exit fun a w hm=>then_exit (then_exit (inBlock_exit (then_norm (⟨_,rfl,hm.co (cs:=[.keep [1000000]]) (by show _=_; kernel_rfl)⟩))))
  · obtain ⟨v8,v9,v10,v11,v12,v13⟩:=s
    try dsimp only at h
    refine fun a w hm=>then_norm (((?_:T Tryz.prog e 19 _ _ _) a w hm))
    refine T_reg [] [4,1000000] [(4,.d (.v (.int .i64 (-1:Int))))] [] 1 (by kernel_rfl) (trivial) ?_
    obtain hs:=Option.some.inj h; subst hs
    refine T_ret fun a w hm=>T_return (fr':=[(4,.d (.v (.int .i64 (-1:Int)))),(1000000,.box [.d (.str v8),.d (.v (.int .i64 v9)),.d (.sl 2 (v10.map cS_PrepressTerm)),.d (.v (.int .i64 v11)),.d (.v (.int .i64 v12)),.d (.sl 5 (v13.map rS_PrepressCond))])]) [4] (by kernel_rfl) [.keep [4,1000000]] (by kernel_rfl) (by kernel_rfl) (by kernel_rfl) (by show _=_; kernel_rfl) (by exact ⟨⟨by kernel_rfl,by kernel_rfl⟩,trivial⟩) a w hm
theorem slices_ContainsFunc_PrepressRule_ok {F:Nat} {a0:List S_PrepressRule} {c1:List UInt8} {c2:Int} {c3:List S_PrepressTerm} {c4:Int} {c5:Int} {c6:List S_PrepressCond} {r:Bool×(List UInt8)×Int×(List S_PrepressTerm)×Int×Int×(List S_PrepressCond)} (h:slices_ContainsFunc_PrepressRule F a0 c1 c2 c3 c4 c5 c6=some r):ACall Tryz.prog 28 [.d (.sl 6 (a0.map cS_PrepressRule)),.clo 29 [.bp 1000000 0]] [.box [.d (.str c1),.d (.v (.int .i64 c2)),.d (.sl 2 (c3.map cS_PrepressTerm)),.d (.v (.int .i64 c4)),.d (.v (.int .i64 c5)),.d (.sl 5 (c6.map rS_PrepressCond))]] (.d (.v (.bool r.1))) [.box [.d (.str r.2.1),.d (.v (.int .i64 r.2.2.1)),.d (.sl 2 (r.2.2.2.1.map cS_PrepressTerm)),.d (.v (.int .i64 r.2.2.2.2.1)),.d (.v (.int .i64 r.2.2.2.2.2.1)),.d (.sl 5 (r.2.2.2.2.2.2.map rS_PrepressCond))]]:=by
  rw [slices_ContainsFunc_PrepressRule] at h
  refine ACall.intro (N:=9) Tryz.func28 rfl rfl rfl rfl rfl fun e=>?_
  refine T_reg [] [0,1,1000000] [] [] 1 (by kernel_rfl) (trivial) ?_
  obtain ⟨y1,hy1,h⟩:=call_ok h
  refine T_reg [(2,{ res:=.d (.v (.int .i64 y1.1)),vout:=[.box [.d (.str y1.2.1),.d (.v (.int .i64 y1.2.2.1)),.d (.sl 2 (y1.2.2.2.1.map cS_PrepressTerm)),.d (.v (.int .i64 y1.2.2.2.2.1)),.d (.v (.int .i64 y1.2.2.2.2.2.1)),.d (.sl 5 (y1.2.2.2.2.2.2.map rS_PrepressCond))]],xs:=[1000000] })] [4,1000000] [(4,.d (.v (.bool (decide (y1.1 ≥ (0:Int)))))),(1000000,.box [.d (.str y1.2.1),.d (.v (.int .i64 y1.2.2.1)),.d (.sl 2 (y1.2.2.2.1.map cS_PrepressTerm)),.d (.v (.int .i64 y1.2.2.2.2.1)),.d (.v (.int .i64 y1.2.2.2.2.2.1)),.d (.sl 5 (y1.2.2.2.2.2.2.map rS_PrepressCond))])] [(2,ACall Tryz.prog 52 [.d (.sl 6 (a0.map cS_PrepressRule)),.clo 29 [.bp 1000000 0]] [.box [.d (.str c1),.d (.v (.int .i64 c2)),.d (.sl 2 (c3.map cS_PrepressTerm)),.d (.v (.int .i64 c4)),.d (.v (.int .i64 c5)),.d (.sl 5 (c6.map rS_PrepressCond))]] (.d (.v (.int .i64 y1.1))) [.box [.d (.str y1.2.1),.d (.v (.int .i64 y1.2.2.1)),.d (.sl 2 (y1.2.2.2.1.map cS_PrepressTerm)),.d (.v (.int .i64 y1.2.2.2.2.1)),.d (.v (.int .i64 y1.2.2.2.2.2.1)),.d (.sl 5 (y1.2.2.2.2.2.2.map rS_PrepressCond))]])] 2 (by kernel_rfl) (slices_IndexFunc_PrepressRule_ok hy1) ?_
  obtain hs:=Option.some.inj h; subst hs
  refine T_ret fun a w hm=>T_return (fr':=[(4,.d (.v (.bool (decide (y1.1 ≥ (0:Int)))))),(1000000,.box [.d (.str y1.2.1),.d (.v (.int .i64 y1.2.2.1)),.d (.sl 2 (y1.2.2.2.1.map cS_PrepressTerm)),.d (.v (.int .i64 y1.2.2.2.2.1)),.d (.v (.int .i64 y1.2.2.2.2.2.1)),.d (.sl 5 (y1.2.2.2.2.2.2.map rS_PrepressCond))])]) [4] (by kernel_rfl) [.keep [4,1000000]] (by kernel_rfl) (by kernel_rfl) (by kernel_rfl) (by show _=_; kernel_rfl) (by exact ⟨⟨by kernel_rfl,by kernel_rfl⟩,trivial⟩) a w hm
theorem prepress_compare_c1_ok {F:Nat} {a0:S_PrepressTerm} {c1:Int} {c2:List UInt8} {r:Bool×Int×(List UInt8)} (h:prepress_compare_c1 F a0 c1 c2=some r):ACall Tryz.prog 82 [.agg (cS_PrepressTerm a0),.bp 1000000 0] [.box [.d (.v (.int .i64 c1)),.d (.str c2)]] (.d (.v (.bool r.1))) [.box [.d (.v (.int .i64 r.2.1)),.d (.str r.2.2)]]:=by
  rw [prepress_compare_c1] at h
  refine ACall.intro (N:=9) Tryz.func82 rfl rfl rfl rfl rfl fun e=>?_
  refine T_reg [] [1,2,1000000] [(2,.box [.d (.v (.int .i64 a0.f0)),.d (.str a0.f1)])] [] 2 (by kernel_rfl) (trivial) ?_
  refine T_reg [] [3,1000000] [(3,.d (.v (.bool (a0.f1 == c2))))] [] 6 (by kernel_rfl) (trivial) ?_
  obtain hs:=Option.some.inj h; subst hs
  refine T_ret fun a w hm=>T_return (fr':=[(3,.d (.v (.bool (a0.f1 == c2)))),(1000000,.box [.d (.v (.int .i64 c1)),.d (.str c2)])]) [3] (by kernel_rfl) [.keep [3,1000000]] (by kernel_rfl) (by kernel_rfl) (by kernel_rfl) (by show _=_; kernel_rfl) (by exact ⟨⟨by kernel_rfl,by kernel_rfl⟩,trivial⟩) a w hm
theorem slices_IndexFunc_PrepressTerm_ok {F:Nat} {a0:List S_PrepressTerm} {c1:Int} {c2:List UInt8} {r:Int×Int×(List UInt8)} (h:slices_IndexFunc_PrepressTerm F a0 c1 c2=some r):ACall Tryz.prog 100 [.d (.sl 2 (a0.map cS_PrepressTerm)),.clo 82 [.bp 1000000 0]] [.box [.d (.v (.int .i64 c1)),.d (.str c2)]] (.d (.v (.int .i64 r.1))) [.box [.d (.v (.int .i64 r.2.1)),.d (.str r.2.2)]]:=by
  rw [slices_IndexFunc_PrepressTerm] at h
  refine ACall.intro (N:=19) Tryz.func100 rfl rfl rfl rfl rfl fun e=>?_
  refine T_reg [] [0,1,1000000] [] [] 1 (by kernel_rfl) (trivial) ?_
  refine T_seqk ?_
  refine T_reg [(1,{ rw:=some (.d (.v (.int .i64 (a0.length:Int)))) })] [0,1,7,8,1000000] [(7,.d (.v (.int .i64 (a0.length:Int)))),(8,.d (.v (.int .i64 (0:Int))))] [(1,True∧AV.d (.v (.int .i64 ((a0.map cS_PrepressTerm).length:Int)))=.d (.v (.int .i64 (a0.length:Int))))] 1 (by kernel_rfl) (len_ok cS_PrepressTerm) ?_
  refine T_joinEt h (fun (p:Int×(List UInt8))=>[(1000000,.box [.d (.v (.int .i64 p.1)),.d (.str p.2)])]) (fun s h hk1=>?_) (fun s h=>?_)
  · refine T_co [.keep [0,1,7,8,1000000]] ((fun (p:Int×Int×(List UInt8))=>[(0,.d (.sl 2 (a0.map cS_PrepressTerm))),(1,.clo 82 [.bp 1000000 0]),(7,.d (.v (.int .i64 (a0.length:Int)))),(8,.d (.v (.int .i64 p.1))),(1000000,.box [.d (.v (.int .i64 p.2.1)),.d (.str p.2.2)])]) ((0:Int),c1,c2)) (by show _=_; kernel_rfl) ?_
    refine T_block ?_
    refine T_loopF (ι:=Int×Int×(List UInt8)) (fun (p:Int×Int×(List UInt8))=>[(0,.d (.sl 2 (a0.map cS_PrepressTerm))),(1,.clo 82 [.bp 1000000 0]),(7,.d (.v (.int .i64 (a0.length:Int)))),(8,.d (.v (.int .i64 p.1))),(1000000,.box [.d (.v (.int .i64 p.2.1)),.d (.str p.2.2)])]) (fun n p=>slices_IndexFunc_PrepressTerm_L0 F a0 n p.1 p.2.1 p.2.2=some s) (fun i hh=>by simp [slices_IndexFunc_PrepressTerm_L0] at hh) (fun n p h=>?_) F ((0:Int),c1,c2) h
    obtain ⟨v1,v2,v3⟩:=p
    have h:slices_IndexFunc_PrepressTerm_L0 F a0 (n+1) v1 v2 v3=some s:=h
    rw [slices_IndexFunc_PrepressTerm_L0] at h
    refine T_reg [] [0,1,7,8,9,1000000] [(9,.d (.v (.bool (decide (v1 < (a0.length:Int))))))] [] 1 (by kernel_rfl) (trivial) ?_
    refine T_seqk ?_
    refine T_cond (decide (v1 < (a0.length:Int))) (by kernel_rfl) (fun hc=>?_) (fun hc=>?_)
    · have h:=cond_tt hc h
      refine T_skip fun a w hm=>then_norm (((?_:T Tryz.prog e 19 _ _ _) a w hm))
      refine T_seqk ?_
      refine T_block ?_
      refine T_reg [] [0,1,5,7,8,1000000] [(5,.d (.v (.int .i64 v1)))] [] 2 (by kernel_rfl) (trivial) ?_
      obtain ⟨hp1,h⟩:=chk_ok h
      obtain ⟨y1,hy1,h⟩:=call_ok h
      refine T_reg [(3,{ cs:=cS_PrepressTerm (a0.getD v1.toNat (S_PrepressTerm.mk 0 [])) }),(5,{ res:=.d (.v (.bool y1.1)),vout:=[.box [.d (.v (.int .i64 y1.2.1)),.d (.str y1.2.2)]],xs:=[1000000] })] [0,1,5,7,8,16,1000000] [(16,.d (.v (.bool y1.1))),(1000000,.box [.d (.v (.int .i64 y1.2.1)),.d (.str y1.2.2)])] [(3,0≤v1∧(a0.map cS_PrepressTerm)[v1.toNat]? = some (cS_PrepressTerm (a0.getD v1.toNat (S_PrepressTerm.mk 0 [])))),(1,ACall Tryz.prog 82 [.agg (cS_PrepressTerm (a0.getD v1.toNat (S_PrepressTerm.mk 0 []))),.bp 1000000 0] [.box [.d (.v (.int .i64 v2)),.d (.str v3)]] (.d (.v (.bool y1.1))) [.box [.d (.v (.int .i64 y1.2.1)),.d (.str y1.2.2)]])] 0 (by kernel_rfl) (⟨idx_ok (d:=(S_PrepressTerm.mk 0 [])) cS_PrepressTerm hp1,prepress_compare_c1_ok hy1⟩) ?_
      refine T_cond y1.1 (by kernel_rfl) (fun hc=>?_) (fun hc=>?_)
      · have h:=cond_tt hc h
        refine T_reg [] [4,1000000] [(4,.d (.v (.int .i64 v1)))] [] 2 (by kernel_rfl) (trivial) ?_
        obtain hs:=Option.some.inj h; subst hs
        have h:=callE_esc hk1
        obtain hs:=Option.some.inj h; subst hs
        refine T_ret fun a w hm=>inBlock_ret (then_ret (then_ret (inBlock_ret (then_ret (then_ret (T_return (fr':=[(4,.d (.v (.int .i64 v1))),(1000000,.box [.d (.v (.int .i64 y1.2.1)),.d (.str y1.2.2)])]) [4] (by kernel_rfl) [.keep [4,1000000]] (by kernel_rfl) (by kernel_rfl) (by kernel_rfl) (by show _=_; kernel_rfl) (by exact ⟨⟨by kernel_rfl,by kernel_rfl⟩,trivial⟩) a w hm))))))
      · have h:=cond_ff hc h
        refine T_skip fun a w hm=>inBlock_norm (then_norm (((?_:T Tryz.prog e 19 _ _ _) a w hm)))
        refine T_reg_end [] [0,1,7,8,1000000] [(8,.d (.v (.int .i64 (IntKind.i64.wrap (v1+(1:Int))))))] [] 2 (by kernel_rfl) (trivial) fun a w hm=>then_norm (⟨(IntKind.i64.wrap (v1+(1:Int)),y1.2.1,y1.2.2),h,hm.co (cs:=[.keep [0,1,7,8,1000000]]) (by show _=_; kernel_rfl)⟩)
    · have h:=cond_ff hc h
      obtain hs:=Option.some.inj h; subst hs
      refine T_exit fun a w hm=>then_exit (then_exit (inBlock_exit (then_norm (⟨_,rfl,hm.co (cs:=[.keep [1000000]]) (by show _=_; kernel_rfl)⟩))))
  · obtain ⟨v4,v5⟩:=s
    try dsimp only at h
    refine fun a w hm=>then_norm (((?_:T Tryz.prog e 19 _ _ _) a w hm))
    refine T_reg [] [4,1000000] [(4,.d (.v (.int .i64 (-1:Int))))] [] 1 (by kernel_rfl) (trivial) ?_
    obtain hs:=Option.some.inj h; subst hs
    refine T_ret fun a w hm=>T_return (fr':=[(4,.d (.v (.int .i64 (-1:Int)))),(1000000,.box [.d (.v (.int .i64 v4)),.d (.str v5)])]) [4] (by kernel_rfl) [.keep [4,1000000]] (by kernel_rfl) (by kernel_rfl) (by kernel_rfl) (by show _=_; kernel_rfl) (by exact ⟨⟨by kernel_rfl,by kernel_rfl⟩,trivial⟩) a w hm
theorem slices_ContainsFunc_PrepressTerm_ok {F:Nat} {a0:List S_PrepressTerm} {c1:Int} {c2:List UInt8} {r:Bool×Int×(List UInt8)} (h:slices_ContainsFunc_PrepressTerm F a0 c1 c2=some r):ACall Tryz.prog 81 [.d (.sl 2 (a0.map cS_PrepressTerm)),.clo 82 [.bp 1000000 0]] [.box [.d (.v (.int .i64 c1)),.d (.str c2)]] (.d (.v (.bool r.1))) [.box [.d (.v (.int .i64 r.2.1)),.d (.str r.2.2)]]:=by
  rw [slices_ContainsFunc_PrepressTerm] at h
  refine ACall.intro (N:=9) Tryz.func81 rfl rfl rfl rfl rfl fun e=>?_
  refine T_reg [] [0,1,1000000] [] [] 1 (by kernel_rfl) (trivial) ?_
  obtain ⟨y1,hy1,h⟩:=call_ok h
  refine T_reg [(2,{ res:=.d (.v (.int .i64 y1.1)),vout:=[.box [.d (.v (.int .i64 y1.2.1)),.d (.str y1.2.2)]],xs:=[1000000] })] [4,1000000] [(4,.d (.v (.bool (decide (y1.1 ≥ (0:Int)))))),(1000000,.box [.d (.v (.int .i64 y1.2.1)),.d (.str y1.2.2)])] [(2,ACall Tryz.prog 100 [.d (.sl 2 (a0.map cS_PrepressTerm)),.clo 82 [.bp 1000000 0]] [.box [.d (.v (.int .i64 c1)),.d (.str c2)]] (.d (.v (.int .i64 y1.1))) [.box [.d (.v (.int .i64 y1.2.1)),.d (.str y1.2.2)]])] 2 (by kernel_rfl) (slices_IndexFunc_PrepressTerm_ok hy1) ?_
  obtain hs:=Option.some.inj h; subst hs
  refine T_ret fun a w hm=>T_return (fr':=[(4,.d (.v (.bool (decide (y1.1 ≥ (0:Int)))))),(1000000,.box [.d (.v (.int .i64 y1.2.1)),.d (.str y1.2.2)])]) [4] (by kernel_rfl) [.keep [4,1000000]] (by kernel_rfl) (by kernel_rfl) (by kernel_rfl) (by show _=_; kernel_rfl) (by exact ⟨⟨by kernel_rfl,by kernel_rfl⟩,trivial⟩) a w hm
theorem prepress_compare_ok {F:Nat} {a0:S_PrepressCond} {r:Int} (h:prepress_compare F a0=some r):ACall Tryz.prog 53 [.agg (cS_PrepressCond a0)] [] (.d (.v (.int .i64 r))) []:=by
  rw [prepress_compare] at h
  refine ACall.intro (N:=73) Tryz.func53 rfl rfl rfl rfl rfl fun e=>?_
  refine T_reg [] [1] [(1,.box [.d (.v (.int .i64 a0.f0)),.d (.sl 2 (a0.f1.map cS_PrepressTerm)),.d (.v (.int .i64 a0.f2)),.d (.v (.int .i64 a0.f3)),.d (.sl 5 (a0.f4.map rS_PrepressCond))])] [] 2 (by kernel_rfl) (trivial) ?_
  refine T_seqk ?_
  refine T_block ?_
  refine T_reg [(2,{ rw:=some (.d (.v (.int .i64 (a0.f4.length:Int)))) })] [1,5] [(5,.d (.v (.bool (decide ((a0.f4.length:Int) > (0:Int))))))] [(2,True∧AV.d (.v (.int .i64 ((a0.f4.map rS_PrepressCond).length:Int)))=.d (.v (.int .i64 (a0.f4.length:Int))))] 2 (by kernel_rfl) (len_ok rS_PrepressCond) ?_
  refine T_cond (decide ((a0.f4.length:Int) > (0:Int))) (by kernel_rfl) (fun hc=>?_) (fun hc=>?_)
  · have h:=cond_tt hc h
    refine T_reg [] [2] [(2,.d (.v (.int .i64 (4:Int))))] [] 1 (by kernel_rfl) (trivial) ?_
    obtain hs:=Option.some.inj h; subst hs
    refine T_ret fun a w hm=>inBlock_ret (then_ret (T_return (fr':=[(2,.d (.v (.int .i64 (4:Int))))]) [2] (by kernel_rfl) [.keep [2]] (by kernel_rfl) (by kernel_rfl) (by kernel_rfl) (by show _=_; kernel_rfl) (by exact trivial) a w hm))
  · have h:=cond_ff hc h
    refine T_reg [(2,{ rw:=some (.d (.v (.int .i64 (a0.f1.length:Int)))) })] [1,10] [(10,.d (.v (.bool ((a0.f1.length:Int) == (0:Int)))))] [(2,True∧AV.d (.v (.int .i64 ((a0.f1.map cS_PrepressTerm).length:Int)))=.d (.v (.int .i64 (a0.f1.length:Int))))] 2 (by kernel_rfl) (len_ok cS_PrepressTerm) ?_
    refine T_cond ((a0.f1.length:Int) == (0:Int)) (by kernel_rfl) (fun hc=>?_) (fun hc=>?_)
    · have h:=cond_tt hc h
      refine T_reg [] [2] [(2,.d (.v (.int .i64 (8:Int))))] [] 1 (by kernel_rfl) (trivial) ?_
      obtain hs:=Option.some.inj h; subst hs
      refine T_ret fun a w hm=>inBlock_ret (then_ret (T_return (fr':=[(2,.d (.v (.int .i64 (8:Int))))]) [2] (by kernel_rfl) [.keep [2]] (by kernel_rfl) (by kernel_rfl) (by kernel_rfl) (by show _=_; kernel_rfl) (by exact trivial) a w hm))
    · have h:=cond_ff hc h
      refine T_reg [(2,{ rw:=some (.d (.v (.int .i64 (a0.f1.length:Int)))) })] [1,15] [(15,.d (.v (.bool (decide ((a0.f1.length:Int) > (8:Int))))))] [(2,True∧AV.d (.v (.int .i64 ((a0.f1.map cS_PrepressTerm).length:Int)))=.d (.v (.int .i64 (a0.f1.length:Int))))] 2 (by kernel_rfl) (len_ok cS_PrepressTerm) ?_
      refine T_cond (decide ((a0.f1.length:Int) > (8:Int))) (by kernel_rfl) (fun hc=>?_) (fun hc=>?_)
      · have h:=cond_tt hc h
        refine T_reg [] [2] [(2,.d (.v (.int .i64 (2:Int))))] [] 1 (by kernel_rfl) (trivial) ?_
        obtain hs:=Option.some.inj h; subst hs
        refine T_ret fun a w hm=>inBlock_ret (then_ret (T_return (fr':=[(2,.d (.v (.int .i64 (2:Int))))]) [2] (by kernel_rfl) [.keep [2]] (by kernel_rfl) (by kernel_rfl) (by kernel_rfl) (by show _=_; kernel_rfl) (by exact trivial) a w hm))
      · have h:=cond_ff hc h
        refine T_reg [] [1,20] [(20,.d (.v (.bool (bif (decide (a0.f2 < (0:Int))) then true else (decide (a0.f2 > (5:Int)))))))] [(4,((((decide (a0.f2 < (0:Int))) == false) && true)=true→True)),(0,((((decide (a0.f2 < (0:Int))) == false) && true)=true→True)),(0,((((decide (a0.f2 < (0:Int))) == false) && true)=true→True))] 2 (by kernel_rfl) (⟨(fun hg=>trivial),(fun hg=>trivial),(fun hg=>trivial)⟩) ?_
        refine T_cond (bif (decide (a0.f2 < (0:Int))) then true else (decide (a0.f2 > (5:Int)))) (by kernel_rfl) (fun hc=>?_) (fun hc=>?_)
        · have h:=cond_tt hc h
          refine T_reg [] [2] [(2,.d (.v (.int .i64 (14:Int))))] [] 1 (by kernel_rfl) (trivial) ?_
          obtain hs:=Option.some.inj h; subst hs
          refine T_ret fun a w hm=>inBlock_ret (then_ret (T_return (fr':=[(2,.d (.v (.int .i64 (14:Int))))]) [2] (by kernel_rfl) [.keep [2]] (by kernel_rfl) (by kernel_rfl) (by kernel_rfl) (by show _=_; kernel_rfl) (by exact trivial) a w hm))
        · have h:=cond_ff hc h
          refine T_reg [] [1,29] [(29,.d (.v (.bool (bif (decide (a0.f3 < (-2147483648:Int))) then true else (decide (a0.f3 > (2147483648:Int)))))))] [(4,((((decide (a0.f3 < (-2147483648:Int))) == false) && true)=true→True)),(0,((((decide (a0.f3 < (-2147483648:Int))) == false) && true)=true→True)),(0,((((decide (a0.f3 < (-2147483648:Int))) == false) && true)=true→True))] 2 (by kernel_rfl) (⟨(fun hg=>trivial),(fun hg=>trivial),(fun hg=>trivial)⟩) ?_
          refine T_cond (bif (decide (a0.f3 < (-2147483648:Int))) then true else (decide (a0.f3 > (2147483648:Int)))) (by kernel_rfl) (fun hc=>?_) (fun hc=>?_)
          · have h:=cond_tt hc h
            refine T_reg [] [2] [(2,.d (.v (.int .i64 (3:Int))))] [] 1 (by kernel_rfl) (trivial) ?_
            obtain hs:=Option.some.inj h; subst hs
            refine T_ret fun a w hm=>inBlock_ret (then_ret (T_return (fr':=[(2,.d (.v (.int .i64 (3:Int))))]) [2] (by kernel_rfl) [.keep [2]] (by kernel_rfl) (by kernel_rfl) (by kernel_rfl) (by show _=_; kernel_rfl) (by exact trivial) a w hm))
          · have h:=cond_ff hc h
            refine T_skip fun a w hm=>inBlock_norm (then_norm (((?_:T Tryz.prog e 73 _ _ _) a w hm)))
            refine T_seqk ?_
            refine T_reg [(2,{ rw:=some (.d (.v (.int .i64 (a0.f1.length:Int)))) })] [1,39,40,41] [(39,.d (.sl 2 (a0.f1.map cS_PrepressTerm))),(40,.d (.v (.int .i64 (a0.f1.length:Int)))),(41,.d (.v (.int .i64 (0:Int))))] [(2,True∧AV.d (.v (.int .i64 ((a0.f1.map cS_PrepressTerm).length:Int)))=.d (.v (.int .i64 (a0.f1.length:Int))))] 1 (by kernel_rfl) (len_ok cS_PrepressTerm) ?_
            refine T_joinEt h (fun (p:Unit)=>[]) (fun s h hk1=>?_) (fun s h=>?_)
            · refine T_co [.keep [1,39,40,41]] ((fun (p:Int)=>[(1,.box [.d (.v (.int .i64 a0.f0)),.d (.sl 2 (a0.f1.map cS_PrepressTerm)),.d (.v (.int .i64 a0.f2)),.d (.v (.int .i64 a0.f3)),.d (.sl 5 (a0.f4.map rS_PrepressCond))]),(39,.d (.sl 2 (a0.f1.map cS_PrepressTerm))),(40,.d (.v (.int .i64 (a0.f1.length:Int)))),(41,.d (.v (.int .i64 p)))]) (0:Int)) (by show _=_; kernel_rfl) ?_
              refine T_block ?_
              refine T_loopF (ι:=Int) (fun (p:Int)=>[(1,.box [.d (.v (.int .i64 a0.f0)),.d (.sl 2 (a0.f1.map cS_PrepressTerm)),.d (.v (.int .i64 a0.f2)),.d (.v (.int .i64 a0.f3)),.d (.sl 5 (a0.f4.map rS_PrepressCond))]),(39,.d (.sl 2 (a0.f1.map cS_PrepressTerm))),(40,.d (.v (.int .i64 (a0.f1.length:Int)))),(41,.d (.v (.int .i64 p)))]) (fun n p=>prepress_compare_L1 F a0 n p=some s) (fun i hh=>by simp [prepress_compare_L1] at hh) (fun n v1 h=>?_) F (0:Int) h
              have h:prepress_compare_L1 F a0 (n+1) v1=some s:=h
              rw [prepress_compare_L1] at h
              refine T_reg [] [1,39,40,41,42] [(42,.d (.v (.bool (decide (v1 < (a0.f1.length:Int))))))] [] 1 (by kernel_rfl) (trivial) ?_
              refine T_seqk ?_
              refine T_cond (decide (v1 < (a0.f1.length:Int))) (by kernel_rfl) (fun hc=>?_) (fun hc=>?_)
              · have h:=cond_tt hc h
                refine T_skip fun a w hm=>then_norm (((?_:T Tryz.prog e 73 _ _ _) a w hm))
                refine T_seqk ?_
                refine T_block ?_
                obtain ⟨hp1,h⟩:=chk_ok h
                refine T_reg [(1,{ cs:=cS_PrepressTerm (a0.f1.getD v1.toNat (S_PrepressTerm.mk 0 [])) })] [1,3,4,39,40,41] [(3,.d (.v (.int .i64 v1))),(4,.box [.d (.v (.int .i64 ((a0.f1.getD v1.toNat (S_PrepressTerm.mk 0 [])).f0))),.d (.str ((a0.f1.getD v1.toNat (S_PrepressTerm.mk 0 [])).f1))])] [(1,0≤v1∧(a0.f1.map cS_PrepressTerm)[v1.toNat]? = some (cS_PrepressTerm (a0.f1.getD v1.toNat (S_PrepressTerm.mk 0 []))))] 4 (by kernel_rfl) (idx_ok (d:=(S_PrepressTerm.mk 0 [])) cS_PrepressTerm hp1) ?_
                refine T_block ?_
                obtain ⟨z1,hz1,h⟩:=lett_ok h
                obtain ⟨z2,hz2,h⟩:=lett_ok h
                refine T_reg [(7,{ rw:=some (.d (.v (.bool z1))) }),(12,{ rw:=some (.d (.v (.bool z2))) })] [1,3,4,39,40,41,46] [(46,.d (.v (.bool z2)))] [(4,((((((a0.f1.getD v1.toNat (S_PrepressTerm.mk 0 [])).f0) == (0:Int)) == false) && true)=true→True)),(0,((((((a0.f1.getD v1.toNat (S_PrepressTerm.mk 0 [])).f0) == (0:Int)) == false) && true)=true→True)),(0,((((((a0.f1.getD v1.toNat (S_PrepressTerm.mk 0 [])).f0) == (0:Int)) == false) && true)=true→True)),(0,(True)∧AV.d (.v (.bool (bif (((a0.f1.getD v1.toNat (S_PrepressTerm.mk 0 [])).f0) == (0:Int)) then true else (decide (((a0.f1.getD v1.toNat (S_PrepressTerm.mk 0 [])).f0) < (-1000:Int))))))=.d (.v (.bool z1))),(1,(((z1 == false) && true)=true→True)),(0,(((z1 == false) && true)=true→True)),(0,(((z1 == false) && true)=true→True)),(0,(True)∧AV.d (.v (.bool (bif z1 then true else (decide (((a0.f1.getD v1.toNat (S_PrepressTerm.mk 0 [])).f0) > (1000:Int))))))=.d (.v (.bool z2)))] 1 (by kernel_rfl) (⟨(fun hg=>trivial),(fun hg=>trivial),(fun hg=>trivial),⟨trivial,(by subst hz1; rfl)⟩,(fun hg=>trivial),(fun hg=>trivial),(fun hg=>trivial),⟨trivial,(by subst hz2; rfl)⟩⟩) ?_
                refine T_cond z2 (by kernel_rfl) (fun hc=>?_) (fun hc=>?_)
                · have h:=cond_tt hc h
                  refine T_reg [] [2] [(2,.d (.v (.int .i64 (3:Int))))] [] 1 (by kernel_rfl) (trivial) ?_
                  obtain hs:=Option.some.inj h; subst hs
                  have h:=callE_esc hk1
                  obtain hs:=Option.some.inj h; subst hs
                  refine T_ret fun a w hm=>inBlock_ret (inBlock_ret (then_ret (then_ret (inBlock_ret (then_ret (then_ret (T_return (fr':=[(2,.d (.v (.int .i64 (3:Int))))]) [2] (by kernel_rfl) [.keep [2]] (by kernel_rfl) (by kernel_rfl) (by kernel_rfl) (by show _=_; kernel_rfl) (by exact trivial) a w hm)))))))
                · have h:=cond_ff hc h
                  obtain ⟨y1,hy1,h⟩:=call_ok h
                  refine T_reg [(2,{ res:=.d (.v (.bool y1)) })] [1,3,4,39,40,41,60] [(60,.d (.v (.bool (!y1))))] [(2,ACall Tryz.prog 27 [.d (.str ((a0.f1.getD v1.toNat (S_PrepressTerm.mk 0 [])).f1))] [] (.d (.v (.bool y1))) [])] 2 (by kernel_rfl) (prepress_plain_ok hy1) ?_
                  refine T_cond (!y1) (by kernel_rfl) (fun hc=>?_) (fun hc=>?_)
                  · have h:=cond_tt hc h
                    refine T_reg [] [2] [(2,.d (.v (.int .i64 (6:Int))))] [] 1 (by kernel_rfl) (trivial) ?_
                    obtain hs:=Option.some.inj h; subst hs
                    have h:=callE_esc hk1
                    obtain hs:=Option.some.inj h; subst hs
                    refine T_ret fun a w hm=>inBlock_ret (inBlock_ret (then_ret (then_ret (inBlock_ret (then_ret (then_ret (T_return (fr':=[(2,.d (.v (.int .i64 (6:Int))))]) [2] (by kernel_rfl) [.keep [2]] (by kernel_rfl) (by kernel_rfl) (by kernel_rfl) (by show _=_; kernel_rfl) (by exact trivial) a w hm)))))))
                  · have h:=cond_ff hc h
                    obtain ⟨hp2,h⟩:=chk_ok h
                    obtain ⟨y2,hy2,h⟩:=call_ok h
                    refine T_reg [(3,{ rw:=some (.d (.sl 2 (((a0.f1.drop (0:Int).toNat).take (v1.toNat - (0:Int).toNat)).map cS_PrepressTerm))) }),(5,{ res:=.d (.v (.bool y2.1)),vout:=[.box [.d (.v (.int .i64 y2.2.1)),.d (.str y2.2.2)]],xs:=[4] })] [1,39,40,41,65] [(65,.d (.v (.bool y2.1)))] [(3,(0≤(0:Int)∧(0:Int)≤v1∧v1≤((a0.f1.map cS_PrepressTerm).length:Int))∧AV.d (.sl 2 (((a0.f1.map cS_PrepressTerm).drop (0:Int).toNat).take (v1.toNat - (0:Int).toNat)))=.d (.sl 2 (((a0.f1.drop (0:Int).toNat).take (v1.toNat - (0:Int).toNat)).map cS_PrepressTerm))),(1,ACall Tryz.prog 81 [.d (.sl 2 (((a0.f1.drop (0:Int).toNat).take (v1.toNat - (0:Int).toNat)).map cS_PrepressTerm)),.clo 82 [.bp 1000000 0]] [.box [.d (.v (.int .i64 ((a0.f1.getD v1.toNat (S_PrepressTerm.mk 0 [])).f0))),.d (.str ((a0.f1.getD v1.toNat (S_PrepressTerm.mk 0 [])).f1))]] (.d (.v (.bool y2.1))) [.box [.d (.v (.int .i64 y2.2.1)),.d (.str y2.2.2)]])] 1 (by kernel_rfl) (⟨cutH cS_PrepressTerm hp2,slices_ContainsFunc_PrepressTerm_ok hy2⟩) ?_
                    refine T_cond y2.1 (by kernel_rfl) (fun hc=>?_) (fun hc=>?_)
                    · have h:=cond_tt hc h
                      refine T_reg [] [2] [(2,.d (.v (.int .i64 (7:Int))))] [] 1 (by kernel_rfl) (trivial) ?_
                      obtain hs:=Option.some.inj h; subst hs
                      have h:=callE_esc hk1
                      obtain hs:=Option.some.inj h; subst hs
                      refine T_ret fun a w hm=>inBlock_ret (inBlock_ret (then_ret (then_ret (inBlock_ret (then_ret (then_ret (T_return (fr':=[(2,.d (.v (.int .i64 (7:Int))))]) [2] (by kernel_rfl) [.keep [2]] (by kernel_rfl) (by kernel_rfl) (by kernel_rfl) (by show _=_; kernel_rfl) (by exact trivial) a w hm)))))))
                    · have h:=cond_ff hc h
                      refine T_skip fun a w hm=>inBlock_norm (inBlock_norm (then_norm (((?_:T Tryz.prog e 73 _ _ _) a w hm))))
                      refine T_reg_end [] [1,39,40,41] [(41,.d (.v (.int .i64 (IntKind.i64.wrap (v1+(1:Int))))))] [] 2 (by kernel_rfl) (trivial) fun a w hm=>then_norm (⟨IntKind.i64.wrap (v1+(1:Int)),h,hm.co (cs:=[.keep [1,39,40,41]]) (by show _=_; kernel_rfl)⟩)
              · have h:=cond_ff hc h
                obtain hs:=Option.some.inj h; subst hs
                refine T_exit fun a w hm=>then_exit (then_exit (inBlock_exit (then_norm (⟨_,rfl,hm.co (cs:=[.keep []]) (by show _=_; kernel_rfl)⟩))))
            · skip
              refine fun a w hm=>then_norm (((?_:T Tryz.prog e 73 _ _ _) a w hm))
              refine T_reg [] [2] [(2,.d (.v (.int .i64 (0:Int))))] [] 1 (by kernel_rfl) (trivial) ?_
              obtain hs:=Option.some.inj h; subst hs
              refine T_ret fun a w hm=>T_return (fr':=[(2,.d (.v (.int .i64 (0:Int))))]) [2] (by kernel_rfl) [.keep [2]] (by kernel_rfl) (by kernel_rfl) (by kernel_rfl) (by show _=_; kernel_rfl) (by exact trivial) a w hm
theorem prepress_checker_cond_body_ok {F:Nat} {rec_prepress_checker_cond:S_PrepressCond→Int→Int→Option (Int×Int)} (hrec_prepress_checker_cond:∀ {a0:S_PrepressCond},∀ {a1:Int},∀ {c2:Int},∀ {r:Int×Int},rec_prepress_checker_cond a0 a1 c2=some r→ACall Tryz.prog 30 [.bp 1000000 0,.agg (cS_PrepressCond a0),.d (.v (.int .i64 a1))] [.box [.d (.v (.int .i64 c2))]] (.d (.v (.int .i64 r.1))) [.box [.d (.v (.int .i64 r.2))]]) {a0:S_PrepressCond} {a1:Int} {c2:Int} {r:Int×Int} (h:prepress_checker_cond_body F rec_prepress_checker_cond a0 a1 c2=some r):ACall Tryz.prog 30 [.bp 1000000 0,.agg (cS_PrepressCond a0),.d (.v (.int .i64 a1))] [.box [.d (.v (.int .i64 c2))]] (.d (.v (.int .i64 r.1))) [.box [.d (.v (.int .i64 r.2))]]:=by
  rw [prepress_checker_cond_body] at h
  refine ACall.intro (N:=83) Tryz.func30 rfl rfl rfl rfl rfl fun e=>?_
  refine T_reg [] [0,2,4,1000000] [(4,.box [.d (.v (.int .i64 a0.f0)),.d (.sl 2 (a0.f1.map cS_PrepressTerm)),.d (.v (.int .i64 a0.f2)),.d (.v (.int .i64 a0.f3)),.d (.sl 5 (a0.f4.map rS_PrepressCond))])] [] 2 (by kernel_rfl) (trivial) ?_
  refine T_seqk ?_
  refine T_reg [] [0,2,4,1000000] [(1000000,.box [.d (.v (.int .i64 (IntKind.i64.wrap (c2+(1:Int)))))])] [] 8 (by kernel_rfl) (trivial) ?_
  refine T_reg [] [0,2,4,24,1000000] [(24,.d (.v (.bool (decide ((IntKind.i64.wrap (c2+(1:Int))) > (256:Int))))))] [] 5 (by kernel_rfl) (trivial) ?_
  refine T_cond (decide ((IntKind.i64.wrap (c2+(1:Int))) > (256:Int))) (by kernel_rfl) (fun hc=>?_) (fun hc=>?_)
  · have h:=cond_tt hc h
    refine T_reg [] [6,1000000] [(6,.d (.v (.int .i64 (2:Int))))] [] 1 (by kernel_rfl) (trivial) ?_
    obtain hs:=Option.some.inj h; subst hs
    refine T_ret fun a w hm=>then_ret (T_return (fr':=[(6,.d (.v (.int .i64 (2:Int)))),(1000000,.box [.d (.v (.int .i64 (IntKind.i64.wrap (c2+(1:Int)))))])]) [6] (by kernel_rfl) [.keep [6,1000000]] (by kernel_rfl) (by kernel_rfl) (by kernel_rfl) (by show _=_; kernel_rfl) (by exact ⟨⟨by kernel_rfl,by kernel_rfl⟩,trivial⟩) a w hm)
  · have h:=cond_ff hc h
    refine T_skip fun a w hm=>then_norm (((?_:T Tryz.prog e 83 _ _ _) a w hm))
    refine T_seqk ?_
    refine T_reg [] [0,2,4,26,1000000] [(26,.d (.v (.bool (decide (a1 > (12:Int))))))] [] 2 (by kernel_rfl) (trivial) ?_
    refine T_cond (decide (a1 > (12:Int))) (by kernel_rfl) (fun hc=>?_) (fun hc=>?_)
    · have h:=cond_tt hc h
      refine T_reg [] [6,1000000] [(6,.d (.v (.int .i64 (15:Int))))] [] 1 (by kernel_rfl) (trivial) ?_
      obtain hs:=Option.some.inj h; subst hs
      refine T_ret fun a w hm=>then_ret (T_return (fr':=[(6,.d (.v (.int .i64 (15:Int)))),(1000000,.box [.d (.v (.int .i64 (IntKind.i64.wrap (c2+(1:Int)))))])]) [6] (by kernel_rfl) [.keep [6,1000000]] (by kernel_rfl) (by kernel_rfl) (by kernel_rfl) (by show _=_; kernel_rfl) (by exact ⟨⟨by kernel_rfl,by kernel_rfl⟩,trivial⟩) a w hm)
    · have h:=cond_ff hc h
      refine T_skip fun a w hm=>then_norm (((?_:T Tryz.prog e 83 _ _ _) a w hm))
      refine T_reg [] [0,2,4,7,27,1000000] [(7,.vw (27,0)),(27,.mp .i64 .i64 [((1:Int),(1:Int)),((2:Int),(2:Int)),((3:Int),(2:Int))])] [] 6 (by kernel_rfl) (trivial) ?_
      refine T_seqk ?_
      refine T_reg [] [0,2,4,8,9,1000000] [(8,.d (.v (.int .i64 ((mpGet [((1:Int),(1:Int)),((2:Int),(2:Int)),((3:Int),(2:Int))] a0.f0).getD 0)))),(9,.d (.v (.bool ((mpGet [((1:Int),(1:Int)),((2:Int),(2:Int)),((3:Int),(2:Int))] a0.f0).isSome))))] [] 9 (by kernel_rfl) (trivial) ?_
      refine T_block ?_
      refine T_reg [] [0,2,4,8,9,36,1000000] [(36,.d (.v (.bool (a0.f0 == (0:Int)))))] [] 4 (by kernel_rfl) (trivial) ?_
      refine T_cond (a0.f0 == (0:Int)) (by kernel_rfl) (fun hc=>?_) (fun hc=>?_)
      · have h:=cond_tt hc h
        obtain ⟨y2,hy1,h⟩:=call_ok h
        refine T_reg [(1,{ res:=.d (.v (.int .i64 y2)) })] [6,1000000] [(6,.d (.v (.int .i64 y2)))] [(1,ACall Tryz.prog 53 [.agg (cS_PrepressCond a0)] [] (.d (.v (.int .i64 y2))) [])] 1 (by kernel_rfl) (prepress_compare_ok hy1) ?_
        obtain hs:=Option.some.inj h; subst hs
        refine T_ret fun a w hm=>inBlock_ret (then_ret (T_return (fr':=[(6,.d (.v (.int .i64 y2))),(1000000,.box [.d (.v (.int .i64 (IntKind.i64.wrap (c2+(1:Int)))))])]) [6] (by kernel_rfl) [.keep [6,1000000]] (by kernel_rfl) (by kernel_rfl) (by kernel_rfl) (by show _=_; kernel_rfl) (by exact ⟨⟨by kernel_rfl,by kernel_rfl⟩,trivial⟩) a w hm))
      · have h:=cond_ff hc h
        refine T_reg [] [0,2,4,8,42,1000000] [(42,.d (.v (.bool (!((mpGet [((1:Int),(1:Int)),((2:Int),(2:Int)),((3:Int),(2:Int))] a0.f0).isSome)))))] [] 3 (by kernel_rfl) (trivial) ?_
        refine T_cond (!((mpGet [((1:Int),(1:Int)),((2:Int),(2:Int)),((3:Int),(2:Int))] a0.f0).isSome)) (by kernel_rfl) (fun hc=>?_) (fun hc=>?_)
        · have h:=cond_tt hc h
          refine T_reg [] [6,1000000] [(6,.d (.v (.int .i64 (14:Int))))] [] 1 (by kernel_rfl) (trivial) ?_
          obtain hs:=Option.some.inj h; subst hs
          refine T_ret fun a w hm=>inBlock_ret (then_ret (T_return (fr':=[(6,.d (.v (.int .i64 (14:Int)))),(1000000,.box [.d (.v (.int .i64 (IntKind.i64.wrap (c2+(1:Int)))))])]) [6] (by kernel_rfl) [.keep [6,1000000]] (by kernel_rfl) (by kernel_rfl) (by kernel_rfl) (by show _=_; kernel_rfl) (by exact ⟨⟨by kernel_rfl,by kernel_rfl⟩,trivial⟩) a w hm))
        · have h:=cond_ff hc h
          obtain ⟨z1,hz1,h⟩:=lett_ok h
          obtain ⟨z2,hz2,h⟩:=lett_ok h
          refine T_reg [(2,{ rw:=some (.d (.v (.int .i64 (a0.f1.length:Int)))) }),(13,{ rw:=some (.d (.v (.bool z1))) }),(17,{ rw:=some (.d (.v (.int .i64 (a0.f4.length:Int)))) }),(19,{ rw:=some (.d (.v (.bool z2))) })] [0,2,4,45,1000000] [(45,.d (.v (.bool (bif z1 then true else z2))))] [(2,True∧AV.d (.v (.int .i64 ((a0.f1.map cS_PrepressTerm).length:Int)))=.d (.v (.int .i64 (a0.f1.length:Int)))),(2,((((decide ((a0.f1.length:Int) > (0:Int))) == false) && true)=true→True)),(0,((((decide ((a0.f1.length:Int) > (0:Int))) == false) && true)=true→True)),(0,((((decide ((a0.f1.length:Int) > (0:Int))) == false) && true)=true→True)),(2,((((bif (decide ((a0.f1.length:Int) > (0:Int))) then true else (a0.f2 != (0:Int))) == false) && true)=true→True)),(0,((((bif (decide ((a0.f1.length:Int) > (0:Int))) then true else (a0.f2 != (0:Int))) == false) && true)=true→True)),(0,((((bif (decide ((a0.f1.length:Int) > (0:Int))) then true else (a0.f2 != (0:Int))) == false) && true)=true→True)),(0,(True)∧AV.d (.v (.bool (bif (bif (decide ((a0.f1.length:Int) > (0:Int))) then true else (a0.f2 != (0:Int))) then true else (a0.f3 != (0:Int)))))=.d (.v (.bool z1))),(1,(((z1 == false) && true)=true→True)),(0,(((z1 == false) && true)=true→True)),(0,(((z1 == false) && true)=true→True∧AV.d (.v (.int .i64 ((a0.f4.map rS_PrepressCond).length:Int)))=.d (.v (.int .i64 (a0.f4.length:Int))))),(0,(((z1 == false) && true)=true→True)),(0,(((z1 == false) && true)=true→(True)∧AV.d (.v (.bool ((a0.f4.length:Int) != ((mpGet [((1:Int),(1:Int)),((2:Int),(2:Int)),((3:Int),(2:Int))] a0.f0).getD 0))))=.d (.v (.bool z2))))] 2 (by kernel_rfl) (⟨len_ok cS_PrepressTerm,(fun hg=>trivial),(fun hg=>trivial),(fun hg=>trivial),(fun hg=>trivial),(fun hg=>trivial),(fun hg=>trivial),⟨trivial,(by subst hz1; rfl)⟩,(fun hg=>trivial),(fun hg=>trivial),(fun hg=>len_ok rS_PrepressCond),(fun hg=>trivial),(fun hg=>⟨trivial,(by subst hz2; rfl)⟩)⟩) ?_
          refine T_cond (bif z1 then true else z2) (by kernel_rfl) (fun hc=>?_) (fun hc=>?_)
          · have h:=cond_tt hc h
            refine T_reg [] [6,1000000] [(6,.d (.v (.int .i64 (4:Int))))] [] 1 (by kernel_rfl) (trivial) ?_
            obtain hs:=Option.some.inj h; subst hs
            refine T_ret fun a w hm=>inBlock_ret (then_ret (T_return (fr':=[(6,.d (.v (.int .i64 (4:Int)))),(1000000,.box [.d (.v (.int .i64 (IntKind.i64.wrap (c2+(1:Int)))))])]) [6] (by kernel_rfl) [.keep [6,1000000]] (by kernel_rfl) (by kernel_rfl) (by kernel_rfl) (by show _=_; kernel_rfl) (by exact ⟨⟨by kernel_rfl,by kernel_rfl⟩,trivial⟩) a w hm))
          · have h:=cond_ff hc h
            refine T_skip fun a w hm=>inBlock_norm (then_norm (((?_:T Tryz.prog e 83 _ _ _) a w hm)))
            refine T_seqk ?_
            refine T_reg [(2,{ rw:=some (.d (.v (.int .i64 (a0.f4.length:Int)))) })] [0,2,68,69,70,1000000] [(68,.d (.sl 5 (a0.f4.map rS_PrepressCond))),(69,.d (.v (.int .i64 (a0.f4.length:Int)))),(70,.d (.v (.int .i64 (0:Int))))] [(2,True∧AV.d (.v (.int .i64 ((a0.f4.map rS_PrepressCond).length:Int)))=.d (.v (.int .i64 (a0.f4.length:Int))))] 1 (by kernel_rfl) (len_ok rS_PrepressCond) ?_
            refine T_joinEt h (fun (p:Int)=>[(1000000,.box [.d (.v (.int .i64 p))])]) (fun s h hk1=>?_) (fun v3 h=>?_)
            · refine T_co [.keep [0,2,68,69,70,1000000]] ((fun (p:Int×Int)=>[(0,.bp 1000000 0),(2,.d (.v (.int .i64 a1))),(68,.d (.sl 5 (a0.f4.map rS_PrepressCond))),(69,.d (.v (.int .i64 (a0.f4.length:Int)))),(70,.d (.v (.int .i64 p.1))),(1000000,.box [.d (.v (.int .i64 p.2))])]) ((0:Int),IntKind.i64.wrap (c2+(1:Int)))) (by show _=_; kernel_rfl) ?_
              refine T_block ?_
              refine T_loopF (ι:=Int×Int) (fun (p:Int×Int)=>[(0,.bp 1000000 0),(2,.d (.v (.int .i64 a1))),(68,.d (.sl 5 (a0.f4.map rS_PrepressCond))),(69,.d (.v (.int .i64 (a0.f4.length:Int)))),(70,.d (.v (.int .i64 p.1))),(1000000,.box [.d (.v (.int .i64 p.2))])]) (fun n p=>prepress_checker_cond_L1 F a0 a1 rec_prepress_checker_cond n p.1 p.2=some s) (fun i hh=>by simp [prepress_checker_cond_L1] at hh) (fun n p h=>?_) F ((0:Int),IntKind.i64.wrap (c2+(1:Int))) h
              obtain ⟨v1,v2⟩:=p
              have h:prepress_checker_cond_L1 F a0 a1 rec_prepress_checker_cond (n+1) v1 v2=some s:=h
              rw [prepress_checker_cond_L1] at h
              refine T_reg [] [0,2,68,69,70,71,1000000] [(71,.d (.v (.bool (decide (v1 < (a0.f4.length:Int))))))] [] 1 (by kernel_rfl) (trivial) ?_
              refine T_seqk ?_
              refine T_cond (decide (v1 < (a0.f4.length:Int))) (by kernel_rfl) (fun hc=>?_) (fun hc=>?_)
              · have h:=cond_tt hc h
                refine T_skip fun a w hm=>then_norm (((?_:T Tryz.prog e 83 _ _ _) a w hm))
                refine T_seqk ?_
                refine T_block ?_
                obtain ⟨hp1,h⟩:=chk_ok h
                refine T_reg [(0,{ cs:=cS_PrepressCond (a0.f4.getD v1.toNat (S_PrepressCond.mk 0 [] 0 0 [])) })] [0,2,11,68,69,70,1000000] [(11,.box [.d (.v (.int .i64 ((a0.f4.getD v1.toNat (S_PrepressCond.mk 0 [] 0 0 [])).f0))),.d (.sl 2 (((a0.f4.getD v1.toNat (S_PrepressCond.mk 0 [] 0 0 [])).f1).map cS_PrepressTerm)),.d (.v (.int .i64 ((a0.f4.getD v1.toNat (S_PrepressCond.mk 0 [] 0 0 [])).f2))),.d (.v (.int .i64 ((a0.f4.getD v1.toNat (S_PrepressCond.mk 0 [] 0 0 [])).f3))),.d (.sl 5 (((a0.f4.getD v1.toNat (S_PrepressCond.mk 0 [] 0 0 [])).f4).map rS_PrepressCond))])] [(0,0≤v1∧(a0.f4.map rS_PrepressCond)[v1.toNat]? = some (cS_PrepressCond (a0.f4.getD v1.toNat (S_PrepressCond.mk 0 [] 0 0 []))))] 3 (by kernel_rfl) (idx_okR (d:=(S_PrepressCond.mk 0 [] 0 0 [])) rS_PrepressCond_eq hp1) ?_
                obtain ⟨y1,hy2,h⟩:=call_ok h
                refine T_reg [(4,{ res:=.d (.v (.int .i64 y1.1)),vout:=[.box [.d (.v (.int .i64 y1.2))]],xs:=[1000000] })] [0,2,12,68,69,70,1000000] [(12,.d (.v (.int .i64 y1.1))),(1000000,.box [.d (.v (.int .i64 y1.2))])] [(4,ACall Tryz.prog 30 [.bp 1000000 0,.agg (cS_PrepressCond (a0.f4.getD v1.toNat (S_PrepressCond.mk 0 [] 0 0 []))),.d (.v (.int .i64 (IntKind.i64.wrap (a1+(1:Int)))))] [.box [.d (.v (.int .i64 v2))]] (.d (.v (.int .i64 y1.1))) [.box [.d (.v (.int .i64 y1.2))]])] 1 (by kernel_rfl) (hrec_prepress_checker_cond hy2) ?_
                refine T_reg [] [0,2,12,68,69,70,80,1000000] [(80,.d (.v (.bool (y1.1 != (0:Int)))))] [] 2 (by kernel_rfl) (trivial) ?_
                refine T_cond (y1.1 != (0:Int)) (by kernel_rfl) (fun hc=>?_) (fun hc=>?_)
                · have h:=cond_tt hc h
                  refine T_reg [] [6,1000000] [(6,.d (.v (.int .i64 y1.1)))] [] 2 (by kernel_rfl) (trivial) ?_
                  obtain hs:=Option.some.inj h; subst hs
                  have h:=callE_esc hk1
                  obtain hs:=Option.some.inj h; subst hs
                  refine T_ret fun a w hm=>inBlock_ret (then_ret (then_ret (inBlock_ret (then_ret (then_ret (T_return (fr':=[(6,.d (.v (.int .i64 y1.1))),(1000000,.box [.d (.v (.int .i64 y1.2))])]) [6] (by kernel_rfl) [.keep [6,1000000]] (by kernel_rfl) (by kernel_rfl) (by kernel_rfl) (by show _=_; kernel_rfl) (by exact ⟨⟨by kernel_rfl,by kernel_rfl⟩,trivial⟩) a w hm))))))
                · have h:=cond_ff hc h
                  refine T_skip fun a w hm=>inBlock_norm (then_norm (((?_:T Tryz.prog e 83 _ _ _) a w hm)))
                  refine T_reg_end [] [0,2,68,69,70,1000000] [(70,.d (.v (.int .i64 (IntKind.i64.wrap (v1+(1:Int))))))] [] 2 (by kernel_rfl) (trivial) fun a w hm=>then_norm (⟨(IntKind.i64.wrap (v1+(1:Int)),y1.2),h,hm.co (cs:=[.keep [0,2,68,69,70,1000000]]) (by show _=_; kernel_rfl)⟩)
              · have h:=cond_ff hc h
                obtain hs:=Option.some.inj h; subst hs
                refine T_exit fun a w hm=>then_exit (then_exit (inBlock_exit (then_norm (⟨_,rfl,hm.co (cs:=[.keep [1000000]]) (by show _=_; kernel_rfl)⟩))))
            · skip
              refine fun a w hm=>then_norm (((?_:T Tryz.prog e 83 _ _ _) a w hm))
              refine T_reg [] [6,1000000] [(6,.d (.v (.int .i64 (0:Int))))] [] 1 (by kernel_rfl) (trivial) ?_
              obtain hs:=Option.some.inj h; subst hs
              refine T_ret fun a w hm=>T_return (fr':=[(6,.d (.v (.int .i64 (0:Int)))),(1000000,.box [.d (.v (.int .i64 v3))])]) [6] (by kernel_rfl) [.keep [6,1000000]] (by kernel_rfl) (by kernel_rfl) (by kernel_rfl) (by show _=_; kernel_rfl) (by exact ⟨⟨by kernel_rfl,by kernel_rfl⟩,trivial⟩) a w hm
theorem prepress_checker_cond_fuel_ok {F:Nat} (n:Nat):∀ {a0:S_PrepressCond} {a1:Int} {c2:Int} {r:Int×Int},prepress_checker_cond_fuel F n a0 a1 c2=some r→ACall Tryz.prog 30 [.bp 1000000 0,.agg (cS_PrepressCond a0),.d (.v (.int .i64 a1))] [.box [.d (.v (.int .i64 c2))]] (.d (.v (.int .i64 r.1))) [.box [.d (.v (.int .i64 r.2))]]:=by
  induction n with
  | zero=>intro a0 a1 c2 r h; exact absurd (show (none:Option (Int×Int))=some r from h) (by simp)
  | succ n ih=>intro a0 a1 c2 r h; exact prepress_checker_cond_body_ok ih h
theorem prepress_checker_cond_ok {F:Nat} {a0:S_PrepressCond} {a1:Int} {c2:Int} {r:Int×Int} (h:prepress_checker_cond F a0 a1 c2=some r):ACall Tryz.prog 30 [.bp 1000000 0,.agg (cS_PrepressCond a0),.d (.v (.int .i64 a1))] [.box [.d (.v (.int .i64 c2))]] (.d (.v (.int .i64 r.1))) [.box [.d (.v (.int .i64 r.2))]]:=prepress_checker_cond_fuel_ok F h
theorem prepress_comparisons_ok {F:Nat}  {r:(List (List UInt8))} (h:prepress_comparisons F  = some r):ACall Tryz.prog 77 [] [] (.own 9 1 (r.map cS)) []:=by
  rw [prepress_comparisons] at h
  refine ACall.intro (N:=2) Tryz.func77 rfl rfl rfl rfl rfl fun e=>?_
  refine T_reg [] [] [] [] 1 (by kernel_rfl) (trivial) ?_
  refine T_reg [(0,{ es:=some (([([60]:List UInt8),([60,61]:List UInt8),([61]:List UInt8),([33,61]:List UInt8),([62,61]:List UInt8),([62]:List UInt8)]).map cS) })] [0] [(0,.own 9 1 (([([60]:List UInt8),([60,61]:List UInt8),([61]:List UInt8),([33,61]:List UInt8),([62,61]:List UInt8),([62]:List UInt8)]).map cS))] [(0,(([([60]:List UInt8),([60,61]:List UInt8),([61]:List UInt8),([33,61]:List UInt8),([62,61]:List UInt8),([62]:List UInt8)]).map cS)=(([([60]:List UInt8),([60,61]:List UInt8),([61]:List UInt8),([33,61]:List UInt8),([62,61]:List UInt8),([62]:List UInt8)]).map cS))] 1 (by kernel_rfl) (rfl) ?_
  obtain hs:=Option.some.inj h; subst hs
  refine T_ret fun a w hm=>T_return (fr':=[(0,.own 9 1 (([([60]:List UInt8),([60,61]:List UInt8),([61]:List UInt8),([33,61]:List UInt8),([62,61]:List UInt8),([62]:List UInt8)]).map cS))]) [0] (by kernel_rfl) [.keep [0]] (by kernel_rfl) (by kernel_rfl) (by kernel_rfl) (by show _=_; kernel_rfl) (by exact trivial) a w hm
theorem prepress_level_ok {F:Nat} {a0:Int} {r:Int} (h:prepress_level F a0=some r):ACall Tryz.prog 78 [.d (.v (.int .i64 a0))] [] (.d (.v (.int .i64 r))) []:=by
  rw [prepress_level] at h
  refine ACall.intro (N:=7) Tryz.func78 rfl rfl rfl rfl rfl fun e=>?_
  refine T_reg [] [0] [] [] 1 (by kernel_rfl) (trivial) ?_
  obtain ⟨hp1,h⟩:=chk_ok h
  refine T_reg [(0,{ es:=some (([(3:Int),(3:Int),(2:Int),(1:Int)]).map (cI .i64)) }),(3,{ cs:=(cI .i64) (([(3:Int),(3:Int),(2:Int),(1:Int)]).getD a0.toNat 0) })] [2] [(2,.d (.v (.int .i64 (([(3:Int),(3:Int),(2:Int),(1:Int)]).getD a0.toNat 0))))] [(0,(([(3:Int),(3:Int),(2:Int),(1:Int)]).map (cI .i64))=(([(3:Int),(3:Int),(2:Int),(1:Int)]).map (cI .i64))),(1,0≤a0∧a0 < (([(3:Int),(3:Int),(2:Int),(1:Int)]).map (cI .i64)).length),(0,(([(3:Int),(3:Int),(2:Int),(1:Int)]).map (cI .i64))[a0.toNat]? = some ((cI .i64) (([(3:Int),(3:Int),(2:Int),(1:Int)]).getD a0.toNat 0)))] 1 (by kernel_rfl) (⟨rfl,own_idx (cI .i64) hp1,(idx_ok (d:=0) (cI .i64) hp1).2⟩) ?_
  obtain hs:=Option.some.inj h; subst hs
  refine T_ret fun a w hm=>T_return (fr':=[(2,.d (.v (.int .i64 (([(3:Int),(3:Int),(2:Int),(1:Int)]).getD a0.toNat 0))))]) [2] (by kernel_rfl) [.keep [2]] (by kernel_rfl) (by kernel_rfl) (by kernel_rfl) (by show _=_; kernel_rfl) (by exact trivial) a w hm
theorem prepress_show_body_ok {F:Nat} {rec_prepress_show:S_PrepressCond→Int→Option ((List UInt8))} (hrec_prepress_show:∀ {a0:S_PrepressCond},∀ {a1:Int},∀ {r:(List UInt8)},rec_prepress_show a0 a1=some r→ACall Tryz.prog 47 [.agg (cS_PrepressCond a0),.d (.v (.int .i64 a1))] [.glo 0 ([gm0].flatMap (cI .i64)),.glo 3 (glob_internal_strconv_uint64pow10.flatMap (cI .u64))] (.d (.str r)) [.glo 0 ([gm0].flatMap (cI .i64)),.glo 3 (glob_internal_strconv_uint64pow10.flatMap (cI .u64))]) {a0:S_PrepressCond} {a1:Int} {r:(List UInt8)} (h:prepress_show_body F rec_prepress_show a0 a1=some r):ACall Tryz.prog 47 [.agg (cS_PrepressCond a0),.d (.v (.int .i64 a1))] [.glo 0 ([gm0].flatMap (cI .i64)),.glo 3 (glob_internal_strconv_uint64pow10.flatMap (cI .u64))] (.d (.str r)) [.glo 0 ([gm0].flatMap (cI .i64)),.glo 3 (glob_internal_strconv_uint64pow10.flatMap (cI .u64))]:=by
  rw [prepress_show_body] at h
  refine ACall.intro (N:=105) Tryz.func47 rfl rfl rfl rfl rfl fun e=>?_
  refine T_reg [] [1,2,1000000,1000001] [(2,.box [.d (.v (.int .i64 a0.f0)),.d (.sl 2 (a0.f1.map cS_PrepressTerm)),.d (.v (.int .i64 a0.f2)),.d (.v (.int .i64 a0.f3)),.d (.sl 5 (a0.f4.map rS_PrepressCond))])] [] 2 (by kernel_rfl) (trivial) ?_
  refine T_reg [] [1,2,5,1000000,1000001] [(5,.d (.str []))] [] 1 (by kernel_rfl) (trivial) ?_
  refine T_joinc h (fun (p:(List UInt8))=>[(1,.d (.v (.int .i64 a1))),(2,.box [.d (.v (.int .i64 a0.f0)),.d (.sl 2 (a0.f1.map cS_PrepressTerm)),.d (.v (.int .i64 a0.f2)),.d (.v (.int .i64 a0.f3)),.d (.sl 5 (a0.f4.map rS_PrepressCond))]),(5,.d (.str p)),(1000000,.glo 0 ([gm0].flatMap (cI .i64))),(1000001,.glo 3 (glob_internal_strconv_uint64pow10.flatMap (cI .u64)))]) (fun s h=>?_) (fun v8 h=>?_)
  · refine T_reg [] [1,2,5,11,1000000,1000001] [(11,.d (.v (.int .i64 a0.f0)))] [] 2 (by kernel_rfl) (trivial) ?_
    refine T_block ?_
    refine T_reg [] [1,2,5,11,24,1000000,1000001] [(24,.d (.v (.bool (a0.f0 == (0:Int)))))] [] 2 (by kernel_rfl) (trivial) ?_
    refine T_cond (a0.f0 == (0:Int)) (by kernel_rfl) (fun hc=>?_) (fun hc=>?_)
    · have h:=cond_tt hc h
      refine T_seqk ?_
      refine T_reg [(2,{ rw:=some (.d (.v (.int .i64 (a0.f1.length:Int)))) })] [1,2,5,27,28,29,1000000,1000001] [(27,.d (.sl 2 (a0.f1.map cS_PrepressTerm))),(28,.d (.v (.int .i64 (a0.f1.length:Int)))),(29,.d (.v (.int .i64 (0:Int))))] [(2,True∧AV.d (.v (.int .i64 ((a0.f1.map cS_PrepressTerm).length:Int)))=.d (.v (.int .i64 (a0.f1.length:Int))))] 1 (by kernel_rfl) (len_ok cS_PrepressTerm) ?_
      refine T_joinct h (fun (p:(List UInt8))=>[(1,.d (.v (.int .i64 a1))),(2,.box [.d (.v (.int .i64 a0.f0)),.d (.sl 2 (a0.f1.map cS_PrepressTerm)),.d (.v (.int .i64 a0.f2)),.d (.v (.int .i64 a0.f3)),.d (.sl 5 (a0.f4.map rS_PrepressCond))]),(5,.d (.str p)),(1000000,.glo 0 ([gm0].flatMap (cI .i64))),(1000001,.glo 3 (glob_internal_strconv_uint64pow10.flatMap (cI .u64)))]) (fun s h=>?_) (fun v7 h=>?_)
      · refine T_co [.keep [1,2,5,27,28,29,1000000,1000001]] ((fun (p:(List UInt8)×Int)=>[(1,.d (.v (.int .i64 a1))),(2,.box [.d (.v (.int .i64 a0.f0)),.d (.sl 2 (a0.f1.map cS_PrepressTerm)),.d (.v (.int .i64 a0.f2)),.d (.v (.int .i64 a0.f3)),.d (.sl 5 (a0.f4.map rS_PrepressCond))]),(5,.d (.str p.1)),(27,.d (.sl 2 (a0.f1.map cS_PrepressTerm))),(28,.d (.v (.int .i64 (a0.f1.length:Int)))),(29,.d (.v (.int .i64 p.2))),(1000000,.glo 0 ([gm0].flatMap (cI .i64))),(1000001,.glo 3 (glob_internal_strconv_uint64pow10.flatMap (cI .u64)))]) ([],(0:Int))) (by show _=_; kernel_rfl) ?_
        refine T_block ?_
        refine T_loopF (ι:=(List UInt8)×Int) (fun (p:(List UInt8)×Int)=>[(1,.d (.v (.int .i64 a1))),(2,.box [.d (.v (.int .i64 a0.f0)),.d (.sl 2 (a0.f1.map cS_PrepressTerm)),.d (.v (.int .i64 a0.f2)),.d (.v (.int .i64 a0.f3)),.d (.sl 5 (a0.f4.map rS_PrepressCond))]),(5,.d (.str p.1)),(27,.d (.sl 2 (a0.f1.map cS_PrepressTerm))),(28,.d (.v (.int .i64 (a0.f1.length:Int)))),(29,.d (.v (.int .i64 p.2))),(1000000,.glo 0 ([gm0].flatMap (cI .i64))),(1000001,.glo 3 (glob_internal_strconv_uint64pow10.flatMap (cI .u64)))]) (fun n p=>prepress_show_L1 F a0 n p.1 p.2=some s) (fun i hh=>by simp [prepress_show_L1] at hh) (fun n p h=>?_) F ([],(0:Int)) h
        obtain ⟨v1,v2⟩:=p
        have h:prepress_show_L1 F a0 (n+1) v1 v2=some s:=h
        rw [prepress_show_L1] at h
        refine T_reg [] [1,2,5,27,28,29,30,1000000,1000001] [(30,.d (.v (.bool (decide (v2 < (a0.f1.length:Int))))))] [] 1 (by kernel_rfl) (trivial) ?_
        refine T_seqk ?_
        refine T_cond (decide (v2 < (a0.f1.length:Int))) (by kernel_rfl) (fun hc=>?_) (fun hc=>?_)
        · have h:=cond_tt hc h
          refine T_skip fun a w hm=>then_norm (((?_:T Tryz.prog e 105 _ _ _) a w hm))
          refine T_seqk ?_
          refine T_block ?_
          obtain ⟨hp1,h⟩:=chk_ok h
          refine T_reg [(1,{ cs:=cS_PrepressTerm (a0.f1.getD v2.toNat (S_PrepressTerm.mk 0 [])) })] [1,2,5,6,7,27,28,29,1000000,1000001] [(6,.d (.v (.int .i64 v2))),(7,.box [.d (.v (.int .i64 ((a0.f1.getD v2.toNat (S_PrepressTerm.mk 0 [])).f0))),.d (.str ((a0.f1.getD v2.toNat (S_PrepressTerm.mk 0 [])).f1))])] [(1,0≤v2∧(a0.f1.map cS_PrepressTerm)[v2.toNat]? = some (cS_PrepressTerm (a0.f1.getD v2.toNat (S_PrepressTerm.mk 0 []))))] 4 (by kernel_rfl) (idx_ok (d:=(S_PrepressTerm.mk 0 [])) cS_PrepressTerm hp1) ?_
          refine T_draw mixed [] [1,2,5,6,7,8,9,27,28,29,1000000,1000001] [] [(1,.d (.v (.int .i64 a1))),(2,.box [.d (.v (.int .i64 a0.f0)),.d (.sl 2 (a0.f1.map cS_PrepressTerm)),.d (.v (.int .i64 a0.f2)),.d (.v (.int .i64 a0.f3)),.d (.sl 5 (a0.f4.map rS_PrepressCond))]),(5,.d (.str v1)),(6,.d (.v (.int .i64 v2))),(7,.box [.d (.v (.int .i64 ((a0.f1.getD v2.toNat (S_PrepressTerm.mk 0 [])).f0))),.d (.str ((a0.f1.getD v2.toNat (S_PrepressTerm.mk 0 [])).f1))]),(8,.d (.str [])),(9,.d (.v (.int .i64 ((a0.f1.getD v2.toNat (S_PrepressTerm.mk 0 [])).f0)))),(27,.d (.sl 2 (a0.f1.map cS_PrepressTerm))),(28,.d (.v (.int .i64 (a0.f1.length:Int)))),(29,.d (.v (.int .i64 v2))),(1000000,.glo 0 ([gm0].flatMap (cI .i64))),(1000001,.glo 3 (glob_internal_strconv_uint64pow10.flatMap (cI .u64)))] [] 4 (by kernel_rfl) (trivial) ?_
          refine T_joinc h (fun (p:(List UInt8))=>[(1,.d (.v (.int .i64 a1))),(2,.box [.d (.v (.int .i64 a0.f0)),.d (.sl 2 (a0.f1.map cS_PrepressTerm)),.d (.v (.int .i64 a0.f2)),.d (.v (.int .i64 a0.f3)),.d (.sl 5 (a0.f4.map rS_PrepressCond))]),(5,.d (.str v1)),(6,.d (.v (.int .i64 v2))),(7,.box [.d (.v (.int .i64 ((a0.f1.getD v2.toNat (S_PrepressTerm.mk 0 [])).f0))),.d (.str ((a0.f1.getD v2.toNat (S_PrepressTerm.mk 0 [])).f1))]),(8,.d (.str p)),(9,.d (.v (.int .i64 ((a0.f1.getD v2.toNat (S_PrepressTerm.mk 0 [])).f0)))),(27,.d (.sl 2 (a0.f1.map cS_PrepressTerm))),(28,.d (.v (.int .i64 (a0.f1.length:Int)))),(29,.d (.v (.int .i64 v2))),(1000000,.glo 0 ([gm0].flatMap (cI .i64))),(1000001,.glo 3 (glob_internal_strconv_uint64pow10.flatMap (cI .u64)))]) (fun s h=>?_) (fun v3 h=>?_)
          · refine T_reg [] [1,2,5,6,7,8,9,27,28,29,37,1000000,1000001] [(37,.d (.v (.bool (decide (v2 > (0:Int))))))] [] 2 (by kernel_rfl) (trivial) ?_
            refine T_cond (decide (v2 > (0:Int))) (by kernel_rfl) (fun hc=>?_) (fun hc=>?_)
            · have h:=cond_tt hc h
              obtain hs:=Option.some.inj h; subst hs
              refine T_reg_end [] [1,2,5,6,7,8,9,27,28,29,1000000,1000001] [(8,.d (.str ([32,43,32]:List UInt8)))] [] 1 (by kernel_rfl) (trivial) fun a w hm=>then_norm (hm.co (cs:=[.keep [1,2,5,6,7,8,9,27,28,29,1000000,1000001]]) (by show _=_; kernel_rfl))
            · have h:=cond_ff hc h
              obtain hs:=Option.some.inj h; subst hs
              refine T_skip fun a w hm=>then_norm (hm.co (cs:=[.keep [1,2,5,6,7,8,9,27,28,29,1000000,1000001]]) (by show _=_; kernel_rfl))
          · skip
            refine T_joinc h (fun (p:(List UInt8)×Int)=>[(1,.d (.v (.int .i64 a1))),(2,.box [.d (.v (.int .i64 a0.f0)),.d (.sl 2 (a0.f1.map cS_PrepressTerm)),.d (.v (.int .i64 a0.f2)),.d (.v (.int .i64 a0.f3)),.d (.sl 5 (a0.f4.map rS_PrepressCond))]),(5,.d (.str v1)),(7,.box [.d (.v (.int .i64 ((a0.f1.getD v2.toNat (S_PrepressTerm.mk 0 [])).f0))),.d (.str ((a0.f1.getD v2.toNat (S_PrepressTerm.mk 0 [])).f1))]),(8,.d (.str p.1)),(9,.d (.v (.int .i64 p.2))),(27,.d (.sl 2 (a0.f1.map cS_PrepressTerm))),(28,.d (.v (.int .i64 (a0.f1.length:Int)))),(29,.d (.v (.int .i64 v2))),(1000000,.glo 0 ([gm0].flatMap (cI .i64))),(1000001,.glo 3 (glob_internal_strconv_uint64pow10.flatMap (cI .u64)))]) (fun s h=>?_) (fun s h=>?_)
            · refine T_reg [] [1,2,5,6,7,8,9,27,28,29,39,1000000,1000001] [(39,.d (.v (.bool (decide (((a0.f1.getD v2.toNat (S_PrepressTerm.mk 0 [])).f0) < (0:Int))))))] [] 2 (by kernel_rfl) (trivial) ?_
              refine T_cond (decide (((a0.f1.getD v2.toNat (S_PrepressTerm.mk 0 [])).f0) < (0:Int))) (by kernel_rfl) (fun hc=>?_) (fun hc=>?_)
              · have h:=cond_tt hc h
                obtain ⟨hp2,h⟩:=chk_ok h
                refine T_reg [(1,{ res:=.d (.str (Lib.replaceAll v3 ([43]:List UInt8) ([45]:List UInt8))),xs:=[1000000],vout:=[.glo 0 ([gm0].flatMap (cI .i64))] })] [1,2,5,6,7,8,9,27,28,29,1000000,1000001] [(8,.d (.str (Lib.replaceAll v3 ([43]:List UInt8) ([45]:List UInt8)))),(9,.d (.v (.int .i64 (IntKind.i64.wrap (0 - ((a0.f1.getD v2.toNat (S_PrepressTerm.mk 0 [])).f0))))))] [(1,ACall Tryz.prog 75 [.d (.str v3),.d (.str ([43]:List UInt8)),.d (.str ([45]:List UInt8))] [.glo 0 ([gm0].flatMap (cI .i64))] (.d (.str (Lib.replaceAll v3 ([43]:List UInt8) ([45]:List UInt8)))) [.glo 0 ([gm0].flatMap (cI .i64))])] 4 (by kernel_rfl) (b_ReplaceAll hp2) ?_
                refine T_reg [] [1,2,5,7,8,9,27,28,29,45,1000000,1000001] [(45,.d (.v (.bool (v2 == (0:Int)))))] [] 2 (by kernel_rfl) (trivial) ?_
                refine T_cond (v2 == (0:Int)) (by kernel_rfl) (fun hc=>?_) (fun hc=>?_)
                · have h:=cond_tt hc h
                  obtain hs:=Option.some.inj h; subst hs
                  refine T_reg_end [] [1,2,5,7,8,9,27,28,29,1000000,1000001] [(8,.d (.str ([45]:List UInt8)))] [] 1 (by kernel_rfl) (trivial) fun a w hm=>then_norm (hm.co (cs:=[.keep [1,2,5,7,8,9,27,28,29,1000000,1000001]]) (by show _=_; kernel_rfl))
                · have h:=cond_ff hc h
                  obtain hs:=Option.some.inj h; subst hs
                  refine T_skip fun a w hm=>then_norm (hm.co (cs:=[.keep [1,2,5,7,8,9,27,28,29,1000000,1000001]]) (by show _=_; kernel_rfl))
              · have h:=cond_ff hc h
                obtain hs:=Option.some.inj h; subst hs
                refine T_skip fun a w hm=>then_norm (hm.co (cs:=[.keep [1,2,5,7,8,9,27,28,29,1000000,1000001]]) (by show _=_; kernel_rfl))
            · obtain ⟨v4,v5⟩:=s
              try dsimp only at h
              obtain ⟨hp3,h⟩:=chk_ok h
              refine T_reg [] [1,2,5,7,9,27,28,29,1000000,1000001] [(5,.d (.str (v1++v4)))] [(2,v1.length+v4.length≤9223372036854775807)] 1 (by kernel_rfl) (hp3) ?_
              refine T_joinc h (fun (p:(List UInt8))=>[(1,.d (.v (.int .i64 a1))),(2,.box [.d (.v (.int .i64 a0.f0)),.d (.sl 2 (a0.f1.map cS_PrepressTerm)),.d (.v (.int .i64 a0.f2)),.d (.v (.int .i64 a0.f3)),.d (.sl 5 (a0.f4.map rS_PrepressCond))]),(5,.d (.str p)),(7,.box [.d (.v (.int .i64 ((a0.f1.getD v2.toNat (S_PrepressTerm.mk 0 [])).f0))),.d (.str ((a0.f1.getD v2.toNat (S_PrepressTerm.mk 0 [])).f1))]),(27,.d (.sl 2 (a0.f1.map cS_PrepressTerm))),(28,.d (.v (.int .i64 (a0.f1.length:Int)))),(29,.d (.v (.int .i64 v2))),(1000000,.glo 0 ([gm0].flatMap (cI .i64))),(1000001,.glo 3 (glob_internal_strconv_uint64pow10.flatMap (cI .u64)))]) (fun s h=>?_) (fun v6 h=>?_)
              · refine T_reg [] [1,2,5,7,9,27,28,29,50,1000000,1000001] [(50,.d (.v (.bool (v5 != (1:Int)))))] [] 2 (by kernel_rfl) (trivial) ?_
                refine T_cond (v5 != (1:Int)) (by kernel_rfl) (fun hc=>?_) (fun hc=>?_)
                · have h:=cond_tt hc h
                  obtain ⟨hp4,h⟩:=chk_ok h
                  obtain ⟨hp5,h⟩:=chk_ok h
                  obtain ⟨hp6,h⟩:=chk_ok h
                  obtain hs:=Option.some.inj h; subst hs
                  refine T_reg_end [(2,{ res:=.d (.str (Lib.itoa v5)),xs:=[1000001],vout:=[.glo 3 (glob_internal_strconv_uint64pow10.flatMap (cI .u64))] })] [1,2,5,7,27,28,29,1000000,1000001] [(5,.d (.str ((v1++v4)++((Lib.itoa v5)++([32]:List UInt8)))))] [(2,ACall Tryz.prog 76 [.d (.v (.int .i64 v5))] [.glo 3 (glob_internal_strconv_uint64pow10.flatMap (cI .u64))] (.d (.str (Lib.itoa v5))) [.glo 3 (glob_internal_strconv_uint64pow10.flatMap (cI .u64))]),(0,(Lib.itoa v5).length+([32]:List UInt8).length≤9223372036854775807),(0,(v1++v4).length+((Lib.itoa v5)++([32]:List UInt8)).length≤9223372036854775807)] 1 (by kernel_rfl) (⟨b_Itoa hp4,hp5,hp6⟩) fun a w hm=>then_norm (hm.co (cs:=[.keep [1,2,5,7,27,28,29,1000000,1000001]]) (by show _=_; kernel_rfl))
                · have h:=cond_ff hc h
                  obtain hs:=Option.some.inj h; subst hs
                  refine T_skip fun a w hm=>then_norm (hm.co (cs:=[.keep [1,2,5,7,27,28,29,1000000,1000001]]) (by show _=_; kernel_rfl))
              · skip
                obtain ⟨hp7,h⟩:=chk_ok h
                refine T_reg_end [] [1,2,5,27,28,29,1000000,1000001] [(5,.d (.str (v6++((a0.f1.getD v2.toNat (S_PrepressTerm.mk 0 [])).f1))))] [(3,v6.length+((a0.f1.getD v2.toNat (S_PrepressTerm.mk 0 [])).f1).length≤9223372036854775807)] 1 (by kernel_rfl) (hp7) fun a w hm=>inBlock_norm (then_norm (((?_:T Tryz.prog e 105 _ _ _) a w hm)))
                refine T_reg_end [] [1,2,5,27,28,29,1000000,1000001] [(29,.d (.v (.int .i64 (IntKind.i64.wrap (v2+(1:Int))))))] [] 2 (by kernel_rfl) (trivial) fun a w hm=>then_norm (⟨((v6++((a0.f1.getD v2.toNat (S_PrepressTerm.mk 0 [])).f1)),IntKind.i64.wrap (v2+(1:Int))),h,hm.co (cs:=[.keep [1,2,5,27,28,29,1000000,1000001]]) (by show _=_; kernel_rfl)⟩)
        · have h:=cond_ff hc h
          obtain hs:=Option.some.inj h; subst hs
          refine T_exit fun a w hm=>then_exit (then_exit (inBlock_exit (then_norm (hm.co (cs:=[.keep [1,2,5,1000000,1000001]]) (by show _=_; kernel_rfl)))))
      · skip
        refine fun a w hm=>then_norm (((?_:T Tryz.prog e 105 _ _ _) a w hm))
        obtain ⟨y1,hy1,h⟩:=call_ok h
        obtain ⟨hp8,h⟩:=chk_ok h
        obtain ⟨hp9,h⟩:=chk_ok h
        obtain ⟨hp10,h⟩:=chk_ok h
        obtain ⟨hp11,h⟩:=chk_ok h
        obtain ⟨hp12,h⟩:=chk_ok h
        obtain ⟨hp13,h⟩:=chk_ok h
        obtain ⟨z1,hz1,h⟩:=lett_ok h
        obtain hs:=Option.some.inj h; subst hs
        refine T_drawX_end mixed 16 (.take 0 (.take 2 (.take 8 (.all (.alt 1 (.all (.alt 3 (.take 4 (.all (.alt 5 (.take 6 (.take 7 (.all (.alt 9 (.all (.alt 10 (.take 11 (.take 12 (.take 13 .done))) .stop)) .stop)))) (.alt 9 (.all (.alt 5 (.take 6 (.take 7 (.all (.alt 10 (.take 11 (.take 12 (.take 13 .done))) .stop)))) (.alt 10 (.all (.alt 5 (.take 6 (.take 7 (.take 11 (.take 12 (.take 13 .done))))) .stop)) .stop))) .stop)))) (.alt 9 (.all (.alt 3 (.take 4 (.all (.alt 5 (.take 6 (.take 7 (.all (.alt 10 (.take 11 (.take 12 (.take 13 .done))) .stop)))) (.alt 10 (.all (.alt 5 (.take 6 (.take 7 (.take 11 (.take 12 (.take 13 .done))))) .stop)) .stop)))) (.alt 10 (.all (.alt 3 (.take 4 (.all (.alt 5 (.take 6 (.take 7 (.take 11 (.take 12 (.take 13 .done))))) .stop))) .stop)) .stop))) .stop))) (.alt 3 (.all (.alt 1 (.take 4 (.all (.alt 5 (.take 6 (.take 7 (.all (.alt 9 (.all (.alt 10 (.take 11 (.take 12 (.take 13 .done))) .stop)) .stop)))) (.alt 9 (.all (.alt 5 (.take 6 (.take 7 (.all (.alt 10 (.take 11 (.take 12 (.take 13 .done))) .stop)))) (.alt 10 (.all (.alt 5 (.take 6 (.take 7 (.take 11 (.take 12 (.take 13 .done))))) .stop)) .stop))) .stop)))) (.alt 9 (.all (.alt 1 (.take 4 (.all (.alt 5 (.take 6 (.take 7 (.all (.alt 10 (.take 11 (.take 12 (.take 13 .done))) .stop)))) (.alt 10 (.all (.alt 5 (.take 6 (.take 7 (.take 11 (.take 12 (.take 13 .done))))) .stop)) .stop)))) .stop)) .stop))) (.alt 9 (.all (.alt 1 (.all (.alt 3 (.take 4 (.all (.alt 5 (.take 6 (.take 7 (.all (.alt 10 (.take 11 (.take 12 (.take 13 .done))) .stop)))) (.alt 10 (.all (.alt 5 (.take 6 (.take 7 (.take 11 (.take 12 (.take 13 .done))))) .stop)) .stop)))) (.alt 10 (.all (.alt 3 (.take 4 (.all (.alt 5 (.take 6 (.take 7 (.take 11 (.take 12 (.take 13 .done))))) .stop))) .stop)) .stop))) (.alt 3 (.all (.alt 1 (.take 4 (.all (.alt 5 (.take 6 (.take 7 (.all (.alt 10 (.take 11 (.take 12 (.take 13 .done))) .stop)))) (.alt 10 (.all (.alt 5 (.take 6 (.take 7 (.take 11 (.take 12 (.take 13 .done))))) .stop)) .stop)))) .stop)) .stop))) .stop))))))) ([0,0,0,4,10,16,32,64,0,256,514,1152,2049,8191],[0,0,0,4,10,16,32,64,0,256,512,1152,2049,4097]) 14805 [(1,{ res:=.own 9 1 (y1.map cS) }),(5,{ cs:=cS (y1.getD a0.f2.toNat []) }),(10,{ res:=.d (.str (Lib.itoa a0.f3)),xs:=[1000001],vout:=[.glo 3 (glob_internal_strconv_uint64pow10.flatMap (cI .u64))] }),(12,{ rw:=some (.d (.str z1)) })] [1,2,5,1000000,1000001] [] [(1,.d (.v (.int .i64 a1))),(2,.box [.d (.v (.int .i64 a0.f0)),.d (.sl 2 (a0.f1.map cS_PrepressTerm)),.d (.v (.int .i64 a0.f2)),.d (.v (.int .i64 a0.f3)),.d (.sl 5 (a0.f4.map rS_PrepressCond))]),(5,.d (.str z1)),(1000000,.glo 0 ([gm0].flatMap (cI .i64))),(1000001,.glo 3 (glob_internal_strconv_uint64pow10.flatMap (cI .u64)))] ((fun (o1:Prop)=>fun (o4:Prop)=>fun (o5:Prop)=>fun (o6:Prop)=>fun (o7:Prop)=>fun (o10:Prop)=>fun (o11:Prop)=>fun (o12:Prop)=>[(3,o1),(1,o4),(0,o5),(0,o6),(0,o7),(1,o10),(0,o11),(0,o12),(2,o5),(0,o6),(0,o7),(0,o10),(0,o11),(0,o12),(1,o10),(0,o5),(0,o6),(0,o7),(0,o11),(0,o12),(3,o4),(0,o5),(0,o6),(0,o7),(0,o10),(0,o11),(0,o12),(1,o10),(0,o5),(0,o6),(0,o7),(0,o11),(0,o12),(1,o10),(1,o4),(0,o5),(0,o6),(0,o7),(0,o11),(0,o12),(2,o1),(0,o4),(0,o5),(0,o6),(0,o7),(1,o10),(0,o11),(0,o12),(2,o5),(0,o6),(0,o7),(0,o10),(0,o11),(0,o12),(1,o10),(0,o5),(0,o6),(0,o7),(0,o11),(0,o12),(2,o1),(0,o4),(0,o5),(0,o6),(0,o7),(0,o10),(0,o11),(0,o12),(1,o10),(0,o5),(0,o6),(0,o7),(0,o11),(0,o12),(2,o1),(1,o4),(0,o5),(0,o6),(0,o7),(0,o10),(0,o11),(0,o12),(1,o10),(0,o5),(0,o6),(0,o7),(0,o11),(0,o12),(1,o10),(1,o4),(0,o5),(0,o6),(0,o7),(0,o11),(0,o12),(2,o1),(0,o4),(0,o5),(0,o6),(0,o7),(0,o10),(0,o11),(0,o12),(1,o10),(0,o5),(0,o6),(0,o7),(0,o11),(0,o12)]) (ACall Tryz.prog 77 [] [] (.own 9 1 (y1.map cS)) []) (0≤a0.f2∧a0.f2 < (y1.map cS).length) ((y1.map cS)[a0.f2.toNat]? = some (cS (y1.getD a0.f2.toNat []))) (([32]:List UInt8).length+(y1.getD a0.f2.toNat []).length≤9223372036854775807) ((([32]:List UInt8)++(y1.getD a0.f2.toNat [])).length+([32]:List UInt8).length≤9223372036854775807) (ACall Tryz.prog 76 [.d (.v (.int .i64 a0.f3))] [.glo 3 (glob_internal_strconv_uint64pow10.flatMap (cI .u64))] (.d (.str (Lib.itoa a0.f3))) [.glo 3 (glob_internal_strconv_uint64pow10.flatMap (cI .u64))]) (((([32]:List UInt8)++(y1.getD a0.f2.toNat []))++([32]:List UInt8)).length+(Lib.itoa a0.f3).length≤9223372036854775807) ((v7.length+(((([32]:List UInt8)++(y1.getD a0.f2.toNat []))++([32]:List UInt8))++(Lib.itoa a0.f3)).length≤9223372036854775807)∧AV.d (.str (v7++(((([32]:List UInt8)++(y1.getD a0.f2.toNat []))++([32]:List UInt8))++(Lib.itoa a0.f3))))=.d (.str z1))) 1 (by kernel_rfl) (by kernel_rfl) (by kernel_rfl) (have p1:=prepress_comparisons_ok hy1; have p4:=own_idx cS hp8; have p5:=(idx_ok (d:=[]) cS hp8).2; have p6:=hp9; have p7:=hp10; have p10:=b_Itoa hp11; have p11:=hp12; have p12:=⟨hp13,(by subst hz1; rfl)⟩; ⟨p1,p4,p5,p6,p7,p10,p11,p12,p5,p6,p7,p10,p11,p12,p10,p5,p6,p7,p11,p12,p4,p5,p6,p7,p10,p11,p12,p10,p5,p6,p7,p11,p12,p10,p4,p5,p6,p7,p11,p12,p1,p4,p5,p6,p7,p10,p11,p12,p5,p6,p7,p10,p11,p12,p10,p5,p6,p7,p11,p12,p1,p4,p5,p6,p7,p10,p11,p12,p10,p5,p6,p7,p11,p12,p1,p4,p5,p6,p7,p10,p11,p12,p10,p5,p6,p7,p11,p12,p10,p4,p5,p6,p7,p11,p12,p1,p4,p5,p6,p7,p10,p11,p12,p10,p5,p6,p7,p11,p12⟩) fun a w hm=>inBlock_norm (then_norm (hm.co (cs:=[.keep [1,2,5,1000000,1000001]]) (by show _=_; kernel_rfl)))
    · have h:=cond_ff hc h
      refine T_reg [] [1,2,11,74,1000000,1000001] [(74,.d (.v (.bool (a0.f0 == (1:Int)))))] [] 2 (by kernel_rfl) (trivial) ?_
      refine T_cond (a0.f0 == (1:Int)) (by kernel_rfl) (fun hc=>?_) (fun hc=>?_)
      · have h:=cond_tt hc h
        obtain ⟨hp14,h⟩:=chk_ok h
        obtain ⟨y2,hy2,h⟩:=call_ok h
        obtain ⟨hp15,h⟩:=chk_ok h
        obtain hs:=Option.some.inj h; subst hs
        refine T_reg_end [(2,{ cs:=cS_PrepressCond (a0.f4.getD (0:Int).toNat (S_PrepressCond.mk 0 [] 0 0 [])) }),(4,{ res:=.d (.str y2),vout:=[.glo 0 ([gm0].flatMap (cI .i64)),.glo 3 (glob_internal_strconv_uint64pow10.flatMap (cI .u64))],xs:=[1000000,1000001] })] [1,2,5,1000000,1000001] [(5,.d (.str (([110,111,116,32]:List UInt8)++y2)))] [(2,0≤(0:Int)∧(a0.f4.map rS_PrepressCond)[(0:Int).toNat]? = some (cS_PrepressCond (a0.f4.getD (0:Int).toNat (S_PrepressCond.mk 0 [] 0 0 [])))),(1,ACall Tryz.prog 47 [.agg (cS_PrepressCond (a0.f4.getD (0:Int).toNat (S_PrepressCond.mk 0 [] 0 0 []))),.d (.v (.int .i64 (3:Int)))] [.glo 0 ([gm0].flatMap (cI .i64)),.glo 3 (glob_internal_strconv_uint64pow10.flatMap (cI .u64))] (.d (.str y2)) [.glo 0 ([gm0].flatMap (cI .i64)),.glo 3 (glob_internal_strconv_uint64pow10.flatMap (cI .u64))]),(0,([110,111,116,32]:List UInt8).length+y2.length≤9223372036854775807)] 1 (by kernel_rfl) (⟨idx_okR (d:=(S_PrepressCond.mk 0 [] 0 0 [])) rS_PrepressCond_eq hp14,hrec_prepress_show hy2,hp15⟩) fun a w hm=>inBlock_norm (then_norm (hm.co (cs:=[.keep [1,2,5,1000000,1000001]]) (by show _=_; kernel_rfl)))
      · have h:=cond_ff hc h
        refine T_reg [] [1,2,82,1000000,1000001] [(82,.d (.v (.bool (a0.f0 == (2:Int)))))] [] 2 (by kernel_rfl) (trivial) ?_
        refine T_cond (a0.f0 == (2:Int)) (by kernel_rfl) (fun hc=>?_) (fun hc=>?_)
        · have h:=cond_tt hc h
          obtain ⟨hp16,h⟩:=chk_ok h
          obtain ⟨y3,hy3,h⟩:=call_ok h
          obtain ⟨hp17,h⟩:=chk_ok h
          obtain ⟨hp18,h⟩:=chk_ok h
          obtain ⟨y4,hy4,h⟩:=call_ok h
          obtain ⟨hp19,h⟩:=chk_ok h
          obtain hs:=Option.some.inj h; subst hs
          refine T_drawX_end mixed 35 (.take 0 (.take 6 (.all (.alt 1 (.all (.alt 2 (.all (.alt 3 (.all (.alt 4 (.take 5 (.all (.alt 7 (.all (.alt 8 (.all (.alt 9 (.all (.alt 10 (.take 11 (.take 12 .done)) .stop)) .stop)) .stop)) .stop))) (.alt 7 (.all (.alt 4 (.take 5 (.all (.alt 8 (.all (.alt 9 (.all (.alt 10 (.take 11 (.take 12 .done)) .stop)) .stop)) .stop))) (.alt 8 (.all (.alt 4 (.take 5 (.all (.alt 9 (.all (.alt 10 (.take 11 (.take 12 .done)) .stop)) .stop))) (.alt 9 (.all (.alt 4 (.take 5 (.all (.alt 10 (.take 11 (.take 12 .done)) .stop))) .stop)) .stop))) .stop))) .stop))) (.alt 7 (.all (.alt 3 (.all (.alt 4 (.take 5 (.all (.alt 8 (.all (.alt 9 (.all (.alt 10 (.take 11 (.take 12 .done)) .stop)) .stop)) .stop))) (.alt 8 (.all (.alt 4 (.take 5 (.all (.alt 9 (.all (.alt 10 (.take 11 (.take 12 .done)) .stop)) .stop))) (.alt 9 (.all (.alt 4 (.take 5 (.all (.alt 10 (.take 11 (.take 12 .done)) .stop))) .stop)) .stop))) .stop))) (.alt 8 (.all (.alt 3 (.all (.alt 4 (.take 5 (.all (.alt 9 (.all (.alt 10 (.take 11 (.take 12 .done)) .stop)) .stop))) (.alt 9 (.all (.alt 4 (.take 5 (.all (.alt 10 (.take 11 (.take 12 .done)) .stop))) .stop)) .stop))) (.alt 9 (.all (.alt 3 (.all (.alt 4 (.take 5 (.all (.alt 10 (.take 11 (.take 12 .done)) .stop))) .stop)) .stop)) .stop))) .stop))) .stop))) (.alt 7 (.all (.alt 2 (.all (.alt 3 (.all (.alt 4 (.take 5 (.all (.alt 8 (.all (.alt 9 (.all (.alt 10 (.take 11 (.take 12 .done)) .stop)) .stop)) .stop))) (.alt 8 (.all (.alt 4 (.take 5 (.all (.alt 9 (.all (.alt 10 (.take 11 (.take 12 .done)) .stop)) .stop))) (.alt 9 (.all (.alt 4 (.take 5 (.all (.alt 10 (.take 11 (.take 12 .done)) .stop))) .stop)) .stop))) .stop))) (.alt 8 (.all (.alt 3 (.all (.alt 4 (.take 5 (.all (.alt 9 (.all (.alt 10 (.take 11 (.take 12 .done)) .stop)) .stop))) (.alt 9 (.all (.alt 4 (.take 5 (.all (.alt 10 (.take 11 (.take 12 .done)) .stop))) .stop)) .stop))) (.alt 9 (.all (.alt 3 (.all (.alt 4 (.take 5 (.all (.alt 10 (.take 11 (.take 12 .done)) .stop))) .stop)) .stop)) .stop))) .stop))) (.alt 8 (.all (.alt 2 (.all (.alt 3 (.all (.alt 4 (.take 5 (.all (.alt 9 (.all (.alt 10 (.take 11 (.take 12 .done)) .stop)) .stop))) (.alt 9 (.all (.alt 4 (.take 5 (.all (.alt 10 (.take 11 (.take 12 .done)) .stop))) .stop)) .stop))) (.alt 9 (.all (.alt 3 (.all (.alt 4 (.take 5 (.all (.alt 10 (.take 11 (.take 12 .done)) .stop))) .stop)) .stop)) .stop))) (.alt 9 (.all (.alt 2 (.all (.alt 3 (.all (.alt 4 (.take 5 (.all (.alt 10 (.take 11 (.take 12 .done)) .stop))) .stop)) .stop)) .stop)) .stop))) .stop))) .stop))) (.alt 7 (.all (.alt 1 (.all (.alt 2 (.all (.alt 3 (.all (.alt 4 (.take 5 (.all (.alt 8 (.all (.alt 9 (.all (.alt 10 (.take 11 (.take 12 .done)) .stop)) .stop)) .stop))) (.alt 8 (.all (.alt 4 (.take 5 (.all (.alt 9 (.all (.alt 10 (.take 11 (.take 12 .done)) .stop)) .stop))) (.alt 9 (.all (.alt 4 (.take 5 (.all (.alt 10 (.take 11 (.take 12 .done)) .stop))) .stop)) .stop))) .stop))) (.alt 8 (.all (.alt 3 (.all (.alt 4 (.take 5 (.all (.alt 9 (.all (.alt 10 (.take 11 (.take 12 .done)) .stop)) .stop))) (.alt 9 (.all (.alt 4 (.take 5 (.all (.alt 10 (.take 11 (.take 12 .done)) .stop))) .stop)) .stop))) (.alt 9 (.all (.alt 3 (.all (.alt 4 (.take 5 (.all (.alt 10 (.take 11 (.take 12 .done)) .stop))) .stop)) .stop)) .stop))) .stop))) (.alt 8 (.all (.alt 2 (.all (.alt 3 (.all (.alt 4 (.take 5 (.all (.alt 9 (.all (.alt 10 (.take 11 (.take 12 .done)) .stop)) .stop))) (.alt 9 (.all (.alt 4 (.take 5 (.all (.alt 10 (.take 11 (.take 12 .done)) .stop))) .stop)) .stop))) (.alt 9 (.all (.alt 3 (.all (.alt 4 (.take 5 (.all (.alt 10 (.take 11 (.take 12 .done)) .stop))) .stop)) .stop)) .stop))) (.alt 9 (.all (.alt 2 (.all (.alt 3 (.all (.alt 4 (.take 5 (.all (.alt 10 (.take 11 (.take 12 .done)) .stop))) .stop)) .stop)) .stop)) .stop))) .stop))) (.alt 8 (.all (.alt 1 (.all (.alt 2 (.all (.alt 3 (.all (.alt 4 (.take 5 (.all (.alt 9 (.all (.alt 10 (.take 11 (.take 12 .done)) .stop)) .stop))) (.alt 9 (.all (.alt 4 (.take 5 (.all (.alt 10 (.take 11 (.take 12 .done)) .stop))) .stop)) .stop))) (.alt 9 (.all (.alt 3 (.all (.alt 4 (.take 5 (.all (.alt 10 (.take 11 (.take 12 .done)) .stop))) .stop)) .stop)) .stop))) (.alt 9 (.all (.alt 2 (.all (.alt 3 (.all (.alt 4 (.take 5 (.all (.alt 10 (.take 11 (.take 12 .done)) .stop))) .stop)) .stop)) .stop)) .stop))) (.alt 9 (.all (.alt 1 (.all (.alt 2 (.all (.alt 3 (.all (.alt 4 (.take 5 (.all (.alt 10 (.take 11 (.take 12 .done)) .stop))) .stop)) .stop)) .stop)) .stop)) .stop))) .stop))) .stop))))) ([0,1,2,4,8,16,0,64,128,256,528,1056,4095],[0,1,2,4,8,16,0,64,128,256,512,1056,2048]) 6241 [(2,{ cs:=cS_PrepressCond (a0.f4.getD (0:Int).toNat (S_PrepressCond.mk 0 [] 0 0 [])) }),(4,{ res:=.d (.str y3),vout:=[.glo 0 ([gm0].flatMap (cI .i64)),.glo 3 (glob_internal_strconv_uint64pow10.flatMap (cI .u64))],xs:=[1000000,1000001] }),(8,{ cs:=cS_PrepressCond (a0.f4.getD (1:Int).toNat (S_PrepressCond.mk 0 [] 0 0 [])) }),(10,{ res:=.d (.str y4),vout:=[.glo 0 ([gm0].flatMap (cI .i64)),.glo 3 (glob_internal_strconv_uint64pow10.flatMap (cI .u64))],xs:=[1000000,1000001] })] [1,2,5,1000000,1000001] [] [(1,.d (.v (.int .i64 a1))),(2,.box [.d (.v (.int .i64 a0.f0)),.d (.sl 2 (a0.f1.map cS_PrepressTerm)),.d (.v (.int .i64 a0.f2)),.d (.v (.int .i64 a0.f3)),.d (.sl 5 (a0.f4.map rS_PrepressCond))]),(5,.d (.str ((y3++([32,97,110,100,32]:List UInt8))++y4))),(1000000,.glo 0 ([gm0].flatMap (cI .i64))),(1000001,.glo 3 (glob_internal_strconv_uint64pow10.flatMap (cI .u64)))] ((fun (o2:Prop)=>fun (o4:Prop)=>fun (o5:Prop)=>fun (o8:Prop)=>fun (o10:Prop)=>fun (o11:Prop)=>[(3,o2),(1,o4),(0,o5),(1,o8),(1,o10),(0,o11),(2,o4),(0,o5),(0,o8),(1,o10),(0,o11),(1,o8),(0,o4),(0,o5),(1,o10),(0,o11),(2,o4),(0,o5),(0,o10),(0,o11),(3,o4),(0,o5),(0,o8),(1,o10),(0,o11),(1,o8),(0,o4),(0,o5),(1,o10),(0,o11),(2,o4),(0,o5),(0,o10),(0,o11),(1,o8),(1,o4),(0,o5),(1,o10),(0,o11),(2,o4),(0,o5),(0,o10),(0,o11),(3,o4),(0,o5),(0,o10),(0,o11),(2,o2),(1,o4),(0,o5),(0,o8),(1,o10),(0,o11),(1,o8),(0,o4),(0,o5),(1,o10),(0,o11),(2,o4),(0,o5),(0,o10),(0,o11),(1,o8),(1,o4),(0,o5),(1,o10),(0,o11),(2,o4),(0,o5),(0,o10),(0,o11),(3,o4),(0,o5),(0,o10),(0,o11),(1,o8),(0,o2),(1,o4),(0,o5),(1,o10),(0,o11),(2,o4),(0,o5),(0,o10),(0,o11),(3,o4),(0,o5),(0,o10),(0,o11),(2,o2),(1,o4),(0,o5),(0,o10),(0,o11),(3,o2),(1,o4),(0,o5),(0,o8),(1,o10),(0,o11),(1,o8),(0,o4),(0,o5),(1,o10),(0,o11),(2,o4),(0,o5),(0,o10),(0,o11),(1,o8),(1,o4),(0,o5),(1,o10),(0,o11),(2,o4),(0,o5),(0,o10),(0,o11),(3,o4),(0,o5),(0,o10),(0,o11),(1,o8),(0,o2),(1,o4),(0,o5),(1,o10),(0,o11),(2,o4),(0,o5),(0,o10),(0,o11),(3,o4),(0,o5),(0,o10),(0,o11),(2,o2),(1,o4),(0,o5),(0,o10),(0,o11),(1,o8),(1,o2),(1,o4),(0,o5),(1,o10),(0,o11),(2,o4),(0,o5),(0,o10),(0,o11),(3,o4),(0,o5),(0,o10),(0,o11),(2,o2),(1,o4),(0,o5),(0,o10),(0,o11),(3,o2),(1,o4),(0,o5),(0,o10),(0,o11)]) (0≤(0:Int)∧(a0.f4.map rS_PrepressCond)[(0:Int).toNat]? = some (cS_PrepressCond (a0.f4.getD (0:Int).toNat (S_PrepressCond.mk 0 [] 0 0 [])))) (ACall Tryz.prog 47 [.agg (cS_PrepressCond (a0.f4.getD (0:Int).toNat (S_PrepressCond.mk 0 [] 0 0 []))),.d (.v (.int .i64 (2:Int)))] [.glo 0 ([gm0].flatMap (cI .i64)),.glo 3 (glob_internal_strconv_uint64pow10.flatMap (cI .u64))] (.d (.str y3)) [.glo 0 ([gm0].flatMap (cI .i64)),.glo 3 (glob_internal_strconv_uint64pow10.flatMap (cI .u64))]) (y3.length+([32,97,110,100,32]:List UInt8).length≤9223372036854775807) (0≤(1:Int)∧(a0.f4.map rS_PrepressCond)[(1:Int).toNat]? = some (cS_PrepressCond (a0.f4.getD (1:Int).toNat (S_PrepressCond.mk 0 [] 0 0 [])))) (ACall Tryz.prog 47 [.agg (cS_PrepressCond (a0.f4.getD (1:Int).toNat (S_PrepressCond.mk 0 [] 0 0 []))),.d (.v (.int .i64 (3:Int)))] [.glo 0 ([gm0].flatMap (cI .i64)),.glo 3 (glob_internal_strconv_uint64pow10.flatMap (cI .u64))] (.d (.str y4)) [.glo 0 ([gm0].flatMap (cI .i64)),.glo 3 (glob_internal_strconv_uint64pow10.flatMap (cI .u64))]) ((y3++([32,97,110,100,32]:List UInt8)).length+y4.length≤9223372036854775807)) 1 (by kernel_rfl) (by kernel_rfl) (by kernel_rfl) (have p2:=idx_okR (d:=(S_PrepressCond.mk 0 [] 0 0 [])) rS_PrepressCond_eq hp16; have p4:=hrec_prepress_show hy3; have p5:=hp17; have p8:=idx_okR (d:=(S_PrepressCond.mk 0 [] 0 0 [])) rS_PrepressCond_eq hp18; have p10:=hrec_prepress_show hy4; have p11:=hp19; ⟨p2,p4,p5,p8,p10,p11,p4,p5,p8,p10,p11,p8,p4,p5,p10,p11,p4,p5,p10,p11,p4,p5,p8,p10,p11,p8,p4,p5,p10,p11,p4,p5,p10,p11,p8,p4,p5,p10,p11,p4,p5,p10,p11,p4,p5,p10,p11,p2,p4,p5,p8,p10,p11,p8,p4,p5,p10,p11,p4,p5,p10,p11,p8,p4,p5,p10,p11,p4,p5,p10,p11,p4,p5,p10,p11,p8,p2,p4,p5,p10,p11,p4,p5,p10,p11,p4,p5,p10,p11,p2,p4,p5,p10,p11,p2,p4,p5,p8,p10,p11,p8,p4,p5,p10,p11,p4,p5,p10,p11,p8,p4,p5,p10,p11,p4,p5,p10,p11,p4,p5,p10,p11,p8,p2,p4,p5,p10,p11,p4,p5,p10,p11,p4,p5,p10,p11,p2,p4,p5,p10,p11,p8,p2,p4,p5,p10,p11,p4,p5,p10,p11,p4,p5,p10,p11,p2,p4,p5,p10,p11,p2,p4,p5,p10,p11⟩) fun a w hm=>inBlock_norm (then_norm (hm.co (cs:=[.keep [1,2,5,1000000,1000001]]) (by show _=_; kernel_rfl)))
        · have h:=cond_ff hc h
          obtain ⟨hp20,h⟩:=chk_ok h
          obtain ⟨y5,hy5,h⟩:=call_ok h
          obtain ⟨hp21,h⟩:=chk_ok h
          obtain ⟨hp22,h⟩:=chk_ok h
          obtain ⟨y6,hy6,h⟩:=call_ok h
          obtain ⟨hp23,h⟩:=chk_ok h
          obtain hs:=Option.some.inj h; subst hs
          refine T_drawX_end mixed 35 (.take 0 (.take 6 (.all (.alt 1 (.all (.alt 2 (.all (.alt 3 (.all (.alt 4 (.take 5 (.all (.alt 7 (.all (.alt 8 (.all (.alt 9 (.all (.alt 10 (.take 11 (.take 12 .done)) .stop)) .stop)) .stop)) .stop))) (.alt 7 (.all (.alt 4 (.take 5 (.all (.alt 8 (.all (.alt 9 (.all (.alt 10 (.take 11 (.take 12 .done)) .stop)) .stop)) .stop))) (.alt 8 (.all (.alt 4 (.take 5 (.all (.alt 9 (.all (.alt 10 (.take 11 (.take 12 .done)) .stop)) .stop))) (.alt 9 (.all (.alt 4 (.take 5 (.all (.alt 10 (.take 11 (.take 12 .done)) .stop))) .stop)) .stop))) .stop))) .stop))) (.alt 7 (.all (.alt 3 (.all (.alt 4 (.take 5 (.all (.alt 8 (.all (.alt 9 (.all (.alt 10 (.take 11 (.take 12 .done)) .stop)) .stop)) .stop))) (.alt 8 (.all (.alt 4 (.take 5 (.all (.alt 9 (.all (.alt 10 (.take 11 (.take 12 .done)) .stop)) .stop))) (.alt 9 (.all (.alt 4 (.take 5 (.all (.alt 10 (.take 11 (.take 12 .done)) .stop))) .stop)) .stop))) .stop))) (.alt 8 (.all (.alt 3 (.all (.alt 4 (.take 5 (.all (.alt 9 (.all (.alt 10 (.take 11 (.take 12 .done)) .stop)) .stop))) (.alt 9 (.all (.alt 4 (.take 5 (.all (.alt 10 (.take 11 (.take 12 .done)) .stop))) .stop)) .stop))) (.alt 9 (.all (.alt 3 (.all (.alt 4 (.take 5 (.all (.alt 10 (.take 11 (.take 12 .done)) .stop))) .stop)) .stop)) .stop))) .stop))) .stop))) (.alt 7 (.all (.alt 2 (.all (.alt 3 (.all (.alt 4 (.take 5 (.all (.alt 8 (.all (.alt 9 (.all (.alt 10 (.take 11 (.take 12 .done)) .stop)) .stop)) .stop))) (.alt 8 (.all (.alt 4 (.take 5 (.all (.alt 9 (.all (.alt 10 (.take 11 (.take 12 .done)) .stop)) .stop))) (.alt 9 (.all (.alt 4 (.take 5 (.all (.alt 10 (.take 11 (.take 12 .done)) .stop))) .stop)) .stop))) .stop))) (.alt 8 (.all (.alt 3 (.all (.alt 4 (.take 5 (.all (.alt 9 (.all (.alt 10 (.take 11 (.take 12 .done)) .stop)) .stop))) (.alt 9 (.all (.alt 4 (.take 5 (.all (.alt 10 (.take 11 (.take 12 .done)) .stop))) .stop)) .stop))) (.alt 9 (.all (.alt 3 (.all (.alt 4 (.take 5 (.all (.alt 10 (.take 11 (.take 12 .done)) .stop))) .stop)) .stop)) .stop))) .stop))) (.alt 8 (.all (.alt 2 (.all (.alt 3 (.all (.alt 4 (.take 5 (.all (.alt 9 (.all (.alt 10 (.take 11 (.take 12 .done)) .stop)) .stop))) (.alt 9 (.all (.alt 4 (.take 5 (.all (.alt 10 (.take 11 (.take 12 .done)) .stop))) .stop)) .stop))) (.alt 9 (.all (.alt 3 (.all (.alt 4 (.take 5 (.all (.alt 10 (.take 11 (.take 12 .done)) .stop))) .stop)) .stop)) .stop))) (.alt 9 (.all (.alt 2 (.all (.alt 3 (.all (.alt 4 (.take 5 (.all (.alt 10 (.take 11 (.take 12 .done)) .stop))) .stop)) .stop)) .stop)) .stop))) .stop))) .stop))) (.alt 7 (.all (.alt 1 (.all (.alt 2 (.all (.alt 3 (.all (.alt 4 (.take 5 (.all (.alt 8 (.all (.alt 9 (.all (.alt 10 (.take 11 (.take 12 .done)) .stop)) .stop)) .stop))) (.alt 8 (.all (.alt 4 (.take 5 (.all (.alt 9 (.all (.alt 10 (.take 11 (.take 12 .done)) .stop)) .stop))) (.alt 9 (.all (.alt 4 (.take 5 (.all (.alt 10 (.take 11 (.take 12 .done)) .stop))) .stop)) .stop))) .stop))) (.alt 8 (.all (.alt 3 (.all (.alt 4 (.take 5 (.all (.alt 9 (.all (.alt 10 (.take 11 (.take 12 .done)) .stop)) .stop))) (.alt 9 (.all (.alt 4 (.take 5 (.all (.alt 10 (.take 11 (.take 12 .done)) .stop))) .stop)) .stop))) (.alt 9 (.all (.alt 3 (.all (.alt 4 (.take 5 (.all (.alt 10 (.take 11 (.take 12 .done)) .stop))) .stop)) .stop)) .stop))) .stop))) (.alt 8 (.all (.alt 2 (.all (.alt 3 (.all (.alt 4 (.take 5 (.all (.alt 9 (.all (.alt 10 (.take 11 (.take 12 .done)) .stop)) .stop))) (.alt 9 (.all (.alt 4 (.take 5 (.all (.alt 10 (.take 11 (.take 12 .done)) .stop))) .stop)) .stop))) (.alt 9 (.all (.alt 3 (.all (.alt 4 (.take 5 (.all (.alt 10 (.take 11 (.take 12 .done)) .stop))) .stop)) .stop)) .stop))) (.alt 9 (.all (.alt 2 (.all (.alt 3 (.all (.alt 4 (.take 5 (.all (.alt 10 (.take 11 (.take 12 .done)) .stop))) .stop)) .stop)) .stop)) .stop))) .stop))) (.alt 8 (.all (.alt 1 (.all (.alt 2 (.all (.alt 3 (.all (.alt 4 (.take 5 (.all (.alt 9 (.all (.alt 10 (.take 11 (.take 12 .done)) .stop)) .stop))) (.alt 9 (.all (.alt 4 (.take 5 (.all (.alt 10 (.take 11 (.take 12 .done)) .stop))) .stop)) .stop))) (.alt 9 (.all (.alt 3 (.all (.alt 4 (.take 5 (.all (.alt 10 (.take 11 (.take 12 .done)) .stop))) .stop)) .stop)) .stop))) (.alt 9 (.all (.alt 2 (.all (.alt 3 (.all (.alt 4 (.take 5 (.all (.alt 10 (.take 11 (.take 12 .done)) .stop))) .stop)) .stop)) .stop)) .stop))) (.alt 9 (.all (.alt 1 (.all (.alt 2 (.all (.alt 3 (.all (.alt 4 (.take 5 (.all (.alt 10 (.take 11 (.take 12 .done)) .stop))) .stop)) .stop)) .stop)) .stop)) .stop))) .stop))) .stop))))) ([0,1,2,4,8,16,0,64,128,256,528,1056,4095],[0,1,2,4,8,16,0,64,128,256,512,1056,2048]) 6241 [(2,{ cs:=cS_PrepressCond (a0.f4.getD (0:Int).toNat (S_PrepressCond.mk 0 [] 0 0 [])) }),(4,{ res:=.d (.str y5),vout:=[.glo 0 ([gm0].flatMap (cI .i64)),.glo 3 (glob_internal_strconv_uint64pow10.flatMap (cI .u64))],xs:=[1000000,1000001] }),(8,{ cs:=cS_PrepressCond (a0.f4.getD (1:Int).toNat (S_PrepressCond.mk 0 [] 0 0 [])) }),(10,{ res:=.d (.str y6),vout:=[.glo 0 ([gm0].flatMap (cI .i64)),.glo 3 (glob_internal_strconv_uint64pow10.flatMap (cI .u64))],xs:=[1000000,1000001] })] [1,2,5,1000000,1000001] [] [(1,.d (.v (.int .i64 a1))),(2,.box [.d (.v (.int .i64 a0.f0)),.d (.sl 2 (a0.f1.map cS_PrepressTerm)),.d (.v (.int .i64 a0.f2)),.d (.v (.int .i64 a0.f3)),.d (.sl 5 (a0.f4.map rS_PrepressCond))]),(5,.d (.str ((y5++([32,111,114,32]:List UInt8))++y6))),(1000000,.glo 0 ([gm0].flatMap (cI .i64))),(1000001,.glo 3 (glob_internal_strconv_uint64pow10.flatMap (cI .u64)))] ((fun (o2:Prop)=>fun (o4:Prop)=>fun (o5:Prop)=>fun (o8:Prop)=>fun (o10:Prop)=>fun (o11:Prop)=>[(3,o2),(1,o4),(0,o5),(1,o8),(1,o10),(0,o11),(2,o4),(0,o5),(0,o8),(1,o10),(0,o11),(1,o8),(0,o4),(0,o5),(1,o10),(0,o11),(2,o4),(0,o5),(0,o10),(0,o11),(3,o4),(0,o5),(0,o8),(1,o10),(0,o11),(1,o8),(0,o4),(0,o5),(1,o10),(0,o11),(2,o4),(0,o5),(0,o10),(0,o11),(1,o8),(1,o4),(0,o5),(1,o10),(0,o11),(2,o4),(0,o5),(0,o10),(0,o11),(3,o4),(0,o5),(0,o10),(0,o11),(2,o2),(1,o4),(0,o5),(0,o8),(1,o10),(0,o11),(1,o8),(0,o4),(0,o5),(1,o10),(0,o11),(2,o4),(0,o5),(0,o10),(0,o11),(1,o8),(1,o4),(0,o5),(1,o10),(0,o11),(2,o4),(0,o5),(0,o10),(0,o11),(3,o4),(0,o5),(0,o10),(0,o11),(1,o8),(0,o2),(1,o4),(0,o5),(1,o10),(0,o11),(2,o4),(0,o5),(0,o10),(0,o11),(3,o4),(0,o5),(0,o10),(0,o11),(2,o2),(1,o4),(0,o5),(0,o10),(0,o11),(3,o2),(1,o4),(0,o5),(0,o8),(1,o10),(0,o11),(1,o8),(0,o4),(0,o5),(1,o10),(0,o11),(2,o4),(0,o5),(0,o10),(0,o11),(1,o8),(1,o4),(0,o5),(1,o10),(0,o11),(2,o4),(0,o5),(0,o10),(0,o11),(3,o4),(0,o5),(0,o10),(0,o11),(1,o8),(0,o2),(1,o4),(0,o5),(1,o10),(0,o11),(2,o4),(0,o5),(0,o10),(0,o11),(3,o4),(0,o5),(0,o10),(0,o11),(2,o2),(1,o4),(0,o5),(0,o10),(0,o11),(1,o8),(1,o2),(1,o4),(0,o5),(1,o10),(0,o11),(2,o4),(0,o5),(0,o10),(0,o11),(3,o4),(0,o5),(0,o10),(0,o11),(2,o2),(1,o4),(0,o5),(0,o10),(0,o11),(3,o2),(1,o4),(0,o5),(0,o10),(0,o11)]) (0≤(0:Int)∧(a0.f4.map rS_PrepressCond)[(0:Int).toNat]? = some (cS_PrepressCond (a0.f4.getD (0:Int).toNat (S_PrepressCond.mk 0 [] 0 0 [])))) (ACall Tryz.prog 47 [.agg (cS_PrepressCond (a0.f4.getD (0:Int).toNat (S_PrepressCond.mk 0 [] 0 0 []))),.d (.v (.int .i64 (1:Int)))] [.glo 0 ([gm0].flatMap (cI .i64)),.glo 3 (glob_internal_strconv_uint64pow10.flatMap (cI .u64))] (.d (.str y5)) [.glo 0 ([gm0].flatMap (cI .i64)),.glo 3 (glob_internal_strconv_uint64pow10.flatMap (cI .u64))]) (y5.length+([32,111,114,32]:List UInt8).length≤9223372036854775807) (0≤(1:Int)∧(a0.f4.map rS_PrepressCond)[(1:Int).toNat]? = some (cS_PrepressCond (a0.f4.getD (1:Int).toNat (S_PrepressCond.mk 0 [] 0 0 [])))) (ACall Tryz.prog 47 [.agg (cS_PrepressCond (a0.f4.getD (1:Int).toNat (S_PrepressCond.mk 0 [] 0 0 []))),.d (.v (.int .i64 (2:Int)))] [.glo 0 ([gm0].flatMap (cI .i64)),.glo 3 (glob_internal_strconv_uint64pow10.flatMap (cI .u64))] (.d (.str y6)) [.glo 0 ([gm0].flatMap (cI .i64)),.glo 3 (glob_internal_strconv_uint64pow10.flatMap (cI .u64))]) ((y5++([32,111,114,32]:List UInt8)).length+y6.length≤9223372036854775807)) 1 (by kernel_rfl) (by kernel_rfl) (by kernel_rfl) (have p2:=idx_okR (d:=(S_PrepressCond.mk 0 [] 0 0 [])) rS_PrepressCond_eq hp20; have p4:=hrec_prepress_show hy5; have p5:=hp21; have p8:=idx_okR (d:=(S_PrepressCond.mk 0 [] 0 0 [])) rS_PrepressCond_eq hp22; have p10:=hrec_prepress_show hy6; have p11:=hp23; ⟨p2,p4,p5,p8,p10,p11,p4,p5,p8,p10,p11,p8,p4,p5,p10,p11,p4,p5,p10,p11,p4,p5,p8,p10,p11,p8,p4,p5,p10,p11,p4,p5,p10,p11,p8,p4,p5,p10,p11,p4,p5,p10,p11,p4,p5,p10,p11,p2,p4,p5,p8,p10,p11,p8,p4,p5,p10,p11,p4,p5,p10,p11,p8,p4,p5,p10,p11,p4,p5,p10,p11,p4,p5,p10,p11,p8,p2,p4,p5,p10,p11,p4,p5,p10,p11,p4,p5,p10,p11,p2,p4,p5,p10,p11,p2,p4,p5,p8,p10,p11,p8,p4,p5,p10,p11,p4,p5,p10,p11,p8,p4,p5,p10,p11,p4,p5,p10,p11,p4,p5,p10,p11,p8,p2,p4,p5,p10,p11,p4,p5,p10,p11,p4,p5,p10,p11,p2,p4,p5,p10,p11,p8,p2,p4,p5,p10,p11,p4,p5,p10,p11,p4,p5,p10,p11,p2,p4,p5,p10,p11,p2,p4,p5,p10,p11⟩) fun a w hm=>inBlock_norm (then_norm (hm.co (cs:=[.keep [1,2,5,1000000,1000001]]) (by show _=_; kernel_rfl)))
  · skip
    refine T_seqk ?_
    obtain ⟨y7,hy7,h⟩:=call_ok h
    refine T_reg [(2,{ res:=.d (.v (.int .i64 y7)) })] [5,100,1000000,1000001] [(100,.d (.v (.bool (decide (y7 < a1)))))] [(2,ACall Tryz.prog 78 [.d (.v (.int .i64 a0.f0))] [] (.d (.v (.int .i64 y7))) [])] 2 (by kernel_rfl) (prepress_level_ok hy7) ?_
    refine T_cond (decide (y7 < a1)) (by kernel_rfl) (fun hc=>?_) (fun hc=>?_)
    · have h:=cond_tt hc h
      obtain ⟨hp24,h⟩:=chk_ok h
      obtain ⟨hp25,h⟩:=chk_ok h
      refine T_reg [] [4,1000000,1000001] [(4,.d (.str ((([40]:List UInt8)++v8)++([41]:List UInt8))))] [(1,([40]:List UInt8).length+v8.length≤9223372036854775807),(0,(([40]:List UInt8)++v8).length+([41]:List UInt8).length≤9223372036854775807)] 1 (by kernel_rfl) (⟨hp24,hp25⟩) ?_
      obtain hs:=Option.some.inj h; subst hs
      refine T_ret fun a w hm=>then_ret (T_return (fr':=[(4,.d (.str ((([40]:List UInt8)++v8)++([41]:List UInt8)))),(1000000,.glo 0 ([gm0].flatMap (cI .i64))),(1000001,.glo 3 (glob_internal_strconv_uint64pow10.flatMap (cI .u64)))]) [4] (by kernel_rfl) [.keep [4,1000000,1000001]] (by kernel_rfl) (by kernel_rfl) (by kernel_rfl) (by show _=_; kernel_rfl) (by exact ⟨⟨by kernel_rfl,by kernel_rfl⟩,⟨⟨by kernel_rfl,by kernel_rfl⟩,trivial⟩⟩) a w hm)
    · have h:=cond_ff hc h
      refine T_skip fun a w hm=>then_norm (((?_:T Tryz.prog e 105 _ _ _) a w hm))
      refine T_reg [] [4,1000000,1000001] [(4,.d (.str v8))] [] 2 (by kernel_rfl) (trivial) ?_
      obtain hs:=Option.some.inj h; subst hs
      refine T_ret fun a w hm=>T_return (fr':=[(4,.d (.str v8)),(1000000,.glo 0 ([gm0].flatMap (cI .i64))),(1000001,.glo 3 (glob_internal_strconv_uint64pow10.flatMap (cI .u64)))]) [4] (by kernel_rfl) [.keep [4,1000000,1000001]] (by kernel_rfl) (by kernel_rfl) (by kernel_rfl) (by show _=_; kernel_rfl) (by exact ⟨⟨by kernel_rfl,by kernel_rfl⟩,⟨⟨by kernel_rfl,by kernel_rfl⟩,trivial⟩⟩) a w hm
theorem prepress_show_fuel_ok {F:Nat} (n:Nat):∀ {a0:S_PrepressCond} {a1:Int} {r:(List UInt8)},prepress_show_fuel F n a0 a1=some r→ACall Tryz.prog 47 [.agg (cS_PrepressCond a0),.d (.v (.int .i64 a1))] [.glo 0 ([gm0].flatMap (cI .i64)),.glo 3 (glob_internal_strconv_uint64pow10.flatMap (cI .u64))] (.d (.str r)) [.glo 0 ([gm0].flatMap (cI .i64)),.glo 3 (glob_internal_strconv_uint64pow10.flatMap (cI .u64))]:=by
  induction n with
  | zero=>intro a0 a1 r h; exact absurd (show (none:Option ((List UInt8)))=some r from h) (by simp)
  | succ n ih=>intro a0 a1 r h; exact prepress_show_body_ok ih h
theorem prepress_show_ok {F:Nat} {a0:S_PrepressCond} {a1:Int} {r:(List UInt8)} (h:prepress_show F a0 a1=some r):ACall Tryz.prog 47 [.agg (cS_PrepressCond a0),.d (.v (.int .i64 a1))] [.glo 0 ([gm0].flatMap (cI .i64)),.glo 3 (glob_internal_strconv_uint64pow10.flatMap (cI .u64))] (.d (.str r)) [.glo 0 ([gm0].flatMap (cI .i64)),.glo 3 (glob_internal_strconv_uint64pow10.flatMap (cI .u64))]:=prepress_show_fuel_ok F h
theorem strings_Builder_WriteString_ok {F:Nat} {a0:List UInt8} {c1:List UInt8} {r:Int×Unit×(List UInt8)} (h:strings_Builder_WriteString F a0 c1=some r):ACall Tryz.prog 46 [.bp 1000000 0,.d (.str a0)] [.box [.slf 0 90,.own 5 1 (c1.map cU)]] (.tup [.d (.v (.int .i64 r.1)),.d (.v .nilIface)]) [.box [.slf 0 90,.own 5 1 (r.2.2.map cU)]]:=by
  rw [strings_Builder_WriteString] at h
  refine ACall.intro (N:=19) Tryz.func46 rfl rfl rfl rfl rfl fun e=>?_
  refine T_reg [] [0,1,1000000] [] [] 2 (by kernel_rfl) (trivial) ?_
  refine T_reg [(1,{ xs:=[1000000],res:=.tup [],vout:=[.box [.slf 0 90,.own 5 1 (c1.map cU)]] })] [0,1,1000000] [] [(1,ACall Tryz.prog 74 [.bp 1000000 0] [.box [.slf 0 90,.own 5 1 (c1.map cU)]] (.tup []) [.box [.slf 0 90,.own 5 1 (c1.map cU)]])] 0 (by kernel_rfl) (b_copyCheck (E:=90) (by kernel_rfl) (by kernel_rfl) (by kernel_rfl)) ?_
  obtain ⟨hp1,h⟩:=chk_ok h
  refine T_reg [(6,{ es:=some ((c1++a0).map cU) })] [1,1000000] [(1000000,.box [.slf 0 90,.own 5 1 ((c1++a0).map cU)])] [(6,(c1.map cU).length+(a0.map cU).length≤4294967296∧(c1.map cU)++(a0.map cU)=((c1++a0).map cU))] 3 (by kernel_rfl) (app_ok cU hp1) ?_
  refine T_reg [] [4,5,1000000] [(4,.d (.v (.int .i64 (a0.length:Int)))),(5,.d (.v .nilIface))] [] 4 (by kernel_rfl) (trivial) ?_
  obtain hs:=Option.some.inj h; subst hs
  refine T_ret fun a w hm=>T_return (fr':=[(4,.d (.v (.int .i64 (a0.length:Int)))),(5,.d (.v .nilIface)),(1000000,.box [.slf 0 90,.own 5 1 ((c1++a0).map cU)])]) [4,5] (by kernel_rfl) [.keep [4,5,1000000]] (by kernel_rfl) (by kernel_rfl) (by kernel_rfl) (by show _=_; kernel_rfl) (by exact ⟨⟨by kernel_rfl,by kernel_rfl⟩,trivial⟩) a w hm
theorem prepress_printed_ok {F:Nat} {a0:List S_PrepressRule} {r:(List UInt8)} (h:prepress_printed F a0=some r):ACall Tryz.prog 24 [.d (.sl 6 (a0.map cS_PrepressRule))] [.glo 0 ([gm0].flatMap (cI .i64)),.glo 3 (glob_internal_strconv_uint64pow10.flatMap (cI .u64))] (.d (.str r)) [.glo 0 ([gm0].flatMap (cI .i64)),.glo 3 (glob_internal_strconv_uint64pow10.flatMap (cI .u64))]:=by
  rw [prepress_printed] at h
  refine ACall.intro (N:=24) Tryz.func24 rfl rfl rfl rfl rfl fun e=>?_
  refine T_reg [] [0,1000000,1000001] [] [] 1 (by kernel_rfl) (trivial) ?_
  refine T_reg [(0,{ slfs:=[(0,0)] })] [0,3,1000000,1000001] [(3,.box [.slf 0 90,.own 5 1 ([].map cU)])] [] 1 (by kernel_rfl) (trivial) ?_
  refine T_seqk ?_
  refine T_reg [(1,{ rw:=some (.d (.v (.int .i64 (a0.length:Int)))) })] [3,6,7,8,1000000,1000001] [(6,.d (.sl 6 (a0.map cS_PrepressRule))),(7,.d (.v (.int .i64 (a0.length:Int)))),(8,.d (.v (.int .i64 (0:Int))))] [(1,True∧AV.d (.v (.int .i64 ((a0.map cS_PrepressRule).length:Int)))=.d (.v (.int .i64 (a0.length:Int))))] 1 (by kernel_rfl) (len_ok cS_PrepressRule) ?_
  refine T_joinct h (fun (p:(List UInt8))=>[(3,.box [.slf 0 90,.own 5 1 (p.map cU)]),(1000000,.glo 0 ([gm0].flatMap (cI .i64))),(1000001,.glo 3 (glob_internal_strconv_uint64pow10.flatMap (cI .u64)))]) (fun s h=>?_) (fun v3 h=>?_)
  · refine T_co [.keep [3,6,7,8,1000000,1000001]] ((fun (p:(List UInt8)×Int)=>[(3,.box [.slf 0 90,.own 5 1 (p.1.map cU)]),(6,.d (.sl 6 (a0.map cS_PrepressRule))),(7,.d (.v (.int .i64 (a0.length:Int)))),(8,.d (.v (.int .i64 p.2))),(1000000,.glo 0 ([gm0].flatMap (cI .i64))),(1000001,.glo 3 (glob_internal_strconv_uint64pow10.flatMap (cI .u64)))]) ([],(0:Int))) (by show _=_; kernel_rfl) ?_
    refine T_block ?_
    refine T_loopF (ι:=(List UInt8)×Int) (fun (p:(List UInt8)×Int)=>[(3,.box [.slf 0 90,.own 5 1 (p.1.map cU)]),(6,.d (.sl 6 (a0.map cS_PrepressRule))),(7,.d (.v (.int .i64 (a0.length:Int)))),(8,.d (.v (.int .i64 p.2))),(1000000,.glo 0 ([gm0].flatMap (cI .i64))),(1000001,.glo 3 (glob_internal_strconv_uint64pow10.flatMap (cI .u64)))]) (fun n p=>prepress_printed_L0 F a0 n p.1 p.2=some s) (fun i hh=>by simp [prepress_printed_L0] at hh) (fun n p h=>?_) F ([],(0:Int)) h
    obtain ⟨v1,v2⟩:=p
    have h:prepress_printed_L0 F a0 (n+1) v1 v2=some s:=h
    rw [prepress_printed_L0] at h
    refine T_reg [] [3,6,7,8,9,1000000,1000001] [(9,.d (.v (.bool (decide (v2 < (a0.length:Int))))))] [] 1 (by kernel_rfl) (trivial) ?_
    refine T_seqk ?_
    refine T_cond (decide (v2 < (a0.length:Int))) (by kernel_rfl) (fun hc=>?_) (fun hc=>?_)
    · have h:=cond_tt hc h
      refine T_skip fun a w hm=>then_norm (((?_:T Tryz.prog e 24 _ _ _) a w hm))
      refine T_seqk ?_
      refine T_block ?_
      obtain ⟨hp1,h⟩:=chk_ok h
      refine T_reg [(0,{ cs:=cS_PrepressRule (a0.getD v2.toNat (S_PrepressRule.mk [] (S_PrepressCond.mk 0 [] 0 0 []))) })] [3,5,6,7,8,1000000,1000001] [(5,.box [.d (.str ((a0.getD v2.toNat (S_PrepressRule.mk [] (S_PrepressCond.mk 0 [] 0 0 []))).f0)),.d (.v (.int .i64 (((a0.getD v2.toNat (S_PrepressRule.mk [] (S_PrepressCond.mk 0 [] 0 0 []))).f1).f0))),.d (.sl 2 ((((a0.getD v2.toNat (S_PrepressRule.mk [] (S_PrepressCond.mk 0 [] 0 0 []))).f1).f1).map cS_PrepressTerm)),.d (.v (.int .i64 (((a0.getD v2.toNat (S_PrepressRule.mk [] (S_PrepressCond.mk 0 [] 0 0 []))).f1).f2))),.d (.v (.int .i64 (((a0.getD v2.toNat (S_PrepressRule.mk [] (S_PrepressCond.mk 0 [] 0 0 []))).f1).f3))),.d (.sl 5 ((((a0.getD v2.toNat (S_PrepressRule.mk [] (S_PrepressCond.mk 0 [] 0 0 []))).f1).f4).map rS_PrepressCond))])] [(0,0≤v2∧(a0.map cS_PrepressRule)[v2.toNat]? = some (cS_PrepressRule (a0.getD v2.toNat (S_PrepressRule.mk [] (S_PrepressCond.mk 0 [] 0 0 [])))))] 3 (by kernel_rfl) (idx_ok (d:=(S_PrepressRule.mk [] (S_PrepressCond.mk 0 [] 0 0 []))) cS_PrepressRule hp1) ?_
      obtain ⟨hp2,h⟩:=chk_ok h
      obtain ⟨z1,hz1,h⟩:=lett_ok h
      obtain ⟨hp3,h⟩:=chk_ok h
      obtain ⟨y1,hy1,h⟩:=call_ok h
      obtain ⟨hp4,h⟩:=chk_ok h
      obtain ⟨hp5,h⟩:=chk_ok h
      obtain ⟨y2,hy2,h⟩:=call_ok h
      refine T_drawX_end mixed 3 (.take 0 (.take 4 (.all (.alt 1 (.take 2 (.take 3 (.all (.alt 5 (.all (.alt 6 (.take 7 (.take 8 (.all (.alt 9 .done .stop)))) .stop)) .stop)))) (.alt 5 (.all (.alt 1 (.take 2 (.take 3 (.all (.alt 6 (.take 7 (.take 8 (.all (.alt 9 .done .stop)))) .stop)))) (.alt 6 (.all (.alt 1 (.take 2 (.take 3 (.take 7 (.take 8 (.all (.alt 9 .done .stop)))))) .stop)) .stop))) .stop))))) ([0,1,2,4,0,16,32,72,128,320],[0,1,2,4,0,16,32,72,128,256]) 413 [(2,{ rw:=some (.d (.str z1)) }),(6,{ res:=.d (.str y1),vout:=[.glo 0 ([gm0].flatMap (cI .i64)),.glo 3 (glob_internal_strconv_uint64pow10.flatMap (cI .u64))],xs:=[1000000,1000001] }),(9,{ res:=.tup [.d (.v (.int .i64 y2.1)),.d (.v .nilIface)],vout:=[.box [.slf 0 90,.own 5 1 (y2.2.2.map cU)]],xs:=[3] })] [3,6,7,8,1000000,1000001] [] [(3,.box [.slf 0 90,.own 5 1 (y2.2.2.map cU)]),(6,.d (.sl 6 (a0.map cS_PrepressRule))),(7,.d (.v (.int .i64 (a0.length:Int)))),(8,.d (.v (.int .i64 v2))),(1000000,.glo 0 ([gm0].flatMap (cI .i64))),(1000001,.glo 3 (glob_internal_strconv_uint64pow10.flatMap (cI .u64)))] ((fun (o2:Prop)=>fun (o3:Prop)=>fun (o6:Prop)=>fun (o7:Prop)=>fun (o8:Prop)=>fun (o9:Prop)=>[(3,o2),(0,o3),(1,o6),(0,o7),(0,o8),(0,o9),(2,o2),(0,o3),(0,o6),(0,o7),(0,o8),(0,o9),(0,o6),(1,o2),(0,o3),(0,o7),(0,o8),(0,o9)]) ((([114,117,108,101,32]:List UInt8).length+((a0.getD v2.toNat (S_PrepressRule.mk [] (S_PrepressCond.mk 0 [] 0 0 []))).f0).length≤9223372036854775807)∧AV.d (.str (([114,117,108,101,32]:List UInt8)++((a0.getD v2.toNat (S_PrepressRule.mk [] (S_PrepressCond.mk 0 [] 0 0 []))).f0)))=.d (.str z1)) (z1.length+([58,32]:List UInt8).length≤9223372036854775807) (ACall Tryz.prog 47 [.agg (cS_PrepressCond ((a0.getD v2.toNat (S_PrepressRule.mk [] (S_PrepressCond.mk 0 [] 0 0 []))).f1)),.d (.v (.int .i64 (0:Int)))] [.glo 0 ([gm0].flatMap (cI .i64)),.glo 3 (glob_internal_strconv_uint64pow10.flatMap (cI .u64))] (.d (.str y1)) [.glo 0 ([gm0].flatMap (cI .i64)),.glo 3 (glob_internal_strconv_uint64pow10.flatMap (cI .u64))]) ((z1++([58,32]:List UInt8)).length+y1.length≤9223372036854775807) (((z1++([58,32]:List UInt8))++y1).length+([59,10]:List UInt8).length≤9223372036854775807) (ACall Tryz.prog 46 [.bp 1000000 0,.d (.str (((z1++([58,32]:List UInt8))++y1)++([59,10]:List UInt8)))] [.box [.slf 0 90,.own 5 1 (v1.map cU)]] (.tup [.d (.v (.int .i64 y2.1)),.d (.v .nilIface)]) [.box [.slf 0 90,.own 5 1 (y2.2.2.map cU)]])) 0 (by kernel_rfl) (by kernel_rfl) (by kernel_rfl) (have p2:=⟨hp2,(by subst hz1; rfl)⟩; have p3:=hp3; have p6:=prepress_show_ok hy1; have p7:=hp4; have p8:=hp5; have p9:=strings_Builder_WriteString_ok hy2; ⟨p2,p3,p6,p7,p8,p9,p2,p3,p6,p7,p8,p9,p6,p2,p3,p7,p8,p9⟩) fun a w hm=>inBlock_norm (then_norm (((?_:T Tryz.prog e 24 _ _ _) a w hm)))
      refine T_reg_end [] [3,6,7,8,1000000,1000001] [(8,.d (.v (.int .i64 (IntKind.i64.wrap (v2+(1:Int))))))] [] 2 (by kernel_rfl) (trivial) fun a w hm=>then_norm (⟨(y2.2.2,IntKind.i64.wrap (v2+(1:Int))),h,hm.co (cs:=[.keep [3,6,7,8,1000000,1000001]]) (by show _=_; kernel_rfl)⟩)
    · have h:=cond_ff hc h
      obtain hs:=Option.some.inj h; subst hs
      refine T_exit fun a w hm=>then_exit (then_exit (inBlock_exit (then_norm (hm.co (cs:=[.keep [3,1000000,1000001]]) (by show _=_; kernel_rfl)))))
  · skip
    refine fun a w hm=>then_norm (((?_:T Tryz.prog e 24 _ _ _) a w hm))
    obtain ⟨hp6,h⟩:=chk_ok h
    refine T_reg [(0,{ xs:=[3],vout:=[.box [.slf 0 90,.junk]],res:=.d (.str v3) })] [2,1000000,1000001] [(2,.d (.str v3))] [(0,ACall Tryz.prog 48 [.bp 1000000 0] [.box [.slf 0 90,.own 5 1 (v3.map cU)]] (.d (.str v3)) [.box [.slf 0 90,.junk]])] 1 (by kernel_rfl) (b_String (l:=v3) hp6 (by kernel_rfl) (by kernel_rfl)) ?_
    obtain hs:=Option.some.inj h; subst hs
    refine T_ret fun a w hm=>T_return (fr':=[(2,.d (.str v3)),(1000000,.glo 0 ([gm0].flatMap (cI .i64))),(1000001,.glo 3 (glob_internal_strconv_uint64pow10.flatMap (cI .u64)))]) [2] (by kernel_rfl) [.keep [2,1000000,1000001]] (by kernel_rfl) (by kernel_rfl) (by kernel_rfl) (by show _=_; kernel_rfl) (by exact ⟨⟨by kernel_rfl,by kernel_rfl⟩,⟨⟨by kernel_rfl,by kernel_rfl⟩,trivial⟩⟩) a w hm
theorem prepress_Check_ok {F:Nat} {a0:List S_PrepressRule} {r:Int} (h:prepress_Check F a0=some r):ACall Tryz.prog 9 [.d (.sl 6 (a0.map cS_PrepressRule))] [.glo 0 ([gm0].flatMap (cI .i64)),.glo 3 (glob_internal_strconv_uint64pow10.flatMap (cI .u64))] (.d (.v (.int .i64 r))) [.glo 0 ([gm0].flatMap (cI .i64)),.glo 3 (glob_internal_strconv_uint64pow10.flatMap (cI .u64))]:=by
  rw [prepress_Check] at h
  refine ACall.intro (N:=38) Tryz.func9 rfl rfl rfl rfl rfl fun e=>?_
  refine T_reg [] [0,1000000,1000001] [] [] 1 (by kernel_rfl) (trivial) ?_
  refine T_seqk ?_
  refine T_reg [(1,{ rw:=some (.d (.v (.int .i64 (a0.length:Int)))) })] [0,8,1000000,1000001] [(8,.d (.v (.bool (decide ((a0.length:Int) > (32:Int))))))] [(1,True∧AV.d (.v (.int .i64 ((a0.map cS_PrepressRule).length:Int)))=.d (.v (.int .i64 (a0.length:Int))))] 1 (by kernel_rfl) (len_ok cS_PrepressRule) ?_
  refine T_cond (decide ((a0.length:Int) > (32:Int))) (by kernel_rfl) (fun hc=>?_) (fun hc=>?_)
  · have h:=cond_tt hc h
    refine T_reg [] [2,1000000,1000001] [(2,.d (.v (.int .i64 (2:Int))))] [] 1 (by kernel_rfl) (trivial) ?_
    obtain hs:=Option.some.inj h; subst hs
    refine T_ret fun a w hm=>then_ret (T_return (fr':=[(2,.d (.v (.int .i64 (2:Int)))),(1000000,.glo 0 ([gm0].flatMap (cI .i64))),(1000001,.glo 3 (glob_internal_strconv_uint64pow10.flatMap (cI .u64)))]) [2] (by kernel_rfl) [.keep [2,1000000,1000001]] (by kernel_rfl) (by kernel_rfl) (by kernel_rfl) (by show _=_; kernel_rfl) (by exact ⟨⟨by kernel_rfl,by kernel_rfl⟩,⟨⟨by kernel_rfl,by kernel_rfl⟩,trivial⟩⟩) a w hm)
  · have h:=cond_ff hc h
    refine T_skip fun a w hm=>then_norm (((?_:T Tryz.prog e 38 _ _ _) a w hm))
    refine T_seqk ?_
    refine T_reg [(1,{ rw:=some (.d (.v (.int .i64 (a0.length:Int)))) })] [0,9,10,11,1000000,1000001] [(9,.d (.sl 6 (a0.map cS_PrepressRule))),(10,.d (.v (.int .i64 (a0.length:Int)))),(11,.d (.v (.int .i64 (0:Int))))] [(1,True∧AV.d (.v (.int .i64 ((a0.map cS_PrepressRule).length:Int)))=.d (.v (.int .i64 (a0.length:Int))))] 1 (by kernel_rfl) (len_ok cS_PrepressRule) ?_
    refine T_joinEt h (fun (p:Unit)=>[(0,.d (.sl 6 (a0.map cS_PrepressRule))),(1000000,.glo 0 ([gm0].flatMap (cI .i64))),(1000001,.glo 3 (glob_internal_strconv_uint64pow10.flatMap (cI .u64)))]) (fun s h hk1=>?_) (fun s h=>?_)
    · refine T_co [.keep [0,9,10,11,1000000,1000001]] ((fun (p:Int)=>[(0,.d (.sl 6 (a0.map cS_PrepressRule))),(9,.d (.sl 6 (a0.map cS_PrepressRule))),(10,.d (.v (.int .i64 (a0.length:Int)))),(11,.d (.v (.int .i64 p))),(1000000,.glo 0 ([gm0].flatMap (cI .i64))),(1000001,.glo 3 (glob_internal_strconv_uint64pow10.flatMap (cI .u64)))]) (0:Int)) (by show _=_; kernel_rfl) ?_
      refine T_block ?_
      refine T_loopF (ι:=Int) (fun (p:Int)=>[(0,.d (.sl 6 (a0.map cS_PrepressRule))),(9,.d (.sl 6 (a0.map cS_PrepressRule))),(10,.d (.v (.int .i64 (a0.length:Int)))),(11,.d (.v (.int .i64 p))),(1000000,.glo 0 ([gm0].flatMap (cI .i64))),(1000001,.glo 3 (glob_internal_strconv_uint64pow10.flatMap (cI .u64)))]) (fun n p=>prepress_Check_L0 F a0 n p=some s) (fun i hh=>by simp [prepress_Check_L0] at hh) (fun n v1 h=>?_) F (0:Int) h
      have h:prepress_Check_L0 F a0 (n+1) v1=some s:=h
      rw [prepress_Check_L0] at h
      refine T_reg [] [0,9,10,11,12,1000000,1000001] [(12,.d (.v (.bool (decide (v1 < (a0.length:Int))))))] [] 1 (by kernel_rfl) (trivial) ?_
      refine T_seqk ?_
      refine T_cond (decide (v1 < (a0.length:Int))) (by kernel_rfl) (fun hc=>?_) (fun hc=>?_)
      · have h:=cond_tt hc h
        refine T_skip fun a w hm=>then_norm (((?_:T Tryz.prog e 38 _ _ _) a w hm))
        refine T_seqk ?_
        refine T_block ?_
        obtain ⟨hp1,h⟩:=chk_ok h
        refine T_reg [(1,{ cs:=cS_PrepressRule (a0.getD v1.toNat (S_PrepressRule.mk [] (S_PrepressCond.mk 0 [] 0 0 []))) })] [0,3,4,9,10,11,1000000,1000001] [(3,.d (.v (.int .i64 v1))),(4,.box [.d (.str ((a0.getD v1.toNat (S_PrepressRule.mk [] (S_PrepressCond.mk 0 [] 0 0 []))).f0)),.d (.v (.int .i64 (((a0.getD v1.toNat (S_PrepressRule.mk [] (S_PrepressCond.mk 0 [] 0 0 []))).f1).f0))),.d (.sl 2 ((((a0.getD v1.toNat (S_PrepressRule.mk [] (S_PrepressCond.mk 0 [] 0 0 []))).f1).f1).map cS_PrepressTerm)),.d (.v (.int .i64 (((a0.getD v1.toNat (S_PrepressRule.mk [] (S_PrepressCond.mk 0 [] 0 0 []))).f1).f2))),.d (.v (.int .i64 (((a0.getD v1.toNat (S_PrepressRule.mk [] (S_PrepressCond.mk 0 [] 0 0 []))).f1).f3))),.d (.sl 5 ((((a0.getD v1.toNat (S_PrepressRule.mk [] (S_PrepressCond.mk 0 [] 0 0 []))).f1).f4).map rS_PrepressCond))])] [(1,0≤v1∧(a0.map cS_PrepressRule)[v1.toNat]? = some (cS_PrepressRule (a0.getD v1.toNat (S_PrepressRule.mk [] (S_PrepressCond.mk 0 [] 0 0 [])))))] 4 (by kernel_rfl) (idx_ok (d:=(S_PrepressRule.mk [] (S_PrepressCond.mk 0 [] 0 0 []))) cS_PrepressRule hp1) ?_
        refine T_seqk ?_
        obtain ⟨y1,hy1,h⟩:=call_ok h
        refine T_reg [(2,{ res:=.d (.v (.bool y1)) })] [0,3,4,9,10,11,19,1000000,1000001] [(19,.d (.v (.bool (!y1))))] [(2,ACall Tryz.prog 27 [.d (.str ((a0.getD v1.toNat (S_PrepressRule.mk [] (S_PrepressCond.mk 0 [] 0 0 []))).f0))] [] (.d (.v (.bool y1))) [])] 1 (by kernel_rfl) (prepress_plain_ok hy1) ?_
        refine T_cond (!y1) (by kernel_rfl) (fun hc=>?_) (fun hc=>?_)
        · have h:=cond_tt hc h
          refine T_reg [] [2,1000000,1000001] [(2,.d (.v (.int .i64 (6:Int))))] [] 1 (by kernel_rfl) (trivial) ?_
          obtain hs:=Option.some.inj h; subst hs
          have h:=callE_esc hk1
          obtain hs:=Option.some.inj h; subst hs
          refine T_ret fun a w hm=>then_ret (inBlock_ret (then_ret (then_ret (inBlock_ret (then_ret (then_ret (T_return (fr':=[(2,.d (.v (.int .i64 (6:Int)))),(1000000,.glo 0 ([gm0].flatMap (cI .i64))),(1000001,.glo 3 (glob_internal_strconv_uint64pow10.flatMap (cI .u64)))]) [2] (by kernel_rfl) [.keep [2,1000000,1000001]] (by kernel_rfl) (by kernel_rfl) (by kernel_rfl) (by show _=_; kernel_rfl) (by exact ⟨⟨by kernel_rfl,by kernel_rfl⟩,⟨⟨by kernel_rfl,by kernel_rfl⟩,trivial⟩⟩) a w hm)))))))
        · have h:=cond_ff hc h
          refine T_skip fun a w hm=>then_norm (((?_:T Tryz.prog e 38 _ _ _) a w hm))
          refine T_seqk ?_
          obtain ⟨hp2,h⟩:=chk_ok h
          obtain ⟨y2,hy2,h⟩:=call_ok h
          refine T_reg [(2,{ rw:=some (.d (.sl 6 (((a0.drop (0:Int).toNat).take (v1.toNat - (0:Int).toNat)).map cS_PrepressRule))) }),(4,{ res:=.d (.v (.bool y2.1)),vout:=[.box [.d (.str y2.2.1),.d (.v (.int .i64 y2.2.2.1)),.d (.sl 2 (y2.2.2.2.1.map cS_PrepressTerm)),.d (.v (.int .i64 y2.2.2.2.2.1)),.d (.v (.int .i64 y2.2.2.2.2.2.1)),.d (.sl 5 (y2.2.2.2.2.2.2.map rS_PrepressCond))]],xs:=[4] })] [0,4,9,10,11,24,1000000,1000001] [(4,.box [.d (.str y2.2.1),.d (.v (.int .i64 y2.2.2.1)),.d (.sl 2 (y2.2.2.2.1.map cS_PrepressTerm)),.d (.v (.int .i64 y2.2.2.2.2.1)),.d (.v (.int .i64 y2.2.2.2.2.2.1)),.d (.sl 5 (y2.2.2.2.2.2.2.map rS_PrepressCond))]),(24,.d (.v (.bool y2.1)))] [(2,(0≤(0:Int)∧(0:Int)≤v1∧v1≤((a0.map cS_PrepressRule).length:Int))∧AV.d (.sl 6 (((a0.map cS_PrepressRule).drop (0:Int).toNat).take (v1.toNat - (0:Int).toNat)))=.d (.sl 6 (((a0.drop (0:Int).toNat).take (v1.toNat - (0:Int).toNat)).map cS_PrepressRule))),(1,ACall Tryz.prog 28 [.d (.sl 6 (((a0.drop (0:Int).toNat).take (v1.toNat - (0:Int).toNat)).map cS_PrepressRule)),.clo 29 [.bp 1000000 0]] [.box [.d (.str ((a0.getD v1.toNat (S_PrepressRule.mk [] (S_PrepressCond.mk 0 [] 0 0 []))).f0)),.d (.v (.int .i64 (((a0.getD v1.toNat (S_PrepressRule.mk [] (S_PrepressCond.mk 0 [] 0 0 []))).f1).f0))),.d (.sl 2 ((((a0.getD v1.toNat (S_PrepressRule.mk [] (S_PrepressCond.mk 0 [] 0 0 []))).f1).f1).map cS_PrepressTerm)),.d (.v (.int .i64 (((a0.getD v1.toNat (S_PrepressRule.mk [] (S_PrepressCond.mk 0 [] 0 0 []))).f1).f2))),.d (.v (.int .i64 (((a0.getD v1.toNat (S_PrepressRule.mk [] (S_PrepressCond.mk 0 [] 0 0 []))).f1).f3))),.d (.sl 5 ((((a0.getD v1.toNat (S_PrepressRule.mk [] (S_PrepressCond.mk 0 [] 0 0 []))).f1).f4).map rS_PrepressCond))]] (.d (.v (.bool y2.1))) [.box [.d (.str y2.2.1),.d (.v (.int .i64 y2.2.2.1)),.d (.sl 2 (y2.2.2.2.1.map cS_PrepressTerm)),.d (.v (.int .i64 y2.2.2.2.2.1)),.d (.v (.int .i64 y2.2.2.2.2.2.1)),.d (.sl 5 (y2.2.2.2.2.2.2.map rS_PrepressCond))]])] 0 (by kernel_rfl) (⟨cutH cS_PrepressRule hp2,slices_ContainsFunc_PrepressRule_ok hy2⟩) ?_
          refine T_cond y2.1 (by kernel_rfl) (fun hc=>?_) (fun hc=>?_)
          · have h:=cond_tt hc h
            refine T_reg [] [2,1000000,1000001] [(2,.d (.v (.int .i64 (7:Int))))] [] 1 (by kernel_rfl) (trivial) ?_
            obtain hs:=Option.some.inj h; subst hs
            have h:=callE_esc hk1
            obtain hs:=Option.some.inj h; subst hs
            refine T_ret fun a w hm=>then_ret (inBlock_ret (then_ret (then_ret (inBlock_ret (then_ret (then_ret (T_return (fr':=[(2,.d (.v (.int .i64 (7:Int)))),(1000000,.glo 0 ([gm0].flatMap (cI .i64))),(1000001,.glo 3 (glob_internal_strconv_uint64pow10.flatMap (cI .u64)))]) [2] (by kernel_rfl) [.keep [2,1000000,1000001]] (by kernel_rfl) (by kernel_rfl) (by kernel_rfl) (by show _=_; kernel_rfl) (by exact ⟨⟨by kernel_rfl,by kernel_rfl⟩,⟨⟨by kernel_rfl,by kernel_rfl⟩,trivial⟩⟩) a w hm)))))))
          · have h:=cond_ff hc h
            refine T_skip fun a w hm=>then_norm (((?_:T Tryz.prog e 38 _ _ _) a w hm))
            obtain ⟨y3,hy3,h⟩:=call_ok h
            refine T_reg [(4,{ res:=.d (.v (.int .i64 y3.1)),vout:=[.box [.d (.v (.int .i64 y3.2))]],xs:=[26] })] [0,5,9,10,11,1000000,1000001] [(5,.d (.v (.int .i64 y3.1)))] [(4,ACall Tryz.prog 30 [.bp 1000000 0,.agg (cS_PrepressCond (S_PrepressCond.mk y2.2.2.1 y2.2.2.2.1 y2.2.2.2.2.1 y2.2.2.2.2.2.1 y2.2.2.2.2.2.2)),.d (.v (.int .i64 (1:Int)))] [.box [.d (.v (.int .i64 0))]] (.d (.v (.int .i64 y3.1))) [.box [.d (.v (.int .i64 y3.2))]])] 1 (by kernel_rfl) (prepress_checker_cond_ok hy3) ?_
            refine T_reg [] [0,5,9,10,11,31,1000000,1000001] [(31,.d (.v (.bool (y3.1 != (0:Int)))))] [] 2 (by kernel_rfl) (trivial) ?_
            refine T_cond (y3.1 != (0:Int)) (by kernel_rfl) (fun hc=>?_) (fun hc=>?_)
            · have h:=cond_tt hc h
              refine T_reg [] [2,1000000,1000001] [(2,.d (.v (.int .i64 y3.1)))] [] 2 (by kernel_rfl) (trivial) ?_
              obtain hs:=Option.some.inj h; subst hs
              have h:=callE_esc hk1
              obtain hs:=Option.some.inj h; subst hs
              refine T_ret fun a w hm=>inBlock_ret (then_ret (then_ret (inBlock_ret (then_ret (then_ret (T_return (fr':=[(2,.d (.v (.int .i64 y3.1))),(1000000,.glo 0 ([gm0].flatMap (cI .i64))),(1000001,.glo 3 (glob_internal_strconv_uint64pow10.flatMap (cI .u64)))]) [2] (by kernel_rfl) [.keep [2,1000000,1000001]] (by kernel_rfl) (by kernel_rfl) (by kernel_rfl) (by show _=_; kernel_rfl) (by exact ⟨⟨by kernel_rfl,by kernel_rfl⟩,⟨⟨by kernel_rfl,by kernel_rfl⟩,trivial⟩⟩) a w hm))))))
            · have h:=cond_ff hc h
              refine T_skip fun a w hm=>inBlock_norm (then_norm (((?_:T Tryz.prog e 38 _ _ _) a w hm)))
              refine T_reg_end [] [0,9,10,11,1000000,1000001] [(11,.d (.v (.int .i64 (IntKind.i64.wrap (v1+(1:Int))))))] [] 2 (by kernel_rfl) (trivial) fun a w hm=>then_norm (⟨IntKind.i64.wrap (v1+(1:Int)),h,hm.co (cs:=[.keep [0,9,10,11,1000000,1000001]]) (by show _=_; kernel_rfl)⟩)
      · have h:=cond_ff hc h
        obtain hs:=Option.some.inj h; subst hs
        refine T_exit fun a w hm=>then_exit (then_exit (inBlock_exit (then_norm (⟨_,rfl,hm.co (cs:=[.keep [0,1000000,1000001]]) (by show _=_; kernel_rfl)⟩))))
    · skip
      refine fun a w hm=>then_norm (((?_:T Tryz.prog e 38 _ _ _) a w hm))
      refine T_seqk ?_
      obtain ⟨y4,hy4,h⟩:=call_ok h
      refine T_reg [(1,{ res:=.d (.str y4),vout:=[.glo 0 ([gm0].flatMap (cI .i64)),.glo 3 (glob_internal_strconv_uint64pow10.flatMap (cI .u64))],xs:=[1000000,1000001] })] [37,1000000,1000001] [(37,.d (.v (.bool (decide ((y4.length:Int) > (4096:Int))))))] [(1,ACall Tryz.prog 24 [.d (.sl 6 (a0.map cS_PrepressRule))] [.glo 0 ([gm0].flatMap (cI .i64)),.glo 3 (glob_internal_strconv_uint64pow10.flatMap (cI .u64))] (.d (.str y4)) [.glo 0 ([gm0].flatMap (cI .i64)),.glo 3 (glob_internal_strconv_uint64pow10.flatMap (cI .u64))])] 2 (by kernel_rfl) (prepress_printed_ok hy4) ?_
      refine T_cond (decide ((y4.length:Int) > (4096:Int))) (by kernel_rfl) (fun hc=>?_) (fun hc=>?_)
      · have h:=cond_tt hc h
        refine T_reg [] [2,1000000,1000001] [(2,.d (.v (.int .i64 (2:Int))))] [] 1 (by kernel_rfl) (trivial) ?_
        obtain hs:=Option.some.inj h; subst hs
        refine T_ret fun a w hm=>then_ret (T_return (fr':=[(2,.d (.v (.int .i64 (2:Int)))),(1000000,.glo 0 ([gm0].flatMap (cI .i64))),(1000001,.glo 3 (glob_internal_strconv_uint64pow10.flatMap (cI .u64)))]) [2] (by kernel_rfl) [.keep [2,1000000,1000001]] (by kernel_rfl) (by kernel_rfl) (by kernel_rfl) (by show _=_; kernel_rfl) (by exact ⟨⟨by kernel_rfl,by kernel_rfl⟩,⟨⟨by kernel_rfl,by kernel_rfl⟩,trivial⟩⟩) a w hm)
      · have h:=cond_ff hc h
        refine T_skip fun a w hm=>then_norm (((?_:T Tryz.prog e 38 _ _ _) a w hm))
        refine T_reg [] [2,1000000,1000001] [(2,.d (.v (.int .i64 (0:Int))))] [] 1 (by kernel_rfl) (trivial) ?_
        obtain hs:=Option.some.inj h; subst hs
        refine T_ret fun a w hm=>T_return (fr':=[(2,.d (.v (.int .i64 (0:Int)))),(1000000,.glo 0 ([gm0].flatMap (cI .i64))),(1000001,.glo 3 (glob_internal_strconv_uint64pow10.flatMap (cI .u64)))]) [2] (by kernel_rfl) [.keep [2,1000000,1000001]] (by kernel_rfl) (by kernel_rfl) (by kernel_rfl) (by show _=_; kernel_rfl) (by exact ⟨⟨by kernel_rfl,by kernel_rfl⟩,⟨⟨by kernel_rfl,by kernel_rfl⟩,trivial⟩⟩) a w hm
theorem prepress_CheckFacts_ok {F:Nat} {a0:List S_PrepressFact} {r:Int} (h:prepress_CheckFacts F a0=some r):ACall Tryz.prog 32 [.d (.sl 2 (a0.map cS_PrepressFact))] [] (.d (.v (.int .i64 r))) []:=by
  rw [prepress_CheckFacts] at h
  refine ACall.intro (N:=44) Tryz.func32 rfl rfl rfl rfl rfl fun e=>?_
  refine T_reg [] [0] [] [] 1 (by kernel_rfl) (trivial) ?_
  refine T_seqk ?_
  refine T_reg [(1,{ rw:=some (.d (.v (.int .i64 (a0.length:Int)))) })] [0,7] [(7,.d (.v (.bool (decide ((a0.length:Int) > (64:Int))))))] [(1,True∧AV.d (.v (.int .i64 ((a0.map cS_PrepressFact).length:Int)))=.d (.v (.int .i64 (a0.length:Int))))] 1 (by kernel_rfl) (len_ok cS_PrepressFact) ?_
  refine T_cond (decide ((a0.length:Int) > (64:Int))) (by kernel_rfl) (fun hc=>?_) (fun hc=>?_)
  · have h:=cond_tt hc h
    refine T_reg [] [2] [(2,.d (.v (.int .i64 (2:Int))))] [] 1 (by kernel_rfl) (trivial) ?_
    obtain hs:=Option.some.inj h; subst hs
    refine T_ret fun a w hm=>then_ret (T_return (fr':=[(2,.d (.v (.int .i64 (2:Int))))]) [2] (by kernel_rfl) [.keep [2]] (by kernel_rfl) (by kernel_rfl) (by kernel_rfl) (by show _=_; kernel_rfl) (by exact trivial) a w hm)
  · have h:=cond_ff hc h
    refine T_skip fun a w hm=>then_norm (((?_:T Tryz.prog e 44 _ _ _) a w hm))
    refine T_seqk ?_
    refine T_reg [(1,{ rw:=some (.d (.v (.int .i64 (a0.length:Int)))) })] [0,8,9,10] [(8,.d (.sl 2 (a0.map cS_PrepressFact))),(9,.d (.v (.int .i64 (a0.length:Int)))),(10,.d (.v (.int .i64 (0:Int))))] [(1,True∧AV.d (.v (.int .i64 ((a0.map cS_PrepressFact).length:Int)))=.d (.v (.int .i64 (a0.length:Int))))] 1 (by kernel_rfl) (len_ok cS_PrepressFact) ?_
    refine T_joinEt h (fun (p:Unit)=>[]) (fun s h hk1=>?_) (fun s h=>?_)
    · refine T_co [.keep [0,8,9,10]] ((fun (p:Int)=>[(0,.d (.sl 2 (a0.map cS_PrepressFact))),(8,.d (.sl 2 (a0.map cS_PrepressFact))),(9,.d (.v (.int .i64 (a0.length:Int)))),(10,.d (.v (.int .i64 p)))]) (0:Int)) (by show _=_; kernel_rfl) ?_
      refine T_block ?_
      refine T_loopF (ι:=Int) (fun (p:Int)=>[(0,.d (.sl 2 (a0.map cS_PrepressFact))),(8,.d (.sl 2 (a0.map cS_PrepressFact))),(9,.d (.v (.int .i64 (a0.length:Int)))),(10,.d (.v (.int .i64 p)))]) (fun n p=>prepress_CheckFacts_L0 F a0 n p=some s) (fun i hh=>by simp [prepress_CheckFacts_L0] at hh) (fun n v1 h=>?_) F (0:Int) h
      have h:prepress_CheckFacts_L0 F a0 (n+1) v1=some s:=h
      rw [prepress_CheckFacts_L0] at h
      refine T_reg [] [0,8,9,10,11] [(11,.d (.v (.bool (decide (v1 < (a0.length:Int))))))] [] 1 (by kernel_rfl) (trivial) ?_
      refine T_seqk ?_
      refine T_cond (decide (v1 < (a0.length:Int))) (by kernel_rfl) (fun hc=>?_) (fun hc=>?_)
      · have h:=cond_tt hc h
        refine T_skip fun a w hm=>then_norm (((?_:T Tryz.prog e 44 _ _ _) a w hm))
        refine T_seqk ?_
        refine T_block ?_
        obtain ⟨hp1,h⟩:=chk_ok h
        refine T_reg [(1,{ cs:=cS_PrepressFact (a0.getD v1.toNat (S_PrepressFact.mk [] 0)) })] [0,3,4,8,9,10] [(3,.d (.v (.int .i64 v1))),(4,.box [.d (.str ((a0.getD v1.toNat (S_PrepressFact.mk [] 0)).f0)),.d (.v (.int .i64 ((a0.getD v1.toNat (S_PrepressFact.mk [] 0)).f1)))])] [(1,0≤v1∧(a0.map cS_PrepressFact)[v1.toNat]? = some (cS_PrepressFact (a0.getD v1.toNat (S_PrepressFact.mk [] 0))))] 4 (by kernel_rfl) (idx_ok (d:=(S_PrepressFact.mk [] 0)) cS_PrepressFact hp1) ?_
        refine T_block ?_
        obtain ⟨y1,hy1,h⟩:=call_ok h
        refine T_reg [(2,{ res:=.d (.v (.bool y1)) })] [0,3,4,8,9,10,15] [(15,.d (.v (.bool (!y1))))] [(2,ACall Tryz.prog 27 [.d (.str ((a0.getD v1.toNat (S_PrepressFact.mk [] 0)).f0))] [] (.d (.v (.bool y1))) [])] 2 (by kernel_rfl) (prepress_plain_ok hy1) ?_
        refine T_cond (!y1) (by kernel_rfl) (fun hc=>?_) (fun hc=>?_)
        · have h:=cond_tt hc h
          refine T_reg [] [2] [(2,.d (.v (.int .i64 (6:Int))))] [] 1 (by kernel_rfl) (trivial) ?_
          obtain hs:=Option.some.inj h; subst hs
          have h:=callE_esc hk1
          obtain hs:=Option.some.inj h; subst hs
          refine T_ret fun a w hm=>inBlock_ret (inBlock_ret (then_ret (then_ret (inBlock_ret (then_ret (then_ret (T_return (fr':=[(2,.d (.v (.int .i64 (6:Int))))]) [2] (by kernel_rfl) [.keep [2]] (by kernel_rfl) (by kernel_rfl) (by kernel_rfl) (by show _=_; kernel_rfl) (by exact trivial) a w hm)))))))
        · have h:=cond_ff hc h
          obtain ⟨z1,hz1,h⟩:=lett_ok h
          refine T_reg [(7,{ rw:=some (.d (.v (.bool z1))) })] [0,3,4,8,9,10,20] [(20,.d (.v (.bool z1)))] [(4,((((decide (((a0.getD v1.toNat (S_PrepressFact.mk [] 0)).f1) < (-2147483648:Int))) == false) && true)=true→True)),(0,((((decide (((a0.getD v1.toNat (S_PrepressFact.mk [] 0)).f1) < (-2147483648:Int))) == false) && true)=true→True)),(0,((((decide (((a0.getD v1.toNat (S_PrepressFact.mk [] 0)).f1) < (-2147483648:Int))) == false) && true)=true→True)),(0,(True)∧AV.d (.v (.bool (bif (decide (((a0.getD v1.toNat (S_PrepressFact.mk [] 0)).f1) < (-2147483648:Int))) then true else (decide (((a0.getD v1.toNat (S_PrepressFact.mk [] 0)).f1) > (2147483648:Int))))))=.d (.v (.bool z1)))] 1 (by kernel_rfl) (⟨(fun hg=>trivial),(fun hg=>trivial),(fun hg=>trivial),⟨trivial,(by subst hz1; rfl)⟩⟩) ?_
          refine T_cond z1 (by kernel_rfl) (fun hc=>?_) (fun hc=>?_)
          · have h:=cond_tt hc h
            refine T_reg [] [2] [(2,.d (.v (.int .i64 (3:Int))))] [] 1 (by kernel_rfl) (trivial) ?_
            obtain hs:=Option.some.inj h; subst hs
            have h:=callE_esc hk1
            obtain hs:=Option.some.inj h; subst hs
            refine T_ret fun a w hm=>inBlock_ret (inBlock_ret (then_ret (then_ret (inBlock_ret (then_ret (then_ret (T_return (fr':=[(2,.d (.v (.int .i64 (3:Int))))]) [2] (by kernel_rfl) [.keep [2]] (by kernel_rfl) (by kernel_rfl) (by kernel_rfl) (by show _=_; kernel_rfl) (by exact trivial) a w hm)))))))
          · have h:=cond_ff hc h
            obtain ⟨hp2,h⟩:=chk_ok h
            obtain ⟨z2,hz2,h⟩:=lett_ok h
            refine T_draw mixed [(6,{ cs:=cS_PrepressFact (a0.getD (IntKind.i64.wrap (v1 - (1:Int))).toNat (S_PrepressFact.mk [] 0)) }),(11,{ rw:=some (.d (.v (.bool z2))) })] [0,8,9,10,29] [] [(0,.d (.sl 2 (a0.map cS_PrepressFact))),(8,.d (.sl 2 (a0.map cS_PrepressFact))),(9,.d (.v (.int .i64 (a0.length:Int)))),(10,.d (.v (.int .i64 v1))),(29,.d (.v (.bool (bif (decide (v1 > (0:Int))) then z2 else false))))] [(3,((((decide (v1 > (0:Int))) == true) && true)=true→True)),(0,((((decide (v1 > (0:Int))) == true) && true)=true→True)),(0,((((decide (v1 > (0:Int))) == true) && true)=true→True)),(0,((((decide (v1 > (0:Int))) == true) && true)=true→0≤(IntKind.i64.wrap (v1 - (1:Int)))∧(a0.map cS_PrepressFact)[(IntKind.i64.wrap (v1 - (1:Int))).toNat]? = some (cS_PrepressFact (a0.getD (IntKind.i64.wrap (v1 - (1:Int))).toNat (S_PrepressFact.mk [] 0))))),(0,((((decide (v1 > (0:Int))) == true) && true)=true→True)),(0,((((decide (v1 > (0:Int))) == true) && true)=true→True)),(0,((((decide (v1 > (0:Int))) == true) && true)=true→True)),(0,((((decide (v1 > (0:Int))) == true) && true)=true→True)),(0,((((decide (v1 > (0:Int))) == true) && true)=true→(True)∧AV.d (.v (.bool (!(Op.bytesLess ((a0.getD (IntKind.i64.wrap (v1 - (1:Int))).toNat (S_PrepressFact.mk [] 0)).f0) ((a0.getD v1.toNat (S_PrepressFact.mk [] 0)).f0)))))=.d (.v (.bool z2))))] 2 (by kernel_rfl) (⟨(fun hg=>trivial),(fun hg=>trivial),(fun hg=>trivial),(fun hg=>idx_ok (d:=(S_PrepressFact.mk [] 0)) cS_PrepressFact (hp2 hg)),(fun hg=>trivial),(fun hg=>trivial),(fun hg=>trivial),(fun hg=>trivial),(fun hg=>⟨trivial,(by subst hz2; rfl)⟩)⟩) ?_
            refine T_cond (bif (decide (v1 > (0:Int))) then z2 else false) (by kernel_rfl) (fun hc=>?_) (fun hc=>?_)
            · have h:=cond_tt hc h
              refine T_reg [] [2] [(2,.d (.v (.int .i64 (18:Int))))] [] 1 (by kernel_rfl) (trivial) ?_
              obtain hs:=Option.some.inj h; subst hs
              have h:=callE_esc hk1
              obtain hs:=Option.some.inj h; subst hs
              refine T_ret fun a w hm=>inBlock_ret (inBlock_ret (then_ret (then_ret (inBlock_ret (then_ret (then_ret (T_return (fr':=[(2,.d (.v (.int .i64 (18:Int))))]) [2] (by kernel_rfl) [.keep [2]] (by kernel_rfl) (by kernel_rfl) (by kernel_rfl) (by show _=_; kernel_rfl) (by exact trivial) a w hm)))))))
            · have h:=cond_ff hc h
              refine T_skip fun a w hm=>inBlock_norm (inBlock_norm (then_norm (((?_:T Tryz.prog e 44 _ _ _) a w hm))))
              refine T_reg_end [] [0,8,9,10] [(10,.d (.v (.int .i64 (IntKind.i64.wrap (v1+(1:Int))))))] [] 2 (by kernel_rfl) (trivial) fun a w hm=>then_norm (⟨IntKind.i64.wrap (v1+(1:Int)),h,hm.co (cs:=[.keep [0,8,9,10]]) (by show _=_; kernel_rfl)⟩)
      · have h:=cond_ff hc h
        obtain hs:=Option.some.inj h; subst hs
        refine T_exit fun a w hm=>then_exit (then_exit (inBlock_exit (then_norm (⟨_,rfl,hm.co (cs:=[.keep []]) (by show _=_; kernel_rfl)⟩))))
    · skip
      refine fun a w hm=>then_norm (((?_:T Tryz.prog e 44 _ _ _) a w hm))
      refine T_reg [] [2] [(2,.d (.v (.int .i64 (0:Int))))] [] 1 (by kernel_rfl) (trivial) ?_
      obtain hs:=Option.some.inj h; subst hs
      refine T_ret fun a w hm=>T_return (fr':=[(2,.d (.v (.int .i64 (0:Int))))]) [2] (by kernel_rfl) [.keep [2]] (by kernel_rfl) (by kernel_rfl) (by kernel_rfl) (by show _=_; kernel_rfl) (by exact trivial) a w hm
theorem cmp_isNaN_string_ok {F:Nat} {a0:List UInt8} {r:Bool} (h:cmp_isNaN_string F a0=some r):ACall Tryz.prog 63 [.d (.str a0)] [] (.d (.v (.bool r))) []:=by
  rw [cmp_isNaN_string] at h
  refine ACall.intro (N:=6) Tryz.func63 rfl rfl rfl rfl rfl fun e=>?_
  refine T_reg [] [0] [] [] 1 (by kernel_rfl) (trivial) ?_
  refine T_reg [] [2] [(2,.d (.v (.bool (!(a0 == a0)))))] [] 4 (by kernel_rfl) (trivial) ?_
  obtain hs:=Option.some.inj h; subst hs
  refine T_ret fun a w hm=>T_return (fr':=[(2,.d (.v (.bool (!(a0 == a0)))))]) [2] (by kernel_rfl) [.keep [2]] (by kernel_rfl) (by kernel_rfl) (by kernel_rfl) (by show _=_; kernel_rfl) (by exact trivial) a w hm
theorem cmp_Compare_string_ok {F:Nat} {a0:List UInt8} {a1:List UInt8} {r:Int} (h:cmp_Compare_string F a0 a1=some r):ACall Tryz.prog 61 [.d (.str a0),.d (.str a1)] [] (.d (.v (.int .i64 r))) []:=by
  rw [cmp_Compare_string] at h
  refine ACall.intro (N:=20) Tryz.func61 rfl rfl rfl rfl rfl fun e=>?_
  refine T_reg [] [0,1] [] [] 1 (by kernel_rfl) (trivial) ?_
  obtain ⟨y1,hy1,h⟩:=call_ok h
  refine T_reg [(1,{ res:=.d (.v (.bool y1)) })] [0,1,5] [(5,.d (.v (.bool y1)))] [(1,ACall Tryz.prog 63 [.d (.str a0)] [] (.d (.v (.bool y1))) [])] 1 (by kernel_rfl) (cmp_isNaN_string_ok hy1) ?_
  obtain ⟨y2,hy2,h⟩:=call_ok h
  refine T_reg [(1,{ res:=.d (.v (.bool y2)) })] [0,1,5,6] [(6,.d (.v (.bool y2)))] [(1,ACall Tryz.prog 63 [.d (.str a1)] [] (.d (.v (.bool y2))) [])] 1 (by kernel_rfl) (cmp_isNaN_string_ok hy2) ?_
  refine T_seqk ?_
  refine T_reg [] [0,1,6,11] [(11,.d (.v (.bool y1)))] [] 1 (by kernel_rfl) (trivial) ?_
  refine T_cond y1 (by kernel_rfl) (fun hc=>?_) (fun hc=>?_)
  · have h:=cond_tt hc h
    refine T_seqk ?_
    refine T_reg [] [12] [(12,.d (.v (.bool y2)))] [] 1 (by kernel_rfl) (trivial) ?_
    refine T_cond y2 (by kernel_rfl) (fun hc=>?_) (fun hc=>?_)
    · have h:=cond_tt hc h
      refine T_reg [] [4] [(4,.d (.v (.int .i64 (0:Int))))] [] 1 (by kernel_rfl) (trivial) ?_
      obtain hs:=Option.some.inj h; subst hs
      refine T_ret fun a w hm=>then_ret (then_ret (T_return (fr':=[(4,.d (.v (.int .i64 (0:Int))))]) [4] (by kernel_rfl) [.keep [4]] (by kernel_rfl) (by kernel_rfl) (by kernel_rfl) (by show _=_; kernel_rfl) (by exact trivial) a w hm))
    · have h:=cond_ff hc h
      refine T_skip fun a w hm=>then_norm (((?_:T Tryz.prog e 20 _ _ _) a w hm))
      refine T_reg [] [4] [(4,.d (.v (.int .i64 (-1:Int))))] [] 1 (by kernel_rfl) (trivial) ?_
      obtain hs:=Option.some.inj h; subst hs
      refine T_ret fun a w hm=>then_ret (T_return (fr':=[(4,.d (.v (.int .i64 (-1:Int))))]) [4] (by kernel_rfl) [.keep [4]] (by kernel_rfl) (by kernel_rfl) (by kernel_rfl) (by show _=_; kernel_rfl) (by exact trivial) a w hm)
  · have h:=cond_ff hc h
    refine T_skip fun a w hm=>then_norm (((?_:T Tryz.prog e 20 _ _ _) a w hm))
    refine T_seqk ?_
    refine T_reg [] [0,1,13] [(13,.d (.v (.bool y2)))] [] 1 (by kernel_rfl) (trivial) ?_
    refine T_cond y2 (by kernel_rfl) (fun hc=>?_) (fun hc=>?_)
    · have h:=cond_tt hc h
      refine T_reg [] [4] [(4,.d (.v (.int .i64 (1:Int))))] [] 1 (by kernel_rfl) (trivial) ?_
      obtain hs:=Option.some.inj h; subst hs
      refine T_ret fun a w hm=>then_ret (T_return (fr':=[(4,.d (.v (.int .i64 (1:Int))))]) [4] (by kernel_rfl) [.keep [4]] (by kernel_rfl) (by kernel_rfl) (by kernel_rfl) (by show _=_; kernel_rfl) (by exact trivial) a w hm)
    · have h:=cond_ff hc h
      refine T_skip fun a w hm=>then_norm (((?_:T Tryz.prog e 20 _ _ _) a w hm))
      refine T_seqk ?_
      refine T_reg [] [0,1,16] [(16,.d (.v (.bool (Op.bytesLess a0 a1))))] [] 3 (by kernel_rfl) (trivial) ?_
      refine T_cond (Op.bytesLess a0 a1) (by kernel_rfl) (fun hc=>?_) (fun hc=>?_)
      · have h:=cond_tt hc h
        refine T_reg [] [4] [(4,.d (.v (.int .i64 (-1:Int))))] [] 1 (by kernel_rfl) (trivial) ?_
        obtain hs:=Option.some.inj h; subst hs
        refine T_ret fun a w hm=>then_ret (T_return (fr':=[(4,.d (.v (.int .i64 (-1:Int))))]) [4] (by kernel_rfl) [.keep [4]] (by kernel_rfl) (by kernel_rfl) (by kernel_rfl) (by show _=_; kernel_rfl) (by exact trivial) a w hm)
      · have h:=cond_ff hc h
        refine T_skip fun a w hm=>then_norm (((?_:T Tryz.prog e 20 _ _ _) a w hm))
        refine T_seqk ?_
        refine T_reg [] [19] [(19,.d (.v (.bool (!(Op.bytesLess a0 a1 || a0 == a1)))))] [] 3 (by kernel_rfl) (trivial) ?_
        refine T_cond (!(Op.bytesLess a0 a1 || a0 == a1)) (by kernel_rfl) (fun hc=>?_) (fun hc=>?_)
        · have h:=cond_tt hc h
          refine T_reg [] [4] [(4,.d (.v (.int .i64 (1:Int))))] [] 1 (by kernel_rfl) (trivial) ?_
          obtain hs:=Option.some.inj h; subst hs
          refine T_ret fun a w hm=>then_ret (T_return (fr':=[(4,.d (.v (.int .i64 (1:Int))))]) [4] (by kernel_rfl) [.keep [4]] (by kernel_rfl) (by kernel_rfl) (by kernel_rfl) (by show _=_; kernel_rfl) (by exact trivial) a w hm)
        · have h:=cond_ff hc h
          refine T_skip fun a w hm=>then_norm (((?_:T Tryz.prog e 20 _ _ _) a w hm))
          refine T_reg [] [4] [(4,.d (.v (.int .i64 (0:Int))))] [] 1 (by kernel_rfl) (trivial) ?_
          obtain hs:=Option.some.inj h; subst hs
          refine T_ret fun a w hm=>T_return (fr':=[(4,.d (.v (.int .i64 (0:Int))))]) [4] (by kernel_rfl) [.keep [4]] (by kernel_rfl) (by kernel_rfl) (by kernel_rfl) (by show _=_; kernel_rfl) (by exact trivial) a w hm
theorem prepress_known_value_c1_ok {F:Nat} {a0:S_PrepressFact} {a1:List UInt8} {r:Int} (h:prepress_known_value_c1 F a0 a1=some r):ACall Tryz.prog 60 [.agg (cS_PrepressFact a0),.d (.str a1)] [] (.d (.v (.int .i64 r))) []:=by
  rw [prepress_known_value_c1] at h
  refine ACall.intro (N:=9) Tryz.func60 rfl rfl rfl rfl rfl fun e=>?_
  refine T_reg [] [1,2] [(2,.box [.d (.str a0.f0),.d (.v (.int .i64 a0.f1))])] [] 2 (by kernel_rfl) (trivial) ?_
  obtain ⟨y1,hy1,h⟩:=call_ok h
  refine T_reg [(3,{ res:=.d (.v (.int .i64 y1)) })] [4] [(4,.d (.v (.int .i64 y1)))] [(3,ACall Tryz.prog 61 [.d (.str a0.f0),.d (.str a1)] [] (.d (.v (.int .i64 y1))) [])] 1 (by kernel_rfl) (cmp_Compare_string_ok hy1) ?_
  obtain hs:=Option.some.inj h; subst hs
  refine T_ret fun a w hm=>T_return (fr':=[(4,.d (.v (.int .i64 y1)))]) [4] (by kernel_rfl) [.keep [4]] (by kernel_rfl) (by kernel_rfl) (by kernel_rfl) (by show _=_; kernel_rfl) (by exact trivial) a w hm
theorem slices_BinarySearchFunc_string_ok {F:Nat} {a0:List S_PrepressFact} {a1:List UInt8} {r:Int×Bool} (h:slices_BinarySearchFunc_string F a0 a1=some r):ACall Tryz.prog 59 [.d (.sl 2 (a0.map cS_PrepressFact)),.d (.str a1),.clo 60 []] [] (.tup [.d (.v (.int .i64 r.1)),.d (.v (.bool r.2))]) []:=by
  rw [slices_BinarySearchFunc_string] at h
  refine ACall.intro (N:=49) Tryz.func59 rfl rfl rfl rfl rfl fun e=>?_
  refine T_reg [] [0,1,2] [] [] 2 (by kernel_rfl) (trivial) ?_
  refine T_reg [(1,{ rw:=some (.d (.v (.int .i64 (a0.length:Int)))) })] [0,1,2,8] [(8,.d (.v (.int .i64 (a0.length:Int))))] [(1,True∧AV.d (.v (.int .i64 ((a0.map cS_PrepressFact).length:Int)))=.d (.v (.int .i64 (a0.length:Int))))] 1 (by kernel_rfl) (len_ok cS_PrepressFact) ?_
  refine T_reg [] [0,1,2,8,9,10] [(9,.d (.v (.int .i64 (0:Int)))),(10,.d (.v (.int .i64 (a0.length:Int))))] [] 3 (by kernel_rfl) (trivial) ?_
  refine T_joinc h (fun (p:Int)=>[(0,.d (.sl 2 (a0.map cS_PrepressFact))),(1,.d (.str a1)),(2,.clo 60 []),(8,.d (.v (.int .i64 (a0.length:Int)))),(9,.d (.v (.int .i64 p)))]) (fun s h=>?_) (fun v3 h=>?_)
  · refine T_co [.keep [0,1,2,8,9,10]] ((fun (p:Int×Int)=>[(0,.d (.sl 2 (a0.map cS_PrepressFact))),(1,.d (.str a1)),(2,.clo 60 []),(8,.d (.v (.int .i64 (a0.length:Int)))),(9,.d (.v (.int .i64 p.1))),(10,.d (.v (.int .i64 p.2)))]) ((0:Int),(a0.length:Int))) (by show _=_; kernel_rfl) ?_
    refine T_block ?_
    refine T_loopF (ι:=Int×Int) (fun (p:Int×Int)=>[(0,.d (.sl 2 (a0.map cS_PrepressFact))),(1,.d (.str a1)),(2,.clo 60 []),(8,.d (.v (.int .i64 (a0.length:Int)))),(9,.d (.v (.int .i64 p.1))),(10,.d (.v (.int .i64 p.2)))]) (fun n p=>slices_BinarySearchFunc_string_L0 F a0 a1 n p.1 p.2=some s) (fun i hh=>by simp [slices_BinarySearchFunc_string_L0] at hh) (fun n p h=>?_) F ((0:Int),(a0.length:Int)) h
    obtain ⟨v1,v2⟩:=p
    have h:slices_BinarySearchFunc_string_L0 F a0 a1 (n+1) v1 v2=some s:=h
    rw [slices_BinarySearchFunc_string_L0] at h
    refine T_seqk ?_
    refine T_reg [] [0,1,2,8,9,10,17] [(17,.d (.v (.bool (decide (v1 < v2)))))] [] 3 (by kernel_rfl) (trivial) ?_
    refine T_cond (decide (v1 < v2)) (by kernel_rfl) (fun hc=>?_) (fun hc=>?_)
    · have h:=cond_tt hc h
      refine T_skip fun a w hm=>then_norm (((?_:T Tryz.prog e 49 _ _ _) a w hm))
      refine T_block ?_
      obtain ⟨z1,hz1,h⟩:=lett_ok h
      refine T_reg [(4,{ rw:=some (.d (.v (.int .u64 z1))) })] [0,1,2,8,9,10,11] [(11,.d (.v (.int .i64 (IntKind.i64.wrap z1))))] [(4,(0≤(1:Int))∧AV.d (.v (.int .u64 ((IntKind.u64.wrap (IntKind.i64.wrap (v1+v2))).fdiv (2 ^ (min (1:Int).toNat IntKind.u64.bits)))))=.d (.v (.int .u64 z1)))] 2 (by kernel_rfl) (⟨(show 0≤(1:Int) by decide),(by subst hz1; rfl)⟩) ?_
      obtain ⟨hp1,h⟩:=chk_ok h
      obtain ⟨y1,hy1,h⟩:=call_ok h
      refine T_reg [(3,{ cs:=cS_PrepressFact (a0.getD (IntKind.i64.wrap z1).toNat (S_PrepressFact.mk [] 0)) }),(6,{ res:=.d (.v (.int .i64 y1)) })] [0,1,2,8,9,10,11,31] [(31,.d (.v (.bool (decide (y1 < (0:Int))))))] [(3,0≤(IntKind.i64.wrap z1)∧(a0.map cS_PrepressFact)[(IntKind.i64.wrap z1).toNat]? = some (cS_PrepressFact (a0.getD (IntKind.i64.wrap z1).toNat (S_PrepressFact.mk [] 0)))),(2,ACall Tryz.prog 60 [.agg (cS_PrepressFact (a0.getD (IntKind.i64.wrap z1).toNat (S_PrepressFact.mk [] 0))),.d (.str a1)] [] (.d (.v (.int .i64 y1))) [])] 1 (by kernel_rfl) (⟨idx_ok (d:=(S_PrepressFact.mk [] 0)) cS_PrepressFact hp1,prepress_known_value_c1_ok hy1⟩) ?_
      refine T_cond (decide (y1 < (0:Int))) (by kernel_rfl) (fun hc=>?_) (fun hc=>?_)
      · have h:=cond_tt hc h
        refine T_reg_end [] [0,1,2,8,9,10] [(9,.d (.v (.int .i64 (IntKind.i64.wrap ((IntKind.i64.wrap z1)+(1:Int))))))] [] 3 (by kernel_rfl) (trivial) fun a w hm=>inBlock_norm (then_norm (⟨(IntKind.i64.wrap ((IntKind.i64.wrap z1)+(1:Int)),v2),h,hm.co (cs:=[.keep [0,1,2,8,9,10]]) (by show _=_; kernel_rfl)⟩))
      · have h:=cond_ff hc h
        refine T_reg_end [] [0,1,2,8,9,10] [(10,.d (.v (.int .i64 (IntKind.i64.wrap z1))))] [] 2 (by kernel_rfl) (trivial) fun a w hm=>inBlock_norm (then_norm (⟨(v1,IntKind.i64.wrap z1),h,hm.co (cs:=[.keep [0,1,2,8,9,10]]) (by show _=_; kernel_rfl)⟩))
    · have h:=cond_ff hc h
      obtain hs:=Option.some.inj h; subst hs
      refine T_exit fun a w hm=>then_exit (then_exit (inBlock_exit (then_norm (hm.co (cs:=[.keep [0,1,2,8,9]]) (by show _=_; kernel_rfl)))))
  · skip
    obtain ⟨hp2,h⟩:=chk_ok h
    obtain ⟨y2,hy2,h⟩:=call_ok h
    refine T_reg [(8,{ cs:=cS_PrepressFact (a0.getD v3.toNat (S_PrepressFact.mk [] 0)) }),(11,{ res:=.d (.v (.int .i64 y2)) })] [6,7] [(6,.d (.v (.int .i64 v3))),(7,.d (.v (.bool (bif (decide (v3 < (a0.length:Int))) then (y2 == (0:Int)) else false))))] [(5,((((decide (v3 < (a0.length:Int))) == true) && true)=true→True)),(0,((((decide (v3 < (a0.length:Int))) == true) && true)=true→True)),(0,((((decide (v3 < (a0.length:Int))) == true) && true)=true→True)),(0,((((decide (v3 < (a0.length:Int))) == true) && true)=true→0≤v3∧(a0.map cS_PrepressFact)[v3.toNat]? = some (cS_PrepressFact (a0.getD v3.toNat (S_PrepressFact.mk [] 0))))),(0,((((decide (v3 < (a0.length:Int))) == true) && true)=true→True)),(0,((((decide (v3 < (a0.length:Int))) == true) && true)=true→True)),(0,((((decide (v3 < (a0.length:Int))) == true) && true)=true→ACall Tryz.prog 60 [.agg (cS_PrepressFact (a0.getD v3.toNat (S_PrepressFact.mk [] 0))),.d (.str a1)] [] (.d (.v (.int .i64 y2))) [])),(0,((((decide (v3 < (a0.length:Int))) == true) && true)=true→True))] 3 (by kernel_rfl) (⟨(fun hg=>trivial),(fun hg=>trivial),(fun hg=>trivial),(fun hg=>idx_ok (d:=(S_PrepressFact.mk [] 0)) cS_PrepressFact (hp2 hg)),(fun hg=>trivial),(fun hg=>trivial),(fun hg=>prepress_known_value_c1_ok (gcall_ok hg hy2)),(fun hg=>trivial)⟩) ?_
    obtain hs:=Option.some.inj h; subst hs
    refine T_ret fun a w hm=>T_return (fr':=[(6,.d (.v (.int .i64 v3))),(7,.d (.v (.bool (bif (decide (v3 < (a0.length:Int))) then (y2 == (0:Int)) else false))))]) [6,7] (by kernel_rfl) [.keep [6,7]] (by kernel_rfl) (by kernel_rfl) (by kernel_rfl) (by show _=_; kernel_rfl) (by exact trivial) a w hm
theorem prepress_known_value_ok {F:Nat} {a0:List S_PrepressFact} {a1:List UInt8} {r:Int×Bool} (h:prepress_known_value F a0 a1=some r):ACall Tryz.prog 38 [.d (.sl 2 (a0.map cS_PrepressFact)),.d (.str a1)] [] (.tup [.d (.v (.int .i64 r.1)),.d (.v (.bool r.2))]) []:=by
  rw [prepress_known_value] at h
  refine ACall.intro (N:=21) Tryz.func38 rfl rfl rfl rfl rfl fun e=>?_
  refine T_reg [] [0,1] [] [] 2 (by kernel_rfl) (trivial) ?_
  obtain ⟨y1,hy1,h⟩:=call_ok h
  refine T_reg [(2,{ res:=.tup [.d (.v (.int .i64 y1.1)),.d (.v (.bool y1.2))] })] [0,6,7] [(6,.d (.v (.int .i64 y1.1))),(7,.d (.v (.bool y1.2)))] [(2,ACall Tryz.prog 59 [.d (.sl 2 (a0.map cS_PrepressFact)),.d (.str a1),.clo 60 []] [] (.tup [.d (.v (.int .i64 y1.1)),.d (.v (.bool y1.2))]) [])] 5 (by kernel_rfl) (slices_BinarySearchFunc_string_ok hy1) ?_
  refine T_seqk ?_
  refine T_reg [] [0,6,15] [(15,.d (.v (.bool (!y1.2))))] [] 2 (by kernel_rfl) (trivial) ?_
  refine T_cond (!y1.2) (by kernel_rfl) (fun hc=>?_) (fun hc=>?_)
  · have h:=cond_tt hc h
    refine T_reg [] [4,5] [(4,.d (.v (.int .i64 (0:Int)))),(5,.d (.v (.bool false)))] [] 2 (by kernel_rfl) (trivial) ?_
    obtain hs:=Option.some.inj h; subst hs
    refine T_ret fun a w hm=>then_ret (T_return (fr':=[(4,.d (.v (.int .i64 (0:Int)))),(5,.d (.v (.bool false)))]) [4,5] (by kernel_rfl) [.keep [4,5]] (by kernel_rfl) (by kernel_rfl) (by kernel_rfl) (by show _=_; kernel_rfl) (by exact trivial) a w hm)
  · have h:=cond_ff hc h
    refine T_skip fun a w hm=>then_norm (((?_:T Tryz.prog e 21 _ _ _) a w hm))
    obtain ⟨hp1,h⟩:=chk_ok h
    refine T_reg [(2,{ cs:=cS_PrepressFact (a0.getD y1.1.toNat (S_PrepressFact.mk [] 0)) })] [4,5] [(4,.d (.v (.int .i64 ((a0.getD y1.1.toNat (S_PrepressFact.mk [] 0)).f1)))),(5,.d (.v (.bool true)))] [(2,0≤y1.1∧(a0.map cS_PrepressFact)[y1.1.toNat]? = some (cS_PrepressFact (a0.getD y1.1.toNat (S_PrepressFact.mk [] 0))))] 4 (by kernel_rfl) (idx_ok (d:=(S_PrepressFact.mk [] 0)) cS_PrepressFact hp1) ?_
    obtain hs:=Option.some.inj h; subst hs
    refine T_ret fun a w hm=>T_return (fr':=[(4,.d (.v (.int .i64 ((a0.getD y1.1.toNat (S_PrepressFact.mk [] 0)).f1)))),(5,.d (.v (.bool true)))]) [4,5] (by kernel_rfl) [.keep [4,5]] (by kernel_rfl) (by kernel_rfl) (by kernel_rfl) (by show _=_; kernel_rfl) (by exact trivial) a w hm
theorem cmp_isNaN_int_ok {F:Nat} {a0:Int} {r:Bool} (h:cmp_isNaN_int F a0=some r):ACall Tryz.prog 83 [.d (.v (.int .i64 a0))] [] (.d (.v (.bool r))) []:=by
  rw [cmp_isNaN_int] at h
  refine ACall.intro (N:=6) Tryz.func83 rfl rfl rfl rfl rfl fun e=>?_
  refine T_reg [] [0] [] [] 1 (by kernel_rfl) (trivial) ?_
  refine T_reg [] [2] [(2,.d (.v (.bool (a0 != a0))))] [] 4 (by kernel_rfl) (trivial) ?_
  obtain hs:=Option.some.inj h; subst hs
  refine T_ret fun a w hm=>T_return (fr':=[(2,.d (.v (.bool (a0 != a0))))]) [2] (by kernel_rfl) [.keep [2]] (by kernel_rfl) (by kernel_rfl) (by kernel_rfl) (by show _=_; kernel_rfl) (by exact trivial) a w hm
theorem cmp_Compare_int_ok {F:Nat} {a0:Int} {a1:Int} {r:Int} (h:cmp_Compare_int F a0 a1=some r):ACall Tryz.prog 56 [.d (.v (.int .i64 a0)),.d (.v (.int .i64 a1))] [] (.d (.v (.int .i64 r))) []:=by
  rw [cmp_Compare_int] at h
  refine ACall.intro (N:=20) Tryz.func56 rfl rfl rfl rfl rfl fun e=>?_
  refine T_reg [] [0,1] [] [] 1 (by kernel_rfl) (trivial) ?_
  obtain ⟨y1,hy1,h⟩:=call_ok h
  refine T_reg [(1,{ res:=.d (.v (.bool y1)) })] [0,1,5] [(5,.d (.v (.bool y1)))] [(1,ACall Tryz.prog 83 [.d (.v (.int .i64 a0))] [] (.d (.v (.bool y1))) [])] 1 (by kernel_rfl) (cmp_isNaN_int_ok hy1) ?_
  obtain ⟨y2,hy2,h⟩:=call_ok h
  refine T_reg [(1,{ res:=.d (.v (.bool y2)) })] [0,1,5,6] [(6,.d (.v (.bool y2)))] [(1,ACall Tryz.prog 83 [.d (.v (.int .i64 a1))] [] (.d (.v (.bool y2))) [])] 1 (by kernel_rfl) (cmp_isNaN_int_ok hy2) ?_
  refine T_seqk ?_
  refine T_reg [] [0,1,6,11] [(11,.d (.v (.bool y1)))] [] 1 (by kernel_rfl) (trivial) ?_
  refine T_cond y1 (by kernel_rfl) (fun hc=>?_) (fun hc=>?_)
  · have h:=cond_tt hc h
    refine T_seqk ?_
    refine T_reg [] [12] [(12,.d (.v (.bool y2)))] [] 1 (by kernel_rfl) (trivial) ?_
    refine T_cond y2 (by kernel_rfl) (fun hc=>?_) (fun hc=>?_)
    · have h:=cond_tt hc h
      refine T_reg [] [4] [(4,.d (.v (.int .i64 (0:Int))))] [] 1 (by kernel_rfl) (trivial) ?_
      obtain hs:=Option.some.inj h; subst hs
      refine T_ret fun a w hm=>then_ret (then_ret (T_return (fr':=[(4,.d (.v (.int .i64 (0:Int))))]) [4] (by kernel_rfl) [.keep [4]] (by kernel_rfl) (by kernel_rfl) (by kernel_rfl) (by show _=_; kernel_rfl) (by exact trivial) a w hm))
    · have h:=cond_ff hc h
      refine T_skip fun a w hm=>then_norm (((?_:T Tryz.prog e 20 _ _ _) a w hm))
      refine T_reg [] [4] [(4,.d (.v (.int .i64 (-1:Int))))] [] 1 (by kernel_rfl) (trivial) ?_
      obtain hs:=Option.some.inj h; subst hs
      refine T_ret fun a w hm=>then_ret (T_return (fr':=[(4,.d (.v (.int .i64 (-1:Int))))]) [4] (by kernel_rfl) [.keep [4]] (by kernel_rfl) (by kernel_rfl) (by kernel_rfl) (by show _=_; kernel_rfl) (by exact trivial) a w hm)
  · have h:=cond_ff hc h
    refine T_skip fun a w hm=>then_norm (((?_:T Tryz.prog e 20 _ _ _) a w hm))
    refine T_seqk ?_
    refine T_reg [] [0,1,13] [(13,.d (.v (.bool y2)))] [] 1 (by kernel_rfl) (trivial) ?_
    refine T_cond y2 (by kernel_rfl) (fun hc=>?_) (fun hc=>?_)
    · have h:=cond_tt hc h
      refine T_reg [] [4] [(4,.d (.v (.int .i64 (1:Int))))] [] 1 (by kernel_rfl) (trivial) ?_
      obtain hs:=Option.some.inj h; subst hs
      refine T_ret fun a w hm=>then_ret (T_return (fr':=[(4,.d (.v (.int .i64 (1:Int))))]) [4] (by kernel_rfl) [.keep [4]] (by kernel_rfl) (by kernel_rfl) (by kernel_rfl) (by show _=_; kernel_rfl) (by exact trivial) a w hm)
    · have h:=cond_ff hc h
      refine T_skip fun a w hm=>then_norm (((?_:T Tryz.prog e 20 _ _ _) a w hm))
      refine T_seqk ?_
      refine T_reg [] [0,1,16] [(16,.d (.v (.bool (decide (a0 < a1)))))] [] 3 (by kernel_rfl) (trivial) ?_
      refine T_cond (decide (a0 < a1)) (by kernel_rfl) (fun hc=>?_) (fun hc=>?_)
      · have h:=cond_tt hc h
        refine T_reg [] [4] [(4,.d (.v (.int .i64 (-1:Int))))] [] 1 (by kernel_rfl) (trivial) ?_
        obtain hs:=Option.some.inj h; subst hs
        refine T_ret fun a w hm=>then_ret (T_return (fr':=[(4,.d (.v (.int .i64 (-1:Int))))]) [4] (by kernel_rfl) [.keep [4]] (by kernel_rfl) (by kernel_rfl) (by kernel_rfl) (by show _=_; kernel_rfl) (by exact trivial) a w hm)
      · have h:=cond_ff hc h
        refine T_skip fun a w hm=>then_norm (((?_:T Tryz.prog e 20 _ _ _) a w hm))
        refine T_seqk ?_
        refine T_reg [] [19] [(19,.d (.v (.bool (decide (a0 > a1)))))] [] 3 (by kernel_rfl) (trivial) ?_
        refine T_cond (decide (a0 > a1)) (by kernel_rfl) (fun hc=>?_) (fun hc=>?_)
        · have h:=cond_tt hc h
          refine T_reg [] [4] [(4,.d (.v (.int .i64 (1:Int))))] [] 1 (by kernel_rfl) (trivial) ?_
          obtain hs:=Option.some.inj h; subst hs
          refine T_ret fun a w hm=>then_ret (T_return (fr':=[(4,.d (.v (.int .i64 (1:Int))))]) [4] (by kernel_rfl) [.keep [4]] (by kernel_rfl) (by kernel_rfl) (by kernel_rfl) (by show _=_; kernel_rfl) (by exact trivial) a w hm)
        · have h:=cond_ff hc h
          refine T_skip fun a w hm=>then_norm (((?_:T Tryz.prog e 20 _ _ _) a w hm))
          refine T_reg [] [4] [(4,.d (.v (.int .i64 (0:Int))))] [] 1 (by kernel_rfl) (trivial) ?_
          obtain hs:=Option.some.inj h; subst hs
          refine T_ret fun a w hm=>T_return (fr':=[(4,.d (.v (.int .i64 (0:Int))))]) [4] (by kernel_rfl) [.keep [4]] (by kernel_rfl) (by kernel_rfl) (by kernel_rfl) (by show _=_; kernel_rfl) (by exact trivial) a w hm
theorem prepress_truth_body_ok {F:Nat} {rec_prepress_truth:S_PrepressCond→(List S_PrepressFact)→Option Int} (hrec_prepress_truth:∀ {a0:S_PrepressCond},∀ {a1:List S_PrepressFact},∀ {r:Int},rec_prepress_truth a0 a1=some r→ACall Tryz.prog 33 [.agg (cS_PrepressCond a0),.d (.sl 2 (a1.map cS_PrepressFact))] [] (.d (.v (.int .i64 r))) []) {a0:S_PrepressCond} {a1:List S_PrepressFact} {r:Int} (h:prepress_truth_body F rec_prepress_truth a0 a1=some r):ACall Tryz.prog 33 [.agg (cS_PrepressCond a0),.d (.sl 2 (a1.map cS_PrepressFact))] [] (.d (.v (.int .i64 r))) []:=by
  rw [prepress_truth_body] at h
  refine ACall.intro (N:=107) Tryz.func33 rfl rfl rfl rfl rfl fun e=>?_
  refine T_reg [] [1,2] [(2,.box [.d (.v (.int .i64 a0.f0)),.d (.sl 2 (a0.f1.map cS_PrepressTerm)),.d (.v (.int .i64 a0.f2)),.d (.v (.int .i64 a0.f3)),.d (.sl 5 (a0.f4.map rS_PrepressCond))])] [] 2 (by kernel_rfl) (trivial) ?_
  refine T_seqk ?_
  refine T_reg [] [1,2,15] [(15,.d (.v (.int .i64 a0.f0)))] [] 2 (by kernel_rfl) (trivial) ?_
  refine T_block ?_
  refine T_reg [] [1,2,15,16] [(16,.d (.v (.bool (a0.f0 == (1:Int)))))] [] 2 (by kernel_rfl) (trivial) ?_
  refine T_cond (a0.f0 == (1:Int)) (by kernel_rfl) (fun hc=>?_) (fun hc=>?_)
  · have h:=cond_tt hc h
    obtain ⟨hp1,h⟩:=chk_ok h
    obtain ⟨y2,hy1,h⟩:=call_ok h
    obtain ⟨hp2,h⟩:=chk_ok h
    refine T_reg [(0,{ es:=some (([(1:Int),(0:Int),(2:Int)]).map (cI .i64)) }),(3,{ cs:=cS_PrepressCond (a0.f4.getD (0:Int).toNat (S_PrepressCond.mk 0 [] 0 0 [])) }),(6,{ res:=.d (.v (.int .i64 y2)) }),(8,{ cs:=(cI .i64) (([(1:Int),(0:Int),(2:Int)]).getD y2.toNat 0) })] [4] [(4,.d (.v (.int .i64 (([(1:Int),(0:Int),(2:Int)]).getD y2.toNat 0))))] [(0,(([(1:Int),(0:Int),(2:Int)]).map (cI .i64))=(([(1:Int),(0:Int),(2:Int)]).map (cI .i64))),(2,0≤(0:Int)∧(a0.f4.map rS_PrepressCond)[(0:Int).toNat]? = some (cS_PrepressCond (a0.f4.getD (0:Int).toNat (S_PrepressCond.mk 0 [] 0 0 [])))),(2,ACall Tryz.prog 33 [.agg (cS_PrepressCond (a0.f4.getD (0:Int).toNat (S_PrepressCond.mk 0 [] 0 0 []))),.d (.sl 2 (a1.map cS_PrepressFact))] [] (.d (.v (.int .i64 y2))) []),(0,0≤y2∧y2 < (([(1:Int),(0:Int),(2:Int)]).map (cI .i64)).length),(0,(([(1:Int),(0:Int),(2:Int)]).map (cI .i64))[y2.toNat]? = some ((cI .i64) (([(1:Int),(0:Int),(2:Int)]).getD y2.toNat 0)))] 1 (by kernel_rfl) (⟨rfl,idx_okR (d:=(S_PrepressCond.mk 0 [] 0 0 [])) rS_PrepressCond_eq hp1,hrec_prepress_truth hy1,own_idx (cI .i64) hp2,(idx_ok (d:=0) (cI .i64) hp2).2⟩) ?_
    obtain hs:=Option.some.inj h; subst hs
    refine T_ret fun a w hm=>inBlock_ret (then_ret (T_return (fr':=[(4,.d (.v (.int .i64 (([(1:Int),(0:Int),(2:Int)]).getD y2.toNat 0))))]) [4] (by kernel_rfl) [.keep [4]] (by kernel_rfl) (by kernel_rfl) (by kernel_rfl) (by show _=_; kernel_rfl) (by exact trivial) a w hm))
  · have h:=cond_ff hc h
    refine T_joinc h (fun (p:Bool)=>[(1,.d (.sl 2 (a1.map cS_PrepressFact))),(2,.box [.d (.v (.int .i64 a0.f0)),.d (.sl 2 (a0.f1.map cS_PrepressTerm)),.d (.v (.int .i64 a0.f2)),.d (.v (.int .i64 a0.f3)),.d (.sl 5 (a0.f4.map rS_PrepressCond))]),(27,.d (.v (.bool p)))]) (fun s h=>?_) (fun v3 h=>?_)
    · refine T_reg [] [1,2,15,27] [(27,.d (.v (.bool (a0.f0 == (2:Int)))))] [] 2 (by kernel_rfl) (trivial) ?_
      refine T_cond (a0.f0 == (2:Int)) (by kernel_rfl) (fun hc=>?_) (fun hc=>?_)
      · have h:=cond_tt hc h
        obtain hs:=Option.some.inj h; subst hs
        refine T_skip fun a w hm=>then_norm (hm.co (cs:=[.keep [1,2,27]]) (by show _=_; kernel_rfl))
      · have h:=cond_ff hc h
        obtain hs:=Option.some.inj h; subst hs
        refine T_reg_end [] [1,2,27] [(27,.d (.v (.bool (a0.f0 == (3:Int)))))] [] 2 (by kernel_rfl) (trivial) fun a w hm=>then_norm (hm.co (cs:=[.keep [1,2,27]]) (by show _=_; kernel_rfl))
    · skip
      refine T_cond v3 (by kernel_rfl) (fun hc=>?_) (fun hc=>?_)
      · have h:=cond_tt hc h
        refine T_reg [] [1,2,5] [(5,.d (.v (.int .i64 (0:Int))))] [] 1 (by kernel_rfl) (trivial) ?_
        refine T_joinc h (fun (p:Int)=>[(1,.d (.sl 2 (a1.map cS_PrepressFact))),(2,.box [.d (.v (.int .i64 a0.f0)),.d (.sl 2 (a0.f1.map cS_PrepressTerm)),.d (.v (.int .i64 a0.f2)),.d (.v (.int .i64 a0.f3)),.d (.sl 5 (a0.f4.map rS_PrepressCond))]),(5,.d (.v (.int .i64 p)))]) (fun s h=>?_) (fun v4 h=>?_)
        · refine T_reg [] [1,2,5,32] [(32,.d (.v (.bool (a0.f0 == (3:Int)))))] [] 3 (by kernel_rfl) (trivial) ?_
          refine T_cond (a0.f0 == (3:Int)) (by kernel_rfl) (fun hc=>?_) (fun hc=>?_)
          · have h:=cond_tt hc h
            obtain hs:=Option.some.inj h; subst hs
            refine T_reg_end [] [1,2,5] [(5,.d (.v (.int .i64 (1:Int))))] [] 1 (by kernel_rfl) (trivial) fun a w hm=>then_norm (hm.co (cs:=[.keep [1,2,5]]) (by show _=_; kernel_rfl))
          · have h:=cond_ff hc h
            obtain hs:=Option.some.inj h; subst hs
            refine T_skip fun a w hm=>then_norm (hm.co (cs:=[.keep [1,2,5]]) (by show _=_; kernel_rfl))
        · skip
          obtain ⟨hp3,h⟩:=chk_ok h
          obtain ⟨y3,hy2,h⟩:=call_ok h
          obtain ⟨hp4,h⟩:=chk_ok h
          obtain ⟨y4,hy3,h⟩:=call_ok h
          refine T_drawX mixed 35 (.take 0 (.take 4 (.take 6 (.take 10 (.all (.alt 1 (.all (.alt 2 (.all (.alt 3 (.all (.alt 5 (.all (.alt 7 (.all (.alt 8 (.all (.alt 9 (.all (.alt 11 (.take 12 (.take 13 .done)) .stop)) .stop)) .stop)) .stop)) (.alt 7 (.all (.alt 5 (.all (.alt 8 (.all (.alt 9 (.all (.alt 11 (.take 12 (.take 13 .done)) .stop)) .stop)) .stop)) (.alt 8 (.all (.alt 5 (.all (.alt 9 (.all (.alt 11 (.take 12 (.take 13 .done)) .stop)) .stop)) (.alt 9 (.all (.alt 5 (.all (.alt 11 (.take 12 (.take 13 .done)) .stop)) .stop)) .stop))) .stop))) .stop))) (.alt 7 (.all (.alt 3 (.all (.alt 5 (.all (.alt 8 (.all (.alt 9 (.all (.alt 11 (.take 12 (.take 13 .done)) .stop)) .stop)) .stop)) (.alt 8 (.all (.alt 5 (.all (.alt 9 (.all (.alt 11 (.take 12 (.take 13 .done)) .stop)) .stop)) (.alt 9 (.all (.alt 5 (.all (.alt 11 (.take 12 (.take 13 .done)) .stop)) .stop)) .stop))) .stop))) (.alt 8 (.all (.alt 3 (.all (.alt 5 (.all (.alt 9 (.all (.alt 11 (.take 12 (.take 13 .done)) .stop)) .stop)) (.alt 9 (.all (.alt 5 (.all (.alt 11 (.take 12 (.take 13 .done)) .stop)) .stop)) .stop))) (.alt 9 (.all (.alt 3 (.all (.alt 5 (.all (.alt 11 (.take 12 (.take 13 .done)) .stop)) .stop)) .stop)) .stop))) .stop))) .stop))) (.alt 7 (.all (.alt 2 (.all (.alt 3 (.all (.alt 5 (.all (.alt 8 (.all (.alt 9 (.all (.alt 11 (.take 12 (.take 13 .done)) .stop)) .stop)) .stop)) (.alt 8 (.all (.alt 5 (.all (.alt 9 (.all (.alt 11 (.take 12 (.take 13 .done)) .stop)) .stop)) (.alt 9 (.all (.alt 5 (.all (.alt 11 (.take 12 (.take 13 .done)) .stop)) .stop)) .stop))) .stop))) (.alt 8 (.all (.alt 3 (.all (.alt 5 (.all (.alt 9 (.all (.alt 11 (.take 12 (.take 13 .done)) .stop)) .stop)) (.alt 9 (.all (.alt 5 (.all (.alt 11 (.take 12 (.take 13 .done)) .stop)) .stop)) .stop))) (.alt 9 (.all (.alt 3 (.all (.alt 5 (.all (.alt 11 (.take 12 (.take 13 .done)) .stop)) .stop)) .stop)) .stop))) .stop))) (.alt 8 (.all (.alt 2 (.all (.alt 3 (.all (.alt 5 (.all (.alt 9 (.all (.alt 11 (.take 12 (.take 13 .done)) .stop)) .stop)) (.alt 9 (.all (.alt 5 (.all (.alt 11 (.take 12 (.take 13 .done)) .stop)) .stop)) .stop))) (.alt 9 (.all (.alt 3 (.all (.alt 5 (.all (.alt 11 (.take 12 (.take 13 .done)) .stop)) .stop)) .stop)) .stop))) (.alt 9 (.all (.alt 2 (.all (.alt 3 (.all (.alt 5 (.all (.alt 11 (.take 12 (.take 13 .done)) .stop)) .stop)) .stop)) .stop)) .stop))) .stop))) .stop))) (.alt 7 (.all (.alt 1 (.all (.alt 2 (.all (.alt 3 (.all (.alt 5 (.all (.alt 8 (.all (.alt 9 (.all (.alt 11 (.take 12 (.take 13 .done)) .stop)) .stop)) .stop)) (.alt 8 (.all (.alt 5 (.all (.alt 9 (.all (.alt 11 (.take 12 (.take 13 .done)) .stop)) .stop)) (.alt 9 (.all (.alt 5 (.all (.alt 11 (.take 12 (.take 13 .done)) .stop)) .stop)) .stop))) .stop))) (.alt 8 (.all (.alt 3 (.all (.alt 5 (.all (.alt 9 (.all (.alt 11 (.take 12 (.take 13 .done)) .stop)) .stop)) (.alt 9 (.all (.alt 5 (.all (.alt 11 (.take 12 (.take 13 .done)) .stop)) .stop)) .stop))) (.alt 9 (.all (.alt 3 (.all (.alt 5 (.all (.alt 11 (.take 12 (.take 13 .done)) .stop)) .stop)) .stop)) .stop))) .stop))) (.alt 8 (.all (.alt 2 (.all (.alt 3 (.all (.alt 5 (.all (.alt 9 (.all (.alt 11 (.take 12 (.take 13 .done)) .stop)) .stop)) (.alt 9 (.all (.alt 5 (.all (.alt 11 (.take 12 (.take 13 .done)) .stop)) .stop)) .stop))) (.alt 9 (.all (.alt 3 (.all (.alt 5 (.all (.alt 11 (.take 12 (.take 13 .done)) .stop)) .stop)) .stop)) .stop))) (.alt 9 (.all (.alt 2 (.all (.alt 3 (.all (.alt 5 (.all (.alt 11 (.take 12 (.take 13 .done)) .stop)) .stop)) .stop)) .stop)) .stop))) .stop))) (.alt 8 (.all (.alt 1 (.all (.alt 2 (.all (.alt 3 (.all (.alt 5 (.all (.alt 9 (.all (.alt 11 (.take 12 (.take 13 .done)) .stop)) .stop)) (.alt 9 (.all (.alt 5 (.all (.alt 11 (.take 12 (.take 13 .done)) .stop)) .stop)) .stop))) (.alt 9 (.all (.alt 3 (.all (.alt 5 (.all (.alt 11 (.take 12 (.take 13 .done)) .stop)) .stop)) .stop)) .stop))) (.alt 9 (.all (.alt 2 (.all (.alt 3 (.all (.alt 5 (.all (.alt 11 (.take 12 (.take 13 .done)) .stop)) .stop)) .stop)) .stop)) .stop))) (.alt 9 (.all (.alt 1 (.all (.alt 2 (.all (.alt 3 (.all (.alt 5 (.all (.alt 11 (.take 12 (.take 13 .done)) .stop)) .stop)) .stop)) .stop)) .stop)) .stop))) .stop))) .stop))))))) ([0,1,2,4,0,24,0,64,128,256,0,1568,2111,8191],[0,1,2,4,0,24,0,64,128,256,0,1536,32,2048]) 13393 [(2,{ cs:=cS_PrepressCond (a0.f4.getD (0:Int).toNat (S_PrepressCond.mk 0 [] 0 0 [])) }),(5,{ res:=.d (.v (.int .i64 y3)) }),(8,{ cs:=cS_PrepressCond (a0.f4.getD (1:Int).toNat (S_PrepressCond.mk 0 [] 0 0 [])) }),(11,{ res:=.d (.v (.int .i64 y4)) })] [5,6,7] [] [(5,.d (.v (.int .i64 v4))),(6,.d (.v (.int .i64 y3))),(7,.d (.v (.int .i64 y4)))] ((fun (o2:Prop)=>fun (o5:Prop)=>fun (o8:Prop)=>fun (o11:Prop)=>[(5,o2),(1,o5),(1,o8),(1,o11),(3,o5),(0,o8),(1,o11),(2,o8),(0,o5),(1,o11),(3,o5),(0,o11),(4,o5),(0,o8),(1,o11),(2,o8),(0,o5),(1,o11),(3,o5),(0,o11),(2,o8),(1,o5),(1,o11),(3,o5),(0,o11),(4,o5),(0,o11),(3,o2),(1,o5),(0,o8),(1,o11),(2,o8),(0,o5),(1,o11),(3,o5),(0,o11),(2,o8),(1,o5),(1,o11),(3,o5),(0,o11),(4,o5),(0,o11),(2,o8),(0,o2),(1,o5),(1,o11),(3,o5),(0,o11),(4,o5),(0,o11),(3,o2),(1,o5),(0,o11),(4,o2),(1,o5),(0,o8),(1,o11),(2,o8),(0,o5),(1,o11),(3,o5),(0,o11),(2,o8),(1,o5),(1,o11),(3,o5),(0,o11),(4,o5),(0,o11),(2,o8),(0,o2),(1,o5),(1,o11),(3,o5),(0,o11),(4,o5),(0,o11),(3,o2),(1,o5),(0,o11),(2,o8),(1,o2),(1,o5),(1,o11),(3,o5),(0,o11),(4,o5),(0,o11),(3,o2),(1,o5),(0,o11),(4,o2),(1,o5),(0,o11)]) (0≤(0:Int)∧(a0.f4.map rS_PrepressCond)[(0:Int).toNat]? = some (cS_PrepressCond (a0.f4.getD (0:Int).toNat (S_PrepressCond.mk 0 [] 0 0 [])))) (ACall Tryz.prog 33 [.agg (cS_PrepressCond (a0.f4.getD (0:Int).toNat (S_PrepressCond.mk 0 [] 0 0 []))),.d (.sl 2 (a1.map cS_PrepressFact))] [] (.d (.v (.int .i64 y3))) []) (0≤(1:Int)∧(a0.f4.map rS_PrepressCond)[(1:Int).toNat]? = some (cS_PrepressCond (a0.f4.getD (1:Int).toNat (S_PrepressCond.mk 0 [] 0 0 [])))) (ACall Tryz.prog 33 [.agg (cS_PrepressCond (a0.f4.getD (1:Int).toNat (S_PrepressCond.mk 0 [] 0 0 []))),.d (.sl 2 (a1.map cS_PrepressFact))] [] (.d (.v (.int .i64 y4))) [])) 2 (by kernel_rfl) (by kernel_rfl) (by kernel_rfl) (have p2:=idx_okR (d:=(S_PrepressCond.mk 0 [] 0 0 [])) rS_PrepressCond_eq hp3; have p5:=hrec_prepress_truth hy2; have p8:=idx_okR (d:=(S_PrepressCond.mk 0 [] 0 0 [])) rS_PrepressCond_eq hp4; have p11:=hrec_prepress_truth hy3; ⟨p2,p5,p8,p11,p5,p8,p11,p8,p5,p11,p5,p11,p5,p8,p11,p8,p5,p11,p5,p11,p8,p5,p11,p5,p11,p5,p11,p2,p5,p8,p11,p8,p5,p11,p5,p11,p8,p5,p11,p5,p11,p5,p11,p8,p2,p5,p11,p5,p11,p5,p11,p2,p5,p11,p2,p5,p8,p11,p8,p5,p11,p5,p11,p8,p5,p11,p5,p11,p5,p11,p8,p2,p5,p11,p5,p11,p5,p11,p2,p5,p11,p8,p2,p5,p11,p5,p11,p5,p11,p2,p5,p11,p2,p5,p11⟩) ?_
          refine T_seqk ?_
          refine T_block ?_
          refine T_reg [] [5,6,7,45] [(45,.d (.v (.bool (bif (y3 == v4) then true else (y4 == v4)))))] [(4,((((y3 == v4) == false) && true)=true→True)),(0,((((y3 == v4) == false) && true)=true→True)),(0,((((y3 == v4) == false) && true)=true→True))] 2 (by kernel_rfl) (⟨(fun hg=>trivial),(fun hg=>trivial),(fun hg=>trivial)⟩) ?_
          refine T_cond (bif (y3 == v4) then true else (y4 == v4)) (by kernel_rfl) (fun hc=>?_) (fun hc=>?_)
          · have h:=cond_tt hc h
            refine T_reg [] [4] [(4,.d (.v (.int .i64 v4)))] [] 2 (by kernel_rfl) (trivial) ?_
            obtain hs:=Option.some.inj h; subst hs
            refine T_ret fun a w hm=>inBlock_ret (then_ret (inBlock_ret (then_ret (T_return (fr':=[(4,.d (.v (.int .i64 v4)))]) [4] (by kernel_rfl) [.keep [4]] (by kernel_rfl) (by kernel_rfl) (by kernel_rfl) (by show _=_; kernel_rfl) (by exact trivial) a w hm))))
          · have h:=cond_ff hc h
            refine T_reg [] [6,55] [(55,.d (.v (.bool (bif (y3 == (2:Int)) then true else (y4 == (2:Int))))))] [(3,((((y3 == (2:Int)) == false) && true)=true→True)),(0,((((y3 == (2:Int)) == false) && true)=true→True))] 2 (by kernel_rfl) (⟨(fun hg=>trivial),(fun hg=>trivial)⟩) ?_
            refine T_cond (bif (y3 == (2:Int)) then true else (y4 == (2:Int))) (by kernel_rfl) (fun hc=>?_) (fun hc=>?_)
            · have h:=cond_tt hc h
              refine T_reg [] [4] [(4,.d (.v (.int .i64 (2:Int))))] [] 1 (by kernel_rfl) (trivial) ?_
              obtain hs:=Option.some.inj h; subst hs
              refine T_ret fun a w hm=>inBlock_ret (then_ret (inBlock_ret (then_ret (T_return (fr':=[(4,.d (.v (.int .i64 (2:Int))))]) [4] (by kernel_rfl) [.keep [4]] (by kernel_rfl) (by kernel_rfl) (by kernel_rfl) (by show _=_; kernel_rfl) (by exact trivial) a w hm))))
            · have h:=cond_ff hc h
              refine T_skip fun a w hm=>inBlock_norm (then_norm (((?_:T Tryz.prog e 107 _ _ _) a w hm)))
              refine T_reg [] [4] [(4,.d (.v (.int .i64 y3)))] [] 2 (by kernel_rfl) (trivial) ?_
              obtain hs:=Option.some.inj h; subst hs
              refine T_ret fun a w hm=>inBlock_ret (then_ret (T_return (fr':=[(4,.d (.v (.int .i64 y3)))]) [4] (by kernel_rfl) [.keep [4]] (by kernel_rfl) (by kernel_rfl) (by kernel_rfl) (by show _=_; kernel_rfl) (by exact trivial) a w hm))
      · have h:=cond_ff hc h
        refine T_skip fun a w hm=>inBlock_norm (then_norm (((?_:T Tryz.prog e 107 _ _ _) a w hm)))
        refine T_reg [] [1,2,8] [(8,.d (.v (.int .i64 (0:Int))))] [] 1 (by kernel_rfl) (trivial) ?_
        refine T_seqk ?_
        refine T_reg [(2,{ rw:=some (.d (.v (.int .i64 (a0.f1.length:Int)))) })] [1,2,8,64,65,66] [(64,.d (.sl 2 (a0.f1.map cS_PrepressTerm))),(65,.d (.v (.int .i64 (a0.f1.length:Int)))),(66,.d (.v (.int .i64 (0:Int))))] [(2,True∧AV.d (.v (.int .i64 ((a0.f1.map cS_PrepressTerm).length:Int)))=.d (.v (.int .i64 (a0.f1.length:Int))))] 1 (by kernel_rfl) (len_ok cS_PrepressTerm) ?_
        refine T_joinEt h (fun (p:Int)=>[(2,.box [.d (.v (.int .i64 a0.f0)),.d (.sl 2 (a0.f1.map cS_PrepressTerm)),.d (.v (.int .i64 a0.f2)),.d (.v (.int .i64 a0.f3)),.d (.sl 5 (a0.f4.map rS_PrepressCond))]),(8,.d (.v (.int .i64 p)))]) (fun s h hk1=>?_) (fun v5 h=>?_)
        · refine T_co [.keep [1,2,8,64,65,66]] ((fun (p:Int×Int)=>[(1,.d (.sl 2 (a1.map cS_PrepressFact))),(2,.box [.d (.v (.int .i64 a0.f0)),.d (.sl 2 (a0.f1.map cS_PrepressTerm)),.d (.v (.int .i64 a0.f2)),.d (.v (.int .i64 a0.f3)),.d (.sl 5 (a0.f4.map rS_PrepressCond))]),(8,.d (.v (.int .i64 p.1))),(64,.d (.sl 2 (a0.f1.map cS_PrepressTerm))),(65,.d (.v (.int .i64 (a0.f1.length:Int)))),(66,.d (.v (.int .i64 p.2)))]) ((0:Int),(0:Int))) (by show _=_; kernel_rfl) ?_
          refine T_block ?_
          refine T_loopF (ι:=Int×Int) (fun (p:Int×Int)=>[(1,.d (.sl 2 (a1.map cS_PrepressFact))),(2,.box [.d (.v (.int .i64 a0.f0)),.d (.sl 2 (a0.f1.map cS_PrepressTerm)),.d (.v (.int .i64 a0.f2)),.d (.v (.int .i64 a0.f3)),.d (.sl 5 (a0.f4.map rS_PrepressCond))]),(8,.d (.v (.int .i64 p.1))),(64,.d (.sl 2 (a0.f1.map cS_PrepressTerm))),(65,.d (.v (.int .i64 (a0.f1.length:Int)))),(66,.d (.v (.int .i64 p.2)))]) (fun n p=>prepress_truth_L2 F a0 a1 n p.1 p.2=some s) (fun i hh=>by simp [prepress_truth_L2] at hh) (fun n p h=>?_) F ((0:Int),(0:Int)) h
          obtain ⟨v1,v2⟩:=p
          have h:prepress_truth_L2 F a0 a1 (n+1) v1 v2=some s:=h
          rw [prepress_truth_L2] at h
          refine T_reg [] [1,2,8,64,65,66,67] [(67,.d (.v (.bool (decide (v2 < (a0.f1.length:Int))))))] [] 1 (by kernel_rfl) (trivial) ?_
          refine T_seqk ?_
          refine T_cond (decide (v2 < (a0.f1.length:Int))) (by kernel_rfl) (fun hc=>?_) (fun hc=>?_)
          · have h:=cond_tt hc h
            refine T_skip fun a w hm=>then_norm (((?_:T Tryz.prog e 107 _ _ _) a w hm))
            refine T_seqk ?_
            refine T_block ?_
            obtain ⟨hp5,h⟩:=chk_ok h
            refine T_reg [(0,{ cs:=cS_PrepressTerm (a0.f1.getD v2.toNat (S_PrepressTerm.mk 0 [])) })] [1,2,8,10,64,65,66] [(10,.box [.d (.v (.int .i64 ((a0.f1.getD v2.toNat (S_PrepressTerm.mk 0 [])).f0))),.d (.str ((a0.f1.getD v2.toNat (S_PrepressTerm.mk 0 [])).f1))])] [(0,0≤v2∧(a0.f1.map cS_PrepressTerm)[v2.toNat]? = some (cS_PrepressTerm (a0.f1.getD v2.toNat (S_PrepressTerm.mk 0 []))))] 3 (by kernel_rfl) (idx_ok (d:=(S_PrepressTerm.mk 0 [])) cS_PrepressTerm hp5) ?_
            obtain ⟨y1,hy4,h⟩:=call_ok h
            refine T_reg [(3,{ res:=.tup [.d (.v (.int .i64 y1.1)),.d (.v (.bool y1.2))] })] [1,2,8,10,11,12,64,65,66] [(11,.d (.v (.int .i64 y1.1))),(12,.d (.v (.bool y1.2)))] [(3,ACall Tryz.prog 38 [.d (.sl 2 (a1.map cS_PrepressFact)),.d (.str ((a0.f1.getD v2.toNat (S_PrepressTerm.mk 0 [])).f1))] [] (.tup [.d (.v (.int .i64 y1.1)),.d (.v (.bool y1.2))]) [])] 5 (by kernel_rfl) (prepress_known_value_ok hy4) ?_
            refine T_seqk ?_
            refine T_reg [] [1,2,8,10,11,64,65,66,78] [(78,.d (.v (.bool (!y1.2))))] [] 2 (by kernel_rfl) (trivial) ?_
            refine T_cond (!y1.2) (by kernel_rfl) (fun hc=>?_) (fun hc=>?_)
            · have h:=cond_tt hc h
              refine T_reg [] [4] [(4,.d (.v (.int .i64 (2:Int))))] [] 1 (by kernel_rfl) (trivial) ?_
              obtain hs:=Option.some.inj h; subst hs
              have h:=callE_esc hk1
              obtain hs:=Option.some.inj h; subst hs
              refine T_ret fun a w hm=>then_ret (inBlock_ret (then_ret (then_ret (inBlock_ret (then_ret (then_ret (T_return (fr':=[(4,.d (.v (.int .i64 (2:Int))))]) [4] (by kernel_rfl) [.keep [4]] (by kernel_rfl) (by kernel_rfl) (by kernel_rfl) (by show _=_; kernel_rfl) (by exact trivial) a w hm)))))))
            · have h:=cond_ff hc h
              refine T_skip fun a w hm=>then_norm (((?_:T Tryz.prog e 107 _ _ _) a w hm))
              obtain ⟨z1,hz1,h⟩:=lett_ok h
              refine T_reg_end [(5,{ rw:=some (.d (.v (.int .i64 z1))) })] [1,2,8,64,65,66] [(8,.d (.v (.int .i64 z1)))] [(5,(True)∧AV.d (.v (.int .i64 (IntKind.i64.wrap (v1+(IntKind.i64.wrap (((a0.f1.getD v2.toNat (S_PrepressTerm.mk 0 [])).f0) * y1.1))))))=.d (.v (.int .i64 z1)))] 1 (by kernel_rfl) (⟨trivial,(by subst hz1; rfl)⟩) fun a w hm=>inBlock_norm (then_norm (((?_:T Tryz.prog e 107 _ _ _) a w hm)))
              refine T_reg_end [] [1,2,8,64,65,66] [(66,.d (.v (.int .i64 (IntKind.i64.wrap (v2+(1:Int))))))] [] 2 (by kernel_rfl) (trivial) fun a w hm=>then_norm (⟨(z1,IntKind.i64.wrap (v2+(1:Int))),h,hm.co (cs:=[.keep [1,2,8,64,65,66]]) (by show _=_; kernel_rfl)⟩)
          · have h:=cond_ff hc h
            obtain hs:=Option.some.inj h; subst hs
            refine T_exit fun a w hm=>then_exit (then_exit (inBlock_exit (then_norm (⟨_,rfl,hm.co (cs:=[.keep [2,8]]) (by show _=_; kernel_rfl)⟩))))
        · skip
          refine fun a w hm=>then_norm (((?_:T Tryz.prog e 107 _ _ _) a w hm))
          obtain ⟨y5,hy5,h⟩:=call_ok h
          refine T_reg [(3,{ res:=.d (.v (.int .i64 y5)) })] [2,13] [(13,.d (.v (.int .i64 y5)))] [(3,ACall Tryz.prog 56 [.d (.v (.int .i64 v5)),.d (.v (.int .i64 a0.f3))] [] (.d (.v (.int .i64 y5))) [])] 1 (by kernel_rfl) (cmp_Compare_int_ok hy5) ?_
          refine T_seqk ?_
          obtain ⟨hp6,h⟩:=chk_ok h
          obtain ⟨z2,hz2,h⟩:=lett_ok h
          refine T_reg [(12,{ es:=some (([(decide (y5 < (0:Int))),(decide (y5≤(0:Int))),(y5 == (0:Int)),(y5 != (0:Int)),(decide (y5 ≥ (0:Int))),(decide (y5 > (0:Int)))]).map cB) }),(16,{ cs:=cB (([(decide (y5 < (0:Int))),(decide (y5≤(0:Int))),(y5 == (0:Int)),(y5 != (0:Int)),(decide (y5 ≥ (0:Int))),(decide (y5 > (0:Int)))]).getD a0.f2.toNat false),rw:=some (.d (.v (.bool z2))) })] [106] [(106,.d (.v (.bool z2)))] [(12,(([(decide (y5 < (0:Int))),(decide (y5≤(0:Int))),(y5 == (0:Int)),(y5 != (0:Int)),(decide (y5 ≥ (0:Int))),(decide (y5 > (0:Int)))]).map cB)=(([(decide (y5 < (0:Int))),(decide (y5≤(0:Int))),(y5 == (0:Int)),(y5 != (0:Int)),(decide (y5 ≥ (0:Int))),(decide (y5 > (0:Int)))]).map cB)),(2,0≤a0.f2∧a0.f2 < (([(decide (y5 < (0:Int))),(decide (y5≤(0:Int))),(y5 == (0:Int)),(y5 != (0:Int)),(decide (y5 ≥ (0:Int))),(decide (y5 > (0:Int)))]).map cB).length),(0,((([(decide (y5 < (0:Int))),(decide (y5≤(0:Int))),(y5 == (0:Int)),(y5 != (0:Int)),(decide (y5 ≥ (0:Int))),(decide (y5 > (0:Int)))]).map cB)[a0.f2.toNat]? = some (cB (([(decide (y5 < (0:Int))),(decide (y5≤(0:Int))),(y5 == (0:Int)),(y5 != (0:Int)),(decide (y5 ≥ (0:Int))),(decide (y5 > (0:Int)))]).getD a0.f2.toNat false)))∧AV.d (.v (.bool (([(decide (y5 < (0:Int))),(decide (y5≤(0:Int))),(y5 == (0:Int)),(y5 != (0:Int)),(decide (y5 ≥ (0:Int))),(decide (y5 > (0:Int)))]).getD a0.f2.toNat false)))=.d (.v (.bool z2)))] 0 (by kernel_rfl) (⟨rfl,own_idx cB hp6,⟨(idx_ok (d:=false) cB hp6).2,(by subst hz2; rfl)⟩⟩) ?_
          refine T_cond z2 (by kernel_rfl) (fun hc=>?_) (fun hc=>?_)
          · have h:=cond_tt hc h
            refine T_reg [] [4] [(4,.d (.v (.int .i64 (1:Int))))] [] 1 (by kernel_rfl) (trivial) ?_
            obtain hs:=Option.some.inj h; subst hs
            refine T_ret fun a w hm=>then_ret (T_return (fr':=[(4,.d (.v (.int .i64 (1:Int))))]) [4] (by kernel_rfl) [.keep [4]] (by kernel_rfl) (by kernel_rfl) (by kernel_rfl) (by show _=_; kernel_rfl) (by exact trivial) a w hm)
          · have h:=cond_ff hc h
            refine T_skip fun a w hm=>then_norm (((?_:T Tryz.prog e 107 _ _ _) a w hm))
            refine T_reg [] [4] [(4,.d (.v (.int .i64 (0:Int))))] [] 1 (by kernel_rfl) (trivial) ?_
            obtain hs:=Option.some.inj h; subst hs
            refine T_ret fun a w hm=>T_return (fr':=[(4,.d (.v (.int .i64 (0:Int))))]) [4] (by kernel_rfl) [.keep [4]] (by kernel_rfl) (by kernel_rfl) (by kernel_rfl) (by show _=_; kernel_rfl) (by exact trivial) a w hm
theorem prepress_truth_fuel_ok {F:Nat} (n:Nat):∀ {a0:S_PrepressCond} {a1:List S_PrepressFact} {r:Int},prepress_truth_fuel F n a0 a1=some r→ACall Tryz.prog 33 [.agg (cS_PrepressCond a0),.d (.sl 2 (a1.map cS_PrepressFact))] [] (.d (.v (.int .i64 r))) []:=by
  induction n with
  | zero=>intro a0 a1 r h; exact absurd (show (none:Option Int)=some r from h) (by simp)
  | succ n ih=>intro a0 a1 r h; exact prepress_truth_body_ok ih h
theorem prepress_truth_ok {F:Nat} {a0:S_PrepressCond} {a1:List S_PrepressFact} {r:Int} (h:prepress_truth F a0 a1=some r):ACall Tryz.prog 33 [.agg (cS_PrepressCond a0),.d (.sl 2 (a1.map cS_PrepressFact))] [] (.d (.v (.int .i64 r))) []:=prepress_truth_fuel_ok F h
theorem slices_Clone_PrepressFact_ok {F:Nat} {a0:List S_PrepressFact} {r:(List S_PrepressFact)} (h:slices_Clone_PrepressFact F a0=some r):ACall Tryz.prog 57 [.d (.sl 2 (a0.map cS_PrepressFact))] [] (.own 51 2 (r.map cS_PrepressFact)) []:=by
  rw [slices_Clone_PrepressFact] at h
  refine ACall.intro (N:=8) Tryz.func57 rfl rfl rfl rfl rfl fun e=>?_
  refine T_reg [] [0] [] [] 1 (by kernel_rfl) (trivial) ?_
  refine T_seqk ?_
  refine T_nilTest (sz:=2) (es:=(a0.map cS_PrepressFact)) 0 3 4 75 (by kernel_rfl) (by kernel_rfl) (by kernel_rfl) (by kernel_rfl) [0] [(0,.d (.sl 2 (a0.map cS_PrepressFact)))] (fun _=>by kernel_rfl) (fun hnil=>?_) ?_
  · replace hnil:=List.map_eq_nil_iff.1 hnil
    have h:(some [])=some r:=by subst hnil; exact h
    refine T_reg [] [2] [(2,.own 51 2 ([].map cS_PrepressFact))] [] 1 (by kernel_rfl) (trivial) ?_
    obtain hs:=Option.some.inj h; subst hs
    refine T_ret fun a w hm=>then_ret (T_return (fr':=[(2,.own 51 2 ([].map cS_PrepressFact))]) [2] (by kernel_rfl) [.keep [2]] (by kernel_rfl) (by kernel_rfl) (by kernel_rfl) (by show _=_; kernel_rfl) (by exact trivial) a w hm)
  · skip
    refine T_skip fun a w hm=>then_norm (((?_:T Tryz.prog e 8 _ _ _) a w hm))
    obtain ⟨hp1,h⟩:=chk_ok h
    refine T_reg [(2,{ es:=some ((([]:List S_PrepressFact)++a0).map cS_PrepressFact) })] [2] [(2,.own 51 2 ((([]:List S_PrepressFact)++a0).map cS_PrepressFact))] [(0,([]:List (List Dat))=[]),(1,(([]:List S_PrepressFact).map cS_PrepressFact).length+(a0.map cS_PrepressFact).length≤4294967296∧(([]:List S_PrepressFact).map cS_PrepressFact)++(a0.map cS_PrepressFact)=((([]:List S_PrepressFact)++a0).map cS_PrepressFact))] 1 (by kernel_rfl) (⟨rfl,app_ok cS_PrepressFact hp1⟩) ?_
    obtain hs:=Option.some.inj h; subst hs
    refine T_ret fun a w hm=>T_return (fr':=[(2,.own 51 2 ((([]:List S_PrepressFact)++a0).map cS_PrepressFact))]) [2] (by kernel_rfl) [.keep [2]] (by kernel_rfl) (by kernel_rfl) (by kernel_rfl) (by show _=_; kernel_rfl) (by exact trivial) a w hm
theorem prepress_because_ok {F:Nat} {a0:S_PrepressCond} {a1:List S_PrepressFact} {r:(List (List UInt8))} (h:prepress_because F a0 a1=some r):ACall Tryz.prog 36 [.agg (cS_PrepressCond a0),.d (.sl 2 (a1.map cS_PrepressFact))] [] (.own 9 1 (r.map cS)) []:=by
  rw [prepress_because] at h
  refine ACall.intro (N:=42) Tryz.func36 rfl rfl rfl rfl rfl fun e=>?_
  refine T_reg [] [1,2] [(2,.box [.d (.v (.int .i64 a0.f0)),.d (.sl 2 (a0.f1.map cS_PrepressTerm)),.d (.v (.int .i64 a0.f2)),.d (.v (.int .i64 a0.f3)),.d (.sl 5 (a0.f4.map rS_PrepressCond))])] [] 2 (by kernel_rfl) (trivial) ?_
  obtain ⟨y3,hy1,h⟩:=call_ok h
  refine T_reg [(1,{ res:=.own 51 2 (y3.map cS_PrepressFact) })] [1,2] [(1,.own 51 2 (y3.map cS_PrepressFact))] [(1,ACall Tryz.prog 57 [.d (.sl 2 (a1.map cS_PrepressFact))] [] (.own 51 2 (y3.map cS_PrepressFact)) [])] 1 (by kernel_rfl) (slices_Clone_PrepressFact_ok hy1) ?_
  refine T_seqk ?_
  refine T_reg [] [1,2,5] [(5,.d (.v (.int .i64 (0:Int))))] [] 1 (by kernel_rfl) (trivial) ?_
  refine T_joinct h (fun (p:(List S_PrepressFact))=>[(1,.d (.sl 2 (p.map cS_PrepressFact)))]) (fun s h=>?_) (fun v3 h=>?_)
  · refine T_co [.thaw 1,.keep [1,2,5]] ((fun (p:(List S_PrepressFact)×Int)=>[(1,.d (.sl 2 (p.1.map cS_PrepressFact))),(2,.box [.d (.v (.int .i64 a0.f0)),.d (.sl 2 (a0.f1.map cS_PrepressTerm)),.d (.v (.int .i64 a0.f2)),.d (.v (.int .i64 a0.f3)),.d (.sl 5 (a0.f4.map rS_PrepressCond))]),(5,.d (.v (.int .i64 p.2)))]) (y3,(0:Int))) (by show _=_; kernel_rfl) ?_
    refine T_block ?_
    refine T_loopF (ι:=(List S_PrepressFact)×Int) (fun (p:(List S_PrepressFact)×Int)=>[(1,.d (.sl 2 (p.1.map cS_PrepressFact))),(2,.box [.d (.v (.int .i64 a0.f0)),.d (.sl 2 (a0.f1.map cS_PrepressTerm)),.d (.v (.int .i64 a0.f2)),.d (.v (.int .i64 a0.f3)),.d (.sl 5 (a0.f4.map rS_PrepressCond))]),(5,.d (.v (.int .i64 p.2)))]) (fun n p=>prepress_because_L0 F a0 n p.1 p.2=some s) (fun i hh=>by simp [prepress_because_L0] at hh) (fun n p h=>?_) F (y3,(0:Int)) h
    obtain ⟨v1,v2⟩:=p
    have h:prepress_because_L0 F a0 (n+1) v1 v2=some s:=h
    rw [prepress_because_L0] at h
    refine T_seqk ?_
    refine T_reg [(2,{ rw:=some (.d (.v (.int .i64 (v1.length:Int)))) })] [1,2,5,15] [(15,.d (.v (.bool (decide (v2 < (v1.length:Int))))))] [(2,True∧AV.d (.v (.int .i64 ((v1.map cS_PrepressFact).length:Int)))=.d (.v (.int .i64 (v1.length:Int))))] 1 (by kernel_rfl) (len_ok cS_PrepressFact) ?_
    refine T_cond (decide (v2 < (v1.length:Int))) (by kernel_rfl) (fun hc=>?_) (fun hc=>?_)
    · have h:=cond_tt hc h
      refine T_skip fun a w hm=>then_norm (((?_:T Tryz.prog e 42 _ _ _) a w hm))
      refine T_block ?_
      refine T_seqk ?_
      obtain ⟨y1,hy2,h⟩:=call_ok h
      obtain ⟨hp1,h⟩:=chk_ok h
      refine T_reg [(1,{ res:=.own 51 2 (y1.map cS_PrepressFact) }),(5,{ take:=[0],res:=.own 51 2 ((y1.take v2.toNat++y1.drop (IntKind.i64.wrap (v2+(1:Int))).toNat).map cS_PrepressFact) })] [1,2,5,6] [(6,.own 51 2 ((y1.take v2.toNat++y1.drop (IntKind.i64.wrap (v2+(1:Int))).toNat).map cS_PrepressFact))] [(1,ACall Tryz.prog 57 [.d (.sl 2 (v1.map cS_PrepressFact))] [] (.own 51 2 (y1.map cS_PrepressFact)) []),(3,ACall Tryz.prog 58 [.own 51 2 (y1.map cS_PrepressFact),.d (.v (.int .i64 v2)),.d (.v (.int .i64 (IntKind.i64.wrap (v2+(1:Int)))))] [] (.own 51 2 ((y1.take v2.toNat++y1.drop (IntKind.i64.wrap (v2+(1:Int))).toNat).map cS_PrepressFact)) [])] 1 (by kernel_rfl) (⟨slices_Clone_PrepressFact_ok hy2,b_Delete_58 hp1⟩) ?_
      obtain ⟨y2,hy3,h⟩:=call_ok h
      refine T_reg [(2,{ res:=.d (.v (.int .i64 y2)) })] [1,2,5,6,25] [(25,.d (.v (.bool (y2 == (0:Int)))))] [(2,ACall Tryz.prog 33 [.agg (cS_PrepressCond a0),.d (.sl 2 ((y1.take v2.toNat++y1.drop (IntKind.i64.wrap (v2+(1:Int))).toNat).map cS_PrepressFact))] [] (.d (.v (.int .i64 y2))) [])] 1 (by kernel_rfl) (prepress_truth_ok hy3) ?_
      refine T_cond (y2 == (0:Int)) (by kernel_rfl) (fun hc=>?_) (fun hc=>?_)
      · have h:=cond_tt hc h
        refine T_reg [] [1,2,5,6] [(1,.vw (6,0))] [] 2 (by kernel_rfl) (trivial) ?_
        refine T_exit fun a w hm=>then_exit (inBlock_exit (then_norm (⟨((y1.take v2.toNat++y1.drop (IntKind.i64.wrap (v2+(1:Int))).toNat),v2),h,hm.co (cs:=[.thaw 1,.keep [1,2,5]]) (by show _=_; kernel_rfl)⟩)))
      · have h:=cond_ff hc h
        refine T_skip fun a w hm=>then_norm (((?_:T Tryz.prog e 42 _ _ _) a w hm))
        refine T_reg_end [] [1,2,5] [(5,.d (.v (.int .i64 (IntKind.i64.wrap (v2+(1:Int))))))] [] 3 (by kernel_rfl) (trivial) fun a w hm=>inBlock_norm (then_norm (⟨(v1,IntKind.i64.wrap (v2+(1:Int))),h,hm.co (cs:=[.keep [1,2,5]]) (by show _=_; kernel_rfl)⟩))
    · have h:=cond_ff hc h
      obtain hs:=Option.some.inj h; subst hs
      refine T_exit fun a w hm=>then_exit (then_exit (inBlock_exit (then_norm (hm.co (cs:=[.keep [1]]) (by show _=_; kernel_rfl)))))
  · skip
    refine fun a w hm=>then_norm (((?_:T Tryz.prog e 42 _ _ _) a w hm))
    refine T_reg [] [1,7] [(7,.own 9 1 ([].map cS))] [] 1 (by kernel_rfl) (trivial) ?_
    refine T_seqk ?_
    refine T_reg [(1,{ rw:=some (.d (.v (.int .i64 (v3.length:Int)))) })] [7,29,30,31] [(29,.d (.sl 2 (v3.map cS_PrepressFact))),(30,.d (.v (.int .i64 (v3.length:Int)))),(31,.d (.v (.int .i64 (0:Int))))] [(1,True∧AV.d (.v (.int .i64 ((v3.map cS_PrepressFact).length:Int)))=.d (.v (.int .i64 (v3.length:Int))))] 1 (by kernel_rfl) (len_ok cS_PrepressFact) ?_
    refine T_joinct h (fun (p:(List (List UInt8)))=>[(7,.own 9 1 (p.map cS))]) (fun s h=>?_) (fun v6 h=>?_)
    · refine T_co [.keep [7,29,30,31]] ((fun (p:(List (List UInt8))×Int)=>[(7,.own 9 1 (p.1.map cS)),(29,.d (.sl 2 (v3.map cS_PrepressFact))),(30,.d (.v (.int .i64 (v3.length:Int)))),(31,.d (.v (.int .i64 p.2)))]) ([],(0:Int))) (by show _=_; kernel_rfl) ?_
      refine T_block ?_
      refine T_loopF (ι:=(List (List UInt8))×Int) (fun (p:(List (List UInt8))×Int)=>[(7,.own 9 1 (p.1.map cS)),(29,.d (.sl 2 (v3.map cS_PrepressFact))),(30,.d (.v (.int .i64 (v3.length:Int)))),(31,.d (.v (.int .i64 p.2)))]) (fun n p=>prepress_because_L2 F v3 n p.1 p.2=some s) (fun i hh=>by simp [prepress_because_L2] at hh) (fun n p h=>?_) F ([],(0:Int)) h
      obtain ⟨v4,v5⟩:=p
      have h:prepress_because_L2 F v3 (n+1) v4 v5=some s:=h
      rw [prepress_because_L2] at h
      refine T_reg [] [7,29,30,31,32] [(32,.d (.v (.bool (decide (v5 < (v3.length:Int))))))] [] 1 (by kernel_rfl) (trivial) ?_
      refine T_seqk ?_
      refine T_cond (decide (v5 < (v3.length:Int))) (by kernel_rfl) (fun hc=>?_) (fun hc=>?_)
      · have h:=cond_tt hc h
        refine T_skip fun a w hm=>then_norm (((?_:T Tryz.prog e 42 _ _ _) a w hm))
        refine T_seqk ?_
        refine T_block ?_
        obtain ⟨hp2,h⟩:=chk_ok h
        refine T_reg [(0,{ cs:=cS_PrepressFact (v3.getD v5.toNat (S_PrepressFact.mk [] 0)) })] [7,9,29,30,31] [(9,.box [.d (.str ((v3.getD v5.toNat (S_PrepressFact.mk [] 0)).f0)),.d (.v (.int .i64 ((v3.getD v5.toNat (S_PrepressFact.mk [] 0)).f1)))])] [(0,0≤v5∧(v3.map cS_PrepressFact)[v5.toNat]? = some (cS_PrepressFact (v3.getD v5.toNat (S_PrepressFact.mk [] 0))))] 3 (by kernel_rfl) (idx_ok (d:=(S_PrepressFact.mk [] 0)) cS_PrepressFact hp2) ?_
        obtain ⟨hp3,h⟩:=chk_ok h
        refine T_reg_end [(3,{ es:=some (([(v3.getD v5.toNat (S_PrepressFact.mk [] 0)).f0]).map cS) }),(4,{ es:=some ((v4++([(v3.getD v5.toNat (S_PrepressFact.mk [] 0)).f0])).map cS) })] [7,29,30,31] [(7,.own 9 1 ((v4++([(v3.getD v5.toNat (S_PrepressFact.mk [] 0)).f0])).map cS))] [(3,(([(v3.getD v5.toNat (S_PrepressFact.mk [] 0)).f0]).map cS)=(([(v3.getD v5.toNat (S_PrepressFact.mk [] 0)).f0]).map cS)),(0,(v4.map cS).length+(([(v3.getD v5.toNat (S_PrepressFact.mk [] 0)).f0]).map cS).length≤4294967296∧(v4.map cS)++(([(v3.getD v5.toNat (S_PrepressFact.mk [] 0)).f0]).map cS)=((v4++([(v3.getD v5.toNat (S_PrepressFact.mk [] 0)).f0])).map cS))] 1 (by kernel_rfl) (⟨rfl,app_ok cS hp3⟩) fun a w hm=>inBlock_norm (then_norm (((?_:T Tryz.prog e 42 _ _ _) a w hm)))
        refine T_reg_end [] [7,29,30,31] [(31,.d (.v (.int .i64 (IntKind.i64.wrap (v5+(1:Int))))))] [] 2 (by kernel_rfl) (trivial) fun a w hm=>then_norm (⟨((v4++([(v3.getD v5.toNat (S_PrepressFact.mk [] 0)).f0])),IntKind.i64.wrap (v5+(1:Int))),h,hm.co (cs:=[.keep [7,29,30,31]]) (by show _=_; kernel_rfl)⟩)
      · have h:=cond_ff hc h
        obtain hs:=Option.some.inj h; subst hs
        refine T_exit fun a w hm=>then_exit (then_exit (inBlock_exit (then_norm (hm.co (cs:=[.keep [7]]) (by show _=_; kernel_rfl)))))
    · skip
      refine fun a w hm=>then_norm (((?_:T Tryz.prog e 42 _ _ _) a w hm))
      refine T_reg [] [4,7] [(4,.vw (7,0))] [] 2 (by kernel_rfl) (trivial) ?_
      obtain hs:=Option.some.inj h; subst hs
      refine T_ret fun a w hm=>T_return (fr':=[(4,.own 9 1 (v6.map cS))]) [4] (by kernel_rfl) [.claim 4,.keep [4]] (by kernel_rfl) (by kernel_rfl) (by kernel_rfl) (by show _=_; kernel_rfl) (by exact trivial) a w hm
theorem prepress_Judge_ok {F:Nat} {a0:List S_PrepressRule} {a1:List S_PrepressFact} {r:(List S_PrepressFinding)×Int} (h:prepress_Judge F a0 a1=some r):ACall Tryz.prog 14 [.d (.sl 6 (a0.map cS_PrepressRule)),.d (.sl 2 (a1.map cS_PrepressFact))] [.glo 0 ([gm0].flatMap (cI .i64)),.glo 3 (glob_internal_strconv_uint64pow10.flatMap (cI .u64))] (.tup [.own 47 3 (r.1.map cS_PrepressFinding),.d (.v (.int .i64 r.2))]) [.glo 0 ([gm0].flatMap (cI .i64)),.glo 3 (glob_internal_strconv_uint64pow10.flatMap (cI .u64))]:=by
  rw [prepress_Judge] at h
  refine ACall.intro (N:=89) Tryz.func14 rfl rfl rfl rfl rfl fun e=>?_
  refine T_reg [] [0,1,1000000,1000001] [] [] 2 (by kernel_rfl) (trivial) ?_
  refine T_seqk ?_
  obtain ⟨y5,hy1,h⟩:=call_ok h
  refine T_reg [(1,{ res:=.d (.v (.int .i64 y5)),vout:=[.glo 0 ([gm0].flatMap (cI .i64)),.glo 3 (glob_internal_strconv_uint64pow10.flatMap (cI .u64))],xs:=[1000000,1000001] })] [0,1,6,1000000,1000001] [(6,.d (.v (.int .i64 y5)))] [(1,ACall Tryz.prog 9 [.d (.sl 6 (a0.map cS_PrepressRule))] [.glo 0 ([gm0].flatMap (cI .i64)),.glo 3 (glob_internal_strconv_uint64pow10.flatMap (cI .u64))] (.d (.v (.int .i64 y5))) [.glo 0 ([gm0].flatMap (cI .i64)),.glo 3 (glob_internal_strconv_uint64pow10.flatMap (cI .u64))])] 1 (by kernel_rfl) (prepress_Check_ok hy1) ?_
  refine T_reg [] [0,1,6,19,1000000,1000001] [(19,.d (.v (.bool (y5 != (0:Int)))))] [] 2 (by kernel_rfl) (trivial) ?_
  refine T_cond (y5 != (0:Int)) (by kernel_rfl) (fun hc=>?_) (fun hc=>?_)
  · have h:=cond_tt hc h
    refine T_reg [] [4,5,1000000,1000001] [(4,.own 47 3 ([].map cS_PrepressFinding)),(5,.d (.v (.int .i64 y5)))] [] 3 (by kernel_rfl) (trivial) ?_
    obtain hs:=Option.some.inj h; subst hs
    refine T_ret fun a w hm=>then_ret (T_return (fr':=[(4,.own 47 3 ([].map cS_PrepressFinding)),(5,.d (.v (.int .i64 y5))),(1000000,.glo 0 ([gm0].flatMap (cI .i64))),(1000001,.glo 3 (glob_internal_strconv_uint64pow10.flatMap (cI .u64)))]) [4,5] (by kernel_rfl) [.keep [4,5,1000000,1000001]] (by kernel_rfl) (by kernel_rfl) (by kernel_rfl) (by show _=_; kernel_rfl) (by exact ⟨⟨by kernel_rfl,by kernel_rfl⟩,⟨⟨by kernel_rfl,by kernel_rfl⟩,trivial⟩⟩) a w hm)
  · have h:=cond_ff hc h
    refine T_skip fun a w hm=>then_norm (((?_:T Tryz.prog e 89 _ _ _) a w hm))
    refine T_seqk ?_
    obtain ⟨y6,hy2,h⟩:=call_ok h
    refine T_reg [(1,{ res:=.d (.v (.int .i64 y6)) })] [0,1,7,1000000,1000001] [(7,.d (.v (.int .i64 y6)))] [(1,ACall Tryz.prog 32 [.d (.sl 2 (a1.map cS_PrepressFact))] [] (.d (.v (.int .i64 y6))) [])] 1 (by kernel_rfl) (prepress_CheckFacts_ok hy2) ?_
    refine T_reg [] [0,1,7,24,1000000,1000001] [(24,.d (.v (.bool (y6 != (0:Int)))))] [] 2 (by kernel_rfl) (trivial) ?_
    refine T_cond (y6 != (0:Int)) (by kernel_rfl) (fun hc=>?_) (fun hc=>?_)
    · have h:=cond_tt hc h
      refine T_reg [] [4,5,1000000,1000001] [(4,.own 47 3 ([].map cS_PrepressFinding)),(5,.d (.v (.int .i64 y6)))] [] 3 (by kernel_rfl) (trivial) ?_
      obtain hs:=Option.some.inj h; subst hs
      refine T_ret fun a w hm=>then_ret (T_return (fr':=[(4,.own 47 3 ([].map cS_PrepressFinding)),(5,.d (.v (.int .i64 y6))),(1000000,.glo 0 ([gm0].flatMap (cI .i64))),(1000001,.glo 3 (glob_internal_strconv_uint64pow10.flatMap (cI .u64)))]) [4,5] (by kernel_rfl) [.keep [4,5,1000000,1000001]] (by kernel_rfl) (by kernel_rfl) (by kernel_rfl) (by show _=_; kernel_rfl) (by exact ⟨⟨by kernel_rfl,by kernel_rfl⟩,⟨⟨by kernel_rfl,by kernel_rfl⟩,trivial⟩⟩) a w hm)
    · have h:=cond_ff hc h
      refine T_skip fun a w hm=>then_norm (((?_:T Tryz.prog e 89 _ _ _) a w hm))
      refine T_reg [] [0,1,8,1000000,1000001] [(8,.own 47 3 ([].map cS_PrepressFinding))] [] 1 (by kernel_rfl) (trivial) ?_
      refine T_seqk ?_
      refine T_reg [(1,{ rw:=some (.d (.v (.int .i64 (a0.length:Int)))) })] [1,8,26,27,28,1000000,1000001] [(26,.d (.sl 6 (a0.map cS_PrepressRule))),(27,.d (.v (.int .i64 (a0.length:Int)))),(28,.d (.v (.int .i64 (0:Int))))] [(1,True∧AV.d (.v (.int .i64 ((a0.map cS_PrepressRule).length:Int)))=.d (.v (.int .i64 (a0.length:Int))))] 1 (by kernel_rfl) (len_ok cS_PrepressRule) ?_
      refine T_joinct h (fun (p:(List S_PrepressFinding))=>[(8,.own 47 3 (p.map cS_PrepressFinding)),(1000000,.glo 0 ([gm0].flatMap (cI .i64))),(1000001,.glo 3 (glob_internal_strconv_uint64pow10.flatMap (cI .u64)))]) (fun s h=>?_) (fun v7 h=>?_)
      · refine T_co [.keep [1,8,26,27,28,1000000,1000001]] ((fun (p:(List S_PrepressFinding)×Int)=>[(1,.d (.sl 2 (a1.map cS_PrepressFact))),(8,.own 47 3 (p.1.map cS_PrepressFinding)),(26,.d (.sl 6 (a0.map cS_PrepressRule))),(27,.d (.v (.int .i64 (a0.length:Int)))),(28,.d (.v (.int .i64 p.2))),(1000000,.glo 0 ([gm0].flatMap (cI .i64))),(1000001,.glo 3 (glob_internal_strconv_uint64pow10.flatMap (cI .u64)))]) ([],(0:Int))) (by show _=_; kernel_rfl) ?_
        refine T_block ?_
        refine T_loopF (ι:=(List S_PrepressFinding)×Int) (fun (p:(List S_PrepressFinding)×Int)=>[(1,.d (.sl 2 (a1.map cS_PrepressFact))),(8,.own 47 3 (p.1.map cS_PrepressFinding)),(26,.d (.sl 6 (a0.map cS_PrepressRule))),(27,.d (.v (.int .i64 (a0.length:Int)))),(28,.d (.v (.int .i64 p.2))),(1000000,.glo 0 ([gm0].flatMap (cI .i64))),(1000001,.glo 3 (glob_internal_strconv_uint64pow10.flatMap (cI .u64)))]) (fun n p=>prepress_Judge_L0 F a0 a1 n p.1 p.2=some s) (fun i hh=>by simp [prepress_Judge_L0] at hh) (fun n p h=>?_) F ([],(0:Int)) h
        obtain ⟨v4,v5⟩:=p
        have h:prepress_Judge_L0 F a0 a1 (n+1) v4 v5=some s:=h
        rw [prepress_Judge_L0] at h
        refine T_reg [] [1,8,26,27,28,29,1000000,1000001] [(29,.d (.v (.bool (decide (v5 < (a0.length:Int))))))] [] 1 (by kernel_rfl) (trivial) ?_
        refine T_seqk ?_
        refine T_cond (decide (v5 < (a0.length:Int))) (by kernel_rfl) (fun hc=>?_) (fun hc=>?_)
        · have h:=cond_tt hc h
          refine T_skip fun a w hm=>then_norm (((?_:T Tryz.prog e 89 _ _ _) a w hm))
          refine T_joinc h (fun (p:(List S_PrepressFinding))=>[(1,.d (.sl 2 (a1.map cS_PrepressFact))),(8,.own 47 3 (p.map cS_PrepressFinding)),(26,.d (.sl 6 (a0.map cS_PrepressRule))),(27,.d (.v (.int .i64 (a0.length:Int)))),(28,.d (.v (.int .i64 v5))),(1000000,.glo 0 ([gm0].flatMap (cI .i64))),(1000001,.glo 3 (glob_internal_strconv_uint64pow10.flatMap (cI .u64)))]) (fun s h=>?_) (fun v6 h=>?_)
          · refine T_block ?_
            obtain ⟨hp1,h⟩:=chk_ok h
            refine T_reg [(0,{ cs:=cS_PrepressRule (a0.getD v5.toNat (S_PrepressRule.mk [] (S_PrepressCond.mk 0 [] 0 0 []))) })] [1,8,10,26,27,28,1000000,1000001] [(10,.box [.d (.str ((a0.getD v5.toNat (S_PrepressRule.mk [] (S_PrepressCond.mk 0 [] 0 0 []))).f0)),.d (.v (.int .i64 (((a0.getD v5.toNat (S_PrepressRule.mk [] (S_PrepressCond.mk 0 [] 0 0 []))).f1).f0))),.d (.sl 2 ((((a0.getD v5.toNat (S_PrepressRule.mk [] (S_PrepressCond.mk 0 [] 0 0 []))).f1).f1).map cS_PrepressTerm)),.d (.v (.int .i64 (((a0.getD v5.toNat (S_PrepressRule.mk [] (S_PrepressCond.mk 0 [] 0 0 []))).f1).f2))),.d (.v (.int .i64 (((a0.getD v5.toNat (S_PrepressRule.mk [] (S_PrepressCond.mk 0 [] 0 0 []))).f1).f3))),.d (.sl 5 ((((a0.getD v5.toNat (S_PrepressRule.mk [] (S_PrepressCond.mk 0 [] 0 0 []))).f1).f4).map rS_PrepressCond))])] [(0,0≤v5∧(a0.map cS_PrepressRule)[v5.toNat]? = some (cS_PrepressRule (a0.getD v5.toNat (S_PrepressRule.mk [] (S_PrepressCond.mk 0 [] 0 0 [])))))] 3 (by kernel_rfl) (idx_ok (d:=(S_PrepressRule.mk [] (S_PrepressCond.mk 0 [] 0 0 []))) cS_PrepressRule hp1) ?_
            obtain ⟨y3,hy3,h⟩:=call_ok h
            refine T_reg [(3,{ res:=.d (.v (.int .i64 y3)) })] [1,8,10,26,27,28,35,1000000,1000001] [(35,.d (.v (.int .i64 y3)))] [(3,ACall Tryz.prog 33 [.agg (cS_PrepressCond ((a0.getD v5.toNat (S_PrepressRule.mk [] (S_PrepressCond.mk 0 [] 0 0 []))).f1)),.d (.sl 2 (a1.map cS_PrepressFact))] [] (.d (.v (.int .i64 y3))) [])] 0 (by kernel_rfl) (prepress_truth_ok hy3) ?_
            refine T_block ?_
            refine T_reg [] [1,8,10,26,27,28,35,36,1000000,1000001] [(36,.d (.v (.bool (y3 == (0:Int)))))] [] 2 (by kernel_rfl) (trivial) ?_
            refine T_cond (y3 == (0:Int)) (by kernel_rfl) (fun hc=>?_) (fun hc=>?_)
            · have h:=cond_tt hc h
              obtain ⟨y4,hy4,h⟩:=call_ok h
              obtain ⟨hp2,h⟩:=chk_ok h
              obtain ⟨l1,hl1,h⟩:=lett_ok h
              obtain hs:=Option.some.inj h; subst hs
              refine T_drawX_end mixed 3 (.take 0 (.take 1 (.take 3 (.take 5 (.all (.alt 2 (.all (.alt 4 (.all (.alt 6 (.all (.alt 7 (.all (.alt 8 (.all (.alt 9 (.take 10 .done) .stop)) .stop)) .stop)) .stop)) .stop)) (.alt 4 (.all (.alt 2 (.all (.alt 6 (.all (.alt 7 (.all (.alt 8 (.all (.alt 9 (.take 10 .done) .stop)) .stop)) .stop)) .stop)) (.alt 6 (.all (.alt 2 (.all (.alt 7 (.all (.alt 8 (.all (.alt 9 (.take 10 .done) .stop)) .stop)) .stop)) .stop)) .stop))) .stop))))))) ([0,0,2,0,8,0,48,68,128,321,1023],[0,0,2,0,8,0,48,68,128,257,513]) 1067 [(6,{ res:=.own 9 1 (y4.map cS) }),(7,{ frz:=[(44,0)] }),(8,{ es:=some (([(S_PrepressFinding.mk ((a0.getD v5.toNat (S_PrepressRule.mk [] (S_PrepressCond.mk 0 [] 0 0 []))).f0) false y4)]).map cS_PrepressFinding) }),(9,{ es:=some (l1.map cS_PrepressFinding) })] [1,8,26,27,28,1000000,1000001] [] [(1,.d (.sl 2 (a1.map cS_PrepressFact))),(8,.own 47 3 (l1.map cS_PrepressFinding)),(26,.d (.sl 6 (a0.map cS_PrepressRule))),(27,.d (.v (.int .i64 (a0.length:Int)))),(28,.d (.v (.int .i64 v5))),(1000000,.glo 0 ([gm0].flatMap (cI .i64))),(1000001,.glo 3 (glob_internal_strconv_uint64pow10.flatMap (cI .u64)))] ((fun (o6:Prop)=>fun (o8:Prop)=>fun (o9:Prop)=>[(6,o6),(1,o8),(0,o9),(3,o6),(1,o8),(0,o9),(1,o6),(2,o8),(0,o9)]) (ACall Tryz.prog 36 [.agg (cS_PrepressCond ((a0.getD v5.toNat (S_PrepressRule.mk [] (S_PrepressCond.mk 0 [] 0 0 []))).f1)),.d (.sl 2 (a1.map cS_PrepressFact))] [] (.own 9 1 (y4.map cS)) []) ((([(S_PrepressFinding.mk ((a0.getD v5.toNat (S_PrepressRule.mk [] (S_PrepressCond.mk 0 [] 0 0 []))).f0) false y4)]).map cS_PrepressFinding)=(([(S_PrepressFinding.mk ((a0.getD v5.toNat (S_PrepressRule.mk [] (S_PrepressCond.mk 0 [] 0 0 []))).f0) false y4)]).map cS_PrepressFinding)) ((v4.map cS_PrepressFinding).length+(([(S_PrepressFinding.mk ((a0.getD v5.toNat (S_PrepressRule.mk [] (S_PrepressCond.mk 0 [] 0 0 []))).f0) false y4)]).map cS_PrepressFinding).length≤4294967296∧(v4.map cS_PrepressFinding)++(([(S_PrepressFinding.mk ((a0.getD v5.toNat (S_PrepressRule.mk [] (S_PrepressCond.mk 0 [] 0 0 []))).f0) false y4)]).map cS_PrepressFinding)=(l1.map cS_PrepressFinding))) 1 (by kernel_rfl) (by kernel_rfl) (by kernel_rfl) (have p6:=prepress_because_ok hy4; have p8:=rfl; have p9:=and_trans (app_ok cS_PrepressFinding hp2) (by subst hl1; rfl); ⟨p6,p8,p9,p6,p8,p9,p6,p8,p9⟩) fun a w hm=>inBlock_norm (inBlock_norm (then_norm (hm.co (cs:=[.keep [1,8,26,27,28,1000000,1000001]]) (by show _=_; kernel_rfl))))
            · have h:=cond_ff hc h
              refine T_reg [] [1,8,10,26,27,28,48,1000000,1000001] [(48,.d (.v (.bool (y3 == (2:Int)))))] [] 2 (by kernel_rfl) (trivial) ?_
              refine T_cond (y3 == (2:Int)) (by kernel_rfl) (fun hc=>?_) (fun hc=>?_)
              · have h:=cond_tt hc h
                cases h
              · have h:=cond_ff hc h
                obtain hs:=Option.some.inj h; subst hs
                refine T_skip fun a w hm=>inBlock_norm (inBlock_norm (then_norm (hm.co (cs:=[.keep [1,8,26,27,28,1000000,1000001]]) (by show _=_; kernel_rfl))))
          · skip
            refine T_reg_end [] [1,8,26,27,28,1000000,1000001] [(28,.d (.v (.int .i64 (IntKind.i64.wrap (v5+(1:Int))))))] [] 2 (by kernel_rfl) (trivial) fun a w hm=>then_norm (⟨(v6,IntKind.i64.wrap (v5+(1:Int))),h,hm.co (cs:=[.keep [1,8,26,27,28,1000000,1000001]]) (by show _=_; kernel_rfl)⟩)
        · have h:=cond_ff hc h
          obtain hs:=Option.some.inj h; subst hs
          refine T_exit fun a w hm=>then_exit (then_exit (inBlock_exit (then_norm (hm.co (cs:=[.keep [8,1000000,1000001]]) (by show _=_; kernel_rfl)))))
      · skip
        refine fun a w hm=>then_norm (((?_:T Tryz.prog e 89 _ _ _) a w hm))
        refine T_reg [] [4,5,8,1000000,1000001] [(4,.vw (8,0)),(5,.d (.v (.int .i64 (0:Int))))] [] 3 (by kernel_rfl) (trivial) ?_
        obtain hs:=Option.some.inj h; subst hs
        refine T_ret fun a w hm=>T_return (fr':=[(4,.own 47 3 (v7.map cS_PrepressFinding)),(5,.d (.v (.int .i64 (0:Int)))),(1000000,.glo 0 ([gm0].flatMap (cI .i64))),(1000001,.glo 3 (glob_internal_strconv_uint64pow10.flatMap (cI .u64)))]) [4,5] (by kernel_rfl) [.claim 4,.keep [4,5,1000000,1000001]] (by kernel_rfl) (by kernel_rfl) (by kernel_rfl) (by show _=_; kernel_rfl) (by exact ⟨⟨by kernel_rfl,by kernel_rfl⟩,⟨⟨by kernel_rfl,by kernel_rfl⟩,trivial⟩⟩) a w hm
theorem slices_Equal_string_ok {F:Nat} {a0:List (List UInt8)} {a1:List (List UInt8)} {r:Bool} (h:slices_Equal_string F a0 a1=some r):ACall Tryz.prog 23 [.d (.sl 1 (a0.map cS)),.d (.sl 1 (a1.map cS))] [] (.d (.v (.bool r))) []:=by
  rw [slices_Equal_string] at h
  refine ACall.intro (N:=26) Tryz.func23 rfl rfl rfl rfl rfl fun e=>?_
  refine T_reg [] [0,1] [] [] 1 (by kernel_rfl) (trivial) ?_
  refine T_seqk ?_
  refine T_reg [(1,{ rw:=some (.d (.v (.int .i64 (a0.length:Int)))) }),(3,{ rw:=some (.d (.v (.int .i64 (a1.length:Int)))) })] [0,1,10] [(10,.d (.v (.bool ((a0.length:Int) != (a1.length:Int)))))] [(1,True∧AV.d (.v (.int .i64 ((a0.map cS).length:Int)))=.d (.v (.int .i64 (a0.length:Int)))),(1,True∧AV.d (.v (.int .i64 ((a1.map cS).length:Int)))=.d (.v (.int .i64 (a1.length:Int))))] 1 (by kernel_rfl) (⟨len_ok cS,len_ok cS⟩) ?_
  refine T_cond ((a0.length:Int) != (a1.length:Int)) (by kernel_rfl) (fun hc=>?_) (fun hc=>?_)
  · have h:=cond_tt hc h
    refine T_reg [] [4] [(4,.d (.v (.bool false)))] [] 1 (by kernel_rfl) (trivial) ?_
    obtain hs:=Option.some.inj h; subst hs
    refine T_ret fun a w hm=>then_ret (T_return (fr':=[(4,.d (.v (.bool false)))]) [4] (by kernel_rfl) [.keep [4]] (by kernel_rfl) (by kernel_rfl) (by kernel_rfl) (by show _=_; kernel_rfl) (by exact trivial) a w hm)
  · have h:=cond_ff hc h
    refine T_skip fun a w hm=>then_norm (((?_:T Tryz.prog e 26 _ _ _) a w hm))
    refine T_seqk ?_
    refine T_reg [(1,{ rw:=some (.d (.v (.int .i64 (a0.length:Int)))) })] [0,1,12,13] [(12,.d (.v (.int .i64 (a0.length:Int)))),(13,.d (.v (.int .i64 (0:Int))))] [(1,True∧AV.d (.v (.int .i64 ((a0.map cS).length:Int)))=.d (.v (.int .i64 (a0.length:Int))))] 1 (by kernel_rfl) (len_ok cS) ?_
    refine T_joinEt h (fun (p:Unit)=>[]) (fun s h hk1=>?_) (fun s h=>?_)
    · refine T_co [.keep [0,1,12,13]] ((fun (p:Int)=>[(0,.d (.sl 1 (a0.map cS))),(1,.d (.sl 1 (a1.map cS))),(12,.d (.v (.int .i64 (a0.length:Int)))),(13,.d (.v (.int .i64 p)))]) (0:Int)) (by show _=_; kernel_rfl) ?_
      refine T_block ?_
      refine T_loopF (ι:=Int) (fun (p:Int)=>[(0,.d (.sl 1 (a0.map cS))),(1,.d (.sl 1 (a1.map cS))),(12,.d (.v (.int .i64 (a0.length:Int)))),(13,.d (.v (.int .i64 p)))]) (fun n p=>slices_Equal_string_L0 F a0 a1 n p=some s) (fun i hh=>by simp [slices_Equal_string_L0] at hh) (fun n v1 h=>?_) F (0:Int) h
      have h:slices_Equal_string_L0 F a0 a1 (n+1) v1=some s:=h
      rw [slices_Equal_string_L0] at h
      refine T_reg [] [0,1,12,13,14] [(14,.d (.v (.bool (decide (v1 < (a0.length:Int))))))] [] 1 (by kernel_rfl) (trivial) ?_
      refine T_seqk ?_
      refine T_cond (decide (v1 < (a0.length:Int))) (by kernel_rfl) (fun hc=>?_) (fun hc=>?_)
      · have h:=cond_tt hc h
        refine T_skip fun a w hm=>then_norm (((?_:T Tryz.prog e 26 _ _ _) a w hm))
        refine T_seqk ?_
        refine T_block ?_
        refine T_reg [] [0,1,5,12,13] [(5,.d (.v (.int .i64 v1)))] [] 2 (by kernel_rfl) (trivial) ?_
        obtain ⟨hp1,h⟩:=chk_ok h
        obtain ⟨hp2,h⟩:=chk_ok h
        refine T_draw mixed [(2,{ cs:=cS (a0.getD v1.toNat []) }),(6,{ cs:=cS (a1.getD v1.toNat []) })] [0,1,12,13,24] [] [(0,.d (.sl 1 (a0.map cS))),(1,.d (.sl 1 (a1.map cS))),(12,.d (.v (.int .i64 (a0.length:Int)))),(13,.d (.v (.int .i64 v1))),(24,.d (.v (.bool (!((a0.getD v1.toNat []) == (a1.getD v1.toNat []))))))] [(2,0≤v1∧(a0.map cS)[v1.toNat]? = some (cS (a0.getD v1.toNat []))),(3,0≤v1∧(a1.map cS)[v1.toNat]? = some (cS (a1.getD v1.toNat [])))] 2 (by kernel_rfl) (⟨idx_ok (d:=[]) cS hp1,idx_ok (d:=[]) cS hp2⟩) ?_
        refine T_cond (!((a0.getD v1.toNat []) == (a1.getD v1.toNat []))) (by kernel_rfl) (fun hc=>?_) (fun hc=>?_)
        · have h:=cond_tt hc h
          refine T_reg [] [4] [(4,.d (.v (.bool false)))] [] 1 (by kernel_rfl) (trivial) ?_
          obtain hs:=Option.some.inj h; subst hs
          have h:=callE_esc hk1
          obtain hs:=Option.some.inj h; subst hs
          refine T_ret fun a w hm=>inBlock_ret (then_ret (then_ret (inBlock_ret (then_ret (then_ret (T_return (fr':=[(4,.d (.v (.bool false)))]) [4] (by kernel_rfl) [.keep [4]] (by kernel_rfl) (by kernel_rfl) (by kernel_rfl) (by show _=_; kernel_rfl) (by exact trivial) a w hm))))))
        · have h:=cond_ff hc h
          refine T_skip fun a w hm=>inBlock_norm (then_norm (((?_:T Tryz.prog e 26 _ _ _) a w hm)))
          refine T_reg_end [] [0,1,12,13] [(13,.d (.v (.int .i64 (IntKind.i64.wrap (v1+(1:Int))))))] [] 2 (by kernel_rfl) (trivial) fun a w hm=>then_norm (⟨IntKind.i64.wrap (v1+(1:Int)),h,hm.co (cs:=[.keep [0,1,12,13]]) (by show _=_; kernel_rfl)⟩)
      · have h:=cond_ff hc h
        obtain hs:=Option.some.inj h; subst hs
        refine T_exit fun a w hm=>then_exit (then_exit (inBlock_exit (then_norm (⟨_,rfl,hm.co (cs:=[.keep []]) (by show _=_; kernel_rfl)⟩))))
    · skip
      refine fun a w hm=>then_norm (((?_:T Tryz.prog e 26 _ _ _) a w hm))
      refine T_reg [] [4] [(4,.d (.v (.bool true)))] [] 1 (by kernel_rfl) (trivial) ?_
      obtain hs:=Option.some.inj h; subst hs
      refine T_ret fun a w hm=>T_return (fr':=[(4,.d (.v (.bool true)))]) [4] (by kernel_rfl) [.keep [4]] (by kernel_rfl) (by kernel_rfl) (by kernel_rfl) (by show _=_; kernel_rfl) (by exact trivial) a w hm
end Go.Vm.PreG
