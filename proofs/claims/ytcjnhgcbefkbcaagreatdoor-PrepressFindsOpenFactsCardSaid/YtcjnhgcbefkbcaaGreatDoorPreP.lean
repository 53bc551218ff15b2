import Derived.Test.YtcjnhgcbefkbcaaGreatDoorProg
import Derived.Test.YtcjnhgcbefkbcaaGreatDoorPreF
import Derived.Test.YtcjnhgcbefkbcaaGreatDoorPreB
import Derived.Test.YtcjnhgcbefkbcaaGreatDoorPreH
namespace Go.Vm.PreG
open Go.Proofs
abbrev dI (x:Int):AV:=.d (.v (.int .i64 x))
abbrev dB (x:Bool):AV:=.d (.v (.bool x))
abbrev bx_PrepressTerm (x:S_PrepressTerm):AV:=.box [.d (.v (.int .i64 x.f0)),.d (.str x.f1)]
abbrev bx_PrepressCond (x:S_PrepressCond):AV:=.box [.d (.v (.int .i64 x.f0)),.d (.sl 2 (x.f1.map cS_PrepressTerm)),.d (.v (.int .i64 x.f2)),.d (.v (.int .i64 x.f3)),.d (.sl 5 (x.f4.map rS_PrepressCond))]
abbrev bx_PrepressRule (x:S_PrepressRule):AV:=.box [.d (.str x.f0),.d (.v (.int .i64 x.f1.f0)),.d (.sl 2 (x.f1.f1.map cS_PrepressTerm)),.d (.v (.int .i64 x.f1.f2)),.d (.v (.int .i64 x.f1.f3)),.d (.sl 5 (x.f1.f4.map rS_PrepressCond))]
abbrev bx_PrepressFact (x:S_PrepressFact):AV:=.box [.d (.str x.f0),.d (.v (.int .i64 x.f1))]
abbrev z_PrepressRule:S_PrepressRule:=S_PrepressRule.mk [] (S_PrepressCond.mk 0 [] 0 0 [])
abbrev z_ref3_wait:S_ref3_wait:=S_ref3_wait.mk (S_PrepressCond.mk 0 [] 0 0 []) 0
abbrev z_PrepressFinding:S_PrepressFinding:=S_PrepressFinding.mk [] false []
abbrev z_PrepressCond:S_PrepressCond:=S_PrepressCond.mk 0 [] 0 0 []
abbrev z_PrepressTerm:S_PrepressTerm:=S_PrepressTerm.mk 0 []
abbrev z_PrepressFact:S_PrepressFact:=S_PrepressFact.mk [] 0
abbrev oW0 (x:List S_PrepressTerm):AV:=.own 86 2 (x.map cS_PrepressTerm)
abbrev oW1 (x:List S_PrepressCond):AV:=.own 33 5 (x.map rS_PrepressCond)
abbrev oW2 (x:List (List UInt8)):AV:=.own 9 1 (x.map cS)
abbrev oW3 (x:List UInt8):AV:=.own 5 1 (x.map cU)
abbrev oW4 (x:List S_PrepressFact):AV:=.own 51 2 (x.map cS_PrepressFact)
abbrev oW5 (x:List S_PrepressFinding):AV:=.own 47 3 (x.map cS_PrepressFinding)
abbrev oW6 (x:List S_ref3_wait):AV:=.own 98 6 (x.map cS_ref3_wait)
abbrev oW7 (x:List Bool):AV:=.own 4 1 (x.map cB)
set_option maxRecDepth 20000
variable {gm0:Int}
theorem mixed:Tryz.prog.follows .mixedOrders=true:=by kernel_rfl
theorem law3_rule_ok {F:Nat} {a0:List UInt8} {a1:Int} {a2:Int} {r:S_PrepressRule} (h:law3_rule F a0 a1 a2=some r):ACall Tryz.prog 22 [.d (.str a0),.d (.v (.int .i64 a1)),.d (.v (.int .i64 a2))] [] (.agg (cS_PrepressRule r)) []:=by
  rw [law3_rule] at h
  refine ACall.intro (N:=14) Tryz.func22 rfl rfl rfl rfl rfl fun e=>?_
  refine T_reg [] [0,1,2,6] [(6,.box [.d (.str []),dI 0,oW0 [],dI 0,dI 0,oW1 []])] [] 1 (by kernel_rfl) (trivial) ?_
  refine T_reg [(2,{ es:=some (([(S_PrepressTerm.mk (1:Int) a0)]).map cS_PrepressTerm) }),(5,{ frz:=[(9,0)] })] [6] [(6,.box [.d (.str ([97]:List UInt8)),dI 0,.d (.sl 2 (([(S_PrepressTerm.mk (1:Int) a0)]).map cS_PrepressTerm)),dI a1,dI a2,.d (.sl 5 ([].map rS_PrepressCond))])] [(2,(([(S_PrepressTerm.mk (1:Int) a0)]).map cS_PrepressTerm)=(([(S_PrepressTerm.mk (1:Int) a0)]).map cS_PrepressTerm))] 5 (by kernel_rfl) (rfl) ?_
  obtain hs:=Option.some.inj h; subst hs
  refine T_ret fun a w hm=>T_returnC (fr':=[(6,.box [.d (.str ([97]:List UInt8)),dI 0,.d (.sl 2 (([(S_PrepressTerm.mk (1:Int) a0)]).map cS_PrepressTerm)),dI a1,dI a2,.d (.sl 5 ([].map rS_PrepressCond))])]) (ts:=[14]) (N':=15) (fr2:=[(14,.agg (cS_PrepressRule (S_PrepressRule.mk ([97]:List UInt8) (S_PrepressCond.mk 0 ([(S_PrepressTerm.mk (1:Int) a0)]) a1 a2 []))))]++[(6,.box [.d (.str ([97]:List UInt8)),dI 0,.d (.sl 2 (([(S_PrepressTerm.mk (1:Int) a0)]).map cS_PrepressTerm)),dI a1,dI a2,.d (.sl 5 ([].map rS_PrepressCond))])]) [.keep [6]] (by kernel_rfl) (by kernel_rfl) (by kernel_rfl) (by kernel_rfl) (by show _=_; kernel_rfl) (by exact trivial) a w hm
theorem slices_Index_string_ok {F:Nat} {a0:List (List UInt8)} {a1:List UInt8} {r:Int} (h:slices_Index_string F a0 a1=some r):ACall Tryz.prog 80 [.d (.sl 1 (a0.map cS)),.d (.str a1)] [] (.d (.v (.int .i64 r))) []:=by
  rw [slices_Index_string] at h
  refine ACall.intro (N:=19) Tryz.func80 rfl rfl rfl rfl rfl fun e=>?_
  refine T_reg [] [0,1] [] [] 1 (by kernel_rfl) (trivial) ?_
  refine T_seqk ?_
  refine T_reg [(1,{ rw:=some (dI (a0.length:Int)) })] [0,1,7,8] [(7,dI (a0.length:Int)),(8,dI (0:Int))] [(1,True∧dI ((a0.map cS).length:Int)=dI (a0.length:Int))] 1 (by kernel_rfl) (len_ok cS) ?_
  refine T_joinEt h (fun (p:Unit)=>[]) (fun s h hk1=>?_) (fun s h=>?_)
  · refine T_co [.keep [0,1,7,8]] ((fun (p:Int)=>[(0,.d (.sl 1 (a0.map cS))),(1,.d (.str a1)),(7,dI (a0.length:Int)),(8,dI p)]) (0:Int)) (by show _=_; kernel_rfl) ?_
    refine T_block ?_
    refine T_loopF (ι:=Int) (fun (p:Int)=>[(0,.d (.sl 1 (a0.map cS))),(1,.d (.str a1)),(7,dI (a0.length:Int)),(8,dI p)]) (fun n p=>slices_Index_string_L0 F a0 a1 n p=some s) (fun i hh=>by simp [slices_Index_string_L0] at hh) (fun n v1 h=>?_) F (0:Int) h
    have h:slices_Index_string_L0 F a0 a1 (n+1) v1=some s:=h
    rw [slices_Index_string_L0] at h
    refine T_reg [] [0,1,7,8,9] [(9,dB (decide (v1 < (a0.length:Int))))] [] 1 (by kernel_rfl) (trivial) ?_
    refine T_seqk ?_
    refine T_cond (decide (v1 < (a0.length:Int))) (by kernel_rfl) (fun hc=>?_) (fun hc=>?_)
    · have h:=cond_tt hc h
      refine T_skip fun a w hm=>then_norm (((?_:T Tryz.prog e 19 _ _ _) a w hm))
      refine T_seqk ?_
      refine T_block ?_
      refine T_reg [] [0,1,5,7,8] [(5,dI v1)] [] 2 (by kernel_rfl) (trivial) ?_
      obtain ⟨hp1,h⟩:=chk_ok h
      refine T_reg [(3,{ cs:=cS (a0.getD v1.toNat []) })] [0,1,5,7,8,16] [(16,dB (a1 == (a0.getD v1.toNat [])))] [(3,0≤v1∧(a0.map cS)[v1.toNat]? = some (cS (a0.getD v1.toNat [])))] 2 (by kernel_rfl) (idx_ok (d:=[]) cS hp1) ?_
      refine T_cond (a1 == (a0.getD v1.toNat [])) (by kernel_rfl) (fun hc=>?_) (fun hc=>?_)
      · have h:=cond_tt hc h
        refine T_reg [] [4] [(4,dI v1)] [] 2 (by kernel_rfl) (trivial) ?_
        obtain hs:=Option.some.inj h; subst hs
        have h:=callE_esc hk1
        obtain hs:=Option.some.inj h; subst hs
        refine T_ret fun a w hm=>inBlock_ret (then_ret (then_ret (inBlock_ret (then_ret (then_ret (T_return (fr':=[(4,dI v1)]) [4] (by kernel_rfl) [.keep [4]] (by kernel_rfl) (by kernel_rfl) (by kernel_rfl) (by show _=_; kernel_rfl) (by exact trivial) a w hm))))))
      · have h:=cond_ff hc h
        refine T_skip fun a w hm=>inBlock_norm (then_norm (((?_:T Tryz.prog e 19 _ _ _) a w hm)))
        refine T_reg_end [] [0,1,7,8] [(8,dI (IntKind.i64.wrap (v1+(1:Int))))] [] 2 (by kernel_rfl) (trivial) fun a w hm=>then_norm (⟨IntKind.i64.wrap (v1+(1:Int)),h,hm.co (cs:=[.keep [0,1,7,8]]) (by show _=_; kernel_rfl)⟩)
    · have h:=cond_ff hc h
      obtain hs:=Option.some.inj h; subst hs
      refine T_exit fun a w hm=>then_exit (then_exit (inBlock_exit (then_norm (⟨_,rfl,hm.co (cs:=[.keep []]) (by show _=_; kernel_rfl)⟩))))
  · skip
    refine fun a w hm=>then_norm (((?_:T Tryz.prog e 19 _ _ _) a w hm))
    refine T_reg [] [4] [(4,dI (-1:Int))] [] 1 (by kernel_rfl) (trivial) ?_
    obtain hs:=Option.some.inj h; subst hs
    refine T_ret fun a w hm=>T_return (fr':=[(4,dI (-1:Int))]) [4] (by kernel_rfl) [.keep [4]] (by kernel_rfl) (by kernel_rfl) (by kernel_rfl) (by show _=_; kernel_rfl) (by exact trivial) a w hm
theorem slices_Contains_string_ok {F:Nat} {a0:List (List UInt8)} {a1:List UInt8} {r:Bool} (h:slices_Contains_string F a0 a1=some r):ACall Tryz.prog 51 [.d (.sl 1 (a0.map cS)),.d (.str a1)] [] (.d (.v (.bool r))) []:=by
  rw [slices_Contains_string] at h
  refine ACall.intro (N:=9) Tryz.func51 rfl rfl rfl rfl rfl fun e=>?_
  refine T_reg [] [0,1] [] [] 1 (by kernel_rfl) (trivial) ?_
  obtain ⟨y1,hy1,h⟩:=call_ok h
  refine T_reg [(2,{ res:=dI y1 })] [4] [(4,dB (decide (y1 ≥ (0:Int))))] [(2,ACall Tryz.prog 80 [.d (.sl 1 (a0.map cS)),.d (.str a1)] [] (dI y1) [])] 2 (by kernel_rfl) (slices_Index_string_ok hy1) ?_
  obtain hs:=Option.some.inj h; subst hs
  refine T_ret fun a w hm=>T_return (fr':=[(4,dB (decide (y1 ≥ (0:Int))))]) [4] (by kernel_rfl) [.keep [4]] (by kernel_rfl) (by kernel_rfl) (by kernel_rfl) (by show _=_; kernel_rfl) (by exact trivial) a w hm
theorem prepress_plain_ok {F:Nat} {a0:List UInt8} {r:Bool} (h:prepress_plain F a0=some r):ACall Tryz.prog 27 [.d (.str a0)] [] (.d (.v (.bool r))) []:=by
  rw [prepress_plain] at h
  refine ACall.intro (N:=51) Tryz.func27 rfl rfl rfl rfl rfl fun e=>?_
  refine T_reg [] [0] [] [] 1 (by kernel_rfl) (trivial) ?_
  refine T_seqk ?_
  refine T_reg [] [0,6,7] [(6,dI (a0.length:Int)),(7,dI (0:Int))] [] 3 (by kernel_rfl) (trivial) ?_
  refine T_joinEt h (fun (p:Unit)=>[(0,.d (.str a0))]) (fun s h hk1=>?_) (fun s h=>?_)
  · refine T_co [.keep [0,6,7]] ((fun (p:Int)=>[(0,.d (.str a0)),(6,dI (a0.length:Int)),(7,dI p)]) (0:Int)) (by show _=_; kernel_rfl) ?_
    refine T_block ?_
    refine T_loopF (ι:=Int) (fun (p:Int)=>[(0,.d (.str a0)),(6,dI (a0.length:Int)),(7,dI p)]) (fun n p=>prepress_plain_L0 F a0 n p=some s) (fun i hh=>by simp [prepress_plain_L0] at hh) (fun n v1 h=>?_) F (0:Int) h
    have h:prepress_plain_L0 F a0 (n+1) v1=some s:=h
    rw [prepress_plain_L0] at h
    refine T_reg [] [0,6,7,8] [(8,dB (decide (v1 < (a0.length:Int))))] [] 1 (by kernel_rfl) (trivial) ?_
    refine T_seqk ?_
    refine T_cond (decide (v1 < (a0.length:Int))) (by kernel_rfl) (fun hc=>?_) (fun hc=>?_)
    · have h:=cond_tt hc h
      refine T_skip fun a w hm=>then_norm (((?_:T Tryz.prog e 51 _ _ _) a w hm))
      refine T_seqk ?_
      refine T_block ?_
      refine T_reg [] [0,3,6,7] [(3,dI v1)] [] 2 (by kernel_rfl) (trivial) ?_
      obtain ⟨hp1,h⟩:=chk_ok h
      refine T_reg [] [0,3,4,6,7] [(4,.d (.v (.int .u8 ((a0.getD v1.toNat 0).toNat:Int))))] [(2,0≤v1∧v1 < a0.length)] 1 (by kernel_rfl) (hp1) ?_
      obtain ⟨z1,hz1,h⟩:=lett_ok h
      obtain ⟨z2,hz2,h⟩:=lett_ok h
      obtain ⟨z3,hz3,h⟩:=lett_ok h
      refine T_reg [(5,{ rw:=some (dB z1) }),(16,{ rw:=some (dB z2) }),(22,{ rw:=some (dB z3) })] [0,6,7,36] [(36,dB (bif (!z1) then z3 else false))] [(3,((((decide ((97:Int)≤((a0.getD v1.toNat 0).toNat:Int))) == true) && true)=true→True)),(0,((((decide ((97:Int)≤((a0.getD v1.toNat 0).toNat:Int))) == true) && true)=true→True)),(0,(True)∧dB (bif (decide ((97:Int)≤((a0.getD v1.toNat 0).toNat:Int))) then (decide (((a0.getD v1.toNat 0).toNat:Int)≤(122:Int))) else false)=dB z1),(2,((((!z1) == true) && true)=true→True)),(0,((((!z1) == true) && true)=true→True)),(0,((((!z1) == true) && true)=true→True)),(0,((((v1 == (0:Int)) == false) && (((!z1) == true) && true))=true→True)),(0,((((v1 == (0:Int)) == false) && (((!z1) == true) && true))=true→True)),(0,((((v1 == (0:Int)) == false) && (((!z1) == true) && true))=true→True)),(0,((((decide ((48:Int)≤((a0.getD v1.toNat 0).toNat:Int))) == true) && (((v1 == (0:Int)) == false) && (((!z1) == true) && true)))=true→True)),(0,((((decide ((48:Int)≤((a0.getD v1.toNat 0).toNat:Int))) == true) && (((v1 == (0:Int)) == false) && (((!z1) == true) && true)))=true→True)),(0,((((v1 == (0:Int)) == false) && (((!z1) == true) && true))=true→(True)∧dB (bif (decide ((48:Int)≤((a0.getD v1.toNat 0).toNat:Int))) then (decide (((a0.getD v1.toNat 0).toNat:Int)≤(57:Int))) else false)=dB z2)),(0,((((v1 == (0:Int)) == false) && (((!z1) == true) && true))=true→True)),(0,((((v1 == (0:Int)) == false) && (((!z1) == true) && true))=true→True)),(0,((((!z2) == true) && (((v1 == (0:Int)) == false) && (((!z1) == true) && true)))=true→True)),(0,((((!z2) == true) && (((v1 == (0:Int)) == false) && (((!z1) == true) && true)))=true→True)),(0,((((v1 == (0:Int)) == false) && (((!z1) == true) && true))=true→True)),(0,((((!z1) == true) && true)=true→(True)∧dB (bif (v1 == (0:Int)) then true else (bif (!z2) then (((a0.getD v1.toNat 0).toNat:Int) != (45:Int)) else false))=dB z3))] 1 (by kernel_rfl) (⟨(fun hg=>trivial),(fun hg=>trivial),⟨trivial,(by subst hz1; rfl)⟩,(fun hg=>trivial),(fun hg=>trivial),(fun hg=>trivial),(fun hg=>trivial),(fun hg=>trivial),(fun hg=>trivial),(fun hg=>trivial),(fun hg=>trivial),(fun hg=>⟨trivial,(by subst hz2; rfl)⟩),(fun hg=>trivial),(fun hg=>trivial),(fun hg=>trivial),(fun hg=>trivial),(fun hg=>trivial),(fun hg=>⟨trivial,(by subst hz3; rfl)⟩)⟩) ?_
      refine T_cond (bif (!z1) then z3 else false) (by kernel_rfl) (fun hc=>?_) (fun hc=>?_)
      · have h:=cond_tt hc h
        refine T_reg [] [2] [(2,dB false)] [] 1 (by kernel_rfl) (trivial) ?_
        obtain hs:=Option.some.inj h; subst hs
        have h:=callE_esc hk1
        obtain hs:=Option.some.inj h; subst hs
        refine T_ret fun a w hm=>inBlock_ret (then_ret (then_ret (inBlock_ret (then_ret (then_ret (T_return (fr':=[(2,dB false)]) [2] (by kernel_rfl) [.keep [2]] (by kernel_rfl) (by kernel_rfl) (by kernel_rfl) (by show _=_; kernel_rfl) (by exact trivial) a w hm))))))
      · have h:=cond_ff hc h
        refine T_skip fun a w hm=>inBlock_norm (then_norm (((?_:T Tryz.prog e 51 _ _ _) a w hm)))
        refine T_reg_end [] [0,6,7] [(7,dI (IntKind.i64.wrap (v1+(1:Int))))] [] 2 (by kernel_rfl) (trivial) fun a w hm=>then_norm (⟨IntKind.i64.wrap (v1+(1:Int)),h,hm.co (cs:=[.keep [0,6,7]]) (by show _=_; kernel_rfl)⟩)
    · have h:=cond_ff hc h
      obtain hs:=Option.some.inj h; subst hs
      refine T_exit fun a w hm=>then_exit (then_exit (inBlock_exit (then_norm (⟨_,rfl,hm.co (cs:=[.keep [0]]) (by show _=_; kernel_rfl)⟩))))
  · skip
    refine fun a w hm=>then_norm (((?_:T Tryz.prog e 51 _ _ _) a w hm))
    obtain ⟨y1,hy1,h⟩:=call_ok h
    obtain ⟨z4,hz4,h⟩:=lett_ok h
    refine T_reg [(8,{ es:=some (([([114,117,108,101]:List UInt8),([110,111,116]:List UInt8),([97,110,100]:List UInt8),([111,114]:List UInt8)]).map cS) }),(10,{ res:=dB y1 }),(12,{ rw:=some (dB z4) })] [2] [(2,dB z4)] [(3,((((!(a0 == [])) == true) && true)=true→True)),(0,((((!(a0 == [])) == true) && true)=true→True)),(0,((((!(a0 == [])) == true) && true)=true→True)),(2,((((bif (!(a0 == [])) then (decide ((a0.length:Int)≤(16:Int))) else false) == true) && true)=true→(([([114,117,108,101]:List UInt8),([110,111,116]:List UInt8),([97,110,100]:List UInt8),([111,114]:List UInt8)]).map cS)=(([([114,117,108,101]:List UInt8),([110,111,116]:List UInt8),([97,110,100]:List UInt8),([111,114]:List UInt8)]).map cS))),(0,((((bif (!(a0 == [])) then (decide ((a0.length:Int)≤(16:Int))) else false) == true) && true)=true→True)),(0,((((bif (!(a0 == [])) then (decide ((a0.length:Int)≤(16:Int))) else false) == true) && true)=true→ACall Tryz.prog 51 [.d (.sl 1 (([([114,117,108,101]:List UInt8),([110,111,116]:List UInt8),([97,110,100]:List UInt8),([111,114]:List UInt8)]).map cS)),.d (.str a0)] [] (dB y1) [])),(0,((((bif (!(a0 == [])) then (decide ((a0.length:Int)≤(16:Int))) else false) == true) && true)=true→True)),(0,(True)∧dB (bif (bif (!(a0 == [])) then (decide ((a0.length:Int)≤(16:Int))) else false) then (!y1) else false)=dB z4)] 1 (by kernel_rfl) (⟨(fun hg=>trivial),(fun hg=>trivial),(fun hg=>trivial),(fun hg=>rfl),(fun hg=>trivial),(fun hg=>slices_Contains_string_ok (gcall_ok hg hy1)),(fun hg=>trivial),⟨trivial,(by subst hz4; rfl)⟩⟩) ?_
    obtain hs:=Option.some.inj h; subst hs
    refine T_ret fun a w hm=>T_return (fr':=[(2,dB z4)]) [2] (by kernel_rfl) [.keep [2]] (by kernel_rfl) (by kernel_rfl) (by kernel_rfl) (by show _=_; kernel_rfl) (by exact trivial) a w hm
theorem prepress_Check_c1_ok {F:Nat} {a0:S_PrepressRule} {c1:List UInt8} {c2:Int} {c3:List S_PrepressTerm} {c4:Int} {c5:Int} {c6:List S_PrepressCond} {r:Bool×(List UInt8)×Int×(List S_PrepressTerm)×Int×Int×(List S_PrepressCond)} (h:prepress_Check_c1 F a0 c1 c2 c3 c4 c5 c6=some r):ACall Tryz.prog 29 [.agg (cS_PrepressRule a0),.bp 1000000 0] [.box [.d (.str c1),.d (.v (.int .i64 c2)),.d (.sl 2 (c3.map cS_PrepressTerm)),.d (.v (.int .i64 c4)),.d (.v (.int .i64 c5)),.d (.sl 5 (c6.map rS_PrepressCond))]] (.d (.v (.bool r.1))) [.box [.d (.str r.2.1),.d (.v (.int .i64 r.2.2.1)),.d (.sl 2 (r.2.2.2.1.map cS_PrepressTerm)),.d (.v (.int .i64 r.2.2.2.2.1)),.d (.v (.int .i64 r.2.2.2.2.2.1)),.d (.sl 5 (r.2.2.2.2.2.2.map rS_PrepressCond))]]:=by
  rw [prepress_Check_c1] at h
  refine ACall.intro (N:=9) Tryz.func29 rfl rfl rfl rfl rfl fun e=>?_
  refine T_reg [] [1,2,1000000] [(2,bx_PrepressRule a0)] [] 2 (by kernel_rfl) (trivial) ?_
  refine T_reg [] [3,1000000] [(3,dB (a0.f0 == c1))] [] 6 (by kernel_rfl) (trivial) ?_
  obtain hs:=Option.some.inj h; subst hs
  refine T_ret fun a w hm=>T_return (fr':=[(3,dB (a0.f0 == c1)),(1000000,.box [.d (.str c1),dI c2,.d (.sl 2 (c3.map cS_PrepressTerm)),dI c4,dI c5,.d (.sl 5 (c6.map rS_PrepressCond))])]) [3] (by kernel_rfl) [.keep [3,1000000]] (by kernel_rfl) (by kernel_rfl) (by kernel_rfl) (by show _=_; kernel_rfl) (by exact ⟨⟨by kernel_rfl,by kernel_rfl⟩,trivial⟩) a w hm
theorem slices_IndexFunc_PrepressRule_ok {F:Nat} {a0:List S_PrepressRule} {c1:List UInt8} {c2:Int} {c3:List S_PrepressTerm} {c4:Int} {c5:Int} {c6:List S_PrepressCond} {r:Int×(List UInt8)×Int×(List S_PrepressTerm)×Int×Int×(List S_PrepressCond)} (h:slices_IndexFunc_PrepressRule F a0 c1 c2 c3 c4 c5 c6=some r):ACall Tryz.prog 52 [.d (.sl 6 (a0.map cS_PrepressRule)),.clo 29 [.bp 1000000 0]] [.box [.d (.str c1),.d (.v (.int .i64 c2)),.d (.sl 2 (c3.map cS_PrepressTerm)),.d (.v (.int .i64 c4)),.d (.v (.int .i64 c5)),.d (.sl 5 (c6.map rS_PrepressCond))]] (.d (.v (.int .i64 r.1))) [.box [.d (.str r.2.1),.d (.v (.int .i64 r.2.2.1)),.d (.sl 2 (r.2.2.2.1.map cS_PrepressTerm)),.d (.v (.int .i64 r.2.2.2.2.1)),.d (.v (.int .i64 r.2.2.2.2.2.1)),.d (.sl 5 (r.2.2.2.2.2.2.map rS_PrepressCond))]]:=by
  rw [slices_IndexFunc_PrepressRule] at h
  refine ACall.intro (N:=19) Tryz.func52 rfl rfl rfl rfl rfl fun e=>?_
  refine T_reg [] [0,1,1000000] [] [] 1 (by kernel_rfl) (trivial) ?_
  refine T_seqk ?_
  refine T_reg [(1,{ rw:=some (dI (a0.length:Int)) })] [0,1,7,8,1000000] [(7,dI (a0.length:Int)),(8,dI (0:Int))] [(1,True∧dI ((a0.map cS_PrepressRule).length:Int)=dI (a0.length:Int))] 1 (by kernel_rfl) (len_ok cS_PrepressRule) ?_
  refine T_joinEt h (fun (p:(List UInt8)×Int×(List S_PrepressTerm)×Int×Int×(List S_PrepressCond))=>[(1000000,.box [.d (.str p.1),dI p.2.1,.d (.sl 2 (p.2.2.1.map cS_PrepressTerm)),dI p.2.2.2.1,dI p.2.2.2.2.1,.d (.sl 5 (p.2.2.2.2.2.map rS_PrepressCond))])]) (fun s h hk1=>?_) (fun s h=>?_)
  · refine T_co [.keep [0,1,7,8,1000000]] ((fun (p:Int×(List UInt8)×Int×(List S_PrepressTerm)×Int×Int×(List S_PrepressCond))=>[(0,.d (.sl 6 (a0.map cS_PrepressRule))),(1,.clo 29 [.bp 1000000 0]),(7,dI (a0.length:Int)),(8,dI p.1),(1000000,.box [.d (.str p.2.1),dI p.2.2.1,.d (.sl 2 (p.2.2.2.1.map cS_PrepressTerm)),dI p.2.2.2.2.1,dI p.2.2.2.2.2.1,.d (.sl 5 (p.2.2.2.2.2.2.map rS_PrepressCond))])]) ((0:Int),c1,c2,c3,c4,c5,c6)) (by show _=_; kernel_rfl) ?_
    refine T_block ?_
    refine T_loopF (ι:=Int×(List UInt8)×Int×(List S_PrepressTerm)×Int×Int×(List S_PrepressCond)) (fun (p:Int×(List UInt8)×Int×(List S_PrepressTerm)×Int×Int×(List S_PrepressCond))=>[(0,.d (.sl 6 (a0.map cS_PrepressRule))),(1,.clo 29 [.bp 1000000 0]),(7,dI (a0.length:Int)),(8,dI p.1),(1000000,.box [.d (.str p.2.1),dI p.2.2.1,.d (.sl 2 (p.2.2.2.1.map cS_PrepressTerm)),dI p.2.2.2.2.1,dI p.2.2.2.2.2.1,.d (.sl 5 (p.2.2.2.2.2.2.map rS_PrepressCond))])]) (fun n p=>slices_IndexFunc_PrepressRule_L0 F a0 n p.1 p.2.1 p.2.2.1 p.2.2.2.1 p.2.2.2.2.1 p.2.2.2.2.2.1 p.2.2.2.2.2.2=some s) (fun i hh=>by simp [slices_IndexFunc_PrepressRule_L0] at hh) (fun n p h=>?_) F ((0:Int),c1,c2,c3,c4,c5,c6) h
    obtain ⟨v1,v2,v3,v4,v5,v6,v7⟩:=p
    have h:slices_IndexFunc_PrepressRule_L0 F a0 (n+1) v1 v2 v3 v4 v5 v6 v7=some s:=h
    rw [slices_IndexFunc_PrepressRule_L0] at h
    refine T_reg [] [0,1,7,8,9,1000000] [(9,dB (decide (v1 < (a0.length:Int))))] [] 1 (by kernel_rfl) (trivial) ?_
    refine T_seqk ?_
    refine T_cond (decide (v1 < (a0.length:Int))) (by kernel_rfl) (fun hc=>?_) (fun hc=>?_)
    · have h:=cond_tt hc h
      refine T_skip fun a w hm=>then_norm (((?_:T Tryz.prog e 19 _ _ _) a w hm))
      refine T_seqk ?_
      refine T_block ?_
      refine T_reg [] [0,1,5,7,8,1000000] [(5,dI v1)] [] 2 (by kernel_rfl) (trivial) ?_
      obtain ⟨hp1,h⟩:=chk_ok h
      obtain ⟨y1,hy1,h⟩:=call_ok h
      refine T_reg [(3,{ cs:=cS_PrepressRule (a0.getD v1.toNat z_PrepressRule) }),(5,{ res:=dB y1.1,vout:=[.box [.d (.str y1.2.1),dI y1.2.2.1,.d (.sl 2 (y1.2.2.2.1.map cS_PrepressTerm)),dI y1.2.2.2.2.1,dI y1.2.2.2.2.2.1,.d (.sl 5 (y1.2.2.2.2.2.2.map rS_PrepressCond))]],xs:=[1000000] })] [0,1,5,7,8,16,1000000] [(16,dB y1.1),(1000000,.box [.d (.str y1.2.1),dI y1.2.2.1,.d (.sl 2 (y1.2.2.2.1.map cS_PrepressTerm)),dI y1.2.2.2.2.1,dI y1.2.2.2.2.2.1,.d (.sl 5 (y1.2.2.2.2.2.2.map rS_PrepressCond))])] [(3,0≤v1∧(a0.map cS_PrepressRule)[v1.toNat]? = some (cS_PrepressRule (a0.getD v1.toNat z_PrepressRule))),(1,ACall Tryz.prog 29 [.agg (cS_PrepressRule (a0.getD v1.toNat z_PrepressRule)),.bp 1000000 0] [.box [.d (.str v2),dI v3,.d (.sl 2 (v4.map cS_PrepressTerm)),dI v5,dI v6,.d (.sl 5 (v7.map rS_PrepressCond))]] (dB y1.1) [.box [.d (.str y1.2.1),dI y1.2.2.1,.d (.sl 2 (y1.2.2.2.1.map cS_PrepressTerm)),dI y1.2.2.2.2.1,dI y1.2.2.2.2.2.1,.d (.sl 5 (y1.2.2.2.2.2.2.map rS_PrepressCond))]])] 0 (by kernel_rfl) (⟨idx_ok (d:=z_PrepressRule) cS_PrepressRule hp1,prepress_Check_c1_ok hy1⟩) ?_
      refine T_cond y1.1 (by kernel_rfl) (fun hc=>?_) (fun hc=>?_)
      · have h:=cond_tt hc h
        refine T_reg [] [4,1000000] [(4,dI v1)] [] 2 (by kernel_rfl) (trivial) ?_
        obtain hs:=Option.some.inj h; subst hs
        have h:=callE_esc hk1
        obtain hs:=Option.some.inj h; subst hs
        refine T_ret fun a w hm=>inBlock_ret (then_ret (then_ret (inBlock_ret (then_ret (then_ret (T_return (fr':=[(4,dI v1),(1000000,.box [.d (.str y1.2.1),dI y1.2.2.1,.d (.sl 2 (y1.2.2.2.1.map cS_PrepressTerm)),dI y1.2.2.2.2.1,dI y1.2.2.2.2.2.1,.d (.sl 5 (y1.2.2.2.2.2.2.map rS_PrepressCond))])]) [4] (by kernel_rfl) [.keep [4,1000000]] (by kernel_rfl) (by kernel_rfl) (by kernel_rfl) (by show _=_; kernel_rfl) (by exact ⟨⟨by kernel_rfl,by kernel_rfl⟩,trivial⟩) a w hm))))))
      · have h:=cond_ff hc h
        refine T_skip fun a w hm=>inBlock_norm (then_norm (((?_:T Tryz.prog e 19 _ _ _) a w hm)))
        refine T_reg_end [] [0,1,7,8,1000000] [(8,dI (IntKind.i64.wrap (v1+(1:Int))))] [] 2 (by kernel_rfl) (trivial) fun a w hm=>then_norm (⟨(IntKind.i64.wrap (v1+(1:Int)),y1.2.1,y1.2.2.1,y1.2.2.2.1,y1.2.2.2.2.1,y1.2.2.2.2.2.1,y1.2.2.2.2.2.2),h,hm.co (cs:=[.keep [0,1,7,8,1000000]]) (by show _=_; kernel_rfl)⟩)
    · have h:=cond_ff hc h
      obtain hs:=Option.some.inj h; subst hs
      refine T_exit fun a w hm=>then_exit (then_exit (inBlock_exit (then_norm (⟨_,rfl,hm.co (cs:=[.keep [1000000]]) (by show _=_; kernel_rfl)⟩))))
  · obtain ⟨v8,v9,v10,v11,v12,v13⟩:=s
    try dsimp only at h
    refine fun a w hm=>then_norm (((?_:T Tryz.prog e 19 _ _ _) a w hm))
    refine T_reg [] [4,1000000] [(4,dI (-1:Int))] [] 1 (by kernel_rfl) (trivial) ?_
    obtain hs:=Option.some.inj h; subst hs
    refine T_ret fun a w hm=>T_return (fr':=[(4,dI (-1:Int)),(1000000,.box [.d (.str v8),dI v9,.d (.sl 2 (v10.map cS_PrepressTerm)),dI v11,dI v12,.d (.sl 5 (v13.map rS_PrepressCond))])]) [4] (by kernel_rfl) [.keep [4,1000000]] (by kernel_rfl) (by kernel_rfl) (by kernel_rfl) (by show _=_; kernel_rfl) (by exact ⟨⟨by kernel_rfl,by kernel_rfl⟩,trivial⟩) a w hm
theorem slices_ContainsFunc_PrepressRule_ok {F:Nat} {a0:List S_PrepressRule} {c1:List UInt8} {c2:Int} {c3:List S_PrepressTerm} {c4:Int} {c5:Int} {c6:List S_PrepressCond} {r:Bool×(List UInt8)×Int×(List S_PrepressTerm)×Int×Int×(List S_PrepressCond)} (h:slices_ContainsFunc_PrepressRule F a0 c1 c2 c3 c4 c5 c6=some r):ACall Tryz.prog 28 [.d (.sl 6 (a0.map cS_PrepressRule)),.clo 29 [.bp 1000000 0]] [.box [.d (.str c1),.d (.v (.int .i64 c2)),.d (.sl 2 (c3.map cS_PrepressTerm)),.d (.v (.int .i64 c4)),.d (.v (.int .i64 c5)),.d (.sl 5 (c6.map rS_PrepressCond))]] (.d (.v (.bool r.1))) [.box [.d (.str r.2.1),.d (.v (.int .i64 r.2.2.1)),.d (.sl 2 (r.2.2.2.1.map cS_PrepressTerm)),.d (.v (.int .i64 r.2.2.2.2.1)),.d (.v (.int .i64 r.2.2.2.2.2.1)),.d (.sl 5 (r.2.2.2.2.2.2.map rS_PrepressCond))]]:=by
  rw [slices_ContainsFunc_PrepressRule] at h
  refine ACall.intro (N:=9) Tryz.func28 rfl rfl rfl rfl rfl fun e=>?_
  refine T_reg [] [0,1,1000000] [] [] 1 (by kernel_rfl) (trivial) ?_
  obtain ⟨y1,hy1,h⟩:=call_ok h
  refine T_reg [(2,{ res:=dI y1.1,vout:=[.box [.d (.str y1.2.1),dI y1.2.2.1,.d (.sl 2 (y1.2.2.2.1.map cS_PrepressTerm)),dI y1.2.2.2.2.1,dI y1.2.2.2.2.2.1,.d (.sl 5 (y1.2.2.2.2.2.2.map rS_PrepressCond))]],xs:=[1000000] })] [4,1000000] [(4,dB (decide (y1.1 ≥ (0:Int)))),(1000000,.box [.d (.str y1.2.1),dI y1.2.2.1,.d (.sl 2 (y1.2.2.2.1.map cS_PrepressTerm)),dI y1.2.2.2.2.1,dI y1.2.2.2.2.2.1,.d (.sl 5 (y1.2.2.2.2.2.2.map rS_PrepressCond))])] [(2,ACall Tryz.prog 52 [.d (.sl 6 (a0.map cS_PrepressRule)),.clo 29 [.bp 1000000 0]] [.box [.d (.str c1),dI c2,.d (.sl 2 (c3.map cS_PrepressTerm)),dI c4,dI c5,.d (.sl 5 (c6.map rS_PrepressCond))]] (dI y1.1) [.box [.d (.str y1.2.1),dI y1.2.2.1,.d (.sl 2 (y1.2.2.2.1.map cS_PrepressTerm)),dI y1.2.2.2.2.1,dI y1.2.2.2.2.2.1,.d (.sl 5 (y1.2.2.2.2.2.2.map rS_PrepressCond))]])] 2 (by kernel_rfl) (slices_IndexFunc_PrepressRule_ok hy1) ?_
  obtain hs:=Option.some.inj h; subst hs
  refine T_ret fun a w hm=>T_return (fr':=[(4,dB (decide (y1.1 ≥ (0:Int)))),(1000000,.box [.d (.str y1.2.1),dI y1.2.2.1,.d (.sl 2 (y1.2.2.2.1.map cS_PrepressTerm)),dI y1.2.2.2.2.1,dI y1.2.2.2.2.2.1,.d (.sl 5 (y1.2.2.2.2.2.2.map rS_PrepressCond))])]) [4] (by kernel_rfl) [.keep [4,1000000]] (by kernel_rfl) (by kernel_rfl) (by kernel_rfl) (by show _=_; kernel_rfl) (by exact ⟨⟨by kernel_rfl,by kernel_rfl⟩,trivial⟩) a w hm
theorem prepress_compare_c1_ok {F:Nat} {a0:S_PrepressTerm} {c1:Int} {c2:List UInt8} {r:Bool×Int×(List UInt8)} (h:prepress_compare_c1 F a0 c1 c2=some r):ACall Tryz.prog 82 [.agg (cS_PrepressTerm a0),.bp 1000000 0] [.box [.d (.v (.int .i64 c1)),.d (.str c2)]] (.d (.v (.bool r.1))) [.box [.d (.v (.int .i64 r.2.1)),.d (.str r.2.2)]]:=by
  rw [prepress_compare_c1] at h
  refine ACall.intro (N:=9) Tryz.func82 rfl rfl rfl rfl rfl fun e=>?_
  refine T_reg [] [1,2,1000000] [(2,bx_PrepressTerm a0)] [] 2 (by kernel_rfl) (trivial) ?_
  refine T_reg [] [3,1000000] [(3,dB (a0.f1 == c2))] [] 6 (by kernel_rfl) (trivial) ?_
  obtain hs:=Option.some.inj h; subst hs
  refine T_ret fun a w hm=>T_return (fr':=[(3,dB (a0.f1 == c2)),(1000000,.box [dI c1,.d (.str c2)])]) [3] (by kernel_rfl) [.keep [3,1000000]] (by kernel_rfl) (by kernel_rfl) (by kernel_rfl) (by show _=_; kernel_rfl) (by exact ⟨⟨by kernel_rfl,by kernel_rfl⟩,trivial⟩) a w hm
theorem slices_IndexFunc_PrepressTerm_ok {F:Nat} {a0:List S_PrepressTerm} {c1:Int} {c2:List UInt8} {r:Int×Int×(List UInt8)} (h:slices_IndexFunc_PrepressTerm F a0 c1 c2=some r):ACall Tryz.prog 100 [.d (.sl 2 (a0.map cS_PrepressTerm)),.clo 82 [.bp 1000000 0]] [.box [.d (.v (.int .i64 c1)),.d (.str c2)]] (.d (.v (.int .i64 r.1))) [.box [.d (.v (.int .i64 r.2.1)),.d (.str r.2.2)]]:=by
  rw [slices_IndexFunc_PrepressTerm] at h
  refine ACall.intro (N:=19) Tryz.func100 rfl rfl rfl rfl rfl fun e=>?_
  refine T_reg [] [0,1,1000000] [] [] 1 (by kernel_rfl) (trivial) ?_
  refine T_seqk ?_
  refine T_reg [(1,{ rw:=some (dI (a0.length:Int)) })] [0,1,7,8,1000000] [(7,dI (a0.length:Int)),(8,dI (0:Int))] [(1,True∧dI ((a0.map cS_PrepressTerm).length:Int)=dI (a0.length:Int))] 1 (by kernel_rfl) (len_ok cS_PrepressTerm) ?_
  refine T_joinEt h (fun (p:Int×(List UInt8))=>[(1000000,.box [dI p.1,.d (.str p.2)])]) (fun s h hk1=>?_) (fun s h=>?_)
  · refine T_co [.keep [0,1,7,8,1000000]] ((fun (p:Int×Int×(List UInt8))=>[(0,.d (.sl 2 (a0.map cS_PrepressTerm))),(1,.clo 82 [.bp 1000000 0]),(7,dI (a0.length:Int)),(8,dI p.1),(1000000,.box [dI p.2.1,.d (.str p.2.2)])]) ((0:Int),c1,c2)) (by show _=_; kernel_rfl) ?_
    refine T_block ?_
    refine T_loopF (ι:=Int×Int×(List UInt8)) (fun (p:Int×Int×(List UInt8))=>[(0,.d (.sl 2 (a0.map cS_PrepressTerm))),(1,.clo 82 [.bp 1000000 0]),(7,dI (a0.length:Int)),(8,dI p.1),(1000000,.box [dI p.2.1,.d (.str p.2.2)])]) (fun n p=>slices_IndexFunc_PrepressTerm_L0 F a0 n p.1 p.2.1 p.2.2=some s) (fun i hh=>by simp [slices_IndexFunc_PrepressTerm_L0] at hh) (fun n p h=>?_) F ((0:Int),c1,c2) h
    obtain ⟨v1,v2,v3⟩:=p
    have h:slices_IndexFunc_PrepressTerm_L0 F a0 (n+1) v1 v2 v3=some s:=h
    rw [slices_IndexFunc_PrepressTerm_L0] at h
    refine T_reg [] [0,1,7,8,9,1000000] [(9,dB (decide (v1 < (a0.length:Int))))] [] 1 (by kernel_rfl) (trivial) ?_
    refine T_seqk ?_
    refine T_cond (decide (v1 < (a0.length:Int))) (by kernel_rfl) (fun hc=>?_) (fun hc=>?_)
    · have h:=cond_tt hc h
      refine T_skip fun a w hm=>then_norm (((?_:T Tryz.prog e 19 _ _ _) a w hm))
      refine T_seqk ?_
      refine T_block ?_
      refine T_reg [] [0,1,5,7,8,1000000] [(5,dI v1)] [] 2 (by kernel_rfl) (trivial) ?_
      obtain ⟨hp1,h⟩:=chk_ok h
      obtain ⟨y1,hy1,h⟩:=call_ok h
      refine T_reg [(3,{ cs:=cS_PrepressTerm (a0.getD v1.toNat z_PrepressTerm) }),(5,{ res:=dB y1.1,vout:=[.box [dI y1.2.1,.d (.str y1.2.2)]],xs:=[1000000] })] [0,1,5,7,8,16,1000000] [(16,dB y1.1),(1000000,.box [dI y1.2.1,.d (.str y1.2.2)])] [(3,0≤v1∧(a0.map cS_PrepressTerm)[v1.toNat]? = some (cS_PrepressTerm (a0.getD v1.toNat z_PrepressTerm))),(1,ACall Tryz.prog 82 [.agg (cS_PrepressTerm (a0.getD v1.toNat z_PrepressTerm)),.bp 1000000 0] [.box [dI v2,.d (.str v3)]] (dB y1.1) [.box [dI y1.2.1,.d (.str y1.2.2)]])] 0 (by kernel_rfl) (⟨idx_ok (d:=z_PrepressTerm) cS_PrepressTerm hp1,prepress_compare_c1_ok hy1⟩) ?_
      refine T_cond y1.1 (by kernel_rfl) (fun hc=>?_) (fun hc=>?_)
      · have h:=cond_tt hc h
        refine T_reg [] [4,1000000] [(4,dI v1)] [] 2 (by kernel_rfl) (trivial) ?_
        obtain hs:=Option.some.inj h; subst hs
        have h:=callE_esc hk1
        obtain hs:=Option.some.inj h; subst hs
        refine T_ret fun a w hm=>inBlock_ret (then_ret (then_ret (inBlock_ret (then_ret (then_ret (T_return (fr':=[(4,dI v1),(1000000,.box [dI y1.2.1,.d (.str y1.2.2)])]) [4] (by kernel_rfl) [.keep [4,1000000]] (by kernel_rfl) (by kernel_rfl) (by kernel_rfl) (by show _=_; kernel_rfl) (by exact ⟨⟨by kernel_rfl,by kernel_rfl⟩,trivial⟩) a w hm))))))
      · have h:=cond_ff hc h
        refine T_skip fun a w hm=>inBlock_norm (then_norm (((?_:T Tryz.prog e 19 _ _ _) a w hm)))
        refine T_reg_end [] [0,1,7,8,1000000] [(8,dI (IntKind.i64.wrap (v1+(1:Int))))] [] 2 (by kernel_rfl) (trivial) fun a w hm=>then_norm (⟨(IntKind.i64.wrap (v1+(1:Int)),y1.2.1,y1.2.2),h,hm.co (cs:=[.keep [0,1,7,8,1000000]]) (by show _=_; kernel_rfl)⟩)
    · have h:=cond_ff hc h
      obtain hs:=Option.some.inj h; subst hs
      refine T_exit fun a w hm=>then_exit (then_exit (inBlock_exit (then_norm (⟨_,rfl,hm.co (cs:=[.keep [1000000]]) (by show _=_; kernel_rfl)⟩))))
  · obtain ⟨v4,v5⟩:=s
    try dsimp only at h
    refine fun a w hm=>then_norm (((?_:T Tryz.prog e 19 _ _ _) a w hm))
    refine T_reg [] [4,1000000] [(4,dI (-1:Int))] [] 1 (by kernel_rfl) (trivial) ?_
    obtain hs:=Option.some.inj h; subst hs
    refine T_ret fun a w hm=>T_return (fr':=[(4,dI (-1:Int)),(1000000,.box [dI v4,.d (.str v5)])]) [4] (by kernel_rfl) [.keep [4,1000000]] (by kernel_rfl) (by kernel_rfl) (by kernel_rfl) (by show _=_; kernel_rfl) (by exact ⟨⟨by kernel_rfl,by kernel_rfl⟩,trivial⟩) a w hm
theorem slices_ContainsFunc_PrepressTerm_ok {F:Nat} {a0:List S_PrepressTerm} {c1:Int} {c2:List UInt8} {r:Bool×Int×(List UInt8)} (h:slices_ContainsFunc_PrepressTerm F a0 c1 c2=some r):ACall Tryz.prog 81 [.d (.sl 2 (a0.map cS_PrepressTerm)),.clo 82 [.bp 1000000 0]] [.box [.d (.v (.int .i64 c1)),.d (.str c2)]] (.d (.v (.bool r.1))) [.box [.d (.v (.int .i64 r.2.1)),.d (.str r.2.2)]]:=by
  rw [slices_ContainsFunc_PrepressTerm] at h
  refine ACall.intro (N:=9) Tryz.func81 rfl rfl rfl rfl rfl fun e=>?_
  refine T_reg [] [0,1,1000000] [] [] 1 (by kernel_rfl) (trivial) ?_
  obtain ⟨y1,hy1,h⟩:=call_ok h
  refine T_reg [(2,{ res:=dI y1.1,vout:=[.box [dI y1.2.1,.d (.str y1.2.2)]],xs:=[1000000] })] [4,1000000] [(4,dB (decide (y1.1 ≥ (0:Int)))),(1000000,.box [dI y1.2.1,.d (.str y1.2.2)])] [(2,ACall Tryz.prog 100 [.d (.sl 2 (a0.map cS_PrepressTerm)),.clo 82 [.bp 1000000 0]] [.box [dI c1,.d (.str c2)]] (dI y1.1) [.box [dI y1.2.1,.d (.str y1.2.2)]])] 2 (by kernel_rfl) (slices_IndexFunc_PrepressTerm_ok hy1) ?_
  obtain hs:=Option.some.inj h; subst hs
  refine T_ret fun a w hm=>T_return (fr':=[(4,dB (decide (y1.1 ≥ (0:Int)))),(1000000,.box [dI y1.2.1,.d (.str y1.2.2)])]) [4] (by kernel_rfl) [.keep [4,1000000]] (by kernel_rfl) (by kernel_rfl) (by kernel_rfl) (by show _=_; kernel_rfl) (by exact ⟨⟨by kernel_rfl,by kernel_rfl⟩,trivial⟩) a w hm
theorem prepress_compare_ok {F:Nat} {a0:S_PrepressCond} {r:Int} (h:prepress_compare F a0=some r):ACall Tryz.prog 53 [.agg (cS_PrepressCond a0)] [] (.d (.v (.int .i64 r))) []:=by
  rw [prepress_compare] at h
  refine ACall.intro (N:=73) Tryz.func53 rfl rfl rfl rfl rfl fun e=>?_
  refine T_reg [] [1] [(1,bx_PrepressCond a0)] [] 2 (by kernel_rfl) (trivial) ?_
  refine T_seqk ?_
  refine T_block ?_
  refine T_reg [(2,{ rw:=some (dI (a0.f4.length:Int)) })] [1,5] [(5,dB (decide ((a0.f4.length:Int) > (0:Int))))] [(2,True∧dI ((a0.f4.map rS_PrepressCond).length:Int)=dI (a0.f4.length:Int))] 2 (by kernel_rfl) (len_ok rS_PrepressCond) ?_
  refine T_cond (decide ((a0.f4.length:Int) > (0:Int))) (by kernel_rfl) (fun hc=>?_) (fun hc=>?_)
  · have h:=cond_tt hc h
    refine T_reg [] [2] [(2,dI (4:Int))] [] 1 (by kernel_rfl) (trivial) ?_
    obtain hs:=Option.some.inj h; subst hs
    refine T_ret fun a w hm=>inBlock_ret (then_ret (T_return (fr':=[(2,dI (4:Int))]) [2] (by kernel_rfl) [.keep [2]] (by kernel_rfl) (by kernel_rfl) (by kernel_rfl) (by show _=_; kernel_rfl) (by exact trivial) a w hm))
  · have h:=cond_ff hc h
    refine T_reg [(2,{ rw:=some (dI (a0.f1.length:Int)) })] [1,10] [(10,dB ((a0.f1.length:Int) == (0:Int)))] [(2,True∧dI ((a0.f1.map cS_PrepressTerm).length:Int)=dI (a0.f1.length:Int))] 2 (by kernel_rfl) (len_ok cS_PrepressTerm) ?_
    refine T_cond ((a0.f1.length:Int) == (0:Int)) (by kernel_rfl) (fun hc=>?_) (fun hc=>?_)
    · have h:=cond_tt hc h
      refine T_reg [] [2] [(2,dI (8:Int))] [] 1 (by kernel_rfl) (trivial) ?_
      obtain hs:=Option.some.inj h; subst hs
      refine T_ret fun a w hm=>inBlock_ret (then_ret (T_return (fr':=[(2,dI (8:Int))]) [2] (by kernel_rfl) [.keep [2]] (by kernel_rfl) (by kernel_rfl) (by kernel_rfl) (by show _=_; kernel_rfl) (by exact trivial) a w hm))
    · have h:=cond_ff hc h
      refine T_reg [(2,{ rw:=some (dI (a0.f1.length:Int)) })] [1,15] [(15,dB (decide ((a0.f1.length:Int) > (8:Int))))] [(2,True∧dI ((a0.f1.map cS_PrepressTerm).length:Int)=dI (a0.f1.length:Int))] 2 (by kernel_rfl) (len_ok cS_PrepressTerm) ?_
      refine T_cond (decide ((a0.f1.length:Int) > (8:Int))) (by kernel_rfl) (fun hc=>?_) (fun hc=>?_)
      · have h:=cond_tt hc h
        refine T_reg [] [2] [(2,dI (2:Int))] [] 1 (by kernel_rfl) (trivial) ?_
        obtain hs:=Option.some.inj h; subst hs
        refine T_ret fun a w hm=>inBlock_ret (then_ret (T_return (fr':=[(2,dI (2:Int))]) [2] (by kernel_rfl) [.keep [2]] (by kernel_rfl) (by kernel_rfl) (by kernel_rfl) (by show _=_; kernel_rfl) (by exact trivial) a w hm))
      · have h:=cond_ff hc h
        refine T_reg [] [1,20] [(20,dB (bif (decide (a0.f2 < (0:Int))) then true else (decide (a0.f2 > (5:Int)))))] [(4,((((decide (a0.f2 < (0:Int))) == false) && true)=true→True)),(0,((((decide (a0.f2 < (0:Int))) == false) && true)=true→True)),(0,((((decide (a0.f2 < (0:Int))) == false) && true)=true→True))] 2 (by kernel_rfl) (⟨(fun hg=>trivial),(fun hg=>trivial),(fun hg=>trivial)⟩) ?_
        refine T_cond (bif (decide (a0.f2 < (0:Int))) then true else (decide (a0.f2 > (5:Int)))) (by kernel_rfl) (fun hc=>?_) (fun hc=>?_)
        · have h:=cond_tt hc h
          refine T_reg [] [2] [(2,dI (14:Int))] [] 1 (by kernel_rfl) (trivial) ?_
          obtain hs:=Option.some.inj h; subst hs
          refine T_ret fun a w hm=>inBlock_ret (then_ret (T_return (fr':=[(2,dI (14:Int))]) [2] (by kernel_rfl) [.keep [2]] (by kernel_rfl) (by kernel_rfl) (by kernel_rfl) (by show _=_; kernel_rfl) (by exact trivial) a w hm))
        · have h:=cond_ff hc h
          refine T_reg [] [1,29] [(29,dB (bif (decide (a0.f3 < (-2147483648:Int))) then true else (decide (a0.f3 > (2147483648:Int)))))] [(4,((((decide (a0.f3 < (-2147483648:Int))) == false) && true)=true→True)),(0,((((decide (a0.f3 < (-2147483648:Int))) == false) && true)=true→True)),(0,((((decide (a0.f3 < (-2147483648:Int))) == false) && true)=true→True))] 2 (by kernel_rfl) (⟨(fun hg=>trivial),(fun hg=>trivial),(fun hg=>trivial)⟩) ?_
          refine T_cond (bif (decide (a0.f3 < (-2147483648:Int))) then true else (decide (a0.f3 > (2147483648:Int)))) (by kernel_rfl) (fun hc=>?_) (fun hc=>?_)
          · have h:=cond_tt hc h
            refine T_reg [] [2] [(2,dI (3:Int))] [] 1 (by kernel_rfl) (trivial) ?_
            obtain hs:=Option.some.inj h; subst hs
            refine T_ret fun a w hm=>inBlock_ret (then_ret (T_return (fr':=[(2,dI (3:Int))]) [2] (by kernel_rfl) [.keep [2]] (by kernel_rfl) (by kernel_rfl) (by kernel_rfl) (by show _=_; kernel_rfl) (by exact trivial) a w hm))
          · have h:=cond_ff hc h
            refine T_skip fun a w hm=>inBlock_norm (then_norm (((?_:T Tryz.prog e 73 _ _ _) a w hm)))
            refine T_seqk ?_
            refine T_reg [(2,{ rw:=some (dI (a0.f1.length:Int)) })] [1,39,40,41] [(39,.d (.sl 2 (a0.f1.map cS_PrepressTerm))),(40,dI (a0.f1.length:Int)),(41,dI (0:Int))] [(2,True∧dI ((a0.f1.map cS_PrepressTerm).length:Int)=dI (a0.f1.length:Int))] 1 (by kernel_rfl) (len_ok cS_PrepressTerm) ?_
            refine T_joinEt h (fun (p:Unit)=>[]) (fun s h hk1=>?_) (fun s h=>?_)
            · refine T_co [.keep [1,39,40,41]] ((fun (p:Int)=>[(1,bx_PrepressCond a0),(39,.d (.sl 2 (a0.f1.map cS_PrepressTerm))),(40,dI (a0.f1.length:Int)),(41,dI p)]) (0:Int)) (by show _=_; kernel_rfl) ?_
              refine T_block ?_
              refine T_loopF (ι:=Int) (fun (p:Int)=>[(1,bx_PrepressCond a0),(39,.d (.sl 2 (a0.f1.map cS_PrepressTerm))),(40,dI (a0.f1.length:Int)),(41,dI p)]) (fun n p=>prepress_compare_L1 F a0 n p=some s) (fun i hh=>by simp [prepress_compare_L1] at hh) (fun n v1 h=>?_) F (0:Int) h
              have h:prepress_compare_L1 F a0 (n+1) v1=some s:=h
              rw [prepress_compare_L1] at h
              refine T_reg [] [1,39,40,41,42] [(42,dB (decide (v1 < (a0.f1.length:Int))))] [] 1 (by kernel_rfl) (trivial) ?_
              refine T_seqk ?_
              refine T_cond (decide (v1 < (a0.f1.length:Int))) (by kernel_rfl) (fun hc=>?_) (fun hc=>?_)
              · have h:=cond_tt hc h
                refine T_skip fun a w hm=>then_norm (((?_:T Tryz.prog e 73 _ _ _) a w hm))
                refine T_seqk ?_
                refine T_block ?_
                obtain ⟨hp1,h⟩:=chk_ok h
                refine T_reg [(1,{ cs:=cS_PrepressTerm (a0.f1.getD v1.toNat z_PrepressTerm) })] [1,3,4,39,40,41] [(3,dI v1),(4,.box [dI ((a0.f1.getD v1.toNat z_PrepressTerm).f0),.d (.str ((a0.f1.getD v1.toNat z_PrepressTerm).f1))])] [(1,0≤v1∧(a0.f1.map cS_PrepressTerm)[v1.toNat]? = some (cS_PrepressTerm (a0.f1.getD v1.toNat z_PrepressTerm)))] 4 (by kernel_rfl) (idx_ok (d:=z_PrepressTerm) cS_PrepressTerm hp1) ?_
                refine T_block ?_
                obtain ⟨z1,hz1,h⟩:=lett_ok h
                obtain ⟨z2,hz2,h⟩:=lett_ok h
                refine T_reg [(7,{ rw:=some (dB z1) }),(12,{ rw:=some (dB z2) })] [1,3,4,39,40,41,46] [(46,dB z2)] [(4,((((((a0.f1.getD v1.toNat z_PrepressTerm).f0) == (0:Int)) == false) && true)=true→True)),(0,((((((a0.f1.getD v1.toNat z_PrepressTerm).f0) == (0:Int)) == false) && true)=true→True)),(0,((((((a0.f1.getD v1.toNat z_PrepressTerm).f0) == (0:Int)) == false) && true)=true→True)),(0,(True)∧dB (bif (((a0.f1.getD v1.toNat z_PrepressTerm).f0) == (0:Int)) then true else (decide (((a0.f1.getD v1.toNat z_PrepressTerm).f0) < (-1000:Int))))=dB z1),(1,(((z1 == false) && true)=true→True)),(0,(((z1 == false) && true)=true→True)),(0,(((z1 == false) && true)=true→True)),(0,(True)∧dB (bif z1 then true else (decide (((a0.f1.getD v1.toNat z_PrepressTerm).f0) > (1000:Int))))=dB z2)] 1 (by kernel_rfl) (⟨(fun hg=>trivial),(fun hg=>trivial),(fun hg=>trivial),⟨trivial,(by subst hz1; rfl)⟩,(fun hg=>trivial),(fun hg=>trivial),(fun hg=>trivial),⟨trivial,(by subst hz2; rfl)⟩⟩) ?_
                refine T_cond z2 (by kernel_rfl) (fun hc=>?_) (fun hc=>?_)
                · have h:=cond_tt hc h
                  refine T_reg [] [2] [(2,dI (3:Int))] [] 1 (by kernel_rfl) (trivial) ?_
                  obtain hs:=Option.some.inj h; subst hs
                  have h:=callE_esc hk1
                  obtain hs:=Option.some.inj h; subst hs
                  refine T_ret fun a w hm=>inBlock_ret (inBlock_ret (then_ret (then_ret (inBlock_ret (then_ret (then_ret (T_return (fr':=[(2,dI (3:Int))]) [2] (by kernel_rfl) [.keep [2]] (by kernel_rfl) (by kernel_rfl) (by kernel_rfl) (by show _=_; kernel_rfl) (by exact trivial) a w hm)))))))
                · have h:=cond_ff hc h
                  obtain ⟨y1,hy1,h⟩:=call_ok h
                  refine T_reg [(2,{ res:=dB y1 })] [1,3,4,39,40,41,60] [(60,dB (!y1))] [(2,ACall Tryz.prog 27 [.d (.str ((a0.f1.getD v1.toNat z_PrepressTerm).f1))] [] (dB y1) [])] 2 (by kernel_rfl) (prepress_plain_ok hy1) ?_
                  refine T_cond (!y1) (by kernel_rfl) (fun hc=>?_) (fun hc=>?_)
                  · have h:=cond_tt hc h
                    refine T_reg [] [2] [(2,dI (6:Int))] [] 1 (by kernel_rfl) (trivial) ?_
                    obtain hs:=Option.some.inj h; subst hs
                    have h:=callE_esc hk1
                    obtain hs:=Option.some.inj h; subst hs
                    refine T_ret fun a w hm=>inBlock_ret (inBlock_ret (then_ret (then_ret (inBlock_ret (then_ret (then_ret (T_return (fr':=[(2,dI (6:Int))]) [2] (by kernel_rfl) [.keep [2]] (by kernel_rfl) (by kernel_rfl) (by kernel_rfl) (by show _=_; kernel_rfl) (by exact trivial) a w hm)))))))
                  · have h:=cond_ff hc h
                    obtain ⟨hp2,h⟩:=chk_ok h
                    obtain ⟨y2,hy2,h⟩:=call_ok h
                    refine T_reg [(3,{ rw:=some (.d (.sl 2 (((a0.f1.drop (0:Int).toNat).take (v1.toNat - (0:Int).toNat)).map cS_PrepressTerm))) }),(5,{ res:=dB y2.1,vout:=[.box [dI y2.2.1,.d (.str y2.2.2)]],xs:=[4] })] [1,39,40,41,65] [(65,dB y2.1)] [(3,(0≤(0:Int)∧(0:Int)≤v1∧v1≤((a0.f1.map cS_PrepressTerm).length:Int))∧AV.d (.sl 2 (((a0.f1.map cS_PrepressTerm).drop (0:Int).toNat).take (v1.toNat - (0:Int).toNat)))=.d (.sl 2 (((a0.f1.drop (0:Int).toNat).take (v1.toNat - (0:Int).toNat)).map cS_PrepressTerm))),(1,ACall Tryz.prog 81 [.d (.sl 2 (((a0.f1.drop (0:Int).toNat).take (v1.toNat - (0:Int).toNat)).map cS_PrepressTerm)),.clo 82 [.bp 1000000 0]] [.box [dI ((a0.f1.getD v1.toNat z_PrepressTerm).f0),.d (.str ((a0.f1.getD v1.toNat z_PrepressTerm).f1))]] (dB y2.1) [.box [dI y2.2.1,.d (.str y2.2.2)]])] 1 (by kernel_rfl) (⟨cutH cS_PrepressTerm hp2,slices_ContainsFunc_PrepressTerm_ok hy2⟩) ?_
                    refine T_cond y2.1 (by kernel_rfl) (fun hc=>?_) (fun hc=>?_)
                    · have h:=cond_tt hc h
                      refine T_reg [] [2] [(2,dI (7:Int))] [] 1 (by kernel_rfl) (trivial) ?_
                      obtain hs:=Option.some.inj h; subst hs
                      have h:=callE_esc hk1
                      obtain hs:=Option.some.inj h; subst hs
                      refine T_ret fun a w hm=>inBlock_ret (inBlock_ret (then_ret (then_ret (inBlock_ret (then_ret (then_ret (T_return (fr':=[(2,dI (7:Int))]) [2] (by kernel_rfl) [.keep [2]] (by kernel_rfl) (by kernel_rfl) (by kernel_rfl) (by show _=_; kernel_rfl) (by exact trivial) a w hm)))))))
                    · have h:=cond_ff hc h
                      refine T_skip fun a w hm=>inBlock_norm (inBlock_norm (then_norm (((?_:T Tryz.prog e 73 _ _ _) a w hm))))
                      refine T_reg_end [] [1,39,40,41] [(41,dI (IntKind.i64.wrap (v1+(1:Int))))] [] 2 (by kernel_rfl) (trivial) fun a w hm=>then_norm (⟨IntKind.i64.wrap (v1+(1:Int)),h,hm.co (cs:=[.keep [1,39,40,41]]) (by show _=_; kernel_rfl)⟩)
              · have h:=cond_ff hc h
                obtain hs:=Option.some.inj h; subst hs
                refine T_exit fun a w hm=>then_exit (then_exit (inBlock_exit (then_norm (⟨_,rfl,hm.co (cs:=[.keep []]) (by show _=_; kernel_rfl)⟩))))
            · skip
              refine fun a w hm=>then_norm (((?_:T Tryz.prog e 73 _ _ _) a w hm))
              refine T_reg [] [2] [(2,dI (0:Int))] [] 1 (by kernel_rfl) (trivial) ?_
              obtain hs:=Option.some.inj h; subst hs
              refine T_ret fun a w hm=>T_return (fr':=[(2,dI (0:Int))]) [2] (by kernel_rfl) [.keep [2]] (by kernel_rfl) (by kernel_rfl) (by kernel_rfl) (by show _=_; kernel_rfl) (by exact trivial) a w hm
theorem prepress_checker_cond_body_ok {F:Nat} {rec_prepress_checker_cond:S_PrepressCond→Int→Int→Option (Int×Int)} (hrec_prepress_checker_cond:∀ {a0:S_PrepressCond},∀ {a1:Int},∀ {c2:Int},∀ {r:Int×Int},rec_prepress_checker_cond a0 a1 c2=some r→ACall Tryz.prog 30 [.bp 1000000 0,.agg (cS_PrepressCond a0),.d (.v (.int .i64 a1))] [.box [.d (.v (.int .i64 c2))]] (.d (.v (.int .i64 r.1))) [.box [.d (.v (.int .i64 r.2))]]) {a0:S_PrepressCond} {a1:Int} {c2:Int} {r:Int×Int} (h:prepress_checker_cond_body F rec_prepress_checker_cond a0 a1 c2=some r):ACall Tryz.prog 30 [.bp 1000000 0,.agg (cS_PrepressCond a0),.d (.v (.int .i64 a1))] [.box [.d (.v (.int .i64 c2))]] (.d (.v (.int .i64 r.1))) [.box [.d (.v (.int .i64 r.2))]]:=by
  rw [prepress_checker_cond_body] at h
  refine ACall.intro (N:=83) Tryz.func30 rfl rfl rfl rfl rfl fun e=>?_
  refine T_reg [] [0,2,4,1000000] [(4,bx_PrepressCond a0)] [] 2 (by kernel_rfl) (trivial) ?_
  refine T_seqk ?_
  refine T_reg [] [0,2,4,1000000] [(1000000,.box [dI (IntKind.i64.wrap (c2+(1:Int)))])] [] 8 (by kernel_rfl) (trivial) ?_
  refine T_reg [] [0,2,4,24,1000000] [(24,dB (decide ((IntKind.i64.wrap (c2+(1:Int))) > (256:Int))))] [] 5 (by kernel_rfl) (trivial) ?_
  refine T_cond (decide ((IntKind.i64.wrap (c2+(1:Int))) > (256:Int))) (by kernel_rfl) (fun hc=>?_) (fun hc=>?_)
  · have h:=cond_tt hc h
    refine T_reg [] [6,1000000] [(6,dI (2:Int))] [] 1 (by kernel_rfl) (trivial) ?_
    obtain hs:=Option.some.inj h; subst hs
    refine T_ret fun a w hm=>then_ret (T_return (fr':=[(6,dI (2:Int)),(1000000,.box [dI (IntKind.i64.wrap (c2+(1:Int)))])]) [6] (by kernel_rfl) [.keep [6,1000000]] (by kernel_rfl) (by kernel_rfl) (by kernel_rfl) (by show _=_; kernel_rfl) (by exact ⟨⟨by kernel_rfl,by kernel_rfl⟩,trivial⟩) a w hm)
  · have h:=cond_ff hc h
    refine T_skip fun a w hm=>then_norm (((?_:T Tryz.prog e 83 _ _ _) a w hm))
    refine T_seqk ?_
    refine T_reg [] [0,2,4,26,1000000] [(26,dB (decide (a1 > (12:Int))))] [] 2 (by kernel_rfl) (trivial) ?_
    refine T_cond (decide (a1 > (12:Int))) (by kernel_rfl) (fun hc=>?_) (fun hc=>?_)
    · have h:=cond_tt hc h
      refine T_reg [] [6,1000000] [(6,dI (15:Int))] [] 1 (by kernel_rfl) (trivial) ?_
      obtain hs:=Option.some.inj h; subst hs
      refine T_ret fun a w hm=>then_ret (T_return (fr':=[(6,dI (15:Int)),(1000000,.box [dI (IntKind.i64.wrap (c2+(1:Int)))])]) [6] (by kernel_rfl) [.keep [6,1000000]] (by kernel_rfl) (by kernel_rfl) (by kernel_rfl) (by show _=_; kernel_rfl) (by exact ⟨⟨by kernel_rfl,by kernel_rfl⟩,trivial⟩) a w hm)
    · have h:=cond_ff hc h
      refine T_skip fun a w hm=>then_norm (((?_:T Tryz.prog e 83 _ _ _) a w hm))
      refine T_reg [] [0,2,4,7,27,1000000] [(7,.vw (27,0)),(27,.mp .i64 .i64 [((1:Int),(1:Int)),((2:Int),(2:Int)),((3:Int),(2:Int))])] [] 6 (by kernel_rfl) (trivial) ?_
      refine T_seqk ?_
      refine T_reg [] [0,2,4,8,9,1000000] [(8,dI ((mpGet [((1:Int),(1:Int)),((2:Int),(2:Int)),((3:Int),(2:Int))] a0.f0).getD 0)),(9,dB ((mpGet [((1:Int),(1:Int)),((2:Int),(2:Int)),((3:Int),(2:Int))] a0.f0).isSome))] [] 9 (by kernel_rfl) (trivial) ?_
      refine T_block ?_
      refine T_reg [] [0,2,4,8,9,36,1000000] [(36,dB (a0.f0 == (0:Int)))] [] 4 (by kernel_rfl) (trivial) ?_
      refine T_cond (a0.f0 == (0:Int)) (by kernel_rfl) (fun hc=>?_) (fun hc=>?_)
      · have h:=cond_tt hc h
        obtain ⟨y2,hy1,h⟩:=call_ok h
        refine T_reg [(1,{ res:=dI y2 })] [6,1000000] [(6,dI y2)] [(1,ACall Tryz.prog 53 [.agg (cS_PrepressCond a0)] [] (dI y2) [])] 1 (by kernel_rfl) (prepress_compare_ok hy1) ?_
        obtain hs:=Option.some.inj h; subst hs
        refine T_ret fun a w hm=>inBlock_ret (then_ret (T_return (fr':=[(6,dI y2),(1000000,.box [dI (IntKind.i64.wrap (c2+(1:Int)))])]) [6] (by kernel_rfl) [.keep [6,1000000]] (by kernel_rfl) (by kernel_rfl) (by kernel_rfl) (by show _=_; kernel_rfl) (by exact ⟨⟨by kernel_rfl,by kernel_rfl⟩,trivial⟩) a w hm))
      · have h:=cond_ff hc h
        refine T_reg [] [0,2,4,8,42,1000000] [(42,dB (!((mpGet [((1:Int),(1:Int)),((2:Int),(2:Int)),((3:Int),(2:Int))] a0.f0).isSome)))] [] 3 (by kernel_rfl) (trivial) ?_
        refine T_cond (!((mpGet [((1:Int),(1:Int)),((2:Int),(2:Int)),((3:Int),(2:Int))] a0.f0).isSome)) (by kernel_rfl) (fun hc=>?_) (fun hc=>?_)
        · have h:=cond_tt hc h
          refine T_reg [] [6,1000000] [(6,dI (14:Int))] [] 1 (by kernel_rfl) (trivial) ?_
          obtain hs:=Option.some.inj h; subst hs
          refine T_ret fun a w hm=>inBlock_ret (then_ret (T_return (fr':=[(6,dI (14:Int)),(1000000,.box [dI (IntKind.i64.wrap (c2+(1:Int)))])]) [6] (by kernel_rfl) [.keep [6,1000000]] (by kernel_rfl) (by kernel_rfl) (by kernel_rfl) (by show _=_; kernel_rfl) (by exact ⟨⟨by kernel_rfl,by kernel_rfl⟩,trivial⟩) a w hm))
        · have h:=cond_ff hc h
          obtain ⟨z1,hz1,h⟩:=lett_ok h
          obtain ⟨z2,hz2,h⟩:=lett_ok h
          refine T_reg [(2,{ rw:=some (dI (a0.f1.length:Int)) }),(13,{ rw:=some (dB z1) }),(17,{ rw:=some (dI (a0.f4.length:Int)) }),(19,{ rw:=some (dB z2) })] [0,2,4,45,1000000] [(45,dB (bif z1 then true else z2))] [(2,True∧dI ((a0.f1.map cS_PrepressTerm).length:Int)=dI (a0.f1.length:Int)),(2,((((decide ((a0.f1.length:Int) > (0:Int))) == false) && true)=true→True)),(0,((((decide ((a0.f1.length:Int) > (0:Int))) == false) && true)=true→True)),(0,((((decide ((a0.f1.length:Int) > (0:Int))) == false) && true)=true→True)),(2,((((bif (decide ((a0.f1.length:Int) > (0:Int))) then true else (a0.f2 != (0:Int))) == false) && true)=true→True)),(0,((((bif (decide ((a0.f1.length:Int) > (0:Int))) then true else (a0.f2 != (0:Int))) == false) && true)=true→True)),(0,((((bif (decide ((a0.f1.length:Int) > (0:Int))) then true else (a0.f2 != (0:Int))) == false) && true)=true→True)),(0,(True)∧dB (bif (bif (decide ((a0.f1.length:Int) > (0:Int))) then true else (a0.f2 != (0:Int))) then true else (a0.f3 != (0:Int)))=dB z1),(1,(((z1 == false) && true)=true→True)),(0,(((z1 == false) && true)=true→True)),(0,(((z1 == false) && true)=true→True∧dI ((a0.f4.map rS_PrepressCond).length:Int)=dI (a0.f4.length:Int))),(0,(((z1 == false) && true)=true→True)),(0,(((z1 == false) && true)=true→(True)∧dB ((a0.f4.length:Int) != ((mpGet [((1:Int),(1:Int)),((2:Int),(2:Int)),((3:Int),(2:Int))] a0.f0).getD 0))=dB z2))] 2 (by kernel_rfl) (⟨len_ok cS_PrepressTerm,(fun hg=>trivial),(fun hg=>trivial),(fun hg=>trivial),(fun hg=>trivial),(fun hg=>trivial),(fun hg=>trivial),⟨trivial,(by subst hz1; rfl)⟩,(fun hg=>trivial),(fun hg=>trivial),(fun hg=>len_ok rS_PrepressCond),(fun hg=>trivial),(fun hg=>⟨trivial,(by subst hz2; rfl)⟩)⟩) ?_
          refine T_cond (bif z1 then true else z2) (by kernel_rfl) (fun hc=>?_) (fun hc=>?_)
          · have h:=cond_tt hc h
            refine T_reg [] [6,1000000] [(6,dI (4:Int))] [] 1 (by kernel_rfl) (trivial) ?_
            obtain hs:=Option.some.inj h; subst hs
            refine T_ret fun a w hm=>inBlock_ret (then_ret (T_return (fr':=[(6,dI (4:Int)),(1000000,.box [dI (IntKind.i64.wrap (c2+(1:Int)))])]) [6] (by kernel_rfl) [.keep [6,1000000]] (by kernel_rfl) (by kernel_rfl) (by kernel_rfl) (by show _=_; kernel_rfl) (by exact ⟨⟨by kernel_rfl,by kernel_rfl⟩,trivial⟩) a w hm))
          · have h:=cond_ff hc h
            refine T_skip fun a w hm=>inBlock_norm (then_norm (((?_:T Tryz.prog e 83 _ _ _) a w hm)))
            refine T_seqk ?_
            refine T_reg [(2,{ rw:=some (dI (a0.f4.length:Int)) })] [0,2,68,69,70,1000000] [(68,.d (.sl 5 (a0.f4.map rS_PrepressCond))),(69,dI (a0.f4.length:Int)),(70,dI (0:Int))] [(2,True∧dI ((a0.f4.map rS_PrepressCond).length:Int)=dI (a0.f4.length:Int))] 1 (by kernel_rfl) (len_ok rS_PrepressCond) ?_
            refine T_joinEt h (fun (p:Int)=>[(1000000,.box [dI p])]) (fun s h hk1=>?_) (fun v3 h=>?_)
            · refine T_co [.keep [0,2,68,69,70,1000000]] ((fun (p:Int×Int)=>[(0,.bp 1000000 0),(2,dI a1),(68,.d (.sl 5 (a0.f4.map rS_PrepressCond))),(69,dI (a0.f4.length:Int)),(70,dI p.1),(1000000,.box [dI p.2])]) ((0:Int),IntKind.i64.wrap (c2+(1:Int)))) (by show _=_; kernel_rfl) ?_
              refine T_block ?_
              refine T_loopF (ι:=Int×Int) (fun (p:Int×Int)=>[(0,.bp 1000000 0),(2,dI a1),(68,.d (.sl 5 (a0.f4.map rS_PrepressCond))),(69,dI (a0.f4.length:Int)),(70,dI p.1),(1000000,.box [dI p.2])]) (fun n p=>prepress_checker_cond_L1 F a0 a1 rec_prepress_checker_cond n p.1 p.2=some s) (fun i hh=>by simp [prepress_checker_cond_L1] at hh) (fun n p h=>?_) F ((0:Int),IntKind.i64.wrap (c2+(1:Int))) h
              obtain ⟨v1,v2⟩:=p
              have h:prepress_checker_cond_L1 F a0 a1 rec_prepress_checker_cond (n+1) v1 v2=some s:=h
              rw [prepress_checker_cond_L1] at h
              refine T_reg [] [0,2,68,69,70,71,1000000] [(71,dB (decide (v1 < (a0.f4.length:Int))))] [] 1 (by kernel_rfl) (trivial) ?_
              refine T_seqk ?_
              refine T_cond (decide (v1 < (a0.f4.length:Int))) (by kernel_rfl) (fun hc=>?_) (fun hc=>?_)
              · have h:=cond_tt hc h
                refine T_skip fun a w hm=>then_norm (((?_:T Tryz.prog e 83 _ _ _) a w hm))
                refine T_seqk ?_
                refine T_block ?_
                obtain ⟨hp1,h⟩:=chk_ok h
                refine T_reg [(0,{ cs:=cS_PrepressCond (a0.f4.getD v1.toNat z_PrepressCond) })] [0,2,11,68,69,70,1000000] [(11,.box [dI ((a0.f4.getD v1.toNat z_PrepressCond).f0),.d (.sl 2 (((a0.f4.getD v1.toNat z_PrepressCond).f1).map cS_PrepressTerm)),dI ((a0.f4.getD v1.toNat z_PrepressCond).f2),dI ((a0.f4.getD v1.toNat z_PrepressCond).f3),.d (.sl 5 (((a0.f4.getD v1.toNat z_PrepressCond).f4).map rS_PrepressCond))])] [(0,0≤v1∧(a0.f4.map rS_PrepressCond)[v1.toNat]? = some (cS_PrepressCond (a0.f4.getD v1.toNat z_PrepressCond)))] 3 (by kernel_rfl) (idx_okR (d:=z_PrepressCond) rS_PrepressCond_eq hp1) ?_
                obtain ⟨y1,hy2,h⟩:=call_ok h
                refine T_reg [(4,{ res:=dI y1.1,vout:=[.box [dI y1.2]],xs:=[1000000] })] [0,2,12,68,69,70,1000000] [(12,dI y1.1),(1000000,.box [dI y1.2])] [(4,ACall Tryz.prog 30 [.bp 1000000 0,.agg (cS_PrepressCond (a0.f4.getD v1.toNat z_PrepressCond)),dI (IntKind.i64.wrap (a1+(1:Int)))] [.box [dI v2]] (dI y1.1) [.box [dI y1.2]])] 1 (by kernel_rfl) (hrec_prepress_checker_cond hy2) ?_
                refine T_reg [] [0,2,12,68,69,70,80,1000000] [(80,dB (y1.1 != (0:Int)))] [] 2 (by kernel_rfl) (trivial) ?_
                refine T_cond (y1.1 != (0:Int)) (by kernel_rfl) (fun hc=>?_) (fun hc=>?_)
                · have h:=cond_tt hc h
                  refine T_reg [] [6,1000000] [(6,dI y1.1)] [] 2 (by kernel_rfl) (trivial) ?_
                  obtain hs:=Option.some.inj h; subst hs
                  have h:=callE_esc hk1
                  obtain hs:=Option.some.inj h; subst hs
                  refine T_ret fun a w hm=>inBlock_ret (then_ret (then_ret (inBlock_ret (then_ret (then_ret (T_return (fr':=[(6,dI y1.1),(1000000,.box [dI y1.2])]) [6] (by kernel_rfl) [.keep [6,1000000]] (by kernel_rfl) (by kernel_rfl) (by kernel_rfl) (by show _=_; kernel_rfl) (by exact ⟨⟨by kernel_rfl,by kernel_rfl⟩,trivial⟩) a w hm))))))
                · have h:=cond_ff hc h
                  refine T_skip fun a w hm=>inBlock_norm (then_norm (((?_:T Tryz.prog e 83 _ _ _) a w hm)))
                  refine T_reg_end [] [0,2,68,69,70,1000000] [(70,dI (IntKind.i64.wrap (v1+(1:Int))))] [] 2 (by kernel_rfl) (trivial) fun a w hm=>then_norm (⟨(IntKind.i64.wrap (v1+(1:Int)),y1.2),h,hm.co (cs:=[.keep [0,2,68,69,70,1000000]]) (by show _=_; kernel_rfl)⟩)
              · have h:=cond_ff hc h
                obtain hs:=Option.some.inj h; subst hs
                refine T_exit fun a w hm=>then_exit (then_exit (inBlock_exit (then_norm (⟨_,rfl,hm.co (cs:=[.keep [1000000]]) (by show _=_; kernel_rfl)⟩))))
            · skip
              refine fun a w hm=>then_norm (((?_:T Tryz.prog e 83 _ _ _) a w hm))
              refine T_reg [] [6,1000000] [(6,dI (0:Int))] [] 1 (by kernel_rfl) (trivial) ?_
              obtain hs:=Option.some.inj h; subst hs
              refine T_ret fun a w hm=>T_return (fr':=[(6,dI (0:Int)),(1000000,.box [dI v3])]) [6] (by kernel_rfl) [.keep [6,1000000]] (by kernel_rfl) (by kernel_rfl) (by kernel_rfl) (by show _=_; kernel_rfl) (by exact ⟨⟨by kernel_rfl,by kernel_rfl⟩,trivial⟩) a w hm
theorem prepress_checker_cond_fuel_ok {F:Nat} (n:Nat):∀ {a0:S_PrepressCond} {a1:Int} {c2:Int} {r:Int×Int},prepress_checker_cond_fuel F n a0 a1 c2=some r→ACall Tryz.prog 30 [.bp 1000000 0,.agg (cS_PrepressCond a0),.d (.v (.int .i64 a1))] [.box [.d (.v (.int .i64 c2))]] (.d (.v (.int .i64 r.1))) [.box [.d (.v (.int .i64 r.2))]]:=by
  induction n with
  | zero=>intro a0 a1 c2 r h; exact absurd (show (none:Option (Int×Int))=some r from h) (by simp)
  | succ n ih=>intro a0 a1 c2 r h; exact prepress_checker_cond_body_ok ih h
theorem prepress_checker_cond_ok {F:Nat} {a0:S_PrepressCond} {a1:Int} {c2:Int} {r:Int×Int} (h:prepress_checker_cond F a0 a1 c2=some r):ACall Tryz.prog 30 [.bp 1000000 0,.agg (cS_PrepressCond a0),.d (.v (.int .i64 a1))] [.box [.d (.v (.int .i64 c2))]] (.d (.v (.int .i64 r.1))) [.box [.d (.v (.int .i64 r.2))]]:=prepress_checker_cond_fuel_ok F h
theorem prepress_comparisons_ok {F:Nat}  {r:(List (List UInt8))} (h:prepress_comparisons F  = some r):ACall Tryz.prog 77 [] [] (.own 9 1 (r.map cS)) []:=by
  rw [prepress_comparisons] at h
  refine ACall.intro (N:=2) Tryz.func77 rfl rfl rfl rfl rfl fun e=>?_
  refine T_reg [] [] [] [] 1 (by kernel_rfl) (trivial) ?_
  refine T_reg [(0,{ es:=some (([([60]:List UInt8),([60,61]:List UInt8),([61]:List UInt8),([33,61]:List UInt8),([62,61]:List UInt8),([62]:List UInt8)]).map cS) })] [0] [(0,.own 9 1 (([([60]:List UInt8),([60,61]:List UInt8),([61]:List UInt8),([33,61]:List UInt8),([62,61]:List UInt8),([62]:List UInt8)]).map cS))] [(0,(([([60]:List UInt8),([60,61]:List UInt8),([61]:List UInt8),([33,61]:List UInt8),([62,61]:List UInt8),([62]:List UInt8)]).map cS)=(([([60]:List UInt8),([60,61]:List UInt8),([61]:List UInt8),([33,61]:List UInt8),([62,61]:List UInt8),([62]:List UInt8)]).map cS))] 1 (by kernel_rfl) (rfl) ?_
  obtain hs:=Option.some.inj h; subst hs
  refine T_ret fun a w hm=>T_return (fr':=[(0,.own 9 1 (([([60]:List UInt8),([60,61]:List UInt8),([61]:List UInt8),([33,61]:List UInt8),([62,61]:List UInt8),([62]:List UInt8)]).map cS))]) [0] (by kernel_rfl) [.keep [0]] (by kernel_rfl) (by kernel_rfl) (by kernel_rfl) (by show _=_; kernel_rfl) (by exact trivial) a w hm
theorem prepress_level_ok {F:Nat} {a0:Int} {r:Int} (h:prepress_level F a0=some r):ACall Tryz.prog 78 [.d (.v (.int .i64 a0))] [] (.d (.v (.int .i64 r))) []:=by
  rw [prepress_level] at h
  refine ACall.intro (N:=7) Tryz.func78 rfl rfl rfl rfl rfl fun e=>?_
  refine T_reg [] [0] [] [] 1 (by kernel_rfl) (trivial) ?_
  obtain ⟨hp1,h⟩:=chk_ok h
  refine T_reg [(0,{ es:=some (([(3:Int),(3:Int),(2:Int),(1:Int)]).map (cI .i64)) }),(3,{ cs:=(cI .i64) (([(3:Int),(3:Int),(2:Int),(1:Int)]).getD a0.toNat 0) })] [2] [(2,dI (([(3:Int),(3:Int),(2:Int),(1:Int)]).getD a0.toNat 0))] [(0,(([(3:Int),(3:Int),(2:Int),(1:Int)]).map (cI .i64))=(([(3:Int),(3:Int),(2:Int),(1:Int)]).map (cI .i64))),(1,0≤a0∧a0 < (([(3:Int),(3:Int),(2:Int),(1:Int)]).map (cI .i64)).length),(0,(([(3:Int),(3:Int),(2:Int),(1:Int)]).map (cI .i64))[a0.toNat]? = some ((cI .i64) (([(3:Int),(3:Int),(2:Int),(1:Int)]).getD a0.toNat 0)))] 1 (by kernel_rfl) (⟨rfl,own_idx (cI .i64) hp1,(idx_ok (d:=0) (cI .i64) hp1).2⟩) ?_
  obtain hs:=Option.some.inj h; subst hs
  refine T_ret fun a w hm=>T_return (fr':=[(2,dI (([(3:Int),(3:Int),(2:Int),(1:Int)]).getD a0.toNat 0))]) [2] (by kernel_rfl) [.keep [2]] (by kernel_rfl) (by kernel_rfl) (by kernel_rfl) (by show _=_; kernel_rfl) (by exact trivial) a w hm
theorem prepress_show_body_ok {F:Nat} {rec_prepress_show:S_PrepressCond→Int→Option ((List UInt8))} (hrec_prepress_show:∀ {a0:S_PrepressCond},∀ {a1:Int},∀ {r:(List UInt8)},rec_prepress_show a0 a1=some r→ACall Tryz.prog 47 [.agg (cS_PrepressCond a0),.d (.v (.int .i64 a1))] [.glo 0 ([gm0].flatMap (cI .i64)),.glo 3 (glob_internal_strconv_uint64pow10.flatMap (cI .u64))] (.d (.str r)) [.glo 0 ([gm0].flatMap (cI .i64)),.glo 3 (glob_internal_strconv_uint64pow10.flatMap (cI .u64))]) {a0:S_PrepressCond} {a1:Int} {r:(List UInt8)} (h:prepress_show_body F rec_prepress_show a0 a1=some r):ACall Tryz.prog 47 [.agg (cS_PrepressCond a0),.d (.v (.int .i64 a1))] [.glo 0 ([gm0].flatMap (cI .i64)),.glo 3 (glob_internal_strconv_uint64pow10.flatMap (cI .u64))] (.d (.str r)) [.glo 0 ([gm0].flatMap (cI .i64)),.glo 3 (glob_internal_strconv_uint64pow10.flatMap (cI .u64))]:=by
  rw [prepress_show_body] at h
  refine ACall.intro (N:=105) Tryz.func47 rfl rfl rfl rfl rfl fun e=>?_
  refine T_reg [] [1,2,1000000,1000001] [(2,bx_PrepressCond a0)] [] 2 (by kernel_rfl) (trivial) ?_
  refine T_reg [] [1,2,5,1000000,1000001] [(5,.d (.str []))] [] 1 (by kernel_rfl) (trivial) ?_
  refine T_joinc h (fun (p:(List UInt8))=>[(1,dI a1),(2,bx_PrepressCond a0),(5,.d (.str p)),(1000000,.glo 0 ([gm0].flatMap (cI .i64))),(1000001,.glo 3 (glob_internal_strconv_uint64pow10.flatMap (cI .u64)))]) (fun s h=>?_) (fun v8 h=>?_)
  · refine T_reg [] [1,2,5,11,1000000,1000001] [(11,dI a0.f0)] [] 2 (by kernel_rfl) (trivial) ?_
    refine T_block ?_
    refine T_reg [] [1,2,5,11,24,1000000,1000001] [(24,dB (a0.f0 == (0:Int)))] [] 2 (by kernel_rfl) (trivial) ?_
    refine T_cond (a0.f0 == (0:Int)) (by kernel_rfl) (fun hc=>?_) (fun hc=>?_)
    · have h:=cond_tt hc h
      refine T_seqk ?_
      refine T_reg [(2,{ rw:=some (dI (a0.f1.length:Int)) })] [1,2,5,27,28,29,1000000,1000001] [(27,.d (.sl 2 (a0.f1.map cS_PrepressTerm))),(28,dI (a0.f1.length:Int)),(29,dI (0:Int))] [(2,True∧dI ((a0.f1.map cS_PrepressTerm).length:Int)=dI (a0.f1.length:Int))] 1 (by kernel_rfl) (len_ok cS_PrepressTerm) ?_
      refine T_joinct h (fun (p:(List UInt8))=>[(1,dI a1),(2,bx_PrepressCond a0),(5,.d (.str p)),(1000000,.glo 0 ([gm0].flatMap (cI .i64))),(1000001,.glo 3 (glob_internal_strconv_uint64pow10.flatMap (cI .u64)))]) (fun s h=>?_) (fun v7 h=>?_)
      · refine T_co [.keep [1,2,5,27,28,29,1000000,1000001]] ((fun (p:(List UInt8)×Int)=>[(1,dI a1),(2,bx_PrepressCond a0),(5,.d (.str p.1)),(27,.d (.sl 2 (a0.f1.map cS_PrepressTerm))),(28,dI (a0.f1.length:Int)),(29,dI p.2),(1000000,.glo 0 ([gm0].flatMap (cI .i64))),(1000001,.glo 3 (glob_internal_strconv_uint64pow10.flatMap (cI .u64)))]) ([],(0:Int))) (by show _=_; kernel_rfl) ?_
        refine T_block ?_
        refine T_loopF (ι:=(List UInt8)×Int) (fun (p:(List UInt8)×Int)=>[(1,dI a1),(2,bx_PrepressCond a0),(5,.d (.str p.1)),(27,.d (.sl 2 (a0.f1.map cS_PrepressTerm))),(28,dI (a0.f1.length:Int)),(29,dI p.2),(1000000,.glo 0 ([gm0].flatMap (cI .i64))),(1000001,.glo 3 (glob_internal_strconv_uint64pow10.flatMap (cI .u64)))]) (fun n p=>prepress_show_L1 F a0 n p.1 p.2=some s) (fun i hh=>by simp [prepress_show_L1] at hh) (fun n p h=>?_) F ([],(0:Int)) h
        obtain ⟨v1,v2⟩:=p
        have h:prepress_show_L1 F a0 (n+1) v1 v2=some s:=h
        rw [prepress_show_L1] at h
        refine T_reg [] [1,2,5,27,28,29,30,1000000,1000001] [(30,dB (decide (v2 < (a0.f1.length:Int))))] [] 1 (by kernel_rfl) (trivial) ?_
        refine T_seqk ?_
        refine T_cond (decide (v2 < (a0.f1.length:Int))) (by kernel_rfl) (fun hc=>?_) (fun hc=>?_)
        · have h:=cond_tt hc h
          refine T_skip fun a w hm=>then_norm (((?_:T Tryz.prog e 105 _ _ _) a w hm))
          refine T_seqk ?_
          refine T_block ?_
          obtain ⟨hp1,h⟩:=chk_ok h
          refine T_reg [(1,{ cs:=cS_PrepressTerm (a0.f1.getD v2.toNat z_PrepressTerm) })] [1,2,5,6,7,27,28,29,1000000,1000001] [(6,dI v2),(7,.box [dI ((a0.f1.getD v2.toNat z_PrepressTerm).f0),.d (.str ((a0.f1.getD v2.toNat z_PrepressTerm).f1))])] [(1,0≤v2∧(a0.f1.map cS_PrepressTerm)[v2.toNat]? = some (cS_PrepressTerm (a0.f1.getD v2.toNat z_PrepressTerm)))] 4 (by kernel_rfl) (idx_ok (d:=z_PrepressTerm) cS_PrepressTerm hp1) ?_
          refine T_draw mixed [] [1,2,5,6,7,8,9,27,28,29,1000000,1000001] [] [(1,dI a1),(2,bx_PrepressCond a0),(5,.d (.str v1)),(6,dI v2),(7,.box [dI ((a0.f1.getD v2.toNat z_PrepressTerm).f0),.d (.str ((a0.f1.getD v2.toNat z_PrepressTerm).f1))]),(8,.d (.str [])),(9,dI ((a0.f1.getD v2.toNat z_PrepressTerm).f0)),(27,.d (.sl 2 (a0.f1.map cS_PrepressTerm))),(28,dI (a0.f1.length:Int)),(29,dI v2),(1000000,.glo 0 ([gm0].flatMap (cI .i64))),(1000001,.glo 3 (glob_internal_strconv_uint64pow10.flatMap (cI .u64)))] [] 4 (by kernel_rfl) (trivial) ?_
          refine T_joinc h (fun (p:(List UInt8))=>[(1,dI a1),(2,bx_PrepressCond a0),(5,.d (.str v1)),(6,dI v2),(7,.box [dI ((a0.f1.getD v2.toNat z_PrepressTerm).f0),.d (.str ((a0.f1.getD v2.toNat z_PrepressTerm).f1))]),(8,.d (.str p)),(9,dI ((a0.f1.getD v2.toNat z_PrepressTerm).f0)),(27,.d (.sl 2 (a0.f1.map cS_PrepressTerm))),(28,dI (a0.f1.length:Int)),(29,dI v2),(1000000,.glo 0 ([gm0].flatMap (cI .i64))),(1000001,.glo 3 (glob_internal_strconv_uint64pow10.flatMap (cI .u64)))]) (fun s h=>?_) (fun v3 h=>?_)
          · refine T_reg [] [1,2,5,6,7,8,9,27,28,29,37,1000000,1000001] [(37,dB (decide (v2 > (0:Int))))] [] 2 (by kernel_rfl) (trivial) ?_
            refine T_cond (decide (v2 > (0:Int))) (by kernel_rfl) (fun hc=>?_) (fun hc=>?_)
            · have h:=cond_tt hc h
              obtain hs:=Option.some.inj h; subst hs
              refine T_reg_end [] [1,2,5,6,7,8,9,27,28,29,1000000,1000001] [(8,.d (.str ([32,43,32]:List UInt8)))] [] 1 (by kernel_rfl) (trivial) fun a w hm=>then_norm (hm.co (cs:=[.keep [1,2,5,6,7,8,9,27,28,29,1000000,1000001]]) (by show _=_; kernel_rfl))
            · have h:=cond_ff hc h
              obtain hs:=Option.some.inj h; subst hs
              refine T_skip fun a w hm=>then_norm (hm.co (cs:=[.keep [1,2,5,6,7,8,9,27,28,29,1000000,1000001]]) (by show _=_; kernel_rfl))
          · skip
            refine T_joinc h (fun (p:(List UInt8)×Int)=>[(1,dI a1),(2,bx_PrepressCond a0),(5,.d (.str v1)),(7,.box [dI ((a0.f1.getD v2.toNat z_PrepressTerm).f0),.d (.str ((a0.f1.getD v2.toNat z_PrepressTerm).f1))]),(8,.d (.str p.1)),(9,dI p.2),(27,.d (.sl 2 (a0.f1.map cS_PrepressTerm))),(28,dI (a0.f1.length:Int)),(29,dI v2),(1000000,.glo 0 ([gm0].flatMap (cI .i64))),(1000001,.glo 3 (glob_internal_strconv_uint64pow10.flatMap (cI .u64)))]) (fun s h=>?_) (fun s h=>?_)
            · refine T_reg [] [1,2,5,6,7,8,9,27,28,29,39,1000000,1000001] [(39,dB (decide (((a0.f1.getD v2.toNat z_PrepressTerm).f0) < (0:Int))))] [] 2 (by kernel_rfl) (trivial) ?_
              refine T_cond (decide (((a0.f1.getD v2.toNat z_PrepressTerm).f0) < (0:Int))) (by kernel_rfl) (fun hc=>?_) (fun hc=>?_)
              · have h:=cond_tt hc h
                obtain ⟨hp2,h⟩:=chk_ok h
                refine T_reg [(1,{ res:=.d (.str (Lib.replaceAll v3 ([43]:List UInt8) ([45]:List UInt8))),xs:=[1000000],vout:=[.glo 0 ([gm0].flatMap (cI .i64))] })] [1,2,5,6,7,8,9,27,28,29,1000000,1000001] [(8,.d (.str (Lib.replaceAll v3 ([43]:List UInt8) ([45]:List UInt8)))),(9,dI (IntKind.i64.wrap (0 - ((a0.f1.getD v2.toNat z_PrepressTerm).f0))))] [(1,ACall Tryz.prog 75 [.d (.str v3),.d (.str ([43]:List UInt8)),.d (.str ([45]:List UInt8))] [.glo 0 ([gm0].flatMap (cI .i64))] (.d (.str (Lib.replaceAll v3 ([43]:List UInt8) ([45]:List UInt8)))) [.glo 0 ([gm0].flatMap (cI .i64))])] 4 (by kernel_rfl) (b_ReplaceAll hp2) ?_
                refine T_reg [] [1,2,5,7,8,9,27,28,29,45,1000000,1000001] [(45,dB (v2 == (0:Int)))] [] 2 (by kernel_rfl) (trivial) ?_
                refine T_cond (v2 == (0:Int)) (by kernel_rfl) (fun hc=>?_) (fun hc=>?_)
                · have h:=cond_tt hc h
                  obtain hs:=Option.some.inj h; subst hs
                  refine T_reg_end [] [1,2,5,7,8,9,27,28,29,1000000,1000001] [(8,.d (.str ([45]:List UInt8)))] [] 1 (by kernel_rfl) (trivial) fun a w hm=>then_norm (hm.co (cs:=[.keep [1,2,5,7,8,9,27,28,29,1000000,1000001]]) (by show _=_; kernel_rfl))
                · have h:=cond_ff hc h
                  obtain hs:=Option.some.inj h; subst hs
                  refine T_skip fun a w hm=>then_norm (hm.co (cs:=[.keep [1,2,5,7,8,9,27,28,29,1000000,1000001]]) (by show _=_; kernel_rfl))
              · have h:=cond_ff hc h
                obtain hs:=Option.some.inj h; subst hs
                refine T_skip fun a w hm=>then_norm (hm.co (cs:=[.keep [1,2,5,7,8,9,27,28,29,1000000,1000001]]) (by show _=_; kernel_rfl))
            · obtain ⟨v4,v5⟩:=s
              try dsimp only at h
              obtain ⟨hp3,h⟩:=chk_ok h
              refine T_reg [] [1,2,5,7,9,27,28,29,1000000,1000001] [(5,.d (.str (v1++v4)))] [(2,v1.length+v4.length≤9223372036854775807)] 1 (by kernel_rfl) (hp3) ?_
              refine T_joinc h (fun (p:(List UInt8))=>[(1,dI a1),(2,bx_PrepressCond a0),(5,.d (.str p)),(7,.box [dI ((a0.f1.getD v2.toNat z_PrepressTerm).f0),.d (.str ((a0.f1.getD v2.toNat z_PrepressTerm).f1))]),(27,.d (.sl 2 (a0.f1.map cS_PrepressTerm))),(28,dI (a0.f1.length:Int)),(29,dI v2),(1000000,.glo 0 ([gm0].flatMap (cI .i64))),(1000001,.glo 3 (glob_internal_strconv_uint64pow10.flatMap (cI .u64)))]) (fun s h=>?_) (fun v6 h=>?_)
              · refine T_reg [] [1,2,5,7,9,27,28,29,50,1000000,1000001] [(50,dB (v5 != (1:Int)))] [] 2 (by kernel_rfl) (trivial) ?_
                refine T_cond (v5 != (1:Int)) (by kernel_rfl) (fun hc=>?_) (fun hc=>?_)
                · have h:=cond_tt hc h
                  obtain ⟨hp4,h⟩:=chk_ok h
                  obtain ⟨hp5,h⟩:=chk_ok h
                  obtain ⟨hp6,h⟩:=chk_ok h
                  obtain hs:=Option.some.inj h; subst hs
                  refine T_reg_end [(2,{ res:=.d (.str (Lib.itoa v5)),xs:=[1000001],vout:=[.glo 3 (glob_internal_strconv_uint64pow10.flatMap (cI .u64))] })] [1,2,5,7,27,28,29,1000000,1000001] [(5,.d (.str ((v1++v4)++((Lib.itoa v5)++([32]:List UInt8)))))] [(2,ACall Tryz.prog 76 [dI v5] [.glo 3 (glob_internal_strconv_uint64pow10.flatMap (cI .u64))] (.d (.str (Lib.itoa v5))) [.glo 3 (glob_internal_strconv_uint64pow10.flatMap (cI .u64))]),(0,(Lib.itoa v5).length+([32]:List UInt8).length≤9223372036854775807),(0,(v1++v4).length+((Lib.itoa v5)++([32]:List UInt8)).length≤9223372036854775807)] 1 (by kernel_rfl) (⟨b_Itoa hp4,hp5,hp6⟩) fun a w hm=>then_norm (hm.co (cs:=[.keep [1,2,5,7,27,28,29,1000000,1000001]]) (by show _=_; kernel_rfl))
                · have h:=cond_ff hc h
                  obtain hs:=Option.some.inj h; subst hs
                  refine T_skip fun a w hm=>then_norm (hm.co (cs:=[.keep [1,2,5,7,27,28,29,1000000,1000001]]) (by show _=_; kernel_rfl))
              · skip
                obtain ⟨hp7,h⟩:=chk_ok h
                refine T_reg_end [] [1,2,5,27,28,29,1000000,1000001] [(5,.d (.str (v6++((a0.f1.getD v2.toNat z_PrepressTerm).f1))))] [(3,v6.length+((a0.f1.getD v2.toNat z_PrepressTerm).f1).length≤9223372036854775807)] 1 (by kernel_rfl) (hp7) fun a w hm=>inBlock_norm (then_norm (((?_:T Tryz.prog e 105 _ _ _) a w hm)))
                refine T_reg_end [] [1,2,5,27,28,29,1000000,1000001] [(29,dI (IntKind.i64.wrap (v2+(1:Int))))] [] 2 (by kernel_rfl) (trivial) fun a w hm=>then_norm (⟨((v6++((a0.f1.getD v2.toNat z_PrepressTerm).f1)),IntKind.i64.wrap (v2+(1:Int))),h,hm.co (cs:=[.keep [1,2,5,27,28,29,1000000,1000001]]) (by show _=_; kernel_rfl)⟩)
        · have h:=cond_ff hc h
          obtain hs:=Option.some.inj h; subst hs
          refine T_exit fun a w hm=>then_exit (then_exit (inBlock_exit (then_norm (hm.co (cs:=[.keep [1,2,5,1000000,1000001]]) (by show _=_; kernel_rfl)))))
      · skip
        refine fun a w hm=>then_norm (((?_:T Tryz.prog e 105 _ _ _) a w hm))
        obtain ⟨y1,hy1,h⟩:=call_ok h
        obtain ⟨hp8,h⟩:=chk_ok h
        obtain ⟨hp9,h⟩:=chk_ok h
        obtain ⟨hp10,h⟩:=chk_ok h
        obtain ⟨hp11,h⟩:=chk_ok h
        obtain ⟨hp12,h⟩:=chk_ok h
        obtain ⟨hp13,h⟩:=chk_ok h
        obtain ⟨z1,hz1,h⟩:=lett_ok h
        obtain hs:=Option.some.inj h; subst hs
        refine T_drawX_end mixed 16 (.take 0 (.take 2 (.take 8 (.all (.alt 1 (.all (.alt 3 (.take 4 (.all (.alt 5 (.take 6 (.take 7 (.all (.alt 9 (.all (.alt 10 (.take 11 (.take 12 (.take 13 .done))) .stop)) .stop)))) (.alt 9 (.all (.alt 5 (.take 6 (.take 7 (.all (.alt 10 (.take 11 (.take 12 (.take 13 .done))) .stop)))) (.alt 10 (.all (.alt 5 (.take 6 (.take 7 (.take 11 (.take 12 (.take 13 .done))))) .stop)) .stop))) .stop)))) (.alt 9 (.all (.alt 3 (.take 4 (.all (.alt 5 (.take 6 (.take 7 (.all (.alt 10 (.take 11 (.take 12 (.take 13 .done))) .stop)))) (.alt 10 (.all (.alt 5 (.take 6 (.take 7 (.take 11 (.take 12 (.take 13 .done))))) .stop)) .stop)))) (.alt 10 (.all (.alt 3 (.take 4 (.all (.alt 5 (.take 6 (.take 7 (.take 11 (.take 12 (.take 13 .done))))) .stop))) .stop)) .stop))) .stop))) (.alt 3 (.all (.alt 1 (.take 4 (.all (.alt 5 (.take 6 (.take 7 (.all (.alt 9 (.all (.alt 10 (.take 11 (.take 12 (.take 13 .done))) .stop)) .stop)))) (.alt 9 (.all (.alt 5 (.take 6 (.take 7 (.all (.alt 10 (.take 11 (.take 12 (.take 13 .done))) .stop)))) (.alt 10 (.all (.alt 5 (.take 6 (.take 7 (.take 11 (.take 12 (.take 13 .done))))) .stop)) .stop))) .stop)))) (.alt 9 (.all (.alt 1 (.take 4 (.all (.alt 5 (.take 6 (.take 7 (.all (.alt 10 (.take 11 (.take 12 (.take 13 .done))) .stop)))) (.alt 10 (.all (.alt 5 (.take 6 (.take 7 (.take 11 (.take 12 (.take 13 .done))))) .stop)) .stop)))) .stop)) .stop))) (.alt 9 (.all (.alt 1 (.all (.alt 3 (.take 4 (.all (.alt 5 (.take 6 (.take 7 (.all (.alt 10 (.take 11 (.take 12 (.take 13 .done))) .stop)))) (.alt 10 (.all (.alt 5 (.take 6 (.take 7 (.take 11 (.take 12 (.take 13 .done))))) .stop)) .stop)))) (.alt 10 (.all (.alt 3 (.take 4 (.all (.alt 5 (.take 6 (.take 7 (.take 11 (.take 12 (.take 13 .done))))) .stop))) .stop)) .stop))) (.alt 3 (.all (.alt 1 (.take 4 (.all (.alt 5 (.take 6 (.take 7 (.all (.alt 10 (.take 11 (.take 12 (.take 13 .done))) .stop)))) (.alt 10 (.all (.alt 5 (.take 6 (.take 7 (.take 11 (.take 12 (.take 13 .done))))) .stop)) .stop)))) .stop)) .stop))) .stop))))))) ([0,0,0,4,10,16,32,64,0,256,514,1152,2049,8191],[0,0,0,4,10,16,32,64,0,256,512,1152,2049,4097]) 14805 [(1,{ res:=oW2 y1 }),(5,{ cs:=cS (y1.getD a0.f2.toNat []) }),(10,{ res:=.d (.str (Lib.itoa a0.f3)),xs:=[1000001],vout:=[.glo 3 (glob_internal_strconv_uint64pow10.flatMap (cI .u64))] }),(12,{ rw:=some (.d (.str z1)) })] [1,2,5,1000000,1000001] [] [(1,dI a1),(2,bx_PrepressCond a0),(5,.d (.str z1)),(1000000,.glo 0 ([gm0].flatMap (cI .i64))),(1000001,.glo 3 (glob_internal_strconv_uint64pow10.flatMap (cI .u64)))] ((fun (o1:Prop)=>fun (o4:Prop)=>fun (o5:Prop)=>fun (o6:Prop)=>fun (o7:Prop)=>fun (o10:Prop)=>fun (o11:Prop)=>fun (o12:Prop)=>[(3,o1),(1,o4),(0,o5),(0,o6),(0,o7),(1,o10),(0,o11),(0,o12),(2,o5),(0,o6),(0,o7),(0,o10),(0,o11),(0,o12),(1,o10),(0,o5),(0,o6),(0,o7),(0,o11),(0,o12),(3,o4),(0,o5),(0,o6),(0,o7),(0,o10),(0,o11),(0,o12),(1,o10),(0,o5),(0,o6),(0,o7),(0,o11),(0,o12),(1,o10),(1,o4),(0,o5),(0,o6),(0,o7),(0,o11),(0,o12),(2,o1),(0,o4),(0,o5),(0,o6),(0,o7),(1,o10),(0,o11),(0,o12),(2,o5),(0,o6),(0,o7),(0,o10),(0,o11),(0,o12),(1,o10),(0,o5),(0,o6),(0,o7),(0,o11),(0,o12),(2,o1),(0,o4),(0,o5),(0,o6),(0,o7),(0,o10),(0,o11),(0,o12),(1,o10),(0,o5),(0,o6),(0,o7),(0,o11),(0,o12),(2,o1),(1,o4),(0,o5),(0,o6),(0,o7),(0,o10),(0,o11),(0,o12),(1,o10),(0,o5),(0,o6),(0,o7),(0,o11),(0,o12),(1,o10),(1,o4),(0,o5),(0,o6),(0,o7),(0,o11),(0,o12),(2,o1),(0,o4),(0,o5),(0,o6),(0,o7),(0,o10),(0,o11),(0,o12),(1,o10),(0,o5),(0,o6),(0,o7),(0,o11),(0,o12)]) (ACall Tryz.prog 77 [] [] (oW2 y1) []) (0≤a0.f2∧a0.f2 < (y1.map cS).length) ((y1.map cS)[a0.f2.toNat]? = some (cS (y1.getD a0.f2.toNat []))) (([32]:List UInt8).length+(y1.getD a0.f2.toNat []).length≤9223372036854775807) ((([32]:List UInt8)++(y1.getD a0.f2.toNat [])).length+([32]:List UInt8).length≤9223372036854775807) (ACall Tryz.prog 76 [dI a0.f3] [.glo 3 (glob_internal_strconv_uint64pow10.flatMap (cI .u64))] (.d (.str (Lib.itoa a0.f3))) [.glo 3 (glob_internal_strconv_uint64pow10.flatMap (cI .u64))]) (((([32]:List UInt8)++(y1.getD a0.f2.toNat []))++([32]:List UInt8)).length+(Lib.itoa a0.f3).length≤9223372036854775807) ((v7.length+(((([32]:List UInt8)++(y1.getD a0.f2.toNat []))++([32]:List UInt8))++(Lib.itoa a0.f3)).length≤9223372036854775807)∧AV.d (.str (v7++(((([32]:List UInt8)++(y1.getD a0.f2.toNat []))++([32]:List UInt8))++(Lib.itoa a0.f3))))=.d (.str z1))) 1 (by kernel_rfl) (by kernel_rfl) (by kernel_rfl) (have p1:=prepress_comparisons_ok hy1; have p4:=own_idx cS hp8; have p5:=(idx_ok (d:=[]) cS hp8).2; have p6:=hp9; have p7:=hp10; have p10:=b_Itoa hp11; have p11:=hp12; have p12:=⟨hp13,(by subst hz1; rfl)⟩; ⟨p1,p4,p5,p6,p7,p10,p11,p12,p5,p6,p7,p10,p11,p12,p10,p5,p6,p7,p11,p12,p4,p5,p6,p7,p10,p11,p12,p10,p5,p6,p7,p11,p12,p10,p4,p5,p6,p7,p11,p12,p1,p4,p5,p6,p7,p10,p11,p12,p5,p6,p7,p10,p11,p12,p10,p5,p6,p7,p11,p12,p1,p4,p5,p6,p7,p10,p11,p12,p10,p5,p6,p7,p11,p12,p1,p4,p5,p6,p7,p10,p11,p12,p10,p5,p6,p7,p11,p12,p10,p4,p5,p6,p7,p11,p12,p1,p4,p5,p6,p7,p10,p11,p12,p10,p5,p6,p7,p11,p12⟩) fun a w hm=>inBlock_norm (then_norm (hm.co (cs:=[.keep [1,2,5,1000000,1000001]]) (by show _=_; kernel_rfl)))
    · have h:=cond_ff hc h
      refine T_reg [] [1,2,11,74,1000000,1000001] [(74,dB (a0.f0 == (1:Int)))] [] 2 (by kernel_rfl) (trivial) ?_
      refine T_cond (a0.f0 == (1:Int)) (by kernel_rfl) (fun hc=>?_) (fun hc=>?_)
      · have h:=cond_tt hc h
        obtain ⟨hp14,h⟩:=chk_ok h
        obtain ⟨y2,hy2,h⟩:=call_ok h
        obtain ⟨hp15,h⟩:=chk_ok h
        obtain hs:=Option.some.inj h; subst hs
        refine T_reg_end [(2,{ cs:=cS_PrepressCond (a0.f4.getD (0:Int).toNat z_PrepressCond) }),(4,{ res:=.d (.str y2),vout:=[.glo 0 ([gm0].flatMap (cI .i64)),.glo 3 (glob_internal_strconv_uint64pow10.flatMap (cI .u64))],xs:=[1000000,1000001] })] [1,2,5,1000000,1000001] [(5,.d (.str (([110,111,116,32]:List UInt8)++y2)))] [(2,0≤(0:Int)∧(a0.f4.map rS_PrepressCond)[(0:Int).toNat]? = some (cS_PrepressCond (a0.f4.getD (0:Int).toNat z_PrepressCond))),(1,ACall Tryz.prog 47 [.agg (cS_PrepressCond (a0.f4.getD (0:Int).toNat z_PrepressCond)),dI (3:Int)] [.glo 0 ([gm0].flatMap (cI .i64)),.glo 3 (glob_internal_strconv_uint64pow10.flatMap (cI .u64))] (.d (.str y2)) [.glo 0 ([gm0].flatMap (cI .i64)),.glo 3 (glob_internal_strconv_uint64pow10.flatMap (cI .u64))]),(0,([110,111,116,32]:List UInt8).length+y2.length≤9223372036854775807)] 1 (by kernel_rfl) (⟨idx_okR (d:=z_PrepressCond) rS_PrepressCond_eq hp14,hrec_prepress_show hy2,hp15⟩) fun a w hm=>inBlock_norm (then_norm (hm.co (cs:=[.keep [1,2,5,1000000,1000001]]) (by show _=_; kernel_rfl)))
      · have h:=cond_ff hc h
        refine T_reg [] [1,2,82,1000000,1000001] [(82,dB (a0.f0 == (2:Int)))] [] 2 (by kernel_rfl) (trivial) ?_
        refine T_cond (a0.f0 == (2:Int)) (by kernel_rfl) (fun hc=>?_) (fun hc=>?_)
        · have h:=cond_tt hc h
          obtain ⟨hp16,h⟩:=chk_ok h
          obtain ⟨y3,hy3,h⟩:=call_ok h
          obtain ⟨hp17,h⟩:=chk_ok h
          obtain ⟨hp18,h⟩:=chk_ok h
          obtain ⟨y4,hy4,h⟩:=call_ok h
          obtain ⟨hp19,h⟩:=chk_ok h
          obtain hs:=Option.some.inj h; subst hs
          refine T_drawX_end mixed 35 (.take 0 (.take 6 (.all (.alt 1 (.all (.alt 2 (.all (.alt 3 (.all (.alt 4 (.take 5 (.all (.alt 7 (.all (.alt 8 (.all (.alt 9 (.all (.alt 10 (.take 11 (.take 12 .done)) .stop)) .stop)) .stop)) .stop))) (.alt 7 (.all (.alt 4 (.take 5 (.all (.alt 8 (.all (.alt 9 (.all (.alt 10 (.take 11 (.take 12 .done)) .stop)) .stop)) .stop))) (.alt 8 (.all (.alt 4 (.take 5 (.all (.alt 9 (.all (.alt 10 (.take 11 (.take 12 .done)) .stop)) .stop))) (.alt 9 (.all (.alt 4 (.take 5 (.all (.alt 10 (.take 11 (.take 12 .done)) .stop))) .stop)) .stop))) .stop))) .stop))) (.alt 7 (.all (.alt 3 (.all (.alt 4 (.take 5 (.all (.alt 8 (.all (.alt 9 (.all (.alt 10 (.take 11 (.take 12 .done)) .stop)) .stop)) .stop))) (.alt 8 (.all (.alt 4 (.take 5 (.all (.alt 9 (.all (.alt 10 (.take 11 (.take 12 .done)) .stop)) .stop))) (.alt 9 (.all (.alt 4 (.take 5 (.all (.alt 10 (.take 11 (.take 12 .done)) .stop))) .stop)) .stop))) .stop))) (.alt 8 (.all (.alt 3 (.all (.alt 4 (.take 5 (.all (.alt 9 (.all (.alt 10 (.take 11 (.take 12 .done)) .stop)) .stop))) (.alt 9 (.all (.alt 4 (.take 5 (.all (.alt 10 (.take 11 (.take 12 .done)) .stop))) .stop)) .stop))) (.alt 9 (.all (.alt 3 (.all (.alt 4 (.take 5 (.all (.alt 10 (.take 11 (.take 12 .done)) .stop))) .stop)) .stop)) .stop))) .stop))) .stop))) (.alt 7 (.all (.alt 2 (.all (.alt 3 (.all (.alt 4 (.take 5 (.all (.alt 8 (.all (.alt 9 (.all (.alt 10 (.take 11 (.take 12 .done)) .stop)) .stop)) .stop))) (.alt 8 (.all (.alt 4 (.take 5 (.all (.alt 9 (.all (.alt 10 (.take 11 (.take 12 .done)) .stop)) .stop))) (.alt 9 (.all (.alt 4 (.take 5 (.all (.alt 10 (.take 11 (.take 12 .done)) .stop))) .stop)) .stop))) .stop))) (.alt 8 (.all (.alt 3 (.all (.alt 4 (.take 5 (.all (.alt 9 (.all (.alt 10 (.take 11 (.take 12 .done)) .stop)) .stop))) (.alt 9 (.all (.alt 4 (.take 5 (.all (.alt 10 (.take 11 (.take 12 .done)) .stop))) .stop)) .stop))) (.alt 9 (.all (.alt 3 (.all (.alt 4 (.take 5 (.all (.alt 10 (.take 11 (.take 12 .done)) .stop))) .stop)) .stop)) .stop))) .stop))) (.alt 8 (.all (.alt 2 (.all (.alt 3 (.all (.alt 4 (.take 5 (.all (.alt 9 (.all (.alt 10 (.take 11 (.take 12 .done)) .stop)) .stop))) (.alt 9 (.all (.alt 4 (.take 5 (.all (.alt 10 (.take 11 (.take 12 .done)) .stop))) .stop)) .stop))) (.alt 9 (.all (.alt 3 (.all (.alt 4 (.take 5 (.all (.alt 10 (.take 11 (.take 12 .done)) .stop))) .stop)) .stop)) .stop))) (.alt 9 (.all (.alt 2 (.all (.alt 3 (.all (.alt 4 (.take 5 (.all (.alt 10 (.take 11 (.take 12 .done)) .stop))) .stop)) .stop)) .stop)) .stop))) .stop))) .stop))) (.alt 7 (.all (.alt 1 (.all (.alt 2 (.all (.alt 3 (.all (.alt 4 (.take 5 (.all (.alt 8 (.all (.alt 9 (.all (.alt 10 (.take 11 (.take 12 .done)) .stop)) .stop)) .stop))) (.alt 8 (.all (.alt 4 (.take 5 (.all (.alt 9 (.all (.alt 10 (.take 11 (.take 12 .done)) .stop)) .stop))) (.alt 9 (.all (.alt 4 (.take 5 (.all (.alt 10 (.take 11 (.take 12 .done)) .stop))) .stop)) .stop))) .stop))) (.alt 8 (.all (.alt 3 (.all (.alt 4 (.take 5 (.all (.alt 9 (.all (.alt 10 (.take 11 (.take 12 .done)) .stop)) .stop))) (.alt 9 (.all (.alt 4 (.take 5 (.all (.alt 10 (.take 11 (.take 12 .done)) .stop))) .stop)) .stop))) (.alt 9 (.all (.alt 3 (.all (.alt 4 (.take 5 (.all (.alt 10 (.take 11 (.take 12 .done)) .stop))) .stop)) .stop)) .stop))) .stop))) (.alt 8 (.all (.alt 2 (.all (.alt 3 (.all (.alt 4 (.take 5 (.all (.alt 9 (.all (.alt 10 (.take 11 (.take 12 .done)) .stop)) .stop))) (.alt 9 (.all (.alt 4 (.take 5 (.all (.alt 10 (.take 11 (.take 12 .done)) .stop))) .stop)) .stop))) (.alt 9 (.all (.alt 3 (.all (.alt 4 (.take 5 (.all (.alt 10 (.take 11 (.take 12 .done)) .stop))) .stop)) .stop)) .stop))) (.alt 9 (.all (.alt 2 (.all (.alt 3 (.all (.alt 4 (.take 5 (.all (.alt 10 (.take 11 (.take 12 .done)) .stop))) .stop)) .stop)) .stop)) .stop))) .stop))) (.alt 8 (.all (.alt 1 (.all (.alt 2 (.all (.alt 3 (.all (.alt 4 (.take 5 (.all (.alt 9 (.all (.alt 10 (.take 11 (.take 12 .done)) .stop)) .stop))) (.alt 9 (.all (.alt 4 (.take 5 (.all (.alt 10 (.take 11 (.take 12 .done)) .stop))) .stop)) .stop))) (.alt 9 (.all (.alt 3 (.all (.alt 4 (.take 5 (.all (.alt 10 (.take 11 (.take 12 .done)) .stop))) .stop)) .stop)) .stop))) (.alt 9 (.all (.alt 2 (.all (.alt 3 (.all (.alt 4 (.take 5 (.all (.alt 10 (.take 11 (.take 12 .done)) .stop))) .stop)) .stop)) .stop)) .stop))) (.alt 9 (.all (.alt 1 (.all (.alt 2 (.all (.alt 3 (.all (.alt 4 (.take 5 (.all (.alt 10 (.take 11 (.take 12 .done)) .stop))) .stop)) .stop)) .stop)) .stop)) .stop))) .stop))) .stop))))) ([0,1,2,4,8,16,0,64,128,256,528,1056,4095],[0,1,2,4,8,16,0,64,128,256,512,1056,2048]) 6241 [(2,{ cs:=cS_PrepressCond (a0.f4.getD (0:Int).toNat z_PrepressCond) }),(4,{ res:=.d (.str y3),vout:=[.glo 0 ([gm0].flatMap (cI .i64)),.glo 3 (glob_internal_strconv_uint64pow10.flatMap (cI .u64))],xs:=[1000000,1000001] }),(8,{ cs:=cS_PrepressCond (a0.f4.getD (1:Int).toNat z_PrepressCond) }),(10,{ res:=.d (.str y4),vout:=[.glo 0 ([gm0].flatMap (cI .i64)),.glo 3 (glob_internal_strconv_uint64pow10.flatMap (cI .u64))],xs:=[1000000,1000001] })] [1,2,5,1000000,1000001] [] [(1,dI a1),(2,bx_PrepressCond a0),(5,.d (.str ((y3++([32,97,110,100,32]:List UInt8))++y4))),(1000000,.glo 0 ([gm0].flatMap (cI .i64))),(1000001,.glo 3 (glob_internal_strconv_uint64pow10.flatMap (cI .u64)))] ((fun (o2:Prop)=>fun (o4:Prop)=>fun (o5:Prop)=>fun (o8:Prop)=>fun (o10:Prop)=>fun (o11:Prop)=>[(3,o2),(1,o4),(0,o5),(1,o8),(1,o10),(0,o11),(2,o4),(0,o5),(0,o8),(1,o10),(0,o11),(1,o8),(0,o4),(0,o5),(1,o10),(0,o11),(2,o4),(0,o5),(0,o10),(0,o11),(3,o4),(0,o5),(0,o8),(1,o10),(0,o11),(1,o8),(0,o4),(0,o5),(1,o10),(0,o11),(2,o4),(0,o5),(0,o10),(0,o11),(1,o8),(1,o4),(0,o5),(1,o10),(0,o11),(2,o4),(0,o5),(0,o10),(0,o11),(3,o4),(0,o5),(0,o10),(0,o11),(2,o2),(1,o4),(0,o5),(0,o8),(1,o10),(0,o11),(1,o8),(0,o4),(0,o5),(1,o10),(0,o11),(2,o4),(0,o5),(0,o10),(0,o11),(1,o8),(1,o4),(0,o5),(1,o10),(0,o11),(2,o4),(0,o5),(0,o10),(0,o11),(3,o4),(0,o5),(0,o10),(0,o11),(1,o8),(0,o2),(1,o4),(0,o5),(1,o10),(0,o11),(2,o4),(0,o5),(0,o10),(0,o11),(3,o4),(0,o5),(0,o10),(0,o11),(2,o2),(1,o4),(0,o5),(0,o10),(0,o11),(3,o2),(1,o4),(0,o5),(0,o8),(1,o10),(0,o11),(1,o8),(0,o4),(0,o5),(1,o10),(0,o11),(2,o4),(0,o5),(0,o10),(0,o11),(1,o8),(1,o4),(0,o5),(1,o10),(0,o11),(2,o4),(0,o5),(0,o10),(0,o11),(3,o4),(0,o5),(0,o10),(0,o11),(1,o8),(0,o2),(1,o4),(0,o5),(1,o10),(0,o11),(2,o4),(0,o5),(0,o10),(0,o11),(3,o4),(0,o5),(0,o10),(0,o11),(2,o2),(1,o4),(0,o5),(0,o10),(0,o11),(1,o8),(1,o2),(1,o4),(0,o5),(1,o10),(0,o11),(2,o4),(0,o5),(0,o10),(0,o11),(3,o4),(0,o5),(0,o10),(0,o11),(2,o2),(1,o4),(0,o5),(0,o10),(0,o11),(3,o2),(1,o4),(0,o5),(0,o10),(0,o11)]) (0≤(0:Int)∧(a0.f4.map rS_PrepressCond)[(0:Int).toNat]? = some (cS_PrepressCond (a0.f4.getD (0:Int).toNat z_PrepressCond))) (ACall Tryz.prog 47 [.agg (cS_PrepressCond (a0.f4.getD (0:Int).toNat z_PrepressCond)),dI (2:Int)] [.glo 0 ([gm0].flatMap (cI .i64)),.glo 3 (glob_internal_strconv_uint64pow10.flatMap (cI .u64))] (.d (.str y3)) [.glo 0 ([gm0].flatMap (cI .i64)),.glo 3 (glob_internal_strconv_uint64pow10.flatMap (cI .u64))]) (y3.length+([32,97,110,100,32]:List UInt8).length≤9223372036854775807) (0≤(1:Int)∧(a0.f4.map rS_PrepressCond)[(1:Int).toNat]? = some (cS_PrepressCond (a0.f4.getD (1:Int).toNat z_PrepressCond))) (ACall Tryz.prog 47 [.agg (cS_PrepressCond (a0.f4.getD (1:Int).toNat z_PrepressCond)),dI (3:Int)] [.glo 0 ([gm0].flatMap (cI .i64)),.glo 3 (glob_internal_strconv_uint64pow10.flatMap (cI .u64))] (.d (.str y4)) [.glo 0 ([gm0].flatMap (cI .i64)),.glo 3 (glob_internal_strconv_uint64pow10.flatMap (cI .u64))]) ((y3++([32,97,110,100,32]:List UInt8)).length+y4.length≤9223372036854775807)) 1 (by kernel_rfl) (by kernel_rfl) (by kernel_rfl) (have p2:=idx_okR (d:=z_PrepressCond) rS_PrepressCond_eq hp16; have p4:=hrec_prepress_show hy3; have p5:=hp17; have p8:=idx_okR (d:=z_PrepressCond) rS_PrepressCond_eq hp18; have p10:=hrec_prepress_show hy4; have p11:=hp19; ⟨p2,p4,p5,p8,p10,p11,p4,p5,p8,p10,p11,p8,p4,p5,p10,p11,p4,p5,p10,p11,p4,p5,p8,p10,p11,p8,p4,p5,p10,p11,p4,p5,p10,p11,p8,p4,p5,p10,p11,p4,p5,p10,p11,p4,p5,p10,p11,p2,p4,p5,p8,p10,p11,p8,p4,p5,p10,p11,p4,p5,p10,p11,p8,p4,p5,p10,p11,p4,p5,p10,p11,p4,p5,p10,p11,p8,p2,p4,p5,p10,p11,p4,p5,p10,p11,p4,p5,p10,p11,p2,p4,p5,p10,p11,p2,p4,p5,p8,p10,p11,p8,p4,p5,p10,p11,p4,p5,p10,p11,p8,p4,p5,p10,p11,p4,p5,p10,p11,p4,p5,p10,p11,p8,p2,p4,p5,p10,p11,p4,p5,p10,p11,p4,p5,p10,p11,p2,p4,p5,p10,p11,p8,p2,p4,p5,p10,p11,p4,p5,p10,p11,p4,p5,p10,p11,p2,p4,p5,p10,p11,p2,p4,p5,p10,p11⟩) fun a w hm=>inBlock_norm (then_norm (hm.co (cs:=[.keep [1,2,5,1000000,1000001]]) (by show _=_; kernel_rfl)))
        · have h:=cond_ff hc h
          obtain ⟨hp20,h⟩:=chk_ok h
          obtain ⟨y5,hy5,h⟩:=call_ok h
          obtain ⟨hp21,h⟩:=chk_ok h
          obtain ⟨hp22,h⟩:=chk_ok h
          obtain ⟨y6,hy6,h⟩:=call_ok h
          obtain ⟨hp23,h⟩:=chk_ok h
          obtain hs:=Option.some.inj h; subst hs
          refine T_drawX_end mixed 35 (.take 0 (.take 6 (.all (.alt 1 (.all (.alt 2 (.all (.alt 3 (.all (.alt 4 (.take 5 (.all (.alt 7 (.all (.alt 8 (.all (.alt 9 (.all (.alt 10 (.take 11 (.take 12 .done)) .stop)) .stop)) .stop)) .stop))) (.alt 7 (.all (.alt 4 (.take 5 (.all (.alt 8 (.all (.alt 9 (.all (.alt 10 (.take 11 (.take 12 .done)) .stop)) .stop)) .stop))) (.alt 8 (.all (.alt 4 (.take 5 (.all (.alt 9 (.all (.alt 10 (.take 11 (.take 12 .done)) .stop)) .stop))) (.alt 9 (.all (.alt 4 (.take 5 (.all (.alt 10 (.take 11 (.take 12 .done)) .stop))) .stop)) .stop))) .stop))) .stop))) (.alt 7 (.all (.alt 3 (.all (.alt 4 (.take 5 (.all (.alt 8 (.all (.alt 9 (.all (.alt 10 (.take 11 (.take 12 .done)) .stop)) .stop)) .stop))) (.alt 8 (.all (.alt 4 (.take 5 (.all (.alt 9 (.all (.alt 10 (.take 11 (.take 12 .done)) .stop)) .stop))) (.alt 9 (.all (.alt 4 (.take 5 (.all (.alt 10 (.take 11 (.take 12 .done)) .stop))) .stop)) .stop))) .stop))) (.alt 8 (.all (.alt 3 (.all (.alt 4 (.take 5 (.all (.alt 9 (.all (.alt 10 (.take 11 (.take 12 .done)) .stop)) .stop))) (.alt 9 (.all (.alt 4 (.take 5 (.all (.alt 10 (.take 11 (.take 12 .done)) .stop))) .stop)) .stop))) (.alt 9 (.all (.alt 3 (.all (.alt 4 (.take 5 (.all (.alt 10 (.take 11 (.take 12 .done)) .stop))) .stop)) .stop)) .stop))) .stop))) .stop))) (.alt 7 (.all (.alt 2 (.all (.alt 3 (.all (.alt 4 (.take 5 (.all (.alt 8 (.all (.alt 9 (.all (.alt 10 (.take 11 (.take 12 .done)) .stop)) .stop)) .stop))) (.alt 8 (.all (.alt 4 (.take 5 (.all (.alt 9 (.all (.alt 10 (.take 11 (.take 12 .done)) .stop)) .stop))) (.alt 9 (.all (.alt 4 (.take 5 (.all (.alt 10 (.take 11 (.take 12 .done)) .stop))) .stop)) .stop))) .stop))) (.alt 8 (.all (.alt 3 (.all (.alt 4 (.take 5 (.all (.alt 9 (.all (.alt 10 (.take 11 (.take 12 .done)) .stop)) .stop))) (.alt 9 (.all (.alt 4 (.take 5 (.all (.alt 10 (.take 11 (.take 12 .done)) .stop))) .stop)) .stop))) (.alt 9 (.all (.alt 3 (.all (.alt 4 (.take 5 (.all (.alt 10 (.take 11 (.take 12 .done)) .stop))) .stop)) .stop)) .stop))) .stop))) (.alt 8 (.all (.alt 2 (.all (.alt 3 (.all (.alt 4 (.take 5 (.all (.alt 9 (.all (.alt 10 (.take 11 (.take 12 .done)) .stop)) .stop))) (.alt 9 (.all (.alt 4 (.take 5 (.all (.alt 10 (.take 11 (.take 12 .done)) .stop))) .stop)) .stop))) (.alt 9 (.all (.alt 3 (.all (.alt 4 (.take 5 (.all (.alt 10 (.take 11 (.take 12 .done)) .stop))) .stop)) .stop)) .stop))) (.alt 9 (.all (.alt 2 (.all (.alt 3 (.all (.alt 4 (.take 5 (.all (.alt 10 (.take 11 (.take 12 .done)) .stop))) .stop)) .stop)) .stop)) .stop))) .stop))) .stop))) (.alt 7 (.all (.alt 1 (.all (.alt 2 (.all (.alt 3 (.all (.alt 4 (.take 5 (.all (.alt 8 (.all (.alt 9 (.all (.alt 10 (.take 11 (.take 12 .done)) .stop)) .stop)) .stop))) (.alt 8 (.all (.alt 4 (.take 5 (.all (.alt 9 (.all (.alt 10 (.take 11 (.take 12 .done)) .stop)) .stop))) (.alt 9 (.all (.alt 4 (.take 5 (.all (.alt 10 (.take 11 (.take 12 .done)) .stop))) .stop)) .stop))) .stop))) (.alt 8 (.all (.alt 3 (.all (.alt 4 (.take 5 (.all (.alt 9 (.all (.alt 10 (.take 11 (.take 12 .done)) .stop)) .stop))) (.alt 9 (.all (.alt 4 (.take 5 (.all (.alt 10 (.take 11 (.take 12 .done)) .stop))) .stop)) .stop))) (.alt 9 (.all (.alt 3 (.all (.alt 4 (.take 5 (.all (.alt 10 (.take 11 (.take 12 .done)) .stop))) .stop)) .stop)) .stop))) .stop))) (.alt 8 (.all (.alt 2 (.all (.alt 3 (.all (.alt 4 (.take 5 (.all (.alt 9 (.all (.alt 10 (.take 11 (.take 12 .done)) .stop)) .stop))) (.alt 9 (.all (.alt 4 (.take 5 (.all (.alt 10 (.take 11 (.take 12 .done)) .stop))) .stop)) .stop))) (.alt 9 (.all (.alt 3 (.all (.alt 4 (.take 5 (.all (.alt 10 (.take 11 (.take 12 .done)) .stop))) .stop)) .stop)) .stop))) (.alt 9 (.all (.alt 2 (.all (.alt 3 (.all (.alt 4 (.take 5 (.all (.alt 10 (.take 11 (.take 12 .done)) .stop))) .stop)) .stop)) .stop)) .stop))) .stop))) (.alt 8 (.all (.alt 1 (.all (.alt 2 (.all (.alt 3 (.all (.alt 4 (.take 5 (.all (.alt 9 (.all (.alt 10 (.take 11 (.take 12 .done)) .stop)) .stop))) (.alt 9 (.all (.alt 4 (.take 5 (.all (.alt 10 (.take 11 (.take 12 .done)) .stop))) .stop)) .stop))) (.alt 9 (.all (.alt 3 (.all (.alt 4 (.take 5 (.all (.alt 10 (.take 11 (.take 12 .done)) .stop))) .stop)) .stop)) .stop))) (.alt 9 (.all (.alt 2 (.all (.alt 3 (.all (.alt 4 (.take 5 (.all (.alt 10 (.take 11 (.take 12 .done)) .stop))) .stop)) .stop)) .stop)) .stop))) (.alt 9 (.all (.alt 1 (.all (.alt 2 (.all (.alt 3 (.all (.alt 4 (.take 5 (.all (.alt 10 (.take 11 (.take 12 .done)) .stop))) .stop)) .stop)) .stop)) .stop)) .stop))) .stop))) .stop))))) ([0,1,2,4,8,16,0,64,128,256,528,1056,4095],[0,1,2,4,8,16,0,64,128,256,512,1056,2048]) 6241 [(2,{ cs:=cS_PrepressCond (a0.f4.getD (0:Int).toNat z_PrepressCond) }),(4,{ res:=.d (.str y5),vout:=[.glo 0 ([gm0].flatMap (cI .i64)),.glo 3 (glob_internal_strconv_uint64pow10.flatMap (cI .u64))],xs:=[1000000,1000001] }),(8,{ cs:=cS_PrepressCond (a0.f4.getD (1:Int).toNat z_PrepressCond) }),(10,{ res:=.d (.str y6),vout:=[.glo 0 ([gm0].flatMap (cI .i64)),.glo 3 (glob_internal_strconv_uint64pow10.flatMap (cI .u64))],xs:=[1000000,1000001] })] [1,2,5,1000000,1000001] [] [(1,dI a1),(2,bx_PrepressCond a0),(5,.d (.str ((y5++([32,111,114,32]:List UInt8))++y6))),(1000000,.glo 0 ([gm0].flatMap (cI .i64))),(1000001,.glo 3 (glob_internal_strconv_uint64pow10.flatMap (cI .u64)))] ((fun (o2:Prop)=>fun (o4:Prop)=>fun (o5:Prop)=>fun (o8:Prop)=>fun (o10:Prop)=>fun (o11:Prop)=>[(3,o2),(1,o4),(0,o5),(1,o8),(1,o10),(0,o11),(2,o4),(0,o5),(0,o8),(1,o10),(0,o11),(1,o8),(0,o4),(0,o5),(1,o10),(0,o11),(2,o4),(0,o5),(0,o10),(0,o11),(3,o4),(0,o5),(0,o8),(1,o10),(0,o11),(1,o8),(0,o4),(0,o5),(1,o10),(0,o11),(2,o4),(0,o5),(0,o10),(0,o11),(1,o8),(1,o4),(0,o5),(1,o10),(0,o11),(2,o4),(0,o5),(0,o10),(0,o11),(3,o4),(0,o5),(0,o10),(0,o11),(2,o2),(1,o4),(0,o5),(0,o8),(1,o10),(0,o11),(1,o8),(0,o4),(0,o5),(1,o10),(0,o11),(2,o4),(0,o5),(0,o10),(0,o11),(1,o8),(1,o4),(0,o5),(1,o10),(0,o11),(2,o4),(0,o5),(0,o10),(0,o11),(3,o4),(0,o5),(0,o10),(0,o11),(1,o8),(0,o2),(1,o4),(0,o5),(1,o10),(0,o11),(2,o4),(0,o5),(0,o10),(0,o11),(3,o4),(0,o5),(0,o10),(0,o11),(2,o2),(1,o4),(0,o5),(0,o10),(0,o11),(3,o2),(1,o4),(0,o5),(0,o8),(1,o10),(0,o11),(1,o8),(0,o4),(0,o5),(1,o10),(0,o11),(2,o4),(0,o5),(0,o10),(0,o11),(1,o8),(1,o4),(0,o5),(1,o10),(0,o11),(2,o4),(0,o5),(0,o10),(0,o11),(3,o4),(0,o5),(0,o10),(0,o11),(1,o8),(0,o2),(1,o4),(0,o5),(1,o10),(0,o11),(2,o4),(0,o5),(0,o10),(0,o11),(3,o4),(0,o5),(0,o10),(0,o11),(2,o2),(1,o4),(0,o5),(0,o10),(0,o11),(1,o8),(1,o2),(1,o4),(0,o5),(1,o10),(0,o11),(2,o4),(0,o5),(0,o10),(0,o11),(3,o4),(0,o5),(0,o10),(0,o11),(2,o2),(1,o4),(0,o5),(0,o10),(0,o11),(3,o2),(1,o4),(0,o5),(0,o10),(0,o11)]) (0≤(0:Int)∧(a0.f4.map rS_PrepressCond)[(0:Int).toNat]? = some (cS_PrepressCond (a0.f4.getD (0:Int).toNat z_PrepressCond))) (ACall Tryz.prog 47 [.agg (cS_PrepressCond (a0.f4.getD (0:Int).toNat z_PrepressCond)),dI (1:Int)] [.glo 0 ([gm0].flatMap (cI .i64)),.glo 3 (glob_internal_strconv_uint64pow10.flatMap (cI .u64))] (.d (.str y5)) [.glo 0 ([gm0].flatMap (cI .i64)),.glo 3 (glob_internal_strconv_uint64pow10.flatMap (cI .u64))]) (y5.length+([32,111,114,32]:List UInt8).length≤9223372036854775807) (0≤(1:Int)∧(a0.f4.map rS_PrepressCond)[(1:Int).toNat]? = some (cS_PrepressCond (a0.f4.getD (1:Int).toNat z_PrepressCond))) (ACall Tryz.prog 47 [.agg (cS_PrepressCond (a0.f4.getD (1:Int).toNat z_PrepressCond)),dI (2:Int)] [.glo 0 ([gm0].flatMap (cI .i64)),.glo 3 (glob_internal_strconv_uint64pow10.flatMap (cI .u64))] (.d (.str y6)) [.glo 0 ([gm0].flatMap (cI .i64)),.glo 3 (glob_internal_strconv_uint64pow10.flatMap (cI .u64))]) ((y5++([32,111,114,32]:List UInt8)).length+y6.length≤9223372036854775807)) 1 (by kernel_rfl) (by kernel_rfl) (by kernel_rfl) (have p2:=idx_okR (d:=z_PrepressCond) rS_PrepressCond_eq hp20; have p4:=hrec_prepress_show hy5; have p5:=hp21; have p8:=idx_okR (d:=z_PrepressCond) rS_PrepressCond_eq hp22; have p10:=hrec_prepress_show hy6; have p11:=hp23; ⟨p2,p4,p5,p8,p10,p11,p4,p5,p8,p10,p11,p8,p4,p5,p10,p11,p4,p5,p10,p11,p4,p5,p8,p10,p11,p8,p4,p5,p10,p11,p4,p5,p10,p11,p8,p4,p5,p10,p11,p4,p5,p10,p11,p4,p5,p10,p11,p2,p4,p5,p8,p10,p11,p8,p4,p5,p10,p11,p4,p5,p10,p11,p8,p4,p5,p10,p11,p4,p5,p10,p11,p4,p5,p10,p11,p8,p2,p4,p5,p10,p11,p4,p5,p10,p11,p4,p5,p10,p11,p2,p4,p5,p10,p11,p2,p4,p5,p8,p10,p11,p8,p4,p5,p10,p11,p4,p5,p10,p11,p8,p4,p5,p10,p11,p4,p5,p10,p11,p4,p5,p10,p11,p8,p2,p4,p5,p10,p11,p4,p5,p10,p11,p4,p5,p10,p11,p2,p4,p5,p10,p11,p8,p2,p4,p5,p10,p11,p4,p5,p10,p11,p4,p5,p10,p11,p2,p4,p5,p10,p11,p2,p4,p5,p10,p11⟩) fun a w hm=>inBlock_norm (then_norm (hm.co (cs:=[.keep [1,2,5,1000000,1000001]]) (by show _=_; kernel_rfl)))
  · skip
    refine T_seqk ?_
    obtain ⟨y7,hy7,h⟩:=call_ok h
    refine T_reg [(2,{ res:=dI y7 })] [5,100,1000000,1000001] [(100,dB (decide (y7 < a1)))] [(2,ACall Tryz.prog 78 [dI a0.f0] [] (dI y7) [])] 2 (by kernel_rfl) (prepress_level_ok hy7) ?_
    refine T_cond (decide (y7 < a1)) (by kernel_rfl) (fun hc=>?_) (fun hc=>?_)
    · have h:=cond_tt hc h
      obtain ⟨hp24,h⟩:=chk_ok h
      obtain ⟨hp25,h⟩:=chk_ok h
      refine T_reg [] [4,1000000,1000001] [(4,.d (.str ((([40]:List UInt8)++v8)++([41]:List UInt8))))] [(1,([40]:List UInt8).length+v8.length≤9223372036854775807),(0,(([40]:List UInt8)++v8).length+([41]:List UInt8).length≤9223372036854775807)] 1 (by kernel_rfl) (⟨hp24,hp25⟩) ?_
      obtain hs:=Option.some.inj h; subst hs
      refine T_ret fun a w hm=>then_ret (T_return (fr':=[(4,.d (.str ((([40]:List UInt8)++v8)++([41]:List UInt8)))),(1000000,.glo 0 ([gm0].flatMap (cI .i64))),(1000001,.glo 3 (glob_internal_strconv_uint64pow10.flatMap (cI .u64)))]) [4] (by kernel_rfl) [.keep [4,1000000,1000001]] (by kernel_rfl) (by kernel_rfl) (by kernel_rfl) (by show _=_; kernel_rfl) (by exact ⟨⟨by kernel_rfl,by kernel_rfl⟩,⟨⟨by kernel_rfl,by kernel_rfl⟩,trivial⟩⟩) a w hm)
    · have h:=cond_ff hc h
      refine T_skip fun a w hm=>then_norm (((?_:T Tryz.prog e 105 _ _ _) a w hm))
      refine T_reg [] [4,1000000,1000001] [(4,.d (.str v8))] [] 2 (by kernel_rfl) (trivial) ?_
      obtain hs:=Option.some.inj h; subst hs
      refine T_ret fun a w hm=>T_return (fr':=[(4,.d (.str v8)),(1000000,.glo 0 ([gm0].flatMap (cI .i64))),(1000001,.glo 3 (glob_internal_strconv_uint64pow10.flatMap (cI .u64)))]) [4] (by kernel_rfl) [.keep [4,1000000,1000001]] (by kernel_rfl) (by kernel_rfl) (by kernel_rfl) (by show _=_; kernel_rfl) (by exact ⟨⟨by kernel_rfl,by kernel_rfl⟩,⟨⟨by kernel_rfl,by kernel_rfl⟩,trivial⟩⟩) a w hm
theorem prepress_show_fuel_ok {F:Nat} (n:Nat):∀ {a0:S_PrepressCond} {a1:Int} {r:(List UInt8)},prepress_show_fuel F n a0 a1=some r→ACall Tryz.prog 47 [.agg (cS_PrepressCond a0),.d (.v (.int .i64 a1))] [.glo 0 ([gm0].flatMap (cI .i64)),.glo 3 (glob_internal_strconv_uint64pow10.flatMap (cI .u64))] (.d (.str r)) [.glo 0 ([gm0].flatMap (cI .i64)),.glo 3 (glob_internal_strconv_uint64pow10.flatMap (cI .u64))]:=by
  induction n with
  | zero=>intro a0 a1 r h; exact absurd (show (none:Option ((List UInt8)))=some r from h) (by simp)
  | succ n ih=>intro a0 a1 r h; exact prepress_show_body_ok ih h
theorem prepress_show_ok {F:Nat} {a0:S_PrepressCond} {a1:Int} {r:(List UInt8)} (h:prepress_show F a0 a1=some r):ACall Tryz.prog 47 [.agg (cS_PrepressCond a0),.d (.v (.int .i64 a1))] [.glo 0 ([gm0].flatMap (cI .i64)),.glo 3 (glob_internal_strconv_uint64pow10.flatMap (cI .u64))] (.d (.str r)) [.glo 0 ([gm0].flatMap (cI .i64)),.glo 3 (glob_internal_strconv_uint64pow10.flatMap (cI .u64))]:=prepress_show_fuel_ok F h
theorem strings_Builder_WriteString_ok {F:Nat} {a0:List UInt8} {c1:List UInt8} {r:Int×Unit×(List UInt8)} (h:strings_Builder_WriteString F a0 c1=some r):ACall Tryz.prog 46 [.bp 1000000 0,.d (.str a0)] [.box [.slf 0 90,.own 5 1 (c1.map cU)]] (.tup [.d (.v (.int .i64 r.1)),.d (.v .nilIface)]) [.box [.slf 0 90,.own 5 1 (r.2.2.map cU)]]:=by
  rw [strings_Builder_WriteString] at h
  refine ACall.intro (N:=19) Tryz.func46 rfl rfl rfl rfl rfl fun e=>?_
  refine T_reg [] [0,1,1000000] [] [] 2 (by kernel_rfl) (trivial) ?_
  refine T_reg [(1,{ xs:=[1000000],res:=.tup [],vout:=[.box [.slf 0 90,oW3 c1]] })] [0,1,1000000] [] [(1,ACall Tryz.prog 74 [.bp 1000000 0] [.box [.slf 0 90,oW3 c1]] (.tup []) [.box [.slf 0 90,oW3 c1]])] 0 (by kernel_rfl) (b_copyCheck (E:=90) (by kernel_rfl) (by kernel_rfl) (by kernel_rfl)) ?_
  obtain ⟨hp1,h⟩:=chk_ok h
  refine T_reg [(6,{ es:=some ((c1++a0).map cU) })] [1,1000000] [(1000000,.box [.slf 0 90,.own 5 1 ((c1++a0).map cU)])] [(6,(c1.map cU).length+(a0.map cU).length≤4294967296∧(c1.map cU)++(a0.map cU)=((c1++a0).map cU))] 3 (by kernel_rfl) (app_ok cU hp1) ?_
  refine T_reg [] [4,5,1000000] [(4,dI (a0.length:Int)),(5,.d (.v .nilIface))] [] 4 (by kernel_rfl) (trivial) ?_
  obtain hs:=Option.some.inj h; subst hs
  refine T_ret fun a w hm=>T_return (fr':=[(4,dI (a0.length:Int)),(5,.d (.v .nilIface)),(1000000,.box [.slf 0 90,.own 5 1 ((c1++a0).map cU)])]) [4,5] (by kernel_rfl) [.keep [4,5,1000000]] (by kernel_rfl) (by kernel_rfl) (by kernel_rfl) (by show _=_; kernel_rfl) (by exact ⟨⟨by kernel_rfl,by kernel_rfl⟩,trivial⟩) a w hm
theorem prepress_printed_ok {F:Nat} {a0:List S_PrepressRule} {r:(List UInt8)} (h:prepress_printed F a0=some r):ACall Tryz.prog 24 [.d (.sl 6 (a0.map cS_PrepressRule))] [.glo 0 ([gm0].flatMap (cI .i64)),.glo 3 (glob_internal_strconv_uint64pow10.flatMap (cI .u64))] (.d (.str r)) [.glo 0 ([gm0].flatMap (cI .i64)),.glo 3 (glob_internal_strconv_uint64pow10.flatMap (cI .u64))]:=by
  rw [prepress_printed] at h
  refine ACall.intro (N:=24) Tryz.func24 rfl rfl rfl rfl rfl fun e=>?_
  refine T_reg [] [0,1000000,1000001] [] [] 1 (by kernel_rfl) (trivial) ?_
  refine T_reg [(0,{ slfs:=[(0,0)] })] [0,3,1000000,1000001] [(3,.box [.slf 0 90,oW3 []])] [] 1 (by kernel_rfl) (trivial) ?_
  refine T_seqk ?_
  refine T_reg [(1,{ rw:=some (dI (a0.length:Int)) })] [3,6,7,8,1000000,1000001] [(6,.d (.sl 6 (a0.map cS_PrepressRule))),(7,dI (a0.length:Int)),(8,dI (0:Int))] [(1,True∧dI ((a0.map cS_PrepressRule).length:Int)=dI (a0.length:Int))] 1 (by kernel_rfl) (len_ok cS_PrepressRule) ?_
  refine T_joinct h (fun (p:(List UInt8))=>[(3,.box [.slf 0 90,oW3 p]),(1000000,.glo 0 ([gm0].flatMap (cI .i64))),(1000001,.glo 3 (glob_internal_strconv_uint64pow10.flatMap (cI .u64)))]) (fun s h=>?_) (fun v3 h=>?_)
  · refine T_co [.keep [3,6,7,8,1000000,1000001]] ((fun (p:(List UInt8)×Int)=>[(3,.box [.slf 0 90,oW3 p.1]),(6,.d (.sl 6 (a0.map cS_PrepressRule))),(7,dI (a0.length:Int)),(8,dI p.2),(1000000,.glo 0 ([gm0].flatMap (cI .i64))),(1000001,.glo 3 (glob_internal_strconv_uint64pow10.flatMap (cI .u64)))]) ([],(0:Int))) (by show _=_; kernel_rfl) ?_
    refine T_block ?_
    refine T_loopF (ι:=(List UInt8)×Int) (fun (p:(List UInt8)×Int)=>[(3,.box [.slf 0 90,oW3 p.1]),(6,.d (.sl 6 (a0.map cS_PrepressRule))),(7,dI (a0.length:Int)),(8,dI p.2),(1000000,.glo 0 ([gm0].flatMap (cI .i64))),(1000001,.glo 3 (glob_internal_strconv_uint64pow10.flatMap (cI .u64)))]) (fun n p=>prepress_printed_L0 F a0 n p.1 p.2=some s) (fun i hh=>by simp [prepress_printed_L0] at hh) (fun n p h=>?_) F ([],(0:Int)) h
    obtain ⟨v1,v2⟩:=p
    have h:prepress_printed_L0 F a0 (n+1) v1 v2=some s:=h
    rw [prepress_printed_L0] at h
    refine T_reg [] [3,6,7,8,9,1000000,1000001] [(9,dB (decide (v2 < (a0.length:Int))))] [] 1 (by kernel_rfl) (trivial) ?_
    refine T_seqk ?_
    refine T_cond (decide (v2 < (a0.length:Int))) (by kernel_rfl) (fun hc=>?_) (fun hc=>?_)
    · have h:=cond_tt hc h
      refine T_skip fun a w hm=>then_norm (((?_:T Tryz.prog e 24 _ _ _) a w hm))
      refine T_seqk ?_
      refine T_block ?_
      obtain ⟨hp1,h⟩:=chk_ok h
      refine T_reg [(0,{ cs:=cS_PrepressRule (a0.getD v2.toNat z_PrepressRule) })] [3,5,6,7,8,1000000,1000001] [(5,.box [.d (.str ((a0.getD v2.toNat z_PrepressRule).f0)),dI (((a0.getD v2.toNat z_PrepressRule).f1).f0),.d (.sl 2 ((((a0.getD v2.toNat z_PrepressRule).f1).f1).map cS_PrepressTerm)),dI (((a0.getD v2.toNat z_PrepressRule).f1).f2),dI (((a0.getD v2.toNat z_PrepressRule).f1).f3),.d (.sl 5 ((((a0.getD v2.toNat z_PrepressRule).f1).f4).map rS_PrepressCond))])] [(0,0≤v2∧(a0.map cS_PrepressRule)[v2.toNat]? = some (cS_PrepressRule (a0.getD v2.toNat z_PrepressRule)))] 3 (by kernel_rfl) (idx_ok (d:=z_PrepressRule) cS_PrepressRule hp1) ?_
      obtain ⟨hp2,h⟩:=chk_ok h
      obtain ⟨z1,hz1,h⟩:=lett_ok h
      obtain ⟨hp3,h⟩:=chk_ok h
      obtain ⟨y1,hy1,h⟩:=call_ok h
      obtain ⟨hp4,h⟩:=chk_ok h
      obtain ⟨hp5,h⟩:=chk_ok h
      obtain ⟨y2,hy2,h⟩:=call_ok h
      refine T_drawX_end mixed 3 (.take 0 (.take 4 (.all (.alt 1 (.take 2 (.take 3 (.all (.alt 5 (.all (.alt 6 (.take 7 (.take 8 (.all (.alt 9 .done .stop)))) .stop)) .stop)))) (.alt 5 (.all (.alt 1 (.take 2 (.take 3 (.all (.alt 6 (.take 7 (.take 8 (.all (.alt 9 .done .stop)))) .stop)))) (.alt 6 (.all (.alt 1 (.take 2 (.take 3 (.take 7 (.take 8 (.all (.alt 9 .done .stop)))))) .stop)) .stop))) .stop))))) ([0,1,2,4,0,16,32,72,128,320],[0,1,2,4,0,16,32,72,128,256]) 413 [(2,{ rw:=some (.d (.str z1)) }),(6,{ res:=.d (.str y1),vout:=[.glo 0 ([gm0].flatMap (cI .i64)),.glo 3 (glob_internal_strconv_uint64pow10.flatMap (cI .u64))],xs:=[1000000,1000001] }),(9,{ res:=.tup [dI y2.1,.d (.v .nilIface)],vout:=[.box [.slf 0 90,oW3 y2.2.2]],xs:=[3] })] [3,6,7,8,1000000,1000001] [] [(3,.box [.slf 0 90,oW3 y2.2.2]),(6,.d (.sl 6 (a0.map cS_PrepressRule))),(7,dI (a0.length:Int)),(8,dI v2),(1000000,.glo 0 ([gm0].flatMap (cI .i64))),(1000001,.glo 3 (glob_internal_strconv_uint64pow10.flatMap (cI .u64)))] ((fun (o2:Prop)=>fun (o3:Prop)=>fun (o6:Prop)=>fun (o7:Prop)=>fun (o8:Prop)=>fun (o9:Prop)=>[(3,o2),(0,o3),(1,o6),(0,o7),(0,o8),(0,o9),(2,o2),(0,o3),(0,o6),(0,o7),(0,o8),(0,o9),(0,o6),(1,o2),(0,o3),(0,o7),(0,o8),(0,o9)]) ((([114,117,108,101,32]:List UInt8).length+((a0.getD v2.toNat z_PrepressRule).f0).length≤9223372036854775807)∧AV.d (.str (([114,117,108,101,32]:List UInt8)++((a0.getD v2.toNat z_PrepressRule).f0)))=.d (.str z1)) (z1.length+([58,32]:List UInt8).length≤9223372036854775807) (ACall Tryz.prog 47 [.agg (cS_PrepressCond ((a0.getD v2.toNat z_PrepressRule).f1)),dI (0:Int)] [.glo 0 ([gm0].flatMap (cI .i64)),.glo 3 (glob_internal_strconv_uint64pow10.flatMap (cI .u64))] (.d (.str y1)) [.glo 0 ([gm0].flatMap (cI .i64)),.glo 3 (glob_internal_strconv_uint64pow10.flatMap (cI .u64))]) ((z1++([58,32]:List UInt8)).length+y1.length≤9223372036854775807) (((z1++([58,32]:List UInt8))++y1).length+([59,10]:List UInt8).length≤9223372036854775807) (ACall Tryz.prog 46 [.bp 1000000 0,.d (.str (((z1++([58,32]:List UInt8))++y1)++([59,10]:List UInt8)))] [.box [.slf 0 90,oW3 v1]] (.tup [dI y2.1,.d (.v .nilIface)]) [.box [.slf 0 90,oW3 y2.2.2]])) 0 (by kernel_rfl) (by kernel_rfl) (by kernel_rfl) (have p2:=⟨hp2,(by subst hz1; rfl)⟩; have p3:=hp3; have p6:=prepress_show_ok hy1; have p7:=hp4; have p8:=hp5; have p9:=strings_Builder_WriteString_ok hy2; ⟨p2,p3,p6,p7,p8,p9,p2,p3,p6,p7,p8,p9,p6,p2,p3,p7,p8,p9⟩) fun a w hm=>inBlock_norm (then_norm (((?_:T Tryz.prog e 24 _ _ _) a w hm)))
      refine T_reg_end [] [3,6,7,8,1000000,1000001] [(8,dI (IntKind.i64.wrap (v2+(1:Int))))] [] 2 (by kernel_rfl) (trivial) fun a w hm=>then_norm (⟨(y2.2.2,IntKind.i64.wrap (v2+(1:Int))),h,hm.co (cs:=[.keep [3,6,7,8,1000000,1000001]]) (by show _=_; kernel_rfl)⟩)
    · have h:=cond_ff hc h
      obtain hs:=Option.some.inj h; subst hs
      refine T_exit fun a w hm=>then_exit (then_exit (inBlock_exit (then_norm (hm.co (cs:=[.keep [3,1000000,1000001]]) (by show _=_; kernel_rfl)))))
  · skip
    refine fun a w hm=>then_norm (((?_:T Tryz.prog e 24 _ _ _) a w hm))
    obtain ⟨hp6,h⟩:=chk_ok h
    refine T_reg [(0,{ xs:=[3],vout:=[.box [.slf 0 90,.junk]],res:=.d (.str v3) })] [2,1000000,1000001] [(2,.d (.str v3))] [(0,ACall Tryz.prog 48 [.bp 1000000 0] [.box [.slf 0 90,oW3 v3]] (.d (.str v3)) [.box [.slf 0 90,.junk]])] 1 (by kernel_rfl) (b_String (l:=v3) hp6 (by kernel_rfl) (by kernel_rfl)) ?_
    obtain hs:=Option.some.inj h; subst hs
    refine T_ret fun a w hm=>T_return (fr':=[(2,.d (.str v3)),(1000000,.glo 0 ([gm0].flatMap (cI .i64))),(1000001,.glo 3 (glob_internal_strconv_uint64pow10.flatMap (cI .u64)))]) [2] (by kernel_rfl) [.keep [2,1000000,1000001]] (by kernel_rfl) (by kernel_rfl) (by kernel_rfl) (by show _=_; kernel_rfl) (by exact ⟨⟨by kernel_rfl,by kernel_rfl⟩,⟨⟨by kernel_rfl,by kernel_rfl⟩,trivial⟩⟩) a w hm
theorem prepress_Check_ok {F:Nat} {a0:List S_PrepressRule} {r:Int} (h:prepress_Check F a0=some r):ACall Tryz.prog 9 [.d (.sl 6 (a0.map cS_PrepressRule))] [.glo 0 ([gm0].flatMap (cI .i64)),.glo 3 (glob_internal_strconv_uint64pow10.flatMap (cI .u64))] (.d (.v (.int .i64 r))) [.glo 0 ([gm0].flatMap (cI .i64)),.glo 3 (glob_internal_strconv_uint64pow10.flatMap (cI .u64))]:=by
  rw [prepress_Check] at h
  refine ACall.intro (N:=38) Tryz.func9 rfl rfl rfl rfl rfl fun e=>?_
  refine T_reg [] [0,1000000,1000001] [] [] 1 (by kernel_rfl) (trivial) ?_
  refine T_seqk ?_
  refine T_reg [(1,{ rw:=some (dI (a0.length:Int)) })] [0,8,1000000,1000001] [(8,dB (decide ((a0.length:Int) > (32:Int))))] [(1,True∧dI ((a0.map cS_PrepressRule).length:Int)=dI (a0.length:Int))] 1 (by kernel_rfl) (len_ok cS_PrepressRule) ?_
  refine T_cond (decide ((a0.length:Int) > (32:Int))) (by kernel_rfl) (fun hc=>?_) (fun hc=>?_)
  · have h:=cond_tt hc h
    refine T_reg [] [2,1000000,1000001] [(2,dI (2:Int))] [] 1 (by kernel_rfl) (trivial) ?_
    obtain hs:=Option.some.inj h; subst hs
    refine T_ret fun a w hm=>then_ret (T_return (fr':=[(2,dI (2:Int)),(1000000,.glo 0 ([gm0].flatMap (cI .i64))),(1000001,.glo 3 (glob_internal_strconv_uint64pow10.flatMap (cI .u64)))]) [2] (by kernel_rfl) [.keep [2,1000000,1000001]] (by kernel_rfl) (by kernel_rfl) (by kernel_rfl) (by show _=_; kernel_rfl) (by exact ⟨⟨by kernel_rfl,by kernel_rfl⟩,⟨⟨by kernel_rfl,by kernel_rfl⟩,trivial⟩⟩) a w hm)
  · have h:=cond_ff hc h
    refine T_skip fun a w hm=>then_norm (((?_:T Tryz.prog e 38 _ _ _) a w hm))
    refine T_seqk ?_
    refine T_reg [(1,{ rw:=some (dI (a0.length:Int)) })] [0,9,10,11,1000000,1000001] [(9,.d (.sl 6 (a0.map cS_PrepressRule))),(10,dI (a0.length:Int)),(11,dI (0:Int))] [(1,True∧dI ((a0.map cS_PrepressRule).length:Int)=dI (a0.length:Int))] 1 (by kernel_rfl) (len_ok cS_PrepressRule) ?_
    refine T_joinEt h (fun (p:Unit)=>[(0,.d (.sl 6 (a0.map cS_PrepressRule))),(1000000,.glo 0 ([gm0].flatMap (cI .i64))),(1000001,.glo 3 (glob_internal_strconv_uint64pow10.flatMap (cI .u64)))]) (fun s h hk1=>?_) (fun s h=>?_)
    · refine T_co [.keep [0,9,10,11,1000000,1000001]] ((fun (p:Int)=>[(0,.d (.sl 6 (a0.map cS_PrepressRule))),(9,.d (.sl 6 (a0.map cS_PrepressRule))),(10,dI (a0.length:Int)),(11,dI p),(1000000,.glo 0 ([gm0].flatMap (cI .i64))),(1000001,.glo 3 (glob_internal_strconv_uint64pow10.flatMap (cI .u64)))]) (0:Int)) (by show _=_; kernel_rfl) ?_
      refine T_block ?_
      refine T_loopF (ι:=Int) (fun (p:Int)=>[(0,.d (.sl 6 (a0.map cS_PrepressRule))),(9,.d (.sl 6 (a0.map cS_PrepressRule))),(10,dI (a0.length:Int)),(11,dI p),(1000000,.glo 0 ([gm0].flatMap (cI .i64))),(1000001,.glo 3 (glob_internal_strconv_uint64pow10.flatMap (cI .u64)))]) (fun n p=>prepress_Check_L0 F a0 n p=some s) (fun i hh=>by simp [prepress_Check_L0] at hh) (fun n v1 h=>?_) F (0:Int) h
      have h:prepress_Check_L0 F a0 (n+1) v1=some s:=h
      rw [prepress_Check_L0] at h
      refine T_reg [] [0,9,10,11,12,1000000,1000001] [(12,dB (decide (v1 < (a0.length:Int))))] [] 1 (by kernel_rfl) (trivial) ?_
      refine T_seqk ?_
      refine T_cond (decide (v1 < (a0.length:Int))) (by kernel_rfl) (fun hc=>?_) (fun hc=>?_)
      · have h:=cond_tt hc h
        refine T_skip fun a w hm=>then_norm (((?_:T Tryz.prog e 38 _ _ _) a w hm))
        refine T_seqk ?_
        refine T_block ?_
        obtain ⟨hp1,h⟩:=chk_ok h
        refine T_reg [(1,{ cs:=cS_PrepressRule (a0.getD v1.toNat z_PrepressRule) })] [0,3,4,9,10,11,1000000,1000001] [(3,dI v1),(4,.box [.d (.str ((a0.getD v1.toNat z_PrepressRule).f0)),dI (((a0.getD v1.toNat z_PrepressRule).f1).f0),.d (.sl 2 ((((a0.getD v1.toNat z_PrepressRule).f1).f1).map cS_PrepressTerm)),dI (((a0.getD v1.toNat z_PrepressRule).f1).f2),dI (((a0.getD v1.toNat z_PrepressRule).f1).f3),.d (.sl 5 ((((a0.getD v1.toNat z_PrepressRule).f1).f4).map rS_PrepressCond))])] [(1,0≤v1∧(a0.map cS_PrepressRule)[v1.toNat]? = some (cS_PrepressRule (a0.getD v1.toNat z_PrepressRule)))] 4 (by kernel_rfl) (idx_ok (d:=z_PrepressRule) cS_PrepressRule hp1) ?_
        refine T_seqk ?_
        obtain ⟨y1,hy1,h⟩:=call_ok h
        refine T_reg [(2,{ res:=dB y1 })] [0,3,4,9,10,11,19,1000000,1000001] [(19,dB (!y1))] [(2,ACall Tryz.prog 27 [.d (.str ((a0.getD v1.toNat z_PrepressRule).f0))] [] (dB y1) [])] 1 (by kernel_rfl) (prepress_plain_ok hy1) ?_
        refine T_cond (!y1) (by kernel_rfl) (fun hc=>?_) (fun hc=>?_)
        · have h:=cond_tt hc h
          refine T_reg [] [2,1000000,1000001] [(2,dI (6:Int))] [] 1 (by kernel_rfl) (trivial) ?_
          obtain hs:=Option.some.inj h; subst hs
          have h:=callE_esc hk1
          obtain hs:=Option.some.inj h; subst hs
          refine T_ret fun a w hm=>then_ret (inBlock_ret (then_ret (then_ret (inBlock_ret (then_ret (then_ret (T_return (fr':=[(2,dI (6:Int)),(1000000,.glo 0 ([gm0].flatMap (cI .i64))),(1000001,.glo 3 (glob_internal_strconv_uint64pow10.flatMap (cI .u64)))]) [2] (by kernel_rfl) [.keep [2,1000000,1000001]] (by kernel_rfl) (by kernel_rfl) (by kernel_rfl) (by show _=_; kernel_rfl) (by exact ⟨⟨by kernel_rfl,by kernel_rfl⟩,⟨⟨by kernel_rfl,by kernel_rfl⟩,trivial⟩⟩) a w hm)))))))
        · have h:=cond_ff hc h
          refine T_skip fun a w hm=>then_norm (((?_:T Tryz.prog e 38 _ _ _) a w hm))
          refine T_seqk ?_
          obtain ⟨hp2,h⟩:=chk_ok h
          obtain ⟨y2,hy2,h⟩:=call_ok h
          refine T_reg [(2,{ rw:=some (.d (.sl 6 (((a0.drop (0:Int).toNat).take (v1.toNat - (0:Int).toNat)).map cS_PrepressRule))) }),(4,{ res:=dB y2.1,vout:=[.box [.d (.str y2.2.1),dI y2.2.2.1,.d (.sl 2 (y2.2.2.2.1.map cS_PrepressTerm)),dI y2.2.2.2.2.1,dI y2.2.2.2.2.2.1,.d (.sl 5 (y2.2.2.2.2.2.2.map rS_PrepressCond))]],xs:=[4] })] [0,4,9,10,11,24,1000000,1000001] [(4,.box [.d (.str y2.2.1),dI y2.2.2.1,.d (.sl 2 (y2.2.2.2.1.map cS_PrepressTerm)),dI y2.2.2.2.2.1,dI y2.2.2.2.2.2.1,.d (.sl 5 (y2.2.2.2.2.2.2.map rS_PrepressCond))]),(24,dB y2.1)] [(2,(0≤(0:Int)∧(0:Int)≤v1∧v1≤((a0.map cS_PrepressRule).length:Int))∧AV.d (.sl 6 (((a0.map cS_PrepressRule).drop (0:Int).toNat).take (v1.toNat - (0:Int).toNat)))=.d (.sl 6 (((a0.drop (0:Int).toNat).take (v1.toNat - (0:Int).toNat)).map cS_PrepressRule))),(1,ACall Tryz.prog 28 [.d (.sl 6 (((a0.drop (0:Int).toNat).take (v1.toNat - (0:Int).toNat)).map cS_PrepressRule)),.clo 29 [.bp 1000000 0]] [.box [.d (.str ((a0.getD v1.toNat z_PrepressRule).f0)),dI (((a0.getD v1.toNat z_PrepressRule).f1).f0),.d (.sl 2 ((((a0.getD v1.toNat z_PrepressRule).f1).f1).map cS_PrepressTerm)),dI (((a0.getD v1.toNat z_PrepressRule).f1).f2),dI (((a0.getD v1.toNat z_PrepressRule).f1).f3),.d (.sl 5 ((((a0.getD v1.toNat z_PrepressRule).f1).f4).map rS_PrepressCond))]] (dB y2.1) [.box [.d (.str y2.2.1),dI y2.2.2.1,.d (.sl 2 (y2.2.2.2.1.map cS_PrepressTerm)),dI y2.2.2.2.2.1,dI y2.2.2.2.2.2.1,.d (.sl 5 (y2.2.2.2.2.2.2.map rS_PrepressCond))]])] 0 (by kernel_rfl) (⟨cutH cS_PrepressRule hp2,slices_ContainsFunc_PrepressRule_ok hy2⟩) ?_
          refine T_cond y2.1 (by kernel_rfl) (fun hc=>?_) (fun hc=>?_)
          · have h:=cond_tt hc h
            refine T_reg [] [2,1000000,1000001] [(2,dI (7:Int))] [] 1 (by kernel_rfl) (trivial) ?_
            obtain hs:=Option.some.inj h; subst hs
            have h:=callE_esc hk1
            obtain hs:=Option.some.inj h; subst hs
            refine T_ret fun a w hm=>then_ret (inBlock_ret (then_ret (then_ret (inBlock_ret (then_ret (then_ret (T_return (fr':=[(2,dI (7:Int)),(1000000,.glo 0 ([gm0].flatMap (cI .i64))),(1000001,.glo 3 (glob_internal_strconv_uint64pow10.flatMap (cI .u64)))]) [2] (by kernel_rfl) [.keep [2,1000000,1000001]] (by kernel_rfl) (by kernel_rfl) (by kernel_rfl) (by show _=_; kernel_rfl) (by exact ⟨⟨by kernel_rfl,by kernel_rfl⟩,⟨⟨by kernel_rfl,by kernel_rfl⟩,trivial⟩⟩) a w hm)))))))
          · have h:=cond_ff hc h
            refine T_skip fun a w hm=>then_norm (((?_:T Tryz.prog e 38 _ _ _) a w hm))
            obtain ⟨y3,hy3,h⟩:=call_ok h
            refine T_reg [(4,{ res:=dI y3.1,vout:=[.box [dI y3.2]],xs:=[26] })] [0,5,9,10,11,1000000,1000001] [(5,dI y3.1)] [(4,ACall Tryz.prog 30 [.bp 1000000 0,.agg (cS_PrepressCond (S_PrepressCond.mk y2.2.2.1 y2.2.2.2.1 y2.2.2.2.2.1 y2.2.2.2.2.2.1 y2.2.2.2.2.2.2)),dI (1:Int)] [.box [dI 0]] (dI y3.1) [.box [dI y3.2]])] 1 (by kernel_rfl) (prepress_checker_cond_ok hy3) ?_
            refine T_reg [] [0,5,9,10,11,31,1000000,1000001] [(31,dB (y3.1 != (0:Int)))] [] 2 (by kernel_rfl) (trivial) ?_
            refine T_cond (y3.1 != (0:Int)) (by kernel_rfl) (fun hc=>?_) (fun hc=>?_)
            · have h:=cond_tt hc h
              refine T_reg [] [2,1000000,1000001] [(2,dI y3.1)] [] 2 (by kernel_rfl) (trivial) ?_
              obtain hs:=Option.some.inj h; subst hs
              have h:=callE_esc hk1
              obtain hs:=Option.some.inj h; subst hs
              refine T_ret fun a w hm=>inBlock_ret (then_ret (then_ret (inBlock_ret (then_ret (then_ret (T_return (fr':=[(2,dI y3.1),(1000000,.glo 0 ([gm0].flatMap (cI .i64))),(1000001,.glo 3 (glob_internal_strconv_uint64pow10.flatMap (cI .u64)))]) [2] (by kernel_rfl) [.keep [2,1000000,1000001]] (by kernel_rfl) (by kernel_rfl) (by kernel_rfl) (by show _=_; kernel_rfl) (by exact ⟨⟨by kernel_rfl,by kernel_rfl⟩,⟨⟨by kernel_rfl,by kernel_rfl⟩,trivial⟩⟩) a w hm))))))
            · have h:=cond_ff hc h
              refine T_skip fun a w hm=>inBlock_norm (then_norm (((?_:T Tryz.prog e 38 _ _ _) a w hm)))
              refine T_reg_end [] [0,9,10,11,1000000,1000001] [(11,dI (IntKind.i64.wrap (v1+(1:Int))))] [] 2 (by kernel_rfl) (trivial) fun a w hm=>then_norm (⟨IntKind.i64.wrap (v1+(1:Int)),h,hm.co (cs:=[.keep [0,9,10,11,1000000,1000001]]) (by show _=_; kernel_rfl)⟩)
      · have h:=cond_ff hc h
        obtain hs:=Option.some.inj h; subst hs
        refine T_exit fun a w hm=>then_exit (then_exit (inBlock_exit (then_norm (⟨_,rfl,hm.co (cs:=[.keep [0,1000000,1000001]]) (by show _=_; kernel_rfl)⟩))))
    · skip
      refine fun a w hm=>then_norm (((?_:T Tryz.prog e 38 _ _ _) a w hm))
      refine T_seqk ?_
      obtain ⟨y4,hy4,h⟩:=call_ok h
      refine T_reg [(1,{ res:=.d (.str y4),vout:=[.glo 0 ([gm0].flatMap (cI .i64)),.glo 3 (glob_internal_strconv_uint64pow10.flatMap (cI .u64))],xs:=[1000000,1000001] })] [37,1000000,1000001] [(37,dB (decide ((y4.length:Int) > (4096:Int))))] [(1,ACall Tryz.prog 24 [.d (.sl 6 (a0.map cS_PrepressRule))] [.glo 0 ([gm0].flatMap (cI .i64)),.glo 3 (glob_internal_strconv_uint64pow10.flatMap (cI .u64))] (.d (.str y4)) [.glo 0 ([gm0].flatMap (cI .i64)),.glo 3 (glob_internal_strconv_uint64pow10.flatMap (cI .u64))])] 2 (by kernel_rfl) (prepress_printed_ok hy4) ?_
      refine T_cond (decide ((y4.length:Int) > (4096:Int))) (by kernel_rfl) (fun hc=>?_) (fun hc=>?_)
      · have h:=cond_tt hc h
        refine T_reg [] [2,1000000,1000001] [(2,dI (2:Int))] [] 1 (by kernel_rfl) (trivial) ?_
        obtain hs:=Option.some.inj h; subst hs
        refine T_ret fun a w hm=>then_ret (T_return (fr':=[(2,dI (2:Int)),(1000000,.glo 0 ([gm0].flatMap (cI .i64))),(1000001,.glo 3 (glob_internal_strconv_uint64pow10.flatMap (cI .u64)))]) [2] (by kernel_rfl) [.keep [2,1000000,1000001]] (by kernel_rfl) (by kernel_rfl) (by kernel_rfl) (by show _=_; kernel_rfl) (by exact ⟨⟨by kernel_rfl,by kernel_rfl⟩,⟨⟨by kernel_rfl,by kernel_rfl⟩,trivial⟩⟩) a w hm)
      · have h:=cond_ff hc h
        refine T_skip fun a w hm=>then_norm (((?_:T Tryz.prog e 38 _ _ _) a w hm))
        refine T_reg [] [2,1000000,1000001] [(2,dI (0:Int))] [] 1 (by kernel_rfl) (trivial) ?_
        obtain hs:=Option.some.inj h; subst hs
        refine T_ret fun a w hm=>T_return (fr':=[(2,dI (0:Int)),(1000000,.glo 0 ([gm0].flatMap (cI .i64))),(1000001,.glo 3 (glob_internal_strconv_uint64pow10.flatMap (cI .u64)))]) [2] (by kernel_rfl) [.keep [2,1000000,1000001]] (by kernel_rfl) (by kernel_rfl) (by kernel_rfl) (by show _=_; kernel_rfl) (by exact ⟨⟨by kernel_rfl,by kernel_rfl⟩,⟨⟨by kernel_rfl,by kernel_rfl⟩,trivial⟩⟩) a w hm
theorem prepress_CheckFacts_ok {F:Nat} {a0:List S_PrepressFact} {r:Int} (h:prepress_CheckFacts F a0=some r):ACall Tryz.prog 32 [.d (.sl 2 (a0.map cS_PrepressFact))] [] (.d (.v (.int .i64 r))) []:=by
  rw [prepress_CheckFacts] at h
  refine ACall.intro (N:=44) Tryz.func32 rfl rfl rfl rfl rfl fun e=>?_
  refine T_reg [] [0] [] [] 1 (by kernel_rfl) (trivial) ?_
  refine T_seqk ?_
  refine T_reg [(1,{ rw:=some (dI (a0.length:Int)) })] [0,7] [(7,dB (decide ((a0.length:Int) > (64:Int))))] [(1,True∧dI ((a0.map cS_PrepressFact).length:Int)=dI (a0.length:Int))] 1 (by kernel_rfl) (len_ok cS_PrepressFact) ?_
  refine T_cond (decide ((a0.length:Int) > (64:Int))) (by kernel_rfl) (fun hc=>?_) (fun hc=>?_)
  · have h:=cond_tt hc h
    refine T_reg [] [2] [(2,dI (2:Int))] [] 1 (by kernel_rfl) (trivial) ?_
    obtain hs:=Option.some.inj h; subst hs
    refine T_ret fun a w hm=>then_ret (T_return (fr':=[(2,dI (2:Int))]) [2] (by kernel_rfl) [.keep [2]] (by kernel_rfl) (by kernel_rfl) (by kernel_rfl) (by show _=_; kernel_rfl) (by exact trivial) a w hm)
  · have h:=cond_ff hc h
    refine T_skip fun a w hm=>then_norm (((?_:T Tryz.prog e 44 _ _ _) a w hm))
    refine T_seqk ?_
    refine T_reg [(1,{ rw:=some (dI (a0.length:Int)) })] [0,8,9,10] [(8,.d (.sl 2 (a0.map cS_PrepressFact))),(9,dI (a0.length:Int)),(10,dI (0:Int))] [(1,True∧dI ((a0.map cS_PrepressFact).length:Int)=dI (a0.length:Int))] 1 (by kernel_rfl) (len_ok cS_PrepressFact) ?_
    refine T_joinEt h (fun (p:Unit)=>[]) (fun s h hk1=>?_) (fun s h=>?_)
    · refine T_co [.keep [0,8,9,10]] ((fun (p:Int)=>[(0,.d (.sl 2 (a0.map cS_PrepressFact))),(8,.d (.sl 2 (a0.map cS_PrepressFact))),(9,dI (a0.length:Int)),(10,dI p)]) (0:Int)) (by show _=_; kernel_rfl) ?_
      refine T_block ?_
      refine T_loopF (ι:=Int) (fun (p:Int)=>[(0,.d (.sl 2 (a0.map cS_PrepressFact))),(8,.d (.sl 2 (a0.map cS_PrepressFact))),(9,dI (a0.length:Int)),(10,dI p)]) (fun n p=>prepress_CheckFacts_L0 F a0 n p=some s) (fun i hh=>by simp [prepress_CheckFacts_L0] at hh) (fun n v1 h=>?_) F (0:Int) h
      have h:prepress_CheckFacts_L0 F a0 (n+1) v1=some s:=h
      rw [prepress_CheckFacts_L0] at h
      refine T_reg [] [0,8,9,10,11] [(11,dB (decide (v1 < (a0.length:Int))))] [] 1 (by kernel_rfl) (trivial) ?_
      refine T_seqk ?_
      refine T_cond (decide (v1 < (a0.length:Int))) (by kernel_rfl) (fun hc=>?_) (fun hc=>?_)
      · have h:=cond_tt hc h
        refine T_skip fun a w hm=>then_norm (((?_:T Tryz.prog e 44 _ _ _) a w hm))
        refine T_seqk ?_
        refine T_block ?_
        obtain ⟨hp1,h⟩:=chk_ok h
        refine T_reg [(1,{ cs:=cS_PrepressFact (a0.getD v1.toNat z_PrepressFact) })] [0,3,4,8,9,10] [(3,dI v1),(4,.box [.d (.str ((a0.getD v1.toNat z_PrepressFact).f0)),dI ((a0.getD v1.toNat z_PrepressFact).f1)])] [(1,0≤v1∧(a0.map cS_PrepressFact)[v1.toNat]? = some (cS_PrepressFact (a0.getD v1.toNat z_PrepressFact)))] 4 (by kernel_rfl) (idx_ok (d:=z_PrepressFact) cS_PrepressFact hp1) ?_
        refine T_block ?_
        obtain ⟨y1,hy1,h⟩:=call_ok h
        refine T_reg [(2,{ res:=dB y1 })] [0,3,4,8,9,10,15] [(15,dB (!y1))] [(2,ACall Tryz.prog 27 [.d (.str ((a0.getD v1.toNat z_PrepressFact).f0))] [] (dB y1) [])] 2 (by kernel_rfl) (prepress_plain_ok hy1) ?_
        refine T_cond (!y1) (by kernel_rfl) (fun hc=>?_) (fun hc=>?_)
        · have h:=cond_tt hc h
          refine T_reg [] [2] [(2,dI (6:Int))] [] 1 (by kernel_rfl) (trivial) ?_
          obtain hs:=Option.some.inj h; subst hs
          have h:=callE_esc hk1
          obtain hs:=Option.some.inj h; subst hs
          refine T_ret fun a w hm=>inBlock_ret (inBlock_ret (then_ret (then_ret (inBlock_ret (then_ret (then_ret (T_return (fr':=[(2,dI (6:Int))]) [2] (by kernel_rfl) [.keep [2]] (by kernel_rfl) (by kernel_rfl) (by kernel_rfl) (by show _=_; kernel_rfl) (by exact trivial) a w hm)))))))
        · have h:=cond_ff hc h
          obtain ⟨z1,hz1,h⟩:=lett_ok h
          refine T_reg [(7,{ rw:=some (dB z1) })] [0,3,4,8,9,10,20] [(20,dB z1)] [(4,((((decide (((a0.getD v1.toNat z_PrepressFact).f1) < (-2147483648:Int))) == false) && true)=true→True)),(0,((((decide (((a0.getD v1.toNat z_PrepressFact).f1) < (-2147483648:Int))) == false) && true)=true→True)),(0,((((decide (((a0.getD v1.toNat z_PrepressFact).f1) < (-2147483648:Int))) == false) && true)=true→True)),(0,(True)∧dB (bif (decide (((a0.getD v1.toNat z_PrepressFact).f1) < (-2147483648:Int))) then true else (decide (((a0.getD v1.toNat z_PrepressFact).f1) > (2147483648:Int))))=dB z1)] 1 (by kernel_rfl) (⟨(fun hg=>trivial),(fun hg=>trivial),(fun hg=>trivial),⟨trivial,(by subst hz1; rfl)⟩⟩) ?_
          refine T_cond z1 (by kernel_rfl) (fun hc=>?_) (fun hc=>?_)
          · have h:=cond_tt hc h
            refine T_reg [] [2] [(2,dI (3:Int))] [] 1 (by kernel_rfl) (trivial) ?_
            obtain hs:=Option.some.inj h; subst hs
            have h:=callE_esc hk1
            obtain hs:=Option.some.inj h; subst hs
            refine T_ret fun a w hm=>inBlock_ret (inBlock_ret (then_ret (then_ret (inBlock_ret (then_ret (then_ret (T_return (fr':=[(2,dI (3:Int))]) [2] (by kernel_rfl) [.keep [2]] (by kernel_rfl) (by kernel_rfl) (by kernel_rfl) (by show _=_; kernel_rfl) (by exact trivial) a w hm)))))))
          · have h:=cond_ff hc h
            obtain ⟨hp2,h⟩:=chk_ok h
            obtain ⟨z2,hz2,h⟩:=lett_ok h
            refine T_draw mixed [(6,{ cs:=cS_PrepressFact (a0.getD (IntKind.i64.wrap (v1 - (1:Int))).toNat z_PrepressFact) }),(11,{ rw:=some (dB z2) })] [0,8,9,10,29] [] [(0,.d (.sl 2 (a0.map cS_PrepressFact))),(8,.d (.sl 2 (a0.map cS_PrepressFact))),(9,dI (a0.length:Int)),(10,dI v1),(29,dB (bif (decide (v1 > (0:Int))) then z2 else false))] [(3,((((decide (v1 > (0:Int))) == true) && true)=true→True)),(0,((((decide (v1 > (0:Int))) == true) && true)=true→True)),(0,((((decide (v1 > (0:Int))) == true) && true)=true→True)),(0,((((decide (v1 > (0:Int))) == true) && true)=true→0≤(IntKind.i64.wrap (v1 - (1:Int)))∧(a0.map cS_PrepressFact)[(IntKind.i64.wrap (v1 - (1:Int))).toNat]? = some (cS_PrepressFact (a0.getD (IntKind.i64.wrap (v1 - (1:Int))).toNat z_PrepressFact)))),(0,((((decide (v1 > (0:Int))) == true) && true)=true→True)),(0,((((decide (v1 > (0:Int))) == true) && true)=true→True)),(0,((((decide (v1 > (0:Int))) == true) && true)=true→True)),(0,((((decide (v1 > (0:Int))) == true) && true)=true→True)),(0,((((decide (v1 > (0:Int))) == true) && true)=true→(True)∧dB (!(Op.bytesLess ((a0.getD (IntKind.i64.wrap (v1 - (1:Int))).toNat z_PrepressFact).f0) ((a0.getD v1.toNat z_PrepressFact).f0)))=dB z2))] 2 (by kernel_rfl) (⟨(fun hg=>trivial),(fun hg=>trivial),(fun hg=>trivial),(fun hg=>idx_ok (d:=z_PrepressFact) cS_PrepressFact (hp2 hg)),(fun hg=>trivial),(fun hg=>trivial),(fun hg=>trivial),(fun hg=>trivial),(fun hg=>⟨trivial,(by subst hz2; rfl)⟩)⟩) ?_
            refine T_cond (bif (decide (v1 > (0:Int))) then z2 else false) (by kernel_rfl) (fun hc=>?_) (fun hc=>?_)
            · have h:=cond_tt hc h
              refine T_reg [] [2] [(2,dI (18:Int))] [] 1 (by kernel_rfl) (trivial) ?_
              obtain hs:=Option.some.inj h; subst hs
              have h:=callE_esc hk1
              obtain hs:=Option.some.inj h; subst hs
              refine T_ret fun a w hm=>inBlock_ret (inBlock_ret (then_ret (then_ret (inBlock_ret (then_ret (then_ret (T_return (fr':=[(2,dI (18:Int))]) [2] (by kernel_rfl) [.keep [2]] (by kernel_rfl) (by kernel_rfl) (by kernel_rfl) (by show _=_; kernel_rfl) (by exact trivial) a w hm)))))))
            · have h:=cond_ff hc h
              refine T_skip fun a w hm=>inBlock_norm (inBlock_norm (then_norm (((?_:T Tryz.prog e 44 _ _ _) a w hm))))
              refine T_reg_end [] [0,8,9,10] [(10,dI (IntKind.i64.wrap (v1+(1:Int))))] [] 2 (by kernel_rfl) (trivial) fun a w hm=>then_norm (⟨IntKind.i64.wrap (v1+(1:Int)),h,hm.co (cs:=[.keep [0,8,9,10]]) (by show _=_; kernel_rfl)⟩)
      · have h:=cond_ff hc h
        obtain hs:=Option.some.inj h; subst hs
        refine T_exit fun a w hm=>then_exit (then_exit (inBlock_exit (then_norm (⟨_,rfl,hm.co (cs:=[.keep []]) (by show _=_; kernel_rfl)⟩))))
    · skip
      refine fun a w hm=>then_norm (((?_:T Tryz.prog e 44 _ _ _) a w hm))
      refine T_reg [] [2] [(2,dI (0:Int))] [] 1 (by kernel_rfl) (trivial) ?_
      obtain hs:=Option.some.inj h; subst hs
      refine T_ret fun a w hm=>T_return (fr':=[(2,dI (0:Int))]) [2] (by kernel_rfl) [.keep [2]] (by kernel_rfl) (by kernel_rfl) (by kernel_rfl) (by show _=_; kernel_rfl) (by exact trivial) a w hm
theorem cmp_isNaN_string_ok {F:Nat} {a0:List UInt8} {r:Bool} (h:cmp_isNaN_string F a0=some r):ACall Tryz.prog 63 [.d (.str a0)] [] (.d (.v (.bool r))) []:=by
  rw [cmp_isNaN_string] at h
  refine ACall.intro (N:=6) Tryz.func63 rfl rfl rfl rfl rfl fun e=>?_
  refine T_reg [] [0] [] [] 1 (by kernel_rfl) (trivial) ?_
  refine T_reg [] [2] [(2,dB (!(a0 == a0)))] [] 4 (by kernel_rfl) (trivial) ?_
  obtain hs:=Option.some.inj h; subst hs
  refine T_ret fun a w hm=>T_return (fr':=[(2,dB (!(a0 == a0)))]) [2] (by kernel_rfl) [.keep [2]] (by kernel_rfl) (by kernel_rfl) (by kernel_rfl) (by show _=_; kernel_rfl) (by exact trivial) a w hm
theorem cmp_Compare_string_ok {F:Nat} {a0:List UInt8} {a1:List UInt8} {r:Int} (h:cmp_Compare_string F a0 a1=some r):ACall Tryz.prog 61 [.d (.str a0),.d (.str a1)] [] (.d (.v (.int .i64 r))) []:=by
  rw [cmp_Compare_string] at h
  refine ACall.intro (N:=20) Tryz.func61 rfl rfl rfl rfl rfl fun e=>?_
  refine T_reg [] [0,1] [] [] 1 (by kernel_rfl) (trivial) ?_
  obtain ⟨y1,hy1,h⟩:=call_ok h
  refine T_reg [(1,{ res:=dB y1 })] [0,1,5] [(5,dB y1)] [(1,ACall Tryz.prog 63 [.d (.str a0)] [] (dB y1) [])] 1 (by kernel_rfl) (cmp_isNaN_string_ok hy1) ?_
  obtain ⟨y2,hy2,h⟩:=call_ok h
  refine T_reg [(1,{ res:=dB y2 })] [0,1,5,6] [(6,dB y2)] [(1,ACall Tryz.prog 63 [.d (.str a1)] [] (dB y2) [])] 1 (by kernel_rfl) (cmp_isNaN_string_ok hy2) ?_
  refine T_seqk ?_
  refine T_reg [] [0,1,6,11] [(11,dB y1)] [] 1 (by kernel_rfl) (trivial) ?_
  refine T_cond y1 (by kernel_rfl) (fun hc=>?_) (fun hc=>?_)
  · have h:=cond_tt hc h
    refine T_seqk ?_
    refine T_reg [] [12] [(12,dB y2)] [] 1 (by kernel_rfl) (trivial) ?_
    refine T_cond y2 (by kernel_rfl) (fun hc=>?_) (fun hc=>?_)
    · have h:=cond_tt hc h
      refine T_reg [] [4] [(4,dI (0:Int))] [] 1 (by kernel_rfl) (trivial) ?_
      obtain hs:=Option.some.inj h; subst hs
      refine T_ret fun a w hm=>then_ret (then_ret (T_return (fr':=[(4,dI (0:Int))]) [4] (by kernel_rfl) [.keep [4]] (by kernel_rfl) (by kernel_rfl) (by kernel_rfl) (by show _=_; kernel_rfl) (by exact trivial) a w hm))
    · have h:=cond_ff hc h
      refine T_skip fun a w hm=>then_norm (((?_:T Tryz.prog e 20 _ _ _) a w hm))
      refine T_reg [] [4] [(4,dI (-1:Int))] [] 1 (by kernel_rfl) (trivial) ?_
      obtain hs:=Option.some.inj h; subst hs
      refine T_ret fun a w hm=>then_ret (T_return (fr':=[(4,dI (-1:Int))]) [4] (by kernel_rfl) [.keep [4]] (by kernel_rfl) (by kernel_rfl) (by kernel_rfl) (by show _=_; kernel_rfl) (by exact trivial) a w hm)
  · have h:=cond_ff hc h
    refine T_skip fun a w hm=>then_norm (((?_:T Tryz.prog e 20 _ _ _) a w hm))
    refine T_seqk ?_
    refine T_reg [] [0,1,13] [(13,dB y2)] [] 1 (by kernel_rfl) (trivial) ?_
    refine T_cond y2 (by kernel_rfl) (fun hc=>?_) (fun hc=>?_)
    · have h:=cond_tt hc h
      refine T_reg [] [4] [(4,dI (1:Int))] [] 1 (by kernel_rfl) (trivial) ?_
      obtain hs:=Option.some.inj h; subst hs
      refine T_ret fun a w hm=>then_ret (T_return (fr':=[(4,dI (1:Int))]) [4] (by kernel_rfl) [.keep [4]] (by kernel_rfl) (by kernel_rfl) (by kernel_rfl) (by show _=_; kernel_rfl) (by exact trivial) a w hm)
    · have h:=cond_ff hc h
      refine T_skip fun a w hm=>then_norm (((?_:T Tryz.prog e 20 _ _ _) a w hm))
      refine T_seqk ?_
      refine T_reg [] [0,1,16] [(16,dB (Op.bytesLess a0 a1))] [] 3 (by kernel_rfl) (trivial) ?_
      refine T_cond (Op.bytesLess a0 a1) (by kernel_rfl) (fun hc=>?_) (fun hc=>?_)
      · have h:=cond_tt hc h
        refine T_reg [] [4] [(4,dI (-1:Int))] [] 1 (by kernel_rfl) (trivial) ?_
        obtain hs:=Option.some.inj h; subst hs
        refine T_ret fun a w hm=>then_ret (T_return (fr':=[(4,dI (-1:Int))]) [4] (by kernel_rfl) [.keep [4]] (by kernel_rfl) (by kernel_rfl) (by kernel_rfl) (by show _=_; kernel_rfl) (by exact trivial) a w hm)
      · have h:=cond_ff hc h
        refine T_skip fun a w hm=>then_norm (((?_:T Tryz.prog e 20 _ _ _) a w hm))
        refine T_seqk ?_
        refine T_reg [] [19] [(19,dB (!(Op.bytesLess a0 a1 || a0 == a1)))] [] 3 (by kernel_rfl) (trivial) ?_
        refine T_cond (!(Op.bytesLess a0 a1 || a0 == a1)) (by kernel_rfl) (fun hc=>?_) (fun hc=>?_)
        · have h:=cond_tt hc h
          refine T_reg [] [4] [(4,dI (1:Int))] [] 1 (by kernel_rfl) (trivial) ?_
          obtain hs:=Option.some.inj h; subst hs
          refine T_ret fun a w hm=>then_ret (T_return (fr':=[(4,dI (1:Int))]) [4] (by kernel_rfl) [.keep [4]] (by kernel_rfl) (by kernel_rfl) (by kernel_rfl) (by show _=_; kernel_rfl) (by exact trivial) a w hm)
        · have h:=cond_ff hc h
          refine T_skip fun a w hm=>then_norm (((?_:T Tryz.prog e 20 _ _ _) a w hm))
          refine T_reg [] [4] [(4,dI (0:Int))] [] 1 (by kernel_rfl) (trivial) ?_
          obtain hs:=Option.some.inj h; subst hs
          refine T_ret fun a w hm=>T_return (fr':=[(4,dI (0:Int))]) [4] (by kernel_rfl) [.keep [4]] (by kernel_rfl) (by kernel_rfl) (by kernel_rfl) (by show _=_; kernel_rfl) (by exact trivial) a w hm
theorem prepress_known_value_c1_ok {F:Nat} {a0:S_PrepressFact} {a1:List UInt8} {r:Int} (h:prepress_known_value_c1 F a0 a1=some r):ACall Tryz.prog 60 [.agg (cS_PrepressFact a0),.d (.str a1)] [] (.d (.v (.int .i64 r))) []:=by
  rw [prepress_known_value_c1] at h
  refine ACall.intro (N:=9) Tryz.func60 rfl rfl rfl rfl rfl fun e=>?_
  refine T_reg [] [1,2] [(2,bx_PrepressFact a0)] [] 2 (by kernel_rfl) (trivial) ?_
  obtain ⟨y1,hy1,h⟩:=call_ok h
  refine T_reg [(3,{ res:=dI y1 })] [4] [(4,dI y1)] [(3,ACall Tryz.prog 61 [.d (.str a0.f0),.d (.str a1)] [] (dI y1) [])] 1 (by kernel_rfl) (cmp_Compare_string_ok hy1) ?_
  obtain hs:=Option.some.inj h; subst hs
  refine T_ret fun a w hm=>T_return (fr':=[(4,dI y1)]) [4] (by kernel_rfl) [.keep [4]] (by kernel_rfl) (by kernel_rfl) (by kernel_rfl) (by show _=_; kernel_rfl) (by exact trivial) a w hm
theorem slices_BinarySearchFunc_string_ok {F:Nat} {a0:List S_PrepressFact} {a1:List UInt8} {r:Int×Bool} (h:slices_BinarySearchFunc_string F a0 a1=some r):ACall Tryz.prog 59 [.d (.sl 2 (a0.map cS_PrepressFact)),.d (.str a1),.clo 60 []] [] (.tup [.d (.v (.int .i64 r.1)),.d (.v (.bool r.2))]) []:=by
  rw [slices_BinarySearchFunc_string] at h
  refine ACall.intro (N:=49) Tryz.func59 rfl rfl rfl rfl rfl fun e=>?_
  refine T_reg [] [0,1,2] [] [] 2 (by kernel_rfl) (trivial) ?_
  refine T_reg [(1,{ rw:=some (dI (a0.length:Int)) })] [0,1,2,8] [(8,dI (a0.length:Int))] [(1,True∧dI ((a0.map cS_PrepressFact).length:Int)=dI (a0.length:Int))] 1 (by kernel_rfl) (len_ok cS_PrepressFact) ?_
  refine T_reg [] [0,1,2,8,9,10] [(9,dI (0:Int)),(10,dI (a0.length:Int))] [] 3 (by kernel_rfl) (trivial) ?_
  refine T_joinc h (fun (p:Int)=>[(0,.d (.sl 2 (a0.map cS_PrepressFact))),(1,.d (.str a1)),(2,.clo 60 []),(8,dI (a0.length:Int)),(9,dI p)]) (fun s h=>?_) (fun v3 h=>?_)
  · refine T_co [.keep [0,1,2,8,9,10]] ((fun (p:Int×Int)=>[(0,.d (.sl 2 (a0.map cS_PrepressFact))),(1,.d (.str a1)),(2,.clo 60 []),(8,dI (a0.length:Int)),(9,dI p.1),(10,dI p.2)]) ((0:Int),(a0.length:Int))) (by show _=_; kernel_rfl) ?_
    refine T_block ?_
    refine T_loopF (ι:=Int×Int) (fun (p:Int×Int)=>[(0,.d (.sl 2 (a0.map cS_PrepressFact))),(1,.d (.str a1)),(2,.clo 60 []),(8,dI (a0.length:Int)),(9,dI p.1),(10,dI p.2)]) (fun n p=>slices_BinarySearchFunc_string_L0 F a0 a1 n p.1 p.2=some s) (fun i hh=>by simp [slices_BinarySearchFunc_string_L0] at hh) (fun n p h=>?_) F ((0:Int),(a0.length:Int)) h
    obtain ⟨v1,v2⟩:=p
    have h:slices_BinarySearchFunc_string_L0 F a0 a1 (n+1) v1 v2=some s:=h
    rw [slices_BinarySearchFunc_string_L0] at h
    refine T_seqk ?_
    refine T_reg [] [0,1,2,8,9,10,17] [(17,dB (decide (v1 < v2)))] [] 3 (by kernel_rfl) (trivial) ?_
    refine T_cond (decide (v1 < v2)) (by kernel_rfl) (fun hc=>?_) (fun hc=>?_)
    · have h:=cond_tt hc h
      refine T_skip fun a w hm=>then_norm (((?_:T Tryz.prog e 49 _ _ _) a w hm))
      refine T_block ?_
      obtain ⟨z1,hz1,h⟩:=lett_ok h
      refine T_reg [(4,{ rw:=some (.d (.v (.int .u64 z1))) })] [0,1,2,8,9,10,11] [(11,dI (IntKind.i64.wrap z1))] [(4,(0≤(1:Int))∧AV.d (.v (.int .u64 ((IntKind.u64.wrap (IntKind.i64.wrap (v1+v2))).fdiv (2 ^ (min (1:Int).toNat IntKind.u64.bits)))))=.d (.v (.int .u64 z1)))] 2 (by kernel_rfl) (⟨(show 0≤(1:Int) by decide),(by subst hz1; rfl)⟩) ?_
      obtain ⟨hp1,h⟩:=chk_ok h
      obtain ⟨y1,hy1,h⟩:=call_ok h
      refine T_reg [(3,{ cs:=cS_PrepressFact (a0.getD (IntKind.i64.wrap z1).toNat z_PrepressFact) }),(6,{ res:=dI y1 })] [0,1,2,8,9,10,11,31] [(31,dB (decide (y1 < (0:Int))))] [(3,0≤(IntKind.i64.wrap z1)∧(a0.map cS_PrepressFact)[(IntKind.i64.wrap z1).toNat]? = some (cS_PrepressFact (a0.getD (IntKind.i64.wrap z1).toNat z_PrepressFact))),(2,ACall Tryz.prog 60 [.agg (cS_PrepressFact (a0.getD (IntKind.i64.wrap z1).toNat z_PrepressFact)),.d (.str a1)] [] (dI y1) [])] 1 (by kernel_rfl) (⟨idx_ok (d:=z_PrepressFact) cS_PrepressFact hp1,prepress_known_value_c1_ok hy1⟩) ?_
      refine T_cond (decide (y1 < (0:Int))) (by kernel_rfl) (fun hc=>?_) (fun hc=>?_)
      · have h:=cond_tt hc h
        refine T_reg_end [] [0,1,2,8,9,10] [(9,dI (IntKind.i64.wrap ((IntKind.i64.wrap z1)+(1:Int))))] [] 3 (by kernel_rfl) (trivial) fun a w hm=>inBlock_norm (then_norm (⟨(IntKind.i64.wrap ((IntKind.i64.wrap z1)+(1:Int)),v2),h,hm.co (cs:=[.keep [0,1,2,8,9,10]]) (by show _=_; kernel_rfl)⟩))
      · have h:=cond_ff hc h
        refine T_reg_end [] [0,1,2,8,9,10] [(10,dI (IntKind.i64.wrap z1))] [] 2 (by kernel_rfl) (trivial) fun a w hm=>inBlock_norm (then_norm (⟨(v1,IntKind.i64.wrap z1),h,hm.co (cs:=[.keep [0,1,2,8,9,10]]) (by show _=_; kernel_rfl)⟩))
    · have h:=cond_ff hc h
      obtain hs:=Option.some.inj h; subst hs
      refine T_exit fun a w hm=>then_exit (then_exit (inBlock_exit (then_norm (hm.co (cs:=[.keep [0,1,2,8,9]]) (by show _=_; kernel_rfl)))))
  · skip
    obtain ⟨hp2,h⟩:=chk_ok h
    obtain ⟨y2,hy2,h⟩:=call_ok h
    refine T_reg [(8,{ cs:=cS_PrepressFact (a0.getD v3.toNat z_PrepressFact) }),(11,{ res:=dI y2 })] [6,7] [(6,dI v3),(7,dB (bif (decide (v3 < (a0.length:Int))) then (y2 == (0:Int)) else false))] [(5,((((decide (v3 < (a0.length:Int))) == true) && true)=true→True)),(0,((((decide (v3 < (a0.length:Int))) == true) && true)=true→True)),(0,((((decide (v3 < (a0.length:Int))) == true) && true)=true→True)),(0,((((decide (v3 < (a0.length:Int))) == true) && true)=true→0≤v3∧(a0.map cS_PrepressFact)[v3.toNat]? = some (cS_PrepressFact (a0.getD v3.toNat z_PrepressFact)))),(0,((((decide (v3 < (a0.length:Int))) == true) && true)=true→True)),(0,((((decide (v3 < (a0.length:Int))) == true) && true)=true→True)),(0,((((decide (v3 < (a0.length:Int))) == true) && true)=true→ACall Tryz.prog 60 [.agg (cS_PrepressFact (a0.getD v3.toNat z_PrepressFact)),.d (.str a1)] [] (dI y2) [])),(0,((((decide (v3 < (a0.length:Int))) == true) && true)=true→True))] 3 (by kernel_rfl) (⟨(fun hg=>trivial),(fun hg=>trivial),(fun hg=>trivial),(fun hg=>idx_ok (d:=z_PrepressFact) cS_PrepressFact (hp2 hg)),(fun hg=>trivial),(fun hg=>trivial),(fun hg=>prepress_known_value_c1_ok (gcall_ok hg hy2)),(fun hg=>trivial)⟩) ?_
    obtain hs:=Option.some.inj h; subst hs
    refine T_ret fun a w hm=>T_return (fr':=[(6,dI v3),(7,dB (bif (decide (v3 < (a0.length:Int))) then (y2 == (0:Int)) else false))]) [6,7] (by kernel_rfl) [.keep [6,7]] (by kernel_rfl) (by kernel_rfl) (by kernel_rfl) (by show _=_; kernel_rfl) (by exact trivial) a w hm
theorem prepress_known_value_ok {F:Nat} {a0:List S_PrepressFact} {a1:List UInt8} {r:Int×Bool} (h:prepress_known_value F a0 a1=some r):ACall Tryz.prog 38 [.d (.sl 2 (a0.map cS_PrepressFact)),.d (.str a1)] [] (.tup [.d (.v (.int .i64 r.1)),.d (.v (.bool r.2))]) []:=by
  rw [prepress_known_value] at h
  refine ACall.intro (N:=21) Tryz.func38 rfl rfl rfl rfl rfl fun e=>?_
  refine T_reg [] [0,1] [] [] 2 (by kernel_rfl) (trivial) ?_
  obtain ⟨y1,hy1,h⟩:=call_ok h
  refine T_reg [(2,{ res:=.tup [dI y1.1,dB y1.2] })] [0,6,7] [(6,dI y1.1),(7,dB y1.2)] [(2,ACall Tryz.prog 59 [.d (.sl 2 (a0.map cS_PrepressFact)),.d (.str a1),.clo 60 []] [] (.tup [dI y1.1,dB y1.2]) [])] 5 (by kernel_rfl) (slices_BinarySearchFunc_string_ok hy1) ?_
  refine T_seqk ?_
  refine T_reg [] [0,6,15] [(15,dB (!y1.2))] [] 2 (by kernel_rfl) (trivial) ?_
  refine T_cond (!y1.2) (by kernel_rfl) (fun hc=>?_) (fun hc=>?_)
  · have h:=cond_tt hc h
    refine T_reg [] [4,5] [(4,dI (0:Int)),(5,dB false)] [] 2 (by kernel_rfl) (trivial) ?_
    obtain hs:=Option.some.inj h; subst hs
    refine T_ret fun a w hm=>then_ret (T_return (fr':=[(4,dI (0:Int)),(5,dB false)]) [4,5] (by kernel_rfl) [.keep [4,5]] (by kernel_rfl) (by kernel_rfl) (by kernel_rfl) (by show _=_; kernel_rfl) (by exact trivial) a w hm)
  · have h:=cond_ff hc h
    refine T_skip fun a w hm=>then_norm (((?_:T Tryz.prog e 21 _ _ _) a w hm))
    obtain ⟨hp1,h⟩:=chk_ok h
    refine T_reg [(2,{ cs:=cS_PrepressFact (a0.getD y1.1.toNat z_PrepressFact) })] [4,5] [(4,dI ((a0.getD y1.1.toNat z_PrepressFact).f1)),(5,dB true)] [(2,0≤y1.1∧(a0.map cS_PrepressFact)[y1.1.toNat]? = some (cS_PrepressFact (a0.getD y1.1.toNat z_PrepressFact)))] 4 (by kernel_rfl) (idx_ok (d:=z_PrepressFact) cS_PrepressFact hp1) ?_
    obtain hs:=Option.some.inj h; subst hs
    refine T_ret fun a w hm=>T_return (fr':=[(4,dI ((a0.getD y1.1.toNat z_PrepressFact).f1)),(5,dB true)]) [4,5] (by kernel_rfl) [.keep [4,5]] (by kernel_rfl) (by kernel_rfl) (by kernel_rfl) (by show _=_; kernel_rfl) (by exact trivial) a w hm
theorem cmp_isNaN_int_ok {F:Nat} {a0:Int} {r:Bool} (h:cmp_isNaN_int F a0=some r):ACall Tryz.prog 83 [.d (.v (.int .i64 a0))] [] (.d (.v (.bool r))) []:=by
  rw [cmp_isNaN_int] at h
  refine ACall.intro (N:=6) Tryz.func83 rfl rfl rfl rfl rfl fun e=>?_
  refine T_reg [] [0] [] [] 1 (by kernel_rfl) (trivial) ?_
  refine T_reg [] [2] [(2,dB (a0 != a0))] [] 4 (by kernel_rfl) (trivial) ?_
  obtain hs:=Option.some.inj h; subst hs
  refine T_ret fun a w hm=>T_return (fr':=[(2,dB (a0 != a0))]) [2] (by kernel_rfl) [.keep [2]] (by kernel_rfl) (by kernel_rfl) (by kernel_rfl) (by show _=_; kernel_rfl) (by exact trivial) a w hm
theorem cmp_Compare_int_ok {F:Nat} {a0:Int} {a1:Int} {r:Int} (h:cmp_Compare_int F a0 a1=some r):ACall Tryz.prog 56 [.d (.v (.int .i64 a0)),.d (.v (.int .i64 a1))] [] (.d (.v (.int .i64 r))) []:=by
  rw [cmp_Compare_int] at h
  refine ACall.intro (N:=20) Tryz.func56 rfl rfl rfl rfl rfl fun e=>?_
  refine T_reg [] [0,1] [] [] 1 (by kernel_rfl) (trivial) ?_
  obtain ⟨y1,hy1,h⟩:=call_ok h
  refine T_reg [(1,{ res:=dB y1 })] [0,1,5] [(5,dB y1)] [(1,ACall Tryz.prog 83 [dI a0] [] (dB y1) [])] 1 (by kernel_rfl) (cmp_isNaN_int_ok hy1) ?_
  obtain ⟨y2,hy2,h⟩:=call_ok h
  refine T_reg [(1,{ res:=dB y2 })] [0,1,5,6] [(6,dB y2)] [(1,ACall Tryz.prog 83 [dI a1] [] (dB y2) [])] 1 (by kernel_rfl) (cmp_isNaN_int_ok hy2) ?_
  refine T_seqk ?_
  refine T_reg [] [0,1,6,11] [(11,dB y1)] [] 1 (by kernel_rfl) (trivial) ?_
  refine T_cond y1 (by kernel_rfl) (fun hc=>?_) (fun hc=>?_)
  · have h:=cond_tt hc h
    refine T_seqk ?_
    refine T_reg [] [12] [(12,dB y2)] [] 1 (by kernel_rfl) (trivial) ?_
    refine T_cond y2 (by kernel_rfl) (fun hc=>?_) (fun hc=>?_)
    · have h:=cond_tt hc h
      refine T_reg [] [4] [(4,dI (0:Int))] [] 1 (by kernel_rfl) (trivial) ?_
      obtain hs:=Option.some.inj h; subst hs
      refine T_ret fun a w hm=>then_ret (then_ret (T_return (fr':=[(4,dI (0:Int))]) [4] (by kernel_rfl) [.keep [4]] (by kernel_rfl) (by kernel_rfl) (by kernel_rfl) (by show _=_; kernel_rfl) (by exact trivial) a w hm))
    · have h:=cond_ff hc h
      refine T_skip fun a w hm=>then_norm (((?_:T Tryz.prog e 20 _ _ _) a w hm))
      refine T_reg [] [4] [(4,dI (-1:Int))] [] 1 (by kernel_rfl) (trivial) ?_
      obtain hs:=Option.some.inj h; subst hs
      refine T_ret fun a w hm=>then_ret (T_return (fr':=[(4,dI (-1:Int))]) [4] (by kernel_rfl) [.keep [4]] (by kernel_rfl) (by kernel_rfl) (by kernel_rfl) (by show _=_; kernel_rfl) (by exact trivial) a w hm)
  · have h:=cond_ff hc h
    refine T_skip fun a w hm=>then_norm (((?_:T Tryz.prog e 20 _ _ _) a w hm))
    refine T_seqk ?_
    refine T_reg [] [0,1,13] [(13,dB y2)] [] 1 (by kernel_rfl) (trivial) ?_
    refine T_cond y2 (by kernel_rfl) (fun hc=>?_) (fun hc=>?_)
    · have h:=cond_tt hc h
      refine T_reg [] [4] [(4,dI (1:Int))] [] 1 (by kernel_rfl) (trivial) ?_
      obtain hs:=Option.some.inj h; subst hs
      refine T_ret fun a w hm=>then_ret (T_return (fr':=[(4,dI (1:Int))]) [4] (by kernel_rfl) [.keep [4]] (by kernel_rfl) (by kernel_rfl) (by kernel_rfl) (by show _=_; kernel_rfl) (by exact trivial) a w hm)
    · have h:=cond_ff hc h
      refine T_skip fun a w hm=>then_norm (((?_:T Tryz.prog e 20 _ _ _) a w hm))
      refine T_seqk ?_
      refine T_reg [] [0,1,16] [(16,dB (decide (a0 < a1)))] [] 3 (by kernel_rfl) (trivial) ?_
      refine T_cond (decide (a0 < a1)) (by kernel_rfl) (fun hc=>?_) (fun hc=>?_)
      · have h:=cond_tt hc h
        refine T_reg [] [4] [(4,dI (-1:Int))] [] 1 (by kernel_rfl) (trivial) ?_
        obtain hs:=Option.some.inj h; subst hs
        refine T_ret fun a w hm=>then_ret (T_return (fr':=[(4,dI (-1:Int))]) [4] (by kernel_rfl) [.keep [4]] (by kernel_rfl) (by kernel_rfl) (by kernel_rfl) (by show _=_; kernel_rfl) (by exact trivial) a w hm)
      · have h:=cond_ff hc h
        refine T_skip fun a w hm=>then_norm (((?_:T Tryz.prog e 20 _ _ _) a w hm))
        refine T_seqk ?_
        refine T_reg [] [19] [(19,dB (decide (a0 > a1)))] [] 3 (by kernel_rfl) (trivial) ?_
        refine T_cond (decide (a0 > a1)) (by kernel_rfl) (fun hc=>?_) (fun hc=>?_)
        · have h:=cond_tt hc h
          refine T_reg [] [4] [(4,dI (1:Int))] [] 1 (by kernel_rfl) (trivial) ?_
          obtain hs:=Option.some.inj h; subst hs
          refine T_ret fun a w hm=>then_ret (T_return (fr':=[(4,dI (1:Int))]) [4] (by kernel_rfl) [.keep [4]] (by kernel_rfl) (by kernel_rfl) (by kernel_rfl) (by show _=_; kernel_rfl) (by exact trivial) a w hm)
        · have h:=cond_ff hc h
          refine T_skip fun a w hm=>then_norm (((?_:T Tryz.prog e 20 _ _ _) a w hm))
          refine T_reg [] [4] [(4,dI (0:Int))] [] 1 (by kernel_rfl) (trivial) ?_
          obtain hs:=Option.some.inj h; subst hs
          refine T_ret fun a w hm=>T_return (fr':=[(4,dI (0:Int))]) [4] (by kernel_rfl) [.keep [4]] (by kernel_rfl) (by kernel_rfl) (by kernel_rfl) (by show _=_; kernel_rfl) (by exact trivial) a w hm
theorem prepress_truth_body_ok {F:Nat} {rec_prepress_truth:S_PrepressCond→(List S_PrepressFact)→Option Int} (hrec_prepress_truth:∀ {a0:S_PrepressCond},∀ {a1:List S_PrepressFact},∀ {r:Int},rec_prepress_truth a0 a1=some r→ACall Tryz.prog 33 [.agg (cS_PrepressCond a0),.d (.sl 2 (a1.map cS_PrepressFact))] [] (.d (.v (.int .i64 r))) []) {a0:S_PrepressCond} {a1:List S_PrepressFact} {r:Int} (h:prepress_truth_body F rec_prepress_truth a0 a1=some r):ACall Tryz.prog 33 [.agg (cS_PrepressCond a0),.d (.sl 2 (a1.map cS_PrepressFact))] [] (.d (.v (.int .i64 r))) []:=by
  rw [prepress_truth_body] at h
  refine ACall.intro (N:=107) Tryz.func33 rfl rfl rfl rfl rfl fun e=>?_
  refine T_reg [] [1,2] [(2,bx_PrepressCond a0)] [] 2 (by kernel_rfl) (trivial) ?_
  refine T_seqk ?_
  refine T_reg [] [1,2,15] [(15,dI a0.f0)] [] 2 (by kernel_rfl) (trivial) ?_
  refine T_block ?_
  refine T_reg [] [1,2,15,16] [(16,dB (a0.f0 == (1:Int)))] [] 2 (by kernel_rfl) (trivial) ?_
  refine T_cond (a0.f0 == (1:Int)) (by kernel_rfl) (fun hc=>?_) (fun hc=>?_)
  · have h:=cond_tt hc h
    obtain ⟨hp1,h⟩:=chk_ok h
    obtain ⟨y2,hy1,h⟩:=call_ok h
    obtain ⟨hp2,h⟩:=chk_ok h
    refine T_reg [(0,{ es:=some (([(1:Int),(0:Int),(2:Int)]).map (cI .i64)) }),(3,{ cs:=cS_PrepressCond (a0.f4.getD (0:Int).toNat z_PrepressCond) }),(6,{ res:=dI y2 }),(8,{ cs:=(cI .i64) (([(1:Int),(0:Int),(2:Int)]).getD y2.toNat 0) })] [4] [(4,dI (([(1:Int),(0:Int),(2:Int)]).getD y2.toNat 0))] [(0,(([(1:Int),(0:Int),(2:Int)]).map (cI .i64))=(([(1:Int),(0:Int),(2:Int)]).map (cI .i64))),(2,0≤(0:Int)∧(a0.f4.map rS_PrepressCond)[(0:Int).toNat]? = some (cS_PrepressCond (a0.f4.getD (0:Int).toNat z_PrepressCond))),(2,ACall Tryz.prog 33 [.agg (cS_PrepressCond (a0.f4.getD (0:Int).toNat z_PrepressCond)),.d (.sl 2 (a1.map cS_PrepressFact))] [] (dI y2) []),(0,0≤y2∧y2 < (([(1:Int),(0:Int),(2:Int)]).map (cI .i64)).length),(0,(([(1:Int),(0:Int),(2:Int)]).map (cI .i64))[y2.toNat]? = some ((cI .i64) (([(1:Int),(0:Int),(2:Int)]).getD y2.toNat 0)))] 1 (by kernel_rfl) (⟨rfl,idx_okR (d:=z_PrepressCond) rS_PrepressCond_eq hp1,hrec_prepress_truth hy1,own_idx (cI .i64) hp2,(idx_ok (d:=0) (cI .i64) hp2).2⟩) ?_
    obtain hs:=Option.some.inj h; subst hs
    refine T_ret fun a w hm=>inBlock_ret (then_ret (T_return (fr':=[(4,dI (([(1:Int),(0:Int),(2:Int)]).getD y2.toNat 0))]) [4] (by kernel_rfl) [.keep [4]] (by kernel_rfl) (by kernel_rfl) (by kernel_rfl) (by show _=_; kernel_rfl) (by exact trivial) a w hm))
  · have h:=cond_ff hc h
    refine T_joinc h (fun (p:Bool)=>[(1,.d (.sl 2 (a1.map cS_PrepressFact))),(2,bx_PrepressCond a0),(27,dB p)]) (fun s h=>?_) (fun v3 h=>?_)
    · refine T_reg [] [1,2,15,27] [(27,dB (a0.f0 == (2:Int)))] [] 2 (by kernel_rfl) (trivial) ?_
      refine T_cond (a0.f0 == (2:Int)) (by kernel_rfl) (fun hc=>?_) (fun hc=>?_)
      · have h:=cond_tt hc h
        obtain hs:=Option.some.inj h; subst hs
        refine T_skip fun a w hm=>then_norm (hm.co (cs:=[.keep [1,2,27]]) (by show _=_; kernel_rfl))
      · have h:=cond_ff hc h
        obtain hs:=Option.some.inj h; subst hs
        refine T_reg_end [] [1,2,27] [(27,dB (a0.f0 == (3:Int)))] [] 2 (by kernel_rfl) (trivial) fun a w hm=>then_norm (hm.co (cs:=[.keep [1,2,27]]) (by show _=_; kernel_rfl))
    · skip
      refine T_cond v3 (by kernel_rfl) (fun hc=>?_) (fun hc=>?_)
      · have h:=cond_tt hc h
        refine T_reg [] [1,2,5] [(5,dI (0:Int))] [] 1 (by kernel_rfl) (trivial) ?_
        refine T_joinc h (fun (p:Int)=>[(1,.d (.sl 2 (a1.map cS_PrepressFact))),(2,bx_PrepressCond a0),(5,dI p)]) (fun s h=>?_) (fun v4 h=>?_)
        · refine T_reg [] [1,2,5,32] [(32,dB (a0.f0 == (3:Int)))] [] 3 (by kernel_rfl) (trivial) ?_
          refine T_cond (a0.f0 == (3:Int)) (by kernel_rfl) (fun hc=>?_) (fun hc=>?_)
          · have h:=cond_tt hc h
            obtain hs:=Option.some.inj h; subst hs
            refine T_reg_end [] [1,2,5] [(5,dI (1:Int))] [] 1 (by kernel_rfl) (trivial) fun a w hm=>then_norm (hm.co (cs:=[.keep [1,2,5]]) (by show _=_; kernel_rfl))
          · have h:=cond_ff hc h
            obtain hs:=Option.some.inj h; subst hs
            refine T_skip fun a w hm=>then_norm (hm.co (cs:=[.keep [1,2,5]]) (by show _=_; kernel_rfl))
        · skip
          obtain ⟨hp3,h⟩:=chk_ok h
          obtain ⟨y3,hy2,h⟩:=call_ok h
          obtain ⟨hp4,h⟩:=chk_ok h
          obtain ⟨y4,hy3,h⟩:=call_ok h
          refine T_drawX mixed 35 (.take 0 (.take 4 (.take 6 (.take 10 (.all (.alt 1 (.all (.alt 2 (.all (.alt 3 (.all (.alt 5 (.all (.alt 7 (.all (.alt 8 (.all (.alt 9 (.all (.alt 11 (.take 12 (.take 13 .done)) .stop)) .stop)) .stop)) .stop)) (.alt 7 (.all (.alt 5 (.all (.alt 8 (.all (.alt 9 (.all (.alt 11 (.take 12 (.take 13 .done)) .stop)) .stop)) .stop)) (.alt 8 (.all (.alt 5 (.all (.alt 9 (.all (.alt 11 (.take 12 (.take 13 .done)) .stop)) .stop)) (.alt 9 (.all (.alt 5 (.all (.alt 11 (.take 12 (.take 13 .done)) .stop)) .stop)) .stop))) .stop))) .stop))) (.alt 7 (.all (.alt 3 (.all (.alt 5 (.all (.alt 8 (.all (.alt 9 (.all (.alt 11 (.take 12 (.take 13 .done)) .stop)) .stop)) .stop)) (.alt 8 (.all (.alt 5 (.all (.alt 9 (.all (.alt 11 (.take 12 (.take 13 .done)) .stop)) .stop)) (.alt 9 (.all (.alt 5 (.all (.alt 11 (.take 12 (.take 13 .done)) .stop)) .stop)) .stop))) .stop))) (.alt 8 (.all (.alt 3 (.all (.alt 5 (.all (.alt 9 (.all (.alt 11 (.take 12 (.take 13 .done)) .stop)) .stop)) (.alt 9 (.all (.alt 5 (.all (.alt 11 (.take 12 (.take 13 .done)) .stop)) .stop)) .stop))) (.alt 9 (.all (.alt 3 (.all (.alt 5 (.all (.alt 11 (.take 12 (.take 13 .done)) .stop)) .stop)) .stop)) .stop))) .stop))) .stop))) (.alt 7 (.all (.alt 2 (.all (.alt 3 (.all (.alt 5 (.all (.alt 8 (.all (.alt 9 (.all (.alt 11 (.take 12 (.take 13 .done)) .stop)) .stop)) .stop)) (.alt 8 (.all (.alt 5 (.all (.alt 9 (.all (.alt 11 (.take 12 (.take 13 .done)) .stop)) .stop)) (.alt 9 (.all (.alt 5 (.all (.alt 11 (.take 12 (.take 13 .done)) .stop)) .stop)) .stop))) .stop))) (.alt 8 (.all (.alt 3 (.all (.alt 5 (.all (.alt 9 (.all (.alt 11 (.take 12 (.take 13 .done)) .stop)) .stop)) (.alt 9 (.all (.alt 5 (.all (.alt 11 (.take 12 (.take 13 .done)) .stop)) .stop)) .stop))) (.alt 9 (.all (.alt 3 (.all (.alt 5 (.all (.alt 11 (.take 12 (.take 13 .done)) .stop)) .stop)) .stop)) .stop))) .stop))) (.alt 8 (.all (.alt 2 (.all (.alt 3 (.all (.alt 5 (.all (.alt 9 (.all (.alt 11 (.take 12 (.take 13 .done)) .stop)) .stop)) (.alt 9 (.all (.alt 5 (.all (.alt 11 (.take 12 (.take 13 .done)) .stop)) .stop)) .stop))) (.alt 9 (.all (.alt 3 (.all (.alt 5 (.all (.alt 11 (.take 12 (.take 13 .done)) .stop)) .stop)) .stop)) .stop))) (.alt 9 (.all (.alt 2 (.all (.alt 3 (.all (.alt 5 (.all (.alt 11 (.take 12 (.take 13 .done)) .stop)) .stop)) .stop)) .stop)) .stop))) .stop))) .stop))) (.alt 7 (.all (.alt 1 (.all (.alt 2 (.all (.alt 3 (.all (.alt 5 (.all (.alt 8 (.all (.alt 9 (.all (.alt 11 (.take 12 (.take 13 .done)) .stop)) .stop)) .stop)) (.alt 8 (.all (.alt 5 (.all (.alt 9 (.all (.alt 11 (.take 12 (.take 13 .done)) .stop)) .stop)) (.alt 9 (.all (.alt 5 (.all (.alt 11 (.take 12 (.take 13 .done)) .stop)) .stop)) .stop))) .stop))) (.alt 8 (.all (.alt 3 (.all (.alt 5 (.all (.alt 9 (.all (.alt 11 (.take 12 (.take 13 .done)) .stop)) .stop)) (.alt 9 (.all (.alt 5 (.all (.alt 11 (.take 12 (.take 13 .done)) .stop)) .stop)) .stop))) (.alt 9 (.all (.alt 3 (.all (.alt 5 (.all (.alt 11 (.take 12 (.take 13 .done)) .stop)) .stop)) .stop)) .stop))) .stop))) (.alt 8 (.all (.alt 2 (.all (.alt 3 (.all (.alt 5 (.all (.alt 9 (.all (.alt 11 (.take 12 (.take 13 .done)) .stop)) .stop)) (.alt 9 (.all (.alt 5 (.all (.alt 11 (.take 12 (.take 13 .done)) .stop)) .stop)) .stop))) (.alt 9 (.all (.alt 3 (.all (.alt 5 (.all (.alt 11 (.take 12 (.take 13 .done)) .stop)) .stop)) .stop)) .stop))) (.alt 9 (.all (.alt 2 (.all (.alt 3 (.all (.alt 5 (.all (.alt 11 (.take 12 (.take 13 .done)) .stop)) .stop)) .stop)) .stop)) .stop))) .stop))) (.alt 8 (.all (.alt 1 (.all (.alt 2 (.all (.alt 3 (.all (.alt 5 (.all (.alt 9 (.all (.alt 11 (.take 12 (.take 13 .done)) .stop)) .stop)) (.alt 9 (.all (.alt 5 (.all (.alt 11 (.take 12 (.take 13 .done)) .stop)) .stop)) .stop))) (.alt 9 (.all (.alt 3 (.all (.alt 5 (.all (.alt 11 (.take 12 (.take 13 .done)) .stop)) .stop)) .stop)) .stop))) (.alt 9 (.all (.alt 2 (.all (.alt 3 (.all (.alt 5 (.all (.alt 11 (.take 12 (.take 13 .done)) .stop)) .stop)) .stop)) .stop)) .stop))) (.alt 9 (.all (.alt 1 (.all (.alt 2 (.all (.alt 3 (.all (.alt 5 (.all (.alt 11 (.take 12 (.take 13 .done)) .stop)) .stop)) .stop)) .stop)) .stop)) .stop))) .stop))) .stop))))))) ([0,1,2,4,0,24,0,64,128,256,0,1568,2111,8191],[0,1,2,4,0,24,0,64,128,256,0,1536,32,2048]) 13393 [(2,{ cs:=cS_PrepressCond (a0.f4.getD (0:Int).toNat z_PrepressCond) }),(5,{ res:=dI y3 }),(8,{ cs:=cS_PrepressCond (a0.f4.getD (1:Int).toNat z_PrepressCond) }),(11,{ res:=dI y4 })] [5,6,7] [] [(5,dI v4),(6,dI y3),(7,dI y4)] ((fun (o2:Prop)=>fun (o5:Prop)=>fun (o8:Prop)=>fun (o11:Prop)=>[(5,o2),(1,o5),(1,o8),(1,o11),(3,o5),(0,o8),(1,o11),(2,o8),(0,o5),(1,o11),(3,o5),(0,o11),(4,o5),(0,o8),(1,o11),(2,o8),(0,o5),(1,o11),(3,o5),(0,o11),(2,o8),(1,o5),(1,o11),(3,o5),(0,o11),(4,o5),(0,o11),(3,o2),(1,o5),(0,o8),(1,o11),(2,o8),(0,o5),(1,o11),(3,o5),(0,o11),(2,o8),(1,o5),(1,o11),(3,o5),(0,o11),(4,o5),(0,o11),(2,o8),(0,o2),(1,o5),(1,o11),(3,o5),(0,o11),(4,o5),(0,o11),(3,o2),(1,o5),(0,o11),(4,o2),(1,o5),(0,o8),(1,o11),(2,o8),(0,o5),(1,o11),(3,o5),(0,o11),(2,o8),(1,o5),(1,o11),(3,o5),(0,o11),(4,o5),(0,o11),(2,o8),(0,o2),(1,o5),(1,o11),(3,o5),(0,o11),(4,o5),(0,o11),(3,o2),(1,o5),(0,o11),(2,o8),(1,o2),(1,o5),(1,o11),(3,o5),(0,o11),(4,o5),(0,o11),(3,o2),(1,o5),(0,o11),(4,o2),(1,o5),(0,o11)]) (0≤(0:Int)∧(a0.f4.map rS_PrepressCond)[(0:Int).toNat]? = some (cS_PrepressCond (a0.f4.getD (0:Int).toNat z_PrepressCond))) (ACall Tryz.prog 33 [.agg (cS_PrepressCond (a0.f4.getD (0:Int).toNat z_PrepressCond)),.d (.sl 2 (a1.map cS_PrepressFact))] [] (dI y3) []) (0≤(1:Int)∧(a0.f4.map rS_PrepressCond)[(1:Int).toNat]? = some (cS_PrepressCond (a0.f4.getD (1:Int).toNat z_PrepressCond))) (ACall Tryz.prog 33 [.agg (cS_PrepressCond (a0.f4.getD (1:Int).toNat z_PrepressCond)),.d (.sl 2 (a1.map cS_PrepressFact))] [] (dI y4) [])) 2 (by kernel_rfl) (by kernel_rfl) (by kernel_rfl) (have p2:=idx_okR (d:=z_PrepressCond) rS_PrepressCond_eq hp3; have p5:=hrec_prepress_truth hy2; have p8:=idx_okR (d:=z_PrepressCond) rS_PrepressCond_eq hp4; have p11:=hrec_prepress_truth hy3; ⟨p2,p5,p8,p11,p5,p8,p11,p8,p5,p11,p5,p11,p5,p8,p11,p8,p5,p11,p5,p11,p8,p5,p11,p5,p11,p5,p11,p2,p5,p8,p11,p8,p5,p11,p5,p11,p8,p5,p11,p5,p11,p5,p11,p8,p2,p5,p11,p5,p11,p5,p11,p2,p5,p11,p2,p5,p8,p11,p8,p5,p11,p5,p11,p8,p5,p11,p5,p11,p5,p11,p8,p2,p5,p11,p5,p11,p5,p11,p2,p5,p11,p8,p2,p5,p11,p5,p11,p5,p11,p2,p5,p11,p2,p5,p11⟩) ?_
          refine T_seqk ?_
          refine T_block ?_
          refine T_reg [] [5,6,7,45] [(45,dB (bif (y3 == v4) then true else (y4 == v4)))] [(4,((((y3 == v4) == false) && true)=true→True)),(0,((((y3 == v4) == false) && true)=true→True)),(0,((((y3 == v4) == false) && true)=true→True))] 2 (by kernel_rfl) (⟨(fun hg=>trivial),(fun hg=>trivial),(fun hg=>trivial)⟩) ?_
          refine T_cond (bif (y3 == v4) then true else (y4 == v4)) (by kernel_rfl) (fun hc=>?_) (fun hc=>?_)
          · have h:=cond_tt hc h
            refine T_reg [] [4] [(4,dI v4)] [] 2 (by kernel_rfl) (trivial) ?_
            obtain hs:=Option.some.inj h; subst hs
            refine T_ret fun a w hm=>inBlock_ret (then_ret (inBlock_ret (then_ret (T_return (fr':=[(4,dI v4)]) [4] (by kernel_rfl) [.keep [4]] (by kernel_rfl) (by kernel_rfl) (by kernel_rfl) (by show _=_; kernel_rfl) (by exact trivial) a w hm))))
          · have h:=cond_ff hc h
            refine T_reg [] [6,55] [(55,dB (bif (y3 == (2:Int)) then true else (y4 == (2:Int))))] [(3,((((y3 == (2:Int)) == false) && true)=true→True)),(0,((((y3 == (2:Int)) == false) && true)=true→True))] 2 (by kernel_rfl) (⟨(fun hg=>trivial),(fun hg=>trivial)⟩) ?_
            refine T_cond (bif (y3 == (2:Int)) then true else (y4 == (2:Int))) (by kernel_rfl) (fun hc=>?_) (fun hc=>?_)
            · have h:=cond_tt hc h
              refine T_reg [] [4] [(4,dI (2:Int))] [] 1 (by kernel_rfl) (trivial) ?_
              obtain hs:=Option.some.inj h; subst hs
              refine T_ret fun a w hm=>inBlock_ret (then_ret (inBlock_ret (then_ret (T_return (fr':=[(4,dI (2:Int))]) [4] (by kernel_rfl) [.keep [4]] (by kernel_rfl) (by kernel_rfl) (by kernel_rfl) (by show _=_; kernel_rfl) (by exact trivial) a w hm))))
            · have h:=cond_ff hc h
              refine T_skip fun a w hm=>inBlock_norm (then_norm (((?_:T Tryz.prog e 107 _ _ _) a w hm)))
              refine T_reg [] [4] [(4,dI y3)] [] 2 (by kernel_rfl) (trivial) ?_
              obtain hs:=Option.some.inj h; subst hs
              refine T_ret fun a w hm=>inBlock_ret (then_ret (T_return (fr':=[(4,dI y3)]) [4] (by kernel_rfl) [.keep [4]] (by kernel_rfl) (by kernel_rfl) (by kernel_rfl) (by show _=_; kernel_rfl) (by exact trivial) a w hm))
      · have h:=cond_ff hc h
        refine T_skip fun a w hm=>inBlock_norm (then_norm (((?_:T Tryz.prog e 107 _ _ _) a w hm)))
        refine T_reg [] [1,2,8] [(8,dI (0:Int))] [] 1 (by kernel_rfl) (trivial) ?_
        refine T_seqk ?_
        refine T_reg [(2,{ rw:=some (dI (a0.f1.length:Int)) })] [1,2,8,64,65,66] [(64,.d (.sl 2 (a0.f1.map cS_PrepressTerm))),(65,dI (a0.f1.length:Int)),(66,dI (0:Int))] [(2,True∧dI ((a0.f1.map cS_PrepressTerm).length:Int)=dI (a0.f1.length:Int))] 1 (by kernel_rfl) (len_ok cS_PrepressTerm) ?_
        refine T_joinEt h (fun (p:Int)=>[(2,bx_PrepressCond a0),(8,dI p)]) (fun s h hk1=>?_) (fun v5 h=>?_)
        · refine T_co [.keep [1,2,8,64,65,66]] ((fun (p:Int×Int)=>[(1,.d (.sl 2 (a1.map cS_PrepressFact))),(2,bx_PrepressCond a0),(8,dI p.1),(64,.d (.sl 2 (a0.f1.map cS_PrepressTerm))),(65,dI (a0.f1.length:Int)),(66,dI p.2)]) ((0:Int),(0:Int))) (by show _=_; kernel_rfl) ?_
          refine T_block ?_
          refine T_loopF (ι:=Int×Int) (fun (p:Int×Int)=>[(1,.d (.sl 2 (a1.map cS_PrepressFact))),(2,bx_PrepressCond a0),(8,dI p.1),(64,.d (.sl 2 (a0.f1.map cS_PrepressTerm))),(65,dI (a0.f1.length:Int)),(66,dI p.2)]) (fun n p=>prepress_truth_L2 F a0 a1 n p.1 p.2=some s) (fun i hh=>by simp [prepress_truth_L2] at hh) (fun n p h=>?_) F ((0:Int),(0:Int)) h
          obtain ⟨v1,v2⟩:=p
          have h:prepress_truth_L2 F a0 a1 (n+1) v1 v2=some s:=h
          rw [prepress_truth_L2] at h
          refine T_reg [] [1,2,8,64,65,66,67] [(67,dB (decide (v2 < (a0.f1.length:Int))))] [] 1 (by kernel_rfl) (trivial) ?_
          refine T_seqk ?_
          refine T_cond (decide (v2 < (a0.f1.length:Int))) (by kernel_rfl) (fun hc=>?_) (fun hc=>?_)
          · have h:=cond_tt hc h
            refine T_skip fun a w hm=>then_norm (((?_:T Tryz.prog e 107 _ _ _) a w hm))
            refine T_seqk ?_
            refine T_block ?_
            obtain ⟨hp5,h⟩:=chk_ok h
            refine T_reg [(0,{ cs:=cS_PrepressTerm (a0.f1.getD v2.toNat z_PrepressTerm) })] [1,2,8,10,64,65,66] [(10,.box [dI ((a0.f1.getD v2.toNat z_PrepressTerm).f0),.d (.str ((a0.f1.getD v2.toNat z_PrepressTerm).f1))])] [(0,0≤v2∧(a0.f1.map cS_PrepressTerm)[v2.toNat]? = some (cS_PrepressTerm (a0.f1.getD v2.toNat z_PrepressTerm)))] 3 (by kernel_rfl) (idx_ok (d:=z_PrepressTerm) cS_PrepressTerm hp5) ?_
            obtain ⟨y1,hy4,h⟩:=call_ok h
            refine T_reg [(3,{ res:=.tup [dI y1.1,dB y1.2] })] [1,2,8,10,11,12,64,65,66] [(11,dI y1.1),(12,dB y1.2)] [(3,ACall Tryz.prog 38 [.d (.sl 2 (a1.map cS_PrepressFact)),.d (.str ((a0.f1.getD v2.toNat z_PrepressTerm).f1))] [] (.tup [dI y1.1,dB y1.2]) [])] 5 (by kernel_rfl) (prepress_known_value_ok hy4) ?_
            refine T_seqk ?_
            refine T_reg [] [1,2,8,10,11,64,65,66,78] [(78,dB (!y1.2))] [] 2 (by kernel_rfl) (trivial) ?_
            refine T_cond (!y1.2) (by kernel_rfl) (fun hc=>?_) (fun hc=>?_)
            · have h:=cond_tt hc h
              refine T_reg [] [4] [(4,dI (2:Int))] [] 1 (by kernel_rfl) (trivial) ?_
              obtain hs:=Option.some.inj h; subst hs
              have h:=callE_esc hk1
              obtain hs:=Option.some.inj h; subst hs
              refine T_ret fun a w hm=>then_ret (inBlock_ret (then_ret (then_ret (inBlock_ret (then_ret (then_ret (T_return (fr':=[(4,dI (2:Int))]) [4] (by kernel_rfl) [.keep [4]] (by kernel_rfl) (by kernel_rfl) (by kernel_rfl) (by show _=_; kernel_rfl) (by exact trivial) a w hm)))))))
            · have h:=cond_ff hc h
              refine T_skip fun a w hm=>then_norm (((?_:T Tryz.prog e 107 _ _ _) a w hm))
              obtain ⟨z1,hz1,h⟩:=lett_ok h
              refine T_reg_end [(5,{ rw:=some (dI z1) })] [1,2,8,64,65,66] [(8,dI z1)] [(5,(True)∧dI (IntKind.i64.wrap (v1+(IntKind.i64.wrap (((a0.f1.getD v2.toNat z_PrepressTerm).f0) * y1.1))))=dI z1)] 1 (by kernel_rfl) (⟨trivial,(by subst hz1; rfl)⟩) fun a w hm=>inBlock_norm (then_norm (((?_:T Tryz.prog e 107 _ _ _) a w hm)))
              refine T_reg_end [] [1,2,8,64,65,66] [(66,dI (IntKind.i64.wrap (v2+(1:Int))))] [] 2 (by kernel_rfl) (trivial) fun a w hm=>then_norm (⟨(z1,IntKind.i64.wrap (v2+(1:Int))),h,hm.co (cs:=[.keep [1,2,8,64,65,66]]) (by show _=_; kernel_rfl)⟩)
          · have h:=cond_ff hc h
            obtain hs:=Option.some.inj h; subst hs
            refine T_exit fun a w hm=>then_exit (then_exit (inBlock_exit (then_norm (⟨_,rfl,hm.co (cs:=[.keep [2,8]]) (by show _=_; kernel_rfl)⟩))))
        · skip
          refine fun a w hm=>then_norm (((?_:T Tryz.prog e 107 _ _ _) a w hm))
          obtain ⟨y5,hy5,h⟩:=call_ok h
          refine T_reg [(3,{ res:=dI y5 })] [2,13] [(13,dI y5)] [(3,ACall Tryz.prog 56 [dI v5,dI a0.f3] [] (dI y5) [])] 1 (by kernel_rfl) (cmp_Compare_int_ok hy5) ?_
          refine T_seqk ?_
          obtain ⟨hp6,h⟩:=chk_ok h
          obtain ⟨z2,hz2,h⟩:=lett_ok h
          refine T_reg [(12,{ es:=some (([(decide (y5 < (0:Int))),(decide (y5≤(0:Int))),(y5 == (0:Int)),(y5 != (0:Int)),(decide (y5 ≥ (0:Int))),(decide (y5 > (0:Int)))]).map cB) }),(16,{ cs:=cB (([(decide (y5 < (0:Int))),(decide (y5≤(0:Int))),(y5 == (0:Int)),(y5 != (0:Int)),(decide (y5 ≥ (0:Int))),(decide (y5 > (0:Int)))]).getD a0.f2.toNat false),rw:=some (dB z2) })] [106] [(106,dB z2)] [(12,(([(decide (y5 < (0:Int))),(decide (y5≤(0:Int))),(y5 == (0:Int)),(y5 != (0:Int)),(decide (y5 ≥ (0:Int))),(decide (y5 > (0:Int)))]).map cB)=(([(decide (y5 < (0:Int))),(decide (y5≤(0:Int))),(y5 == (0:Int)),(y5 != (0:Int)),(decide (y5 ≥ (0:Int))),(decide (y5 > (0:Int)))]).map cB)),(2,0≤a0.f2∧a0.f2 < (([(decide (y5 < (0:Int))),(decide (y5≤(0:Int))),(y5 == (0:Int)),(y5 != (0:Int)),(decide (y5 ≥ (0:Int))),(decide (y5 > (0:Int)))]).map cB).length),(0,((([(decide (y5 < (0:Int))),(decide (y5≤(0:Int))),(y5 == (0:Int)),(y5 != (0:Int)),(decide (y5 ≥ (0:Int))),(decide (y5 > (0:Int)))]).map cB)[a0.f2.toNat]? = some (cB (([(decide (y5 < (0:Int))),(decide (y5≤(0:Int))),(y5 == (0:Int)),(y5 != (0:Int)),(decide (y5 ≥ (0:Int))),(decide (y5 > (0:Int)))]).getD a0.f2.toNat false)))∧dB (([(decide (y5 < (0:Int))),(decide (y5≤(0:Int))),(y5 == (0:Int)),(y5 != (0:Int)),(decide (y5 ≥ (0:Int))),(decide (y5 > (0:Int)))]).getD a0.f2.toNat false)=dB z2)] 0 (by kernel_rfl) (⟨rfl,own_idx cB hp6,⟨(idx_ok (d:=false) cB hp6).2,(by subst hz2; rfl)⟩⟩) ?_
          refine T_cond z2 (by kernel_rfl) (fun hc=>?_) (fun hc=>?_)
          · have h:=cond_tt hc h
            refine T_reg [] [4] [(4,dI (1:Int))] [] 1 (by kernel_rfl) (trivial) ?_
            obtain hs:=Option.some.inj h; subst hs
            refine T_ret fun a w hm=>then_ret (T_return (fr':=[(4,dI (1:Int))]) [4] (by kernel_rfl) [.keep [4]] (by kernel_rfl) (by kernel_rfl) (by kernel_rfl) (by show _=_; kernel_rfl) (by exact trivial) a w hm)
          · have h:=cond_ff hc h
            refine T_skip fun a w hm=>then_norm (((?_:T Tryz.prog e 107 _ _ _) a w hm))
            refine T_reg [] [4] [(4,dI (0:Int))] [] 1 (by kernel_rfl) (trivial) ?_
            obtain hs:=Option.some.inj h; subst hs
            refine T_ret fun a w hm=>T_return (fr':=[(4,dI (0:Int))]) [4] (by kernel_rfl) [.keep [4]] (by kernel_rfl) (by kernel_rfl) (by kernel_rfl) (by show _=_; kernel_rfl) (by exact trivial) a w hm
theorem prepress_truth_fuel_ok {F:Nat} (n:Nat):∀ {a0:S_PrepressCond} {a1:List S_PrepressFact} {r:Int},prepress_truth_fuel F n a0 a1=some r→ACall Tryz.prog 33 [.agg (cS_PrepressCond a0),.d (.sl 2 (a1.map cS_PrepressFact))] [] (.d (.v (.int .i64 r))) []:=by
  induction n with
  | zero=>intro a0 a1 r h; exact absurd (show (none:Option Int)=some r from h) (by simp)
  | succ n ih=>intro a0 a1 r h; exact prepress_truth_body_ok ih h
theorem prepress_truth_ok {F:Nat} {a0:S_PrepressCond} {a1:List S_PrepressFact} {r:Int} (h:prepress_truth F a0 a1=some r):ACall Tryz.prog 33 [.agg (cS_PrepressCond a0),.d (.sl 2 (a1.map cS_PrepressFact))] [] (.d (.v (.int .i64 r))) []:=prepress_truth_fuel_ok F h
theorem slices_Clone_PrepressFact_ok {F:Nat} {a0:List S_PrepressFact} {r:(List S_PrepressFact)} (h:slices_Clone_PrepressFact F a0=some r):ACall Tryz.prog 57 [.d (.sl 2 (a0.map cS_PrepressFact))] [] (.own 51 2 (r.map cS_PrepressFact)) []:=by
  rw [slices_Clone_PrepressFact] at h
  refine ACall.intro (N:=8) Tryz.func57 rfl rfl rfl rfl rfl fun e=>?_
  refine T_reg [] [0] [] [] 1 (by kernel_rfl) (trivial) ?_
  refine T_seqk ?_
  refine T_nilTest (sz:=2) (es:=(a0.map cS_PrepressFact)) 0 3 4 75 (by kernel_rfl) (by kernel_rfl) (by kernel_rfl) (by kernel_rfl) [0] [(0,.d (.sl 2 (a0.map cS_PrepressFact)))] (fun _=>by kernel_rfl) (fun hnil=>?_) ?_
  · replace hnil:=List.map_eq_nil_iff.1 hnil
    have h:(some [])=some r:=by subst hnil; exact h
    refine T_reg [] [2] [(2,oW4 [])] [] 1 (by kernel_rfl) (trivial) ?_
    obtain hs:=Option.some.inj h; subst hs
    refine T_ret fun a w hm=>then_ret (T_return (fr':=[(2,oW4 [])]) [2] (by kernel_rfl) [.keep [2]] (by kernel_rfl) (by kernel_rfl) (by kernel_rfl) (by show _=_; kernel_rfl) (by exact trivial) a w hm)
  · skip
    refine T_skip fun a w hm=>then_norm (((?_:T Tryz.prog e 8 _ _ _) a w hm))
    obtain ⟨hp1,h⟩:=chk_ok h
    refine T_reg [(2,{ es:=some ((([]:List S_PrepressFact)++a0).map cS_PrepressFact) })] [2] [(2,.own 51 2 ((([]:List S_PrepressFact)++a0).map cS_PrepressFact))] [(0,([]:List (List Dat))=[]),(1,(([]:List S_PrepressFact).map cS_PrepressFact).length+(a0.map cS_PrepressFact).length≤4294967296∧(([]:List S_PrepressFact).map cS_PrepressFact)++(a0.map cS_PrepressFact)=((([]:List S_PrepressFact)++a0).map cS_PrepressFact))] 1 (by kernel_rfl) (⟨rfl,app_ok cS_PrepressFact hp1⟩) ?_
    obtain hs:=Option.some.inj h; subst hs
    refine T_ret fun a w hm=>T_return (fr':=[(2,.own 51 2 ((([]:List S_PrepressFact)++a0).map cS_PrepressFact))]) [2] (by kernel_rfl) [.keep [2]] (by kernel_rfl) (by kernel_rfl) (by kernel_rfl) (by show _=_; kernel_rfl) (by exact trivial) a w hm
theorem prepress_because_ok {F:Nat} {a0:S_PrepressCond} {a1:List S_PrepressFact} {r:(List (List UInt8))} (h:prepress_because F a0 a1=some r):ACall Tryz.prog 36 [.agg (cS_PrepressCond a0),.d (.sl 2 (a1.map cS_PrepressFact))] [] (.own 9 1 (r.map cS)) []:=by
  rw [prepress_because] at h
  refine ACall.intro (N:=42) Tryz.func36 rfl rfl rfl rfl rfl fun e=>?_
  refine T_reg [] [1,2] [(2,bx_PrepressCond a0)] [] 2 (by kernel_rfl) (trivial) ?_
  obtain ⟨y3,hy1,h⟩:=call_ok h
  refine T_reg [(1,{ res:=oW4 y3 })] [1,2] [(1,oW4 y3)] [(1,ACall Tryz.prog 57 [.d (.sl 2 (a1.map cS_PrepressFact))] [] (oW4 y3) [])] 1 (by kernel_rfl) (slices_Clone_PrepressFact_ok hy1) ?_
  refine T_seqk ?_
  refine T_reg [] [1,2,5] [(5,dI (0:Int))] [] 1 (by kernel_rfl) (trivial) ?_
  refine T_joinct h (fun (p:(List S_PrepressFact))=>[(1,.d (.sl 2 (p.map cS_PrepressFact)))]) (fun s h=>?_) (fun v3 h=>?_)
  · refine T_co [.thaw 1,.keep [1,2,5]] ((fun (p:(List S_PrepressFact)×Int)=>[(1,.d (.sl 2 (p.1.map cS_PrepressFact))),(2,bx_PrepressCond a0),(5,dI p.2)]) (y3,(0:Int))) (by show _=_; kernel_rfl) ?_
    refine T_block ?_
    refine T_loopF (ι:=(List S_PrepressFact)×Int) (fun (p:(List S_PrepressFact)×Int)=>[(1,.d (.sl 2 (p.1.map cS_PrepressFact))),(2,bx_PrepressCond a0),(5,dI p.2)]) (fun n p=>prepress_because_L0 F a0 n p.1 p.2=some s) (fun i hh=>by simp [prepress_because_L0] at hh) (fun n p h=>?_) F (y3,(0:Int)) h
    obtain ⟨v1,v2⟩:=p
    have h:prepress_because_L0 F a0 (n+1) v1 v2=some s:=h
    rw [prepress_because_L0] at h
    refine T_seqk ?_
    refine T_reg [(2,{ rw:=some (dI (v1.length:Int)) })] [1,2,5,15] [(15,dB (decide (v2 < (v1.length:Int))))] [(2,True∧dI ((v1.map cS_PrepressFact).length:Int)=dI (v1.length:Int))] 1 (by kernel_rfl) (len_ok cS_PrepressFact) ?_
    refine T_cond (decide (v2 < (v1.length:Int))) (by kernel_rfl) (fun hc=>?_) (fun hc=>?_)
    · have h:=cond_tt hc h
      refine T_skip fun a w hm=>then_norm (((?_:T Tryz.prog e 42 _ _ _) a w hm))
      refine T_block ?_
      refine T_seqk ?_
      obtain ⟨y1,hy2,h⟩:=call_ok h
      obtain ⟨hp1,h⟩:=chk_ok h
      refine T_reg [(1,{ res:=oW4 y1 }),(5,{ take:=[0],res:=.own 51 2 ((y1.take v2.toNat++y1.drop (IntKind.i64.wrap (v2+(1:Int))).toNat).map cS_PrepressFact) })] [1,2,5,6] [(6,.own 51 2 ((y1.take v2.toNat++y1.drop (IntKind.i64.wrap (v2+(1:Int))).toNat).map cS_PrepressFact))] [(1,ACall Tryz.prog 57 [.d (.sl 2 (v1.map cS_PrepressFact))] [] (oW4 y1) []),(3,ACall Tryz.prog 58 [oW4 y1,dI v2,dI (IntKind.i64.wrap (v2+(1:Int)))] [] (.own 51 2 ((y1.take v2.toNat++y1.drop (IntKind.i64.wrap (v2+(1:Int))).toNat).map cS_PrepressFact)) [])] 1 (by kernel_rfl) (⟨slices_Clone_PrepressFact_ok hy2,b_Delete_58 hp1⟩) ?_
      obtain ⟨y2,hy3,h⟩:=call_ok h
      refine T_reg [(2,{ res:=dI y2 })] [1,2,5,6,25] [(25,dB (y2 == (0:Int)))] [(2,ACall Tryz.prog 33 [.agg (cS_PrepressCond a0),.d (.sl 2 ((y1.take v2.toNat++y1.drop (IntKind.i64.wrap (v2+(1:Int))).toNat).map cS_PrepressFact))] [] (dI y2) [])] 1 (by kernel_rfl) (prepress_truth_ok hy3) ?_
      refine T_cond (y2 == (0:Int)) (by kernel_rfl) (fun hc=>?_) (fun hc=>?_)
      · have h:=cond_tt hc h
        refine T_reg [] [1,2,5,6] [(1,.vw (6,0))] [] 2 (by kernel_rfl) (trivial) ?_
        refine T_exit fun a w hm=>then_exit (inBlock_exit (then_norm (⟨((y1.take v2.toNat++y1.drop (IntKind.i64.wrap (v2+(1:Int))).toNat),v2),h,hm.co (cs:=[.thaw 1,.keep [1,2,5]]) (by show _=_; kernel_rfl)⟩)))
      · have h:=cond_ff hc h
        refine T_skip fun a w hm=>then_norm (((?_:T Tryz.prog e 42 _ _ _) a w hm))
        refine T_reg_end [] [1,2,5] [(5,dI (IntKind.i64.wrap (v2+(1:Int))))] [] 3 (by kernel_rfl) (trivial) fun a w hm=>inBlock_norm (then_norm (⟨(v1,IntKind.i64.wrap (v2+(1:Int))),h,hm.co (cs:=[.keep [1,2,5]]) (by show _=_; kernel_rfl)⟩))
    · have h:=cond_ff hc h
      obtain hs:=Option.some.inj h; subst hs
      refine T_exit fun a w hm=>then_exit (then_exit (inBlock_exit (then_norm (hm.co (cs:=[.keep [1]]) (by show _=_; kernel_rfl)))))
  · skip
    refine fun a w hm=>then_norm (((?_:T Tryz.prog e 42 _ _ _) a w hm))
    refine T_reg [] [1,7] [(7,oW2 [])] [] 1 (by kernel_rfl) (trivial) ?_
    refine T_seqk ?_
    refine T_reg [(1,{ rw:=some (dI (v3.length:Int)) })] [7,29,30,31] [(29,.d (.sl 2 (v3.map cS_PrepressFact))),(30,dI (v3.length:Int)),(31,dI (0:Int))] [(1,True∧dI ((v3.map cS_PrepressFact).length:Int)=dI (v3.length:Int))] 1 (by kernel_rfl) (len_ok cS_PrepressFact) ?_
    refine T_joinct h (fun (p:(List (List UInt8)))=>[(7,oW2 p)]) (fun s h=>?_) (fun v6 h=>?_)
    · refine T_co [.keep [7,29,30,31]] ((fun (p:(List (List UInt8))×Int)=>[(7,oW2 p.1),(29,.d (.sl 2 (v3.map cS_PrepressFact))),(30,dI (v3.length:Int)),(31,dI p.2)]) ([],(0:Int))) (by show _=_; kernel_rfl) ?_
      refine T_block ?_
      refine T_loopF (ι:=(List (List UInt8))×Int) (fun (p:(List (List UInt8))×Int)=>[(7,oW2 p.1),(29,.d (.sl 2 (v3.map cS_PrepressFact))),(30,dI (v3.length:Int)),(31,dI p.2)]) (fun n p=>prepress_because_L2 F v3 n p.1 p.2=some s) (fun i hh=>by simp [prepress_because_L2] at hh) (fun n p h=>?_) F ([],(0:Int)) h
      obtain ⟨v4,v5⟩:=p
      have h:prepress_because_L2 F v3 (n+1) v4 v5=some s:=h
      rw [prepress_because_L2] at h
      refine T_reg [] [7,29,30,31,32] [(32,dB (decide (v5 < (v3.length:Int))))] [] 1 (by kernel_rfl) (trivial) ?_
      refine T_seqk ?_
      refine T_cond (decide (v5 < (v3.length:Int))) (by kernel_rfl) (fun hc=>?_) (fun hc=>?_)
      · have h:=cond_tt hc h
        refine T_skip fun a w hm=>then_norm (((?_:T Tryz.prog e 42 _ _ _) a w hm))
        refine T_seqk ?_
        refine T_block ?_
        obtain ⟨hp2,h⟩:=chk_ok h
        refine T_reg [(0,{ cs:=cS_PrepressFact (v3.getD v5.toNat z_PrepressFact) })] [7,9,29,30,31] [(9,.box [.d (.str ((v3.getD v5.toNat z_PrepressFact).f0)),dI ((v3.getD v5.toNat z_PrepressFact).f1)])] [(0,0≤v5∧(v3.map cS_PrepressFact)[v5.toNat]? = some (cS_PrepressFact (v3.getD v5.toNat z_PrepressFact)))] 3 (by kernel_rfl) (idx_ok (d:=z_PrepressFact) cS_PrepressFact hp2) ?_
        obtain ⟨hp3,h⟩:=chk_ok h
        refine T_reg_end [(3,{ es:=some (([(v3.getD v5.toNat z_PrepressFact).f0]).map cS) }),(4,{ es:=some ((v4++([(v3.getD v5.toNat z_PrepressFact).f0])).map cS) })] [7,29,30,31] [(7,.own 9 1 ((v4++([(v3.getD v5.toNat z_PrepressFact).f0])).map cS))] [(3,(([(v3.getD v5.toNat z_PrepressFact).f0]).map cS)=(([(v3.getD v5.toNat z_PrepressFact).f0]).map cS)),(0,(v4.map cS).length+(([(v3.getD v5.toNat z_PrepressFact).f0]).map cS).length≤4294967296∧(v4.map cS)++(([(v3.getD v5.toNat z_PrepressFact).f0]).map cS)=((v4++([(v3.getD v5.toNat z_PrepressFact).f0])).map cS))] 1 (by kernel_rfl) (⟨rfl,app_ok cS hp3⟩) fun a w hm=>inBlock_norm (then_norm (((?_:T Tryz.prog e 42 _ _ _) a w hm)))
        refine T_reg_end [] [7,29,30,31] [(31,dI (IntKind.i64.wrap (v5+(1:Int))))] [] 2 (by kernel_rfl) (trivial) fun a w hm=>then_norm (⟨((v4++([(v3.getD v5.toNat z_PrepressFact).f0])),IntKind.i64.wrap (v5+(1:Int))),h,hm.co (cs:=[.keep [7,29,30,31]]) (by show _=_; kernel_rfl)⟩)
      · have h:=cond_ff hc h
        obtain hs:=Option.some.inj h; subst hs
        refine T_exit fun a w hm=>then_exit (then_exit (inBlock_exit (then_norm (hm.co (cs:=[.keep [7]]) (by show _=_; kernel_rfl)))))
    · skip
      refine fun a w hm=>then_norm (((?_:T Tryz.prog e 42 _ _ _) a w hm))
      refine T_reg [] [4,7] [(4,.vw (7,0))] [] 2 (by kernel_rfl) (trivial) ?_
      obtain hs:=Option.some.inj h; subst hs
      refine T_ret fun a w hm=>T_return (fr':=[(4,oW2 v6)]) [4] (by kernel_rfl) [.claim 4,.keep [4]] (by kernel_rfl) (by kernel_rfl) (by kernel_rfl) (by show _=_; kernel_rfl) (by exact trivial) a w hm
theorem prepress_names_body_ok {F:Nat} {rec_prepress_names:S_PrepressCond→(List (List UInt8))→Option ((List (List UInt8)))} (hrec_prepress_names:∀ {a0:S_PrepressCond},∀ {a1:List (List UInt8)},∀ {r:(List (List UInt8))},rec_prepress_names a0 a1=some r→ACall Tryz.prog 37 [.agg (cS_PrepressCond a0),.own 9 1 (a1.map cS)] [] (.own 9 1 (r.map cS)) []) {a0:S_PrepressCond} {a1:List (List UInt8)} {r:(List (List UInt8))} (h:prepress_names_body F rec_prepress_names a0 a1=some r):ACall Tryz.prog 37 [.agg (cS_PrepressCond a0),.own 9 1 (a1.map cS)] [] (.own 9 1 (r.map cS)) []:=by
  rw [prepress_names_body] at h
  refine ACall.intro (N:=34) Tryz.func37 rfl rfl rfl rfl rfl fun e=>?_
  refine T_reg [] [1,2] [(2,bx_PrepressCond a0)] [] 2 (by kernel_rfl) (trivial) ?_
  refine T_seqk ?_
  refine T_reg [(2,{ rw:=some (dI (a0.f1.length:Int)) })] [1,2,10,11,12] [(10,.d (.sl 2 (a0.f1.map cS_PrepressTerm))),(11,dI (a0.f1.length:Int)),(12,dI (0:Int))] [(2,True∧dI ((a0.f1.map cS_PrepressTerm).length:Int)=dI (a0.f1.length:Int))] 1 (by kernel_rfl) (len_ok cS_PrepressTerm) ?_
  refine T_joinct h (fun (p:(List (List UInt8)))=>[(1,oW2 p),(2,bx_PrepressCond a0)]) (fun s h=>?_) (fun v5 h=>?_)
  · refine T_co [.keep [1,2,10,11,12]] ((fun (p:(List (List UInt8))×Int)=>[(1,oW2 p.1),(2,bx_PrepressCond a0),(10,.d (.sl 2 (a0.f1.map cS_PrepressTerm))),(11,dI (a0.f1.length:Int)),(12,dI p.2)]) (a1,(0:Int))) (by show _=_; kernel_rfl) ?_
    refine T_block ?_
    refine T_loopF (ι:=(List (List UInt8))×Int) (fun (p:(List (List UInt8))×Int)=>[(1,oW2 p.1),(2,bx_PrepressCond a0),(10,.d (.sl 2 (a0.f1.map cS_PrepressTerm))),(11,dI (a0.f1.length:Int)),(12,dI p.2)]) (fun n p=>prepress_names_L0 F a0 n p.1 p.2=some s) (fun i hh=>by simp [prepress_names_L0] at hh) (fun n p h=>?_) F (a1,(0:Int)) h
    obtain ⟨v1,v2⟩:=p
    have h:prepress_names_L0 F a0 (n+1) v1 v2=some s:=h
    rw [prepress_names_L0] at h
    refine T_reg [] [1,2,10,11,12,13] [(13,dB (decide (v2 < (a0.f1.length:Int))))] [] 1 (by kernel_rfl) (trivial) ?_
    refine T_seqk ?_
    refine T_cond (decide (v2 < (a0.f1.length:Int))) (by kernel_rfl) (fun hc=>?_) (fun hc=>?_)
    · have h:=cond_tt hc h
      refine T_skip fun a w hm=>then_norm (((?_:T Tryz.prog e 34 _ _ _) a w hm))
      refine T_seqk ?_
      refine T_block ?_
      obtain ⟨hp1,h⟩:=chk_ok h
      refine T_reg [(0,{ cs:=cS_PrepressTerm (a0.f1.getD v2.toNat z_PrepressTerm) })] [1,2,6,10,11,12] [(6,.box [dI ((a0.f1.getD v2.toNat z_PrepressTerm).f0),.d (.str ((a0.f1.getD v2.toNat z_PrepressTerm).f1))])] [(0,0≤v2∧(a0.f1.map cS_PrepressTerm)[v2.toNat]? = some (cS_PrepressTerm (a0.f1.getD v2.toNat z_PrepressTerm)))] 3 (by kernel_rfl) (idx_ok (d:=z_PrepressTerm) cS_PrepressTerm hp1) ?_
      obtain ⟨hp2,h⟩:=chk_ok h
      refine T_reg_end [(3,{ es:=some (([(a0.f1.getD v2.toNat z_PrepressTerm).f1]).map cS) }),(4,{ es:=some ((v1++([(a0.f1.getD v2.toNat z_PrepressTerm).f1])).map cS) })] [1,2,10,11,12] [(1,.own 9 1 ((v1++([(a0.f1.getD v2.toNat z_PrepressTerm).f1])).map cS))] [(3,(([(a0.f1.getD v2.toNat z_PrepressTerm).f1]).map cS)=(([(a0.f1.getD v2.toNat z_PrepressTerm).f1]).map cS)),(0,(v1.map cS).length+(([(a0.f1.getD v2.toNat z_PrepressTerm).f1]).map cS).length≤4294967296∧(v1.map cS)++(([(a0.f1.getD v2.toNat z_PrepressTerm).f1]).map cS)=((v1++([(a0.f1.getD v2.toNat z_PrepressTerm).f1])).map cS))] 1 (by kernel_rfl) (⟨rfl,app_ok cS hp2⟩) fun a w hm=>inBlock_norm (then_norm (((?_:T Tryz.prog e 34 _ _ _) a w hm)))
      refine T_reg_end [] [1,2,10,11,12] [(12,dI (IntKind.i64.wrap (v2+(1:Int))))] [] 2 (by kernel_rfl) (trivial) fun a w hm=>then_norm (⟨((v1++([(a0.f1.getD v2.toNat z_PrepressTerm).f1])),IntKind.i64.wrap (v2+(1:Int))),h,hm.co (cs:=[.keep [1,2,10,11,12]]) (by show _=_; kernel_rfl)⟩)
    · have h:=cond_ff hc h
      obtain hs:=Option.some.inj h; subst hs
      refine T_exit fun a w hm=>then_exit (then_exit (inBlock_exit (then_norm (hm.co (cs:=[.keep [1,2]]) (by show _=_; kernel_rfl)))))
  · skip
    refine fun a w hm=>then_norm (((?_:T Tryz.prog e 34 _ _ _) a w hm))
    refine T_seqk ?_
    refine T_reg [(2,{ rw:=some (dI (a0.f4.length:Int)) })] [1,23,24,25] [(23,.d (.sl 5 (a0.f4.map rS_PrepressCond))),(24,dI (a0.f4.length:Int)),(25,dI (0:Int))] [(2,True∧dI ((a0.f4.map rS_PrepressCond).length:Int)=dI (a0.f4.length:Int))] 1 (by kernel_rfl) (len_ok rS_PrepressCond) ?_
    refine T_joinct h (fun (p:(List (List UInt8)))=>[(1,oW2 p)]) (fun s h=>?_) (fun v6 h=>?_)
    · refine T_co [.keep [1,23,24,25]] ((fun (p:(List (List UInt8))×Int)=>[(1,oW2 p.1),(23,.d (.sl 5 (a0.f4.map rS_PrepressCond))),(24,dI (a0.f4.length:Int)),(25,dI p.2)]) (v5,(0:Int))) (by show _=_; kernel_rfl) ?_
      refine T_block ?_
      refine T_loopF (ι:=(List (List UInt8))×Int) (fun (p:(List (List UInt8))×Int)=>[(1,oW2 p.1),(23,.d (.sl 5 (a0.f4.map rS_PrepressCond))),(24,dI (a0.f4.length:Int)),(25,dI p.2)]) (fun n p=>prepress_names_L2 F a0 rec_prepress_names n p.1 p.2=some s) (fun i hh=>by simp [prepress_names_L2] at hh) (fun n p h=>?_) F (v5,(0:Int)) h
      obtain ⟨v3,v4⟩:=p
      have h:prepress_names_L2 F a0 rec_prepress_names (n+1) v3 v4=some s:=h
      rw [prepress_names_L2] at h
      refine T_reg [] [1,23,24,25,26] [(26,dB (decide (v4 < (a0.f4.length:Int))))] [] 1 (by kernel_rfl) (trivial) ?_
      refine T_seqk ?_
      refine T_cond (decide (v4 < (a0.f4.length:Int))) (by kernel_rfl) (fun hc=>?_) (fun hc=>?_)
      · have h:=cond_tt hc h
        refine T_skip fun a w hm=>then_norm (((?_:T Tryz.prog e 34 _ _ _) a w hm))
        refine T_seqk ?_
        refine T_block ?_
        obtain ⟨hp3,h⟩:=chk_ok h
        refine T_reg [(0,{ cs:=cS_PrepressCond (a0.f4.getD v4.toNat z_PrepressCond) })] [1,8,23,24,25] [(8,.box [dI ((a0.f4.getD v4.toNat z_PrepressCond).f0),.d (.sl 2 (((a0.f4.getD v4.toNat z_PrepressCond).f1).map cS_PrepressTerm)),dI ((a0.f4.getD v4.toNat z_PrepressCond).f2),dI ((a0.f4.getD v4.toNat z_PrepressCond).f3),.d (.sl 5 (((a0.f4.getD v4.toNat z_PrepressCond).f4).map rS_PrepressCond))])] [(0,0≤v4∧(a0.f4.map rS_PrepressCond)[v4.toNat]? = some (cS_PrepressCond (a0.f4.getD v4.toNat z_PrepressCond)))] 3 (by kernel_rfl) (idx_okR (d:=z_PrepressCond) rS_PrepressCond_eq hp3) ?_
        obtain ⟨y1,hy1,h⟩:=call_ok h
        refine T_reg_end [(2,{ res:=oW2 y1,take:=[1] })] [1,23,24,25] [(1,oW2 y1)] [(2,ACall Tryz.prog 37 [.agg (cS_PrepressCond (a0.f4.getD v4.toNat z_PrepressCond)),oW2 v3] [] (oW2 y1) [])] 1 (by kernel_rfl) (hrec_prepress_names hy1) fun a w hm=>inBlock_norm (then_norm (((?_:T Tryz.prog e 34 _ _ _) a w hm)))
        refine T_reg_end [] [1,23,24,25] [(25,dI (IntKind.i64.wrap (v4+(1:Int))))] [] 2 (by kernel_rfl) (trivial) fun a w hm=>then_norm (⟨(y1,IntKind.i64.wrap (v4+(1:Int))),h,hm.co (cs:=[.keep [1,23,24,25]]) (by show _=_; kernel_rfl)⟩)
      · have h:=cond_ff hc h
        obtain hs:=Option.some.inj h; subst hs
        refine T_exit fun a w hm=>then_exit (then_exit (inBlock_exit (then_norm (hm.co (cs:=[.keep [1]]) (by show _=_; kernel_rfl)))))
    · skip
      refine fun a w hm=>then_norm (((?_:T Tryz.prog e 34 _ _ _) a w hm))
      refine T_reg [] [1,4] [(4,.vw (1,0))] [] 2 (by kernel_rfl) (trivial) ?_
      obtain hs:=Option.some.inj h; subst hs
      refine T_ret fun a w hm=>T_return (fr':=[(4,oW2 v6)]) [4] (by kernel_rfl) [.claim 4,.keep [4]] (by kernel_rfl) (by kernel_rfl) (by kernel_rfl) (by show _=_; kernel_rfl) (by exact trivial) a w hm
theorem prepress_names_fuel_ok {F:Nat} (n:Nat):∀ {a0:S_PrepressCond} {a1:List (List UInt8)} {r:(List (List UInt8))},prepress_names_fuel F n a0 a1=some r→ACall Tryz.prog 37 [.agg (cS_PrepressCond a0),.own 9 1 (a1.map cS)] [] (.own 9 1 (r.map cS)) []:=by
  induction n with
  | zero=>intro a0 a1 r h; exact absurd (show (none:Option ((List (List UInt8))))=some r from h) (by simp)
  | succ n ih=>intro a0 a1 r h; exact prepress_names_body_ok ih h
theorem prepress_names_ok {F:Nat} {a0:S_PrepressCond} {a1:List (List UInt8)} {r:(List (List UInt8))} (h:prepress_names F a0 a1=some r):ACall Tryz.prog 37 [.agg (cS_PrepressCond a0),.own 9 1 (a1.map cS)] [] (.own 9 1 (r.map cS)) []:=prepress_names_fuel_ok F h
end Go.Vm.PreG
