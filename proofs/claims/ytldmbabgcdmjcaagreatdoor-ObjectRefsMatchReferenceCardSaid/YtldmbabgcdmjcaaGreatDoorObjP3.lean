import Derived.Test.YtldmbabgcdmjcaaGreatDoorObjP2
namespace Go.Vm.ObjG
open Go.Proofs
set_option maxRecDepth 20000
theorem ref3_Spelled_ok {F:Nat} {a0:S_Token} {r:(List UInt8)×Int} (h:ref3_Spelled F a0=some r):ACall Tryz.prog 27 [.agg (cS_Token a0)] [] (.tup [.d (.str r.1),.d (.v (.int .i64 r.2))]) []:=by
  rw [ref3_Spelled] at h
  refine ACall.intro (N:=283) Tryz.func27 rfl rfl rfl rfl rfl fun e=>?_
  refine T_reg [] [1] [(1,.box [.d (.v (.int .i64 a0.f0)),.d (.v (.int .i64 a0.f1)),.d (.str a0.f2),.d (.v (.int .i64 a0.f3)),.d (.v (.int .i64 a0.f4))])] [] 3 (by kernel_rfl) (trivial) ?_
  refine T_reg [] [1,4] [(4,.d (.v (.bool (bif (a0.f0 == (1:Int)) then true else (a0.f0 == (4:Int))))))] [(4,((((a0.f0 == (1:Int)) == false) && true)=true→True)),(0,((((a0.f0 == (1:Int)) == false) && true)=true→True)),(0,((((a0.f0 == (1:Int)) == false) && true)=true→True))] 2 (by kernel_rfl) (⟨(fun hg=>trivial),(fun hg=>trivial),(fun hg=>trivial)⟩) ?_
  obtain ⟨z7,hz1,h⟩:=lett_ok h
  refine T_reg [(12,{ rw:=some (.d (.v (.bool z7))) })] [1,4,5] [(5,.d (.v (.bool z7)))] [(4,((((a0.f0 == (2:Int)) == false) && true)=true→True)),(0,((((a0.f0 == (2:Int)) == false) && true)=true→True)),(0,((((a0.f0 == (2:Int)) == false) && true)=true→True)),(2,((((bif (a0.f0 == (2:Int)) then true else (a0.f0 == (3:Int))) == false) && true)=true→True)),(0,((((bif (a0.f0 == (2:Int)) then true else (a0.f0 == (3:Int))) == false) && true)=true→True)),(0,((((bif (a0.f0 == (2:Int)) then true else (a0.f0 == (3:Int))) == false) && true)=true→True)),(0,(True)∧AV.d (.v (.bool (bif (bif (a0.f0 == (2:Int)) then true else (a0.f0 == (3:Int))) then true else (a0.f0 == (5:Int)))))=.d (.v (.bool z7)))] 1 (by kernel_rfl) (⟨(fun hg=>trivial),(fun hg=>trivial),(fun hg=>trivial),(fun hg=>trivial),(fun hg=>trivial),(fun hg=>trivial),⟨trivial,(by subst hz1; rfl)⟩⟩) ?_
  refine T_seqk ?_
  refine T_reg [] [1,4,5,41] [(41,.d (.v (.bool (bif (decide (a0.f0 < (1:Int))) then true else (decide (a0.f0 > (9:Int)))))))] [(4,((((decide (a0.f0 < (1:Int))) == false) && true)=true→True)),(0,((((decide (a0.f0 < (1:Int))) == false) && true)=true→True)),(0,((((decide (a0.f0 < (1:Int))) == false) && true)=true→True))] 1 (by kernel_rfl) (⟨(fun hg=>trivial),(fun hg=>trivial),(fun hg=>trivial)⟩) ?_
  refine T_cond (bif (decide (a0.f0 < (1:Int))) then true else (decide (a0.f0 > (9:Int)))) (by kernel_rfl) (fun hc=>?_) (fun hc=>?_)
  · have h:=cond_tt hc h
    refine T_reg [] [2,3] [(2,.d (.str [])),(3,.d (.v (.int .i64 (14:Int))))] [] 2 (by kernel_rfl) (trivial) ?_
    obtain hs:=Option.some.inj h; subst hs
    refine T_ret fun a w hm=>then_ret (T_return (fr':=[(2,.d (.str [])),(3,.d (.v (.int .i64 (14:Int))))]) [2,3] (by kernel_rfl) [.keep [2,3]] (by kernel_rfl) (by kernel_rfl) (by kernel_rfl) (by show _=_; kernel_rfl) (by exact trivial) a w hm)
  · have h:=cond_ff hc h
    refine T_skip fun a w hm=>then_norm (((?_:T Tryz.prog e 283 _ _ _) a w hm))
    refine T_seqk ?_
    obtain ⟨z8,hz2,h⟩:=lett_ok h
    refine T_reg [(6,{ rw:=some (.d (.v (.bool z8))) })] [1,57] [(57,.d (.v (.bool (bif z8 then true else (bif (!z7) then (!(a0.f2 == [])) else false)))))] [(3,((((!(bif (a0.f0 == (1:Int)) then true else (a0.f0 == (4:Int)))) == true) && true)=true→True)),(0,((((!(bif (a0.f0 == (1:Int)) then true else (a0.f0 == (4:Int)))) == true) && true)=true→True)),(0,((((!(bif (a0.f0 == (1:Int)) then true else (a0.f0 == (4:Int)))) == true) && true)=true→True)),(0,(True)∧AV.d (.v (.bool (bif (!(bif (a0.f0 == (1:Int)) then true else (a0.f0 == (4:Int)))) then (a0.f1 != (0:Int)) else false)))=.d (.v (.bool z8))),(1,(((z8 == false) && true)=true→True)),(0,(((z8 == false) && true)=true→True)),(0,(((z8 == false) && true)=true→True)),(0,((((!z7) == true) && ((z8 == false) && true))=true→True)),(0,((((!z7) == true) && ((z8 == false) && true))=true→True)),(0,((((!z7) == true) && ((z8 == false) && true))=true→True)),(0,(((z8 == false) && true)=true→True))] 1 (by kernel_rfl) (⟨(fun hg=>trivial),(fun hg=>trivial),(fun hg=>trivial),⟨trivial,(by subst hz2; rfl)⟩,(fun hg=>trivial),(fun hg=>trivial),(fun hg=>trivial),(fun hg=>trivial),(fun hg=>trivial),(fun hg=>trivial),(fun hg=>trivial)⟩) ?_
    refine T_cond (bif z8 then true else (bif (!z7) then (!(a0.f2 == [])) else false)) (by kernel_rfl) (fun hc=>?_) (fun hc=>?_)
    · have h:=cond_tt hc h
      refine T_reg [] [2,3] [(2,.d (.str [])),(3,.d (.v (.int .i64 (4:Int))))] [] 2 (by kernel_rfl) (trivial) ?_
      obtain hs:=Option.some.inj h; subst hs
      refine T_ret fun a w hm=>then_ret (T_return (fr':=[(2,.d (.str [])),(3,.d (.v (.int .i64 (4:Int))))]) [2,3] (by kernel_rfl) [.keep [2,3]] (by kernel_rfl) (by kernel_rfl) (by kernel_rfl) (by show _=_; kernel_rfl) (by exact trivial) a w hm)
    · have h:=cond_ff hc h
      refine T_skip fun a w hm=>then_norm (((?_:T Tryz.prog e 283 _ _ _) a w hm))
      refine T_joinE h (fun (p:Unit)=>[(1,.box [.d (.v (.int .i64 a0.f0)),.d (.v (.int .i64 a0.f1)),.d (.str a0.f2),.d (.v (.int .i64 a0.f3)),.d (.v (.int .i64 a0.f4))])]) (fun s h hk1=>?_) (fun s h=>?_)
      · refine T_reg [] [1,60] [(60,.d (.v (.bool (a0.f0 == (2:Int)))))] [] 3 (by kernel_rfl) (trivial) ?_
        refine T_cond (a0.f0 == (2:Int)) (by kernel_rfl) (fun hc=>?_) (fun hc=>?_)
        · have h:=cond_tt hc h
          refine T_reg [] [1,6] [(6,.d (.v (.bool (a0.f2 == []))))] [] 4 (by kernel_rfl) (trivial) ?_
          refine T_seqk ?_
          refine T_reg [] [1,6,66,67] [(66,.d (.v (.int .i64 (a0.f2.length:Int)))),(67,.d (.v (.int .i64 (0:Int))))] [] 4 (by kernel_rfl) (trivial) ?_
          refine T_joinct h (fun (p:Bool)=>[(1,.box [.d (.v (.int .i64 a0.f0)),.d (.v (.int .i64 a0.f1)),.d (.str a0.f2),.d (.v (.int .i64 a0.f3)),.d (.v (.int .i64 a0.f4))]),(6,.d (.v (.bool p)))]) (fun s h=>?_) (fun v6 h=>?_)
          · refine T_co [.keep [1,6,66,67]] ((fun (p:Bool×Int)=>[(1,.box [.d (.v (.int .i64 a0.f0)),.d (.v (.int .i64 a0.f1)),.d (.str a0.f2),.d (.v (.int .i64 a0.f3)),.d (.v (.int .i64 a0.f4))]),(6,.d (.v (.bool p.1))),(66,.d (.v (.int .i64 (a0.f2.length:Int)))),(67,.d (.v (.int .i64 p.2)))]) ((a0.f2 == []),(0:Int))) (by show _=_; kernel_rfl) ?_
            refine T_block ?_
            refine T_loopF (ι:=Bool×Int) (fun (p:Bool×Int)=>[(1,.box [.d (.v (.int .i64 a0.f0)),.d (.v (.int .i64 a0.f1)),.d (.str a0.f2),.d (.v (.int .i64 a0.f3)),.d (.v (.int .i64 a0.f4))]),(6,.d (.v (.bool p.1))),(66,.d (.v (.int .i64 (a0.f2.length:Int)))),(67,.d (.v (.int .i64 p.2)))]) (fun n p=>ref3_Spelled_L0 F a0 n p.1 p.2=some s) (fun i hh=>by simp [ref3_Spelled_L0] at hh) (fun n p h=>?_) F ((a0.f2 == []),(0:Int)) h
            obtain ⟨v1,v2⟩:=p
            have h:ref3_Spelled_L0 F a0 (n+1) v1 v2=some s:=h
            rw [ref3_Spelled_L0] at h
            refine T_reg [] [1,6,66,67,68] [(68,.d (.v (.bool (decide (v2 < (a0.f2.length:Int))))))] [] 1 (by kernel_rfl) (trivial) ?_
            refine T_seqk ?_
            refine T_cond (decide (v2 < (a0.f2.length:Int))) (by kernel_rfl) (fun hc=>?_) (fun hc=>?_)
            · have h:=cond_tt hc h
              refine T_skip fun a w hm=>then_norm (((?_:T Tryz.prog e 283 _ _ _) a w hm))
              refine T_seqk ?_
              refine T_block ?_
              refine T_reg [] [1,6,7,66,67] [(7,.d (.v (.int .i64 v2)))] [] 2 (by kernel_rfl) (trivial) ?_
              obtain ⟨hp1,h⟩:=chk_ok h
              refine T_reg_end [] [1,6,66,67] [(6,.d (.v (.bool (bif v1 then true else (((a0.f2.getD v2.toNat 0).toNat:Int) == (0:Int))))))] [(2,(((v1 == false) && true)=true→True)),(0,(((v1 == false) && true)=true→True)),(0,(((v1 == false) && true)=true→True)),(0,(((v1 == false) && true)=true→0≤v2∧v2 < a0.f2.length)),(0,(((v1 == false) && true)=true→True))] 2 (by kernel_rfl) (⟨(fun hg=>trivial),(fun hg=>trivial),(fun hg=>trivial),(fun hg=>(hp1 hg)),(fun hg=>trivial)⟩) fun a w hm=>inBlock_norm (then_norm (((?_:T Tryz.prog e 283 _ _ _) a w hm)))
              refine T_reg_end [] [1,6,66,67] [(67,.d (.v (.int .i64 (IntKind.i64.wrap (v2+(1:Int))))))] [] 2 (by kernel_rfl) (trivial) fun a w hm=>then_norm (⟨((bif v1 then true else (((a0.f2.getD v2.toNat 0).toNat:Int) == (0:Int))),IntKind.i64.wrap (v2+(1:Int))),h,hm.co (cs:=[.keep [1,6,66,67]]) (by show _=_; kernel_rfl)⟩)
            · have h:=cond_ff hc h
              obtain hs:=Option.some.inj h; subst hs
              refine T_exit fun a w hm=>then_exit (then_exit (inBlock_exit (then_norm (hm.co (cs:=[.keep [1,6]]) (by show _=_; kernel_rfl)))))
          · skip
            refine fun a w hm=>then_norm (((?_:T Tryz.prog e 283 _ _ _) a w hm))
            refine T_reg [] [1,79] [(79,.d (.v (.bool v6)))] [] 1 (by kernel_rfl) (trivial) ?_
            refine T_cond v6 (by kernel_rfl) (fun hc=>?_) (fun hc=>?_)
            · have h:=cond_tt hc h
              refine T_reg [] [2,3] [(2,.d (.str [])),(3,.d (.v (.int .i64 (4:Int))))] [] 2 (by kernel_rfl) (trivial) ?_
              obtain hs:=Option.some.inj h; subst hs
              have h:=callE_esc hk1
              obtain hs:=Option.some.inj h; subst hs
              refine T_ret fun a w hm=>then_ret (T_return (fr':=[(2,.d (.str [])),(3,.d (.v (.int .i64 (4:Int))))]) [2,3] (by kernel_rfl) [.keep [2,3]] (by kernel_rfl) (by kernel_rfl) (by kernel_rfl) (by show _=_; kernel_rfl) (by exact trivial) a w hm)
            · have h:=cond_ff hc h
              obtain hs:=Option.some.inj h; subst hs
              refine T_skip fun a w hm=>then_norm (⟨_,rfl,hm.co (cs:=[.keep [1]]) (by show _=_; kernel_rfl)⟩)
        · have h:=cond_ff hc h
          obtain hs:=Option.some.inj h; subst hs
          refine T_skip fun a w hm=>then_norm (⟨_,rfl,hm.co (cs:=[.keep [1]]) (by show _=_; kernel_rfl)⟩)
      · skip
        refine T_seqk ?_
        obtain ⟨z9,hz3,h⟩:=lett_ok h
        obtain ⟨z10,hz4,h⟩:=lett_ok h
        refine T_reg [(12,{ rw:=some (.d (.v (.bool z9))) }),(26,{ rw:=some (.d (.v (.bool z10))) })] [1,107] [(107,.d (.v (.bool (bif z9 then true else z10))))] [(4,((((a0.f0 == (1:Int)) == true) && true)=true→True)),(0,((((a0.f0 == (1:Int)) == true) && true)=true→True)),(0,((((a0.f0 == (1:Int)) == true) && true)=true→True)),(0,((((a0.f0 == (1:Int)) == true) && true)=true→True)),(0,((((decide (a0.f1 > (2147483647:Int))) == false) && (((a0.f0 == (1:Int)) == true) && true))=true→True)),(0,((((decide (a0.f1 > (2147483647:Int))) == false) && (((a0.f0 == (1:Int)) == true) && true))=true→True)),(0,((((decide (a0.f1 > (2147483647:Int))) == false) && (((a0.f0 == (1:Int)) == true) && true))=true→True)),(0,((((a0.f0 == (1:Int)) == true) && true)=true→True)),(0,(True)∧AV.d (.v (.bool (bif (a0.f0 == (1:Int)) then (bif (decide (a0.f1 > (2147483647:Int))) then true else (decide (a0.f1 < (-2147483647:Int)))) else false)))=.d (.v (.bool z9))),(1,(((z9 == false) && true)=true→True)),(0,(((z9 == false) && true)=true→True)),(0,(((z9 == false) && true)=true→True)),(0,(((z9 == false) && true)=true→True)),(0,((((a0.f0 == (4:Int)) == true) && ((z9 == false) && true))=true→True)),(0,((((a0.f0 == (4:Int)) == true) && ((z9 == false) && true))=true→True)),(0,((((a0.f0 == (4:Int)) == true) && ((z9 == false) && true))=true→True)),(0,((((a0.f0 == (4:Int)) == true) && ((z9 == false) && true))=true→True)),(0,((((decide (a0.f1 > (255:Int))) == false) && (((a0.f0 == (4:Int)) == true) && ((z9 == false) && true)))=true→True)),(0,((((decide (a0.f1 > (255:Int))) == false) && (((a0.f0 == (4:Int)) == true) && ((z9 == false) && true)))=true→True)),(0,((((decide (a0.f1 > (255:Int))) == false) && (((a0.f0 == (4:Int)) == true) && ((z9 == false) && true)))=true→True)),(0,((((a0.f0 == (4:Int)) == true) && ((z9 == false) && true))=true→True)),(0,(((z9 == false) && true)=true→(True)∧AV.d (.v (.bool (bif (a0.f0 == (4:Int)) then (bif (decide (a0.f1 > (255:Int))) then true else (decide (a0.f1 < (1:Int)))) else false)))=.d (.v (.bool z10))))] 1 (by kernel_rfl) (⟨(fun hg=>trivial),(fun hg=>trivial),(fun hg=>trivial),(fun hg=>trivial),(fun hg=>trivial),(fun hg=>trivial),(fun hg=>trivial),(fun hg=>trivial),⟨trivial,(by subst hz3; rfl)⟩,(fun hg=>trivial),(fun hg=>trivial),(fun hg=>trivial),(fun hg=>trivial),(fun hg=>trivial),(fun hg=>trivial),(fun hg=>trivial),(fun hg=>trivial),(fun hg=>trivial),(fun hg=>trivial),(fun hg=>trivial),(fun hg=>trivial),(fun hg=>⟨trivial,(by subst hz4; rfl)⟩)⟩) ?_
        refine T_cond (bif z9 then true else z10) (by kernel_rfl) (fun hc=>?_) (fun hc=>?_)
        · have h:=cond_tt hc h
          refine T_reg [] [2,3] [(2,.d (.str [])),(3,.d (.v (.int .i64 (3:Int))))] [] 2 (by kernel_rfl) (trivial) ?_
          obtain hs:=Option.some.inj h; subst hs
          refine T_ret fun a w hm=>then_ret (T_return (fr':=[(2,.d (.str [])),(3,.d (.v (.int .i64 (3:Int))))]) [2,3] (by kernel_rfl) [.keep [2,3]] (by kernel_rfl) (by kernel_rfl) (by kernel_rfl) (by show _=_; kernel_rfl) (by exact trivial) a w hm)
        · have h:=cond_ff hc h
          refine T_skip fun a w hm=>then_norm (((?_:T Tryz.prog e 283 _ _ _) a w hm))
          refine T_seqk ?_
          obtain ⟨z11,hz5,h⟩:=lett_ok h
          refine T_reg [(19,{ rw:=some (.d (.v (.bool z11))) })] [1,127] [(127,.d (.v (.bool z11)))] [(4,((((a0.f0 == (2:Int)) == true) && true)=true→True)),(0,((((a0.f0 == (2:Int)) == true) && true)=true→True)),(0,((((a0.f0 == (2:Int)) == true) && true)=true→True)),(0,((((a0.f0 == (2:Int)) == true) && true)=true→True)),(2,((((bif (a0.f0 == (2:Int)) then (decide ((a0.f2.length:Int) > (31:Int))) else false) == false) && true)=true→True)),(0,((((bif (a0.f0 == (2:Int)) then (decide ((a0.f2.length:Int) > (31:Int))) else false) == false) && true)=true→True)),(0,((((bif (a0.f0 == (2:Int)) then (decide ((a0.f2.length:Int) > (31:Int))) else false) == false) && true)=true→True)),(0,((((bif (a0.f0 == (2:Int)) then (decide ((a0.f2.length:Int) > (31:Int))) else false) == false) && true)=true→True)),(0,((((a0.f0 == (3:Int)) == true) && (((bif (a0.f0 == (2:Int)) then (decide ((a0.f2.length:Int) > (31:Int))) else false) == false) && true))=true→True)),(0,((((a0.f0 == (3:Int)) == true) && (((bif (a0.f0 == (2:Int)) then (decide ((a0.f2.length:Int) > (31:Int))) else false) == false) && true))=true→True)),(0,((((a0.f0 == (3:Int)) == true) && (((bif (a0.f0 == (2:Int)) then (decide ((a0.f2.length:Int) > (31:Int))) else false) == false) && true))=true→True)),(0,((((a0.f0 == (3:Int)) == true) && (((bif (a0.f0 == (2:Int)) then (decide ((a0.f2.length:Int) > (31:Int))) else false) == false) && true))=true→True)),(0,((((bif (a0.f0 == (2:Int)) then (decide ((a0.f2.length:Int) > (31:Int))) else false) == false) && true)=true→True)),(0,(True)∧AV.d (.v (.bool (bif (bif (a0.f0 == (2:Int)) then (decide ((a0.f2.length:Int) > (31:Int))) else false) then true else (bif (a0.f0 == (3:Int)) then (decide ((a0.f2.length:Int) > (1024:Int))) else false))))=.d (.v (.bool z11)))] 0 (by kernel_rfl) (⟨(fun hg=>trivial),(fun hg=>trivial),(fun hg=>trivial),(fun hg=>trivial),(fun hg=>trivial),(fun hg=>trivial),(fun hg=>trivial),(fun hg=>trivial),(fun hg=>trivial),(fun hg=>trivial),(fun hg=>trivial),(fun hg=>trivial),(fun hg=>trivial),⟨trivial,(by subst hz5; rfl)⟩⟩) ?_
          refine T_cond z11 (by kernel_rfl) (fun hc=>?_) (fun hc=>?_)
          · have h:=cond_tt hc h
            refine T_reg [] [2,3] [(2,.d (.str [])),(3,.d (.v (.int .i64 (2:Int))))] [] 2 (by kernel_rfl) (trivial) ?_
            obtain hs:=Option.some.inj h; subst hs
            refine T_ret fun a w hm=>then_ret (T_return (fr':=[(2,.d (.str [])),(3,.d (.v (.int .i64 (2:Int))))]) [2,3] (by kernel_rfl) [.keep [2,3]] (by kernel_rfl) (by kernel_rfl) (by kernel_rfl) (by show _=_; kernel_rfl) (by exact trivial) a w hm)
          · have h:=cond_ff hc h
            refine T_skip fun a w hm=>then_norm (((?_:T Tryz.prog e 283 _ _ _) a w hm))
            refine T_seqk ?_
            refine T_reg [] [1,130] [(130,.d (.v (.bool (a0.f0 == (5:Int)))))] [] 3 (by kernel_rfl) (trivial) ?_
            refine T_cond (a0.f0 == (5:Int)) (by kernel_rfl) (fun hc=>?_) (fun hc=>?_)
            · have h:=cond_tt hc h
              refine T_seqk ?_
              obtain ⟨hp2,h⟩:=chk_ok h
              obtain ⟨y3,hy1,h⟩:=call_ok h
              obtain ⟨y4,hy2,h⟩:=call_ok h
              refine T_reg [(7,{ res:=.d (.v (.bool y3)) }),(12,{ res:=.d (.v (.int .i64 y4)) })] [1,145] [(145,.d (.v (.bool (bif (bif (a0.f2 == []) then true else y3) then true else (y4 == (5:Int))))))] [(4,((((a0.f2 == []) == false) && true)=true→True)),(0,((((a0.f2 == []) == false) && true)=true→True)),(0,((((a0.f2 == []) == false) && true)=true→0≤(0:Int)∧(0:Int) < a0.f2.length)),(0,((((a0.f2 == []) == false) && true)=true→ACall Tryz.prog 37 [.d (.v (.int .u8 ((a0.f2.getD (0:Int).toNat 0).toNat:Int)))] [] (.d (.v (.bool y3))) [])),(2,((((bif (a0.f2 == []) then true else y3) == false) && true)=true→True)),(0,((((bif (a0.f2 == []) then true else y3) == false) && true)=true→True)),(0,((((bif (a0.f2 == []) then true else y3) == false) && true)=true→ACall Tryz.prog 39 [.d (.str a0.f2)] [] (.d (.v (.int .i64 y4))) [])),(0,((((bif (a0.f2 == []) then true else y3) == false) && true)=true→True))] 1 (by kernel_rfl) (⟨(fun hg=>trivial),(fun hg=>trivial),(fun hg=>(hp2 hg)),(fun hg=>ref3_digit_ok (gcall_ok hg hy1)),(fun hg=>trivial),(fun hg=>trivial),(fun hg=>ref3_wordError_ok (gcall_ok hg hy2)),(fun hg=>trivial)⟩) ?_
              refine T_cond (bif (bif (a0.f2 == []) then true else y3) then true else (y4 == (5:Int))) (by kernel_rfl) (fun hc=>?_) (fun hc=>?_)
              · have h:=cond_tt hc h
                refine T_reg [] [2,3] [(2,.d (.str [])),(3,.d (.v (.int .i64 (4:Int))))] [] 2 (by kernel_rfl) (trivial) ?_
                obtain hs:=Option.some.inj h; subst hs
                refine T_ret fun a w hm=>then_ret (then_ret (T_return (fr':=[(2,.d (.str [])),(3,.d (.v (.int .i64 (4:Int))))]) [2,3] (by kernel_rfl) [.keep [2,3]] (by kernel_rfl) (by kernel_rfl) (by kernel_rfl) (by show _=_; kernel_rfl) (by exact trivial) a w hm))
              · have h:=cond_ff hc h
                refine T_skip fun a w hm=>then_norm (((?_:T Tryz.prog e 283 _ _ _) a w hm))
                refine T_seqk ?_
                obtain ⟨y5,hy3,h⟩:=call_ok h
                refine T_reg [(2,{ res:=.d (.v (.int .i64 y5)) })] [1,8] [(8,.d (.v (.int .i64 y5)))] [(2,ACall Tryz.prog 39 [.d (.str a0.f2)] [] (.d (.v (.int .i64 y5))) [])] 1 (by kernel_rfl) (ref3_wordError_ok hy3) ?_
                refine T_reg [] [1,8,150] [(150,.d (.v (.bool (y5 != (0:Int)))))] [] 2 (by kernel_rfl) (trivial) ?_
                refine T_cond (y5 != (0:Int)) (by kernel_rfl) (fun hc=>?_) (fun hc=>?_)
                · have h:=cond_tt hc h
                  refine T_reg [] [2,3] [(2,.d (.str [])),(3,.d (.v (.int .i64 y5)))] [] 3 (by kernel_rfl) (trivial) ?_
                  obtain hs:=Option.some.inj h; subst hs
                  refine T_ret fun a w hm=>then_ret (then_ret (T_return (fr':=[(2,.d (.str [])),(3,.d (.v (.int .i64 y5)))]) [2,3] (by kernel_rfl) [.keep [2,3]] (by kernel_rfl) (by kernel_rfl) (by kernel_rfl) (by show _=_; kernel_rfl) (by exact trivial) a w hm))
                · have h:=cond_ff hc h
                  refine T_skip fun a w hm=>then_norm (((?_:T Tryz.prog e 283 _ _ _) a w hm))
                  refine T_reg [] [2,3] [(2,.d (.str a0.f2)),(3,.d (.v (.int .i64 (0:Int))))] [] 4 (by kernel_rfl) (trivial) ?_
                  obtain hs:=Option.some.inj h; subst hs
                  refine T_ret fun a w hm=>then_ret (T_return (fr':=[(2,.d (.str a0.f2)),(3,.d (.v (.int .i64 (0:Int))))]) [2,3] (by kernel_rfl) [.keep [2,3]] (by kernel_rfl) (by kernel_rfl) (by kernel_rfl) (by show _=_; kernel_rfl) (by exact trivial) a w hm)
            · have h:=cond_ff hc h
              refine T_skip fun a w hm=>then_norm (((?_:T Tryz.prog e 283 _ _ _) a w hm))
              refine T_seqk ?_
              refine T_reg [] [1,155] [(155,.d (.v (.int .i64 a0.f0)))] [] 2 (by kernel_rfl) (trivial) ?_
              refine T_block ?_
              refine T_reg [] [1,155,156] [(156,.d (.v (.bool (a0.f0 == (1:Int)))))] [] 2 (by kernel_rfl) (trivial) ?_
              refine T_cond (a0.f0 == (1:Int)) (by kernel_rfl) (fun hc=>?_) (fun hc=>?_)
              · have h:=cond_tt hc h
                obtain ⟨y6,hy4,h⟩:=call_ok h
                refine T_reg [(2,{ res:=.d (.str y6) })] [2,3] [(2,.d (.str y6)),(3,.d (.v (.int .i64 (0:Int))))] [(2,ACall Tryz.prog 55 [.d (.v (.int .i64 a0.f1))] [] (.d (.str y6)) [])] 2 (by kernel_rfl) (ref3_Decimal_ok hy4) ?_
                obtain hs:=Option.some.inj h; subst hs
                refine T_ret fun a w hm=>inBlock_ret (then_ret (T_return (fr':=[(2,.d (.str y6)),(3,.d (.v (.int .i64 (0:Int))))]) [2,3] (by kernel_rfl) [.keep [2,3]] (by kernel_rfl) (by kernel_rfl) (by kernel_rfl) (by show _=_; kernel_rfl) (by exact trivial) a w hm))
              · have h:=cond_ff hc h
                refine T_reg [] [1,155,161] [(161,.d (.v (.bool (a0.f0 == (4:Int)))))] [] 2 (by kernel_rfl) (trivial) ?_
                refine T_cond (a0.f0 == (4:Int)) (by kernel_rfl) (fun hc=>?_) (fun hc=>?_)
                · have h:=cond_tt hc h
                  obtain ⟨y7,hy5,h⟩:=call_ok h
                  obtain ⟨hp3,h⟩:=chk_ok h
                  refine T_reg [(2,{ res:=.d (.str y7) })] [2,3] [(2,.d (.str (([64]:List UInt8)++y7))),(3,.d (.v (.int .i64 (0:Int))))] [(2,ACall Tryz.prog 55 [.d (.v (.int .i64 a0.f1))] [] (.d (.str y7)) []),(0,([64]:List UInt8).length+y7.length≤9223372036854775807)] 2 (by kernel_rfl) (⟨ref3_Decimal_ok hy5,hp3⟩) ?_
                  obtain hs:=Option.some.inj h; subst hs
                  refine T_ret fun a w hm=>inBlock_ret (then_ret (T_return (fr':=[(2,.d (.str (([64]:List UInt8)++y7))),(3,.d (.v (.int .i64 (0:Int))))]) [2,3] (by kernel_rfl) [.keep [2,3]] (by kernel_rfl) (by kernel_rfl) (by kernel_rfl) (by show _=_; kernel_rfl) (by exact trivial) a w hm))
                · have h:=cond_ff hc h
                  refine T_reg [] [1,155,167] [(167,.d (.v (.bool (a0.f0 == (6:Int)))))] [] 2 (by kernel_rfl) (trivial) ?_
                  refine T_cond (a0.f0 == (6:Int)) (by kernel_rfl) (fun hc=>?_) (fun hc=>?_)
                  · have h:=cond_tt hc h
                    refine T_reg [] [2,3] [(2,.d (.str ([91]:List UInt8))),(3,.d (.v (.int .i64 (0:Int))))] [] 2 (by kernel_rfl) (trivial) ?_
                    obtain hs:=Option.some.inj h; subst hs
                    refine T_ret fun a w hm=>inBlock_ret (then_ret (T_return (fr':=[(2,.d (.str ([91]:List UInt8))),(3,.d (.v (.int .i64 (0:Int))))]) [2,3] (by kernel_rfl) [.keep [2,3]] (by kernel_rfl) (by kernel_rfl) (by kernel_rfl) (by show _=_; kernel_rfl) (by exact trivial) a w hm))
                  · have h:=cond_ff hc h
                    refine T_reg [] [1,155,169] [(169,.d (.v (.bool (a0.f0 == (7:Int)))))] [] 2 (by kernel_rfl) (trivial) ?_
                    refine T_cond (a0.f0 == (7:Int)) (by kernel_rfl) (fun hc=>?_) (fun hc=>?_)
                    · have h:=cond_tt hc h
                      refine T_reg [] [2,3] [(2,.d (.str ([93]:List UInt8))),(3,.d (.v (.int .i64 (0:Int))))] [] 2 (by kernel_rfl) (trivial) ?_
                      obtain hs:=Option.some.inj h; subst hs
                      refine T_ret fun a w hm=>inBlock_ret (then_ret (T_return (fr':=[(2,.d (.str ([93]:List UInt8))),(3,.d (.v (.int .i64 (0:Int))))]) [2,3] (by kernel_rfl) [.keep [2,3]] (by kernel_rfl) (by kernel_rfl) (by kernel_rfl) (by show _=_; kernel_rfl) (by exact trivial) a w hm))
                    · have h:=cond_ff hc h
                      refine T_reg [] [1,155,171] [(171,.d (.v (.bool (a0.f0 == (8:Int)))))] [] 2 (by kernel_rfl) (trivial) ?_
                      refine T_cond (a0.f0 == (8:Int)) (by kernel_rfl) (fun hc=>?_) (fun hc=>?_)
                      · have h:=cond_tt hc h
                        refine T_reg [] [2,3] [(2,.d (.str ([60,60]:List UInt8))),(3,.d (.v (.int .i64 (0:Int))))] [] 2 (by kernel_rfl) (trivial) ?_
                        obtain hs:=Option.some.inj h; subst hs
                        refine T_ret fun a w hm=>inBlock_ret (then_ret (T_return (fr':=[(2,.d (.str ([60,60]:List UInt8))),(3,.d (.v (.int .i64 (0:Int))))]) [2,3] (by kernel_rfl) [.keep [2,3]] (by kernel_rfl) (by kernel_rfl) (by kernel_rfl) (by show _=_; kernel_rfl) (by exact trivial) a w hm))
                      · have h:=cond_ff hc h
                        refine T_reg [] [1,173] [(173,.d (.v (.bool (a0.f0 == (9:Int)))))] [] 2 (by kernel_rfl) (trivial) ?_
                        refine T_cond (a0.f0 == (9:Int)) (by kernel_rfl) (fun hc=>?_) (fun hc=>?_)
                        · have h:=cond_tt hc h
                          refine T_reg [] [2,3] [(2,.d (.str ([62,62]:List UInt8))),(3,.d (.v (.int .i64 (0:Int))))] [] 2 (by kernel_rfl) (trivial) ?_
                          obtain hs:=Option.some.inj h; subst hs
                          refine T_ret fun a w hm=>inBlock_ret (then_ret (T_return (fr':=[(2,.d (.str ([62,62]:List UInt8))),(3,.d (.v (.int .i64 (0:Int))))]) [2,3] (by kernel_rfl) [.keep [2,3]] (by kernel_rfl) (by kernel_rfl) (by kernel_rfl) (by show _=_; kernel_rfl) (by exact trivial) a w hm))
                        · have h:=cond_ff hc h
                          refine T_skip fun a w hm=>inBlock_norm (then_norm (((?_:T Tryz.prog e 283 _ _ _) a w hm)))
                          refine T_reg [] [1,9] [(9,.own 5 1 ([].map cU))] [] 1 (by kernel_rfl) (trivial) ?_
                          refine T_seqk ?_
                          refine T_reg [] [1,9,177,178] [(177,.d (.v (.int .i64 (a0.f2.length:Int)))),(178,.d (.v (.int .i64 (0:Int))))] [] 4 (by kernel_rfl) (trivial) ?_
                          refine T_joinct h (fun (p:(List UInt8))=>[(1,.box [.d (.v (.int .i64 a0.f0)),.d (.v (.int .i64 a0.f1)),.d (.str a0.f2),.d (.v (.int .i64 a0.f3)),.d (.v (.int .i64 a0.f4))]),(9,.own 5 1 (p.map cU))]) (fun s h=>?_) (fun v7 h=>?_)
                          · refine T_co [.keep [1,9,177,178]] ((fun (p:(List UInt8)×Int)=>[(1,.box [.d (.v (.int .i64 a0.f0)),.d (.v (.int .i64 a0.f1)),.d (.str a0.f2),.d (.v (.int .i64 a0.f3)),.d (.v (.int .i64 a0.f4))]),(9,.own 5 1 (p.1.map cU)),(177,.d (.v (.int .i64 (a0.f2.length:Int)))),(178,.d (.v (.int .i64 p.2)))]) ([],(0:Int))) (by show _=_; kernel_rfl) ?_
                            refine T_block ?_
                            refine T_loopF (ι:=(List UInt8)×Int) (fun (p:(List UInt8)×Int)=>[(1,.box [.d (.v (.int .i64 a0.f0)),.d (.v (.int .i64 a0.f1)),.d (.str a0.f2),.d (.v (.int .i64 a0.f3)),.d (.v (.int .i64 a0.f4))]),(9,.own 5 1 (p.1.map cU)),(177,.d (.v (.int .i64 (a0.f2.length:Int)))),(178,.d (.v (.int .i64 p.2)))]) (fun n p=>ref3_Spelled_L3 F a0 n p.1 p.2=some s) (fun i hh=>by simp [ref3_Spelled_L3] at hh) (fun n p h=>?_) F ([],(0:Int)) h
                            obtain ⟨v3,v4⟩:=p
                            have h:ref3_Spelled_L3 F a0 (n+1) v3 v4=some s:=h
                            rw [ref3_Spelled_L3] at h
                            refine T_reg [] [1,9,177,178,179] [(179,.d (.v (.bool (decide (v4 < (a0.f2.length:Int))))))] [] 1 (by kernel_rfl) (trivial) ?_
                            refine T_seqk ?_
                            refine T_cond (decide (v4 < (a0.f2.length:Int))) (by kernel_rfl) (fun hc=>?_) (fun hc=>?_)
                            · have h:=cond_tt hc h
                              refine T_skip fun a w hm=>then_norm (((?_:T Tryz.prog e 283 _ _ _) a w hm))
                              refine T_joinc h (fun (p:(List UInt8))=>[(1,.box [.d (.v (.int .i64 a0.f0)),.d (.v (.int .i64 a0.f1)),.d (.str a0.f2),.d (.v (.int .i64 a0.f3)),.d (.v (.int .i64 a0.f4))]),(9,.own 5 1 (p.map cU)),(177,.d (.v (.int .i64 (a0.f2.length:Int)))),(178,.d (.v (.int .i64 v4)))]) (fun s h=>?_) (fun v5 h=>?_)
                              · refine T_block ?_
                                refine T_reg [] [1,9,10,177,178] [(10,.d (.v (.int .i64 v4)))] [] 2 (by kernel_rfl) (trivial) ?_
                                obtain ⟨hp4,h⟩:=chk_ok h
                                refine T_reg [] [1,9,11,177,178] [(11,.d (.v (.int .u8 ((a0.f2.getD v4.toNat 0).toNat:Int))))] [(3,0≤v4∧v4 < a0.f2.length)] 1 (by kernel_rfl) (hp4) ?_
                                obtain ⟨hp5,h⟩:=chk_ok h
                                obtain ⟨z1,hz6,h⟩:=lett_ok h
                                obtain ⟨hp6,h⟩:=chk_ok h
                                obtain ⟨z2,hz7,h⟩:=lett_ok h
                                obtain ⟨hp7,h⟩:=chk_ok h
                                obtain ⟨hp8,h⟩:=chk_ok h
                                refine T_drawX mixed 1 (.take 0 (.take 1 (.take 2 (.take 3 (.take 4 (.take 5 (.all (.alt 6 (.take 7 .done) .stop)))))))) ([0,1,2,0,8,16,36,127],[0,1,2,0,8,16,36,64]) 191 [(2,{ rw:=some (.d (.v (.int .u8 z1))) }),(5,{ rw:=some (.d (.v (.int .u8 z2))) }),(6,{ es:=some (([(UInt8.ofNat z1.toNat),(UInt8.ofNat z2.toNat)]).map cU) })] [1,9,11,12,177,178] [] [(1,.box [.d (.v (.int .i64 a0.f0)),.d (.v (.int .i64 a0.f1)),.d (.str a0.f2),.d (.v (.int .i64 a0.f3)),.d (.v (.int .i64 a0.f4))]),(9,.own 5 1 (v3.map cU)),(11,.d (.v (.int .u8 ((a0.f2.getD v4.toNat 0).toNat:Int)))),(12,.own 5 1 (([(UInt8.ofNat z1.toNat),(UInt8.ofNat z2.toNat)]).map cU)),(177,.d (.v (.int .i64 (a0.f2.length:Int)))),(178,.d (.v (.int .i64 v4)))] ((fun (o1:Prop)=>fun (o2:Prop)=>fun (o4:Prop)=>fun (o5:Prop)=>fun (o6:Prop)=>[(1,o1),(0,o2),(1,o4),(0,o5),(0,o6)]) ((16:Int)≠0) ((0≤(IntKind.u8.wrap (((a0.f2.getD v4.toNat 0).toNat:Int).tdiv (16:Int)))∧(IntKind.u8.wrap (((a0.f2.getD v4.toNat 0).toNat:Int).tdiv (16:Int))) < ([48,49,50,51,52,53,54,55,56,57,97,98,99,100,101,102]:List UInt8).length)∧AV.d (.v (.int .u8 ((([48,49,50,51,52,53,54,55,56,57,97,98,99,100,101,102]:List UInt8).getD (IntKind.u8.wrap (((a0.f2.getD v4.toNat 0).toNat:Int).tdiv (16:Int))).toNat 0).toNat:Int)))=.d (.v (.int .u8 z1))) ((16:Int)≠0) ((0≤(((a0.f2.getD v4.toNat 0).toNat:Int).tmod (16:Int))∧(((a0.f2.getD v4.toNat 0).toNat:Int).tmod (16:Int)) < ([48,49,50,51,52,53,54,55,56,57,97,98,99,100,101,102]:List UInt8).length)∧AV.d (.v (.int .u8 ((([48,49,50,51,52,53,54,55,56,57,97,98,99,100,101,102]:List UInt8).getD (((a0.f2.getD v4.toNat 0).toNat:Int).tmod (16:Int)).toNat 0).toNat:Int)))=.d (.v (.int .u8 z2))) ([[Dat.v (.int .u8 z1)],[Dat.v (.int .u8 z2)]]=(([(UInt8.ofNat z1.toNat),(UInt8.ofNat z2.toNat)]).map cU))) 1 (by kernel_rfl) (by kernel_rfl) (by kernel_rfl) (have p1:=(show (16:Int)≠0 by decide); have p2:=⟨hp5,(by subst hz6; rfl)⟩; have p4:=(show (16:Int)≠0 by decide); have p5:=⟨hp6,(by subst hz7; rfl)⟩; have p6:=(lit_u hp7 (lit_u hp8 (rfl:([]:List (List Dat))=([]:List UInt8).map cU))); ⟨p1,p2,p4,p5,p6⟩) ?_
                                refine T_block ?_
                                obtain ⟨y1,hy6,h⟩:=call_ok h
                                obtain ⟨y2,hy7,h⟩:=call_ok h
                                obtain ⟨z3,hz8,h⟩:=lett_ok h
                                obtain ⟨z4,hz9,h⟩:=lett_ok h
                                refine T_reg [(5,{ res:=.d (.v (.bool y1)) }),(8,{ res:=.d (.v (.bool y2)) }),(13,{ rw:=some (.d (.v (.bool z3))) }),(21,{ rw:=some (.d (.v (.bool z4))) })] [1,9,11,12,177,178,196] [(196,.d (.v (.bool (bif (a0.f0 == (2:Int)) then z4 else false))))] [(4,((((a0.f0 == (2:Int)) == true) && true)=true→True)),(0,((((a0.f0 == (2:Int)) == true) && true)=true→ACall Tryz.prog 56 [.d (.v (.int .u8 ((a0.f2.getD v4.toNat 0).toNat:Int)))] [] (.d (.v (.bool y1))) [])),(0,((((a0.f0 == (2:Int)) == true) && true)=true→True)),(0,(((y1 == false) && (((a0.f0 == (2:Int)) == true) && true))=true→True)),(0,(((y1 == false) && (((a0.f0 == (2:Int)) == true) && true))=true→ACall Tryz.prog 37 [.d (.v (.int .u8 ((a0.f2.getD v4.toNat 0).toNat:Int)))] [] (.d (.v (.bool y2))) [])),(0,((((a0.f0 == (2:Int)) == true) && true)=true→True)),(0,((((a0.f0 == (2:Int)) == true) && true)=true→True)),(0,((((bif y1 then true else y2) == false) && (((a0.f0 == (2:Int)) == true) && true))=true→True)),(0,((((bif y1 then true else y2) == false) && (((a0.f0 == (2:Int)) == true) && true))=true→True)),(0,((((a0.f0 == (2:Int)) == true) && true)=true→(True)∧AV.d (.v (.bool (bif (bif y1 then true else y2) then true else (((a0.f2.getD v4.toNat 0).toNat:Int) == (95:Int)))))=.d (.v (.bool z3)))),(0,((((a0.f0 == (2:Int)) == true) && true)=true→True)),(0,(((z3 == false) && (((a0.f0 == (2:Int)) == true) && true))=true→True)),(0,(((z3 == false) && (((a0.f0 == (2:Int)) == true) && true))=true→True)),(0,((((a0.f0 == (2:Int)) == true) && true)=true→True)),(0,((((a0.f0 == (2:Int)) == true) && true)=true→True)),(0,((((bif z3 then true else (((a0.f2.getD v4.toNat 0).toNat:Int) == (45:Int))) == false) && (((a0.f0 == (2:Int)) == true) && true))=true→True)),(0,((((bif z3 then true else (((a0.f2.getD v4.toNat 0).toNat:Int) == (45:Int))) == false) && (((a0.f0 == (2:Int)) == true) && true))=true→True)),(0,((((a0.f0 == (2:Int)) == true) && true)=true→(True)∧AV.d (.v (.bool (bif (bif z3 then true else (((a0.f2.getD v4.toNat 0).toNat:Int) == (45:Int))) then true else (((a0.f2.getD v4.toNat 0).toNat:Int) == (46:Int)))))=.d (.v (.bool z4))))] 2 (by kernel_rfl) (⟨(fun hg=>trivial),(fun hg=>ref3_letter_ok (gcall_ok hg hy6)),(fun hg=>trivial),(fun hg=>trivial),(fun hg=>ref3_digit_ok (gcall_ok hg hy7)),(fun hg=>trivial),(fun hg=>trivial),(fun hg=>trivial),(fun hg=>trivial),(fun hg=>⟨trivial,(by subst hz8; rfl)⟩),(fun hg=>trivial),(fun hg=>trivial),(fun hg=>trivial),(fun hg=>trivial),(fun hg=>trivial),(fun hg=>trivial),(fun hg=>trivial),(fun hg=>⟨trivial,(by subst hz9; rfl)⟩)⟩) ?_
                                refine T_cond (bif (a0.f0 == (2:Int)) then z4 else false) (by kernel_rfl) (fun hc=>?_) (fun hc=>?_)
                                · have h:=cond_tt hc h
                                  obtain ⟨hp9,h⟩:=chk_ok h
                                  obtain ⟨hp10,h⟩:=chk_ok h
                                  obtain hs:=Option.some.inj h; subst hs
                                  refine T_reg_end [(2,{ es:=some (([(UInt8.ofNat ((a0.f2.getD v4.toNat 0).toNat:Int).toNat)]).map cU) }),(3,{ es:=some ((v3++([(UInt8.ofNat ((a0.f2.getD v4.toNat 0).toNat:Int).toNat)])).map cU) })] [1,9,177,178] [(9,.own 5 1 ((v3++([(UInt8.ofNat ((a0.f2.getD v4.toNat 0).toNat:Int).toNat)])).map cU))] [(2,[[Dat.v (.int .u8 ((a0.f2.getD v4.toNat 0).toNat:Int))]]=(([(UInt8.ofNat ((a0.f2.getD v4.toNat 0).toNat:Int).toNat)]).map cU)),(0,(v3.map cU).length+(([(UInt8.ofNat ((a0.f2.getD v4.toNat 0).toNat:Int).toNat)]).map cU).length≤4294967296∧(v3.map cU)++(([(UInt8.ofNat ((a0.f2.getD v4.toNat 0).toNat:Int).toNat)]).map cU)=((v3++([(UInt8.ofNat ((a0.f2.getD v4.toNat 0).toNat:Int).toNat)])).map cU))] 1 (by kernel_rfl) (⟨(lit_u hp9 (rfl:([]:List (List Dat))=([]:List UInt8).map cU)),app_ok cU hp10⟩) fun a w hm=>inBlock_norm (inBlock_norm (then_norm (hm.co (cs:=[.keep [1,9,177,178]]) (by show _=_; kernel_rfl))))
                                · have h:=cond_ff hc h
                                  refine T_reg [] [1,9,11,12,177,178,224] [(224,.d (.v (.bool (a0.f0 == (2:Int)))))] [] 4 (by kernel_rfl) (trivial) ?_
                                  refine T_cond (a0.f0 == (2:Int)) (by kernel_rfl) (fun hc=>?_) (fun hc=>?_)
                                  · have h:=cond_tt hc h
                                    obtain ⟨hp11,h⟩:=chk_ok h
                                    obtain ⟨hp12,h⟩:=chk_ok h
                                    obtain ⟨l1,hl1,h⟩:=lett_ok h
                                    obtain hs:=Option.some.inj h; subst hs
                                    refine T_reg_end [(1,{ es:=some (([(UInt8.ofNat (35:Int).toNat)]).map cU) }),(2,{ es:=some ((v3++([(UInt8.ofNat (35:Int).toNat)])).map cU) }),(4,{ es:=some (l1.map cU) })] [1,9,177,178] [(9,.own 5 1 (l1.map cU))] [(1,[[Dat.v (.int .u8 (35:Int))]]=(([(UInt8.ofNat (35:Int).toNat)]).map cU)),(0,(v3.map cU).length+(([(UInt8.ofNat (35:Int).toNat)]).map cU).length≤4294967296∧(v3.map cU)++(([(UInt8.ofNat (35:Int).toNat)]).map cU)=((v3++([(UInt8.ofNat (35:Int).toNat)])).map cU)),(1,((v3++([(UInt8.ofNat (35:Int).toNat)])).map cU).length+(([(UInt8.ofNat z1.toNat),(UInt8.ofNat z2.toNat)]).map cU).length≤4294967296∧((v3++([(UInt8.ofNat (35:Int).toNat)])).map cU)++(([(UInt8.ofNat z1.toNat),(UInt8.ofNat z2.toNat)]).map cU)=(l1.map cU))] 1 (by kernel_rfl) (⟨(lit_u (by decide) (rfl:([]:List (List Dat))=([]:List UInt8).map cU)),app_ok cU hp11,and_trans (app_ok cU hp12) (by subst hl1; rfl)⟩) fun a w hm=>inBlock_norm (inBlock_norm (then_norm (hm.co (cs:=[.keep [1,9,177,178]]) (by show _=_; kernel_rfl))))
                                  · have h:=cond_ff hc h
                                    refine T_reg [] [1,9,11,12,177,178,233] [(233,.d (.v (.bool (((a0.f2.getD v4.toNat 0).toNat:Int) == (10:Int)))))] [] 3 (by kernel_rfl) (trivial) ?_
                                    refine T_cond (((a0.f2.getD v4.toNat 0).toNat:Int) == (10:Int)) (by kernel_rfl) (fun hc=>?_) (fun hc=>?_)
                                    · have h:=cond_tt hc h
                                      obtain ⟨hp13,h⟩:=chk_ok h
                                      obtain hs:=Option.some.inj h; subst hs
                                      refine T_reg_end [(1,{ es:=some (([(UInt8.ofNat (92:Int).toNat),(UInt8.ofNat (110:Int).toNat)]).map cU) }),(2,{ es:=some ((v3++([(UInt8.ofNat (92:Int).toNat),(UInt8.ofNat (110:Int).toNat)])).map cU) })] [1,9,177,178] [(9,.own 5 1 ((v3++([(UInt8.ofNat (92:Int).toNat),(UInt8.ofNat (110:Int).toNat)])).map cU))] [(1,[[Dat.v (.int .u8 (92:Int))],[Dat.v (.int .u8 (110:Int))]]=(([(UInt8.ofNat (92:Int).toNat),(UInt8.ofNat (110:Int).toNat)]).map cU)),(0,(v3.map cU).length+(([(UInt8.ofNat (92:Int).toNat),(UInt8.ofNat (110:Int).toNat)]).map cU).length≤4294967296∧(v3.map cU)++(([(UInt8.ofNat (92:Int).toNat),(UInt8.ofNat (110:Int).toNat)]).map cU)=((v3++([(UInt8.ofNat (92:Int).toNat),(UInt8.ofNat (110:Int).toNat)])).map cU))] 1 (by kernel_rfl) (⟨(lit_u (by decide) (lit_u (by decide) (rfl:([]:List (List Dat))=([]:List UInt8).map cU))),app_ok cU hp13⟩) fun a w hm=>inBlock_norm (inBlock_norm (then_norm (hm.co (cs:=[.keep [1,9,177,178]]) (by show _=_; kernel_rfl))))
                                    · have h:=cond_ff hc h
                                      refine T_reg [] [1,9,11,12,177,178,239] [(239,.d (.v (.bool (((a0.f2.getD v4.toNat 0).toNat:Int) == (9:Int)))))] [] 3 (by kernel_rfl) (trivial) ?_
                                      refine T_cond (((a0.f2.getD v4.toNat 0).toNat:Int) == (9:Int)) (by kernel_rfl) (fun hc=>?_) (fun hc=>?_)
                                      · have h:=cond_tt hc h
                                        obtain ⟨hp14,h⟩:=chk_ok h
                                        obtain hs:=Option.some.inj h; subst hs
                                        refine T_reg_end [(1,{ es:=some (([(UInt8.ofNat (92:Int).toNat),(UInt8.ofNat (116:Int).toNat)]).map cU) }),(2,{ es:=some ((v3++([(UInt8.ofNat (92:Int).toNat),(UInt8.ofNat (116:Int).toNat)])).map cU) })] [1,9,177,178] [(9,.own 5 1 ((v3++([(UInt8.ofNat (92:Int).toNat),(UInt8.ofNat (116:Int).toNat)])).map cU))] [(1,[[Dat.v (.int .u8 (92:Int))],[Dat.v (.int .u8 (116:Int))]]=(([(UInt8.ofNat (92:Int).toNat),(UInt8.ofNat (116:Int).toNat)]).map cU)),(0,(v3.map cU).length+(([(UInt8.ofNat (92:Int).toNat),(UInt8.ofNat (116:Int).toNat)]).map cU).length≤4294967296∧(v3.map cU)++(([(UInt8.ofNat (92:Int).toNat),(UInt8.ofNat (116:Int).toNat)]).map cU)=((v3++([(UInt8.ofNat (92:Int).toNat),(UInt8.ofNat (116:Int).toNat)])).map cU))] 1 (by kernel_rfl) (⟨(lit_u (by decide) (lit_u (by decide) (rfl:([]:List (List Dat))=([]:List UInt8).map cU))),app_ok cU hp14⟩) fun a w hm=>inBlock_norm (inBlock_norm (then_norm (hm.co (cs:=[.keep [1,9,177,178]]) (by show _=_; kernel_rfl))))
                                      · have h:=cond_ff hc h
                                        obtain ⟨z5,hz10,h⟩:=lett_ok h
                                        refine T_reg [(5,{ rw:=some (.d (.v (.bool z5))) })] [1,9,11,12,177,178,245] [(245,.d (.v (.bool (bif z5 then true else (((a0.f2.getD v4.toNat 0).toNat:Int) == (92:Int))))))] [(3,((((((a0.f2.getD v4.toNat 0).toNat:Int) == (40:Int)) == false) && true)=true→True)),(0,((((((a0.f2.getD v4.toNat 0).toNat:Int) == (40:Int)) == false) && true)=true→True)),(0,(True)∧AV.d (.v (.bool (bif (((a0.f2.getD v4.toNat 0).toNat:Int) == (40:Int)) then true else (((a0.f2.getD v4.toNat 0).toNat:Int) == (41:Int)))))=.d (.v (.bool z5))),(1,(((z5 == false) && true)=true→True)),(0,(((z5 == false) && true)=true→True))] 2 (by kernel_rfl) (⟨(fun hg=>trivial),(fun hg=>trivial),⟨trivial,(by subst hz10; rfl)⟩,(fun hg=>trivial),(fun hg=>trivial)⟩) ?_
                                        refine T_cond (bif z5 then true else (((a0.f2.getD v4.toNat 0).toNat:Int) == (92:Int))) (by kernel_rfl) (fun hc=>?_) (fun hc=>?_)
                                        · have h:=cond_tt hc h
                                          obtain ⟨hp15,h⟩:=chk_ok h
                                          obtain ⟨hp16,h⟩:=chk_ok h
                                          obtain ⟨l2,hl2,h⟩:=lett_ok h
                                          obtain hs:=Option.some.inj h; subst hs
                                          refine T_reg_end [(2,{ es:=some (([(UInt8.ofNat (92:Int).toNat),(UInt8.ofNat ((a0.f2.getD v4.toNat 0).toNat:Int).toNat)]).map cU) }),(3,{ es:=some (l2.map cU) })] [1,9,177,178] [(9,.own 5 1 (l2.map cU))] [(2,[[Dat.v (.int .u8 (92:Int))],[Dat.v (.int .u8 ((a0.f2.getD v4.toNat 0).toNat:Int))]]=(([(UInt8.ofNat (92:Int).toNat),(UInt8.ofNat ((a0.f2.getD v4.toNat 0).toNat:Int).toNat)]).map cU)),(0,(v3.map cU).length+(([(UInt8.ofNat (92:Int).toNat),(UInt8.ofNat ((a0.f2.getD v4.toNat 0).toNat:Int).toNat)]).map cU).length≤4294967296∧(v3.map cU)++(([(UInt8.ofNat (92:Int).toNat),(UInt8.ofNat ((a0.f2.getD v4.toNat 0).toNat:Int).toNat)]).map cU)=(l2.map cU))] 1 (by kernel_rfl) (⟨(lit_u (by decide) (lit_u hp15 (rfl:([]:List (List Dat))=([]:List UInt8).map cU))),and_trans (app_ok cU hp16) (by subst hl2; rfl)⟩) fun a w hm=>inBlock_norm (inBlock_norm (then_norm (hm.co (cs:=[.keep [1,9,177,178]]) (by show _=_; kernel_rfl))))
                                        · have h:=cond_ff hc h
                                          obtain ⟨z6,hz11,h⟩:=lett_ok h
                                          refine T_reg [(5,{ rw:=some (.d (.v (.bool z6))) })] [1,9,11,12,177,178,260] [(260,.d (.v (.bool z6)))] [(3,((((decide (((a0.f2.getD v4.toNat 0).toNat:Int) < (32:Int))) == false) && true)=true→True)),(0,((((decide (((a0.f2.getD v4.toNat 0).toNat:Int) < (32:Int))) == false) && true)=true→True)),(0,(True)∧AV.d (.v (.bool (bif (decide (((a0.f2.getD v4.toNat 0).toNat:Int) < (32:Int))) then true else (decide (((a0.f2.getD v4.toNat 0).toNat:Int) ≥ (126:Int))))))=.d (.v (.bool z6)))] 1 (by kernel_rfl) (⟨(fun hg=>trivial),(fun hg=>trivial),⟨trivial,(by subst hz11; rfl)⟩⟩) ?_
                                          refine T_cond z6 (by kernel_rfl) (fun hc=>?_) (fun hc=>?_)
                                          · have h:=cond_tt hc h
                                            obtain ⟨hp17,h⟩:=chk_ok h
                                            obtain ⟨hp18,h⟩:=chk_ok h
                                            obtain ⟨l3,hl3,h⟩:=lett_ok h
                                            obtain hs:=Option.some.inj h; subst hs
                                            refine T_reg_end [(1,{ es:=some (([(UInt8.ofNat (92:Int).toNat),(UInt8.ofNat (120:Int).toNat)]).map cU) }),(2,{ es:=some ((v3++([(UInt8.ofNat (92:Int).toNat),(UInt8.ofNat (120:Int).toNat)])).map cU) }),(4,{ es:=some (l3.map cU) })] [1,9,177,178] [(9,.own 5 1 (l3.map cU))] [(1,[[Dat.v (.int .u8 (92:Int))],[Dat.v (.int .u8 (120:Int))]]=(([(UInt8.ofNat (92:Int).toNat),(UInt8.ofNat (120:Int).toNat)]).map cU)),(0,(v3.map cU).length+(([(UInt8.ofNat (92:Int).toNat),(UInt8.ofNat (120:Int).toNat)]).map cU).length≤4294967296∧(v3.map cU)++(([(UInt8.ofNat (92:Int).toNat),(UInt8.ofNat (120:Int).toNat)]).map cU)=((v3++([(UInt8.ofNat (92:Int).toNat),(UInt8.ofNat (120:Int).toNat)])).map cU)),(1,((v3++([(UInt8.ofNat (92:Int).toNat),(UInt8.ofNat (120:Int).toNat)])).map cU).length+(([(UInt8.ofNat z1.toNat),(UInt8.ofNat z2.toNat)]).map cU).length≤4294967296∧((v3++([(UInt8.ofNat (92:Int).toNat),(UInt8.ofNat (120:Int).toNat)])).map cU)++(([(UInt8.ofNat z1.toNat),(UInt8.ofNat z2.toNat)]).map cU)=(l3.map cU))] 1 (by kernel_rfl) (⟨(lit_u (by decide) (lit_u (by decide) (rfl:([]:List (List Dat))=([]:List UInt8).map cU))),app_ok cU hp17,and_trans (app_ok cU hp18) (by subst hl3; rfl)⟩) fun a w hm=>inBlock_norm (inBlock_norm (then_norm (hm.co (cs:=[.keep [1,9,177,178]]) (by show _=_; kernel_rfl))))
                                          · have h:=cond_ff hc h
                                            obtain ⟨hp19,h⟩:=chk_ok h
                                            obtain ⟨hp20,h⟩:=chk_ok h
                                            obtain hs:=Option.some.inj h; subst hs
                                            refine T_reg_end [(2,{ es:=some (([(UInt8.ofNat ((a0.f2.getD v4.toNat 0).toNat:Int).toNat)]).map cU) }),(3,{ es:=some ((v3++([(UInt8.ofNat ((a0.f2.getD v4.toNat 0).toNat:Int).toNat)])).map cU) })] [1,9,177,178] [(9,.own 5 1 ((v3++([(UInt8.ofNat ((a0.f2.getD v4.toNat 0).toNat:Int).toNat)])).map cU))] [(2,[[Dat.v (.int .u8 ((a0.f2.getD v4.toNat 0).toNat:Int))]]=(([(UInt8.ofNat ((a0.f2.getD v4.toNat 0).toNat:Int).toNat)]).map cU)),(0,(v3.map cU).length+(([(UInt8.ofNat ((a0.f2.getD v4.toNat 0).toNat:Int).toNat)]).map cU).length≤4294967296∧(v3.map cU)++(([(UInt8.ofNat ((a0.f2.getD v4.toNat 0).toNat:Int).toNat)]).map cU)=((v3++([(UInt8.ofNat ((a0.f2.getD v4.toNat 0).toNat:Int).toNat)])).map cU))] 1 (by kernel_rfl) (⟨(lit_u hp19 (rfl:([]:List (List Dat))=([]:List UInt8).map cU)),app_ok cU hp20⟩) fun a w hm=>inBlock_norm (inBlock_norm (then_norm (hm.co (cs:=[.keep [1,9,177,178]]) (by show _=_; kernel_rfl))))
                              · skip
                                refine T_reg_end [] [1,9,177,178] [(178,.d (.v (.int .i64 (IntKind.i64.wrap (v4+(1:Int))))))] [] 2 (by kernel_rfl) (trivial) fun a w hm=>then_norm (⟨(v5,IntKind.i64.wrap (v4+(1:Int))),h,hm.co (cs:=[.keep [1,9,177,178]]) (by show _=_; kernel_rfl)⟩)
                            · have h:=cond_ff hc h
                              obtain hs:=Option.some.inj h; subst hs
                              refine T_exit fun a w hm=>then_exit (then_exit (inBlock_exit (then_norm (hm.co (cs:=[.keep [1,9]]) (by show _=_; kernel_rfl)))))
                          · skip
                            refine fun a w hm=>then_norm (((?_:T Tryz.prog e 283 _ _ _) a w hm))
                            refine T_seqk ?_
                            refine T_reg [] [9,275] [(275,.d (.v (.bool (a0.f0 == (2:Int)))))] [] 3 (by kernel_rfl) (trivial) ?_
                            refine T_cond (a0.f0 == (2:Int)) (by kernel_rfl) (fun hc=>?_) (fun hc=>?_)
                            · have h:=cond_tt hc h
                              obtain ⟨hp21,h⟩:=chk_ok h
                              refine T_reg [(1,{ cs:=[.str v7] })] [2,3] [(2,.d (.str (([47]:List UInt8)++v7))),(3,.d (.v (.int .i64 (0:Int))))] [(1,(v7.map cU)=byteCells v7),(0,([47]:List UInt8).length+v7.length≤9223372036854775807)] 2 (by kernel_rfl) (⟨rfl,hp21⟩) ?_
                              obtain hs:=Option.some.inj h; subst hs
                              refine T_ret fun a w hm=>then_ret (T_return (fr':=[(2,.d (.str (([47]:List UInt8)++v7))),(3,.d (.v (.int .i64 (0:Int))))]) [2,3] (by kernel_rfl) [.keep [2,3]] (by kernel_rfl) (by kernel_rfl) (by kernel_rfl) (by show _=_; kernel_rfl) (by exact trivial) a w hm)
                            · have h:=cond_ff hc h
                              refine T_skip fun a w hm=>then_norm (((?_:T Tryz.prog e 283 _ _ _) a w hm))
                              obtain ⟨hp22,h⟩:=chk_ok h
                              obtain ⟨hp23,h⟩:=chk_ok h
                              refine T_reg [(1,{ cs:=[.str v7] })] [2,3] [(2,.d (.str ((([40]:List UInt8)++v7)++([41]:List UInt8)))),(3,.d (.v (.int .i64 (0:Int))))] [(1,(v7.map cU)=byteCells v7),(0,([40]:List UInt8).length+v7.length≤9223372036854775807),(0,(([40]:List UInt8)++v7).length+([41]:List UInt8).length≤9223372036854775807)] 2 (by kernel_rfl) (⟨rfl,hp22,hp23⟩) ?_
                              obtain hs:=Option.some.inj h; subst hs
                              refine T_ret fun a w hm=>T_return (fr':=[(2,.d (.str ((([40]:List UInt8)++v7)++([41]:List UInt8)))),(3,.d (.v (.int .i64 (0:Int))))]) [2,3] (by kernel_rfl) [.keep [2,3]] (by kernel_rfl) (by kernel_rfl) (by kernel_rfl) (by show _=_; kernel_rfl) (by exact trivial) a w hm
theorem ref3_partError_ok {F:Nat} {a0:S_Object} {a1:Int} {r:Int} (h:ref3_partError F a0 a1=some r):ACall Tryz.prog 54 [.agg (cS_Object a0),.d (.v (.int .i64 a1))] [] (.d (.v (.int .i64 r))) []:=by
  rw [ref3_partError] at h
  refine ACall.intro (N:=133) Tryz.func54 rfl rfl rfl rfl rfl fun e=>?_
  refine T_reg [] [1,2] [(2,.box [.d (.v (.int .i64 a0.f0)),.d (.v (.int .i64 a0.f1)),.d (.str a0.f2),.d (.sl 1 (a0.f3.map cS)),.d (.sl 5 (a0.f4.map rS_Object))])] [] 2 (by kernel_rfl) (trivial) ?_
  refine T_reg [] [1,2,5] [(5,.d (.v (.int .i64 a0.f0)))] [] 3 (by kernel_rfl) (trivial) ?_
  refine T_seqk ?_
  refine T_block ?_
  refine T_reg [] [1,2,5,12] [(12,.d (.v (.bool (bif (decide (a0.f0 < (0:Int))) then true else (decide (a0.f0 > (7:Int)))))))] [(3,((((decide (a0.f0 < (0:Int))) == false) && true)=true→True)),(0,((((decide (a0.f0 < (0:Int))) == false) && true)=true→True))] 2 (by kernel_rfl) (⟨(fun hg=>trivial),(fun hg=>trivial)⟩) ?_
  refine T_cond (bif (decide (a0.f0 < (0:Int))) then true else (decide (a0.f0 > (7:Int)))) (by kernel_rfl) (fun hc=>?_) (fun hc=>?_)
  · have h:=cond_tt hc h
    refine T_reg [] [4] [(4,.d (.v (.int .i64 (14:Int))))] [] 1 (by kernel_rfl) (trivial) ?_
    obtain hs:=Option.some.inj h; subst hs
    refine T_ret fun a w hm=>inBlock_ret (then_ret (T_return (fr':=[(4,.d (.v (.int .i64 (14:Int))))]) [4] (by kernel_rfl) [.keep [4]] (by kernel_rfl) (by kernel_rfl) (by kernel_rfl) (by show _=_; kernel_rfl) (by exact trivial) a w hm))
  · have h:=cond_ff hc h
    refine T_reg [] [2,5,19] [(19,.d (.v (.bool (decide (a1 > (12:Int))))))] [] 3 (by kernel_rfl) (trivial) ?_
    refine T_cond (decide (a1 > (12:Int))) (by kernel_rfl) (fun hc=>?_) (fun hc=>?_)
    · have h:=cond_tt hc h
      refine T_reg [] [4] [(4,.d (.v (.int .i64 (15:Int))))] [] 1 (by kernel_rfl) (trivial) ?_
      obtain hs:=Option.some.inj h; subst hs
      refine T_ret fun a w hm=>inBlock_ret (then_ret (T_return (fr':=[(4,.d (.v (.int .i64 (15:Int))))]) [4] (by kernel_rfl) [.keep [4]] (by kernel_rfl) (by kernel_rfl) (by kernel_rfl) (by show _=_; kernel_rfl) (by exact trivial) a w hm))
    · have h:=cond_ff hc h
      obtain ⟨z2,hz1,h⟩:=lett_ok h
      refine T_reg [(10,{ rw:=some (.d (.v (.bool z2))) })] [2,5,22] [(22,.d (.v (.bool (bif z2 then (a0.f0 != (5:Int)) else false))))] [(4,((((a0.f1 != (0:Int)) == true) && true)=true→True)),(0,((((a0.f1 != (0:Int)) == true) && true)=true→True)),(2,((((bif (a0.f1 != (0:Int)) then (a0.f0 != (1:Int)) else false) == true) && true)=true→True)),(0,((((bif (a0.f1 != (0:Int)) then (a0.f0 != (1:Int)) else false) == true) && true)=true→True)),(0,(True)∧AV.d (.v (.bool (bif (bif (a0.f1 != (0:Int)) then (a0.f0 != (1:Int)) else false) then (a0.f0 != (2:Int)) else false)))=.d (.v (.bool z2))),(1,(((z2 == true) && true)=true→True)),(0,(((z2 == true) && true)=true→True))] 2 (by kernel_rfl) (⟨(fun hg=>trivial),(fun hg=>trivial),(fun hg=>trivial),(fun hg=>trivial),⟨trivial,(by subst hz1; rfl)⟩,(fun hg=>trivial),(fun hg=>trivial)⟩) ?_
      refine T_cond (bif z2 then (a0.f0 != (5:Int)) else false) (by kernel_rfl) (fun hc=>?_) (fun hc=>?_)
      · have h:=cond_tt hc h
        refine T_reg [] [4] [(4,.d (.v (.int .i64 (4:Int))))] [] 1 (by kernel_rfl) (trivial) ?_
        obtain hs:=Option.some.inj h; subst hs
        refine T_ret fun a w hm=>inBlock_ret (then_ret (T_return (fr':=[(4,.d (.v (.int .i64 (4:Int))))]) [4] (by kernel_rfl) [.keep [4]] (by kernel_rfl) (by kernel_rfl) (by kernel_rfl) (by show _=_; kernel_rfl) (by exact trivial) a w hm))
      · have h:=cond_ff hc h
        obtain ⟨z3,hz2,h⟩:=lett_ok h
        refine T_reg [(10,{ rw:=some (.d (.v (.bool z3))) })] [2,5,38] [(38,.d (.v (.bool z3)))] [(4,((((!(a0.f2 == [])) == true) && true)=true→True)),(0,((((!(a0.f2 == [])) == true) && true)=true→True)),(2,((((bif (!(a0.f2 == [])) then (a0.f0 != (3:Int)) else false) == true) && true)=true→True)),(0,((((bif (!(a0.f2 == [])) then (a0.f0 != (3:Int)) else false) == true) && true)=true→True)),(0,(True)∧AV.d (.v (.bool (bif (bif (!(a0.f2 == [])) then (a0.f0 != (3:Int)) else false) then (a0.f0 != (4:Int)) else false)))=.d (.v (.bool z3)))] 1 (by kernel_rfl) (⟨(fun hg=>trivial),(fun hg=>trivial),(fun hg=>trivial),(fun hg=>trivial),⟨trivial,(by subst hz2; rfl)⟩⟩) ?_
        refine T_cond z3 (by kernel_rfl) (fun hc=>?_) (fun hc=>?_)
        · have h:=cond_tt hc h
          refine T_reg [] [4] [(4,.d (.v (.int .i64 (4:Int))))] [] 1 (by kernel_rfl) (trivial) ?_
          obtain hs:=Option.some.inj h; subst hs
          refine T_ret fun a w hm=>inBlock_ret (then_ret (T_return (fr':=[(4,.d (.v (.int .i64 (4:Int))))]) [4] (by kernel_rfl) [.keep [4]] (by kernel_rfl) (by kernel_rfl) (by kernel_rfl) (by show _=_; kernel_rfl) (by exact trivial) a w hm))
        · have h:=cond_ff hc h
          obtain ⟨z4,hz3,h⟩:=lett_ok h
          refine T_reg [(2,{ rw:=some (.d (.v (.int .i64 (a0.f4.length:Int)))) }),(11,{ rw:=some (.d (.v (.bool z4))) })] [2,5,50] [(50,.d (.v (.bool z4)))] [(2,True∧AV.d (.v (.int .i64 ((a0.f4.map rS_Object).length:Int)))=.d (.v (.int .i64 (a0.f4.length:Int)))),(2,((((decide ((a0.f4.length:Int) > (0:Int))) == true) && true)=true→True)),(0,((((decide ((a0.f4.length:Int) > (0:Int))) == true) && true)=true→True)),(2,((((bif (decide ((a0.f4.length:Int) > (0:Int))) then (a0.f0 != (6:Int)) else false) == true) && true)=true→True)),(0,((((bif (decide ((a0.f4.length:Int) > (0:Int))) then (a0.f0 != (6:Int)) else false) == true) && true)=true→True)),(0,(True)∧AV.d (.v (.bool (bif (bif (decide ((a0.f4.length:Int) > (0:Int))) then (a0.f0 != (6:Int)) else false) then (a0.f0 != (7:Int)) else false)))=.d (.v (.bool z4)))] 1 (by kernel_rfl) (⟨len_ok rS_Object,(fun hg=>trivial),(fun hg=>trivial),(fun hg=>trivial),(fun hg=>trivial),⟨trivial,(by subst hz3; rfl)⟩⟩) ?_
          refine T_cond z4 (by kernel_rfl) (fun hc=>?_) (fun hc=>?_)
          · have h:=cond_tt hc h
            refine T_reg [] [4] [(4,.d (.v (.int .i64 (4:Int))))] [] 1 (by kernel_rfl) (trivial) ?_
            obtain hs:=Option.some.inj h; subst hs
            refine T_ret fun a w hm=>inBlock_ret (then_ret (T_return (fr':=[(4,.d (.v (.int .i64 (4:Int))))]) [4] (by kernel_rfl) [.keep [4]] (by kernel_rfl) (by kernel_rfl) (by kernel_rfl) (by show _=_; kernel_rfl) (by exact trivial) a w hm))
          · have h:=cond_ff hc h
            obtain ⟨z5,hz4,h⟩:=lett_ok h
            refine T_reg [(5,{ rw:=some (.d (.v (.int .i64 (a0.f3.length:Int)))) }),(8,{ rw:=some (.d (.v (.int .i64 (a0.f4.length:Int)))) }),(17,{ rw:=some (.d (.v (.int .i64 (a0.f3.length:Int)))) }),(20,{ rw:=some (.d (.v (.bool z5))) })] [2,5,63] [(63,.d (.v (.bool z5)))] [(3,((((a0.f0 == (7:Int)) == true) && true)=true→True)),(0,((((a0.f0 == (7:Int)) == true) && true)=true→True)),(0,((((a0.f0 == (7:Int)) == true) && true)=true→True∧AV.d (.v (.int .i64 ((a0.f3.map cS).length:Int)))=.d (.v (.int .i64 (a0.f3.length:Int))))),(0,((((a0.f0 == (7:Int)) == true) && true)=true→True)),(0,((((a0.f0 == (7:Int)) == true) && true)=true→True)),(0,((((a0.f0 == (7:Int)) == true) && true)=true→True∧AV.d (.v (.int .i64 ((a0.f4.map rS_Object).length:Int)))=.d (.v (.int .i64 (a0.f4.length:Int))))),(0,((((a0.f0 == (7:Int)) == true) && true)=true→True)),(2,((((bif (a0.f0 == (7:Int)) then ((a0.f3.length:Int) != (a0.f4.length:Int)) else false) == false) && true)=true→True)),(0,((((bif (a0.f0 == (7:Int)) then ((a0.f3.length:Int) != (a0.f4.length:Int)) else false) == false) && true)=true→True)),(0,((((bif (a0.f0 == (7:Int)) then ((a0.f3.length:Int) != (a0.f4.length:Int)) else false) == false) && true)=true→True)),(0,((((a0.f0 != (7:Int)) == true) && (((bif (a0.f0 == (7:Int)) then ((a0.f3.length:Int) != (a0.f4.length:Int)) else false) == false) && true))=true→True)),(0,((((a0.f0 != (7:Int)) == true) && (((bif (a0.f0 == (7:Int)) then ((a0.f3.length:Int) != (a0.f4.length:Int)) else false) == false) && true))=true→True)),(0,((((a0.f0 != (7:Int)) == true) && (((bif (a0.f0 == (7:Int)) then ((a0.f3.length:Int) != (a0.f4.length:Int)) else false) == false) && true))=true→True∧AV.d (.v (.int .i64 ((a0.f3.map cS).length:Int)))=.d (.v (.int .i64 (a0.f3.length:Int))))),(0,((((a0.f0 != (7:Int)) == true) && (((bif (a0.f0 == (7:Int)) then ((a0.f3.length:Int) != (a0.f4.length:Int)) else false) == false) && true))=true→True)),(0,((((bif (a0.f0 == (7:Int)) then ((a0.f3.length:Int) != (a0.f4.length:Int)) else false) == false) && true)=true→True)),(0,(True)∧AV.d (.v (.bool (bif (bif (a0.f0 == (7:Int)) then ((a0.f3.length:Int) != (a0.f4.length:Int)) else false) then true else (bif (a0.f0 != (7:Int)) then (decide ((a0.f3.length:Int) > (0:Int))) else false))))=.d (.v (.bool z5)))] 1 (by kernel_rfl) (⟨(fun hg=>trivial),(fun hg=>trivial),(fun hg=>len_ok cS),(fun hg=>trivial),(fun hg=>trivial),(fun hg=>len_ok rS_Object),(fun hg=>trivial),(fun hg=>trivial),(fun hg=>trivial),(fun hg=>trivial),(fun hg=>trivial),(fun hg=>trivial),(fun hg=>len_ok cS),(fun hg=>trivial),(fun hg=>trivial),⟨trivial,(by subst hz4; rfl)⟩⟩) ?_
            refine T_cond z5 (by kernel_rfl) (fun hc=>?_) (fun hc=>?_)
            · have h:=cond_tt hc h
              refine T_reg [] [4] [(4,.d (.v (.int .i64 (4:Int))))] [] 1 (by kernel_rfl) (trivial) ?_
              obtain hs:=Option.some.inj h; subst hs
              refine T_ret fun a w hm=>inBlock_ret (then_ret (T_return (fr':=[(4,.d (.v (.int .i64 (4:Int))))]) [4] (by kernel_rfl) [.keep [4]] (by kernel_rfl) (by kernel_rfl) (by kernel_rfl) (by show _=_; kernel_rfl) (by exact trivial) a w hm))
            · have h:=cond_ff hc h
              obtain ⟨z6,hz5,h⟩:=lett_ok h
              refine T_reg [(11,{ rw:=some (.d (.v (.bool z6))) })] [2,85] [(85,.d (.v (.bool z6)))] [(3,((((a0.f0 == (1:Int)) == true) && true)=true→True)),(0,((((a0.f0 == (1:Int)) == true) && true)=true→True)),(0,((((a0.f0 == (1:Int)) == true) && true)=true→True)),(0,((((a0.f0 == (1:Int)) == true) && true)=true→True)),(0,((((decide (a0.f1 < (0:Int))) == false) && (((a0.f0 == (1:Int)) == true) && true))=true→True)),(0,((((decide (a0.f1 < (0:Int))) == false) && (((a0.f0 == (1:Int)) == true) && true))=true→True)),(0,((((decide (a0.f1 < (0:Int))) == false) && (((a0.f0 == (1:Int)) == true) && true))=true→True)),(0,((((a0.f0 == (1:Int)) == true) && true)=true→True)),(0,(True)∧AV.d (.v (.bool (bif (a0.f0 == (1:Int)) then (bif (decide (a0.f1 < (0:Int))) then true else (decide (a0.f1 > (1:Int)))) else false)))=.d (.v (.bool z6)))] 1 (by kernel_rfl) (⟨(fun hg=>trivial),(fun hg=>trivial),(fun hg=>trivial),(fun hg=>trivial),(fun hg=>trivial),(fun hg=>trivial),(fun hg=>trivial),(fun hg=>trivial),⟨trivial,(by subst hz5; rfl)⟩⟩) ?_
              refine T_cond z6 (by kernel_rfl) (fun hc=>?_) (fun hc=>?_)
              · have h:=cond_tt hc h
                refine T_reg [] [4] [(4,.d (.v (.int .i64 (3:Int))))] [] 1 (by kernel_rfl) (trivial) ?_
                obtain hs:=Option.some.inj h; subst hs
                refine T_ret fun a w hm=>inBlock_ret (then_ret (T_return (fr':=[(4,.d (.v (.int .i64 (3:Int))))]) [4] (by kernel_rfl) [.keep [4]] (by kernel_rfl) (by kernel_rfl) (by kernel_rfl) (by show _=_; kernel_rfl) (by exact trivial) a w hm))
              · have h:=cond_ff hc h
                refine T_reg [(2,{ rw:=some (.d (.v (.int .i64 (a0.f4.length:Int)))) })] [2,98] [(98,.d (.v (.bool (decide ((a0.f4.length:Int) > (256:Int))))))] [(2,True∧AV.d (.v (.int .i64 ((a0.f4.map rS_Object).length:Int)))=.d (.v (.int .i64 (a0.f4.length:Int))))] 2 (by kernel_rfl) (len_ok rS_Object) ?_
                refine T_cond (decide ((a0.f4.length:Int) > (256:Int))) (by kernel_rfl) (fun hc=>?_) (fun hc=>?_)
                · have h:=cond_tt hc h
                  refine T_reg [] [4] [(4,.d (.v (.int .i64 (2:Int))))] [] 1 (by kernel_rfl) (trivial) ?_
                  obtain hs:=Option.some.inj h; subst hs
                  refine T_ret fun a w hm=>inBlock_ret (then_ret (T_return (fr':=[(4,.d (.v (.int .i64 (2:Int))))]) [4] (by kernel_rfl) [.keep [4]] (by kernel_rfl) (by kernel_rfl) (by kernel_rfl) (by show _=_; kernel_rfl) (by exact trivial) a w hm))
                · have h:=cond_ff hc h
                  refine T_skip fun a w hm=>inBlock_norm (then_norm (((?_:T Tryz.prog e 133 _ _ _) a w hm)))
                  refine T_seqk ?_
                  refine T_reg [(2,{ rw:=some (.d (.v (.int .i64 (a0.f3.length:Int)))) })] [2,104,105,106] [(104,.d (.sl 1 (a0.f3.map cS))),(105,.d (.v (.int .i64 (a0.f3.length:Int)))),(106,.d (.v (.int .i64 (0:Int))))] [(2,True∧AV.d (.v (.int .i64 ((a0.f3.map cS).length:Int)))=.d (.v (.int .i64 (a0.f3.length:Int))))] 1 (by kernel_rfl) (len_ok cS) ?_
                  refine T_joinEt h (fun (p:Unit)=>[]) (fun s h hk1=>?_) (fun s h=>?_)
                  · refine T_co [.keep [2,104,105,106]] ((fun (p:Int)=>[(2,.box [.d (.v (.int .i64 a0.f0)),.d (.v (.int .i64 a0.f1)),.d (.str a0.f2),.d (.sl 1 (a0.f3.map cS)),.d (.sl 5 (a0.f4.map rS_Object))]),(104,.d (.sl 1 (a0.f3.map cS))),(105,.d (.v (.int .i64 (a0.f3.length:Int)))),(106,.d (.v (.int .i64 p)))]) (0:Int)) (by show _=_; kernel_rfl) ?_
                    refine T_block ?_
                    refine T_loopF (ι:=Int) (fun (p:Int)=>[(2,.box [.d (.v (.int .i64 a0.f0)),.d (.v (.int .i64 a0.f1)),.d (.str a0.f2),.d (.sl 1 (a0.f3.map cS)),.d (.sl 5 (a0.f4.map rS_Object))]),(104,.d (.sl 1 (a0.f3.map cS))),(105,.d (.v (.int .i64 (a0.f3.length:Int)))),(106,.d (.v (.int .i64 p)))]) (fun n p=>ref3_partError_L1 F a0 n p=some s) (fun i hh=>by simp [ref3_partError_L1] at hh) (fun n v1 h=>?_) F (0:Int) h
                    have h:ref3_partError_L1 F a0 (n+1) v1=some s:=h
                    rw [ref3_partError_L1] at h
                    refine T_reg [] [2,104,105,106,107] [(107,.d (.v (.bool (decide (v1 < (a0.f3.length:Int))))))] [] 1 (by kernel_rfl) (trivial) ?_
                    refine T_seqk ?_
                    refine T_cond (decide (v1 < (a0.f3.length:Int))) (by kernel_rfl) (fun hc=>?_) (fun hc=>?_)
                    · have h:=cond_tt hc h
                      refine T_skip fun a w hm=>then_norm (((?_:T Tryz.prog e 133 _ _ _) a w hm))
                      refine T_seqk ?_
                      refine T_block ?_
                      obtain ⟨hp1,h⟩:=chk_ok h
                      refine T_reg [(1,{ cs:=cS (a0.f3.getD v1.toNat []) })] [2,6,7,104,105,106] [(6,.d (.v (.int .i64 v1))),(7,.d (.str (a0.f3.getD v1.toNat [])))] [(1,0≤v1∧(a0.f3.map cS)[v1.toNat]? = some (cS (a0.f3.getD v1.toNat [])))] 3 (by kernel_rfl) (idx_ok (d:=[]) cS hp1) ?_
                      refine T_seqk ?_
                      obtain ⟨y1,hy1,h⟩:=call_ok h
                      refine T_reg [(2,{ res:=.tup [.d (.str y1.1),.d (.v (.int .i64 y1.2))] })] [2,6,7,9,104,105,106] [(9,.d (.v (.int .i64 y1.2)))] [(2,ACall Tryz.prog 27 [.agg (cS_Token (S_Token.mk (2:Int) 0 (a0.f3.getD v1.toNat []) 0 0))] [] (.tup [.d (.str y1.1),.d (.v (.int .i64 y1.2))]) [])] 5 (by kernel_rfl) (ref3_Spelled_ok hy1) ?_
                      refine T_reg [] [2,6,7,9,104,105,106,118] [(118,.d (.v (.bool (y1.2 != (0:Int)))))] [] 2 (by kernel_rfl) (trivial) ?_
                      refine T_cond (y1.2 != (0:Int)) (by kernel_rfl) (fun hc=>?_) (fun hc=>?_)
                      · have h:=cond_tt hc h
                        refine T_reg [] [4] [(4,.d (.v (.int .i64 y1.2)))] [] 2 (by kernel_rfl) (trivial) ?_
                        obtain hs:=Option.some.inj h; subst hs
                        have h:=callE_esc hk1
                        obtain hs:=Option.some.inj h; subst hs
                        refine T_ret fun a w hm=>then_ret (inBlock_ret (then_ret (then_ret (inBlock_ret (then_ret (then_ret (T_return (fr':=[(4,.d (.v (.int .i64 y1.2)))]) [4] (by kernel_rfl) [.keep [4]] (by kernel_rfl) (by kernel_rfl) (by kernel_rfl) (by show _=_; kernel_rfl) (by exact trivial) a w hm)))))))
                      · have h:=cond_ff hc h
                        refine T_skip fun a w hm=>then_norm (((?_:T Tryz.prog e 133 _ _ _) a w hm))
                        obtain ⟨hp2,h⟩:=chk_ok h
                        obtain ⟨z1,hz6,h⟩:=lett_ok h
                        refine T_reg [(8,{ cs:=cS (a0.f3.getD (IntKind.i64.wrap (v1 - (1:Int))).toNat []) }),(10,{ rw:=some (.d (.v (.bool z1))) })] [2,104,105,106,131] [(131,.d (.v (.bool (bif (decide (v1 > (0:Int))) then z1 else false))))] [(3,((((decide (v1 > (0:Int))) == true) && true)=true→True)),(0,((((decide (v1 > (0:Int))) == true) && true)=true→True)),(0,((((decide (v1 > (0:Int))) == true) && true)=true→True)),(0,((((decide (v1 > (0:Int))) == true) && true)=true→True)),(0,((((decide (v1 > (0:Int))) == true) && true)=true→True)),(0,((((decide (v1 > (0:Int))) == true) && true)=true→0≤(IntKind.i64.wrap (v1 - (1:Int)))∧(a0.f3.map cS)[(IntKind.i64.wrap (v1 - (1:Int))).toNat]? = some (cS (a0.f3.getD (IntKind.i64.wrap (v1 - (1:Int))).toNat [])))),(0,((((decide (v1 > (0:Int))) == true) && true)=true→True)),(0,((((decide (v1 > (0:Int))) == true) && true)=true→(True)∧AV.d (.v (.bool (Op.bytesLess (a0.f3.getD v1.toNat []) (a0.f3.getD (IntKind.i64.wrap (v1 - (1:Int))).toNat []) || (a0.f3.getD v1.toNat []) == (a0.f3.getD (IntKind.i64.wrap (v1 - (1:Int))).toNat []))))=.d (.v (.bool z1))))] 1 (by kernel_rfl) (⟨(fun hg=>trivial),(fun hg=>trivial),(fun hg=>trivial),(fun hg=>trivial),(fun hg=>trivial),(fun hg=>idx_ok (d:=[]) cS (hp2 hg)),(fun hg=>trivial),(fun hg=>⟨trivial,(by subst hz6; rfl)⟩)⟩) ?_
                        refine T_cond (bif (decide (v1 > (0:Int))) then z1 else false) (by kernel_rfl) (fun hc=>?_) (fun hc=>?_)
                        · have h:=cond_tt hc h
                          refine T_reg [] [4] [(4,.d (.v (.int .i64 (4:Int))))] [] 1 (by kernel_rfl) (trivial) ?_
                          obtain hs:=Option.some.inj h; subst hs
                          have h:=callE_esc hk1
                          obtain hs:=Option.some.inj h; subst hs
                          refine T_ret fun a w hm=>inBlock_ret (then_ret (then_ret (inBlock_ret (then_ret (then_ret (T_return (fr':=[(4,.d (.v (.int .i64 (4:Int))))]) [4] (by kernel_rfl) [.keep [4]] (by kernel_rfl) (by kernel_rfl) (by kernel_rfl) (by show _=_; kernel_rfl) (by exact trivial) a w hm))))))
                        · have h:=cond_ff hc h
                          refine T_skip fun a w hm=>inBlock_norm (then_norm (((?_:T Tryz.prog e 133 _ _ _) a w hm)))
                          refine T_reg_end [] [2,104,105,106] [(106,.d (.v (.int .i64 (IntKind.i64.wrap (v1+(1:Int))))))] [] 2 (by kernel_rfl) (trivial) fun a w hm=>then_norm (⟨IntKind.i64.wrap (v1+(1:Int)),h,hm.co (cs:=[.keep [2,104,105,106]]) (by show _=_; kernel_rfl)⟩)
                    · have h:=cond_ff hc h
                      obtain hs:=Option.some.inj h; subst hs
                      refine T_exit fun a w hm=>then_exit (then_exit (inBlock_exit (then_norm (⟨_,rfl,hm.co (cs:=[.keep []]) (by show _=_; kernel_rfl)⟩))))
                  · skip
                    refine fun a w hm=>then_norm (((?_:T Tryz.prog e 133 _ _ _) a w hm))
                    refine T_reg [] [4] [(4,.d (.v (.int .i64 (0:Int))))] [] 1 (by kernel_rfl) (trivial) ?_
                    obtain hs:=Option.some.inj h; subst hs
                    refine T_ret fun a w hm=>T_return (fr':=[(4,.d (.v (.int .i64 (0:Int))))]) [4] (by kernel_rfl) [.keep [4]] (by kernel_rfl) (by kernel_rfl) (by kernel_rfl) (by show _=_; kernel_rfl) (by exact trivial) a w hm
set_option maxHeartbeats 8000000 in
set_option maxRecDepth 100000 in
theorem ref3_tokensOf_body_ok {F:Nat} {rec_ref3_tokensOf:(List S_Token)→S_Object→Int→Int→Option ((List S_Token)×Int×Int)} (hrec_ref3_tokensOf:∀ {a0:List S_Token},∀ {a1:S_Object},∀ {a2:Int},∀ {c3:Int},∀ {r:(List S_Token)×Int×Int},rec_ref3_tokensOf a0 a1 a2 c3=some r→ACall Tryz.prog 26 [.own 46 5 (a0.map cS_Token),.agg (cS_Object a1),.d (.v (.int .i64 a2)),.bp 1000000 0] [.box [.d (.v (.int .i64 c3))]] (.tup [.own 46 5 (r.1.map cS_Token),.d (.v (.int .i64 r.2.1))]) [.box [.d (.v (.int .i64 r.2.2))]]) {a0:List S_Token} {a1:S_Object} {a2:Int} {c3:Int} {r:(List S_Token)×Int×Int} (h:ref3_tokensOf_body F rec_ref3_tokensOf a0 a1 a2 c3=some r):ACall Tryz.prog 26 [.own 46 5 (a0.map cS_Token),.agg (cS_Object a1),.d (.v (.int .i64 a2)),.bp 1000000 0] [.box [.d (.v (.int .i64 c3))]] (.tup [.own 46 5 (r.1.map cS_Token),.d (.v (.int .i64 r.2.1))]) [.box [.d (.v (.int .i64 r.2.2))]]:=by
  rw [ref3_tokensOf_body] at h
  refine ACall.intro (N:=112) Tryz.func26 rfl rfl rfl rfl rfl fun e=>?_
  refine T_reg [] [0,2,3,5,1000000] [(5,.box [.d (.v (.int .i64 a1.f0)),.d (.v (.int .i64 a1.f1)),.d (.str a1.f2),.d (.sl 1 (a1.f3.map cS)),.d (.sl 5 (a1.f4.map rS_Object))])] [] 3 (by kernel_rfl) (trivial) ?_
  refine T_reg [] [0,2,3,5,1000000] [(1000000,.box [.d (.v (.int .i64 (IntKind.i64.wrap (c3+(1:Int)))))])] [] 6 (by kernel_rfl) (trivial) ?_
  refine T_seqk ?_
  refine T_reg [] [0,2,3,5,25,1000000] [(25,.d (.v (.bool (decide ((IntKind.i64.wrap (c3+(1:Int))) > (4096:Int))))))] [] 4 (by kernel_rfl) (trivial) ?_
  refine T_cond (decide ((IntKind.i64.wrap (c3+(1:Int))) > (4096:Int))) (by kernel_rfl) (fun hc=>?_) (fun hc=>?_)
  · have h:=cond_tt hc h
    refine T_reg [] [8,9,1000000] [(8,.own 46 5 ([].map cS_Token)),(9,.d (.v (.int .i64 (2:Int))))] [] 2 (by kernel_rfl) (trivial) ?_
    obtain hs:=Option.some.inj h; subst hs
    refine T_ret fun a w hm=>then_ret (T_return (fr':=[(8,.own 46 5 ([].map cS_Token)),(9,.d (.v (.int .i64 (2:Int)))),(1000000,.box [.d (.v (.int .i64 (IntKind.i64.wrap (c3+(1:Int)))))])]) [8,9] (by kernel_rfl) [.keep [8,9,1000000]] (by kernel_rfl) (by kernel_rfl) (by kernel_rfl) (by show _=_; kernel_rfl) (by exact ⟨⟨by kernel_rfl,by kernel_rfl⟩,trivial⟩) a w hm)
  · have h:=cond_ff hc h
    refine T_skip fun a w hm=>then_norm (((?_:T Tryz.prog e 112 _ _ _) a w hm))
    refine T_seqk ?_
    obtain ⟨y2,hy1,h⟩:=call_ok h
    refine T_reg [(2,{ res:=.d (.v (.int .i64 y2)) })] [0,2,3,5,10,1000000] [(10,.d (.v (.int .i64 y2)))] [(2,ACall Tryz.prog 54 [.agg (cS_Object a1),.d (.v (.int .i64 a2))] [] (.d (.v (.int .i64 y2))) [])] 1 (by kernel_rfl) (ref3_partError_ok hy1) ?_
    refine T_reg [] [0,2,3,5,10,30,1000000] [(30,.d (.v (.bool (y2 != (0:Int)))))] [] 2 (by kernel_rfl) (trivial) ?_
    refine T_cond (y2 != (0:Int)) (by kernel_rfl) (fun hc=>?_) (fun hc=>?_)
    · have h:=cond_tt hc h
      refine T_reg [] [8,9,1000000] [(8,.own 46 5 ([].map cS_Token)),(9,.d (.v (.int .i64 y2)))] [] 3 (by kernel_rfl) (trivial) ?_
      obtain hs:=Option.some.inj h; subst hs
      refine T_ret fun a w hm=>then_ret (T_return (fr':=[(8,.own 46 5 ([].map cS_Token)),(9,.d (.v (.int .i64 y2))),(1000000,.box [.d (.v (.int .i64 (IntKind.i64.wrap (c3+(1:Int)))))])]) [8,9] (by kernel_rfl) [.keep [8,9,1000000]] (by kernel_rfl) (by kernel_rfl) (by kernel_rfl) (by show _=_; kernel_rfl) (by exact ⟨⟨by kernel_rfl,by kernel_rfl⟩,trivial⟩) a w hm)
    · have h:=cond_ff hc h
      refine T_skip fun a w hm=>then_norm (((?_:T Tryz.prog e 112 _ _ _) a w hm))
      obtain ⟨hp1,h⟩:=chk_ok h
      obtain ⟨z1,hz1,h⟩:=lett_ok h
      refine T_drawG mixed [(12,0,some 1),(11,2,some 5),(10,34,some 7),(9,162,none),(8,163,none),(8,166,none),(8,226,none),(8,418,none),(8,1186,none),(7,167,some 3),(7,227,none),(7,230,none),(7,419,none),(7,422,none),(7,482,none),(7,1187,none),(7,1190,none),(7,1250,none),(7,1442,none),(6,175,none),(6,231,some 3),(6,423,some 3),(6,483,none),(6,486,none),(6,1191,some 3),(6,1251,none),(6,1254,none),(6,1443,none),(6,1446,none),(6,1506,none),(5,191,none),(5,239,none),(5,431,none),(5,487,some 3),(5,1199,none),(5,1255,some 3),(5,1447,some 3),(5,1507,none),(5,1510,none),(4,255,none),(4,447,none),(4,495,none),(4,1215,none),(4,1263,none),(4,1455,none),(4,1511,some 3),(3,511,none),(3,1279,none),(3,1471,none),(3,1519,none),(2,1023,none),(2,1535,none),(1,2047,none),(0,4095,none)] [(12,11,.box [.d (.v (.int .i64 z1)),.d (.v (.int .i64 a1.f1)),.d (.str a1.f2),.d (.v (.int .i64 0)),.d (.v (.int .i64 0))]),(11,11,.box [.d (.v (.int .i64 0)),.d (.v (.int .i64 0)),.d (.str []),.d (.v (.int .i64 0)),.d (.v (.int .i64 0))]),(10,41,.agg (cS_Token (S_Token.mk z1 a1.f1 a1.f2 0 0))),(9,40,.d (.str a1.f2)),(8,39,.bp 5 2),(7,38,.d (.v (.int .i64 a1.f1))),(6,37,.bp 5 1),(5,36,.d (.v (.int .i64 z1))),(4,35,.ep (32,0) 1 a1.f0.toNat 0),(3,34,.d (.v (.int .i64 a1.f0))),(2,33,.bp 5 0),(1,32,.own 3 1 (([(5:Int),(5:Int),(1:Int),(2:Int),(3:Int),(4:Int),(6:Int),(8:Int)]).map (cI .i64))),(0,0,.own 46 5 (a0.map cS_Token)),(0,2,.d (.v (.int .i64 a2))),(0,3,.bp 1000000 0),(0,5,.box [.d (.v (.int .i64 a1.f0)),.d (.v (.int .i64 a1.f1)),.d (.str a1.f2),.d (.sl 1 (a1.f3.map cS)),.d (.sl 5 (a1.f4.map rS_Object))]),(0,1000000,.box [.d (.v (.int .i64 (IntKind.i64.wrap (c3+(1:Int)))))])] [0,2,3,5,11,32,33,34,35,36,37,38,39,40,41,1000000] ([0,0,2,5,8,0,32,0,128,336,0,2047],[0,0,2,5,8,0,32,0,128,336,0,1536]) 170 [(0,{ es:=some (([(5:Int),(5:Int),(1:Int),(2:Int),(3:Int),(4:Int),(6:Int),(8:Int)]).map (cI .i64)) }),(4,{ cs:=(cI .i64) (([(5:Int),(5:Int),(1:Int),(2:Int),(3:Int),(4:Int),(6:Int),(8:Int)]).getD a1.f0.toNat 0),rw:=some (.d (.v (.int .i64 z1))) })] [0,2,3,5,11,1000000] [] [(0,.own 46 5 (a0.map cS_Token)),(2,.d (.v (.int .i64 a2))),(3,.bp 1000000 0),(5,.box [.d (.v (.int .i64 a1.f0)),.d (.v (.int .i64 a1.f1)),.d (.str a1.f2),.d (.sl 1 (a1.f3.map cS)),.d (.sl 5 (a1.f4.map rS_Object))]),(11,.box [.d (.v (.int .i64 z1)),.d (.v (.int .i64 a1.f1)),.d (.str a1.f2),.d (.v (.int .i64 0)),.d (.v (.int .i64 0))]),(1000000,.box [.d (.v (.int .i64 (IntKind.i64.wrap (c3+(1:Int)))))])] ((fun (o0:Prop)=>fun (o3:Prop)=>fun (o4:Prop)=>[(3,o0),(8,o0),(3,o0),(3,o0),(3,o0),(3,o3),(3,o0),(5,o0),(2,o0),(5,o0),(2,o0),(2,o0),(2,o4),(3,o3),(0,o3),(2,o0),(1,o3),(2,o0),(3,o0),(1,o0),(4,o4),(2,o4),(2,o3),(0,o4),(2,o3),(0,o3),(1,o0),(4,o4),(3,o4),(1,o4),(1,o3),(4,o4)]) ((([(5:Int),(5:Int),(1:Int),(2:Int),(3:Int),(4:Int),(6:Int),(8:Int)]).map (cI .i64))=(([(5:Int),(5:Int),(1:Int),(2:Int),(3:Int),(4:Int),(6:Int),(8:Int)]).map (cI .i64))) (0≤a1.f0∧a1.f0 < (([(5:Int),(5:Int),(1:Int),(2:Int),(3:Int),(4:Int),(6:Int),(8:Int)]).map (cI .i64)).length) (((([(5:Int),(5:Int),(1:Int),(2:Int),(3:Int),(4:Int),(6:Int),(8:Int)]).map (cI .i64))[a1.f0.toNat]? = some ((cI .i64) (([(5:Int),(5:Int),(1:Int),(2:Int),(3:Int),(4:Int),(6:Int),(8:Int)]).getD a1.f0.toNat 0)))∧AV.d (.v (.int .i64 (([(5:Int),(5:Int),(1:Int),(2:Int),(3:Int),(4:Int),(6:Int),(8:Int)]).getD a1.f0.toNat 0)))=.d (.v (.int .i64 z1)))) 3 (by kernel_rfl) (by kernel_rfl) (by kernel_rfl) (by kernel_rfl) (by kernel_rfl) (by kernel_rfl) (have p0:=rfl; have p3:=own_idx (cI .i64) hp1; have p4:=⟨(idx_ok (d:=0) (cI .i64) hp1).2,(by subst hz1; rfl)⟩; ⟨p0,p0,p0,p0,p0,p3,p0,p0,p0,p0,p0,p0,p4,p3,p3,p0,p3,p0,p0,p0,p4,p4,p3,p4,p3,p3,p0,p4,p4,p4,p3,p4⟩) ?_
      refine T_joinc h (fun (p:(List UInt8))=>[(0,.own 46 5 (a0.map cS_Token)),(2,.d (.v (.int .i64 a2))),(3,.bp 1000000 0),(5,.box [.d (.v (.int .i64 a1.f0)),.d (.v (.int .i64 a1.f1)),.d (.str a1.f2),.d (.sl 1 (a1.f3.map cS)),.d (.sl 5 (a1.f4.map rS_Object))]),(11,.box [.d (.v (.int .i64 z1)),.d (.v (.int .i64 a1.f1)),.d (.str p),.d (.v (.int .i64 0)),.d (.v (.int .i64 0))]),(1000000,.box [.d (.v (.int .i64 (IntKind.i64.wrap (c3+(1:Int)))))])]) (fun s h=>?_) (fun v5 h=>?_)
      · refine T_reg [] [0,2,3,5,11,44,1000000] [(44,.d (.v (.bool (a1.f0 == (0:Int)))))] [] 3 (by kernel_rfl) (trivial) ?_
        refine T_cond (a1.f0 == (0:Int)) (by kernel_rfl) (fun hc=>?_) (fun hc=>?_)
        · have h:=cond_tt hc h
          obtain hs:=Option.some.inj h; subst hs
          refine T_reg_end [] [0,2,3,5,11,1000000] [(11,.box [.d (.v (.int .i64 z1)),.d (.v (.int .i64 a1.f1)),.d (.str ([110,117,108,108]:List UInt8)),.d (.v (.int .i64 0)),.d (.v (.int .i64 0))])] [] 2 (by kernel_rfl) (trivial) fun a w hm=>then_norm (hm.co (cs:=[.keep [0,2,3,5,11,1000000]]) (by show _=_; kernel_rfl))
        · have h:=cond_ff hc h
          obtain hs:=Option.some.inj h; subst hs
          refine T_skip fun a w hm=>then_norm (hm.co (cs:=[.keep [0,2,3,5,11,1000000]]) (by show _=_; kernel_rfl))
      · skip
        refine T_joinc h (fun (p:Int×(List UInt8))=>[(0,.own 46 5 (a0.map cS_Token)),(2,.d (.v (.int .i64 a2))),(3,.bp 1000000 0),(5,.box [.d (.v (.int .i64 a1.f0)),.d (.v (.int .i64 a1.f1)),.d (.str a1.f2),.d (.sl 1 (a1.f3.map cS)),.d (.sl 5 (a1.f4.map rS_Object))]),(11,.box [.d (.v (.int .i64 z1)),.d (.v (.int .i64 p.1)),.d (.str p.2),.d (.v (.int .i64 0)),.d (.v (.int .i64 0))]),(1000000,.box [.d (.v (.int .i64 (IntKind.i64.wrap (c3+(1:Int)))))])]) (fun s h=>?_) (fun s h=>?_)
        · refine T_reg [] [0,2,3,5,11,48,1000000] [(48,.d (.v (.bool (a1.f0 == (1:Int)))))] [] 3 (by kernel_rfl) (trivial) ?_
          refine T_cond (a1.f0 == (1:Int)) (by kernel_rfl) (fun hc=>?_) (fun hc=>?_)
          · have h:=cond_tt hc h
            obtain ⟨hp2,h⟩:=chk_ok h
            obtain ⟨z2,hz2,h⟩:=lett_ok h
            obtain hs:=Option.some.inj h; subst hs
            refine T_drawX_end mixed 8 (.take 1 (.take 5 (.all (.alt 0 (.all (.alt 2 (.take 3 (.all (.alt 4 (.all (.alt 6 (.take 7 (.all (.alt 8 .done .stop))) .stop)) (.alt 6 (.all (.alt 4 (.take 7 (.all (.alt 8 .done .stop))) .stop)) .stop)))) (.alt 6 (.all (.alt 2 (.take 3 (.all (.alt 4 (.take 7 (.all (.alt 8 .done .stop))) .stop))) .stop)) .stop))) (.alt 2 (.all (.alt 0 (.take 3 (.all (.alt 4 (.all (.alt 6 (.take 7 (.all (.alt 8 .done .stop))) .stop)) (.alt 6 (.all (.alt 4 (.take 7 (.all (.alt 8 .done .stop))) .stop)) .stop)))) (.alt 6 (.all (.alt 0 (.take 3 (.all (.alt 4 (.take 7 (.all (.alt 8 .done .stop))) .stop))) .stop)) .stop))) (.alt 6 (.all (.alt 0 (.all (.alt 2 (.take 3 (.all (.alt 4 (.take 7 (.all (.alt 8 .done .stop))) .stop))) .stop)) (.alt 2 (.all (.alt 0 (.take 3 (.all (.alt 4 (.take 7 (.all (.alt 8 .done .stop))) .stop))) .stop)) .stop))) .stop)))))) ([0,0,2,5,8,0,32,127,255],[0,0,2,5,8,0,32,0,144]) 170 [(0,{ es:=some (([([102,97,108,115,101]:List UInt8),([116,114,117,101]:List UInt8)]).map cS) }),(4,{ cs:=cS (([([102,97,108,115,101]:List UInt8),([116,114,117,101]:List UInt8)]).getD a1.f1.toNat []),rw:=some (.d (.str z2)) })] [0,2,3,5,11,1000000] [] [(0,.own 46 5 (a0.map cS_Token)),(2,.d (.v (.int .i64 a2))),(3,.bp 1000000 0),(5,.box [.d (.v (.int .i64 a1.f0)),.d (.v (.int .i64 a1.f1)),.d (.str a1.f2),.d (.sl 1 (a1.f3.map cS)),.d (.sl 5 (a1.f4.map rS_Object))]),(11,.box [.d (.v (.int .i64 z1)),.d (.v (.int .i64 (0:Int))),.d (.str z2),.d (.v (.int .i64 0)),.d (.v (.int .i64 0))]),(1000000,.box [.d (.v (.int .i64 (IntKind.i64.wrap (c3+(1:Int)))))])] ((fun (o0:Prop)=>fun (o3:Prop)=>fun (o4:Prop)=>[(2,o0),(1,o3),(0,o4),(4,o4),(4,o3),(0,o4),(3,o0),(0,o3),(0,o4),(4,o4),(3,o0),(0,o3),(0,o4),(3,o0),(1,o3),(0,o4),(3,o0),(0,o3),(0,o4)]) ((([([102,97,108,115,101]:List UInt8),([116,114,117,101]:List UInt8)]).map cS)=(([([102,97,108,115,101]:List UInt8),([116,114,117,101]:List UInt8)]).map cS)) (0≤a1.f1∧a1.f1 < (([([102,97,108,115,101]:List UInt8),([116,114,117,101]:List UInt8)]).map cS).length) (((([([102,97,108,115,101]:List UInt8),([116,114,117,101]:List UInt8)]).map cS)[a1.f1.toNat]? = some (cS (([([102,97,108,115,101]:List UInt8),([116,114,117,101]:List UInt8)]).getD a1.f1.toNat [])))∧AV.d (.str (([([102,97,108,115,101]:List UInt8),([116,114,117,101]:List UInt8)]).getD a1.f1.toNat []))=.d (.str z2))) 2 (by kernel_rfl) (by kernel_rfl) (by kernel_rfl) (have p0:=rfl; have p3:=own_idx cS hp2; have p4:=⟨(idx_ok (d:=[]) cS hp2).2,(by subst hz2; rfl)⟩; ⟨p0,p3,p4,p4,p3,p4,p0,p3,p4,p4,p0,p3,p4,p0,p3,p4,p0,p3,p4⟩) fun a w hm=>then_norm (hm.co (cs:=[.keep [0,2,3,5,11,1000000]]) (by show _=_; kernel_rfl))
          · have h:=cond_ff hc h
            obtain hs:=Option.some.inj h; subst hs
            refine T_skip fun a w hm=>then_norm (hm.co (cs:=[.keep [0,2,3,5,11,1000000]]) (by show _=_; kernel_rfl))
        · obtain ⟨v6,v7⟩:=s
          try dsimp only at h
          refine T_seqk ?_
          obtain ⟨y3,hy2,h⟩:=call_ok h
          refine T_reg [(1,{ res:=.tup [.d (.str y3.1),.d (.v (.int .i64 y3.2))] })] [0,2,3,5,11,13,1000000] [(13,.d (.v (.int .i64 y3.2)))] [(1,ACall Tryz.prog 27 [.agg (cS_Token (S_Token.mk z1 v6 v7 0 0))] [] (.tup [.d (.str y3.1),.d (.v (.int .i64 y3.2))]) [])] 5 (by kernel_rfl) (ref3_Spelled_ok hy2) ?_
          refine T_reg [] [0,2,3,5,11,13,62,1000000] [(62,.d (.v (.bool (y3.2 != (0:Int)))))] [] 2 (by kernel_rfl) (trivial) ?_
          refine T_cond (y3.2 != (0:Int)) (by kernel_rfl) (fun hc=>?_) (fun hc=>?_)
          · have h:=cond_tt hc h
            refine T_reg [] [8,9,1000000] [(8,.own 46 5 ([].map cS_Token)),(9,.d (.v (.int .i64 y3.2)))] [] 3 (by kernel_rfl) (trivial) ?_
            obtain hs:=Option.some.inj h; subst hs
            refine T_ret fun a w hm=>then_ret (T_return (fr':=[(8,.own 46 5 ([].map cS_Token)),(9,.d (.v (.int .i64 y3.2))),(1000000,.box [.d (.v (.int .i64 (IntKind.i64.wrap (c3+(1:Int)))))])]) [8,9] (by kernel_rfl) [.keep [8,9,1000000]] (by kernel_rfl) (by kernel_rfl) (by kernel_rfl) (by show _=_; kernel_rfl) (by exact ⟨⟨by kernel_rfl,by kernel_rfl⟩,trivial⟩) a w hm)
          · have h:=cond_ff hc h
            refine T_skip fun a w hm=>then_norm (((?_:T Tryz.prog e 112 _ _ _) a w hm))
            obtain ⟨hp3,h⟩:=chk_ok h
            refine T_reg [(2,{ es:=some (([(S_Token.mk z1 v6 v7 0 0)]).map cS_Token) }),(3,{ es:=some ((a0++([(S_Token.mk z1 v6 v7 0 0)])).map cS_Token) })] [0,2,3,5,11,1000000] [(0,.own 46 5 ((a0++([(S_Token.mk z1 v6 v7 0 0)])).map cS_Token))] [(2,(([(S_Token.mk z1 v6 v7 0 0)]).map cS_Token)=(([(S_Token.mk z1 v6 v7 0 0)]).map cS_Token)),(0,(a0.map cS_Token).length+(([(S_Token.mk z1 v6 v7 0 0)]).map cS_Token).length≤4294967296∧(a0.map cS_Token)++(([(S_Token.mk z1 v6 v7 0 0)]).map cS_Token)=((a0++([(S_Token.mk z1 v6 v7 0 0)])).map cS_Token))] 1 (by kernel_rfl) (⟨rfl,app_ok cS_Token hp3⟩) ?_
            refine T_seqk ?_
            refine T_reg [] [0,2,3,5,11,70,1000000] [(70,.d (.v (.bool (decide (a1.f0 < (6:Int))))))] [] 3 (by kernel_rfl) (trivial) ?_
            refine T_cond (decide (a1.f0 < (6:Int))) (by kernel_rfl) (fun hc=>?_) (fun hc=>?_)
            · have h:=cond_tt hc h
              refine T_reg [] [0,8,9,1000000] [(8,.vw (0,0)),(9,.d (.v (.int .i64 (0:Int))))] [] 3 (by kernel_rfl) (trivial) ?_
              obtain hs:=Option.some.inj h; subst hs
              refine T_ret fun a w hm=>then_ret (T_return (fr':=[(8,.own 46 5 ((a0++([(S_Token.mk z1 v6 v7 0 0)])).map cS_Token)),(9,.d (.v (.int .i64 (0:Int)))),(1000000,.box [.d (.v (.int .i64 (IntKind.i64.wrap (c3+(1:Int)))))])]) [8,9] (by kernel_rfl) [.claim 8,.keep [8,9,1000000]] (by kernel_rfl) (by kernel_rfl) (by kernel_rfl) (by show _=_; kernel_rfl) (by exact ⟨⟨by kernel_rfl,by kernel_rfl⟩,trivial⟩) a w hm)
            · have h:=cond_ff hc h
              refine T_skip fun a w hm=>then_norm (((?_:T Tryz.prog e 112 _ _ _) a w hm))
              refine T_seqk ?_
              refine T_reg [(2,{ rw:=some (.d (.v (.int .i64 (a1.f4.length:Int)))) })] [0,2,3,5,11,73,74,75,1000000] [(73,.d (.sl 5 (a1.f4.map rS_Object))),(74,.d (.v (.int .i64 (a1.f4.length:Int)))),(75,.d (.v (.int .i64 (0:Int))))] [(2,True∧AV.d (.v (.int .i64 ((a1.f4.map rS_Object).length:Int)))=.d (.v (.int .i64 (a1.f4.length:Int))))] 1 (by kernel_rfl) (len_ok rS_Object) ?_
              refine T_joinEt h (fun (p:(List S_Token)×Int)=>[(0,.own 46 5 (p.1.map cS_Token)),(11,.box [.d (.v (.int .i64 z1)),.d (.v (.int .i64 v6)),.d (.str v7),.d (.v (.int .i64 0)),.d (.v (.int .i64 0))]),(1000000,.box [.d (.v (.int .i64 p.2))])]) (fun s h hk1=>?_) (fun s h=>?_)
              · refine T_co [.keep [0,2,3,5,11,73,74,75,1000000]] ((fun (p:(List S_Token)×Int×Int)=>[(0,.own 46 5 (p.1.map cS_Token)),(2,.d (.v (.int .i64 a2))),(3,.bp 1000000 0),(5,.box [.d (.v (.int .i64 a1.f0)),.d (.v (.int .i64 a1.f1)),.d (.str a1.f2),.d (.sl 1 (a1.f3.map cS)),.d (.sl 5 (a1.f4.map rS_Object))]),(11,.box [.d (.v (.int .i64 z1)),.d (.v (.int .i64 v6)),.d (.str v7),.d (.v (.int .i64 0)),.d (.v (.int .i64 0))]),(73,.d (.sl 5 (a1.f4.map rS_Object))),(74,.d (.v (.int .i64 (a1.f4.length:Int)))),(75,.d (.v (.int .i64 p.2.1))),(1000000,.box [.d (.v (.int .i64 p.2.2))])]) ((a0++([(S_Token.mk z1 v6 v7 0 0)])),(0:Int),IntKind.i64.wrap (c3+(1:Int)))) (by show _=_; kernel_rfl) ?_
                refine T_block ?_
                refine T_loopF (ι:=(List S_Token)×Int×Int) (fun (p:(List S_Token)×Int×Int)=>[(0,.own 46 5 (p.1.map cS_Token)),(2,.d (.v (.int .i64 a2))),(3,.bp 1000000 0),(5,.box [.d (.v (.int .i64 a1.f0)),.d (.v (.int .i64 a1.f1)),.d (.str a1.f2),.d (.sl 1 (a1.f3.map cS)),.d (.sl 5 (a1.f4.map rS_Object))]),(11,.box [.d (.v (.int .i64 z1)),.d (.v (.int .i64 v6)),.d (.str v7),.d (.v (.int .i64 0)),.d (.v (.int .i64 0))]),(73,.d (.sl 5 (a1.f4.map rS_Object))),(74,.d (.v (.int .i64 (a1.f4.length:Int)))),(75,.d (.v (.int .i64 p.2.1))),(1000000,.box [.d (.v (.int .i64 p.2.2))])]) (fun n p=>ref3_tokensOf_L0 F a1 a2 rec_ref3_tokensOf n p.1 p.2.1 p.2.2=some s) (fun i hh=>by simp [ref3_tokensOf_L0] at hh) (fun n p h=>?_) F ((a0++([(S_Token.mk z1 v6 v7 0 0)])),(0:Int),IntKind.i64.wrap (c3+(1:Int))) h
                obtain ⟨v1,v2,v3⟩:=p
                have h:ref3_tokensOf_L0 F a1 a2 rec_ref3_tokensOf (n+1) v1 v2 v3=some s:=h
                rw [ref3_tokensOf_L0] at h
                refine T_reg [] [0,2,3,5,11,73,74,75,76,1000000] [(76,.d (.v (.bool (decide (v2 < (a1.f4.length:Int))))))] [] 1 (by kernel_rfl) (trivial) ?_
                refine T_seqk ?_
                refine T_cond (decide (v2 < (a1.f4.length:Int))) (by kernel_rfl) (fun hc=>?_) (fun hc=>?_)
                · have h:=cond_tt hc h
                  refine T_skip fun a w hm=>then_norm (((?_:T Tryz.prog e 112 _ _ _) a w hm))
                  refine T_seqk ?_
                  refine T_block ?_
                  obtain ⟨hp4,h⟩:=chk_ok h
                  refine T_reg [(1,{ cs:=cS_Object (a1.f4.getD v2.toNat (S_Object.mk 0 0 [] [] [])) })] [0,2,3,5,11,14,15,73,74,75,1000000] [(14,.d (.v (.int .i64 v2))),(15,.box [.d (.v (.int .i64 ((a1.f4.getD v2.toNat (S_Object.mk 0 0 [] [] [])).f0))),.d (.v (.int .i64 ((a1.f4.getD v2.toNat (S_Object.mk 0 0 [] [] [])).f1))),.d (.str ((a1.f4.getD v2.toNat (S_Object.mk 0 0 [] [] [])).f2)),.d (.sl 1 (((a1.f4.getD v2.toNat (S_Object.mk 0 0 [] [] [])).f3).map cS)),.d (.sl 5 (((a1.f4.getD v2.toNat (S_Object.mk 0 0 [] [] [])).f4).map rS_Object))])] [(1,0≤v2∧(a1.f4.map rS_Object)[v2.toNat]? = some (cS_Object (a1.f4.getD v2.toNat (S_Object.mk 0 0 [] [] []))))] 4 (by kernel_rfl) (idx_okR (d:=(S_Object.mk 0 0 [] [] [])) rS_Object_eq hp4) ?_
                  refine T_joinc h (fun (p:(List S_Token))=>[(0,.own 46 5 (p.map cS_Token)),(2,.d (.v (.int .i64 a2))),(3,.bp 1000000 0),(5,.box [.d (.v (.int .i64 a1.f0)),.d (.v (.int .i64 a1.f1)),.d (.str a1.f2),.d (.sl 1 (a1.f3.map cS)),.d (.sl 5 (a1.f4.map rS_Object))]),(11,.box [.d (.v (.int .i64 z1)),.d (.v (.int .i64 v6)),.d (.str v7),.d (.v (.int .i64 0)),.d (.v (.int .i64 0))]),(15,.box [.d (.v (.int .i64 ((a1.f4.getD v2.toNat (S_Object.mk 0 0 [] [] [])).f0))),.d (.v (.int .i64 ((a1.f4.getD v2.toNat (S_Object.mk 0 0 [] [] [])).f1))),.d (.str ((a1.f4.getD v2.toNat (S_Object.mk 0 0 [] [] [])).f2)),.d (.sl 1 (((a1.f4.getD v2.toNat (S_Object.mk 0 0 [] [] [])).f3).map cS)),.d (.sl 5 (((a1.f4.getD v2.toNat (S_Object.mk 0 0 [] [] [])).f4).map rS_Object))]),(73,.d (.sl 5 (a1.f4.map rS_Object))),(74,.d (.v (.int .i64 (a1.f4.length:Int)))),(75,.d (.v (.int .i64 v2))),(1000000,.box [.d (.v (.int .i64 v3))])]) (fun s h=>?_) (fun v4 h=>?_)
                  · refine T_reg [] [0,2,3,5,11,14,15,73,74,75,82,1000000] [(82,.d (.v (.bool (a1.f0 == (7:Int)))))] [] 3 (by kernel_rfl) (trivial) ?_
                    refine T_cond (a1.f0 == (7:Int)) (by kernel_rfl) (fun hc=>?_) (fun hc=>?_)
                    · have h:=cond_tt hc h
                      obtain ⟨hp5,h⟩:=chk_ok h
                      obtain ⟨hp6,h⟩:=chk_ok h
                      obtain hs:=Option.some.inj h; subst hs
                      refine T_reg_end [(4,{ cs:=cS (a1.f3.getD v2.toNat []) }),(7,{ es:=some (([(S_Token.mk (2:Int) 0 (a1.f3.getD v2.toNat []) 0 0)]).map cS_Token) }),(8,{ es:=some ((v1++([(S_Token.mk (2:Int) 0 (a1.f3.getD v2.toNat []) 0 0)])).map cS_Token) })] [0,2,3,5,11,15,73,74,75,1000000] [(0,.own 46 5 ((v1++([(S_Token.mk (2:Int) 0 (a1.f3.getD v2.toNat []) 0 0)])).map cS_Token))] [(4,0≤v2∧(a1.f3.map cS)[v2.toNat]? = some (cS (a1.f3.getD v2.toNat []))),(2,(([(S_Token.mk (2:Int) 0 (a1.f3.getD v2.toNat []) 0 0)]).map cS_Token)=(([(S_Token.mk (2:Int) 0 (a1.f3.getD v2.toNat []) 0 0)]).map cS_Token)),(0,(v1.map cS_Token).length+(([(S_Token.mk (2:Int) 0 (a1.f3.getD v2.toNat []) 0 0)]).map cS_Token).length≤4294967296∧(v1.map cS_Token)++(([(S_Token.mk (2:Int) 0 (a1.f3.getD v2.toNat []) 0 0)]).map cS_Token)=((v1++([(S_Token.mk (2:Int) 0 (a1.f3.getD v2.toNat []) 0 0)])).map cS_Token))] 1 (by kernel_rfl) (⟨idx_ok (d:=[]) cS hp5,rfl,app_ok cS_Token hp6⟩) fun a w hm=>then_norm (hm.co (cs:=[.keep [0,2,3,5,11,15,73,74,75,1000000]]) (by show _=_; kernel_rfl))
                    · have h:=cond_ff hc h
                      obtain hs:=Option.some.inj h; subst hs
                      refine T_skip fun a w hm=>then_norm (hm.co (cs:=[.keep [0,2,3,5,11,15,73,74,75,1000000]]) (by show _=_; kernel_rfl))
                  · skip
                    refine T_reg [] [0,2,3,5,11,15,73,74,75,1000000] [] [] 1 (by kernel_rfl) (trivial) ?_
                    obtain ⟨y1,hy3,h⟩:=call_ok h
                    refine T_reg [(5,{ res:=.tup [.own 46 5 (y1.1.map cS_Token),.d (.v (.int .i64 y1.2.1))],vout:=[.box [.d (.v (.int .i64 y1.2.2))]],xs:=[1000000],take:=[0] })] [0,2,3,5,11,16,73,74,75,1000000] [(0,.own 46 5 (y1.1.map cS_Token)),(16,.d (.v (.int .i64 y1.2.1))),(1000000,.box [.d (.v (.int .i64 y1.2.2))])] [(5,ACall Tryz.prog 26 [.own 46 5 (v4.map cS_Token),.agg (cS_Object (a1.f4.getD v2.toNat (S_Object.mk 0 0 [] [] []))),.d (.v (.int .i64 (IntKind.i64.wrap (a2+(1:Int))))),.bp 1000000 0] [.box [.d (.v (.int .i64 v3))]] (.tup [.own 46 5 (y1.1.map cS_Token),.d (.v (.int .i64 y1.2.1))]) [.box [.d (.v (.int .i64 y1.2.2))]])] 5 (by kernel_rfl) (hrec_ref3_tokensOf hy3) ?_
                    refine T_reg [] [0,2,3,5,11,16,73,74,75,102,1000000] [(102,.d (.v (.bool (y1.2.1 != (0:Int)))))] [] 2 (by kernel_rfl) (trivial) ?_
                    refine T_cond (y1.2.1 != (0:Int)) (by kernel_rfl) (fun hc=>?_) (fun hc=>?_)
                    · have h:=cond_tt hc h
                      refine T_reg [] [8,9,1000000] [(8,.own 46 5 ([].map cS_Token)),(9,.d (.v (.int .i64 y1.2.1)))] [] 3 (by kernel_rfl) (trivial) ?_
                      obtain hs:=Option.some.inj h; subst hs
                      have h:=callE_esc hk1
                      obtain hs:=Option.some.inj h; subst hs
                      refine T_ret fun a w hm=>inBlock_ret (then_ret (then_ret (inBlock_ret (then_ret (then_ret (T_return (fr':=[(8,.own 46 5 ([].map cS_Token)),(9,.d (.v (.int .i64 y1.2.1))),(1000000,.box [.d (.v (.int .i64 y1.2.2))])]) [8,9] (by kernel_rfl) [.keep [8,9,1000000]] (by kernel_rfl) (by kernel_rfl) (by kernel_rfl) (by show _=_; kernel_rfl) (by exact ⟨⟨by kernel_rfl,by kernel_rfl⟩,trivial⟩) a w hm))))))
                    · have h:=cond_ff hc h
                      refine T_skip fun a w hm=>inBlock_norm (then_norm (((?_:T Tryz.prog e 112 _ _ _) a w hm)))
                      refine T_reg_end [] [0,2,3,5,11,73,74,75,1000000] [(75,.d (.v (.int .i64 (IntKind.i64.wrap (v2+(1:Int))))))] [] 2 (by kernel_rfl) (trivial) fun a w hm=>then_norm (⟨(y1.1,IntKind.i64.wrap (v2+(1:Int)),y1.2.2),h,hm.co (cs:=[.keep [0,2,3,5,11,73,74,75,1000000]]) (by show _=_; kernel_rfl)⟩)
                · have h:=cond_ff hc h
                  obtain hs:=Option.some.inj h; subst hs
                  refine T_exit fun a w hm=>then_exit (then_exit (inBlock_exit (then_norm (⟨_,rfl,hm.co (cs:=[.keep [0,11,1000000]]) (by show _=_; kernel_rfl)⟩))))
              · obtain ⟨v8,v9⟩:=s
                try dsimp only at h
                refine fun a w hm=>then_norm (((?_:T Tryz.prog e 112 _ _ _) a w hm))
                obtain ⟨hp7,h⟩:=chk_ok h
                refine T_reg [(5,{ es:=some (([(S_Token.mk (IntKind.i64.wrap (z1+(1:Int))) 0 [] 0 0)]).map cS_Token) }),(6,{ es:=some ((v8++([(S_Token.mk (IntKind.i64.wrap (z1+(1:Int))) 0 [] 0 0)])).map cS_Token) })] [8,9,1000000] [(8,.own 46 5 ((v8++([(S_Token.mk (IntKind.i64.wrap (z1+(1:Int))) 0 [] 0 0)])).map cS_Token)),(9,.d (.v (.int .i64 (0:Int))))] [(5,(([(S_Token.mk (IntKind.i64.wrap (z1+(1:Int))) 0 [] 0 0)]).map cS_Token)=(([(S_Token.mk (IntKind.i64.wrap (z1+(1:Int))) 0 [] 0 0)]).map cS_Token)),(0,(v8.map cS_Token).length+(([(S_Token.mk (IntKind.i64.wrap (z1+(1:Int))) 0 [] 0 0)]).map cS_Token).length≤4294967296∧(v8.map cS_Token)++(([(S_Token.mk (IntKind.i64.wrap (z1+(1:Int))) 0 [] 0 0)]).map cS_Token)=((v8++([(S_Token.mk (IntKind.i64.wrap (z1+(1:Int))) 0 [] 0 0)])).map cS_Token))] 2 (by kernel_rfl) (⟨rfl,app_ok cS_Token hp7⟩) ?_
                obtain hs:=Option.some.inj h; subst hs
                refine T_ret fun a w hm=>T_return (fr':=[(8,.own 46 5 ((v8++([(S_Token.mk (IntKind.i64.wrap (z1+(1:Int))) 0 [] 0 0)])).map cS_Token)),(9,.d (.v (.int .i64 (0:Int)))),(1000000,.box [.d (.v (.int .i64 v9))])]) [8,9] (by kernel_rfl) [.keep [8,9,1000000]] (by kernel_rfl) (by kernel_rfl) (by kernel_rfl) (by show _=_; kernel_rfl) (by exact ⟨⟨by kernel_rfl,by kernel_rfl⟩,trivial⟩) a w hm
theorem ref3_tokensOf_fuel_ok {F:Nat} (n:Nat):∀ {a0:List S_Token} {a1:S_Object} {a2:Int} {c3:Int} {r:(List S_Token)×Int×Int},ref3_tokensOf_fuel F n a0 a1 a2 c3=some r→ACall Tryz.prog 26 [.own 46 5 (a0.map cS_Token),.agg (cS_Object a1),.d (.v (.int .i64 a2)),.bp 1000000 0] [.box [.d (.v (.int .i64 c3))]] (.tup [.own 46 5 (r.1.map cS_Token),.d (.v (.int .i64 r.2.1))]) [.box [.d (.v (.int .i64 r.2.2))]]:=by
  induction n with
  | zero=>intro a0 a1 a2 c3 r h; exact absurd (show (none:Option ((List S_Token)×Int×Int))=some r from h) (by simp)
  | succ n ih=>intro a0 a1 a2 c3 r h; exact ref3_tokensOf_body_ok ih h
theorem ref3_tokensOf_ok {F:Nat} {a0:List S_Token} {a1:S_Object} {a2:Int} {c3:Int} {r:(List S_Token)×Int×Int} (h:ref3_tokensOf F a0 a1 a2 c3=some r):ACall Tryz.prog 26 [.own 46 5 (a0.map cS_Token),.agg (cS_Object a1),.d (.v (.int .i64 a2)),.bp 1000000 0] [.box [.d (.v (.int .i64 c3))]] (.tup [.own 46 5 (r.1.map cS_Token),.d (.v (.int .i64 r.2.1))]) [.box [.d (.v (.int .i64 r.2.2))]]:=ref3_tokensOf_fuel_ok F h
theorem ref3_Shown_ok {F:Nat} {a0:S_Object} {r:(List UInt8)×Int} (h:ref3_Shown F a0=some r):ACall Tryz.prog 11 [.agg (cS_Object a0)] [] (.tup [.d (.str r.1),.d (.v (.int .i64 r.2))]) []:=by
  rw [ref3_Shown] at h
  refine ACall.intro (N:=74) Tryz.func11 rfl rfl rfl rfl rfl fun e=>?_
  refine T_reg [] [1] [(1,.box [.d (.v (.int .i64 a0.f0)),.d (.v (.int .i64 a0.f1)),.d (.str a0.f2),.d (.sl 1 (a0.f3.map cS)),.d (.sl 5 (a0.f4.map rS_Object))])] [] 3 (by kernel_rfl) (trivial) ?_
  refine T_reg [] [1,4] [(4,.box [.d (.v (.int .i64 (0:Int)))])] [] 2 (by kernel_rfl) (trivial) ?_
  obtain ⟨y1,hy1,h⟩:=call_ok h
  refine T_reg [(1,{ res:=.tup [.own 46 5 (y1.1.map cS_Token),.d (.v (.int .i64 y1.2.1))],vout:=[.box [.d (.v (.int .i64 y1.2.2))]],xs:=[4] })] [5,6] [(5,.own 46 5 (y1.1.map cS_Token)),(6,.d (.v (.int .i64 y1.2.1)))] [(1,ACall Tryz.prog 26 [.d (.v (.slice none 0 0)),.agg (cS_Object a0),.d (.v (.int .i64 (1:Int))),.bp 1000000 0] [.box [.d (.v (.int .i64 (0:Int)))]] (.tup [.own 46 5 (y1.1.map cS_Token),.d (.v (.int .i64 y1.2.1))]) [.box [.d (.v (.int .i64 y1.2.2))]])] 5 (by kernel_rfl) ((ACall.nilArgOwn 0 (ref3_tokensOf_ok hy1) rfl rfl (by decide) rfl)) ?_
  refine T_seqk ?_
  refine T_reg [] [5,6,18] [(18,.d (.v (.bool (y1.2.1 != (0:Int)))))] [] 2 (by kernel_rfl) (trivial) ?_
  refine T_cond (y1.2.1 != (0:Int)) (by kernel_rfl) (fun hc=>?_) (fun hc=>?_)
  · have h:=cond_tt hc h
    refine T_reg [] [2,3] [(2,.d (.str [])),(3,.d (.v (.int .i64 y1.2.1)))] [] 3 (by kernel_rfl) (trivial) ?_
    obtain hs:=Option.some.inj h; subst hs
    refine T_ret fun a w hm=>then_ret (T_return (fr':=[(2,.d (.str [])),(3,.d (.v (.int .i64 y1.2.1)))]) [2,3] (by kernel_rfl) [.keep [2,3]] (by kernel_rfl) (by kernel_rfl) (by kernel_rfl) (by show _=_; kernel_rfl) (by exact trivial) a w hm)
  · have h:=cond_ff hc h
    refine T_skip fun a w hm=>then_norm (((?_:T Tryz.prog e 74 _ _ _) a w hm))
    refine T_reg [] [5,7] [(7,.own 5 1 ([].map cU))] [] 1 (by kernel_rfl) (trivial) ?_
    refine T_seqk ?_
    refine T_reg [(1,{ rw:=some (.d (.v (.int .i64 (y1.1.length:Int)))) })] [5,7,20,21,22] [(20,.vw (5,0)),(21,.d (.v (.int .i64 (y1.1.length:Int)))),(22,.d (.v (.int .i64 (0:Int))))] [(1,True∧AV.d (.v (.int .i64 ((y1.1.map cS_Token).length:Int)))=.d (.v (.int .i64 (y1.1.length:Int))))] 1 (by kernel_rfl) (len_ok cS_Token) ?_
    refine T_joinEt h (fun (p:(List UInt8))=>[(7,.own 5 1 (p.map cU))]) (fun s h hk1=>?_) (fun v4 h=>?_)
    · refine T_co [.keep [5,7,20,21,22]] ((fun (p:(List UInt8)×Int)=>[(5,.own 46 5 (y1.1.map cS_Token)),(7,.own 5 1 (p.1.map cU)),(20,.vw (5,0)),(21,.d (.v (.int .i64 (y1.1.length:Int)))),(22,.d (.v (.int .i64 p.2)))]) ([],(0:Int))) (by show _=_; kernel_rfl) ?_
      refine T_block ?_
      refine T_loopF (ι:=(List UInt8)×Int) (fun (p:(List UInt8)×Int)=>[(5,.own 46 5 (y1.1.map cS_Token)),(7,.own 5 1 (p.1.map cU)),(20,.vw (5,0)),(21,.d (.v (.int .i64 (y1.1.length:Int)))),(22,.d (.v (.int .i64 p.2)))]) (fun n p=>ref3_Shown_L0 F y1 n p.1 p.2=some s) (fun i hh=>by simp [ref3_Shown_L0] at hh) (fun n p h=>?_) F ([],(0:Int)) h
      obtain ⟨v1,v2⟩:=p
      have h:ref3_Shown_L0 F y1 (n+1) v1 v2=some s:=h
      rw [ref3_Shown_L0] at h
      refine T_reg [] [5,7,20,21,22,23] [(23,.d (.v (.bool (decide (v2 < (y1.1.length:Int))))))] [] 1 (by kernel_rfl) (trivial) ?_
      refine T_seqk ?_
      refine T_cond (decide (v2 < (y1.1.length:Int))) (by kernel_rfl) (fun hc=>?_) (fun hc=>?_)
      · have h:=cond_tt hc h
        refine T_skip fun a w hm=>then_norm (((?_:T Tryz.prog e 74 _ _ _) a w hm))
        refine T_seqk ?_
        refine T_block ?_
        obtain ⟨hp1,h⟩:=chk_ok h
        refine T_reg [(2,{ cs:=cS_Token (y1.1.getD v2.toNat (S_Token.mk 0 0 [] 0 0)) })] [5,7,8,9,20,21,22] [(8,.d (.v (.int .i64 v2))),(9,.box [.d (.v (.int .i64 ((y1.1.getD v2.toNat (S_Token.mk 0 0 [] 0 0)).f0))),.d (.v (.int .i64 ((y1.1.getD v2.toNat (S_Token.mk 0 0 [] 0 0)).f1))),.d (.str ((y1.1.getD v2.toNat (S_Token.mk 0 0 [] 0 0)).f2)),.d (.v (.int .i64 ((y1.1.getD v2.toNat (S_Token.mk 0 0 [] 0 0)).f3))),.d (.v (.int .i64 ((y1.1.getD v2.toNat (S_Token.mk 0 0 [] 0 0)).f4)))])] [(1,0≤v2∧v2 < (y1.1.map cS_Token).length),(0,(y1.1.map cS_Token)[v2.toNat]? = some (cS_Token (y1.1.getD v2.toNat (S_Token.mk 0 0 [] 0 0))))] 3 (by kernel_rfl) (⟨own_idx cS_Token hp1,(idx_ok (d:=(S_Token.mk 0 0 [] 0 0)) cS_Token hp1).2⟩) ?_
        obtain ⟨y2,hy2,h⟩:=call_ok h
        refine T_reg [(1,{ res:=.tup [.d (.str y2.1),.d (.v (.int .i64 y2.2))] })] [5,7,8,9,10,20,21,22] [(10,.d (.str y2.1))] [(1,ACall Tryz.prog 27 [.agg (cS_Token (y1.1.getD v2.toNat (S_Token.mk 0 0 [] 0 0)))] [] (.tup [.d (.str y2.1),.d (.v (.int .i64 y2.2))]) [])] 5 (by kernel_rfl) (ref3_Spelled_ok hy2) ?_
        refine T_joinc h (fun (p:(List UInt8))=>[(5,.own 46 5 (y1.1.map cS_Token)),(7,.own 5 1 (p.map cU)),(10,.d (.str y2.1)),(20,.vw (5,0)),(21,.d (.v (.int .i64 (y1.1.length:Int)))),(22,.d (.v (.int .i64 v2)))]) (fun s h=>?_) (fun v3 h=>?_)
        · obtain ⟨z1,hz1,h⟩:=lett_ok h
          obtain ⟨hp2,h⟩:=chk_ok h
          obtain ⟨z2,hz2,h⟩:=lett_ok h
          obtain ⟨hp3,h⟩:=chk_ok h
          obtain ⟨z3,hz3,h⟩:=lett_ok h
          refine T_reg [(10,{ rw:=some (.d (.v (.bool z1))) }),(18,{ cs:=cS_Token (y1.1.getD (IntKind.i64.wrap (v2 - (1:Int))).toNat (S_Token.mk 0 0 [] 0 0)) }),(20,{ rw:=some (.d (.v (.bool z2))) }),(27,{ cs:=cS_Token (y1.1.getD (IntKind.i64.wrap (v2 - (1:Int))).toNat (S_Token.mk 0 0 [] 0 0)) }),(28,{ rw:=some (.d (.v (.bool z3))) })] [5,7,10,20,21,22,61] [(61,.d (.v (.bool (bif z2 then z3 else false))))] [(3,((((decide (v2 > (0:Int))) == true) && true)=true→True)),(0,((((decide (v2 > (0:Int))) == true) && true)=true→True)),(0,((((decide (v2 > (0:Int))) == true) && true)=true→True)),(0,((((decide (v2 > (0:Int))) == true) && true)=true→True)),(0,((((((y1.1.getD v2.toNat (S_Token.mk 0 0 [] 0 0)).f0) == (1:Int)) == false) && (((decide (v2 > (0:Int))) == true) && true))=true→True)),(0,((((((y1.1.getD v2.toNat (S_Token.mk 0 0 [] 0 0)).f0) == (1:Int)) == false) && (((decide (v2 > (0:Int))) == true) && true))=true→True)),(0,((((((y1.1.getD v2.toNat (S_Token.mk 0 0 [] 0 0)).f0) == (1:Int)) == false) && (((decide (v2 > (0:Int))) == true) && true))=true→True)),(0,((((decide (v2 > (0:Int))) == true) && true)=true→(True)∧AV.d (.v (.bool (bif (((y1.1.getD v2.toNat (S_Token.mk 0 0 [] 0 0)).f0) == (1:Int)) then true else (((y1.1.getD v2.toNat (S_Token.mk 0 0 [] 0 0)).f0) == (5:Int)))))=.d (.v (.bool z1)))),(2,((((bif (decide (v2 > (0:Int))) then z1 else false) == true) && true)=true→True)),(0,((((bif (decide (v2 > (0:Int))) then z1 else false) == true) && true)=true→True)),(0,((((bif (decide (v2 > (0:Int))) then z1 else false) == true) && true)=true→True)),(0,((((bif (decide (v2 > (0:Int))) then z1 else false) == true) && true)=true→0≤(IntKind.i64.wrap (v2 - (1:Int)))∧(IntKind.i64.wrap (v2 - (1:Int))) < (y1.1.map cS_Token).length)),(0,((((bif (decide (v2 > (0:Int))) then z1 else false) == true) && true)=true→True)),(0,((((bif (decide (v2 > (0:Int))) then z1 else false) == true) && true)=true→(y1.1.map cS_Token)[(IntKind.i64.wrap (v2 - (1:Int))).toNat]? = some (cS_Token (y1.1.getD (IntKind.i64.wrap (v2 - (1:Int))).toNat (S_Token.mk 0 0 [] 0 0))))),(0,((((bif (decide (v2 > (0:Int))) then z1 else false) == true) && true)=true→True)),(0,(True)∧AV.d (.v (.bool (bif (bif (decide (v2 > (0:Int))) then z1 else false) then (((y1.1.getD (IntKind.i64.wrap (v2 - (1:Int))).toNat (S_Token.mk 0 0 [] 0 0)).f0) != (3:Int)) else false)))=.d (.v (.bool z2))),(1,(((z2 == true) && true)=true→True)),(0,(((z2 == true) && true)=true→True)),(0,(((z2 == true) && true)=true→True)),(0,(((z2 == true) && true)=true→0≤(IntKind.i64.wrap (v2 - (1:Int)))∧(IntKind.i64.wrap (v2 - (1:Int))) < (y1.1.map cS_Token).length)),(0,(((z2 == true) && true)=true→True)),(0,(((z2 == true) && true)=true→(y1.1.map cS_Token)[(IntKind.i64.wrap (v2 - (1:Int))).toNat]? = some (cS_Token (y1.1.getD (IntKind.i64.wrap (v2 - (1:Int))).toNat (S_Token.mk 0 0 [] 0 0))))),(0,(((z2 == true) && true)=true→(True)∧AV.d (.v (.bool (decide (((y1.1.getD (IntKind.i64.wrap (v2 - (1:Int))).toNat (S_Token.mk 0 0 [] 0 0)).f0) < (6:Int)))))=.d (.v (.bool z3))))] 1 (by kernel_rfl) (⟨(fun hg=>trivial),(fun hg=>trivial),(fun hg=>trivial),(fun hg=>trivial),(fun hg=>trivial),(fun hg=>trivial),(fun hg=>trivial),(fun hg=>⟨trivial,(by subst hz1; rfl)⟩),(fun hg=>trivial),(fun hg=>trivial),(fun hg=>trivial),(fun hg=>own_idx cS_Token (hp2 hg)),(fun hg=>trivial),(fun hg=>(idx_ok (d:=(S_Token.mk 0 0 [] 0 0)) cS_Token (hp2 hg)).2),(fun hg=>trivial),⟨trivial,(by subst hz2; rfl)⟩,(fun hg=>trivial),(fun hg=>trivial),(fun hg=>trivial),(fun hg=>own_idx cS_Token (hp3 hg)),(fun hg=>trivial),(fun hg=>(idx_ok (d:=(S_Token.mk 0 0 [] 0 0)) cS_Token (hp3 hg)).2),(fun hg=>⟨trivial,(by subst hz3; rfl)⟩)⟩) ?_
          refine T_cond (bif z2 then z3 else false) (by kernel_rfl) (fun hc=>?_) (fun hc=>?_)
          · have h:=cond_tt hc h
            obtain ⟨hp4,h⟩:=chk_ok h
            obtain hs:=Option.some.inj h; subst hs
            refine T_reg_end [(1,{ es:=some (([(UInt8.ofNat (32:Int).toNat)]).map cU) }),(2,{ es:=some ((v1++([(UInt8.ofNat (32:Int).toNat)])).map cU) })] [5,7,10,20,21,22] [(7,.own 5 1 ((v1++([(UInt8.ofNat (32:Int).toNat)])).map cU))] [(1,[[Dat.v (.int .u8 (32:Int))]]=(([(UInt8.ofNat (32:Int).toNat)]).map cU)),(0,(v1.map cU).length+(([(UInt8.ofNat (32:Int).toNat)]).map cU).length≤4294967296∧(v1.map cU)++(([(UInt8.ofNat (32:Int).toNat)]).map cU)=((v1++([(UInt8.ofNat (32:Int).toNat)])).map cU))] 1 (by kernel_rfl) (⟨(lit_u (by decide) (rfl:([]:List (List Dat))=([]:List UInt8).map cU)),app_ok cU hp4⟩) fun a w hm=>then_norm (hm.co (cs:=[.keep [5,7,10,20,21,22]]) (by show _=_; kernel_rfl))
          · have h:=cond_ff hc h
            obtain hs:=Option.some.inj h; subst hs
            refine T_skip fun a w hm=>then_norm (hm.co (cs:=[.keep [5,7,10,20,21,22]]) (by show _=_; kernel_rfl))
        · skip
          obtain ⟨hp5,h⟩:=chk_ok h
          refine T_reg [(2,{ es:=some ((v3++y2.1).map cU) })] [5,7,20,21,22] [(7,.own 5 1 ((v3++y2.1).map cU))] [(2,(v3.map cU).length+(y2.1.map cU).length≤4294967296∧(v3.map cU)++(y2.1.map cU)=((v3++y2.1).map cU))] 1 (by kernel_rfl) (app_ok cU hp5) ?_
          refine T_reg [(1,{ rw:=some (.d (.v (.int .i64 ((v3++y2.1).length:Int)))) })] [5,7,20,21,22,70] [(70,.d (.v (.bool (decide (((v3++y2.1).length:Int) > (8192:Int))))))] [(1,True∧AV.d (.v (.int .i64 (((v3++y2.1).map cU).length:Int)))=.d (.v (.int .i64 ((v3++y2.1).length:Int))))] 1 (by kernel_rfl) (len_ok cU) ?_
          refine T_cond (decide (((v3++y2.1).length:Int) > (8192:Int))) (by kernel_rfl) (fun hc=>?_) (fun hc=>?_)
          · have h:=cond_tt hc h
            refine T_reg [] [2,3] [(2,.d (.str [])),(3,.d (.v (.int .i64 (2:Int))))] [] 2 (by kernel_rfl) (trivial) ?_
            obtain hs:=Option.some.inj h; subst hs
            have h:=callE_esc hk1
            obtain hs:=Option.some.inj h; subst hs
            refine T_ret fun a w hm=>inBlock_ret (then_ret (then_ret (inBlock_ret (then_ret (then_ret (T_return (fr':=[(2,.d (.str [])),(3,.d (.v (.int .i64 (2:Int))))]) [2,3] (by kernel_rfl) [.keep [2,3]] (by kernel_rfl) (by kernel_rfl) (by kernel_rfl) (by show _=_; kernel_rfl) (by exact trivial) a w hm))))))
          · have h:=cond_ff hc h
            refine T_skip fun a w hm=>inBlock_norm (then_norm (((?_:T Tryz.prog e 74 _ _ _) a w hm)))
            refine T_reg_end [] [5,7,20,21,22] [(22,.d (.v (.int .i64 (IntKind.i64.wrap (v2+(1:Int))))))] [] 2 (by kernel_rfl) (trivial) fun a w hm=>then_norm (⟨((v3++y2.1),IntKind.i64.wrap (v2+(1:Int))),h,hm.co (cs:=[.keep [5,7,20,21,22]]) (by show _=_; kernel_rfl)⟩)
      · have h:=cond_ff hc h
        obtain hs:=Option.some.inj h; subst hs
        refine T_exit fun a w hm=>then_exit (then_exit (inBlock_exit (then_norm (⟨_,rfl,hm.co (cs:=[.keep [7]]) (by show _=_; kernel_rfl)⟩))))
    · skip
      refine fun a w hm=>then_norm (((?_:T Tryz.prog e 74 _ _ _) a w hm))
      refine T_reg [(1,{ cs:=[.str v4] })] [2,3] [(2,.d (.str v4)),(3,.d (.v (.int .i64 (0:Int))))] [(1,(v4.map cU)=byteCells v4)] 2 (by kernel_rfl) (rfl) ?_
      obtain hs:=Option.some.inj h; subst hs
      refine T_ret fun a w hm=>T_return (fr':=[(2,.d (.str v4)),(3,.d (.v (.int .i64 (0:Int))))]) [2,3] (by kernel_rfl) [.keep [2,3]] (by kernel_rfl) (by kernel_rfl) (by kernel_rfl) (by show _=_; kernel_rfl) (by exact trivial) a w hm
theorem ref3_Numbers_body_ok {F:Nat} {rec_ref3_Numbers:S_Object→(List Bool)→Option ((List Bool))} (hrec_ref3_Numbers:∀ {a0:S_Object},∀ {c1:List Bool},∀ {r:(List Bool)},rec_ref3_Numbers a0 c1=some r→ACall Tryz.prog 14 [.agg (cS_Object a0),.vw (1000000,0)] [.arr 39 1 (c1.map cB)] (.tup []) [.arr 39 1 (r.map cB)]) {a0:S_Object} {c1:List Bool} {r:(List Bool)} (h:ref3_Numbers_body F rec_ref3_Numbers a0 c1=some r):ACall Tryz.prog 14 [.agg (cS_Object a0),.vw (1000000,0)] [.arr 39 1 (c1.map cB)] (.tup []) [.arr 39 1 (r.map cB)]:=by
  rw [ref3_Numbers_body] at h
  refine ACall.intro (N:=35) Tryz.func14 rfl rfl rfl rfl rfl fun e=>?_
  refine T_reg [] [1,2,1000000] [(2,.box [.d (.v (.int .i64 a0.f0)),.d (.v (.int .i64 a0.f1)),.d (.str a0.f2),.d (.sl 1 (a0.f3.map cS)),.d (.sl 5 (a0.f4.map rS_Object))])] [] 1 (by kernel_rfl) (trivial) ?_
  refine T_joinc h (fun (p:(List Bool))=>[(1,.vw (1000000,0)),(2,.box [.d (.v (.int .i64 a0.f0)),.d (.v (.int .i64 a0.f1)),.d (.str a0.f2),.d (.sl 1 (a0.f3.map cS)),.d (.sl 5 (a0.f4.map rS_Object))]),(1000000,.arr 39 1 (p.map cB))]) (fun s h=>?_) (fun v3 h=>?_)
  · obtain ⟨z1,hz1,h⟩:=lett_ok h
    refine T_reg [(12,{ rw:=some (.d (.v (.bool z1))) })] [1,2,18,1000000] [(18,.d (.v (.bool z1)))] [(4,((((a0.f0 == (5:Int)) == true) && true)=true→True)),(0,((((a0.f0 == (5:Int)) == true) && true)=true→True)),(0,((((a0.f0 == (5:Int)) == true) && true)=true→True)),(2,((((bif (a0.f0 == (5:Int)) then (decide (a0.f1 > (0:Int))) else false) == true) && true)=true→True)),(0,((((bif (a0.f0 == (5:Int)) then (decide (a0.f1 > (0:Int))) else false) == true) && true)=true→True)),(0,((((bif (a0.f0 == (5:Int)) then (decide (a0.f1 > (0:Int))) else false) == true) && true)=true→True)),(0,(True)∧AV.d (.v (.bool (bif (bif (a0.f0 == (5:Int)) then (decide (a0.f1 > (0:Int))) else false) then (decide (a0.f1 < (256:Int))) else false)))=.d (.v (.bool z1)))] 0 (by kernel_rfl) (⟨(fun hg=>trivial),(fun hg=>trivial),(fun hg=>trivial),(fun hg=>trivial),(fun hg=>trivial),(fun hg=>trivial),⟨trivial,(by subst hz1; rfl)⟩⟩) ?_
    refine T_cond z1 (by kernel_rfl) (fun hc=>?_) (fun hc=>?_)
    · have h:=cond_tt hc h
      obtain ⟨hp1,h⟩:=chk_ok h
      obtain hs:=Option.some.inj h; subst hs
      refine T_drawX_end mixed 2 (.take 0 (.take 1 (.all (.alt 2 (.all (.alt 3 (.take 4 (.all (.alt 5 .done .stop))) .stop)) (.alt 3 (.all (.alt 2 (.take 4 (.all (.alt 5 .done .stop))) .stop)) .stop))))) ([0,0,2,1,15,23],[0,0,2,1,12,16]) 19 [(5,{ cs:=cB (c1.getD a0.f1.toNat false),es:=some ((c1.set a0.f1.toNat true).map cB) })] [1,2,1000000] [] [(1,.vw (1000000,0)),(2,.box [.d (.v (.int .i64 a0.f0)),.d (.v (.int .i64 a0.f1)),.d (.str a0.f2),.d (.sl 1 (a0.f3.map cS)),.d (.sl 5 (a0.f4.map rS_Object))]),(1000000,.arr 39 1 ((c1.set a0.f1.toNat true).map cB))] ((fun (o4:Prop)=>fun (o5:Prop)=>[(4,o4),(0,o5),(2,o4),(0,o5)]) (0≤a0.f1∧a0.f1 < 256) ((c1.map cB)[a0.f1.toNat]? = some (cB (c1.getD a0.f1.toNat false))∧(c1.map cB).set a0.f1.toNat (cB true)=((c1.set a0.f1.toNat true).map cB))) 0 (by kernel_rfl) (by kernel_rfl) (by kernel_rfl) (have p4:=(hp1).1; have p5:=⟨(idx_ok (d:=false) cB ⟨(hp1).1.1,(hp1).2⟩).2,set_ok cB rfl⟩; ⟨p4,p5,p4,p5⟩) fun a w hm=>then_norm (hm.co (cs:=[.keep [1,2,1000000]]) (by show _=_; kernel_rfl))
    · have h:=cond_ff hc h
      obtain hs:=Option.some.inj h; subst hs
      refine T_skip fun a w hm=>then_norm (hm.co (cs:=[.keep [1,2,1000000]]) (by show _=_; kernel_rfl))
  · skip
    refine T_reg [(2,{ rw:=some (.d (.v (.int .i64 (a0.f4.length:Int)))) })] [1,25,26,27,1000000] [(25,.d (.sl 5 (a0.f4.map rS_Object))),(26,.d (.v (.int .i64 (a0.f4.length:Int)))),(27,.d (.v (.int .i64 (0:Int))))] [(2,True∧AV.d (.v (.int .i64 ((a0.f4.map rS_Object).length:Int)))=.d (.v (.int .i64 (a0.f4.length:Int))))] 1 (by kernel_rfl) (len_ok rS_Object) ?_
    refine T_joinct h (fun (p:(List Bool))=>[(1000000,.arr 39 1 (p.map cB))]) (fun s h=>?_) (fun v4 h=>?_)
    · refine T_co [.keep [1,25,26,27,1000000]] ((fun (p:Int×(List Bool))=>[(1,.vw (1000000,0)),(25,.d (.sl 5 (a0.f4.map rS_Object))),(26,.d (.v (.int .i64 (a0.f4.length:Int)))),(27,.d (.v (.int .i64 p.1))),(1000000,.arr 39 1 (p.2.map cB))]) ((0:Int),v3)) (by show _=_; kernel_rfl) ?_
      refine T_block ?_
      refine T_loopF (ι:=Int×(List Bool)) (fun (p:Int×(List Bool))=>[(1,.vw (1000000,0)),(25,.d (.sl 5 (a0.f4.map rS_Object))),(26,.d (.v (.int .i64 (a0.f4.length:Int)))),(27,.d (.v (.int .i64 p.1))),(1000000,.arr 39 1 (p.2.map cB))]) (fun n p=>ref3_Numbers_L0 F a0 rec_ref3_Numbers n p.1 p.2=some s) (fun i hh=>by simp [ref3_Numbers_L0] at hh) (fun n p h=>?_) F ((0:Int),v3) h
      obtain ⟨v1,v2⟩:=p
      have h:ref3_Numbers_L0 F a0 rec_ref3_Numbers (n+1) v1 v2=some s:=h
      rw [ref3_Numbers_L0] at h
      refine T_reg [] [1,25,26,27,28,1000000] [(28,.d (.v (.bool (decide (v1 < (a0.f4.length:Int))))))] [] 1 (by kernel_rfl) (trivial) ?_
      refine T_seqk ?_
      refine T_cond (decide (v1 < (a0.f4.length:Int))) (by kernel_rfl) (fun hc=>?_) (fun hc=>?_)
      · have h:=cond_tt hc h
        refine T_skip fun a w hm=>then_norm (((?_:T Tryz.prog e 35 _ _ _) a w hm))
        refine T_seqk ?_
        refine T_block ?_
        obtain ⟨hp2,h⟩:=chk_ok h
        refine T_reg [(0,{ cs:=cS_Object (a0.f4.getD v1.toNat (S_Object.mk 0 0 [] [] [])) })] [1,5,25,26,27,1000000] [(5,.box [.d (.v (.int .i64 ((a0.f4.getD v1.toNat (S_Object.mk 0 0 [] [] [])).f0))),.d (.v (.int .i64 ((a0.f4.getD v1.toNat (S_Object.mk 0 0 [] [] [])).f1))),.d (.str ((a0.f4.getD v1.toNat (S_Object.mk 0 0 [] [] [])).f2)),.d (.sl 1 (((a0.f4.getD v1.toNat (S_Object.mk 0 0 [] [] [])).f3).map cS)),.d (.sl 5 (((a0.f4.getD v1.toNat (S_Object.mk 0 0 [] [] [])).f4).map rS_Object))])] [(0,0≤v1∧(a0.f4.map rS_Object)[v1.toNat]? = some (cS_Object (a0.f4.getD v1.toNat (S_Object.mk 0 0 [] [] []))))] 3 (by kernel_rfl) (idx_okR (d:=(S_Object.mk 0 0 [] [] [])) rS_Object_eq hp2) ?_
        obtain ⟨y1,hy1,h⟩:=call_ok h
        refine T_reg_end [(2,{ res:=.tup [],vout:=[.arr 39 1 (y1.map cB)],xs:=[1000000] })] [1,25,26,27,1000000] [(1000000,.arr 39 1 (y1.map cB))] [(2,ACall Tryz.prog 14 [.agg (cS_Object (a0.f4.getD v1.toNat (S_Object.mk 0 0 [] [] []))),.vw (1000000,0)] [.arr 39 1 (v2.map cB)] (.tup []) [.arr 39 1 (y1.map cB)])] 0 (by kernel_rfl) (hrec_ref3_Numbers hy1) fun a w hm=>inBlock_norm (then_norm (((?_:T Tryz.prog e 35 _ _ _) a w hm)))
        refine T_reg_end [] [1,25,26,27,1000000] [(27,.d (.v (.int .i64 (IntKind.i64.wrap (v1+(1:Int))))))] [] 2 (by kernel_rfl) (trivial) fun a w hm=>then_norm (⟨(IntKind.i64.wrap (v1+(1:Int)),y1),h,hm.co (cs:=[.keep [1,25,26,27,1000000]]) (by show _=_; kernel_rfl)⟩)
      · have h:=cond_ff hc h
        obtain hs:=Option.some.inj h; subst hs
        refine T_exit fun a w hm=>then_exit (then_exit (inBlock_exit (then_norm (hm.co (cs:=[.keep [1000000]]) (by show _=_; kernel_rfl)))))
    · skip
      obtain hs:=Option.some.inj h; subst hs
      refine fun a w hm=>T_return (fr':=[(1000000,.arr 39 1 (v4.map cB))]) [] (by kernel_rfl) [.keep [1000000]] (by kernel_rfl) (by kernel_rfl) (by kernel_rfl) (by show _=_; kernel_rfl) (by exact ⟨⟨by kernel_rfl,by kernel_rfl⟩,trivial⟩) a w hm
theorem ref3_Numbers_fuel_ok {F:Nat} (n:Nat):∀ {a0:S_Object} {c1:List Bool} {r:(List Bool)},ref3_Numbers_fuel F n a0 c1=some r→ACall Tryz.prog 14 [.agg (cS_Object a0),.vw (1000000,0)] [.arr 39 1 (c1.map cB)] (.tup []) [.arr 39 1 (r.map cB)]:=by
  induction n with
  | zero=>intro a0 c1 r h; exact absurd (show (none:Option ((List Bool)))=some r from h) (by simp)
  | succ n ih=>intro a0 c1 r h; exact ref3_Numbers_body_ok ih h
theorem ref3_Numbers_ok {F:Nat} {a0:S_Object} {c1:List Bool} {r:(List Bool)} (h:ref3_Numbers F a0 c1=some r):ACall Tryz.prog 14 [.agg (cS_Object a0),.vw (1000000,0)] [.arr 39 1 (c1.map cB)] (.tup []) [.arr 39 1 (r.map cB)]:=ref3_Numbers_fuel_ok F h
theorem slices_Equal_int_ok {F:Nat} {a0:List Int} {a1:List Int} {r:Bool} (h:slices_Equal_int F a0 a1=some r):ACall Tryz.prog 15 [.d (.sl 1 (a0.map (cI .i64))),.d (.sl 1 (a1.map (cI .i64)))] [] (.d (.v (.bool r))) []:=by
  rw [slices_Equal_int] at h
  refine ACall.intro (N:=26) Tryz.func15 rfl rfl rfl rfl rfl fun e=>?_
  refine T_reg [] [0,1] [] [] 1 (by kernel_rfl) (trivial) ?_
  refine T_seqk ?_
  refine T_reg [(1,{ rw:=some (.d (.v (.int .i64 (a0.length:Int)))) }),(3,{ rw:=some (.d (.v (.int .i64 (a1.length:Int)))) })] [0,1,10] [(10,.d (.v (.bool ((a0.length:Int) != (a1.length:Int)))))] [(1,True∧AV.d (.v (.int .i64 ((a0.map (cI .i64)).length:Int)))=.d (.v (.int .i64 (a0.length:Int)))),(1,True∧AV.d (.v (.int .i64 ((a1.map (cI .i64)).length:Int)))=.d (.v (.int .i64 (a1.length:Int))))] 1 (by kernel_rfl) (⟨len_ok (cI .i64),len_ok (cI .i64)⟩) ?_
  refine T_cond ((a0.length:Int) != (a1.length:Int)) (by kernel_rfl) (fun hc=>?_) (fun hc=>?_)
  · have h:=cond_tt hc h
    refine T_reg [] [4] [(4,.d (.v (.bool false)))] [] 1 (by kernel_rfl) (trivial) ?_
    obtain hs:=Option.some.inj h; subst hs
    refine T_ret fun a w hm=>then_ret (T_return (fr':=[(4,.d (.v (.bool false)))]) [4] (by kernel_rfl) [.keep [4]] (by kernel_rfl) (by kernel_rfl) (by kernel_rfl) (by show _=_; kernel_rfl) (by exact trivial) a w hm)
  · have h:=cond_ff hc h
    refine T_skip fun a w hm=>then_norm (((?_:T Tryz.prog e 26 _ _ _) a w hm))
    refine T_seqk ?_
    refine T_reg [(1,{ rw:=some (.d (.v (.int .i64 (a0.length:Int)))) })] [0,1,12,13] [(12,.d (.v (.int .i64 (a0.length:Int)))),(13,.d (.v (.int .i64 (0:Int))))] [(1,True∧AV.d (.v (.int .i64 ((a0.map (cI .i64)).length:Int)))=.d (.v (.int .i64 (a0.length:Int))))] 1 (by kernel_rfl) (len_ok (cI .i64)) ?_
    refine T_joinEt h (fun (p:Unit)=>[]) (fun s h hk1=>?_) (fun s h=>?_)
    · refine T_co [.keep [0,1,12,13]] ((fun (p:Int)=>[(0,.d (.sl 1 (a0.map (cI .i64)))),(1,.d (.sl 1 (a1.map (cI .i64)))),(12,.d (.v (.int .i64 (a0.length:Int)))),(13,.d (.v (.int .i64 p)))]) (0:Int)) (by show _=_; kernel_rfl) ?_
      refine T_block ?_
      refine T_loopF (ι:=Int) (fun (p:Int)=>[(0,.d (.sl 1 (a0.map (cI .i64)))),(1,.d (.sl 1 (a1.map (cI .i64)))),(12,.d (.v (.int .i64 (a0.length:Int)))),(13,.d (.v (.int .i64 p)))]) (fun n p=>slices_Equal_int_L0 F a0 a1 n p=some s) (fun i hh=>by simp [slices_Equal_int_L0] at hh) (fun n v1 h=>?_) F (0:Int) h
      have h:slices_Equal_int_L0 F a0 a1 (n+1) v1=some s:=h
      rw [slices_Equal_int_L0] at h
      refine T_reg [] [0,1,12,13,14] [(14,.d (.v (.bool (decide (v1 < (a0.length:Int))))))] [] 1 (by kernel_rfl) (trivial) ?_
      refine T_seqk ?_
      refine T_cond (decide (v1 < (a0.length:Int))) (by kernel_rfl) (fun hc=>?_) (fun hc=>?_)
      · have h:=cond_tt hc h
        refine T_skip fun a w hm=>then_norm (((?_:T Tryz.prog e 26 _ _ _) a w hm))
        refine T_seqk ?_
        refine T_block ?_
        refine T_reg [] [0,1,5,12,13] [(5,.d (.v (.int .i64 v1)))] [] 2 (by kernel_rfl) (trivial) ?_
        obtain ⟨hp1,h⟩:=chk_ok h
        obtain ⟨hp2,h⟩:=chk_ok h
        refine T_draw mixed [(2,{ cs:=(cI .i64) (a0.getD v1.toNat 0) }),(6,{ cs:=(cI .i64) (a1.getD v1.toNat 0) })] [0,1,12,13,24] [] [(0,.d (.sl 1 (a0.map (cI .i64)))),(1,.d (.sl 1 (a1.map (cI .i64)))),(12,.d (.v (.int .i64 (a0.length:Int)))),(13,.d (.v (.int .i64 v1))),(24,.d (.v (.bool ((a0.getD v1.toNat 0) != (a1.getD v1.toNat 0)))))] [(2,0≤v1∧(a0.map (cI .i64))[v1.toNat]? = some ((cI .i64) (a0.getD v1.toNat 0))),(3,0≤v1∧(a1.map (cI .i64))[v1.toNat]? = some ((cI .i64) (a1.getD v1.toNat 0)))] 2 (by kernel_rfl) (⟨idx_ok (d:=0) (cI .i64) hp1,idx_ok (d:=0) (cI .i64) hp2⟩) ?_
        refine T_cond ((a0.getD v1.toNat 0) != (a1.getD v1.toNat 0)) (by kernel_rfl) (fun hc=>?_) (fun hc=>?_)
        · have h:=cond_tt hc h
          refine T_reg [] [4] [(4,.d (.v (.bool false)))] [] 1 (by kernel_rfl) (trivial) ?_
          obtain hs:=Option.some.inj h; subst hs
          have h:=callE_esc hk1
          obtain hs:=Option.some.inj h; subst hs
          refine T_ret fun a w hm=>inBlock_ret (then_ret (then_ret (inBlock_ret (then_ret (then_ret (T_return (fr':=[(4,.d (.v (.bool false)))]) [4] (by kernel_rfl) [.keep [4]] (by kernel_rfl) (by kernel_rfl) (by kernel_rfl) (by show _=_; kernel_rfl) (by exact trivial) a w hm))))))
        · have h:=cond_ff hc h
          refine T_skip fun a w hm=>inBlock_norm (then_norm (((?_:T Tryz.prog e 26 _ _ _) a w hm)))
          refine T_reg_end [] [0,1,12,13] [(13,.d (.v (.int .i64 (IntKind.i64.wrap (v1+(1:Int))))))] [] 2 (by kernel_rfl) (trivial) fun a w hm=>then_norm (⟨IntKind.i64.wrap (v1+(1:Int)),h,hm.co (cs:=[.keep [0,1,12,13]]) (by show _=_; kernel_rfl)⟩)
      · have h:=cond_ff hc h
        obtain hs:=Option.some.inj h; subst hs
        refine T_exit fun a w hm=>then_exit (then_exit (inBlock_exit (then_norm (⟨_,rfl,hm.co (cs:=[.keep []]) (by show _=_; kernel_rfl)⟩))))
    · skip
      refine fun a w hm=>then_norm (((?_:T Tryz.prog e 26 _ _ _) a w hm))
      refine T_reg [] [4] [(4,.d (.v (.bool true)))] [] 1 (by kernel_rfl) (trivial) ?_
      obtain hs:=Option.some.inj h; subst hs
      refine T_ret fun a w hm=>T_return (fr':=[(4,.d (.v (.bool true)))]) [4] (by kernel_rfl) [.keep [4]] (by kernel_rfl) (by kernel_rfl) (by kernel_rfl) (by show _=_; kernel_rfl) (by exact trivial) a w hm
theorem law3_ObjectRefsMatchReference_ok {F:Nat} {a0:S_Object} {r:Bool} (h:law3_ObjectRefsMatchReference F a0=some r):ACall Tryz.prog 5 [.agg (cS_Object a0)] [.glo 1 (glob_internal_strconv_uint64pow10.flatMap (cI .u64))] (.d (.v (.bool r))) [.glo 1 (glob_internal_strconv_uint64pow10.flatMap (cI .u64))]:=by
  rw [law3_ObjectRefsMatchReference] at h
  refine ACall.intro (N:=53) Tryz.func5 rfl rfl rfl rfl rfl fun e=>?_
  refine T_reg [] [1,1000000] [(1,.box [.d (.v (.int .i64 a0.f0)),.d (.v (.int .i64 a0.f1)),.d (.str a0.f2),.d (.sl 1 (a0.f3.map cS)),.d (.sl 5 (a0.f4.map rS_Object))])] [] 2 (by kernel_rfl) (trivial) ?_
  refine T_seqk ?_
  obtain ⟨y2,hy1,h⟩:=call_ok h
  refine T_reg [(0,{ res:=.d (.v (.bool y2)),vout:=[.glo 1 (glob_internal_strconv_uint64pow10.flatMap (cI .u64))],xs:=[1000000] })] [1,12,1000000] [(12,.d (.v (.bool (!y2))))] [(0,ACall Tryz.prog 6 [] [.glo 1 (glob_internal_strconv_uint64pow10.flatMap (cI .u64))] (.d (.v (.bool y2))) [.glo 1 (glob_internal_strconv_uint64pow10.flatMap (cI .u64))])] 1 (by kernel_rfl) (law3_objectFact_ok hy1) ?_
  refine T_cond (!y2) (by kernel_rfl) (fun hc=>?_) (fun hc=>?_)
  · have h:=cond_tt hc h
    refine T_reg [] [2,1000000] [(2,.d (.v (.bool false)))] [] 1 (by kernel_rfl) (trivial) ?_
    obtain hs:=Option.some.inj h; subst hs
    refine T_ret fun a w hm=>then_ret (T_return (fr':=[(2,.d (.v (.bool false))),(1000000,.glo 1 (glob_internal_strconv_uint64pow10.flatMap (cI .u64)))]) [2] (by kernel_rfl) [.keep [2,1000000]] (by kernel_rfl) (by kernel_rfl) (by kernel_rfl) (by show _=_; kernel_rfl) (by exact ⟨⟨by kernel_rfl,by kernel_rfl⟩,trivial⟩) a w hm)
  · have h:=cond_ff hc h
    refine T_skip fun a w hm=>then_norm (((?_:T Tryz.prog e 53 _ _ _) a w hm))
    obtain ⟨y3,hy2,h⟩:=call_ok h
    refine T_reg [(1,{ res:=.tup [.own 3 1 (y3.1.map (cI .i64)),.d (.v (.int .i64 y3.2))],vout:=[.glo 1 (glob_internal_strconv_uint64pow10.flatMap (cI .u64))],xs:=[1000000] })] [1,3,4,1000000] [(3,.own 3 1 (y3.1.map (cI .i64))),(4,.d (.v (.int .i64 y3.2)))] [(1,ACall Tryz.prog 13 [.agg (cS_Object a0)] [.glo 1 (glob_internal_strconv_uint64pow10.flatMap (cI .u64))] (.tup [.own 3 1 (y3.1.map (cI .i64)),.d (.v (.int .i64 y3.2))]) [.glo 1 (glob_internal_strconv_uint64pow10.flatMap (cI .u64))])] 5 (by kernel_rfl) (object_Refs_ok hy2) ?_
    refine T_seqk ?_
    obtain ⟨y4,hy3,h⟩:=call_ok h
    refine T_reg [(1,{ res:=.tup [.d (.str y4.1),.d (.v (.int .i64 y4.2))] })] [1,3,4,6,1000000] [(6,.d (.v (.int .i64 y4.2)))] [(1,ACall Tryz.prog 11 [.agg (cS_Object a0)] [] (.tup [.d (.str y4.1),.d (.v (.int .i64 y4.2))]) [])] 5 (by kernel_rfl) (ref3_Shown_ok hy3) ?_
    refine T_reg [] [1,3,4,6,24,1000000] [(24,.d (.v (.bool (y4.2 != (0:Int)))))] [] 2 (by kernel_rfl) (trivial) ?_
    refine T_cond (y4.2 != (0:Int)) (by kernel_rfl) (fun hc=>?_) (fun hc=>?_)
    · have h:=cond_tt hc h
      refine T_reg [(5,{ rw:=some (.d (.v (.int .i64 (y3.1.length:Int)))) })] [2,1000000] [(2,.d (.v (.bool (bif (y3.2 == y4.2) then ((y3.1.length:Int) == (0:Int)) else false))))] [(4,((((y3.2 == y4.2) == true) && true)=true→True)),(0,((((y3.2 == y4.2) == true) && true)=true→True∧AV.d (.v (.int .i64 ((y3.1.map (cI .i64)).length:Int)))=.d (.v (.int .i64 (y3.1.length:Int))))),(0,((((y3.2 == y4.2) == true) && true)=true→True))] 2 (by kernel_rfl) (⟨(fun hg=>trivial),(fun hg=>len_ok (cI .i64)),(fun hg=>trivial)⟩) ?_
      obtain hs:=Option.some.inj h; subst hs
      refine T_ret fun a w hm=>then_ret (T_return (fr':=[(2,.d (.v (.bool (bif (y3.2 == y4.2) then ((y3.1.length:Int) == (0:Int)) else false)))),(1000000,.glo 1 (glob_internal_strconv_uint64pow10.flatMap (cI .u64)))]) [2] (by kernel_rfl) [.keep [2,1000000]] (by kernel_rfl) (by kernel_rfl) (by kernel_rfl) (by show _=_; kernel_rfl) (by exact ⟨⟨by kernel_rfl,by kernel_rfl⟩,trivial⟩) a w hm)
    · have h:=cond_ff hc h
      refine T_skip fun a w hm=>then_norm (((?_:T Tryz.prog e 53 _ _ _) a w hm))
      refine T_reg [(0,{ es:=some ((List.replicate 256 false).map cB) })] [1,3,4,7,1000000] [(7,.arr 39 1 ((List.replicate 256 false).map cB))] [(0,ArrZero Tryz.prog 39 256 4∧List.replicate 256 (cB false)=((List.replicate 256 false).map cB))] 0 (by kernel_rfl) (⟨(by show _=_; kernel_rfl),repl_ok cB rfl⟩) ?_
      obtain ⟨y1,hy4,h⟩:=call_ok h
      refine T_reg [(1,{ res:=.tup [],vout:=[.arr 39 1 (y1.map cB)],xs:=[7] })] [3,4,7,1000000] [(7,.arr 39 1 (y1.map cB))] [(1,ACall Tryz.prog 14 [.agg (cS_Object a0),.vw (1000000,0)] [.arr 39 1 ((List.replicate 256 false).map cB)] (.tup []) [.arr 39 1 (y1.map cB)])] 0 (by kernel_rfl) (ref3_Numbers_ok hy4) ?_
      refine T_reg [] [3,4,7,8,1000000] [(8,.own 3 1 ([].map (cI .i64)))] [] 1 (by kernel_rfl) (trivial) ?_
      refine T_seqk ?_
      obtain ⟨hp1,h⟩:=chk_ok h
      refine T_reg [] [3,4,8,35,36,1000000] [(35,.agg (y1.map cB).flatten),(36,.d (.v (.int .i64 (0:Int))))] [(0,256=(y1.map cB).length * 1)] 1 (by kernel_rfl) (arrlen_ok cB 1 hp1 rfl) ?_
      refine T_joinct h (fun (p:(List Int))=>[(3,.own 3 1 (y3.1.map (cI .i64))),(4,.d (.v (.int .i64 y3.2))),(8,.own 3 1 (p.map (cI .i64))),(1000000,.glo 1 (glob_internal_strconv_uint64pow10.flatMap (cI .u64)))]) (fun s h=>?_) (fun v4 h=>?_)
      · refine T_co [.keep [3,4,8,35,36,1000000]] ((fun (p:(List Int)×Int)=>[(3,.own 3 1 (y3.1.map (cI .i64))),(4,.d (.v (.int .i64 y3.2))),(8,.own 3 1 (p.1.map (cI .i64))),(35,.agg (y1.map cB).flatten),(36,.d (.v (.int .i64 p.2))),(1000000,.glo 1 (glob_internal_strconv_uint64pow10.flatMap (cI .u64)))]) ([],(0:Int))) (by show _=_; kernel_rfl) ?_
        refine T_block ?_
        refine T_loopF (ι:=(List Int)×Int) (fun (p:(List Int)×Int)=>[(3,.own 3 1 (y3.1.map (cI .i64))),(4,.d (.v (.int .i64 y3.2))),(8,.own 3 1 (p.1.map (cI .i64))),(35,.agg (y1.map cB).flatten),(36,.d (.v (.int .i64 p.2))),(1000000,.glo 1 (glob_internal_strconv_uint64pow10.flatMap (cI .u64)))]) (fun n p=>law3_ObjectRefsMatchReference_L0 F y1 n p.1 p.2=some s) (fun i hh=>by simp [law3_ObjectRefsMatchReference_L0] at hh) (fun n p h=>?_) F ([],(0:Int)) h
        obtain ⟨v1,v2⟩:=p
        have h:law3_ObjectRefsMatchReference_L0 F y1 (n+1) v1 v2=some s:=h
        rw [law3_ObjectRefsMatchReference_L0] at h
        refine T_reg [] [3,4,8,35,36,37,1000000] [(37,.d (.v (.bool (decide (v2 < (256:Int))))))] [] 1 (by kernel_rfl) (trivial) ?_
        refine T_seqk ?_
        refine T_cond (decide (v2 < (256:Int))) (by kernel_rfl) (fun hc=>?_) (fun hc=>?_)
        · have h:=cond_tt hc h
          refine T_skip fun a w hm=>then_norm (((?_:T Tryz.prog e 53 _ _ _) a w hm))
          refine T_joinc h (fun (p:(List Int))=>[(3,.own 3 1 (y3.1.map (cI .i64))),(4,.d (.v (.int .i64 y3.2))),(8,.own 3 1 (p.map (cI .i64))),(35,.agg (y1.map cB).flatten),(36,.d (.v (.int .i64 v2))),(1000000,.glo 1 (glob_internal_strconv_uint64pow10.flatMap (cI .u64)))]) (fun s h=>?_) (fun v3 h=>?_)
          · refine T_block ?_
            obtain ⟨hp2,h⟩:=chk_ok h
            refine T_reg [(1,{ cs:=cB (y1.getD v2.toNat false) })] [3,4,8,9,10,35,36,1000000] [(9,.d (.v (.int .i64 v2))),(10,.d (.v (.bool (y1.getD v2.toNat false))))] [(1,(0≤v2∧v2 < 256)∧cB (y1.getD v2.toNat false)=(((y1.map cB).flatten).drop (v2.toNat * 1)).take 1)] 2 (by kernel_rfl) (⟨(hp2).1,arr_ok (d:=false) cB 1 256 y1 (hp2).2 (fun _=>rfl) (hp2).1 rfl⟩) ?_
            refine T_reg [] [3,4,8,9,35,36,40,1000000] [(40,.d (.v (.bool (y1.getD v2.toNat false))))] [] 1 (by kernel_rfl) (trivial) ?_
            refine T_cond (y1.getD v2.toNat false) (by kernel_rfl) (fun hc=>?_) (fun hc=>?_)
            · have h:=cond_tt hc h
              obtain ⟨hp3,h⟩:=chk_ok h
              obtain hs:=Option.some.inj h; subst hs
              refine T_reg_end [(2,{ es:=some (([v2]).map (cI .i64)) }),(3,{ es:=some ((v1++([v2])).map (cI .i64)) })] [3,4,8,35,36,1000000] [(8,.own 3 1 ((v1++([v2])).map (cI .i64)))] [(2,(([v2]).map (cI .i64))=(([v2]).map (cI .i64))),(0,(v1.map (cI .i64)).length+(([v2]).map (cI .i64)).length≤4294967296∧(v1.map (cI .i64))++(([v2]).map (cI .i64))=((v1++([v2])).map (cI .i64)))] 1 (by kernel_rfl) (⟨rfl,app_ok (cI .i64) hp3⟩) fun a w hm=>inBlock_norm (then_norm (hm.co (cs:=[.keep [3,4,8,35,36,1000000]]) (by show _=_; kernel_rfl)))
            · have h:=cond_ff hc h
              obtain hs:=Option.some.inj h; subst hs
              refine T_skip fun a w hm=>inBlock_norm (then_norm (hm.co (cs:=[.keep [3,4,8,35,36,1000000]]) (by show _=_; kernel_rfl)))
          · skip
            refine T_reg_end [] [3,4,8,35,36,1000000] [(36,.d (.v (.int .i64 (IntKind.i64.wrap (v2+(1:Int))))))] [] 2 (by kernel_rfl) (trivial) fun a w hm=>then_norm (⟨(v3,IntKind.i64.wrap (v2+(1:Int))),h,hm.co (cs:=[.keep [3,4,8,35,36,1000000]]) (by show _=_; kernel_rfl)⟩)
        · have h:=cond_ff hc h
          obtain hs:=Option.some.inj h; subst hs
          refine T_exit fun a w hm=>then_exit (then_exit (inBlock_exit (then_norm (hm.co (cs:=[.keep [3,4,8,1000000]]) (by show _=_; kernel_rfl)))))
      · skip
        refine fun a w hm=>then_norm (((?_:T Tryz.prog e 53 _ _ _) a w hm))
        obtain ⟨y5,hy5,h⟩:=call_ok h
        refine T_reg [(5,{ res:=.d (.v (.bool y5)) })] [2,1000000] [(2,.d (.v (.bool (bif (y3.2 == (0:Int)) then y5 else false))))] [(3,((((y3.2 == (0:Int)) == true) && true)=true→True)),(0,((((y3.2 == (0:Int)) == true) && true)=true→True)),(0,((((y3.2 == (0:Int)) == true) && true)=true→ACall Tryz.prog 15 [.d (.sl 1 (y3.1.map (cI .i64))),.d (.sl 1 (v4.map (cI .i64)))] [] (.d (.v (.bool y5))) []))] 2 (by kernel_rfl) (⟨(fun hg=>trivial),(fun hg=>trivial),(fun hg=>slices_Equal_int_ok (gcall_ok hg hy5))⟩) ?_
        obtain hs:=Option.some.inj h; subst hs
        refine T_ret fun a w hm=>T_return (fr':=[(2,.d (.v (.bool (bif (y3.2 == (0:Int)) then y5 else false)))),(1000000,.glo 1 (glob_internal_strconv_uint64pow10.flatMap (cI .u64)))]) [2] (by kernel_rfl) [.keep [2,1000000]] (by kernel_rfl) (by kernel_rfl) (by kernel_rfl) (by show _=_; kernel_rfl) (by exact ⟨⟨by kernel_rfl,by kernel_rfl⟩,trivial⟩) a w hm
end Go.Vm.ObjG
