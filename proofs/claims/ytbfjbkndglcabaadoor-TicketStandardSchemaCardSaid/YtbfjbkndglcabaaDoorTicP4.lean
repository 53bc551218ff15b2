import Derived.Test.YtbfjbkndglcabaaDoorTicP3
namespace Go.Vm.TicG
open Go.Proofs
set_option maxRecDepth 20000
set_option maxHeartbeats 8000000 in
set_option maxRecDepth 100000 in
theorem law3_TicketStandardSchema_ok {F:Nat} {a0:S_Object} {r:Bool} (h:law3_TicketStandardSchema F a0=some r):ACall Tryd.prog 5 [.agg (cS_Object a0)] [.glo 0 (glob_internal_strconv_uint64pow10.flatMap (cI .u64))] (.d (.v (.bool r))) [.glo 0 (glob_internal_strconv_uint64pow10.flatMap (cI .u64))]:=by
  rw [law3_TicketStandardSchema] at h
  refine ACall.intro (N:=216) Tryd.func5 rfl rfl rfl rfl rfl fun e=>?_
  refine T_reg [] [1,1000000] [(1,bx_Object a0)] [] 2 (by kernel_rfl) (trivial) ?_
  refine T_seqk ?_
  obtain ⟨y1,hy1,h⟩:=call_ok h
  refine T_reg [(0,{ res:=dB y1,vout:=[.glo 0 (glob_internal_strconv_uint64pow10.flatMap (cI .u64))],xs:=[1000000] })] [1,15,1000000] [(15,dB (!y1))] [(0,ACall Tryd.prog 6 [] [.glo 0 (glob_internal_strconv_uint64pow10.flatMap (cI .u64))] (dB y1) [.glo 0 (glob_internal_strconv_uint64pow10.flatMap (cI .u64))])] 1 (by kernel_rfl) (law3_ticketFact_ok hy1) ?_
  refine T_cond (!y1) (by kernel_rfl) (fun hc=>?_) (fun hc=>?_)
  · have h:=cond_tt hc h
    refine T_reg [] [2,1000000] [(2,dB false)] [] 1 (by kernel_rfl) (trivial) ?_
    obtain hs:=Option.some.inj h; subst hs
    refine T_ret fun a w hm=>then_ret (T_return (fr':=[(2,dB false),(1000000,.glo 0 (glob_internal_strconv_uint64pow10.flatMap (cI .u64)))]) [2] (by kernel_rfl) [.keep [2,1000000]] (by kernel_rfl) (by kernel_rfl) (by kernel_rfl) (by show _=_; kernel_rfl) (by exact ⟨⟨by kernel_rfl,by kernel_rfl⟩,trivial⟩) a w hm)
  · have h:=cond_ff hc h
    refine T_skip fun a w hm=>then_norm (((?_:T Tryd.prog e 216 _ _ _) a w hm))
    obtain ⟨y2,hy2,h⟩:=call_ok h
    refine T_reg [(0,{ res:=.agg (cS_TicketField y2) })] [1,3,1000000] [(3,bx_TicketField y2)] [(0,ACall Tryd.prog 13 [] [] (.agg (cS_TicketField y2)) [])] 2 (by kernel_rfl) (ticket_Standard_ok hy2) ?_
    obtain ⟨y3,hy3,h⟩:=call_ok h
    refine T_reg [(2,{ res:=.tup [oW5 y3.1,dI y3.2],vout:=[.glo 0 (glob_internal_strconv_uint64pow10.flatMap (cI .u64))],xs:=[1000000] })] [1,3,4,5,1000000] [(4,oW5 y3.1),(5,dI y3.2)] [(2,ACall Tryd.prog 9 [.agg (cS_TicketField y2),.agg (cS_Object a0)] [.glo 0 (glob_internal_strconv_uint64pow10.flatMap (cI .u64))] (.tup [oW5 y3.1,dI y3.2]) [.glo 0 (glob_internal_strconv_uint64pow10.flatMap (cI .u64))])] 5 (by kernel_rfl) (ticket_Validate_ok hy3) ?_
    refine T_seqk ?_
    obtain ⟨y4,hy4,h⟩:=call_ok h
    refine T_reg [(1,{ res:=.tup [.d (.str y4.1),dI y4.2] })] [1,3,4,5,7,1000000] [(7,dI y4.2)] [(1,ACall Tryd.prog 10 [.agg (cS_Object a0)] [] (.tup [.d (.str y4.1),dI y4.2]) [])] 5 (by kernel_rfl) (ref3_Shown_ok hy4) ?_
    refine T_reg [] [1,3,4,5,7,29,1000000] [(29,dB (y4.2 != (0:Int)))] [] 2 (by kernel_rfl) (trivial) ?_
    refine T_cond (y4.2 != (0:Int)) (by kernel_rfl) (fun hc=>?_) (fun hc=>?_)
    · have h:=cond_tt hc h
      refine T_reg [(5,{ rw:=some (dI (y3.1.length:Int)) })] [2,1000000] [(2,dB (bif (y3.2 == y4.2) then ((y3.1.length:Int) == (0:Int)) else false))] [(4,((((y3.2 == y4.2) == true) && true)=true→True)),(0,((((y3.2 == y4.2) == true) && true)=true→True∧dI ((y3.1.map cS_TicketFinding).length:Int)=dI (y3.1.length:Int))),(0,((((y3.2 == y4.2) == true) && true)=true→True))] 2 (by kernel_rfl) (⟨(fun hg=>trivial),(fun hg=>len_ok cS_TicketFinding),(fun hg=>trivial)⟩) ?_
      obtain hs:=Option.some.inj h; subst hs
      refine T_ret fun a w hm=>then_ret (T_return (fr':=[(2,dB (bif (y3.2 == y4.2) then ((y3.1.length:Int) == (0:Int)) else false)),(1000000,.glo 0 (glob_internal_strconv_uint64pow10.flatMap (cI .u64)))]) [2] (by kernel_rfl) [.keep [2,1000000]] (by kernel_rfl) (by kernel_rfl) (by kernel_rfl) (by show _=_; kernel_rfl) (by exact ⟨⟨by kernel_rfl,by kernel_rfl⟩,trivial⟩) a w hm)
    · have h:=cond_ff hc h
      refine T_skip fun a w hm=>then_norm (((?_:T Tryd.prog e 216 _ _ _) a w hm))
      refine T_reg [] [1,3,4,5,8,1000000] [(8,dB (a0.f0 == (7:Int)))] [] 4 (by kernel_rfl) (trivial) ?_
      refine T_reg [] [1,3,4,5,8,9,1000000] [(9,dI (0:Int))] [] 1 (by kernel_rfl) (trivial) ?_
      refine T_seqk ?_
      refine T_reg [(2,{ rw:=some (dI (a0.f3.length:Int)) })] [1,3,4,5,8,9,42,43,44,1000000] [(42,.d (.sl 1 (a0.f3.map cS))),(43,dI (a0.f3.length:Int)),(44,dI (0:Int))] [(2,True∧dI ((a0.f3.map cS).length:Int)=dI (a0.f3.length:Int))] 1 (by kernel_rfl) (len_ok cS) ?_
      refine T_joinct h (fun (p:Bool×Int)=>[(3,bx_TicketField y2),(4,oW5 y3.1),(5,dI y3.2),(8,dB p.1),(9,dI p.2),(1000000,.glo 0 (glob_internal_strconv_uint64pow10.flatMap (cI .u64)))]) (fun s h=>?_) (fun s h=>?_)
      · refine T_co [.keep [1,3,4,5,8,9,42,43,44,1000000]] ((fun (p:Bool×Int×Int)=>[(1,bx_Object a0),(3,bx_TicketField y2),(4,oW5 y3.1),(5,dI y3.2),(8,dB p.1),(9,dI p.2.1),(42,.d (.sl 1 (a0.f3.map cS))),(43,dI (a0.f3.length:Int)),(44,dI p.2.2),(1000000,.glo 0 (glob_internal_strconv_uint64pow10.flatMap (cI .u64)))]) ((a0.f0 == (7:Int)),(0:Int),(0:Int))) (by show _=_; kernel_rfl) ?_
        refine T_block ?_
        refine T_loopF (ι:=Bool×Int×Int) (fun (p:Bool×Int×Int)=>[(1,bx_Object a0),(3,bx_TicketField y2),(4,oW5 y3.1),(5,dI y3.2),(8,dB p.1),(9,dI p.2.1),(42,.d (.sl 1 (a0.f3.map cS))),(43,dI (a0.f3.length:Int)),(44,dI p.2.2),(1000000,.glo 0 (glob_internal_strconv_uint64pow10.flatMap (cI .u64)))]) (fun n p=>law3_TicketStandardSchema_L0 F a0 n p.1 p.2.1 p.2.2=some s) (fun i hh=>by simp [law3_TicketStandardSchema_L0] at hh) (fun n p h=>?_) F ((a0.f0 == (7:Int)),(0:Int),(0:Int)) h
        obtain ⟨v1,v2,v3⟩:=p
        have h:law3_TicketStandardSchema_L0 F a0 (n+1) v1 v2 v3=some s:=h
        rw [law3_TicketStandardSchema_L0] at h
        refine T_reg [] [1,3,4,5,8,9,42,43,44,45,1000000] [(45,dB (decide (v3 < (a0.f3.length:Int))))] [] 1 (by kernel_rfl) (trivial) ?_
        refine T_seqk ?_
        refine T_cond (decide (v3 < (a0.f3.length:Int))) (by kernel_rfl) (fun hc=>?_) (fun hc=>?_)
        · have h:=cond_tt hc h
          refine T_skip fun a w hm=>then_norm (((?_:T Tryd.prog e 216 _ _ _) a w hm))
          refine T_joinc h (fun (p:Bool×Int)=>[(1,bx_Object a0),(3,bx_TicketField y2),(4,oW5 y3.1),(5,dI y3.2),(8,dB p.1),(9,dI p.2),(42,.d (.sl 1 (a0.f3.map cS))),(43,dI (a0.f3.length:Int)),(44,dI v3),(1000000,.glo 0 (glob_internal_strconv_uint64pow10.flatMap (cI .u64)))]) (fun s h=>?_) (fun s h=>?_)
          · refine T_block ?_
            obtain ⟨hp1,h⟩:=chk_ok h
            refine T_reg [(1,{ cs:=cS (a0.f3.getD v3.toNat []) })] [1,3,4,5,8,9,10,11,42,43,44,1000000] [(10,dI v3),(11,.d (.str (a0.f3.getD v3.toNat [])))] [(1,0≤v3∧(a0.f3.map cS)[v3.toNat]? = some (cS (a0.f3.getD v3.toNat [])))] 3 (by kernel_rfl) (idx_ok (d:=[]) cS hp1) ?_
            obtain ⟨hp2,h⟩:=chk_ok h
            refine T_reg [(3,{ cs:=cS_Object (a0.f4.getD v3.toNat z_Object) })] [1,3,4,5,8,9,11,12,42,43,44,1000000] [(12,.box [dI ((a0.f4.getD v3.toNat z_Object).f0),dI ((a0.f4.getD v3.toNat z_Object).f1),.d (.str ((a0.f4.getD v3.toNat z_Object).f2)),.d (.sl 1 (((a0.f4.getD v3.toNat z_Object).f3).map cS)),.d (.sl 5 (((a0.f4.getD v3.toNat z_Object).f4).map rS_Object))])] [(3,0≤v3∧(a0.f4.map rS_Object)[v3.toNat]? = some (cS_Object (a0.f4.getD v3.toNat z_Object)))] 3 (by kernel_rfl) (idx_okR (d:=z_Object) rS_Object_eq hp2) ?_
            refine T_reg [] [1,3,4,5,8,9,11,12,13,42,43,44,1000000] [(13,dB (((a0.f4.getD v3.toNat z_Object).f0) == (4:Int)))] [] 4 (by kernel_rfl) (trivial) ?_
            refine T_reg [] [1,3,4,5,8,9,12,13,42,43,44,57,1000000] [(57,.d (.str (a0.f3.getD v3.toNat [])))] [] 1 (by kernel_rfl) (trivial) ?_
            refine T_block ?_
            refine T_reg [] [1,3,4,5,8,9,12,13,42,43,44,57,58,1000000] [(58,dB ((a0.f3.getD v3.toNat []) == ([67,111,112,105,101,115]:List UInt8)))] [] 2 (by kernel_rfl) (trivial) ?_
            refine T_cond ((a0.f3.getD v3.toNat []) == ([67,111,112,105,101,115]:List UInt8)) (by kernel_rfl) (fun hc=>?_) (fun hc=>?_)
            · have h:=cond_tt hc h
              obtain ⟨z1,hz1,h⟩:=lett_ok h
              obtain ⟨z2,hz2,h⟩:=lett_ok h
              refine T_reg [(10,{ rw:=some (dB z1) }),(15,{ rw:=some (dB z2) })] [1,3,4,5,8,9,42,43,44,1000000] [(8,dB z2)] [(2,(((v1 == true) && true)=true→True)),(0,(((v1 == true) && true)=true→True)),(0,(((v1 == true) && true)=true→True)),(2,((((bif v1 then (((a0.f4.getD v3.toNat z_Object).f0) == (2:Int)) else false) == true) && true)=true→True)),(0,((((bif v1 then (((a0.f4.getD v3.toNat z_Object).f0) == (2:Int)) else false) == true) && true)=true→True)),(0,((((bif v1 then (((a0.f4.getD v3.toNat z_Object).f0) == (2:Int)) else false) == true) && true)=true→True)),(0,(True)∧dB (bif (bif v1 then (((a0.f4.getD v3.toNat z_Object).f0) == (2:Int)) else false) then (decide (((a0.f4.getD v3.toNat z_Object).f1) ≥ (1:Int))) else false)=dB z1),(1,(((z1 == true) && true)=true→True)),(0,(((z1 == true) && true)=true→True)),(0,(((z1 == true) && true)=true→True)),(0,(True)∧dB (bif z1 then (decide (((a0.f4.getD v3.toNat z_Object).f1)≤(9999:Int))) else false)=dB z2)] 1 (by kernel_rfl) (⟨(fun hg=>trivial),(fun hg=>trivial),(fun hg=>trivial),(fun hg=>trivial),(fun hg=>trivial),(fun hg=>trivial),⟨trivial,(by subst hz1; rfl)⟩,(fun hg=>trivial),(fun hg=>trivial),(fun hg=>trivial),⟨trivial,(by subst hz2; rfl)⟩⟩) ?_
              obtain hs:=Option.some.inj h; subst hs
              refine T_reg_end [] [1,3,4,5,8,9,42,43,44,1000000] [(9,dI (IntKind.i64.wrap (v2+(1:Int))))] [] 3 (by kernel_rfl) (trivial) fun a w hm=>inBlock_norm (inBlock_norm (then_norm (hm.co (cs:=[.keep [1,3,4,5,8,9,42,43,44,1000000]]) (by show _=_; kernel_rfl))))
            · have h:=cond_ff hc h
              refine T_reg [] [1,3,4,5,8,9,12,13,42,43,44,57,78,1000000] [(78,dB ((a0.f3.getD v3.toNat []) == ([80,97,103,101,115]:List UInt8)))] [] 2 (by kernel_rfl) (trivial) ?_
              refine T_cond ((a0.f3.getD v3.toNat []) == ([80,97,103,101,115]:List UInt8)) (by kernel_rfl) (fun hc=>?_) (fun hc=>?_)
              · have h:=cond_tt hc h
                obtain ⟨z3,hz3,h⟩:=lett_ok h
                obtain ⟨z4,hz4,h⟩:=lett_ok h
                refine T_reg [(10,{ rw:=some (dB z3) }),(15,{ rw:=some (dB z4) })] [1,3,4,5,8,9,42,43,44,1000000] [(8,dB z4)] [(2,(((v1 == true) && true)=true→True)),(0,(((v1 == true) && true)=true→True)),(0,(((v1 == true) && true)=true→True)),(2,((((bif v1 then (((a0.f4.getD v3.toNat z_Object).f0) == (2:Int)) else false) == true) && true)=true→True)),(0,((((bif v1 then (((a0.f4.getD v3.toNat z_Object).f0) == (2:Int)) else false) == true) && true)=true→True)),(0,((((bif v1 then (((a0.f4.getD v3.toNat z_Object).f0) == (2:Int)) else false) == true) && true)=true→True)),(0,(True)∧dB (bif (bif v1 then (((a0.f4.getD v3.toNat z_Object).f0) == (2:Int)) else false) then (decide (((a0.f4.getD v3.toNat z_Object).f1) ≥ (1:Int))) else false)=dB z3),(1,(((z3 == true) && true)=true→True)),(0,(((z3 == true) && true)=true→True)),(0,(((z3 == true) && true)=true→True)),(0,(True)∧dB (bif z3 then (decide (((a0.f4.getD v3.toNat z_Object).f1)≤(64:Int))) else false)=dB z4)] 1 (by kernel_rfl) (⟨(fun hg=>trivial),(fun hg=>trivial),(fun hg=>trivial),(fun hg=>trivial),(fun hg=>trivial),(fun hg=>trivial),⟨trivial,(by subst hz3; rfl)⟩,(fun hg=>trivial),(fun hg=>trivial),(fun hg=>trivial),⟨trivial,(by subst hz4; rfl)⟩⟩) ?_
                obtain hs:=Option.some.inj h; subst hs
                refine T_reg_end [] [1,3,4,5,8,9,42,43,44,1000000] [(9,dI (IntKind.i64.wrap (v2+(1:Int))))] [] 3 (by kernel_rfl) (trivial) fun a w hm=>inBlock_norm (inBlock_norm (then_norm (hm.co (cs:=[.keep [1,3,4,5,8,9,42,43,44,1000000]]) (by show _=_; kernel_rfl))))
              · have h:=cond_ff hc h
                refine T_reg [] [1,3,4,5,8,9,12,13,42,43,44,57,98,1000000] [(98,dB ((a0.f3.getD v3.toNat []) == ([70,111,108,100]:List UInt8)))] [] 2 (by kernel_rfl) (trivial) ?_
                refine T_cond ((a0.f3.getD v3.toNat []) == ([70,111,108,100]:List UInt8)) (by kernel_rfl) (fun hc=>?_) (fun hc=>?_)
                · have h:=cond_tt hc h
                  obtain ⟨z5,hz5,h⟩:=lett_ok h
                  obtain ⟨z6,hz6,h⟩:=lett_ok h
                  refine T_reg [(9,{ rw:=some (dB z5) }),(15,{ rw:=some (dB z6) })] [1,3,4,5,8,9,42,43,44,1000000] [(8,dB z6)] [(2,(((v1 == true) && true)=true→True)),(2,((((bif v1 then (((a0.f4.getD v3.toNat z_Object).f0) == (4:Int)) else false) == true) && true)=true→True)),(0,((((bif v1 then (((a0.f4.getD v3.toNat z_Object).f0) == (4:Int)) else false) == true) && true)=true→True)),(0,((((bif v1 then (((a0.f4.getD v3.toNat z_Object).f0) == (4:Int)) else false) == true) && true)=true→True)),(0,((((bif v1 then (((a0.f4.getD v3.toNat z_Object).f0) == (4:Int)) else false) == true) && true)=true→True)),(0,(True)∧dB (bif (bif v1 then (((a0.f4.getD v3.toNat z_Object).f0) == (4:Int)) else false) then (decide ((((a0.f4.getD v3.toNat z_Object).f2).length:Int) ≥ (3:Int))) else false)=dB z5),(1,(((z5 == true) && true)=true→True)),(0,(((z5 == true) && true)=true→True)),(0,(((z5 == true) && true)=true→True)),(0,(((z5 == true) && true)=true→True)),(0,(True)∧dB (bif z5 then (decide ((((a0.f4.getD v3.toNat z_Object).f2).length:Int)≤(35:Int))) else false)=dB z6)] 1 (by kernel_rfl) (⟨(fun hg=>trivial),(fun hg=>trivial),(fun hg=>trivial),(fun hg=>trivial),(fun hg=>trivial),⟨trivial,(by subst hz5; rfl)⟩,(fun hg=>trivial),(fun hg=>trivial),(fun hg=>trivial),(fun hg=>trivial),⟨trivial,(by subst hz6; rfl)⟩⟩) ?_
                  obtain hs:=Option.some.inj h; subst hs
                  refine T_reg_end [] [1,3,4,5,8,9,42,43,44,1000000] [(9,dI (IntKind.i64.wrap (v2+(1:Int))))] [] 3 (by kernel_rfl) (trivial) fun a w hm=>inBlock_norm (inBlock_norm (then_norm (hm.co (cs:=[.keep [1,3,4,5,8,9,42,43,44,1000000]]) (by show _=_; kernel_rfl))))
                · have h:=cond_ff hc h
                  refine T_reg [] [1,3,4,5,8,9,12,13,42,43,44,57,118,1000000] [(118,dB ((a0.f3.getD v3.toNat []) == ([78,97,109,101]:List UInt8)))] [] 2 (by kernel_rfl) (trivial) ?_
                  refine T_cond ((a0.f3.getD v3.toNat []) == ([78,97,109,101]:List UInt8)) (by kernel_rfl) (fun hc=>?_) (fun hc=>?_)
                  · have h:=cond_tt hc h
                    obtain ⟨z7,hz7,h⟩:=lett_ok h
                    obtain ⟨z8,hz8,h⟩:=lett_ok h
                    refine T_reg [(9,{ rw:=some (dB z7) }),(15,{ rw:=some (dB z8) })] [1,3,4,5,8,9,42,43,44,1000000] [(8,dB z8)] [(2,(((v1 == true) && true)=true→True)),(2,((((bif v1 then (((a0.f4.getD v3.toNat z_Object).f0) == (4:Int)) else false) == true) && true)=true→True)),(0,((((bif v1 then (((a0.f4.getD v3.toNat z_Object).f0) == (4:Int)) else false) == true) && true)=true→True)),(0,((((bif v1 then (((a0.f4.getD v3.toNat z_Object).f0) == (4:Int)) else false) == true) && true)=true→True)),(0,((((bif v1 then (((a0.f4.getD v3.toNat z_Object).f0) == (4:Int)) else false) == true) && true)=true→True)),(0,(True)∧dB (bif (bif v1 then (((a0.f4.getD v3.toNat z_Object).f0) == (4:Int)) else false) then (decide ((((a0.f4.getD v3.toNat z_Object).f2).length:Int) ≥ (1:Int))) else false)=dB z7),(1,(((z7 == true) && true)=true→True)),(0,(((z7 == true) && true)=true→True)),(0,(((z7 == true) && true)=true→True)),(0,(((z7 == true) && true)=true→True)),(0,(True)∧dB (bif z7 then (decide ((((a0.f4.getD v3.toNat z_Object).f2).length:Int)≤(16:Int))) else false)=dB z8)] 1 (by kernel_rfl) (⟨(fun hg=>trivial),(fun hg=>trivial),(fun hg=>trivial),(fun hg=>trivial),(fun hg=>trivial),⟨trivial,(by subst hz7; rfl)⟩,(fun hg=>trivial),(fun hg=>trivial),(fun hg=>trivial),(fun hg=>trivial),⟨trivial,(by subst hz8; rfl)⟩⟩) ?_
                    obtain hs:=Option.some.inj h; subst hs
                    refine T_reg_end [] [1,3,4,5,8,9,42,43,44,1000000] [(9,dI (IntKind.i64.wrap (v2+(1:Int))))] [] 3 (by kernel_rfl) (trivial) fun a w hm=>inBlock_norm (inBlock_norm (then_norm (hm.co (cs:=[.keep [1,3,4,5,8,9,42,43,44,1000000]]) (by show _=_; kernel_rfl))))
                  · have h:=cond_ff hc h
                    refine T_reg [] [1,3,4,5,8,9,12,42,43,44,57,138,1000000] [(138,dB ((a0.f3.getD v3.toNat []) == ([80,114,105,111,114,105,116,121]:List UInt8)))] [] 2 (by kernel_rfl) (trivial) ?_
                    refine T_cond ((a0.f3.getD v3.toNat []) == ([80,114,105,111,114,105,116,121]:List UInt8)) (by kernel_rfl) (fun hc=>?_) (fun hc=>?_)
                    · have h:=cond_tt hc h
                      obtain ⟨z9,hz9,h⟩:=lett_ok h
                      obtain ⟨z10,hz10,h⟩:=lett_ok h
                      obtain hs:=Option.some.inj h; subst hs
                      refine T_reg_end [(10,{ rw:=some (dB z9) }),(15,{ rw:=some (dB z10) })] [1,3,4,5,8,9,42,43,44,1000000] [(8,dB z10)] [(2,(((v1 == true) && true)=true→True)),(0,(((v1 == true) && true)=true→True)),(0,(((v1 == true) && true)=true→True)),(2,((((bif v1 then (((a0.f4.getD v3.toNat z_Object).f0) == (2:Int)) else false) == true) && true)=true→True)),(0,((((bif v1 then (((a0.f4.getD v3.toNat z_Object).f0) == (2:Int)) else false) == true) && true)=true→True)),(0,((((bif v1 then (((a0.f4.getD v3.toNat z_Object).f0) == (2:Int)) else false) == true) && true)=true→True)),(0,(True)∧dB (bif (bif v1 then (((a0.f4.getD v3.toNat z_Object).f0) == (2:Int)) else false) then (decide (((a0.f4.getD v3.toNat z_Object).f1) ≥ (0:Int))) else false)=dB z9),(1,(((z9 == true) && true)=true→True)),(0,(((z9 == true) && true)=true→True)),(0,(((z9 == true) && true)=true→True)),(0,(True)∧dB (bif z9 then (decide (((a0.f4.getD v3.toNat z_Object).f1)≤(9:Int))) else false)=dB z10)] 1 (by kernel_rfl) (⟨(fun hg=>trivial),(fun hg=>trivial),(fun hg=>trivial),(fun hg=>trivial),(fun hg=>trivial),(fun hg=>trivial),⟨trivial,(by subst hz9; rfl)⟩,(fun hg=>trivial),(fun hg=>trivial),(fun hg=>trivial),⟨trivial,(by subst hz10; rfl)⟩⟩) fun a w hm=>inBlock_norm (inBlock_norm (then_norm (hm.co (cs:=[.keep [1,3,4,5,8,9,42,43,44,1000000]]) (by show _=_; kernel_rfl))))
                    · have h:=cond_ff hc h
                      refine T_reg [] [1,3,4,5,8,9,12,42,43,44,57,156,1000000] [(156,dB ((a0.f3.getD v3.toNat []) == ([78,117,109,98,101,114,101,100]:List UInt8)))] [] 2 (by kernel_rfl) (trivial) ?_
                      refine T_cond ((a0.f3.getD v3.toNat []) == ([78,117,109,98,101,114,101,100]:List UInt8)) (by kernel_rfl) (fun hc=>?_) (fun hc=>?_)
                      · have h:=cond_tt hc h
                        obtain ⟨z11,hz11,h⟩:=lett_ok h
                        obtain ⟨z12,hz12,h⟩:=lett_ok h
                        obtain hs:=Option.some.inj h; subst hs
                        refine T_reg_end [(14,{ rw:=some (dB z11) }),(15,{ rw:=some (dB z12) })] [1,3,4,5,8,9,42,43,44,1000000] [(8,dB z12)] [(2,(((v1 == true) && true)=true→True)),(0,(((v1 == true) && true)=true→True)),(0,(((v1 == true) && true)=true→True)),(2,((((bif v1 then (((a0.f4.getD v3.toNat z_Object).f0) == (3:Int)) else false) == true) && true)=true→True)),(0,((((bif v1 then (((a0.f4.getD v3.toNat z_Object).f0) == (3:Int)) else false) == true) && true)=true→True)),(0,((((bif v1 then (((a0.f4.getD v3.toNat z_Object).f0) == (3:Int)) else false) == true) && true)=true→True)),(0,((((bif v1 then (((a0.f4.getD v3.toNat z_Object).f0) == (3:Int)) else false) == true) && true)=true→True)),(0,((((((a0.f4.getD v3.toNat z_Object).f2) == ([89,101,115]:List UInt8)) == false) && (((bif v1 then (((a0.f4.getD v3.toNat z_Object).f0) == (3:Int)) else false) == true) && true))=true→True)),(0,((((((a0.f4.getD v3.toNat z_Object).f2) == ([89,101,115]:List UInt8)) == false) && (((bif v1 then (((a0.f4.getD v3.toNat z_Object).f0) == (3:Int)) else false) == true) && true))=true→True)),(0,((((((a0.f4.getD v3.toNat z_Object).f2) == ([89,101,115]:List UInt8)) == false) && (((bif v1 then (((a0.f4.getD v3.toNat z_Object).f0) == (3:Int)) else false) == true) && true))=true→True)),(0,((((bif v1 then (((a0.f4.getD v3.toNat z_Object).f0) == (3:Int)) else false) == true) && true)=true→(True)∧dB (bif (((a0.f4.getD v3.toNat z_Object).f2) == ([89,101,115]:List UInt8)) then true else (((a0.f4.getD v3.toNat z_Object).f2) == ([78,111]:List UInt8)))=dB z11)),(0,(True)∧dB (bif (bif v1 then (((a0.f4.getD v3.toNat z_Object).f0) == (3:Int)) else false) then z11 else false)=dB z12)] 1 (by kernel_rfl) (⟨(fun hg=>trivial),(fun hg=>trivial),(fun hg=>trivial),(fun hg=>trivial),(fun hg=>trivial),(fun hg=>trivial),(fun hg=>trivial),(fun hg=>trivial),(fun hg=>trivial),(fun hg=>trivial),(fun hg=>⟨trivial,(by subst hz11; rfl)⟩),⟨trivial,(by subst hz12; rfl)⟩⟩) fun a w hm=>inBlock_norm (inBlock_norm (then_norm (hm.co (cs:=[.keep [1,3,4,5,8,9,42,43,44,1000000]]) (by show _=_; kernel_rfl))))
                      · have h:=cond_ff hc h
                        refine T_reg [] [1,3,4,5,8,9,12,42,43,44,174,1000000] [(174,dB ((a0.f3.getD v3.toNat []) == ([83,116,121,108,101]:List UInt8)))] [] 2 (by kernel_rfl) (trivial) ?_
                        refine T_cond ((a0.f3.getD v3.toNat []) == ([83,116,121,108,101]:List UInt8)) (by kernel_rfl) (fun hc=>?_) (fun hc=>?_)
                        · have h:=cond_tt hc h
                          obtain ⟨z13,hz13,h⟩:=lett_ok h
                          obtain ⟨z14,hz14,h⟩:=lett_ok h
                          obtain ⟨z15,hz15,h⟩:=lett_ok h
                          obtain ⟨z16,hz16,h⟩:=lett_ok h
                          obtain hs:=Option.some.inj h; subst hs
                          refine T_reg_end [(9,{ rw:=some (dB z13) }),(14,{ rw:=some (dB z14) }),(18,{ rw:=some (dB z15) }),(20,{ rw:=some (dB z16) })] [1,3,4,5,8,9,42,43,44,1000000] [(8,dB z16)] [(2,(((v1 == true) && true)=true→True)),(0,(((v1 == true) && true)=true→True)),(0,(((v1 == true) && true)=true→True)),(2,((((bif v1 then (((a0.f4.getD v3.toNat z_Object).f0) == (3:Int)) else false) == true) && true)=true→True)),(0,((((bif v1 then (((a0.f4.getD v3.toNat z_Object).f0) == (3:Int)) else false) == true) && true)=true→True)),(0,((((bif v1 then (((a0.f4.getD v3.toNat z_Object).f0) == (3:Int)) else false) == true) && true)=true→(True)∧dB (((a0.f4.getD v3.toNat z_Object).f2) == ([83,104,101,101,116,119,105,115,101]:List UInt8))=dB z13)),(0,((((bif v1 then (((a0.f4.getD v3.toNat z_Object).f0) == (3:Int)) else false) == true) && true)=true→True)),(0,(((z13 == false) && (((bif v1 then (((a0.f4.getD v3.toNat z_Object).f0) == (3:Int)) else false) == true) && true))=true→True)),(0,(((z13 == false) && (((bif v1 then (((a0.f4.getD v3.toNat z_Object).f0) == (3:Int)) else false) == true) && true))=true→True)),(0,(((z13 == false) && (((bif v1 then (((a0.f4.getD v3.toNat z_Object).f0) == (3:Int)) else false) == true) && true))=true→True)),(0,((((bif v1 then (((a0.f4.getD v3.toNat z_Object).f0) == (3:Int)) else false) == true) && true)=true→(True)∧dB (bif z13 then true else (((a0.f4.getD v3.toNat z_Object).f2) == ([84,117,114,110]:List UInt8)))=dB z14)),(0,((((bif v1 then (((a0.f4.getD v3.toNat z_Object).f0) == (3:Int)) else false) == true) && true)=true→True)),(0,(((z14 == false) && (((bif v1 then (((a0.f4.getD v3.toNat z_Object).f0) == (3:Int)) else false) == true) && true))=true→True)),(0,(((z14 == false) && (((bif v1 then (((a0.f4.getD v3.toNat z_Object).f0) == (3:Int)) else false) == true) && true))=true→True)),(0,(((z14 == false) && (((bif v1 then (((a0.f4.getD v3.toNat z_Object).f0) == (3:Int)) else false) == true) && true))=true→(True)∧dB (((a0.f4.getD v3.toNat z_Object).f2) == ([84,117,109,98,108,101]:List UInt8))=dB z15)),(0,((((bif v1 then (((a0.f4.getD v3.toNat z_Object).f0) == (3:Int)) else false) == true) && true)=true→True)),(0,(True)∧dB (bif (bif v1 then (((a0.f4.getD v3.toNat z_Object).f0) == (3:Int)) else false) then (bif z14 then true else z15) else false)=dB z16)] 1 (by kernel_rfl) (⟨(fun hg=>trivial),(fun hg=>trivial),(fun hg=>trivial),(fun hg=>trivial),(fun hg=>trivial),(fun hg=>⟨trivial,(by subst hz13; rfl)⟩),(fun hg=>trivial),(fun hg=>trivial),(fun hg=>trivial),(fun hg=>trivial),(fun hg=>⟨trivial,(by subst hz14; rfl)⟩),(fun hg=>trivial),(fun hg=>trivial),(fun hg=>trivial),(fun hg=>⟨trivial,(by subst hz15; rfl)⟩),(fun hg=>trivial),⟨trivial,(by subst hz16; rfl)⟩⟩) fun a w hm=>inBlock_norm (inBlock_norm (then_norm (hm.co (cs:=[.keep [1,3,4,5,8,9,42,43,44,1000000]]) (by show _=_; kernel_rfl))))
                        · have h:=cond_ff hc h
                          obtain hs:=Option.some.inj h; subst hs
                          refine T_reg_end [] [1,3,4,5,8,9,42,43,44,1000000] [(8,dB false)] [] 1 (by kernel_rfl) (trivial) fun a w hm=>inBlock_norm (inBlock_norm (then_norm (hm.co (cs:=[.keep [1,3,4,5,8,9,42,43,44,1000000]]) (by show _=_; kernel_rfl))))
          · obtain ⟨v4,v5⟩:=s
            try dsimp only at h
            refine T_reg_end [] [1,3,4,5,8,9,42,43,44,1000000] [(44,dI (IntKind.i64.wrap (v3+(1:Int))))] [] 2 (by kernel_rfl) (trivial) fun a w hm=>then_norm (⟨(v4,v5,IntKind.i64.wrap (v3+(1:Int))),h,hm.co (cs:=[.keep [1,3,4,5,8,9,42,43,44,1000000]]) (by show _=_; kernel_rfl)⟩)
        · have h:=cond_ff hc h
          obtain hs:=Option.some.inj h; subst hs
          refine T_exit fun a w hm=>then_exit (then_exit (inBlock_exit (then_norm (hm.co (cs:=[.keep [3,4,5,8,9,1000000]]) (by show _=_; kernel_rfl)))))
      · obtain ⟨v6,v7⟩:=s
        try dsimp only at h
        refine fun a w hm=>then_norm (((?_:T Tryd.prog e 216 _ _ _) a w hm))
        obtain ⟨y5,hy5,h⟩:=call_ok h
        obtain ⟨z17,hz17,h⟩:=lett_ok h
        refine T_reg [(1,{ res:=dI y5,vout:=[.glo 0 (glob_internal_strconv_uint64pow10.flatMap (cI .u64))],xs:=[1000000] }),(9,{ rw:=some (dI (y3.1.length:Int)) }),(17,{ rw:=some (dB z17) })] [2,1000000] [(2,dB z17)] [(1,ACall Tryd.prog 7 [.agg (cS_TicketField y2)] [.glo 0 (glob_internal_strconv_uint64pow10.flatMap (cI .u64))] (dI y5) [.glo 0 (glob_internal_strconv_uint64pow10.flatMap (cI .u64))]),(2,((((y5 == (0:Int)) == true) && true)=true→True)),(0,((((y5 == (0:Int)) == true) && true)=true→True)),(2,((((bif (y5 == (0:Int)) then (y3.2 == (0:Int)) else false) == true) && true)=true→True)),(0,((((bif (y5 == (0:Int)) then (y3.2 == (0:Int)) else false) == true) && true)=true→True∧dI ((y3.1.map cS_TicketFinding).length:Int)=dI (y3.1.length:Int))),(0,((((bif (y5 == (0:Int)) then (y3.2 == (0:Int)) else false) == true) && true)=true→True)),(0,((((bif (y5 == (0:Int)) then (y3.2 == (0:Int)) else false) == true) && true)=true→True)),(0,((((bif (y5 == (0:Int)) then (y3.2 == (0:Int)) else false) == true) && true)=true→True)),(0,(((v6 == true) && (((bif (y5 == (0:Int)) then (y3.2 == (0:Int)) else false) == true) && true))=true→True)),(0,(((v6 == true) && (((bif (y5 == (0:Int)) then (y3.2 == (0:Int)) else false) == true) && true))=true→True)),(0,((((bif (y5 == (0:Int)) then (y3.2 == (0:Int)) else false) == true) && true)=true→True)),(0,((((bif (y5 == (0:Int)) then (y3.2 == (0:Int)) else false) == true) && true)=true→True)),(0,(True)∧dB (bif (bif (y5 == (0:Int)) then (y3.2 == (0:Int)) else false) then (((y3.1.length:Int) == (0:Int)) == (bif v6 then (v7 == (4:Int)) else false)) else false)=dB z17)] 1 (by kernel_rfl) (⟨ticket_Check_ok hy5,(fun hg=>trivial),(fun hg=>trivial),(fun hg=>trivial),(fun hg=>len_ok cS_TicketFinding),(fun hg=>trivial),(fun hg=>trivial),(fun hg=>trivial),(fun hg=>trivial),(fun hg=>trivial),(fun hg=>trivial),(fun hg=>trivial),⟨trivial,(by subst hz17; rfl)⟩⟩) ?_
        obtain hs:=Option.some.inj h; subst hs
        refine T_ret fun a w hm=>T_return (fr':=[(2,dB z17),(1000000,.glo 0 (glob_internal_strconv_uint64pow10.flatMap (cI .u64)))]) [2] (by kernel_rfl) [.keep [2,1000000]] (by kernel_rfl) (by kernel_rfl) (by kernel_rfl) (by show _=_; kernel_rfl) (by exact ⟨⟨by kernel_rfl,by kernel_rfl⟩,trivial⟩) a w hm
end Go.Vm.TicG
