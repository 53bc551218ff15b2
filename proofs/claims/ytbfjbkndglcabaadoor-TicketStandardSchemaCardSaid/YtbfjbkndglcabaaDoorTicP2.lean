import Derived.Test.YtbfjbkndglcabaaDoorTicP
namespace Go.Vm.TicG
open Go.Proofs
set_option maxRecDepth 20000
set_option maxHeartbeats 8000000 in
set_option maxRecDepth 100000 in
theorem ticket_findings_body_ok {F:Nat} {rec_ticket_findings:S_TicketField→S_Object→(List (List UInt8))→Option ((List S_TicketFinding))} (hrec_ticket_findings:∀ {a0:S_TicketField},∀ {a1:S_Object},∀ {a2:List (List UInt8)},∀ {r:(List S_TicketFinding)},rec_ticket_findings a0 a1 a2=some r→ACall Tryd.prog 21 [.agg (cS_TicketField a0),.agg (cS_Object a1),.d (.sl 1 (a2.map cS))] [.glo 0 (glob_internal_strconv_uint64pow10.flatMap (cI .u64))] (.own 45 2 (r.map cS_TicketFinding)) [.glo 0 (glob_internal_strconv_uint64pow10.flatMap (cI .u64))]) {a0:S_TicketField} {a1:S_Object} {a2:List (List UInt8)} {r:(List S_TicketFinding)} (h:ticket_findings_body F rec_ticket_findings a0 a1 a2=some r):ACall Tryd.prog 21 [.agg (cS_TicketField a0),.agg (cS_Object a1),.d (.sl 1 (a2.map cS))] [.glo 0 (glob_internal_strconv_uint64pow10.flatMap (cI .u64))] (.own 45 2 (r.map cS_TicketFinding)) [.glo 0 (glob_internal_strconv_uint64pow10.flatMap (cI .u64))]:=by
  rw [ticket_findings_body] at h
  refine ACall.intro (N:=110) Tryd.func21 rfl rfl rfl rfl rfl fun e=>?_
  refine T_reg [] [3,4,5,1000000] [(3,bx_TicketField a0),(4,bx_Object a1),(5,.box [.d (.sl 1 (a2.map cS))])] [] 4 (by kernel_rfl) (trivial) ?_
  refine T_reg [(0,{ es:=some (([(2:Int),(4:Int),(3:Int),(6:Int),(7:Int)]).map (cI .i64)) })] [3,4,5,7,1000000] [(7,.own 3 1 (([(2:Int),(4:Int),(3:Int),(6:Int),(7:Int)]).map (cI .i64)))] [(0,(([(2:Int),(4:Int),(3:Int),(6:Int),(7:Int)]).map (cI .i64))=(([(2:Int),(4:Int),(3:Int),(6:Int),(7:Int)]).map (cI .i64)))] 1 (by kernel_rfl) (rfl) ?_
  refine T_reg [] [3,4,5,7,8,1000000] [(8,.clo 36 [.bp 5 0])] [] 2 (by kernel_rfl) (trivial) ?_
  refine T_reg [(10,{ rw:=some (dI (a1.f4.length:Int)) })] [3,4,5,7,8,9,17,1000000] [(9,.vw (17,0)),(17,.mp .i64 .i64 [((0:Int),a1.f1),((1:Int),(a1.f2.length:Int)),((3:Int),(a1.f4.length:Int))])] [(10,True∧dI ((a1.f4.map rS_Object).length:Int)=dI (a1.f4.length:Int))] 3 (by kernel_rfl) (len_ok rS_Object) ?_
  obtain ⟨z1,hz1,h⟩:=lett_ok h
  obtain ⟨z2,hz2,h⟩:=lett_ok h
  refine T_reg [(7,{ rw:=some (dI z1) }),(8,{ rw:=some (dB z2) })] [3,4,5,7,8,10,11,1000000] [(10,dI z1),(11,dB z2)] [(7,(True)∧dI ((mpGet [((0:Int),a1.f1),((1:Int),(a1.f2.length:Int)),((3:Int),(a1.f4.length:Int))] a0.f1).getD 0)=dI z1),(0,(True)∧dB ((mpGet [((0:Int),a1.f1),((1:Int),(a1.f2.length:Int)),((3:Int),(a1.f4.length:Int))] a0.f1).isSome)=dB z2)] 0 (by kernel_rfl) (⟨⟨trivial,(by subst hz1; rfl)⟩,⟨trivial,(by subst hz2; rfl)⟩⟩) ?_
  refine T_seqk ?_
  refine T_block ?_
  obtain ⟨hp1,h⟩:=chk_ok h
  refine T_draw mixed [(6,{ cs:=(cI .i64) (([(2:Int),(4:Int),(3:Int),(6:Int),(7:Int)]).getD a0.f1.toNat 0) })] [3,4,5,8,10,11,34,1000000] [] [(3,bx_TicketField a0),(4,bx_Object a1),(5,.box [.d (.sl 1 (a2.map cS))]),(8,.clo 36 [.bp 5 0]),(10,dI z1),(11,dB z2),(34,dB (a1.f0 != (([(2:Int),(4:Int),(3:Int),(6:Int),(7:Int)]).getD a0.f1.toNat 0))),(1000000,.glo 0 (glob_internal_strconv_uint64pow10.flatMap (cI .u64)))] [(5,0≤a0.f1∧a0.f1 < (([(2:Int),(4:Int),(3:Int),(6:Int),(7:Int)]).map (cI .i64)).length),(0,(([(2:Int),(4:Int),(3:Int),(6:Int),(7:Int)]).map (cI .i64))[a0.f1.toNat]? = some ((cI .i64) (([(2:Int),(4:Int),(3:Int),(6:Int),(7:Int)]).getD a0.f1.toNat 0)))] 2 (by kernel_rfl) (⟨own_idx (cI .i64) hp1,(idx_ok (d:=0) (cI .i64) hp1).2⟩) ?_
  refine T_cond (a1.f0 != (([(2:Int),(4:Int),(3:Int),(6:Int),(7:Int)]).getD a0.f1.toNat 0)) (by kernel_rfl) (fun hc=>?_) (fun hc=>?_)
  · have h:=cond_tt hc h
    obtain ⟨y3,hy1,h⟩:=call_ok h
    refine T_reg [(1,{ res:=oW5 y3.1,vout:=[.box [.d (.sl 1 (y3.2.map cS))]],xs:=[5] })] [6,1000000] [(6,oW5 y3.1)] [(1,ACall Tryd.prog 36 [dI (14:Int),.bp 1000000 0] [.box [.d (.sl 1 (a2.map cS))]] (oW5 y3.1) [.box [.d (.sl 1 (y3.2.map cS))]])] 1 (by kernel_rfl) (ticket_findings_c1_ok hy1) ?_
    obtain hs:=Option.some.inj h; subst hs
    refine T_ret fun a w hm=>inBlock_ret (then_ret (T_return (fr':=[(6,oW5 y3.1),(1000000,.glo 0 (glob_internal_strconv_uint64pow10.flatMap (cI .u64)))]) [6] (by kernel_rfl) [.keep [6,1000000]] (by kernel_rfl) (by kernel_rfl) (by kernel_rfl) (by show _=_; kernel_rfl) (by exact ⟨⟨by kernel_rfl,by kernel_rfl⟩,trivial⟩) a w hm))
  · have h:=cond_ff hc h
    refine T_reg [] [3,4,5,8,45,1000000] [(45,dB (bif z2 then (bif (decide (z1 < a0.f2)) then true else (decide (z1 > a0.f3))) else false))] [(2,(((z2 == true) && true)=true→True)),(0,(((z2 == true) && true)=true→True)),(0,(((z2 == true) && true)=true→True)),(0,(((z2 == true) && true)=true→True)),(0,(((z2 == true) && true)=true→True)),(0,((((decide (z1 < a0.f2)) == false) && ((z2 == true) && true))=true→True)),(0,((((decide (z1 < a0.f2)) == false) && ((z2 == true) && true))=true→True)),(0,((((decide (z1 < a0.f2)) == false) && ((z2 == true) && true))=true→True)),(0,((((decide (z1 < a0.f2)) == false) && ((z2 == true) && true))=true→True)),(0,(((z2 == true) && true)=true→True))] 2 (by kernel_rfl) (⟨(fun hg=>trivial),(fun hg=>trivial),(fun hg=>trivial),(fun hg=>trivial),(fun hg=>trivial),(fun hg=>trivial),(fun hg=>trivial),(fun hg=>trivial),(fun hg=>trivial),(fun hg=>trivial)⟩) ?_
    refine T_cond (bif z2 then (bif (decide (z1 < a0.f2)) then true else (decide (z1 > a0.f3))) else false) (by kernel_rfl) (fun hc=>?_) (fun hc=>?_)
    · have h:=cond_tt hc h
      obtain ⟨y4,hy2,h⟩:=call_ok h
      refine T_reg [(1,{ res:=oW5 y4.1,vout:=[.box [.d (.sl 1 (y4.2.map cS))]],xs:=[5] })] [6,1000000] [(6,oW5 y4.1)] [(1,ACall Tryd.prog 36 [dI (3:Int),.bp 1000000 0] [.box [.d (.sl 1 (a2.map cS))]] (oW5 y4.1) [.box [.d (.sl 1 (y4.2.map cS))]])] 1 (by kernel_rfl) (ticket_findings_c1_ok hy2) ?_
      obtain hs:=Option.some.inj h; subst hs
      refine T_ret fun a w hm=>inBlock_ret (then_ret (T_return (fr':=[(6,oW5 y4.1),(1000000,.glo 0 (glob_internal_strconv_uint64pow10.flatMap (cI .u64)))]) [6] (by kernel_rfl) [.keep [6,1000000]] (by kernel_rfl) (by kernel_rfl) (by kernel_rfl) (by show _=_; kernel_rfl) (by exact ⟨⟨by kernel_rfl,by kernel_rfl⟩,trivial⟩) a w hm))
    · have h:=cond_ff hc h
      obtain ⟨y5,hy3,h⟩:=call_ok h
      refine T_reg [(8,{ res:=dB y5 })] [3,4,5,8,61,1000000] [(61,dB (bif (a0.f1 == (2:Int)) then (!y5) else false))] [(4,((((a0.f1 == (2:Int)) == true) && true)=true→True)),(0,((((a0.f1 == (2:Int)) == true) && true)=true→True)),(0,((((a0.f1 == (2:Int)) == true) && true)=true→True)),(0,((((a0.f1 == (2:Int)) == true) && true)=true→True)),(0,((((a0.f1 == (2:Int)) == true) && true)=true→ACall Tryd.prog 38 [.d (.sl 1 (a0.f4.map cS)),.d (.str a1.f2)] [] (dB y5) [])),(0,((((a0.f1 == (2:Int)) == true) && true)=true→True))] 2 (by kernel_rfl) (⟨(fun hg=>trivial),(fun hg=>trivial),(fun hg=>trivial),(fun hg=>trivial),(fun hg=>slices_Contains_string_ok (gcall_ok hg hy3)),(fun hg=>trivial)⟩) ?_
      refine T_cond (bif (a0.f1 == (2:Int)) then (!y5) else false) (by kernel_rfl) (fun hc=>?_) (fun hc=>?_)
      · have h:=cond_tt hc h
        obtain ⟨y6,hy4,h⟩:=call_ok h
        refine T_reg [(1,{ res:=oW5 y6.1,vout:=[.box [.d (.sl 1 (y6.2.map cS))]],xs:=[5] })] [6,1000000] [(6,oW5 y6.1)] [(1,ACall Tryd.prog 36 [dI (20:Int),.bp 1000000 0] [.box [.d (.sl 1 (a2.map cS))]] (oW5 y6.1) [.box [.d (.sl 1 (y6.2.map cS))]])] 1 (by kernel_rfl) (ticket_findings_c1_ok hy4) ?_
        obtain hs:=Option.some.inj h; subst hs
        refine T_ret fun a w hm=>inBlock_ret (then_ret (T_return (fr':=[(6,oW5 y6.1),(1000000,.glo 0 (glob_internal_strconv_uint64pow10.flatMap (cI .u64)))]) [6] (by kernel_rfl) [.keep [6,1000000]] (by kernel_rfl) (by kernel_rfl) (by kernel_rfl) (by show _=_; kernel_rfl) (by exact ⟨⟨by kernel_rfl,by kernel_rfl⟩,trivial⟩) a w hm))
      · have h:=cond_ff hc h
        refine T_reg [] [3,4,5,75,1000000] [(75,dB (a0.f1 == (4:Int)))] [] 4 (by kernel_rfl) (trivial) ?_
        refine T_cond (a0.f1 == (4:Int)) (by kernel_rfl) (fun hc=>?_) (fun hc=>?_)
        · have h:=cond_tt hc h
          obtain ⟨y7,hy5,h⟩:=call_ok h
          refine T_reg [(3,{ res:=oW5 y7,vout:=[.glo 0 (glob_internal_strconv_uint64pow10.flatMap (cI .u64))],xs:=[1000000] })] [6,1000000] [(6,oW5 y7)] [(3,ACall Tryd.prog 39 [.agg (cS_TicketField a0),.agg (cS_Object a1),.d (.sl 1 (a2.map cS))] [.glo 0 (glob_internal_strconv_uint64pow10.flatMap (cI .u64))] (oW5 y7) [.glo 0 (glob_internal_strconv_uint64pow10.flatMap (cI .u64))])] 1 (by kernel_rfl) (ticket_record_v1_ok hrec_ticket_findings hy5) ?_
          obtain hs:=Option.some.inj h; subst hs
          refine T_ret fun a w hm=>inBlock_ret (then_ret (T_return (fr':=[(6,oW5 y7),(1000000,.glo 0 (glob_internal_strconv_uint64pow10.flatMap (cI .u64)))]) [6] (by kernel_rfl) [.keep [6,1000000]] (by kernel_rfl) (by kernel_rfl) (by kernel_rfl) (by show _=_; kernel_rfl) (by exact ⟨⟨by kernel_rfl,by kernel_rfl⟩,trivial⟩) a w hm))
        · have h:=cond_ff hc h
          refine T_skip fun a w hm=>inBlock_norm (then_norm (((?_:T Tryd.prog e 110 _ _ _) a w hm)))
          refine T_reg [] [3,4,5,12,1000000] [(12,oW5 [])] [] 1 (by kernel_rfl) (trivial) ?_
          refine T_joinc h (fun (p:(List S_TicketFinding))=>[(12,oW5 p),(1000000,.glo 0 (glob_internal_strconv_uint64pow10.flatMap (cI .u64)))]) (fun s h=>?_) (fun v4 h=>?_)
          · refine T_reg [] [3,4,5,12,85,1000000] [(85,dB (a0.f1 == (3:Int)))] [] 3 (by kernel_rfl) (trivial) ?_
            refine T_cond (a0.f1 == (3:Int)) (by kernel_rfl) (fun hc=>?_) (fun hc=>?_)
            · have h:=cond_tt hc h
              refine T_reg [(2,{ rw:=some (dI (a1.f4.length:Int)) })] [3,5,12,87,88,89,1000000] [(87,.d (.sl 5 (a1.f4.map rS_Object))),(88,dI (a1.f4.length:Int)),(89,dI (0:Int))] [(2,True∧dI ((a1.f4.map rS_Object).length:Int)=dI (a1.f4.length:Int))] 1 (by kernel_rfl) (len_ok rS_Object) ?_
              refine T_joinct h (fun (p:(List S_TicketFinding))=>[(12,oW5 p),(1000000,.glo 0 (glob_internal_strconv_uint64pow10.flatMap (cI .u64)))]) (fun s h=>?_) (fun v3 h=>?_)
              · refine T_co [.keep [3,5,12,87,88,89,1000000]] ((fun (p:(List S_TicketFinding)×Int)=>[(3,bx_TicketField a0),(5,.box [.d (.sl 1 (a2.map cS))]),(12,oW5 p.1),(87,.d (.sl 5 (a1.f4.map rS_Object))),(88,dI (a1.f4.length:Int)),(89,dI p.2),(1000000,.glo 0 (glob_internal_strconv_uint64pow10.flatMap (cI .u64)))]) ([],(0:Int))) (by show _=_; kernel_rfl) ?_
                refine T_block ?_
                refine T_loopF (ι:=(List S_TicketFinding)×Int) (fun (p:(List S_TicketFinding)×Int)=>[(3,bx_TicketField a0),(5,.box [.d (.sl 1 (a2.map cS))]),(12,oW5 p.1),(87,.d (.sl 5 (a1.f4.map rS_Object))),(88,dI (a1.f4.length:Int)),(89,dI p.2),(1000000,.glo 0 (glob_internal_strconv_uint64pow10.flatMap (cI .u64)))]) (fun n p=>ticket_findings_L1 F a0 a1 a2 rec_ticket_findings n p.1 p.2=some s) (fun i hh=>by simp [ticket_findings_L1] at hh) (fun n p h=>?_) F ([],(0:Int)) h
                obtain ⟨v1,v2⟩:=p
                have h:ticket_findings_L1 F a0 a1 a2 rec_ticket_findings (n+1) v1 v2=some s:=h
                rw [ticket_findings_L1] at h
                refine T_reg [] [3,5,12,87,88,89,90,1000000] [(90,dB (decide (v2 < (a1.f4.length:Int))))] [] 1 (by kernel_rfl) (trivial) ?_
                refine T_seqk ?_
                refine T_cond (decide (v2 < (a1.f4.length:Int))) (by kernel_rfl) (fun hc=>?_) (fun hc=>?_)
                · have h:=cond_tt hc h
                  refine T_skip fun a w hm=>then_norm (((?_:T Tryd.prog e 110 _ _ _) a w hm))
                  refine T_seqk ?_
                  refine T_block ?_
                  obtain ⟨hp2,h⟩:=chk_ok h
                  refine T_reg [(1,{ cs:=cS_Object (a1.f4.getD v2.toNat z_Object) })] [3,5,12,13,14,87,88,89,1000000] [(13,dI v2),(14,.box [dI ((a1.f4.getD v2.toNat z_Object).f0),dI ((a1.f4.getD v2.toNat z_Object).f1),.d (.str ((a1.f4.getD v2.toNat z_Object).f2)),.d (.sl 1 (((a1.f4.getD v2.toNat z_Object).f3).map cS)),.d (.sl 5 (((a1.f4.getD v2.toNat z_Object).f4).map rS_Object))])] [(1,0≤v2∧(a1.f4.map rS_Object)[v2.toNat]? = some (cS_Object (a1.f4.getD v2.toNat z_Object)))] 4 (by kernel_rfl) (idx_okR (d:=z_Object) rS_Object_eq hp2) ?_
                  obtain ⟨hp3,h⟩:=chk_ok h
                  obtain ⟨y1,hy6,h⟩:=call_ok h
                  obtain ⟨hp4,h⟩:=chk_ok h
                  obtain ⟨hp5,h⟩:=chk_ok h
                  obtain ⟨y2,hy7,h⟩:=call_ok h
                  obtain ⟨hp6,h⟩:=chk_ok h
                  refine T_drawG_end mixed [(15,0,some 0),(14,1,some 1),(13,3,some 8),(12,259,none),(11,263,none),(11,291,none),(11,323,none),(10,271,none),(10,295,none),(10,327,none),(10,355,none),(10,451,none),(9,287,none),(9,303,none),(9,335,none),(9,359,none),(9,455,none),(9,483,none),(9,963,none),(8,319,none),(8,351,none),(8,367,none),(8,463,none),(8,487,none),(8,967,none),(8,995,none),(8,1987,none),(7,383,none),(7,479,none),(7,495,none),(7,975,none),(7,999,none),(7,1991,none),(7,2019,none),(7,4035,none),(6,511,none),(6,991,none),(6,1007,none),(6,1999,none),(6,2023,none),(6,4039,none),(6,4067,none),(5,1023,none),(5,2015,none),(5,2031,none),(5,4047,none),(5,4071,none),(4,2047,none),(4,4063,none),(4,4079,none),(3,4095,none),(2,8191,none),(1,16383,some 14),(0,32767,none)] [(15,12,.own 45 2 ((v1++y2).map cS_TicketFinding)),(15,94,.junk),(15,107,.junk),(14,12,.junk),(14,107,.own 45 2 ((v1++y2).map cS_TicketFinding)),(13,105,.fz 1 ((y1++([(Lib.itoa v2)])).map cS)),(13,106,oW5 y2),(12,101,.junk),(12,105,.own 9 1 ((y1++([(Lib.itoa v2)])).map cS)),(11,104,.own 9 1 (([(Lib.itoa v2)]).map cS)),(10,103,.d (.str (Lib.itoa v2))),(9,102,dI v2),(8,101,oW0 y1),(7,100,.d (.sl 1 (a2.map cS))),(6,99,.agg (cS_Object (a1.f4.getD v2.toNat z_Object))),(5,98,.agg (cS_TicketField (a0.f5.getD (0:Int).toNat z_TicketField))),(4,97,.d (.pt (cS_TicketField (a0.f5.getD (0:Int).toNat z_TicketField)))),(3,96,.d (.sl 12 (a0.f5.map rS_TicketField))),(2,95,.bp 3 5),(1,94,.vw (12,0)),(0,3,bx_TicketField a0),(0,5,.box [.d (.sl 1 (a2.map cS))]),(0,12,oW5 v1),(0,13,dI v2),(0,14,.box [dI ((a1.f4.getD v2.toNat z_Object).f0),dI ((a1.f4.getD v2.toNat z_Object).f1),.d (.str ((a1.f4.getD v2.toNat z_Object).f2)),.d (.sl 1 (((a1.f4.getD v2.toNat z_Object).f3).map cS)),.d (.sl 5 (((a1.f4.getD v2.toNat z_Object).f4).map rS_Object))]),(0,87,.d (.sl 5 (a1.f4.map rS_Object))),(0,88,dI (a1.f4.length:Int)),(0,89,dI v2),(0,1000000,.glo 0 (glob_internal_strconv_uint64pow10.flatMap (cI .u64)))] [3,5,12,13,14,87,88,89,94,95,96,97,98,99,100,101,102,103,104,105,106,107,1000000] ([0,0,2,4,8,0,0,64,0,384,512,1664,2096,4097,16383],[0,0,2,4,8,0,0,64,0,256,512,1152,2096,4097,8193]) 16643 [(3,{ cs:=cS_TicketField (a0.f5.getD (0:Int).toNat z_TicketField) }),(7,{ res:=oW0 y1 }),(9,{ res:=.d (.str (Lib.itoa v2)),xs:=[1000000],vout:=[.glo 0 (glob_internal_strconv_uint64pow10.flatMap (cI .u64))] }),(10,{ es:=some (([(Lib.itoa v2)]).map cS) }),(11,{ es:=some ((y1++([(Lib.itoa v2)])).map cS) }),(12,{ frz:=[(105,0)],res:=oW5 y2,vout:=[.glo 0 (glob_internal_strconv_uint64pow10.flatMap (cI .u64))],xs:=[1000000] }),(13,{ es:=some ((v1++y2).map cS_TicketFinding) })] [3,5,12,87,88,89,1000000] [] [(3,bx_TicketField a0),(5,.box [.d (.sl 1 (a2.map cS))]),(12,.own 45 2 ((v1++y2).map cS_TicketFinding)),(87,.d (.sl 5 (a1.f4.map rS_Object))),(88,dI (a1.f4.length:Int)),(89,dI v2),(1000000,.glo 0 (glob_internal_strconv_uint64pow10.flatMap (cI .u64)))] ((fun (o3:Prop)=>fun (o7:Prop)=>fun (o9:Prop)=>fun (o10:Prop)=>fun (o11:Prop)=>fun (o12:Prop)=>fun (o13:Prop)=>[(6,o3),(6,o7),(3,o3),(1,o3),(1,o7),(1,o7),(2,o9),(6,o7),(0,o3),(0,o7),(0,o3),(1,o9),(1,o9),(2,o10),(2,o7),(1,o7),(2,o9),(0,o3),(0,o9),(0,o3),(1,o10),(1,o10),(2,o11),(0,o7),(1,o9),(1,o9),(2,o10),(0,o3),(0,o10),(0,o3),(1,o11),(1,o11),(2,o9),(1,o10),(1,o10),(2,o11),(0,o3),(0,o11),(0,o3),(2,o10),(1,o11),(1,o11),(2,o3),(0,o11),(2,o12),(0,o13)]) (0≤(0:Int)∧(a0.f5.map rS_TicketField)[(0:Int).toNat]? = some (cS_TicketField (a0.f5.getD (0:Int).toNat z_TicketField))) (ACall Tryd.prog 37 [.d (.sl 1 (a2.map cS))] [] (oW0 y1) []) (ACall Tryd.prog 40 [dI v2] [.glo 0 (glob_internal_strconv_uint64pow10.flatMap (cI .u64))] (.d (.str (Lib.itoa v2))) [.glo 0 (glob_internal_strconv_uint64pow10.flatMap (cI .u64))]) ((([(Lib.itoa v2)]).map cS)=(([(Lib.itoa v2)]).map cS)) ((y1.map cS).length+(([(Lib.itoa v2)]).map cS).length≤4294967296∧(y1.map cS)++(([(Lib.itoa v2)]).map cS)=((y1++([(Lib.itoa v2)])).map cS)) (ACall Tryd.prog 21 [.agg (cS_TicketField (a0.f5.getD (0:Int).toNat z_TicketField)),.agg (cS_Object (a1.f4.getD v2.toNat z_Object)),.d (.sl 1 ((y1++([(Lib.itoa v2)])).map cS))] [.glo 0 (glob_internal_strconv_uint64pow10.flatMap (cI .u64))] (oW5 y2) [.glo 0 (glob_internal_strconv_uint64pow10.flatMap (cI .u64))]) ((v1.map cS_TicketFinding).length+(y2.map cS_TicketFinding).length≤4294967296∧(v1.map cS_TicketFinding)++(y2.map cS_TicketFinding)=((v1++y2).map cS_TicketFinding))) 1 (by kernel_rfl) (by kernel_rfl) (by kernel_rfl) (by kernel_rfl) (by kernel_rfl) (by kernel_rfl) (have p3:=idx_okR (d:=z_TicketField) rS_TicketField_eq hp3; have p7:=slices_Clone_string_ok hy6; have p9:=b_Itoa hp4; have p10:=rfl; have p11:=app_ok cS hp5; have p12:=hrec_ticket_findings hy7; have p13:=app_ok cS_TicketFinding hp6; ⟨p3,p7,p3,p3,p7,p7,p9,p7,p3,p7,p3,p9,p9,p10,p7,p7,p9,p3,p9,p3,p10,p10,p11,p7,p9,p9,p10,p3,p10,p3,p11,p11,p9,p10,p10,p11,p3,p11,p3,p10,p11,p11,p3,p11,p12,p13⟩) fun a w hm=>inBlock_norm (then_norm (((?_:T Tryd.prog e 110 _ _ _) a w hm)))
                  refine T_reg_end [] [3,5,12,87,88,89,1000000] [(89,dI (IntKind.i64.wrap (v2+(1:Int))))] [] 2 (by kernel_rfl) (trivial) fun a w hm=>then_norm (⟨((v1++y2),IntKind.i64.wrap (v2+(1:Int))),h,hm.co (cs:=[.keep [3,5,12,87,88,89,1000000]]) (by show _=_; kernel_rfl)⟩)
                · have h:=cond_ff hc h
                  obtain hs:=Option.some.inj h; subst hs
                  refine T_exit fun a w hm=>then_exit (then_exit (inBlock_exit (then_norm (hm.co (cs:=[.keep [12,1000000]]) (by show _=_; kernel_rfl)))))
              · skip
                obtain hs:=Option.some.inj h; subst hs
                refine fun a w hm=>then_norm (hm.co (cs:=[.keep [12,1000000]]) (by show _=_; kernel_rfl))
            · have h:=cond_ff hc h
              obtain hs:=Option.some.inj h; subst hs
              refine T_skip fun a w hm=>then_norm (hm.co (cs:=[.keep [12,1000000]]) (by show _=_; kernel_rfl))
          · skip
            refine T_reg [] [6,12,1000000] [(6,.vw (12,0))] [] 2 (by kernel_rfl) (trivial) ?_
            obtain hs:=Option.some.inj h; subst hs
            refine T_ret fun a w hm=>T_return (fr':=[(6,oW5 v4),(1000000,.glo 0 (glob_internal_strconv_uint64pow10.flatMap (cI .u64)))]) [6] (by kernel_rfl) [.claim 6,.keep [6,1000000]] (by kernel_rfl) (by kernel_rfl) (by kernel_rfl) (by show _=_; kernel_rfl) (by exact ⟨⟨by kernel_rfl,by kernel_rfl⟩,trivial⟩) a w hm
theorem ticket_findings_fuel_ok {F:Nat} (n:Nat):∀ {a0:S_TicketField} {a1:S_Object} {a2:List (List UInt8)} {r:(List S_TicketFinding)},ticket_findings_fuel F n a0 a1 a2=some r→ACall Tryd.prog 21 [.agg (cS_TicketField a0),.agg (cS_Object a1),.d (.sl 1 (a2.map cS))] [.glo 0 (glob_internal_strconv_uint64pow10.flatMap (cI .u64))] (.own 45 2 (r.map cS_TicketFinding)) [.glo 0 (glob_internal_strconv_uint64pow10.flatMap (cI .u64))]:=by
  induction n with
  | zero=>intro a0 a1 a2 r h; exact absurd (show (none:Option ((List S_TicketFinding)))=some r from h) (by simp)
  | succ n ih=>intro a0 a1 a2 r h; exact ticket_findings_body_ok ih h
theorem ticket_findings_ok {F:Nat} {a0:S_TicketField} {a1:S_Object} {a2:List (List UInt8)} {r:(List S_TicketFinding)} (h:ticket_findings F a0 a1 a2=some r):ACall Tryd.prog 21 [.agg (cS_TicketField a0),.agg (cS_Object a1),.d (.sl 1 (a2.map cS))] [.glo 0 (glob_internal_strconv_uint64pow10.flatMap (cI .u64))] (.own 45 2 (r.map cS_TicketFinding)) [.glo 0 (glob_internal_strconv_uint64pow10.flatMap (cI .u64))]:=ticket_findings_fuel_ok F h
theorem ticket_checker_field_body_ok {F:Nat} {rec_ticket_checker_field:S_TicketField→Int→Bool→Int→Option (Int×Int)} (hrec_ticket_checker_field:∀ {a0:S_TicketField},∀ {a1:Int},∀ {a2:Bool},∀ {c3:Int},∀ {r:Int×Int},rec_ticket_checker_field a0 a1 a2 c3=some r→ACall Tryd.prog 16 [.bp 1000000 0,.agg (cS_TicketField a0),.d (.v (.int .i64 a1)),.d (.v (.bool a2))] [.box [.d (.v (.int .i64 c3))],.glo 0 (glob_internal_strconv_uint64pow10.flatMap (cI .u64))] (.d (.v (.int .i64 r.1))) [.box [.d (.v (.int .i64 r.2))],.glo 0 (glob_internal_strconv_uint64pow10.flatMap (cI .u64))]) {a0:S_TicketField} {a1:Int} {a2:Bool} {c3:Int} {r:Int×Int} (h:ticket_checker_field_body F rec_ticket_checker_field a0 a1 a2 c3=some r):ACall Tryd.prog 16 [.bp 1000000 0,.agg (cS_TicketField a0),.d (.v (.int .i64 a1)),.d (.v (.bool a2))] [.box [.d (.v (.int .i64 c3))],.glo 0 (glob_internal_strconv_uint64pow10.flatMap (cI .u64))] (.d (.v (.int .i64 r.1))) [.box [.d (.v (.int .i64 r.2))],.glo 0 (glob_internal_strconv_uint64pow10.flatMap (cI .u64))]:=by
  rw [ticket_checker_field_body] at h
  refine ACall.intro (N:=124) Tryd.func16 rfl rfl rfl rfl rfl fun e=>?_
  refine T_reg [] [0,2,3,5,1000000,1000001] [(5,bx_TicketField a0)] [] 2 (by kernel_rfl) (trivial) ?_
  refine T_seqk ?_
  refine T_reg [] [0,2,3,5,1000000,1000001] [(1000000,.box [dI (IntKind.i64.wrap (c3+(1:Int)))])] [] 8 (by kernel_rfl) (trivial) ?_
  refine T_reg [] [0,2,3,5,25,1000000,1000001] [(25,dB (decide ((IntKind.i64.wrap (c3+(1:Int))) > (64:Int))))] [] 5 (by kernel_rfl) (trivial) ?_
  refine T_cond (decide ((IntKind.i64.wrap (c3+(1:Int))) > (64:Int))) (by kernel_rfl) (fun hc=>?_) (fun hc=>?_)
  · have h:=cond_tt hc h
    refine T_reg [] [8,1000000,1000001] [(8,dI (2:Int))] [] 1 (by kernel_rfl) (trivial) ?_
    obtain hs:=Option.some.inj h; subst hs
    refine T_ret fun a w hm=>then_ret (T_return (fr':=[(8,dI (2:Int)),(1000000,.box [dI (IntKind.i64.wrap (c3+(1:Int)))]),(1000001,.glo 0 (glob_internal_strconv_uint64pow10.flatMap (cI .u64)))]) [8] (by kernel_rfl) [.keep [8,1000000,1000001]] (by kernel_rfl) (by kernel_rfl) (by kernel_rfl) (by show _=_; kernel_rfl) (by exact ⟨⟨by kernel_rfl,by kernel_rfl⟩,⟨⟨by kernel_rfl,by kernel_rfl⟩,trivial⟩⟩) a w hm)
  · have h:=cond_ff hc h
    refine T_skip fun a w hm=>then_norm (((?_:T Tryd.prog e 124 _ _ _) a w hm))
    refine T_seqk ?_
    refine T_reg [] [0,2,3,5,27,1000000,1000001] [(27,dB (decide (a1 > (5:Int))))] [] 2 (by kernel_rfl) (trivial) ?_
    refine T_cond (decide (a1 > (5:Int))) (by kernel_rfl) (fun hc=>?_) (fun hc=>?_)
    · have h:=cond_tt hc h
      refine T_reg [] [8,1000000,1000001] [(8,dI (15:Int))] [] 1 (by kernel_rfl) (trivial) ?_
      obtain hs:=Option.some.inj h; subst hs
      refine T_ret fun a w hm=>then_ret (T_return (fr':=[(8,dI (15:Int)),(1000000,.box [dI (IntKind.i64.wrap (c3+(1:Int)))]),(1000001,.glo 0 (glob_internal_strconv_uint64pow10.flatMap (cI .u64)))]) [8] (by kernel_rfl) [.keep [8,1000000,1000001]] (by kernel_rfl) (by kernel_rfl) (by kernel_rfl) (by show _=_; kernel_rfl) (by exact ⟨⟨by kernel_rfl,by kernel_rfl⟩,⟨⟨by kernel_rfl,by kernel_rfl⟩,trivial⟩⟩) a w hm)
    · have h:=cond_ff hc h
      refine T_skip fun a w hm=>then_norm (((?_:T Tryd.prog e 124 _ _ _) a w hm))
      refine T_seqk ?_
      obtain ⟨y2,hy1,h⟩:=call_ok h
      refine T_reg [(2,{ res:=dI y2,vout:=[.glo 0 (glob_internal_strconv_uint64pow10.flatMap (cI .u64))],xs:=[1000001] })] [0,2,3,5,9,1000000,1000001] [(9,dI y2)] [(2,ACall Tryd.prog 20 [.agg (cS_Object a0.f7)] [.glo 0 (glob_internal_strconv_uint64pow10.flatMap (cI .u64))] (dI y2) [.glo 0 (glob_internal_strconv_uint64pow10.flatMap (cI .u64))])] 1 (by kernel_rfl) (object_Check_ok hy1) ?_
      refine T_reg [] [0,2,3,5,9,32,1000000,1000001] [(32,dB (y2 != (0:Int)))] [] 2 (by kernel_rfl) (trivial) ?_
      refine T_cond (y2 != (0:Int)) (by kernel_rfl) (fun hc=>?_) (fun hc=>?_)
      · have h:=cond_tt hc h
        refine T_reg [] [8,1000000,1000001] [(8,dI y2)] [] 2 (by kernel_rfl) (trivial) ?_
        obtain hs:=Option.some.inj h; subst hs
        refine T_ret fun a w hm=>then_ret (T_return (fr':=[(8,dI y2),(1000000,.box [dI (IntKind.i64.wrap (c3+(1:Int)))]),(1000001,.glo 0 (glob_internal_strconv_uint64pow10.flatMap (cI .u64)))]) [8] (by kernel_rfl) [.keep [8,1000000,1000001]] (by kernel_rfl) (by kernel_rfl) (by kernel_rfl) (by show _=_; kernel_rfl) (by exact ⟨⟨by kernel_rfl,by kernel_rfl⟩,⟨⟨by kernel_rfl,by kernel_rfl⟩,trivial⟩⟩) a w hm)
      · have h:=cond_ff hc h
        refine T_skip fun a w hm=>then_norm (((?_:T Tryd.prog e 124 _ _ _) a w hm))
        refine T_seqk ?_
        refine T_block ?_
        refine T_reg [] [0,2,3,5,34,1000000,1000001] [(34,dB (bif (decide (a0.f1 < (0:Int))) then true else (decide (a0.f1 > (4:Int)))))] [(4,((((decide (a0.f1 < (0:Int))) == false) && true)=true→True)),(0,((((decide (a0.f1 < (0:Int))) == false) && true)=true→True)),(0,((((decide (a0.f1 < (0:Int))) == false) && true)=true→True))] 2 (by kernel_rfl) (⟨(fun hg=>trivial),(fun hg=>trivial),(fun hg=>trivial)⟩) ?_
        refine T_cond (bif (decide (a0.f1 < (0:Int))) then true else (decide (a0.f1 > (4:Int)))) (by kernel_rfl) (fun hc=>?_) (fun hc=>?_)
        · have h:=cond_tt hc h
          refine T_reg [] [8,1000000,1000001] [(8,dI (14:Int))] [] 1 (by kernel_rfl) (trivial) ?_
          obtain hs:=Option.some.inj h; subst hs
          refine T_ret fun a w hm=>inBlock_ret (then_ret (T_return (fr':=[(8,dI (14:Int)),(1000000,.box [dI (IntKind.i64.wrap (c3+(1:Int)))]),(1000001,.glo 0 (glob_internal_strconv_uint64pow10.flatMap (cI .u64)))]) [8] (by kernel_rfl) [.keep [8,1000000,1000001]] (by kernel_rfl) (by kernel_rfl) (by kernel_rfl) (by show _=_; kernel_rfl) (by exact ⟨⟨by kernel_rfl,by kernel_rfl⟩,⟨⟨by kernel_rfl,by kernel_rfl⟩,trivial⟩⟩) a w hm))
        · have h:=cond_ff hc h
          obtain ⟨y3,hy2,h⟩:=call_ok h
          refine T_reg [(4,{ res:=dB y3,vout:=[.glo 0 (glob_internal_strconv_uint64pow10.flatMap (cI .u64))],xs:=[1000001] })] [0,2,3,5,43,1000000,1000001] [(43,dB (bif a2 then (!y3) else false))] [(2,(((a2 == true) && true)=true→True)),(0,(((a2 == true) && true)=true→True)),(0,(((a2 == true) && true)=true→ACall Tryd.prog 29 [.d (.str a0.f0)] [.glo 0 (glob_internal_strconv_uint64pow10.flatMap (cI .u64))] (dB y3) [.glo 0 (glob_internal_strconv_uint64pow10.flatMap (cI .u64))])),(0,(((a2 == true) && true)=true→True))] 2 (by kernel_rfl) (⟨(fun hg=>trivial),(fun hg=>trivial),(fun hg=>ticket_name_ok (gcall_ok hg hy2)),(fun hg=>trivial)⟩) ?_
          refine T_cond (bif a2 then (!y3) else false) (by kernel_rfl) (fun hc=>?_) (fun hc=>?_)
          · have h:=cond_tt hc h
            refine T_reg [] [8,1000000,1000001] [(8,dI (6:Int))] [] 1 (by kernel_rfl) (trivial) ?_
            obtain hs:=Option.some.inj h; subst hs
            refine T_ret fun a w hm=>inBlock_ret (then_ret (T_return (fr':=[(8,dI (6:Int)),(1000000,.box [dI (IntKind.i64.wrap (c3+(1:Int)))]),(1000001,.glo 0 (glob_internal_strconv_uint64pow10.flatMap (cI .u64)))]) [8] (by kernel_rfl) [.keep [8,1000000,1000001]] (by kernel_rfl) (by kernel_rfl) (by kernel_rfl) (by show _=_; kernel_rfl) (by exact ⟨⟨by kernel_rfl,by kernel_rfl⟩,⟨⟨by kernel_rfl,by kernel_rfl⟩,trivial⟩⟩) a w hm))
          · have h:=cond_ff hc h
            refine T_joinc h (fun (p:Bool)=>[(0,.bp 1000000 0),(2,dI a1),(5,bx_TicketField a0),(51,dB p),(1000000,.box [dI (IntKind.i64.wrap (c3+(1:Int)))]),(1000001,.glo 0 (glob_internal_strconv_uint64pow10.flatMap (cI .u64)))]) (fun s h=>?_) (fun v3 h=>?_)
            · refine T_reg [] [0,2,5,51,1000000,1000001] [(51,dB (bif (!a2) then (bif (!(a0.f0 == [])) then true else a0.f6) else false))] [(3,((((!a2) == true) && true)=true→True)),(0,((((!a2) == true) && true)=true→True)),(0,((((!a2) == true) && true)=true→True)),(0,((((!a2) == true) && true)=true→True)),(0,((((!(a0.f0 == [])) == false) && (((!a2) == true) && true))=true→True)),(0,((((!(a0.f0 == [])) == false) && (((!a2) == true) && true))=true→True)),(0,((((!a2) == true) && true)=true→True))] 2 (by kernel_rfl) (⟨(fun hg=>trivial),(fun hg=>trivial),(fun hg=>trivial),(fun hg=>trivial),(fun hg=>trivial),(fun hg=>trivial),(fun hg=>trivial)⟩) ?_
              refine T_cond (bif (!a2) then (bif (!(a0.f0 == [])) then true else a0.f6) else false) (by kernel_rfl) (fun hc=>?_) (fun hc=>?_)
              · have h:=cond_tt hc h
                obtain hs:=Option.some.inj h; subst hs
                refine T_skip fun a w hm=>then_norm (hm.co (cs:=[.keep [0,2,5,51,1000000,1000001]]) (by show _=_; kernel_rfl))
              · have h:=cond_ff hc h
                obtain ⟨y4,hy3,h⟩:=call_ok h
                obtain hs:=Option.some.inj h; subst hs
                refine T_reg_end [(7,{ res:=dB y4 })] [0,2,5,51,1000000,1000001] [(51,dB (bif (!a0.f6) then (!y4) else false))] [(4,((((!a0.f6) == true) && true)=true→True)),(0,((((!a0.f6) == true) && true)=true→True)),(0,((((!a0.f6) == true) && true)=true→True)),(0,((((!a0.f6) == true) && true)=true→ACall Tryd.prog 30 [.agg (cS_Object a0.f7),.agg (cS_Object z_Object)] [] (dB y4) [])),(0,((((!a0.f6) == true) && true)=true→True))] 2 (by kernel_rfl) (⟨(fun hg=>trivial),(fun hg=>trivial),(fun hg=>trivial),(fun hg=>object_Same_ok (gcall_ok hg hy3)),(fun hg=>trivial)⟩) fun a w hm=>then_norm (hm.co (cs:=[.keep [0,2,5,51,1000000,1000001]]) (by show _=_; kernel_rfl))
            · skip
              refine T_cond v3 (by kernel_rfl) (fun hc=>?_) (fun hc=>?_)
              · have h:=cond_tt hc h
                refine T_reg [] [8,1000000,1000001] [(8,dI (4:Int))] [] 1 (by kernel_rfl) (trivial) ?_
                obtain hs:=Option.some.inj h; subst hs
                refine T_ret fun a w hm=>inBlock_ret (then_ret (T_return (fr':=[(8,dI (4:Int)),(1000000,.box [dI (IntKind.i64.wrap (c3+(1:Int)))]),(1000001,.glo 0 (glob_internal_strconv_uint64pow10.flatMap (cI .u64)))]) [8] (by kernel_rfl) [.keep [8,1000000,1000001]] (by kernel_rfl) (by kernel_rfl) (by kernel_rfl) (by show _=_; kernel_rfl) (by exact ⟨⟨by kernel_rfl,by kernel_rfl⟩,⟨⟨by kernel_rfl,by kernel_rfl⟩,trivial⟩⟩) a w hm))
              · have h:=cond_ff hc h
                refine T_skip fun a w hm=>inBlock_norm (then_norm (((?_:T Tryd.prog e 124 _ _ _) a w hm)))
                refine T_seqk ?_
                obtain ⟨y5,hy4,h⟩:=call_ok h
                refine T_reg [(1,{ res:=dI y5,vout:=[.glo 0 (glob_internal_strconv_uint64pow10.flatMap (cI .u64))],xs:=[1000001] })] [0,2,5,10,1000000,1000001] [(10,dI y5)] [(1,ACall Tryd.prog 31 [.agg (cS_TicketField a0)] [.glo 0 (glob_internal_strconv_uint64pow10.flatMap (cI .u64))] (dI y5) [.glo 0 (glob_internal_strconv_uint64pow10.flatMap (cI .u64))])] 1 (by kernel_rfl) (ticket_limits_ok hy4) ?_
                refine T_reg [] [0,2,5,10,76,1000000,1000001] [(76,dB (y5 != (0:Int)))] [] 2 (by kernel_rfl) (trivial) ?_
                refine T_cond (y5 != (0:Int)) (by kernel_rfl) (fun hc=>?_) (fun hc=>?_)
                · have h:=cond_tt hc h
                  refine T_reg [] [8,1000000,1000001] [(8,dI y5)] [] 2 (by kernel_rfl) (trivial) ?_
                  obtain hs:=Option.some.inj h; subst hs
                  refine T_ret fun a w hm=>then_ret (T_return (fr':=[(8,dI y5),(1000000,.box [dI (IntKind.i64.wrap (c3+(1:Int)))]),(1000001,.glo 0 (glob_internal_strconv_uint64pow10.flatMap (cI .u64)))]) [8] (by kernel_rfl) [.keep [8,1000000,1000001]] (by kernel_rfl) (by kernel_rfl) (by kernel_rfl) (by show _=_; kernel_rfl) (by exact ⟨⟨by kernel_rfl,by kernel_rfl⟩,⟨⟨by kernel_rfl,by kernel_rfl⟩,trivial⟩⟩) a w hm)
                · have h:=cond_ff hc h
                  refine T_skip fun a w hm=>then_norm (((?_:T Tryd.prog e 124 _ _ _) a w hm))
                  refine T_seqk ?_
                  refine T_reg [(2,{ rw:=some (dI (a0.f5.length:Int)) })] [0,2,5,79,80,81,1000000,1000001] [(79,.d (.sl 12 (a0.f5.map rS_TicketField))),(80,dI (a0.f5.length:Int)),(81,dI (0:Int))] [(2,True∧dI ((a0.f5.map rS_TicketField).length:Int)=dI (a0.f5.length:Int))] 1 (by kernel_rfl) (len_ok rS_TicketField) ?_
                  refine T_joinEt h (fun (p:Int)=>[(5,bx_TicketField a0),(1000000,.box [dI p]),(1000001,.glo 0 (glob_internal_strconv_uint64pow10.flatMap (cI .u64)))]) (fun s h hk1=>?_) (fun v4 h=>?_)
                  · refine T_co [.keep [0,2,5,79,80,81,1000000,1000001]] ((fun (p:Int×Int)=>[(0,.bp 1000000 0),(2,dI a1),(5,bx_TicketField a0),(79,.d (.sl 12 (a0.f5.map rS_TicketField))),(80,dI (a0.f5.length:Int)),(81,dI p.1),(1000000,.box [dI p.2]),(1000001,.glo 0 (glob_internal_strconv_uint64pow10.flatMap (cI .u64)))]) ((0:Int),IntKind.i64.wrap (c3+(1:Int)))) (by show _=_; kernel_rfl) ?_
                    refine T_block ?_
                    refine T_loopF (ι:=Int×Int) (fun (p:Int×Int)=>[(0,.bp 1000000 0),(2,dI a1),(5,bx_TicketField a0),(79,.d (.sl 12 (a0.f5.map rS_TicketField))),(80,dI (a0.f5.length:Int)),(81,dI p.1),(1000000,.box [dI p.2]),(1000001,.glo 0 (glob_internal_strconv_uint64pow10.flatMap (cI .u64)))]) (fun n p=>ticket_checker_field_L1 F a0 a1 rec_ticket_checker_field n p.1 p.2=some s) (fun i hh=>by simp [ticket_checker_field_L1] at hh) (fun n p h=>?_) F ((0:Int),IntKind.i64.wrap (c3+(1:Int))) h
                    obtain ⟨v1,v2⟩:=p
                    have h:ticket_checker_field_L1 F a0 a1 rec_ticket_checker_field (n+1) v1 v2=some s:=h
                    rw [ticket_checker_field_L1] at h
                    refine T_reg [] [0,2,5,79,80,81,82,1000000,1000001] [(82,dB (decide (v1 < (a0.f5.length:Int))))] [] 1 (by kernel_rfl) (trivial) ?_
                    refine T_seqk ?_
                    refine T_cond (decide (v1 < (a0.f5.length:Int))) (by kernel_rfl) (fun hc=>?_) (fun hc=>?_)
                    · have h:=cond_tt hc h
                      refine T_skip fun a w hm=>then_norm (((?_:T Tryd.prog e 124 _ _ _) a w hm))
                      refine T_seqk ?_
                      refine T_block ?_
                      obtain ⟨hp1,h⟩:=chk_ok h
                      refine T_reg [(1,{ cs:=cS_TicketField (a0.f5.getD v1.toNat z_TicketField) })] [0,2,5,11,12,79,80,81,1000000,1000001] [(11,dI v1),(12,.box [.d (.str ((a0.f5.getD v1.toNat z_TicketField).f0)),dI ((a0.f5.getD v1.toNat z_TicketField).f1),dI ((a0.f5.getD v1.toNat z_TicketField).f2),dI ((a0.f5.getD v1.toNat z_TicketField).f3),.d (.sl 1 (((a0.f5.getD v1.toNat z_TicketField).f4).map cS)),.d (.sl 12 (((a0.f5.getD v1.toNat z_TicketField).f5).map rS_TicketField)),dB ((a0.f5.getD v1.toNat z_TicketField).f6),dI (((a0.f5.getD v1.toNat z_TicketField).f7).f0),dI (((a0.f5.getD v1.toNat z_TicketField).f7).f1),.d (.str (((a0.f5.getD v1.toNat z_TicketField).f7).f2)),.d (.sl 1 ((((a0.f5.getD v1.toNat z_TicketField).f7).f3).map cS)),.d (.sl 5 ((((a0.f5.getD v1.toNat z_TicketField).f7).f4).map rS_Object))])] [(1,0≤v1∧(a0.f5.map rS_TicketField)[v1.toNat]? = some (cS_TicketField (a0.f5.getD v1.toNat z_TicketField)))] 4 (by kernel_rfl) (idx_okR (d:=z_TicketField) rS_TicketField_eq hp1) ?_
                      refine T_seqk ?_
                      obtain ⟨y1,hy5,h⟩:=call_ok h
                      refine T_reg [(7,{ res:=dI y1.1,vout:=[.box [dI y1.2],.glo 0 (glob_internal_strconv_uint64pow10.flatMap (cI .u64))],xs:=[1000000,1000001] })] [0,2,5,11,12,13,79,80,81,1000000,1000001] [(13,dI y1.1),(1000000,.box [dI y1.2])] [(7,ACall Tryd.prog 16 [.bp 1000000 0,.agg (cS_TicketField (a0.f5.getD v1.toNat z_TicketField)),dI (IntKind.i64.wrap (a1+(1:Int))),dB (a0.f1 == (4:Int))] [.box [dI v2],.glo 0 (glob_internal_strconv_uint64pow10.flatMap (cI .u64))] (dI y1.1) [.box [dI y1.2],.glo 0 (glob_internal_strconv_uint64pow10.flatMap (cI .u64))])] 1 (by kernel_rfl) (hrec_ticket_checker_field hy5) ?_
                      refine T_reg [] [0,2,5,11,12,13,79,80,81,95,1000000,1000001] [(95,dB (y1.1 != (0:Int)))] [] 2 (by kernel_rfl) (trivial) ?_
                      refine T_cond (y1.1 != (0:Int)) (by kernel_rfl) (fun hc=>?_) (fun hc=>?_)
                      · have h:=cond_tt hc h
                        refine T_reg [] [8,1000000,1000001] [(8,dI y1.1)] [] 2 (by kernel_rfl) (trivial) ?_
                        obtain hs:=Option.some.inj h; subst hs
                        have h:=callE_esc hk1
                        obtain hs:=Option.some.inj h; subst hs
                        refine T_ret fun a w hm=>then_ret (inBlock_ret (then_ret (then_ret (inBlock_ret (then_ret (then_ret (T_return (fr':=[(8,dI y1.1),(1000000,.box [dI y1.2]),(1000001,.glo 0 (glob_internal_strconv_uint64pow10.flatMap (cI .u64)))]) [8] (by kernel_rfl) [.keep [8,1000000,1000001]] (by kernel_rfl) (by kernel_rfl) (by kernel_rfl) (by show _=_; kernel_rfl) (by exact ⟨⟨by kernel_rfl,by kernel_rfl⟩,⟨⟨by kernel_rfl,by kernel_rfl⟩,trivial⟩⟩) a w hm)))))))
                      · have h:=cond_ff hc h
                        refine T_skip fun a w hm=>then_norm (((?_:T Tryd.prog e 124 _ _ _) a w hm))
                        obtain ⟨hp2,h⟩:=chk_ok h
                        obtain ⟨z1,hz1,h⟩:=lett_ok h
                        obtain ⟨z2,hz2,h⟩:=lett_ok h
                        refine T_draw mixed [(7,{ cs:=cS_TicketField (a0.f5.getD (IntKind.i64.wrap (v1 - (1:Int))).toNat z_TicketField) }),(9,{ rw:=some (.d (.str z1)) }),(12,{ rw:=some (dB z2) })] [0,2,5,79,80,81,110,1000000,1000001] [] [(0,.bp 1000000 0),(2,dI a1),(5,bx_TicketField a0),(79,.d (.sl 12 (a0.f5.map rS_TicketField))),(80,dI (a0.f5.length:Int)),(81,dI v1),(110,dB (bif (decide (v1 > (0:Int))) then z2 else false)),(1000000,.box [dI y1.2]),(1000001,.glo 0 (glob_internal_strconv_uint64pow10.flatMap (cI .u64)))] [(3,((((decide (v1 > (0:Int))) == true) && true)=true→True)),(0,((((decide (v1 > (0:Int))) == true) && true)=true→True)),(0,((((decide (v1 > (0:Int))) == true) && true)=true→True)),(0,((((decide (v1 > (0:Int))) == true) && true)=true→True)),(0,((((decide (v1 > (0:Int))) == true) && true)=true→0≤(IntKind.i64.wrap (v1 - (1:Int)))∧(a0.f5.map rS_TicketField)[(IntKind.i64.wrap (v1 - (1:Int))).toNat]? = some (cS_TicketField (a0.f5.getD (IntKind.i64.wrap (v1 - (1:Int))).toNat z_TicketField)))),(0,((((decide (v1 > (0:Int))) == true) && true)=true→True)),(0,((((decide (v1 > (0:Int))) == true) && true)=true→(True)∧AV.d (.str ((a0.f5.getD (IntKind.i64.wrap (v1 - (1:Int))).toNat z_TicketField).f0))=.d (.str z1))),(0,((((decide (v1 > (0:Int))) == true) && true)=true→True)),(0,((((decide (v1 > (0:Int))) == true) && true)=true→True)),(0,((((decide (v1 > (0:Int))) == true) && true)=true→(True)∧dB (!(Op.bytesLess z1 ((a0.f5.getD v1.toNat z_TicketField).f0)))=dB z2))] 1 (by kernel_rfl) (⟨(fun hg=>trivial),(fun hg=>trivial),(fun hg=>trivial),(fun hg=>trivial),(fun hg=>idx_okR (d:=z_TicketField) rS_TicketField_eq (hp2 hg)),(fun hg=>trivial),(fun hg=>⟨trivial,(by subst hz1; rfl)⟩),(fun hg=>trivial),(fun hg=>trivial),(fun hg=>⟨trivial,(by subst hz2; rfl)⟩)⟩) ?_
                        refine T_cond (bif (decide (v1 > (0:Int))) then z2 else false) (by kernel_rfl) (fun hc=>?_) (fun hc=>?_)
                        · have h:=cond_tt hc h
                          refine T_reg [] [8,1000000,1000001] [(8,dI (18:Int))] [] 1 (by kernel_rfl) (trivial) ?_
                          obtain hs:=Option.some.inj h; subst hs
                          have h:=callE_esc hk1
                          obtain hs:=Option.some.inj h; subst hs
                          refine T_ret fun a w hm=>inBlock_ret (then_ret (then_ret (inBlock_ret (then_ret (then_ret (T_return (fr':=[(8,dI (18:Int)),(1000000,.box [dI y1.2]),(1000001,.glo 0 (glob_internal_strconv_uint64pow10.flatMap (cI .u64)))]) [8] (by kernel_rfl) [.keep [8,1000000,1000001]] (by kernel_rfl) (by kernel_rfl) (by kernel_rfl) (by show _=_; kernel_rfl) (by exact ⟨⟨by kernel_rfl,by kernel_rfl⟩,⟨⟨by kernel_rfl,by kernel_rfl⟩,trivial⟩⟩) a w hm))))))
                        · have h:=cond_ff hc h
                          refine T_skip fun a w hm=>inBlock_norm (then_norm (((?_:T Tryd.prog e 124 _ _ _) a w hm)))
                          refine T_reg_end [] [0,2,5,79,80,81,1000000,1000001] [(81,dI (IntKind.i64.wrap (v1+(1:Int))))] [] 2 (by kernel_rfl) (trivial) fun a w hm=>then_norm (⟨(IntKind.i64.wrap (v1+(1:Int)),y1.2),h,hm.co (cs:=[.keep [0,2,5,79,80,81,1000000,1000001]]) (by show _=_; kernel_rfl)⟩)
                    · have h:=cond_ff hc h
                      obtain hs:=Option.some.inj h; subst hs
                      refine T_exit fun a w hm=>then_exit (then_exit (inBlock_exit (then_norm (⟨_,rfl,hm.co (cs:=[.keep [5,1000000,1000001]]) (by show _=_; kernel_rfl)⟩))))
                  · skip
                    refine fun a w hm=>then_norm (((?_:T Tryd.prog e 124 _ _ _) a w hm))
                    refine T_seqk ?_
                    obtain ⟨y6,hy6,h⟩:=call_ok h
                    refine T_reg [(8,{ res:=.d (.sl 2 (y6.map cS_TicketFinding)),vout:=[.glo 0 (glob_internal_strconv_uint64pow10.flatMap (cI .u64))],xs:=[1000001] }),(9,{ rw:=some (dI (y6.length:Int)) })] [123,1000000,1000001] [(123,dB (bif (a0.f7.f0 != (0:Int)) then (decide ((y6.length:Int) > (0:Int))) else false))] [(5,((((a0.f7.f0 != (0:Int)) == true) && true)=true→True)),(0,((((a0.f7.f0 != (0:Int)) == true) && true)=true→True)),(0,((((a0.f7.f0 != (0:Int)) == true) && true)=true→True)),(0,((((a0.f7.f0 != (0:Int)) == true) && true)=true→ACall Tryd.prog 21 [.agg (cS_TicketField a0),.agg (cS_Object a0.f7),.d (.v (.slice none 0 0))] [.glo 0 (glob_internal_strconv_uint64pow10.flatMap (cI .u64))] (.d (.sl 2 (y6.map cS_TicketFinding))) [.glo 0 (glob_internal_strconv_uint64pow10.flatMap (cI .u64))])),(0,((((a0.f7.f0 != (0:Int)) == true) && true)=true→True∧dI ((y6.map cS_TicketFinding).length:Int)=dI (y6.length:Int))),(0,((((a0.f7.f0 != (0:Int)) == true) && true)=true→True))] 1 (by kernel_rfl) (⟨(fun hg=>trivial),(fun hg=>trivial),(fun hg=>trivial),(fun hg=>(ACall.nilArg 2 (ACall.thawRes (ticket_findings_ok (gcall_ok hg hy6))) rfl rfl)),(fun hg=>len_ok cS_TicketFinding),(fun hg=>trivial)⟩) ?_
                    refine T_cond (bif (a0.f7.f0 != (0:Int)) then (decide ((y6.length:Int) > (0:Int))) else false) (by kernel_rfl) (fun hc=>?_) (fun hc=>?_)
                    · have h:=cond_tt hc h
                      refine T_reg [] [8,1000000,1000001] [(8,dI (20:Int))] [] 1 (by kernel_rfl) (trivial) ?_
                      obtain hs:=Option.some.inj h; subst hs
                      refine T_ret fun a w hm=>then_ret (T_return (fr':=[(8,dI (20:Int)),(1000000,.box [dI v4]),(1000001,.glo 0 (glob_internal_strconv_uint64pow10.flatMap (cI .u64)))]) [8] (by kernel_rfl) [.keep [8,1000000,1000001]] (by kernel_rfl) (by kernel_rfl) (by kernel_rfl) (by show _=_; kernel_rfl) (by exact ⟨⟨by kernel_rfl,by kernel_rfl⟩,⟨⟨by kernel_rfl,by kernel_rfl⟩,trivial⟩⟩) a w hm)
                    · have h:=cond_ff hc h
                      refine T_skip fun a w hm=>then_norm (((?_:T Tryd.prog e 124 _ _ _) a w hm))
                      refine T_reg [] [8,1000000,1000001] [(8,dI (0:Int))] [] 1 (by kernel_rfl) (trivial) ?_
                      obtain hs:=Option.some.inj h; subst hs
                      refine T_ret fun a w hm=>T_return (fr':=[(8,dI (0:Int)),(1000000,.box [dI v4]),(1000001,.glo 0 (glob_internal_strconv_uint64pow10.flatMap (cI .u64)))]) [8] (by kernel_rfl) [.keep [8,1000000,1000001]] (by kernel_rfl) (by kernel_rfl) (by kernel_rfl) (by show _=_; kernel_rfl) (by exact ⟨⟨by kernel_rfl,by kernel_rfl⟩,⟨⟨by kernel_rfl,by kernel_rfl⟩,trivial⟩⟩) a w hm
theorem ticket_checker_field_fuel_ok {F:Nat} (n:Nat):∀ {a0:S_TicketField} {a1:Int} {a2:Bool} {c3:Int} {r:Int×Int},ticket_checker_field_fuel F n a0 a1 a2 c3=some r→ACall Tryd.prog 16 [.bp 1000000 0,.agg (cS_TicketField a0),.d (.v (.int .i64 a1)),.d (.v (.bool a2))] [.box [.d (.v (.int .i64 c3))],.glo 0 (glob_internal_strconv_uint64pow10.flatMap (cI .u64))] (.d (.v (.int .i64 r.1))) [.box [.d (.v (.int .i64 r.2))],.glo 0 (glob_internal_strconv_uint64pow10.flatMap (cI .u64))]:=by
  induction n with
  | zero=>intro a0 a1 a2 c3 r h; exact absurd (show (none:Option (Int×Int))=some r from h) (by simp)
  | succ n ih=>intro a0 a1 a2 c3 r h; exact ticket_checker_field_body_ok ih h
theorem ticket_checker_field_ok {F:Nat} {a0:S_TicketField} {a1:Int} {a2:Bool} {c3:Int} {r:Int×Int} (h:ticket_checker_field F a0 a1 a2 c3=some r):ACall Tryd.prog 16 [.bp 1000000 0,.agg (cS_TicketField a0),.d (.v (.int .i64 a1)),.d (.v (.bool a2))] [.box [.d (.v (.int .i64 c3))],.glo 0 (glob_internal_strconv_uint64pow10.flatMap (cI .u64))] (.d (.v (.int .i64 r.1))) [.box [.d (.v (.int .i64 r.2))],.glo 0 (glob_internal_strconv_uint64pow10.flatMap (cI .u64))]:=ticket_checker_field_fuel_ok F h
theorem ticket_printed_ok {F:Nat} {a0:List UInt8} {r:Int} (h:ticket_printed F a0=some r):ACall Tryd.prog 32 [.d (.str a0)] [.glo 0 (glob_internal_strconv_uint64pow10.flatMap (cI .u64))] (.d (.v (.int .i64 r))) [.glo 0 (glob_internal_strconv_uint64pow10.flatMap (cI .u64))]:=by
  rw [ticket_printed] at h
  refine ACall.intro (N:=13) Tryd.func32 rfl rfl rfl rfl rfl fun e=>?_
  refine T_reg [] [0,1000000] [] [] 1 (by kernel_rfl) (trivial) ?_
  obtain ⟨y1,hy1,h⟩:=call_ok h
  refine T_reg [(2,{ res:=.tup [.d (.str y1.1),dI y1.2],vout:=[.glo 0 (glob_internal_strconv_uint64pow10.flatMap (cI .u64))],xs:=[1000000] })] [3,1000000] [(3,.d (.str y1.1))] [(2,ACall Tryd.prog 45 [.agg (cS_Token (S_Token.mk (2:Int) 0 a0 0 0))] [.glo 0 (glob_internal_strconv_uint64pow10.flatMap (cI .u64))] (.tup [.d (.str y1.1),dI y1.2]) [.glo 0 (glob_internal_strconv_uint64pow10.flatMap (cI .u64))])] 5 (by kernel_rfl) (token_Print_ok hy1) ?_
  refine T_reg [] [2,1000000] [(2,dI (y1.1.length:Int))] [] 3 (by kernel_rfl) (trivial) ?_
  obtain hs:=Option.some.inj h; subst hs
  refine T_ret fun a w hm=>T_return (fr':=[(2,dI (y1.1.length:Int)),(1000000,.glo 0 (glob_internal_strconv_uint64pow10.flatMap (cI .u64)))]) [2] (by kernel_rfl) [.keep [2,1000000]] (by kernel_rfl) (by kernel_rfl) (by kernel_rfl) (by show _=_; kernel_rfl) (by exact ⟨⟨by kernel_rfl,by kernel_rfl⟩,trivial⟩) a w hm
theorem ticket_longest_body_ok {F:Nat} {rec_ticket_longest:S_TicketField→Option Int} (hrec_ticket_longest:∀ {a0:S_TicketField},∀ {r:Int},rec_ticket_longest a0=some r→ACall Tryd.prog 17 [.agg (cS_TicketField a0)] [.glo 0 (glob_internal_strconv_uint64pow10.flatMap (cI .u64))] (.d (.v (.int .i64 r))) [.glo 0 (glob_internal_strconv_uint64pow10.flatMap (cI .u64))]) {a0:S_TicketField} {r:Int} (h:ticket_longest_body F rec_ticket_longest a0=some r):ACall Tryd.prog 17 [.agg (cS_TicketField a0)] [.glo 0 (glob_internal_strconv_uint64pow10.flatMap (cI .u64))] (.d (.v (.int .i64 r))) [.glo 0 (glob_internal_strconv_uint64pow10.flatMap (cI .u64))]:=by
  rw [ticket_longest_body] at h
  refine ACall.intro (N:=64) Tryd.func17 rfl rfl rfl rfl rfl fun e=>?_
  refine T_reg [] [1,1000000] [(1,bx_TicketField a0)] [] 2 (by kernel_rfl) (trivial) ?_
  refine T_reg [] [1,3,1000000] [(3,dI (0:Int))] [] 1 (by kernel_rfl) (trivial) ?_
  refine T_seqk ?_
  refine T_reg [] [1,3,9,1000000] [(9,dI a0.f1)] [] 2 (by kernel_rfl) (trivial) ?_
  refine T_block ?_
  refine T_reg [] [1,3,9,10,1000000] [(10,dB (a0.f1 == (0:Int)))] [] 2 (by kernel_rfl) (trivial) ?_
  refine T_cond (a0.f1 == (0:Int)) (by kernel_rfl) (fun hc=>?_) (fun hc=>?_)
  · have h:=cond_tt hc h
    refine T_reg [] [2,1000000] [(2,dI (12:Int))] [] 1 (by kernel_rfl) (trivial) ?_
    obtain hs:=Option.some.inj h; subst hs
    refine T_ret fun a w hm=>inBlock_ret (then_ret (T_return (fr':=[(2,dI (12:Int)),(1000000,.glo 0 (glob_internal_strconv_uint64pow10.flatMap (cI .u64)))]) [2] (by kernel_rfl) [.keep [2,1000000]] (by kernel_rfl) (by kernel_rfl) (by kernel_rfl) (by show _=_; kernel_rfl) (by exact ⟨⟨by kernel_rfl,by kernel_rfl⟩,trivial⟩) a w hm))
  · have h:=cond_ff hc h
    refine T_reg [] [1,3,9,12,1000000] [(12,dB (a0.f1 == (1:Int)))] [] 2 (by kernel_rfl) (trivial) ?_
    refine T_cond (a0.f1 == (1:Int)) (by kernel_rfl) (fun hc=>?_) (fun hc=>?_)
    · have h:=cond_tt hc h
      refine T_reg [] [2,1000000] [(2,dI (IntKind.i64.wrap ((2:Int)+(IntKind.i64.wrap ((4:Int) * a0.f3)))))] [] 5 (by kernel_rfl) (trivial) ?_
      obtain hs:=Option.some.inj h; subst hs
      refine T_ret fun a w hm=>inBlock_ret (then_ret (T_return (fr':=[(2,dI (IntKind.i64.wrap ((2:Int)+(IntKind.i64.wrap ((4:Int) * a0.f3))))),(1000000,.glo 0 (glob_internal_strconv_uint64pow10.flatMap (cI .u64)))]) [2] (by kernel_rfl) [.keep [2,1000000]] (by kernel_rfl) (by kernel_rfl) (by kernel_rfl) (by show _=_; kernel_rfl) (by exact ⟨⟨by kernel_rfl,by kernel_rfl⟩,trivial⟩) a w hm))
    · have h:=cond_ff hc h
      refine T_reg [] [1,3,9,18,1000000] [(18,dB (a0.f1 == (2:Int)))] [] 2 (by kernel_rfl) (trivial) ?_
      refine T_cond (a0.f1 == (2:Int)) (by kernel_rfl) (fun hc=>?_) (fun hc=>?_)
      · have h:=cond_tt hc h
        refine T_seqk ?_
        refine T_reg [(2,{ rw:=some (dI (a0.f4.length:Int)) })] [3,21,22,23,1000000] [(21,.d (.sl 1 (a0.f4.map cS))),(22,dI (a0.f4.length:Int)),(23,dI (0:Int))] [(2,True∧dI ((a0.f4.map cS).length:Int)=dI (a0.f4.length:Int))] 1 (by kernel_rfl) (len_ok cS) ?_
        refine T_joinct h (fun (p:Int)=>[(3,dI p),(1000000,.glo 0 (glob_internal_strconv_uint64pow10.flatMap (cI .u64)))]) (fun s h=>?_) (fun v5 h=>?_)
        · refine T_co [.keep [3,21,22,23,1000000]] ((fun (p:Int×Int)=>[(3,dI p.1),(21,.d (.sl 1 (a0.f4.map cS))),(22,dI (a0.f4.length:Int)),(23,dI p.2),(1000000,.glo 0 (glob_internal_strconv_uint64pow10.flatMap (cI .u64)))]) ((0:Int),(0:Int))) (by show _=_; kernel_rfl) ?_
          refine T_block ?_
          refine T_loopF (ι:=Int×Int) (fun (p:Int×Int)=>[(3,dI p.1),(21,.d (.sl 1 (a0.f4.map cS))),(22,dI (a0.f4.length:Int)),(23,dI p.2),(1000000,.glo 0 (glob_internal_strconv_uint64pow10.flatMap (cI .u64)))]) (fun n p=>ticket_longest_L1 F a0 n p.1 p.2=some s) (fun i hh=>by simp [ticket_longest_L1] at hh) (fun n p h=>?_) F ((0:Int),(0:Int)) h
          obtain ⟨v1,v2⟩:=p
          have h:ticket_longest_L1 F a0 (n+1) v1 v2=some s:=h
          rw [ticket_longest_L1] at h
          refine T_reg [] [3,21,22,23,24,1000000] [(24,dB (decide (v2 < (a0.f4.length:Int))))] [] 1 (by kernel_rfl) (trivial) ?_
          refine T_seqk ?_
          refine T_cond (decide (v2 < (a0.f4.length:Int))) (by kernel_rfl) (fun hc=>?_) (fun hc=>?_)
          · have h:=cond_tt hc h
            refine T_skip fun a w hm=>then_norm (((?_:T Tryd.prog e 64 _ _ _) a w hm))
            refine T_seqk ?_
            refine T_block ?_
            obtain ⟨hp1,h⟩:=chk_ok h
            refine T_reg [(0,{ cs:=cS (a0.f4.getD v2.toNat []) })] [3,5,21,22,23,1000000] [(5,.d (.str (a0.f4.getD v2.toNat [])))] [(0,0≤v2∧(a0.f4.map cS)[v2.toNat]? = some (cS (a0.f4.getD v2.toNat [])))] 2 (by kernel_rfl) (idx_ok (d:=[]) cS hp1) ?_
            obtain ⟨y1,hy1,h⟩:=call_ok h
            refine T_reg_end [(2,{ res:=dI y1,vout:=[.glo 0 (glob_internal_strconv_uint64pow10.flatMap (cI .u64))],xs:=[1000000] })] [3,21,22,23,1000000] [(3,dI (if v1 < y1 then y1 else v1))] [(2,ACall Tryd.prog 32 [.d (.str (a0.f4.getD v2.toNat []))] [.glo 0 (glob_internal_strconv_uint64pow10.flatMap (cI .u64))] (dI y1) [.glo 0 (glob_internal_strconv_uint64pow10.flatMap (cI .u64))])] 2 (by kernel_rfl) (ticket_printed_ok hy1) fun a w hm=>inBlock_norm (then_norm (((?_:T Tryd.prog e 64 _ _ _) a w hm)))
            refine T_reg_end [] [3,21,22,23,1000000] [(23,dI (IntKind.i64.wrap (v2+(1:Int))))] [] 2 (by kernel_rfl) (trivial) fun a w hm=>then_norm (⟨((if v1 < y1 then y1 else v1),IntKind.i64.wrap (v2+(1:Int))),h,hm.co (cs:=[.keep [3,21,22,23,1000000]]) (by show _=_; kernel_rfl)⟩)
          · have h:=cond_ff hc h
            obtain hs:=Option.some.inj h; subst hs
            refine T_exit fun a w hm=>then_exit (then_exit (inBlock_exit (then_norm (hm.co (cs:=[.keep [3,1000000]]) (by show _=_; kernel_rfl)))))
        · skip
          refine fun a w hm=>then_norm (((?_:T Tryd.prog e 64 _ _ _) a w hm))
          refine T_reg [] [2,1000000] [(2,dI v5)] [] 2 (by kernel_rfl) (trivial) ?_
          obtain hs:=Option.some.inj h; subst hs
          refine T_ret fun a w hm=>inBlock_ret (then_ret (T_return (fr':=[(2,dI v5),(1000000,.glo 0 (glob_internal_strconv_uint64pow10.flatMap (cI .u64)))]) [2] (by kernel_rfl) [.keep [2,1000000]] (by kernel_rfl) (by kernel_rfl) (by kernel_rfl) (by show _=_; kernel_rfl) (by exact ⟨⟨by kernel_rfl,by kernel_rfl⟩,trivial⟩) a w hm))
      · have h:=cond_ff hc h
        refine T_reg [] [1,3,33,1000000] [(33,dB (a0.f1 == (3:Int)))] [] 2 (by kernel_rfl) (trivial) ?_
        refine T_cond (a0.f1 == (3:Int)) (by kernel_rfl) (fun hc=>?_) (fun hc=>?_)
        · have h:=cond_tt hc h
          obtain ⟨hp2,h⟩:=chk_ok h
          obtain ⟨y4,hy2,h⟩:=call_ok h
          refine T_drawX mixed 5 (.take 0 (.take 2 (.all (.alt 1 (.all (.alt 3 (.all (.alt 4 (.all (.alt 5 (.all (.alt 6 (.take 7 (.take 8 (.take 9 (.take 10 .done)))) .stop)) .stop)) .stop)) .stop)) (.alt 3 (.all (.alt 1 (.all (.alt 4 (.all (.alt 5 (.all (.alt 6 (.take 7 (.take 8 (.take 9 (.take 10 .done)))) .stop)) .stop)) .stop)) (.alt 4 (.all (.alt 1 (.all (.alt 5 (.all (.alt 6 (.take 7 (.take 8 (.take 9 (.take 10 .done)))) .stop)) .stop)) (.alt 5 (.all (.alt 1 (.all (.alt 6 (.take 7 (.take 8 (.take 9 (.take 10 .done)))) .stop)) (.alt 6 (.take 7 (.all (.alt 1 (.take 8 (.take 9 (.take 10 .done))) .stop))) .stop))) .stop))) .stop))) .stop))))) ([0,1,0,4,8,16,32,64,130,256,1023],[0,1,0,4,8,16,32,64,130,256,512]) 1925 [(4,{ cs:=cS_TicketField (a0.f5.getD (0:Int).toNat z_TicketField) }),(6,{ res:=dI y4,vout:=[.glo 0 (glob_internal_strconv_uint64pow10.flatMap (cI .u64))],xs:=[1000000] })] [2,1000000] [] [(2,dI (IntKind.i64.wrap ((2:Int)+(IntKind.i64.wrap (a0.f3 * (IntKind.i64.wrap (y4+(1:Int)))))))),(1000000,.glo 0 (glob_internal_strconv_uint64pow10.flatMap (cI .u64)))] ((fun (o4:Prop)=>fun (o6:Prop)=>[(4,o4),(1,o6),(6,o4),(1,o6),(4,o4),(2,o6),(6,o6),(4,o6)]) (0≤(0:Int)∧(a0.f5.map rS_TicketField)[(0:Int).toNat]? = some (cS_TicketField (a0.f5.getD (0:Int).toNat z_TicketField))) (ACall Tryd.prog 17 [.agg (cS_TicketField (a0.f5.getD (0:Int).toNat z_TicketField))] [.glo 0 (glob_internal_strconv_uint64pow10.flatMap (cI .u64))] (dI y4) [.glo 0 (glob_internal_strconv_uint64pow10.flatMap (cI .u64))])) 5 (by kernel_rfl) (by kernel_rfl) (by kernel_rfl) (have p4:=idx_okR (d:=z_TicketField) rS_TicketField_eq hp2; have p6:=hrec_ticket_longest hy2; ⟨p4,p6,p4,p6,p4,p6,p6,p6⟩) ?_
          obtain hs:=Option.some.inj h; subst hs
          refine T_ret fun a w hm=>inBlock_ret (then_ret (T_return (fr':=[(2,dI (IntKind.i64.wrap ((2:Int)+(IntKind.i64.wrap (a0.f3 * (IntKind.i64.wrap (y4+(1:Int)))))))),(1000000,.glo 0 (glob_internal_strconv_uint64pow10.flatMap (cI .u64)))]) [2] (by kernel_rfl) [.keep [2,1000000]] (by kernel_rfl) (by kernel_rfl) (by kernel_rfl) (by show _=_; kernel_rfl) (by exact ⟨⟨by kernel_rfl,by kernel_rfl⟩,trivial⟩) a w hm))
        · have h:=cond_ff hc h
          refine T_skip fun a w hm=>inBlock_norm (then_norm (((?_:T Tryd.prog e 64 _ _ _) a w hm)))
          refine T_seqk ?_
          refine T_reg [(2,{ rw:=some (dI (a0.f5.length:Int)) })] [3,46,47,48,1000000] [(46,.d (.sl 12 (a0.f5.map rS_TicketField))),(47,dI (a0.f5.length:Int)),(48,dI (0:Int))] [(2,True∧dI ((a0.f5.map rS_TicketField).length:Int)=dI (a0.f5.length:Int))] 1 (by kernel_rfl) (len_ok rS_TicketField) ?_
          refine T_joinct h (fun (p:Int)=>[(3,dI p),(1000000,.glo 0 (glob_internal_strconv_uint64pow10.flatMap (cI .u64)))]) (fun s h=>?_) (fun v6 h=>?_)
          · refine T_co [.keep [3,46,47,48,1000000]] ((fun (p:Int×Int)=>[(3,dI p.1),(46,.d (.sl 12 (a0.f5.map rS_TicketField))),(47,dI (a0.f5.length:Int)),(48,dI p.2),(1000000,.glo 0 (glob_internal_strconv_uint64pow10.flatMap (cI .u64)))]) ((0:Int),(0:Int))) (by show _=_; kernel_rfl) ?_
            refine T_block ?_
            refine T_loopF (ι:=Int×Int) (fun (p:Int×Int)=>[(3,dI p.1),(46,.d (.sl 12 (a0.f5.map rS_TicketField))),(47,dI (a0.f5.length:Int)),(48,dI p.2),(1000000,.glo 0 (glob_internal_strconv_uint64pow10.flatMap (cI .u64)))]) (fun n p=>ticket_longest_L3 F a0 rec_ticket_longest n p.1 p.2=some s) (fun i hh=>by simp [ticket_longest_L3] at hh) (fun n p h=>?_) F ((0:Int),(0:Int)) h
            obtain ⟨v3,v4⟩:=p
            have h:ticket_longest_L3 F a0 rec_ticket_longest (n+1) v3 v4=some s:=h
            rw [ticket_longest_L3] at h
            refine T_reg [] [3,46,47,48,49,1000000] [(49,dB (decide (v4 < (a0.f5.length:Int))))] [] 1 (by kernel_rfl) (trivial) ?_
            refine T_seqk ?_
            refine T_cond (decide (v4 < (a0.f5.length:Int))) (by kernel_rfl) (fun hc=>?_) (fun hc=>?_)
            · have h:=cond_tt hc h
              refine T_skip fun a w hm=>then_norm (((?_:T Tryd.prog e 64 _ _ _) a w hm))
              refine T_seqk ?_
              refine T_block ?_
              obtain ⟨hp3,h⟩:=chk_ok h
              refine T_reg [(0,{ cs:=cS_TicketField (a0.f5.getD v4.toNat z_TicketField) })] [3,7,46,47,48,1000000] [(7,.box [.d (.str ((a0.f5.getD v4.toNat z_TicketField).f0)),dI ((a0.f5.getD v4.toNat z_TicketField).f1),dI ((a0.f5.getD v4.toNat z_TicketField).f2),dI ((a0.f5.getD v4.toNat z_TicketField).f3),.d (.sl 1 (((a0.f5.getD v4.toNat z_TicketField).f4).map cS)),.d (.sl 12 (((a0.f5.getD v4.toNat z_TicketField).f5).map rS_TicketField)),dB ((a0.f5.getD v4.toNat z_TicketField).f6),dI (((a0.f5.getD v4.toNat z_TicketField).f7).f0),dI (((a0.f5.getD v4.toNat z_TicketField).f7).f1),.d (.str (((a0.f5.getD v4.toNat z_TicketField).f7).f2)),.d (.sl 1 ((((a0.f5.getD v4.toNat z_TicketField).f7).f3).map cS)),.d (.sl 5 ((((a0.f5.getD v4.toNat z_TicketField).f7).f4).map rS_Object))])] [(0,0≤v4∧(a0.f5.map rS_TicketField)[v4.toNat]? = some (cS_TicketField (a0.f5.getD v4.toNat z_TicketField)))] 3 (by kernel_rfl) (idx_okR (d:=z_TicketField) rS_TicketField_eq hp3) ?_
              obtain ⟨y2,hy3,h⟩:=call_ok h
              obtain ⟨y3,hy4,h⟩:=call_ok h
              refine T_drawX_end mixed 3 (.take 0 (.take 1 (.all (.alt 2 (.all (.alt 3 (.all (.alt 4 (.all (.alt 5 (.take 6 (.take 7 (.take 8 (.take 9 .done)))) .stop)) .stop)) (.alt 4 (.all (.alt 3 (.all (.alt 5 (.take 6 (.take 7 (.take 8 (.take 9 .done)))) .stop)) .stop)) .stop))) (.alt 4 (.all (.alt 2 (.all (.alt 3 (.all (.alt 5 (.take 6 (.take 7 (.take 8 (.take 9 .done)))) .stop)) .stop)) .stop)) .stop))))) ([0,0,2,4,0,24,40,64,129,511],[0,0,2,4,0,16,40,64,129,257]) 963 [(3,{ res:=dI y2,vout:=[.glo 0 (glob_internal_strconv_uint64pow10.flatMap (cI .u64))],xs:=[1000000] }),(5,{ res:=dI y3,vout:=[.glo 0 (glob_internal_strconv_uint64pow10.flatMap (cI .u64))],xs:=[1000000] })] [3,46,47,48,1000000] [] [(3,dI (IntKind.i64.wrap (v3+(IntKind.i64.wrap ((IntKind.i64.wrap (y2+y3))+(2:Int)))))),(46,.d (.sl 12 (a0.f5.map rS_TicketField))),(47,dI (a0.f5.length:Int)),(48,dI v4),(1000000,.glo 0 (glob_internal_strconv_uint64pow10.flatMap (cI .u64)))] ((fun (o3:Prop)=>fun (o5:Prop)=>[(3,o3),(1,o5),(5,o3),(0,o5),(6,o3),(0,o5)]) (ACall Tryd.prog 32 [.d (.str ((a0.f5.getD v4.toNat z_TicketField).f0))] [.glo 0 (glob_internal_strconv_uint64pow10.flatMap (cI .u64))] (dI y2) [.glo 0 (glob_internal_strconv_uint64pow10.flatMap (cI .u64))]) (ACall Tryd.prog 17 [.agg (cS_TicketField (a0.f5.getD v4.toNat z_TicketField))] [.glo 0 (glob_internal_strconv_uint64pow10.flatMap (cI .u64))] (dI y3) [.glo 0 (glob_internal_strconv_uint64pow10.flatMap (cI .u64))])) 4 (by kernel_rfl) (by kernel_rfl) (by kernel_rfl) (have p3:=ticket_printed_ok hy3; have p5:=hrec_ticket_longest hy4; ⟨p3,p5,p3,p5,p3,p5⟩) fun a w hm=>inBlock_norm (then_norm (((?_:T Tryd.prog e 64 _ _ _) a w hm)))
              refine T_reg_end [] [3,46,47,48,1000000] [(48,dI (IntKind.i64.wrap (v4+(1:Int))))] [] 2 (by kernel_rfl) (trivial) fun a w hm=>then_norm (⟨(IntKind.i64.wrap (v3+(IntKind.i64.wrap ((IntKind.i64.wrap (y2+y3))+(2:Int)))),IntKind.i64.wrap (v4+(1:Int))),h,hm.co (cs:=[.keep [3,46,47,48,1000000]]) (by show _=_; kernel_rfl)⟩)
            · have h:=cond_ff hc h
              obtain hs:=Option.some.inj h; subst hs
              refine T_exit fun a w hm=>then_exit (then_exit (inBlock_exit (then_norm (hm.co (cs:=[.keep [3,1000000]]) (by show _=_; kernel_rfl)))))
          · skip
            refine fun a w hm=>then_norm (((?_:T Tryd.prog e 64 _ _ _) a w hm))
            refine T_reg [] [2,1000000] [(2,dI (IntKind.i64.wrap (v6+(4:Int))))] [] 3 (by kernel_rfl) (trivial) ?_
            obtain hs:=Option.some.inj h; subst hs
            refine T_ret fun a w hm=>T_return (fr':=[(2,dI (IntKind.i64.wrap (v6+(4:Int)))),(1000000,.glo 0 (glob_internal_strconv_uint64pow10.flatMap (cI .u64)))]) [2] (by kernel_rfl) [.keep [2,1000000]] (by kernel_rfl) (by kernel_rfl) (by kernel_rfl) (by show _=_; kernel_rfl) (by exact ⟨⟨by kernel_rfl,by kernel_rfl⟩,trivial⟩) a w hm
theorem ticket_longest_fuel_ok {F:Nat} (n:Nat):∀ {a0:S_TicketField} {r:Int},ticket_longest_fuel F n a0=some r→ACall Tryd.prog 17 [.agg (cS_TicketField a0)] [.glo 0 (glob_internal_strconv_uint64pow10.flatMap (cI .u64))] (.d (.v (.int .i64 r))) [.glo 0 (glob_internal_strconv_uint64pow10.flatMap (cI .u64))]:=by
  induction n with
  | zero=>intro a0 r h; exact absurd (show (none:Option Int)=some r from h) (by simp)
  | succ n ih=>intro a0 r h; exact ticket_longest_body_ok ih h
theorem ticket_longest_ok {F:Nat} {a0:S_TicketField} {r:Int} (h:ticket_longest F a0=some r):ACall Tryd.prog 17 [.agg (cS_TicketField a0)] [.glo 0 (glob_internal_strconv_uint64pow10.flatMap (cI .u64))] (.d (.v (.int .i64 r))) [.glo 0 (glob_internal_strconv_uint64pow10.flatMap (cI .u64))]:=ticket_longest_fuel_ok F h
theorem ticket_Check_ok {F:Nat} {a0:S_TicketField} {r:Int} (h:ticket_Check F a0=some r):ACall Tryd.prog 7 [.agg (cS_TicketField a0)] [.glo 0 (glob_internal_strconv_uint64pow10.flatMap (cI .u64))] (.d (.v (.int .i64 r))) [.glo 0 (glob_internal_strconv_uint64pow10.flatMap (cI .u64))]:=by
  rw [ticket_Check] at h
  refine ACall.intro (N:=16) Tryd.func7 rfl rfl rfl rfl rfl fun e=>?_
  refine T_reg [] [1,1000000] [(1,bx_TicketField a0)] [] 2 (by kernel_rfl) (trivial) ?_
  refine T_reg [] [1,3,1000000] [(3,.box [dI 0])] [] 1 (by kernel_rfl) (trivial) ?_
  refine T_seqk ?_
  obtain ⟨y1,hy1,h⟩:=call_ok h
  refine T_reg [(1,{ res:=dI y1.1,vout:=[.box [dI y1.2],.glo 0 (glob_internal_strconv_uint64pow10.flatMap (cI .u64))],xs:=[3,1000000] })] [1,4,1000000] [(4,dI y1.1)] [(1,ACall Tryd.prog 16 [.bp 1000000 0,.agg (cS_TicketField a0),dI (1:Int),dB false] [.box [dI 0],.glo 0 (glob_internal_strconv_uint64pow10.flatMap (cI .u64))] (dI y1.1) [.box [dI y1.2],.glo 0 (glob_internal_strconv_uint64pow10.flatMap (cI .u64))])] 1 (by kernel_rfl) (ticket_checker_field_ok hy1) ?_
  refine T_reg [] [1,4,8,1000000] [(8,dB (y1.1 != (0:Int)))] [] 2 (by kernel_rfl) (trivial) ?_
  refine T_cond (y1.1 != (0:Int)) (by kernel_rfl) (fun hc=>?_) (fun hc=>?_)
  · have h:=cond_tt hc h
    refine T_reg [] [2,1000000] [(2,dI y1.1)] [] 2 (by kernel_rfl) (trivial) ?_
    obtain hs:=Option.some.inj h; subst hs
    refine T_ret fun a w hm=>then_ret (T_return (fr':=[(2,dI y1.1),(1000000,.glo 0 (glob_internal_strconv_uint64pow10.flatMap (cI .u64)))]) [2] (by kernel_rfl) [.keep [2,1000000]] (by kernel_rfl) (by kernel_rfl) (by kernel_rfl) (by show _=_; kernel_rfl) (by exact ⟨⟨by kernel_rfl,by kernel_rfl⟩,trivial⟩) a w hm)
  · have h:=cond_ff hc h
    refine T_skip fun a w hm=>then_norm (((?_:T Tryd.prog e 16 _ _ _) a w hm))
    refine T_seqk ?_
    refine T_reg [] [1,12,1000000] [(12,dB (a0.f1 != (4:Int)))] [] 3 (by kernel_rfl) (trivial) ?_
    refine T_cond (a0.f1 != (4:Int)) (by kernel_rfl) (fun hc=>?_) (fun hc=>?_)
    · have h:=cond_tt hc h
      refine T_reg [] [2,1000000] [(2,dI (14:Int))] [] 1 (by kernel_rfl) (trivial) ?_
      obtain hs:=Option.some.inj h; subst hs
      refine T_ret fun a w hm=>then_ret (T_return (fr':=[(2,dI (14:Int)),(1000000,.glo 0 (glob_internal_strconv_uint64pow10.flatMap (cI .u64)))]) [2] (by kernel_rfl) [.keep [2,1000000]] (by kernel_rfl) (by kernel_rfl) (by kernel_rfl) (by show _=_; kernel_rfl) (by exact ⟨⟨by kernel_rfl,by kernel_rfl⟩,trivial⟩) a w hm)
    · have h:=cond_ff hc h
      refine T_skip fun a w hm=>then_norm (((?_:T Tryd.prog e 16 _ _ _) a w hm))
      refine T_seqk ?_
      obtain ⟨y2,hy2,h⟩:=call_ok h
      refine T_reg [(1,{ res:=dI y2,vout:=[.glo 0 (glob_internal_strconv_uint64pow10.flatMap (cI .u64))],xs:=[1000000] })] [15,1000000] [(15,dB (decide (y2 > (8192:Int))))] [(1,ACall Tryd.prog 17 [.agg (cS_TicketField a0)] [.glo 0 (glob_internal_strconv_uint64pow10.flatMap (cI .u64))] (dI y2) [.glo 0 (glob_internal_strconv_uint64pow10.flatMap (cI .u64))])] 1 (by kernel_rfl) (ticket_longest_ok hy2) ?_
      refine T_cond (decide (y2 > (8192:Int))) (by kernel_rfl) (fun hc=>?_) (fun hc=>?_)
      · have h:=cond_tt hc h
        refine T_reg [] [2,1000000] [(2,dI (2:Int))] [] 1 (by kernel_rfl) (trivial) ?_
        obtain hs:=Option.some.inj h; subst hs
        refine T_ret fun a w hm=>then_ret (T_return (fr':=[(2,dI (2:Int)),(1000000,.glo 0 (glob_internal_strconv_uint64pow10.flatMap (cI .u64)))]) [2] (by kernel_rfl) [.keep [2,1000000]] (by kernel_rfl) (by kernel_rfl) (by kernel_rfl) (by show _=_; kernel_rfl) (by exact ⟨⟨by kernel_rfl,by kernel_rfl⟩,trivial⟩) a w hm)
      · have h:=cond_ff hc h
        refine T_skip fun a w hm=>then_norm (((?_:T Tryd.prog e 16 _ _ _) a w hm))
        refine T_reg [] [2,1000000] [(2,dI (0:Int))] [] 1 (by kernel_rfl) (trivial) ?_
        obtain hs:=Option.some.inj h; subst hs
        refine T_ret fun a w hm=>T_return (fr':=[(2,dI (0:Int)),(1000000,.glo 0 (glob_internal_strconv_uint64pow10.flatMap (cI .u64)))]) [2] (by kernel_rfl) [.keep [2,1000000]] (by kernel_rfl) (by kernel_rfl) (by kernel_rfl) (by show _=_; kernel_rfl) (by exact ⟨⟨by kernel_rfl,by kernel_rfl⟩,trivial⟩) a w hm
theorem ticket_Validate_ok {F:Nat} {a0:S_TicketField} {a1:S_Object} {r:(List S_TicketFinding)×Int} (h:ticket_Validate F a0 a1=some r):ACall Tryd.prog 9 [.agg (cS_TicketField a0),.agg (cS_Object a1)] [.glo 0 (glob_internal_strconv_uint64pow10.flatMap (cI .u64))] (.tup [.own 45 2 (r.1.map cS_TicketFinding),.d (.v (.int .i64 r.2))]) [.glo 0 (glob_internal_strconv_uint64pow10.flatMap (cI .u64))]:=by
  rw [ticket_Validate] at h
  refine ACall.intro (N:=21) Tryd.func9 rfl rfl rfl rfl rfl fun e=>?_
  refine T_reg [] [2,3,1000000] [(2,bx_TicketField a0),(3,bx_Object a1)] [] 4 (by kernel_rfl) (trivial) ?_
  refine T_seqk ?_
  obtain ⟨y1,hy1,h⟩:=call_ok h
  refine T_reg [(1,{ res:=dI y1,vout:=[.glo 0 (glob_internal_strconv_uint64pow10.flatMap (cI .u64))],xs:=[1000000] })] [2,3,6,1000000] [(6,dI y1)] [(1,ACall Tryd.prog 7 [.agg (cS_TicketField a0)] [.glo 0 (glob_internal_strconv_uint64pow10.flatMap (cI .u64))] (dI y1) [.glo 0 (glob_internal_strconv_uint64pow10.flatMap (cI .u64))])] 1 (by kernel_rfl) (ticket_Check_ok hy1) ?_
  refine T_reg [] [2,3,6,11,1000000] [(11,dB (y1 != (0:Int)))] [] 2 (by kernel_rfl) (trivial) ?_
  refine T_cond (y1 != (0:Int)) (by kernel_rfl) (fun hc=>?_) (fun hc=>?_)
  · have h:=cond_tt hc h
    refine T_reg [] [4,5,1000000] [(4,oW5 []),(5,dI y1)] [] 3 (by kernel_rfl) (trivial) ?_
    obtain hs:=Option.some.inj h; subst hs
    refine T_ret fun a w hm=>then_ret (T_return (fr':=[(4,oW5 []),(5,dI y1),(1000000,.glo 0 (glob_internal_strconv_uint64pow10.flatMap (cI .u64)))]) [4,5] (by kernel_rfl) [.keep [4,5,1000000]] (by kernel_rfl) (by kernel_rfl) (by kernel_rfl) (by show _=_; kernel_rfl) (by exact ⟨⟨by kernel_rfl,by kernel_rfl⟩,trivial⟩) a w hm)
  · have h:=cond_ff hc h
    refine T_skip fun a w hm=>then_norm (((?_:T Tryd.prog e 21 _ _ _) a w hm))
    refine T_seqk ?_
    obtain ⟨y2,hy2,h⟩:=call_ok h
    refine T_reg [(1,{ res:=dI y2,vout:=[.glo 0 (glob_internal_strconv_uint64pow10.flatMap (cI .u64))],xs:=[1000000] })] [2,3,7,1000000] [(7,dI y2)] [(1,ACall Tryd.prog 20 [.agg (cS_Object a1)] [.glo 0 (glob_internal_strconv_uint64pow10.flatMap (cI .u64))] (dI y2) [.glo 0 (glob_internal_strconv_uint64pow10.flatMap (cI .u64))])] 1 (by kernel_rfl) (object_Check_ok hy2) ?_
    refine T_reg [] [2,3,7,16,1000000] [(16,dB (y2 != (0:Int)))] [] 2 (by kernel_rfl) (trivial) ?_
    refine T_cond (y2 != (0:Int)) (by kernel_rfl) (fun hc=>?_) (fun hc=>?_)
    · have h:=cond_tt hc h
      refine T_reg [] [4,5,1000000] [(4,oW5 []),(5,dI y2)] [] 3 (by kernel_rfl) (trivial) ?_
      obtain hs:=Option.some.inj h; subst hs
      refine T_ret fun a w hm=>then_ret (T_return (fr':=[(4,oW5 []),(5,dI y2),(1000000,.glo 0 (glob_internal_strconv_uint64pow10.flatMap (cI .u64)))]) [4,5] (by kernel_rfl) [.keep [4,5,1000000]] (by kernel_rfl) (by kernel_rfl) (by kernel_rfl) (by show _=_; kernel_rfl) (by exact ⟨⟨by kernel_rfl,by kernel_rfl⟩,trivial⟩) a w hm)
    · have h:=cond_ff hc h
      refine T_skip fun a w hm=>then_norm (((?_:T Tryd.prog e 21 _ _ _) a w hm))
      obtain ⟨y3,hy3,h⟩:=call_ok h
      refine T_reg [(2,{ res:=oW5 y3,vout:=[.glo 0 (glob_internal_strconv_uint64pow10.flatMap (cI .u64))],xs:=[1000000] })] [4,5,1000000] [(4,oW5 y3),(5,dI (0:Int))] [(2,ACall Tryd.prog 21 [.agg (cS_TicketField a0),.agg (cS_Object a1),.d (.v (.slice none 0 0))] [.glo 0 (glob_internal_strconv_uint64pow10.flatMap (cI .u64))] (oW5 y3) [.glo 0 (glob_internal_strconv_uint64pow10.flatMap (cI .u64))])] 2 (by kernel_rfl) ((ACall.nilArg 2 (ticket_findings_ok hy3) rfl rfl)) ?_
      obtain hs:=Option.some.inj h; subst hs
      refine T_ret fun a w hm=>T_return (fr':=[(4,oW5 y3),(5,dI (0:Int)),(1000000,.glo 0 (glob_internal_strconv_uint64pow10.flatMap (cI .u64)))]) [4,5] (by kernel_rfl) [.keep [4,5,1000000]] (by kernel_rfl) (by kernel_rfl) (by kernel_rfl) (by show _=_; kernel_rfl) (by exact ⟨⟨by kernel_rfl,by kernel_rfl⟩,trivial⟩) a w hm
theorem law3_ticketFact_ok {F:Nat}  {r:Bool} (h:law3_ticketFact F  = some r):ACall Tryd.prog 6 [] [.glo 0 (glob_internal_strconv_uint64pow10.flatMap (cI .u64))] (.d (.v (.bool r))) [.glo 0 (glob_internal_strconv_uint64pow10.flatMap (cI .u64))]:=by
  rw [law3_ticketFact] at h
  refine ACall.intro (N:=34) Tryd.func6 rfl rfl rfl rfl rfl fun e=>?_
  refine T_reg [] [1000000] [] [] 1 (by kernel_rfl) (trivial) ?_
  obtain ⟨y1,hy1,h⟩:=call_ok h
  obtain ⟨y2,hy2,h⟩:=call_ok h
  refine T_reg [(0,{ res:=.agg (cS_TicketField y1) }),(1,{ es:=some (([([78]:List UInt8)]).map cS) }),(3,{ es:=some (([(S_Object.mk (2:Int) (4:Int) [] [] [])]).map rS_Object) }),(4,{ frz:=[(5,0),(7,0)] }),(5,{ res:=.tup [oW5 y2.1,dI y2.2],vout:=[.glo 0 (glob_internal_strconv_uint64pow10.flatMap (cI .u64))],xs:=[1000000] })] [1,2,1000000] [(1,oW5 y2.1),(2,dI y2.2)] [(0,ACall Tryd.prog 14 [dI (1:Int),dI (3:Int)] [] (.agg (cS_TicketField y1)) []),(0,(([([78]:List UInt8)]).map cS)=(([([78]:List UInt8)]).map cS)),(1,[cS_Object (S_Object.mk (2:Int) (4:Int) [] [] [])]=(([(S_Object.mk (2:Int) (4:Int) [] [] [])]).map rS_Object)),(1,ACall Tryd.prog 9 [.agg (cS_TicketField y1),.agg (cS_Object (S_Object.mk (7:Int) 0 [] ([([78]:List UInt8)]) ([(S_Object.mk (2:Int) (4:Int) [] [] [])])))] [.glo 0 (glob_internal_strconv_uint64pow10.flatMap (cI .u64))] (.tup [oW5 y2.1,dI y2.2]) [.glo 0 (glob_internal_strconv_uint64pow10.flatMap (cI .u64))])] 5 (by kernel_rfl) (⟨law3_whole_ok hy1,rfl,(lit_r rS_Object_eq (S_Object.mk (2:Int) (4:Int) [] [] []) (rfl:([]:List (List Dat))=([]:List S_Object).map rS_Object)),ticket_Validate_ok hy2⟩) ?_
  obtain ⟨hp1,h⟩:=chk_ok h
  obtain ⟨z1,hz1,h⟩:=lett_ok h
  obtain ⟨hp2,h⟩:=chk_ok h
  obtain ⟨y3,hy3,h⟩:=call_ok h
  refine T_reg [(4,{ rw:=some (dI (y2.1.length:Int)) }),(11,{ cs:=cS_TicketFinding (y2.1.getD (0:Int).toNat z_TicketFinding) }),(13,{ rw:=some (dB z1) }),(18,{ cs:=cS_TicketFinding (y2.1.getD (0:Int).toNat z_TicketFinding) }),(19,{ es:=some (([([78]:List UInt8)]).map cS) }),(20,{ res:=dB y3 })] [0,1000000] [(0,dB (bif z1 then y3 else false))] [(3,((((y2.2 == (0:Int)) == true) && true)=true→True)),(0,((((y2.2 == (0:Int)) == true) && true)=true→True∧dI ((y2.1.map cS_TicketFinding).length:Int)=dI (y2.1.length:Int))),(0,((((y2.2 == (0:Int)) == true) && true)=true→True)),(2,((((bif (y2.2 == (0:Int)) then ((y2.1.length:Int) == (1:Int)) else false) == true) && true)=true→True)),(0,((((bif (y2.2 == (0:Int)) then ((y2.1.length:Int) == (1:Int)) else false) == true) && true)=true→0≤(0:Int)∧(0:Int) < (y2.1.map cS_TicketFinding).length)),(0,((((bif (y2.2 == (0:Int)) then ((y2.1.length:Int) == (1:Int)) else false) == true) && true)=true→True)),(0,((((bif (y2.2 == (0:Int)) then ((y2.1.length:Int) == (1:Int)) else false) == true) && true)=true→(y2.1.map cS_TicketFinding)[(0:Int).toNat]? = some (cS_TicketFinding (y2.1.getD (0:Int).toNat z_TicketFinding)))),(0,((((bif (y2.2 == (0:Int)) then ((y2.1.length:Int) == (1:Int)) else false) == true) && true)=true→True)),(0,(True)∧dB (bif (bif (y2.2 == (0:Int)) then ((y2.1.length:Int) == (1:Int)) else false) then (((y2.1.getD (0:Int).toNat z_TicketFinding).f1) == (3:Int)) else false)=dB z1),(1,(((z1 == true) && true)=true→True)),(0,(((z1 == true) && true)=true→0≤(0:Int)∧(0:Int) < (y2.1.map cS_TicketFinding).length)),(0,(((z1 == true) && true)=true→True)),(0,(((z1 == true) && true)=true→(y2.1.map cS_TicketFinding)[(0:Int).toNat]? = some (cS_TicketFinding (y2.1.getD (0:Int).toNat z_TicketFinding)))),(0,(((z1 == true) && true)=true→(([([78]:List UInt8)]).map cS)=(([([78]:List UInt8)]).map cS))),(0,(((z1 == true) && true)=true→ACall Tryd.prog 15 [.d (.sl 1 (((y2.1.getD (0:Int).toNat z_TicketFinding).f0).map cS)),.d (.sl 1 (([([78]:List UInt8)]).map cS))] [] (dB y3) []))] 2 (by kernel_rfl) (⟨(fun hg=>trivial),(fun hg=>len_ok cS_TicketFinding),(fun hg=>trivial),(fun hg=>trivial),(fun hg=>own_idx cS_TicketFinding (hp1 hg)),(fun hg=>trivial),(fun hg=>(idx_ok (d:=z_TicketFinding) cS_TicketFinding (hp1 hg)).2),(fun hg=>trivial),⟨trivial,(by subst hz1; rfl)⟩,(fun hg=>trivial),(fun hg=>own_idx cS_TicketFinding (hp2 hg)),(fun hg=>trivial),(fun hg=>(idx_ok (d:=z_TicketFinding) cS_TicketFinding (hp2 hg)).2),(fun hg=>rfl),(fun hg=>slices_Equal_string_ok (gcall_ok hg hy3))⟩) ?_
  obtain hs:=Option.some.inj h; subst hs
  refine T_ret fun a w hm=>T_return (fr':=[(0,dB (bif z1 then y3 else false)),(1000000,.glo 0 (glob_internal_strconv_uint64pow10.flatMap (cI .u64)))]) [0] (by kernel_rfl) [.keep [0,1000000]] (by kernel_rfl) (by kernel_rfl) (by kernel_rfl) (by show _=_; kernel_rfl) (by exact ⟨⟨by kernel_rfl,by kernel_rfl⟩,trivial⟩) a w hm
theorem ref3_digit_ok {F:Nat} {a0:Int} {r:Bool} (h:ref3_digit F a0=some r):ACall Tryd.prog 42 [.d (.v (.int .u8 a0))] [] (.d (.v (.bool r))) []:=by
  rw [ref3_digit] at h
  refine ACall.intro (N:=9) Tryd.func42 rfl rfl rfl rfl rfl fun e=>?_
  refine T_reg [] [0] [] [] 1 (by kernel_rfl) (trivial) ?_
  refine T_reg [] [2] [(2,dB (bif (decide (a0 ≥ (48:Int))) then (decide (a0≤(57:Int))) else false))] [(3,((((decide (a0 ≥ (48:Int))) == true) && true)=true→True)),(0,((((decide (a0 ≥ (48:Int))) == true) && true)=true→True))] 2 (by kernel_rfl) (⟨(fun hg=>trivial),(fun hg=>trivial)⟩) ?_
  obtain hs:=Option.some.inj h; subst hs
  refine T_ret fun a w hm=>T_return (fr':=[(2,dB (bif (decide (a0 ≥ (48:Int))) then (decide (a0≤(57:Int))) else false))]) [2] (by kernel_rfl) [.keep [2]] (by kernel_rfl) (by kernel_rfl) (by kernel_rfl) (by show _=_; kernel_rfl) (by exact trivial) a w hm
theorem ref3_letter_ok {F:Nat} {a0:Int} {r:Bool} (h:ref3_letter F a0=some r):ACall Tryd.prog 44 [.d (.v (.int .u8 a0))] [] (.d (.v (.bool r))) []:=by
  rw [ref3_letter] at h
  refine ACall.intro (N:=17) Tryd.func44 rfl rfl rfl rfl rfl fun e=>?_
  refine T_reg [] [0] [] [] 1 (by kernel_rfl) (trivial) ?_
  obtain ⟨z1,hz1,h⟩:=lett_ok h
  refine T_reg [(13,{ rw:=some (dB z1) })] [2] [(2,dB z1)] [(3,((((decide (a0 ≥ (65:Int))) == true) && true)=true→True)),(0,((((decide (a0 ≥ (65:Int))) == true) && true)=true→True)),(2,((((bif (decide (a0 ≥ (65:Int))) then (decide (a0≤(90:Int))) else false) == false) && true)=true→True)),(0,((((bif (decide (a0 ≥ (65:Int))) then (decide (a0≤(90:Int))) else false) == false) && true)=true→True)),(0,((((bif (decide (a0 ≥ (65:Int))) then (decide (a0≤(90:Int))) else false) == false) && true)=true→True)),(0,((((decide (a0 ≥ (97:Int))) == true) && (((bif (decide (a0 ≥ (65:Int))) then (decide (a0≤(90:Int))) else false) == false) && true))=true→True)),(0,((((decide (a0 ≥ (97:Int))) == true) && (((bif (decide (a0 ≥ (65:Int))) then (decide (a0≤(90:Int))) else false) == false) && true))=true→True)),(0,((((bif (decide (a0 ≥ (65:Int))) then (decide (a0≤(90:Int))) else false) == false) && true)=true→True)),(0,(True)∧dB (bif (bif (decide (a0 ≥ (65:Int))) then (decide (a0≤(90:Int))) else false) then true else (bif (decide (a0 ≥ (97:Int))) then (decide (a0≤(122:Int))) else false))=dB z1)] 1 (by kernel_rfl) (⟨(fun hg=>trivial),(fun hg=>trivial),(fun hg=>trivial),(fun hg=>trivial),(fun hg=>trivial),(fun hg=>trivial),(fun hg=>trivial),(fun hg=>trivial),⟨trivial,(by subst hz1; rfl)⟩⟩) ?_
  obtain hs:=Option.some.inj h; subst hs
  refine T_ret fun a w hm=>T_return (fr':=[(2,dB z1)]) [2] (by kernel_rfl) [.keep [2]] (by kernel_rfl) (by kernel_rfl) (by kernel_rfl) (by show _=_; kernel_rfl) (by exact trivial) a w hm
theorem ref3_wordError_ok {F:Nat} {a0:List UInt8} {r:Int} (h:ref3_wordError F a0=some r):ACall Tryd.prog 43 [.d (.str a0)] [] (.d (.v (.int .i64 r))) []:=by
  rw [ref3_wordError] at h
  refine ACall.intro (N:=43) Tryd.func43 rfl rfl rfl rfl rfl fun e=>?_
  refine T_reg [] [0] [] [] 1 (by kernel_rfl) (trivial) ?_
  refine T_seqk ?_
  refine T_reg [] [0,5,6] [(5,dI (a0.length:Int)),(6,dI (0:Int))] [] 3 (by kernel_rfl) (trivial) ?_
  refine T_joinEt h (fun (p:Unit)=>[(0,.d (.str a0))]) (fun s h hk1=>?_) (fun s h=>?_)
  · refine T_co [.keep [0,5,6]] ((fun (p:Int)=>[(0,.d (.str a0)),(5,dI (a0.length:Int)),(6,dI p)]) (0:Int)) (by show _=_; kernel_rfl) ?_
    refine T_block ?_
    refine T_loopF (ι:=Int) (fun (p:Int)=>[(0,.d (.str a0)),(5,dI (a0.length:Int)),(6,dI p)]) (fun n p=>ref3_wordError_L0 F a0 n p=some s) (fun i hh=>by simp [ref3_wordError_L0] at hh) (fun n v1 h=>?_) F (0:Int) h
    have h:ref3_wordError_L0 F a0 (n+1) v1=some s:=h
    rw [ref3_wordError_L0] at h
    refine T_reg [] [0,5,6,7] [(7,dB (decide (v1 < (a0.length:Int))))] [] 1 (by kernel_rfl) (trivial) ?_
    refine T_seqk ?_
    refine T_cond (decide (v1 < (a0.length:Int))) (by kernel_rfl) (fun hc=>?_) (fun hc=>?_)
    · have h:=cond_tt hc h
      refine T_skip fun a w hm=>then_norm (((?_:T Tryd.prog e 43 _ _ _) a w hm))
      refine T_seqk ?_
      refine T_block ?_
      refine T_reg [] [0,3,5,6] [(3,dI v1)] [] 2 (by kernel_rfl) (trivial) ?_
      obtain ⟨hp1,h⟩:=chk_ok h
      obtain ⟨y1,hy1,h⟩:=call_ok h
      obtain ⟨hp2,h⟩:=chk_ok h
      obtain ⟨y2,hy2,h⟩:=call_ok h
      obtain ⟨hp3,h⟩:=chk_ok h
      obtain ⟨z1,hz1,h⟩:=lett_ok h
      obtain ⟨hp4,h⟩:=chk_ok h
      obtain ⟨hp5,h⟩:=chk_ok h
      obtain ⟨z2,hz2,h⟩:=lett_ok h
      refine T_reg [(3,{ res:=dB y1 }),(9,{ res:=dB y2 }),(17,{ rw:=some (dB z1) }),(29,{ rw:=some (dB z2) })] [0,5,6,38] [(38,dB z2)] [(2,0≤v1∧v1 < a0.length),(0,ACall Tryd.prog 44 [.d (.v (.int .u8 ((a0.getD v1.toNat 0).toNat:Int)))] [] (dB y1) []),(2,((((!y1) == true) && true)=true→True)),(0,((((!y1) == true) && true)=true→True)),(0,((((!y1) == true) && true)=true→0≤v1∧v1 < a0.length)),(0,((((!y1) == true) && true)=true→ACall Tryd.prog 42 [.d (.v (.int .u8 ((a0.getD v1.toNat 0).toNat:Int)))] [] (dB y2) [])),(0,((((!y1) == true) && true)=true→True)),(2,((((bif (!y1) then (!y2) else false) == true) && true)=true→True)),(0,((((bif (!y1) then (!y2) else false) == true) && true)=true→True)),(0,((((bif (!y1) then (!y2) else false) == true) && true)=true→0≤v1∧v1 < a0.length)),(0,((((bif (!y1) then (!y2) else false) == true) && true)=true→True)),(0,(True)∧dB (bif (bif (!y1) then (!y2) else false) then (((a0.getD v1.toNat 0).toNat:Int) != (42:Int)) else false)=dB z1),(1,(((z1 == true) && true)=true→True)),(0,(((z1 == true) && true)=true→True)),(0,(((z1 == true) && true)=true→0≤v1∧v1 < a0.length)),(0,(((z1 == true) && true)=true→True)),(2,((((bif z1 then (((a0.getD v1.toNat 0).toNat:Int) != (95:Int)) else false) == true) && true)=true→True)),(0,((((bif z1 then (((a0.getD v1.toNat 0).toNat:Int) != (95:Int)) else false) == true) && true)=true→True)),(0,((((bif z1 then (((a0.getD v1.toNat 0).toNat:Int) != (95:Int)) else false) == true) && true)=true→0≤v1∧v1 < a0.length)),(0,((((bif z1 then (((a0.getD v1.toNat 0).toNat:Int) != (95:Int)) else false) == true) && true)=true→True)),(0,(True)∧dB (bif (bif z1 then (((a0.getD v1.toNat 0).toNat:Int) != (95:Int)) else false) then (((a0.getD v1.toNat 0).toNat:Int) != (46:Int)) else false)=dB z2)] 0 (by kernel_rfl) (⟨hp1,ref3_letter_ok hy1,(fun hg=>trivial),(fun hg=>trivial),(fun hg=>(hp2 hg)),(fun hg=>ref3_digit_ok (gcall_ok hg hy2)),(fun hg=>trivial),(fun hg=>trivial),(fun hg=>trivial),(fun hg=>(hp3 hg)),(fun hg=>trivial),⟨trivial,(by subst hz1; rfl)⟩,(fun hg=>trivial),(fun hg=>trivial),(fun hg=>(hp4 hg)),(fun hg=>trivial),(fun hg=>trivial),(fun hg=>trivial),(fun hg=>(hp5 hg)),(fun hg=>trivial),⟨trivial,(by subst hz2; rfl)⟩⟩) ?_
      refine T_cond z2 (by kernel_rfl) (fun hc=>?_) (fun hc=>?_)
      · have h:=cond_tt hc h
        refine T_reg [] [2] [(2,dI (5:Int))] [] 1 (by kernel_rfl) (trivial) ?_
        obtain hs:=Option.some.inj h; subst hs
        have h:=callE_esc hk1
        obtain hs:=Option.some.inj h; subst hs
        refine T_ret fun a w hm=>inBlock_ret (then_ret (then_ret (inBlock_ret (then_ret (then_ret (T_return (fr':=[(2,dI (5:Int))]) [2] (by kernel_rfl) [.keep [2]] (by kernel_rfl) (by kernel_rfl) (by kernel_rfl) (by show _=_; kernel_rfl) (by exact trivial) a w hm))))))
      · have h:=cond_ff hc h
        refine T_skip fun a w hm=>inBlock_norm (then_norm (((?_:T Tryd.prog e 43 _ _ _) a w hm)))
        refine T_reg_end [] [0,5,6] [(6,dI (IntKind.i64.wrap (v1+(1:Int))))] [] 2 (by kernel_rfl) (trivial) fun a w hm=>then_norm (⟨IntKind.i64.wrap (v1+(1:Int)),h,hm.co (cs:=[.keep [0,5,6]]) (by show _=_; kernel_rfl)⟩)
    · have h:=cond_ff hc h
      obtain hs:=Option.some.inj h; subst hs
      refine T_exit fun a w hm=>then_exit (then_exit (inBlock_exit (then_norm (⟨_,rfl,hm.co (cs:=[.keep [0]]) (by show _=_; kernel_rfl)⟩))))
  · skip
    refine fun a w hm=>then_norm (((?_:T Tryd.prog e 43 _ _ _) a w hm))
    refine T_seqk ?_
    refine T_reg [] [42] [(42,dB (decide ((a0.length:Int) > (31:Int))))] [] 3 (by kernel_rfl) (trivial) ?_
    refine T_cond (decide ((a0.length:Int) > (31:Int))) (by kernel_rfl) (fun hc=>?_) (fun hc=>?_)
    · have h:=cond_tt hc h
      refine T_reg [] [2] [(2,dI (2:Int))] [] 1 (by kernel_rfl) (trivial) ?_
      obtain hs:=Option.some.inj h; subst hs
      refine T_ret fun a w hm=>then_ret (T_return (fr':=[(2,dI (2:Int))]) [2] (by kernel_rfl) [.keep [2]] (by kernel_rfl) (by kernel_rfl) (by kernel_rfl) (by show _=_; kernel_rfl) (by exact trivial) a w hm)
    · have h:=cond_ff hc h
      refine T_skip fun a w hm=>then_norm (((?_:T Tryd.prog e 43 _ _ _) a w hm))
      refine T_reg [] [2] [(2,dI (0:Int))] [] 1 (by kernel_rfl) (trivial) ?_
      obtain hs:=Option.some.inj h; subst hs
      refine T_ret fun a w hm=>T_return (fr':=[(2,dI (0:Int))]) [2] (by kernel_rfl) [.keep [2]] (by kernel_rfl) (by kernel_rfl) (by kernel_rfl) (by show _=_; kernel_rfl) (by exact trivial) a w hm
theorem ref3_Decimal_ok {F:Nat} {a0:Int} {r:(List UInt8)} (h:ref3_Decimal F a0=some r):ACall Tryd.prog 27 [.d (.v (.int .i64 a0))] [] (.d (.str r)) []:=by
  rw [ref3_Decimal] at h
  refine ACall.intro (N:=31) Tryd.func27 rfl rfl rfl rfl rfl fun e=>?_
  refine T_reg [] [0] [] [] 1 (by kernel_rfl) (trivial) ?_
  refine T_seqk ?_
  refine T_reg [] [0,7] [(7,dB (a0 == (0:Int)))] [] 2 (by kernel_rfl) (trivial) ?_
  refine T_cond (a0 == (0:Int)) (by kernel_rfl) (fun hc=>?_) (fun hc=>?_)
  · have h:=cond_tt hc h
    refine T_reg [] [2] [(2,.d (.str ([48]:List UInt8)))] [] 1 (by kernel_rfl) (trivial) ?_
    obtain hs:=Option.some.inj h; subst hs
    refine T_ret fun a w hm=>then_ret (T_return (fr':=[(2,.d (.str ([48]:List UInt8)))]) [2] (by kernel_rfl) [.keep [2]] (by kernel_rfl) (by kernel_rfl) (by kernel_rfl) (by show _=_; kernel_rfl) (by exact trivial) a w hm)
  · have h:=cond_ff hc h
    refine T_skip fun a w hm=>then_norm (((?_:T Tryd.prog e 31 _ _ _) a w hm))
    refine T_reg [] [0,3,4] [(3,.d (.str [])),(4,dB (decide (a0 < (0:Int))))] [] 4 (by kernel_rfl) (trivial) ?_
    refine T_joinc h (fun (p:(List UInt8))=>[(3,.d (.str p)),(4,dB (decide (a0 < (0:Int))))]) (fun s h=>?_) (fun v4 h=>?_)
    · refine T_co [.keep [0,3,4]] ((fun (p:Int×(List UInt8))=>[(0,dI p.1),(3,.d (.str p.2)),(4,dB (decide (a0 < (0:Int))))]) (a0,[])) (by show _=_; kernel_rfl) ?_
      refine T_block ?_
      refine T_loopF (ι:=Int×(List UInt8)) (fun (p:Int×(List UInt8))=>[(0,dI p.1),(3,.d (.str p.2)),(4,dB (decide (a0 < (0:Int))))]) (fun n p=>ref3_Decimal_L0 F n p.1 p.2=some s) (fun i hh=>by simp [ref3_Decimal_L0] at hh) (fun n p h=>?_) F (a0,[]) h
      obtain ⟨v1,v2⟩:=p
      have h:ref3_Decimal_L0 F (n+1) v1 v2=some s:=h
      rw [ref3_Decimal_L0] at h
      refine T_seqk ?_
      refine T_reg [] [0,3,4,11] [(11,dB (v1 != (0:Int)))] [] 2 (by kernel_rfl) (trivial) ?_
      refine T_cond (v1 != (0:Int)) (by kernel_rfl) (fun hc=>?_) (fun hc=>?_)
      · have h:=cond_tt hc h
        refine T_skip fun a w hm=>then_norm (((?_:T Tryd.prog e 31 _ _ _) a w hm))
        refine T_block ?_
        refine T_reg [] [0,3,4,5] [(5,dI (v1.tmod (10:Int)))] [(1,(10:Int)≠0)] 1 (by kernel_rfl) ((show (10:Int)≠0 by decide)) ?_
        refine T_joinc h (fun (p:Int)=>[(0,dI v1),(3,.d (.str v2)),(4,dB (decide (a0 < (0:Int)))),(5,dI p)]) (fun s h=>?_) (fun v3 h=>?_)
        · refine T_reg [] [0,3,4,5,15] [(15,dB (decide ((v1.tmod (10:Int)) < (0:Int))))] [] 2 (by kernel_rfl) (trivial) ?_
          refine T_cond (decide ((v1.tmod (10:Int)) < (0:Int))) (by kernel_rfl) (fun hc=>?_) (fun hc=>?_)
          · have h:=cond_tt hc h
            obtain hs:=Option.some.inj h; subst hs
            refine T_reg_end [] [0,3,4,5] [(5,dI (IntKind.i64.wrap (0 - (v1.tmod (10:Int)))))] [] 3 (by kernel_rfl) (trivial) fun a w hm=>then_norm (hm.co (cs:=[.keep [0,3,4,5]]) (by show _=_; kernel_rfl))
          · have h:=cond_ff hc h
            obtain hs:=Option.some.inj h; subst hs
            refine T_skip fun a w hm=>then_norm (hm.co (cs:=[.keep [0,3,4,5]]) (by show _=_; kernel_rfl))
        · skip
          obtain ⟨hp1,h⟩:=chk_ok h
          obtain ⟨hp2,h⟩:=chk_ok h
          refine T_reg [(3,{ es:=some (([(UInt8.ofNat (IntKind.u8.wrap (IntKind.i64.wrap ((48:Int)+v3))).toNat)]).map cU) }),(4,{ cs:=[.str ([(UInt8.ofNat (IntKind.u8.wrap (IntKind.i64.wrap ((48:Int)+v3))).toNat)])] })] [0,3,4] [(3,.d (.str (([(UInt8.ofNat (IntKind.u8.wrap (IntKind.i64.wrap ((48:Int)+v3))).toNat)])++v2)))] [(3,[[Dat.v (.int .u8 (IntKind.u8.wrap (IntKind.i64.wrap ((48:Int)+v3))))]]=(([(UInt8.ofNat (IntKind.u8.wrap (IntKind.i64.wrap ((48:Int)+v3))).toNat)]).map cU)),(0,(([(UInt8.ofNat (IntKind.u8.wrap (IntKind.i64.wrap ((48:Int)+v3))).toNat)]).map cU)=byteCells ([(UInt8.ofNat (IntKind.u8.wrap (IntKind.i64.wrap ((48:Int)+v3))).toNat)])),(1,([(UInt8.ofNat (IntKind.u8.wrap (IntKind.i64.wrap ((48:Int)+v3))).toNat)]).length+v2.length≤9223372036854775807)] 1 (by kernel_rfl) (⟨(lit_u hp1 (rfl:([]:List (List Dat))=([]:List UInt8).map cU)),rfl,hp2⟩) ?_
          refine T_reg_end [] [0,3,4] [(0,dI (IntKind.i64.wrap (v1.tdiv (10:Int))))] [(1,(10:Int)≠0)] 1 (by kernel_rfl) ((show (10:Int)≠0 by decide)) fun a w hm=>inBlock_norm (then_norm (⟨(IntKind.i64.wrap (v1.tdiv (10:Int)),(([(UInt8.ofNat (IntKind.u8.wrap (IntKind.i64.wrap ((48:Int)+v3))).toNat)])++v2)),h,hm.co (cs:=[.keep [0,3,4]]) (by show _=_; kernel_rfl)⟩))
      · have h:=cond_ff hc h
        obtain hs:=Option.some.inj h; subst hs
        refine T_exit fun a w hm=>then_exit (then_exit (inBlock_exit (then_norm (hm.co (cs:=[.keep [3,4]]) (by show _=_; kernel_rfl)))))
    · skip
      refine T_seqk ?_
      refine T_reg [] [3,27] [(27,dB (decide (a0 < (0:Int))))] [] 1 (by kernel_rfl) (trivial) ?_
      refine T_cond (decide (a0 < (0:Int))) (by kernel_rfl) (fun hc=>?_) (fun hc=>?_)
      · have h:=cond_tt hc h
        obtain ⟨hp3,h⟩:=chk_ok h
        refine T_reg [] [2] [(2,.d (.str (([45]:List UInt8)++v4)))] [(1,([45]:List UInt8).length+v4.length≤9223372036854775807)] 1 (by kernel_rfl) (hp3) ?_
        obtain hs:=Option.some.inj h; subst hs
        refine T_ret fun a w hm=>then_ret (T_return (fr':=[(2,.d (.str (([45]:List UInt8)++v4)))]) [2] (by kernel_rfl) [.keep [2]] (by kernel_rfl) (by kernel_rfl) (by kernel_rfl) (by show _=_; kernel_rfl) (by exact trivial) a w hm)
      · have h:=cond_ff hc h
        refine T_skip fun a w hm=>then_norm (((?_:T Tryd.prog e 31 _ _ _) a w hm))
        refine T_reg [] [2] [(2,.d (.str v4))] [] 2 (by kernel_rfl) (trivial) ?_
        obtain hs:=Option.some.inj h; subst hs
        refine T_ret fun a w hm=>T_return (fr':=[(2,.d (.str v4))]) [2] (by kernel_rfl) [.keep [2]] (by kernel_rfl) (by kernel_rfl) (by kernel_rfl) (by show _=_; kernel_rfl) (by exact trivial) a w hm
theorem ref3_Spelled_ok {F:Nat} {a0:S_Token} {r:(List UInt8)×Int} (h:ref3_Spelled F a0=some r):ACall Tryd.prog 23 [.agg (cS_Token a0)] [] (.tup [.d (.str r.1),.d (.v (.int .i64 r.2))]) []:=by
  rw [ref3_Spelled] at h
  refine ACall.intro (N:=283) Tryd.func23 rfl rfl rfl rfl rfl fun e=>?_
  refine T_reg [] [1] [(1,bx_Token a0)] [] 3 (by kernel_rfl) (trivial) ?_
  refine T_reg [] [1,4] [(4,dB (bif (a0.f0 == (1:Int)) then true else (a0.f0 == (4:Int))))] [(4,((((a0.f0 == (1:Int)) == false) && true)=true→True)),(0,((((a0.f0 == (1:Int)) == false) && true)=true→True)),(0,((((a0.f0 == (1:Int)) == false) && true)=true→True))] 2 (by kernel_rfl) (⟨(fun hg=>trivial),(fun hg=>trivial),(fun hg=>trivial)⟩) ?_
  obtain ⟨z7,hz1,h⟩:=lett_ok h
  refine T_reg [(12,{ rw:=some (dB z7) })] [1,4,5] [(5,dB z7)] [(4,((((a0.f0 == (2:Int)) == false) && true)=true→True)),(0,((((a0.f0 == (2:Int)) == false) && true)=true→True)),(0,((((a0.f0 == (2:Int)) == false) && true)=true→True)),(2,((((bif (a0.f0 == (2:Int)) then true else (a0.f0 == (3:Int))) == false) && true)=true→True)),(0,((((bif (a0.f0 == (2:Int)) then true else (a0.f0 == (3:Int))) == false) && true)=true→True)),(0,((((bif (a0.f0 == (2:Int)) then true else (a0.f0 == (3:Int))) == false) && true)=true→True)),(0,(True)∧dB (bif (bif (a0.f0 == (2:Int)) then true else (a0.f0 == (3:Int))) then true else (a0.f0 == (5:Int)))=dB z7)] 1 (by kernel_rfl) (⟨(fun hg=>trivial),(fun hg=>trivial),(fun hg=>trivial),(fun hg=>trivial),(fun hg=>trivial),(fun hg=>trivial),⟨trivial,(by subst hz1; rfl)⟩⟩) ?_
  refine T_seqk ?_
  refine T_reg [] [1,4,5,41] [(41,dB (bif (decide (a0.f0 < (1:Int))) then true else (decide (a0.f0 > (9:Int)))))] [(4,((((decide (a0.f0 < (1:Int))) == false) && true)=true→True)),(0,((((decide (a0.f0 < (1:Int))) == false) && true)=true→True)),(0,((((decide (a0.f0 < (1:Int))) == false) && true)=true→True))] 1 (by kernel_rfl) (⟨(fun hg=>trivial),(fun hg=>trivial),(fun hg=>trivial)⟩) ?_
  refine T_cond (bif (decide (a0.f0 < (1:Int))) then true else (decide (a0.f0 > (9:Int)))) (by kernel_rfl) (fun hc=>?_) (fun hc=>?_)
  · have h:=cond_tt hc h
    refine T_reg [] [2,3] [(2,.d (.str [])),(3,dI (14:Int))] [] 2 (by kernel_rfl) (trivial) ?_
    obtain hs:=Option.some.inj h; subst hs
    refine T_ret fun a w hm=>then_ret (T_return (fr':=[(2,.d (.str [])),(3,dI (14:Int))]) [2,3] (by kernel_rfl) [.keep [2,3]] (by kernel_rfl) (by kernel_rfl) (by kernel_rfl) (by show _=_; kernel_rfl) (by exact trivial) a w hm)
  · have h:=cond_ff hc h
    refine T_skip fun a w hm=>then_norm (((?_:T Tryd.prog e 283 _ _ _) a w hm))
    refine T_seqk ?_
    obtain ⟨z8,hz2,h⟩:=lett_ok h
    refine T_reg [(6,{ rw:=some (dB z8) })] [1,57] [(57,dB (bif z8 then true else (bif (!z7) then (!(a0.f2 == [])) else false)))] [(3,((((!(bif (a0.f0 == (1:Int)) then true else (a0.f0 == (4:Int)))) == true) && true)=true→True)),(0,((((!(bif (a0.f0 == (1:Int)) then true else (a0.f0 == (4:Int)))) == true) && true)=true→True)),(0,((((!(bif (a0.f0 == (1:Int)) then true else (a0.f0 == (4:Int)))) == true) && true)=true→True)),(0,(True)∧dB (bif (!(bif (a0.f0 == (1:Int)) then true else (a0.f0 == (4:Int)))) then (a0.f1 != (0:Int)) else false)=dB z8),(1,(((z8 == false) && true)=true→True)),(0,(((z8 == false) && true)=true→True)),(0,(((z8 == false) && true)=true→True)),(0,((((!z7) == true) && ((z8 == false) && true))=true→True)),(0,((((!z7) == true) && ((z8 == false) && true))=true→True)),(0,((((!z7) == true) && ((z8 == false) && true))=true→True)),(0,(((z8 == false) && true)=true→True))] 1 (by kernel_rfl) (⟨(fun hg=>trivial),(fun hg=>trivial),(fun hg=>trivial),⟨trivial,(by subst hz2; rfl)⟩,(fun hg=>trivial),(fun hg=>trivial),(fun hg=>trivial),(fun hg=>trivial),(fun hg=>trivial),(fun hg=>trivial),(fun hg=>trivial)⟩) ?_
    refine T_cond (bif z8 then true else (bif (!z7) then (!(a0.f2 == [])) else false)) (by kernel_rfl) (fun hc=>?_) (fun hc=>?_)
    · have h:=cond_tt hc h
      refine T_reg [] [2,3] [(2,.d (.str [])),(3,dI (4:Int))] [] 2 (by kernel_rfl) (trivial) ?_
      obtain hs:=Option.some.inj h; subst hs
      refine T_ret fun a w hm=>then_ret (T_return (fr':=[(2,.d (.str [])),(3,dI (4:Int))]) [2,3] (by kernel_rfl) [.keep [2,3]] (by kernel_rfl) (by kernel_rfl) (by kernel_rfl) (by show _=_; kernel_rfl) (by exact trivial) a w hm)
    · have h:=cond_ff hc h
      refine T_skip fun a w hm=>then_norm (((?_:T Tryd.prog e 283 _ _ _) a w hm))
      refine T_joinE h (fun (p:Unit)=>[(1,bx_Token a0)]) (fun s h hk1=>?_) (fun s h=>?_)
      · refine T_reg [] [1,60] [(60,dB (a0.f0 == (2:Int)))] [] 3 (by kernel_rfl) (trivial) ?_
        refine T_cond (a0.f0 == (2:Int)) (by kernel_rfl) (fun hc=>?_) (fun hc=>?_)
        · have h:=cond_tt hc h
          refine T_reg [] [1,6] [(6,dB (a0.f2 == []))] [] 4 (by kernel_rfl) (trivial) ?_
          refine T_seqk ?_
          refine T_reg [] [1,6,66,67] [(66,dI (a0.f2.length:Int)),(67,dI (0:Int))] [] 4 (by kernel_rfl) (trivial) ?_
          refine T_joinct h (fun (p:Bool)=>[(1,bx_Token a0),(6,dB p)]) (fun s h=>?_) (fun v6 h=>?_)
          · refine T_co [.keep [1,6,66,67]] ((fun (p:Bool×Int)=>[(1,bx_Token a0),(6,dB p.1),(66,dI (a0.f2.length:Int)),(67,dI p.2)]) ((a0.f2 == []),(0:Int))) (by show _=_; kernel_rfl) ?_
            refine T_block ?_
            refine T_loopF (ι:=Bool×Int) (fun (p:Bool×Int)=>[(1,bx_Token a0),(6,dB p.1),(66,dI (a0.f2.length:Int)),(67,dI p.2)]) (fun n p=>ref3_Spelled_L0 F a0 n p.1 p.2=some s) (fun i hh=>by simp [ref3_Spelled_L0] at hh) (fun n p h=>?_) F ((a0.f2 == []),(0:Int)) h
            obtain ⟨v1,v2⟩:=p
            have h:ref3_Spelled_L0 F a0 (n+1) v1 v2=some s:=h
            rw [ref3_Spelled_L0] at h
            refine T_reg [] [1,6,66,67,68] [(68,dB (decide (v2 < (a0.f2.length:Int))))] [] 1 (by kernel_rfl) (trivial) ?_
            refine T_seqk ?_
            refine T_cond (decide (v2 < (a0.f2.length:Int))) (by kernel_rfl) (fun hc=>?_) (fun hc=>?_)
            · have h:=cond_tt hc h
              refine T_skip fun a w hm=>then_norm (((?_:T Tryd.prog e 283 _ _ _) a w hm))
              refine T_seqk ?_
              refine T_block ?_
              refine T_reg [] [1,6,7,66,67] [(7,dI v2)] [] 2 (by kernel_rfl) (trivial) ?_
              obtain ⟨hp1,h⟩:=chk_ok h
              refine T_reg_end [] [1,6,66,67] [(6,dB (bif v1 then true else (((a0.f2.getD v2.toNat 0).toNat:Int) == (0:Int))))] [(2,(((v1 == false) && true)=true→True)),(0,(((v1 == false) && true)=true→True)),(0,(((v1 == false) && true)=true→True)),(0,(((v1 == false) && true)=true→0≤v2∧v2 < a0.f2.length)),(0,(((v1 == false) && true)=true→True))] 2 (by kernel_rfl) (⟨(fun hg=>trivial),(fun hg=>trivial),(fun hg=>trivial),(fun hg=>(hp1 hg)),(fun hg=>trivial)⟩) fun a w hm=>inBlock_norm (then_norm (((?_:T Tryd.prog e 283 _ _ _) a w hm)))
              refine T_reg_end [] [1,6,66,67] [(67,dI (IntKind.i64.wrap (v2+(1:Int))))] [] 2 (by kernel_rfl) (trivial) fun a w hm=>then_norm (⟨((bif v1 then true else (((a0.f2.getD v2.toNat 0).toNat:Int) == (0:Int))),IntKind.i64.wrap (v2+(1:Int))),h,hm.co (cs:=[.keep [1,6,66,67]]) (by show _=_; kernel_rfl)⟩)
            · have h:=cond_ff hc h
              obtain hs:=Option.some.inj h; subst hs
              refine T_exit fun a w hm=>then_exit (then_exit (inBlock_exit (then_norm (hm.co (cs:=[.keep [1,6]]) (by show _=_; kernel_rfl)))))
          · skip
            refine fun a w hm=>then_norm (((?_:T Tryd.prog e 283 _ _ _) a w hm))
            refine T_reg [] [1,79] [(79,dB v6)] [] 1 (by kernel_rfl) (trivial) ?_
            refine T_cond v6 (by kernel_rfl) (fun hc=>?_) (fun hc=>?_)
            · have h:=cond_tt hc h
              refine T_reg [] [2,3] [(2,.d (.str [])),(3,dI (4:Int))] [] 2 (by kernel_rfl) (trivial) ?_
              obtain hs:=Option.some.inj h; subst hs
              have h:=callE_esc hk1
              obtain hs:=Option.some.inj h; subst hs
              refine T_ret fun a w hm=>then_ret (T_return (fr':=[(2,.d (.str [])),(3,dI (4:Int))]) [2,3] (by kernel_rfl) [.keep [2,3]] (by kernel_rfl) (by kernel_rfl) (by kernel_rfl) (by show _=_; kernel_rfl) (by exact trivial) a w hm)
            · have h:=cond_ff hc h
              obtain hs:=Option.some.inj h; subst hs
              refine T_skip fun a w hm=>then_norm (⟨_,rfl,hm.co (cs:=[.keep [1]]) (by show _=_; kernel_rfl)⟩)
        · have h:=cond_ff hc h
          obtain hs:=Option.some.inj h; subst hs
          refine T_skip fun a w hm=>then_norm (⟨_,rfl,hm.co (cs:=[.keep [1]]) (by show _=_; kernel_rfl)⟩)
      · skip
        refine T_seqk ?_
        obtain ⟨z9,hz3,h⟩:=lett_ok h
        obtain ⟨z10,hz4,h⟩:=lett_ok h
        refine T_reg [(12,{ rw:=some (dB z9) }),(26,{ rw:=some (dB z10) })] [1,107] [(107,dB (bif z9 then true else z10))] [(4,((((a0.f0 == (1:Int)) == true) && true)=true→True)),(0,((((a0.f0 == (1:Int)) == true) && true)=true→True)),(0,((((a0.f0 == (1:Int)) == true) && true)=true→True)),(0,((((a0.f0 == (1:Int)) == true) && true)=true→True)),(0,((((decide (a0.f1 > (2147483647:Int))) == false) && (((a0.f0 == (1:Int)) == true) && true))=true→True)),(0,((((decide (a0.f1 > (2147483647:Int))) == false) && (((a0.f0 == (1:Int)) == true) && true))=true→True)),(0,((((decide (a0.f1 > (2147483647:Int))) == false) && (((a0.f0 == (1:Int)) == true) && true))=true→True)),(0,((((a0.f0 == (1:Int)) == true) && true)=true→True)),(0,(True)∧dB (bif (a0.f0 == (1:Int)) then (bif (decide (a0.f1 > (2147483647:Int))) then true else (decide (a0.f1 < (-2147483647:Int)))) else false)=dB z9),(1,(((z9 == false) && true)=true→True)),(0,(((z9 == false) && true)=true→True)),(0,(((z9 == false) && true)=true→True)),(0,(((z9 == false) && true)=true→True)),(0,((((a0.f0 == (4:Int)) == true) && ((z9 == false) && true))=true→True)),(0,((((a0.f0 == (4:Int)) == true) && ((z9 == false) && true))=true→True)),(0,((((a0.f0 == (4:Int)) == true) && ((z9 == false) && true))=true→True)),(0,((((a0.f0 == (4:Int)) == true) && ((z9 == false) && true))=true→True)),(0,((((decide (a0.f1 > (255:Int))) == false) && (((a0.f0 == (4:Int)) == true) && ((z9 == false) && true)))=true→True)),(0,((((decide (a0.f1 > (255:Int))) == false) && (((a0.f0 == (4:Int)) == true) && ((z9 == false) && true)))=true→True)),(0,((((decide (a0.f1 > (255:Int))) == false) && (((a0.f0 == (4:Int)) == true) && ((z9 == false) && true)))=true→True)),(0,((((a0.f0 == (4:Int)) == true) && ((z9 == false) && true))=true→True)),(0,(((z9 == false) && true)=true→(True)∧dB (bif (a0.f0 == (4:Int)) then (bif (decide (a0.f1 > (255:Int))) then true else (decide (a0.f1 < (1:Int)))) else false)=dB z10))] 1 (by kernel_rfl) (⟨(fun hg=>trivial),(fun hg=>trivial),(fun hg=>trivial),(fun hg=>trivial),(fun hg=>trivial),(fun hg=>trivial),(fun hg=>trivial),(fun hg=>trivial),⟨trivial,(by subst hz3; rfl)⟩,(fun hg=>trivial),(fun hg=>trivial),(fun hg=>trivial),(fun hg=>trivial),(fun hg=>trivial),(fun hg=>trivial),(fun hg=>trivial),(fun hg=>trivial),(fun hg=>trivial),(fun hg=>trivial),(fun hg=>trivial),(fun hg=>trivial),(fun hg=>⟨trivial,(by subst hz4; rfl)⟩)⟩) ?_
        refine T_cond (bif z9 then true else z10) (by kernel_rfl) (fun hc=>?_) (fun hc=>?_)
        · have h:=cond_tt hc h
          refine T_reg [] [2,3] [(2,.d (.str [])),(3,dI (3:Int))] [] 2 (by kernel_rfl) (trivial) ?_
          obtain hs:=Option.some.inj h; subst hs
          refine T_ret fun a w hm=>then_ret (T_return (fr':=[(2,.d (.str [])),(3,dI (3:Int))]) [2,3] (by kernel_rfl) [.keep [2,3]] (by kernel_rfl) (by kernel_rfl) (by kernel_rfl) (by show _=_; kernel_rfl) (by exact trivial) a w hm)
        · have h:=cond_ff hc h
          refine T_skip fun a w hm=>then_norm (((?_:T Tryd.prog e 283 _ _ _) a w hm))
          refine T_seqk ?_
          obtain ⟨z11,hz5,h⟩:=lett_ok h
          refine T_reg [(19,{ rw:=some (dB z11) })] [1,127] [(127,dB z11)] [(4,((((a0.f0 == (2:Int)) == true) && true)=true→True)),(0,((((a0.f0 == (2:Int)) == true) && true)=true→True)),(0,((((a0.f0 == (2:Int)) == true) && true)=true→True)),(0,((((a0.f0 == (2:Int)) == true) && true)=true→True)),(2,((((bif (a0.f0 == (2:Int)) then (decide ((a0.f2.length:Int) > (31:Int))) else false) == false) && true)=true→True)),(0,((((bif (a0.f0 == (2:Int)) then (decide ((a0.f2.length:Int) > (31:Int))) else false) == false) && true)=true→True)),(0,((((bif (a0.f0 == (2:Int)) then (decide ((a0.f2.length:Int) > (31:Int))) else false) == false) && true)=true→True)),(0,((((bif (a0.f0 == (2:Int)) then (decide ((a0.f2.length:Int) > (31:Int))) else false) == false) && true)=true→True)),(0,((((a0.f0 == (3:Int)) == true) && (((bif (a0.f0 == (2:Int)) then (decide ((a0.f2.length:Int) > (31:Int))) else false) == false) && true))=true→True)),(0,((((a0.f0 == (3:Int)) == true) && (((bif (a0.f0 == (2:Int)) then (decide ((a0.f2.length:Int) > (31:Int))) else false) == false) && true))=true→True)),(0,((((a0.f0 == (3:Int)) == true) && (((bif (a0.f0 == (2:Int)) then (decide ((a0.f2.length:Int) > (31:Int))) else false) == false) && true))=true→True)),(0,((((a0.f0 == (3:Int)) == true) && (((bif (a0.f0 == (2:Int)) then (decide ((a0.f2.length:Int) > (31:Int))) else false) == false) && true))=true→True)),(0,((((bif (a0.f0 == (2:Int)) then (decide ((a0.f2.length:Int) > (31:Int))) else false) == false) && true)=true→True)),(0,(True)∧dB (bif (bif (a0.f0 == (2:Int)) then (decide ((a0.f2.length:Int) > (31:Int))) else false) then true else (bif (a0.f0 == (3:Int)) then (decide ((a0.f2.length:Int) > (1024:Int))) else false))=dB z11)] 0 (by kernel_rfl) (⟨(fun hg=>trivial),(fun hg=>trivial),(fun hg=>trivial),(fun hg=>trivial),(fun hg=>trivial),(fun hg=>trivial),(fun hg=>trivial),(fun hg=>trivial),(fun hg=>trivial),(fun hg=>trivial),(fun hg=>trivial),(fun hg=>trivial),(fun hg=>trivial),⟨trivial,(by subst hz5; rfl)⟩⟩) ?_
          refine T_cond z11 (by kernel_rfl) (fun hc=>?_) (fun hc=>?_)
          · have h:=cond_tt hc h
            refine T_reg [] [2,3] [(2,.d (.str [])),(3,dI (2:Int))] [] 2 (by kernel_rfl) (trivial) ?_
            obtain hs:=Option.some.inj h; subst hs
            refine T_ret fun a w hm=>then_ret (T_return (fr':=[(2,.d (.str [])),(3,dI (2:Int))]) [2,3] (by kernel_rfl) [.keep [2,3]] (by kernel_rfl) (by kernel_rfl) (by kernel_rfl) (by show _=_; kernel_rfl) (by exact trivial) a w hm)
          · have h:=cond_ff hc h
            refine T_skip fun a w hm=>then_norm (((?_:T Tryd.prog e 283 _ _ _) a w hm))
            refine T_seqk ?_
            refine T_reg [] [1,130] [(130,dB (a0.f0 == (5:Int)))] [] 3 (by kernel_rfl) (trivial) ?_
            refine T_cond (a0.f0 == (5:Int)) (by kernel_rfl) (fun hc=>?_) (fun hc=>?_)
            · have h:=cond_tt hc h
              refine T_seqk ?_
              obtain ⟨hp2,h⟩:=chk_ok h
              obtain ⟨y3,hy1,h⟩:=call_ok h
              obtain ⟨y4,hy2,h⟩:=call_ok h
              refine T_reg [(7,{ res:=dB y3 }),(12,{ res:=dI y4 })] [1,145] [(145,dB (bif (bif (a0.f2 == []) then true else y3) then true else (y4 == (5:Int))))] [(4,((((a0.f2 == []) == false) && true)=true→True)),(0,((((a0.f2 == []) == false) && true)=true→True)),(0,((((a0.f2 == []) == false) && true)=true→0≤(0:Int)∧(0:Int) < a0.f2.length)),(0,((((a0.f2 == []) == false) && true)=true→ACall Tryd.prog 42 [.d (.v (.int .u8 ((a0.f2.getD (0:Int).toNat 0).toNat:Int)))] [] (dB y3) [])),(2,((((bif (a0.f2 == []) then true else y3) == false) && true)=true→True)),(0,((((bif (a0.f2 == []) then true else y3) == false) && true)=true→True)),(0,((((bif (a0.f2 == []) then true else y3) == false) && true)=true→ACall Tryd.prog 43 [.d (.str a0.f2)] [] (dI y4) [])),(0,((((bif (a0.f2 == []) then true else y3) == false) && true)=true→True))] 1 (by kernel_rfl) (⟨(fun hg=>trivial),(fun hg=>trivial),(fun hg=>(hp2 hg)),(fun hg=>ref3_digit_ok (gcall_ok hg hy1)),(fun hg=>trivial),(fun hg=>trivial),(fun hg=>ref3_wordError_ok (gcall_ok hg hy2)),(fun hg=>trivial)⟩) ?_
              refine T_cond (bif (bif (a0.f2 == []) then true else y3) then true else (y4 == (5:Int))) (by kernel_rfl) (fun hc=>?_) (fun hc=>?_)
              · have h:=cond_tt hc h
                refine T_reg [] [2,3] [(2,.d (.str [])),(3,dI (4:Int))] [] 2 (by kernel_rfl) (trivial) ?_
                obtain hs:=Option.some.inj h; subst hs
                refine T_ret fun a w hm=>then_ret (then_ret (T_return (fr':=[(2,.d (.str [])),(3,dI (4:Int))]) [2,3] (by kernel_rfl) [.keep [2,3]] (by kernel_rfl) (by kernel_rfl) (by kernel_rfl) (by show _=_; kernel_rfl) (by exact trivial) a w hm))
              · have h:=cond_ff hc h
                refine T_skip fun a w hm=>then_norm (((?_:T Tryd.prog e 283 _ _ _) a w hm))
                refine T_seqk ?_
                obtain ⟨y5,hy3,h⟩:=call_ok h
                refine T_reg [(2,{ res:=dI y5 })] [1,8] [(8,dI y5)] [(2,ACall Tryd.prog 43 [.d (.str a0.f2)] [] (dI y5) [])] 1 (by kernel_rfl) (ref3_wordError_ok hy3) ?_
                refine T_reg [] [1,8,150] [(150,dB (y5 != (0:Int)))] [] 2 (by kernel_rfl) (trivial) ?_
                refine T_cond (y5 != (0:Int)) (by kernel_rfl) (fun hc=>?_) (fun hc=>?_)
                · have h:=cond_tt hc h
                  refine T_reg [] [2,3] [(2,.d (.str [])),(3,dI y5)] [] 3 (by kernel_rfl) (trivial) ?_
                  obtain hs:=Option.some.inj h; subst hs
                  refine T_ret fun a w hm=>then_ret (then_ret (T_return (fr':=[(2,.d (.str [])),(3,dI y5)]) [2,3] (by kernel_rfl) [.keep [2,3]] (by kernel_rfl) (by kernel_rfl) (by kernel_rfl) (by show _=_; kernel_rfl) (by exact trivial) a w hm))
                · have h:=cond_ff hc h
                  refine T_skip fun a w hm=>then_norm (((?_:T Tryd.prog e 283 _ _ _) a w hm))
                  refine T_reg [] [2,3] [(2,.d (.str a0.f2)),(3,dI (0:Int))] [] 4 (by kernel_rfl) (trivial) ?_
                  obtain hs:=Option.some.inj h; subst hs
                  refine T_ret fun a w hm=>then_ret (T_return (fr':=[(2,.d (.str a0.f2)),(3,dI (0:Int))]) [2,3] (by kernel_rfl) [.keep [2,3]] (by kernel_rfl) (by kernel_rfl) (by kernel_rfl) (by show _=_; kernel_rfl) (by exact trivial) a w hm)
            · have h:=cond_ff hc h
              refine T_skip fun a w hm=>then_norm (((?_:T Tryd.prog e 283 _ _ _) a w hm))
              refine T_seqk ?_
              refine T_reg [] [1,155] [(155,dI a0.f0)] [] 2 (by kernel_rfl) (trivial) ?_
              refine T_block ?_
              refine T_reg [] [1,155,156] [(156,dB (a0.f0 == (1:Int)))] [] 2 (by kernel_rfl) (trivial) ?_
              refine T_cond (a0.f0 == (1:Int)) (by kernel_rfl) (fun hc=>?_) (fun hc=>?_)
              · have h:=cond_tt hc h
                obtain ⟨y6,hy4,h⟩:=call_ok h
                refine T_reg [(2,{ res:=.d (.str y6) })] [2,3] [(2,.d (.str y6)),(3,dI (0:Int))] [(2,ACall Tryd.prog 27 [dI a0.f1] [] (.d (.str y6)) [])] 2 (by kernel_rfl) (ref3_Decimal_ok hy4) ?_
                obtain hs:=Option.some.inj h; subst hs
                refine T_ret fun a w hm=>inBlock_ret (then_ret (T_return (fr':=[(2,.d (.str y6)),(3,dI (0:Int))]) [2,3] (by kernel_rfl) [.keep [2,3]] (by kernel_rfl) (by kernel_rfl) (by kernel_rfl) (by show _=_; kernel_rfl) (by exact trivial) a w hm))
              · have h:=cond_ff hc h
                refine T_reg [] [1,155,161] [(161,dB (a0.f0 == (4:Int)))] [] 2 (by kernel_rfl) (trivial) ?_
                refine T_cond (a0.f0 == (4:Int)) (by kernel_rfl) (fun hc=>?_) (fun hc=>?_)
                · have h:=cond_tt hc h
                  obtain ⟨y7,hy5,h⟩:=call_ok h
                  obtain ⟨hp3,h⟩:=chk_ok h
                  refine T_reg [(2,{ res:=.d (.str y7) })] [2,3] [(2,.d (.str (([64]:List UInt8)++y7))),(3,dI (0:Int))] [(2,ACall Tryd.prog 27 [dI a0.f1] [] (.d (.str y7)) []),(0,([64]:List UInt8).length+y7.length≤9223372036854775807)] 2 (by kernel_rfl) (⟨ref3_Decimal_ok hy5,hp3⟩) ?_
                  obtain hs:=Option.some.inj h; subst hs
                  refine T_ret fun a w hm=>inBlock_ret (then_ret (T_return (fr':=[(2,.d (.str (([64]:List UInt8)++y7))),(3,dI (0:Int))]) [2,3] (by kernel_rfl) [.keep [2,3]] (by kernel_rfl) (by kernel_rfl) (by kernel_rfl) (by show _=_; kernel_rfl) (by exact trivial) a w hm))
                · have h:=cond_ff hc h
                  refine T_reg [] [1,155,167] [(167,dB (a0.f0 == (6:Int)))] [] 2 (by kernel_rfl) (trivial) ?_
                  refine T_cond (a0.f0 == (6:Int)) (by kernel_rfl) (fun hc=>?_) (fun hc=>?_)
                  · have h:=cond_tt hc h
                    refine T_reg [] [2,3] [(2,.d (.str ([91]:List UInt8))),(3,dI (0:Int))] [] 2 (by kernel_rfl) (trivial) ?_
                    obtain hs:=Option.some.inj h; subst hs
                    refine T_ret fun a w hm=>inBlock_ret (then_ret (T_return (fr':=[(2,.d (.str ([91]:List UInt8))),(3,dI (0:Int))]) [2,3] (by kernel_rfl) [.keep [2,3]] (by kernel_rfl) (by kernel_rfl) (by kernel_rfl) (by show _=_; kernel_rfl) (by exact trivial) a w hm))
                  · have h:=cond_ff hc h
                    refine T_reg [] [1,155,169] [(169,dB (a0.f0 == (7:Int)))] [] 2 (by kernel_rfl) (trivial) ?_
                    refine T_cond (a0.f0 == (7:Int)) (by kernel_rfl) (fun hc=>?_) (fun hc=>?_)
                    · have h:=cond_tt hc h
                      refine T_reg [] [2,3] [(2,.d (.str ([93]:List UInt8))),(3,dI (0:Int))] [] 2 (by kernel_rfl) (trivial) ?_
                      obtain hs:=Option.some.inj h; subst hs
                      refine T_ret fun a w hm=>inBlock_ret (then_ret (T_return (fr':=[(2,.d (.str ([93]:List UInt8))),(3,dI (0:Int))]) [2,3] (by kernel_rfl) [.keep [2,3]] (by kernel_rfl) (by kernel_rfl) (by kernel_rfl) (by show _=_; kernel_rfl) (by exact trivial) a w hm))
                    · have h:=cond_ff hc h
                      refine T_reg [] [1,155,171] [(171,dB (a0.f0 == (8:Int)))] [] 2 (by kernel_rfl) (trivial) ?_
                      refine T_cond (a0.f0 == (8:Int)) (by kernel_rfl) (fun hc=>?_) (fun hc=>?_)
                      · have h:=cond_tt hc h
                        refine T_reg [] [2,3] [(2,.d (.str ([60,60]:List UInt8))),(3,dI (0:Int))] [] 2 (by kernel_rfl) (trivial) ?_
                        obtain hs:=Option.some.inj h; subst hs
                        refine T_ret fun a w hm=>inBlock_ret (then_ret (T_return (fr':=[(2,.d (.str ([60,60]:List UInt8))),(3,dI (0:Int))]) [2,3] (by kernel_rfl) [.keep [2,3]] (by kernel_rfl) (by kernel_rfl) (by kernel_rfl) (by show _=_; kernel_rfl) (by exact trivial) a w hm))
                      · have h:=cond_ff hc h
                        refine T_reg [] [1,173] [(173,dB (a0.f0 == (9:Int)))] [] 2 (by kernel_rfl) (trivial) ?_
                        refine T_cond (a0.f0 == (9:Int)) (by kernel_rfl) (fun hc=>?_) (fun hc=>?_)
                        · have h:=cond_tt hc h
                          refine T_reg [] [2,3] [(2,.d (.str ([62,62]:List UInt8))),(3,dI (0:Int))] [] 2 (by kernel_rfl) (trivial) ?_
                          obtain hs:=Option.some.inj h; subst hs
                          refine T_ret fun a w hm=>inBlock_ret (then_ret (T_return (fr':=[(2,.d (.str ([62,62]:List UInt8))),(3,dI (0:Int))]) [2,3] (by kernel_rfl) [.keep [2,3]] (by kernel_rfl) (by kernel_rfl) (by kernel_rfl) (by show _=_; kernel_rfl) (by exact trivial) a w hm))
                        · have h:=cond_ff hc h
                          refine T_skip fun a w hm=>inBlock_norm (then_norm (((?_:T Tryd.prog e 283 _ _ _) a w hm)))
                          refine T_reg [] [1,9] [(9,oW3 [])] [] 1 (by kernel_rfl) (trivial) ?_
                          refine T_seqk ?_
                          refine T_reg [] [1,9,177,178] [(177,dI (a0.f2.length:Int)),(178,dI (0:Int))] [] 4 (by kernel_rfl) (trivial) ?_
                          refine T_joinct h (fun (p:(List UInt8))=>[(1,bx_Token a0),(9,oW3 p)]) (fun s h=>?_) (fun v7 h=>?_)
                          · refine T_co [.keep [1,9,177,178]] ((fun (p:(List UInt8)×Int)=>[(1,bx_Token a0),(9,oW3 p.1),(177,dI (a0.f2.length:Int)),(178,dI p.2)]) ([],(0:Int))) (by show _=_; kernel_rfl) ?_
                            refine T_block ?_
                            refine T_loopF (ι:=(List UInt8)×Int) (fun (p:(List UInt8)×Int)=>[(1,bx_Token a0),(9,oW3 p.1),(177,dI (a0.f2.length:Int)),(178,dI p.2)]) (fun n p=>ref3_Spelled_L3 F a0 n p.1 p.2=some s) (fun i hh=>by simp [ref3_Spelled_L3] at hh) (fun n p h=>?_) F ([],(0:Int)) h
                            obtain ⟨v3,v4⟩:=p
                            have h:ref3_Spelled_L3 F a0 (n+1) v3 v4=some s:=h
                            rw [ref3_Spelled_L3] at h
                            refine T_reg [] [1,9,177,178,179] [(179,dB (decide (v4 < (a0.f2.length:Int))))] [] 1 (by kernel_rfl) (trivial) ?_
                            refine T_seqk ?_
                            refine T_cond (decide (v4 < (a0.f2.length:Int))) (by kernel_rfl) (fun hc=>?_) (fun hc=>?_)
                            · have h:=cond_tt hc h
                              refine T_skip fun a w hm=>then_norm (((?_:T Tryd.prog e 283 _ _ _) a w hm))
                              refine T_joinc h (fun (p:(List UInt8))=>[(1,bx_Token a0),(9,oW3 p),(177,dI (a0.f2.length:Int)),(178,dI v4)]) (fun s h=>?_) (fun v5 h=>?_)
                              · refine T_block ?_
                                refine T_reg [] [1,9,10,177,178] [(10,dI v4)] [] 2 (by kernel_rfl) (trivial) ?_
                                obtain ⟨hp4,h⟩:=chk_ok h
                                refine T_reg [] [1,9,11,177,178] [(11,.d (.v (.int .u8 ((a0.f2.getD v4.toNat 0).toNat:Int))))] [(3,0≤v4∧v4 < a0.f2.length)] 1 (by kernel_rfl) (hp4) ?_
                                obtain ⟨hp5,h⟩:=chk_ok h
                                obtain ⟨z1,hz6,h⟩:=lett_ok h
                                obtain ⟨hp6,h⟩:=chk_ok h
                                obtain ⟨z2,hz7,h⟩:=lett_ok h
                                obtain ⟨hp7,h⟩:=chk_ok h
                                obtain ⟨hp8,h⟩:=chk_ok h
                                refine T_drawX mixed 1 (.take 0 (.take 1 (.take 2 (.take 3 (.take 4 (.take 5 (.all (.alt 6 (.take 7 .done) .stop)))))))) ([0,1,2,0,8,16,36,127],[0,1,2,0,8,16,36,64]) 191 [(2,{ rw:=some (.d (.v (.int .u8 z1))) }),(5,{ rw:=some (.d (.v (.int .u8 z2))) }),(6,{ es:=some (([(UInt8.ofNat z1.toNat),(UInt8.ofNat z2.toNat)]).map cU) })] [1,9,11,12,177,178] [] [(1,bx_Token a0),(9,oW3 v3),(11,.d (.v (.int .u8 ((a0.f2.getD v4.toNat 0).toNat:Int)))),(12,.own 5 1 (([(UInt8.ofNat z1.toNat),(UInt8.ofNat z2.toNat)]).map cU)),(177,dI (a0.f2.length:Int)),(178,dI v4)] ((fun (o1:Prop)=>fun (o2:Prop)=>fun (o4:Prop)=>fun (o5:Prop)=>fun (o6:Prop)=>[(1,o1),(0,o2),(1,o4),(0,o5),(0,o6)]) ((16:Int)≠0) ((0≤(IntKind.u8.wrap (((a0.f2.getD v4.toNat 0).toNat:Int).tdiv (16:Int)))∧(IntKind.u8.wrap (((a0.f2.getD v4.toNat 0).toNat:Int).tdiv (16:Int))) < ([48,49,50,51,52,53,54,55,56,57,97,98,99,100,101,102]:List UInt8).length)∧AV.d (.v (.int .u8 ((([48,49,50,51,52,53,54,55,56,57,97,98,99,100,101,102]:List UInt8).getD (IntKind.u8.wrap (((a0.f2.getD v4.toNat 0).toNat:Int).tdiv (16:Int))).toNat 0).toNat:Int)))=.d (.v (.int .u8 z1))) ((16:Int)≠0) ((0≤(((a0.f2.getD v4.toNat 0).toNat:Int).tmod (16:Int))∧(((a0.f2.getD v4.toNat 0).toNat:Int).tmod (16:Int)) < ([48,49,50,51,52,53,54,55,56,57,97,98,99,100,101,102]:List UInt8).length)∧AV.d (.v (.int .u8 ((([48,49,50,51,52,53,54,55,56,57,97,98,99,100,101,102]:List UInt8).getD (((a0.f2.getD v4.toNat 0).toNat:Int).tmod (16:Int)).toNat 0).toNat:Int)))=.d (.v (.int .u8 z2))) ([[Dat.v (.int .u8 z1)],[Dat.v (.int .u8 z2)]]=(([(UInt8.ofNat z1.toNat),(UInt8.ofNat z2.toNat)]).map cU))) 1 (by kernel_rfl) (by kernel_rfl) (by kernel_rfl) (have p1:=(show (16:Int)≠0 by decide); have p2:=⟨hp5,(by subst hz6; rfl)⟩; have p4:=(show (16:Int)≠0 by decide); have p5:=⟨hp6,(by subst hz7; rfl)⟩; have p6:=(lit_u hp7 (lit_u hp8 (rfl:([]:List (List Dat))=([]:List UInt8).map cU))); ⟨p1,p2,p4,p5,p6⟩) ?_
                                refine T_block ?_
                                obtain ⟨y1,hy6,h⟩:=call_ok h
                                obtain ⟨y2,hy7,h⟩:=call_ok h
                                obtain ⟨z3,hz8,h⟩:=lett_ok h
                                obtain ⟨z4,hz9,h⟩:=lett_ok h
                                refine T_reg [(5,{ res:=dB y1 }),(8,{ res:=dB y2 }),(13,{ rw:=some (dB z3) }),(21,{ rw:=some (dB z4) })] [1,9,11,12,177,178,196] [(196,dB (bif (a0.f0 == (2:Int)) then z4 else false))] [(4,((((a0.f0 == (2:Int)) == true) && true)=true→True)),(0,((((a0.f0 == (2:Int)) == true) && true)=true→ACall Tryd.prog 44 [.d (.v (.int .u8 ((a0.f2.getD v4.toNat 0).toNat:Int)))] [] (dB y1) [])),(0,((((a0.f0 == (2:Int)) == true) && true)=true→True)),(0,(((y1 == false) && (((a0.f0 == (2:Int)) == true) && true))=true→True)),(0,(((y1 == false) && (((a0.f0 == (2:Int)) == true) && true))=true→ACall Tryd.prog 42 [.d (.v (.int .u8 ((a0.f2.getD v4.toNat 0).toNat:Int)))] [] (dB y2) [])),(0,((((a0.f0 == (2:Int)) == true) && true)=true→True)),(0,((((a0.f0 == (2:Int)) == true) && true)=true→True)),(0,((((bif y1 then true else y2) == false) && (((a0.f0 == (2:Int)) == true) && true))=true→True)),(0,((((bif y1 then true else y2) == false) && (((a0.f0 == (2:Int)) == true) && true))=true→True)),(0,((((a0.f0 == (2:Int)) == true) && true)=true→(True)∧dB (bif (bif y1 then true else y2) then true else (((a0.f2.getD v4.toNat 0).toNat:Int) == (95:Int)))=dB z3)),(0,((((a0.f0 == (2:Int)) == true) && true)=true→True)),(0,(((z3 == false) && (((a0.f0 == (2:Int)) == true) && true))=true→True)),(0,(((z3 == false) && (((a0.f0 == (2:Int)) == true) && true))=true→True)),(0,((((a0.f0 == (2:Int)) == true) && true)=true→True)),(0,((((a0.f0 == (2:Int)) == true) && true)=true→True)),(0,((((bif z3 then true else (((a0.f2.getD v4.toNat 0).toNat:Int) == (45:Int))) == false) && (((a0.f0 == (2:Int)) == true) && true))=true→True)),(0,((((bif z3 then true else (((a0.f2.getD v4.toNat 0).toNat:Int) == (45:Int))) == false) && (((a0.f0 == (2:Int)) == true) && true))=true→True)),(0,((((a0.f0 == (2:Int)) == true) && true)=true→(True)∧dB (bif (bif z3 then true else (((a0.f2.getD v4.toNat 0).toNat:Int) == (45:Int))) then true else (((a0.f2.getD v4.toNat 0).toNat:Int) == (46:Int)))=dB z4))] 2 (by kernel_rfl) (⟨(fun hg=>trivial),(fun hg=>ref3_letter_ok (gcall_ok hg hy6)),(fun hg=>trivial),(fun hg=>trivial),(fun hg=>ref3_digit_ok (gcall_ok hg hy7)),(fun hg=>trivial),(fun hg=>trivial),(fun hg=>trivial),(fun hg=>trivial),(fun hg=>⟨trivial,(by subst hz8; rfl)⟩),(fun hg=>trivial),(fun hg=>trivial),(fun hg=>trivial),(fun hg=>trivial),(fun hg=>trivial),(fun hg=>trivial),(fun hg=>trivial),(fun hg=>⟨trivial,(by subst hz9; rfl)⟩)⟩) ?_
                                refine T_cond (bif (a0.f0 == (2:Int)) then z4 else false) (by kernel_rfl) (fun hc=>?_) (fun hc=>?_)
                                · have h:=cond_tt hc h
                                  obtain ⟨hp9,h⟩:=chk_ok h
                                  obtain ⟨hp10,h⟩:=chk_ok h
                                  obtain hs:=Option.some.inj h; subst hs
                                  refine T_reg_end [(2,{ es:=some (([(UInt8.ofNat ((a0.f2.getD v4.toNat 0).toNat:Int).toNat)]).map cU) }),(3,{ es:=some ((v3++([(UInt8.ofNat ((a0.f2.getD v4.toNat 0).toNat:Int).toNat)])).map cU) })] [1,9,177,178] [(9,.own 5 1 ((v3++([(UInt8.ofNat ((a0.f2.getD v4.toNat 0).toNat:Int).toNat)])).map cU))] [(2,[[Dat.v (.int .u8 ((a0.f2.getD v4.toNat 0).toNat:Int))]]=(([(UInt8.ofNat ((a0.f2.getD v4.toNat 0).toNat:Int).toNat)]).map cU)),(0,(v3.map cU).length+(([(UInt8.ofNat ((a0.f2.getD v4.toNat 0).toNat:Int).toNat)]).map cU).length≤4294967296∧(v3.map cU)++(([(UInt8.ofNat ((a0.f2.getD v4.toNat 0).toNat:Int).toNat)]).map cU)=((v3++([(UInt8.ofNat ((a0.f2.getD v4.toNat 0).toNat:Int).toNat)])).map cU))] 1 (by kernel_rfl) (⟨(lit_u hp9 (rfl:([]:List (List Dat))=([]:List UInt8).map cU)),app_ok cU hp10⟩) fun a w hm=>inBlock_norm (inBlock_norm (then_norm (hm.co (cs:=[.keep [1,9,177,178]]) (by show _=_; kernel_rfl))))
                                · have h:=cond_ff hc h
                                  refine T_reg [] [1,9,11,12,177,178,224] [(224,dB (a0.f0 == (2:Int)))] [] 4 (by kernel_rfl) (trivial) ?_
                                  refine T_cond (a0.f0 == (2:Int)) (by kernel_rfl) (fun hc=>?_) (fun hc=>?_)
                                  · have h:=cond_tt hc h
                                    obtain ⟨hp11,h⟩:=chk_ok h
                                    obtain ⟨hp12,h⟩:=chk_ok h
                                    obtain ⟨l1,hl1,h⟩:=lett_ok h
                                    obtain hs:=Option.some.inj h; subst hs
                                    refine T_reg_end [(1,{ es:=some (([(UInt8.ofNat (35:Int).toNat)]).map cU) }),(2,{ es:=some ((v3++([(UInt8.ofNat (35:Int).toNat)])).map cU) }),(4,{ es:=some (l1.map cU) })] [1,9,177,178] [(9,oW3 l1)] [(1,[[Dat.v (.int .u8 (35:Int))]]=(([(UInt8.ofNat (35:Int).toNat)]).map cU)),(0,(v3.map cU).length+(([(UInt8.ofNat (35:Int).toNat)]).map cU).length≤4294967296∧(v3.map cU)++(([(UInt8.ofNat (35:Int).toNat)]).map cU)=((v3++([(UInt8.ofNat (35:Int).toNat)])).map cU)),(1,((v3++([(UInt8.ofNat (35:Int).toNat)])).map cU).length+(([(UInt8.ofNat z1.toNat),(UInt8.ofNat z2.toNat)]).map cU).length≤4294967296∧((v3++([(UInt8.ofNat (35:Int).toNat)])).map cU)++(([(UInt8.ofNat z1.toNat),(UInt8.ofNat z2.toNat)]).map cU)=(l1.map cU))] 1 (by kernel_rfl) (⟨(lit_u (by decide) (rfl:([]:List (List Dat))=([]:List UInt8).map cU)),app_ok cU hp11,and_trans (app_ok cU hp12) (by subst hl1; rfl)⟩) fun a w hm=>inBlock_norm (inBlock_norm (then_norm (hm.co (cs:=[.keep [1,9,177,178]]) (by show _=_; kernel_rfl))))
                                  · have h:=cond_ff hc h
                                    refine T_reg [] [1,9,11,12,177,178,233] [(233,dB (((a0.f2.getD v4.toNat 0).toNat:Int) == (10:Int)))] [] 3 (by kernel_rfl) (trivial) ?_
                                    refine T_cond (((a0.f2.getD v4.toNat 0).toNat:Int) == (10:Int)) (by kernel_rfl) (fun hc=>?_) (fun hc=>?_)
                                    · have h:=cond_tt hc h
                                      obtain ⟨hp13,h⟩:=chk_ok h
                                      obtain hs:=Option.some.inj h; subst hs
                                      refine T_reg_end [(1,{ es:=some (([(UInt8.ofNat (92:Int).toNat),(UInt8.ofNat (110:Int).toNat)]).map cU) }),(2,{ es:=some ((v3++([(UInt8.ofNat (92:Int).toNat),(UInt8.ofNat (110:Int).toNat)])).map cU) })] [1,9,177,178] [(9,.own 5 1 ((v3++([(UInt8.ofNat (92:Int).toNat),(UInt8.ofNat (110:Int).toNat)])).map cU))] [(1,[[Dat.v (.int .u8 (92:Int))],[Dat.v (.int .u8 (110:Int))]]=(([(UInt8.ofNat (92:Int).toNat),(UInt8.ofNat (110:Int).toNat)]).map cU)),(0,(v3.map cU).length+(([(UInt8.ofNat (92:Int).toNat),(UInt8.ofNat (110:Int).toNat)]).map cU).length≤4294967296∧(v3.map cU)++(([(UInt8.ofNat (92:Int).toNat),(UInt8.ofNat (110:Int).toNat)]).map cU)=((v3++([(UInt8.ofNat (92:Int).toNat),(UInt8.ofNat (110:Int).toNat)])).map cU))] 1 (by kernel_rfl) (⟨(lit_u (by decide) (lit_u (by decide) (rfl:([]:List (List Dat))=([]:List UInt8).map cU))),app_ok cU hp13⟩) fun a w hm=>inBlock_norm (inBlock_norm (then_norm (hm.co (cs:=[.keep [1,9,177,178]]) (by show _=_; kernel_rfl))))
                                    · have h:=cond_ff hc h
                                      refine T_reg [] [1,9,11,12,177,178,239] [(239,dB (((a0.f2.getD v4.toNat 0).toNat:Int) == (9:Int)))] [] 3 (by kernel_rfl) (trivial) ?_
                                      refine T_cond (((a0.f2.getD v4.toNat 0).toNat:Int) == (9:Int)) (by kernel_rfl) (fun hc=>?_) (fun hc=>?_)
                                      · have h:=cond_tt hc h
                                        obtain ⟨hp14,h⟩:=chk_ok h
                                        obtain hs:=Option.some.inj h; subst hs
                                        refine T_reg_end [(1,{ es:=some (([(UInt8.ofNat (92:Int).toNat),(UInt8.ofNat (116:Int).toNat)]).map cU) }),(2,{ es:=some ((v3++([(UInt8.ofNat (92:Int).toNat),(UInt8.ofNat (116:Int).toNat)])).map cU) })] [1,9,177,178] [(9,.own 5 1 ((v3++([(UInt8.ofNat (92:Int).toNat),(UInt8.ofNat (116:Int).toNat)])).map cU))] [(1,[[Dat.v (.int .u8 (92:Int))],[Dat.v (.int .u8 (116:Int))]]=(([(UInt8.ofNat (92:Int).toNat),(UInt8.ofNat (116:Int).toNat)]).map cU)),(0,(v3.map cU).length+(([(UInt8.ofNat (92:Int).toNat),(UInt8.ofNat (116:Int).toNat)]).map cU).length≤4294967296∧(v3.map cU)++(([(UInt8.ofNat (92:Int).toNat),(UInt8.ofNat (116:Int).toNat)]).map cU)=((v3++([(UInt8.ofNat (92:Int).toNat),(UInt8.ofNat (116:Int).toNat)])).map cU))] 1 (by kernel_rfl) (⟨(lit_u (by decide) (lit_u (by decide) (rfl:([]:List (List Dat))=([]:List UInt8).map cU))),app_ok cU hp14⟩) fun a w hm=>inBlock_norm (inBlock_norm (then_norm (hm.co (cs:=[.keep [1,9,177,178]]) (by show _=_; kernel_rfl))))
                                      · have h:=cond_ff hc h
                                        obtain ⟨z5,hz10,h⟩:=lett_ok h
                                        refine T_reg [(5,{ rw:=some (dB z5) })] [1,9,11,12,177,178,245] [(245,dB (bif z5 then true else (((a0.f2.getD v4.toNat 0).toNat:Int) == (92:Int))))] [(3,((((((a0.f2.getD v4.toNat 0).toNat:Int) == (40:Int)) == false) && true)=true→True)),(0,((((((a0.f2.getD v4.toNat 0).toNat:Int) == (40:Int)) == false) && true)=true→True)),(0,(True)∧dB (bif (((a0.f2.getD v4.toNat 0).toNat:Int) == (40:Int)) then true else (((a0.f2.getD v4.toNat 0).toNat:Int) == (41:Int)))=dB z5),(1,(((z5 == false) && true)=true→True)),(0,(((z5 == false) && true)=true→True))] 2 (by kernel_rfl) (⟨(fun hg=>trivial),(fun hg=>trivial),⟨trivial,(by subst hz10; rfl)⟩,(fun hg=>trivial),(fun hg=>trivial)⟩) ?_
                                        refine T_cond (bif z5 then true else (((a0.f2.getD v4.toNat 0).toNat:Int) == (92:Int))) (by kernel_rfl) (fun hc=>?_) (fun hc=>?_)
                                        · have h:=cond_tt hc h
                                          obtain ⟨hp15,h⟩:=chk_ok h
                                          obtain ⟨hp16,h⟩:=chk_ok h
                                          obtain ⟨l2,hl2,h⟩:=lett_ok h
                                          obtain hs:=Option.some.inj h; subst hs
                                          refine T_reg_end [(2,{ es:=some (([(UInt8.ofNat (92:Int).toNat),(UInt8.ofNat ((a0.f2.getD v4.toNat 0).toNat:Int).toNat)]).map cU) }),(3,{ es:=some (l2.map cU) })] [1,9,177,178] [(9,oW3 l2)] [(2,[[Dat.v (.int .u8 (92:Int))],[Dat.v (.int .u8 ((a0.f2.getD v4.toNat 0).toNat:Int))]]=(([(UInt8.ofNat (92:Int).toNat),(UInt8.ofNat ((a0.f2.getD v4.toNat 0).toNat:Int).toNat)]).map cU)),(0,(v3.map cU).length+(([(UInt8.ofNat (92:Int).toNat),(UInt8.ofNat ((a0.f2.getD v4.toNat 0).toNat:Int).toNat)]).map cU).length≤4294967296∧(v3.map cU)++(([(UInt8.ofNat (92:Int).toNat),(UInt8.ofNat ((a0.f2.getD v4.toNat 0).toNat:Int).toNat)]).map cU)=(l2.map cU))] 1 (by kernel_rfl) (⟨(lit_u (by decide) (lit_u hp15 (rfl:([]:List (List Dat))=([]:List UInt8).map cU))),and_trans (app_ok cU hp16) (by subst hl2; rfl)⟩) fun a w hm=>inBlock_norm (inBlock_norm (then_norm (hm.co (cs:=[.keep [1,9,177,178]]) (by show _=_; kernel_rfl))))
                                        · have h:=cond_ff hc h
                                          obtain ⟨z6,hz11,h⟩:=lett_ok h
                                          refine T_reg [(5,{ rw:=some (dB z6) })] [1,9,11,12,177,178,260] [(260,dB z6)] [(3,((((decide (((a0.f2.getD v4.toNat 0).toNat:Int) < (32:Int))) == false) && true)=true→True)),(0,((((decide (((a0.f2.getD v4.toNat 0).toNat:Int) < (32:Int))) == false) && true)=true→True)),(0,(True)∧dB (bif (decide (((a0.f2.getD v4.toNat 0).toNat:Int) < (32:Int))) then true else (decide (((a0.f2.getD v4.toNat 0).toNat:Int) ≥ (126:Int))))=dB z6)] 1 (by kernel_rfl) (⟨(fun hg=>trivial),(fun hg=>trivial),⟨trivial,(by subst hz11; rfl)⟩⟩) ?_
                                          refine T_cond z6 (by kernel_rfl) (fun hc=>?_) (fun hc=>?_)
                                          · have h:=cond_tt hc h
                                            obtain ⟨hp17,h⟩:=chk_ok h
                                            obtain ⟨hp18,h⟩:=chk_ok h
                                            obtain ⟨l3,hl3,h⟩:=lett_ok h
                                            obtain hs:=Option.some.inj h; subst hs
                                            refine T_reg_end [(1,{ es:=some (([(UInt8.ofNat (92:Int).toNat),(UInt8.ofNat (120:Int).toNat)]).map cU) }),(2,{ es:=some ((v3++([(UInt8.ofNat (92:Int).toNat),(UInt8.ofNat (120:Int).toNat)])).map cU) }),(4,{ es:=some (l3.map cU) })] [1,9,177,178] [(9,oW3 l3)] [(1,[[Dat.v (.int .u8 (92:Int))],[Dat.v (.int .u8 (120:Int))]]=(([(UInt8.ofNat (92:Int).toNat),(UInt8.ofNat (120:Int).toNat)]).map cU)),(0,(v3.map cU).length+(([(UInt8.ofNat (92:Int).toNat),(UInt8.ofNat (120:Int).toNat)]).map cU).length≤4294967296∧(v3.map cU)++(([(UInt8.ofNat (92:Int).toNat),(UInt8.ofNat (120:Int).toNat)]).map cU)=((v3++([(UInt8.ofNat (92:Int).toNat),(UInt8.ofNat (120:Int).toNat)])).map cU)),(1,((v3++([(UInt8.ofNat (92:Int).toNat),(UInt8.ofNat (120:Int).toNat)])).map cU).length+(([(UInt8.ofNat z1.toNat),(UInt8.ofNat z2.toNat)]).map cU).length≤4294967296∧((v3++([(UInt8.ofNat (92:Int).toNat),(UInt8.ofNat (120:Int).toNat)])).map cU)++(([(UInt8.ofNat z1.toNat),(UInt8.ofNat z2.toNat)]).map cU)=(l3.map cU))] 1 (by kernel_rfl) (⟨(lit_u (by decide) (lit_u (by decide) (rfl:([]:List (List Dat))=([]:List UInt8).map cU))),app_ok cU hp17,and_trans (app_ok cU hp18) (by subst hl3; rfl)⟩) fun a w hm=>inBlock_norm (inBlock_norm (then_norm (hm.co (cs:=[.keep [1,9,177,178]]) (by show _=_; kernel_rfl))))
                                          · have h:=cond_ff hc h
                                            obtain ⟨hp19,h⟩:=chk_ok h
                                            obtain ⟨hp20,h⟩:=chk_ok h
                                            obtain hs:=Option.some.inj h; subst hs
                                            refine T_reg_end [(2,{ es:=some (([(UInt8.ofNat ((a0.f2.getD v4.toNat 0).toNat:Int).toNat)]).map cU) }),(3,{ es:=some ((v3++([(UInt8.ofNat ((a0.f2.getD v4.toNat 0).toNat:Int).toNat)])).map cU) })] [1,9,177,178] [(9,.own 5 1 ((v3++([(UInt8.ofNat ((a0.f2.getD v4.toNat 0).toNat:Int).toNat)])).map cU))] [(2,[[Dat.v (.int .u8 ((a0.f2.getD v4.toNat 0).toNat:Int))]]=(([(UInt8.ofNat ((a0.f2.getD v4.toNat 0).toNat:Int).toNat)]).map cU)),(0,(v3.map cU).length+(([(UInt8.ofNat ((a0.f2.getD v4.toNat 0).toNat:Int).toNat)]).map cU).length≤4294967296∧(v3.map cU)++(([(UInt8.ofNat ((a0.f2.getD v4.toNat 0).toNat:Int).toNat)]).map cU)=((v3++([(UInt8.ofNat ((a0.f2.getD v4.toNat 0).toNat:Int).toNat)])).map cU))] 1 (by kernel_rfl) (⟨(lit_u hp19 (rfl:([]:List (List Dat))=([]:List UInt8).map cU)),app_ok cU hp20⟩) fun a w hm=>inBlock_norm (inBlock_norm (then_norm (hm.co (cs:=[.keep [1,9,177,178]]) (by show _=_; kernel_rfl))))
                              · skip
                                refine T_reg_end [] [1,9,177,178] [(178,dI (IntKind.i64.wrap (v4+(1:Int))))] [] 2 (by kernel_rfl) (trivial) fun a w hm=>then_norm (⟨(v5,IntKind.i64.wrap (v4+(1:Int))),h,hm.co (cs:=[.keep [1,9,177,178]]) (by show _=_; kernel_rfl)⟩)
                            · have h:=cond_ff hc h
                              obtain hs:=Option.some.inj h; subst hs
                              refine T_exit fun a w hm=>then_exit (then_exit (inBlock_exit (then_norm (hm.co (cs:=[.keep [1,9]]) (by show _=_; kernel_rfl)))))
                          · skip
                            refine fun a w hm=>then_norm (((?_:T Tryd.prog e 283 _ _ _) a w hm))
                            refine T_seqk ?_
                            refine T_reg [] [9,275] [(275,dB (a0.f0 == (2:Int)))] [] 3 (by kernel_rfl) (trivial) ?_
                            refine T_cond (a0.f0 == (2:Int)) (by kernel_rfl) (fun hc=>?_) (fun hc=>?_)
                            · have h:=cond_tt hc h
                              obtain ⟨hp21,h⟩:=chk_ok h
                              refine T_reg [(1,{ cs:=[.str v7] })] [2,3] [(2,.d (.str (([47]:List UInt8)++v7))),(3,dI (0:Int))] [(1,(v7.map cU)=byteCells v7),(0,([47]:List UInt8).length+v7.length≤9223372036854775807)] 2 (by kernel_rfl) (⟨rfl,hp21⟩) ?_
                              obtain hs:=Option.some.inj h; subst hs
                              refine T_ret fun a w hm=>then_ret (T_return (fr':=[(2,.d (.str (([47]:List UInt8)++v7))),(3,dI (0:Int))]) [2,3] (by kernel_rfl) [.keep [2,3]] (by kernel_rfl) (by kernel_rfl) (by kernel_rfl) (by show _=_; kernel_rfl) (by exact trivial) a w hm)
                            · have h:=cond_ff hc h
                              refine T_skip fun a w hm=>then_norm (((?_:T Tryd.prog e 283 _ _ _) a w hm))
                              obtain ⟨hp22,h⟩:=chk_ok h
                              obtain ⟨hp23,h⟩:=chk_ok h
                              refine T_reg [(1,{ cs:=[.str v7] })] [2,3] [(2,.d (.str ((([40]:List UInt8)++v7)++([41]:List UInt8)))),(3,dI (0:Int))] [(1,(v7.map cU)=byteCells v7),(0,([40]:List UInt8).length+v7.length≤9223372036854775807),(0,(([40]:List UInt8)++v7).length+([41]:List UInt8).length≤9223372036854775807)] 2 (by kernel_rfl) (⟨rfl,hp22,hp23⟩) ?_
                              obtain hs:=Option.some.inj h; subst hs
                              refine T_ret fun a w hm=>T_return (fr':=[(2,.d (.str ((([40]:List UInt8)++v7)++([41]:List UInt8)))),(3,dI (0:Int))]) [2,3] (by kernel_rfl) [.keep [2,3]] (by kernel_rfl) (by kernel_rfl) (by kernel_rfl) (by show _=_; kernel_rfl) (by exact trivial) a w hm
theorem ref3_partError_ok {F:Nat} {a0:S_Object} {a1:Int} {r:Int} (h:ref3_partError F a0 a1=some r):ACall Tryd.prog 41 [.agg (cS_Object a0),.d (.v (.int .i64 a1))] [] (.d (.v (.int .i64 r))) []:=by
  rw [ref3_partError] at h
  refine ACall.intro (N:=133) Tryd.func41 rfl rfl rfl rfl rfl fun e=>?_
  refine T_reg [] [1,2] [(2,bx_Object a0)] [] 2 (by kernel_rfl) (trivial) ?_
  refine T_reg [] [1,2,5] [(5,dI a0.f0)] [] 3 (by kernel_rfl) (trivial) ?_
  refine T_seqk ?_
  refine T_block ?_
  refine T_reg [] [1,2,5,12] [(12,dB (bif (decide (a0.f0 < (0:Int))) then true else (decide (a0.f0 > (7:Int)))))] [(3,((((decide (a0.f0 < (0:Int))) == false) && true)=true→True)),(0,((((decide (a0.f0 < (0:Int))) == false) && true)=true→True))] 2 (by kernel_rfl) (⟨(fun hg=>trivial),(fun hg=>trivial)⟩) ?_
  refine T_cond (bif (decide (a0.f0 < (0:Int))) then true else (decide (a0.f0 > (7:Int)))) (by kernel_rfl) (fun hc=>?_) (fun hc=>?_)
  · have h:=cond_tt hc h
    refine T_reg [] [4] [(4,dI (14:Int))] [] 1 (by kernel_rfl) (trivial) ?_
    obtain hs:=Option.some.inj h; subst hs
    refine T_ret fun a w hm=>inBlock_ret (then_ret (T_return (fr':=[(4,dI (14:Int))]) [4] (by kernel_rfl) [.keep [4]] (by kernel_rfl) (by kernel_rfl) (by kernel_rfl) (by show _=_; kernel_rfl) (by exact trivial) a w hm))
  · have h:=cond_ff hc h
    refine T_reg [] [2,5,19] [(19,dB (decide (a1 > (12:Int))))] [] 3 (by kernel_rfl) (trivial) ?_
    refine T_cond (decide (a1 > (12:Int))) (by kernel_rfl) (fun hc=>?_) (fun hc=>?_)
    · have h:=cond_tt hc h
      refine T_reg [] [4] [(4,dI (15:Int))] [] 1 (by kernel_rfl) (trivial) ?_
      obtain hs:=Option.some.inj h; subst hs
      refine T_ret fun a w hm=>inBlock_ret (then_ret (T_return (fr':=[(4,dI (15:Int))]) [4] (by kernel_rfl) [.keep [4]] (by kernel_rfl) (by kernel_rfl) (by kernel_rfl) (by show _=_; kernel_rfl) (by exact trivial) a w hm))
    · have h:=cond_ff hc h
      obtain ⟨z2,hz1,h⟩:=lett_ok h
      refine T_reg [(10,{ rw:=some (dB z2) })] [2,5,22] [(22,dB (bif z2 then (a0.f0 != (5:Int)) else false))] [(4,((((a0.f1 != (0:Int)) == true) && true)=true→True)),(0,((((a0.f1 != (0:Int)) == true) && true)=true→True)),(2,((((bif (a0.f1 != (0:Int)) then (a0.f0 != (1:Int)) else false) == true) && true)=true→True)),(0,((((bif (a0.f1 != (0:Int)) then (a0.f0 != (1:Int)) else false) == true) && true)=true→True)),(0,(True)∧dB (bif (bif (a0.f1 != (0:Int)) then (a0.f0 != (1:Int)) else false) then (a0.f0 != (2:Int)) else false)=dB z2),(1,(((z2 == true) && true)=true→True)),(0,(((z2 == true) && true)=true→True))] 2 (by kernel_rfl) (⟨(fun hg=>trivial),(fun hg=>trivial),(fun hg=>trivial),(fun hg=>trivial),⟨trivial,(by subst hz1; rfl)⟩,(fun hg=>trivial),(fun hg=>trivial)⟩) ?_
      refine T_cond (bif z2 then (a0.f0 != (5:Int)) else false) (by kernel_rfl) (fun hc=>?_) (fun hc=>?_)
      · have h:=cond_tt hc h
        refine T_reg [] [4] [(4,dI (4:Int))] [] 1 (by kernel_rfl) (trivial) ?_
        obtain hs:=Option.some.inj h; subst hs
        refine T_ret fun a w hm=>inBlock_ret (then_ret (T_return (fr':=[(4,dI (4:Int))]) [4] (by kernel_rfl) [.keep [4]] (by kernel_rfl) (by kernel_rfl) (by kernel_rfl) (by show _=_; kernel_rfl) (by exact trivial) a w hm))
      · have h:=cond_ff hc h
        obtain ⟨z3,hz2,h⟩:=lett_ok h
        refine T_reg [(10,{ rw:=some (dB z3) })] [2,5,38] [(38,dB z3)] [(4,((((!(a0.f2 == [])) == true) && true)=true→True)),(0,((((!(a0.f2 == [])) == true) && true)=true→True)),(2,((((bif (!(a0.f2 == [])) then (a0.f0 != (3:Int)) else false) == true) && true)=true→True)),(0,((((bif (!(a0.f2 == [])) then (a0.f0 != (3:Int)) else false) == true) && true)=true→True)),(0,(True)∧dB (bif (bif (!(a0.f2 == [])) then (a0.f0 != (3:Int)) else false) then (a0.f0 != (4:Int)) else false)=dB z3)] 1 (by kernel_rfl) (⟨(fun hg=>trivial),(fun hg=>trivial),(fun hg=>trivial),(fun hg=>trivial),⟨trivial,(by subst hz2; rfl)⟩⟩) ?_
        refine T_cond z3 (by kernel_rfl) (fun hc=>?_) (fun hc=>?_)
        · have h:=cond_tt hc h
          refine T_reg [] [4] [(4,dI (4:Int))] [] 1 (by kernel_rfl) (trivial) ?_
          obtain hs:=Option.some.inj h; subst hs
          refine T_ret fun a w hm=>inBlock_ret (then_ret (T_return (fr':=[(4,dI (4:Int))]) [4] (by kernel_rfl) [.keep [4]] (by kernel_rfl) (by kernel_rfl) (by kernel_rfl) (by show _=_; kernel_rfl) (by exact trivial) a w hm))
        · have h:=cond_ff hc h
          obtain ⟨z4,hz3,h⟩:=lett_ok h
          refine T_reg [(2,{ rw:=some (dI (a0.f4.length:Int)) }),(11,{ rw:=some (dB z4) })] [2,5,50] [(50,dB z4)] [(2,True∧dI ((a0.f4.map rS_Object).length:Int)=dI (a0.f4.length:Int)),(2,((((decide ((a0.f4.length:Int) > (0:Int))) == true) && true)=true→True)),(0,((((decide ((a0.f4.length:Int) > (0:Int))) == true) && true)=true→True)),(2,((((bif (decide ((a0.f4.length:Int) > (0:Int))) then (a0.f0 != (6:Int)) else false) == true) && true)=true→True)),(0,((((bif (decide ((a0.f4.length:Int) > (0:Int))) then (a0.f0 != (6:Int)) else false) == true) && true)=true→True)),(0,(True)∧dB (bif (bif (decide ((a0.f4.length:Int) > (0:Int))) then (a0.f0 != (6:Int)) else false) then (a0.f0 != (7:Int)) else false)=dB z4)] 1 (by kernel_rfl) (⟨len_ok rS_Object,(fun hg=>trivial),(fun hg=>trivial),(fun hg=>trivial),(fun hg=>trivial),⟨trivial,(by subst hz3; rfl)⟩⟩) ?_
          refine T_cond z4 (by kernel_rfl) (fun hc=>?_) (fun hc=>?_)
          · have h:=cond_tt hc h
            refine T_reg [] [4] [(4,dI (4:Int))] [] 1 (by kernel_rfl) (trivial) ?_
            obtain hs:=Option.some.inj h; subst hs
            refine T_ret fun a w hm=>inBlock_ret (then_ret (T_return (fr':=[(4,dI (4:Int))]) [4] (by kernel_rfl) [.keep [4]] (by kernel_rfl) (by kernel_rfl) (by kernel_rfl) (by show _=_; kernel_rfl) (by exact trivial) a w hm))
          · have h:=cond_ff hc h
            obtain ⟨z5,hz4,h⟩:=lett_ok h
            refine T_reg [(5,{ rw:=some (dI (a0.f3.length:Int)) }),(8,{ rw:=some (dI (a0.f4.length:Int)) }),(17,{ rw:=some (dI (a0.f3.length:Int)) }),(20,{ rw:=some (dB z5) })] [2,5,63] [(63,dB z5)] [(3,((((a0.f0 == (7:Int)) == true) && true)=true→True)),(0,((((a0.f0 == (7:Int)) == true) && true)=true→True)),(0,((((a0.f0 == (7:Int)) == true) && true)=true→True∧dI ((a0.f3.map cS).length:Int)=dI (a0.f3.length:Int))),(0,((((a0.f0 == (7:Int)) == true) && true)=true→True)),(0,((((a0.f0 == (7:Int)) == true) && true)=true→True)),(0,((((a0.f0 == (7:Int)) == true) && true)=true→True∧dI ((a0.f4.map rS_Object).length:Int)=dI (a0.f4.length:Int))),(0,((((a0.f0 == (7:Int)) == true) && true)=true→True)),(2,((((bif (a0.f0 == (7:Int)) then ((a0.f3.length:Int) != (a0.f4.length:Int)) else false) == false) && true)=true→True)),(0,((((bif (a0.f0 == (7:Int)) then ((a0.f3.length:Int) != (a0.f4.length:Int)) else false) == false) && true)=true→True)),(0,((((bif (a0.f0 == (7:Int)) then ((a0.f3.length:Int) != (a0.f4.length:Int)) else false) == false) && true)=true→True)),(0,((((a0.f0 != (7:Int)) == true) && (((bif (a0.f0 == (7:Int)) then ((a0.f3.length:Int) != (a0.f4.length:Int)) else false) == false) && true))=true→True)),(0,((((a0.f0 != (7:Int)) == true) && (((bif (a0.f0 == (7:Int)) then ((a0.f3.length:Int) != (a0.f4.length:Int)) else false) == false) && true))=true→True)),(0,((((a0.f0 != (7:Int)) == true) && (((bif (a0.f0 == (7:Int)) then ((a0.f3.length:Int) != (a0.f4.length:Int)) else false) == false) && true))=true→True∧dI ((a0.f3.map cS).length:Int)=dI (a0.f3.length:Int))),(0,((((a0.f0 != (7:Int)) == true) && (((bif (a0.f0 == (7:Int)) then ((a0.f3.length:Int) != (a0.f4.length:Int)) else false) == false) && true))=true→True)),(0,((((bif (a0.f0 == (7:Int)) then ((a0.f3.length:Int) != (a0.f4.length:Int)) else false) == false) && true)=true→True)),(0,(True)∧dB (bif (bif (a0.f0 == (7:Int)) then ((a0.f3.length:Int) != (a0.f4.length:Int)) else false) then true else (bif (a0.f0 != (7:Int)) then (decide ((a0.f3.length:Int) > (0:Int))) else false))=dB z5)] 1 (by kernel_rfl) (⟨(fun hg=>trivial),(fun hg=>trivial),(fun hg=>len_ok cS),(fun hg=>trivial),(fun hg=>trivial),(fun hg=>len_ok rS_Object),(fun hg=>trivial),(fun hg=>trivial),(fun hg=>trivial),(fun hg=>trivial),(fun hg=>trivial),(fun hg=>trivial),(fun hg=>len_ok cS),(fun hg=>trivial),(fun hg=>trivial),⟨trivial,(by subst hz4; rfl)⟩⟩) ?_
            refine T_cond z5 (by kernel_rfl) (fun hc=>?_) (fun hc=>?_)
            · have h:=cond_tt hc h
              refine T_reg [] [4] [(4,dI (4:Int))] [] 1 (by kernel_rfl) (trivial) ?_
              obtain hs:=Option.some.inj h; subst hs
              refine T_ret fun a w hm=>inBlock_ret (then_ret (T_return (fr':=[(4,dI (4:Int))]) [4] (by kernel_rfl) [.keep [4]] (by kernel_rfl) (by kernel_rfl) (by kernel_rfl) (by show _=_; kernel_rfl) (by exact trivial) a w hm))
            · have h:=cond_ff hc h
              obtain ⟨z6,hz5,h⟩:=lett_ok h
              refine T_reg [(11,{ rw:=some (dB z6) })] [2,85] [(85,dB z6)] [(3,((((a0.f0 == (1:Int)) == true) && true)=true→True)),(0,((((a0.f0 == (1:Int)) == true) && true)=true→True)),(0,((((a0.f0 == (1:Int)) == true) && true)=true→True)),(0,((((a0.f0 == (1:Int)) == true) && true)=true→True)),(0,((((decide (a0.f1 < (0:Int))) == false) && (((a0.f0 == (1:Int)) == true) && true))=true→True)),(0,((((decide (a0.f1 < (0:Int))) == false) && (((a0.f0 == (1:Int)) == true) && true))=true→True)),(0,((((decide (a0.f1 < (0:Int))) == false) && (((a0.f0 == (1:Int)) == true) && true))=true→True)),(0,((((a0.f0 == (1:Int)) == true) && true)=true→True)),(0,(True)∧dB (bif (a0.f0 == (1:Int)) then (bif (decide (a0.f1 < (0:Int))) then true else (decide (a0.f1 > (1:Int)))) else false)=dB z6)] 1 (by kernel_rfl) (⟨(fun hg=>trivial),(fun hg=>trivial),(fun hg=>trivial),(fun hg=>trivial),(fun hg=>trivial),(fun hg=>trivial),(fun hg=>trivial),(fun hg=>trivial),⟨trivial,(by subst hz5; rfl)⟩⟩) ?_
              refine T_cond z6 (by kernel_rfl) (fun hc=>?_) (fun hc=>?_)
              · have h:=cond_tt hc h
                refine T_reg [] [4] [(4,dI (3:Int))] [] 1 (by kernel_rfl) (trivial) ?_
                obtain hs:=Option.some.inj h; subst hs
                refine T_ret fun a w hm=>inBlock_ret (then_ret (T_return (fr':=[(4,dI (3:Int))]) [4] (by kernel_rfl) [.keep [4]] (by kernel_rfl) (by kernel_rfl) (by kernel_rfl) (by show _=_; kernel_rfl) (by exact trivial) a w hm))
              · have h:=cond_ff hc h
                refine T_reg [(2,{ rw:=some (dI (a0.f4.length:Int)) })] [2,98] [(98,dB (decide ((a0.f4.length:Int) > (256:Int))))] [(2,True∧dI ((a0.f4.map rS_Object).length:Int)=dI (a0.f4.length:Int))] 2 (by kernel_rfl) (len_ok rS_Object) ?_
                refine T_cond (decide ((a0.f4.length:Int) > (256:Int))) (by kernel_rfl) (fun hc=>?_) (fun hc=>?_)
                · have h:=cond_tt hc h
                  refine T_reg [] [4] [(4,dI (2:Int))] [] 1 (by kernel_rfl) (trivial) ?_
                  obtain hs:=Option.some.inj h; subst hs
                  refine T_ret fun a w hm=>inBlock_ret (then_ret (T_return (fr':=[(4,dI (2:Int))]) [4] (by kernel_rfl) [.keep [4]] (by kernel_rfl) (by kernel_rfl) (by kernel_rfl) (by show _=_; kernel_rfl) (by exact trivial) a w hm))
                · have h:=cond_ff hc h
                  refine T_skip fun a w hm=>inBlock_norm (then_norm (((?_:T Tryd.prog e 133 _ _ _) a w hm)))
                  refine T_seqk ?_
                  refine T_reg [(2,{ rw:=some (dI (a0.f3.length:Int)) })] [2,104,105,106] [(104,.d (.sl 1 (a0.f3.map cS))),(105,dI (a0.f3.length:Int)),(106,dI (0:Int))] [(2,True∧dI ((a0.f3.map cS).length:Int)=dI (a0.f3.length:Int))] 1 (by kernel_rfl) (len_ok cS) ?_
                  refine T_joinEt h (fun (p:Unit)=>[]) (fun s h hk1=>?_) (fun s h=>?_)
                  · refine T_co [.keep [2,104,105,106]] ((fun (p:Int)=>[(2,bx_Object a0),(104,.d (.sl 1 (a0.f3.map cS))),(105,dI (a0.f3.length:Int)),(106,dI p)]) (0:Int)) (by show _=_; kernel_rfl) ?_
                    refine T_block ?_
                    refine T_loopF (ι:=Int) (fun (p:Int)=>[(2,bx_Object a0),(104,.d (.sl 1 (a0.f3.map cS))),(105,dI (a0.f3.length:Int)),(106,dI p)]) (fun n p=>ref3_partError_L1 F a0 n p=some s) (fun i hh=>by simp [ref3_partError_L1] at hh) (fun n v1 h=>?_) F (0:Int) h
                    have h:ref3_partError_L1 F a0 (n+1) v1=some s:=h
                    rw [ref3_partError_L1] at h
                    refine T_reg [] [2,104,105,106,107] [(107,dB (decide (v1 < (a0.f3.length:Int))))] [] 1 (by kernel_rfl) (trivial) ?_
                    refine T_seqk ?_
                    refine T_cond (decide (v1 < (a0.f3.length:Int))) (by kernel_rfl) (fun hc=>?_) (fun hc=>?_)
                    · have h:=cond_tt hc h
                      refine T_skip fun a w hm=>then_norm (((?_:T Tryd.prog e 133 _ _ _) a w hm))
                      refine T_seqk ?_
                      refine T_block ?_
                      obtain ⟨hp1,h⟩:=chk_ok h
                      refine T_reg [(1,{ cs:=cS (a0.f3.getD v1.toNat []) })] [2,6,7,104,105,106] [(6,dI v1),(7,.d (.str (a0.f3.getD v1.toNat [])))] [(1,0≤v1∧(a0.f3.map cS)[v1.toNat]? = some (cS (a0.f3.getD v1.toNat [])))] 3 (by kernel_rfl) (idx_ok (d:=[]) cS hp1) ?_
                      refine T_seqk ?_
                      obtain ⟨y1,hy1,h⟩:=call_ok h
                      refine T_reg [(2,{ res:=.tup [.d (.str y1.1),dI y1.2] })] [2,6,7,9,104,105,106] [(9,dI y1.2)] [(2,ACall Tryd.prog 23 [.agg (cS_Token (S_Token.mk (2:Int) 0 (a0.f3.getD v1.toNat []) 0 0))] [] (.tup [.d (.str y1.1),dI y1.2]) [])] 5 (by kernel_rfl) (ref3_Spelled_ok hy1) ?_
                      refine T_reg [] [2,6,7,9,104,105,106,118] [(118,dB (y1.2 != (0:Int)))] [] 2 (by kernel_rfl) (trivial) ?_
                      refine T_cond (y1.2 != (0:Int)) (by kernel_rfl) (fun hc=>?_) (fun hc=>?_)
                      · have h:=cond_tt hc h
                        refine T_reg [] [4] [(4,dI y1.2)] [] 2 (by kernel_rfl) (trivial) ?_
                        obtain hs:=Option.some.inj h; subst hs
                        have h:=callE_esc hk1
                        obtain hs:=Option.some.inj h; subst hs
                        refine T_ret fun a w hm=>then_ret (inBlock_ret (then_ret (then_ret (inBlock_ret (then_ret (then_ret (T_return (fr':=[(4,dI y1.2)]) [4] (by kernel_rfl) [.keep [4]] (by kernel_rfl) (by kernel_rfl) (by kernel_rfl) (by show _=_; kernel_rfl) (by exact trivial) a w hm)))))))
                      · have h:=cond_ff hc h
                        refine T_skip fun a w hm=>then_norm (((?_:T Tryd.prog e 133 _ _ _) a w hm))
                        obtain ⟨hp2,h⟩:=chk_ok h
                        obtain ⟨z1,hz6,h⟩:=lett_ok h
                        refine T_reg [(8,{ cs:=cS (a0.f3.getD (IntKind.i64.wrap (v1 - (1:Int))).toNat []) }),(10,{ rw:=some (dB z1) })] [2,104,105,106,131] [(131,dB (bif (decide (v1 > (0:Int))) then z1 else false))] [(3,((((decide (v1 > (0:Int))) == true) && true)=true→True)),(0,((((decide (v1 > (0:Int))) == true) && true)=true→True)),(0,((((decide (v1 > (0:Int))) == true) && true)=true→True)),(0,((((decide (v1 > (0:Int))) == true) && true)=true→True)),(0,((((decide (v1 > (0:Int))) == true) && true)=true→True)),(0,((((decide (v1 > (0:Int))) == true) && true)=true→0≤(IntKind.i64.wrap (v1 - (1:Int)))∧(a0.f3.map cS)[(IntKind.i64.wrap (v1 - (1:Int))).toNat]? = some (cS (a0.f3.getD (IntKind.i64.wrap (v1 - (1:Int))).toNat [])))),(0,((((decide (v1 > (0:Int))) == true) && true)=true→True)),(0,((((decide (v1 > (0:Int))) == true) && true)=true→(True)∧dB (Op.bytesLess (a0.f3.getD v1.toNat []) (a0.f3.getD (IntKind.i64.wrap (v1 - (1:Int))).toNat []) || (a0.f3.getD v1.toNat []) == (a0.f3.getD (IntKind.i64.wrap (v1 - (1:Int))).toNat []))=dB z1))] 1 (by kernel_rfl) (⟨(fun hg=>trivial),(fun hg=>trivial),(fun hg=>trivial),(fun hg=>trivial),(fun hg=>trivial),(fun hg=>idx_ok (d:=[]) cS (hp2 hg)),(fun hg=>trivial),(fun hg=>⟨trivial,(by subst hz6; rfl)⟩)⟩) ?_
                        refine T_cond (bif (decide (v1 > (0:Int))) then z1 else false) (by kernel_rfl) (fun hc=>?_) (fun hc=>?_)
                        · have h:=cond_tt hc h
                          refine T_reg [] [4] [(4,dI (4:Int))] [] 1 (by kernel_rfl) (trivial) ?_
                          obtain hs:=Option.some.inj h; subst hs
                          have h:=callE_esc hk1
                          obtain hs:=Option.some.inj h; subst hs
                          refine T_ret fun a w hm=>inBlock_ret (then_ret (then_ret (inBlock_ret (then_ret (then_ret (T_return (fr':=[(4,dI (4:Int))]) [4] (by kernel_rfl) [.keep [4]] (by kernel_rfl) (by kernel_rfl) (by kernel_rfl) (by show _=_; kernel_rfl) (by exact trivial) a w hm))))))
                        · have h:=cond_ff hc h
                          refine T_skip fun a w hm=>inBlock_norm (then_norm (((?_:T Tryd.prog e 133 _ _ _) a w hm)))
                          refine T_reg_end [] [2,104,105,106] [(106,dI (IntKind.i64.wrap (v1+(1:Int))))] [] 2 (by kernel_rfl) (trivial) fun a w hm=>then_norm (⟨IntKind.i64.wrap (v1+(1:Int)),h,hm.co (cs:=[.keep [2,104,105,106]]) (by show _=_; kernel_rfl)⟩)
                    · have h:=cond_ff hc h
                      obtain hs:=Option.some.inj h; subst hs
                      refine T_exit fun a w hm=>then_exit (then_exit (inBlock_exit (then_norm (⟨_,rfl,hm.co (cs:=[.keep []]) (by show _=_; kernel_rfl)⟩))))
                  · skip
                    refine fun a w hm=>then_norm (((?_:T Tryd.prog e 133 _ _ _) a w hm))
                    refine T_reg [] [4] [(4,dI (0:Int))] [] 1 (by kernel_rfl) (trivial) ?_
                    obtain hs:=Option.some.inj h; subst hs
                    refine T_ret fun a w hm=>T_return (fr':=[(4,dI (0:Int))]) [4] (by kernel_rfl) [.keep [4]] (by kernel_rfl) (by kernel_rfl) (by kernel_rfl) (by show _=_; kernel_rfl) (by exact trivial) a w hm
set_option maxHeartbeats 8000000 in
set_option maxRecDepth 100000 in
theorem ref3_tokensOf_body_ok {F:Nat} {rec_ref3_tokensOf:(List S_Token)→S_Object→Int→Int→Option ((List S_Token)×Int×Int)} (hrec_ref3_tokensOf:∀ {a0:List S_Token},∀ {a1:S_Object},∀ {a2:Int},∀ {c3:Int},∀ {r:(List S_Token)×Int×Int},rec_ref3_tokensOf a0 a1 a2 c3=some r→ACall Tryd.prog 22 [.own 59 5 (a0.map cS_Token),.agg (cS_Object a1),.d (.v (.int .i64 a2)),.bp 1000000 0] [.box [.d (.v (.int .i64 c3))]] (.tup [.own 59 5 (r.1.map cS_Token),.d (.v (.int .i64 r.2.1))]) [.box [.d (.v (.int .i64 r.2.2))]]) {a0:List S_Token} {a1:S_Object} {a2:Int} {c3:Int} {r:(List S_Token)×Int×Int} (h:ref3_tokensOf_body F rec_ref3_tokensOf a0 a1 a2 c3=some r):ACall Tryd.prog 22 [.own 59 5 (a0.map cS_Token),.agg (cS_Object a1),.d (.v (.int .i64 a2)),.bp 1000000 0] [.box [.d (.v (.int .i64 c3))]] (.tup [.own 59 5 (r.1.map cS_Token),.d (.v (.int .i64 r.2.1))]) [.box [.d (.v (.int .i64 r.2.2))]]:=by
  rw [ref3_tokensOf_body] at h
  refine ACall.intro (N:=112) Tryd.func22 rfl rfl rfl rfl rfl fun e=>?_
  refine T_reg [] [0,2,3,5,1000000] [(5,bx_Object a1)] [] 3 (by kernel_rfl) (trivial) ?_
  refine T_reg [] [0,2,3,5,1000000] [(1000000,.box [dI (IntKind.i64.wrap (c3+(1:Int)))])] [] 6 (by kernel_rfl) (trivial) ?_
  refine T_seqk ?_
  refine T_reg [] [0,2,3,5,25,1000000] [(25,dB (decide ((IntKind.i64.wrap (c3+(1:Int))) > (4096:Int))))] [] 4 (by kernel_rfl) (trivial) ?_
  refine T_cond (decide ((IntKind.i64.wrap (c3+(1:Int))) > (4096:Int))) (by kernel_rfl) (fun hc=>?_) (fun hc=>?_)
  · have h:=cond_tt hc h
    refine T_reg [] [8,9,1000000] [(8,oW4 []),(9,dI (2:Int))] [] 2 (by kernel_rfl) (trivial) ?_
    obtain hs:=Option.some.inj h; subst hs
    refine T_ret fun a w hm=>then_ret (T_return (fr':=[(8,oW4 []),(9,dI (2:Int)),(1000000,.box [dI (IntKind.i64.wrap (c3+(1:Int)))])]) [8,9] (by kernel_rfl) [.keep [8,9,1000000]] (by kernel_rfl) (by kernel_rfl) (by kernel_rfl) (by show _=_; kernel_rfl) (by exact ⟨⟨by kernel_rfl,by kernel_rfl⟩,trivial⟩) a w hm)
  · have h:=cond_ff hc h
    refine T_skip fun a w hm=>then_norm (((?_:T Tryd.prog e 112 _ _ _) a w hm))
    refine T_seqk ?_
    obtain ⟨y2,hy1,h⟩:=call_ok h
    refine T_reg [(2,{ res:=dI y2 })] [0,2,3,5,10,1000000] [(10,dI y2)] [(2,ACall Tryd.prog 41 [.agg (cS_Object a1),dI a2] [] (dI y2) [])] 1 (by kernel_rfl) (ref3_partError_ok hy1) ?_
    refine T_reg [] [0,2,3,5,10,30,1000000] [(30,dB (y2 != (0:Int)))] [] 2 (by kernel_rfl) (trivial) ?_
    refine T_cond (y2 != (0:Int)) (by kernel_rfl) (fun hc=>?_) (fun hc=>?_)
    · have h:=cond_tt hc h
      refine T_reg [] [8,9,1000000] [(8,oW4 []),(9,dI y2)] [] 3 (by kernel_rfl) (trivial) ?_
      obtain hs:=Option.some.inj h; subst hs
      refine T_ret fun a w hm=>then_ret (T_return (fr':=[(8,oW4 []),(9,dI y2),(1000000,.box [dI (IntKind.i64.wrap (c3+(1:Int)))])]) [8,9] (by kernel_rfl) [.keep [8,9,1000000]] (by kernel_rfl) (by kernel_rfl) (by kernel_rfl) (by show _=_; kernel_rfl) (by exact ⟨⟨by kernel_rfl,by kernel_rfl⟩,trivial⟩) a w hm)
    · have h:=cond_ff hc h
      refine T_skip fun a w hm=>then_norm (((?_:T Tryd.prog e 112 _ _ _) a w hm))
      obtain ⟨hp1,h⟩:=chk_ok h
      obtain ⟨z1,hz1,h⟩:=lett_ok h
      refine T_drawG mixed [(12,0,some 1),(11,2,some 5),(10,34,some 7),(9,162,none),(8,163,none),(8,166,none),(8,226,none),(8,418,none),(8,1186,none),(7,167,some 3),(7,227,none),(7,230,none),(7,419,none),(7,422,none),(7,482,none),(7,1187,none),(7,1190,none),(7,1250,none),(7,1442,none),(6,175,none),(6,231,some 3),(6,423,some 3),(6,483,none),(6,486,none),(6,1191,some 3),(6,1251,none),(6,1254,none),(6,1443,none),(6,1446,none),(6,1506,none),(5,191,none),(5,239,none),(5,431,none),(5,487,some 3),(5,1199,none),(5,1255,some 3),(5,1447,some 3),(5,1507,none),(5,1510,none),(4,255,none),(4,447,none),(4,495,none),(4,1215,none),(4,1263,none),(4,1455,none),(4,1511,some 3),(3,511,none),(3,1279,none),(3,1471,none),(3,1519,none),(2,1023,none),(2,1535,none),(1,2047,none),(0,4095,none)] [(12,11,.box [dI z1,dI a1.f1,.d (.str a1.f2),dI 0,dI 0]),(11,11,.box [dI 0,dI 0,.d (.str []),dI 0,dI 0]),(10,41,.agg (cS_Token (S_Token.mk z1 a1.f1 a1.f2 0 0))),(9,40,.d (.str a1.f2)),(8,39,.bp 5 2),(7,38,dI a1.f1),(6,37,.bp 5 1),(5,36,dI z1),(4,35,.ep (32,0) 1 a1.f0.toNat 0),(3,34,dI a1.f0),(2,33,.bp 5 0),(1,32,.own 3 1 (([(5:Int),(5:Int),(1:Int),(2:Int),(3:Int),(4:Int),(6:Int),(8:Int)]).map (cI .i64))),(0,0,oW4 a0),(0,2,dI a2),(0,3,.bp 1000000 0),(0,5,bx_Object a1),(0,1000000,.box [dI (IntKind.i64.wrap (c3+(1:Int)))])] [0,2,3,5,11,32,33,34,35,36,37,38,39,40,41,1000000] ([0,0,2,5,8,0,32,0,128,336,0,2047],[0,0,2,5,8,0,32,0,128,336,0,1536]) 170 [(0,{ es:=some (([(5:Int),(5:Int),(1:Int),(2:Int),(3:Int),(4:Int),(6:Int),(8:Int)]).map (cI .i64)) }),(4,{ cs:=(cI .i64) (([(5:Int),(5:Int),(1:Int),(2:Int),(3:Int),(4:Int),(6:Int),(8:Int)]).getD a1.f0.toNat 0),rw:=some (dI z1) })] [0,2,3,5,11,1000000] [] [(0,oW4 a0),(2,dI a2),(3,.bp 1000000 0),(5,bx_Object a1),(11,.box [dI z1,dI a1.f1,.d (.str a1.f2),dI 0,dI 0]),(1000000,.box [dI (IntKind.i64.wrap (c3+(1:Int)))])] ((fun (o0:Prop)=>fun (o3:Prop)=>fun (o4:Prop)=>[(3,o0),(8,o0),(3,o0),(3,o0),(3,o0),(3,o3),(3,o0),(5,o0),(2,o0),(5,o0),(2,o0),(2,o0),(2,o4),(3,o3),(0,o3),(2,o0),(1,o3),(2,o0),(3,o0),(1,o0),(4,o4),(2,o4),(2,o3),(0,o4),(2,o3),(0,o3),(1,o0),(4,o4),(3,o4),(1,o4),(1,o3),(4,o4)]) ((([(5:Int),(5:Int),(1:Int),(2:Int),(3:Int),(4:Int),(6:Int),(8:Int)]).map (cI .i64))=(([(5:Int),(5:Int),(1:Int),(2:Int),(3:Int),(4:Int),(6:Int),(8:Int)]).map (cI .i64))) (0≤a1.f0∧a1.f0 < (([(5:Int),(5:Int),(1:Int),(2:Int),(3:Int),(4:Int),(6:Int),(8:Int)]).map (cI .i64)).length) (((([(5:Int),(5:Int),(1:Int),(2:Int),(3:Int),(4:Int),(6:Int),(8:Int)]).map (cI .i64))[a1.f0.toNat]? = some ((cI .i64) (([(5:Int),(5:Int),(1:Int),(2:Int),(3:Int),(4:Int),(6:Int),(8:Int)]).getD a1.f0.toNat 0)))∧dI (([(5:Int),(5:Int),(1:Int),(2:Int),(3:Int),(4:Int),(6:Int),(8:Int)]).getD a1.f0.toNat 0)=dI z1)) 3 (by kernel_rfl) (by kernel_rfl) (by kernel_rfl) (by kernel_rfl) (by kernel_rfl) (by kernel_rfl) (have p0:=rfl; have p3:=own_idx (cI .i64) hp1; have p4:=⟨(idx_ok (d:=0) (cI .i64) hp1).2,(by subst hz1; rfl)⟩; ⟨p0,p0,p0,p0,p0,p3,p0,p0,p0,p0,p0,p0,p4,p3,p3,p0,p3,p0,p0,p0,p4,p4,p3,p4,p3,p3,p0,p4,p4,p4,p3,p4⟩) ?_
      refine T_joinc h (fun (p:(List UInt8))=>[(0,oW4 a0),(2,dI a2),(3,.bp 1000000 0),(5,bx_Object a1),(11,.box [dI z1,dI a1.f1,.d (.str p),dI 0,dI 0]),(1000000,.box [dI (IntKind.i64.wrap (c3+(1:Int)))])]) (fun s h=>?_) (fun v5 h=>?_)
      · refine T_reg [] [0,2,3,5,11,44,1000000] [(44,dB (a1.f0 == (0:Int)))] [] 3 (by kernel_rfl) (trivial) ?_
        refine T_cond (a1.f0 == (0:Int)) (by kernel_rfl) (fun hc=>?_) (fun hc=>?_)
        · have h:=cond_tt hc h
          obtain hs:=Option.some.inj h; subst hs
          refine T_reg_end [] [0,2,3,5,11,1000000] [(11,.box [dI z1,dI a1.f1,.d (.str ([110,117,108,108]:List UInt8)),dI 0,dI 0])] [] 2 (by kernel_rfl) (trivial) fun a w hm=>then_norm (hm.co (cs:=[.keep [0,2,3,5,11,1000000]]) (by show _=_; kernel_rfl))
        · have h:=cond_ff hc h
          obtain hs:=Option.some.inj h; subst hs
          refine T_skip fun a w hm=>then_norm (hm.co (cs:=[.keep [0,2,3,5,11,1000000]]) (by show _=_; kernel_rfl))
      · skip
        refine T_joinc h (fun (p:Int×(List UInt8))=>[(0,oW4 a0),(2,dI a2),(3,.bp 1000000 0),(5,bx_Object a1),(11,.box [dI z1,dI p.1,.d (.str p.2),dI 0,dI 0]),(1000000,.box [dI (IntKind.i64.wrap (c3+(1:Int)))])]) (fun s h=>?_) (fun s h=>?_)
        · refine T_reg [] [0,2,3,5,11,48,1000000] [(48,dB (a1.f0 == (1:Int)))] [] 3 (by kernel_rfl) (trivial) ?_
          refine T_cond (a1.f0 == (1:Int)) (by kernel_rfl) (fun hc=>?_) (fun hc=>?_)
          · have h:=cond_tt hc h
            obtain ⟨hp2,h⟩:=chk_ok h
            obtain ⟨z2,hz2,h⟩:=lett_ok h
            obtain hs:=Option.some.inj h; subst hs
            refine T_drawX_end mixed 8 (.take 1 (.take 5 (.all (.alt 0 (.all (.alt 2 (.take 3 (.all (.alt 4 (.all (.alt 6 (.take 7 (.all (.alt 8 .done .stop))) .stop)) (.alt 6 (.all (.alt 4 (.take 7 (.all (.alt 8 .done .stop))) .stop)) .stop)))) (.alt 6 (.all (.alt 2 (.take 3 (.all (.alt 4 (.take 7 (.all (.alt 8 .done .stop))) .stop))) .stop)) .stop))) (.alt 2 (.all (.alt 0 (.take 3 (.all (.alt 4 (.all (.alt 6 (.take 7 (.all (.alt 8 .done .stop))) .stop)) (.alt 6 (.all (.alt 4 (.take 7 (.all (.alt 8 .done .stop))) .stop)) .stop)))) (.alt 6 (.all (.alt 0 (.take 3 (.all (.alt 4 (.take 7 (.all (.alt 8 .done .stop))) .stop))) .stop)) .stop))) (.alt 6 (.all (.alt 0 (.all (.alt 2 (.take 3 (.all (.alt 4 (.take 7 (.all (.alt 8 .done .stop))) .stop))) .stop)) (.alt 2 (.all (.alt 0 (.take 3 (.all (.alt 4 (.take 7 (.all (.alt 8 .done .stop))) .stop))) .stop)) .stop))) .stop)))))) ([0,0,2,5,8,0,32,127,255],[0,0,2,5,8,0,32,0,144]) 170 [(0,{ es:=some (([([102,97,108,115,101]:List UInt8),([116,114,117,101]:List UInt8)]).map cS) }),(4,{ cs:=cS (([([102,97,108,115,101]:List UInt8),([116,114,117,101]:List UInt8)]).getD a1.f1.toNat []),rw:=some (.d (.str z2)) })] [0,2,3,5,11,1000000] [] [(0,oW4 a0),(2,dI a2),(3,.bp 1000000 0),(5,bx_Object a1),(11,.box [dI z1,dI (0:Int),.d (.str z2),dI 0,dI 0]),(1000000,.box [dI (IntKind.i64.wrap (c3+(1:Int)))])] ((fun (o0:Prop)=>fun (o3:Prop)=>fun (o4:Prop)=>[(2,o0),(1,o3),(0,o4),(4,o4),(4,o3),(0,o4),(3,o0),(0,o3),(0,o4),(4,o4),(3,o0),(0,o3),(0,o4),(3,o0),(1,o3),(0,o4),(3,o0),(0,o3),(0,o4)]) ((([([102,97,108,115,101]:List UInt8),([116,114,117,101]:List UInt8)]).map cS)=(([([102,97,108,115,101]:List UInt8),([116,114,117,101]:List UInt8)]).map cS)) (0≤a1.f1∧a1.f1 < (([([102,97,108,115,101]:List UInt8),([116,114,117,101]:List UInt8)]).map cS).length) (((([([102,97,108,115,101]:List UInt8),([116,114,117,101]:List UInt8)]).map cS)[a1.f1.toNat]? = some (cS (([([102,97,108,115,101]:List UInt8),([116,114,117,101]:List UInt8)]).getD a1.f1.toNat [])))∧AV.d (.str (([([102,97,108,115,101]:List UInt8),([116,114,117,101]:List UInt8)]).getD a1.f1.toNat []))=.d (.str z2))) 2 (by kernel_rfl) (by kernel_rfl) (by kernel_rfl) (have p0:=rfl; have p3:=own_idx cS hp2; have p4:=⟨(idx_ok (d:=[]) cS hp2).2,(by subst hz2; rfl)⟩; ⟨p0,p3,p4,p4,p3,p4,p0,p3,p4,p4,p0,p3,p4,p0,p3,p4,p0,p3,p4⟩) fun a w hm=>then_norm (hm.co (cs:=[.keep [0,2,3,5,11,1000000]]) (by show _=_; kernel_rfl))
          · have h:=cond_ff hc h
            obtain hs:=Option.some.inj h; subst hs
            refine T_skip fun a w hm=>then_norm (hm.co (cs:=[.keep [0,2,3,5,11,1000000]]) (by show _=_; kernel_rfl))
        · obtain ⟨v6,v7⟩:=s
          try dsimp only at h
          refine T_seqk ?_
          obtain ⟨y3,hy2,h⟩:=call_ok h
          refine T_reg [(1,{ res:=.tup [.d (.str y3.1),dI y3.2] })] [0,2,3,5,11,13,1000000] [(13,dI y3.2)] [(1,ACall Tryd.prog 23 [.agg (cS_Token (S_Token.mk z1 v6 v7 0 0))] [] (.tup [.d (.str y3.1),dI y3.2]) [])] 5 (by kernel_rfl) (ref3_Spelled_ok hy2) ?_
          refine T_reg [] [0,2,3,5,11,13,62,1000000] [(62,dB (y3.2 != (0:Int)))] [] 2 (by kernel_rfl) (trivial) ?_
          refine T_cond (y3.2 != (0:Int)) (by kernel_rfl) (fun hc=>?_) (fun hc=>?_)
          · have h:=cond_tt hc h
            refine T_reg [] [8,9,1000000] [(8,oW4 []),(9,dI y3.2)] [] 3 (by kernel_rfl) (trivial) ?_
            obtain hs:=Option.some.inj h; subst hs
            refine T_ret fun a w hm=>then_ret (T_return (fr':=[(8,oW4 []),(9,dI y3.2),(1000000,.box [dI (IntKind.i64.wrap (c3+(1:Int)))])]) [8,9] (by kernel_rfl) [.keep [8,9,1000000]] (by kernel_rfl) (by kernel_rfl) (by kernel_rfl) (by show _=_; kernel_rfl) (by exact ⟨⟨by kernel_rfl,by kernel_rfl⟩,trivial⟩) a w hm)
          · have h:=cond_ff hc h
            refine T_skip fun a w hm=>then_norm (((?_:T Tryd.prog e 112 _ _ _) a w hm))
            obtain ⟨hp3,h⟩:=chk_ok h
            refine T_reg [(2,{ es:=some (([(S_Token.mk z1 v6 v7 0 0)]).map cS_Token) }),(3,{ es:=some ((a0++([(S_Token.mk z1 v6 v7 0 0)])).map cS_Token) })] [0,2,3,5,11,1000000] [(0,.own 59 5 ((a0++([(S_Token.mk z1 v6 v7 0 0)])).map cS_Token))] [(2,(([(S_Token.mk z1 v6 v7 0 0)]).map cS_Token)=(([(S_Token.mk z1 v6 v7 0 0)]).map cS_Token)),(0,(a0.map cS_Token).length+(([(S_Token.mk z1 v6 v7 0 0)]).map cS_Token).length≤4294967296∧(a0.map cS_Token)++(([(S_Token.mk z1 v6 v7 0 0)]).map cS_Token)=((a0++([(S_Token.mk z1 v6 v7 0 0)])).map cS_Token))] 1 (by kernel_rfl) (⟨rfl,app_ok cS_Token hp3⟩) ?_
            refine T_seqk ?_
            refine T_reg [] [0,2,3,5,11,70,1000000] [(70,dB (decide (a1.f0 < (6:Int))))] [] 3 (by kernel_rfl) (trivial) ?_
            refine T_cond (decide (a1.f0 < (6:Int))) (by kernel_rfl) (fun hc=>?_) (fun hc=>?_)
            · have h:=cond_tt hc h
              refine T_reg [] [0,8,9,1000000] [(8,.vw (0,0)),(9,dI (0:Int))] [] 3 (by kernel_rfl) (trivial) ?_
              obtain hs:=Option.some.inj h; subst hs
              refine T_ret fun a w hm=>then_ret (T_return (fr':=[(8,.own 59 5 ((a0++([(S_Token.mk z1 v6 v7 0 0)])).map cS_Token)),(9,dI (0:Int)),(1000000,.box [dI (IntKind.i64.wrap (c3+(1:Int)))])]) [8,9] (by kernel_rfl) [.claim 8,.keep [8,9,1000000]] (by kernel_rfl) (by kernel_rfl) (by kernel_rfl) (by show _=_; kernel_rfl) (by exact ⟨⟨by kernel_rfl,by kernel_rfl⟩,trivial⟩) a w hm)
            · have h:=cond_ff hc h
              refine T_skip fun a w hm=>then_norm (((?_:T Tryd.prog e 112 _ _ _) a w hm))
              refine T_seqk ?_
              refine T_reg [(2,{ rw:=some (dI (a1.f4.length:Int)) })] [0,2,3,5,11,73,74,75,1000000] [(73,.d (.sl 5 (a1.f4.map rS_Object))),(74,dI (a1.f4.length:Int)),(75,dI (0:Int))] [(2,True∧dI ((a1.f4.map rS_Object).length:Int)=dI (a1.f4.length:Int))] 1 (by kernel_rfl) (len_ok rS_Object) ?_
              refine T_joinEt h (fun (p:(List S_Token)×Int)=>[(0,oW4 p.1),(11,.box [dI z1,dI v6,.d (.str v7),dI 0,dI 0]),(1000000,.box [dI p.2])]) (fun s h hk1=>?_) (fun s h=>?_)
              · refine T_co [.keep [0,2,3,5,11,73,74,75,1000000]] ((fun (p:(List S_Token)×Int×Int)=>[(0,oW4 p.1),(2,dI a2),(3,.bp 1000000 0),(5,bx_Object a1),(11,.box [dI z1,dI v6,.d (.str v7),dI 0,dI 0]),(73,.d (.sl 5 (a1.f4.map rS_Object))),(74,dI (a1.f4.length:Int)),(75,dI p.2.1),(1000000,.box [dI p.2.2])]) ((a0++([(S_Token.mk z1 v6 v7 0 0)])),(0:Int),IntKind.i64.wrap (c3+(1:Int)))) (by show _=_; kernel_rfl) ?_
                refine T_block ?_
                refine T_loopF (ι:=(List S_Token)×Int×Int) (fun (p:(List S_Token)×Int×Int)=>[(0,oW4 p.1),(2,dI a2),(3,.bp 1000000 0),(5,bx_Object a1),(11,.box [dI z1,dI v6,.d (.str v7),dI 0,dI 0]),(73,.d (.sl 5 (a1.f4.map rS_Object))),(74,dI (a1.f4.length:Int)),(75,dI p.2.1),(1000000,.box [dI p.2.2])]) (fun n p=>ref3_tokensOf_L0 F a1 a2 rec_ref3_tokensOf n p.1 p.2.1 p.2.2=some s) (fun i hh=>by simp [ref3_tokensOf_L0] at hh) (fun n p h=>?_) F ((a0++([(S_Token.mk z1 v6 v7 0 0)])),(0:Int),IntKind.i64.wrap (c3+(1:Int))) h
                obtain ⟨v1,v2,v3⟩:=p
                have h:ref3_tokensOf_L0 F a1 a2 rec_ref3_tokensOf (n+1) v1 v2 v3=some s:=h
                rw [ref3_tokensOf_L0] at h
                refine T_reg [] [0,2,3,5,11,73,74,75,76,1000000] [(76,dB (decide (v2 < (a1.f4.length:Int))))] [] 1 (by kernel_rfl) (trivial) ?_
                refine T_seqk ?_
                refine T_cond (decide (v2 < (a1.f4.length:Int))) (by kernel_rfl) (fun hc=>?_) (fun hc=>?_)
                · have h:=cond_tt hc h
                  refine T_skip fun a w hm=>then_norm (((?_:T Tryd.prog e 112 _ _ _) a w hm))
                  refine T_seqk ?_
                  refine T_block ?_
                  obtain ⟨hp4,h⟩:=chk_ok h
                  refine T_reg [(1,{ cs:=cS_Object (a1.f4.getD v2.toNat z_Object) })] [0,2,3,5,11,14,15,73,74,75,1000000] [(14,dI v2),(15,.box [dI ((a1.f4.getD v2.toNat z_Object).f0),dI ((a1.f4.getD v2.toNat z_Object).f1),.d (.str ((a1.f4.getD v2.toNat z_Object).f2)),.d (.sl 1 (((a1.f4.getD v2.toNat z_Object).f3).map cS)),.d (.sl 5 (((a1.f4.getD v2.toNat z_Object).f4).map rS_Object))])] [(1,0≤v2∧(a1.f4.map rS_Object)[v2.toNat]? = some (cS_Object (a1.f4.getD v2.toNat z_Object)))] 4 (by kernel_rfl) (idx_okR (d:=z_Object) rS_Object_eq hp4) ?_
                  refine T_joinc h (fun (p:(List S_Token))=>[(0,oW4 p),(2,dI a2),(3,.bp 1000000 0),(5,bx_Object a1),(11,.box [dI z1,dI v6,.d (.str v7),dI 0,dI 0]),(15,.box [dI ((a1.f4.getD v2.toNat z_Object).f0),dI ((a1.f4.getD v2.toNat z_Object).f1),.d (.str ((a1.f4.getD v2.toNat z_Object).f2)),.d (.sl 1 (((a1.f4.getD v2.toNat z_Object).f3).map cS)),.d (.sl 5 (((a1.f4.getD v2.toNat z_Object).f4).map rS_Object))]),(73,.d (.sl 5 (a1.f4.map rS_Object))),(74,dI (a1.f4.length:Int)),(75,dI v2),(1000000,.box [dI v3])]) (fun s h=>?_) (fun v4 h=>?_)
                  · refine T_reg [] [0,2,3,5,11,14,15,73,74,75,82,1000000] [(82,dB (a1.f0 == (7:Int)))] [] 3 (by kernel_rfl) (trivial) ?_
                    refine T_cond (a1.f0 == (7:Int)) (by kernel_rfl) (fun hc=>?_) (fun hc=>?_)
                    · have h:=cond_tt hc h
                      obtain ⟨hp5,h⟩:=chk_ok h
                      obtain ⟨hp6,h⟩:=chk_ok h
                      obtain hs:=Option.some.inj h; subst hs
                      refine T_reg_end [(4,{ cs:=cS (a1.f3.getD v2.toNat []) }),(7,{ es:=some (([(S_Token.mk (2:Int) 0 (a1.f3.getD v2.toNat []) 0 0)]).map cS_Token) }),(8,{ es:=some ((v1++([(S_Token.mk (2:Int) 0 (a1.f3.getD v2.toNat []) 0 0)])).map cS_Token) })] [0,2,3,5,11,15,73,74,75,1000000] [(0,.own 59 5 ((v1++([(S_Token.mk (2:Int) 0 (a1.f3.getD v2.toNat []) 0 0)])).map cS_Token))] [(4,0≤v2∧(a1.f3.map cS)[v2.toNat]? = some (cS (a1.f3.getD v2.toNat []))),(2,(([(S_Token.mk (2:Int) 0 (a1.f3.getD v2.toNat []) 0 0)]).map cS_Token)=(([(S_Token.mk (2:Int) 0 (a1.f3.getD v2.toNat []) 0 0)]).map cS_Token)),(0,(v1.map cS_Token).length+(([(S_Token.mk (2:Int) 0 (a1.f3.getD v2.toNat []) 0 0)]).map cS_Token).length≤4294967296∧(v1.map cS_Token)++(([(S_Token.mk (2:Int) 0 (a1.f3.getD v2.toNat []) 0 0)]).map cS_Token)=((v1++([(S_Token.mk (2:Int) 0 (a1.f3.getD v2.toNat []) 0 0)])).map cS_Token))] 1 (by kernel_rfl) (⟨idx_ok (d:=[]) cS hp5,rfl,app_ok cS_Token hp6⟩) fun a w hm=>then_norm (hm.co (cs:=[.keep [0,2,3,5,11,15,73,74,75,1000000]]) (by show _=_; kernel_rfl))
                    · have h:=cond_ff hc h
                      obtain hs:=Option.some.inj h; subst hs
                      refine T_skip fun a w hm=>then_norm (hm.co (cs:=[.keep [0,2,3,5,11,15,73,74,75,1000000]]) (by show _=_; kernel_rfl))
                  · skip
                    refine T_reg [] [0,2,3,5,11,15,73,74,75,1000000] [] [] 1 (by kernel_rfl) (trivial) ?_
                    obtain ⟨y1,hy3,h⟩:=call_ok h
                    refine T_reg [(5,{ res:=.tup [oW4 y1.1,dI y1.2.1],vout:=[.box [dI y1.2.2]],xs:=[1000000],take:=[0] })] [0,2,3,5,11,16,73,74,75,1000000] [(0,oW4 y1.1),(16,dI y1.2.1),(1000000,.box [dI y1.2.2])] [(5,ACall Tryd.prog 22 [oW4 v4,.agg (cS_Object (a1.f4.getD v2.toNat z_Object)),dI (IntKind.i64.wrap (a2+(1:Int))),.bp 1000000 0] [.box [dI v3]] (.tup [oW4 y1.1,dI y1.2.1]) [.box [dI y1.2.2]])] 5 (by kernel_rfl) (hrec_ref3_tokensOf hy3) ?_
                    refine T_reg [] [0,2,3,5,11,16,73,74,75,102,1000000] [(102,dB (y1.2.1 != (0:Int)))] [] 2 (by kernel_rfl) (trivial) ?_
                    refine T_cond (y1.2.1 != (0:Int)) (by kernel_rfl) (fun hc=>?_) (fun hc=>?_)
                    · have h:=cond_tt hc h
                      refine T_reg [] [8,9,1000000] [(8,oW4 []),(9,dI y1.2.1)] [] 3 (by kernel_rfl) (trivial) ?_
                      obtain hs:=Option.some.inj h; subst hs
                      have h:=callE_esc hk1
                      obtain hs:=Option.some.inj h; subst hs
                      refine T_ret fun a w hm=>inBlock_ret (then_ret (then_ret (inBlock_ret (then_ret (then_ret (T_return (fr':=[(8,oW4 []),(9,dI y1.2.1),(1000000,.box [dI y1.2.2])]) [8,9] (by kernel_rfl) [.keep [8,9,1000000]] (by kernel_rfl) (by kernel_rfl) (by kernel_rfl) (by show _=_; kernel_rfl) (by exact ⟨⟨by kernel_rfl,by kernel_rfl⟩,trivial⟩) a w hm))))))
                    · have h:=cond_ff hc h
                      refine T_skip fun a w hm=>inBlock_norm (then_norm (((?_:T Tryd.prog e 112 _ _ _) a w hm)))
                      refine T_reg_end [] [0,2,3,5,11,73,74,75,1000000] [(75,dI (IntKind.i64.wrap (v2+(1:Int))))] [] 2 (by kernel_rfl) (trivial) fun a w hm=>then_norm (⟨(y1.1,IntKind.i64.wrap (v2+(1:Int)),y1.2.2),h,hm.co (cs:=[.keep [0,2,3,5,11,73,74,75,1000000]]) (by show _=_; kernel_rfl)⟩)
                · have h:=cond_ff hc h
                  obtain hs:=Option.some.inj h; subst hs
                  refine T_exit fun a w hm=>then_exit (then_exit (inBlock_exit (then_norm (⟨_,rfl,hm.co (cs:=[.keep [0,11,1000000]]) (by show _=_; kernel_rfl)⟩))))
              · obtain ⟨v8,v9⟩:=s
                try dsimp only at h
                refine fun a w hm=>then_norm (((?_:T Tryd.prog e 112 _ _ _) a w hm))
                obtain ⟨hp7,h⟩:=chk_ok h
                refine T_reg [(5,{ es:=some (([(S_Token.mk (IntKind.i64.wrap (z1+(1:Int))) 0 [] 0 0)]).map cS_Token) }),(6,{ es:=some ((v8++([(S_Token.mk (IntKind.i64.wrap (z1+(1:Int))) 0 [] 0 0)])).map cS_Token) })] [8,9,1000000] [(8,.own 59 5 ((v8++([(S_Token.mk (IntKind.i64.wrap (z1+(1:Int))) 0 [] 0 0)])).map cS_Token)),(9,dI (0:Int))] [(5,(([(S_Token.mk (IntKind.i64.wrap (z1+(1:Int))) 0 [] 0 0)]).map cS_Token)=(([(S_Token.mk (IntKind.i64.wrap (z1+(1:Int))) 0 [] 0 0)]).map cS_Token)),(0,(v8.map cS_Token).length+(([(S_Token.mk (IntKind.i64.wrap (z1+(1:Int))) 0 [] 0 0)]).map cS_Token).length≤4294967296∧(v8.map cS_Token)++(([(S_Token.mk (IntKind.i64.wrap (z1+(1:Int))) 0 [] 0 0)]).map cS_Token)=((v8++([(S_Token.mk (IntKind.i64.wrap (z1+(1:Int))) 0 [] 0 0)])).map cS_Token))] 2 (by kernel_rfl) (⟨rfl,app_ok cS_Token hp7⟩) ?_
                obtain hs:=Option.some.inj h; subst hs
                refine T_ret fun a w hm=>T_return (fr':=[(8,.own 59 5 ((v8++([(S_Token.mk (IntKind.i64.wrap (z1+(1:Int))) 0 [] 0 0)])).map cS_Token)),(9,dI (0:Int)),(1000000,.box [dI v9])]) [8,9] (by kernel_rfl) [.keep [8,9,1000000]] (by kernel_rfl) (by kernel_rfl) (by kernel_rfl) (by show _=_; kernel_rfl) (by exact ⟨⟨by kernel_rfl,by kernel_rfl⟩,trivial⟩) a w hm
theorem ref3_tokensOf_fuel_ok {F:Nat} (n:Nat):∀ {a0:List S_Token} {a1:S_Object} {a2:Int} {c3:Int} {r:(List S_Token)×Int×Int},ref3_tokensOf_fuel F n a0 a1 a2 c3=some r→ACall Tryd.prog 22 [.own 59 5 (a0.map cS_Token),.agg (cS_Object a1),.d (.v (.int .i64 a2)),.bp 1000000 0] [.box [.d (.v (.int .i64 c3))]] (.tup [.own 59 5 (r.1.map cS_Token),.d (.v (.int .i64 r.2.1))]) [.box [.d (.v (.int .i64 r.2.2))]]:=by
  induction n with
  | zero=>intro a0 a1 a2 c3 r h; exact absurd (show (none:Option ((List S_Token)×Int×Int))=some r from h) (by simp)
  | succ n ih=>intro a0 a1 a2 c3 r h; exact ref3_tokensOf_body_ok ih h
theorem ref3_tokensOf_ok {F:Nat} {a0:List S_Token} {a1:S_Object} {a2:Int} {c3:Int} {r:(List S_Token)×Int×Int} (h:ref3_tokensOf F a0 a1 a2 c3=some r):ACall Tryd.prog 22 [.own 59 5 (a0.map cS_Token),.agg (cS_Object a1),.d (.v (.int .i64 a2)),.bp 1000000 0] [.box [.d (.v (.int .i64 c3))]] (.tup [.own 59 5 (r.1.map cS_Token),.d (.v (.int .i64 r.2.1))]) [.box [.d (.v (.int .i64 r.2.2))]]:=ref3_tokensOf_fuel_ok F h
theorem ref3_Shown_ok {F:Nat} {a0:S_Object} {r:(List UInt8)×Int} (h:ref3_Shown F a0=some r):ACall Tryd.prog 10 [.agg (cS_Object a0)] [] (.tup [.d (.str r.1),.d (.v (.int .i64 r.2))]) []:=by
  rw [ref3_Shown] at h
  refine ACall.intro (N:=74) Tryd.func10 rfl rfl rfl rfl rfl fun e=>?_
  refine T_reg [] [1] [(1,bx_Object a0)] [] 3 (by kernel_rfl) (trivial) ?_
  refine T_reg [] [1,4] [(4,.box [dI (0:Int)])] [] 2 (by kernel_rfl) (trivial) ?_
  obtain ⟨y1,hy1,h⟩:=call_ok h
  refine T_reg [(1,{ res:=.tup [oW4 y1.1,dI y1.2.1],vout:=[.box [dI y1.2.2]],xs:=[4] })] [5,6] [(5,oW4 y1.1),(6,dI y1.2.1)] [(1,ACall Tryd.prog 22 [.d (.v (.slice none 0 0)),.agg (cS_Object a0),dI (1:Int),.bp 1000000 0] [.box [dI (0:Int)]] (.tup [oW4 y1.1,dI y1.2.1]) [.box [dI y1.2.2]])] 5 (by kernel_rfl) ((ACall.nilArgOwn 0 (ref3_tokensOf_ok hy1) rfl rfl (by decide) rfl)) ?_
  refine T_seqk ?_
  refine T_reg [] [5,6,18] [(18,dB (y1.2.1 != (0:Int)))] [] 2 (by kernel_rfl) (trivial) ?_
  refine T_cond (y1.2.1 != (0:Int)) (by kernel_rfl) (fun hc=>?_) (fun hc=>?_)
  · have h:=cond_tt hc h
    refine T_reg [] [2,3] [(2,.d (.str [])),(3,dI y1.2.1)] [] 3 (by kernel_rfl) (trivial) ?_
    obtain hs:=Option.some.inj h; subst hs
    refine T_ret fun a w hm=>then_ret (T_return (fr':=[(2,.d (.str [])),(3,dI y1.2.1)]) [2,3] (by kernel_rfl) [.keep [2,3]] (by kernel_rfl) (by kernel_rfl) (by kernel_rfl) (by show _=_; kernel_rfl) (by exact trivial) a w hm)
  · have h:=cond_ff hc h
    refine T_skip fun a w hm=>then_norm (((?_:T Tryd.prog e 74 _ _ _) a w hm))
    refine T_reg [] [5,7] [(7,oW3 [])] [] 1 (by kernel_rfl) (trivial) ?_
    refine T_seqk ?_
    refine T_reg [(1,{ rw:=some (dI (y1.1.length:Int)) })] [5,7,20,21,22] [(20,.vw (5,0)),(21,dI (y1.1.length:Int)),(22,dI (0:Int))] [(1,True∧dI ((y1.1.map cS_Token).length:Int)=dI (y1.1.length:Int))] 1 (by kernel_rfl) (len_ok cS_Token) ?_
    refine T_joinEt h (fun (p:(List UInt8))=>[(7,oW3 p)]) (fun s h hk1=>?_) (fun v4 h=>?_)
    · refine T_co [.keep [5,7,20,21,22]] ((fun (p:(List UInt8)×Int)=>[(5,oW4 y1.1),(7,oW3 p.1),(20,.vw (5,0)),(21,dI (y1.1.length:Int)),(22,dI p.2)]) ([],(0:Int))) (by show _=_; kernel_rfl) ?_
      refine T_block ?_
      refine T_loopF (ι:=(List UInt8)×Int) (fun (p:(List UInt8)×Int)=>[(5,oW4 y1.1),(7,oW3 p.1),(20,.vw (5,0)),(21,dI (y1.1.length:Int)),(22,dI p.2)]) (fun n p=>ref3_Shown_L0 F y1 n p.1 p.2=some s) (fun i hh=>by simp [ref3_Shown_L0] at hh) (fun n p h=>?_) F ([],(0:Int)) h
      obtain ⟨v1,v2⟩:=p
      have h:ref3_Shown_L0 F y1 (n+1) v1 v2=some s:=h
      rw [ref3_Shown_L0] at h
      refine T_reg [] [5,7,20,21,22,23] [(23,dB (decide (v2 < (y1.1.length:Int))))] [] 1 (by kernel_rfl) (trivial) ?_
      refine T_seqk ?_
      refine T_cond (decide (v2 < (y1.1.length:Int))) (by kernel_rfl) (fun hc=>?_) (fun hc=>?_)
      · have h:=cond_tt hc h
        refine T_skip fun a w hm=>then_norm (((?_:T Tryd.prog e 74 _ _ _) a w hm))
        refine T_seqk ?_
        refine T_block ?_
        obtain ⟨hp1,h⟩:=chk_ok h
        refine T_reg [(2,{ cs:=cS_Token (y1.1.getD v2.toNat z_Token) })] [5,7,8,9,20,21,22] [(8,dI v2),(9,.box [dI ((y1.1.getD v2.toNat z_Token).f0),dI ((y1.1.getD v2.toNat z_Token).f1),.d (.str ((y1.1.getD v2.toNat z_Token).f2)),dI ((y1.1.getD v2.toNat z_Token).f3),dI ((y1.1.getD v2.toNat z_Token).f4)])] [(1,0≤v2∧v2 < (y1.1.map cS_Token).length),(0,(y1.1.map cS_Token)[v2.toNat]? = some (cS_Token (y1.1.getD v2.toNat z_Token)))] 3 (by kernel_rfl) (⟨own_idx cS_Token hp1,(idx_ok (d:=z_Token) cS_Token hp1).2⟩) ?_
        obtain ⟨y2,hy2,h⟩:=call_ok h
        refine T_reg [(1,{ res:=.tup [.d (.str y2.1),dI y2.2] })] [5,7,8,9,10,20,21,22] [(10,.d (.str y2.1))] [(1,ACall Tryd.prog 23 [.agg (cS_Token (y1.1.getD v2.toNat z_Token))] [] (.tup [.d (.str y2.1),dI y2.2]) [])] 5 (by kernel_rfl) (ref3_Spelled_ok hy2) ?_
        refine T_joinc h (fun (p:(List UInt8))=>[(5,oW4 y1.1),(7,oW3 p),(10,.d (.str y2.1)),(20,.vw (5,0)),(21,dI (y1.1.length:Int)),(22,dI v2)]) (fun s h=>?_) (fun v3 h=>?_)
        · obtain ⟨z1,hz1,h⟩:=lett_ok h
          obtain ⟨hp2,h⟩:=chk_ok h
          obtain ⟨z2,hz2,h⟩:=lett_ok h
          obtain ⟨hp3,h⟩:=chk_ok h
          obtain ⟨z3,hz3,h⟩:=lett_ok h
          refine T_reg [(10,{ rw:=some (dB z1) }),(18,{ cs:=cS_Token (y1.1.getD (IntKind.i64.wrap (v2 - (1:Int))).toNat z_Token) }),(20,{ rw:=some (dB z2) }),(27,{ cs:=cS_Token (y1.1.getD (IntKind.i64.wrap (v2 - (1:Int))).toNat z_Token) }),(28,{ rw:=some (dB z3) })] [5,7,10,20,21,22,61] [(61,dB (bif z2 then z3 else false))] [(3,((((decide (v2 > (0:Int))) == true) && true)=true→True)),(0,((((decide (v2 > (0:Int))) == true) && true)=true→True)),(0,((((decide (v2 > (0:Int))) == true) && true)=true→True)),(0,((((decide (v2 > (0:Int))) == true) && true)=true→True)),(0,((((((y1.1.getD v2.toNat z_Token).f0) == (1:Int)) == false) && (((decide (v2 > (0:Int))) == true) && true))=true→True)),(0,((((((y1.1.getD v2.toNat z_Token).f0) == (1:Int)) == false) && (((decide (v2 > (0:Int))) == true) && true))=true→True)),(0,((((((y1.1.getD v2.toNat z_Token).f0) == (1:Int)) == false) && (((decide (v2 > (0:Int))) == true) && true))=true→True)),(0,((((decide (v2 > (0:Int))) == true) && true)=true→(True)∧dB (bif (((y1.1.getD v2.toNat z_Token).f0) == (1:Int)) then true else (((y1.1.getD v2.toNat z_Token).f0) == (5:Int)))=dB z1)),(2,((((bif (decide (v2 > (0:Int))) then z1 else false) == true) && true)=true→True)),(0,((((bif (decide (v2 > (0:Int))) then z1 else false) == true) && true)=true→True)),(0,((((bif (decide (v2 > (0:Int))) then z1 else false) == true) && true)=true→True)),(0,((((bif (decide (v2 > (0:Int))) then z1 else false) == true) && true)=true→0≤(IntKind.i64.wrap (v2 - (1:Int)))∧(IntKind.i64.wrap (v2 - (1:Int))) < (y1.1.map cS_Token).length)),(0,((((bif (decide (v2 > (0:Int))) then z1 else false) == true) && true)=true→True)),(0,((((bif (decide (v2 > (0:Int))) then z1 else false) == true) && true)=true→(y1.1.map cS_Token)[(IntKind.i64.wrap (v2 - (1:Int))).toNat]? = some (cS_Token (y1.1.getD (IntKind.i64.wrap (v2 - (1:Int))).toNat z_Token)))),(0,((((bif (decide (v2 > (0:Int))) then z1 else false) == true) && true)=true→True)),(0,(True)∧dB (bif (bif (decide (v2 > (0:Int))) then z1 else false) then (((y1.1.getD (IntKind.i64.wrap (v2 - (1:Int))).toNat z_Token).f0) != (3:Int)) else false)=dB z2),(1,(((z2 == true) && true)=true→True)),(0,(((z2 == true) && true)=true→True)),(0,(((z2 == true) && true)=true→True)),(0,(((z2 == true) && true)=true→0≤(IntKind.i64.wrap (v2 - (1:Int)))∧(IntKind.i64.wrap (v2 - (1:Int))) < (y1.1.map cS_Token).length)),(0,(((z2 == true) && true)=true→True)),(0,(((z2 == true) && true)=true→(y1.1.map cS_Token)[(IntKind.i64.wrap (v2 - (1:Int))).toNat]? = some (cS_Token (y1.1.getD (IntKind.i64.wrap (v2 - (1:Int))).toNat z_Token)))),(0,(((z2 == true) && true)=true→(True)∧dB (decide (((y1.1.getD (IntKind.i64.wrap (v2 - (1:Int))).toNat z_Token).f0) < (6:Int)))=dB z3))] 1 (by kernel_rfl) (⟨(fun hg=>trivial),(fun hg=>trivial),(fun hg=>trivial),(fun hg=>trivial),(fun hg=>trivial),(fun hg=>trivial),(fun hg=>trivial),(fun hg=>⟨trivial,(by subst hz1; rfl)⟩),(fun hg=>trivial),(fun hg=>trivial),(fun hg=>trivial),(fun hg=>own_idx cS_Token (hp2 hg)),(fun hg=>trivial),(fun hg=>(idx_ok (d:=z_Token) cS_Token (hp2 hg)).2),(fun hg=>trivial),⟨trivial,(by subst hz2; rfl)⟩,(fun hg=>trivial),(fun hg=>trivial),(fun hg=>trivial),(fun hg=>own_idx cS_Token (hp3 hg)),(fun hg=>trivial),(fun hg=>(idx_ok (d:=z_Token) cS_Token (hp3 hg)).2),(fun hg=>⟨trivial,(by subst hz3; rfl)⟩)⟩) ?_
          refine T_cond (bif z2 then z3 else false) (by kernel_rfl) (fun hc=>?_) (fun hc=>?_)
          · have h:=cond_tt hc h
            obtain ⟨hp4,h⟩:=chk_ok h
            obtain hs:=Option.some.inj h; subst hs
            refine T_reg_end [(1,{ es:=some (([(UInt8.ofNat (32:Int).toNat)]).map cU) }),(2,{ es:=some ((v1++([(UInt8.ofNat (32:Int).toNat)])).map cU) })] [5,7,10,20,21,22] [(7,.own 5 1 ((v1++([(UInt8.ofNat (32:Int).toNat)])).map cU))] [(1,[[Dat.v (.int .u8 (32:Int))]]=(([(UInt8.ofNat (32:Int).toNat)]).map cU)),(0,(v1.map cU).length+(([(UInt8.ofNat (32:Int).toNat)]).map cU).length≤4294967296∧(v1.map cU)++(([(UInt8.ofNat (32:Int).toNat)]).map cU)=((v1++([(UInt8.ofNat (32:Int).toNat)])).map cU))] 1 (by kernel_rfl) (⟨(lit_u (by decide) (rfl:([]:List (List Dat))=([]:List UInt8).map cU)),app_ok cU hp4⟩) fun a w hm=>then_norm (hm.co (cs:=[.keep [5,7,10,20,21,22]]) (by show _=_; kernel_rfl))
          · have h:=cond_ff hc h
            obtain hs:=Option.some.inj h; subst hs
            refine T_skip fun a w hm=>then_norm (hm.co (cs:=[.keep [5,7,10,20,21,22]]) (by show _=_; kernel_rfl))
        · skip
          obtain ⟨hp5,h⟩:=chk_ok h
          refine T_reg [(2,{ es:=some ((v3++y2.1).map cU) })] [5,7,20,21,22] [(7,.own 5 1 ((v3++y2.1).map cU))] [(2,(v3.map cU).length+(y2.1.map cU).length≤4294967296∧(v3.map cU)++(y2.1.map cU)=((v3++y2.1).map cU))] 1 (by kernel_rfl) (app_ok cU hp5) ?_
          refine T_reg [(1,{ rw:=some (dI ((v3++y2.1).length:Int)) })] [5,7,20,21,22,70] [(70,dB (decide (((v3++y2.1).length:Int) > (8192:Int))))] [(1,True∧dI (((v3++y2.1).map cU).length:Int)=dI ((v3++y2.1).length:Int))] 1 (by kernel_rfl) (len_ok cU) ?_
          refine T_cond (decide (((v3++y2.1).length:Int) > (8192:Int))) (by kernel_rfl) (fun hc=>?_) (fun hc=>?_)
          · have h:=cond_tt hc h
            refine T_reg [] [2,3] [(2,.d (.str [])),(3,dI (2:Int))] [] 2 (by kernel_rfl) (trivial) ?_
            obtain hs:=Option.some.inj h; subst hs
            have h:=callE_esc hk1
            obtain hs:=Option.some.inj h; subst hs
            refine T_ret fun a w hm=>inBlock_ret (then_ret (then_ret (inBlock_ret (then_ret (then_ret (T_return (fr':=[(2,.d (.str [])),(3,dI (2:Int))]) [2,3] (by kernel_rfl) [.keep [2,3]] (by kernel_rfl) (by kernel_rfl) (by kernel_rfl) (by show _=_; kernel_rfl) (by exact trivial) a w hm))))))
          · have h:=cond_ff hc h
            refine T_skip fun a w hm=>inBlock_norm (then_norm (((?_:T Tryd.prog e 74 _ _ _) a w hm)))
            refine T_reg_end [] [5,7,20,21,22] [(22,dI (IntKind.i64.wrap (v2+(1:Int))))] [] 2 (by kernel_rfl) (trivial) fun a w hm=>then_norm (⟨((v3++y2.1),IntKind.i64.wrap (v2+(1:Int))),h,hm.co (cs:=[.keep [5,7,20,21,22]]) (by show _=_; kernel_rfl)⟩)
      · have h:=cond_ff hc h
        obtain hs:=Option.some.inj h; subst hs
        refine T_exit fun a w hm=>then_exit (then_exit (inBlock_exit (then_norm (⟨_,rfl,hm.co (cs:=[.keep [7]]) (by show _=_; kernel_rfl)⟩))))
    · skip
      refine fun a w hm=>then_norm (((?_:T Tryd.prog e 74 _ _ _) a w hm))
      refine T_reg [(1,{ cs:=[.str v4] })] [2,3] [(2,.d (.str v4)),(3,dI (0:Int))] [(1,(v4.map cU)=byteCells v4)] 2 (by kernel_rfl) (rfl) ?_
      obtain hs:=Option.some.inj h; subst hs
      refine T_ret fun a w hm=>T_return (fr':=[(2,.d (.str v4)),(3,dI (0:Int))]) [2,3] (by kernel_rfl) [.keep [2,3]] (by kernel_rfl) (by kernel_rfl) (by kernel_rfl) (by show _=_; kernel_rfl) (by exact trivial) a w hm
end Go.Vm.TicG
