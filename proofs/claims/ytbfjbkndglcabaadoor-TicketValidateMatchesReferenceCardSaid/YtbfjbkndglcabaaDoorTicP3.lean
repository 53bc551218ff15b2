import Derived.Test.YtbfjbkndglcabaaDoorTicP2
namespace Go.Vm.TicG
open Go.Proofs
set_option maxRecDepth 20000
set_option maxHeartbeats 8000000 in
set_option maxRecDepth 100000 in
theorem ref3_Refused_body_ok {F:Nat} {rec_ref3_Refused:S_TicketField→S_Object→(List (List UInt8))→Option ((List S_TicketFinding))} (hrec_ref3_Refused:∀ {a0:S_TicketField},∀ {a1:S_Object},∀ {a2:List (List UInt8)},∀ {r:(List S_TicketFinding)},rec_ref3_Refused a0 a1 a2=some r→ACall Tryd.prog 12 [.agg (cS_TicketField a0),.agg (cS_Object a1),.d (.sl 1 (a2.map cS))] [] (.own 45 2 (r.map cS_TicketFinding)) []) {a0:S_TicketField} {a1:S_Object} {a2:List (List UInt8)} {r:(List S_TicketFinding)} (h:ref3_Refused_body F rec_ref3_Refused a0 a1 a2=some r):ACall Tryd.prog 12 [.agg (cS_TicketField a0),.agg (cS_Object a1),.d (.sl 1 (a2.map cS))] [] (.own 45 2 (r.map cS_TicketFinding)) []:=by
  rw [ref3_Refused_body] at h
  refine ACall.intro (N:=286) Tryd.func12 rfl rfl rfl rfl rfl fun e=>?_
  refine T_reg [] [3,4,5] [(3,bx_TicketField a0),(4,bx_Object a1),(5,.box [.d (.sl 1 (a2.map cS))])] [] 4 (by kernel_rfl) (trivial) ?_
  obtain ⟨hp1,h⟩:=chk_ok h
  refine T_reg [(0,{ es:=some (([(2:Int),(4:Int),(3:Int),(6:Int),(7:Int)]).map (cI .i64)) }),(4,{ cs:=(cI .i64) (([(2:Int),(4:Int),(3:Int),(6:Int),(7:Int)]).getD a0.f1.toNat 0) })] [3,4,5,7] [(7,dI (([(2:Int),(4:Int),(3:Int),(6:Int),(7:Int)]).getD a0.f1.toNat 0))] [(0,(([(2:Int),(4:Int),(3:Int),(6:Int),(7:Int)]).map (cI .i64))=(([(2:Int),(4:Int),(3:Int),(6:Int),(7:Int)]).map (cI .i64))),(2,0≤a0.f1∧a0.f1 < (([(2:Int),(4:Int),(3:Int),(6:Int),(7:Int)]).map (cI .i64)).length),(0,(([(2:Int),(4:Int),(3:Int),(6:Int),(7:Int)]).map (cI .i64))[a0.f1.toNat]? = some ((cI .i64) (([(2:Int),(4:Int),(3:Int),(6:Int),(7:Int)]).getD a0.f1.toNat 0)))] 1 (by kernel_rfl) (⟨rfl,own_idx (cI .i64) hp1,(idx_ok (d:=0) (cI .i64) hp1).2⟩) ?_
  refine T_reg [] [3,4,5,7,8] [(8,.clo 24 [.bp 5 0])] [] 2 (by kernel_rfl) (trivial) ?_
  refine T_seqk ?_
  refine T_reg [] [3,4,5,8,36] [(36,dB (a1.f0 != (([(2:Int),(4:Int),(3:Int),(6:Int),(7:Int)]).getD a0.f1.toNat 0)))] [] 4 (by kernel_rfl) (trivial) ?_
  refine T_cond (a1.f0 != (([(2:Int),(4:Int),(3:Int),(6:Int),(7:Int)]).getD a0.f1.toNat 0)) (by kernel_rfl) (fun hc=>?_) (fun hc=>?_)
  · have h:=cond_tt hc h
    obtain ⟨y9,hy1,h⟩:=call_ok h
    refine T_reg [(1,{ res:=oW5 y9.1,vout:=[.box [.d (.sl 1 (y9.2.map cS))]],xs:=[5] })] [6] [(6,oW5 y9.1)] [(1,ACall Tryd.prog 24 [dI (14:Int),.bp 1000000 0] [.box [.d (.sl 1 (a2.map cS))]] (oW5 y9.1) [.box [.d (.sl 1 (y9.2.map cS))]])] 1 (by kernel_rfl) (ref3_Refused_c1_ok hy1) ?_
    obtain hs:=Option.some.inj h; subst hs
    refine T_ret fun a w hm=>then_ret (T_return (fr':=[(6,oW5 y9.1)]) [6] (by kernel_rfl) [.keep [6]] (by kernel_rfl) (by kernel_rfl) (by kernel_rfl) (by show _=_; kernel_rfl) (by exact trivial) a w hm)
  · have h:=cond_ff hc h
    refine T_skip fun a w hm=>then_norm (((?_:T Tryd.prog e 286 _ _ _) a w hm))
    refine T_seqk ?_
    refine T_block ?_
    refine T_joinc h (fun (p:Bool)=>[(3,bx_TicketField a0),(4,bx_Object a1),(5,.box [.d (.sl 1 (a2.map cS))]),(8,.clo 24 [.bp 5 0]),(39,dB p)]) (fun s h=>?_) (fun v26 h=>?_)
    · obtain ⟨z3,hz1,h⟩:=lett_ok h
      refine T_reg [(16,{ rw:=some (dB z3) })] [3,4,5,8,39] [(39,dB z3)] [(4,((((a0.f1 == (0:Int)) == true) && true)=true→True)),(0,((((a0.f1 == (0:Int)) == true) && true)=true→True)),(0,((((a0.f1 == (0:Int)) == true) && true)=true→True)),(0,((((a0.f1 == (0:Int)) == true) && true)=true→True)),(0,((((a0.f1 == (0:Int)) == true) && true)=true→True)),(0,((((a0.f1 == (0:Int)) == true) && true)=true→True)),(0,((((decide (a1.f1 < a0.f2)) == false) && (((a0.f1 == (0:Int)) == true) && true))=true→True)),(0,((((decide (a1.f1 < a0.f2)) == false) && (((a0.f1 == (0:Int)) == true) && true))=true→True)),(0,((((decide (a1.f1 < a0.f2)) == false) && (((a0.f1 == (0:Int)) == true) && true))=true→True)),(0,((((decide (a1.f1 < a0.f2)) == false) && (((a0.f1 == (0:Int)) == true) && true))=true→True)),(0,((((decide (a1.f1 < a0.f2)) == false) && (((a0.f1 == (0:Int)) == true) && true))=true→True)),(0,((((a0.f1 == (0:Int)) == true) && true)=true→True)),(0,(True)∧dB (bif (a0.f1 == (0:Int)) then (bif (decide (a1.f1 < a0.f2)) then true else (decide (a1.f1 > a0.f3))) else false)=dB z3)] 1 (by kernel_rfl) (⟨(fun hg=>trivial),(fun hg=>trivial),(fun hg=>trivial),(fun hg=>trivial),(fun hg=>trivial),(fun hg=>trivial),(fun hg=>trivial),(fun hg=>trivial),(fun hg=>trivial),(fun hg=>trivial),(fun hg=>trivial),(fun hg=>trivial),⟨trivial,(by subst hz1; rfl)⟩⟩) ?_
      refine T_cond z3 (by kernel_rfl) (fun hc=>?_) (fun hc=>?_)
      · have h:=cond_tt hc h
        obtain hs:=Option.some.inj h; subst hs
        refine T_skip fun a w hm=>then_norm (hm.co (cs:=[.keep [3,4,5,8,39]]) (by show _=_; kernel_rfl))
      · have h:=cond_ff hc h
        obtain ⟨z4,hz2,h⟩:=lett_ok h
        refine T_reg [(18,{ rw:=some (dB z4) })] [3,4,5,8,39] [(39,dB z4)] [(4,((((a0.f1 == (1:Int)) == true) && true)=true→True)),(0,((((a0.f1 == (1:Int)) == true) && true)=true→True)),(0,((((a0.f1 == (1:Int)) == true) && true)=true→True)),(0,((((a0.f1 == (1:Int)) == true) && true)=true→True)),(0,((((a0.f1 == (1:Int)) == true) && true)=true→True)),(0,((((a0.f1 == (1:Int)) == true) && true)=true→True)),(0,((((a0.f1 == (1:Int)) == true) && true)=true→True)),(0,((((decide ((a1.f2.length:Int) < a0.f2)) == false) && (((a0.f1 == (1:Int)) == true) && true))=true→True)),(0,((((decide ((a1.f2.length:Int) < a0.f2)) == false) && (((a0.f1 == (1:Int)) == true) && true))=true→True)),(0,((((decide ((a1.f2.length:Int) < a0.f2)) == false) && (((a0.f1 == (1:Int)) == true) && true))=true→True)),(0,((((decide ((a1.f2.length:Int) < a0.f2)) == false) && (((a0.f1 == (1:Int)) == true) && true))=true→True)),(0,((((decide ((a1.f2.length:Int) < a0.f2)) == false) && (((a0.f1 == (1:Int)) == true) && true))=true→True)),(0,((((decide ((a1.f2.length:Int) < a0.f2)) == false) && (((a0.f1 == (1:Int)) == true) && true))=true→True)),(0,((((a0.f1 == (1:Int)) == true) && true)=true→True)),(0,(True)∧dB (bif (a0.f1 == (1:Int)) then (bif (decide ((a1.f2.length:Int) < a0.f2)) then true else (decide ((a1.f2.length:Int) > a0.f3))) else false)=dB z4)] 1 (by kernel_rfl) (⟨(fun hg=>trivial),(fun hg=>trivial),(fun hg=>trivial),(fun hg=>trivial),(fun hg=>trivial),(fun hg=>trivial),(fun hg=>trivial),(fun hg=>trivial),(fun hg=>trivial),(fun hg=>trivial),(fun hg=>trivial),(fun hg=>trivial),(fun hg=>trivial),(fun hg=>trivial),⟨trivial,(by subst hz2; rfl)⟩⟩) ?_
        refine T_cond z4 (by kernel_rfl) (fun hc=>?_) (fun hc=>?_)
        · have h:=cond_tt hc h
          obtain hs:=Option.some.inj h; subst hs
          refine T_skip fun a w hm=>then_norm (hm.co (cs:=[.keep [3,4,5,8,39]]) (by show _=_; kernel_rfl))
        · have h:=cond_ff hc h
          obtain ⟨z5,hz3,h⟩:=lett_ok h
          obtain hs:=Option.some.inj h; subst hs
          refine T_reg_end [(6,{ rw:=some (dI (a1.f4.length:Int)) }),(13,{ rw:=some (dI (a1.f4.length:Int)) }),(18,{ rw:=some (dB z5) })] [3,4,5,8,39] [(39,dB z5)] [(4,((((a0.f1 == (3:Int)) == true) && true)=true→True)),(0,((((a0.f1 == (3:Int)) == true) && true)=true→True)),(0,((((a0.f1 == (3:Int)) == true) && true)=true→True∧dI ((a1.f4.map rS_Object).length:Int)=dI (a1.f4.length:Int))),(0,((((a0.f1 == (3:Int)) == true) && true)=true→True)),(0,((((a0.f1 == (3:Int)) == true) && true)=true→True)),(0,((((a0.f1 == (3:Int)) == true) && true)=true→True)),(0,((((a0.f1 == (3:Int)) == true) && true)=true→True)),(0,((((decide ((a1.f4.length:Int) < a0.f2)) == false) && (((a0.f1 == (3:Int)) == true) && true))=true→True)),(0,((((decide ((a1.f4.length:Int) < a0.f2)) == false) && (((a0.f1 == (3:Int)) == true) && true))=true→True)),(0,((((decide ((a1.f4.length:Int) < a0.f2)) == false) && (((a0.f1 == (3:Int)) == true) && true))=true→True∧dI ((a1.f4.map rS_Object).length:Int)=dI (a1.f4.length:Int))),(0,((((decide ((a1.f4.length:Int) < a0.f2)) == false) && (((a0.f1 == (3:Int)) == true) && true))=true→True)),(0,((((decide ((a1.f4.length:Int) < a0.f2)) == false) && (((a0.f1 == (3:Int)) == true) && true))=true→True)),(0,((((decide ((a1.f4.length:Int) < a0.f2)) == false) && (((a0.f1 == (3:Int)) == true) && true))=true→True)),(0,((((a0.f1 == (3:Int)) == true) && true)=true→True)),(0,(True)∧dB (bif (a0.f1 == (3:Int)) then (bif (decide ((a1.f4.length:Int) < a0.f2)) then true else (decide ((a1.f4.length:Int) > a0.f3))) else false)=dB z5)] 1 (by kernel_rfl) (⟨(fun hg=>trivial),(fun hg=>trivial),(fun hg=>len_ok rS_Object),(fun hg=>trivial),(fun hg=>trivial),(fun hg=>trivial),(fun hg=>trivial),(fun hg=>trivial),(fun hg=>trivial),(fun hg=>len_ok rS_Object),(fun hg=>trivial),(fun hg=>trivial),(fun hg=>trivial),(fun hg=>trivial),⟨trivial,(by subst hz3; rfl)⟩⟩) fun a w hm=>then_norm (hm.co (cs:=[.keep [3,4,5,8,39]]) (by show _=_; kernel_rfl))
    · skip
      refine T_cond v26 (by kernel_rfl) (fun hc=>?_) (fun hc=>?_)
      · have h:=cond_tt hc h
        obtain ⟨y10,hy2,h⟩:=call_ok h
        refine T_reg [(1,{ res:=oW5 y10.1,vout:=[.box [.d (.sl 1 (y10.2.map cS))]],xs:=[5] })] [6] [(6,oW5 y10.1)] [(1,ACall Tryd.prog 24 [dI (3:Int),.bp 1000000 0] [.box [.d (.sl 1 (a2.map cS))]] (oW5 y10.1) [.box [.d (.sl 1 (y10.2.map cS))]])] 1 (by kernel_rfl) (ref3_Refused_c1_ok hy2) ?_
        obtain hs:=Option.some.inj h; subst hs
        refine T_ret fun a w hm=>inBlock_ret (then_ret (T_return (fr':=[(6,oW5 y10.1)]) [6] (by kernel_rfl) [.keep [6]] (by kernel_rfl) (by kernel_rfl) (by kernel_rfl) (by show _=_; kernel_rfl) (by exact trivial) a w hm))
      · have h:=cond_ff hc h
        obtain ⟨y11,hy3,h⟩:=call_ok h
        refine T_reg [(8,{ res:=dB y11 })] [3,4,5,8,97] [(97,dB (bif (a0.f1 == (2:Int)) then (!y11) else false))] [(4,((((a0.f1 == (2:Int)) == true) && true)=true→True)),(0,((((a0.f1 == (2:Int)) == true) && true)=true→True)),(0,((((a0.f1 == (2:Int)) == true) && true)=true→True)),(0,((((a0.f1 == (2:Int)) == true) && true)=true→True)),(0,((((a0.f1 == (2:Int)) == true) && true)=true→ACall Tryd.prog 25 [.d (.sl 1 (a0.f4.map cS)),.d (.str a1.f2)] [] (dB y11) [])),(0,((((a0.f1 == (2:Int)) == true) && true)=true→True))] 2 (by kernel_rfl) (⟨(fun hg=>trivial),(fun hg=>trivial),(fun hg=>trivial),(fun hg=>trivial),(fun hg=>ref3_HasText_ok (gcall_ok hg hy3)),(fun hg=>trivial)⟩) ?_
        refine T_cond (bif (a0.f1 == (2:Int)) then (!y11) else false) (by kernel_rfl) (fun hc=>?_) (fun hc=>?_)
        · have h:=cond_tt hc h
          obtain ⟨y12,hy4,h⟩:=call_ok h
          refine T_reg [(1,{ res:=oW5 y12.1,vout:=[.box [.d (.sl 1 (y12.2.map cS))]],xs:=[5] })] [6] [(6,oW5 y12.1)] [(1,ACall Tryd.prog 24 [dI (20:Int),.bp 1000000 0] [.box [.d (.sl 1 (a2.map cS))]] (oW5 y12.1) [.box [.d (.sl 1 (y12.2.map cS))]])] 1 (by kernel_rfl) (ref3_Refused_c1_ok hy4) ?_
          obtain hs:=Option.some.inj h; subst hs
          refine T_ret fun a w hm=>inBlock_ret (then_ret (T_return (fr':=[(6,oW5 y12.1)]) [6] (by kernel_rfl) [.keep [6]] (by kernel_rfl) (by kernel_rfl) (by kernel_rfl) (by show _=_; kernel_rfl) (by exact trivial) a w hm))
        · have h:=cond_ff hc h
          refine T_skip fun a w hm=>inBlock_norm (then_norm (((?_:T Tryd.prog e 286 _ _ _) a w hm)))
          refine T_reg [] [3,4,5,9] [(9,oW5 [])] [] 1 (by kernel_rfl) (trivial) ?_
          refine T_joinc h (fun (p:(List S_TicketFinding))=>[(3,bx_TicketField a0),(4,bx_Object a1),(5,.box [.d (.sl 1 (a2.map cS))]),(9,oW5 p)]) (fun s h=>?_) (fun v28 h=>?_)
          · refine T_reg [] [3,4,5,9,113] [(113,dB (a0.f1 == (3:Int)))] [] 3 (by kernel_rfl) (trivial) ?_
            refine T_cond (a0.f1 == (3:Int)) (by kernel_rfl) (fun hc=>?_) (fun hc=>?_)
            · have h:=cond_tt hc h
              refine T_reg [(2,{ rw:=some (dI (a1.f4.length:Int)) })] [3,4,5,9,115,116,117] [(115,.d (.sl 5 (a1.f4.map rS_Object))),(116,dI (a1.f4.length:Int)),(117,dI (0:Int))] [(2,True∧dI ((a1.f4.map rS_Object).length:Int)=dI (a1.f4.length:Int))] 1 (by kernel_rfl) (len_ok rS_Object) ?_
              refine T_joinct h (fun (p:(List S_TicketFinding))=>[(3,bx_TicketField a0),(4,bx_Object a1),(5,.box [.d (.sl 1 (a2.map cS))]),(9,oW5 p)]) (fun s h=>?_) (fun v27 h=>?_)
              · refine T_co [.keep [3,4,5,9,115,116,117]] ((fun (p:(List S_TicketFinding)×Int)=>[(3,bx_TicketField a0),(4,bx_Object a1),(5,.box [.d (.sl 1 (a2.map cS))]),(9,oW5 p.1),(115,.d (.sl 5 (a1.f4.map rS_Object))),(116,dI (a1.f4.length:Int)),(117,dI p.2)]) ([],(0:Int))) (by show _=_; kernel_rfl) ?_
                refine T_block ?_
                refine T_loopF (ι:=(List S_TicketFinding)×Int) (fun (p:(List S_TicketFinding)×Int)=>[(3,bx_TicketField a0),(4,bx_Object a1),(5,.box [.d (.sl 1 (a2.map cS))]),(9,oW5 p.1),(115,.d (.sl 5 (a1.f4.map rS_Object))),(116,dI (a1.f4.length:Int)),(117,dI p.2)]) (fun n p=>ref3_Refused_L1 F a0 a1 a2 rec_ref3_Refused n p.1 p.2=some s) (fun i hh=>by simp [ref3_Refused_L1] at hh) (fun n p h=>?_) F ([],(0:Int)) h
                obtain ⟨v1,v2⟩:=p
                have h:ref3_Refused_L1 F a0 a1 a2 rec_ref3_Refused (n+1) v1 v2=some s:=h
                rw [ref3_Refused_L1] at h
                refine T_reg [] [3,4,5,9,115,116,117,118] [(118,dB (decide (v2 < (a1.f4.length:Int))))] [] 1 (by kernel_rfl) (trivial) ?_
                refine T_seqk ?_
                refine T_cond (decide (v2 < (a1.f4.length:Int))) (by kernel_rfl) (fun hc=>?_) (fun hc=>?_)
                · have h:=cond_tt hc h
                  refine T_skip fun a w hm=>then_norm (((?_:T Tryd.prog e 286 _ _ _) a w hm))
                  refine T_seqk ?_
                  refine T_block ?_
                  obtain ⟨hp2,h⟩:=chk_ok h
                  refine T_reg [(1,{ cs:=cS_Object (a1.f4.getD v2.toNat z_Object) })] [3,4,5,9,10,11,115,116,117] [(10,dI v2),(11,.box [dI ((a1.f4.getD v2.toNat z_Object).f0),dI ((a1.f4.getD v2.toNat z_Object).f1),.d (.str ((a1.f4.getD v2.toNat z_Object).f2)),.d (.sl 1 (((a1.f4.getD v2.toNat z_Object).f3).map cS)),.d (.sl 5 (((a1.f4.getD v2.toNat z_Object).f4).map rS_Object))])] [(1,0≤v2∧(a1.f4.map rS_Object)[v2.toNat]? = some (cS_Object (a1.f4.getD v2.toNat z_Object)))] 4 (by kernel_rfl) (idx_okR (d:=z_Object) rS_Object_eq hp2) ?_
                  obtain ⟨hp3,h⟩:=chk_ok h
                  obtain ⟨y1,hy5,h⟩:=call_ok h
                  obtain ⟨y2,hy6,h⟩:=call_ok h
                  obtain ⟨y3,hy7,h⟩:=call_ok h
                  obtain ⟨hp4,h⟩:=chk_ok h
                  refine T_drawG_end mixed [(13,0,some 0),(12,1,some 1),(11,3,some 7),(10,131,none),(9,135,none),(9,163,none),(9,195,none),(9,387,none),(8,143,none),(8,167,none),(8,199,none),(8,227,none),(8,391,none),(8,419,none),(8,451,none),(7,159,none),(7,175,none),(7,207,none),(7,231,none),(7,399,none),(7,423,none),(7,455,none),(7,483,none),(7,963,none),(6,191,none),(6,223,none),(6,239,none),(6,415,none),(6,431,none),(6,463,none),(6,487,none),(6,967,none),(6,995,none),(5,255,none),(5,447,none),(5,479,none),(5,495,none),(5,975,none),(5,999,none),(4,511,none),(4,991,none),(4,1007,none),(3,1023,none),(2,2047,none),(1,4095,some 12),(0,8191,none)] [(13,9,.own 45 2 ((v1++y3).map cS_TicketFinding)),(13,122,.junk),(13,133,.junk),(12,9,.junk),(12,133,.own 45 2 ((v1++y3).map cS_TicketFinding)),(11,131,.fz 1 (y2.map cS)),(11,132,oW5 y3),(10,131,oW0 y2),(9,130,.d (.str y1)),(8,129,dI v2),(7,128,.d (.sl 1 (a2.map cS))),(6,127,.agg (cS_Object (a1.f4.getD v2.toNat z_Object))),(5,126,.agg (cS_TicketField (a0.f5.getD (0:Int).toNat z_TicketField))),(4,125,.d (.pt (cS_TicketField (a0.f5.getD (0:Int).toNat z_TicketField)))),(3,124,.d (.sl 12 (a0.f5.map rS_TicketField))),(2,123,.bp 3 5),(1,122,.vw (9,0)),(0,3,bx_TicketField a0),(0,4,bx_Object a1),(0,5,.box [.d (.sl 1 (a2.map cS))]),(0,9,oW5 v1),(0,10,dI v2),(0,11,.box [dI ((a1.f4.getD v2.toNat z_Object).f0),dI ((a1.f4.getD v2.toNat z_Object).f1),.d (.str ((a1.f4.getD v2.toNat z_Object).f2)),.d (.sl 1 (((a1.f4.getD v2.toNat z_Object).f3).map cS)),.d (.sl 5 (((a1.f4.getD v2.toNat z_Object).f4).map rS_Object))]),(0,115,.d (.sl 5 (a1.f4.map rS_Object))),(0,116,dI (a1.f4.length:Int)),(0,117,dI v2)] [3,4,5,9,10,11,115,116,117,122,123,124,125,126,127,128,129,130,131,132,133] ([0,0,2,4,8,0,0,0,128,320,560,1025,4095],[0,0,2,4,8,0,0,0,128,320,560,1025,2049]) 4227 [(3,{ cs:=cS_TicketField (a0.f5.getD (0:Int).toNat z_TicketField) }),(8,{ res:=.d (.str y1) }),(9,{ res:=oW0 y2 }),(10,{ frz:=[(131,0)],res:=oW5 y3 }),(11,{ es:=some ((v1++y3).map cS_TicketFinding) })] [3,4,5,9,115,116,117] [] [(3,bx_TicketField a0),(4,bx_Object a1),(5,.box [.d (.sl 1 (a2.map cS))]),(9,.own 45 2 ((v1++y3).map cS_TicketFinding)),(115,.d (.sl 5 (a1.f4.map rS_Object))),(116,dI (a1.f4.length:Int)),(117,dI v2)] ((fun (o3:Prop)=>fun (o8:Prop)=>fun (o9:Prop)=>fun (o10:Prop)=>fun (o11:Prop)=>[(6,o8),(0,o3),(2,o8),(2,o8),(2,o8),(6,o8),(0,o3),(1,o8),(0,o3),(1,o8),(1,o8),(0,o3),(6,o9),(2,o8),(2,o8),(2,o8),(0,o3),(0,o8),(3,o3),(1,o3),(1,o9),(1,o9),(3,o8),(1,o8),(1,o8),(6,o9),(0,o3),(0,o9),(0,o3),(2,o8),(2,o9),(1,o9),(2,o3),(0,o9),(2,o10),(0,o11)]) (0≤(0:Int)∧(a0.f5.map rS_TicketField)[(0:Int).toNat]? = some (cS_TicketField (a0.f5.getD (0:Int).toNat z_TicketField))) (ACall Tryd.prog 27 [dI v2] [] (.d (.str y1)) []) (ACall Tryd.prog 26 [.d (.sl 1 (a2.map cS)),.d (.str y1)] [] (oW0 y2) []) (ACall Tryd.prog 12 [.agg (cS_TicketField (a0.f5.getD (0:Int).toNat z_TicketField)),.agg (cS_Object (a1.f4.getD v2.toNat z_Object)),.d (.sl 1 (y2.map cS))] [] (oW5 y3) []) ((v1.map cS_TicketFinding).length+(y3.map cS_TicketFinding).length≤4294967296∧(v1.map cS_TicketFinding)++(y3.map cS_TicketFinding)=((v1++y3).map cS_TicketFinding))) 1 (by kernel_rfl) (by kernel_rfl) (by kernel_rfl) (by kernel_rfl) (by kernel_rfl) (by kernel_rfl) (have p3:=idx_okR (d:=z_TicketField) rS_TicketField_eq hp3; have p8:=ref3_Decimal_ok hy5; have p9:=ref3_under_ok hy6; have p10:=hrec_ref3_Refused hy7; have p11:=app_ok cS_TicketFinding hp4; ⟨p8,p3,p8,p8,p8,p8,p3,p8,p3,p8,p8,p3,p9,p8,p8,p8,p3,p8,p3,p3,p9,p9,p8,p8,p8,p9,p3,p9,p3,p8,p9,p9,p3,p9,p10,p11⟩) fun a w hm=>inBlock_norm (then_norm (((?_:T Tryd.prog e 286 _ _ _) a w hm)))
                  refine T_reg_end [] [3,4,5,9,115,116,117] [(117,dI (IntKind.i64.wrap (v2+(1:Int))))] [] 2 (by kernel_rfl) (trivial) fun a w hm=>then_norm (⟨((v1++y3),IntKind.i64.wrap (v2+(1:Int))),h,hm.co (cs:=[.keep [3,4,5,9,115,116,117]]) (by show _=_; kernel_rfl)⟩)
                · have h:=cond_ff hc h
                  obtain hs:=Option.some.inj h; subst hs
                  refine T_exit fun a w hm=>then_exit (then_exit (inBlock_exit (then_norm (hm.co (cs:=[.keep [3,4,5,9]]) (by show _=_; kernel_rfl)))))
              · skip
                obtain hs:=Option.some.inj h; subst hs
                refine fun a w hm=>then_norm (hm.co (cs:=[.keep [3,4,5,9]]) (by show _=_; kernel_rfl))
            · have h:=cond_ff hc h
              obtain hs:=Option.some.inj h; subst hs
              refine T_skip fun a w hm=>then_norm (hm.co (cs:=[.keep [3,4,5,9]]) (by show _=_; kernel_rfl))
          · skip
            refine T_seqk ?_
            refine T_reg [] [3,4,5,9,137] [(137,dB (a0.f1 != (4:Int)))] [] 3 (by kernel_rfl) (trivial) ?_
            refine T_cond (a0.f1 != (4:Int)) (by kernel_rfl) (fun hc=>?_) (fun hc=>?_)
            · have h:=cond_tt hc h
              refine T_reg [] [6,9] [(6,.vw (9,0))] [] 2 (by kernel_rfl) (trivial) ?_
              obtain hs:=Option.some.inj h; subst hs
              refine T_ret fun a w hm=>then_ret (T_return (fr':=[(6,oW5 v28)]) [6] (by kernel_rfl) [.claim 6,.keep [6]] (by kernel_rfl) (by kernel_rfl) (by kernel_rfl) (by show _=_; kernel_rfl) (by exact trivial) a w hm)
            · have h:=cond_ff hc h
              refine T_skip fun a w hm=>then_norm (((?_:T Tryd.prog e 286 _ _ _) a w hm))
              refine T_reg [] [3,4,5,9,12] [(12,oW0 [])] [] 1 (by kernel_rfl) (trivial) ?_
              refine T_seqk ?_
              refine T_reg [(2,{ rw:=some (dI (a0.f5.length:Int)) })] [3,4,5,9,12,140,141,142] [(140,.d (.sl 12 (a0.f5.map rS_TicketField))),(141,dI (a0.f5.length:Int)),(142,dI (0:Int))] [(2,True∧dI ((a0.f5.map rS_TicketField).length:Int)=dI (a0.f5.length:Int))] 1 (by kernel_rfl) (len_ok rS_TicketField) ?_
              refine T_joinct h (fun (p:(List (List UInt8)))=>[(3,bx_TicketField a0),(4,bx_Object a1),(5,.box [.d (.sl 1 (a2.map cS))]),(9,oW5 v28),(12,oW0 p)]) (fun s h=>?_) (fun v29 h=>?_)
              · refine T_co [.keep [3,4,5,9,12,140,141,142]] ((fun (p:(List (List UInt8))×Int)=>[(3,bx_TicketField a0),(4,bx_Object a1),(5,.box [.d (.sl 1 (a2.map cS))]),(9,oW5 v28),(12,oW0 p.1),(140,.d (.sl 12 (a0.f5.map rS_TicketField))),(141,dI (a0.f5.length:Int)),(142,dI p.2)]) ([],(0:Int))) (by show _=_; kernel_rfl) ?_
                refine T_block ?_
                refine T_loopF (ι:=(List (List UInt8))×Int) (fun (p:(List (List UInt8))×Int)=>[(3,bx_TicketField a0),(4,bx_Object a1),(5,.box [.d (.sl 1 (a2.map cS))]),(9,oW5 v28),(12,oW0 p.1),(140,.d (.sl 12 (a0.f5.map rS_TicketField))),(141,dI (a0.f5.length:Int)),(142,dI p.2)]) (fun n p=>ref3_Refused_L3 F a0 n p.1 p.2=some s) (fun i hh=>by simp [ref3_Refused_L3] at hh) (fun n p h=>?_) F ([],(0:Int)) h
                obtain ⟨v3,v4⟩:=p
                have h:ref3_Refused_L3 F a0 (n+1) v3 v4=some s:=h
                rw [ref3_Refused_L3] at h
                refine T_reg [] [3,4,5,9,12,140,141,142,143] [(143,dB (decide (v4 < (a0.f5.length:Int))))] [] 1 (by kernel_rfl) (trivial) ?_
                refine T_seqk ?_
                refine T_cond (decide (v4 < (a0.f5.length:Int))) (by kernel_rfl) (fun hc=>?_) (fun hc=>?_)
                · have h:=cond_tt hc h
                  refine T_skip fun a w hm=>then_norm (((?_:T Tryd.prog e 286 _ _ _) a w hm))
                  refine T_seqk ?_
                  refine T_block ?_
                  obtain ⟨hp5,h⟩:=chk_ok h
                  refine T_reg [(0,{ cs:=cS_TicketField (a0.f5.getD v4.toNat z_TicketField) })] [3,4,5,9,12,14,140,141,142] [(14,.box [.d (.str ((a0.f5.getD v4.toNat z_TicketField).f0)),dI ((a0.f5.getD v4.toNat z_TicketField).f1),dI ((a0.f5.getD v4.toNat z_TicketField).f2),dI ((a0.f5.getD v4.toNat z_TicketField).f3),.d (.sl 1 (((a0.f5.getD v4.toNat z_TicketField).f4).map cS)),.d (.sl 12 (((a0.f5.getD v4.toNat z_TicketField).f5).map rS_TicketField)),dB ((a0.f5.getD v4.toNat z_TicketField).f6),dI (((a0.f5.getD v4.toNat z_TicketField).f7).f0),dI (((a0.f5.getD v4.toNat z_TicketField).f7).f1),.d (.str (((a0.f5.getD v4.toNat z_TicketField).f7).f2)),.d (.sl 1 ((((a0.f5.getD v4.toNat z_TicketField).f7).f3).map cS)),.d (.sl 5 ((((a0.f5.getD v4.toNat z_TicketField).f7).f4).map rS_Object))])] [(0,0≤v4∧(a0.f5.map rS_TicketField)[v4.toNat]? = some (cS_TicketField (a0.f5.getD v4.toNat z_TicketField)))] 3 (by kernel_rfl) (idx_okR (d:=z_TicketField) rS_TicketField_eq hp5) ?_
                  obtain ⟨hp6,h⟩:=chk_ok h
                  obtain ⟨l1,hl1,h⟩:=lett_ok h
                  refine T_reg_end [(3,{ es:=some (([(a0.f5.getD v4.toNat z_TicketField).f0]).map cS) }),(4,{ es:=some (l1.map cS) })] [3,4,5,9,12,140,141,142] [(12,oW0 l1)] [(3,(([(a0.f5.getD v4.toNat z_TicketField).f0]).map cS)=(([(a0.f5.getD v4.toNat z_TicketField).f0]).map cS)),(0,(v3.map cS).length+(([(a0.f5.getD v4.toNat z_TicketField).f0]).map cS).length≤4294967296∧(v3.map cS)++(([(a0.f5.getD v4.toNat z_TicketField).f0]).map cS)=(l1.map cS))] 1 (by kernel_rfl) (⟨rfl,and_trans (app_ok cS hp6) (by subst hl1; rfl)⟩) fun a w hm=>inBlock_norm (then_norm (((?_:T Tryd.prog e 286 _ _ _) a w hm)))
                  refine T_reg_end [] [3,4,5,9,12,140,141,142] [(142,dI (IntKind.i64.wrap (v4+(1:Int))))] [] 2 (by kernel_rfl) (trivial) fun a w hm=>then_norm (⟨(l1,IntKind.i64.wrap (v4+(1:Int))),h,hm.co (cs:=[.keep [3,4,5,9,12,140,141,142]]) (by show _=_; kernel_rfl)⟩)
                · have h:=cond_ff hc h
                  obtain hs:=Option.some.inj h; subst hs
                  refine T_exit fun a w hm=>then_exit (then_exit (inBlock_exit (then_norm (hm.co (cs:=[.keep [3,4,5,9,12]]) (by show _=_; kernel_rfl)))))
              · skip
                refine fun a w hm=>then_norm (((?_:T Tryd.prog e 286 _ _ _) a w hm))
                refine T_seqk ?_
                refine T_reg [(2,{ rw:=some (dI (a1.f3.length:Int)) })] [3,4,5,9,12,153,154,155] [(153,.d (.sl 1 (a1.f3.map cS))),(154,dI (a1.f3.length:Int)),(155,dI (0:Int))] [(2,True∧dI ((a1.f3.map cS).length:Int)=dI (a1.f3.length:Int))] 1 (by kernel_rfl) (len_ok cS) ?_
                refine T_joinct h (fun (p:(List (List UInt8)))=>[(3,bx_TicketField a0),(4,bx_Object a1),(5,.box [.d (.sl 1 (a2.map cS))]),(9,oW5 v28),(12,oW0 p)]) (fun s h=>?_) (fun v10 h=>?_)
                · refine T_co [.keep [3,4,5,9,12,153,154,155]] ((fun (p:(List (List UInt8))×Int)=>[(3,bx_TicketField a0),(4,bx_Object a1),(5,.box [.d (.sl 1 (a2.map cS))]),(9,oW5 v28),(12,oW0 p.1),(153,.d (.sl 1 (a1.f3.map cS))),(154,dI (a1.f3.length:Int)),(155,dI p.2)]) (v29,(0:Int))) (by show _=_; kernel_rfl) ?_
                  refine T_block ?_
                  refine T_loopF (ι:=(List (List UInt8))×Int) (fun (p:(List (List UInt8))×Int)=>[(3,bx_TicketField a0),(4,bx_Object a1),(5,.box [.d (.sl 1 (a2.map cS))]),(9,oW5 v28),(12,oW0 p.1),(153,.d (.sl 1 (a1.f3.map cS))),(154,dI (a1.f3.length:Int)),(155,dI p.2)]) (fun n p=>ref3_Refused_L5 F a1 n p.1 p.2=some s) (fun i hh=>by simp [ref3_Refused_L5] at hh) (fun n p h=>?_) F (v29,(0:Int)) h
                  obtain ⟨v5,v6⟩:=p
                  have h:ref3_Refused_L5 F a1 (n+1) v5 v6=some s:=h
                  rw [ref3_Refused_L5] at h
                  refine T_reg [] [3,4,5,9,12,153,154,155,156] [(156,dB (decide (v6 < (a1.f3.length:Int))))] [] 1 (by kernel_rfl) (trivial) ?_
                  refine T_seqk ?_
                  refine T_cond (decide (v6 < (a1.f3.length:Int))) (by kernel_rfl) (fun hc=>?_) (fun hc=>?_)
                  · have h:=cond_tt hc h
                    refine T_skip fun a w hm=>then_norm (((?_:T Tryd.prog e 286 _ _ _) a w hm))
                    refine T_joinc h (fun (p:(List (List UInt8)))=>[(3,bx_TicketField a0),(4,bx_Object a1),(5,.box [.d (.sl 1 (a2.map cS))]),(9,oW5 v28),(12,oW0 p),(153,.d (.sl 1 (a1.f3.map cS))),(154,dI (a1.f3.length:Int)),(155,dI v6)]) (fun s h=>?_) (fun v7 h=>?_)
                    · refine T_block ?_
                      obtain ⟨hp7,h⟩:=chk_ok h
                      refine T_reg [(0,{ cs:=cS (a1.f3.getD v6.toNat []) })] [3,4,5,9,12,16,153,154,155] [(16,.d (.str (a1.f3.getD v6.toNat [])))] [(0,0≤v6∧(a1.f3.map cS)[v6.toNat]? = some (cS (a1.f3.getD v6.toNat [])))] 2 (by kernel_rfl) (idx_ok (d:=[]) cS hp7) ?_
                      obtain ⟨y4,hy8,h⟩:=call_ok h
                      refine T_reg [(2,{ res:=dB y4 })] [3,4,5,9,12,16,153,154,155,162] [(162,dB (!y4))] [(2,ACall Tryd.prog 25 [.d (.sl 1 (v5.map cS)),.d (.str (a1.f3.getD v6.toNat []))] [] (dB y4) [])] 1 (by kernel_rfl) (ref3_HasText_ok hy8) ?_
                      refine T_cond (!y4) (by kernel_rfl) (fun hc=>?_) (fun hc=>?_)
                      · have h:=cond_tt hc h
                        obtain ⟨hp8,h⟩:=chk_ok h
                        obtain hs:=Option.some.inj h; subst hs
                        refine T_reg_end [(2,{ es:=some (([(a1.f3.getD v6.toNat [])]).map cS) }),(3,{ es:=some ((v5++([(a1.f3.getD v6.toNat [])])).map cS) })] [3,4,5,9,12,153,154,155] [(12,.own 9 1 ((v5++([(a1.f3.getD v6.toNat [])])).map cS))] [(2,(([(a1.f3.getD v6.toNat [])]).map cS)=(([(a1.f3.getD v6.toNat [])]).map cS)),(0,(v5.map cS).length+(([(a1.f3.getD v6.toNat [])]).map cS).length≤4294967296∧(v5.map cS)++(([(a1.f3.getD v6.toNat [])]).map cS)=((v5++([(a1.f3.getD v6.toNat [])])).map cS))] 1 (by kernel_rfl) (⟨rfl,app_ok cS hp8⟩) fun a w hm=>inBlock_norm (then_norm (hm.co (cs:=[.keep [3,4,5,9,12,153,154,155]]) (by show _=_; kernel_rfl)))
                      · have h:=cond_ff hc h
                        obtain hs:=Option.some.inj h; subst hs
                        refine T_skip fun a w hm=>inBlock_norm (then_norm (hm.co (cs:=[.keep [3,4,5,9,12,153,154,155]]) (by show _=_; kernel_rfl)))
                    · skip
                      refine T_reg_end [] [3,4,5,9,12,153,154,155] [(155,dI (IntKind.i64.wrap (v6+(1:Int))))] [] 2 (by kernel_rfl) (trivial) fun a w hm=>then_norm (⟨(v7,IntKind.i64.wrap (v6+(1:Int))),h,hm.co (cs:=[.keep [3,4,5,9,12,153,154,155]]) (by show _=_; kernel_rfl)⟩)
                  · have h:=cond_ff hc h
                    obtain hs:=Option.some.inj h; subst hs
                    refine T_exit fun a w hm=>then_exit (then_exit (inBlock_exit (then_norm (hm.co (cs:=[.keep [3,4,5,9,12]]) (by show _=_; kernel_rfl)))))
                · skip
                  refine fun a w hm=>then_norm (((?_:T Tryd.prog e 286 _ _ _) a w hm))
                  refine T_seqk ?_
                  refine T_reg [(1,{ rw:=some (dI (v10.length:Int)) })] [3,4,5,9,12,169,170] [(169,dI (v10.length:Int)),(170,dI (0:Int))] [(1,True∧dI ((v10.map cS).length:Int)=dI (v10.length:Int))] 1 (by kernel_rfl) (len_ok cS) ?_
                  refine T_joinct h (fun (p:(List (List UInt8)))=>[(3,bx_TicketField a0),(4,bx_Object a1),(5,.box [.d (.sl 1 (a2.map cS))]),(9,oW5 v28),(12,oW0 p)]) (fun s h=>?_) (fun v14 h=>?_)
                  · refine T_co [.keep [3,4,5,9,12,169,170]] ((fun (p:(List (List UInt8))×Int)=>[(3,bx_TicketField a0),(4,bx_Object a1),(5,.box [.d (.sl 1 (a2.map cS))]),(9,oW5 v28),(12,oW0 p.1),(169,dI (v10.length:Int)),(170,dI p.2)]) (v10,(0:Int))) (by show _=_; kernel_rfl) ?_
                    refine T_block ?_
                    refine T_loopF (ι:=(List (List UInt8))×Int) (fun (p:(List (List UInt8))×Int)=>[(3,bx_TicketField a0),(4,bx_Object a1),(5,.box [.d (.sl 1 (a2.map cS))]),(9,oW5 v28),(12,oW0 p.1),(169,dI (v10.length:Int)),(170,dI p.2)]) (fun n p=>ref3_Refused_L7 F v10 n p.1 p.2=some s) (fun i hh=>by simp [ref3_Refused_L7] at hh) (fun n p h=>?_) F (v10,(0:Int)) h
                    obtain ⟨v11,v12⟩:=p
                    have h:ref3_Refused_L7 F v10 (n+1) v11 v12=some s:=h
                    rw [ref3_Refused_L7] at h
                    refine T_reg [] [3,4,5,9,12,169,170,171] [(171,dB (decide (v12 < (v10.length:Int))))] [] 1 (by kernel_rfl) (trivial) ?_
                    refine T_seqk ?_
                    refine T_cond (decide (v12 < (v10.length:Int))) (by kernel_rfl) (fun hc=>?_) (fun hc=>?_)
                    · have h:=cond_tt hc h
                      refine T_skip fun a w hm=>then_norm (((?_:T Tryd.prog e 286 _ _ _) a w hm))
                      refine T_seqk ?_
                      refine T_block ?_
                      refine T_reg [] [3,4,5,9,12,17,169,170] [(17,dI v12)] [] 2 (by kernel_rfl) (trivial) ?_
                      refine T_reg [] [3,4,5,9,12,18,169,170] [(18,dI v12)] [] 2 (by kernel_rfl) (trivial) ?_
                      refine T_joinct h (fun (p:(List (List UInt8)))=>[(3,bx_TicketField a0),(4,bx_Object a1),(5,.box [.d (.sl 1 (a2.map cS))]),(9,oW5 v28),(12,oW0 p),(169,dI (v10.length:Int)),(170,dI v12)]) (fun s h=>?_) (fun v13 h=>?_)
                      · refine T_co [.keep [3,4,5,9,12,18,169,170]] ((fun (p:(List (List UInt8))×Int)=>[(3,bx_TicketField a0),(4,bx_Object a1),(5,.box [.d (.sl 1 (a2.map cS))]),(9,oW5 v28),(12,oW0 p.1),(18,dI p.2),(169,dI (v10.length:Int)),(170,dI v12)]) (v11,v12)) (by show _=_; kernel_rfl) ?_
                        refine T_block ?_
                        refine T_loopF (ι:=(List (List UInt8))×Int) (fun (p:(List (List UInt8))×Int)=>[(3,bx_TicketField a0),(4,bx_Object a1),(5,.box [.d (.sl 1 (a2.map cS))]),(9,oW5 v28),(12,oW0 p.1),(18,dI p.2),(169,dI (v10.length:Int)),(170,dI v12)]) (fun n p=>ref3_Refused_L9 F n p.1 p.2=some s) (fun i hh=>by simp [ref3_Refused_L9] at hh) (fun n p h=>?_) F (v11,v12) h
                        obtain ⟨v8,v9⟩:=p
                        have h:ref3_Refused_L9 F (n+1) v8 v9=some s:=h
                        rw [ref3_Refused_L9] at h
                        refine T_seqk ?_
                        obtain ⟨hp9,h⟩:=chk_ok h
                        obtain ⟨hp10,h⟩:=chk_ok h
                        obtain ⟨z1,hz4,h⟩:=lett_ok h
                        refine T_draw mixed [(6,{ cs:=cS (v8.getD v9.toNat []) }),(11,{ cs:=cS (v8.getD (IntKind.i64.wrap (v9 - (1:Int))).toNat []) }),(13,{ rw:=some (dB z1) })] [3,4,5,9,12,18,169,170,187] [] [(3,bx_TicketField a0),(4,bx_Object a1),(5,.box [.d (.sl 1 (a2.map cS))]),(9,oW5 v28),(12,oW0 v8),(18,dI v9),(169,dI (v10.length:Int)),(170,dI v12),(187,dB z1)] [(3,((((decide (v9 > (0:Int))) == true) && true)=true→True)),(0,((((decide (v9 > (0:Int))) == true) && true)=true→True)),(0,((((decide (v9 > (0:Int))) == true) && true)=true→0≤v9∧v9 < (v8.map cS).length)),(0,((((decide (v9 > (0:Int))) == true) && true)=true→(v8.map cS)[v9.toNat]? = some (cS (v8.getD v9.toNat [])))),(0,((((decide (v9 > (0:Int))) == true) && true)=true→True)),(0,((((decide (v9 > (0:Int))) == true) && true)=true→True)),(0,((((decide (v9 > (0:Int))) == true) && true)=true→True)),(0,((((decide (v9 > (0:Int))) == true) && true)=true→0≤(IntKind.i64.wrap (v9 - (1:Int)))∧(IntKind.i64.wrap (v9 - (1:Int))) < (v8.map cS).length)),(0,((((decide (v9 > (0:Int))) == true) && true)=true→(v8.map cS)[(IntKind.i64.wrap (v9 - (1:Int))).toNat]? = some (cS (v8.getD (IntKind.i64.wrap (v9 - (1:Int))).toNat [])))),(0,((((decide (v9 > (0:Int))) == true) && true)=true→True)),(0,(True)∧dB (bif (decide (v9 > (0:Int))) then (Op.bytesLess (v8.getD v9.toNat []) (v8.getD (IntKind.i64.wrap (v9 - (1:Int))).toNat [])) else false)=dB z1)] 0 (by kernel_rfl) (⟨(fun hg=>trivial),(fun hg=>trivial),(fun hg=>own_idx cS (hp9 hg)),(fun hg=>(idx_ok (d:=[]) cS (hp9 hg)).2),(fun hg=>trivial),(fun hg=>trivial),(fun hg=>trivial),(fun hg=>own_idx cS (hp10 hg)),(fun hg=>(idx_ok (d:=[]) cS (hp10 hg)).2),(fun hg=>trivial),⟨trivial,(by subst hz4; rfl)⟩⟩) ?_
                        refine T_cond z1 (by kernel_rfl) (fun hc=>?_) (fun hc=>?_)
                        · have h:=cond_tt hc h
                          refine T_skip fun a w hm=>then_norm (((?_:T Tryd.prog e 286 _ _ _) a w hm))
                          refine T_seqk ?_
                          refine T_block ?_
                          obtain ⟨hp11,h⟩:=chk_ok h
                          obtain ⟨hp12,h⟩:=chk_ok h
                          obtain ⟨hp13,h⟩:=chk_ok h
                          obtain ⟨hp14,h⟩:=chk_ok h
                          refine T_drawX_end mixed 1 (.take 0 (.take 1 (.take 2 (.take 3 (.take 4 (.take 5 (.take 6 (.take 7 (.take 8 (.take 9 (.take 10 (.take 11 (.take 12 (.take 13 (.take 14 (.all (.alt 15 (.take 16 (.all (.alt 17 .done .stop))) .stop))))))))))))))))) ([0,0,0,0,8,0,0,64,160,256,0,0,3072,4096,9187,25571,65535,131071],[0,0,0,0,8,0,0,64,160,256,0,0,3072,4096,3,16896,20,73728]) 98303 [(9,{ cs:=cS (v8.getD (IntKind.i64.wrap (v9 - (1:Int))).toNat []) }),(13,{ cs:=cS (v8.getD v9.toNat []) }),(15,{ cs:=cS (v8.getD v9.toNat []),es:=some ((v8.set v9.toNat (v8.getD (IntKind.i64.wrap (v9 - (1:Int))).toNat [])).map cS) }),(17,{ cs:=cS ((v8.set v9.toNat (v8.getD (IntKind.i64.wrap (v9 - (1:Int))).toNat [])).getD (IntKind.i64.wrap (v9 - (1:Int))).toNat []),es:=some (((v8.set v9.toNat (v8.getD (IntKind.i64.wrap (v9 - (1:Int))).toNat [])).set (IntKind.i64.wrap (v9 - (1:Int))).toNat (v8.getD v9.toNat [])).map cS) })] [3,4,5,9,12,18,169,170] [] [(3,bx_TicketField a0),(4,bx_Object a1),(5,.box [.d (.sl 1 (a2.map cS))]),(9,oW5 v28),(12,.own 9 1 (((v8.set v9.toNat (v8.getD (IntKind.i64.wrap (v9 - (1:Int))).toNat [])).set (IntKind.i64.wrap (v9 - (1:Int))).toNat (v8.getD v9.toNat [])).map cS)),(18,dI v9),(169,dI (v10.length:Int)),(170,dI v12)] ((fun (o8:Prop)=>fun (o9:Prop)=>fun (o12:Prop)=>fun (o13:Prop)=>fun (o14:Prop)=>fun (o15:Prop)=>fun (o16:Prop)=>fun (o17:Prop)=>[(8,o8),(0,o9),(2,o12),(0,o13),(0,o14),(0,o15),(0,o16),(0,o17)]) (0≤(IntKind.i64.wrap (v9 - (1:Int)))∧(IntKind.i64.wrap (v9 - (1:Int))) < (v8.map cS).length) ((v8.map cS)[(IntKind.i64.wrap (v9 - (1:Int))).toNat]? = some (cS (v8.getD (IntKind.i64.wrap (v9 - (1:Int))).toNat []))) (0≤v9∧v9 < (v8.map cS).length) ((v8.map cS)[v9.toNat]? = some (cS (v8.getD v9.toNat []))) (0≤v9∧v9 < (v8.map cS).length) ((v8.map cS)[v9.toNat]? = some (cS (v8.getD v9.toNat []))∧(v8.map cS).set v9.toNat (cS (v8.getD (IntKind.i64.wrap (v9 - (1:Int))).toNat []))=((v8.set v9.toNat (v8.getD (IntKind.i64.wrap (v9 - (1:Int))).toNat [])).map cS)) (0≤(IntKind.i64.wrap (v9 - (1:Int)))∧(IntKind.i64.wrap (v9 - (1:Int))) < ((v8.set v9.toNat (v8.getD (IntKind.i64.wrap (v9 - (1:Int))).toNat [])).map cS).length) (((v8.set v9.toNat (v8.getD (IntKind.i64.wrap (v9 - (1:Int))).toNat [])).map cS)[(IntKind.i64.wrap (v9 - (1:Int))).toNat]? = some (cS ((v8.set v9.toNat (v8.getD (IntKind.i64.wrap (v9 - (1:Int))).toNat [])).getD (IntKind.i64.wrap (v9 - (1:Int))).toNat []))∧((v8.set v9.toNat (v8.getD (IntKind.i64.wrap (v9 - (1:Int))).toNat [])).map cS).set (IntKind.i64.wrap (v9 - (1:Int))).toNat (cS (v8.getD v9.toNat []))=(((v8.set v9.toNat (v8.getD (IntKind.i64.wrap (v9 - (1:Int))).toNat [])).set (IntKind.i64.wrap (v9 - (1:Int))).toNat (v8.getD v9.toNat [])).map cS))) 0 (by kernel_rfl) (by kernel_rfl) (by kernel_rfl) (have p8:=own_idx cS hp11; have p9:=(idx_ok (d:=[]) cS hp11).2; have p12:=own_idx cS hp12; have p13:=(idx_ok (d:=[]) cS hp12).2; have p14:=own_idx cS hp13; have p15:=⟨(idx_ok (d:=[]) cS hp13).2,set_ok cS rfl⟩; have p16:=own_idx cS hp14; have p17:=⟨(idx_ok (d:=[]) cS hp14).2,set_ok cS rfl⟩; ⟨p8,p9,p12,p13,p14,p15,p16,p17⟩) fun a w hm=>inBlock_norm (then_norm (((?_:T Tryd.prog e 286 _ _ _) a w hm)))
                          refine T_reg_end [] [3,4,5,9,12,18,169,170] [(18,dI (IntKind.i64.wrap (v9 - (1:Int))))] [] 3 (by kernel_rfl) (trivial) fun a w hm=>then_norm (⟨(((v8.set v9.toNat (v8.getD (IntKind.i64.wrap (v9 - (1:Int))).toNat [])).set (IntKind.i64.wrap (v9 - (1:Int))).toNat (v8.getD v9.toNat [])),IntKind.i64.wrap (v9 - (1:Int))),h,hm.co (cs:=[.keep [3,4,5,9,12,18,169,170]]) (by show _=_; kernel_rfl)⟩)
                        · have h:=cond_ff hc h
                          obtain hs:=Option.some.inj h; subst hs
                          refine T_exit fun a w hm=>then_exit (then_exit (inBlock_exit (then_norm (hm.co (cs:=[.keep [3,4,5,9,12,169,170]]) (by show _=_; kernel_rfl)))))
                      · skip
                        refine fun a w hm=>inBlock_norm (then_norm (((?_:T Tryd.prog e 286 _ _ _) a w hm)))
                        refine T_reg_end [] [3,4,5,9,12,169,170] [(170,dI (IntKind.i64.wrap (v12+(1:Int))))] [] 2 (by kernel_rfl) (trivial) fun a w hm=>then_norm (⟨(v13,IntKind.i64.wrap (v12+(1:Int))),h,hm.co (cs:=[.keep [3,4,5,9,12,169,170]]) (by show _=_; kernel_rfl)⟩)
                    · have h:=cond_ff hc h
                      obtain hs:=Option.some.inj h; subst hs
                      refine T_exit fun a w hm=>then_exit (then_exit (inBlock_exit (then_norm (hm.co (cs:=[.keep [3,4,5,9,12]]) (by show _=_; kernel_rfl)))))
                  · skip
                    refine fun a w hm=>then_norm (((?_:T Tryd.prog e 286 _ _ _) a w hm))
                    refine T_seqk ?_
                    refine T_reg [(1,{ rw:=some (dI (v14.length:Int)) })] [3,4,5,9,12,207,208,209] [(207,.vw (12,0)),(208,dI (v14.length:Int)),(209,dI (0:Int))] [(1,True∧dI ((v14.map cS).length:Int)=dI (v14.length:Int))] 1 (by kernel_rfl) (len_ok cS) ?_
                    refine T_joinct h (fun (p:(List S_TicketFinding))=>[(9,oW5 p)]) (fun s h=>?_) (fun v30 h=>?_)
                    · refine T_co [.keep [3,4,5,9,12,207,208,209]] ((fun (p:(List S_TicketFinding)×Int)=>[(3,bx_TicketField a0),(4,bx_Object a1),(5,.box [.d (.sl 1 (a2.map cS))]),(9,oW5 p.1),(12,oW0 v14),(207,.vw (12,0)),(208,dI (v14.length:Int)),(209,dI p.2)]) (v28,(0:Int))) (by show _=_; kernel_rfl) ?_
                      refine T_block ?_
                      refine T_loopF (ι:=(List S_TicketFinding)×Int) (fun (p:(List S_TicketFinding)×Int)=>[(3,bx_TicketField a0),(4,bx_Object a1),(5,.box [.d (.sl 1 (a2.map cS))]),(9,oW5 p.1),(12,oW0 v14),(207,.vw (12,0)),(208,dI (v14.length:Int)),(209,dI p.2)]) (fun n p=>ref3_Refused_L11 F a0 a1 a2 rec_ref3_Refused v14 n p.1 p.2=some s) (fun i hh=>by simp [ref3_Refused_L11] at hh) (fun n p h=>?_) F (v28,(0:Int)) h
                      obtain ⟨v22,v15⟩:=p
                      have h:ref3_Refused_L11 F a0 a1 a2 rec_ref3_Refused v14 (n+1) v22 v15=some s:=h
                      rw [ref3_Refused_L11] at h
                      refine T_reg [] [3,4,5,9,12,207,208,209,210] [(210,dB (decide (v15 < (v14.length:Int))))] [] 1 (by kernel_rfl) (trivial) ?_
                      refine T_seqk ?_
                      refine T_cond (decide (v15 < (v14.length:Int))) (by kernel_rfl) (fun hc=>?_) (fun hc=>?_)
                      · have h:=cond_tt hc h
                        refine T_skip fun a w hm=>then_norm (((?_:T Tryd.prog e 286 _ _ _) a w hm))
                        refine T_joinc h (fun (p:(List S_TicketFinding))=>[(3,bx_TicketField a0),(4,bx_Object a1),(5,.box [.d (.sl 1 (a2.map cS))]),(9,oW5 p),(12,oW0 v14),(207,.vw (12,0)),(208,dI (v14.length:Int)),(209,dI v15)]) (fun s h=>?_) (fun v25 h=>?_)
                        · refine T_block ?_
                          obtain ⟨hp15,h⟩:=chk_ok h
                          refine T_reg [(1,{ cs:=cS (v14.getD v15.toNat []) })] [3,4,5,9,12,20,207,208,209] [(20,.d (.str (v14.getD v15.toNat [])))] [(0,0≤v15∧v15 < (v14.map cS).length),(0,(v14.map cS)[v15.toNat]? = some (cS (v14.getD v15.toNat [])))] 1 (by kernel_rfl) (⟨own_idx cS hp15,(idx_ok (d:=[]) cS hp15).2⟩) ?_
                          refine T_reg [] [3,4,5,9,12,20,21,22,207,208,209] [(21,dI (-1:Int)),(22,dI (-1:Int))] [] 2 (by kernel_rfl) (trivial) ?_
                          refine T_seqk ?_
                          refine T_reg [(2,{ rw:=some (dI (a0.f5.length:Int)) })] [3,4,5,9,12,20,21,22,207,208,209,214,215,216] [(214,.d (.sl 12 (a0.f5.map rS_TicketField))),(215,dI (a0.f5.length:Int)),(216,dI (0:Int))] [(2,True∧dI ((a0.f5.map rS_TicketField).length:Int)=dI (a0.f5.length:Int))] 1 (by kernel_rfl) (len_ok rS_TicketField) ?_
                          refine T_joinct h (fun (p:Int)=>[(3,bx_TicketField a0),(4,bx_Object a1),(5,.box [.d (.sl 1 (a2.map cS))]),(9,oW5 v22),(12,oW0 v14),(20,.d (.str (v14.getD v15.toNat []))),(21,dI p),(22,dI (-1:Int)),(207,.vw (12,0)),(208,dI (v14.length:Int)),(209,dI v15)]) (fun s h=>?_) (fun v23 h=>?_)
                          · refine T_co [.keep [3,4,5,9,12,20,21,22,207,208,209,214,215,216]] ((fun (p:Int×Int)=>[(3,bx_TicketField a0),(4,bx_Object a1),(5,.box [.d (.sl 1 (a2.map cS))]),(9,oW5 v22),(12,oW0 v14),(20,.d (.str (v14.getD v15.toNat []))),(21,dI p.1),(22,dI (-1:Int)),(207,.vw (12,0)),(208,dI (v14.length:Int)),(209,dI v15),(214,.d (.sl 12 (a0.f5.map rS_TicketField))),(215,dI (a0.f5.length:Int)),(216,dI p.2)]) ((-1:Int),(0:Int))) (by show _=_; kernel_rfl) ?_
                            refine T_block ?_
                            refine T_loopF (ι:=Int×Int) (fun (p:Int×Int)=>[(3,bx_TicketField a0),(4,bx_Object a1),(5,.box [.d (.sl 1 (a2.map cS))]),(9,oW5 v22),(12,oW0 v14),(20,.d (.str (v14.getD v15.toNat []))),(21,dI p.1),(22,dI (-1:Int)),(207,.vw (12,0)),(208,dI (v14.length:Int)),(209,dI v15),(214,.d (.sl 12 (a0.f5.map rS_TicketField))),(215,dI (a0.f5.length:Int)),(216,dI p.2)]) (fun n p=>ref3_Refused_L13 F a0 v14 v15 n p.1 p.2=some s) (fun i hh=>by simp [ref3_Refused_L13] at hh) (fun n p h=>?_) F ((-1:Int),(0:Int)) h
                            obtain ⟨v16,v17⟩:=p
                            have h:ref3_Refused_L13 F a0 v14 v15 (n+1) v16 v17=some s:=h
                            rw [ref3_Refused_L13] at h
                            refine T_reg [] [3,4,5,9,12,20,21,22,207,208,209,214,215,216,217] [(217,dB (decide (v17 < (a0.f5.length:Int))))] [] 1 (by kernel_rfl) (trivial) ?_
                            refine T_seqk ?_
                            refine T_cond (decide (v17 < (a0.f5.length:Int))) (by kernel_rfl) (fun hc=>?_) (fun hc=>?_)
                            · have h:=cond_tt hc h
                              refine T_skip fun a w hm=>then_norm (((?_:T Tryd.prog e 286 _ _ _) a w hm))
                              refine T_joinc h (fun (p:Int)=>[(3,bx_TicketField a0),(4,bx_Object a1),(5,.box [.d (.sl 1 (a2.map cS))]),(9,oW5 v22),(12,oW0 v14),(20,.d (.str (v14.getD v15.toNat []))),(21,dI p),(22,dI (-1:Int)),(207,.vw (12,0)),(208,dI (v14.length:Int)),(209,dI v15),(214,.d (.sl 12 (a0.f5.map rS_TicketField))),(215,dI (a0.f5.length:Int)),(216,dI v17)]) (fun s h=>?_) (fun v18 h=>?_)
                              · refine T_block ?_
                                obtain ⟨hp16,h⟩:=chk_ok h
                                refine T_reg [(1,{ cs:=cS_TicketField (a0.f5.getD v17.toNat z_TicketField) })] [3,4,5,9,12,20,21,22,23,24,207,208,209,214,215,216] [(23,dI v17),(24,.box [.d (.str ((a0.f5.getD v17.toNat z_TicketField).f0)),dI ((a0.f5.getD v17.toNat z_TicketField).f1),dI ((a0.f5.getD v17.toNat z_TicketField).f2),dI ((a0.f5.getD v17.toNat z_TicketField).f3),.d (.sl 1 (((a0.f5.getD v17.toNat z_TicketField).f4).map cS)),.d (.sl 12 (((a0.f5.getD v17.toNat z_TicketField).f5).map rS_TicketField)),dB ((a0.f5.getD v17.toNat z_TicketField).f6),dI (((a0.f5.getD v17.toNat z_TicketField).f7).f0),dI (((a0.f5.getD v17.toNat z_TicketField).f7).f1),.d (.str (((a0.f5.getD v17.toNat z_TicketField).f7).f2)),.d (.sl 1 ((((a0.f5.getD v17.toNat z_TicketField).f7).f3).map cS)),.d (.sl 5 ((((a0.f5.getD v17.toNat z_TicketField).f7).f4).map rS_Object))])] [(1,0≤v17∧(a0.f5.map rS_TicketField)[v17.toNat]? = some (cS_TicketField (a0.f5.getD v17.toNat z_TicketField)))] 4 (by kernel_rfl) (idx_okR (d:=z_TicketField) rS_TicketField_eq hp16) ?_
                                obtain ⟨z2,hz5,h⟩:=lett_ok h
                                refine T_reg [(3,{ rw:=some (dB z2) })] [3,4,5,9,12,20,21,22,23,207,208,209,214,215,216,224] [(224,dB z2)] [(3,(True)∧dB (((a0.f5.getD v17.toNat z_TicketField).f0) == (v14.getD v15.toNat []))=dB z2)] 0 (by kernel_rfl) (⟨trivial,(by subst hz5; rfl)⟩) ?_
                                refine T_cond z2 (by kernel_rfl) (fun hc=>?_) (fun hc=>?_)
                                · have h:=cond_tt hc h
                                  obtain hs:=Option.some.inj h; subst hs
                                  refine T_reg_end [] [3,4,5,9,12,20,21,22,207,208,209,214,215,216] [(21,dI v17)] [] 2 (by kernel_rfl) (trivial) fun a w hm=>inBlock_norm (then_norm (hm.co (cs:=[.keep [3,4,5,9,12,20,21,22,207,208,209,214,215,216]]) (by show _=_; kernel_rfl)))
                                · have h:=cond_ff hc h
                                  obtain hs:=Option.some.inj h; subst hs
                                  refine T_skip fun a w hm=>inBlock_norm (then_norm (hm.co (cs:=[.keep [3,4,5,9,12,20,21,22,207,208,209,214,215,216]]) (by show _=_; kernel_rfl)))
                              · skip
                                refine T_reg_end [] [3,4,5,9,12,20,21,22,207,208,209,214,215,216] [(216,dI (IntKind.i64.wrap (v17+(1:Int))))] [] 2 (by kernel_rfl) (trivial) fun a w hm=>then_norm (⟨(v18,IntKind.i64.wrap (v17+(1:Int))),h,hm.co (cs:=[.keep [3,4,5,9,12,20,21,22,207,208,209,214,215,216]]) (by show _=_; kernel_rfl)⟩)
                            · have h:=cond_ff hc h
                              obtain hs:=Option.some.inj h; subst hs
                              refine T_exit fun a w hm=>then_exit (then_exit (inBlock_exit (then_norm (hm.co (cs:=[.keep [3,4,5,9,12,20,21,22,207,208,209]]) (by show _=_; kernel_rfl)))))
                          · skip
                            refine fun a w hm=>then_norm (((?_:T Tryd.prog e 286 _ _ _) a w hm))
                            refine T_seqk ?_
                            refine T_reg [(2,{ rw:=some (dI (a1.f3.length:Int)) })] [3,4,5,9,12,20,21,22,207,208,209,228,229,230] [(228,.d (.sl 1 (a1.f3.map cS))),(229,dI (a1.f3.length:Int)),(230,dI (0:Int))] [(2,True∧dI ((a1.f3.map cS).length:Int)=dI (a1.f3.length:Int))] 1 (by kernel_rfl) (len_ok cS) ?_
                            refine T_joinct h (fun (p:Int)=>[(3,bx_TicketField a0),(4,bx_Object a1),(5,.box [.d (.sl 1 (a2.map cS))]),(9,oW5 v22),(12,oW0 v14),(20,.d (.str (v14.getD v15.toNat []))),(21,dI v23),(22,dI p),(207,.vw (12,0)),(208,dI (v14.length:Int)),(209,dI v15)]) (fun s h=>?_) (fun v24 h=>?_)
                            · refine T_co [.keep [3,4,5,9,12,20,21,22,207,208,209,228,229,230]] ((fun (p:Int×Int)=>[(3,bx_TicketField a0),(4,bx_Object a1),(5,.box [.d (.sl 1 (a2.map cS))]),(9,oW5 v22),(12,oW0 v14),(20,.d (.str (v14.getD v15.toNat []))),(21,dI v23),(22,dI p.1),(207,.vw (12,0)),(208,dI (v14.length:Int)),(209,dI v15),(228,.d (.sl 1 (a1.f3.map cS))),(229,dI (a1.f3.length:Int)),(230,dI p.2)]) ((-1:Int),(0:Int))) (by show _=_; kernel_rfl) ?_
                              refine T_block ?_
                              refine T_loopF (ι:=Int×Int) (fun (p:Int×Int)=>[(3,bx_TicketField a0),(4,bx_Object a1),(5,.box [.d (.sl 1 (a2.map cS))]),(9,oW5 v22),(12,oW0 v14),(20,.d (.str (v14.getD v15.toNat []))),(21,dI v23),(22,dI p.1),(207,.vw (12,0)),(208,dI (v14.length:Int)),(209,dI v15),(228,.d (.sl 1 (a1.f3.map cS))),(229,dI (a1.f3.length:Int)),(230,dI p.2)]) (fun n p=>ref3_Refused_L15 F a1 v14 v15 n p.1 p.2=some s) (fun i hh=>by simp [ref3_Refused_L15] at hh) (fun n p h=>?_) F ((-1:Int),(0:Int)) h
                              obtain ⟨v19,v20⟩:=p
                              have h:ref3_Refused_L15 F a1 v14 v15 (n+1) v19 v20=some s:=h
                              rw [ref3_Refused_L15] at h
                              refine T_reg [] [3,4,5,9,12,20,21,22,207,208,209,228,229,230,231] [(231,dB (decide (v20 < (a1.f3.length:Int))))] [] 1 (by kernel_rfl) (trivial) ?_
                              refine T_seqk ?_
                              refine T_cond (decide (v20 < (a1.f3.length:Int))) (by kernel_rfl) (fun hc=>?_) (fun hc=>?_)
                              · have h:=cond_tt hc h
                                refine T_skip fun a w hm=>then_norm (((?_:T Tryd.prog e 286 _ _ _) a w hm))
                                refine T_joinc h (fun (p:Int)=>[(3,bx_TicketField a0),(4,bx_Object a1),(5,.box [.d (.sl 1 (a2.map cS))]),(9,oW5 v22),(12,oW0 v14),(20,.d (.str (v14.getD v15.toNat []))),(21,dI v23),(22,dI p),(207,.vw (12,0)),(208,dI (v14.length:Int)),(209,dI v15),(228,.d (.sl 1 (a1.f3.map cS))),(229,dI (a1.f3.length:Int)),(230,dI v20)]) (fun s h=>?_) (fun v21 h=>?_)
                                · refine T_block ?_
                                  obtain ⟨hp17,h⟩:=chk_ok h
                                  refine T_reg [(1,{ cs:=cS (a1.f3.getD v20.toNat []) })] [3,4,5,9,12,20,21,22,25,26,207,208,209,228,229,230] [(25,dI v20),(26,.d (.str (a1.f3.getD v20.toNat [])))] [(1,0≤v20∧(a1.f3.map cS)[v20.toNat]? = some (cS (a1.f3.getD v20.toNat [])))] 3 (by kernel_rfl) (idx_ok (d:=[]) cS hp17) ?_
                                  refine T_reg [] [3,4,5,9,12,20,21,22,25,207,208,209,228,229,230,237] [(237,dB ((a1.f3.getD v20.toNat []) == (v14.getD v15.toNat [])))] [] 3 (by kernel_rfl) (trivial) ?_
                                  refine T_cond ((a1.f3.getD v20.toNat []) == (v14.getD v15.toNat [])) (by kernel_rfl) (fun hc=>?_) (fun hc=>?_)
                                  · have h:=cond_tt hc h
                                    obtain hs:=Option.some.inj h; subst hs
                                    refine T_reg_end [] [3,4,5,9,12,20,21,22,207,208,209,228,229,230] [(22,dI v20)] [] 2 (by kernel_rfl) (trivial) fun a w hm=>inBlock_norm (then_norm (hm.co (cs:=[.keep [3,4,5,9,12,20,21,22,207,208,209,228,229,230]]) (by show _=_; kernel_rfl)))
                                  · have h:=cond_ff hc h
                                    obtain hs:=Option.some.inj h; subst hs
                                    refine T_skip fun a w hm=>inBlock_norm (then_norm (hm.co (cs:=[.keep [3,4,5,9,12,20,21,22,207,208,209,228,229,230]]) (by show _=_; kernel_rfl)))
                                · skip
                                  refine T_reg_end [] [3,4,5,9,12,20,21,22,207,208,209,228,229,230] [(230,dI (IntKind.i64.wrap (v20+(1:Int))))] [] 2 (by kernel_rfl) (trivial) fun a w hm=>then_norm (⟨(v21,IntKind.i64.wrap (v20+(1:Int))),h,hm.co (cs:=[.keep [3,4,5,9,12,20,21,22,207,208,209,228,229,230]]) (by show _=_; kernel_rfl)⟩)
                              · have h:=cond_ff hc h
                                obtain hs:=Option.some.inj h; subst hs
                                refine T_exit fun a w hm=>then_exit (then_exit (inBlock_exit (then_norm (hm.co (cs:=[.keep [3,4,5,9,12,20,21,22,207,208,209]]) (by show _=_; kernel_rfl)))))
                            · skip
                              refine fun a w hm=>then_norm (((?_:T Tryd.prog e 286 _ _ _) a w hm))
                              refine T_block ?_
                              refine T_reg [] [3,4,5,9,12,20,21,22,207,208,209,240] [(240,dB (decide (v23 < (0:Int))))] [] 3 (by kernel_rfl) (trivial) ?_
                              refine T_cond (decide (v23 < (0:Int))) (by kernel_rfl) (fun hc=>?_) (fun hc=>?_)
                              · have h:=cond_tt hc h
                                obtain ⟨y5,hy9,h⟩:=call_ok h
                                obtain ⟨hp18,h⟩:=chk_ok h
                                obtain hs:=Option.some.inj h; subst hs
                                refine T_reg_end [(3,{ res:=oW0 y5 }),(4,{ frz:=[(246,0)] }),(5,{ es:=some (([(S_TicketFinding.mk y5 (6:Int))]).map cS_TicketFinding) }),(6,{ es:=some ((v22++([(S_TicketFinding.mk y5 (6:Int))])).map cS_TicketFinding) })] [3,4,5,9,12,207,208,209] [(9,.own 45 2 ((v22++([(S_TicketFinding.mk y5 (6:Int))])).map cS_TicketFinding))] [(3,ACall Tryd.prog 26 [.d (.sl 1 (a2.map cS)),.d (.str (v14.getD v15.toNat []))] [] (oW0 y5) []),(1,(([(S_TicketFinding.mk y5 (6:Int))]).map cS_TicketFinding)=(([(S_TicketFinding.mk y5 (6:Int))]).map cS_TicketFinding)),(0,(v22.map cS_TicketFinding).length+(([(S_TicketFinding.mk y5 (6:Int))]).map cS_TicketFinding).length≤4294967296∧(v22.map cS_TicketFinding)++(([(S_TicketFinding.mk y5 (6:Int))]).map cS_TicketFinding)=((v22++([(S_TicketFinding.mk y5 (6:Int))])).map cS_TicketFinding))] 1 (by kernel_rfl) (⟨ref3_under_ok hy9,rfl,app_ok cS_TicketFinding hp18⟩) fun a w hm=>inBlock_norm (inBlock_norm (then_norm (hm.co (cs:=[.keep [3,4,5,9,12,207,208,209]]) (by show _=_; kernel_rfl))))
                              · have h:=cond_ff hc h
                                refine T_reg [] [3,4,5,9,12,20,21,22,207,208,209,250] [(250,dB (decide (v24 ≥ (0:Int))))] [] 3 (by kernel_rfl) (trivial) ?_
                                refine T_cond (decide (v24 ≥ (0:Int))) (by kernel_rfl) (fun hc=>?_) (fun hc=>?_)
                                · have h:=cond_tt hc h
                                  obtain ⟨hp19,h⟩:=chk_ok h
                                  obtain ⟨hp20,h⟩:=chk_ok h
                                  obtain ⟨y6,hy10,h⟩:=call_ok h
                                  obtain ⟨y7,hy11,h⟩:=call_ok h
                                  obtain ⟨hp21,h⟩:=chk_ok h
                                  obtain hs:=Option.some.inj h; subst hs
                                  refine T_drawG_end mixed [(17,0,some 0),(16,1,some 1),(15,3,some 3),(14,11,some 6),(13,75,some 8),(12,331,some 12),(11,4427,none),(10,4431,none),(10,4555,none),(10,6475,none),(9,4447,none),(9,4559,none),(9,5067,none),(9,6479,none),(9,6603,none),(9,14667,none),(8,4479,none),(8,4575,none),(8,5071,none),(8,6091,none),(8,6495,none),(8,6607,none),(8,7115,none),(8,14671,none),(8,14795,none),(7,4607,none),(7,5087,none),(7,6095,none),(7,6527,none),(7,6623,none),(7,7119,none),(7,8139,none),(7,14687,none),(7,14799,none),(7,15307,none),(6,5119,none),(6,6111,none),(6,6655,none),(6,7135,none),(6,8143,none),(6,14719,none),(6,14815,none),(6,15311,none),(6,16331,none),(5,6143,none),(5,7167,none),(5,8159,none),(5,14847,none),(5,15327,none),(5,16335,none),(4,8191,none),(4,15359,none),(4,16351,none),(3,16383,none),(2,32767,none),(1,65535,some 16),(0,131071,none)] [(17,9,.own 45 2 ((v22++y7).map cS_TicketFinding)),(17,253,.junk),(17,268,.junk),(16,9,.junk),(16,268,.own 45 2 ((v22++y7).map cS_TicketFinding)),(15,266,.fz 1 (y6.map cS)),(15,267,oW5 y7),(14,266,oW0 y6),(13,265,.d (.str (v14.getD v15.toNat []))),(12,264,.d (.sl 1 (a2.map cS))),(11,263,.agg (cS_Object (a1.f4.getD v24.toNat z_Object))),(10,262,.d (.pt (cS_Object (a1.f4.getD v24.toNat z_Object)))),(9,261,dI v24),(8,260,.d (.sl 5 (a1.f4.map rS_Object))),(7,259,.bp 4 4),(6,258,.agg (cS_TicketField (a0.f5.getD v23.toNat z_TicketField))),(5,257,.d (.pt (cS_TicketField (a0.f5.getD v23.toNat z_TicketField)))),(4,256,dI v23),(3,255,.d (.sl 12 (a0.f5.map rS_TicketField))),(2,254,.bp 3 5),(1,253,.vw (9,0)),(0,3,bx_TicketField a0),(0,4,bx_Object a1),(0,5,.box [.d (.sl 1 (a2.map cS))]),(0,9,oW5 v22),(0,12,oW0 v14),(0,20,.d (.str (v14.getD v15.toNat []))),(0,21,dI v23),(0,22,dI v24),(0,207,.vw (12,0)),(0,208,dI (v14.length:Int)),(0,209,dI v15)] [3,4,5,9,12,20,21,22,207,208,209,253,254,255,256,257,258,259,260,261,262,263,264,265,266,267,268] ([0,0,2,0,12,16,0,64,0,384,512,0,0,6144,9248,16385,65535],[0,0,2,0,12,16,0,64,0,384,512,0,0,6144,9248,16385,32769]) 69963 [(4,{ cs:=cS_TicketField (a0.f5.getD v23.toNat z_TicketField) }),(9,{ cs:=cS_Object (a1.f4.getD v24.toNat z_Object) }),(13,{ res:=oW0 y6 }),(14,{ frz:=[(266,0)],res:=oW5 y7 }),(15,{ es:=some ((v22++y7).map cS_TicketFinding) })] [3,4,5,9,12,207,208,209] [] [(3,bx_TicketField a0),(4,bx_Object a1),(5,.box [.d (.sl 1 (a2.map cS))]),(9,.own 45 2 ((v22++y7).map cS_TicketFinding)),(12,oW0 v14),(207,.vw (12,0)),(208,dI (v14.length:Int)),(209,dI v15)] ((fun (o4:Prop)=>fun (o9:Prop)=>fun (o13:Prop)=>fun (o14:Prop)=>fun (o15:Prop)=>[(9,o4),(3,o9),(3,o13),(3,o4),(0,o9),(4,o4),(1,o13),(1,o9),(0,o13),(5,o9),(1,o4),(6,o13),(0,o4),(0,o9),(0,o13),(2,o13),(0,o4),(2,o9),(0,o9),(4,o4),(2,o13),(1,o9),(0,o13),(0,o4),(1,o13),(1,o13),(2,o4),(0,o9),(6,o9),(0,o13),(2,o13),(0,o4),(0,o13),(2,o9),(0,o4),(4,o13),(1,o13),(0,o9),(2,o4),(0,o13),(2,o14),(0,o15)]) (0≤v23∧(a0.f5.map rS_TicketField)[v23.toNat]? = some (cS_TicketField (a0.f5.getD v23.toNat z_TicketField))) (0≤v24∧(a1.f4.map rS_Object)[v24.toNat]? = some (cS_Object (a1.f4.getD v24.toNat z_Object))) (ACall Tryd.prog 26 [.d (.sl 1 (a2.map cS)),.d (.str (v14.getD v15.toNat []))] [] (oW0 y6) []) (ACall Tryd.prog 12 [.agg (cS_TicketField (a0.f5.getD v23.toNat z_TicketField)),.agg (cS_Object (a1.f4.getD v24.toNat z_Object)),.d (.sl 1 (y6.map cS))] [] (oW5 y7) []) ((v22.map cS_TicketFinding).length+(y7.map cS_TicketFinding).length≤4294967296∧(v22.map cS_TicketFinding)++(y7.map cS_TicketFinding)=((v22++y7).map cS_TicketFinding))) 1 (by kernel_rfl) (by kernel_rfl) (by kernel_rfl) (by kernel_rfl) (by kernel_rfl) (by kernel_rfl) (have p4:=idx_okR (d:=z_TicketField) rS_TicketField_eq hp19; have p9:=idx_okR (d:=z_Object) rS_Object_eq hp20; have p13:=ref3_under_ok hy10; have p14:=hrec_ref3_Refused hy11; have p15:=app_ok cS_TicketFinding hp21; ⟨p4,p9,p13,p4,p9,p4,p13,p9,p13,p9,p4,p13,p4,p9,p13,p13,p4,p9,p9,p4,p13,p9,p13,p4,p13,p13,p4,p9,p9,p13,p13,p4,p13,p9,p4,p13,p13,p9,p4,p13,p14,p15⟩) fun a w hm=>inBlock_norm (inBlock_norm (then_norm (hm.co (cs:=[.keep [3,4,5,9,12,207,208,209]]) (by show _=_; kernel_rfl))))
                                · have h:=cond_ff hc h
                                  obtain ⟨hp22,h⟩:=chk_ok h
                                  refine T_reg [(3,{ cs:=cS_TicketField (a0.f5.getD v23.toNat z_TicketField) })] [3,4,5,9,12,20,207,208,209,269] [(269,dB (!((a0.f5.getD v23.toNat z_TicketField).f6)))] [(3,0≤v23∧(a0.f5.map rS_TicketField)[v23.toNat]? = some (cS_TicketField (a0.f5.getD v23.toNat z_TicketField)))] 4 (by kernel_rfl) (idx_okR (d:=z_TicketField) rS_TicketField_eq hp22) ?_
                                  refine T_cond (!((a0.f5.getD v23.toNat z_TicketField).f6)) (by kernel_rfl) (fun hc=>?_) (fun hc=>?_)
                                  · have h:=cond_tt hc h
                                    obtain ⟨y8,hy12,h⟩:=call_ok h
                                    obtain ⟨hp23,h⟩:=chk_ok h
                                    obtain hs:=Option.some.inj h; subst hs
                                    refine T_reg_end [(3,{ res:=oW0 y8 }),(4,{ frz:=[(280,0)] }),(5,{ es:=some (([(S_TicketFinding.mk y8 (8:Int))]).map cS_TicketFinding) }),(6,{ es:=some ((v22++([(S_TicketFinding.mk y8 (8:Int))])).map cS_TicketFinding) })] [3,4,5,9,12,207,208,209] [(9,.own 45 2 ((v22++([(S_TicketFinding.mk y8 (8:Int))])).map cS_TicketFinding))] [(3,ACall Tryd.prog 26 [.d (.sl 1 (a2.map cS)),.d (.str (v14.getD v15.toNat []))] [] (oW0 y8) []),(1,(([(S_TicketFinding.mk y8 (8:Int))]).map cS_TicketFinding)=(([(S_TicketFinding.mk y8 (8:Int))]).map cS_TicketFinding)),(0,(v22.map cS_TicketFinding).length+(([(S_TicketFinding.mk y8 (8:Int))]).map cS_TicketFinding).length≤4294967296∧(v22.map cS_TicketFinding)++(([(S_TicketFinding.mk y8 (8:Int))]).map cS_TicketFinding)=((v22++([(S_TicketFinding.mk y8 (8:Int))])).map cS_TicketFinding))] 1 (by kernel_rfl) (⟨ref3_under_ok hy12,rfl,app_ok cS_TicketFinding hp23⟩) fun a w hm=>inBlock_norm (inBlock_norm (then_norm (hm.co (cs:=[.keep [3,4,5,9,12,207,208,209]]) (by show _=_; kernel_rfl))))
                                  · have h:=cond_ff hc h
                                    obtain hs:=Option.some.inj h; subst hs
                                    refine T_skip fun a w hm=>inBlock_norm (inBlock_norm (then_norm (hm.co (cs:=[.keep [3,4,5,9,12,207,208,209]]) (by show _=_; kernel_rfl))))
                        · skip
                          refine T_reg_end [] [3,4,5,9,12,207,208,209] [(209,dI (IntKind.i64.wrap (v15+(1:Int))))] [] 2 (by kernel_rfl) (trivial) fun a w hm=>then_norm (⟨(v25,IntKind.i64.wrap (v15+(1:Int))),h,hm.co (cs:=[.keep [3,4,5,9,12,207,208,209]]) (by show _=_; kernel_rfl)⟩)
                      · have h:=cond_ff hc h
                        obtain hs:=Option.some.inj h; subst hs
                        refine T_exit fun a w hm=>then_exit (then_exit (inBlock_exit (then_norm (hm.co (cs:=[.keep [9]]) (by show _=_; kernel_rfl)))))
                    · skip
                      refine fun a w hm=>then_norm (((?_:T Tryd.prog e 286 _ _ _) a w hm))
                      refine T_reg [] [6,9] [(6,.vw (9,0))] [] 2 (by kernel_rfl) (trivial) ?_
                      obtain hs:=Option.some.inj h; subst hs
                      refine T_ret fun a w hm=>T_return (fr':=[(6,oW5 v30)]) [6] (by kernel_rfl) [.claim 6,.keep [6]] (by kernel_rfl) (by kernel_rfl) (by kernel_rfl) (by show _=_; kernel_rfl) (by exact trivial) a w hm
theorem ref3_Refused_fuel_ok {F:Nat} (n:Nat):∀ {a0:S_TicketField} {a1:S_Object} {a2:List (List UInt8)} {r:(List S_TicketFinding)},ref3_Refused_fuel F n a0 a1 a2=some r→ACall Tryd.prog 12 [.agg (cS_TicketField a0),.agg (cS_Object a1),.d (.sl 1 (a2.map cS))] [] (.own 45 2 (r.map cS_TicketFinding)) []:=by
  induction n with
  | zero=>intro a0 a1 a2 r h; exact absurd (show (none:Option ((List S_TicketFinding)))=some r from h) (by simp)
  | succ n ih=>intro a0 a1 a2 r h; exact ref3_Refused_body_ok ih h
theorem ref3_Refused_ok {F:Nat} {a0:S_TicketField} {a1:S_Object} {a2:List (List UInt8)} {r:(List S_TicketFinding)} (h:ref3_Refused F a0 a1 a2=some r):ACall Tryd.prog 12 [.agg (cS_TicketField a0),.agg (cS_Object a1),.d (.sl 1 (a2.map cS))] [] (.own 45 2 (r.map cS_TicketFinding)) []:=ref3_Refused_fuel_ok F h
theorem ref3_FieldError_body_ok {F:Nat} {rec_ref3_FieldError:S_TicketField→Int→Bool→Int→Option (Int×Int)} (hrec_ref3_FieldError:∀ {a0:S_TicketField},∀ {a1:Int},∀ {a2:Bool},∀ {c3:Int},∀ {r:Int×Int},rec_ref3_FieldError a0 a1 a2 c3=some r→ACall Tryd.prog 18 [.agg (cS_TicketField a0),.d (.v (.int .i64 a1)),.d (.v (.bool a2)),.bp 1000000 0] [.box [.d (.v (.int .i64 c3))]] (.d (.v (.int .i64 r.1))) [.box [.d (.v (.int .i64 r.2))]]) {a0:S_TicketField} {a1:Int} {a2:Bool} {c3:Int} {r:Int×Int} (h:ref3_FieldError_body F rec_ref3_FieldError a0 a1 a2 c3=some r):ACall Tryd.prog 18 [.agg (cS_TicketField a0),.d (.v (.int .i64 a1)),.d (.v (.bool a2)),.bp 1000000 0] [.box [.d (.v (.int .i64 c3))]] (.d (.v (.int .i64 r.1))) [.box [.d (.v (.int .i64 r.2))]]:=by
  rw [ref3_FieldError_body] at h
  refine ACall.intro (N:=259) Tryd.func18 rfl rfl rfl rfl rfl fun e=>?_
  refine T_reg [] [1,2,3,4,1000000] [(4,bx_TicketField a0)] [] 2 (by kernel_rfl) (trivial) ?_
  refine T_reg [] [1,2,3,4,1000000] [(1000000,.box [dI (IntKind.i64.wrap (c3+(1:Int)))])] [] 6 (by kernel_rfl) (trivial) ?_
  refine T_seqk ?_
  refine T_reg [] [1,2,3,4,29,1000000] [(29,dB (decide ((IntKind.i64.wrap (c3+(1:Int))) > (64:Int))))] [] 4 (by kernel_rfl) (trivial) ?_
  refine T_cond (decide ((IntKind.i64.wrap (c3+(1:Int))) > (64:Int))) (by kernel_rfl) (fun hc=>?_) (fun hc=>?_)
  · have h:=cond_tt hc h
    refine T_reg [] [8,1000000] [(8,dI (2:Int))] [] 1 (by kernel_rfl) (trivial) ?_
    obtain hs:=Option.some.inj h; subst hs
    refine T_ret fun a w hm=>then_ret (T_return (fr':=[(8,dI (2:Int)),(1000000,.box [dI (IntKind.i64.wrap (c3+(1:Int)))])]) [8] (by kernel_rfl) [.keep [8,1000000]] (by kernel_rfl) (by kernel_rfl) (by kernel_rfl) (by show _=_; kernel_rfl) (by exact ⟨⟨by kernel_rfl,by kernel_rfl⟩,trivial⟩) a w hm)
  · have h:=cond_ff hc h
    refine T_skip fun a w hm=>then_norm (((?_:T Tryd.prog e 259 _ _ _) a w hm))
    refine T_seqk ?_
    refine T_reg [] [1,2,3,4,31,1000000] [(31,dB (decide (a1 > (5:Int))))] [] 2 (by kernel_rfl) (trivial) ?_
    refine T_cond (decide (a1 > (5:Int))) (by kernel_rfl) (fun hc=>?_) (fun hc=>?_)
    · have h:=cond_tt hc h
      refine T_reg [] [8,1000000] [(8,dI (15:Int))] [] 1 (by kernel_rfl) (trivial) ?_
      obtain hs:=Option.some.inj h; subst hs
      refine T_ret fun a w hm=>then_ret (T_return (fr':=[(8,dI (15:Int)),(1000000,.box [dI (IntKind.i64.wrap (c3+(1:Int)))])]) [8] (by kernel_rfl) [.keep [8,1000000]] (by kernel_rfl) (by kernel_rfl) (by kernel_rfl) (by show _=_; kernel_rfl) (by exact ⟨⟨by kernel_rfl,by kernel_rfl⟩,trivial⟩) a w hm)
    · have h:=cond_ff hc h
      refine T_skip fun a w hm=>then_norm (((?_:T Tryd.prog e 259 _ _ _) a w hm))
      refine T_seqk ?_
      obtain ⟨y4,hy1,h⟩:=call_ok h
      refine T_reg [(2,{ res:=.tup [.d (.str y4.1),dI y4.2] })] [1,2,3,4,10,1000000] [(10,dI y4.2)] [(2,ACall Tryd.prog 10 [.agg (cS_Object a0.f7)] [] (.tup [.d (.str y4.1),dI y4.2]) [])] 5 (by kernel_rfl) (ref3_Shown_ok hy1) ?_
      refine T_reg [] [1,2,3,4,10,39,1000000] [(39,dB (y4.2 != (0:Int)))] [] 2 (by kernel_rfl) (trivial) ?_
      refine T_cond (y4.2 != (0:Int)) (by kernel_rfl) (fun hc=>?_) (fun hc=>?_)
      · have h:=cond_tt hc h
        refine T_reg [] [8,1000000] [(8,dI y4.2)] [] 2 (by kernel_rfl) (trivial) ?_
        obtain hs:=Option.some.inj h; subst hs
        refine T_ret fun a w hm=>then_ret (T_return (fr':=[(8,dI y4.2),(1000000,.box [dI (IntKind.i64.wrap (c3+(1:Int)))])]) [8] (by kernel_rfl) [.keep [8,1000000]] (by kernel_rfl) (by kernel_rfl) (by kernel_rfl) (by show _=_; kernel_rfl) (by exact ⟨⟨by kernel_rfl,by kernel_rfl⟩,trivial⟩) a w hm)
      · have h:=cond_ff hc h
        refine T_skip fun a w hm=>then_norm (((?_:T Tryd.prog e 259 _ _ _) a w hm))
        refine T_draw mixed [] [1,2,3,4,11,12,13,14,1000000] [] [(1,dI a1),(2,dB a2),(3,.bp 1000000 0),(4,bx_TicketField a0),(11,dB (a0.f1 == (0:Int))),(12,dB (a0.f1 == (1:Int))),(13,dB (a0.f1 == (2:Int))),(14,dB (a0.f1 == (3:Int))),(1000000,.box [dI (IntKind.i64.wrap (c3+(1:Int)))])] [] 16 (by kernel_rfl) (trivial) ?_
        refine T_seqk ?_
        refine T_block ?_
        refine T_reg [] [1,2,3,4,11,12,13,14,53,1000000] [(53,dB (bif (decide (a0.f1 < (0:Int))) then true else (decide (a0.f1 > (4:Int)))))] [(4,((((decide (a0.f1 < (0:Int))) == false) && true)=true→True)),(0,((((decide (a0.f1 < (0:Int))) == false) && true)=true→True)),(0,((((decide (a0.f1 < (0:Int))) == false) && true)=true→True))] 2 (by kernel_rfl) (⟨(fun hg=>trivial),(fun hg=>trivial),(fun hg=>trivial)⟩) ?_
        refine T_cond (bif (decide (a0.f1 < (0:Int))) then true else (decide (a0.f1 > (4:Int)))) (by kernel_rfl) (fun hc=>?_) (fun hc=>?_)
        · have h:=cond_tt hc h
          refine T_reg [] [8,1000000] [(8,dI (14:Int))] [] 1 (by kernel_rfl) (trivial) ?_
          obtain hs:=Option.some.inj h; subst hs
          refine T_ret fun a w hm=>inBlock_ret (then_ret (T_return (fr':=[(8,dI (14:Int)),(1000000,.box [dI (IntKind.i64.wrap (c3+(1:Int)))])]) [8] (by kernel_rfl) [.keep [8,1000000]] (by kernel_rfl) (by kernel_rfl) (by kernel_rfl) (by show _=_; kernel_rfl) (by exact ⟨⟨by kernel_rfl,by kernel_rfl⟩,trivial⟩) a w hm))
        · have h:=cond_ff hc h
          obtain ⟨y5,hy2,h⟩:=call_ok h
          refine T_reg [(4,{ res:=dB y5 })] [1,2,3,4,11,12,13,14,62,1000000] [(62,dB (bif a2 then (!y5) else false))] [(2,(((a2 == true) && true)=true→True)),(0,(((a2 == true) && true)=true→True)),(0,(((a2 == true) && true)=true→ACall Tryd.prog 33 [.d (.str a0.f0)] [] (dB y5) [])),(0,(((a2 == true) && true)=true→True))] 2 (by kernel_rfl) (⟨(fun hg=>trivial),(fun hg=>trivial),(fun hg=>ref3_ticketName_ok (gcall_ok hg hy2)),(fun hg=>trivial)⟩) ?_
          refine T_cond (bif a2 then (!y5) else false) (by kernel_rfl) (fun hc=>?_) (fun hc=>?_)
          · have h:=cond_tt hc h
            refine T_reg [] [8,1000000] [(8,dI (6:Int))] [] 1 (by kernel_rfl) (trivial) ?_
            obtain hs:=Option.some.inj h; subst hs
            refine T_ret fun a w hm=>inBlock_ret (then_ret (T_return (fr':=[(8,dI (6:Int)),(1000000,.box [dI (IntKind.i64.wrap (c3+(1:Int)))])]) [8] (by kernel_rfl) [.keep [8,1000000]] (by kernel_rfl) (by kernel_rfl) (by kernel_rfl) (by show _=_; kernel_rfl) (by exact ⟨⟨by kernel_rfl,by kernel_rfl⟩,trivial⟩) a w hm))
          · have h:=cond_ff hc h
            refine T_joinc h (fun (p:Bool)=>[(1,dI a1),(3,.bp 1000000 0),(4,bx_TicketField a0),(11,dB (a0.f1 == (0:Int))),(12,dB (a0.f1 == (1:Int))),(13,dB (a0.f1 == (2:Int))),(14,dB (a0.f1 == (3:Int))),(70,dB p),(1000000,.box [dI (IntKind.i64.wrap (c3+(1:Int)))])]) (fun s h=>?_) (fun v4 h=>?_)
            · refine T_reg [] [1,3,4,11,12,13,14,70,1000000] [(70,dB (bif (!a2) then (bif (!(a0.f0 == [])) then true else a0.f6) else false))] [(3,((((!a2) == true) && true)=true→True)),(0,((((!a2) == true) && true)=true→True)),(0,((((!a2) == true) && true)=true→True)),(0,((((!a2) == true) && true)=true→True)),(0,((((!(a0.f0 == [])) == false) && (((!a2) == true) && true))=true→True)),(0,((((!(a0.f0 == [])) == false) && (((!a2) == true) && true))=true→True)),(0,((((!a2) == true) && true)=true→True))] 2 (by kernel_rfl) (⟨(fun hg=>trivial),(fun hg=>trivial),(fun hg=>trivial),(fun hg=>trivial),(fun hg=>trivial),(fun hg=>trivial),(fun hg=>trivial)⟩) ?_
              refine T_cond (bif (!a2) then (bif (!(a0.f0 == [])) then true else a0.f6) else false) (by kernel_rfl) (fun hc=>?_) (fun hc=>?_)
              · have h:=cond_tt hc h
                obtain hs:=Option.some.inj h; subst hs
                refine T_skip fun a w hm=>then_norm (hm.co (cs:=[.keep [1,3,4,11,12,13,14,70,1000000]]) (by show _=_; kernel_rfl))
              · have h:=cond_ff hc h
                obtain hs:=Option.some.inj h; subst hs
                refine T_reg_end [] [1,3,4,11,12,13,14,70,1000000] [(70,dB (bif (!a0.f6) then (a0.f7.f0 != (0:Int)) else false))] [(4,((((!a0.f6) == true) && true)=true→True)),(0,((((!a0.f6) == true) && true)=true→True)),(0,((((!a0.f6) == true) && true)=true→True)),(0,((((!a0.f6) == true) && true)=true→True))] 2 (by kernel_rfl) (⟨(fun hg=>trivial),(fun hg=>trivial),(fun hg=>trivial),(fun hg=>trivial)⟩) fun a w hm=>then_norm (hm.co (cs:=[.keep [1,3,4,11,12,13,14,70,1000000]]) (by show _=_; kernel_rfl))
            · skip
              refine T_cond v4 (by kernel_rfl) (fun hc=>?_) (fun hc=>?_)
              · have h:=cond_tt hc h
                refine T_reg [] [8,1000000] [(8,dI (4:Int))] [] 1 (by kernel_rfl) (trivial) ?_
                obtain hs:=Option.some.inj h; subst hs
                refine T_ret fun a w hm=>inBlock_ret (then_ret (T_return (fr':=[(8,dI (4:Int)),(1000000,.box [dI (IntKind.i64.wrap (c3+(1:Int)))])]) [8] (by kernel_rfl) [.keep [8,1000000]] (by kernel_rfl) (by kernel_rfl) (by kernel_rfl) (by show _=_; kernel_rfl) (by exact ⟨⟨by kernel_rfl,by kernel_rfl⟩,trivial⟩) a w hm))
              · have h:=cond_ff hc h
                obtain ⟨z3,hz1,h⟩:=lett_ok h
                refine T_reg [(9,{ rw:=some (dB z3) })] [1,3,4,11,12,13,14,91,1000000] [(91,dB (bif z3 then (bif (a0.f2 != (0:Int)) then true else (a0.f3 != (0:Int))) else false))] [(3,((((!(a0.f1 == (0:Int))) == true) && true)=true→True)),(0,((((!(a0.f1 == (0:Int))) == true) && true)=true→True)),(2,((((bif (!(a0.f1 == (0:Int))) then (!(a0.f1 == (1:Int))) else false) == true) && true)=true→True)),(0,((((bif (!(a0.f1 == (0:Int))) then (!(a0.f1 == (1:Int))) else false) == true) && true)=true→True)),(0,(True)∧dB (bif (bif (!(a0.f1 == (0:Int))) then (!(a0.f1 == (1:Int))) else false) then (!(a0.f1 == (3:Int))) else false)=dB z3),(1,(((z3 == true) && true)=true→True)),(0,(((z3 == true) && true)=true→True)),(0,(((z3 == true) && true)=true→True)),(0,(((z3 == true) && true)=true→True)),(0,((((a0.f2 != (0:Int)) == false) && ((z3 == true) && true))=true→True)),(0,((((a0.f2 != (0:Int)) == false) && ((z3 == true) && true))=true→True)),(0,((((a0.f2 != (0:Int)) == false) && ((z3 == true) && true))=true→True)),(0,(((z3 == true) && true)=true→True))] 2 (by kernel_rfl) (⟨(fun hg=>trivial),(fun hg=>trivial),(fun hg=>trivial),(fun hg=>trivial),⟨trivial,(by subst hz1; rfl)⟩,(fun hg=>trivial),(fun hg=>trivial),(fun hg=>trivial),(fun hg=>trivial),(fun hg=>trivial),(fun hg=>trivial),(fun hg=>trivial),(fun hg=>trivial)⟩) ?_
                refine T_cond (bif z3 then (bif (a0.f2 != (0:Int)) then true else (a0.f3 != (0:Int))) else false) (by kernel_rfl) (fun hc=>?_) (fun hc=>?_)
                · have h:=cond_tt hc h
                  refine T_reg [] [8,1000000] [(8,dI (4:Int))] [] 1 (by kernel_rfl) (trivial) ?_
                  obtain hs:=Option.some.inj h; subst hs
                  refine T_ret fun a w hm=>inBlock_ret (then_ret (T_return (fr':=[(8,dI (4:Int)),(1000000,.box [dI (IntKind.i64.wrap (c3+(1:Int)))])]) [8] (by kernel_rfl) [.keep [8,1000000]] (by kernel_rfl) (by kernel_rfl) (by kernel_rfl) (by show _=_; kernel_rfl) (by exact ⟨⟨by kernel_rfl,by kernel_rfl⟩,trivial⟩) a w hm))
                · have h:=cond_ff hc h
                  obtain ⟨z4,hz2,h⟩:=lett_ok h
                  obtain ⟨z5,hz3,h⟩:=lett_ok h
                  obtain ⟨z6,hz4,h⟩:=lett_ok h
                  refine T_reg [(5,{ rw:=some (dI (a0.f4.length:Int)) }),(15,{ rw:=some (dB z4) }),(19,{ rw:=some (dI (a0.f5.length:Int)) }),(22,{ rw:=some (dB z5) }),(28,{ rw:=some (dI (a0.f5.length:Int)) }),(31,{ rw:=some (dB z6) })] [1,3,4,11,12,13,14,112,1000000] [(112,dB z6)] [(3,((((!(a0.f1 == (2:Int))) == true) && true)=true→True)),(0,((((!(a0.f1 == (2:Int))) == true) && true)=true→True)),(0,((((!(a0.f1 == (2:Int))) == true) && true)=true→True∧dI ((a0.f4.map cS).length:Int)=dI (a0.f4.length:Int))),(0,((((!(a0.f1 == (2:Int))) == true) && true)=true→True)),(2,((((bif (!(a0.f1 == (2:Int))) then (decide ((a0.f4.length:Int) > (0:Int))) else false) == false) && true)=true→True)),(0,((((bif (!(a0.f1 == (2:Int))) then (decide ((a0.f4.length:Int) > (0:Int))) else false) == false) && true)=true→True)),(0,((((a0.f1 == (0:Int)) == false) && (((bif (!(a0.f1 == (2:Int))) then (decide ((a0.f4.length:Int) > (0:Int))) else false) == false) && true))=true→True)),(0,((((bif (!(a0.f1 == (2:Int))) then (decide ((a0.f4.length:Int) > (0:Int))) else false) == false) && true)=true→True)),(0,((((bif (!(a0.f1 == (2:Int))) then (decide ((a0.f4.length:Int) > (0:Int))) else false) == false) && true)=true→True)),(0,((((bif (a0.f1 == (0:Int)) then true else (a0.f1 == (1:Int))) == false) && (((bif (!(a0.f1 == (2:Int))) then (decide ((a0.f4.length:Int) > (0:Int))) else false) == false) && true))=true→True)),(0,((((bif (!(a0.f1 == (2:Int))) then (decide ((a0.f4.length:Int) > (0:Int))) else false) == false) && true)=true→(True)∧dB (bif (bif (a0.f1 == (0:Int)) then true else (a0.f1 == (1:Int))) then true else (a0.f1 == (2:Int)))=dB z4)),(0,((((bif (!(a0.f1 == (2:Int))) then (decide ((a0.f4.length:Int) > (0:Int))) else false) == false) && true)=true→True)),(0,(((z4 == true) && (((bif (!(a0.f1 == (2:Int))) then (decide ((a0.f4.length:Int) > (0:Int))) else false) == false) && true))=true→True)),(0,(((z4 == true) && (((bif (!(a0.f1 == (2:Int))) then (decide ((a0.f4.length:Int) > (0:Int))) else false) == false) && true))=true→True)),(0,(((z4 == true) && (((bif (!(a0.f1 == (2:Int))) then (decide ((a0.f4.length:Int) > (0:Int))) else false) == false) && true))=true→True∧dI ((a0.f5.map rS_TicketField).length:Int)=dI (a0.f5.length:Int))),(0,(((z4 == true) && (((bif (!(a0.f1 == (2:Int))) then (decide ((a0.f4.length:Int) > (0:Int))) else false) == false) && true))=true→True)),(0,((((bif (!(a0.f1 == (2:Int))) then (decide ((a0.f4.length:Int) > (0:Int))) else false) == false) && true)=true→True)),(0,(True)∧dB (bif (bif (!(a0.f1 == (2:Int))) then (decide ((a0.f4.length:Int) > (0:Int))) else false) then true else (bif z4 then (decide ((a0.f5.length:Int) > (0:Int))) else false))=dB z5),(1,(((z5 == false) && true)=true→True)),(0,(((z5 == false) && true)=true→True)),(0,((((a0.f1 == (3:Int)) == true) && ((z5 == false) && true))=true→True)),(0,((((a0.f1 == (3:Int)) == true) && ((z5 == false) && true))=true→True)),(0,((((a0.f1 == (3:Int)) == true) && ((z5 == false) && true))=true→True∧dI ((a0.f5.map rS_TicketField).length:Int)=dI (a0.f5.length:Int))),(0,((((a0.f1 == (3:Int)) == true) && ((z5 == false) && true))=true→True)),(0,(((z5 == false) && true)=true→True)),(0,(True)∧dB (bif z5 then true else (bif (a0.f1 == (3:Int)) then ((a0.f5.length:Int) != (1:Int)) else false))=dB z6)] 1 (by kernel_rfl) (⟨(fun hg=>trivial),(fun hg=>trivial),(fun hg=>len_ok cS),(fun hg=>trivial),(fun hg=>trivial),(fun hg=>trivial),(fun hg=>trivial),(fun hg=>trivial),(fun hg=>trivial),(fun hg=>trivial),(fun hg=>⟨trivial,(by subst hz2; rfl)⟩),(fun hg=>trivial),(fun hg=>trivial),(fun hg=>trivial),(fun hg=>len_ok rS_TicketField),(fun hg=>trivial),(fun hg=>trivial),⟨trivial,(by subst hz3; rfl)⟩,(fun hg=>trivial),(fun hg=>trivial),(fun hg=>trivial),(fun hg=>trivial),(fun hg=>len_ok rS_TicketField),(fun hg=>trivial),(fun hg=>trivial),⟨trivial,(by subst hz4; rfl)⟩⟩) ?_
                  refine T_cond z6 (by kernel_rfl) (fun hc=>?_) (fun hc=>?_)
                  · have h:=cond_tt hc h
                    refine T_reg [] [8,1000000] [(8,dI (4:Int))] [] 1 (by kernel_rfl) (trivial) ?_
                    obtain hs:=Option.some.inj h; subst hs
                    refine T_ret fun a w hm=>inBlock_ret (then_ret (T_return (fr':=[(8,dI (4:Int)),(1000000,.box [dI (IntKind.i64.wrap (c3+(1:Int)))])]) [8] (by kernel_rfl) [.keep [8,1000000]] (by kernel_rfl) (by kernel_rfl) (by kernel_rfl) (by show _=_; kernel_rfl) (by exact ⟨⟨by kernel_rfl,by kernel_rfl⟩,trivial⟩) a w hm))
                  · have h:=cond_ff hc h
                    refine T_skip fun a w hm=>inBlock_norm (then_norm (((?_:T Tryd.prog e 259 _ _ _) a w hm)))
                    refine T_joinE h (fun (p:Unit)=>[(1,dI a1),(3,.bp 1000000 0),(4,bx_TicketField a0),(13,dB (a0.f1 == (2:Int))),(1000000,.box [dI (IntKind.i64.wrap (c3+(1:Int)))])]) (fun s h hk1=>?_) (fun s h=>?_)
                    · obtain ⟨z7,hz5,h⟩:=lett_ok h
                      refine T_reg [(6,{ rw:=some (dB z7) })] [1,3,4,11,12,13,14,151,1000000] [(151,dB z7)] [(2,((((a0.f1 == (0:Int)) == false) && true)=true→True)),(2,((((bif (a0.f1 == (0:Int)) then true else (a0.f1 == (1:Int))) == false) && true)=true→True)),(0,(True)∧dB (bif (bif (a0.f1 == (0:Int)) then true else (a0.f1 == (1:Int))) then true else (a0.f1 == (3:Int)))=dB z7)] 0 (by kernel_rfl) (⟨(fun hg=>trivial),(fun hg=>trivial),⟨trivial,(by subst hz5; rfl)⟩⟩) ?_
                      refine T_cond z7 (by kernel_rfl) (fun hc=>?_) (fun hc=>?_)
                      · have h:=cond_tt hc h
                        refine T_reg [] [1,3,4,11,12,13,14,15,1000000] [(15,dI (2147483647:Int))] [] 1 (by kernel_rfl) (trivial) ?_
                        refine T_joinc h (fun (p:Int)=>[(1,dI a1),(3,.bp 1000000 0),(4,bx_TicketField a0),(11,dB (a0.f1 == (0:Int))),(13,dB (a0.f1 == (2:Int))),(14,dB (a0.f1 == (3:Int))),(15,dI p),(1000000,.box [dI (IntKind.i64.wrap (c3+(1:Int)))])]) (fun s h=>?_) (fun v5 h=>?_)
                        · refine T_reg [] [1,3,4,11,13,14,15,152,1000000] [(152,dB (a0.f1 == (1:Int)))] [] 1 (by kernel_rfl) (trivial) ?_
                          refine T_cond (a0.f1 == (1:Int)) (by kernel_rfl) (fun hc=>?_) (fun hc=>?_)
                          · have h:=cond_tt hc h
                            obtain hs:=Option.some.inj h; subst hs
                            refine T_reg_end [] [1,3,4,11,13,14,15,1000000] [(15,dI (128:Int))] [] 1 (by kernel_rfl) (trivial) fun a w hm=>then_norm (hm.co (cs:=[.keep [1,3,4,11,13,14,15,1000000]]) (by show _=_; kernel_rfl))
                          · have h:=cond_ff hc h
                            obtain hs:=Option.some.inj h; subst hs
                            refine T_skip fun a w hm=>then_norm (hm.co (cs:=[.keep [1,3,4,11,13,14,15,1000000]]) (by show _=_; kernel_rfl))
                        · skip
                          refine T_joinc h (fun (p:Int)=>[(1,dI a1),(3,.bp 1000000 0),(4,bx_TicketField a0),(11,dB (a0.f1 == (0:Int))),(13,dB (a0.f1 == (2:Int))),(15,dI p),(1000000,.box [dI (IntKind.i64.wrap (c3+(1:Int)))])]) (fun s h=>?_) (fun v6 h=>?_)
                          · refine T_reg [] [1,3,4,11,13,15,153,1000000] [(153,dB (a0.f1 == (3:Int)))] [] 1 (by kernel_rfl) (trivial) ?_
                            refine T_cond (a0.f1 == (3:Int)) (by kernel_rfl) (fun hc=>?_) (fun hc=>?_)
                            · have h:=cond_tt hc h
                              obtain hs:=Option.some.inj h; subst hs
                              refine T_reg_end [] [1,3,4,11,13,15,1000000] [(15,dI (16:Int))] [] 1 (by kernel_rfl) (trivial) fun a w hm=>then_norm (hm.co (cs:=[.keep [1,3,4,11,13,15,1000000]]) (by show _=_; kernel_rfl))
                            · have h:=cond_ff hc h
                              obtain hs:=Option.some.inj h; subst hs
                              refine T_skip fun a w hm=>then_norm (hm.co (cs:=[.keep [1,3,4,11,13,15,1000000]]) (by show _=_; kernel_rfl))
                          · skip
                            obtain ⟨z8,hz6,h⟩:=lett_ok h
                            refine T_reg [(20,{ rw:=some (dB z8) })] [1,3,4,13,183,1000000] [(183,dB (bif z8 then true else (bif (!(a0.f1 == (0:Int))) then (decide (a0.f2 < (0:Int))) else false)))] [(6,((((decide (a0.f2 > a0.f3)) == false) && true)=true→True)),(0,((((decide (a0.f2 > a0.f3)) == false) && true)=true→True)),(0,((((decide (a0.f2 > a0.f3)) == false) && true)=true→True)),(0,((((decide (a0.f2 > a0.f3)) == false) && true)=true→True)),(2,((((bif (decide (a0.f2 > a0.f3)) then true else (decide (a0.f3 > v6))) == false) && true)=true→True)),(0,((((bif (decide (a0.f2 > a0.f3)) then true else (decide (a0.f3 > v6))) == false) && true)=true→True)),(0,((((a0.f1 == (0:Int)) == true) && (((bif (decide (a0.f2 > a0.f3)) then true else (decide (a0.f3 > v6))) == false) && true))=true→True)),(0,((((a0.f1 == (0:Int)) == true) && (((bif (decide (a0.f2 > a0.f3)) then true else (decide (a0.f3 > v6))) == false) && true))=true→True)),(0,((((a0.f1 == (0:Int)) == true) && (((bif (decide (a0.f2 > a0.f3)) then true else (decide (a0.f3 > v6))) == false) && true))=true→True)),(0,((((a0.f1 == (0:Int)) == true) && (((bif (decide (a0.f2 > a0.f3)) then true else (decide (a0.f3 > v6))) == false) && true))=true→True)),(0,((((a0.f1 == (0:Int)) == true) && (((bif (decide (a0.f2 > a0.f3)) then true else (decide (a0.f3 > v6))) == false) && true))=true→True)),(0,((((bif (decide (a0.f2 > a0.f3)) then true else (decide (a0.f3 > v6))) == false) && true)=true→True)),(0,(True)∧dB (bif (bif (decide (a0.f2 > a0.f3)) then true else (decide (a0.f3 > v6))) then true else (bif (a0.f1 == (0:Int)) then (decide (a0.f2 < (IntKind.i64.wrap (0 - v6)))) else false))=dB z8),(1,(((z8 == false) && true)=true→True)),(0,(((z8 == false) && true)=true→True)),(0,(((z8 == false) && true)=true→True)),(0,((((!(a0.f1 == (0:Int))) == true) && ((z8 == false) && true))=true→True)),(0,((((!(a0.f1 == (0:Int))) == true) && ((z8 == false) && true))=true→True)),(0,((((!(a0.f1 == (0:Int))) == true) && ((z8 == false) && true))=true→True)),(0,(((z8 == false) && true)=true→True))] 1 (by kernel_rfl) (⟨(fun hg=>trivial),(fun hg=>trivial),(fun hg=>trivial),(fun hg=>trivial),(fun hg=>trivial),(fun hg=>trivial),(fun hg=>trivial),(fun hg=>trivial),(fun hg=>trivial),(fun hg=>trivial),(fun hg=>trivial),(fun hg=>trivial),⟨trivial,(by subst hz6; rfl)⟩,(fun hg=>trivial),(fun hg=>trivial),(fun hg=>trivial),(fun hg=>trivial),(fun hg=>trivial),(fun hg=>trivial),(fun hg=>trivial)⟩) ?_
                            refine T_cond (bif z8 then true else (bif (!(a0.f1 == (0:Int))) then (decide (a0.f2 < (0:Int))) else false)) (by kernel_rfl) (fun hc=>?_) (fun hc=>?_)
                            · have h:=cond_tt hc h
                              refine T_reg [] [8,1000000] [(8,dI (3:Int))] [] 1 (by kernel_rfl) (trivial) ?_
                              obtain hs:=Option.some.inj h; subst hs
                              have h:=callE_esc hk1
                              obtain hs:=Option.some.inj h; subst hs
                              refine T_ret fun a w hm=>then_ret (T_return (fr':=[(8,dI (3:Int)),(1000000,.box [dI (IntKind.i64.wrap (c3+(1:Int)))])]) [8] (by kernel_rfl) [.keep [8,1000000]] (by kernel_rfl) (by kernel_rfl) (by kernel_rfl) (by show _=_; kernel_rfl) (by exact ⟨⟨by kernel_rfl,by kernel_rfl⟩,trivial⟩) a w hm)
                            · have h:=cond_ff hc h
                              obtain hs:=Option.some.inj h; subst hs
                              refine T_skip fun a w hm=>then_norm (⟨_,rfl,hm.co (cs:=[.keep [1,3,4,13,1000000]]) (by show _=_; kernel_rfl)⟩)
                      · have h:=cond_ff hc h
                        obtain hs:=Option.some.inj h; subst hs
                        refine T_skip fun a w hm=>then_norm (⟨_,rfl,hm.co (cs:=[.keep [1,3,4,13,1000000]]) (by show _=_; kernel_rfl)⟩)
                    · skip
                      refine T_seqk ?_
                      refine T_reg [(4,{ rw:=some (dI (a0.f4.length:Int)) })] [1,3,4,190,1000000] [(190,dB (bif (a0.f1 == (2:Int)) then ((a0.f4.length:Int) == (0:Int)) else false))] [(2,((((a0.f1 == (2:Int)) == true) && true)=true→True)),(0,((((a0.f1 == (2:Int)) == true) && true)=true→True)),(0,((((a0.f1 == (2:Int)) == true) && true)=true→True∧dI ((a0.f4.map cS).length:Int)=dI (a0.f4.length:Int))),(0,((((a0.f1 == (2:Int)) == true) && true)=true→True))] 1 (by kernel_rfl) (⟨(fun hg=>trivial),(fun hg=>trivial),(fun hg=>len_ok cS),(fun hg=>trivial)⟩) ?_
                      refine T_cond (bif (a0.f1 == (2:Int)) then ((a0.f4.length:Int) == (0:Int)) else false) (by kernel_rfl) (fun hc=>?_) (fun hc=>?_)
                      · have h:=cond_tt hc h
                        refine T_reg [] [8,1000000] [(8,dI (8:Int))] [] 1 (by kernel_rfl) (trivial) ?_
                        obtain hs:=Option.some.inj h; subst hs
                        refine T_ret fun a w hm=>then_ret (T_return (fr':=[(8,dI (8:Int)),(1000000,.box [dI (IntKind.i64.wrap (c3+(1:Int)))])]) [8] (by kernel_rfl) [.keep [8,1000000]] (by kernel_rfl) (by kernel_rfl) (by kernel_rfl) (by show _=_; kernel_rfl) (by exact ⟨⟨by kernel_rfl,by kernel_rfl⟩,trivial⟩) a w hm)
                      · have h:=cond_ff hc h
                        refine T_skip fun a w hm=>then_norm (((?_:T Tryd.prog e 259 _ _ _) a w hm))
                        refine T_seqk ?_
                        refine T_reg [(2,{ rw:=some (dI (a0.f4.length:Int)) })] [1,3,4,194,1000000] [(194,dB (decide ((a0.f4.length:Int) > (16:Int))))] [(2,True∧dI ((a0.f4.map cS).length:Int)=dI (a0.f4.length:Int))] 1 (by kernel_rfl) (len_ok cS) ?_
                        refine T_cond (decide ((a0.f4.length:Int) > (16:Int))) (by kernel_rfl) (fun hc=>?_) (fun hc=>?_)
                        · have h:=cond_tt hc h
                          refine T_reg [] [8,1000000] [(8,dI (2:Int))] [] 1 (by kernel_rfl) (trivial) ?_
                          obtain hs:=Option.some.inj h; subst hs
                          refine T_ret fun a w hm=>then_ret (T_return (fr':=[(8,dI (2:Int)),(1000000,.box [dI (IntKind.i64.wrap (c3+(1:Int)))])]) [8] (by kernel_rfl) [.keep [8,1000000]] (by kernel_rfl) (by kernel_rfl) (by kernel_rfl) (by show _=_; kernel_rfl) (by exact ⟨⟨by kernel_rfl,by kernel_rfl⟩,trivial⟩) a w hm)
                        · have h:=cond_ff hc h
                          refine T_skip fun a w hm=>then_norm (((?_:T Tryd.prog e 259 _ _ _) a w hm))
                          refine T_seqk ?_
                          refine T_reg [(2,{ rw:=some (dI (a0.f4.length:Int)) })] [1,3,4,196,197,198,1000000] [(196,.d (.sl 1 (a0.f4.map cS))),(197,dI (a0.f4.length:Int)),(198,dI (0:Int))] [(2,True∧dI ((a0.f4.map cS).length:Int)=dI (a0.f4.length:Int))] 1 (by kernel_rfl) (len_ok cS) ?_
                          refine T_joinEt h (fun (p:Unit)=>[(1,dI a1),(3,.bp 1000000 0),(4,bx_TicketField a0),(1000000,.box [dI (IntKind.i64.wrap (c3+(1:Int)))])]) (fun s h hk2=>?_) (fun s h=>?_)
                          · refine T_co [.keep [1,3,4,196,197,198,1000000]] ((fun (p:Int)=>[(1,dI a1),(3,.bp 1000000 0),(4,bx_TicketField a0),(196,.d (.sl 1 (a0.f4.map cS))),(197,dI (a0.f4.length:Int)),(198,dI p),(1000000,.box [dI (IntKind.i64.wrap (c3+(1:Int)))])]) (0:Int)) (by show _=_; kernel_rfl) ?_
                            refine T_block ?_
                            refine T_loopF (ι:=Int) (fun (p:Int)=>[(1,dI a1),(3,.bp 1000000 0),(4,bx_TicketField a0),(196,.d (.sl 1 (a0.f4.map cS))),(197,dI (a0.f4.length:Int)),(198,dI p),(1000000,.box [dI (IntKind.i64.wrap (c3+(1:Int)))])]) (fun n p=>ref3_FieldError_L1 F a0 c3 n p=some s) (fun i hh=>by simp [ref3_FieldError_L1] at hh) (fun n v1 h=>?_) F (0:Int) h
                            have h:ref3_FieldError_L1 F a0 c3 (n+1) v1=some s:=h
                            rw [ref3_FieldError_L1] at h
                            refine T_reg [] [1,3,4,196,197,198,199,1000000] [(199,dB (decide (v1 < (a0.f4.length:Int))))] [] 1 (by kernel_rfl) (trivial) ?_
                            refine T_seqk ?_
                            refine T_cond (decide (v1 < (a0.f4.length:Int))) (by kernel_rfl) (fun hc=>?_) (fun hc=>?_)
                            · have h:=cond_tt hc h
                              refine T_skip fun a w hm=>then_norm (((?_:T Tryd.prog e 259 _ _ _) a w hm))
                              refine T_seqk ?_
                              refine T_block ?_
                              obtain ⟨hp1,h⟩:=chk_ok h
                              refine T_reg [(1,{ cs:=cS (a0.f4.getD v1.toNat []) })] [1,3,4,16,17,196,197,198,1000000] [(16,dI v1),(17,.d (.str (a0.f4.getD v1.toNat [])))] [(1,0≤v1∧(a0.f4.map cS)[v1.toNat]? = some (cS (a0.f4.getD v1.toNat [])))] 3 (by kernel_rfl) (idx_ok (d:=[]) cS hp1) ?_
                              refine T_seqk ?_
                              obtain ⟨y1,hy3,h⟩:=call_ok h
                              refine T_reg [(1,{ res:=dB y1 })] [1,3,4,16,17,196,197,198,205,1000000] [(205,dB (!y1))] [(1,ACall Tryd.prog 33 [.d (.str (a0.f4.getD v1.toNat []))] [] (dB y1) [])] 1 (by kernel_rfl) (ref3_ticketName_ok hy3) ?_
                              refine T_cond (!y1) (by kernel_rfl) (fun hc=>?_) (fun hc=>?_)
                              · have h:=cond_tt hc h
                                refine T_reg [] [8,1000000] [(8,dI (6:Int))] [] 1 (by kernel_rfl) (trivial) ?_
                                obtain hs:=Option.some.inj h; subst hs
                                have h:=callE_esc hk2
                                obtain hs:=Option.some.inj h; subst hs
                                refine T_ret fun a w hm=>then_ret (inBlock_ret (then_ret (then_ret (inBlock_ret (then_ret (then_ret (T_return (fr':=[(8,dI (6:Int)),(1000000,.box [dI (IntKind.i64.wrap (c3+(1:Int)))])]) [8] (by kernel_rfl) [.keep [8,1000000]] (by kernel_rfl) (by kernel_rfl) (by kernel_rfl) (by show _=_; kernel_rfl) (by exact ⟨⟨by kernel_rfl,by kernel_rfl⟩,trivial⟩) a w hm)))))))
                              · have h:=cond_ff hc h
                                refine T_skip fun a w hm=>then_norm (((?_:T Tryd.prog e 259 _ _ _) a w hm))
                                obtain ⟨hp2,h⟩:=chk_ok h
                                obtain ⟨y2,hy4,h⟩:=call_ok h
                                refine T_reg [(3,{ rw:=some (.d (.sl 1 (((a0.f4.drop (0:Int).toNat).take (v1.toNat - (0:Int).toNat)).map cS))) }),(5,{ res:=dB y2 })] [1,3,4,196,197,198,211,1000000] [(211,dB y2)] [(3,(0≤(0:Int)∧(0:Int)≤v1∧v1≤((a0.f4.map cS).length:Int))∧AV.d (.sl 1 (((a0.f4.map cS).drop (0:Int).toNat).take (v1.toNat - (0:Int).toNat)))=.d (.sl 1 (((a0.f4.drop (0:Int).toNat).take (v1.toNat - (0:Int).toNat)).map cS))),(1,ACall Tryd.prog 25 [.d (.sl 1 (((a0.f4.drop (0:Int).toNat).take (v1.toNat - (0:Int).toNat)).map cS)),.d (.str (a0.f4.getD v1.toNat []))] [] (dB y2) [])] 0 (by kernel_rfl) (⟨cutH cS hp2,ref3_HasText_ok hy4⟩) ?_
                                refine T_cond y2 (by kernel_rfl) (fun hc=>?_) (fun hc=>?_)
                                · have h:=cond_tt hc h
                                  refine T_reg [] [8,1000000] [(8,dI (7:Int))] [] 1 (by kernel_rfl) (trivial) ?_
                                  obtain hs:=Option.some.inj h; subst hs
                                  have h:=callE_esc hk2
                                  obtain hs:=Option.some.inj h; subst hs
                                  refine T_ret fun a w hm=>inBlock_ret (then_ret (then_ret (inBlock_ret (then_ret (then_ret (T_return (fr':=[(8,dI (7:Int)),(1000000,.box [dI (IntKind.i64.wrap (c3+(1:Int)))])]) [8] (by kernel_rfl) [.keep [8,1000000]] (by kernel_rfl) (by kernel_rfl) (by kernel_rfl) (by show _=_; kernel_rfl) (by exact ⟨⟨by kernel_rfl,by kernel_rfl⟩,trivial⟩) a w hm))))))
                                · have h:=cond_ff hc h
                                  refine T_skip fun a w hm=>inBlock_norm (then_norm (((?_:T Tryd.prog e 259 _ _ _) a w hm)))
                                  refine T_reg_end [] [1,3,4,196,197,198,1000000] [(198,dI (IntKind.i64.wrap (v1+(1:Int))))] [] 2 (by kernel_rfl) (trivial) fun a w hm=>then_norm (⟨IntKind.i64.wrap (v1+(1:Int)),h,hm.co (cs:=[.keep [1,3,4,196,197,198,1000000]]) (by show _=_; kernel_rfl)⟩)
                            · have h:=cond_ff hc h
                              obtain hs:=Option.some.inj h; subst hs
                              refine T_exit fun a w hm=>then_exit (then_exit (inBlock_exit (then_norm (⟨_,rfl,hm.co (cs:=[.keep [1,3,4,1000000]]) (by show _=_; kernel_rfl)⟩))))
                          · skip
                            refine fun a w hm=>then_norm (((?_:T Tryd.prog e 259 _ _ _) a w hm))
                            refine T_seqk ?_
                            refine T_reg [(2,{ rw:=some (dI (a0.f5.length:Int)) })] [1,3,4,214,215,216,1000000] [(214,.d (.sl 12 (a0.f5.map rS_TicketField))),(215,dI (a0.f5.length:Int)),(216,dI (0:Int))] [(2,True∧dI ((a0.f5.map rS_TicketField).length:Int)=dI (a0.f5.length:Int))] 1 (by kernel_rfl) (len_ok rS_TicketField) ?_
                            refine T_joinEt h (fun (p:Int)=>[(4,bx_TicketField a0),(1000000,.box [dI p])]) (fun s h hk3=>?_) (fun v7 h=>?_)
                            · refine T_co [.keep [1,3,4,214,215,216,1000000]] ((fun (p:Int×Int)=>[(1,dI a1),(3,.bp 1000000 0),(4,bx_TicketField a0),(214,.d (.sl 12 (a0.f5.map rS_TicketField))),(215,dI (a0.f5.length:Int)),(216,dI p.1),(1000000,.box [dI p.2])]) ((0:Int),IntKind.i64.wrap (c3+(1:Int)))) (by show _=_; kernel_rfl) ?_
                              refine T_block ?_
                              refine T_loopF (ι:=Int×Int) (fun (p:Int×Int)=>[(1,dI a1),(3,.bp 1000000 0),(4,bx_TicketField a0),(214,.d (.sl 12 (a0.f5.map rS_TicketField))),(215,dI (a0.f5.length:Int)),(216,dI p.1),(1000000,.box [dI p.2])]) (fun n p=>ref3_FieldError_L3 F a0 a1 rec_ref3_FieldError n p.1 p.2=some s) (fun i hh=>by simp [ref3_FieldError_L3] at hh) (fun n p h=>?_) F ((0:Int),IntKind.i64.wrap (c3+(1:Int))) h
                              obtain ⟨v2,v3⟩:=p
                              have h:ref3_FieldError_L3 F a0 a1 rec_ref3_FieldError (n+1) v2 v3=some s:=h
                              rw [ref3_FieldError_L3] at h
                              refine T_reg [] [1,3,4,214,215,216,217,1000000] [(217,dB (decide (v2 < (a0.f5.length:Int))))] [] 1 (by kernel_rfl) (trivial) ?_
                              refine T_seqk ?_
                              refine T_cond (decide (v2 < (a0.f5.length:Int))) (by kernel_rfl) (fun hc=>?_) (fun hc=>?_)
                              · have h:=cond_tt hc h
                                refine T_skip fun a w hm=>then_norm (((?_:T Tryd.prog e 259 _ _ _) a w hm))
                                refine T_seqk ?_
                                refine T_block ?_
                                obtain ⟨hp3,h⟩:=chk_ok h
                                refine T_reg [(1,{ cs:=cS_TicketField (a0.f5.getD v2.toNat z_TicketField) })] [1,3,4,18,19,214,215,216,1000000] [(18,dI v2),(19,.box [.d (.str ((a0.f5.getD v2.toNat z_TicketField).f0)),dI ((a0.f5.getD v2.toNat z_TicketField).f1),dI ((a0.f5.getD v2.toNat z_TicketField).f2),dI ((a0.f5.getD v2.toNat z_TicketField).f3),.d (.sl 1 (((a0.f5.getD v2.toNat z_TicketField).f4).map cS)),.d (.sl 12 (((a0.f5.getD v2.toNat z_TicketField).f5).map rS_TicketField)),dB ((a0.f5.getD v2.toNat z_TicketField).f6),dI (((a0.f5.getD v2.toNat z_TicketField).f7).f0),dI (((a0.f5.getD v2.toNat z_TicketField).f7).f1),.d (.str (((a0.f5.getD v2.toNat z_TicketField).f7).f2)),.d (.sl 1 ((((a0.f5.getD v2.toNat z_TicketField).f7).f3).map cS)),.d (.sl 5 ((((a0.f5.getD v2.toNat z_TicketField).f7).f4).map rS_Object))])] [(1,0≤v2∧(a0.f5.map rS_TicketField)[v2.toNat]? = some (cS_TicketField (a0.f5.getD v2.toNat z_TicketField)))] 4 (by kernel_rfl) (idx_okR (d:=z_TicketField) rS_TicketField_eq hp3) ?_
                                refine T_seqk ?_
                                obtain ⟨y3,hy5,h⟩:=call_ok h
                                refine T_reg [(7,{ res:=dI y3.1,vout:=[.box [dI y3.2]],xs:=[1000000] })] [1,3,4,18,19,20,214,215,216,1000000] [(20,dI y3.1),(1000000,.box [dI y3.2])] [(7,ACall Tryd.prog 18 [.agg (cS_TicketField (a0.f5.getD v2.toNat z_TicketField)),dI (IntKind.i64.wrap (a1+(1:Int))),dB (a0.f1 == (4:Int)),.bp 1000000 0] [.box [dI v3]] (dI y3.1) [.box [dI y3.2]])] 1 (by kernel_rfl) (hrec_ref3_FieldError hy5) ?_
                                refine T_reg [] [1,3,4,18,19,20,214,215,216,230,1000000] [(230,dB (y3.1 != (0:Int)))] [] 2 (by kernel_rfl) (trivial) ?_
                                refine T_cond (y3.1 != (0:Int)) (by kernel_rfl) (fun hc=>?_) (fun hc=>?_)
                                · have h:=cond_tt hc h
                                  refine T_reg [] [8,1000000] [(8,dI y3.1)] [] 2 (by kernel_rfl) (trivial) ?_
                                  obtain hs:=Option.some.inj h; subst hs
                                  have h:=callE_esc hk3
                                  obtain hs:=Option.some.inj h; subst hs
                                  refine T_ret fun a w hm=>then_ret (inBlock_ret (then_ret (then_ret (inBlock_ret (then_ret (then_ret (T_return (fr':=[(8,dI y3.1),(1000000,.box [dI y3.2])]) [8] (by kernel_rfl) [.keep [8,1000000]] (by kernel_rfl) (by kernel_rfl) (by kernel_rfl) (by show _=_; kernel_rfl) (by exact ⟨⟨by kernel_rfl,by kernel_rfl⟩,trivial⟩) a w hm)))))))
                                · have h:=cond_ff hc h
                                  refine T_skip fun a w hm=>then_norm (((?_:T Tryd.prog e 259 _ _ _) a w hm))
                                  obtain ⟨hp4,h⟩:=chk_ok h
                                  obtain ⟨z1,hz7,h⟩:=lett_ok h
                                  obtain ⟨z2,hz8,h⟩:=lett_ok h
                                  refine T_draw mixed [(9,{ cs:=cS_TicketField (a0.f5.getD (IntKind.i64.wrap (v2 - (1:Int))).toNat z_TicketField) }),(11,{ rw:=some (.d (.str z1)) }),(12,{ rw:=some (dB z2) })] [1,3,4,214,215,216,245,1000000] [] [(1,dI a1),(3,.bp 1000000 0),(4,bx_TicketField a0),(214,.d (.sl 12 (a0.f5.map rS_TicketField))),(215,dI (a0.f5.length:Int)),(216,dI v2),(245,dB (bif (decide (v2 > (0:Int))) then z2 else false)),(1000000,.box [dI y3.2])] [(3,((((decide (v2 > (0:Int))) == true) && true)=true→True)),(0,((((decide (v2 > (0:Int))) == true) && true)=true→True)),(0,((((decide (v2 > (0:Int))) == true) && true)=true→True)),(0,((((decide (v2 > (0:Int))) == true) && true)=true→True)),(0,((((decide (v2 > (0:Int))) == true) && true)=true→True)),(0,((((decide (v2 > (0:Int))) == true) && true)=true→True)),(0,((((decide (v2 > (0:Int))) == true) && true)=true→0≤(IntKind.i64.wrap (v2 - (1:Int)))∧(a0.f5.map rS_TicketField)[(IntKind.i64.wrap (v2 - (1:Int))).toNat]? = some (cS_TicketField (a0.f5.getD (IntKind.i64.wrap (v2 - (1:Int))).toNat z_TicketField)))),(0,((((decide (v2 > (0:Int))) == true) && true)=true→True)),(0,((((decide (v2 > (0:Int))) == true) && true)=true→(True)∧AV.d (.str ((a0.f5.getD (IntKind.i64.wrap (v2 - (1:Int))).toNat z_TicketField).f0))=.d (.str z1))),(0,((((decide (v2 > (0:Int))) == true) && true)=true→(True)∧dB (Op.bytesLess ((a0.f5.getD v2.toNat z_TicketField).f0) z1 || ((a0.f5.getD v2.toNat z_TicketField).f0) == z1)=dB z2))] 1 (by kernel_rfl) (⟨(fun hg=>trivial),(fun hg=>trivial),(fun hg=>trivial),(fun hg=>trivial),(fun hg=>trivial),(fun hg=>trivial),(fun hg=>idx_okR (d:=z_TicketField) rS_TicketField_eq (hp4 hg)),(fun hg=>trivial),(fun hg=>⟨trivial,(by subst hz7; rfl)⟩),(fun hg=>⟨trivial,(by subst hz8; rfl)⟩)⟩) ?_
                                  refine T_cond (bif (decide (v2 > (0:Int))) then z2 else false) (by kernel_rfl) (fun hc=>?_) (fun hc=>?_)
                                  · have h:=cond_tt hc h
                                    refine T_reg [] [8,1000000] [(8,dI (18:Int))] [] 1 (by kernel_rfl) (trivial) ?_
                                    obtain hs:=Option.some.inj h; subst hs
                                    have h:=callE_esc hk3
                                    obtain hs:=Option.some.inj h; subst hs
                                    refine T_ret fun a w hm=>inBlock_ret (then_ret (then_ret (inBlock_ret (then_ret (then_ret (T_return (fr':=[(8,dI (18:Int)),(1000000,.box [dI y3.2])]) [8] (by kernel_rfl) [.keep [8,1000000]] (by kernel_rfl) (by kernel_rfl) (by kernel_rfl) (by show _=_; kernel_rfl) (by exact ⟨⟨by kernel_rfl,by kernel_rfl⟩,trivial⟩) a w hm))))))
                                  · have h:=cond_ff hc h
                                    refine T_skip fun a w hm=>inBlock_norm (then_norm (((?_:T Tryd.prog e 259 _ _ _) a w hm)))
                                    refine T_reg_end [] [1,3,4,214,215,216,1000000] [(216,dI (IntKind.i64.wrap (v2+(1:Int))))] [] 2 (by kernel_rfl) (trivial) fun a w hm=>then_norm (⟨(IntKind.i64.wrap (v2+(1:Int)),y3.2),h,hm.co (cs:=[.keep [1,3,4,214,215,216,1000000]]) (by show _=_; kernel_rfl)⟩)
                              · have h:=cond_ff hc h
                                obtain hs:=Option.some.inj h; subst hs
                                refine T_exit fun a w hm=>then_exit (then_exit (inBlock_exit (then_norm (⟨_,rfl,hm.co (cs:=[.keep [4,1000000]]) (by show _=_; kernel_rfl)⟩))))
                            · skip
                              refine fun a w hm=>then_norm (((?_:T Tryd.prog e 259 _ _ _) a w hm))
                              refine T_seqk ?_
                              obtain ⟨y6,hy6,h⟩:=call_ok h
                              refine T_reg [(8,{ res:=.d (.sl 2 (y6.map cS_TicketFinding)) }),(9,{ rw:=some (dI (y6.length:Int)) })] [258,1000000] [(258,dB (bif (a0.f7.f0 != (0:Int)) then (decide ((y6.length:Int) > (0:Int))) else false))] [(5,((((a0.f7.f0 != (0:Int)) == true) && true)=true→True)),(0,((((a0.f7.f0 != (0:Int)) == true) && true)=true→True)),(0,((((a0.f7.f0 != (0:Int)) == true) && true)=true→True)),(0,((((a0.f7.f0 != (0:Int)) == true) && true)=true→ACall Tryd.prog 12 [.agg (cS_TicketField a0),.agg (cS_Object a0.f7),.d (.v (.slice none 0 0))] [] (.d (.sl 2 (y6.map cS_TicketFinding))) [])),(0,((((a0.f7.f0 != (0:Int)) == true) && true)=true→True∧dI ((y6.map cS_TicketFinding).length:Int)=dI (y6.length:Int))),(0,((((a0.f7.f0 != (0:Int)) == true) && true)=true→True))] 1 (by kernel_rfl) (⟨(fun hg=>trivial),(fun hg=>trivial),(fun hg=>trivial),(fun hg=>(ACall.nilArg 2 (ACall.thawRes (ref3_Refused_ok (gcall_ok hg hy6))) rfl rfl)),(fun hg=>len_ok cS_TicketFinding),(fun hg=>trivial)⟩) ?_
                              refine T_cond (bif (a0.f7.f0 != (0:Int)) then (decide ((y6.length:Int) > (0:Int))) else false) (by kernel_rfl) (fun hc=>?_) (fun hc=>?_)
                              · have h:=cond_tt hc h
                                refine T_reg [] [8,1000000] [(8,dI (20:Int))] [] 1 (by kernel_rfl) (trivial) ?_
                                obtain hs:=Option.some.inj h; subst hs
                                refine T_ret fun a w hm=>then_ret (T_return (fr':=[(8,dI (20:Int)),(1000000,.box [dI v7])]) [8] (by kernel_rfl) [.keep [8,1000000]] (by kernel_rfl) (by kernel_rfl) (by kernel_rfl) (by show _=_; kernel_rfl) (by exact ⟨⟨by kernel_rfl,by kernel_rfl⟩,trivial⟩) a w hm)
                              · have h:=cond_ff hc h
                                refine T_skip fun a w hm=>then_norm (((?_:T Tryd.prog e 259 _ _ _) a w hm))
                                refine T_reg [] [8,1000000] [(8,dI (0:Int))] [] 1 (by kernel_rfl) (trivial) ?_
                                obtain hs:=Option.some.inj h; subst hs
                                refine T_ret fun a w hm=>T_return (fr':=[(8,dI (0:Int)),(1000000,.box [dI v7])]) [8] (by kernel_rfl) [.keep [8,1000000]] (by kernel_rfl) (by kernel_rfl) (by kernel_rfl) (by show _=_; kernel_rfl) (by exact ⟨⟨by kernel_rfl,by kernel_rfl⟩,trivial⟩) a w hm
theorem ref3_FieldError_fuel_ok {F:Nat} (n:Nat):∀ {a0:S_TicketField} {a1:Int} {a2:Bool} {c3:Int} {r:Int×Int},ref3_FieldError_fuel F n a0 a1 a2 c3=some r→ACall Tryd.prog 18 [.agg (cS_TicketField a0),.d (.v (.int .i64 a1)),.d (.v (.bool a2)),.bp 1000000 0] [.box [.d (.v (.int .i64 c3))]] (.d (.v (.int .i64 r.1))) [.box [.d (.v (.int .i64 r.2))]]:=by
  induction n with
  | zero=>intro a0 a1 a2 c3 r h; exact absurd (show (none:Option (Int×Int))=some r from h) (by simp)
  | succ n ih=>intro a0 a1 a2 c3 r h; exact ref3_FieldError_body_ok ih h
theorem ref3_FieldError_ok {F:Nat} {a0:S_TicketField} {a1:Int} {a2:Bool} {c3:Int} {r:Int×Int} (h:ref3_FieldError F a0 a1 a2 c3=some r):ACall Tryd.prog 18 [.agg (cS_TicketField a0),.d (.v (.int .i64 a1)),.d (.v (.bool a2)),.bp 1000000 0] [.box [.d (.v (.int .i64 c3))]] (.d (.v (.int .i64 r.1))) [.box [.d (.v (.int .i64 r.2))]]:=ref3_FieldError_fuel_ok F h
theorem ref3_bound_c1_ok {F:Nat} {a0:List UInt8} {r:Int} (h:ref3_bound_c1 F a0=some r):ACall Tryd.prog 34 [.d (.str a0)] [] (.d (.v (.int .i64 r))) []:=by
  rw [ref3_bound_c1] at h
  refine ACall.intro (N:=13) Tryd.func34 rfl rfl rfl rfl rfl fun e=>?_
  refine T_reg [] [0] [] [] 1 (by kernel_rfl) (trivial) ?_
  obtain ⟨y1,hy1,h⟩:=call_ok h
  refine T_reg [(2,{ res:=.tup [.d (.str y1.1),dI y1.2] })] [3] [(3,.d (.str y1.1))] [(2,ACall Tryd.prog 23 [.agg (cS_Token (S_Token.mk (2:Int) 0 a0 0 0))] [] (.tup [.d (.str y1.1),dI y1.2]) [])] 5 (by kernel_rfl) (ref3_Spelled_ok hy1) ?_
  refine T_reg [] [2] [(2,dI (y1.1.length:Int))] [] 3 (by kernel_rfl) (trivial) ?_
  obtain hs:=Option.some.inj h; subst hs
  refine T_ret fun a w hm=>T_return (fr':=[(2,dI (y1.1.length:Int))]) [2] (by kernel_rfl) [.keep [2]] (by kernel_rfl) (by kernel_rfl) (by kernel_rfl) (by show _=_; kernel_rfl) (by exact trivial) a w hm
theorem ref3_bound_body_ok {F:Nat} {rec_ref3_bound:S_TicketField→Option Int} (hrec_ref3_bound:∀ {a0:S_TicketField},∀ {r:Int},rec_ref3_bound a0=some r→ACall Tryd.prog 19 [.agg (cS_TicketField a0)] [] (.d (.v (.int .i64 r))) []) {a0:S_TicketField} {r:Int} (h:ref3_bound_body F rec_ref3_bound a0=some r):ACall Tryd.prog 19 [.agg (cS_TicketField a0)] [] (.d (.v (.int .i64 r))) []:=by
  rw [ref3_bound_body] at h
  refine ACall.intro (N:=65) Tryd.func19 rfl rfl rfl rfl rfl fun e=>?_
  refine T_reg [] [1] [(1,bx_TicketField a0)] [] 2 (by kernel_rfl) (trivial) ?_
  refine T_reg [] [1,3] [(3,.clo 34 [])] [] 1 (by kernel_rfl) (trivial) ?_
  refine T_reg [] [1,3,4] [(4,dI (0:Int))] [] 1 (by kernel_rfl) (trivial) ?_
  refine T_joinc h (fun (p:Int)=>[(4,dI p)]) (fun s h=>?_) (fun v7 h=>?_)
  · refine T_reg [] [1,3,4,10] [(10,dI a0.f1)] [] 2 (by kernel_rfl) (trivial) ?_
    refine T_block ?_
    refine T_reg [] [1,3,4,10,29] [(29,dB (a0.f1 == (0:Int)))] [] 2 (by kernel_rfl) (trivial) ?_
    refine T_cond (a0.f1 == (0:Int)) (by kernel_rfl) (fun hc=>?_) (fun hc=>?_)
    · have h:=cond_tt hc h
      obtain hs:=Option.some.inj h; subst hs
      refine T_reg_end [] [4] [(4,dI (12:Int))] [] 1 (by kernel_rfl) (trivial) fun a w hm=>inBlock_norm (then_norm (hm.co (cs:=[.keep [4]]) (by show _=_; kernel_rfl)))
    · have h:=cond_ff hc h
      refine T_reg [] [1,3,4,10,31] [(31,dB (a0.f1 == (1:Int)))] [] 2 (by kernel_rfl) (trivial) ?_
      refine T_cond (a0.f1 == (1:Int)) (by kernel_rfl) (fun hc=>?_) (fun hc=>?_)
      · have h:=cond_tt hc h
        obtain hs:=Option.some.inj h; subst hs
        refine T_reg_end [] [4] [(4,dI (IntKind.i64.wrap ((IntKind.i64.wrap ((4:Int) * a0.f3))+(2:Int))))] [] 5 (by kernel_rfl) (trivial) fun a w hm=>inBlock_norm (then_norm (hm.co (cs:=[.keep [4]]) (by show _=_; kernel_rfl)))
      · have h:=cond_ff hc h
        refine T_reg [] [1,3,4,10,37] [(37,dB (a0.f1 == (2:Int)))] [] 2 (by kernel_rfl) (trivial) ?_
        refine T_cond (a0.f1 == (2:Int)) (by kernel_rfl) (fun hc=>?_) (fun hc=>?_)
        · have h:=cond_tt hc h
          refine T_reg [(2,{ rw:=some (dI (a0.f4.length:Int)) })] [3,4,40,41,42] [(40,.d (.sl 1 (a0.f4.map cS))),(41,dI (a0.f4.length:Int)),(42,dI (0:Int))] [(2,True∧dI ((a0.f4.map cS).length:Int)=dI (a0.f4.length:Int))] 1 (by kernel_rfl) (len_ok cS) ?_
          refine T_joinct h (fun (p:Int)=>[(4,dI p)]) (fun s h=>?_) (fun v5 h=>?_)
          · refine T_co [.keep [3,4,40,41,42]] ((fun (p:Int×Int)=>[(3,.clo 34 []),(4,dI p.1),(40,.d (.sl 1 (a0.f4.map cS))),(41,dI (a0.f4.length:Int)),(42,dI p.2)]) ((0:Int),(0:Int))) (by show _=_; kernel_rfl) ?_
            refine T_block ?_
            refine T_loopF (ι:=Int×Int) (fun (p:Int×Int)=>[(3,.clo 34 []),(4,dI p.1),(40,.d (.sl 1 (a0.f4.map cS))),(41,dI (a0.f4.length:Int)),(42,dI p.2)]) (fun n p=>ref3_bound_L3 F a0 n p.1 p.2=some s) (fun i hh=>by simp [ref3_bound_L3] at hh) (fun n p h=>?_) F ((0:Int),(0:Int)) h
            obtain ⟨v1,v2⟩:=p
            have h:ref3_bound_L3 F a0 (n+1) v1 v2=some s:=h
            rw [ref3_bound_L3] at h
            refine T_reg [] [3,4,40,41,42,43] [(43,dB (decide (v2 < (a0.f4.length:Int))))] [] 1 (by kernel_rfl) (trivial) ?_
            refine T_seqk ?_
            refine T_cond (decide (v2 < (a0.f4.length:Int))) (by kernel_rfl) (fun hc=>?_) (fun hc=>?_)
            · have h:=cond_tt hc h
              refine T_skip fun a w hm=>then_norm (((?_:T Tryd.prog e 65 _ _ _) a w hm))
              refine T_seqk ?_
              refine T_block ?_
              obtain ⟨hp1,h⟩:=chk_ok h
              refine T_reg [(0,{ cs:=cS (a0.f4.getD v2.toNat []) })] [3,4,6,40,41,42] [(6,.d (.str (a0.f4.getD v2.toNat [])))] [(0,0≤v2∧(a0.f4.map cS)[v2.toNat]? = some (cS (a0.f4.getD v2.toNat [])))] 2 (by kernel_rfl) (idx_ok (d:=[]) cS hp1) ?_
              obtain ⟨y1,hy1,h⟩:=call_ok h
              refine T_reg_end [(3,{ res:=dI y1 })] [3,4,40,41,42] [(4,dI (if v1 < y1 then y1 else v1))] [(3,ACall Tryd.prog 34 [.d (.str (a0.f4.getD v2.toNat []))] [] (dI y1) [])] 2 (by kernel_rfl) (ref3_bound_c1_ok hy1) fun a w hm=>inBlock_norm (then_norm (((?_:T Tryd.prog e 65 _ _ _) a w hm)))
              refine T_reg_end [] [3,4,40,41,42] [(42,dI (IntKind.i64.wrap (v2+(1:Int))))] [] 2 (by kernel_rfl) (trivial) fun a w hm=>then_norm (⟨((if v1 < y1 then y1 else v1),IntKind.i64.wrap (v2+(1:Int))),h,hm.co (cs:=[.keep [3,4,40,41,42]]) (by show _=_; kernel_rfl)⟩)
            · have h:=cond_ff hc h
              obtain hs:=Option.some.inj h; subst hs
              refine T_exit fun a w hm=>then_exit (then_exit (inBlock_exit (then_norm (hm.co (cs:=[.keep [4]]) (by show _=_; kernel_rfl)))))
          · skip
            obtain hs:=Option.some.inj h; subst hs
            refine fun a w hm=>inBlock_norm (then_norm (hm.co (cs:=[.keep [4]]) (by show _=_; kernel_rfl)))
        · have h:=cond_ff hc h
          refine T_reg [] [1,3,52] [(52,dB (a0.f1 == (3:Int)))] [] 2 (by kernel_rfl) (trivial) ?_
          refine T_cond (a0.f1 == (3:Int)) (by kernel_rfl) (fun hc=>?_) (fun hc=>?_)
          · have h:=cond_tt hc h
            obtain ⟨hp2,h⟩:=chk_ok h
            obtain ⟨y4,hy2,h⟩:=call_ok h
            obtain hs:=Option.some.inj h; subst hs
            refine T_drawX_end mixed 5 (.take 0 (.take 2 (.all (.alt 1 (.all (.alt 3 (.all (.alt 4 (.all (.alt 5 (.all (.alt 6 (.take 7 (.take 8 (.take 9 (.take 10 .done)))) .stop)) .stop)) .stop)) .stop)) (.alt 3 (.all (.alt 1 (.all (.alt 4 (.all (.alt 5 (.all (.alt 6 (.take 7 (.take 8 (.take 9 (.take 10 .done)))) .stop)) .stop)) .stop)) (.alt 4 (.all (.alt 1 (.all (.alt 5 (.all (.alt 6 (.take 7 (.take 8 (.take 9 (.take 10 .done)))) .stop)) .stop)) (.alt 5 (.all (.alt 1 (.all (.alt 6 (.take 7 (.take 8 (.take 9 (.take 10 .done)))) .stop)) (.alt 6 (.take 7 (.all (.alt 1 (.take 8 (.take 9 (.take 10 .done))) .stop))) .stop))) .stop))) .stop))) .stop))))) ([0,1,0,4,8,16,32,64,130,256,1023],[0,1,0,4,8,16,32,64,130,256,512]) 1925 [(4,{ cs:=cS_TicketField (a0.f5.getD (0:Int).toNat z_TicketField) }),(6,{ res:=dI y4 })] [4] [] [(4,dI (IntKind.i64.wrap ((IntKind.i64.wrap (a0.f3 * (IntKind.i64.wrap ((1:Int)+y4))))+(2:Int))))] ((fun (o4:Prop)=>fun (o6:Prop)=>[(4,o4),(1,o6),(6,o4),(1,o6),(4,o4),(2,o6),(6,o6),(4,o6)]) (0≤(0:Int)∧(a0.f5.map rS_TicketField)[(0:Int).toNat]? = some (cS_TicketField (a0.f5.getD (0:Int).toNat z_TicketField))) (ACall Tryd.prog 19 [.agg (cS_TicketField (a0.f5.getD (0:Int).toNat z_TicketField))] [] (dI y4) [])) 5 (by kernel_rfl) (by kernel_rfl) (by kernel_rfl) (have p4:=idx_okR (d:=z_TicketField) rS_TicketField_eq hp2; have p6:=hrec_ref3_bound hy2; ⟨p4,p6,p4,p6,p4,p6,p6,p6⟩) fun a w hm=>inBlock_norm (then_norm (hm.co (cs:=[.keep [4]]) (by show _=_; kernel_rfl)))
          · have h:=cond_ff hc h
            refine T_reg [] [1,3,4] [(4,dI (4:Int))] [] 1 (by kernel_rfl) (trivial) ?_
            refine T_reg [(2,{ rw:=some (dI (a0.f5.length:Int)) })] [3,4,12,13,14] [(12,.d (.sl 12 (a0.f5.map rS_TicketField))),(13,dI (a0.f5.length:Int)),(14,dI (0:Int))] [(2,True∧dI ((a0.f5.map rS_TicketField).length:Int)=dI (a0.f5.length:Int))] 1 (by kernel_rfl) (len_ok rS_TicketField) ?_
            refine T_joinct h (fun (p:Int)=>[(4,dI p)]) (fun s h=>?_) (fun v6 h=>?_)
            · refine T_co [.keep [3,4,12,13,14]] ((fun (p:Int×Int)=>[(3,.clo 34 []),(4,dI p.1),(12,.d (.sl 12 (a0.f5.map rS_TicketField))),(13,dI (a0.f5.length:Int)),(14,dI p.2)]) ((4:Int),(0:Int))) (by show _=_; kernel_rfl) ?_
              refine T_block ?_
              refine T_loopF (ι:=Int×Int) (fun (p:Int×Int)=>[(3,.clo 34 []),(4,dI p.1),(12,.d (.sl 12 (a0.f5.map rS_TicketField))),(13,dI (a0.f5.length:Int)),(14,dI p.2)]) (fun n p=>ref3_bound_L1 F a0 rec_ref3_bound n p.1 p.2=some s) (fun i hh=>by simp [ref3_bound_L1] at hh) (fun n p h=>?_) F ((4:Int),(0:Int)) h
              obtain ⟨v3,v4⟩:=p
              have h:ref3_bound_L1 F a0 rec_ref3_bound (n+1) v3 v4=some s:=h
              rw [ref3_bound_L1] at h
              refine T_reg [] [3,4,12,13,14,15] [(15,dB (decide (v4 < (a0.f5.length:Int))))] [] 1 (by kernel_rfl) (trivial) ?_
              refine T_seqk ?_
              refine T_cond (decide (v4 < (a0.f5.length:Int))) (by kernel_rfl) (fun hc=>?_) (fun hc=>?_)
              · have h:=cond_tt hc h
                refine T_skip fun a w hm=>then_norm (((?_:T Tryd.prog e 65 _ _ _) a w hm))
                refine T_seqk ?_
                refine T_block ?_
                obtain ⟨hp3,h⟩:=chk_ok h
                refine T_reg [(0,{ cs:=cS_TicketField (a0.f5.getD v4.toNat z_TicketField) })] [3,4,8,12,13,14] [(8,.box [.d (.str ((a0.f5.getD v4.toNat z_TicketField).f0)),dI ((a0.f5.getD v4.toNat z_TicketField).f1),dI ((a0.f5.getD v4.toNat z_TicketField).f2),dI ((a0.f5.getD v4.toNat z_TicketField).f3),.d (.sl 1 (((a0.f5.getD v4.toNat z_TicketField).f4).map cS)),.d (.sl 12 (((a0.f5.getD v4.toNat z_TicketField).f5).map rS_TicketField)),dB ((a0.f5.getD v4.toNat z_TicketField).f6),dI (((a0.f5.getD v4.toNat z_TicketField).f7).f0),dI (((a0.f5.getD v4.toNat z_TicketField).f7).f1),.d (.str (((a0.f5.getD v4.toNat z_TicketField).f7).f2)),.d (.sl 1 ((((a0.f5.getD v4.toNat z_TicketField).f7).f3).map cS)),.d (.sl 5 ((((a0.f5.getD v4.toNat z_TicketField).f7).f4).map rS_Object))])] [(0,0≤v4∧(a0.f5.map rS_TicketField)[v4.toNat]? = some (cS_TicketField (a0.f5.getD v4.toNat z_TicketField)))] 3 (by kernel_rfl) (idx_okR (d:=z_TicketField) rS_TicketField_eq hp3) ?_
                obtain ⟨y2,hy3,h⟩:=call_ok h
                obtain ⟨y3,hy4,h⟩:=call_ok h
                refine T_drawX_end mixed 3 (.take 0 (.take 4 (.take 5 (.all (.alt 1 (.all (.alt 2 (.take 3 (.all (.alt 6 (.all (.alt 7 (.take 8 (.take 9 (.take 10 .done))) .stop)) .stop))) (.alt 6 (.all (.alt 2 (.take 3 (.all (.alt 7 (.take 8 (.take 9 (.take 10 .done))) .stop))) .stop)) .stop))) (.alt 6 (.all (.alt 1 (.all (.alt 2 (.take 3 (.all (.alt 7 (.take 8 (.take 9 (.take 10 .done))) .stop))) .stop)) .stop)) .stop)))))) ([0,0,2,4,0,0,32,84,136,257,1023],[0,0,2,4,0,0,32,80,136,257,513]) 1849 [(2,{ res:=dI y2 }),(7,{ res:=dI y3 })] [3,4,12,13,14] [] [(3,.clo 34 []),(4,dI (IntKind.i64.wrap (v3+(IntKind.i64.wrap ((IntKind.i64.wrap ((2:Int)+y2))+y3))))),(12,.d (.sl 12 (a0.f5.map rS_TicketField))),(13,dI (a0.f5.length:Int)),(14,dI v4)] ((fun (o2:Prop)=>fun (o7:Prop)=>[(4,o2),(2,o7),(4,o2),(1,o7),(5,o2),(1,o7)]) (ACall Tryd.prog 19 [.agg (cS_TicketField (a0.f5.getD v4.toNat z_TicketField))] [] (dI y2) []) (ACall Tryd.prog 34 [.d (.str ((a0.f5.getD v4.toNat z_TicketField).f0))] [] (dI y3) [])) 3 (by kernel_rfl) (by kernel_rfl) (by kernel_rfl) (have p2:=hrec_ref3_bound hy3; have p7:=ref3_bound_c1_ok hy4; ⟨p2,p7,p2,p7,p2,p7⟩) fun a w hm=>inBlock_norm (then_norm (((?_:T Tryd.prog e 65 _ _ _) a w hm)))
                refine T_reg_end [] [3,4,12,13,14] [(14,dI (IntKind.i64.wrap (v4+(1:Int))))] [] 2 (by kernel_rfl) (trivial) fun a w hm=>then_norm (⟨(IntKind.i64.wrap (v3+(IntKind.i64.wrap ((IntKind.i64.wrap ((2:Int)+y2))+y3))),IntKind.i64.wrap (v4+(1:Int))),h,hm.co (cs:=[.keep [3,4,12,13,14]]) (by show _=_; kernel_rfl)⟩)
              · have h:=cond_ff hc h
                obtain hs:=Option.some.inj h; subst hs
                refine T_exit fun a w hm=>then_exit (then_exit (inBlock_exit (then_norm (hm.co (cs:=[.keep [4]]) (by show _=_; kernel_rfl)))))
            · skip
              obtain hs:=Option.some.inj h; subst hs
              refine fun a w hm=>inBlock_norm (then_norm (hm.co (cs:=[.keep [4]]) (by show _=_; kernel_rfl)))
  · skip
    refine T_reg [] [2] [(2,dI v7)] [] 2 (by kernel_rfl) (trivial) ?_
    obtain hs:=Option.some.inj h; subst hs
    refine T_ret fun a w hm=>T_return (fr':=[(2,dI v7)]) [2] (by kernel_rfl) [.keep [2]] (by kernel_rfl) (by kernel_rfl) (by kernel_rfl) (by show _=_; kernel_rfl) (by exact trivial) a w hm
theorem ref3_bound_fuel_ok {F:Nat} (n:Nat):∀ {a0:S_TicketField} {r:Int},ref3_bound_fuel F n a0=some r→ACall Tryd.prog 19 [.agg (cS_TicketField a0)] [] (.d (.v (.int .i64 r))) []:=by
  induction n with
  | zero=>intro a0 r h; exact absurd (show (none:Option Int)=some r from h) (by simp)
  | succ n ih=>intro a0 r h; exact ref3_bound_body_ok ih h
theorem ref3_bound_ok {F:Nat} {a0:S_TicketField} {r:Int} (h:ref3_bound F a0=some r):ACall Tryd.prog 19 [.agg (cS_TicketField a0)] [] (.d (.v (.int .i64 r))) []:=ref3_bound_fuel_ok F h
theorem ref3_SchemaError_ok {F:Nat} {a0:S_TicketField} {r:Int} (h:ref3_SchemaError F a0=some r):ACall Tryd.prog 8 [.agg (cS_TicketField a0)] [] (.d (.v (.int .i64 r))) []:=by
  rw [ref3_SchemaError] at h
  refine ACall.intro (N:=16) Tryd.func8 rfl rfl rfl rfl rfl fun e=>?_
  refine T_reg [] [1] [(1,bx_TicketField a0)] [] 2 (by kernel_rfl) (trivial) ?_
  refine T_reg [] [1,3] [(3,.box [dI (0:Int)])] [] 2 (by kernel_rfl) (trivial) ?_
  refine T_seqk ?_
  obtain ⟨y1,hy1,h⟩:=call_ok h
  refine T_reg [(1,{ res:=dI y1.1,vout:=[.box [dI y1.2]],xs:=[3] })] [1,4] [(4,dI y1.1)] [(1,ACall Tryd.prog 18 [.agg (cS_TicketField a0),dI (1:Int),dB false,.bp 1000000 0] [.box [dI (0:Int)]] (dI y1.1) [.box [dI y1.2]])] 1 (by kernel_rfl) (ref3_FieldError_ok hy1) ?_
  refine T_reg [] [1,4,8] [(8,dB (y1.1 != (0:Int)))] [] 2 (by kernel_rfl) (trivial) ?_
  refine T_cond (y1.1 != (0:Int)) (by kernel_rfl) (fun hc=>?_) (fun hc=>?_)
  · have h:=cond_tt hc h
    refine T_reg [] [2] [(2,dI y1.1)] [] 2 (by kernel_rfl) (trivial) ?_
    obtain hs:=Option.some.inj h; subst hs
    refine T_ret fun a w hm=>then_ret (T_return (fr':=[(2,dI y1.1)]) [2] (by kernel_rfl) [.keep [2]] (by kernel_rfl) (by kernel_rfl) (by kernel_rfl) (by show _=_; kernel_rfl) (by exact trivial) a w hm)
  · have h:=cond_ff hc h
    refine T_skip fun a w hm=>then_norm (((?_:T Tryd.prog e 16 _ _ _) a w hm))
    refine T_seqk ?_
    refine T_reg [] [1,12] [(12,dB (a0.f1 != (4:Int)))] [] 3 (by kernel_rfl) (trivial) ?_
    refine T_cond (a0.f1 != (4:Int)) (by kernel_rfl) (fun hc=>?_) (fun hc=>?_)
    · have h:=cond_tt hc h
      refine T_reg [] [2] [(2,dI (14:Int))] [] 1 (by kernel_rfl) (trivial) ?_
      obtain hs:=Option.some.inj h; subst hs
      refine T_ret fun a w hm=>then_ret (T_return (fr':=[(2,dI (14:Int))]) [2] (by kernel_rfl) [.keep [2]] (by kernel_rfl) (by kernel_rfl) (by kernel_rfl) (by show _=_; kernel_rfl) (by exact trivial) a w hm)
    · have h:=cond_ff hc h
      refine T_skip fun a w hm=>then_norm (((?_:T Tryd.prog e 16 _ _ _) a w hm))
      refine T_seqk ?_
      obtain ⟨y2,hy2,h⟩:=call_ok h
      refine T_reg [(1,{ res:=dI y2 })] [15] [(15,dB (decide (y2 > (8192:Int))))] [(1,ACall Tryd.prog 19 [.agg (cS_TicketField a0)] [] (dI y2) [])] 1 (by kernel_rfl) (ref3_bound_ok hy2) ?_
      refine T_cond (decide (y2 > (8192:Int))) (by kernel_rfl) (fun hc=>?_) (fun hc=>?_)
      · have h:=cond_tt hc h
        refine T_reg [] [2] [(2,dI (2:Int))] [] 1 (by kernel_rfl) (trivial) ?_
        obtain hs:=Option.some.inj h; subst hs
        refine T_ret fun a w hm=>then_ret (T_return (fr':=[(2,dI (2:Int))]) [2] (by kernel_rfl) [.keep [2]] (by kernel_rfl) (by kernel_rfl) (by kernel_rfl) (by show _=_; kernel_rfl) (by exact trivial) a w hm)
      · have h:=cond_ff hc h
        refine T_skip fun a w hm=>then_norm (((?_:T Tryd.prog e 16 _ _ _) a w hm))
        refine T_reg [] [2] [(2,dI (0:Int))] [] 1 (by kernel_rfl) (trivial) ?_
        obtain hs:=Option.some.inj h; subst hs
        refine T_ret fun a w hm=>T_return (fr':=[(2,dI (0:Int))]) [2] (by kernel_rfl) [.keep [2]] (by kernel_rfl) (by kernel_rfl) (by kernel_rfl) (by show _=_; kernel_rfl) (by exact trivial) a w hm
theorem ref3_SameFindings_ok {F:Nat} {a0:List S_TicketFinding} {a1:List S_TicketFinding} {r:Bool} (h:ref3_SameFindings F a0 a1=some r):ACall Tryd.prog 11 [.d (.sl 2 (a0.map cS_TicketFinding)),.d (.sl 2 (a1.map cS_TicketFinding))] [] (.d (.v (.bool r))) []:=by
  rw [ref3_SameFindings] at h
  refine ACall.intro (N:=71) Tryd.func11 rfl rfl rfl rfl rfl fun e=>?_
  refine T_reg [] [0,1] [] [] 1 (by kernel_rfl) (trivial) ?_
  refine T_seqk ?_
  refine T_reg [(1,{ rw:=some (dI (a0.length:Int)) }),(3,{ rw:=some (dI (a1.length:Int)) })] [0,1,11] [(11,dB ((a0.length:Int) != (a1.length:Int)))] [(1,True∧dI ((a0.map cS_TicketFinding).length:Int)=dI (a0.length:Int)),(1,True∧dI ((a1.map cS_TicketFinding).length:Int)=dI (a1.length:Int))] 1 (by kernel_rfl) (⟨len_ok cS_TicketFinding,len_ok cS_TicketFinding⟩) ?_
  refine T_cond ((a0.length:Int) != (a1.length:Int)) (by kernel_rfl) (fun hc=>?_) (fun hc=>?_)
  · have h:=cond_tt hc h
    refine T_reg [] [4] [(4,dB false)] [] 1 (by kernel_rfl) (trivial) ?_
    obtain hs:=Option.some.inj h; subst hs
    refine T_ret fun a w hm=>then_ret (T_return (fr':=[(4,dB false)]) [4] (by kernel_rfl) [.keep [4]] (by kernel_rfl) (by kernel_rfl) (by kernel_rfl) (by show _=_; kernel_rfl) (by exact trivial) a w hm)
  · have h:=cond_ff hc h
    refine T_skip fun a w hm=>then_norm (((?_:T Tryd.prog e 71 _ _ _) a w hm))
    refine T_seqk ?_
    refine T_reg [(1,{ rw:=some (dI (a0.length:Int)) })] [0,1,13,14] [(13,dI (a0.length:Int)),(14,dI (0:Int))] [(1,True∧dI ((a0.map cS_TicketFinding).length:Int)=dI (a0.length:Int))] 1 (by kernel_rfl) (len_ok cS_TicketFinding) ?_
    refine T_joinEt h (fun (p:Unit)=>[]) (fun s h hk1=>?_) (fun s h=>?_)
    · refine T_co [.keep [0,1,13,14]] ((fun (p:Int)=>[(0,.d (.sl 2 (a0.map cS_TicketFinding))),(1,.d (.sl 2 (a1.map cS_TicketFinding))),(13,dI (a0.length:Int)),(14,dI p)]) (0:Int)) (by show _=_; kernel_rfl) ?_
      refine T_block ?_
      refine T_loopF (ι:=Int) (fun (p:Int)=>[(0,.d (.sl 2 (a0.map cS_TicketFinding))),(1,.d (.sl 2 (a1.map cS_TicketFinding))),(13,dI (a0.length:Int)),(14,dI p)]) (fun n p=>ref3_SameFindings_L0 F a0 a1 n p=some s) (fun i hh=>by simp [ref3_SameFindings_L0] at hh) (fun n v1 h=>?_) F (0:Int) h
      have h:ref3_SameFindings_L0 F a0 a1 (n+1) v1=some s:=h
      rw [ref3_SameFindings_L0] at h
      refine T_reg [] [0,1,13,14,15] [(15,dB (decide (v1 < (a0.length:Int))))] [] 1 (by kernel_rfl) (trivial) ?_
      refine T_seqk ?_
      refine T_cond (decide (v1 < (a0.length:Int))) (by kernel_rfl) (fun hc=>?_) (fun hc=>?_)
      · have h:=cond_tt hc h
        refine T_skip fun a w hm=>then_norm (((?_:T Tryd.prog e 71 _ _ _) a w hm))
        refine T_seqk ?_
        refine T_block ?_
        refine T_reg [] [0,1,5,13,14] [(5,dI v1)] [] 2 (by kernel_rfl) (trivial) ?_
        refine T_seqk ?_
        obtain ⟨hp1,h⟩:=chk_ok h
        obtain ⟨hp2,h⟩:=chk_ok h
        obtain ⟨z2,hz1,h⟩:=lett_ok h
        obtain ⟨hp3,h⟩:=chk_ok h
        obtain ⟨hp4,h⟩:=chk_ok h
        obtain ⟨z3,hz2,h⟩:=lett_ok h
        refine T_draw mixed [(2,{ cs:=cS_TicketFinding (a0.getD v1.toNat z_TicketFinding) }),(7,{ cs:=cS_TicketFinding (a1.getD v1.toNat z_TicketFinding) }),(10,{ rw:=some (dB z2) }),(14,{ cs:=cS_TicketFinding (a0.getD v1.toNat z_TicketFinding) }),(17,{ rw:=some (dI (((a0.getD v1.toNat z_TicketFinding).f0).length:Int)) }),(20,{ cs:=cS_TicketFinding (a1.getD v1.toNat z_TicketFinding) }),(23,{ rw:=some (dI (((a1.getD v1.toNat z_TicketFinding).f0).length:Int)) }),(24,{ rw:=some (dB z3) })] [0,1,5,13,14,42] [] [(0,.d (.sl 2 (a0.map cS_TicketFinding))),(1,.d (.sl 2 (a1.map cS_TicketFinding))),(5,dI v1),(13,dI (a0.length:Int)),(14,dI v1),(42,dB (bif z2 then true else z3))] [(2,0≤v1∧(a0.map cS_TicketFinding)[v1.toNat]? = some (cS_TicketFinding (a0.getD v1.toNat z_TicketFinding))),(4,0≤v1∧(a1.map cS_TicketFinding)[v1.toNat]? = some (cS_TicketFinding (a1.getD v1.toNat z_TicketFinding))),(2,(True)∧dB (((a0.getD v1.toNat z_TicketFinding).f1) != ((a1.getD v1.toNat z_TicketFinding).f1))=dB z2),(1,(((z2 == false) && true)=true→True)),(0,(((z2 == false) && true)=true→True)),(0,(((z2 == false) && true)=true→0≤v1∧(a0.map cS_TicketFinding)[v1.toNat]? = some (cS_TicketFinding (a0.getD v1.toNat z_TicketFinding)))),(0,(((z2 == false) && true)=true→True)),(0,(((z2 == false) && true)=true→True)),(0,(((z2 == false) && true)=true→True∧dI ((((a0.getD v1.toNat z_TicketFinding).f0).map cS).length:Int)=dI (((a0.getD v1.toNat z_TicketFinding).f0).length:Int))),(0,(((z2 == false) && true)=true→True)),(0,(((z2 == false) && true)=true→True)),(0,(((z2 == false) && true)=true→0≤v1∧(a1.map cS_TicketFinding)[v1.toNat]? = some (cS_TicketFinding (a1.getD v1.toNat z_TicketFinding)))),(0,(((z2 == false) && true)=true→True)),(0,(((z2 == false) && true)=true→True)),(0,(((z2 == false) && true)=true→True∧dI ((((a1.getD v1.toNat z_TicketFinding).f0).map cS).length:Int)=dI (((a1.getD v1.toNat z_TicketFinding).f0).length:Int))),(0,(((z2 == false) && true)=true→(True)∧dB ((((a0.getD v1.toNat z_TicketFinding).f0).length:Int) != (((a1.getD v1.toNat z_TicketFinding).f0).length:Int))=dB z3))] 1 (by kernel_rfl) (⟨idx_ok (d:=z_TicketFinding) cS_TicketFinding hp1,idx_ok (d:=z_TicketFinding) cS_TicketFinding hp2,⟨trivial,(by subst hz1; rfl)⟩,(fun hg=>trivial),(fun hg=>trivial),(fun hg=>idx_ok (d:=z_TicketFinding) cS_TicketFinding (hp3 hg)),(fun hg=>trivial),(fun hg=>trivial),(fun hg=>len_ok cS),(fun hg=>trivial),(fun hg=>trivial),(fun hg=>idx_ok (d:=z_TicketFinding) cS_TicketFinding (hp4 hg)),(fun hg=>trivial),(fun hg=>trivial),(fun hg=>len_ok cS),(fun hg=>⟨trivial,(by subst hz2; rfl)⟩)⟩) ?_
        refine T_cond (bif z2 then true else z3) (by kernel_rfl) (fun hc=>?_) (fun hc=>?_)
        · have h:=cond_tt hc h
          refine T_reg [] [4] [(4,dB false)] [] 1 (by kernel_rfl) (trivial) ?_
          obtain hs:=Option.some.inj h; subst hs
          have h:=callE_esc hk1
          obtain hs:=Option.some.inj h; subst hs
          refine T_ret fun a w hm=>then_ret (inBlock_ret (then_ret (then_ret (inBlock_ret (then_ret (then_ret (T_return (fr':=[(4,dB false)]) [4] (by kernel_rfl) [.keep [4]] (by kernel_rfl) (by kernel_rfl) (by kernel_rfl) (by show _=_; kernel_rfl) (by exact trivial) a w hm)))))))
        · have h:=cond_ff hc h
          refine T_skip fun a w hm=>then_norm (((?_:T Tryd.prog e 71 _ _ _) a w hm))
          obtain ⟨hp5,h⟩:=chk_ok h
          refine T_reg [(2,{ cs:=cS_TicketFinding (a0.getD v1.toNat z_TicketFinding) }),(5,{ rw:=some (dI (((a0.getD v1.toNat z_TicketFinding).f0).length:Int)) })] [0,1,5,13,14,48,49] [(48,dI (((a0.getD v1.toNat z_TicketFinding).f0).length:Int)),(49,dI (0:Int))] [(2,0≤v1∧(a0.map cS_TicketFinding)[v1.toNat]? = some (cS_TicketFinding (a0.getD v1.toNat z_TicketFinding))),(2,True∧dI ((((a0.getD v1.toNat z_TicketFinding).f0).map cS).length:Int)=dI (((a0.getD v1.toNat z_TicketFinding).f0).length:Int))] 1 (by kernel_rfl) (⟨idx_ok (d:=z_TicketFinding) cS_TicketFinding hp5,len_ok cS⟩) ?_
          refine T_joinEt h (fun (p:Unit)=>[(0,.d (.sl 2 (a0.map cS_TicketFinding))),(1,.d (.sl 2 (a1.map cS_TicketFinding))),(13,dI (a0.length:Int)),(14,dI v1)]) (fun s h hk2=>?_) (fun s h=>?_)
          · refine T_co [.keep [0,1,5,13,14,48,49]] ((fun (p:Int)=>[(0,.d (.sl 2 (a0.map cS_TicketFinding))),(1,.d (.sl 2 (a1.map cS_TicketFinding))),(5,dI v1),(13,dI (a0.length:Int)),(14,dI v1),(48,dI (((a0.getD v1.toNat z_TicketFinding).f0).length:Int)),(49,dI p)]) (0:Int)) (by show _=_; kernel_rfl) ?_
            refine T_block ?_
            refine T_loopF (ι:=Int) (fun (p:Int)=>[(0,.d (.sl 2 (a0.map cS_TicketFinding))),(1,.d (.sl 2 (a1.map cS_TicketFinding))),(5,dI v1),(13,dI (a0.length:Int)),(14,dI v1),(48,dI (((a0.getD v1.toNat z_TicketFinding).f0).length:Int)),(49,dI p)]) (fun n p=>ref3_SameFindings_L2 F a0 a1 v1 n p=some s) (fun i hh=>by simp [ref3_SameFindings_L2] at hh) (fun n v2 h=>?_) F (0:Int) h
            have h:ref3_SameFindings_L2 F a0 a1 v1 (n+1) v2=some s:=h
            rw [ref3_SameFindings_L2] at h
            refine T_reg [] [0,1,5,13,14,48,49,50] [(50,dB (decide (v2 < (((a0.getD v1.toNat z_TicketFinding).f0).length:Int))))] [] 1 (by kernel_rfl) (trivial) ?_
            refine T_seqk ?_
            refine T_cond (decide (v2 < (((a0.getD v1.toNat z_TicketFinding).f0).length:Int))) (by kernel_rfl) (fun hc=>?_) (fun hc=>?_)
            · have h:=cond_tt hc h
              refine T_skip fun a w hm=>then_norm (((?_:T Tryd.prog e 71 _ _ _) a w hm))
              refine T_seqk ?_
              refine T_block ?_
              refine T_reg [] [0,1,5,6,13,14,48,49] [(6,dI v2)] [] 2 (by kernel_rfl) (trivial) ?_
              obtain ⟨hp6,h⟩:=chk_ok h
              obtain ⟨hp7,h⟩:=chk_ok h
              obtain ⟨hp8,h⟩:=chk_ok h
              obtain ⟨hp9,h⟩:=chk_ok h
              obtain ⟨z1,hz3,h⟩:=lett_ok h
              refine T_draw mixed [(2,{ cs:=cS_TicketFinding (a0.getD v1.toNat z_TicketFinding) }),(6,{ cs:=cS (((a0.getD v1.toNat z_TicketFinding).f0).getD v2.toNat []) }),(10,{ cs:=cS_TicketFinding (a1.getD v1.toNat z_TicketFinding) }),(14,{ cs:=cS (((a1.getD v1.toNat z_TicketFinding).f0).getD v2.toNat []) }),(16,{ rw:=some (dB z1) })] [0,1,5,13,14,48,49,68] [] [(0,.d (.sl 2 (a0.map cS_TicketFinding))),(1,.d (.sl 2 (a1.map cS_TicketFinding))),(5,dI v1),(13,dI (a0.length:Int)),(14,dI v1),(48,dI (((a0.getD v1.toNat z_TicketFinding).f0).length:Int)),(49,dI v2),(68,dB z1)] [(2,0≤v1∧(a0.map cS_TicketFinding)[v1.toNat]? = some (cS_TicketFinding (a0.getD v1.toNat z_TicketFinding))),(3,0≤v2∧(((a0.getD v1.toNat z_TicketFinding).f0).map cS)[v2.toNat]? = some (cS (((a0.getD v1.toNat z_TicketFinding).f0).getD v2.toNat []))),(3,0≤v1∧(a1.map cS_TicketFinding)[v1.toNat]? = some (cS_TicketFinding (a1.getD v1.toNat z_TicketFinding))),(3,0≤v2∧(((a1.getD v1.toNat z_TicketFinding).f0).map cS)[v2.toNat]? = some (cS (((a1.getD v1.toNat z_TicketFinding).f0).getD v2.toNat []))),(1,(True)∧dB (!((((a0.getD v1.toNat z_TicketFinding).f0).getD v2.toNat []) == (((a1.getD v1.toNat z_TicketFinding).f0).getD v2.toNat [])))=dB z1)] 0 (by kernel_rfl) (⟨idx_ok (d:=z_TicketFinding) cS_TicketFinding hp6,idx_ok (d:=[]) cS hp7,idx_ok (d:=z_TicketFinding) cS_TicketFinding hp8,idx_ok (d:=[]) cS hp9,⟨trivial,(by subst hz3; rfl)⟩⟩) ?_
              refine T_cond z1 (by kernel_rfl) (fun hc=>?_) (fun hc=>?_)
              · have h:=cond_tt hc h
                refine T_reg [] [4] [(4,dB false)] [] 1 (by kernel_rfl) (trivial) ?_
                obtain hs:=Option.some.inj h; subst hs
                have h:=callE_esc hk2
                obtain hs:=Option.some.inj h; subst hs
                have h:=callE_esc hk1
                obtain hs:=Option.some.inj h; subst hs
                refine T_ret fun a w hm=>inBlock_ret (then_ret (then_ret (inBlock_ret (then_ret (inBlock_ret (then_ret (then_ret (inBlock_ret (then_ret (then_ret (T_return (fr':=[(4,dB false)]) [4] (by kernel_rfl) [.keep [4]] (by kernel_rfl) (by kernel_rfl) (by kernel_rfl) (by show _=_; kernel_rfl) (by exact trivial) a w hm)))))))))))
              · have h:=cond_ff hc h
                refine T_skip fun a w hm=>inBlock_norm (then_norm (((?_:T Tryd.prog e 71 _ _ _) a w hm)))
                refine T_reg_end [] [0,1,5,13,14,48,49] [(49,dI (IntKind.i64.wrap (v2+(1:Int))))] [] 2 (by kernel_rfl) (trivial) fun a w hm=>then_norm (⟨IntKind.i64.wrap (v2+(1:Int)),h,hm.co (cs:=[.keep [0,1,5,13,14,48,49]]) (by show _=_; kernel_rfl)⟩)
            · have h:=cond_ff hc h
              obtain hs:=Option.some.inj h; subst hs
              refine T_exit fun a w hm=>then_exit (then_exit (inBlock_exit (then_norm (⟨_,rfl,hm.co (cs:=[.keep [0,1,13,14]]) (by show _=_; kernel_rfl)⟩))))
          · skip
            refine fun a w hm=>inBlock_norm (then_norm (((?_:T Tryd.prog e 71 _ _ _) a w hm)))
            refine T_reg_end [] [0,1,13,14] [(14,dI (IntKind.i64.wrap (v1+(1:Int))))] [] 2 (by kernel_rfl) (trivial) fun a w hm=>then_norm (⟨IntKind.i64.wrap (v1+(1:Int)),h,hm.co (cs:=[.keep [0,1,13,14]]) (by show _=_; kernel_rfl)⟩)
      · have h:=cond_ff hc h
        obtain hs:=Option.some.inj h; subst hs
        refine T_exit fun a w hm=>then_exit (then_exit (inBlock_exit (then_norm (⟨_,rfl,hm.co (cs:=[.keep []]) (by show _=_; kernel_rfl)⟩))))
    · skip
      refine fun a w hm=>then_norm (((?_:T Tryd.prog e 71 _ _ _) a w hm))
      refine T_reg [] [4] [(4,dB true)] [] 1 (by kernel_rfl) (trivial) ?_
      obtain hs:=Option.some.inj h; subst hs
      refine T_ret fun a w hm=>T_return (fr':=[(4,dB true)]) [4] (by kernel_rfl) [.keep [4]] (by kernel_rfl) (by kernel_rfl) (by kernel_rfl) (by show _=_; kernel_rfl) (by exact trivial) a w hm
theorem law3_TicketValidateMatchesReference_ok {F:Nat} {a0:S_TicketField} {a1:S_Object} {r:Bool} (h:law3_TicketValidateMatchesReference F a0 a1=some r):ACall Tryd.prog 4 [.agg (cS_TicketField a0),.agg (cS_Object a1)] [.glo 0 (glob_internal_strconv_uint64pow10.flatMap (cI .u64))] (.d (.v (.bool r))) [.glo 0 (glob_internal_strconv_uint64pow10.flatMap (cI .u64))]:=by
  rw [law3_TicketValidateMatchesReference] at h
  refine ACall.intro (N:=44) Tryd.func4 rfl rfl rfl rfl rfl fun e=>?_
  refine T_reg [] [2,3,1000000] [(2,bx_TicketField a0),(3,bx_Object a1)] [] 3 (by kernel_rfl) (trivial) ?_
  refine T_seqk ?_
  obtain ⟨y1,hy1,h⟩:=call_ok h
  refine T_reg [(0,{ res:=dB y1,vout:=[.glo 0 (glob_internal_strconv_uint64pow10.flatMap (cI .u64))],xs:=[1000000] })] [2,3,9,1000000] [(9,dB (!y1))] [(0,ACall Tryd.prog 6 [] [.glo 0 (glob_internal_strconv_uint64pow10.flatMap (cI .u64))] (dB y1) [.glo 0 (glob_internal_strconv_uint64pow10.flatMap (cI .u64))])] 1 (by kernel_rfl) (law3_ticketFact_ok hy1) ?_
  refine T_cond (!y1) (by kernel_rfl) (fun hc=>?_) (fun hc=>?_)
  · have h:=cond_tt hc h
    refine T_reg [] [4,1000000] [(4,dB false)] [] 1 (by kernel_rfl) (trivial) ?_
    obtain hs:=Option.some.inj h; subst hs
    refine T_ret fun a w hm=>then_ret (T_return (fr':=[(4,dB false),(1000000,.glo 0 (glob_internal_strconv_uint64pow10.flatMap (cI .u64)))]) [4] (by kernel_rfl) [.keep [4,1000000]] (by kernel_rfl) (by kernel_rfl) (by kernel_rfl) (by show _=_; kernel_rfl) (by exact ⟨⟨by kernel_rfl,by kernel_rfl⟩,trivial⟩) a w hm)
  · have h:=cond_ff hc h
    refine T_skip fun a w hm=>then_norm (((?_:T Tryd.prog e 44 _ _ _) a w hm))
    obtain ⟨y2,hy2,h⟩:=call_ok h
    refine T_reg [(2,{ res:=.tup [oW5 y2.1,dI y2.2],vout:=[.glo 0 (glob_internal_strconv_uint64pow10.flatMap (cI .u64))],xs:=[1000000] })] [2,3,5,6,1000000] [(5,oW5 y2.1),(6,dI y2.2)] [(2,ACall Tryd.prog 9 [.agg (cS_TicketField a0),.agg (cS_Object a1)] [.glo 0 (glob_internal_strconv_uint64pow10.flatMap (cI .u64))] (.tup [oW5 y2.1,dI y2.2]) [.glo 0 (glob_internal_strconv_uint64pow10.flatMap (cI .u64))])] 5 (by kernel_rfl) (ticket_Validate_ok hy2) ?_
    obtain ⟨y3,hy3,h⟩:=call_ok h
    refine T_reg [(1,{ res:=dI y3 })] [2,3,5,6,7,1000000] [(7,dI y3)] [(1,ACall Tryd.prog 8 [.agg (cS_TicketField a0)] [] (dI y3) [])] 1 (by kernel_rfl) (ref3_SchemaError_ok hy3) ?_
    refine T_joinc h (fun (p:Int)=>[(2,bx_TicketField a0),(3,bx_Object a1),(5,oW5 y2.1),(6,dI y2.2),(7,dI p),(1000000,.glo 0 (glob_internal_strconv_uint64pow10.flatMap (cI .u64)))]) (fun s h=>?_) (fun v1 h=>?_)
    · refine T_reg [] [2,3,5,6,7,19,1000000] [(19,dB (y3 == (0:Int)))] [] 2 (by kernel_rfl) (trivial) ?_
      refine T_cond (y3 == (0:Int)) (by kernel_rfl) (fun hc=>?_) (fun hc=>?_)
      · have h:=cond_tt hc h
        obtain ⟨y4,hy4,h⟩:=call_ok h
        obtain hs:=Option.some.inj h; subst hs
        refine T_reg_end [(1,{ res:=.tup [.d (.str y4.1),dI y4.2] })] [2,3,5,6,7,1000000] [(7,dI y4.2)] [(1,ACall Tryd.prog 10 [.agg (cS_Object a1)] [] (.tup [.d (.str y4.1),dI y4.2]) [])] 4 (by kernel_rfl) (ref3_Shown_ok hy4) fun a w hm=>then_norm (hm.co (cs:=[.keep [2,3,5,6,7,1000000]]) (by show _=_; kernel_rfl))
      · have h:=cond_ff hc h
        obtain hs:=Option.some.inj h; subst hs
        refine T_skip fun a w hm=>then_norm (hm.co (cs:=[.keep [2,3,5,6,7,1000000]]) (by show _=_; kernel_rfl))
    · skip
      refine T_seqk ?_
      refine T_reg [] [2,3,5,6,7,26,1000000] [(26,dB (v1 != (0:Int)))] [] 2 (by kernel_rfl) (trivial) ?_
      refine T_cond (v1 != (0:Int)) (by kernel_rfl) (fun hc=>?_) (fun hc=>?_)
      · have h:=cond_tt hc h
        refine T_reg [(5,{ rw:=some (dI (y2.1.length:Int)) })] [4,1000000] [(4,dB (bif (y2.2 == v1) then ((y2.1.length:Int) == (0:Int)) else false))] [(4,((((y2.2 == v1) == true) && true)=true→True)),(0,((((y2.2 == v1) == true) && true)=true→True∧dI ((y2.1.map cS_TicketFinding).length:Int)=dI (y2.1.length:Int))),(0,((((y2.2 == v1) == true) && true)=true→True))] 2 (by kernel_rfl) (⟨(fun hg=>trivial),(fun hg=>len_ok cS_TicketFinding),(fun hg=>trivial)⟩) ?_
        obtain hs:=Option.some.inj h; subst hs
        refine T_ret fun a w hm=>then_ret (T_return (fr':=[(4,dB (bif (y2.2 == v1) then ((y2.1.length:Int) == (0:Int)) else false)),(1000000,.glo 0 (glob_internal_strconv_uint64pow10.flatMap (cI .u64)))]) [4] (by kernel_rfl) [.keep [4,1000000]] (by kernel_rfl) (by kernel_rfl) (by kernel_rfl) (by show _=_; kernel_rfl) (by exact ⟨⟨by kernel_rfl,by kernel_rfl⟩,trivial⟩) a w hm)
      · have h:=cond_ff hc h
        refine T_skip fun a w hm=>then_norm (((?_:T Tryd.prog e 44 _ _ _) a w hm))
        obtain ⟨y5,hy5,h⟩:=call_ok h
        obtain ⟨y6,hy6,h⟩:=call_ok h
        refine T_reg [(6,{ res:=.d (.sl 2 (y5.map cS_TicketFinding)) }),(7,{ res:=dB y6 })] [4,1000000] [(4,dB (bif (y2.2 == (0:Int)) then y6 else false))] [(3,((((y2.2 == (0:Int)) == true) && true)=true→True)),(0,((((y2.2 == (0:Int)) == true) && true)=true→True)),(0,((((y2.2 == (0:Int)) == true) && true)=true→True)),(0,((((y2.2 == (0:Int)) == true) && true)=true→ACall Tryd.prog 12 [.agg (cS_TicketField a0),.agg (cS_Object a1),.d (.v (.slice none 0 0))] [] (.d (.sl 2 (y5.map cS_TicketFinding))) [])),(0,((((y2.2 == (0:Int)) == true) && true)=true→ACall Tryd.prog 11 [.d (.sl 2 (y2.1.map cS_TicketFinding)),.d (.sl 2 (y5.map cS_TicketFinding))] [] (dB y6) []))] 2 (by kernel_rfl) (⟨(fun hg=>trivial),(fun hg=>trivial),(fun hg=>trivial),(fun hg=>(ACall.nilArg 2 (ACall.thawRes (ref3_Refused_ok (gcall_ok hg hy5))) rfl rfl)),(fun hg=>ref3_SameFindings_ok (gcall_ok hg hy6))⟩) ?_
        obtain hs:=Option.some.inj h; subst hs
        refine T_ret fun a w hm=>T_return (fr':=[(4,dB (bif (y2.2 == (0:Int)) then y6 else false)),(1000000,.glo 0 (glob_internal_strconv_uint64pow10.flatMap (cI .u64)))]) [4] (by kernel_rfl) [.keep [4,1000000]] (by kernel_rfl) (by kernel_rfl) (by kernel_rfl) (by show _=_; kernel_rfl) (by exact ⟨⟨by kernel_rfl,by kernel_rfl⟩,trivial⟩) a w hm
end Go.Vm.TicG
