import Derived.Test.YtcjnhgcbefkbcaaGreatDoorPreP
namespace Go.Vm.PreG
open Go.Proofs
set_option maxRecDepth 20000
variable {gm0:Int}
theorem prepress_Judge_ok {F:Nat} {a0:List S_PrepressRule} {a1:List S_PrepressFact} {r:(List S_PrepressFinding)×Int} (h:prepress_Judge F a0 a1=some r):ACall Tryz.prog 14 [.d (.sl 6 (a0.map cS_PrepressRule)),.d (.sl 2 (a1.map cS_PrepressFact))] [.glo 0 ([gm0].flatMap (cI .i64)),.glo 3 (glob_internal_strconv_uint64pow10.flatMap (cI .u64))] (.tup [.own 47 3 (r.1.map cS_PrepressFinding),.d (.v (.int .i64 r.2))]) [.glo 0 ([gm0].flatMap (cI .i64)),.glo 3 (glob_internal_strconv_uint64pow10.flatMap (cI .u64))]:=by
  rw [prepress_Judge] at h
  refine ACall.intro (N:=89) Tryz.func14 rfl rfl rfl rfl rfl fun e=>?_
  refine T_reg [] [0,1,1000000,1000001] [] [] 2 (by kernel_rfl) (trivial) ?_
  refine T_seqk ?_
  obtain ⟨y5,hy1,h⟩:=call_ok h
  refine T_reg [(1,{ res:=dI y5,vout:=[.glo 0 ([gm0].flatMap (cI .i64)),.glo 3 (glob_internal_strconv_uint64pow10.flatMap (cI .u64))],xs:=[1000000,1000001] })] [0,1,6,1000000,1000001] [(6,dI y5)] [(1,ACall Tryz.prog 9 [.d (.sl 6 (a0.map cS_PrepressRule))] [.glo 0 ([gm0].flatMap (cI .i64)),.glo 3 (glob_internal_strconv_uint64pow10.flatMap (cI .u64))] (dI y5) [.glo 0 ([gm0].flatMap (cI .i64)),.glo 3 (glob_internal_strconv_uint64pow10.flatMap (cI .u64))])] 1 (by kernel_rfl) (prepress_Check_ok hy1) ?_
  refine T_reg [] [0,1,6,19,1000000,1000001] [(19,dB (y5 != (0:Int)))] [] 2 (by kernel_rfl) (trivial) ?_
  refine T_cond (y5 != (0:Int)) (by kernel_rfl) (fun hc=>?_) (fun hc=>?_)
  · have h:=cond_tt hc h
    refine T_reg [] [4,5,1000000,1000001] [(4,oW5 []),(5,dI y5)] [] 3 (by kernel_rfl) (trivial) ?_
    obtain hs:=Option.some.inj h; subst hs
    refine T_ret fun a w hm=>then_ret (T_return (fr':=[(4,oW5 []),(5,dI y5),(1000000,.glo 0 ([gm0].flatMap (cI .i64))),(1000001,.glo 3 (glob_internal_strconv_uint64pow10.flatMap (cI .u64)))]) [4,5] (by kernel_rfl) [.keep [4,5,1000000,1000001]] (by kernel_rfl) (by kernel_rfl) (by kernel_rfl) (by show _=_; kernel_rfl) (by exact ⟨⟨by kernel_rfl,by kernel_rfl⟩,⟨⟨by kernel_rfl,by kernel_rfl⟩,trivial⟩⟩) a w hm)
  · have h:=cond_ff hc h
    refine T_skip fun a w hm=>then_norm (((?_:T Tryz.prog e 89 _ _ _) a w hm))
    refine T_seqk ?_
    obtain ⟨y6,hy2,h⟩:=call_ok h
    refine T_reg [(1,{ res:=dI y6 })] [0,1,7,1000000,1000001] [(7,dI y6)] [(1,ACall Tryz.prog 32 [.d (.sl 2 (a1.map cS_PrepressFact))] [] (dI y6) [])] 1 (by kernel_rfl) (prepress_CheckFacts_ok hy2) ?_
    refine T_reg [] [0,1,7,24,1000000,1000001] [(24,dB (y6 != (0:Int)))] [] 2 (by kernel_rfl) (trivial) ?_
    refine T_cond (y6 != (0:Int)) (by kernel_rfl) (fun hc=>?_) (fun hc=>?_)
    · have h:=cond_tt hc h
      refine T_reg [] [4,5,1000000,1000001] [(4,oW5 []),(5,dI y6)] [] 3 (by kernel_rfl) (trivial) ?_
      obtain hs:=Option.some.inj h; subst hs
      refine T_ret fun a w hm=>then_ret (T_return (fr':=[(4,oW5 []),(5,dI y6),(1000000,.glo 0 ([gm0].flatMap (cI .i64))),(1000001,.glo 3 (glob_internal_strconv_uint64pow10.flatMap (cI .u64)))]) [4,5] (by kernel_rfl) [.keep [4,5,1000000,1000001]] (by kernel_rfl) (by kernel_rfl) (by kernel_rfl) (by show _=_; kernel_rfl) (by exact ⟨⟨by kernel_rfl,by kernel_rfl⟩,⟨⟨by kernel_rfl,by kernel_rfl⟩,trivial⟩⟩) a w hm)
    · have h:=cond_ff hc h
      refine T_skip fun a w hm=>then_norm (((?_:T Tryz.prog e 89 _ _ _) a w hm))
      refine T_reg [] [0,1,8,1000000,1000001] [(8,oW5 [])] [] 1 (by kernel_rfl) (trivial) ?_
      refine T_seqk ?_
      refine T_reg [(1,{ rw:=some (dI (a0.length:Int)) })] [1,8,26,27,28,1000000,1000001] [(26,.d (.sl 6 (a0.map cS_PrepressRule))),(27,dI (a0.length:Int)),(28,dI (0:Int))] [(1,True∧dI ((a0.map cS_PrepressRule).length:Int)=dI (a0.length:Int))] 1 (by kernel_rfl) (len_ok cS_PrepressRule) ?_
      refine T_joinct h (fun (p:(List S_PrepressFinding))=>[(8,oW5 p),(1000000,.glo 0 ([gm0].flatMap (cI .i64))),(1000001,.glo 3 (glob_internal_strconv_uint64pow10.flatMap (cI .u64)))]) (fun s h=>?_) (fun v8 h=>?_)
      · refine T_co [.keep [1,8,26,27,28,1000000,1000001]] ((fun (p:(List S_PrepressFinding)×Int)=>[(1,.d (.sl 2 (a1.map cS_PrepressFact))),(8,oW5 p.1),(26,.d (.sl 6 (a0.map cS_PrepressRule))),(27,dI (a0.length:Int)),(28,dI p.2),(1000000,.glo 0 ([gm0].flatMap (cI .i64))),(1000001,.glo 3 (glob_internal_strconv_uint64pow10.flatMap (cI .u64)))]) ([],(0:Int))) (by show _=_; kernel_rfl) ?_
        refine T_block ?_
        refine T_loopF (ι:=(List S_PrepressFinding)×Int) (fun (p:(List S_PrepressFinding)×Int)=>[(1,.d (.sl 2 (a1.map cS_PrepressFact))),(8,oW5 p.1),(26,.d (.sl 6 (a0.map cS_PrepressRule))),(27,dI (a0.length:Int)),(28,dI p.2),(1000000,.glo 0 ([gm0].flatMap (cI .i64))),(1000001,.glo 3 (glob_internal_strconv_uint64pow10.flatMap (cI .u64)))]) (fun n p=>prepress_Judge_L0 F a0 a1 n p.1 p.2=some s) (fun i hh=>by simp [prepress_Judge_L0] at hh) (fun n p h=>?_) F ([],(0:Int)) h
        obtain ⟨v4,v5⟩:=p
        have h:prepress_Judge_L0 F a0 a1 (n+1) v4 v5=some s:=h
        rw [prepress_Judge_L0] at h
        refine T_reg [] [1,8,26,27,28,29,1000000,1000001] [(29,dB (decide (v5 < (a0.length:Int))))] [] 1 (by kernel_rfl) (trivial) ?_
        refine T_seqk ?_
        refine T_cond (decide (v5 < (a0.length:Int))) (by kernel_rfl) (fun hc=>?_) (fun hc=>?_)
        · have h:=cond_tt hc h
          refine T_skip fun a w hm=>then_norm (((?_:T Tryz.prog e 89 _ _ _) a w hm))
          refine T_joinc h (fun (p:(List S_PrepressFinding))=>[(1,.d (.sl 2 (a1.map cS_PrepressFact))),(8,oW5 p),(26,.d (.sl 6 (a0.map cS_PrepressRule))),(27,dI (a0.length:Int)),(28,dI v5),(1000000,.glo 0 ([gm0].flatMap (cI .i64))),(1000001,.glo 3 (glob_internal_strconv_uint64pow10.flatMap (cI .u64)))]) (fun s h=>?_) (fun v7 h=>?_)
          · refine T_block ?_
            obtain ⟨hp1,h⟩:=chk_ok h
            refine T_reg [(0,{ cs:=cS_PrepressRule (a0.getD v5.toNat z_PrepressRule) })] [1,8,10,26,27,28,1000000,1000001] [(10,.box [.d (.str ((a0.getD v5.toNat z_PrepressRule).f0)),dI (((a0.getD v5.toNat z_PrepressRule).f1).f0),.d (.sl 2 ((((a0.getD v5.toNat z_PrepressRule).f1).f1).map cS_PrepressTerm)),dI (((a0.getD v5.toNat z_PrepressRule).f1).f2),dI (((a0.getD v5.toNat z_PrepressRule).f1).f3),.d (.sl 5 ((((a0.getD v5.toNat z_PrepressRule).f1).f4).map rS_PrepressCond))])] [(0,0≤v5∧(a0.map cS_PrepressRule)[v5.toNat]? = some (cS_PrepressRule (a0.getD v5.toNat z_PrepressRule)))] 3 (by kernel_rfl) (idx_ok (d:=z_PrepressRule) cS_PrepressRule hp1) ?_
            obtain ⟨y3,hy3,h⟩:=call_ok h
            refine T_reg [(3,{ res:=dI y3 })] [1,8,10,26,27,28,35,1000000,1000001] [(35,dI y3)] [(3,ACall Tryz.prog 33 [.agg (cS_PrepressCond ((a0.getD v5.toNat z_PrepressRule).f1)),.d (.sl 2 (a1.map cS_PrepressFact))] [] (dI y3) [])] 0 (by kernel_rfl) (prepress_truth_ok hy3) ?_
            refine T_block ?_
            refine T_reg [] [1,8,10,26,27,28,35,36,1000000,1000001] [(36,dB (y3 == (0:Int)))] [] 2 (by kernel_rfl) (trivial) ?_
            refine T_cond (y3 == (0:Int)) (by kernel_rfl) (fun hc=>?_) (fun hc=>?_)
            · have h:=cond_tt hc h
              obtain ⟨y4,hy4,h⟩:=call_ok h
              obtain ⟨hp2,h⟩:=chk_ok h
              obtain ⟨l1,hl1,h⟩:=lett_ok h
              obtain hs:=Option.some.inj h; subst hs
              refine T_drawX_end mixed 3 (.take 0 (.take 1 (.take 3 (.take 5 (.all (.alt 2 (.all (.alt 4 (.all (.alt 6 (.all (.alt 7 (.all (.alt 8 (.all (.alt 9 (.take 10 .done) .stop)) .stop)) .stop)) .stop)) .stop)) (.alt 4 (.all (.alt 2 (.all (.alt 6 (.all (.alt 7 (.all (.alt 8 (.all (.alt 9 (.take 10 .done) .stop)) .stop)) .stop)) .stop)) (.alt 6 (.all (.alt 2 (.all (.alt 7 (.all (.alt 8 (.all (.alt 9 (.take 10 .done) .stop)) .stop)) .stop)) .stop)) .stop))) .stop))))))) ([0,0,2,0,8,0,48,68,128,321,1023],[0,0,2,0,8,0,48,68,128,257,513]) 1067 [(6,{ res:=oW2 y4 }),(7,{ frz:=[(44,0)] }),(8,{ es:=some (([(S_PrepressFinding.mk ((a0.getD v5.toNat z_PrepressRule).f0) false y4)]).map cS_PrepressFinding) }),(9,{ es:=some (l1.map cS_PrepressFinding) })] [1,8,26,27,28,1000000,1000001] [] [(1,.d (.sl 2 (a1.map cS_PrepressFact))),(8,oW5 l1),(26,.d (.sl 6 (a0.map cS_PrepressRule))),(27,dI (a0.length:Int)),(28,dI v5),(1000000,.glo 0 ([gm0].flatMap (cI .i64))),(1000001,.glo 3 (glob_internal_strconv_uint64pow10.flatMap (cI .u64)))] ((fun (o6:Prop)=>fun (o8:Prop)=>fun (o9:Prop)=>[(6,o6),(1,o8),(0,o9),(3,o6),(1,o8),(0,o9),(1,o6),(2,o8),(0,o9)]) (ACall Tryz.prog 36 [.agg (cS_PrepressCond ((a0.getD v5.toNat z_PrepressRule).f1)),.d (.sl 2 (a1.map cS_PrepressFact))] [] (oW2 y4) []) ((([(S_PrepressFinding.mk ((a0.getD v5.toNat z_PrepressRule).f0) false y4)]).map cS_PrepressFinding)=(([(S_PrepressFinding.mk ((a0.getD v5.toNat z_PrepressRule).f0) false y4)]).map cS_PrepressFinding)) ((v4.map cS_PrepressFinding).length+(([(S_PrepressFinding.mk ((a0.getD v5.toNat z_PrepressRule).f0) false y4)]).map cS_PrepressFinding).length≤4294967296∧(v4.map cS_PrepressFinding)++(([(S_PrepressFinding.mk ((a0.getD v5.toNat z_PrepressRule).f0) false y4)]).map cS_PrepressFinding)=(l1.map cS_PrepressFinding))) 1 (by kernel_rfl) (by kernel_rfl) (by kernel_rfl) (have p6:=prepress_because_ok hy4; have p8:=rfl; have p9:=and_trans (app_ok cS_PrepressFinding hp2) (by subst hl1; rfl); ⟨p6,p8,p9,p6,p8,p9,p6,p8,p9⟩) fun a w hm=>inBlock_norm (inBlock_norm (then_norm (hm.co (cs:=[.keep [1,8,26,27,28,1000000,1000001]]) (by show _=_; kernel_rfl))))
            · have h:=cond_ff hc h
              refine T_reg [] [1,8,10,26,27,28,48,1000000,1000001] [(48,dB (y3 == (2:Int)))] [] 2 (by kernel_rfl) (trivial) ?_
              refine T_cond (y3 == (2:Int)) (by kernel_rfl) (fun hc=>?_) (fun hc=>?_)
              · have h:=cond_tt hc h
                refine T_region [(2,{ take:=[0] })] [1,8,10,11,26,27,28,1000000,1000001] [.nilc 11 2 9 1,.keep [1,8,10,11,26,27,28,1000000,1000001]] [(1,.d (.sl 2 (a1.map cS_PrepressFact))),(8,oW5 v4),(10,.box [.d (.str ((a0.getD v5.toNat z_PrepressRule).f0)),dI (((a0.getD v5.toNat z_PrepressRule).f1).f0),.d (.sl 2 ((((a0.getD v5.toNat z_PrepressRule).f1).f1).map cS_PrepressTerm)),dI (((a0.getD v5.toNat z_PrepressRule).f1).f2),dI (((a0.getD v5.toNat z_PrepressRule).f1).f3),.d (.sl 5 ((((a0.getD v5.toNat z_PrepressRule).f1).f4).map rS_PrepressCond))]),(11,.box [.d (.str ((a0.getD v5.toNat z_PrepressRule).f0)),dB true,oW2 []]),(26,.d (.sl 6 (a0.map cS_PrepressRule))),(27,dI (a0.length:Int)),(28,dI v5),(1000000,.glo 0 ([gm0].flatMap (cI .i64))),(1000001,.glo 3 (glob_internal_strconv_uint64pow10.flatMap (cI .u64)))] [] 5 (by kernel_rfl) (trivial) ?_
                refine T_seqk ?_
                obtain ⟨y1,hy5,h⟩:=call_ok h
                refine T_reg [(2,{ res:=oW2 y1 }),(3,{ rw:=some (dI (y1.length:Int)) })] [1,8,11,26,27,28,55,56,57,1000000,1000001] [(55,oW2 y1),(56,dI (y1.length:Int)),(57,dI (0:Int))] [(2,ACall Tryz.prog 37 [.agg (cS_PrepressCond ((a0.getD v5.toNat z_PrepressRule).f1)),.d (.v (.slice none 0 0))] [] (oW2 y1) []),(0,True∧dI ((y1.map cS).length:Int)=dI (y1.length:Int))] 1 (by kernel_rfl) (⟨(ACall.nilArgOwn 1 (prepress_names_ok hy5) rfl rfl (by decide) rfl),len_ok cS⟩) ?_
                refine T_joinct h (fun (p:(List (List UInt8)))=>[(1,.d (.sl 2 (a1.map cS_PrepressFact))),(8,oW5 v4),(11,.box [.d (.str ((a0.getD v5.toNat z_PrepressRule).f0)),dB true,oW2 p]),(26,.d (.sl 6 (a0.map cS_PrepressRule))),(27,dI (a0.length:Int)),(28,dI v5),(1000000,.glo 0 ([gm0].flatMap (cI .i64))),(1000001,.glo 3 (glob_internal_strconv_uint64pow10.flatMap (cI .u64)))]) (fun s h=>?_) (fun v6 h=>?_)
                · refine T_co [.keep [1,8,11,26,27,28,55,56,57,1000000,1000001]] ((fun (p:(List (List UInt8))×Int)=>[(1,.d (.sl 2 (a1.map cS_PrepressFact))),(8,oW5 v4),(11,.box [.d (.str ((a0.getD v5.toNat z_PrepressRule).f0)),dB true,oW2 p.1]),(26,.d (.sl 6 (a0.map cS_PrepressRule))),(27,dI (a0.length:Int)),(28,dI v5),(55,oW2 y1),(56,dI (y1.length:Int)),(57,dI p.2),(1000000,.glo 0 ([gm0].flatMap (cI .i64))),(1000001,.glo 3 (glob_internal_strconv_uint64pow10.flatMap (cI .u64)))]) ([],(0:Int))) (by show _=_; kernel_rfl) ?_
                  refine T_block ?_
                  refine T_loopF (ι:=(List (List UInt8))×Int) (fun (p:(List (List UInt8))×Int)=>[(1,.d (.sl 2 (a1.map cS_PrepressFact))),(8,oW5 v4),(11,.box [.d (.str ((a0.getD v5.toNat z_PrepressRule).f0)),dB true,oW2 p.1]),(26,.d (.sl 6 (a0.map cS_PrepressRule))),(27,dI (a0.length:Int)),(28,dI v5),(55,oW2 y1),(56,dI (y1.length:Int)),(57,dI p.2),(1000000,.glo 0 ([gm0].flatMap (cI .i64))),(1000001,.glo 3 (glob_internal_strconv_uint64pow10.flatMap (cI .u64)))]) (fun n p=>prepress_Judge_L3 F a1 y1 n p.1 p.2=some s) (fun i hh=>by simp [prepress_Judge_L3] at hh) (fun n p h=>?_) F ([],(0:Int)) h
                  obtain ⟨v1,v2⟩:=p
                  have h:prepress_Judge_L3 F a1 y1 (n+1) v1 v2=some s:=h
                  rw [prepress_Judge_L3] at h
                  refine T_reg [] [1,8,11,26,27,28,55,56,57,58,1000000,1000001] [(58,dB (decide (v2 < (y1.length:Int))))] [] 1 (by kernel_rfl) (trivial) ?_
                  refine T_seqk ?_
                  refine T_cond (decide (v2 < (y1.length:Int))) (by kernel_rfl) (fun hc=>?_) (fun hc=>?_)
                  · have h:=cond_tt hc h
                    refine T_skip fun a w hm=>then_norm (((?_:T Tryz.prog e 89 _ _ _) a w hm))
                    refine T_joinc h (fun (p:(List (List UInt8)))=>[(1,.d (.sl 2 (a1.map cS_PrepressFact))),(8,oW5 v4),(11,.box [.d (.str ((a0.getD v5.toNat z_PrepressRule).f0)),dB true,oW2 p]),(26,.d (.sl 6 (a0.map cS_PrepressRule))),(27,dI (a0.length:Int)),(28,dI v5),(55,oW2 y1),(56,dI (y1.length:Int)),(57,dI v2),(1000000,.glo 0 ([gm0].flatMap (cI .i64))),(1000001,.glo 3 (glob_internal_strconv_uint64pow10.flatMap (cI .u64)))]) (fun s h=>?_) (fun v3 h=>?_)
                    · refine T_block ?_
                      obtain ⟨hp3,h⟩:=chk_ok h
                      refine T_reg [(1,{ cs:=cS (y1.getD v2.toNat []) })] [1,8,11,13,26,27,28,55,56,57,1000000,1000001] [(13,.d (.str (y1.getD v2.toNat [])))] [(0,0≤v2∧v2 < (y1.map cS).length),(0,(y1.map cS)[v2.toNat]? = some (cS (y1.getD v2.toNat [])))] 1 (by kernel_rfl) (⟨own_idx cS hp3,(idx_ok (d:=[]) cS hp3).2⟩) ?_
                      obtain ⟨y2,hy6,h⟩:=call_ok h
                      refine T_reg [(2,{ res:=.tup [dI y2.1,dB y2.2] })] [1,8,11,13,15,26,27,28,55,56,57,1000000,1000001] [(15,dB y2.2)] [(2,ACall Tryz.prog 38 [.d (.sl 2 (a1.map cS_PrepressFact)),.d (.str (y1.getD v2.toNat []))] [] (.tup [dI y2.1,dB y2.2]) [])] 5 (by kernel_rfl) (prepress_known_value_ok hy6) ?_
                      refine T_reg [] [1,8,11,13,26,27,28,55,56,57,68,1000000,1000001] [(68,dB (!y2.2))] [] 2 (by kernel_rfl) (trivial) ?_
                      refine T_cond (!y2.2) (by kernel_rfl) (fun hc=>?_) (fun hc=>?_)
                      · have h:=cond_tt hc h
                        obtain ⟨hp4,h⟩:=chk_ok h
                        obtain hs:=Option.some.inj h; subst hs
                        refine T_reg_end [(3,{ es:=some (([(y1.getD v2.toNat [])]).map cS) }),(4,{ es:=some ((v1++([(y1.getD v2.toNat [])])).map cS) })] [1,8,11,26,27,28,55,56,57,1000000,1000001] [(11,.box [.d (.str ((a0.getD v5.toNat z_PrepressRule).f0)),dB true,.own 9 1 ((v1++([(y1.getD v2.toNat [])])).map cS)])] [(3,(([(y1.getD v2.toNat [])]).map cS)=(([(y1.getD v2.toNat [])]).map cS)),(0,(v1.map cS).length+(([(y1.getD v2.toNat [])]).map cS).length≤4294967296∧(v1.map cS)++(([(y1.getD v2.toNat [])]).map cS)=((v1++([(y1.getD v2.toNat [])])).map cS))] 2 (by kernel_rfl) (⟨rfl,app_ok cS hp4⟩) fun a w hm=>inBlock_norm (then_norm (hm.co (cs:=[.keep [1,8,11,26,27,28,55,56,57,1000000,1000001]]) (by show _=_; kernel_rfl)))
                      · have h:=cond_ff hc h
                        obtain hs:=Option.some.inj h; subst hs
                        refine T_skip fun a w hm=>inBlock_norm (then_norm (hm.co (cs:=[.keep [1,8,11,26,27,28,55,56,57,1000000,1000001]]) (by show _=_; kernel_rfl)))
                    · skip
                      refine T_reg_end [] [1,8,11,26,27,28,55,56,57,1000000,1000001] [(57,dI (IntKind.i64.wrap (v2+(1:Int))))] [] 2 (by kernel_rfl) (trivial) fun a w hm=>then_norm (⟨(v3,IntKind.i64.wrap (v2+(1:Int))),h,hm.co (cs:=[.keep [1,8,11,26,27,28,55,56,57,1000000,1000001]]) (by show _=_; kernel_rfl)⟩)
                  · have h:=cond_ff hc h
                    obtain hs:=Option.some.inj h; subst hs
                    refine T_exit fun a w hm=>then_exit (then_exit (inBlock_exit (then_norm (hm.co (cs:=[.keep [1,8,11,26,27,28,1000000,1000001]]) (by show _=_; kernel_rfl)))))
                · skip
                  refine fun a w hm=>then_norm (((?_:T Tryz.prog e 89 _ _ _) a w hm))
                  obtain ⟨hp5,h⟩:=chk_ok h
                  refine T_reg [(2,{ xs:=[11],vout:=[.box [.d (.str ((a0.getD v5.toNat z_PrepressRule).f0)),dB true,.own 9 1 ((sortS v6).map cS)]],res:=.tup [] })] [1,8,11,26,27,28,1000000,1000001] [(11,.box [.d (.str ((a0.getD v5.toNat z_PrepressRule).f0)),dB true,.own 9 1 ((sortS v6).map cS)])] [(2,ACall Tryz.prog 39 [.vw (1000000,3)] [.box [.d (.str ((a0.getD v5.toNat z_PrepressRule).f0)),dB true,oW2 v6]] (.tup []) [.box [.d (.str ((a0.getD v5.toNat z_PrepressRule).f0)),dB true,.own 9 1 ((sortS v6).map cS)]])] 0 (by kernel_rfl) (b_Sort_39 (κ:=9) hp5 (by kernel_rfl) (by kernel_rfl)) ?_
                  obtain ⟨hp6,h⟩:=chk_ok h
                  refine T_reg [(2,{ xs:=[11],vout:=[.box [.d (.str ((a0.getD v5.toNat z_PrepressRule).f0)),dB true,.junk]],res:=.own 9 1 ((Lib.compact (sortS v6)).map cS) })] [1,8,11,26,27,28,1000000,1000001] [(11,.box [.d (.str ((a0.getD v5.toNat z_PrepressRule).f0)),dB true,.own 9 1 ((Lib.compact (sortS v6)).map cS)])] [(2,ACall Tryz.prog 40 [.vw (1000000,3)] [.box [.d (.str ((a0.getD v5.toNat z_PrepressRule).f0)),dB true,.own 9 1 ((sortS v6).map cS)]] (.own 9 1 ((Lib.compact (sortS v6)).map cS)) [.box [.d (.str ((a0.getD v5.toNat z_PrepressRule).f0)),dB true,.junk]])] 2 (by kernel_rfl) (b_Compact_40 (κ:=9) hp6 (by kernel_rfl) (by kernel_rfl)) ?_
                  obtain ⟨hp7,h⟩:=chk_ok h
                  obtain ⟨l2,hl2,h⟩:=lett_ok h
                  obtain hs:=Option.some.inj h; subst hs
                  refine T_reg_end [(1,{ frz:=[(11,3)] }),(2,{ es:=some (([(S_PrepressFinding.mk ((a0.getD v5.toNat z_PrepressRule).f0) true (Lib.compact (sortS v6)))]).map cS_PrepressFinding) }),(3,{ es:=some (l2.map cS_PrepressFinding) })] [1,8,26,27,28,1000000,1000001] [(8,oW5 l2)] [(2,(([(S_PrepressFinding.mk ((a0.getD v5.toNat z_PrepressRule).f0) true (Lib.compact (sortS v6)))]).map cS_PrepressFinding)=(([(S_PrepressFinding.mk ((a0.getD v5.toNat z_PrepressRule).f0) true (Lib.compact (sortS v6)))]).map cS_PrepressFinding)),(0,(v4.map cS_PrepressFinding).length+(([(S_PrepressFinding.mk ((a0.getD v5.toNat z_PrepressRule).f0) true (Lib.compact (sortS v6)))]).map cS_PrepressFinding).length≤4294967296∧(v4.map cS_PrepressFinding)++(([(S_PrepressFinding.mk ((a0.getD v5.toNat z_PrepressRule).f0) true (Lib.compact (sortS v6)))]).map cS_PrepressFinding)=(l2.map cS_PrepressFinding))] 1 (by kernel_rfl) (⟨rfl,and_trans (app_ok cS_PrepressFinding hp7) (by subst hl2; rfl)⟩) fun a w hm=>inBlock_norm (inBlock_norm (then_norm (hm.co (cs:=[.keep [1,8,26,27,28,1000000,1000001]]) (by show _=_; kernel_rfl))))
              · have h:=cond_ff hc h
                obtain hs:=Option.some.inj h; subst hs
                refine T_skip fun a w hm=>inBlock_norm (inBlock_norm (then_norm (hm.co (cs:=[.keep [1,8,26,27,28,1000000,1000001]]) (by show _=_; kernel_rfl))))
          · skip
            refine T_reg_end [] [1,8,26,27,28,1000000,1000001] [(28,dI (IntKind.i64.wrap (v5+(1:Int))))] [] 2 (by kernel_rfl) (trivial) fun a w hm=>then_norm (⟨(v7,IntKind.i64.wrap (v5+(1:Int))),h,hm.co (cs:=[.keep [1,8,26,27,28,1000000,1000001]]) (by show _=_; kernel_rfl)⟩)
        · have h:=cond_ff hc h
          obtain hs:=Option.some.inj h; subst hs
          refine T_exit fun a w hm=>then_exit (then_exit (inBlock_exit (then_norm (hm.co (cs:=[.keep [8,1000000,1000001]]) (by show _=_; kernel_rfl)))))
      · skip
        refine fun a w hm=>then_norm (((?_:T Tryz.prog e 89 _ _ _) a w hm))
        refine T_reg [] [4,5,8,1000000,1000001] [(4,.vw (8,0)),(5,dI (0:Int))] [] 3 (by kernel_rfl) (trivial) ?_
        obtain hs:=Option.some.inj h; subst hs
        refine T_ret fun a w hm=>T_return (fr':=[(4,oW5 v8),(5,dI (0:Int)),(1000000,.glo 0 ([gm0].flatMap (cI .i64))),(1000001,.glo 3 (glob_internal_strconv_uint64pow10.flatMap (cI .u64)))]) [4,5] (by kernel_rfl) [.claim 4,.keep [4,5,1000000,1000001]] (by kernel_rfl) (by kernel_rfl) (by kernel_rfl) (by show _=_; kernel_rfl) (by exact ⟨⟨by kernel_rfl,by kernel_rfl⟩,⟨⟨by kernel_rfl,by kernel_rfl⟩,trivial⟩⟩) a w hm
theorem slices_Equal_string_ok {F:Nat} {a0:List (List UInt8)} {a1:List (List UInt8)} {r:Bool} (h:slices_Equal_string F a0 a1=some r):ACall Tryz.prog 23 [.d (.sl 1 (a0.map cS)),.d (.sl 1 (a1.map cS))] [] (.d (.v (.bool r))) []:=by
  rw [slices_Equal_string] at h
  refine ACall.intro (N:=26) Tryz.func23 rfl rfl rfl rfl rfl fun e=>?_
  refine T_reg [] [0,1] [] [] 1 (by kernel_rfl) (trivial) ?_
  refine T_seqk ?_
  refine T_reg [(1,{ rw:=some (dI (a0.length:Int)) }),(3,{ rw:=some (dI (a1.length:Int)) })] [0,1,10] [(10,dB ((a0.length:Int) != (a1.length:Int)))] [(1,True∧dI ((a0.map cS).length:Int)=dI (a0.length:Int)),(1,True∧dI ((a1.map cS).length:Int)=dI (a1.length:Int))] 1 (by kernel_rfl) (⟨len_ok cS,len_ok cS⟩) ?_
  refine T_cond ((a0.length:Int) != (a1.length:Int)) (by kernel_rfl) (fun hc=>?_) (fun hc=>?_)
  · have h:=cond_tt hc h
    refine T_reg [] [4] [(4,dB false)] [] 1 (by kernel_rfl) (trivial) ?_
    obtain hs:=Option.some.inj h; subst hs
    refine T_ret fun a w hm=>then_ret (T_return (fr':=[(4,dB false)]) [4] (by kernel_rfl) [.keep [4]] (by kernel_rfl) (by kernel_rfl) (by kernel_rfl) (by show _=_; kernel_rfl) (by exact trivial) a w hm)
  · have h:=cond_ff hc h
    refine T_skip fun a w hm=>then_norm (((?_:T Tryz.prog e 26 _ _ _) a w hm))
    refine T_seqk ?_
    refine T_reg [(1,{ rw:=some (dI (a0.length:Int)) })] [0,1,12,13] [(12,dI (a0.length:Int)),(13,dI (0:Int))] [(1,True∧dI ((a0.map cS).length:Int)=dI (a0.length:Int))] 1 (by kernel_rfl) (len_ok cS) ?_
    refine T_joinEt h (fun (p:Unit)=>[]) (fun s h hk1=>?_) (fun s h=>?_)
    · refine T_co [.keep [0,1,12,13]] ((fun (p:Int)=>[(0,.d (.sl 1 (a0.map cS))),(1,.d (.sl 1 (a1.map cS))),(12,dI (a0.length:Int)),(13,dI p)]) (0:Int)) (by show _=_; kernel_rfl) ?_
      refine T_block ?_
      refine T_loopF (ι:=Int) (fun (p:Int)=>[(0,.d (.sl 1 (a0.map cS))),(1,.d (.sl 1 (a1.map cS))),(12,dI (a0.length:Int)),(13,dI p)]) (fun n p=>slices_Equal_string_L0 F a0 a1 n p=some s) (fun i hh=>by simp [slices_Equal_string_L0] at hh) (fun n v1 h=>?_) F (0:Int) h
      have h:slices_Equal_string_L0 F a0 a1 (n+1) v1=some s:=h
      rw [slices_Equal_string_L0] at h
      refine T_reg [] [0,1,12,13,14] [(14,dB (decide (v1 < (a0.length:Int))))] [] 1 (by kernel_rfl) (trivial) ?_
      refine T_seqk ?_
      refine T_cond (decide (v1 < (a0.length:Int))) (by kernel_rfl) (fun hc=>?_) (fun hc=>?_)
      · have h:=cond_tt hc h
        refine T_skip fun a w hm=>then_norm (((?_:T Tryz.prog e 26 _ _ _) a w hm))
        refine T_seqk ?_
        refine T_block ?_
        refine T_reg [] [0,1,5,12,13] [(5,dI v1)] [] 2 (by kernel_rfl) (trivial) ?_
        obtain ⟨hp1,h⟩:=chk_ok h
        obtain ⟨hp2,h⟩:=chk_ok h
        refine T_draw mixed [(2,{ cs:=cS (a0.getD v1.toNat []) }),(6,{ cs:=cS (a1.getD v1.toNat []) })] [0,1,12,13,24] [] [(0,.d (.sl 1 (a0.map cS))),(1,.d (.sl 1 (a1.map cS))),(12,dI (a0.length:Int)),(13,dI v1),(24,dB (!((a0.getD v1.toNat []) == (a1.getD v1.toNat []))))] [(2,0≤v1∧(a0.map cS)[v1.toNat]? = some (cS (a0.getD v1.toNat []))),(3,0≤v1∧(a1.map cS)[v1.toNat]? = some (cS (a1.getD v1.toNat [])))] 2 (by kernel_rfl) (⟨idx_ok (d:=[]) cS hp1,idx_ok (d:=[]) cS hp2⟩) ?_
        refine T_cond (!((a0.getD v1.toNat []) == (a1.getD v1.toNat []))) (by kernel_rfl) (fun hc=>?_) (fun hc=>?_)
        · have h:=cond_tt hc h
          refine T_reg [] [4] [(4,dB false)] [] 1 (by kernel_rfl) (trivial) ?_
          obtain hs:=Option.some.inj h; subst hs
          have h:=callE_esc hk1
          obtain hs:=Option.some.inj h; subst hs
          refine T_ret fun a w hm=>inBlock_ret (then_ret (then_ret (inBlock_ret (then_ret (then_ret (T_return (fr':=[(4,dB false)]) [4] (by kernel_rfl) [.keep [4]] (by kernel_rfl) (by kernel_rfl) (by kernel_rfl) (by show _=_; kernel_rfl) (by exact trivial) a w hm))))))
        · have h:=cond_ff hc h
          refine T_skip fun a w hm=>inBlock_norm (then_norm (((?_:T Tryz.prog e 26 _ _ _) a w hm)))
          refine T_reg_end [] [0,1,12,13] [(13,dI (IntKind.i64.wrap (v1+(1:Int))))] [] 2 (by kernel_rfl) (trivial) fun a w hm=>then_norm (⟨IntKind.i64.wrap (v1+(1:Int)),h,hm.co (cs:=[.keep [0,1,12,13]]) (by show _=_; kernel_rfl)⟩)
      · have h:=cond_ff hc h
        obtain hs:=Option.some.inj h; subst hs
        refine T_exit fun a w hm=>then_exit (then_exit (inBlock_exit (then_norm (⟨_,rfl,hm.co (cs:=[.keep []]) (by show _=_; kernel_rfl)⟩))))
    · skip
      refine fun a w hm=>then_norm (((?_:T Tryz.prog e 26 _ _ _) a w hm))
      refine T_reg [] [4] [(4,dB true)] [] 1 (by kernel_rfl) (trivial) ?_
      obtain hs:=Option.some.inj h; subst hs
      refine T_ret fun a w hm=>T_return (fr':=[(4,dB true)]) [4] (by kernel_rfl) [.keep [4]] (by kernel_rfl) (by kernel_rfl) (by kernel_rfl) (by show _=_; kernel_rfl) (by exact trivial) a w hm
theorem law3_ruleFact_ok {F:Nat}  {r:Bool} (h:law3_ruleFact F  = some r):ACall Tryz.prog 6 [] [.glo 0 ([gm0].flatMap (cI .i64)),.glo 3 (glob_internal_strconv_uint64pow10.flatMap (cI .u64))] (.d (.v (.bool r))) [.glo 0 ([gm0].flatMap (cI .i64)),.glo 3 (glob_internal_strconv_uint64pow10.flatMap (cI .u64))]:=by
  rw [law3_ruleFact] at h
  refine ACall.intro (N:=41) Tryz.func6 rfl rfl rfl rfl rfl fun e=>?_
  refine T_reg [] [1000000,1000001] [] [] 1 (by kernel_rfl) (trivial) ?_
  obtain ⟨y1,hy1,h⟩:=call_ok h
  obtain ⟨y2,hy2,h⟩:=call_ok h
  refine T_reg [(0,{ res:=.agg (cS_PrepressRule y1) }),(1,{ es:=some (([y1]).map cS_PrepressRule) }),(4,{ es:=some (([(S_PrepressFact.mk ([105,110,107,115]:List UInt8) (4:Int)),(S_PrepressFact.mk ([116,111,116,97,108]:List UInt8) (320:Int))]).map cS_PrepressFact) }),(5,{ frz:=[(5,0),(8,0)],res:=.tup [oW5 y2.1,dI y2.2],vout:=[.glo 0 ([gm0].flatMap (cI .i64)),.glo 3 (glob_internal_strconv_uint64pow10.flatMap (cI .u64))],xs:=[1000000,1000001] })] [1,2,1000000,1000001] [(1,oW5 y2.1),(2,dI y2.2)] [(0,ACall Tryz.prog 22 [.d (.str ([116,111,116,97,108]:List UInt8)),dI (1:Int),dI (300:Int)] [] (.agg (cS_PrepressRule y1)) []),(0,(([y1]).map cS_PrepressRule)=(([y1]).map cS_PrepressRule)),(2,(([(S_PrepressFact.mk ([105,110,107,115]:List UInt8) (4:Int)),(S_PrepressFact.mk ([116,111,116,97,108]:List UInt8) (320:Int))]).map cS_PrepressFact)=(([(S_PrepressFact.mk ([105,110,107,115]:List UInt8) (4:Int)),(S_PrepressFact.mk ([116,111,116,97,108]:List UInt8) (320:Int))]).map cS_PrepressFact)),(0,ACall Tryz.prog 14 [.d (.sl 6 (([y1]).map cS_PrepressRule)),.d (.sl 2 (([(S_PrepressFact.mk ([105,110,107,115]:List UInt8) (4:Int)),(S_PrepressFact.mk ([116,111,116,97,108]:List UInt8) (320:Int))]).map cS_PrepressFact))] [.glo 0 ([gm0].flatMap (cI .i64)),.glo 3 (glob_internal_strconv_uint64pow10.flatMap (cI .u64))] (.tup [oW5 y2.1,dI y2.2]) [.glo 0 ([gm0].flatMap (cI .i64)),.glo 3 (glob_internal_strconv_uint64pow10.flatMap (cI .u64))])] 5 (by kernel_rfl) (⟨law3_rule_ok hy1,rfl,rfl,prepress_Judge_ok hy2⟩) ?_
  obtain ⟨hp1,h⟩:=chk_ok h
  obtain ⟨z1,hz1,h⟩:=lett_ok h
  obtain ⟨hp2,h⟩:=chk_ok h
  obtain ⟨hp3,h⟩:=chk_ok h
  obtain ⟨y3,hy3,h⟩:=call_ok h
  obtain ⟨z2,hz2,h⟩:=lett_ok h
  refine T_reg [(4,{ rw:=some (dI (y2.1.length:Int)) }),(11,{ cs:=cS_PrepressFinding (y2.1.getD (0:Int).toNat z_PrepressFinding) }),(13,{ rw:=some (dB z1) }),(18,{ cs:=cS_PrepressFinding (y2.1.getD (0:Int).toNat z_PrepressFinding) }),(25,{ cs:=cS_PrepressFinding (y2.1.getD (0:Int).toNat z_PrepressFinding) }),(26,{ es:=some (([([116,111,116,97,108]:List UInt8)]).map cS) }),(27,{ res:=dB y3 }),(28,{ rw:=some (dB z2) })] [0,1000000,1000001] [(0,dB z2)] [(3,((((y2.2 == (0:Int)) == true) && true)=true→True)),(0,((((y2.2 == (0:Int)) == true) && true)=true→True∧dI ((y2.1.map cS_PrepressFinding).length:Int)=dI (y2.1.length:Int))),(0,((((y2.2 == (0:Int)) == true) && true)=true→True)),(2,((((bif (y2.2 == (0:Int)) then ((y2.1.length:Int) == (1:Int)) else false) == true) && true)=true→True)),(0,((((bif (y2.2 == (0:Int)) then ((y2.1.length:Int) == (1:Int)) else false) == true) && true)=true→0≤(0:Int)∧(0:Int) < (y2.1.map cS_PrepressFinding).length)),(0,((((bif (y2.2 == (0:Int)) then ((y2.1.length:Int) == (1:Int)) else false) == true) && true)=true→True)),(0,((((bif (y2.2 == (0:Int)) then ((y2.1.length:Int) == (1:Int)) else false) == true) && true)=true→(y2.1.map cS_PrepressFinding)[(0:Int).toNat]? = some (cS_PrepressFinding (y2.1.getD (0:Int).toNat z_PrepressFinding)))),(0,((((bif (y2.2 == (0:Int)) then ((y2.1.length:Int) == (1:Int)) else false) == true) && true)=true→True)),(0,(True)∧dB (bif (bif (y2.2 == (0:Int)) then ((y2.1.length:Int) == (1:Int)) else false) then (((y2.1.getD (0:Int).toNat z_PrepressFinding).f0) == ([97]:List UInt8)) else false)=dB z1),(1,(((z1 == true) && true)=true→True)),(0,(((z1 == true) && true)=true→0≤(0:Int)∧(0:Int) < (y2.1.map cS_PrepressFinding).length)),(0,(((z1 == true) && true)=true→True)),(0,(((z1 == true) && true)=true→(y2.1.map cS_PrepressFinding)[(0:Int).toNat]? = some (cS_PrepressFinding (y2.1.getD (0:Int).toNat z_PrepressFinding)))),(0,(((z1 == true) && true)=true→True)),(2,((((bif z1 then (!((y2.1.getD (0:Int).toNat z_PrepressFinding).f1)) else false) == true) && true)=true→True)),(0,((((bif z1 then (!((y2.1.getD (0:Int).toNat z_PrepressFinding).f1)) else false) == true) && true)=true→0≤(0:Int)∧(0:Int) < (y2.1.map cS_PrepressFinding).length)),(0,((((bif z1 then (!((y2.1.getD (0:Int).toNat z_PrepressFinding).f1)) else false) == true) && true)=true→True)),(0,((((bif z1 then (!((y2.1.getD (0:Int).toNat z_PrepressFinding).f1)) else false) == true) && true)=true→(y2.1.map cS_PrepressFinding)[(0:Int).toNat]? = some (cS_PrepressFinding (y2.1.getD (0:Int).toNat z_PrepressFinding)))),(0,((((bif z1 then (!((y2.1.getD (0:Int).toNat z_PrepressFinding).f1)) else false) == true) && true)=true→(([([116,111,116,97,108]:List UInt8)]).map cS)=(([([116,111,116,97,108]:List UInt8)]).map cS))),(0,((((bif z1 then (!((y2.1.getD (0:Int).toNat z_PrepressFinding).f1)) else false) == true) && true)=true→ACall Tryz.prog 23 [.d (.sl 1 (((y2.1.getD (0:Int).toNat z_PrepressFinding).f2).map cS)),.d (.sl 1 (([([116,111,116,97,108]:List UInt8)]).map cS))] [] (dB y3) [])),(0,(True)∧dB (bif (bif z1 then (!((y2.1.getD (0:Int).toNat z_PrepressFinding).f1)) else false) then y3 else false)=dB z2)] 1 (by kernel_rfl) (⟨(fun hg=>trivial),(fun hg=>len_ok cS_PrepressFinding),(fun hg=>trivial),(fun hg=>trivial),(fun hg=>own_idx cS_PrepressFinding (hp1 hg)),(fun hg=>trivial),(fun hg=>(idx_ok (d:=z_PrepressFinding) cS_PrepressFinding (hp1 hg)).2),(fun hg=>trivial),⟨trivial,(by subst hz1; rfl)⟩,(fun hg=>trivial),(fun hg=>own_idx cS_PrepressFinding (hp2 hg)),(fun hg=>trivial),(fun hg=>(idx_ok (d:=z_PrepressFinding) cS_PrepressFinding (hp2 hg)).2),(fun hg=>trivial),(fun hg=>trivial),(fun hg=>own_idx cS_PrepressFinding (hp3 hg)),(fun hg=>trivial),(fun hg=>(idx_ok (d:=z_PrepressFinding) cS_PrepressFinding (hp3 hg)).2),(fun hg=>rfl),(fun hg=>slices_Equal_string_ok (gcall_ok hg hy3)),⟨trivial,(by subst hz2; rfl)⟩⟩) ?_
  obtain hs:=Option.some.inj h; subst hs
  refine T_ret fun a w hm=>T_return (fr':=[(0,dB z2),(1000000,.glo 0 ([gm0].flatMap (cI .i64))),(1000001,.glo 3 (glob_internal_strconv_uint64pow10.flatMap (cI .u64)))]) [0] (by kernel_rfl) [.keep [0,1000000,1000001]] (by kernel_rfl) (by kernel_rfl) (by kernel_rfl) (by show _=_; kernel_rfl) (by exact ⟨⟨by kernel_rfl,by kernel_rfl⟩,⟨⟨by kernel_rfl,by kernel_rfl⟩,trivial⟩⟩) a w hm
theorem ref3_digit_ok {F:Nat} {a0:Int} {r:Bool} (h:ref3_digit F a0=some r):ACall Tryz.prog 79 [.d (.v (.int .u8 a0))] [] (.d (.v (.bool r))) []:=by
  rw [ref3_digit] at h
  refine ACall.intro (N:=9) Tryz.func79 rfl rfl rfl rfl rfl fun e=>?_
  refine T_reg [] [0] [] [] 1 (by kernel_rfl) (trivial) ?_
  refine T_reg [] [2] [(2,dB (bif (decide (a0 ≥ (48:Int))) then (decide (a0≤(57:Int))) else false))] [(3,((((decide (a0 ≥ (48:Int))) == true) && true)=true→True)),(0,((((decide (a0 ≥ (48:Int))) == true) && true)=true→True))] 2 (by kernel_rfl) (⟨(fun hg=>trivial),(fun hg=>trivial)⟩) ?_
  obtain hs:=Option.some.inj h; subst hs
  refine T_ret fun a w hm=>T_return (fr':=[(2,dB (bif (decide (a0 ≥ (48:Int))) then (decide (a0≤(57:Int))) else false))]) [2] (by kernel_rfl) [.keep [2]] (by kernel_rfl) (by kernel_rfl) (by kernel_rfl) (by show _=_; kernel_rfl) (by exact trivial) a w hm
theorem ref3_IsName_ok {F:Nat} {a0:List UInt8} {r:Bool} (h:ref3_IsName F a0=some r):ACall Tryz.prog 49 [.d (.str a0)] [] (.d (.v (.bool r))) []:=by
  rw [ref3_IsName] at h
  refine ACall.intro (N:=51) Tryz.func49 rfl rfl rfl rfl rfl fun e=>?_
  refine T_reg [] [0] [] [] 1 (by kernel_rfl) (trivial) ?_
  refine T_seqk ?_
  obtain ⟨hp1,h⟩:=chk_ok h
  obtain ⟨z3,hz1,h⟩:=lett_ok h
  obtain ⟨hp2,h⟩:=chk_ok h
  refine T_reg [(11,{ rw:=some (dB z3) })] [0,20] [(20,dB (bif z3 then true else (decide (((a0.getD (0:Int).toNat 0).toNat:Int) > (122:Int)))))] [(3,((((a0 == []) == false) && true)=true→True)),(0,((((a0 == []) == false) && true)=true→True)),(0,((((a0 == []) == false) && true)=true→True)),(2,((((bif (a0 == []) then true else (decide ((a0.length:Int) > (16:Int)))) == false) && true)=true→True)),(0,((((bif (a0 == []) then true else (decide ((a0.length:Int) > (16:Int)))) == false) && true)=true→0≤(0:Int)∧(0:Int) < a0.length)),(0,((((bif (a0 == []) then true else (decide ((a0.length:Int) > (16:Int)))) == false) && true)=true→True)),(0,(True)∧dB (bif (bif (a0 == []) then true else (decide ((a0.length:Int) > (16:Int)))) then true else (decide (((a0.getD (0:Int).toNat 0).toNat:Int) < (97:Int))))=dB z3),(1,(((z3 == false) && true)=true→True)),(0,(((z3 == false) && true)=true→0≤(0:Int)∧(0:Int) < a0.length)),(0,(((z3 == false) && true)=true→True))] 1 (by kernel_rfl) (⟨(fun hg=>trivial),(fun hg=>trivial),(fun hg=>trivial),(fun hg=>trivial),(fun hg=>(hp1 hg)),(fun hg=>trivial),⟨trivial,(by subst hz1; rfl)⟩,(fun hg=>trivial),(fun hg=>(hp2 hg)),(fun hg=>trivial)⟩) ?_
  refine T_cond (bif z3 then true else (decide (((a0.getD (0:Int).toNat 0).toNat:Int) > (122:Int)))) (by kernel_rfl) (fun hc=>?_) (fun hc=>?_)
  · have h:=cond_tt hc h
    refine T_reg [] [2] [(2,dB false)] [] 1 (by kernel_rfl) (trivial) ?_
    obtain hs:=Option.some.inj h; subst hs
    refine T_ret fun a w hm=>then_ret (T_return (fr':=[(2,dB false)]) [2] (by kernel_rfl) [.keep [2]] (by kernel_rfl) (by kernel_rfl) (by kernel_rfl) (by show _=_; kernel_rfl) (by exact trivial) a w hm)
  · have h:=cond_ff hc h
    refine T_skip fun a w hm=>then_norm (((?_:T Tryz.prog e 51 _ _ _) a w hm))
    refine T_seqk ?_
    refine T_reg [] [0,22,23] [(22,dI (a0.length:Int)),(23,dI (0:Int))] [] 3 (by kernel_rfl) (trivial) ?_
    refine T_joinEt h (fun (p:Unit)=>[]) (fun s h hk1=>?_) (fun s h=>?_)
    · refine T_co [.keep [0,22,23]] ((fun (p:Int)=>[(0,.d (.str a0)),(22,dI (a0.length:Int)),(23,dI p)]) (0:Int)) (by show _=_; kernel_rfl) ?_
      refine T_block ?_
      refine T_loopF (ι:=Int) (fun (p:Int)=>[(0,.d (.str a0)),(22,dI (a0.length:Int)),(23,dI p)]) (fun n p=>ref3_IsName_L0 F a0 n p=some s) (fun i hh=>by simp [ref3_IsName_L0] at hh) (fun n v1 h=>?_) F (0:Int) h
      have h:ref3_IsName_L0 F a0 (n+1) v1=some s:=h
      rw [ref3_IsName_L0] at h
      refine T_reg [] [0,22,23,24] [(24,dB (decide (v1 < (a0.length:Int))))] [] 1 (by kernel_rfl) (trivial) ?_
      refine T_seqk ?_
      refine T_cond (decide (v1 < (a0.length:Int))) (by kernel_rfl) (fun hc=>?_) (fun hc=>?_)
      · have h:=cond_tt hc h
        refine T_skip fun a w hm=>then_norm (((?_:T Tryz.prog e 51 _ _ _) a w hm))
        refine T_seqk ?_
        refine T_block ?_
        refine T_reg [] [0,3,22,23] [(3,dI v1)] [] 2 (by kernel_rfl) (trivial) ?_
        obtain ⟨hp3,h⟩:=chk_ok h
        obtain ⟨hp4,h⟩:=chk_ok h
        obtain ⟨z1,hz2,h⟩:=lett_ok h
        obtain ⟨hp5,h⟩:=chk_ok h
        obtain ⟨y1,hy1,h⟩:=call_ok h
        obtain ⟨hp6,h⟩:=chk_ok h
        obtain ⟨z2,hz3,h⟩:=lett_ok h
        refine T_reg [(9,{ rw:=some (dB z1) }),(15,{ res:=dB y1 }),(23,{ rw:=some (dB z2) })] [0,22,23,49] [(49,dB z2)] [(2,0≤v1∧v1 < a0.length),(2,((((decide (((a0.getD v1.toNat 0).toNat:Int) ≥ (97:Int))) == true) && true)=true→True)),(0,((((decide (((a0.getD v1.toNat 0).toNat:Int) ≥ (97:Int))) == true) && true)=true→True)),(0,((((decide (((a0.getD v1.toNat 0).toNat:Int) ≥ (97:Int))) == true) && true)=true→0≤v1∧v1 < a0.length)),(0,((((decide (((a0.getD v1.toNat 0).toNat:Int) ≥ (97:Int))) == true) && true)=true→True)),(0,(True)∧dB (bif (decide (((a0.getD v1.toNat 0).toNat:Int) ≥ (97:Int))) then (decide (((a0.getD v1.toNat 0).toNat:Int)≤(122:Int))) else false)=dB z1),(2,((((!z1) == true) && true)=true→True)),(0,((((!z1) == true) && true)=true→True)),(0,((((!z1) == true) && true)=true→0≤v1∧v1 < a0.length)),(0,((((!z1) == true) && true)=true→ACall Tryz.prog 79 [.d (.v (.int .u8 ((a0.getD v1.toNat 0).toNat:Int)))] [] (dB y1) [])),(0,((((!z1) == true) && true)=true→True)),(2,((((bif (!z1) then (!y1) else false) == true) && true)=true→True)),(0,((((bif (!z1) then (!y1) else false) == true) && true)=true→True)),(0,((((bif (!z1) then (!y1) else false) == true) && true)=true→0≤v1∧v1 < a0.length)),(0,((((bif (!z1) then (!y1) else false) == true) && true)=true→True)),(0,(True)∧dB (bif (bif (!z1) then (!y1) else false) then (((a0.getD v1.toNat 0).toNat:Int) != (45:Int)) else false)=dB z2)] 0 (by kernel_rfl) (⟨hp3,(fun hg=>trivial),(fun hg=>trivial),(fun hg=>(hp4 hg)),(fun hg=>trivial),⟨trivial,(by subst hz2; rfl)⟩,(fun hg=>trivial),(fun hg=>trivial),(fun hg=>(hp5 hg)),(fun hg=>ref3_digit_ok (gcall_ok hg hy1)),(fun hg=>trivial),(fun hg=>trivial),(fun hg=>trivial),(fun hg=>(hp6 hg)),(fun hg=>trivial),⟨trivial,(by subst hz3; rfl)⟩⟩) ?_
        refine T_cond z2 (by kernel_rfl) (fun hc=>?_) (fun hc=>?_)
        · have h:=cond_tt hc h
          refine T_reg [] [2] [(2,dB false)] [] 1 (by kernel_rfl) (trivial) ?_
          obtain hs:=Option.some.inj h; subst hs
          have h:=callE_esc hk1
          obtain hs:=Option.some.inj h; subst hs
          refine T_ret fun a w hm=>inBlock_ret (then_ret (then_ret (inBlock_ret (then_ret (then_ret (T_return (fr':=[(2,dB false)]) [2] (by kernel_rfl) [.keep [2]] (by kernel_rfl) (by kernel_rfl) (by kernel_rfl) (by show _=_; kernel_rfl) (by exact trivial) a w hm))))))
        · have h:=cond_ff hc h
          refine T_skip fun a w hm=>inBlock_norm (then_norm (((?_:T Tryz.prog e 51 _ _ _) a w hm)))
          refine T_reg_end [] [0,22,23] [(23,dI (IntKind.i64.wrap (v1+(1:Int))))] [] 2 (by kernel_rfl) (trivial) fun a w hm=>then_norm (⟨IntKind.i64.wrap (v1+(1:Int)),h,hm.co (cs:=[.keep [0,22,23]]) (by show _=_; kernel_rfl)⟩)
      · have h:=cond_ff hc h
        obtain hs:=Option.some.inj h; subst hs
        refine T_exit fun a w hm=>then_exit (then_exit (inBlock_exit (then_norm (⟨_,rfl,hm.co (cs:=[.keep []]) (by show _=_; kernel_rfl)⟩))))
    · skip
      refine fun a w hm=>then_norm (((?_:T Tryz.prog e 51 _ _ _) a w hm))
      refine T_reg [] [2] [(2,dB true)] [] 1 (by kernel_rfl) (trivial) ?_
      obtain hs:=Option.some.inj h; subst hs
      refine T_ret fun a w hm=>T_return (fr':=[(2,dB true)]) [2] (by kernel_rfl) [.keep [2]] (by kernel_rfl) (by kernel_rfl) (by kernel_rfl) (by show _=_; kernel_rfl) (by exact trivial) a w hm
theorem ref3_ruleName_ok {F:Nat} {a0:List UInt8} {r:Bool} (h:ref3_ruleName F a0=some r):ACall Tryz.prog 25 [.d (.str a0)] [] (.d (.v (.bool r))) []:=by
  rw [ref3_ruleName] at h
  refine ACall.intro (N:=21) Tryz.func25 rfl rfl rfl rfl rfl fun e=>?_
  refine T_reg [] [0] [] [] 1 (by kernel_rfl) (trivial) ?_
  obtain ⟨y1,hy1,h⟩:=call_ok h
  obtain ⟨z1,hz1,h⟩:=lett_ok h
  obtain ⟨z2,hz2,h⟩:=lett_ok h
  refine T_reg [(1,{ res:=dB y1 }),(9,{ rw:=some (dB z1) }),(17,{ rw:=some (dB z2) })] [2] [(2,dB z2)] [(1,ACall Tryz.prog 49 [.d (.str a0)] [] (dB y1) []),(1,(((y1 == true) && true)=true→True)),(0,(((y1 == true) && true)=true→True)),(2,((((bif y1 then (!(a0 == ([114,117,108,101]:List UInt8))) else false) == true) && true)=true→True)),(0,((((bif y1 then (!(a0 == ([114,117,108,101]:List UInt8))) else false) == true) && true)=true→True)),(0,(True)∧dB (bif (bif y1 then (!(a0 == ([114,117,108,101]:List UInt8))) else false) then (!(a0 == ([110,111,116]:List UInt8))) else false)=dB z1),(1,(((z1 == true) && true)=true→True)),(0,(((z1 == true) && true)=true→True)),(2,((((bif z1 then (!(a0 == ([97,110,100]:List UInt8))) else false) == true) && true)=true→True)),(0,((((bif z1 then (!(a0 == ([97,110,100]:List UInt8))) else false) == true) && true)=true→True)),(0,(True)∧dB (bif (bif z1 then (!(a0 == ([97,110,100]:List UInt8))) else false) then (!(a0 == ([111,114]:List UInt8))) else false)=dB z2)] 1 (by kernel_rfl) (⟨ref3_IsName_ok hy1,(fun hg=>trivial),(fun hg=>trivial),(fun hg=>trivial),(fun hg=>trivial),⟨trivial,(by subst hz1; rfl)⟩,(fun hg=>trivial),(fun hg=>trivial),(fun hg=>trivial),(fun hg=>trivial),⟨trivial,(by subst hz2; rfl)⟩⟩) ?_
  obtain hs:=Option.some.inj h; subst hs
  refine T_ret fun a w hm=>T_return (fr':=[(2,dB z2)]) [2] (by kernel_rfl) [.keep [2]] (by kernel_rfl) (by kernel_rfl) (by kernel_rfl) (by show _=_; kernel_rfl) (by exact trivial) a w hm
theorem ref3_beyond_ok {F:Nat} {a0:Int} {a1:List Int} {r:Bool} (h:ref3_beyond F a0 a1=some r):ACall Tryz.prog 34 [.d (.v (.int .i64 a0)),.d (.sl 1 (a1.map (cI .i64)))] [] (.d (.v (.bool r))) []:=by
  rw [ref3_beyond] at h
  refine ACall.intro (N:=23) Tryz.func34 rfl rfl rfl rfl rfl fun e=>?_
  refine T_reg [] [0,1] [] [] 1 (by kernel_rfl) (trivial) ?_
  refine T_seqk ?_
  refine T_reg [(1,{ rw:=some (dI (a1.length:Int)) })] [0,7,8,9] [(7,.d (.sl 1 (a1.map (cI .i64)))),(8,dI (a1.length:Int)),(9,dI (0:Int))] [(1,True∧dI ((a1.map (cI .i64)).length:Int)=dI (a1.length:Int))] 1 (by kernel_rfl) (len_ok (cI .i64)) ?_
  refine T_joinEt h (fun (p:Unit)=>[]) (fun s h hk1=>?_) (fun s h=>?_)
  · refine T_co [.keep [0,7,8,9]] ((fun (p:Int)=>[(0,dI a0),(7,.d (.sl 1 (a1.map (cI .i64)))),(8,dI (a1.length:Int)),(9,dI p)]) (0:Int)) (by show _=_; kernel_rfl) ?_
    refine T_block ?_
    refine T_loopF (ι:=Int) (fun (p:Int)=>[(0,dI a0),(7,.d (.sl 1 (a1.map (cI .i64)))),(8,dI (a1.length:Int)),(9,dI p)]) (fun n p=>ref3_beyond_L0 F a0 a1 n p=some s) (fun i hh=>by simp [ref3_beyond_L0] at hh) (fun n v1 h=>?_) F (0:Int) h
    have h:ref3_beyond_L0 F a0 a1 (n+1) v1=some s:=h
    rw [ref3_beyond_L0] at h
    refine T_reg [] [0,7,8,9,10] [(10,dB (decide (v1 < (a1.length:Int))))] [] 1 (by kernel_rfl) (trivial) ?_
    refine T_seqk ?_
    refine T_cond (decide (v1 < (a1.length:Int))) (by kernel_rfl) (fun hc=>?_) (fun hc=>?_)
    · have h:=cond_tt hc h
      refine T_skip fun a w hm=>then_norm (((?_:T Tryz.prog e 23 _ _ _) a w hm))
      refine T_seqk ?_
      refine T_block ?_
      obtain ⟨hp1,h⟩:=chk_ok h
      refine T_reg [(0,{ cs:=(cI .i64) (a1.getD v1.toNat 0) })] [0,6,7,8,9] [(6,dI (a1.getD v1.toNat 0))] [(0,0≤v1∧(a1.map (cI .i64))[v1.toNat]? = some ((cI .i64) (a1.getD v1.toNat 0)))] 2 (by kernel_rfl) (idx_ok (d:=0) (cI .i64) hp1) ?_
      obtain ⟨z1,hz1,h⟩:=lett_ok h
      refine T_reg [(8,{ rw:=some (dB z1) })] [0,7,8,9,21] [(21,dB z1)] [(4,((((decide ((a1.getD v1.toNat 0) > a0)) == false) && true)=true→True)),(0,((((decide ((a1.getD v1.toNat 0) > a0)) == false) && true)=true→True)),(0,((((decide ((a1.getD v1.toNat 0) > a0)) == false) && true)=true→True)),(0,((((decide ((a1.getD v1.toNat 0) > a0)) == false) && true)=true→True)),(0,(True)∧dB (bif (decide ((a1.getD v1.toNat 0) > a0)) then true else (decide ((a1.getD v1.toNat 0) < (IntKind.i64.wrap (0 - a0)))))=dB z1)] 0 (by kernel_rfl) (⟨(fun hg=>trivial),(fun hg=>trivial),(fun hg=>trivial),(fun hg=>trivial),⟨trivial,(by subst hz1; rfl)⟩⟩) ?_
      refine T_cond z1 (by kernel_rfl) (fun hc=>?_) (fun hc=>?_)
      · have h:=cond_tt hc h
        refine T_reg [] [4] [(4,dB true)] [] 1 (by kernel_rfl) (trivial) ?_
        obtain hs:=Option.some.inj h; subst hs
        have h:=callE_esc hk1
        obtain hs:=Option.some.inj h; subst hs
        refine T_ret fun a w hm=>inBlock_ret (then_ret (then_ret (inBlock_ret (then_ret (then_ret (T_return (fr':=[(4,dB true)]) [4] (by kernel_rfl) [.keep [4]] (by kernel_rfl) (by kernel_rfl) (by kernel_rfl) (by show _=_; kernel_rfl) (by exact trivial) a w hm))))))
      · have h:=cond_ff hc h
        refine T_skip fun a w hm=>inBlock_norm (then_norm (((?_:T Tryz.prog e 23 _ _ _) a w hm)))
        refine T_reg_end [] [0,7,8,9] [(9,dI (IntKind.i64.wrap (v1+(1:Int))))] [] 2 (by kernel_rfl) (trivial) fun a w hm=>then_norm (⟨IntKind.i64.wrap (v1+(1:Int)),h,hm.co (cs:=[.keep [0,7,8,9]]) (by show _=_; kernel_rfl)⟩)
    · have h:=cond_ff hc h
      obtain hs:=Option.some.inj h; subst hs
      refine T_exit fun a w hm=>then_exit (then_exit (inBlock_exit (then_norm (⟨_,rfl,hm.co (cs:=[.keep []]) (by show _=_; kernel_rfl)⟩))))
  · skip
    refine fun a w hm=>then_norm (((?_:T Tryz.prog e 23 _ _ _) a w hm))
    refine T_reg [] [4] [(4,dB false)] [] 1 (by kernel_rfl) (trivial) ?_
    obtain hs:=Option.some.inj h; subst hs
    refine T_ret fun a w hm=>T_return (fr':=[(4,dB false)]) [4] (by kernel_rfl) [.keep [4]] (by kernel_rfl) (by kernel_rfl) (by kernel_rfl) (by show _=_; kernel_rfl) (by exact trivial) a w hm
theorem ref3_compareError_ok {F:Nat} {a0:S_PrepressCond} {r:Int} (h:ref3_compareError F a0=some r):ACall Tryz.prog 50 [.agg (cS_PrepressCond a0)] [] (.d (.v (.int .i64 r))) []:=by
  rw [ref3_compareError] at h
  refine ACall.intro (N:=73) Tryz.func50 rfl rfl rfl rfl rfl fun e=>?_
  refine T_reg [] [1] [(1,bx_PrepressCond a0)] [] 2 (by kernel_rfl) (trivial) ?_
  refine T_seqk ?_
  refine T_block ?_
  refine T_reg [(2,{ rw:=some (dI (a0.f4.length:Int)) })] [1,7] [(7,dB (decide ((a0.f4.length:Int) > (0:Int))))] [(2,True∧dI ((a0.f4.map rS_PrepressCond).length:Int)=dI (a0.f4.length:Int))] 2 (by kernel_rfl) (len_ok rS_PrepressCond) ?_
  refine T_cond (decide ((a0.f4.length:Int) > (0:Int))) (by kernel_rfl) (fun hc=>?_) (fun hc=>?_)
  · have h:=cond_tt hc h
    refine T_reg [] [2] [(2,dI (4:Int))] [] 1 (by kernel_rfl) (trivial) ?_
    obtain hs:=Option.some.inj h; subst hs
    refine T_ret fun a w hm=>inBlock_ret (then_ret (T_return (fr':=[(2,dI (4:Int))]) [2] (by kernel_rfl) [.keep [2]] (by kernel_rfl) (by kernel_rfl) (by kernel_rfl) (by show _=_; kernel_rfl) (by exact trivial) a w hm))
  · have h:=cond_ff hc h
    refine T_reg [(2,{ rw:=some (dI (a0.f1.length:Int)) })] [1,12] [(12,dB ((a0.f1.length:Int) == (0:Int)))] [(2,True∧dI ((a0.f1.map cS_PrepressTerm).length:Int)=dI (a0.f1.length:Int))] 2 (by kernel_rfl) (len_ok cS_PrepressTerm) ?_
    refine T_cond ((a0.f1.length:Int) == (0:Int)) (by kernel_rfl) (fun hc=>?_) (fun hc=>?_)
    · have h:=cond_tt hc h
      refine T_reg [] [2] [(2,dI (8:Int))] [] 1 (by kernel_rfl) (trivial) ?_
      obtain hs:=Option.some.inj h; subst hs
      refine T_ret fun a w hm=>inBlock_ret (then_ret (T_return (fr':=[(2,dI (8:Int))]) [2] (by kernel_rfl) [.keep [2]] (by kernel_rfl) (by kernel_rfl) (by kernel_rfl) (by show _=_; kernel_rfl) (by exact trivial) a w hm))
    · have h:=cond_ff hc h
      refine T_reg [(2,{ rw:=some (dI (a0.f1.length:Int)) })] [1,17] [(17,dB (decide ((a0.f1.length:Int) > (8:Int))))] [(2,True∧dI ((a0.f1.map cS_PrepressTerm).length:Int)=dI (a0.f1.length:Int))] 2 (by kernel_rfl) (len_ok cS_PrepressTerm) ?_
      refine T_cond (decide ((a0.f1.length:Int) > (8:Int))) (by kernel_rfl) (fun hc=>?_) (fun hc=>?_)
      · have h:=cond_tt hc h
        refine T_reg [] [2] [(2,dI (2:Int))] [] 1 (by kernel_rfl) (trivial) ?_
        obtain hs:=Option.some.inj h; subst hs
        refine T_ret fun a w hm=>inBlock_ret (then_ret (T_return (fr':=[(2,dI (2:Int))]) [2] (by kernel_rfl) [.keep [2]] (by kernel_rfl) (by kernel_rfl) (by kernel_rfl) (by show _=_; kernel_rfl) (by exact trivial) a w hm))
      · have h:=cond_ff hc h
        refine T_reg [] [1,22] [(22,dB (bif (decide (a0.f2 < (0:Int))) then true else (decide (a0.f2 > (5:Int)))))] [(4,((((decide (a0.f2 < (0:Int))) == false) && true)=true→True)),(0,((((decide (a0.f2 < (0:Int))) == false) && true)=true→True)),(0,((((decide (a0.f2 < (0:Int))) == false) && true)=true→True))] 2 (by kernel_rfl) (⟨(fun hg=>trivial),(fun hg=>trivial),(fun hg=>trivial)⟩) ?_
        refine T_cond (bif (decide (a0.f2 < (0:Int))) then true else (decide (a0.f2 > (5:Int)))) (by kernel_rfl) (fun hc=>?_) (fun hc=>?_)
        · have h:=cond_tt hc h
          refine T_reg [] [2] [(2,dI (14:Int))] [] 1 (by kernel_rfl) (trivial) ?_
          obtain hs:=Option.some.inj h; subst hs
          refine T_ret fun a w hm=>inBlock_ret (then_ret (T_return (fr':=[(2,dI (14:Int))]) [2] (by kernel_rfl) [.keep [2]] (by kernel_rfl) (by kernel_rfl) (by kernel_rfl) (by show _=_; kernel_rfl) (by exact trivial) a w hm))
        · have h:=cond_ff hc h
          obtain ⟨y3,hy1,h⟩:=call_ok h
          refine T_reg [(2,{ es:=some (([a0.f3]).map (cI .i64)) }),(3,{ res:=dB y3 })] [1,31] [(31,dB y3)] [(2,(([a0.f3]).map (cI .i64))=(([a0.f3]).map (cI .i64))),(0,ACall Tryz.prog 34 [dI (2147483648:Int),.d (.sl 1 (([a0.f3]).map (cI .i64)))] [] (dB y3) [])] 1 (by kernel_rfl) (⟨rfl,ref3_beyond_ok hy1⟩) ?_
          refine T_cond y3 (by kernel_rfl) (fun hc=>?_) (fun hc=>?_)
          · have h:=cond_tt hc h
            refine T_reg [] [2] [(2,dI (3:Int))] [] 1 (by kernel_rfl) (trivial) ?_
            obtain hs:=Option.some.inj h; subst hs
            refine T_ret fun a w hm=>inBlock_ret (then_ret (T_return (fr':=[(2,dI (3:Int))]) [2] (by kernel_rfl) [.keep [2]] (by kernel_rfl) (by kernel_rfl) (by kernel_rfl) (by show _=_; kernel_rfl) (by exact trivial) a w hm))
          · have h:=cond_ff hc h
            refine T_skip fun a w hm=>inBlock_norm (then_norm (((?_:T Tryz.prog e 73 _ _ _) a w hm)))
            refine T_seqk ?_
            refine T_reg [(2,{ rw:=some (dI (a0.f1.length:Int)) })] [1,37,38,39] [(37,.d (.sl 2 (a0.f1.map cS_PrepressTerm))),(38,dI (a0.f1.length:Int)),(39,dI (0:Int))] [(2,True∧dI ((a0.f1.map cS_PrepressTerm).length:Int)=dI (a0.f1.length:Int))] 1 (by kernel_rfl) (len_ok cS_PrepressTerm) ?_
            refine T_joinEt h (fun (p:Unit)=>[]) (fun s h hk1=>?_) (fun s h=>?_)
            · refine T_co [.keep [1,37,38,39]] ((fun (p:Int)=>[(1,bx_PrepressCond a0),(37,.d (.sl 2 (a0.f1.map cS_PrepressTerm))),(38,dI (a0.f1.length:Int)),(39,dI p)]) (0:Int)) (by show _=_; kernel_rfl) ?_
              refine T_block ?_
              refine T_loopF (ι:=Int) (fun (p:Int)=>[(1,bx_PrepressCond a0),(37,.d (.sl 2 (a0.f1.map cS_PrepressTerm))),(38,dI (a0.f1.length:Int)),(39,dI p)]) (fun n p=>ref3_compareError_L1 F a0 n p=some s) (fun i hh=>by simp [ref3_compareError_L1] at hh) (fun n v1 h=>?_) F (0:Int) h
              have h:ref3_compareError_L1 F a0 (n+1) v1=some s:=h
              rw [ref3_compareError_L1] at h
              refine T_reg [] [1,37,38,39,40] [(40,dB (decide (v1 < (a0.f1.length:Int))))] [] 1 (by kernel_rfl) (trivial) ?_
              refine T_seqk ?_
              refine T_cond (decide (v1 < (a0.f1.length:Int))) (by kernel_rfl) (fun hc=>?_) (fun hc=>?_)
              · have h:=cond_tt hc h
                refine T_skip fun a w hm=>then_norm (((?_:T Tryz.prog e 73 _ _ _) a w hm))
                refine T_seqk ?_
                refine T_block ?_
                obtain ⟨hp1,h⟩:=chk_ok h
                refine T_reg [(1,{ cs:=cS_PrepressTerm (a0.f1.getD v1.toNat z_PrepressTerm) })] [1,3,4,37,38,39] [(3,dI v1),(4,.box [dI ((a0.f1.getD v1.toNat z_PrepressTerm).f0),.d (.str ((a0.f1.getD v1.toNat z_PrepressTerm).f1))])] [(1,0≤v1∧(a0.f1.map cS_PrepressTerm)[v1.toNat]? = some (cS_PrepressTerm (a0.f1.getD v1.toNat z_PrepressTerm)))] 4 (by kernel_rfl) (idx_ok (d:=z_PrepressTerm) cS_PrepressTerm hp1) ?_
                refine T_seqk ?_
                obtain ⟨y1,hy2,h⟩:=call_ok h
                refine T_reg [(6,{ es:=some (([(a0.f1.getD v1.toNat z_PrepressTerm).f0]).map (cI .i64)) }),(7,{ res:=dB y1 })] [1,3,4,37,38,39,52] [(52,dB (bif (((a0.f1.getD v1.toNat z_PrepressTerm).f0) == (0:Int)) then true else y1))] [(4,((((((a0.f1.getD v1.toNat z_PrepressTerm).f0) == (0:Int)) == false) && true)=true→True)),(0,((((((a0.f1.getD v1.toNat z_PrepressTerm).f0) == (0:Int)) == false) && true)=true→True)),(0,((((((a0.f1.getD v1.toNat z_PrepressTerm).f0) == (0:Int)) == false) && true)=true→(([(a0.f1.getD v1.toNat z_PrepressTerm).f0]).map (cI .i64))=(([(a0.f1.getD v1.toNat z_PrepressTerm).f0]).map (cI .i64)))),(0,((((((a0.f1.getD v1.toNat z_PrepressTerm).f0) == (0:Int)) == false) && true)=true→ACall Tryz.prog 34 [dI (1000:Int),.d (.sl 1 (([(a0.f1.getD v1.toNat z_PrepressTerm).f0]).map (cI .i64)))] [] (dB y1) []))] 1 (by kernel_rfl) (⟨(fun hg=>trivial),(fun hg=>trivial),(fun hg=>rfl),(fun hg=>ref3_beyond_ok (gcall_ok hg hy2))⟩) ?_
                refine T_cond (bif (((a0.f1.getD v1.toNat z_PrepressTerm).f0) == (0:Int)) then true else y1) (by kernel_rfl) (fun hc=>?_) (fun hc=>?_)
                · have h:=cond_tt hc h
                  refine T_reg [] [2] [(2,dI (3:Int))] [] 1 (by kernel_rfl) (trivial) ?_
                  obtain hs:=Option.some.inj h; subst hs
                  have h:=callE_esc hk1
                  obtain hs:=Option.some.inj h; subst hs
                  refine T_ret fun a w hm=>then_ret (inBlock_ret (then_ret (then_ret (inBlock_ret (then_ret (then_ret (T_return (fr':=[(2,dI (3:Int))]) [2] (by kernel_rfl) [.keep [2]] (by kernel_rfl) (by kernel_rfl) (by kernel_rfl) (by show _=_; kernel_rfl) (by exact trivial) a w hm)))))))
                · have h:=cond_ff hc h
                  refine T_skip fun a w hm=>then_norm (((?_:T Tryz.prog e 73 _ _ _) a w hm))
                  refine T_seqk ?_
                  obtain ⟨y2,hy3,h⟩:=call_ok h
                  refine T_reg [(2,{ res:=dB y2 })] [1,3,4,37,38,39,56] [(56,dB (!y2))] [(2,ACall Tryz.prog 25 [.d (.str ((a0.f1.getD v1.toNat z_PrepressTerm).f1))] [] (dB y2) [])] 1 (by kernel_rfl) (ref3_ruleName_ok hy3) ?_
                  refine T_cond (!y2) (by kernel_rfl) (fun hc=>?_) (fun hc=>?_)
                  · have h:=cond_tt hc h
                    refine T_reg [] [2] [(2,dI (6:Int))] [] 1 (by kernel_rfl) (trivial) ?_
                    obtain hs:=Option.some.inj h; subst hs
                    have h:=callE_esc hk1
                    obtain hs:=Option.some.inj h; subst hs
                    refine T_ret fun a w hm=>then_ret (inBlock_ret (then_ret (then_ret (inBlock_ret (then_ret (then_ret (T_return (fr':=[(2,dI (6:Int))]) [2] (by kernel_rfl) [.keep [2]] (by kernel_rfl) (by kernel_rfl) (by kernel_rfl) (by show _=_; kernel_rfl) (by exact trivial) a w hm)))))))
                  · have h:=cond_ff hc h
                    refine T_skip fun a w hm=>then_norm (((?_:T Tryz.prog e 73 _ _ _) a w hm))
                    obtain ⟨hp2,h⟩:=chk_ok h
                    refine T_reg [(3,{ rw:=some (.d (.sl 2 (((a0.f1.drop (0:Int).toNat).take (v1.toNat - (0:Int).toNat)).map cS_PrepressTerm))) }),(4,{ rw:=some (dI (((a0.f1.drop (0:Int).toNat).take (v1.toNat - (0:Int).toNat)).length:Int)) })] [1,4,37,38,39,60,61,62] [(60,.d (.sl 2 (((a0.f1.drop (0:Int).toNat).take (v1.toNat - (0:Int).toNat)).map cS_PrepressTerm))),(61,dI (((a0.f1.drop (0:Int).toNat).take (v1.toNat - (0:Int).toNat)).length:Int)),(62,dI (0:Int))] [(3,(0≤(0:Int)∧(0:Int)≤v1∧v1≤((a0.f1.map cS_PrepressTerm).length:Int))∧AV.d (.sl 2 (((a0.f1.map cS_PrepressTerm).drop (0:Int).toNat).take (v1.toNat - (0:Int).toNat)))=.d (.sl 2 (((a0.f1.drop (0:Int).toNat).take (v1.toNat - (0:Int).toNat)).map cS_PrepressTerm))),(0,True∧dI ((((a0.f1.drop (0:Int).toNat).take (v1.toNat - (0:Int).toNat)).map cS_PrepressTerm).length:Int)=dI (((a0.f1.drop (0:Int).toNat).take (v1.toNat - (0:Int).toNat)).length:Int))] 1 (by kernel_rfl) (⟨cutH cS_PrepressTerm hp2,len_ok cS_PrepressTerm⟩) ?_
                    refine T_joinEt h (fun (p:Unit)=>[(1,bx_PrepressCond a0),(37,.d (.sl 2 (a0.f1.map cS_PrepressTerm))),(38,dI (a0.f1.length:Int)),(39,dI v1)]) (fun s h hk2=>?_) (fun s h=>?_)
                    · refine T_co [.keep [1,4,37,38,39,60,61,62]] ((fun (p:Int)=>[(1,bx_PrepressCond a0),(4,.box [dI ((a0.f1.getD v1.toNat z_PrepressTerm).f0),.d (.str ((a0.f1.getD v1.toNat z_PrepressTerm).f1))]),(37,.d (.sl 2 (a0.f1.map cS_PrepressTerm))),(38,dI (a0.f1.length:Int)),(39,dI v1),(60,.d (.sl 2 (((a0.f1.drop (0:Int).toNat).take (v1.toNat - (0:Int).toNat)).map cS_PrepressTerm))),(61,dI (((a0.f1.drop (0:Int).toNat).take (v1.toNat - (0:Int).toNat)).length:Int)),(62,dI p)]) (0:Int)) (by show _=_; kernel_rfl) ?_
                      refine T_block ?_
                      refine T_loopF (ι:=Int) (fun (p:Int)=>[(1,bx_PrepressCond a0),(4,.box [dI ((a0.f1.getD v1.toNat z_PrepressTerm).f0),.d (.str ((a0.f1.getD v1.toNat z_PrepressTerm).f1))]),(37,.d (.sl 2 (a0.f1.map cS_PrepressTerm))),(38,dI (a0.f1.length:Int)),(39,dI v1),(60,.d (.sl 2 (((a0.f1.drop (0:Int).toNat).take (v1.toNat - (0:Int).toNat)).map cS_PrepressTerm))),(61,dI (((a0.f1.drop (0:Int).toNat).take (v1.toNat - (0:Int).toNat)).length:Int)),(62,dI p)]) (fun n p=>ref3_compareError_L3 F a0 v1 n p=some s) (fun i hh=>by simp [ref3_compareError_L3] at hh) (fun n v2 h=>?_) F (0:Int) h
                      have h:ref3_compareError_L3 F a0 v1 (n+1) v2=some s:=h
                      rw [ref3_compareError_L3] at h
                      refine T_reg [] [1,4,37,38,39,60,61,62,63] [(63,dB (decide (v2 < (((a0.f1.drop (0:Int).toNat).take (v1.toNat - (0:Int).toNat)).length:Int))))] [] 1 (by kernel_rfl) (trivial) ?_
                      refine T_seqk ?_
                      refine T_cond (decide (v2 < (((a0.f1.drop (0:Int).toNat).take (v1.toNat - (0:Int).toNat)).length:Int))) (by kernel_rfl) (fun hc=>?_) (fun hc=>?_)
                      · have h:=cond_tt hc h
                        refine T_skip fun a w hm=>then_norm (((?_:T Tryz.prog e 73 _ _ _) a w hm))
                        refine T_seqk ?_
                        refine T_block ?_
                        obtain ⟨hp3,h⟩:=chk_ok h
                        refine T_reg [(0,{ cs:=cS_PrepressTerm (((a0.f1.drop (0:Int).toNat).take (v1.toNat - (0:Int).toNat)).getD v2.toNat z_PrepressTerm) })] [1,4,6,37,38,39,60,61,62] [(6,.box [dI ((((a0.f1.drop (0:Int).toNat).take (v1.toNat - (0:Int).toNat)).getD v2.toNat z_PrepressTerm).f0),.d (.str ((((a0.f1.drop (0:Int).toNat).take (v1.toNat - (0:Int).toNat)).getD v2.toNat z_PrepressTerm).f1))])] [(0,0≤v2∧(((a0.f1.drop (0:Int).toNat).take (v1.toNat - (0:Int).toNat)).map cS_PrepressTerm)[v2.toNat]? = some (cS_PrepressTerm (((a0.f1.drop (0:Int).toNat).take (v1.toNat - (0:Int).toNat)).getD v2.toNat z_PrepressTerm)))] 3 (by kernel_rfl) (idx_ok (d:=z_PrepressTerm) cS_PrepressTerm hp3) ?_
                        obtain ⟨z1,hz1,h⟩:=lett_ok h
                        refine T_reg [(1,{ rw:=some (.d (.str z1)) })] [1,4,37,38,39,60,61,62,70] [(70,dB (z1 == ((a0.f1.getD v1.toNat z_PrepressTerm).f1)))] [(1,(True)∧AV.d (.str ((((a0.f1.drop (0:Int).toNat).take (v1.toNat - (0:Int).toNat)).getD v2.toNat z_PrepressTerm).f1))=.d (.str z1))] 3 (by kernel_rfl) (⟨trivial,(by subst hz1; rfl)⟩) ?_
                        refine T_cond (z1 == ((a0.f1.getD v1.toNat z_PrepressTerm).f1)) (by kernel_rfl) (fun hc=>?_) (fun hc=>?_)
                        · have h:=cond_tt hc h
                          refine T_reg [] [2] [(2,dI (7:Int))] [] 1 (by kernel_rfl) (trivial) ?_
                          obtain hs:=Option.some.inj h; subst hs
                          have h:=callE_esc hk2
                          obtain hs:=Option.some.inj h; subst hs
                          have h:=callE_esc hk1
                          obtain hs:=Option.some.inj h; subst hs
                          refine T_ret fun a w hm=>inBlock_ret (then_ret (then_ret (inBlock_ret (then_ret (inBlock_ret (then_ret (then_ret (inBlock_ret (then_ret (then_ret (T_return (fr':=[(2,dI (7:Int))]) [2] (by kernel_rfl) [.keep [2]] (by kernel_rfl) (by kernel_rfl) (by kernel_rfl) (by show _=_; kernel_rfl) (by exact trivial) a w hm)))))))))))
                        · have h:=cond_ff hc h
                          refine T_skip fun a w hm=>inBlock_norm (then_norm (((?_:T Tryz.prog e 73 _ _ _) a w hm)))
                          refine T_reg_end [] [1,4,37,38,39,60,61,62] [(62,dI (IntKind.i64.wrap (v2+(1:Int))))] [] 2 (by kernel_rfl) (trivial) fun a w hm=>then_norm (⟨IntKind.i64.wrap (v2+(1:Int)),h,hm.co (cs:=[.keep [1,4,37,38,39,60,61,62]]) (by show _=_; kernel_rfl)⟩)
                      · have h:=cond_ff hc h
                        obtain hs:=Option.some.inj h; subst hs
                        refine T_exit fun a w hm=>then_exit (then_exit (inBlock_exit (then_norm (⟨_,rfl,hm.co (cs:=[.keep [1,37,38,39]]) (by show _=_; kernel_rfl)⟩))))
                    · skip
                      refine fun a w hm=>inBlock_norm (then_norm (((?_:T Tryz.prog e 73 _ _ _) a w hm)))
                      refine T_reg_end [] [1,37,38,39] [(39,dI (IntKind.i64.wrap (v1+(1:Int))))] [] 2 (by kernel_rfl) (trivial) fun a w hm=>then_norm (⟨IntKind.i64.wrap (v1+(1:Int)),h,hm.co (cs:=[.keep [1,37,38,39]]) (by show _=_; kernel_rfl)⟩)
              · have h:=cond_ff hc h
                obtain hs:=Option.some.inj h; subst hs
                refine T_exit fun a w hm=>then_exit (then_exit (inBlock_exit (then_norm (⟨_,rfl,hm.co (cs:=[.keep []]) (by show _=_; kernel_rfl)⟩))))
            · skip
              refine fun a w hm=>then_norm (((?_:T Tryz.prog e 73 _ _ _) a w hm))
              refine T_reg [] [2] [(2,dI (0:Int))] [] 1 (by kernel_rfl) (trivial) ?_
              obtain hs:=Option.some.inj h; subst hs
              refine T_ret fun a w hm=>T_return (fr':=[(2,dI (0:Int))]) [2] (by kernel_rfl) [.keep [2]] (by kernel_rfl) (by kernel_rfl) (by kernel_rfl) (by show _=_; kernel_rfl) (by exact trivial) a w hm
theorem ref3_condError_ok {F:Nat} {a0:S_PrepressCond} {r:Int} (h:ref3_condError F a0=some r):ACall Tryz.prog 26 [.agg (cS_PrepressCond a0)] [] (.d (.v (.int .i64 r))) []:=by
  rw [ref3_condError] at h
  refine ACall.intro (N:=100) Tryz.func26 rfl rfl rfl rfl rfl fun e=>?_
  refine T_reg [] [1] [(1,bx_PrepressCond a0)] [] 2 (by kernel_rfl) (trivial) ?_
  refine T_reg [(2,{ es:=some (([(S_ref3_wait.mk a0 (1:Int))]).map cS_ref3_wait) })] [3] [(3,.own 98 6 (([(S_ref3_wait.mk a0 (1:Int))]).map cS_ref3_wait))] [(2,(([(S_ref3_wait.mk a0 (1:Int))]).map cS_ref3_wait)=(([(S_ref3_wait.mk a0 (1:Int))]).map cS_ref3_wait))] 1 (by kernel_rfl) (rfl) ?_
  refine T_seqk ?_
  refine T_reg [] [3,4] [(4,dI (1:Int))] [] 1 (by kernel_rfl) (trivial) ?_
  refine T_joinEt h (fun (p:Unit)=>[]) (fun s h hk1=>?_) (fun s h=>?_)
  · refine T_co [.keep [3,4]] ((fun (p:(List S_ref3_wait)×Int)=>[(3,oW6 p.1),(4,dI p.2)]) ([(S_ref3_wait.mk a0 (1:Int))],(1:Int))) (by show _=_; kernel_rfl) ?_
    refine T_block ?_
    refine T_loopF (ι:=(List S_ref3_wait)×Int) (fun (p:(List S_ref3_wait)×Int)=>[(3,oW6 p.1),(4,dI p.2)]) (fun n p=>ref3_condError_L0 F n p.1 p.2=some s) (fun i hh=>by simp [ref3_condError_L0] at hh) (fun n p h=>?_) F ([(S_ref3_wait.mk a0 (1:Int))],(1:Int)) h
    obtain ⟨v1,v4⟩:=p
    have h:ref3_condError_L0 F (n+1) v1 v4=some s:=h
    rw [ref3_condError_L0] at h
    refine T_seqk ?_
    refine T_reg [(1,{ rw:=some (dI (v1.length:Int)) })] [3,4,15] [(15,dB (decide ((v1.length:Int) > (0:Int))))] [(1,True∧dI ((v1.map cS_ref3_wait).length:Int)=dI (v1.length:Int))] 1 (by kernel_rfl) (len_ok cS_ref3_wait) ?_
    refine T_cond (decide ((v1.length:Int) > (0:Int))) (by kernel_rfl) (fun hc=>?_) (fun hc=>?_)
    · have h:=cond_tt hc h
      refine T_skip fun a w hm=>then_norm (((?_:T Tryz.prog e 100 _ _ _) a w hm))
      refine T_joinE h (fun (p:(List S_ref3_wait))=>[(3,oW6 p),(4,dI v4)]) (fun s h hk2=>?_) (fun v7 h=>?_)
      · refine T_block ?_
        obtain ⟨hp1,h⟩:=chk_ok h
        refine T_reg [(2,{ rw:=some (dI (v1.length:Int)) }),(5,{ cs:=cS_ref3_wait (v1.getD (IntKind.i64.wrap ((v1.length:Int) - (1:Int))).toNat z_ref3_wait) })] [3,4,5] [(5,.box [dI (((v1.getD (IntKind.i64.wrap ((v1.length:Int) - (1:Int))).toNat z_ref3_wait).f0).f0),.d (.sl 2 ((((v1.getD (IntKind.i64.wrap ((v1.length:Int) - (1:Int))).toNat z_ref3_wait).f0).f1).map cS_PrepressTerm)),dI (((v1.getD (IntKind.i64.wrap ((v1.length:Int) - (1:Int))).toNat z_ref3_wait).f0).f2),dI (((v1.getD (IntKind.i64.wrap ((v1.length:Int) - (1:Int))).toNat z_ref3_wait).f0).f3),.d (.sl 5 ((((v1.getD (IntKind.i64.wrap ((v1.length:Int) - (1:Int))).toNat z_ref3_wait).f0).f4).map rS_PrepressCond)),dI ((v1.getD (IntKind.i64.wrap ((v1.length:Int) - (1:Int))).toNat z_ref3_wait).f1)])] [(2,True∧dI ((v1.map cS_ref3_wait).length:Int)=dI (v1.length:Int)),(1,0≤(IntKind.i64.wrap ((v1.length:Int) - (1:Int)))∧(IntKind.i64.wrap ((v1.length:Int) - (1:Int))) < (v1.map cS_ref3_wait).length),(0,(v1.map cS_ref3_wait)[(IntKind.i64.wrap ((v1.length:Int) - (1:Int))).toNat]? = some (cS_ref3_wait (v1.getD (IntKind.i64.wrap ((v1.length:Int) - (1:Int))).toNat z_ref3_wait)))] 2 (by kernel_rfl) (⟨len_ok cS_ref3_wait,own_idx cS_ref3_wait hp1,(idx_ok (d:=z_ref3_wait) cS_ref3_wait hp1).2⟩) ?_
        obtain ⟨hp2,h⟩:=chk_ok h
        refine T_reg [(2,{ rw:=some (dI (v1.length:Int)) }),(4,{ take:=[0],es:=some ((v1.take (IntKind.i64.wrap ((v1.length:Int) - (1:Int))).toNat).map cS_ref3_wait) })] [3,4,5] [(3,.own 98 6 ((v1.take (IntKind.i64.wrap ((v1.length:Int) - (1:Int))).toNat).map cS_ref3_wait))] [(2,True∧dI ((v1.map cS_ref3_wait).length:Int)=dI (v1.length:Int)),(1,(0≤(IntKind.i64.wrap ((v1.length:Int) - (1:Int)))∧(IntKind.i64.wrap ((v1.length:Int) - (1:Int)))≤((v1.map cS_ref3_wait).length:Int))∧(v1.map cS_ref3_wait).take (IntKind.i64.wrap ((v1.length:Int) - (1:Int))).toNat=((v1.take (IntKind.i64.wrap ((v1.length:Int) - (1:Int))).toNat).map cS_ref3_wait))] 1 (by kernel_rfl) (⟨len_ok cS_ref3_wait,take_ok cS_ref3_wait hp2⟩) ?_
        refine T_reg [] [3,4,5,6] [(6,.box [dI (((v1.getD (IntKind.i64.wrap ((v1.length:Int) - (1:Int))).toNat z_ref3_wait).f0).f0),.d (.sl 2 ((((v1.getD (IntKind.i64.wrap ((v1.length:Int) - (1:Int))).toNat z_ref3_wait).f0).f1).map cS_PrepressTerm)),dI (((v1.getD (IntKind.i64.wrap ((v1.length:Int) - (1:Int))).toNat z_ref3_wait).f0).f2),dI (((v1.getD (IntKind.i64.wrap ((v1.length:Int) - (1:Int))).toNat z_ref3_wait).f0).f3),.d (.sl 5 ((((v1.getD (IntKind.i64.wrap ((v1.length:Int) - (1:Int))).toNat z_ref3_wait).f0).f4).map rS_PrepressCond))])] [] 4 (by kernel_rfl) (trivial) ?_
        refine T_seqk ?_
        refine T_reg [] [3,4,5,6,32] [(32,dB (decide (v4 > (256:Int))))] [] 2 (by kernel_rfl) (trivial) ?_
        refine T_cond (decide (v4 > (256:Int))) (by kernel_rfl) (fun hc=>?_) (fun hc=>?_)
        · have h:=cond_tt hc h
          refine T_reg [] [2] [(2,dI (2:Int))] [] 1 (by kernel_rfl) (trivial) ?_
          obtain hs:=Option.some.inj h; subst hs
          have h:=callE_esc hk2
          obtain hs:=Option.some.inj h; subst hs
          have h:=callE_esc hk1
          obtain hs:=Option.some.inj h; subst hs
          refine T_ret fun a w hm=>then_ret (inBlock_ret (then_ret (then_ret (inBlock_ret (then_ret (then_ret (T_return (fr':=[(2,dI (2:Int))]) [2] (by kernel_rfl) [.keep [2]] (by kernel_rfl) (by kernel_rfl) (by kernel_rfl) (by show _=_; kernel_rfl) (by exact trivial) a w hm)))))))
        · have h:=cond_ff hc h
          refine T_skip fun a w hm=>then_norm (((?_:T Tryz.prog e 100 _ _ _) a w hm))
          refine T_seqk ?_
          obtain ⟨z5,hz1,h⟩:=lett_ok h
          refine T_reg [(1,{ rw:=some (dI z5) })] [3,4,5,6,35] [(35,dB (decide (z5 > (12:Int))))] [(1,(True)∧dI ((v1.getD (IntKind.i64.wrap ((v1.length:Int) - (1:Int))).toNat z_ref3_wait).f1)=dI z5)] 1 (by kernel_rfl) (⟨trivial,(by subst hz1; rfl)⟩) ?_
          refine T_cond (decide (z5 > (12:Int))) (by kernel_rfl) (fun hc=>?_) (fun hc=>?_)
          · have h:=cond_tt hc h
            refine T_reg [] [2] [(2,dI (15:Int))] [] 1 (by kernel_rfl) (trivial) ?_
            obtain hs:=Option.some.inj h; subst hs
            have h:=callE_esc hk2
            obtain hs:=Option.some.inj h; subst hs
            have h:=callE_esc hk1
            obtain hs:=Option.some.inj h; subst hs
            refine T_ret fun a w hm=>then_ret (inBlock_ret (then_ret (then_ret (inBlock_ret (then_ret (then_ret (T_return (fr':=[(2,dI (15:Int))]) [2] (by kernel_rfl) [.keep [2]] (by kernel_rfl) (by kernel_rfl) (by kernel_rfl) (by show _=_; kernel_rfl) (by exact trivial) a w hm)))))))
          · have h:=cond_ff hc h
            refine T_skip fun a w hm=>then_norm (((?_:T Tryz.prog e 100 _ _ _) a w hm))
            refine T_seqk ?_
            obtain ⟨z6,hz2,h⟩:=lett_ok h
            refine T_reg [(1,{ rw:=some (dI z6) })] [3,4,5,6,38] [(38,dB (z6 == (0:Int)))] [(1,(True)∧dI (((v1.getD (IntKind.i64.wrap ((v1.length:Int) - (1:Int))).toNat z_ref3_wait).f0).f0)=dI z6)] 1 (by kernel_rfl) (⟨trivial,(by subst hz2; rfl)⟩) ?_
            refine T_cond (z6 == (0:Int)) (by kernel_rfl) (fun hc=>?_) (fun hc=>?_)
            · have h:=cond_tt hc h
              refine T_seqk ?_
              obtain ⟨y1,hy1,h⟩:=call_ok h
              refine T_reg [(1,{ res:=dI y1 })] [3,4,7] [(7,dI y1)] [(1,ACall Tryz.prog 50 [.agg (cS_PrepressCond (S_PrepressCond.mk (((v1.getD (IntKind.i64.wrap ((v1.length:Int) - (1:Int))).toNat z_ref3_wait).f0).f0) (((v1.getD (IntKind.i64.wrap ((v1.length:Int) - (1:Int))).toNat z_ref3_wait).f0).f1) (((v1.getD (IntKind.i64.wrap ((v1.length:Int) - (1:Int))).toNat z_ref3_wait).f0).f2) (((v1.getD (IntKind.i64.wrap ((v1.length:Int) - (1:Int))).toNat z_ref3_wait).f0).f3) (((v1.getD (IntKind.i64.wrap ((v1.length:Int) - (1:Int))).toNat z_ref3_wait).f0).f4)))] [] (dI y1) [])] 1 (by kernel_rfl) (ref3_compareError_ok hy1) ?_
              refine T_reg [] [3,4,7,42] [(42,dB (y1 != (0:Int)))] [] 2 (by kernel_rfl) (trivial) ?_
              refine T_cond (y1 != (0:Int)) (by kernel_rfl) (fun hc=>?_) (fun hc=>?_)
              · have h:=cond_tt hc h
                refine T_reg [] [2] [(2,dI y1)] [] 2 (by kernel_rfl) (trivial) ?_
                obtain hs:=Option.some.inj h; subst hs
                have h:=callE_esc hk2
                obtain hs:=Option.some.inj h; subst hs
                have h:=callE_esc hk1
                obtain hs:=Option.some.inj h; subst hs
                refine T_ret fun a w hm=>then_ret (then_ret (inBlock_ret (then_ret (then_ret (inBlock_ret (then_ret (then_ret (T_return (fr':=[(2,dI y1)]) [2] (by kernel_rfl) [.keep [2]] (by kernel_rfl) (by kernel_rfl) (by kernel_rfl) (by show _=_; kernel_rfl) (by exact trivial) a w hm))))))))
              · have h:=cond_ff hc h
                refine T_skip fun a w hm=>then_norm (((?_:T Tryz.prog e 100 _ _ _) a w hm))
                obtain hs:=Option.some.inj h; subst hs
                refine T_exit fun a w hm=>then_exit (inBlock_exit (then_norm (⟨_,rfl,hm.co (cs:=[.keep [3,4]]) (by show _=_; kernel_rfl)⟩)))
            · have h:=cond_ff hc h
              refine T_skip fun a w hm=>then_norm (((?_:T Tryz.prog e 100 _ _ _) a w hm))
              refine T_seqk ?_
              obtain ⟨z7,hz3,h⟩:=lett_ok h
              obtain ⟨z8,hz4,h⟩:=lett_ok h
              refine T_reg [(1,{ rw:=some (dI z7) }),(5,{ rw:=some (dI z8) })] [3,4,5,6,51] [(51,dB (bif (decide (z7 < (0:Int))) then true else (decide (z8 > (3:Int)))))] [(1,(True)∧dI (((v1.getD (IntKind.i64.wrap ((v1.length:Int) - (1:Int))).toNat z_ref3_wait).f0).f0)=dI z7),(2,((((decide (z7 < (0:Int))) == false) && true)=true→True)),(0,((((decide (z7 < (0:Int))) == false) && true)=true→(True)∧dI (((v1.getD (IntKind.i64.wrap ((v1.length:Int) - (1:Int))).toNat z_ref3_wait).f0).f0)=dI z8)),(0,((((decide (z7 < (0:Int))) == false) && true)=true→True))] 1 (by kernel_rfl) (⟨⟨trivial,(by subst hz3; rfl)⟩,(fun hg=>trivial),(fun hg=>⟨trivial,(by subst hz4; rfl)⟩),(fun hg=>trivial)⟩) ?_
              refine T_cond (bif (decide (z7 < (0:Int))) then true else (decide (z8 > (3:Int)))) (by kernel_rfl) (fun hc=>?_) (fun hc=>?_)
              · have h:=cond_tt hc h
                refine T_reg [] [2] [(2,dI (14:Int))] [] 1 (by kernel_rfl) (trivial) ?_
                obtain hs:=Option.some.inj h; subst hs
                have h:=callE_esc hk2
                obtain hs:=Option.some.inj h; subst hs
                have h:=callE_esc hk1
                obtain hs:=Option.some.inj h; subst hs
                refine T_ret fun a w hm=>then_ret (inBlock_ret (then_ret (then_ret (inBlock_ret (then_ret (then_ret (T_return (fr':=[(2,dI (14:Int))]) [2] (by kernel_rfl) [.keep [2]] (by kernel_rfl) (by kernel_rfl) (by kernel_rfl) (by show _=_; kernel_rfl) (by exact trivial) a w hm)))))))
              · have h:=cond_ff hc h
                refine T_skip fun a w hm=>then_norm (((?_:T Tryz.prog e 100 _ _ _) a w hm))
                refine T_reg [] [3,4,5,6,8] [(8,dI (2:Int))] [] 1 (by kernel_rfl) (trivial) ?_
                refine T_joinc h (fun (p:Int)=>[(3,.own 98 6 ((v1.take (IntKind.i64.wrap ((v1.length:Int) - (1:Int))).toNat).map cS_ref3_wait)),(4,dI v4),(5,.box [dI (((v1.getD (IntKind.i64.wrap ((v1.length:Int) - (1:Int))).toNat z_ref3_wait).f0).f0),.d (.sl 2 ((((v1.getD (IntKind.i64.wrap ((v1.length:Int) - (1:Int))).toNat z_ref3_wait).f0).f1).map cS_PrepressTerm)),dI (((v1.getD (IntKind.i64.wrap ((v1.length:Int) - (1:Int))).toNat z_ref3_wait).f0).f2),dI (((v1.getD (IntKind.i64.wrap ((v1.length:Int) - (1:Int))).toNat z_ref3_wait).f0).f3),.d (.sl 5 ((((v1.getD (IntKind.i64.wrap ((v1.length:Int) - (1:Int))).toNat z_ref3_wait).f0).f4).map rS_PrepressCond)),dI ((v1.getD (IntKind.i64.wrap ((v1.length:Int) - (1:Int))).toNat z_ref3_wait).f1)]),(6,.box [dI (((v1.getD (IntKind.i64.wrap ((v1.length:Int) - (1:Int))).toNat z_ref3_wait).f0).f0),.d (.sl 2 ((((v1.getD (IntKind.i64.wrap ((v1.length:Int) - (1:Int))).toNat z_ref3_wait).f0).f1).map cS_PrepressTerm)),dI (((v1.getD (IntKind.i64.wrap ((v1.length:Int) - (1:Int))).toNat z_ref3_wait).f0).f2),dI (((v1.getD (IntKind.i64.wrap ((v1.length:Int) - (1:Int))).toNat z_ref3_wait).f0).f3),.d (.sl 5 ((((v1.getD (IntKind.i64.wrap ((v1.length:Int) - (1:Int))).toNat z_ref3_wait).f0).f4).map rS_PrepressCond))]),(8,dI p)]) (fun s h=>?_) (fun v5 h=>?_)
                · obtain ⟨z9,hz5,h⟩:=lett_ok h
                  refine T_reg [(1,{ rw:=some (dI z9) })] [3,4,5,6,8,54] [(54,dB (z9 == (1:Int)))] [(1,(True)∧dI (((v1.getD (IntKind.i64.wrap ((v1.length:Int) - (1:Int))).toNat z_ref3_wait).f0).f0)=dI z9)] 1 (by kernel_rfl) (⟨trivial,(by subst hz5; rfl)⟩) ?_
                  refine T_cond (z9 == (1:Int)) (by kernel_rfl) (fun hc=>?_) (fun hc=>?_)
                  · have h:=cond_tt hc h
                    obtain hs:=Option.some.inj h; subst hs
                    refine T_reg_end [] [3,4,5,6,8] [(8,dI (1:Int))] [] 1 (by kernel_rfl) (trivial) fun a w hm=>then_norm (hm.co (cs:=[.keep [3,4,5,6,8]]) (by show _=_; kernel_rfl))
                  · have h:=cond_ff hc h
                    obtain hs:=Option.some.inj h; subst hs
                    refine T_skip fun a w hm=>then_norm (hm.co (cs:=[.keep [3,4,5,6,8]]) (by show _=_; kernel_rfl))
                · skip
                  refine T_seqk ?_
                  obtain ⟨z10,hz6,h⟩:=lett_ok h
                  obtain ⟨z11,hz7,h⟩:=lett_ok h
                  obtain ⟨z12,hz8,h⟩:=lett_ok h
                  obtain ⟨z13,hz9,h⟩:=lett_ok h
                  obtain ⟨z14,hz10,h⟩:=lett_ok h
                  refine T_reg [(1,{ rw:=some (.d (.sl 2 (z10.map cS_PrepressTerm))) }),(2,{ rw:=some (dI (z10.length:Int)) }),(6,{ rw:=some (dI z11) }),(11,{ rw:=some (dI z12) }),(13,{ rw:=some (dB z13) }),(16,{ rw:=some (.d (.sl 5 (z14.map rS_PrepressCond))) }),(17,{ rw:=some (dI (z14.length:Int)) })] [3,4,5,6,75] [(75,dB (bif z13 then true else ((z14.length:Int) != v5)))] [(1,(True)∧AV.d (.sl 2 ((((v1.getD (IntKind.i64.wrap ((v1.length:Int) - (1:Int))).toNat z_ref3_wait).f0).f1).map cS_PrepressTerm))=.d (.sl 2 (z10.map cS_PrepressTerm))),(0,True∧dI ((z10.map cS_PrepressTerm).length:Int)=dI (z10.length:Int)),(2,((((decide ((z10.length:Int) > (0:Int))) == false) && true)=true→True)),(0,((((decide ((z10.length:Int) > (0:Int))) == false) && true)=true→(True)∧dI (((v1.getD (IntKind.i64.wrap ((v1.length:Int) - (1:Int))).toNat z_ref3_wait).f0).f2)=dI z11)),(0,((((decide ((z10.length:Int) > (0:Int))) == false) && true)=true→True)),(2,((((bif (decide ((z10.length:Int) > (0:Int))) then true else (z11 != (0:Int))) == false) && true)=true→True)),(0,((((bif (decide ((z10.length:Int) > (0:Int))) then true else (z11 != (0:Int))) == false) && true)=true→(True)∧dI (((v1.getD (IntKind.i64.wrap ((v1.length:Int) - (1:Int))).toNat z_ref3_wait).f0).f3)=dI z12)),(0,((((bif (decide ((z10.length:Int) > (0:Int))) then true else (z11 != (0:Int))) == false) && true)=true→True)),(0,(True)∧dB (bif (bif (decide ((z10.length:Int) > (0:Int))) then true else (z11 != (0:Int))) then true else (z12 != (0:Int)))=dB z13),(1,(((z13 == false) && true)=true→True)),(0,(((z13 == false) && true)=true→(True)∧AV.d (.sl 5 ((((v1.getD (IntKind.i64.wrap ((v1.length:Int) - (1:Int))).toNat z_ref3_wait).f0).f4).map rS_PrepressCond))=.d (.sl 5 (z14.map rS_PrepressCond)))),(0,(((z13 == false) && true)=true→True∧dI ((z14.map rS_PrepressCond).length:Int)=dI (z14.length:Int))),(0,(((z13 == false) && true)=true→True)),(0,(((z13 == false) && true)=true→True))] 1 (by kernel_rfl) (⟨⟨trivial,(by subst hz6; rfl)⟩,len_ok cS_PrepressTerm,(fun hg=>trivial),(fun hg=>⟨trivial,(by subst hz7; rfl)⟩),(fun hg=>trivial),(fun hg=>trivial),(fun hg=>⟨trivial,(by subst hz8; rfl)⟩),(fun hg=>trivial),⟨trivial,(by subst hz9; rfl)⟩,(fun hg=>trivial),(fun hg=>⟨trivial,(by subst hz10; rfl)⟩),(fun hg=>len_ok rS_PrepressCond),(fun hg=>trivial),(fun hg=>trivial)⟩) ?_
                  refine T_cond (bif z13 then true else ((z14.length:Int) != v5)) (by kernel_rfl) (fun hc=>?_) (fun hc=>?_)
                  · have h:=cond_tt hc h
                    refine T_reg [] [2] [(2,dI (4:Int))] [] 1 (by kernel_rfl) (trivial) ?_
                    obtain hs:=Option.some.inj h; subst hs
                    have h:=callE_esc hk2
                    obtain hs:=Option.some.inj h; subst hs
                    have h:=callE_esc hk1
                    obtain hs:=Option.some.inj h; subst hs
                    refine T_ret fun a w hm=>then_ret (inBlock_ret (then_ret (then_ret (inBlock_ret (then_ret (then_ret (T_return (fr':=[(2,dI (4:Int))]) [2] (by kernel_rfl) [.keep [2]] (by kernel_rfl) (by kernel_rfl) (by kernel_rfl) (by show _=_; kernel_rfl) (by exact trivial) a w hm)))))))
                  · have h:=cond_ff hc h
                    refine T_skip fun a w hm=>then_norm (((?_:T Tryz.prog e 100 _ _ _) a w hm))
                    obtain ⟨z1,hz11,h⟩:=lett_ok h
                    refine T_reg [(1,{ rw:=some (.d (.sl 5 (z1.map rS_PrepressCond))) }),(2,{ rw:=some (dI (z1.length:Int)) })] [3,4,5,6,78,79] [(78,dI (z1.length:Int)),(79,dI (0:Int))] [(1,(True)∧AV.d (.sl 5 ((((v1.getD (IntKind.i64.wrap ((v1.length:Int) - (1:Int))).toNat z_ref3_wait).f0).f4).map rS_PrepressCond))=.d (.sl 5 (z1.map rS_PrepressCond))),(0,True∧dI ((z1.map rS_PrepressCond).length:Int)=dI (z1.length:Int))] 1 (by kernel_rfl) (⟨⟨trivial,(by subst hz11; rfl)⟩,len_ok rS_PrepressCond⟩) ?_
                    refine T_joinct h (fun (p:(List S_ref3_wait))=>[(3,oW6 p),(4,dI v4)]) (fun s h=>?_) (fun v6 h=>?_)
                    · refine T_co [.keep [3,4,5,6,78,79]] ((fun (p:(List S_ref3_wait)×Int)=>[(3,oW6 p.1),(4,dI v4),(5,.box [dI (((v1.getD (IntKind.i64.wrap ((v1.length:Int) - (1:Int))).toNat z_ref3_wait).f0).f0),.d (.sl 2 ((((v1.getD (IntKind.i64.wrap ((v1.length:Int) - (1:Int))).toNat z_ref3_wait).f0).f1).map cS_PrepressTerm)),dI (((v1.getD (IntKind.i64.wrap ((v1.length:Int) - (1:Int))).toNat z_ref3_wait).f0).f2),dI (((v1.getD (IntKind.i64.wrap ((v1.length:Int) - (1:Int))).toNat z_ref3_wait).f0).f3),.d (.sl 5 ((((v1.getD (IntKind.i64.wrap ((v1.length:Int) - (1:Int))).toNat z_ref3_wait).f0).f4).map rS_PrepressCond)),dI ((v1.getD (IntKind.i64.wrap ((v1.length:Int) - (1:Int))).toNat z_ref3_wait).f1)]),(6,.box [dI (((v1.getD (IntKind.i64.wrap ((v1.length:Int) - (1:Int))).toNat z_ref3_wait).f0).f0),.d (.sl 2 ((((v1.getD (IntKind.i64.wrap ((v1.length:Int) - (1:Int))).toNat z_ref3_wait).f0).f1).map cS_PrepressTerm)),dI (((v1.getD (IntKind.i64.wrap ((v1.length:Int) - (1:Int))).toNat z_ref3_wait).f0).f2),dI (((v1.getD (IntKind.i64.wrap ((v1.length:Int) - (1:Int))).toNat z_ref3_wait).f0).f3),.d (.sl 5 ((((v1.getD (IntKind.i64.wrap ((v1.length:Int) - (1:Int))).toNat z_ref3_wait).f0).f4).map rS_PrepressCond))]),(78,dI (z1.length:Int)),(79,dI p.2)]) ((v1.take (IntKind.i64.wrap ((v1.length:Int) - (1:Int))).toNat),(0:Int))) (by show _=_; kernel_rfl) ?_
                      refine T_block ?_
                      refine T_loopF (ι:=(List S_ref3_wait)×Int) (fun (p:(List S_ref3_wait)×Int)=>[(3,oW6 p.1),(4,dI v4),(5,.box [dI (((v1.getD (IntKind.i64.wrap ((v1.length:Int) - (1:Int))).toNat z_ref3_wait).f0).f0),.d (.sl 2 ((((v1.getD (IntKind.i64.wrap ((v1.length:Int) - (1:Int))).toNat z_ref3_wait).f0).f1).map cS_PrepressTerm)),dI (((v1.getD (IntKind.i64.wrap ((v1.length:Int) - (1:Int))).toNat z_ref3_wait).f0).f2),dI (((v1.getD (IntKind.i64.wrap ((v1.length:Int) - (1:Int))).toNat z_ref3_wait).f0).f3),.d (.sl 5 ((((v1.getD (IntKind.i64.wrap ((v1.length:Int) - (1:Int))).toNat z_ref3_wait).f0).f4).map rS_PrepressCond)),dI ((v1.getD (IntKind.i64.wrap ((v1.length:Int) - (1:Int))).toNat z_ref3_wait).f1)]),(6,.box [dI (((v1.getD (IntKind.i64.wrap ((v1.length:Int) - (1:Int))).toNat z_ref3_wait).f0).f0),.d (.sl 2 ((((v1.getD (IntKind.i64.wrap ((v1.length:Int) - (1:Int))).toNat z_ref3_wait).f0).f1).map cS_PrepressTerm)),dI (((v1.getD (IntKind.i64.wrap ((v1.length:Int) - (1:Int))).toNat z_ref3_wait).f0).f2),dI (((v1.getD (IntKind.i64.wrap ((v1.length:Int) - (1:Int))).toNat z_ref3_wait).f0).f3),.d (.sl 5 ((((v1.getD (IntKind.i64.wrap ((v1.length:Int) - (1:Int))).toNat z_ref3_wait).f0).f4).map rS_PrepressCond))]),(78,dI (z1.length:Int)),(79,dI p.2)]) (fun n p=>ref3_condError_L2 F v1 z1 n p.1 p.2=some s) (fun i hh=>by simp [ref3_condError_L2] at hh) (fun n p h=>?_) F ((v1.take (IntKind.i64.wrap ((v1.length:Int) - (1:Int))).toNat),(0:Int)) h
                      obtain ⟨v2,v3⟩:=p
                      have h:ref3_condError_L2 F v1 z1 (n+1) v2 v3=some s:=h
                      rw [ref3_condError_L2] at h
                      refine T_reg [] [3,4,5,6,78,79,80] [(80,dB (decide (v3 < (z1.length:Int))))] [] 1 (by kernel_rfl) (trivial) ?_
                      refine T_seqk ?_
                      refine T_cond (decide (v3 < (z1.length:Int))) (by kernel_rfl) (fun hc=>?_) (fun hc=>?_)
                      · have h:=cond_tt hc h
                        refine T_skip fun a w hm=>then_norm (((?_:T Tryz.prog e 100 _ _ _) a w hm))
                        refine T_seqk ?_
                        refine T_block ?_
                        refine T_reg [] [3,4,5,6,9,78,79] [(9,dI v3)] [] 2 (by kernel_rfl) (trivial) ?_
                        obtain ⟨z2,hz12,h⟩:=lett_ok h
                        obtain ⟨z3,hz13,h⟩:=lett_ok h
                        obtain ⟨hp3,h⟩:=chk_ok h
                        obtain ⟨z4,hz14,h⟩:=lett_ok h
                        obtain ⟨hp4,h⟩:=chk_ok h
                        obtain ⟨l1,hl1,h⟩:=lett_ok h
                        refine T_drawX_end mixed 18 (.take 0 (.take 1 (.take 3 (.take 7 (.take 11 (.all (.alt 2 (.all (.alt 4 (.all (.alt 5 (.take 6 (.take 8 (.all (.alt 9 (.all (.alt 10 (.all (.alt 12 (.take 13 (.all (.alt 14 (.all (.alt 15 (.all (.alt 16 (.take 17 .done) .stop)) .stop)) .stop))) .stop)) (.alt 12 (.take 13 (.all (.alt 10 (.all (.alt 14 (.all (.alt 15 (.all (.alt 16 (.take 17 .done) .stop)) .stop)) .stop)) .stop))) .stop))) (.alt 12 (.take 13 (.all (.alt 9 (.all (.alt 10 (.all (.alt 14 (.all (.alt 15 (.all (.alt 16 (.take 17 .done) .stop)) .stop)) .stop)) .stop)) .stop))) .stop))))) (.alt 12 (.take 13 (.all (.alt 5 (.take 6 (.take 8 (.all (.alt 9 (.all (.alt 10 (.all (.alt 14 (.all (.alt 15 (.all (.alt 16 (.take 17 .done) .stop)) .stop)) .stop)) .stop)) .stop)))) .stop))) .stop))) (.alt 12 (.take 13 (.all (.alt 4 (.all (.alt 5 (.take 6 (.take 8 (.all (.alt 9 (.all (.alt 10 (.all (.alt 14 (.all (.alt 15 (.all (.alt 16 (.take 17 .done) .stop)) .stop)) .stop)) .stop)) .stop)))) .stop)) .stop))) .stop))) (.alt 4 (.all (.alt 2 (.all (.alt 5 (.take 6 (.take 8 (.all (.alt 9 (.all (.alt 10 (.all (.alt 12 (.take 13 (.all (.alt 14 (.all (.alt 15 (.all (.alt 16 (.take 17 .done) .stop)) .stop)) .stop))) .stop)) (.alt 12 (.take 13 (.all (.alt 10 (.all (.alt 14 (.all (.alt 15 (.all (.alt 16 (.take 17 .done) .stop)) .stop)) .stop)) .stop))) .stop))) (.alt 12 (.take 13 (.all (.alt 9 (.all (.alt 10 (.all (.alt 14 (.all (.alt 15 (.all (.alt 16 (.take 17 .done) .stop)) .stop)) .stop)) .stop)) .stop))) .stop))))) (.alt 12 (.take 13 (.all (.alt 5 (.take 6 (.take 8 (.all (.alt 9 (.all (.alt 10 (.all (.alt 14 (.all (.alt 15 (.all (.alt 16 (.take 17 .done) .stop)) .stop)) .stop)) .stop)) .stop)))) .stop))) .stop))) (.alt 5 (.take 6 (.take 8 (.all (.alt 2 (.all (.alt 9 (.all (.alt 10 (.all (.alt 12 (.take 13 (.all (.alt 14 (.all (.alt 15 (.all (.alt 16 (.take 17 .done) .stop)) .stop)) .stop))) .stop)) (.alt 12 (.take 13 (.all (.alt 10 (.all (.alt 14 (.all (.alt 15 (.all (.alt 16 (.take 17 .done) .stop)) .stop)) .stop)) .stop))) .stop))) (.alt 12 (.take 13 (.all (.alt 9 (.all (.alt 10 (.all (.alt 14 (.all (.alt 15 (.all (.alt 16 (.take 17 .done) .stop)) .stop)) .stop)) .stop)) .stop))) .stop))) (.alt 12 (.take 13 (.all (.alt 2 (.all (.alt 9 (.all (.alt 10 (.all (.alt 14 (.all (.alt 15 (.all (.alt 16 (.take 17 .done) .stop)) .stop)) .stop)) .stop)) .stop)) .stop))) .stop))))) (.alt 12 (.take 13 (.all (.alt 2 (.all (.alt 5 (.take 6 (.take 8 (.all (.alt 9 (.all (.alt 10 (.all (.alt 14 (.all (.alt 15 (.all (.alt 16 (.take 17 .done) .stop)) .stop)) .stop)) .stop)) .stop)))) .stop)) (.alt 5 (.take 6 (.take 8 (.all (.alt 2 (.all (.alt 9 (.all (.alt 10 (.all (.alt 14 (.all (.alt 15 (.all (.alt 16 (.take 17 .done) .stop)) .stop)) .stop)) .stop)) .stop)) .stop)))) .stop)))) .stop)))) (.alt 12 (.take 13 (.all (.alt 2 (.all (.alt 4 (.all (.alt 5 (.take 6 (.take 8 (.all (.alt 9 (.all (.alt 10 (.all (.alt 14 (.all (.alt 15 (.all (.alt 16 (.take 17 .done) .stop)) .stop)) .stop)) .stop)) .stop)))) .stop)) .stop)) (.alt 4 (.all (.alt 2 (.all (.alt 5 (.take 6 (.take 8 (.all (.alt 9 (.all (.alt 10 (.all (.alt 14 (.all (.alt 15 (.all (.alt 16 (.take 17 .done) .stop)) .stop)) .stop)) .stop)) .stop)))) .stop)) (.alt 5 (.take 6 (.take 8 (.all (.alt 2 (.all (.alt 9 (.all (.alt 10 (.all (.alt 14 (.all (.alt 15 (.all (.alt 16 (.take 17 .done) .stop)) .stop)) .stop)) .stop)) .stop)) .stop)))) .stop))) .stop)))) .stop))))))))) ([0,0,2,0,8,16,32,0,192,260,512,0,2048,4096,9216,16384,32769,131071],[0,0,2,0,8,16,32,0,192,260,512,0,2048,4096,9216,16384,32769,65537]) 141771 [(2,{ rw:=some (.d (.sl 5 (z2.map rS_PrepressCond))) }),(4,{ rw:=some (.d (.sl 5 (z3.map rS_PrepressCond))) }),(5,{ rw:=some (dI (z3.length:Int)) }),(9,{ cs:=cS_PrepressCond (z2.getD (IntKind.i64.wrap ((IntKind.i64.wrap ((z3.length:Int) - (1:Int))) - v3)).toNat z_PrepressCond) }),(12,{ rw:=some (dI z4) }),(15,{ es:=some (([(S_ref3_wait.mk (z2.getD (IntKind.i64.wrap ((IntKind.i64.wrap ((z3.length:Int) - (1:Int))) - v3)).toNat z_PrepressCond) (IntKind.i64.wrap (z4+(1:Int))))]).map cS_ref3_wait) }),(16,{ es:=some (l1.map cS_ref3_wait) })] [3,4,5,6,78,79] [] [(3,oW6 l1),(4,dI v4),(5,.box [dI (((v1.getD (IntKind.i64.wrap ((v1.length:Int) - (1:Int))).toNat z_ref3_wait).f0).f0),.d (.sl 2 ((((v1.getD (IntKind.i64.wrap ((v1.length:Int) - (1:Int))).toNat z_ref3_wait).f0).f1).map cS_PrepressTerm)),dI (((v1.getD (IntKind.i64.wrap ((v1.length:Int) - (1:Int))).toNat z_ref3_wait).f0).f2),dI (((v1.getD (IntKind.i64.wrap ((v1.length:Int) - (1:Int))).toNat z_ref3_wait).f0).f3),.d (.sl 5 ((((v1.getD (IntKind.i64.wrap ((v1.length:Int) - (1:Int))).toNat z_ref3_wait).f0).f4).map rS_PrepressCond)),dI ((v1.getD (IntKind.i64.wrap ((v1.length:Int) - (1:Int))).toNat z_ref3_wait).f1)]),(6,.box [dI (((v1.getD (IntKind.i64.wrap ((v1.length:Int) - (1:Int))).toNat z_ref3_wait).f0).f0),.d (.sl 2 ((((v1.getD (IntKind.i64.wrap ((v1.length:Int) - (1:Int))).toNat z_ref3_wait).f0).f1).map cS_PrepressTerm)),dI (((v1.getD (IntKind.i64.wrap ((v1.length:Int) - (1:Int))).toNat z_ref3_wait).f0).f2),dI (((v1.getD (IntKind.i64.wrap ((v1.length:Int) - (1:Int))).toNat z_ref3_wait).f0).f3),.d (.sl 5 ((((v1.getD (IntKind.i64.wrap ((v1.length:Int) - (1:Int))).toNat z_ref3_wait).f0).f4).map rS_PrepressCond))]),(78,dI (z1.length:Int)),(79,dI v3)] ((fun (o2:Prop)=>fun (o4:Prop)=>fun (o5:Prop)=>fun (o9:Prop)=>fun (o12:Prop)=>fun (o15:Prop)=>fun (o16:Prop)=>[(5,o2),(0,o4),(0,o5),(2,o9),(1,o12),(2,o15),(0,o16),(1,o12),(3,o15),(0,o16),(1,o12),(1,o9),(2,o15),(0,o16),(1,o12),(1,o5),(2,o9),(2,o15),(0,o16),(1,o12),(1,o4),(0,o5),(2,o9),(2,o15),(0,o16),(1,o4),(0,o2),(0,o5),(2,o9),(1,o12),(2,o15),(0,o16),(1,o12),(3,o15),(0,o16),(1,o12),(1,o9),(2,o15),(0,o16),(1,o12),(1,o5),(2,o9),(2,o15),(0,o16),(1,o5),(2,o2),(0,o9),(1,o12),(2,o15),(0,o16),(1,o12),(3,o15),(0,o16),(1,o12),(1,o9),(2,o15),(0,o16),(1,o12),(1,o2),(0,o9),(2,o15),(0,o16),(1,o12),(1,o2),(0,o5),(2,o9),(2,o15),(0,o16),(1,o5),(2,o2),(0,o9),(2,o15),(0,o16),(1,o12),(1,o2),(0,o4),(0,o5),(2,o9),(2,o15),(0,o16),(1,o4),(0,o2),(0,o5),(2,o9),(2,o15),(0,o16),(1,o5),(2,o2),(0,o9),(2,o15),(0,o16)]) ((True)∧AV.d (.sl 5 ((((v1.getD (IntKind.i64.wrap ((v1.length:Int) - (1:Int))).toNat z_ref3_wait).f0).f4).map rS_PrepressCond))=.d (.sl 5 (z2.map rS_PrepressCond))) ((True)∧AV.d (.sl 5 ((((v1.getD (IntKind.i64.wrap ((v1.length:Int) - (1:Int))).toNat z_ref3_wait).f0).f4).map rS_PrepressCond))=.d (.sl 5 (z3.map rS_PrepressCond))) (True∧dI ((z3.map rS_PrepressCond).length:Int)=dI (z3.length:Int)) (0≤(IntKind.i64.wrap ((IntKind.i64.wrap ((z3.length:Int) - (1:Int))) - v3))∧(z2.map rS_PrepressCond)[(IntKind.i64.wrap ((IntKind.i64.wrap ((z3.length:Int) - (1:Int))) - v3)).toNat]? = some (cS_PrepressCond (z2.getD (IntKind.i64.wrap ((IntKind.i64.wrap ((z3.length:Int) - (1:Int))) - v3)).toNat z_PrepressCond))) ((True)∧dI ((v1.getD (IntKind.i64.wrap ((v1.length:Int) - (1:Int))).toNat z_ref3_wait).f1)=dI z4) ((([(S_ref3_wait.mk (z2.getD (IntKind.i64.wrap ((IntKind.i64.wrap ((z3.length:Int) - (1:Int))) - v3)).toNat z_PrepressCond) (IntKind.i64.wrap (z4+(1:Int))))]).map cS_ref3_wait)=(([(S_ref3_wait.mk (z2.getD (IntKind.i64.wrap ((IntKind.i64.wrap ((z3.length:Int) - (1:Int))) - v3)).toNat z_PrepressCond) (IntKind.i64.wrap (z4+(1:Int))))]).map cS_ref3_wait)) ((v2.map cS_ref3_wait).length+(([(S_ref3_wait.mk (z2.getD (IntKind.i64.wrap ((IntKind.i64.wrap ((z3.length:Int) - (1:Int))) - v3)).toNat z_PrepressCond) (IntKind.i64.wrap (z4+(1:Int))))]).map cS_ref3_wait).length≤4294967296∧(v2.map cS_ref3_wait)++(([(S_ref3_wait.mk (z2.getD (IntKind.i64.wrap ((IntKind.i64.wrap ((z3.length:Int) - (1:Int))) - v3)).toNat z_PrepressCond) (IntKind.i64.wrap (z4+(1:Int))))]).map cS_ref3_wait)=(l1.map cS_ref3_wait))) 1 (by kernel_rfl) (by kernel_rfl) (by kernel_rfl) (have p2:=⟨trivial,(by subst hz12; rfl)⟩; have p4:=⟨trivial,(by subst hz13; rfl)⟩; have p5:=len_ok rS_PrepressCond; have p9:=idx_okR (d:=z_PrepressCond) rS_PrepressCond_eq hp3; have p12:=⟨trivial,(by subst hz14; rfl)⟩; have p15:=rfl; have p16:=and_trans (app_ok cS_ref3_wait hp4) (by subst hl1; rfl); ⟨p2,p4,p5,p9,p12,p15,p16,p12,p15,p16,p12,p9,p15,p16,p12,p5,p9,p15,p16,p12,p4,p5,p9,p15,p16,p4,p2,p5,p9,p12,p15,p16,p12,p15,p16,p12,p9,p15,p16,p12,p5,p9,p15,p16,p5,p2,p9,p12,p15,p16,p12,p15,p16,p12,p9,p15,p16,p12,p2,p9,p15,p16,p12,p2,p5,p9,p15,p16,p5,p2,p9,p15,p16,p12,p2,p4,p5,p9,p15,p16,p4,p2,p5,p9,p15,p16,p5,p2,p9,p15,p16⟩) fun a w hm=>inBlock_norm (then_norm (((?_:T Tryz.prog e 100 _ _ _) a w hm)))
                        refine T_reg_end [] [3,4,5,6,78,79] [(79,dI (IntKind.i64.wrap (v3+(1:Int))))] [] 2 (by kernel_rfl) (trivial) fun a w hm=>then_norm (⟨(l1,IntKind.i64.wrap (v3+(1:Int))),h,hm.co (cs:=[.keep [3,4,5,6,78,79]]) (by show _=_; kernel_rfl)⟩)
                      · have h:=cond_ff hc h
                        obtain hs:=Option.some.inj h; subst hs
                        refine T_exit fun a w hm=>then_exit (then_exit (inBlock_exit (then_norm (hm.co (cs:=[.keep [3,4]]) (by show _=_; kernel_rfl)))))
                    · skip
                      obtain hs:=Option.some.inj h; subst hs
                      refine fun a w hm=>inBlock_norm (then_norm (⟨_,rfl,hm.co (cs:=[.keep [3,4]]) (by show _=_; kernel_rfl)⟩))
      · skip
        refine T_reg_end [] [3,4] [(4,dI (IntKind.i64.wrap (v4+(1:Int))))] [] 3 (by kernel_rfl) (trivial) fun a w hm=>then_norm (⟨(v7,IntKind.i64.wrap (v4+(1:Int))),h,hm.co (cs:=[.keep [3,4]]) (by show _=_; kernel_rfl)⟩)
    · have h:=cond_ff hc h
      obtain hs:=Option.some.inj h; subst hs
      refine T_exit fun a w hm=>then_exit (then_exit (inBlock_exit (then_norm (⟨_,rfl,hm.co (cs:=[.keep []]) (by show _=_; kernel_rfl)⟩))))
  · skip
    refine fun a w hm=>then_norm (((?_:T Tryz.prog e 100 _ _ _) a w hm))
    refine T_reg [] [2] [(2,dI (0:Int))] [] 1 (by kernel_rfl) (trivial) ?_
    obtain hs:=Option.some.inj h; subst hs
    refine T_ret fun a w hm=>T_return (fr':=[(2,dI (0:Int))]) [2] (by kernel_rfl) [.keep [2]] (by kernel_rfl) (by kernel_rfl) (by kernel_rfl) (by show _=_; kernel_rfl) (by exact trivial) a w hm
theorem ref3_condText_c1_ok {F:Nat} {rec_ref3_condText:S_PrepressCond→Option ((List UInt8))} (hrec_ref3_condText:∀ {a0:S_PrepressCond},∀ {r:(List UInt8)},rec_ref3_condText a0=some r→ACall Tryz.prog 31 [.agg (cS_PrepressCond a0)] [] (.d (.str r)) []) {a0:S_PrepressCond} {a1:Bool} {r:(List UInt8)} (h:ref3_condText_c1 F rec_ref3_condText a0 a1=some r):ACall Tryz.prog 54 [.agg (cS_PrepressCond a0),.d (.v (.bool a1))] [] (.d (.str r)) []:=by
  rw [ref3_condText_c1] at h
  refine ACall.intro (N:=12) Tryz.func54 rfl rfl rfl rfl rfl fun e=>?_
  refine T_reg [] [1,2] [(2,bx_PrepressCond a0)] [] 2 (by kernel_rfl) (trivial) ?_
  refine T_seqk ?_
  refine T_reg [] [2,5] [(5,dB a1)] [] 1 (by kernel_rfl) (trivial) ?_
  refine T_cond a1 (by kernel_rfl) (fun hc=>?_) (fun hc=>?_)
  · have h:=cond_tt hc h
    obtain ⟨y1,hy1,h⟩:=call_ok h
    obtain ⟨hp1,h⟩:=chk_ok h
    obtain ⟨hp2,h⟩:=chk_ok h
    refine T_reg [(1,{ res:=.d (.str y1) })] [4] [(4,.d (.str ((([40]:List UInt8)++y1)++([41]:List UInt8))))] [(1,ACall Tryz.prog 31 [.agg (cS_PrepressCond a0)] [] (.d (.str y1)) []),(0,([40]:List UInt8).length+y1.length≤9223372036854775807),(0,(([40]:List UInt8)++y1).length+([41]:List UInt8).length≤9223372036854775807)] 1 (by kernel_rfl) (⟨hrec_ref3_condText hy1,hp1,hp2⟩) ?_
    obtain hs:=Option.some.inj h; subst hs
    refine T_ret fun a w hm=>then_ret (T_return (fr':=[(4,.d (.str ((([40]:List UInt8)++y1)++([41]:List UInt8))))]) [4] (by kernel_rfl) [.keep [4]] (by kernel_rfl) (by kernel_rfl) (by kernel_rfl) (by show _=_; kernel_rfl) (by exact trivial) a w hm)
  · have h:=cond_ff hc h
    refine T_skip fun a w hm=>then_norm (((?_:T Tryz.prog e 12 _ _ _) a w hm))
    obtain ⟨y2,hy2,h⟩:=call_ok h
    refine T_reg [(1,{ res:=.d (.str y2) })] [4] [(4,.d (.str y2))] [(1,ACall Tryz.prog 31 [.agg (cS_PrepressCond a0)] [] (.d (.str y2)) [])] 1 (by kernel_rfl) (hrec_ref3_condText hy2) ?_
    obtain hs:=Option.some.inj h; subst hs
    refine T_ret fun a w hm=>T_return (fr':=[(4,.d (.str y2))]) [4] (by kernel_rfl) [.keep [4]] (by kernel_rfl) (by kernel_rfl) (by kernel_rfl) (by show _=_; kernel_rfl) (by exact trivial) a w hm
theorem ref3_Decimal_ok {F:Nat} {a0:Int} {r:(List UInt8)} (h:ref3_Decimal F a0=some r):ACall Tryz.prog 55 [.d (.v (.int .i64 a0))] [] (.d (.str r)) []:=by
  rw [ref3_Decimal] at h
  refine ACall.intro (N:=31) Tryz.func55 rfl rfl rfl rfl rfl fun e=>?_
  refine T_reg [] [0] [] [] 1 (by kernel_rfl) (trivial) ?_
  refine T_seqk ?_
  refine T_reg [] [0,7] [(7,dB (a0 == (0:Int)))] [] 2 (by kernel_rfl) (trivial) ?_
  refine T_cond (a0 == (0:Int)) (by kernel_rfl) (fun hc=>?_) (fun hc=>?_)
  · have h:=cond_tt hc h
    refine T_reg [] [2] [(2,.d (.str ([48]:List UInt8)))] [] 1 (by kernel_rfl) (trivial) ?_
    obtain hs:=Option.some.inj h; subst hs
    refine T_ret fun a w hm=>then_ret (T_return (fr':=[(2,.d (.str ([48]:List UInt8)))]) [2] (by kernel_rfl) [.keep [2]] (by kernel_rfl) (by kernel_rfl) (by kernel_rfl) (by show _=_; kernel_rfl) (by exact trivial) a w hm)
  · have h:=cond_ff hc h
    refine T_skip fun a w hm=>then_norm (((?_:T Tryz.prog e 31 _ _ _) a w hm))
    refine T_reg [] [0,3,4] [(3,.d (.str [])),(4,dB (decide (a0 < (0:Int))))] [] 4 (by kernel_rfl) (trivial) ?_
    refine T_joinc h (fun (p:(List UInt8))=>[(3,.d (.str p)),(4,dB (decide (a0 < (0:Int))))]) (fun s h=>?_) (fun v4 h=>?_)
    · refine T_co [.keep [0,3,4]] ((fun (p:Int×(List UInt8))=>[(0,dI p.1),(3,.d (.str p.2)),(4,dB (decide (a0 < (0:Int))))]) (a0,[])) (by show _=_; kernel_rfl) ?_
      refine T_block ?_
      refine T_loopF (ι:=Int×(List UInt8)) (fun (p:Int×(List UInt8))=>[(0,dI p.1),(3,.d (.str p.2)),(4,dB (decide (a0 < (0:Int))))]) (fun n p=>ref3_Decimal_L0 F n p.1 p.2=some s) (fun i hh=>by simp [ref3_Decimal_L0] at hh) (fun n p h=>?_) F (a0,[]) h
      obtain ⟨v1,v2⟩:=p
      have h:ref3_Decimal_L0 F (n+1) v1 v2=some s:=h
      rw [ref3_Decimal_L0] at h
      refine T_seqk ?_
      refine T_reg [] [0,3,4,11] [(11,dB (v1 != (0:Int)))] [] 2 (by kernel_rfl) (trivial) ?_
      refine T_cond (v1 != (0:Int)) (by kernel_rfl) (fun hc=>?_) (fun hc=>?_)
      · have h:=cond_tt hc h
        refine T_skip fun a w hm=>then_norm (((?_:T Tryz.prog e 31 _ _ _) a w hm))
        refine T_block ?_
        refine T_reg [] [0,3,4,5] [(5,dI (v1.tmod (10:Int)))] [(1,(10:Int)≠0)] 1 (by kernel_rfl) ((show (10:Int)≠0 by decide)) ?_
        refine T_joinc h (fun (p:Int)=>[(0,dI v1),(3,.d (.str v2)),(4,dB (decide (a0 < (0:Int)))),(5,dI p)]) (fun s h=>?_) (fun v3 h=>?_)
        · refine T_reg [] [0,3,4,5,15] [(15,dB (decide ((v1.tmod (10:Int)) < (0:Int))))] [] 2 (by kernel_rfl) (trivial) ?_
          refine T_cond (decide ((v1.tmod (10:Int)) < (0:Int))) (by kernel_rfl) (fun hc=>?_) (fun hc=>?_)
          · have h:=cond_tt hc h
            obtain hs:=Option.some.inj h; subst hs
            refine T_reg_end [] [0,3,4,5] [(5,dI (IntKind.i64.wrap (0 - (v1.tmod (10:Int)))))] [] 3 (by kernel_rfl) (trivial) fun a w hm=>then_norm (hm.co (cs:=[.keep [0,3,4,5]]) (by show _=_; kernel_rfl))
          · have h:=cond_ff hc h
            obtain hs:=Option.some.inj h; subst hs
            refine T_skip fun a w hm=>then_norm (hm.co (cs:=[.keep [0,3,4,5]]) (by show _=_; kernel_rfl))
        · skip
          obtain ⟨hp1,h⟩:=chk_ok h
          obtain ⟨hp2,h⟩:=chk_ok h
          refine T_reg [(3,{ es:=some (([(UInt8.ofNat (IntKind.u8.wrap (IntKind.i64.wrap ((48:Int)+v3))).toNat)]).map cU) }),(4,{ cs:=[.str ([(UInt8.ofNat (IntKind.u8.wrap (IntKind.i64.wrap ((48:Int)+v3))).toNat)])] })] [0,3,4] [(3,.d (.str (([(UInt8.ofNat (IntKind.u8.wrap (IntKind.i64.wrap ((48:Int)+v3))).toNat)])++v2)))] [(3,[[Dat.v (.int .u8 (IntKind.u8.wrap (IntKind.i64.wrap ((48:Int)+v3))))]]=(([(UInt8.ofNat (IntKind.u8.wrap (IntKind.i64.wrap ((48:Int)+v3))).toNat)]).map cU)),(0,(([(UInt8.ofNat (IntKind.u8.wrap (IntKind.i64.wrap ((48:Int)+v3))).toNat)]).map cU)=byteCells ([(UInt8.ofNat (IntKind.u8.wrap (IntKind.i64.wrap ((48:Int)+v3))).toNat)])),(1,([(UInt8.ofNat (IntKind.u8.wrap (IntKind.i64.wrap ((48:Int)+v3))).toNat)]).length+v2.length≤9223372036854775807)] 1 (by kernel_rfl) (⟨(lit_u hp1 (rfl:([]:List (List Dat))=([]:List UInt8).map cU)),rfl,hp2⟩) ?_
          refine T_reg_end [] [0,3,4] [(0,dI (IntKind.i64.wrap (v1.tdiv (10:Int))))] [(1,(10:Int)≠0)] 1 (by kernel_rfl) ((show (10:Int)≠0 by decide)) fun a w hm=>inBlock_norm (then_norm (⟨(IntKind.i64.wrap (v1.tdiv (10:Int)),(([(UInt8.ofNat (IntKind.u8.wrap (IntKind.i64.wrap ((48:Int)+v3))).toNat)])++v2)),h,hm.co (cs:=[.keep [0,3,4]]) (by show _=_; kernel_rfl)⟩))
      · have h:=cond_ff hc h
        obtain hs:=Option.some.inj h; subst hs
        refine T_exit fun a w hm=>then_exit (then_exit (inBlock_exit (then_norm (hm.co (cs:=[.keep [3,4]]) (by show _=_; kernel_rfl)))))
    · skip
      refine T_seqk ?_
      refine T_reg [] [3,27] [(27,dB (decide (a0 < (0:Int))))] [] 1 (by kernel_rfl) (trivial) ?_
      refine T_cond (decide (a0 < (0:Int))) (by kernel_rfl) (fun hc=>?_) (fun hc=>?_)
      · have h:=cond_tt hc h
        obtain ⟨hp3,h⟩:=chk_ok h
        refine T_reg [] [2] [(2,.d (.str (([45]:List UInt8)++v4)))] [(1,([45]:List UInt8).length+v4.length≤9223372036854775807)] 1 (by kernel_rfl) (hp3) ?_
        obtain hs:=Option.some.inj h; subst hs
        refine T_ret fun a w hm=>then_ret (T_return (fr':=[(2,.d (.str (([45]:List UInt8)++v4)))]) [2] (by kernel_rfl) [.keep [2]] (by kernel_rfl) (by kernel_rfl) (by kernel_rfl) (by show _=_; kernel_rfl) (by exact trivial) a w hm)
      · have h:=cond_ff hc h
        refine T_skip fun a w hm=>then_norm (((?_:T Tryz.prog e 31 _ _ _) a w hm))
        refine T_reg [] [2] [(2,.d (.str v4))] [] 2 (by kernel_rfl) (trivial) ?_
        obtain hs:=Option.some.inj h; subst hs
        refine T_ret fun a w hm=>T_return (fr':=[(2,.d (.str v4))]) [2] (by kernel_rfl) [.keep [2]] (by kernel_rfl) (by kernel_rfl) (by kernel_rfl) (by show _=_; kernel_rfl) (by exact trivial) a w hm
set_option maxHeartbeats 8000000 in
set_option maxRecDepth 100000 in
theorem ref3_condText_body_ok {F:Nat} {rec_ref3_condText:S_PrepressCond→Option ((List UInt8))} (hrec_ref3_condText:∀ {a0:S_PrepressCond},∀ {r:(List UInt8)},rec_ref3_condText a0=some r→ACall Tryz.prog 31 [.agg (cS_PrepressCond a0)] [] (.d (.str r)) []) {a0:S_PrepressCond} {r:(List UInt8)} (h:ref3_condText_body F rec_ref3_condText a0=some r):ACall Tryz.prog 31 [.agg (cS_PrepressCond a0)] [] (.d (.str r)) []:=by
  rw [ref3_condText_body] at h
  refine ACall.intro (N:=128) Tryz.func31 rfl rfl rfl rfl rfl fun e=>?_
  refine T_reg [] [1] [(1,bx_PrepressCond a0)] [] 2 (by kernel_rfl) (trivial) ?_
  refine T_reg [] [1,3] [(3,.clo 54 [])] [] 1 (by kernel_rfl) (trivial) ?_
  refine T_seqk ?_
  refine T_reg [] [1,3,11] [(11,dI a0.f0)] [] 2 (by kernel_rfl) (trivial) ?_
  refine T_block ?_
  refine T_reg [] [1,3,11,12] [(12,dB (a0.f0 == (1:Int)))] [] 2 (by kernel_rfl) (trivial) ?_
  refine T_cond (a0.f0 == (1:Int)) (by kernel_rfl) (fun hc=>?_) (fun hc=>?_)
  · have h:=cond_tt hc h
    obtain ⟨hp1,h⟩:=chk_ok h
    obtain ⟨hp2,h⟩:=chk_ok h
    obtain ⟨y2,hy1,h⟩:=call_ok h
    obtain ⟨hp3,h⟩:=chk_ok h
    refine T_drawX mixed 35 (.take 0 (.take 1 (.take 5 (.all (.alt 2 (.all (.alt 3 (.all (.alt 4 (.all (.alt 6 (.all (.alt 7 (.all (.alt 8 (.all (.alt 9 (.take 10 (.all (.alt 11 (.take 12 (.take 13 .done)) .stop))) .stop)) .stop)) .stop)) .stop)) (.alt 6 (.all (.alt 4 (.all (.alt 7 (.all (.alt 8 (.all (.alt 9 (.take 10 (.all (.alt 11 (.take 12 (.take 13 .done)) .stop))) .stop)) .stop)) .stop)) (.alt 7 (.all (.alt 4 (.all (.alt 8 (.all (.alt 9 (.take 10 (.all (.alt 11 (.take 12 (.take 13 .done)) .stop))) .stop)) .stop)) (.alt 8 (.all (.alt 4 (.all (.alt 9 (.take 10 (.all (.alt 11 (.take 12 (.take 13 .done)) .stop))) .stop)) (.alt 9 (.take 10 (.all (.alt 4 (.all (.alt 11 (.take 12 (.take 13 .done)) .stop)) .stop))) .stop))) .stop))) .stop))) .stop))) (.alt 6 (.all (.alt 3 (.all (.alt 4 (.all (.alt 7 (.all (.alt 8 (.all (.alt 9 (.take 10 (.all (.alt 11 (.take 12 (.take 13 .done)) .stop))) .stop)) .stop)) .stop)) (.alt 7 (.all (.alt 4 (.all (.alt 8 (.all (.alt 9 (.take 10 (.all (.alt 11 (.take 12 (.take 13 .done)) .stop))) .stop)) .stop)) (.alt 8 (.all (.alt 4 (.all (.alt 9 (.take 10 (.all (.alt 11 (.take 12 (.take 13 .done)) .stop))) .stop)) (.alt 9 (.take 10 (.all (.alt 4 (.all (.alt 11 (.take 12 (.take 13 .done)) .stop)) .stop))) .stop))) .stop))) .stop))) (.alt 7 (.all (.alt 3 (.all (.alt 4 (.all (.alt 8 (.all (.alt 9 (.take 10 (.all (.alt 11 (.take 12 (.take 13 .done)) .stop))) .stop)) .stop)) (.alt 8 (.all (.alt 4 (.all (.alt 9 (.take 10 (.all (.alt 11 (.take 12 (.take 13 .done)) .stop))) .stop)) (.alt 9 (.take 10 (.all (.alt 4 (.all (.alt 11 (.take 12 (.take 13 .done)) .stop)) .stop))) .stop))) .stop))) (.alt 8 (.all (.alt 3 (.all (.alt 4 (.all (.alt 9 (.take 10 (.all (.alt 11 (.take 12 (.take 13 .done)) .stop))) .stop)) (.alt 9 (.take 10 (.all (.alt 4 (.all (.alt 11 (.take 12 (.take 13 .done)) .stop)) .stop))) .stop))) (.alt 9 (.take 10 (.all (.alt 3 (.all (.alt 4 (.all (.alt 11 (.take 12 (.take 13 .done)) .stop)) .stop)) .stop))) .stop))) .stop))) .stop))) .stop))) (.alt 6 (.all (.alt 2 (.all (.alt 3 (.all (.alt 4 (.all (.alt 7 (.all (.alt 8 (.all (.alt 9 (.take 10 (.all (.alt 11 (.take 12 (.take 13 .done)) .stop))) .stop)) .stop)) .stop)) (.alt 7 (.all (.alt 4 (.all (.alt 8 (.all (.alt 9 (.take 10 (.all (.alt 11 (.take 12 (.take 13 .done)) .stop))) .stop)) .stop)) (.alt 8 (.all (.alt 4 (.all (.alt 9 (.take 10 (.all (.alt 11 (.take 12 (.take 13 .done)) .stop))) .stop)) (.alt 9 (.take 10 (.all (.alt 4 (.all (.alt 11 (.take 12 (.take 13 .done)) .stop)) .stop))) .stop))) .stop))) .stop))) (.alt 7 (.all (.alt 3 (.all (.alt 4 (.all (.alt 8 (.all (.alt 9 (.take 10 (.all (.alt 11 (.take 12 (.take 13 .done)) .stop))) .stop)) .stop)) (.alt 8 (.all (.alt 4 (.all (.alt 9 (.take 10 (.all (.alt 11 (.take 12 (.take 13 .done)) .stop))) .stop)) (.alt 9 (.take 10 (.all (.alt 4 (.all (.alt 11 (.take 12 (.take 13 .done)) .stop)) .stop))) .stop))) .stop))) (.alt 8 (.all (.alt 3 (.all (.alt 4 (.all (.alt 9 (.take 10 (.all (.alt 11 (.take 12 (.take 13 .done)) .stop))) .stop)) (.alt 9 (.take 10 (.all (.alt 4 (.all (.alt 11 (.take 12 (.take 13 .done)) .stop)) .stop))) .stop))) (.alt 9 (.take 10 (.all (.alt 3 (.all (.alt 4 (.all (.alt 11 (.take 12 (.take 13 .done)) .stop)) .stop)) .stop))) .stop))) .stop))) .stop))) (.alt 7 (.all (.alt 2 (.all (.alt 3 (.all (.alt 4 (.all (.alt 8 (.all (.alt 9 (.take 10 (.all (.alt 11 (.take 12 (.take 13 .done)) .stop))) .stop)) .stop)) (.alt 8 (.all (.alt 4 (.all (.alt 9 (.take 10 (.all (.alt 11 (.take 12 (.take 13 .done)) .stop))) .stop)) (.alt 9 (.take 10 (.all (.alt 4 (.all (.alt 11 (.take 12 (.take 13 .done)) .stop)) .stop))) .stop))) .stop))) (.alt 8 (.all (.alt 3 (.all (.alt 4 (.all (.alt 9 (.take 10 (.all (.alt 11 (.take 12 (.take 13 .done)) .stop))) .stop)) (.alt 9 (.take 10 (.all (.alt 4 (.all (.alt 11 (.take 12 (.take 13 .done)) .stop)) .stop))) .stop))) (.alt 9 (.take 10 (.all (.alt 3 (.all (.alt 4 (.all (.alt 11 (.take 12 (.take 13 .done)) .stop)) .stop)) .stop))) .stop))) .stop))) (.alt 8 (.all (.alt 2 (.all (.alt 3 (.all (.alt 4 (.all (.alt 9 (.take 10 (.all (.alt 11 (.take 12 (.take 13 .done)) .stop))) .stop)) (.alt 9 (.take 10 (.all (.alt 4 (.all (.alt 11 (.take 12 (.take 13 .done)) .stop)) .stop))) .stop))) (.alt 9 (.take 10 (.all (.alt 3 (.all (.alt 4 (.all (.alt 11 (.take 12 (.take 13 .done)) .stop)) .stop)) .stop))) .stop))) (.alt 9 (.take 10 (.all (.alt 2 (.all (.alt 3 (.all (.alt 4 (.all (.alt 11 (.take 12 (.take 13 .done)) .stop)) .stop)) .stop)) .stop))) .stop))) .stop))) .stop))) .stop)))))) ([0,0,2,4,8,0,32,64,128,256,512,1041,2048,8191],[0,0,2,4,8,0,32,64,128,256,512,1041,2048,4096]) 13347 [(3,{ cs:=cS_PrepressCond (a0.f4.getD (0:Int).toNat z_PrepressCond) }),(7,{ cs:=cS_PrepressCond (a0.f4.getD (0:Int).toNat z_PrepressCond) }),(11,{ res:=.d (.str y2) })] [2] [] [(2,.d (.str (([110,111,116,32]:List UInt8)++y2)))] ((fun (o3:Prop)=>fun (o7:Prop)=>fun (o11:Prop)=>fun (o12:Prop)=>[(4,o3),(2,o7),(3,o11),(0,o12),(3,o7),(3,o11),(0,o12),(1,o7),(4,o11),(0,o12),(5,o11),(0,o12),(4,o11),(0,o12),(2,o3),(1,o7),(3,o11),(0,o12),(1,o7),(4,o11),(0,o12),(5,o11),(0,o12),(4,o11),(0,o12),(1,o7),(0,o3),(4,o11),(0,o12),(5,o11),(0,o12),(4,o11),(0,o12),(2,o3),(3,o11),(0,o12),(4,o11),(0,o12),(3,o3),(1,o11),(0,o12),(3,o3),(1,o7),(3,o11),(0,o12),(1,o7),(4,o11),(0,o12),(5,o11),(0,o12),(4,o11),(0,o12),(1,o7),(0,o3),(4,o11),(0,o12),(5,o11),(0,o12),(4,o11),(0,o12),(2,o3),(3,o11),(0,o12),(4,o11),(0,o12),(3,o3),(1,o11),(0,o12),(1,o7),(1,o3),(4,o11),(0,o12),(5,o11),(0,o12),(4,o11),(0,o12),(2,o3),(3,o11),(0,o12),(4,o11),(0,o12),(3,o3),(1,o11),(0,o12),(3,o3),(3,o11),(0,o12),(4,o11),(0,o12),(3,o3),(1,o11),(0,o12),(4,o3),(1,o11),(0,o12)]) (0≤(0:Int)∧(a0.f4.map rS_PrepressCond)[(0:Int).toNat]? = some (cS_PrepressCond (a0.f4.getD (0:Int).toNat z_PrepressCond))) (0≤(0:Int)∧(a0.f4.map rS_PrepressCond)[(0:Int).toNat]? = some (cS_PrepressCond (a0.f4.getD (0:Int).toNat z_PrepressCond))) (ACall Tryz.prog 54 [.agg (cS_PrepressCond (a0.f4.getD (0:Int).toNat z_PrepressCond)),dB (decide (((a0.f4.getD (0:Int).toNat z_PrepressCond).f0) ≥ (2:Int)))] [] (.d (.str y2)) []) (([110,111,116,32]:List UInt8).length+y2.length≤9223372036854775807)) 1 (by kernel_rfl) (by kernel_rfl) (by kernel_rfl) (have p3:=idx_okR (d:=z_PrepressCond) rS_PrepressCond_eq hp1; have p7:=idx_okR (d:=z_PrepressCond) rS_PrepressCond_eq hp2; have p11:=ref3_condText_c1_ok hrec_ref3_condText hy1; have p12:=hp3; ⟨p3,p7,p11,p12,p7,p11,p12,p7,p11,p12,p11,p12,p11,p12,p3,p7,p11,p12,p7,p11,p12,p11,p12,p11,p12,p7,p3,p11,p12,p11,p12,p11,p12,p3,p11,p12,p11,p12,p3,p11,p12,p3,p7,p11,p12,p7,p11,p12,p11,p12,p11,p12,p7,p3,p11,p12,p11,p12,p11,p12,p3,p11,p12,p11,p12,p3,p11,p12,p7,p3,p11,p12,p11,p12,p11,p12,p3,p11,p12,p11,p12,p3,p11,p12,p3,p11,p12,p11,p12,p3,p11,p12,p3,p11,p12⟩) ?_
    obtain hs:=Option.some.inj h; subst hs
    refine T_ret fun a w hm=>inBlock_ret (then_ret (T_return (fr':=[(2,.d (.str (([110,111,116,32]:List UInt8)++y2)))]) [2] (by kernel_rfl) [.keep [2]] (by kernel_rfl) (by kernel_rfl) (by kernel_rfl) (by show _=_; kernel_rfl) (by exact trivial) a w hm))
  · have h:=cond_ff hc h
    refine T_reg [] [1,3,11,27] [(27,dB (a0.f0 == (2:Int)))] [] 2 (by kernel_rfl) (trivial) ?_
    refine T_cond (a0.f0 == (2:Int)) (by kernel_rfl) (fun hc=>?_) (fun hc=>?_)
    · have h:=cond_tt hc h
      obtain ⟨hp4,h⟩:=chk_ok h
      obtain ⟨hp5,h⟩:=chk_ok h
      refine T_drawG mixed [(12,0,some 0),(11,1,some 4),(10,17,none),(9,19,none),(9,49,none),(9,273,none),(9,529,none),(8,23,none),(8,51,none),(8,113,none),(8,275,none),(8,305,none),(8,531,none),(8,561,none),(8,785,none),(7,31,none),(7,55,none),(7,115,none),(7,241,none),(7,279,none),(7,307,none),(7,369,none),(7,535,none),(7,563,none),(7,625,none),(7,787,none),(7,817,none),(6,63,none),(6,119,none),(6,243,none),(6,287,none),(6,311,none),(6,371,none),(6,497,none),(6,543,none),(6,567,none),(6,627,none),(6,753,none),(6,791,none),(6,819,none),(6,881,none),(5,127,none),(5,247,none),(5,319,none),(5,375,none),(5,499,none),(5,575,none),(5,631,none),(5,755,none),(5,799,none),(5,823,none),(5,883,none),(5,1009,none),(4,255,none),(4,383,none),(4,503,none),(4,639,none),(4,759,none),(4,831,none),(4,887,none),(4,1011,none),(4,1823,none),(3,511,none),(3,767,none),(3,895,none),(3,1015,none),(3,1855,none),(2,1023,none),(2,1919,none),(1,2047,none),(0,4095,none)] [(12,5,.box [dI ((a0.f4.getD (1:Int).toNat z_PrepressCond).f0),.d (.sl 2 (((a0.f4.getD (1:Int).toNat z_PrepressCond).f1).map cS_PrepressTerm)),dI ((a0.f4.getD (1:Int).toNat z_PrepressCond).f2),dI ((a0.f4.getD (1:Int).toNat z_PrepressCond).f3),.d (.sl 5 (((a0.f4.getD (1:Int).toNat z_PrepressCond).f4).map rS_PrepressCond))]),(11,4,.box [dI ((a0.f4.getD (0:Int).toNat z_PrepressCond).f0),.d (.sl 2 (((a0.f4.getD (0:Int).toNat z_PrepressCond).f1).map cS_PrepressTerm)),dI ((a0.f4.getD (0:Int).toNat z_PrepressCond).f2),dI ((a0.f4.getD (0:Int).toNat z_PrepressCond).f3),.d (.sl 5 (((a0.f4.getD (0:Int).toNat z_PrepressCond).f4).map rS_PrepressCond))]),(10,5,.box [dI 0,oW0 [],dI 0,dI 0,oW1 []]),(9,4,.box [dI 0,oW0 [],dI 0,dI 0,oW1 []]),(8,36,.agg (cS_PrepressCond (a0.f4.getD (1:Int).toNat z_PrepressCond))),(7,35,.d (.pt (cS_PrepressCond (a0.f4.getD (1:Int).toNat z_PrepressCond)))),(6,34,.d (.sl 5 (a0.f4.map rS_PrepressCond))),(5,33,.bp 1 4),(4,32,.agg (cS_PrepressCond (a0.f4.getD (0:Int).toNat z_PrepressCond))),(3,31,.d (.pt (cS_PrepressCond (a0.f4.getD (0:Int).toNat z_PrepressCond)))),(2,30,.d (.sl 5 (a0.f4.map rS_PrepressCond))),(1,29,.bp 1 4),(0,1,bx_PrepressCond a0),(0,3,.clo 54 [])] [1,3,4,5,29,30,31,32,33,34,35,36] ([0,1,2,4,0,16,32,64,0,0,783,2047],[0,1,2,4,0,16,32,64,0,0,264,640]) 17 [(2,{ cs:=cS_PrepressCond (a0.f4.getD (0:Int).toNat z_PrepressCond) }),(6,{ cs:=cS_PrepressCond (a0.f4.getD (1:Int).toNat z_PrepressCond) })] [3,4,5] [] [(3,.clo 54 []),(4,.box [dI ((a0.f4.getD (0:Int).toNat z_PrepressCond).f0),.d (.sl 2 (((a0.f4.getD (0:Int).toNat z_PrepressCond).f1).map cS_PrepressTerm)),dI ((a0.f4.getD (0:Int).toNat z_PrepressCond).f2),dI ((a0.f4.getD (0:Int).toNat z_PrepressCond).f3),.d (.sl 5 (((a0.f4.getD (0:Int).toNat z_PrepressCond).f4).map rS_PrepressCond))]),(5,.box [dI ((a0.f4.getD (1:Int).toNat z_PrepressCond).f0),.d (.sl 2 (((a0.f4.getD (1:Int).toNat z_PrepressCond).f1).map cS_PrepressTerm)),dI ((a0.f4.getD (1:Int).toNat z_PrepressCond).f2),dI ((a0.f4.getD (1:Int).toNat z_PrepressCond).f3),.d (.sl 5 (((a0.f4.getD (1:Int).toNat z_PrepressCond).f4).map rS_PrepressCond))])] ((fun (o2:Prop)=>fun (o6:Prop)=>[(6,o2),(4,o6),(12,o2),(0,o6),(6,o2),(3,o6),(1,o2),(3,o6),(7,o6),(2,o2),(9,o2),(0,o6),(7,o2),(0,o6),(4,o2),(2,o6),(0,o6),(6,o2),(5,o6),(1,o2),(7,o6),(1,o2),(6,o2),(0,o6),(8,o6),(4,o2),(1,o6),(4,o2),(4,o6),(0,o2),(12,o6),(3,o2),(6,o6)]) (0≤(0:Int)∧(a0.f4.map rS_PrepressCond)[(0:Int).toNat]? = some (cS_PrepressCond (a0.f4.getD (0:Int).toNat z_PrepressCond))) (0≤(1:Int)∧(a0.f4.map rS_PrepressCond)[(1:Int).toNat]? = some (cS_PrepressCond (a0.f4.getD (1:Int).toNat z_PrepressCond)))) 3 (by kernel_rfl) (by kernel_rfl) (by kernel_rfl) (by kernel_rfl) (by kernel_rfl) (by kernel_rfl) (have p2:=idx_okR (d:=z_PrepressCond) rS_PrepressCond_eq hp4; have p6:=idx_okR (d:=z_PrepressCond) rS_PrepressCond_eq hp5; ⟨p2,p6,p2,p6,p2,p6,p2,p6,p6,p2,p2,p6,p2,p6,p2,p6,p6,p2,p6,p2,p6,p2,p2,p6,p6,p2,p6,p2,p6,p2,p6,p2,p6⟩) ?_
      obtain ⟨y3,hy2,h⟩:=call_ok h
      obtain ⟨hp6,h⟩:=chk_ok h
      obtain ⟨y4,hy3,h⟩:=call_ok h
      obtain ⟨hp7,h⟩:=chk_ok h
      refine T_drawX mixed 40 (.take 0 (.take 2 (.take 7 (.take 9 (.all (.alt 1 (.all (.alt 3 (.take 4 (.all (.alt 5 (.take 6 (.all (.alt 8 (.all (.alt 10 (.take 11 (.all (.alt 12 (.take 13 (.take 14 .done)) .stop))) .stop)) (.alt 10 (.take 11 (.all (.alt 8 (.all (.alt 12 (.take 13 (.take 14 .done)) .stop)) .stop))) .stop)))) (.alt 8 (.all (.alt 5 (.take 6 (.all (.alt 10 (.take 11 (.all (.alt 12 (.take 13 (.take 14 .done)) .stop))) .stop))) (.alt 10 (.take 11 (.all (.alt 5 (.take 6 (.all (.alt 12 (.take 13 (.take 14 .done)) .stop))) .stop))) .stop))) (.alt 10 (.take 11 (.all (.alt 5 (.take 6 (.all (.alt 8 (.all (.alt 12 (.take 13 (.take 14 .done)) .stop)) .stop))) (.alt 8 (.all (.alt 5 (.take 6 (.all (.alt 12 (.take 13 (.take 14 .done)) .stop))) .stop)) .stop)))) .stop))))) (.alt 8 (.all (.alt 3 (.take 4 (.all (.alt 5 (.take 6 (.all (.alt 10 (.take 11 (.all (.alt 12 (.take 13 (.take 14 .done)) .stop))) .stop))) (.alt 10 (.take 11 (.all (.alt 5 (.take 6 (.all (.alt 12 (.take 13 (.take 14 .done)) .stop))) .stop))) .stop)))) (.alt 10 (.take 11 (.all (.alt 3 (.take 4 (.all (.alt 5 (.take 6 (.all (.alt 12 (.take 13 (.take 14 .done)) .stop))) .stop))) .stop))) .stop))) (.alt 10 (.take 11 (.all (.alt 3 (.take 4 (.all (.alt 5 (.take 6 (.all (.alt 8 (.all (.alt 12 (.take 13 (.take 14 .done)) .stop)) .stop))) (.alt 8 (.all (.alt 5 (.take 6 (.all (.alt 12 (.take 13 (.take 14 .done)) .stop))) .stop)) .stop)))) (.alt 8 (.all (.alt 3 (.take 4 (.all (.alt 5 (.take 6 (.all (.alt 12 (.take 13 (.take 14 .done)) .stop))) .stop))) .stop)) .stop)))) .stop)))) (.alt 3 (.take 4 (.all (.alt 1 (.all (.alt 5 (.take 6 (.all (.alt 8 (.all (.alt 10 (.take 11 (.all (.alt 12 (.take 13 (.take 14 .done)) .stop))) .stop)) (.alt 10 (.take 11 (.all (.alt 8 (.all (.alt 12 (.take 13 (.take 14 .done)) .stop)) .stop))) .stop)))) (.alt 8 (.all (.alt 5 (.take 6 (.all (.alt 10 (.take 11 (.all (.alt 12 (.take 13 (.take 14 .done)) .stop))) .stop))) (.alt 10 (.take 11 (.all (.alt 5 (.take 6 (.all (.alt 12 (.take 13 (.take 14 .done)) .stop))) .stop))) .stop))) (.alt 10 (.take 11 (.all (.alt 5 (.take 6 (.all (.alt 8 (.all (.alt 12 (.take 13 (.take 14 .done)) .stop)) .stop))) (.alt 8 (.all (.alt 5 (.take 6 (.all (.alt 12 (.take 13 (.take 14 .done)) .stop))) .stop)) .stop)))) .stop)))) (.alt 8 (.all (.alt 1 (.all (.alt 5 (.take 6 (.all (.alt 10 (.take 11 (.all (.alt 12 (.take 13 (.take 14 .done)) .stop))) .stop))) (.alt 10 (.take 11 (.all (.alt 5 (.take 6 (.all (.alt 12 (.take 13 (.take 14 .done)) .stop))) .stop))) .stop))) (.alt 10 (.take 11 (.all (.alt 1 (.all (.alt 5 (.take 6 (.all (.alt 12 (.take 13 (.take 14 .done)) .stop))) .stop)) .stop))) .stop))) (.alt 10 (.take 11 (.all (.alt 1 (.all (.alt 5 (.take 6 (.all (.alt 8 (.all (.alt 12 (.take 13 (.take 14 .done)) .stop)) .stop))) (.alt 8 (.all (.alt 5 (.take 6 (.all (.alt 12 (.take 13 (.take 14 .done)) .stop))) .stop)) .stop))) (.alt 8 (.all (.alt 1 (.all (.alt 5 (.take 6 (.all (.alt 12 (.take 13 (.take 14 .done)) .stop))) .stop)) .stop)) .stop)))) .stop))))) (.alt 8 (.all (.alt 1 (.all (.alt 3 (.take 4 (.all (.alt 5 (.take 6 (.all (.alt 10 (.take 11 (.all (.alt 12 (.take 13 (.take 14 .done)) .stop))) .stop))) (.alt 10 (.take 11 (.all (.alt 5 (.take 6 (.all (.alt 12 (.take 13 (.take 14 .done)) .stop))) .stop))) .stop)))) (.alt 10 (.take 11 (.all (.alt 3 (.take 4 (.all (.alt 5 (.take 6 (.all (.alt 12 (.take 13 (.take 14 .done)) .stop))) .stop))) .stop))) .stop))) (.alt 3 (.take 4 (.all (.alt 1 (.all (.alt 5 (.take 6 (.all (.alt 10 (.take 11 (.all (.alt 12 (.take 13 (.take 14 .done)) .stop))) .stop))) (.alt 10 (.take 11 (.all (.alt 5 (.take 6 (.all (.alt 12 (.take 13 (.take 14 .done)) .stop))) .stop))) .stop))) (.alt 10 (.take 11 (.all (.alt 1 (.all (.alt 5 (.take 6 (.all (.alt 12 (.take 13 (.take 14 .done)) .stop))) .stop)) .stop))) .stop)))) (.alt 10 (.take 11 (.all (.alt 1 (.all (.alt 3 (.take 4 (.all (.alt 5 (.take 6 (.all (.alt 12 (.take 13 (.take 14 .done)) .stop))) .stop))) .stop)) (.alt 3 (.take 4 (.all (.alt 1 (.all (.alt 5 (.take 6 (.all (.alt 12 (.take 13 (.take 14 .done)) .stop))) .stop)) .stop))) .stop)))) .stop)))) (.alt 10 (.take 11 (.all (.alt 1 (.all (.alt 3 (.take 4 (.all (.alt 5 (.take 6 (.all (.alt 8 (.all (.alt 12 (.take 13 (.take 14 .done)) .stop)) .stop))) (.alt 8 (.all (.alt 5 (.take 6 (.all (.alt 12 (.take 13 (.take 14 .done)) .stop))) .stop)) .stop)))) (.alt 8 (.all (.alt 3 (.take 4 (.all (.alt 5 (.take 6 (.all (.alt 12 (.take 13 (.take 14 .done)) .stop))) .stop))) .stop)) .stop))) (.alt 3 (.take 4 (.all (.alt 1 (.all (.alt 5 (.take 6 (.all (.alt 8 (.all (.alt 12 (.take 13 (.take 14 .done)) .stop)) .stop))) (.alt 8 (.all (.alt 5 (.take 6 (.all (.alt 12 (.take 13 (.take 14 .done)) .stop))) .stop)) .stop))) (.alt 8 (.all (.alt 1 (.all (.alt 5 (.take 6 (.all (.alt 12 (.take 13 (.take 14 .done)) .stop))) .stop)) .stop)) .stop)))) (.alt 8 (.all (.alt 1 (.all (.alt 3 (.take 4 (.all (.alt 5 (.take 6 (.all (.alt 12 (.take 13 (.take 14 .done)) .stop))) .stop))) .stop)) (.alt 3 (.take 4 (.all (.alt 1 (.all (.alt 5 (.take 6 (.all (.alt 12 (.take 13 (.take 14 .done)) .stop))) .stop)) .stop))) .stop))) .stop))))) .stop))))))))) ([0,0,0,4,8,19,32,0,0,0,512,1024,2464,4160,16383],[0,0,0,4,8,19,32,0,0,0,512,1024,2432,4160,8192]) 27349 [(5,{ res:=.d (.str y3) }),(12,{ res:=.d (.str y4) })] [2] [] [(2,.d (.str ((y3++([32,97,110,100,32]:List UInt8))++y4)))] ((fun (o5:Prop)=>fun (o6:Prop)=>fun (o12:Prop)=>fun (o13:Prop)=>[(7,o5),(0,o6),(3,o12),(0,o13),(4,o12),(0,o13),(2,o5),(0,o6),(2,o12),(0,o13),(3,o5),(0,o6),(0,o12),(0,o13),(3,o5),(0,o6),(1,o12),(0,o13),(2,o5),(0,o6),(0,o12),(0,o13),(4,o5),(0,o6),(2,o12),(0,o13),(3,o5),(0,o6),(0,o12),(0,o13),(5,o5),(0,o6),(0,o12),(0,o13),(5,o5),(0,o6),(1,o12),(0,o13),(2,o5),(0,o6),(0,o12),(0,o13),(4,o5),(0,o6),(0,o12),(0,o13),(4,o5),(0,o6),(3,o12),(0,o13),(4,o12),(0,o13),(2,o5),(0,o6),(2,o12),(0,o13),(3,o5),(0,o6),(0,o12),(0,o13),(3,o5),(0,o6),(1,o12),(0,o13),(2,o5),(0,o6),(0,o12),(0,o13),(3,o5),(0,o6),(2,o12),(0,o13),(3,o5),(0,o6),(0,o12),(0,o13),(4,o5),(0,o6),(0,o12),(0,o13),(4,o5),(0,o6),(1,o12),(0,o13),(2,o5),(0,o6),(0,o12),(0,o13),(3,o5),(0,o6),(0,o12),(0,o13),(5,o5),(0,o6),(2,o12),(0,o13),(3,o5),(0,o6),(0,o12),(0,o13),(5,o5),(0,o6),(0,o12),(0,o13),(4,o5),(0,o6),(2,o12),(0,o13),(3,o5),(0,o6),(0,o12),(0,o13),(4,o5),(0,o6),(0,o12),(0,o13),(6,o5),(0,o6),(0,o12),(0,o13),(4,o5),(0,o6),(0,o12),(0,o13),(6,o5),(0,o6),(1,o12),(0,o13),(2,o5),(0,o6),(0,o12),(0,o13),(4,o5),(0,o6),(0,o12),(0,o13),(4,o5),(0,o6),(1,o12),(0,o13),(2,o5),(0,o6),(0,o12),(0,o13),(3,o5),(0,o6),(0,o12),(0,o13),(5,o5),(0,o6),(0,o12),(0,o13),(4,o5),(0,o6),(0,o12),(0,o13)]) (ACall Tryz.prog 54 [.agg (cS_PrepressCond (S_PrepressCond.mk ((a0.f4.getD (0:Int).toNat z_PrepressCond).f0) ((a0.f4.getD (0:Int).toNat z_PrepressCond).f1) ((a0.f4.getD (0:Int).toNat z_PrepressCond).f2) ((a0.f4.getD (0:Int).toNat z_PrepressCond).f3) ((a0.f4.getD (0:Int).toNat z_PrepressCond).f4))),dB (((a0.f4.getD (0:Int).toNat z_PrepressCond).f0) == (3:Int))] [] (.d (.str y3)) []) (y3.length+([32,97,110,100,32]:List UInt8).length≤9223372036854775807) (ACall Tryz.prog 54 [.agg (cS_PrepressCond (S_PrepressCond.mk ((a0.f4.getD (1:Int).toNat z_PrepressCond).f0) ((a0.f4.getD (1:Int).toNat z_PrepressCond).f1) ((a0.f4.getD (1:Int).toNat z_PrepressCond).f2) ((a0.f4.getD (1:Int).toNat z_PrepressCond).f3) ((a0.f4.getD (1:Int).toNat z_PrepressCond).f4))),dB (decide (((a0.f4.getD (1:Int).toNat z_PrepressCond).f0) ≥ (2:Int)))] [] (.d (.str y4)) []) ((y3++([32,97,110,100,32]:List UInt8)).length+y4.length≤9223372036854775807)) 1 (by kernel_rfl) (by kernel_rfl) (by kernel_rfl) (have p5:=ref3_condText_c1_ok hrec_ref3_condText hy2; have p6:=hp6; have p12:=ref3_condText_c1_ok hrec_ref3_condText hy3; have p13:=hp7; ⟨p5,p6,p12,p13,p12,p13,p5,p6,p12,p13,p5,p6,p12,p13,p5,p6,p12,p13,p5,p6,p12,p13,p5,p6,p12,p13,p5,p6,p12,p13,p5,p6,p12,p13,p5,p6,p12,p13,p5,p6,p12,p13,p5,p6,p12,p13,p5,p6,p12,p13,p12,p13,p5,p6,p12,p13,p5,p6,p12,p13,p5,p6,p12,p13,p5,p6,p12,p13,p5,p6,p12,p13,p5,p6,p12,p13,p5,p6,p12,p13,p5,p6,p12,p13,p5,p6,p12,p13,p5,p6,p12,p13,p5,p6,p12,p13,p5,p6,p12,p13,p5,p6,p12,p13,p5,p6,p12,p13,p5,p6,p12,p13,p5,p6,p12,p13,p5,p6,p12,p13,p5,p6,p12,p13,p5,p6,p12,p13,p5,p6,p12,p13,p5,p6,p12,p13,p5,p6,p12,p13,p5,p6,p12,p13,p5,p6,p12,p13,p5,p6,p12,p13,p5,p6,p12,p13⟩) ?_
      obtain hs:=Option.some.inj h; subst hs
      refine T_ret fun a w hm=>inBlock_ret (then_ret (T_return (fr':=[(2,.d (.str ((y3++([32,97,110,100,32]:List UInt8))++y4)))]) [2] (by kernel_rfl) [.keep [2]] (by kernel_rfl) (by kernel_rfl) (by kernel_rfl) (by show _=_; kernel_rfl) (by exact trivial) a w hm))
    · have h:=cond_ff hc h
      refine T_reg [] [1,3,51] [(51,dB (a0.f0 == (3:Int)))] [] 2 (by kernel_rfl) (trivial) ?_
      refine T_cond (a0.f0 == (3:Int)) (by kernel_rfl) (fun hc=>?_) (fun hc=>?_)
      · have h:=cond_tt hc h
        obtain ⟨hp8,h⟩:=chk_ok h
        obtain ⟨y5,hy4,h⟩:=call_ok h
        obtain ⟨hp9,h⟩:=chk_ok h
        obtain ⟨hp10,h⟩:=chk_ok h
        obtain ⟨hp11,h⟩:=chk_ok h
        obtain ⟨y6,hy5,h⟩:=call_ok h
        obtain ⟨hp12,h⟩:=chk_ok h
        refine T_drawG mixed [(20,0,some 0),(19,1,some 6),(18,65,some 7),(17,193,some 11),(16,2241,none),(15,2243,none),(15,2497,none),(15,6337,none),(14,2247,none),(14,2499,none),(14,3009,none),(14,6339,none),(14,6593,none),(14,14529,none),(13,2255,none),(13,2503,none),(13,3011,none),(13,4033,none),(13,6343,none),(13,6595,none),(13,7105,none),(13,14531,none),(13,14785,none),(13,30913,none),(12,2271,some 5),(12,2511,none),(12,3015,none),(12,4035,none),(12,6351,none),(12,6599,none),(12,7107,none),(12,8129,none),(12,14535,none),(12,14787,none),(12,15297,none),(12,30915,none),(12,31169,none),(12,63681,some 16),(11,2303,none),(11,2527,some 5),(11,3023,none),(11,4039,none),(11,6367,some 5),(11,6607,none),(11,7111,none),(11,8131,none),(11,14543,none),(11,14791,none),(11,15299,none),(11,16321,none),(11,30919,none),(11,31171,none),(11,31681,none),(11,63683,some 16),(11,63937,some 16),(11,129217,none),(10,2559,none),(10,3039,some 5),(10,4047,none),(10,6399,none),(10,6623,some 5),(10,7119,none),(10,8135,none),(10,14559,some 5),(10,14799,none),(10,15303,none),(10,16323,none),(10,30927,none),(10,31175,none),(10,31683,none),(10,32705,none),(10,63687,some 16),(10,63939,some 16),(10,64449,some 16),(10,129219,none),(10,129473,none),(9,3071,none),(9,4063,some 5),(9,6655,none),(9,7135,some 5),(9,8143,none),(9,14591,none),(9,14815,some 5),(9,15311,none),(9,16327,none),(9,30943,some 5),(9,31183,none),(9,31687,none),(9,32707,none),(9,63695,some 16),(9,63943,some 16),(9,64451,some 16),(9,65473,some 16),(9,129223,none),(9,129475,none),(9,129985,none),(8,4095,none),(8,7167,none),(8,8159,some 5),(8,14847,none),(8,15327,some 5),(8,16335,none),(8,30975,none),(8,31199,some 5),(8,31695,none),(8,32711,none),(8,63951,some 16),(8,64455,some 16),(8,65475,some 16),(8,129231,none),(8,129479,none),(8,129987,none),(8,131009,none),(7,8191,none),(7,15359,none),(7,16351,some 5),(7,31231,none),(7,31711,some 5),(7,32719,none),(7,63743,some 16),(7,64463,some 16),(7,65479,some 16),(7,129247,some 5),(7,129487,none),(7,129991,none),(7,131011,none),(6,16383,none),(6,31743,none),(6,32735,some 5),(6,63999,some 16),(6,65487,some 16),(6,129279,none),(6,129503,some 5),(6,129999,none),(6,131015,none),(5,32767,none),(5,64511,some 16),(5,129535,none),(5,130015,some 5),(5,131023,none),(4,65535,some 16),(4,130047,none),(4,131039,some 5),(3,131071,none),(2,262143,some 18),(1,524287,some 19),(0,1048575,none)] [(20,2,.d (.str ((y5++([32,111,114,32]:List UInt8))++y6))),(19,71,.d (.str ((y5++([32,111,114,32]:List UInt8))++y6))),(18,70,.d (.str y6)),(17,69,dB (((a0.f4.getD (1:Int).toNat z_PrepressCond).f0) == (3:Int))),(16,68,dI ((a0.f4.getD (1:Int).toNat z_PrepressCond).f0)),(15,67,.d (.pt (cS_PrepressCond (a0.f4.getD (1:Int).toNat z_PrepressCond)))),(14,66,.d (.pt (cS_PrepressCond (a0.f4.getD (1:Int).toNat z_PrepressCond)))),(13,65,.d (.sl 5 (a0.f4.map rS_PrepressCond))),(12,64,.bp 1 4),(11,63,.agg (cS_PrepressCond (a0.f4.getD (1:Int).toNat z_PrepressCond))),(10,62,.d (.pt (cS_PrepressCond (a0.f4.getD (1:Int).toNat z_PrepressCond)))),(9,61,.d (.sl 5 (a0.f4.map rS_PrepressCond))),(8,60,.bp 1 4),(7,59,.clo 54 []),(6,58,.d (.str (y5++([32,111,114,32]:List UInt8)))),(5,57,.d (.str y5)),(4,56,.agg (cS_PrepressCond (a0.f4.getD (0:Int).toNat z_PrepressCond))),(3,55,.d (.pt (cS_PrepressCond (a0.f4.getD (0:Int).toNat z_PrepressCond)))),(2,54,.d (.sl 5 (a0.f4.map rS_PrepressCond))),(1,53,.bp 1 4),(0,1,bx_PrepressCond a0),(0,3,.clo 54 [])] [1,2,3,53,54,55,56,57,58,59,60,61,62,63,64,65,66,67,68,69,70,71] ([0,1,2,4,8,16,0,0,128,256,512,0,2048,4096,8192,16384,32768,66640,131104,524287],[0,1,2,4,8,16,0,0,128,256,512,0,2048,4096,8192,16384,32768,66624,131104,262144]) 854241 [(2,{ cs:=cS_PrepressCond (a0.f4.getD (0:Int).toNat z_PrepressCond) }),(4,{ res:=.d (.str y5) }),(9,{ cs:=cS_PrepressCond (a0.f4.getD (1:Int).toNat z_PrepressCond) }),(13,{ cs:=cS_PrepressCond (a0.f4.getD (1:Int).toNat z_PrepressCond) }),(17,{ res:=.d (.str y6) })] [2] [] [(2,.d (.str ((y5++([32,111,114,32]:List UInt8))++y6)))] ((fun (o2:Prop)=>fun (o4:Prop)=>fun (o5:Prop)=>fun (o9:Prop)=>fun (o13:Prop)=>fun (o17:Prop)=>fun (o18:Prop)=>[(7,o2),(3,o9),(3,o13),(3,o2),(0,o9),(4,o2),(1,o13),(1,o9),(0,o13),(3,o4),(3,o9),(1,o2),(6,o13),(0,o2),(0,o9),(0,o13),(2,o13),(0,o2),(3,o9),(4,o5),(0,o4),(0,o9),(4,o2),(1,o4),(1,o13),(1,o9),(0,o13),(0,o2),(1,o13),(1,o13),(3,o2),(0,o9),(4,o2),(3,o9),(4,o5),(0,o4),(4,o5),(0,o4),(0,o9),(0,o13),(2,o13),(0,o2),(0,o13),(0,o4),(3,o9),(1,o2),(7,o2),(0,o9),(8,o9),(1,o5),(0,o4),(2,o13),(0,o5),(0,o4),(1,o13),(1,o13),(0,o5),(0,o4),(0,o9),(4,o2),(1,o4),(3,o9),(1,o2),(7,o2),(2,o9),(2,o5),(0,o9),(0,o13),(0,o5),(0,o4),(0,o13),(2,o5),(0,o4),(4,o5),(0,o4),(0,o9),(4,o2),(7,o2),(0,o9),(4,o13),(0,o5),(0,o9),(1,o5),(0,o4),(3,o5),(0,o4),(7,o4),(2,o9),(0,o2),(2,o13),(2,o5),(0,o9),(1,o5),(0,o4),(4,o5),(0,o4),(0,o9),(2,o2),(3,o5),(3,o5),(0,o4),(4,o9),(0,o5),(0,o4),(2,o5),(0,o17),(0,o18)]) (0≤(0:Int)∧(a0.f4.map rS_PrepressCond)[(0:Int).toNat]? = some (cS_PrepressCond (a0.f4.getD (0:Int).toNat z_PrepressCond))) (ACall Tryz.prog 31 [.agg (cS_PrepressCond (a0.f4.getD (0:Int).toNat z_PrepressCond))] [] (.d (.str y5)) []) (y5.length+([32,111,114,32]:List UInt8).length≤9223372036854775807) (0≤(1:Int)∧(a0.f4.map rS_PrepressCond)[(1:Int).toNat]? = some (cS_PrepressCond (a0.f4.getD (1:Int).toNat z_PrepressCond))) (0≤(1:Int)∧(a0.f4.map rS_PrepressCond)[(1:Int).toNat]? = some (cS_PrepressCond (a0.f4.getD (1:Int).toNat z_PrepressCond))) (ACall Tryz.prog 54 [.agg (cS_PrepressCond (a0.f4.getD (1:Int).toNat z_PrepressCond)),dB (((a0.f4.getD (1:Int).toNat z_PrepressCond).f0) == (3:Int))] [] (.d (.str y6)) []) ((y5++([32,111,114,32]:List UInt8)).length+y6.length≤9223372036854775807)) 1 (by kernel_rfl) (by kernel_rfl) (by kernel_rfl) (by kernel_rfl) (by kernel_rfl) (by kernel_rfl) (have p2:=idx_okR (d:=z_PrepressCond) rS_PrepressCond_eq hp8; have p4:=hrec_ref3_condText hy4; have p5:=hp9; have p9:=idx_okR (d:=z_PrepressCond) rS_PrepressCond_eq hp10; have p13:=idx_okR (d:=z_PrepressCond) rS_PrepressCond_eq hp11; have p17:=ref3_condText_c1_ok hrec_ref3_condText hy5; have p18:=hp12; ⟨p2,p9,p13,p2,p9,p2,p13,p9,p13,p4,p9,p2,p13,p2,p9,p13,p13,p2,p9,p5,p4,p9,p2,p4,p13,p9,p13,p2,p13,p13,p2,p9,p2,p9,p5,p4,p5,p4,p9,p13,p13,p2,p13,p4,p9,p2,p2,p9,p9,p5,p4,p13,p5,p4,p13,p13,p5,p4,p9,p2,p4,p9,p2,p2,p9,p5,p9,p13,p5,p4,p13,p5,p4,p5,p4,p9,p2,p2,p9,p13,p5,p9,p5,p4,p5,p4,p4,p9,p2,p13,p5,p9,p5,p4,p5,p4,p9,p2,p5,p5,p4,p9,p5,p4,p5,p17,p18⟩) ?_
        obtain hs:=Option.some.inj h; subst hs
        refine T_ret fun a w hm=>inBlock_ret (then_ret (T_return (fr':=[(2,.d (.str ((y5++([32,111,114,32]:List UInt8))++y6)))]) [2] (by kernel_rfl) [.keep [2]] (by kernel_rfl) (by kernel_rfl) (by kernel_rfl) (by show _=_; kernel_rfl) (by exact trivial) a w hm))
      · have h:=cond_ff hc h
        refine T_skip fun a w hm=>inBlock_norm (then_norm (((?_:T Tryz.prog e 128 _ _ _) a w hm)))
        refine T_reg [] [1,6] [(6,.d (.str []))] [] 1 (by kernel_rfl) (trivial) ?_
        refine T_seqk ?_
        refine T_reg [(2,{ rw:=some (dI (a0.f1.length:Int)) })] [1,6,73,74,75] [(73,.d (.sl 2 (a0.f1.map cS_PrepressTerm))),(74,dI (a0.f1.length:Int)),(75,dI (0:Int))] [(2,True∧dI ((a0.f1.map cS_PrepressTerm).length:Int)=dI (a0.f1.length:Int))] 1 (by kernel_rfl) (len_ok cS_PrepressTerm) ?_
        refine T_joinct h (fun (p:(List UInt8))=>[(1,bx_PrepressCond a0),(6,.d (.str p))]) (fun s h=>?_) (fun v6 h=>?_)
        · refine T_co [.keep [1,6,73,74,75]] ((fun (p:(List UInt8)×Int)=>[(1,bx_PrepressCond a0),(6,.d (.str p.1)),(73,.d (.sl 2 (a0.f1.map cS_PrepressTerm))),(74,dI (a0.f1.length:Int)),(75,dI p.2)]) ([],(0:Int))) (by show _=_; kernel_rfl) ?_
          refine T_block ?_
          refine T_loopF (ι:=(List UInt8)×Int) (fun (p:(List UInt8)×Int)=>[(1,bx_PrepressCond a0),(6,.d (.str p.1)),(73,.d (.sl 2 (a0.f1.map cS_PrepressTerm))),(74,dI (a0.f1.length:Int)),(75,dI p.2)]) (fun n p=>ref3_condText_L1 F a0 n p.1 p.2=some s) (fun i hh=>by simp [ref3_condText_L1] at hh) (fun n p h=>?_) F ([],(0:Int)) h
          obtain ⟨v1,v2⟩:=p
          have h:ref3_condText_L1 F a0 (n+1) v1 v2=some s:=h
          rw [ref3_condText_L1] at h
          refine T_reg [] [1,6,73,74,75,76] [(76,dB (decide (v2 < (a0.f1.length:Int))))] [] 1 (by kernel_rfl) (trivial) ?_
          refine T_seqk ?_
          refine T_cond (decide (v2 < (a0.f1.length:Int))) (by kernel_rfl) (fun hc=>?_) (fun hc=>?_)
          · have h:=cond_tt hc h
            refine T_skip fun a w hm=>then_norm (((?_:T Tryz.prog e 128 _ _ _) a w hm))
            refine T_seqk ?_
            refine T_block ?_
            obtain ⟨hp13,h⟩:=chk_ok h
            refine T_reg [(1,{ cs:=cS_PrepressTerm (a0.f1.getD v2.toNat z_PrepressTerm) })] [1,6,7,8,73,74,75] [(7,dI v2),(8,.box [dI ((a0.f1.getD v2.toNat z_PrepressTerm).f0),.d (.str ((a0.f1.getD v2.toNat z_PrepressTerm).f1))])] [(1,0≤v2∧(a0.f1.map cS_PrepressTerm)[v2.toNat]? = some (cS_PrepressTerm (a0.f1.getD v2.toNat z_PrepressTerm)))] 4 (by kernel_rfl) (idx_ok (d:=z_PrepressTerm) cS_PrepressTerm hp13) ?_
            refine T_reg [] [1,6,7,8,9,73,74,75] [(9,dI ((a0.f1.getD v2.toNat z_PrepressTerm).f0))] [] 3 (by kernel_rfl) (trivial) ?_
            refine T_joinc h (fun (p:(List UInt8))=>[(1,bx_PrepressCond a0),(6,.d (.str p)),(8,.box [dI ((a0.f1.getD v2.toNat z_PrepressTerm).f0),.d (.str ((a0.f1.getD v2.toNat z_PrepressTerm).f1))]),(9,dI ((a0.f1.getD v2.toNat z_PrepressTerm).f0)),(73,.d (.sl 2 (a0.f1.map cS_PrepressTerm))),(74,dI (a0.f1.length:Int)),(75,dI v2)]) (fun s h=>?_) (fun v3 h=>?_)
            · refine T_block ?_
              obtain ⟨z1,hz1,h⟩:=lett_ok h
              refine T_reg [(5,{ rw:=some (dB z1) })] [1,6,7,8,9,73,74,75,82] [(82,dB z1)] [(3,((((decide (((a0.f1.getD v2.toNat z_PrepressTerm).f0) < (0:Int))) == true) && true)=true→True)),(0,((((decide (((a0.f1.getD v2.toNat z_PrepressTerm).f0) < (0:Int))) == true) && true)=true→True)),(0,(True)∧dB (bif (decide (((a0.f1.getD v2.toNat z_PrepressTerm).f0) < (0:Int))) then (v2 == (0:Int)) else false)=dB z1)] 1 (by kernel_rfl) (⟨(fun hg=>trivial),(fun hg=>trivial),⟨trivial,(by subst hz1; rfl)⟩⟩) ?_
              refine T_cond z1 (by kernel_rfl) (fun hc=>?_) (fun hc=>?_)
              · have h:=cond_tt hc h
                obtain ⟨hp14,h⟩:=chk_ok h
                obtain hs:=Option.some.inj h; subst hs
                refine T_reg_end [] [1,6,8,9,73,74,75] [(6,.d (.str (v1++([45]:List UInt8))))] [(1,v1.length+([45]:List UInt8).length≤9223372036854775807)] 1 (by kernel_rfl) (hp14) fun a w hm=>inBlock_norm (then_norm (hm.co (cs:=[.keep [1,6,8,9,73,74,75]]) (by show _=_; kernel_rfl)))
              · have h:=cond_ff hc h
                refine T_reg [] [1,6,7,8,9,73,74,75,91] [(91,dB (decide (((a0.f1.getD v2.toNat z_PrepressTerm).f0) < (0:Int))))] [] 3 (by kernel_rfl) (trivial) ?_
                refine T_cond (decide (((a0.f1.getD v2.toNat z_PrepressTerm).f0) < (0:Int))) (by kernel_rfl) (fun hc=>?_) (fun hc=>?_)
                · have h:=cond_tt hc h
                  obtain ⟨hp15,h⟩:=chk_ok h
                  obtain hs:=Option.some.inj h; subst hs
                  refine T_reg_end [] [1,6,8,9,73,74,75] [(6,.d (.str (v1++([32,45,32]:List UInt8))))] [(1,v1.length+([32,45,32]:List UInt8).length≤9223372036854775807)] 1 (by kernel_rfl) (hp15) fun a w hm=>inBlock_norm (then_norm (hm.co (cs:=[.keep [1,6,8,9,73,74,75]]) (by show _=_; kernel_rfl)))
                · have h:=cond_ff hc h
                  refine T_reg [] [1,6,8,9,73,74,75,96] [(96,dB (decide (v2 > (0:Int))))] [] 3 (by kernel_rfl) (trivial) ?_
                  refine T_cond (decide (v2 > (0:Int))) (by kernel_rfl) (fun hc=>?_) (fun hc=>?_)
                  · have h:=cond_tt hc h
                    obtain ⟨hp16,h⟩:=chk_ok h
                    obtain hs:=Option.some.inj h; subst hs
                    refine T_reg_end [] [1,6,8,9,73,74,75] [(6,.d (.str (v1++([32,43,32]:List UInt8))))] [(1,v1.length+([32,43,32]:List UInt8).length≤9223372036854775807)] 1 (by kernel_rfl) (hp16) fun a w hm=>inBlock_norm (then_norm (hm.co (cs:=[.keep [1,6,8,9,73,74,75]]) (by show _=_; kernel_rfl)))
                  · have h:=cond_ff hc h
                    obtain hs:=Option.some.inj h; subst hs
                    refine T_skip fun a w hm=>inBlock_norm (then_norm (hm.co (cs:=[.keep [1,6,8,9,73,74,75]]) (by show _=_; kernel_rfl)))
            · skip
              refine T_joinc h (fun (p:Int)=>[(1,bx_PrepressCond a0),(6,.d (.str v3)),(8,.box [dI ((a0.f1.getD v2.toNat z_PrepressTerm).f0),.d (.str ((a0.f1.getD v2.toNat z_PrepressTerm).f1))]),(9,dI p),(73,.d (.sl 2 (a0.f1.map cS_PrepressTerm))),(74,dI (a0.f1.length:Int)),(75,dI v2)]) (fun s h=>?_) (fun v4 h=>?_)
              · refine T_reg [] [1,6,8,9,73,74,75,102] [(102,dB (decide (((a0.f1.getD v2.toNat z_PrepressTerm).f0) < (0:Int))))] [] 2 (by kernel_rfl) (trivial) ?_
                refine T_cond (decide (((a0.f1.getD v2.toNat z_PrepressTerm).f0) < (0:Int))) (by kernel_rfl) (fun hc=>?_) (fun hc=>?_)
                · have h:=cond_tt hc h
                  obtain hs:=Option.some.inj h; subst hs
                  refine T_reg_end [] [1,6,8,9,73,74,75] [(9,dI (IntKind.i64.wrap (0 - ((a0.f1.getD v2.toNat z_PrepressTerm).f0))))] [] 3 (by kernel_rfl) (trivial) fun a w hm=>then_norm (hm.co (cs:=[.keep [1,6,8,9,73,74,75]]) (by show _=_; kernel_rfl))
                · have h:=cond_ff hc h
                  obtain hs:=Option.some.inj h; subst hs
                  refine T_skip fun a w hm=>then_norm (hm.co (cs:=[.keep [1,6,8,9,73,74,75]]) (by show _=_; kernel_rfl))
              · skip
                refine T_joinc h (fun (p:(List UInt8))=>[(1,bx_PrepressCond a0),(6,.d (.str p)),(8,.box [dI ((a0.f1.getD v2.toNat z_PrepressTerm).f0),.d (.str ((a0.f1.getD v2.toNat z_PrepressTerm).f1))]),(73,.d (.sl 2 (a0.f1.map cS_PrepressTerm))),(74,dI (a0.f1.length:Int)),(75,dI v2)]) (fun s h=>?_) (fun v5 h=>?_)
                · refine T_reg [] [1,6,8,9,73,74,75,106] [(106,dB (decide (v4 > (1:Int))))] [] 2 (by kernel_rfl) (trivial) ?_
                  refine T_cond (decide (v4 > (1:Int))) (by kernel_rfl) (fun hc=>?_) (fun hc=>?_)
                  · have h:=cond_tt hc h
                    obtain ⟨y1,hy6,h⟩:=call_ok h
                    obtain ⟨hp17,h⟩:=chk_ok h
                    obtain ⟨hp18,h⟩:=chk_ok h
                    obtain hs:=Option.some.inj h; subst hs
                    refine T_reg_end [(2,{ res:=.d (.str y1) })] [1,6,8,73,74,75] [(6,.d (.str (v3++(y1++([32]:List UInt8)))))] [(2,ACall Tryz.prog 55 [dI v4] [] (.d (.str y1)) []),(0,y1.length+([32]:List UInt8).length≤9223372036854775807),(0,v3.length+(y1++([32]:List UInt8)).length≤9223372036854775807)] 1 (by kernel_rfl) (⟨ref3_Decimal_ok hy6,hp17,hp18⟩) fun a w hm=>then_norm (hm.co (cs:=[.keep [1,6,8,73,74,75]]) (by show _=_; kernel_rfl))
                  · have h:=cond_ff hc h
                    obtain hs:=Option.some.inj h; subst hs
                    refine T_skip fun a w hm=>then_norm (hm.co (cs:=[.keep [1,6,8,73,74,75]]) (by show _=_; kernel_rfl))
                · skip
                  obtain ⟨hp19,h⟩:=chk_ok h
                  refine T_reg_end [] [1,6,73,74,75] [(6,.d (.str (v5++((a0.f1.getD v2.toNat z_PrepressTerm).f1))))] [(3,v5.length+((a0.f1.getD v2.toNat z_PrepressTerm).f1).length≤9223372036854775807)] 1 (by kernel_rfl) (hp19) fun a w hm=>inBlock_norm (then_norm (((?_:T Tryz.prog e 128 _ _ _) a w hm)))
                  refine T_reg_end [] [1,6,73,74,75] [(75,dI (IntKind.i64.wrap (v2+(1:Int))))] [] 2 (by kernel_rfl) (trivial) fun a w hm=>then_norm (⟨((v5++((a0.f1.getD v2.toNat z_PrepressTerm).f1)),IntKind.i64.wrap (v2+(1:Int))),h,hm.co (cs:=[.keep [1,6,73,74,75]]) (by show _=_; kernel_rfl)⟩)
          · have h:=cond_ff hc h
            obtain hs:=Option.some.inj h; subst hs
            refine T_exit fun a w hm=>then_exit (then_exit (inBlock_exit (then_norm (hm.co (cs:=[.keep [1,6]]) (by show _=_; kernel_rfl)))))
        · skip
          refine fun a w hm=>then_norm (((?_:T Tryz.prog e 128 _ _ _) a w hm))
          obtain ⟨hp20,h⟩:=chk_ok h
          obtain ⟨z2,hz2,h⟩:=lett_ok h
          obtain ⟨hp21,h⟩:=chk_ok h
          obtain ⟨y7,hy7,h⟩:=call_ok h
          obtain ⟨hp22,h⟩:=chk_ok h
          refine T_drawX mixed 20 (.take 0 (.take 2 (.take 7 (.all (.alt 1 (.all (.alt 3 (.take 4 (.all (.alt 5 (.take 6 (.all (.alt 8 (.all (.alt 9 (.take 10 (.take 11 .done)) .stop)) .stop))) (.alt 8 (.all (.alt 5 (.take 6 (.all (.alt 9 (.take 10 (.take 11 .done)) .stop))) (.alt 9 (.all (.alt 5 (.take 6 (.take 10 (.take 11 .done))) .stop)) .stop))) .stop)))) (.alt 8 (.all (.alt 3 (.take 4 (.all (.alt 5 (.take 6 (.all (.alt 9 (.take 10 (.take 11 .done)) .stop))) (.alt 9 (.all (.alt 5 (.take 6 (.take 10 (.take 11 .done))) .stop)) .stop)))) (.alt 9 (.all (.alt 3 (.take 4 (.all (.alt 5 (.take 6 (.take 10 (.take 11 .done))) .stop))) .stop)) .stop))) .stop))) (.alt 3 (.all (.alt 1 (.take 4 (.all (.alt 5 (.take 6 (.all (.alt 8 (.all (.alt 9 (.take 10 (.take 11 .done)) .stop)) .stop))) (.alt 8 (.all (.alt 5 (.take 6 (.all (.alt 9 (.take 10 (.take 11 .done)) .stop))) (.alt 9 (.all (.alt 5 (.take 6 (.take 10 (.take 11 .done))) .stop)) .stop))) .stop)))) (.alt 8 (.all (.alt 1 (.take 4 (.all (.alt 5 (.take 6 (.all (.alt 9 (.take 10 (.take 11 .done)) .stop))) (.alt 9 (.all (.alt 5 (.take 6 (.take 10 (.take 11 .done))) .stop)) .stop)))) (.alt 9 (.all (.alt 1 (.take 4 (.all (.alt 5 (.take 6 (.take 10 (.take 11 .done))) .stop))) .stop)) .stop))) .stop))) (.alt 8 (.all (.alt 1 (.all (.alt 3 (.take 4 (.all (.alt 5 (.take 6 (.all (.alt 9 (.take 10 (.take 11 .done)) .stop))) (.alt 9 (.all (.alt 5 (.take 6 (.take 10 (.take 11 .done))) .stop)) .stop)))) (.alt 9 (.all (.alt 3 (.take 4 (.all (.alt 5 (.take 6 (.take 10 (.take 11 .done))) .stop))) .stop)) .stop))) (.alt 3 (.all (.alt 1 (.take 4 (.all (.alt 5 (.take 6 (.all (.alt 9 (.take 10 (.take 11 .done)) .stop))) (.alt 9 (.all (.alt 5 (.take 6 (.take 10 (.take 11 .done))) .stop)) .stop)))) (.alt 9 (.all (.alt 1 (.take 4 (.all (.alt 5 (.take 6 (.take 10 (.take 11 .done))) .stop))) .stop)) .stop))) (.alt 9 (.all (.alt 1 (.all (.alt 3 (.take 4 (.all (.alt 5 (.take 6 (.take 10 (.take 11 .done))) .stop))) .stop)) (.alt 3 (.all (.alt 1 (.take 4 (.all (.alt 5 (.take 6 (.take 10 (.take 11 .done))) .stop))) .stop)) .stop))) .stop)))) .stop))))))) ([0,0,0,4,10,16,33,0,128,256,576,2047],[0,0,0,4,10,16,33,0,128,256,576,1024]) 3285 [(1,{ es:=some (([([32,60,32]:List UInt8),([32,60,61,32]:List UInt8),([32,61,32]:List UInt8),([32,33,61,32]:List UInt8),([32,62,61,32]:List UInt8),([32,62,32]:List UInt8)]).map cS) }),(5,{ cs:=cS (([([32,60,32]:List UInt8),([32,60,61,32]:List UInt8),([32,61,32]:List UInt8),([32,33,61,32]:List UInt8),([32,62,61,32]:List UInt8),([32,62,32]:List UInt8)]).getD a0.f2.toNat []),rw:=some (.d (.str z2)) }),(9,{ res:=.d (.str y7) })] [2] [] [(2,.d (.str ((v6++z2)++y7)))] ((fun (o1:Prop)=>fun (o4:Prop)=>fun (o5:Prop)=>fun (o6:Prop)=>fun (o9:Prop)=>fun (o10:Prop)=>[(3,o1),(1,o4),(0,o5),(0,o6),(1,o9),(0,o10),(2,o5),(0,o6),(0,o9),(0,o10),(1,o9),(0,o5),(0,o6),(0,o10),(3,o4),(0,o5),(0,o6),(0,o9),(0,o10),(1,o9),(0,o5),(0,o6),(0,o10),(1,o9),(1,o4),(0,o5),(0,o6),(0,o10),(2,o1),(0,o4),(0,o5),(0,o6),(1,o9),(0,o10),(2,o5),(0,o6),(0,o9),(0,o10),(1,o9),(0,o5),(0,o6),(0,o10),(2,o1),(0,o4),(0,o5),(0,o6),(0,o9),(0,o10),(1,o9),(0,o5),(0,o6),(0,o10),(1,o9),(0,o1),(0,o4),(0,o5),(0,o6),(0,o10),(2,o1),(1,o4),(0,o5),(0,o6),(0,o9),(0,o10),(1,o9),(0,o5),(0,o6),(0,o10),(1,o9),(1,o4),(0,o5),(0,o6),(0,o10),(2,o1),(0,o4),(0,o5),(0,o6),(0,o9),(0,o10),(1,o9),(0,o5),(0,o6),(0,o10),(1,o9),(0,o1),(0,o4),(0,o5),(0,o6),(0,o10),(1,o9),(0,o1),(1,o4),(0,o5),(0,o6),(0,o10),(2,o1),(0,o4),(0,o5),(0,o6),(0,o10)]) ((([([32,60,32]:List UInt8),([32,60,61,32]:List UInt8),([32,61,32]:List UInt8),([32,33,61,32]:List UInt8),([32,62,61,32]:List UInt8),([32,62,32]:List UInt8)]).map cS)=(([([32,60,32]:List UInt8),([32,60,61,32]:List UInt8),([32,61,32]:List UInt8),([32,33,61,32]:List UInt8),([32,62,61,32]:List UInt8),([32,62,32]:List UInt8)]).map cS)) (0≤a0.f2∧a0.f2 < (([([32,60,32]:List UInt8),([32,60,61,32]:List UInt8),([32,61,32]:List UInt8),([32,33,61,32]:List UInt8),([32,62,61,32]:List UInt8),([32,62,32]:List UInt8)]).map cS).length) (((([([32,60,32]:List UInt8),([32,60,61,32]:List UInt8),([32,61,32]:List UInt8),([32,33,61,32]:List UInt8),([32,62,61,32]:List UInt8),([32,62,32]:List UInt8)]).map cS)[a0.f2.toNat]? = some (cS (([([32,60,32]:List UInt8),([32,60,61,32]:List UInt8),([32,61,32]:List UInt8),([32,33,61,32]:List UInt8),([32,62,61,32]:List UInt8),([32,62,32]:List UInt8)]).getD a0.f2.toNat [])))∧AV.d (.str (([([32,60,32]:List UInt8),([32,60,61,32]:List UInt8),([32,61,32]:List UInt8),([32,33,61,32]:List UInt8),([32,62,61,32]:List UInt8),([32,62,32]:List UInt8)]).getD a0.f2.toNat []))=.d (.str z2)) (v6.length+z2.length≤9223372036854775807) (ACall Tryz.prog 55 [dI a0.f3] [] (.d (.str y7)) []) ((v6++z2).length+y7.length≤9223372036854775807)) 1 (by kernel_rfl) (by kernel_rfl) (by kernel_rfl) (have p1:=rfl; have p4:=own_idx cS hp20; have p5:=⟨(idx_ok (d:=[]) cS hp20).2,(by subst hz2; rfl)⟩; have p6:=hp21; have p9:=ref3_Decimal_ok hy7; have p10:=hp22; ⟨p1,p4,p5,p6,p9,p10,p5,p6,p9,p10,p9,p5,p6,p10,p4,p5,p6,p9,p10,p9,p5,p6,p10,p9,p4,p5,p6,p10,p1,p4,p5,p6,p9,p10,p5,p6,p9,p10,p9,p5,p6,p10,p1,p4,p5,p6,p9,p10,p9,p5,p6,p10,p9,p1,p4,p5,p6,p10,p1,p4,p5,p6,p9,p10,p9,p5,p6,p10,p9,p4,p5,p6,p10,p1,p4,p5,p6,p9,p10,p9,p5,p6,p10,p9,p1,p4,p5,p6,p10,p9,p1,p4,p5,p6,p10,p1,p4,p5,p6,p10⟩) ?_
          obtain hs:=Option.some.inj h; subst hs
          refine T_ret fun a w hm=>T_return (fr':=[(2,.d (.str ((v6++z2)++y7)))]) [2] (by kernel_rfl) [.keep [2]] (by kernel_rfl) (by kernel_rfl) (by kernel_rfl) (by show _=_; kernel_rfl) (by exact trivial) a w hm
theorem ref3_condText_fuel_ok {F:Nat} (n:Nat):∀ {a0:S_PrepressCond} {r:(List UInt8)},ref3_condText_fuel F n a0=some r→ACall Tryz.prog 31 [.agg (cS_PrepressCond a0)] [] (.d (.str r)) []:=by
  induction n with
  | zero=>intro a0 r h; exact absurd (show (none:Option ((List UInt8)))=some r from h) (by simp)
  | succ n ih=>intro a0 r h; exact ref3_condText_body_ok ih h
theorem ref3_condText_ok {F:Nat} {a0:S_PrepressCond} {r:(List UInt8)} (h:ref3_condText F a0=some r):ACall Tryz.prog 31 [.agg (cS_PrepressCond a0)] [] (.d (.str r)) []:=ref3_condText_fuel_ok F h
theorem ref3_RulesText_ok {F:Nat} {a0:List S_PrepressRule} {r:(List UInt8)} (h:ref3_RulesText F a0=some r):ACall Tryz.prog 10 [.d (.sl 6 (a0.map cS_PrepressRule))] [] (.d (.str r)) []:=by
  rw [ref3_RulesText] at h
  refine ACall.intro (N:=25) Tryz.func10 rfl rfl rfl rfl rfl fun e=>?_
  refine T_reg [] [0] [] [] 1 (by kernel_rfl) (trivial) ?_
  refine T_reg [] [0,3] [(3,.d (.str []))] [] 1 (by kernel_rfl) (trivial) ?_
  refine T_seqk ?_
  refine T_reg [(1,{ rw:=some (dI (a0.length:Int)) })] [3,6,7,8] [(6,.d (.sl 6 (a0.map cS_PrepressRule))),(7,dI (a0.length:Int)),(8,dI (0:Int))] [(1,True∧dI ((a0.map cS_PrepressRule).length:Int)=dI (a0.length:Int))] 1 (by kernel_rfl) (len_ok cS_PrepressRule) ?_
  refine T_joinct h (fun (p:(List UInt8))=>[(3,.d (.str p))]) (fun s h=>?_) (fun v3 h=>?_)
  · refine T_co [.keep [3,6,7,8]] ((fun (p:(List UInt8)×Int)=>[(3,.d (.str p.1)),(6,.d (.sl 6 (a0.map cS_PrepressRule))),(7,dI (a0.length:Int)),(8,dI p.2)]) ([],(0:Int))) (by show _=_; kernel_rfl) ?_
    refine T_block ?_
    refine T_loopF (ι:=(List UInt8)×Int) (fun (p:(List UInt8)×Int)=>[(3,.d (.str p.1)),(6,.d (.sl 6 (a0.map cS_PrepressRule))),(7,dI (a0.length:Int)),(8,dI p.2)]) (fun n p=>ref3_RulesText_L0 F a0 n p.1 p.2=some s) (fun i hh=>by simp [ref3_RulesText_L0] at hh) (fun n p h=>?_) F ([],(0:Int)) h
    obtain ⟨v1,v2⟩:=p
    have h:ref3_RulesText_L0 F a0 (n+1) v1 v2=some s:=h
    rw [ref3_RulesText_L0] at h
    refine T_reg [] [3,6,7,8,9] [(9,dB (decide (v2 < (a0.length:Int))))] [] 1 (by kernel_rfl) (trivial) ?_
    refine T_seqk ?_
    refine T_cond (decide (v2 < (a0.length:Int))) (by kernel_rfl) (fun hc=>?_) (fun hc=>?_)
    · have h:=cond_tt hc h
      refine T_skip fun a w hm=>then_norm (((?_:T Tryz.prog e 25 _ _ _) a w hm))
      refine T_seqk ?_
      refine T_block ?_
      obtain ⟨hp1,h⟩:=chk_ok h
      refine T_reg [(0,{ cs:=cS_PrepressRule (a0.getD v2.toNat z_PrepressRule) })] [3,5,6,7,8] [(5,.box [.d (.str ((a0.getD v2.toNat z_PrepressRule).f0)),dI (((a0.getD v2.toNat z_PrepressRule).f1).f0),.d (.sl 2 ((((a0.getD v2.toNat z_PrepressRule).f1).f1).map cS_PrepressTerm)),dI (((a0.getD v2.toNat z_PrepressRule).f1).f2),dI (((a0.getD v2.toNat z_PrepressRule).f1).f3),.d (.sl 5 ((((a0.getD v2.toNat z_PrepressRule).f1).f4).map rS_PrepressCond))])] [(0,0≤v2∧(a0.map cS_PrepressRule)[v2.toNat]? = some (cS_PrepressRule (a0.getD v2.toNat z_PrepressRule)))] 3 (by kernel_rfl) (idx_ok (d:=z_PrepressRule) cS_PrepressRule hp1) ?_
      obtain ⟨hp2,h⟩:=chk_ok h
      obtain ⟨z1,hz1,h⟩:=lett_ok h
      obtain ⟨hp3,h⟩:=chk_ok h
      obtain ⟨y1,hy1,h⟩:=call_ok h
      obtain ⟨hp4,h⟩:=chk_ok h
      obtain ⟨hp5,h⟩:=chk_ok h
      obtain ⟨hp6,h⟩:=chk_ok h
      refine T_drawX_end mixed 3 (.take 0 (.take 1 (.take 5 (.all (.alt 2 (.take 3 (.take 4 (.all (.alt 6 (.all (.alt 7 (.take 8 (.take 9 (.take 10 (.take 11 .done)))) .stop)) .stop)))) (.alt 6 (.all (.alt 2 (.take 3 (.take 4 (.all (.alt 7 (.take 8 (.take 9 (.take 10 (.take 11 .done)))) .stop)))) (.alt 7 (.all (.alt 2 (.take 3 (.take 4 (.take 8 (.take 9 (.take 10 (.take 11 .done)))))) .stop)) .stop))) .stop)))))) ([0,0,2,4,8,0,32,64,144,256,513,2047],[0,0,2,4,8,0,32,64,144,256,513,1025]) 3899 [(3,{ rw:=some (.d (.str z1)) }),(7,{ res:=.d (.str y1) })] [3,6,7,8] [] [(3,.d (.str (v1++(((z1++([58,32]:List UInt8))++y1)++([59,10]:List UInt8))))),(6,.d (.sl 6 (a0.map cS_PrepressRule))),(7,dI (a0.length:Int)),(8,dI v2)] ((fun (o3:Prop)=>fun (o4:Prop)=>fun (o7:Prop)=>fun (o8:Prop)=>fun (o9:Prop)=>fun (o10:Prop)=>[(4,o3),(0,o4),(1,o7),(0,o8),(0,o9),(0,o10),(3,o3),(0,o4),(0,o7),(0,o8),(0,o9),(0,o10),(1,o7),(1,o3),(0,o4),(0,o8),(0,o9),(0,o10)]) ((([114,117,108,101,32]:List UInt8).length+((a0.getD v2.toNat z_PrepressRule).f0).length≤9223372036854775807)∧AV.d (.str (([114,117,108,101,32]:List UInt8)++((a0.getD v2.toNat z_PrepressRule).f0)))=.d (.str z1)) (z1.length+([58,32]:List UInt8).length≤9223372036854775807) (ACall Tryz.prog 31 [.agg (cS_PrepressCond ((a0.getD v2.toNat z_PrepressRule).f1))] [] (.d (.str y1)) []) ((z1++([58,32]:List UInt8)).length+y1.length≤9223372036854775807) (((z1++([58,32]:List UInt8))++y1).length+([59,10]:List UInt8).length≤9223372036854775807) (v1.length+(((z1++([58,32]:List UInt8))++y1)++([59,10]:List UInt8)).length≤9223372036854775807)) 1 (by kernel_rfl) (by kernel_rfl) (by kernel_rfl) (have p3:=⟨hp2,(by subst hz1; rfl)⟩; have p4:=hp3; have p7:=ref3_condText_ok hy1; have p8:=hp4; have p9:=hp5; have p10:=hp6; ⟨p3,p4,p7,p8,p9,p10,p3,p4,p7,p8,p9,p10,p7,p3,p4,p8,p9,p10⟩) fun a w hm=>inBlock_norm (then_norm (((?_:T Tryz.prog e 25 _ _ _) a w hm)))
      refine T_reg_end [] [3,6,7,8] [(8,dI (IntKind.i64.wrap (v2+(1:Int))))] [] 2 (by kernel_rfl) (trivial) fun a w hm=>then_norm (⟨((v1++(((z1++([58,32]:List UInt8))++y1)++([59,10]:List UInt8))),IntKind.i64.wrap (v2+(1:Int))),h,hm.co (cs:=[.keep [3,6,7,8]]) (by show _=_; kernel_rfl)⟩)
    · have h:=cond_ff hc h
      obtain hs:=Option.some.inj h; subst hs
      refine T_exit fun a w hm=>then_exit (then_exit (inBlock_exit (then_norm (hm.co (cs:=[.keep [3]]) (by show _=_; kernel_rfl)))))
  · skip
    refine fun a w hm=>then_norm (((?_:T Tryz.prog e 25 _ _ _) a w hm))
    refine T_reg [] [2] [(2,.d (.str v3))] [] 2 (by kernel_rfl) (trivial) ?_
    obtain hs:=Option.some.inj h; subst hs
    refine T_ret fun a w hm=>T_return (fr':=[(2,.d (.str v3))]) [2] (by kernel_rfl) [.keep [2]] (by kernel_rfl) (by kernel_rfl) (by kernel_rfl) (by show _=_; kernel_rfl) (by exact trivial) a w hm
theorem ref3_RulesError_ok {F:Nat} {a0:List S_PrepressRule} {r:Int} (h:ref3_RulesError F a0=some r):ACall Tryz.prog 8 [.d (.sl 6 (a0.map cS_PrepressRule))] [] (.d (.v (.int .i64 r))) []:=by
  rw [ref3_RulesError] at h
  refine ACall.intro (N:=47) Tryz.func8 rfl rfl rfl rfl rfl fun e=>?_
  refine T_reg [] [0] [] [] 1 (by kernel_rfl) (trivial) ?_
  refine T_seqk ?_
  refine T_reg [(1,{ rw:=some (dI (a0.length:Int)) })] [0,10] [(10,dB (decide ((a0.length:Int) > (32:Int))))] [(1,True∧dI ((a0.map cS_PrepressRule).length:Int)=dI (a0.length:Int))] 1 (by kernel_rfl) (len_ok cS_PrepressRule) ?_
  refine T_cond (decide ((a0.length:Int) > (32:Int))) (by kernel_rfl) (fun hc=>?_) (fun hc=>?_)
  · have h:=cond_tt hc h
    refine T_reg [] [2] [(2,dI (2:Int))] [] 1 (by kernel_rfl) (trivial) ?_
    obtain hs:=Option.some.inj h; subst hs
    refine T_ret fun a w hm=>then_ret (T_return (fr':=[(2,dI (2:Int))]) [2] (by kernel_rfl) [.keep [2]] (by kernel_rfl) (by kernel_rfl) (by kernel_rfl) (by show _=_; kernel_rfl) (by exact trivial) a w hm)
  · have h:=cond_ff hc h
    refine T_skip fun a w hm=>then_norm (((?_:T Tryz.prog e 47 _ _ _) a w hm))
    refine T_seqk ?_
    refine T_reg [(1,{ rw:=some (dI (a0.length:Int)) })] [0,11,12,13] [(11,.d (.sl 6 (a0.map cS_PrepressRule))),(12,dI (a0.length:Int)),(13,dI (0:Int))] [(1,True∧dI ((a0.map cS_PrepressRule).length:Int)=dI (a0.length:Int))] 1 (by kernel_rfl) (len_ok cS_PrepressRule) ?_
    refine T_joinEt h (fun (p:Unit)=>[(0,.d (.sl 6 (a0.map cS_PrepressRule)))]) (fun s h hk1=>?_) (fun s h=>?_)
    · refine T_co [.keep [0,11,12,13]] ((fun (p:Int)=>[(0,.d (.sl 6 (a0.map cS_PrepressRule))),(11,.d (.sl 6 (a0.map cS_PrepressRule))),(12,dI (a0.length:Int)),(13,dI p)]) (0:Int)) (by show _=_; kernel_rfl) ?_
      refine T_block ?_
      refine T_loopF (ι:=Int) (fun (p:Int)=>[(0,.d (.sl 6 (a0.map cS_PrepressRule))),(11,.d (.sl 6 (a0.map cS_PrepressRule))),(12,dI (a0.length:Int)),(13,dI p)]) (fun n p=>ref3_RulesError_L0 F a0 n p=some s) (fun i hh=>by simp [ref3_RulesError_L0] at hh) (fun n v1 h=>?_) F (0:Int) h
      have h:ref3_RulesError_L0 F a0 (n+1) v1=some s:=h
      rw [ref3_RulesError_L0] at h
      refine T_reg [] [0,11,12,13,14] [(14,dB (decide (v1 < (a0.length:Int))))] [] 1 (by kernel_rfl) (trivial) ?_
      refine T_seqk ?_
      refine T_cond (decide (v1 < (a0.length:Int))) (by kernel_rfl) (fun hc=>?_) (fun hc=>?_)
      · have h:=cond_tt hc h
        refine T_skip fun a w hm=>then_norm (((?_:T Tryz.prog e 47 _ _ _) a w hm))
        refine T_seqk ?_
        refine T_block ?_
        obtain ⟨hp1,h⟩:=chk_ok h
        refine T_reg [(1,{ cs:=cS_PrepressRule (a0.getD v1.toNat z_PrepressRule) })] [0,3,4,11,12,13] [(3,dI v1),(4,.box [.d (.str ((a0.getD v1.toNat z_PrepressRule).f0)),dI (((a0.getD v1.toNat z_PrepressRule).f1).f0),.d (.sl 2 ((((a0.getD v1.toNat z_PrepressRule).f1).f1).map cS_PrepressTerm)),dI (((a0.getD v1.toNat z_PrepressRule).f1).f2),dI (((a0.getD v1.toNat z_PrepressRule).f1).f3),.d (.sl 5 ((((a0.getD v1.toNat z_PrepressRule).f1).f4).map rS_PrepressCond))])] [(1,0≤v1∧(a0.map cS_PrepressRule)[v1.toNat]? = some (cS_PrepressRule (a0.getD v1.toNat z_PrepressRule)))] 4 (by kernel_rfl) (idx_ok (d:=z_PrepressRule) cS_PrepressRule hp1) ?_
        refine T_seqk ?_
        obtain ⟨y1,hy1,h⟩:=call_ok h
        refine T_reg [(2,{ res:=dB y1 })] [0,3,4,11,12,13,21] [(21,dB (!y1))] [(2,ACall Tryz.prog 25 [.d (.str ((a0.getD v1.toNat z_PrepressRule).f0))] [] (dB y1) [])] 1 (by kernel_rfl) (ref3_ruleName_ok hy1) ?_
        refine T_cond (!y1) (by kernel_rfl) (fun hc=>?_) (fun hc=>?_)
        · have h:=cond_tt hc h
          refine T_reg [] [2] [(2,dI (6:Int))] [] 1 (by kernel_rfl) (trivial) ?_
          obtain hs:=Option.some.inj h; subst hs
          have h:=callE_esc hk1
          obtain hs:=Option.some.inj h; subst hs
          refine T_ret fun a w hm=>then_ret (inBlock_ret (then_ret (then_ret (inBlock_ret (then_ret (then_ret (T_return (fr':=[(2,dI (6:Int))]) [2] (by kernel_rfl) [.keep [2]] (by kernel_rfl) (by kernel_rfl) (by kernel_rfl) (by show _=_; kernel_rfl) (by exact trivial) a w hm)))))))
        · have h:=cond_ff hc h
          refine T_skip fun a w hm=>then_norm (((?_:T Tryz.prog e 47 _ _ _) a w hm))
          refine T_seqk ?_
          obtain ⟨hp2,h⟩:=chk_ok h
          refine T_reg [(2,{ rw:=some (.d (.sl 6 (((a0.drop (0:Int).toNat).take (v1.toNat - (0:Int).toNat)).map cS_PrepressRule))) }),(3,{ rw:=some (dI (((a0.drop (0:Int).toNat).take (v1.toNat - (0:Int).toNat)).length:Int)) })] [0,4,11,12,13,24,25,26] [(24,.d (.sl 6 (((a0.drop (0:Int).toNat).take (v1.toNat - (0:Int).toNat)).map cS_PrepressRule))),(25,dI (((a0.drop (0:Int).toNat).take (v1.toNat - (0:Int).toNat)).length:Int)),(26,dI (0:Int))] [(2,(0≤(0:Int)∧(0:Int)≤v1∧v1≤((a0.map cS_PrepressRule).length:Int))∧AV.d (.sl 6 (((a0.map cS_PrepressRule).drop (0:Int).toNat).take (v1.toNat - (0:Int).toNat)))=.d (.sl 6 (((a0.drop (0:Int).toNat).take (v1.toNat - (0:Int).toNat)).map cS_PrepressRule))),(0,True∧dI ((((a0.drop (0:Int).toNat).take (v1.toNat - (0:Int).toNat)).map cS_PrepressRule).length:Int)=dI (((a0.drop (0:Int).toNat).take (v1.toNat - (0:Int).toNat)).length:Int))] 1 (by kernel_rfl) (⟨cutH cS_PrepressRule hp2,len_ok cS_PrepressRule⟩) ?_
          refine T_joinEt h (fun (p:Unit)=>[(0,.d (.sl 6 (a0.map cS_PrepressRule))),(4,.box [.d (.str ((a0.getD v1.toNat z_PrepressRule).f0)),dI (((a0.getD v1.toNat z_PrepressRule).f1).f0),.d (.sl 2 ((((a0.getD v1.toNat z_PrepressRule).f1).f1).map cS_PrepressTerm)),dI (((a0.getD v1.toNat z_PrepressRule).f1).f2),dI (((a0.getD v1.toNat z_PrepressRule).f1).f3),.d (.sl 5 ((((a0.getD v1.toNat z_PrepressRule).f1).f4).map rS_PrepressCond))]),(11,.d (.sl 6 (a0.map cS_PrepressRule))),(12,dI (a0.length:Int)),(13,dI v1)]) (fun s h hk2=>?_) (fun s h=>?_)
          · refine T_co [.keep [0,4,11,12,13,24,25,26]] ((fun (p:Int)=>[(0,.d (.sl 6 (a0.map cS_PrepressRule))),(4,.box [.d (.str ((a0.getD v1.toNat z_PrepressRule).f0)),dI (((a0.getD v1.toNat z_PrepressRule).f1).f0),.d (.sl 2 ((((a0.getD v1.toNat z_PrepressRule).f1).f1).map cS_PrepressTerm)),dI (((a0.getD v1.toNat z_PrepressRule).f1).f2),dI (((a0.getD v1.toNat z_PrepressRule).f1).f3),.d (.sl 5 ((((a0.getD v1.toNat z_PrepressRule).f1).f4).map rS_PrepressCond))]),(11,.d (.sl 6 (a0.map cS_PrepressRule))),(12,dI (a0.length:Int)),(13,dI v1),(24,.d (.sl 6 (((a0.drop (0:Int).toNat).take (v1.toNat - (0:Int).toNat)).map cS_PrepressRule))),(25,dI (((a0.drop (0:Int).toNat).take (v1.toNat - (0:Int).toNat)).length:Int)),(26,dI p)]) (0:Int)) (by show _=_; kernel_rfl) ?_
            refine T_block ?_
            refine T_loopF (ι:=Int) (fun (p:Int)=>[(0,.d (.sl 6 (a0.map cS_PrepressRule))),(4,.box [.d (.str ((a0.getD v1.toNat z_PrepressRule).f0)),dI (((a0.getD v1.toNat z_PrepressRule).f1).f0),.d (.sl 2 ((((a0.getD v1.toNat z_PrepressRule).f1).f1).map cS_PrepressTerm)),dI (((a0.getD v1.toNat z_PrepressRule).f1).f2),dI (((a0.getD v1.toNat z_PrepressRule).f1).f3),.d (.sl 5 ((((a0.getD v1.toNat z_PrepressRule).f1).f4).map rS_PrepressCond))]),(11,.d (.sl 6 (a0.map cS_PrepressRule))),(12,dI (a0.length:Int)),(13,dI v1),(24,.d (.sl 6 (((a0.drop (0:Int).toNat).take (v1.toNat - (0:Int).toNat)).map cS_PrepressRule))),(25,dI (((a0.drop (0:Int).toNat).take (v1.toNat - (0:Int).toNat)).length:Int)),(26,dI p)]) (fun n p=>ref3_RulesError_L2 F a0 v1 n p=some s) (fun i hh=>by simp [ref3_RulesError_L2] at hh) (fun n v2 h=>?_) F (0:Int) h
            have h:ref3_RulesError_L2 F a0 v1 (n+1) v2=some s:=h
            rw [ref3_RulesError_L2] at h
            refine T_reg [] [0,4,11,12,13,24,25,26,27] [(27,dB (decide (v2 < (((a0.drop (0:Int).toNat).take (v1.toNat - (0:Int).toNat)).length:Int))))] [] 1 (by kernel_rfl) (trivial) ?_
            refine T_seqk ?_
            refine T_cond (decide (v2 < (((a0.drop (0:Int).toNat).take (v1.toNat - (0:Int).toNat)).length:Int))) (by kernel_rfl) (fun hc=>?_) (fun hc=>?_)
            · have h:=cond_tt hc h
              refine T_skip fun a w hm=>then_norm (((?_:T Tryz.prog e 47 _ _ _) a w hm))
              refine T_seqk ?_
              refine T_block ?_
              obtain ⟨hp3,h⟩:=chk_ok h
              refine T_reg [(0,{ cs:=cS_PrepressRule (((a0.drop (0:Int).toNat).take (v1.toNat - (0:Int).toNat)).getD v2.toNat z_PrepressRule) })] [0,4,6,11,12,13,24,25,26] [(6,.box [.d (.str ((((a0.drop (0:Int).toNat).take (v1.toNat - (0:Int).toNat)).getD v2.toNat z_PrepressRule).f0)),dI (((((a0.drop (0:Int).toNat).take (v1.toNat - (0:Int).toNat)).getD v2.toNat z_PrepressRule).f1).f0),.d (.sl 2 ((((((a0.drop (0:Int).toNat).take (v1.toNat - (0:Int).toNat)).getD v2.toNat z_PrepressRule).f1).f1).map cS_PrepressTerm)),dI (((((a0.drop (0:Int).toNat).take (v1.toNat - (0:Int).toNat)).getD v2.toNat z_PrepressRule).f1).f2),dI (((((a0.drop (0:Int).toNat).take (v1.toNat - (0:Int).toNat)).getD v2.toNat z_PrepressRule).f1).f3),.d (.sl 5 ((((((a0.drop (0:Int).toNat).take (v1.toNat - (0:Int).toNat)).getD v2.toNat z_PrepressRule).f1).f4).map rS_PrepressCond))])] [(0,0≤v2∧(((a0.drop (0:Int).toNat).take (v1.toNat - (0:Int).toNat)).map cS_PrepressRule)[v2.toNat]? = some (cS_PrepressRule (((a0.drop (0:Int).toNat).take (v1.toNat - (0:Int).toNat)).getD v2.toNat z_PrepressRule)))] 3 (by kernel_rfl) (idx_ok (d:=z_PrepressRule) cS_PrepressRule hp3) ?_
              obtain ⟨z1,hz1,h⟩:=lett_ok h
              refine T_reg [(1,{ rw:=some (.d (.str z1)) })] [0,4,11,12,13,24,25,26,34] [(34,dB (z1 == ((a0.getD v1.toNat z_PrepressRule).f0)))] [(1,(True)∧AV.d (.str ((((a0.drop (0:Int).toNat).take (v1.toNat - (0:Int).toNat)).getD v2.toNat z_PrepressRule).f0))=.d (.str z1))] 3 (by kernel_rfl) (⟨trivial,(by subst hz1; rfl)⟩) ?_
              refine T_cond (z1 == ((a0.getD v1.toNat z_PrepressRule).f0)) (by kernel_rfl) (fun hc=>?_) (fun hc=>?_)
              · have h:=cond_tt hc h
                refine T_reg [] [2] [(2,dI (7:Int))] [] 1 (by kernel_rfl) (trivial) ?_
                obtain hs:=Option.some.inj h; subst hs
                have h:=callE_esc hk2
                obtain hs:=Option.some.inj h; subst hs
                have h:=callE_esc hk1
                obtain hs:=Option.some.inj h; subst hs
                refine T_ret fun a w hm=>inBlock_ret (then_ret (then_ret (inBlock_ret (then_ret (then_ret (inBlock_ret (then_ret (then_ret (inBlock_ret (then_ret (then_ret (T_return (fr':=[(2,dI (7:Int))]) [2] (by kernel_rfl) [.keep [2]] (by kernel_rfl) (by kernel_rfl) (by kernel_rfl) (by show _=_; kernel_rfl) (by exact trivial) a w hm))))))))))))
              · have h:=cond_ff hc h
                refine T_skip fun a w hm=>inBlock_norm (then_norm (((?_:T Tryz.prog e 47 _ _ _) a w hm)))
                refine T_reg_end [] [0,4,11,12,13,24,25,26] [(26,dI (IntKind.i64.wrap (v2+(1:Int))))] [] 2 (by kernel_rfl) (trivial) fun a w hm=>then_norm (⟨IntKind.i64.wrap (v2+(1:Int)),h,hm.co (cs:=[.keep [0,4,11,12,13,24,25,26]]) (by show _=_; kernel_rfl)⟩)
            · have h:=cond_ff hc h
              obtain hs:=Option.some.inj h; subst hs
              refine T_exit fun a w hm=>then_exit (then_exit (inBlock_exit (then_norm (⟨_,rfl,hm.co (cs:=[.keep [0,4,11,12,13]]) (by show _=_; kernel_rfl)⟩))))
          · skip
            refine fun a w hm=>then_norm (((?_:T Tryz.prog e 47 _ _ _) a w hm))
            obtain ⟨y2,hy2,h⟩:=call_ok h
            refine T_reg [(2,{ res:=dI y2 })] [0,7,11,12,13] [(7,dI y2)] [(2,ACall Tryz.prog 26 [.agg (cS_PrepressCond ((a0.getD v1.toNat z_PrepressRule).f1))] [] (dI y2) [])] 1 (by kernel_rfl) (ref3_condError_ok hy2) ?_
            refine T_reg [] [0,7,11,12,13,40] [(40,dB (y2 != (0:Int)))] [] 2 (by kernel_rfl) (trivial) ?_
            refine T_cond (y2 != (0:Int)) (by kernel_rfl) (fun hc=>?_) (fun hc=>?_)
            · have h:=cond_tt hc h
              refine T_reg [] [2] [(2,dI y2)] [] 2 (by kernel_rfl) (trivial) ?_
              obtain hs:=Option.some.inj h; subst hs
              have h:=callE_esc hk1
              obtain hs:=Option.some.inj h; subst hs
              refine T_ret fun a w hm=>inBlock_ret (then_ret (then_ret (inBlock_ret (then_ret (then_ret (T_return (fr':=[(2,dI y2)]) [2] (by kernel_rfl) [.keep [2]] (by kernel_rfl) (by kernel_rfl) (by kernel_rfl) (by show _=_; kernel_rfl) (by exact trivial) a w hm))))))
            · have h:=cond_ff hc h
              refine T_skip fun a w hm=>inBlock_norm (then_norm (((?_:T Tryz.prog e 47 _ _ _) a w hm)))
              refine T_reg_end [] [0,11,12,13] [(13,dI (IntKind.i64.wrap (v1+(1:Int))))] [] 2 (by kernel_rfl) (trivial) fun a w hm=>then_norm (⟨IntKind.i64.wrap (v1+(1:Int)),h,hm.co (cs:=[.keep [0,11,12,13]]) (by show _=_; kernel_rfl)⟩)
      · have h:=cond_ff hc h
        obtain hs:=Option.some.inj h; subst hs
        refine T_exit fun a w hm=>then_exit (then_exit (inBlock_exit (then_norm (⟨_,rfl,hm.co (cs:=[.keep [0]]) (by show _=_; kernel_rfl)⟩))))
    · skip
      refine fun a w hm=>then_norm (((?_:T Tryz.prog e 47 _ _ _) a w hm))
      refine T_seqk ?_
      obtain ⟨y3,hy3,h⟩:=call_ok h
      refine T_reg [(1,{ res:=.d (.str y3) })] [46] [(46,dB (decide ((y3.length:Int) > (4096:Int))))] [(1,ACall Tryz.prog 10 [.d (.sl 6 (a0.map cS_PrepressRule))] [] (.d (.str y3)) [])] 2 (by kernel_rfl) (ref3_RulesText_ok hy3) ?_
      refine T_cond (decide ((y3.length:Int) > (4096:Int))) (by kernel_rfl) (fun hc=>?_) (fun hc=>?_)
      · have h:=cond_tt hc h
        refine T_reg [] [2] [(2,dI (2:Int))] [] 1 (by kernel_rfl) (trivial) ?_
        obtain hs:=Option.some.inj h; subst hs
        refine T_ret fun a w hm=>then_ret (T_return (fr':=[(2,dI (2:Int))]) [2] (by kernel_rfl) [.keep [2]] (by kernel_rfl) (by kernel_rfl) (by kernel_rfl) (by show _=_; kernel_rfl) (by exact trivial) a w hm)
      · have h:=cond_ff hc h
        refine T_skip fun a w hm=>then_norm (((?_:T Tryz.prog e 47 _ _ _) a w hm))
        refine T_reg [] [2] [(2,dI (0:Int))] [] 1 (by kernel_rfl) (trivial) ?_
        obtain hs:=Option.some.inj h; subst hs
        refine T_ret fun a w hm=>T_return (fr':=[(2,dI (0:Int))]) [2] (by kernel_rfl) [.keep [2]] (by kernel_rfl) (by kernel_rfl) (by kernel_rfl) (by show _=_; kernel_rfl) (by exact trivial) a w hm
theorem ref3_FactsError_ok {F:Nat} {a0:List S_PrepressFact} {r:Int} (h:ref3_FactsError F a0=some r):ACall Tryz.prog 12 [.d (.sl 2 (a0.map cS_PrepressFact))] [] (.d (.v (.int .i64 r))) []:=by
  rw [ref3_FactsError] at h
  refine ACall.intro (N:=37) Tryz.func12 rfl rfl rfl rfl rfl fun e=>?_
  refine T_reg [] [0] [] [] 1 (by kernel_rfl) (trivial) ?_
  refine T_seqk ?_
  refine T_reg [(1,{ rw:=some (dI (a0.length:Int)) })] [0,7] [(7,dB (decide ((a0.length:Int) > (64:Int))))] [(1,True∧dI ((a0.map cS_PrepressFact).length:Int)=dI (a0.length:Int))] 1 (by kernel_rfl) (len_ok cS_PrepressFact) ?_
  refine T_cond (decide ((a0.length:Int) > (64:Int))) (by kernel_rfl) (fun hc=>?_) (fun hc=>?_)
  · have h:=cond_tt hc h
    refine T_reg [] [2] [(2,dI (2:Int))] [] 1 (by kernel_rfl) (trivial) ?_
    obtain hs:=Option.some.inj h; subst hs
    refine T_ret fun a w hm=>then_ret (T_return (fr':=[(2,dI (2:Int))]) [2] (by kernel_rfl) [.keep [2]] (by kernel_rfl) (by kernel_rfl) (by kernel_rfl) (by show _=_; kernel_rfl) (by exact trivial) a w hm)
  · have h:=cond_ff hc h
    refine T_skip fun a w hm=>then_norm (((?_:T Tryz.prog e 37 _ _ _) a w hm))
    refine T_seqk ?_
    refine T_reg [(1,{ rw:=some (dI (a0.length:Int)) })] [0,8,9,10] [(8,.d (.sl 2 (a0.map cS_PrepressFact))),(9,dI (a0.length:Int)),(10,dI (0:Int))] [(1,True∧dI ((a0.map cS_PrepressFact).length:Int)=dI (a0.length:Int))] 1 (by kernel_rfl) (len_ok cS_PrepressFact) ?_
    refine T_joinEt h (fun (p:Unit)=>[]) (fun s h hk1=>?_) (fun s h=>?_)
    · refine T_co [.keep [0,8,9,10]] ((fun (p:Int)=>[(0,.d (.sl 2 (a0.map cS_PrepressFact))),(8,.d (.sl 2 (a0.map cS_PrepressFact))),(9,dI (a0.length:Int)),(10,dI p)]) (0:Int)) (by show _=_; kernel_rfl) ?_
      refine T_block ?_
      refine T_loopF (ι:=Int) (fun (p:Int)=>[(0,.d (.sl 2 (a0.map cS_PrepressFact))),(8,.d (.sl 2 (a0.map cS_PrepressFact))),(9,dI (a0.length:Int)),(10,dI p)]) (fun n p=>ref3_FactsError_L0 F a0 n p=some s) (fun i hh=>by simp [ref3_FactsError_L0] at hh) (fun n v1 h=>?_) F (0:Int) h
      have h:ref3_FactsError_L0 F a0 (n+1) v1=some s:=h
      rw [ref3_FactsError_L0] at h
      refine T_reg [] [0,8,9,10,11] [(11,dB (decide (v1 < (a0.length:Int))))] [] 1 (by kernel_rfl) (trivial) ?_
      refine T_seqk ?_
      refine T_cond (decide (v1 < (a0.length:Int))) (by kernel_rfl) (fun hc=>?_) (fun hc=>?_)
      · have h:=cond_tt hc h
        refine T_skip fun a w hm=>then_norm (((?_:T Tryz.prog e 37 _ _ _) a w hm))
        refine T_seqk ?_
        refine T_block ?_
        obtain ⟨hp1,h⟩:=chk_ok h
        refine T_reg [(1,{ cs:=cS_PrepressFact (a0.getD v1.toNat z_PrepressFact) })] [0,3,4,8,9,10] [(3,dI v1),(4,.box [.d (.str ((a0.getD v1.toNat z_PrepressFact).f0)),dI ((a0.getD v1.toNat z_PrepressFact).f1)])] [(1,0≤v1∧(a0.map cS_PrepressFact)[v1.toNat]? = some (cS_PrepressFact (a0.getD v1.toNat z_PrepressFact)))] 4 (by kernel_rfl) (idx_ok (d:=z_PrepressFact) cS_PrepressFact hp1) ?_
        refine T_seqk ?_
        obtain ⟨y1,hy1,h⟩:=call_ok h
        refine T_reg [(2,{ res:=dB y1 })] [0,3,4,8,9,10,18] [(18,dB (!y1))] [(2,ACall Tryz.prog 25 [.d (.str ((a0.getD v1.toNat z_PrepressFact).f0))] [] (dB y1) [])] 1 (by kernel_rfl) (ref3_ruleName_ok hy1) ?_
        refine T_cond (!y1) (by kernel_rfl) (fun hc=>?_) (fun hc=>?_)
        · have h:=cond_tt hc h
          refine T_reg [] [2] [(2,dI (6:Int))] [] 1 (by kernel_rfl) (trivial) ?_
          obtain hs:=Option.some.inj h; subst hs
          have h:=callE_esc hk1
          obtain hs:=Option.some.inj h; subst hs
          refine T_ret fun a w hm=>then_ret (inBlock_ret (then_ret (then_ret (inBlock_ret (then_ret (then_ret (T_return (fr':=[(2,dI (6:Int))]) [2] (by kernel_rfl) [.keep [2]] (by kernel_rfl) (by kernel_rfl) (by kernel_rfl) (by show _=_; kernel_rfl) (by exact trivial) a w hm)))))))
        · have h:=cond_ff hc h
          refine T_skip fun a w hm=>then_norm (((?_:T Tryz.prog e 37 _ _ _) a w hm))
          refine T_seqk ?_
          obtain ⟨y2,hy2,h⟩:=call_ok h
          refine T_reg [(2,{ es:=some (([(a0.getD v1.toNat z_PrepressFact).f1]).map (cI .i64)) }),(3,{ res:=dB y2 })] [0,3,4,8,9,10,22] [(22,dB y2)] [(2,(([(a0.getD v1.toNat z_PrepressFact).f1]).map (cI .i64))=(([(a0.getD v1.toNat z_PrepressFact).f1]).map (cI .i64))),(0,ACall Tryz.prog 34 [dI (2147483648:Int),.d (.sl 1 (([(a0.getD v1.toNat z_PrepressFact).f1]).map (cI .i64)))] [] (dB y2) [])] 0 (by kernel_rfl) (⟨rfl,ref3_beyond_ok hy2⟩) ?_
          refine T_cond y2 (by kernel_rfl) (fun hc=>?_) (fun hc=>?_)
          · have h:=cond_tt hc h
            refine T_reg [] [2] [(2,dI (3:Int))] [] 1 (by kernel_rfl) (trivial) ?_
            obtain hs:=Option.some.inj h; subst hs
            have h:=callE_esc hk1
            obtain hs:=Option.some.inj h; subst hs
            refine T_ret fun a w hm=>then_ret (inBlock_ret (then_ret (then_ret (inBlock_ret (then_ret (then_ret (T_return (fr':=[(2,dI (3:Int))]) [2] (by kernel_rfl) [.keep [2]] (by kernel_rfl) (by kernel_rfl) (by kernel_rfl) (by show _=_; kernel_rfl) (by exact trivial) a w hm)))))))
          · have h:=cond_ff hc h
            refine T_skip fun a w hm=>then_norm (((?_:T Tryz.prog e 37 _ _ _) a w hm))
            obtain ⟨hp2,h⟩:=chk_ok h
            obtain ⟨z1,hz1,h⟩:=lett_ok h
            refine T_draw mixed [(8,{ cs:=cS_PrepressFact (a0.getD (IntKind.i64.wrap (v1 - (1:Int))).toNat z_PrepressFact) }),(11,{ rw:=some (dB z1) })] [0,8,9,10,35] [] [(0,.d (.sl 2 (a0.map cS_PrepressFact))),(8,.d (.sl 2 (a0.map cS_PrepressFact))),(9,dI (a0.length:Int)),(10,dI v1),(35,dB (bif (decide (v1 > (0:Int))) then z1 else false))] [(3,((((decide (v1 > (0:Int))) == true) && true)=true→True)),(0,((((decide (v1 > (0:Int))) == true) && true)=true→True)),(0,((((decide (v1 > (0:Int))) == true) && true)=true→True)),(0,((((decide (v1 > (0:Int))) == true) && true)=true→True)),(0,((((decide (v1 > (0:Int))) == true) && true)=true→True)),(0,((((decide (v1 > (0:Int))) == true) && true)=true→0≤(IntKind.i64.wrap (v1 - (1:Int)))∧(a0.map cS_PrepressFact)[(IntKind.i64.wrap (v1 - (1:Int))).toNat]? = some (cS_PrepressFact (a0.getD (IntKind.i64.wrap (v1 - (1:Int))).toNat z_PrepressFact)))),(0,((((decide (v1 > (0:Int))) == true) && true)=true→True)),(0,((((decide (v1 > (0:Int))) == true) && true)=true→True)),(0,((((decide (v1 > (0:Int))) == true) && true)=true→(True)∧dB (Op.bytesLess ((a0.getD v1.toNat z_PrepressFact).f0) ((a0.getD (IntKind.i64.wrap (v1 - (1:Int))).toNat z_PrepressFact).f0) || ((a0.getD v1.toNat z_PrepressFact).f0) == ((a0.getD (IntKind.i64.wrap (v1 - (1:Int))).toNat z_PrepressFact).f0))=dB z1))] 1 (by kernel_rfl) (⟨(fun hg=>trivial),(fun hg=>trivial),(fun hg=>trivial),(fun hg=>trivial),(fun hg=>trivial),(fun hg=>idx_ok (d:=z_PrepressFact) cS_PrepressFact (hp2 hg)),(fun hg=>trivial),(fun hg=>trivial),(fun hg=>⟨trivial,(by subst hz1; rfl)⟩)⟩) ?_
            refine T_cond (bif (decide (v1 > (0:Int))) then z1 else false) (by kernel_rfl) (fun hc=>?_) (fun hc=>?_)
            · have h:=cond_tt hc h
              refine T_reg [] [2] [(2,dI (18:Int))] [] 1 (by kernel_rfl) (trivial) ?_
              obtain hs:=Option.some.inj h; subst hs
              have h:=callE_esc hk1
              obtain hs:=Option.some.inj h; subst hs
              refine T_ret fun a w hm=>inBlock_ret (then_ret (then_ret (inBlock_ret (then_ret (then_ret (T_return (fr':=[(2,dI (18:Int))]) [2] (by kernel_rfl) [.keep [2]] (by kernel_rfl) (by kernel_rfl) (by kernel_rfl) (by show _=_; kernel_rfl) (by exact trivial) a w hm))))))
            · have h:=cond_ff hc h
              refine T_skip fun a w hm=>inBlock_norm (then_norm (((?_:T Tryz.prog e 37 _ _ _) a w hm)))
              refine T_reg_end [] [0,8,9,10] [(10,dI (IntKind.i64.wrap (v1+(1:Int))))] [] 2 (by kernel_rfl) (trivial) fun a w hm=>then_norm (⟨IntKind.i64.wrap (v1+(1:Int)),h,hm.co (cs:=[.keep [0,8,9,10]]) (by show _=_; kernel_rfl)⟩)
      · have h:=cond_ff hc h
        obtain hs:=Option.some.inj h; subst hs
        refine T_exit fun a w hm=>then_exit (then_exit (inBlock_exit (then_norm (⟨_,rfl,hm.co (cs:=[.keep []]) (by show _=_; kernel_rfl)⟩))))
    · skip
      refine fun a w hm=>then_norm (((?_:T Tryz.prog e 37 _ _ _) a w hm))
      refine T_reg [] [2] [(2,dI (0:Int))] [] 1 (by kernel_rfl) (trivial) ?_
      obtain hs:=Option.some.inj h; subst hs
      refine T_ret fun a w hm=>T_return (fr':=[(2,dI (0:Int))]) [2] (by kernel_rfl) [.keep [2]] (by kernel_rfl) (by kernel_rfl) (by kernel_rfl) (by show _=_; kernel_rfl) (by exact trivial) a w hm
theorem ref3_Can_body_ok {F:Nat} {rec_ref3_Can:S_PrepressCond→(List S_PrepressFact)→Bool→Option Bool} (hrec_ref3_Can:∀ {a0:S_PrepressCond},∀ {a1:List S_PrepressFact},∀ {a2:Bool},∀ {r:Bool},rec_ref3_Can a0 a1 a2=some r→ACall Tryz.prog 35 [.agg (cS_PrepressCond a0),.d (.sl 2 (a1.map cS_PrepressFact)),.d (.v (.bool a2))] [] (.d (.v (.bool r))) []) {a0:S_PrepressCond} {a1:List S_PrepressFact} {a2:Bool} {r:Bool} (h:ref3_Can_body F rec_ref3_Can a0 a1 a2=some r):ACall Tryz.prog 35 [.agg (cS_PrepressCond a0),.d (.sl 2 (a1.map cS_PrepressFact)),.d (.v (.bool a2))] [] (.d (.v (.bool r))) []:=by
  rw [ref3_Can_body] at h
  refine ACall.intro (N:=126) Tryz.func35 rfl rfl rfl rfl rfl fun e=>?_
  refine T_reg [] [1,2,3] [(3,bx_PrepressCond a0)] [] 2 (by kernel_rfl) (trivial) ?_
  refine T_seqk ?_
  refine T_reg [] [1,2,3,17] [(17,dI a0.f0)] [] 2 (by kernel_rfl) (trivial) ?_
  refine T_block ?_
  refine T_reg [] [1,2,3,17,18] [(18,dB (a0.f0 == (1:Int)))] [] 2 (by kernel_rfl) (trivial) ?_
  refine T_cond (a0.f0 == (1:Int)) (by kernel_rfl) (fun hc=>?_) (fun hc=>?_)
  · have h:=cond_tt hc h
    obtain ⟨hp1,h⟩:=chk_ok h
    obtain ⟨y1,hy1,h⟩:=call_ok h
    refine T_reg [(2,{ cs:=cS_PrepressCond (a0.f4.getD (0:Int).toNat z_PrepressCond) }),(7,{ res:=dB y1 })] [6] [(6,dB y1)] [(2,0≤(0:Int)∧(a0.f4.map rS_PrepressCond)[(0:Int).toNat]? = some (cS_PrepressCond (a0.f4.getD (0:Int).toNat z_PrepressCond))),(4,ACall Tryz.prog 35 [.agg (cS_PrepressCond (a0.f4.getD (0:Int).toNat z_PrepressCond)),.d (.sl 2 (a1.map cS_PrepressFact)),dB (!a2)] [] (dB y1) [])] 1 (by kernel_rfl) (⟨idx_okR (d:=z_PrepressCond) rS_PrepressCond_eq hp1,hrec_ref3_Can hy1⟩) ?_
    obtain hs:=Option.some.inj h; subst hs
    refine T_ret fun a w hm=>inBlock_ret (then_ret (T_return (fr':=[(6,dB y1)]) [6] (by kernel_rfl) [.keep [6]] (by kernel_rfl) (by kernel_rfl) (by kernel_rfl) (by show _=_; kernel_rfl) (by exact trivial) a w hm))
  · have h:=cond_ff hc h
    refine T_joinc h (fun (p:Bool)=>[(1,.d (.sl 2 (a1.map cS_PrepressFact))),(2,dB a2),(3,bx_PrepressCond a0),(28,dB p)]) (fun s h=>?_) (fun v10 h=>?_)
    · refine T_reg [] [1,2,3,17,28] [(28,dB (a0.f0 == (2:Int)))] [] 2 (by kernel_rfl) (trivial) ?_
      refine T_cond (a0.f0 == (2:Int)) (by kernel_rfl) (fun hc=>?_) (fun hc=>?_)
      · have h:=cond_tt hc h
        obtain hs:=Option.some.inj h; subst hs
        refine T_skip fun a w hm=>then_norm (hm.co (cs:=[.keep [1,2,3,28]]) (by show _=_; kernel_rfl))
      · have h:=cond_ff hc h
        obtain hs:=Option.some.inj h; subst hs
        refine T_reg_end [] [1,2,3,28] [(28,dB (a0.f0 == (3:Int)))] [] 2 (by kernel_rfl) (trivial) fun a w hm=>then_norm (hm.co (cs:=[.keep [1,2,3,28]]) (by show _=_; kernel_rfl))
    · skip
      refine T_cond v10 (by kernel_rfl) (fun hc=>?_) (fun hc=>?_)
      · have h:=cond_tt hc h
        obtain ⟨hp2,h⟩:=chk_ok h
        obtain ⟨y2,hy2,h⟩:=call_ok h
        obtain ⟨hp3,h⟩:=chk_ok h
        obtain ⟨y3,hy3,h⟩:=call_ok h
        refine T_drawX mixed 35 (.take 0 (.take 4 (.take 5 (.take 7 (.take 11 (.take 12 (.all (.alt 1 (.all (.alt 2 (.all (.alt 3 (.all (.alt 6 (.all (.alt 8 (.all (.alt 9 (.all (.alt 10 (.all (.alt 13 (.take 14 (.take 15 .done)) .stop)) .stop)) .stop)) .stop)) (.alt 8 (.all (.alt 6 (.all (.alt 9 (.all (.alt 10 (.all (.alt 13 (.take 14 (.take 15 .done)) .stop)) .stop)) .stop)) (.alt 9 (.all (.alt 6 (.all (.alt 10 (.all (.alt 13 (.take 14 (.take 15 .done)) .stop)) .stop)) (.alt 10 (.all (.alt 6 (.all (.alt 13 (.take 14 (.take 15 .done)) .stop)) .stop)) .stop))) .stop))) .stop))) (.alt 8 (.all (.alt 3 (.all (.alt 6 (.all (.alt 9 (.all (.alt 10 (.all (.alt 13 (.take 14 (.take 15 .done)) .stop)) .stop)) .stop)) (.alt 9 (.all (.alt 6 (.all (.alt 10 (.all (.alt 13 (.take 14 (.take 15 .done)) .stop)) .stop)) (.alt 10 (.all (.alt 6 (.all (.alt 13 (.take 14 (.take 15 .done)) .stop)) .stop)) .stop))) .stop))) (.alt 9 (.all (.alt 3 (.all (.alt 6 (.all (.alt 10 (.all (.alt 13 (.take 14 (.take 15 .done)) .stop)) .stop)) (.alt 10 (.all (.alt 6 (.all (.alt 13 (.take 14 (.take 15 .done)) .stop)) .stop)) .stop))) (.alt 10 (.all (.alt 3 (.all (.alt 6 (.all (.alt 13 (.take 14 (.take 15 .done)) .stop)) .stop)) .stop)) .stop))) .stop))) .stop))) (.alt 8 (.all (.alt 2 (.all (.alt 3 (.all (.alt 6 (.all (.alt 9 (.all (.alt 10 (.all (.alt 13 (.take 14 (.take 15 .done)) .stop)) .stop)) .stop)) (.alt 9 (.all (.alt 6 (.all (.alt 10 (.all (.alt 13 (.take 14 (.take 15 .done)) .stop)) .stop)) (.alt 10 (.all (.alt 6 (.all (.alt 13 (.take 14 (.take 15 .done)) .stop)) .stop)) .stop))) .stop))) (.alt 9 (.all (.alt 3 (.all (.alt 6 (.all (.alt 10 (.all (.alt 13 (.take 14 (.take 15 .done)) .stop)) .stop)) (.alt 10 (.all (.alt 6 (.all (.alt 13 (.take 14 (.take 15 .done)) .stop)) .stop)) .stop))) (.alt 10 (.all (.alt 3 (.all (.alt 6 (.all (.alt 13 (.take 14 (.take 15 .done)) .stop)) .stop)) .stop)) .stop))) .stop))) (.alt 9 (.all (.alt 2 (.all (.alt 3 (.all (.alt 6 (.all (.alt 10 (.all (.alt 13 (.take 14 (.take 15 .done)) .stop)) .stop)) (.alt 10 (.all (.alt 6 (.all (.alt 13 (.take 14 (.take 15 .done)) .stop)) .stop)) .stop))) (.alt 10 (.all (.alt 3 (.all (.alt 6 (.all (.alt 13 (.take 14 (.take 15 .done)) .stop)) .stop)) .stop)) .stop))) (.alt 10 (.all (.alt 2 (.all (.alt 3 (.all (.alt 6 (.all (.alt 13 (.take 14 (.take 15 .done)) .stop)) .stop)) .stop)) .stop)) .stop))) .stop))) .stop))) (.alt 8 (.all (.alt 1 (.all (.alt 2 (.all (.alt 3 (.all (.alt 6 (.all (.alt 9 (.all (.alt 10 (.all (.alt 13 (.take 14 (.take 15 .done)) .stop)) .stop)) .stop)) (.alt 9 (.all (.alt 6 (.all (.alt 10 (.all (.alt 13 (.take 14 (.take 15 .done)) .stop)) .stop)) (.alt 10 (.all (.alt 6 (.all (.alt 13 (.take 14 (.take 15 .done)) .stop)) .stop)) .stop))) .stop))) (.alt 9 (.all (.alt 3 (.all (.alt 6 (.all (.alt 10 (.all (.alt 13 (.take 14 (.take 15 .done)) .stop)) .stop)) (.alt 10 (.all (.alt 6 (.all (.alt 13 (.take 14 (.take 15 .done)) .stop)) .stop)) .stop))) (.alt 10 (.all (.alt 3 (.all (.alt 6 (.all (.alt 13 (.take 14 (.take 15 .done)) .stop)) .stop)) .stop)) .stop))) .stop))) (.alt 9 (.all (.alt 2 (.all (.alt 3 (.all (.alt 6 (.all (.alt 10 (.all (.alt 13 (.take 14 (.take 15 .done)) .stop)) .stop)) (.alt 10 (.all (.alt 6 (.all (.alt 13 (.take 14 (.take 15 .done)) .stop)) .stop)) .stop))) (.alt 10 (.all (.alt 3 (.all (.alt 6 (.all (.alt 13 (.take 14 (.take 15 .done)) .stop)) .stop)) .stop)) .stop))) (.alt 10 (.all (.alt 2 (.all (.alt 3 (.all (.alt 6 (.all (.alt 13 (.take 14 (.take 15 .done)) .stop)) .stop)) .stop)) .stop)) .stop))) .stop))) (.alt 9 (.all (.alt 1 (.all (.alt 2 (.all (.alt 3 (.all (.alt 6 (.all (.alt 10 (.all (.alt 13 (.take 14 (.take 15 .done)) .stop)) .stop)) (.alt 10 (.all (.alt 6 (.all (.alt 13 (.take 14 (.take 15 .done)) .stop)) .stop)) .stop))) (.alt 10 (.all (.alt 3 (.all (.alt 6 (.all (.alt 13 (.take 14 (.take 15 .done)) .stop)) .stop)) .stop)) .stop))) (.alt 10 (.all (.alt 2 (.all (.alt 3 (.all (.alt 6 (.all (.alt 13 (.take 14 (.take 15 .done)) .stop)) .stop)) .stop)) .stop)) .stop))) (.alt 10 (.all (.alt 1 (.all (.alt 2 (.all (.alt 3 (.all (.alt 6 (.all (.alt 13 (.take 14 (.take 15 .done)) .stop)) .stop)) .stop)) .stop)) .stop)) .stop))) .stop))) .stop))))))))) ([0,1,2,4,0,0,56,0,128,256,512,0,0,7232,8319,32767],[0,1,2,4,0,0,56,0,128,256,512,0,0,7168,64,8192]) 55473 [(2,{ cs:=cS_PrepressCond (a0.f4.getD (0:Int).toNat z_PrepressCond) }),(6,{ res:=dB y2 }),(9,{ cs:=cS_PrepressCond (a0.f4.getD (1:Int).toNat z_PrepressCond) }),(13,{ res:=dB y3 })] [2,3,7,8] [] [(2,dB a2),(3,bx_PrepressCond a0),(7,dB y2),(8,dB y3)] ((fun (o2:Prop)=>fun (o6:Prop)=>fun (o9:Prop)=>fun (o13:Prop)=>[(7,o2),(1,o6),(1,o9),(1,o13),(3,o6),(0,o9),(1,o13),(2,o9),(0,o6),(1,o13),(3,o6),(0,o13),(4,o6),(0,o9),(1,o13),(2,o9),(0,o6),(1,o13),(3,o6),(0,o13),(2,o9),(1,o6),(1,o13),(3,o6),(0,o13),(4,o6),(0,o13),(3,o2),(1,o6),(0,o9),(1,o13),(2,o9),(0,o6),(1,o13),(3,o6),(0,o13),(2,o9),(1,o6),(1,o13),(3,o6),(0,o13),(4,o6),(0,o13),(2,o9),(0,o2),(1,o6),(1,o13),(3,o6),(0,o13),(4,o6),(0,o13),(3,o2),(1,o6),(0,o13),(4,o2),(1,o6),(0,o9),(1,o13),(2,o9),(0,o6),(1,o13),(3,o6),(0,o13),(2,o9),(1,o6),(1,o13),(3,o6),(0,o13),(4,o6),(0,o13),(2,o9),(0,o2),(1,o6),(1,o13),(3,o6),(0,o13),(4,o6),(0,o13),(3,o2),(1,o6),(0,o13),(2,o9),(1,o2),(1,o6),(1,o13),(3,o6),(0,o13),(4,o6),(0,o13),(3,o2),(1,o6),(0,o13),(4,o2),(1,o6),(0,o13)]) (0≤(0:Int)∧(a0.f4.map rS_PrepressCond)[(0:Int).toNat]? = some (cS_PrepressCond (a0.f4.getD (0:Int).toNat z_PrepressCond))) (ACall Tryz.prog 35 [.agg (cS_PrepressCond (a0.f4.getD (0:Int).toNat z_PrepressCond)),.d (.sl 2 (a1.map cS_PrepressFact)),dB a2] [] (dB y2) []) (0≤(1:Int)∧(a0.f4.map rS_PrepressCond)[(1:Int).toNat]? = some (cS_PrepressCond (a0.f4.getD (1:Int).toNat z_PrepressCond))) (ACall Tryz.prog 35 [.agg (cS_PrepressCond (a0.f4.getD (1:Int).toNat z_PrepressCond)),.d (.sl 2 (a1.map cS_PrepressFact)),dB a2] [] (dB y3) [])) 2 (by kernel_rfl) (by kernel_rfl) (by kernel_rfl) (have p2:=idx_okR (d:=z_PrepressCond) rS_PrepressCond_eq hp2; have p6:=hrec_ref3_Can hy2; have p9:=idx_okR (d:=z_PrepressCond) rS_PrepressCond_eq hp3; have p13:=hrec_ref3_Can hy3; ⟨p2,p6,p9,p13,p6,p9,p13,p9,p6,p13,p6,p13,p6,p9,p13,p9,p6,p13,p6,p13,p9,p6,p13,p6,p13,p6,p13,p2,p6,p9,p13,p9,p6,p13,p6,p13,p9,p6,p13,p6,p13,p6,p13,p9,p2,p6,p13,p6,p13,p6,p13,p2,p6,p13,p2,p6,p9,p13,p9,p6,p13,p6,p13,p9,p6,p13,p6,p13,p6,p13,p9,p2,p6,p13,p6,p13,p6,p13,p2,p6,p13,p9,p2,p6,p13,p6,p13,p6,p13,p2,p6,p13,p2,p6,p13⟩) ?_
        refine T_seqk ?_
        refine T_reg [] [7,8,49] [(49,dB ((a0.f0 == (2:Int)) == a2))] [] 5 (by kernel_rfl) (trivial) ?_
        refine T_cond ((a0.f0 == (2:Int)) == a2) (by kernel_rfl) (fun hc=>?_) (fun hc=>?_)
        · have h:=cond_tt hc h
          refine T_reg [] [6] [(6,dB (bif y2 then true else y3))] [(2,(((y2 == false) && true)=true→True))] 2 (by kernel_rfl) ((fun hg=>trivial)) ?_
          obtain hs:=Option.some.inj h; subst hs
          refine T_ret fun a w hm=>then_ret (inBlock_ret (then_ret (T_return (fr':=[(6,dB (bif y2 then true else y3))]) [6] (by kernel_rfl) [.keep [6]] (by kernel_rfl) (by kernel_rfl) (by kernel_rfl) (by show _=_; kernel_rfl) (by exact trivial) a w hm)))
        · have h:=cond_ff hc h
          refine T_skip fun a w hm=>then_norm (((?_:T Tryz.prog e 126 _ _ _) a w hm))
          refine T_reg [] [6] [(6,dB (bif y2 then y3 else false))] [(2,(((y2 == true) && true)=true→True))] 2 (by kernel_rfl) ((fun hg=>trivial)) ?_
          obtain hs:=Option.some.inj h; subst hs
          refine T_ret fun a w hm=>inBlock_ret (then_ret (T_return (fr':=[(6,dB (bif y2 then y3 else false))]) [6] (by kernel_rfl) [.keep [6]] (by kernel_rfl) (by kernel_rfl) (by kernel_rfl) (by show _=_; kernel_rfl) (by exact trivial) a w hm))
      · have h:=cond_ff hc h
        refine T_skip fun a w hm=>inBlock_norm (then_norm (((?_:T Tryz.prog e 126 _ _ _) a w hm)))
        refine T_reg [] [1,2,3,9] [(9,dI (0:Int))] [] 1 (by kernel_rfl) (trivial) ?_
        refine T_seqk ?_
        refine T_reg [(2,{ rw:=some (dI (a0.f1.length:Int)) })] [1,2,3,9,59,60,61] [(59,.d (.sl 2 (a0.f1.map cS_PrepressTerm))),(60,dI (a0.f1.length:Int)),(61,dI (0:Int))] [(2,True∧dI ((a0.f1.map cS_PrepressTerm).length:Int)=dI (a0.f1.length:Int))] 1 (by kernel_rfl) (len_ok cS_PrepressTerm) ?_
        refine T_joinEt h (fun (p:Int)=>[(2,dB a2),(3,bx_PrepressCond a0),(9,dI p)]) (fun s h hk1=>?_) (fun v11 h=>?_)
        · refine T_co [.keep [1,2,3,9,59,60,61]] ((fun (p:Int×Int)=>[(1,.d (.sl 2 (a1.map cS_PrepressFact))),(2,dB a2),(3,bx_PrepressCond a0),(9,dI p.1),(59,.d (.sl 2 (a0.f1.map cS_PrepressTerm))),(60,dI (a0.f1.length:Int)),(61,dI p.2)]) ((0:Int),(0:Int))) (by show _=_; kernel_rfl) ?_
          refine T_block ?_
          refine T_loopF (ι:=Int×Int) (fun (p:Int×Int)=>[(1,.d (.sl 2 (a1.map cS_PrepressFact))),(2,dB a2),(3,bx_PrepressCond a0),(9,dI p.1),(59,.d (.sl 2 (a0.f1.map cS_PrepressTerm))),(60,dI (a0.f1.length:Int)),(61,dI p.2)]) (fun n p=>ref3_Can_L1 F a0 a1 n p.1 p.2=some s) (fun i hh=>by simp [ref3_Can_L1] at hh) (fun n p h=>?_) F ((0:Int),(0:Int)) h
          obtain ⟨v7,v1⟩:=p
          have h:ref3_Can_L1 F a0 a1 (n+1) v7 v1=some s:=h
          rw [ref3_Can_L1] at h
          refine T_reg [] [1,2,3,9,59,60,61,62] [(62,dB (decide (v1 < (a0.f1.length:Int))))] [] 1 (by kernel_rfl) (trivial) ?_
          refine T_seqk ?_
          refine T_cond (decide (v1 < (a0.f1.length:Int))) (by kernel_rfl) (fun hc=>?_) (fun hc=>?_)
          · have h:=cond_tt hc h
            refine T_skip fun a w hm=>then_norm (((?_:T Tryz.prog e 126 _ _ _) a w hm))
            refine T_seqk ?_
            refine T_block ?_
            obtain ⟨hp4,h⟩:=chk_ok h
            refine T_reg [(0,{ cs:=cS_PrepressTerm (a0.f1.getD v1.toNat z_PrepressTerm) })] [1,2,3,9,11,59,60,61] [(11,.box [dI ((a0.f1.getD v1.toNat z_PrepressTerm).f0),.d (.str ((a0.f1.getD v1.toNat z_PrepressTerm).f1))])] [(0,0≤v1∧(a0.f1.map cS_PrepressTerm)[v1.toNat]? = some (cS_PrepressTerm (a0.f1.getD v1.toNat z_PrepressTerm)))] 3 (by kernel_rfl) (idx_ok (d:=z_PrepressTerm) cS_PrepressTerm hp4) ?_
            refine T_reg [] [1,2,3,9,11,12,59,60,61] [(12,dB false)] [] 1 (by kernel_rfl) (trivial) ?_
            refine T_seqk ?_
            refine T_reg [(1,{ rw:=some (dI (a1.length:Int)) })] [1,2,3,9,11,12,59,60,61,65,66,67] [(65,.d (.sl 2 (a1.map cS_PrepressFact))),(66,dI (a1.length:Int)),(67,dI (0:Int))] [(1,True∧dI ((a1.map cS_PrepressFact).length:Int)=dI (a1.length:Int))] 1 (by kernel_rfl) (len_ok cS_PrepressFact) ?_
            refine T_joinct h (fun (p:Int×Bool)=>[(1,.d (.sl 2 (a1.map cS_PrepressFact))),(2,dB a2),(3,bx_PrepressCond a0),(9,dI p.1),(12,dB p.2),(59,.d (.sl 2 (a0.f1.map cS_PrepressTerm))),(60,dI (a0.f1.length:Int)),(61,dI v1)]) (fun s h=>?_) (fun s h=>?_)
            · refine T_co [.keep [1,2,3,9,11,12,59,60,61,65,66,67]] ((fun (p:Int×Bool×Int)=>[(1,.d (.sl 2 (a1.map cS_PrepressFact))),(2,dB a2),(3,bx_PrepressCond a0),(9,dI p.1),(11,.box [dI ((a0.f1.getD v1.toNat z_PrepressTerm).f0),.d (.str ((a0.f1.getD v1.toNat z_PrepressTerm).f1))]),(12,dB p.2.1),(59,.d (.sl 2 (a0.f1.map cS_PrepressTerm))),(60,dI (a0.f1.length:Int)),(61,dI v1),(65,.d (.sl 2 (a1.map cS_PrepressFact))),(66,dI (a1.length:Int)),(67,dI p.2.2)]) (v7,false,(0:Int))) (by show _=_; kernel_rfl) ?_
              refine T_block ?_
              refine T_loopF (ι:=Int×Bool×Int) (fun (p:Int×Bool×Int)=>[(1,.d (.sl 2 (a1.map cS_PrepressFact))),(2,dB a2),(3,bx_PrepressCond a0),(9,dI p.1),(11,.box [dI ((a0.f1.getD v1.toNat z_PrepressTerm).f0),.d (.str ((a0.f1.getD v1.toNat z_PrepressTerm).f1))]),(12,dB p.2.1),(59,.d (.sl 2 (a0.f1.map cS_PrepressTerm))),(60,dI (a0.f1.length:Int)),(61,dI v1),(65,.d (.sl 2 (a1.map cS_PrepressFact))),(66,dI (a1.length:Int)),(67,dI p.2.2)]) (fun n p=>ref3_Can_L3 F a0 a1 v1 n p.1 p.2.1 p.2.2=some s) (fun i hh=>by simp [ref3_Can_L3] at hh) (fun n p h=>?_) F (v7,false,(0:Int)) h
              obtain ⟨v2,v3,v4⟩:=p
              have h:ref3_Can_L3 F a0 a1 v1 (n+1) v2 v3 v4=some s:=h
              rw [ref3_Can_L3] at h
              refine T_reg [] [1,2,3,9,11,12,59,60,61,65,66,67,68] [(68,dB (decide (v4 < (a1.length:Int))))] [] 1 (by kernel_rfl) (trivial) ?_
              refine T_seqk ?_
              refine T_cond (decide (v4 < (a1.length:Int))) (by kernel_rfl) (fun hc=>?_) (fun hc=>?_)
              · have h:=cond_tt hc h
                refine T_skip fun a w hm=>then_norm (((?_:T Tryz.prog e 126 _ _ _) a w hm))
                refine T_joinc h (fun (p:Int×Bool)=>[(1,.d (.sl 2 (a1.map cS_PrepressFact))),(2,dB a2),(3,bx_PrepressCond a0),(9,dI p.1),(11,.box [dI ((a0.f1.getD v1.toNat z_PrepressTerm).f0),.d (.str ((a0.f1.getD v1.toNat z_PrepressTerm).f1))]),(12,dB p.2),(59,.d (.sl 2 (a0.f1.map cS_PrepressTerm))),(60,dI (a0.f1.length:Int)),(61,dI v1),(65,.d (.sl 2 (a1.map cS_PrepressFact))),(66,dI (a1.length:Int)),(67,dI v4)]) (fun s h=>?_) (fun s h=>?_)
                · refine T_block ?_
                  obtain ⟨hp5,h⟩:=chk_ok h
                  refine T_reg [(0,{ cs:=cS_PrepressFact (a1.getD v4.toNat z_PrepressFact) })] [1,2,3,9,11,12,14,59,60,61,65,66,67] [(14,.box [.d (.str ((a1.getD v4.toNat z_PrepressFact).f0)),dI ((a1.getD v4.toNat z_PrepressFact).f1)])] [(0,0≤v4∧(a1.map cS_PrepressFact)[v4.toNat]? = some (cS_PrepressFact (a1.getD v4.toNat z_PrepressFact)))] 3 (by kernel_rfl) (idx_ok (d:=z_PrepressFact) cS_PrepressFact hp5) ?_
                  obtain ⟨z1,hz1,h⟩:=lett_ok h
                  refine T_reg [(4,{ rw:=some (dB z1) })] [1,2,3,9,11,12,14,59,60,61,65,66,67,75] [(75,dB z1)] [(4,(True)∧dB (((a1.getD v4.toNat z_PrepressFact).f0) == ((a0.f1.getD v1.toNat z_PrepressTerm).f1))=dB z1)] 0 (by kernel_rfl) (⟨trivial,(by subst hz1; rfl)⟩) ?_
                  refine T_cond z1 (by kernel_rfl) (fun hc=>?_) (fun hc=>?_)
                  · have h:=cond_tt hc h
                    obtain ⟨z2,hz2,h⟩:=lett_ok h
                    refine T_reg [(5,{ rw:=some (dI z2) })] [1,2,3,9,11,59,60,61,65,66,67] [(9,dI (IntKind.i64.wrap (v2+z2)))] [(5,(True)∧dI (IntKind.i64.wrap (((a0.f1.getD v1.toNat z_PrepressTerm).f0) * ((a1.getD v4.toNat z_PrepressFact).f1)))=dI z2)] 2 (by kernel_rfl) (⟨trivial,(by subst hz2; rfl)⟩) ?_
                    obtain hs:=Option.some.inj h; subst hs
                    refine T_reg_end [] [1,2,3,9,11,12,59,60,61,65,66,67] [(12,dB true)] [] 1 (by kernel_rfl) (trivial) fun a w hm=>inBlock_norm (then_norm (hm.co (cs:=[.keep [1,2,3,9,11,12,59,60,61,65,66,67]]) (by show _=_; kernel_rfl)))
                  · have h:=cond_ff hc h
                    obtain hs:=Option.some.inj h; subst hs
                    refine T_skip fun a w hm=>inBlock_norm (then_norm (hm.co (cs:=[.keep [1,2,3,9,11,12,59,60,61,65,66,67]]) (by show _=_; kernel_rfl)))
                · obtain ⟨v5,v6⟩:=s
                  try dsimp only at h
                  refine T_reg_end [] [1,2,3,9,11,12,59,60,61,65,66,67] [(67,dI (IntKind.i64.wrap (v4+(1:Int))))] [] 2 (by kernel_rfl) (trivial) fun a w hm=>then_norm (⟨(v5,v6,IntKind.i64.wrap (v4+(1:Int))),h,hm.co (cs:=[.keep [1,2,3,9,11,12,59,60,61,65,66,67]]) (by show _=_; kernel_rfl)⟩)
              · have h:=cond_ff hc h
                obtain hs:=Option.some.inj h; subst hs
                refine T_exit fun a w hm=>then_exit (then_exit (inBlock_exit (then_norm (hm.co (cs:=[.keep [1,2,3,9,12,59,60,61]]) (by show _=_; kernel_rfl)))))
            · obtain ⟨v8,v9⟩:=s
              try dsimp only at h
              refine fun a w hm=>then_norm (((?_:T Tryz.prog e 126 _ _ _) a w hm))
              refine T_reg [] [1,2,3,9,59,60,61,85] [(85,dB (!v9))] [] 2 (by kernel_rfl) (trivial) ?_
              refine T_cond (!v9) (by kernel_rfl) (fun hc=>?_) (fun hc=>?_)
              · have h:=cond_tt hc h
                refine T_reg [] [6] [(6,dB false)] [] 1 (by kernel_rfl) (trivial) ?_
                obtain hs:=Option.some.inj h; subst hs
                have h:=callE_esc hk1
                obtain hs:=Option.some.inj h; subst hs
                refine T_ret fun a w hm=>inBlock_ret (then_ret (then_ret (inBlock_ret (then_ret (then_ret (T_return (fr':=[(6,dB false)]) [6] (by kernel_rfl) [.keep [6]] (by kernel_rfl) (by kernel_rfl) (by kernel_rfl) (by show _=_; kernel_rfl) (by exact trivial) a w hm))))))
              · have h:=cond_ff hc h
                refine T_skip fun a w hm=>inBlock_norm (then_norm (((?_:T Tryz.prog e 126 _ _ _) a w hm)))
                refine T_reg_end [] [1,2,3,9,59,60,61] [(61,dI (IntKind.i64.wrap (v1+(1:Int))))] [] 2 (by kernel_rfl) (trivial) fun a w hm=>then_norm (⟨(v8,IntKind.i64.wrap (v1+(1:Int))),h,hm.co (cs:=[.keep [1,2,3,9,59,60,61]]) (by show _=_; kernel_rfl)⟩)
          · have h:=cond_ff hc h
            obtain hs:=Option.some.inj h; subst hs
            refine T_exit fun a w hm=>then_exit (then_exit (inBlock_exit (then_norm (⟨_,rfl,hm.co (cs:=[.keep [2,3,9]]) (by show _=_; kernel_rfl)⟩))))
        · skip
          refine fun a w hm=>then_norm (((?_:T Tryz.prog e 126 _ _ _) a w hm))
          refine T_reg [] [2,3,9] [] [] 1 (by kernel_rfl) (trivial) ?_
          refine T_joinc h (fun (p:Bool)=>[(2,dB a2),(15,dB p)]) (fun s h=>?_) (fun v12 h=>?_)
          · refine T_reg [] [2,3,9,88] [(88,dI a0.f2)] [] 2 (by kernel_rfl) (trivial) ?_
            refine T_block ?_
            refine T_reg [] [2,3,9,88,93] [(93,dB (a0.f2 == (0:Int)))] [] 2 (by kernel_rfl) (trivial) ?_
            refine T_cond (a0.f2 == (0:Int)) (by kernel_rfl) (fun hc=>?_) (fun hc=>?_)
            · have h:=cond_tt hc h
              obtain hs:=Option.some.inj h; subst hs
              refine T_reg_end [] [2,15] [(15,dB (decide (v11 < a0.f3)))] [] 5 (by kernel_rfl) (trivial) fun a w hm=>inBlock_norm (then_norm (hm.co (cs:=[.keep [2,15]]) (by show _=_; kernel_rfl)))
            · have h:=cond_ff hc h
              refine T_reg [] [2,3,9,88,99] [(99,dB (a0.f2 == (1:Int)))] [] 2 (by kernel_rfl) (trivial) ?_
              refine T_cond (a0.f2 == (1:Int)) (by kernel_rfl) (fun hc=>?_) (fun hc=>?_)
              · have h:=cond_tt hc h
                obtain hs:=Option.some.inj h; subst hs
                refine T_reg_end [] [2,15] [(15,dB (decide (v11≤a0.f3)))] [] 5 (by kernel_rfl) (trivial) fun a w hm=>inBlock_norm (then_norm (hm.co (cs:=[.keep [2,15]]) (by show _=_; kernel_rfl)))
              · have h:=cond_ff hc h
                refine T_reg [] [2,3,9,88,105] [(105,dB (a0.f2 == (2:Int)))] [] 2 (by kernel_rfl) (trivial) ?_
                refine T_cond (a0.f2 == (2:Int)) (by kernel_rfl) (fun hc=>?_) (fun hc=>?_)
                · have h:=cond_tt hc h
                  obtain hs:=Option.some.inj h; subst hs
                  refine T_reg_end [] [2,15] [(15,dB (v11 == a0.f3))] [] 5 (by kernel_rfl) (trivial) fun a w hm=>inBlock_norm (then_norm (hm.co (cs:=[.keep [2,15]]) (by show _=_; kernel_rfl)))
                · have h:=cond_ff hc h
                  refine T_reg [] [2,3,9,88,111] [(111,dB (a0.f2 == (3:Int)))] [] 2 (by kernel_rfl) (trivial) ?_
                  refine T_cond (a0.f2 == (3:Int)) (by kernel_rfl) (fun hc=>?_) (fun hc=>?_)
                  · have h:=cond_tt hc h
                    obtain hs:=Option.some.inj h; subst hs
                    refine T_reg_end [] [2,15] [(15,dB (v11 != a0.f3))] [] 5 (by kernel_rfl) (trivial) fun a w hm=>inBlock_norm (then_norm (hm.co (cs:=[.keep [2,15]]) (by show _=_; kernel_rfl)))
                  · have h:=cond_ff hc h
                    refine T_reg [] [2,3,9,117] [(117,dB (a0.f2 == (4:Int)))] [] 2 (by kernel_rfl) (trivial) ?_
                    refine T_cond (a0.f2 == (4:Int)) (by kernel_rfl) (fun hc=>?_) (fun hc=>?_)
                    · have h:=cond_tt hc h
                      obtain hs:=Option.some.inj h; subst hs
                      refine T_reg_end [] [2,15] [(15,dB (decide (v11 ≥ a0.f3)))] [] 5 (by kernel_rfl) (trivial) fun a w hm=>inBlock_norm (then_norm (hm.co (cs:=[.keep [2,15]]) (by show _=_; kernel_rfl)))
                    · have h:=cond_ff hc h
                      obtain hs:=Option.some.inj h; subst hs
                      refine T_reg_end [] [2,15] [(15,dB (decide (v11 > a0.f3)))] [] 5 (by kernel_rfl) (trivial) fun a w hm=>inBlock_norm (then_norm (hm.co (cs:=[.keep [2,15]]) (by show _=_; kernel_rfl)))
          · skip
            refine T_reg [] [6] [(6,dB (!(v12 == a2)))] [] 4 (by kernel_rfl) (trivial) ?_
            obtain hs:=Option.some.inj h; subst hs
            refine T_ret fun a w hm=>T_return (fr':=[(6,dB (!(v12 == a2)))]) [6] (by kernel_rfl) [.keep [6]] (by kernel_rfl) (by kernel_rfl) (by kernel_rfl) (by show _=_; kernel_rfl) (by exact trivial) a w hm
theorem ref3_Can_fuel_ok {F:Nat} (n:Nat):∀ {a0:S_PrepressCond} {a1:List S_PrepressFact} {a2:Bool} {r:Bool},ref3_Can_fuel F n a0 a1 a2=some r→ACall Tryz.prog 35 [.agg (cS_PrepressCond a0),.d (.sl 2 (a1.map cS_PrepressFact)),.d (.v (.bool a2))] [] (.d (.v (.bool r))) []:=by
  induction n with
  | zero=>intro a0 a1 a2 r h; exact absurd (show (none:Option Bool)=some r from h) (by simp)
  | succ n ih=>intro a0 a1 a2 r h; exact ref3_Can_body_ok ih h
theorem ref3_Can_ok {F:Nat} {a0:S_PrepressCond} {a1:List S_PrepressFact} {a2:Bool} {r:Bool} (h:ref3_Can F a0 a1 a2=some r):ACall Tryz.prog 35 [.agg (cS_PrepressCond a0),.d (.sl 2 (a1.map cS_PrepressFact)),.d (.v (.bool a2))] [] (.d (.v (.bool r))) []:=ref3_Can_fuel_ok F h
end Go.Vm.PreG
