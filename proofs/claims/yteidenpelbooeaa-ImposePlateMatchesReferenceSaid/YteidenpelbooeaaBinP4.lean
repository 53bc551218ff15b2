import Derived.Test.YteidenpelbooeaaBinP3
namespace Go.Vm.BinG
open Go.Proofs
set_option maxRecDepth 20000
theorem raster_Make_uint8_c1_ok {F:Nat} {a0:Int} {a1:Int} {c2:Int} {r:Int×Int} (h:raster_Make_uint8_c1 F a0 a1 c2=some r):ACall Try.prog 54 [.d (.v (.int .i64 a0)),.d (.v (.int .i64 a1)),.bp 1000000 0] [.box [.d (.v (.int .u8 c2))]] (.d (.v (.int .u8 r.1))) [.box [.d (.v (.int .u8 r.2))]]:=by
  rw [raster_Make_uint8_c1] at h
  refine ACall.intro (N:=7) Try.func54 rfl rfl rfl rfl rfl fun e=>?_
  refine T_reg [] [2,1000000] [] [] 1 (by kernel_rfl) (trivial) ?_
  refine T_reg [] [5,1000000] [(5,.d (.v (.int .u8 c2)))] [] 2 (by kernel_rfl) (trivial) ?_
  obtain hs:=Option.some.inj h; subst hs
  refine T_ret fun a w hm=>T_return (fr':=[(5,.d (.v (.int .u8 c2))),(1000000,.box [.d (.v (.int .u8 c2))])]) [5] (by kernel_rfl) [.keep [5,1000000]] (by kernel_rfl) (by kernel_rfl) (by kernel_rfl) (by show _=_; kernel_rfl) (by exact ⟨⟨by kernel_rfl,by kernel_rfl⟩,trivial⟩) a w hm
theorem raster_build_uint8_v4_ok {F:Nat} {a0:Int} {a1:Int} {c2:Int} {r:S_Plate×Int} (h:raster_build_uint8_v4 F a0 a1 c2=some r):ACall Try.prog 53 [.d (.v (.int .i64 a0)),.d (.v (.int .i64 a1)),.clo 54 [.bp 1000000 0]] [.box [.d (.v (.int .u8 c2))]] (.agg (cS_Plate r.1)) [.box [.d (.v (.int .u8 r.2))]]:=by
  rw [raster_build_uint8_v4] at h
  refine ACall.intro (N:=37) Try.func53 rfl rfl rfl rfl rfl fun e=>?_
  refine T_reg [] [0,1,2,6,1000000] [(6,.box [dI 0,dI 0,oW0 []])] [] 1 (by kernel_rfl) (trivial) ?_
  obtain ⟨hp1,h⟩:=chk_ok h
  refine T_region [(5,{ es:=some ((List.replicate (0:Int).toNat 0).map cU) })] [0,1,2,6,7,15,1000000] [.claimc 7 2,.keep [0,1,2,6,7,1000000]] [(0,dI a0),(1,dI a1),(2,.clo 54 [.bp 1000000 0]),(6,.box [dI 0,dI 0,oW0 []]),(7,.box [dI a0,dI a1,.own 5 1 ((List.replicate (0:Int).toNat 0).map cU)]),(1000000,.box [.d (.v (.int .u8 c2))])] [(5,(0≤(0:Int)∧(0:Int)≤(IntKind.i64.wrap (a0 * a1))∧(IntKind.i64.wrap (a0 * a1))≤9223372036854775807∧((1:Nat):Int) * (IntKind.i64.wrap (a0 * a1))≤281474976710656)∧List.replicate (0:Int).toNat (cU 0)=((List.replicate (0:Int).toNat 0).map cU))] 3 (by kernel_rfl) (⟨hp1,repl_ok cU rfl⟩) ?_
  refine T_seqk ?_
  refine T_reg [] [0,2,6,7,17,18,1000000] [(17,dI a1),(18,dI (0:Int))] [] 2 (by kernel_rfl) (trivial) ?_
  refine T_joinct h (fun (p:(List UInt8)×Int)=>[(6,.box [dI 0,dI 0,oW0 []]),(7,.box [dI a0,dI a1,oW0 p.1]),(1000000,.box [.d (.v (.int .u8 p.2))])]) (fun s h=>?_) (fun s h=>?_)
  · refine T_co [.keep [0,2,6,7,17,18,1000000]] ((fun (p:(List UInt8)×Int×Int)=>[(0,dI a0),(2,.clo 54 [.bp 1000000 0]),(6,.box [dI 0,dI 0,oW0 []]),(7,.box [dI a0,dI a1,oW0 p.1]),(17,dI a1),(18,dI p.2.1),(1000000,.box [.d (.v (.int .u8 p.2.2))])]) ((List.replicate (0:Int).toNat 0),(0:Int),c2)) (by show _=_; kernel_rfl) ?_
    refine T_block ?_
    refine T_loopF (ι:=(List UInt8)×Int×Int) (fun (p:(List UInt8)×Int×Int)=>[(0,dI a0),(2,.clo 54 [.bp 1000000 0]),(6,.box [dI 0,dI 0,oW0 []]),(7,.box [dI a0,dI a1,oW0 p.1]),(17,dI a1),(18,dI p.2.1),(1000000,.box [.d (.v (.int .u8 p.2.2))])]) (fun n p=>raster_build_uint8_v4_L0 F a0 a1 n p.1 p.2.1 p.2.2=some s) (fun i hh=>by simp [raster_build_uint8_v4_L0] at hh) (fun n p h=>?_) F ((List.replicate (0:Int).toNat 0),(0:Int),c2) h
    obtain ⟨v5,v1,v6⟩:=p
    have h:raster_build_uint8_v4_L0 F a0 a1 (n+1) v5 v1 v6=some s:=h
    rw [raster_build_uint8_v4_L0] at h
    refine T_reg [] [0,2,6,7,17,18,19,1000000] [(19,dB (decide (v1 < a1)))] [] 1 (by kernel_rfl) (trivial) ?_
    refine T_seqk ?_
    refine T_cond (decide (v1 < a1)) (by kernel_rfl) (fun hc=>?_) (fun hc=>?_)
    · have h:=cond_tt hc h
      refine T_skip fun a w hm=>then_norm (((?_:T Try.prog e 37 _ _ _) a w hm))
      refine T_seqk ?_
      refine T_block ?_
      refine T_reg [] [0,2,6,7,8,17,18,1000000] [(8,dI v1)] [] 2 (by kernel_rfl) (trivial) ?_
      refine T_reg [] [0,2,6,7,8,17,18,21,22,1000000] [(21,dI a0),(22,dI (0:Int))] [] 2 (by kernel_rfl) (trivial) ?_
      refine T_joinct h (fun (p:(List UInt8)×Int)=>[(0,dI a0),(2,.clo 54 [.bp 1000000 0]),(6,.box [dI 0,dI 0,oW0 []]),(7,.box [dI a0,dI a1,oW0 p.1]),(17,dI a1),(18,dI v1),(1000000,.box [.d (.v (.int .u8 p.2))])]) (fun s h=>?_) (fun s h=>?_)
      · refine T_co [.keep [0,2,6,7,8,17,18,21,22,1000000]] ((fun (p:(List UInt8)×Int×Int)=>[(0,dI a0),(2,.clo 54 [.bp 1000000 0]),(6,.box [dI 0,dI 0,oW0 []]),(7,.box [dI a0,dI a1,oW0 p.1]),(8,dI v1),(17,dI a1),(18,dI v1),(21,dI a0),(22,dI p.2.1),(1000000,.box [.d (.v (.int .u8 p.2.2))])]) (v5,(0:Int),v6)) (by show _=_; kernel_rfl) ?_
        refine T_block ?_
        refine T_loopF (ι:=(List UInt8)×Int×Int) (fun (p:(List UInt8)×Int×Int)=>[(0,dI a0),(2,.clo 54 [.bp 1000000 0]),(6,.box [dI 0,dI 0,oW0 []]),(7,.box [dI a0,dI a1,oW0 p.1]),(8,dI v1),(17,dI a1),(18,dI v1),(21,dI a0),(22,dI p.2.1),(1000000,.box [.d (.v (.int .u8 p.2.2))])]) (fun n p=>raster_build_uint8_v4_L2 F a0 v1 n p.1 p.2.1 p.2.2=some s) (fun i hh=>by simp [raster_build_uint8_v4_L2] at hh) (fun n p h=>?_) F (v5,(0:Int),v6) h
        obtain ⟨v2,v3,v4⟩:=p
        have h:raster_build_uint8_v4_L2 F a0 v1 (n+1) v2 v3 v4=some s:=h
        rw [raster_build_uint8_v4_L2] at h
        refine T_reg [] [0,2,6,7,8,17,18,21,22,23,1000000] [(23,dB (decide (v3 < a0)))] [] 1 (by kernel_rfl) (trivial) ?_
        refine T_seqk ?_
        refine T_cond (decide (v3 < a0)) (by kernel_rfl) (fun hc=>?_) (fun hc=>?_)
        · have h:=cond_tt hc h
          refine T_skip fun a w hm=>then_norm (((?_:T Try.prog e 37 _ _ _) a w hm))
          refine T_seqk ?_
          refine T_block ?_
          refine T_reg [] [0,2,6,7,8,9,17,18,21,22,1000000] [(9,dI v3)] [] 2 (by kernel_rfl) (trivial) ?_
          obtain ⟨y1,hy1,h⟩:=call_ok h
          obtain ⟨hp2,h⟩:=chk_ok h
          obtain ⟨hp3,h⟩:=chk_ok h
          refine T_drawX_end mixed 3 (.take 0 (.take 2 (.take 3 (.take 4 (.all (.alt 1 (.all (.alt 5 (.all (.alt 6 (.all (.alt 7 (.take 8 (.all (.alt 9 .done .stop))) .stop)) .stop)) .stop)) (.alt 5 (.all (.alt 1 (.all (.alt 6 (.all (.alt 7 (.take 8 (.all (.alt 9 .done .stop))) .stop)) .stop)) (.alt 6 (.all (.alt 1 (.all (.alt 7 (.take 8 (.all (.alt 9 .done .stop))) .stop)) .stop)) .stop))) .stop))))))) ([0,1,0,0,0,28,32,98,255,511],[0,1,0,0,0,28,32,66,0,384]) 285 [(5,{ res:=.d (.v (.int .u8 y1.1)),vout:=[.box [.d (.v (.int .u8 y1.2))]],xs:=[1000000] }),(6,{ es:=some (([(UInt8.ofNat y1.1.toNat)]).map cU) }),(7,{ es:=some ((v2++([(UInt8.ofNat y1.1.toNat)])).map cU) })] [0,2,6,7,8,17,18,21,22,1000000] [] [(0,dI a0),(2,.clo 54 [.bp 1000000 0]),(6,.box [dI 0,dI 0,oW0 []]),(7,.box [dI a0,dI a1,.own 5 1 ((v2++([(UInt8.ofNat y1.1.toNat)])).map cU)]),(8,dI v1),(17,dI a1),(18,dI v1),(21,dI a0),(22,dI v3),(1000000,.box [.d (.v (.int .u8 y1.2))])] ((fun (o5:Prop)=>fun (o6:Prop)=>fun (o7:Prop)=>[(5,o5),(0,o6),(0,o7),(2,o5),(1,o6),(0,o7),(2,o6),(1,o7)]) (ACall Try.prog 54 [dI v3,dI v1,.bp 1000000 0] [.box [.d (.v (.int .u8 v4))]] (.d (.v (.int .u8 y1.1))) [.box [.d (.v (.int .u8 y1.2))]]) ([[Dat.v (.int .u8 y1.1)]]=(([(UInt8.ofNat y1.1.toNat)]).map cU)) ((v2.map cU).length+(([(UInt8.ofNat y1.1.toNat)]).map cU).length≤4294967296∧(v2.map cU)++(([(UInt8.ofNat y1.1.toNat)]).map cU)=((v2++([(UInt8.ofNat y1.1.toNat)])).map cU))) 2 (by kernel_rfl) (by kernel_rfl) (by kernel_rfl) (have p5:=raster_Make_uint8_c1_ok hy1; have p6:=(lit_u hp2 (rfl:([]:List (List Dat))=([]:List UInt8).map cU)); have p7:=app_ok cU hp3; ⟨p5,p6,p7,p5,p6,p7,p6,p7⟩) fun a w hm=>inBlock_norm (then_norm (((?_:T Try.prog e 37 _ _ _) a w hm)))
          refine T_reg_end [] [0,2,6,7,8,17,18,21,22,1000000] [(22,dI (IntKind.i64.wrap (v3+(1:Int))))] [] 2 (by kernel_rfl) (trivial) fun a w hm=>then_norm (⟨((v2++([(UInt8.ofNat y1.1.toNat)])),IntKind.i64.wrap (v3+(1:Int)),y1.2),h,hm.co (cs:=[.keep [0,2,6,7,8,17,18,21,22,1000000]]) (by show _=_; kernel_rfl)⟩)
        · have h:=cond_ff hc h
          obtain hs:=Option.some.inj h; subst hs
          refine T_exit fun a w hm=>then_exit (then_exit (inBlock_exit (then_norm (hm.co (cs:=[.keep [0,2,6,7,17,18,1000000]]) (by show _=_; kernel_rfl)))))
      · obtain ⟨v7,v8⟩:=s
        try dsimp only at h
        refine fun a w hm=>inBlock_norm (then_norm (((?_:T Try.prog e 37 _ _ _) a w hm)))
        refine T_reg_end [] [0,2,6,7,17,18,1000000] [(18,dI (IntKind.i64.wrap (v1+(1:Int))))] [] 2 (by kernel_rfl) (trivial) fun a w hm=>then_norm (⟨(v7,IntKind.i64.wrap (v1+(1:Int)),v8),h,hm.co (cs:=[.keep [0,2,6,7,17,18,1000000]]) (by show _=_; kernel_rfl)⟩)
    · have h:=cond_ff hc h
      obtain hs:=Option.some.inj h; subst hs
      refine T_exit fun a w hm=>then_exit (then_exit (inBlock_exit (then_norm (hm.co (cs:=[.keep [6,7,1000000]]) (by show _=_; kernel_rfl)))))
  · obtain ⟨v9,v10⟩:=s
    try dsimp only at h
    refine fun a w hm=>then_norm (((?_:T Try.prog e 37 _ _ _) a w hm))
    refine T_reg [(0,{ frz:=[(7,3)] })] [6,1000000] [(6,.box [dI a0,dI a1,.d (.sl 1 (v9.map cU))])] [] 2 (by kernel_rfl) (trivial) ?_
    obtain hs:=Option.some.inj h; subst hs
    refine T_ret fun a w hm=>T_returnC (fr':=[(6,.box [dI a0,dI a1,.d (.sl 1 (v9.map cU))]),(1000000,.box [.d (.v (.int .u8 v10))])]) (ts:=[37]) (N':=38) (fr2:=[(37,.agg (cS_Plate (S_Plate.mk a0 a1 v9)))]++[(6,.box [dI a0,dI a1,.d (.sl 1 (v9.map cU))]),(1000000,.box [.d (.v (.int .u8 v10))])]) [.keep [6,1000000]] (by kernel_rfl) (by kernel_rfl) (by kernel_rfl) (by kernel_rfl) (by show _=_; kernel_rfl) (by exact ⟨⟨by kernel_rfl,by kernel_rfl⟩,trivial⟩) a w hm
theorem raster_Make_uint8_ok {F:Nat} {a0:Int} {a1:Int} {a2:Int} {r:S_Plate×Int} (h:raster_Make_uint8 F a0 a1 a2=some r):ACall Try.prog 34 [.d (.v (.int .i64 a0)),.d (.v (.int .i64 a1)),.d (.v (.int .u8 a2))] [] (.tup [.agg (cS_Plate r.1),.d (.v (.int .i64 r.2))]) []:=by
  rw [raster_Make_uint8] at h
  refine ACall.intro (N:=17) Try.func34 rfl rfl rfl rfl rfl fun e=>?_
  refine T_reg [] [0,1,5,6] [(5,.box [.d (.v (.int .u8 a2))]),(6,.box [dI 0,dI 0,oW0 []])] [] 3 (by kernel_rfl) (trivial) ?_
  refine T_seqk ?_
  obtain ⟨y1,hy1,h⟩:=call_ok h
  refine T_reg [(2,{ res:=dB y1 })] [0,1,5,6,11] [(11,dB (!y1))] [(2,ACall Try.prog 52 [dI a0,dI a1] [] (dB y1) [])] 1 (by kernel_rfl) (raster_sized_ok hy1) ?_
  refine T_cond (!y1) (by kernel_rfl) (fun hc=>?_) (fun hc=>?_)
  · have h:=cond_tt hc h
    refine T_region [(0,{ take:=[0] })] [6,7] [.nilc 6 2 5 1,.keep [6,7]] [(6,.box [dI 0,dI 0,oW0 []]),(7,dI (3:Int))] [] 3 (by kernel_rfl) (trivial) ?_
    obtain hs:=Option.some.inj h; subst hs
    refine T_ret fun a w hm=>then_ret (T_returnC (fr':=[(6,.box [dI 0,dI 0,.fz 1 ([].map cU)]),(7,dI (3:Int))]) (ts:=[17,7]) (N':=18) (fr2:=[(17,.agg (cS_Plate z_Plate))]++[(6,.box [dI 0,dI 0,.fz 1 ([].map cU)]),(7,dI (3:Int))]) [.frz (6,3),.keep [6,7]] (by kernel_rfl) (by kernel_rfl) (by kernel_rfl) (by kernel_rfl) (by show _=_; kernel_rfl) (by exact trivial) a w hm)
  · have h:=cond_ff hc h
    refine T_skip fun a w hm=>then_norm (((?_:T Try.prog e 17 _ _ _) a w hm))
    obtain ⟨y2,hy2,h⟩:=call_ok h
    refine T_reg [(3,{ res:=.agg (cS_Plate y2.1),vout:=[.box [.d (.v (.int .u8 y2.2))]],xs:=[5] })] [6,7] [(6,bx_Plate y2.1),(7,dI (0:Int))] [(3,ACall Try.prog 53 [dI a0,dI a1,.clo 54 [.bp 1000000 0]] [.box [.d (.v (.int .u8 a2))]] (.agg (cS_Plate y2.1)) [.box [.d (.v (.int .u8 y2.2))]])] 2 (by kernel_rfl) (raster_build_uint8_v4_ok hy2) ?_
    obtain hs:=Option.some.inj h; subst hs
    refine T_ret fun a w hm=>T_returnC (fr':=[(6,bx_Plate y2.1),(7,dI (0:Int))]) (ts:=[17,7]) (N':=18) (fr2:=[(17,.agg (cS_Plate y2.1))]++[(6,bx_Plate y2.1),(7,dI (0:Int))]) [.keep [6,7]] (by kernel_rfl) (by kernel_rfl) (by kernel_rfl) (by kernel_rfl) (by show _=_; kernel_rfl) (by exact trivial) a w hm
theorem impose_Marks_ok {F:Nat} {a0:S_ImposeLayout} {r:(List S_ImposeMark)×Int} (h:impose_Marks F a0=some r):ACall Try.prog 35 [.agg (cS_ImposeLayout a0)] [] (.tup [.own 96 4 (r.1.map cS_ImposeMark),.d (.v (.int .i64 r.2))]) []:=by
  rw [impose_Marks] at h
  refine ACall.intro (N:=117) Try.func35 rfl rfl rfl rfl rfl fun e=>?_
  refine T_reg [] [1] [(1,bx_ImposeLayout a0)] [] 3 (by kernel_rfl) (trivial) ?_
  refine T_seqk ?_
  obtain ⟨y4,hy1,h⟩:=call_ok h
  refine T_reg [(1,{ res:=dI y4 })] [1,4] [(4,dI y4)] [(1,ACall Try.prog 22 [.agg (cS_ImposeLayout a0)] [] (dI y4) [])] 1 (by kernel_rfl) (impose_Check_ok hy1) ?_
  refine T_reg [] [1,4,22] [(22,dB (y4 != (0:Int)))] [] 2 (by kernel_rfl) (trivial) ?_
  refine T_cond (y4 != (0:Int)) (by kernel_rfl) (fun hc=>?_) (fun hc=>?_)
  · have h:=cond_tt hc h
    refine T_reg [] [2,3] [(2,oW9 []),(3,dI y4)] [] 3 (by kernel_rfl) (trivial) ?_
    obtain hs:=Option.some.inj h; subst hs
    refine T_ret fun a w hm=>then_ret (T_return (fr':=[(2,oW9 []),(3,dI y4)]) [2,3] (by kernel_rfl) [.keep [2,3]] (by kernel_rfl) (by kernel_rfl) (by kernel_rfl) (by show _=_; kernel_rfl) (by exact trivial) a w hm)
  · have h:=cond_ff hc h
    refine T_skip fun a w hm=>then_norm (((?_:T Try.prog e 117 _ _ _) a w hm))
    refine T_reg [] [1,5] [(5,dI (IntKind.i64.wrap (a0.f6.tdiv (2:Int))))] [(2,(2:Int)≠0)] 1 (by kernel_rfl) ((show (2:Int)≠0 by decide)) ?_
    refine T_seqk ?_
    refine T_reg [] [1,5,28] [(28,dB ((IntKind.i64.wrap (a0.f6.tdiv (2:Int))) == (0:Int)))] [] 2 (by kernel_rfl) (trivial) ?_
    refine T_cond ((IntKind.i64.wrap (a0.f6.tdiv (2:Int))) == (0:Int)) (by kernel_rfl) (fun hc=>?_) (fun hc=>?_)
    · have h:=cond_tt hc h
      refine T_reg [] [2,3] [(2,oW9 []),(3,dI (0:Int))] [] 2 (by kernel_rfl) (trivial) ?_
      obtain hs:=Option.some.inj h; subst hs
      refine T_ret fun a w hm=>then_ret (T_return (fr':=[(2,oW9 []),(3,dI (0:Int))]) [2,3] (by kernel_rfl) [.keep [2,3]] (by kernel_rfl) (by kernel_rfl) (by kernel_rfl) (by show _=_; kernel_rfl) (by exact trivial) a w hm)
    · have h:=cond_ff hc h
      refine T_skip fun a w hm=>then_norm (((?_:T Try.prog e 117 _ _ _) a w hm))
      obtain ⟨y1,hy2,h⟩:=call_ok h
      refine T_reg [(1,{ res:=.tup [dI y1.1,dI y1.2] })] [1,5,6,7] [(6,dI y1.1),(7,dI y1.2)] [(1,ACall Try.prog 55 [.agg (cS_ImposeLayout a0)] [] (.tup [dI y1.1,dI y1.2]) [])] 5 (by kernel_rfl) (impose_leaf_ok hy2) ?_
      obtain ⟨y2,hy3,h⟩:=call_ok h
      refine T_reg [(1,{ res:=.tup [dI y2.1,dI y2.2] })] [1,5,6,7,8,9] [(8,dI y2.1),(9,dI y2.2)] [(1,ACall Try.prog 56 [.agg (cS_ImposeLayout a0)] [] (.tup [dI y2.1,dI y2.2]) [])] 5 (by kernel_rfl) (impose_single_ok hy3) ?_
      obtain ⟨y3,hy4,h⟩:=call_ok h
      refine T_reg [(1,{ res:=.tup [dI y3.1,dI y3.2] })] [1,5,6,7,8,9,10,11] [(10,dI y3.1),(11,dI y3.2)] [(1,ACall Try.prog 44 [.agg (cS_ImposeLayout a0)] [] (.tup [dI y3.1,dI y3.2]) [])] 5 (by kernel_rfl) (impose_size_ok hy4) ?_
      refine T_reg [] [1,5,6,7,8,9,10,11,12] [(12,oW9 [])] [] 1 (by kernel_rfl) (trivial) ?_
      refine T_seqk ?_
      refine T_reg [] [1,5,6,7,8,9,10,11,12,13] [(13,dI (0:Int))] [] 1 (by kernel_rfl) (trivial) ?_
      refine T_joinct h (fun (p:(List S_ImposeMark))=>[(12,oW9 p)]) (fun s h=>?_) (fun v12 h=>?_)
      · refine T_co [.keep [1,5,6,7,8,9,10,11,12,13]] ((fun (p:(List S_ImposeMark)×Int)=>[(1,bx_ImposeLayout a0),(5,dI (IntKind.i64.wrap (a0.f6.tdiv (2:Int)))),(6,dI y1.1),(7,dI y1.2),(8,dI y2.1),(9,dI y2.2),(10,dI y3.1),(11,dI y3.2),(12,oW9 p.1),(13,dI p.2)]) ([],(0:Int))) (by show _=_; kernel_rfl) ?_
        refine T_block ?_
        refine T_loopF (ι:=(List S_ImposeMark)×Int) (fun (p:(List S_ImposeMark)×Int)=>[(1,bx_ImposeLayout a0),(5,dI (IntKind.i64.wrap (a0.f6.tdiv (2:Int)))),(6,dI y1.1),(7,dI y1.2),(8,dI y2.1),(9,dI y2.2),(10,dI y3.1),(11,dI y3.2),(12,oW9 p.1),(13,dI p.2)]) (fun n p=>impose_Marks_L0 F a0 y1 y2 y3 n p.1 p.2=some s) (fun i hh=>by simp [impose_Marks_L0] at hh) (fun n p h=>?_) F ([],(0:Int)) h
        obtain ⟨v10,v1⟩:=p
        have h:impose_Marks_L0 F a0 y1 y2 y3 (n+1) v10 v1=some s:=h
        rw [impose_Marks_L0] at h
        refine T_seqk ?_
        refine T_reg [] [1,5,6,7,8,9,10,11,12,13,46] [(46,dB (decide (v1 < y3.2)))] [] 3 (by kernel_rfl) (trivial) ?_
        refine T_cond (decide (v1 < y3.2)) (by kernel_rfl) (fun hc=>?_) (fun hc=>?_)
        · have h:=cond_tt hc h
          refine T_skip fun a w hm=>then_norm (((?_:T Try.prog e 117 _ _ _) a w hm))
          refine T_seqk ?_
          refine T_block ?_
          refine T_reg [] [1,5,6,7,8,9,10,11,12,13,14] [(14,dI (0:Int))] [] 1 (by kernel_rfl) (trivial) ?_
          refine T_joinct h (fun (p:(List S_ImposeMark))=>[(1,bx_ImposeLayout a0),(5,dI (IntKind.i64.wrap (a0.f6.tdiv (2:Int)))),(6,dI y1.1),(7,dI y1.2),(8,dI y2.1),(9,dI y2.2),(10,dI y3.1),(11,dI y3.2),(12,oW9 p),(13,dI v1)]) (fun s h=>?_) (fun v11 h=>?_)
          · refine T_co [.keep [1,5,6,7,8,9,10,11,12,13,14]] ((fun (p:(List S_ImposeMark)×Int)=>[(1,bx_ImposeLayout a0),(5,dI (IntKind.i64.wrap (a0.f6.tdiv (2:Int)))),(6,dI y1.1),(7,dI y1.2),(8,dI y2.1),(9,dI y2.2),(10,dI y3.1),(11,dI y3.2),(12,oW9 p.1),(13,dI v1),(14,dI p.2)]) (v10,(0:Int))) (by show _=_; kernel_rfl) ?_
            refine T_block ?_
            refine T_loopF (ι:=(List S_ImposeMark)×Int) (fun (p:(List S_ImposeMark)×Int)=>[(1,bx_ImposeLayout a0),(5,dI (IntKind.i64.wrap (a0.f6.tdiv (2:Int)))),(6,dI y1.1),(7,dI y1.2),(8,dI y2.1),(9,dI y2.2),(10,dI y3.1),(11,dI y3.2),(12,oW9 p.1),(13,dI v1),(14,dI p.2)]) (fun n p=>impose_Marks_L2 F a0 y1 y2 y3 v1 n p.1 p.2=some s) (fun i hh=>by simp [impose_Marks_L2] at hh) (fun n p h=>?_) F (v10,(0:Int)) h
            obtain ⟨v7,v2⟩:=p
            have h:impose_Marks_L2 F a0 y1 y2 y3 v1 (n+1) v7 v2=some s:=h
            rw [impose_Marks_L2] at h
            refine T_seqk ?_
            refine T_reg [] [1,5,6,7,8,9,10,11,12,13,14,52] [(52,dB (decide (v2 < y3.1)))] [] 3 (by kernel_rfl) (trivial) ?_
            refine T_cond (decide (v2 < y3.1)) (by kernel_rfl) (fun hc=>?_) (fun hc=>?_)
            · have h:=cond_tt hc h
              refine T_skip fun a w hm=>then_norm (((?_:T Try.prog e 117 _ _ _) a w hm))
              refine T_seqk ?_
              refine T_block ?_
              refine T_seqk ?_
              refine T_reg [] [1,5,6,7,8,9,10,11,12,13,14,15] [(15,dI (1:Int))] [] 1 (by kernel_rfl) (trivial) ?_
              refine T_joinct h (fun (p:(List S_ImposeMark))=>[(1,bx_ImposeLayout a0),(5,dI (IntKind.i64.wrap (a0.f6.tdiv (2:Int)))),(6,dI y1.1),(7,dI y1.2),(8,dI y2.1),(9,dI y2.2),(10,dI y3.1),(11,dI y3.2),(12,oW9 p),(13,dI v1),(14,dI v2)]) (fun s h=>?_) (fun v8 h=>?_)
              · refine T_co [.keep [1,5,6,7,8,9,10,11,12,13,14,15]] ((fun (p:(List S_ImposeMark)×Int)=>[(1,bx_ImposeLayout a0),(5,dI (IntKind.i64.wrap (a0.f6.tdiv (2:Int)))),(6,dI y1.1),(7,dI y1.2),(8,dI y2.1),(9,dI y2.2),(10,dI y3.1),(11,dI y3.2),(12,oW9 p.1),(13,dI v1),(14,dI v2),(15,dI p.2)]) (v7,(1:Int))) (by show _=_; kernel_rfl) ?_
                refine T_block ?_
                refine T_loopF (ι:=(List S_ImposeMark)×Int) (fun (p:(List S_ImposeMark)×Int)=>[(1,bx_ImposeLayout a0),(5,dI (IntKind.i64.wrap (a0.f6.tdiv (2:Int)))),(6,dI y1.1),(7,dI y1.2),(8,dI y2.1),(9,dI y2.2),(10,dI y3.1),(11,dI y3.2),(12,oW9 p.1),(13,dI v1),(14,dI v2),(15,dI p.2)]) (fun n p=>impose_Marks_L4 F a0 y1 y2 v1 v2 n p.1 p.2=some s) (fun i hh=>by simp [impose_Marks_L4] at hh) (fun n p h=>?_) F (v7,(1:Int)) h
                obtain ⟨v3,v4⟩:=p
                have h:impose_Marks_L4 F a0 y1 y2 v1 v2 (n+1) v3 v4=some s:=h
                rw [impose_Marks_L4] at h
                refine T_seqk ?_
                refine T_reg [] [1,5,6,7,8,9,10,11,12,13,14,15,60] [(60,dB (decide (v4 < a0.f0.f0)))] [] 5 (by kernel_rfl) (trivial) ?_
                refine T_cond (decide (v4 < a0.f0.f0)) (by kernel_rfl) (fun hc=>?_) (fun hc=>?_)
                · have h:=cond_tt hc h
                  refine T_skip fun a w hm=>then_norm (((?_:T Try.prog e 117 _ _ _) a w hm))
                  refine T_seqk ?_
                  refine T_block ?_
                  refine T_reg [] [1,5,6,7,8,9,10,11,12,13,14,15,16] [(16,dI (IntKind.i64.wrap ((IntKind.i64.wrap (v2+a0.f6))+(IntKind.i64.wrap (v4 * y1.1)))))] [] 9 (by kernel_rfl) (trivial) ?_
                  obtain ⟨hp1,h⟩:=chk_ok h
                  obtain ⟨l1,hl1,h⟩:=lett_ok h
                  refine T_reg_end [(13,{ es:=some (([(S_ImposeMark.mk (IntKind.i64.wrap ((IntKind.i64.wrap (v2+a0.f6))+(IntKind.i64.wrap (v4 * y1.1)))) v1 (1:Int) (IntKind.i64.wrap (a0.f6.tdiv (2:Int)))),(S_ImposeMark.mk (IntKind.i64.wrap ((IntKind.i64.wrap (v2+a0.f6))+(IntKind.i64.wrap (v4 * y1.1)))) (IntKind.i64.wrap ((IntKind.i64.wrap (v1+y2.2)) - (IntKind.i64.wrap (a0.f6.tdiv (2:Int))))) (1:Int) (IntKind.i64.wrap (a0.f6.tdiv (2:Int))))]).map cS_ImposeMark) }),(14,{ es:=some (l1.map cS_ImposeMark) })] [1,5,6,7,8,9,10,11,12,13,14,15] [(12,oW9 l1)] [(13,(([(S_ImposeMark.mk (IntKind.i64.wrap ((IntKind.i64.wrap (v2+a0.f6))+(IntKind.i64.wrap (v4 * y1.1)))) v1 (1:Int) (IntKind.i64.wrap (a0.f6.tdiv (2:Int)))),(S_ImposeMark.mk (IntKind.i64.wrap ((IntKind.i64.wrap (v2+a0.f6))+(IntKind.i64.wrap (v4 * y1.1)))) (IntKind.i64.wrap ((IntKind.i64.wrap (v1+y2.2)) - (IntKind.i64.wrap (a0.f6.tdiv (2:Int))))) (1:Int) (IntKind.i64.wrap (a0.f6.tdiv (2:Int))))]).map cS_ImposeMark)=(([(S_ImposeMark.mk (IntKind.i64.wrap ((IntKind.i64.wrap (v2+a0.f6))+(IntKind.i64.wrap (v4 * y1.1)))) v1 (1:Int) (IntKind.i64.wrap (a0.f6.tdiv (2:Int)))),(S_ImposeMark.mk (IntKind.i64.wrap ((IntKind.i64.wrap (v2+a0.f6))+(IntKind.i64.wrap (v4 * y1.1)))) (IntKind.i64.wrap ((IntKind.i64.wrap (v1+y2.2)) - (IntKind.i64.wrap (a0.f6.tdiv (2:Int))))) (1:Int) (IntKind.i64.wrap (a0.f6.tdiv (2:Int))))]).map cS_ImposeMark)),(0,(v3.map cS_ImposeMark).length+(([(S_ImposeMark.mk (IntKind.i64.wrap ((IntKind.i64.wrap (v2+a0.f6))+(IntKind.i64.wrap (v4 * y1.1)))) v1 (1:Int) (IntKind.i64.wrap (a0.f6.tdiv (2:Int)))),(S_ImposeMark.mk (IntKind.i64.wrap ((IntKind.i64.wrap (v2+a0.f6))+(IntKind.i64.wrap (v4 * y1.1)))) (IntKind.i64.wrap ((IntKind.i64.wrap (v1+y2.2)) - (IntKind.i64.wrap (a0.f6.tdiv (2:Int))))) (1:Int) (IntKind.i64.wrap (a0.f6.tdiv (2:Int))))]).map cS_ImposeMark).length≤4294967296∧(v3.map cS_ImposeMark)++(([(S_ImposeMark.mk (IntKind.i64.wrap ((IntKind.i64.wrap (v2+a0.f6))+(IntKind.i64.wrap (v4 * y1.1)))) v1 (1:Int) (IntKind.i64.wrap (a0.f6.tdiv (2:Int)))),(S_ImposeMark.mk (IntKind.i64.wrap ((IntKind.i64.wrap (v2+a0.f6))+(IntKind.i64.wrap (v4 * y1.1)))) (IntKind.i64.wrap ((IntKind.i64.wrap (v1+y2.2)) - (IntKind.i64.wrap (a0.f6.tdiv (2:Int))))) (1:Int) (IntKind.i64.wrap (a0.f6.tdiv (2:Int))))]).map cS_ImposeMark)=(l1.map cS_ImposeMark))] 1 (by kernel_rfl) (⟨rfl,and_trans (app_ok cS_ImposeMark hp1) (by subst hl1; rfl)⟩) fun a w hm=>inBlock_norm (then_norm (((?_:T Try.prog e 117 _ _ _) a w hm)))
                  refine T_reg_end [] [1,5,6,7,8,9,10,11,12,13,14,15] [(15,dI (IntKind.i64.wrap (v4+(1:Int))))] [] 3 (by kernel_rfl) (trivial) fun a w hm=>then_norm (⟨(l1,IntKind.i64.wrap (v4+(1:Int))),h,hm.co (cs:=[.keep [1,5,6,7,8,9,10,11,12,13,14,15]]) (by show _=_; kernel_rfl)⟩)
                · have h:=cond_ff hc h
                  obtain hs:=Option.some.inj h; subst hs
                  refine T_exit fun a w hm=>then_exit (then_exit (inBlock_exit (then_norm (hm.co (cs:=[.keep [1,5,6,7,8,9,10,11,12,13,14]]) (by show _=_; kernel_rfl)))))
              · skip
                refine fun a w hm=>then_norm (((?_:T Try.prog e 117 _ _ _) a w hm))
                refine T_reg [] [1,5,6,7,8,9,10,11,12,13,14,17] [(17,dI (1:Int))] [] 1 (by kernel_rfl) (trivial) ?_
                refine T_joinct h (fun (p:(List S_ImposeMark))=>[(1,bx_ImposeLayout a0),(5,dI (IntKind.i64.wrap (a0.f6.tdiv (2:Int)))),(6,dI y1.1),(7,dI y1.2),(8,dI y2.1),(9,dI y2.2),(10,dI y3.1),(11,dI y3.2),(12,oW9 p),(13,dI v1),(14,dI v2)]) (fun s h=>?_) (fun v9 h=>?_)
                · refine T_co [.keep [1,5,6,7,8,9,10,11,12,13,14,17]] ((fun (p:(List S_ImposeMark)×Int)=>[(1,bx_ImposeLayout a0),(5,dI (IntKind.i64.wrap (a0.f6.tdiv (2:Int)))),(6,dI y1.1),(7,dI y1.2),(8,dI y2.1),(9,dI y2.2),(10,dI y3.1),(11,dI y3.2),(12,oW9 p.1),(13,dI v1),(14,dI v2),(17,dI p.2)]) (v8,(1:Int))) (by show _=_; kernel_rfl) ?_
                  refine T_block ?_
                  refine T_loopF (ι:=(List S_ImposeMark)×Int) (fun (p:(List S_ImposeMark)×Int)=>[(1,bx_ImposeLayout a0),(5,dI (IntKind.i64.wrap (a0.f6.tdiv (2:Int)))),(6,dI y1.1),(7,dI y1.2),(8,dI y2.1),(9,dI y2.2),(10,dI y3.1),(11,dI y3.2),(12,oW9 p.1),(13,dI v1),(14,dI v2),(17,dI p.2)]) (fun n p=>impose_Marks_L6 F a0 y1 y2 v1 v2 n p.1 p.2=some s) (fun i hh=>by simp [impose_Marks_L6] at hh) (fun n p h=>?_) F (v8,(1:Int)) h
                  obtain ⟨v5,v6⟩:=p
                  have h:impose_Marks_L6 F a0 y1 y2 v1 v2 (n+1) v5 v6=some s:=h
                  rw [impose_Marks_L6] at h
                  refine T_seqk ?_
                  refine T_reg [] [1,5,6,7,8,9,10,11,12,13,14,17,90] [(90,dB (decide (v6 < a0.f0.f1)))] [] 5 (by kernel_rfl) (trivial) ?_
                  refine T_cond (decide (v6 < a0.f0.f1)) (by kernel_rfl) (fun hc=>?_) (fun hc=>?_)
                  · have h:=cond_tt hc h
                    refine T_skip fun a w hm=>then_norm (((?_:T Try.prog e 117 _ _ _) a w hm))
                    refine T_seqk ?_
                    refine T_block ?_
                    refine T_reg [] [1,5,6,7,8,9,10,11,12,13,14,17,18] [(18,dI (IntKind.i64.wrap ((IntKind.i64.wrap (v1+a0.f6))+(IntKind.i64.wrap (v6 * y1.2)))))] [] 9 (by kernel_rfl) (trivial) ?_
                    obtain ⟨hp2,h⟩:=chk_ok h
                    obtain ⟨l2,hl2,h⟩:=lett_ok h
                    refine T_reg_end [(13,{ es:=some (([(S_ImposeMark.mk v2 (IntKind.i64.wrap ((IntKind.i64.wrap (v1+a0.f6))+(IntKind.i64.wrap (v6 * y1.2)))) (IntKind.i64.wrap (a0.f6.tdiv (2:Int))) (1:Int)),(S_ImposeMark.mk (IntKind.i64.wrap ((IntKind.i64.wrap (v2+y2.1)) - (IntKind.i64.wrap (a0.f6.tdiv (2:Int))))) (IntKind.i64.wrap ((IntKind.i64.wrap (v1+a0.f6))+(IntKind.i64.wrap (v6 * y1.2)))) (IntKind.i64.wrap (a0.f6.tdiv (2:Int))) (1:Int))]).map cS_ImposeMark) }),(14,{ es:=some (l2.map cS_ImposeMark) })] [1,5,6,7,8,9,10,11,12,13,14,17] [(12,oW9 l2)] [(13,(([(S_ImposeMark.mk v2 (IntKind.i64.wrap ((IntKind.i64.wrap (v1+a0.f6))+(IntKind.i64.wrap (v6 * y1.2)))) (IntKind.i64.wrap (a0.f6.tdiv (2:Int))) (1:Int)),(S_ImposeMark.mk (IntKind.i64.wrap ((IntKind.i64.wrap (v2+y2.1)) - (IntKind.i64.wrap (a0.f6.tdiv (2:Int))))) (IntKind.i64.wrap ((IntKind.i64.wrap (v1+a0.f6))+(IntKind.i64.wrap (v6 * y1.2)))) (IntKind.i64.wrap (a0.f6.tdiv (2:Int))) (1:Int))]).map cS_ImposeMark)=(([(S_ImposeMark.mk v2 (IntKind.i64.wrap ((IntKind.i64.wrap (v1+a0.f6))+(IntKind.i64.wrap (v6 * y1.2)))) (IntKind.i64.wrap (a0.f6.tdiv (2:Int))) (1:Int)),(S_ImposeMark.mk (IntKind.i64.wrap ((IntKind.i64.wrap (v2+y2.1)) - (IntKind.i64.wrap (a0.f6.tdiv (2:Int))))) (IntKind.i64.wrap ((IntKind.i64.wrap (v1+a0.f6))+(IntKind.i64.wrap (v6 * y1.2)))) (IntKind.i64.wrap (a0.f6.tdiv (2:Int))) (1:Int))]).map cS_ImposeMark)),(0,(v5.map cS_ImposeMark).length+(([(S_ImposeMark.mk v2 (IntKind.i64.wrap ((IntKind.i64.wrap (v1+a0.f6))+(IntKind.i64.wrap (v6 * y1.2)))) (IntKind.i64.wrap (a0.f6.tdiv (2:Int))) (1:Int)),(S_ImposeMark.mk (IntKind.i64.wrap ((IntKind.i64.wrap (v2+y2.1)) - (IntKind.i64.wrap (a0.f6.tdiv (2:Int))))) (IntKind.i64.wrap ((IntKind.i64.wrap (v1+a0.f6))+(IntKind.i64.wrap (v6 * y1.2)))) (IntKind.i64.wrap (a0.f6.tdiv (2:Int))) (1:Int))]).map cS_ImposeMark).length≤4294967296∧(v5.map cS_ImposeMark)++(([(S_ImposeMark.mk v2 (IntKind.i64.wrap ((IntKind.i64.wrap (v1+a0.f6))+(IntKind.i64.wrap (v6 * y1.2)))) (IntKind.i64.wrap (a0.f6.tdiv (2:Int))) (1:Int)),(S_ImposeMark.mk (IntKind.i64.wrap ((IntKind.i64.wrap (v2+y2.1)) - (IntKind.i64.wrap (a0.f6.tdiv (2:Int))))) (IntKind.i64.wrap ((IntKind.i64.wrap (v1+a0.f6))+(IntKind.i64.wrap (v6 * y1.2)))) (IntKind.i64.wrap (a0.f6.tdiv (2:Int))) (1:Int))]).map cS_ImposeMark)=(l2.map cS_ImposeMark))] 1 (by kernel_rfl) (⟨rfl,and_trans (app_ok cS_ImposeMark hp2) (by subst hl2; rfl)⟩) fun a w hm=>inBlock_norm (then_norm (((?_:T Try.prog e 117 _ _ _) a w hm)))
                    refine T_reg_end [] [1,5,6,7,8,9,10,11,12,13,14,17] [(17,dI (IntKind.i64.wrap (v6+(1:Int))))] [] 3 (by kernel_rfl) (trivial) fun a w hm=>then_norm (⟨(l2,IntKind.i64.wrap (v6+(1:Int))),h,hm.co (cs:=[.keep [1,5,6,7,8,9,10,11,12,13,14,17]]) (by show _=_; kernel_rfl)⟩)
                  · have h:=cond_ff hc h
                    obtain hs:=Option.some.inj h; subst hs
                    refine T_exit fun a w hm=>then_exit (then_exit (inBlock_exit (then_norm (hm.co (cs:=[.keep [1,5,6,7,8,9,10,11,12,13,14]]) (by show _=_; kernel_rfl)))))
                · skip
                  refine fun a w hm=>inBlock_norm (then_norm (((?_:T Try.prog e 117 _ _ _) a w hm)))
                  refine T_reg_end [] [1,5,6,7,8,9,10,11,12,13,14] [(14,dI (IntKind.i64.wrap (v2+y2.1)))] [] 4 (by kernel_rfl) (trivial) fun a w hm=>then_norm (⟨(v9,IntKind.i64.wrap (v2+y2.1)),h,hm.co (cs:=[.keep [1,5,6,7,8,9,10,11,12,13,14]]) (by show _=_; kernel_rfl)⟩)
            · have h:=cond_ff hc h
              obtain hs:=Option.some.inj h; subst hs
              refine T_exit fun a w hm=>then_exit (then_exit (inBlock_exit (then_norm (hm.co (cs:=[.keep [1,5,6,7,8,9,10,11,12,13]]) (by show _=_; kernel_rfl)))))
          · skip
            refine fun a w hm=>inBlock_norm (then_norm (((?_:T Try.prog e 117 _ _ _) a w hm)))
            refine T_reg_end [] [1,5,6,7,8,9,10,11,12,13] [(13,dI (IntKind.i64.wrap (v1+y2.2)))] [] 4 (by kernel_rfl) (trivial) fun a w hm=>then_norm (⟨(v11,IntKind.i64.wrap (v1+y2.2)),h,hm.co (cs:=[.keep [1,5,6,7,8,9,10,11,12,13]]) (by show _=_; kernel_rfl)⟩)
        · have h:=cond_ff hc h
          obtain hs:=Option.some.inj h; subst hs
          refine T_exit fun a w hm=>then_exit (then_exit (inBlock_exit (then_norm (hm.co (cs:=[.keep [12]]) (by show _=_; kernel_rfl)))))
      · skip
        refine fun a w hm=>then_norm (((?_:T Try.prog e 117 _ _ _) a w hm))
        refine T_reg [] [2,3,12] [(2,.vw (12,0)),(3,dI (0:Int))] [] 3 (by kernel_rfl) (trivial) ?_
        obtain hs:=Option.some.inj h; subst hs
        refine T_ret fun a w hm=>T_return (fr':=[(2,oW9 v12),(3,dI (0:Int))]) [2,3] (by kernel_rfl) [.claim 2,.keep [2,3]] (by kernel_rfl) (by kernel_rfl) (by kernel_rfl) (by show _=_; kernel_rfl) (by exact trivial) a w hm
set_option maxHeartbeats 8000000 in
set_option maxRecDepth 100000 in
theorem raster_Grid_uint8_Paste_ok {F:Nat} {a0:S_Plate} {a1:Int} {a2:Int} {a3:S_Plate} {r:S_Plate×Int} (h:raster_Grid_uint8_Paste F a0 a1 a2 a3=some r):ACall Try.prog 36 [.agg (cS_Plate a0),.d (.v (.int .i64 a1)),.d (.v (.int .i64 a2)),.agg (cS_Plate a3)] [] (.tup [.agg (cS_Plate r.1),.d (.v (.int .i64 r.2))]) []:=by
  rw [raster_Grid_uint8_Paste] at h
  refine ACall.intro (N:=123) Try.func36 rfl rfl rfl rfl rfl fun e=>?_
  refine T_reg [] [1,2,4,7,8] [(4,bx_Plate a0),(7,bx_Plate a3),(8,.box [dI 0,dI 0,oW0 []])] [] 4 (by kernel_rfl) (trivial) ?_
  refine T_seqk ?_
  obtain ⟨y1,hy1,h⟩:=call_ok h
  refine T_reg [(1,{ res:=dI y1 })] [1,2,4,7,8,10] [(10,dI y1)] [(1,ACall Try.prog 41 [.agg (cS_Plate a0)] [] (dI y1) [])] 1 (by kernel_rfl) (raster_Grid_uint8_Check_ok hy1) ?_
  refine T_reg [] [1,2,4,7,8,10,20] [(20,dB (y1 != (0:Int)))] [] 2 (by kernel_rfl) (trivial) ?_
  refine T_cond (y1 != (0:Int)) (by kernel_rfl) (fun hc=>?_) (fun hc=>?_)
  · have h:=cond_tt hc h
    refine T_region [(0,{ take:=[0] })] [8,9] [.nilc 8 2 5 1,.keep [8,9]] [(8,.box [dI 0,dI 0,oW0 []]),(9,dI y1)] [] 4 (by kernel_rfl) (trivial) ?_
    obtain hs:=Option.some.inj h; subst hs
    refine T_ret fun a w hm=>then_ret (T_returnC (fr':=[(8,.box [dI 0,dI 0,.fz 1 ([].map cU)]),(9,dI y1)]) (ts:=[123,9]) (N':=124) (fr2:=[(123,.agg (cS_Plate z_Plate))]++[(8,.box [dI 0,dI 0,.fz 1 ([].map cU)]),(9,dI y1)]) [.frz (8,3),.keep [8,9]] (by kernel_rfl) (by kernel_rfl) (by kernel_rfl) (by kernel_rfl) (by show _=_; kernel_rfl) (by exact trivial) a w hm)
  · have h:=cond_ff hc h
    refine T_skip fun a w hm=>then_norm (((?_:T Try.prog e 123 _ _ _) a w hm))
    refine T_seqk ?_
    obtain ⟨y2,hy2,h⟩:=call_ok h
    refine T_reg [(1,{ res:=dI y2 })] [1,2,4,7,8,11] [(11,dI y2)] [(1,ACall Try.prog 41 [.agg (cS_Plate a3)] [] (dI y2) [])] 1 (by kernel_rfl) (raster_Grid_uint8_Check_ok hy2) ?_
    refine T_reg [] [1,2,4,7,8,11,26] [(26,dB (y2 != (0:Int)))] [] 2 (by kernel_rfl) (trivial) ?_
    refine T_cond (y2 != (0:Int)) (by kernel_rfl) (fun hc=>?_) (fun hc=>?_)
    · have h:=cond_tt hc h
      refine T_region [(0,{ take:=[0] })] [8,9] [.nilc 8 2 5 1,.keep [8,9]] [(8,.box [dI 0,dI 0,oW0 []]),(9,dI y2)] [] 4 (by kernel_rfl) (trivial) ?_
      obtain hs:=Option.some.inj h; subst hs
      refine T_ret fun a w hm=>then_ret (T_returnC (fr':=[(8,.box [dI 0,dI 0,.fz 1 ([].map cU)]),(9,dI y2)]) (ts:=[123,9]) (N':=124) (fr2:=[(123,.agg (cS_Plate z_Plate))]++[(8,.box [dI 0,dI 0,.fz 1 ([].map cU)]),(9,dI y2)]) [.frz (8,3),.keep [8,9]] (by kernel_rfl) (by kernel_rfl) (by kernel_rfl) (by kernel_rfl) (by show _=_; kernel_rfl) (by exact trivial) a w hm)
    · have h:=cond_ff hc h
      refine T_skip fun a w hm=>then_norm (((?_:T Try.prog e 123 _ _ _) a w hm))
      refine T_seqk ?_
      obtain ⟨z6,hz1,h⟩:=lett_ok h
      refine T_reg [(9,{ rw:=some (dB z6) })] [1,2,4,7,8,42] [(42,dB (bif z6 then true else (decide (a2 > (1024:Int)))))] [(3,((((decide (a1 < (-1024:Int))) == false) && true)=true→True)),(0,((((decide (a1 < (-1024:Int))) == false) && true)=true→True)),(2,((((bif (decide (a1 < (-1024:Int))) then true else (decide (a1 > (1024:Int)))) == false) && true)=true→True)),(0,((((bif (decide (a1 < (-1024:Int))) then true else (decide (a1 > (1024:Int)))) == false) && true)=true→True)),(0,(True)∧dB (bif (bif (decide (a1 < (-1024:Int))) then true else (decide (a1 > (1024:Int)))) then true else (decide (a2 < (-1024:Int))))=dB z6),(1,(((z6 == false) && true)=true→True)),(0,(((z6 == false) && true)=true→True))] 1 (by kernel_rfl) (⟨(fun hg=>trivial),(fun hg=>trivial),(fun hg=>trivial),(fun hg=>trivial),⟨trivial,(by subst hz1; rfl)⟩,(fun hg=>trivial),(fun hg=>trivial)⟩) ?_
      refine T_cond (bif z6 then true else (decide (a2 > (1024:Int)))) (by kernel_rfl) (fun hc=>?_) (fun hc=>?_)
      · have h:=cond_tt hc h
        refine T_region [(0,{ take:=[0] })] [8,9] [.nilc 8 2 5 1,.keep [8,9]] [(8,.box [dI 0,dI 0,oW0 []]),(9,dI (3:Int))] [] 3 (by kernel_rfl) (trivial) ?_
        obtain hs:=Option.some.inj h; subst hs
        refine T_ret fun a w hm=>then_ret (T_returnC (fr':=[(8,.box [dI 0,dI 0,.fz 1 ([].map cU)]),(9,dI (3:Int))]) (ts:=[123,9]) (N':=124) (fr2:=[(123,.agg (cS_Plate z_Plate))]++[(8,.box [dI 0,dI 0,.fz 1 ([].map cU)]),(9,dI (3:Int))]) [.frz (8,3),.keep [8,9]] (by kernel_rfl) (by kernel_rfl) (by kernel_rfl) (by kernel_rfl) (by show _=_; kernel_rfl) (by exact trivial) a w hm)
      · have h:=cond_ff hc h
        refine T_skip fun a w hm=>then_norm (((?_:T Try.prog e 123 _ _ _) a w hm))
        obtain ⟨y3,hy3,h⟩:=call_ok h
        refine T_drawG mixed [(10,0,some 0),(9,1,some 2),(8,5,some 4),(7,21,none),(6,23,none),(6,29,none),(6,53,none),(6,277,none),(5,31,none),(5,55,none),(5,61,none),(5,117,none),(5,279,none),(5,285,none),(5,309,none),(4,63,none),(4,119,none),(4,125,none),(4,287,none),(4,311,none),(4,317,none),(4,373,none),(3,127,none),(3,319,none),(3,375,none),(3,381,none),(2,255,none),(2,383,none),(1,511,none),(0,1023,none)] [(10,12,.box [dI a0.f0,dI a0.f1,.vw (50,0)]),(9,12,.box [dI 0,dI 0,oW0 []]),(8,51,.agw [dI a0.f0,dI a0.f1,.vw (50,0)]),(7,50,oW0 y3),(6,49,.d (.sl 1 (a0.f2.map cU))),(5,48,.bp 4 2),(4,47,dI a0.f1),(3,46,.bp 4 1),(2,45,dI a0.f0),(1,44,.bp 4 0),(0,1,dI a1),(0,2,dI a2),(0,4,bx_Plate a0),(0,7,bx_Plate a3),(0,8,.box [dI 0,dI 0,oW0 []])] [1,2,4,7,8,12,44,45,46,47,48,49,50,51] ([0,1,0,4,0,16,32,74,0,511],[0,1,0,4,0,16,32,74,0,384]) 21 [(6,{ res:=oW0 y3 })] [1,2,4,7,8,12,50] [.claimc 12 2,.keep [1,2,4,7,8,12]] [(1,dI a1),(2,dI a2),(4,bx_Plate a0),(7,bx_Plate a3),(8,.box [dI 0,dI 0,oW0 []]),(12,.box [dI a0.f0,dI a0.f1,oW0 y3])] ((fun (o6:Prop)=>[(15,o6),(7,o6),(2,o6),(10,o6),(0,o6),(7,o6),(1,o6),(4,o6)]) (ACall Try.prog 57 [.d (.sl 1 (a0.f2.map cU))] [] (oW0 y3) [])) 5 (by kernel_rfl) (by kernel_rfl) (by kernel_rfl) (by kernel_rfl) (by kernel_rfl) (by kernel_rfl) (have p6:=slices_Clone_uint8_ok hy3; ⟨p6,p6,p6,p6,p6,p6,p6,p6⟩) ?_
        refine T_seqk ?_
        refine T_reg [] [1,2,4,7,8,12,13] [(13,dI (if (0:Int) < (IntKind.i64.wrap (0 - a2)) then (IntKind.i64.wrap (0 - a2)) else (0:Int)))] [] 4 (by kernel_rfl) (trivial) ?_
        refine T_joinct h (fun (p:(List UInt8))=>[(8,.box [dI 0,dI 0,oW0 []]),(12,.box [dI a0.f0,dI a0.f1,oW0 p])]) (fun s h=>?_) (fun v4 h=>?_)
        · refine T_co [.keep [1,2,4,7,8,12,13]] ((fun (p:(List UInt8)×Int)=>[(1,dI a1),(2,dI a2),(4,bx_Plate a0),(7,bx_Plate a3),(8,.box [dI 0,dI 0,oW0 []]),(12,.box [dI a0.f0,dI a0.f1,oW0 p.1]),(13,dI p.2)]) (y3,(if (0:Int) < (IntKind.i64.wrap (0 - a2)) then (IntKind.i64.wrap (0 - a2)) else (0:Int)))) (by show _=_; kernel_rfl) ?_
          refine T_block ?_
          refine T_loopF (ι:=(List UInt8)×Int) (fun (p:(List UInt8)×Int)=>[(1,dI a1),(2,dI a2),(4,bx_Plate a0),(7,bx_Plate a3),(8,.box [dI 0,dI 0,oW0 []]),(12,.box [dI a0.f0,dI a0.f1,oW0 p.1]),(13,dI p.2)]) (fun n p=>raster_Grid_uint8_Paste_L0 F a0 a1 a2 a3 n p.1 p.2=some s) (fun i hh=>by simp [raster_Grid_uint8_Paste_L0] at hh) (fun n p h=>?_) F (y3,(if (0:Int) < (IntKind.i64.wrap (0 - a2)) then (IntKind.i64.wrap (0 - a2)) else (0:Int))) h
          obtain ⟨v1,v2⟩:=p
          have h:raster_Grid_uint8_Paste_L0 F a0 a1 a2 a3 (n+1) v1 v2=some s:=h
          rw [raster_Grid_uint8_Paste_L0] at h
          refine T_seqk ?_
          refine T_reg [] [1,2,4,7,8,12,13,66] [(66,dB (bif (decide (v2 < a3.f1)) then (decide ((IntKind.i64.wrap (a2+v2)) < a0.f1)) else false))] [(5,((((decide (v2 < a3.f1)) == true) && true)=true→True)),(0,((((decide (v2 < a3.f1)) == true) && true)=true→True)),(0,((((decide (v2 < a3.f1)) == true) && true)=true→True)),(0,((((decide (v2 < a3.f1)) == true) && true)=true→True)),(0,((((decide (v2 < a3.f1)) == true) && true)=true→True)),(0,((((decide (v2 < a3.f1)) == true) && true)=true→True))] 1 (by kernel_rfl) (⟨(fun hg=>trivial),(fun hg=>trivial),(fun hg=>trivial),(fun hg=>trivial),(fun hg=>trivial),(fun hg=>trivial)⟩) ?_
          refine T_cond (bif (decide (v2 < a3.f1)) then (decide ((IntKind.i64.wrap (a2+v2)) < a0.f1)) else false) (by kernel_rfl) (fun hc=>?_) (fun hc=>?_)
          · have h:=cond_tt hc h
            refine T_skip fun a w hm=>then_norm (((?_:T Try.prog e 123 _ _ _) a w hm))
            refine T_joinc h (fun (p:(List UInt8))=>[(1,dI a1),(2,dI a2),(4,bx_Plate a0),(7,bx_Plate a3),(8,.box [dI 0,dI 0,oW0 []]),(12,.box [dI a0.f0,dI a0.f1,oW0 p]),(13,dI v2)]) (fun s h=>?_) (fun v3 h=>?_)
            · refine T_block ?_
              refine T_draw mixed [] [1,2,4,7,8,12,13,14,15] [] [(1,dI a1),(2,dI a2),(4,bx_Plate a0),(7,bx_Plate a3),(8,.box [dI 0,dI 0,oW0 []]),(12,.box [dI a0.f0,dI a0.f1,oW0 v1]),(13,dI v2),(14,dI (if (0:Int) < (IntKind.i64.wrap (0 - a1)) then (IntKind.i64.wrap (0 - a1)) else (0:Int))),(15,dI (if (IntKind.i64.wrap (a0.f0 - a1)) < a3.f0 then (IntKind.i64.wrap (a0.f0 - a1)) else a3.f0))] [] 12 (by kernel_rfl) (trivial) ?_
              obtain ⟨z1,hz2,h⟩:=lett_ok h
              refine T_reg [(2,{ rw:=some (dB z1) })] [1,2,4,7,8,12,13,14,15,81] [(81,dB z1)] [(2,(True)∧dB (decide ((if (0:Int) < (IntKind.i64.wrap (0 - a1)) then (IntKind.i64.wrap (0 - a1)) else (0:Int)) < (if (IntKind.i64.wrap (a0.f0 - a1)) < a3.f0 then (IntKind.i64.wrap (a0.f0 - a1)) else a3.f0)))=dB z1)] 0 (by kernel_rfl) (⟨trivial,(by subst hz2; rfl)⟩) ?_
              refine T_cond z1 (by kernel_rfl) (fun hc=>?_) (fun hc=>?_)
              · have h:=cond_tt hc h
                obtain ⟨hp1,h⟩:=chk_ok h
                refine T_reg [(15,{ slfs:=[(0,0)] })] [1,2,4,7,8,12,13,14,15,16] [(16,.sv (12,3) 1 ((IntKind.i64.wrap ((IntKind.i64.wrap (a2+v2)) * a0.f0)).toNat) ((IntKind.i64.wrap ((IntKind.i64.wrap ((IntKind.i64.wrap (a2+v2))+(1:Int))) * a0.f0)).toNat - (IntKind.i64.wrap ((IntKind.i64.wrap (a2+v2)) * a0.f0)).toNat))] [(15,0≤(IntKind.i64.wrap ((IntKind.i64.wrap (a2+v2)) * a0.f0))∧(IntKind.i64.wrap ((IntKind.i64.wrap (a2+v2)) * a0.f0)) < (IntKind.i64.wrap ((IntKind.i64.wrap ((IntKind.i64.wrap (a2+v2))+(1:Int))) * a0.f0))∧(IntKind.i64.wrap ((IntKind.i64.wrap ((IntKind.i64.wrap (a2+v2))+(1:Int))) * a0.f0))≤((v1.map cU).length:Int))] 1 (by kernel_rfl) (view_ok cU hp1) ?_
                obtain ⟨z2,hz3,h⟩:=lett_ok h
                obtain ⟨z3,hz4,h⟩:=lett_ok h
                obtain ⟨hp2,h⟩:=chk_ok h
                obtain ⟨z4,hz5,h⟩:=lett_ok h
                obtain ⟨z5,hz6,h⟩:=lett_ok h
                obtain ⟨hp3,h⟩:=chk_ok h
                obtain ⟨hp4,h⟩:=chk_ok h
                obtain hs:=Option.some.inj h; subst hs
                refine T_drawX_end mixed 30 (.take 0 (.take 1 (.take 2 (.take 3 (.take 4 (.take 5 (.take 6 (.take 8 (.take 10 (.take 11 (.take 14 (.take 16 (.take 17 (.take 20 (.all (.alt 7 (.all (.alt 9 (.all (.alt 12 (.take 13 (.take 15 (.all (.alt 18 (.take 19 (.take 21 (.all (.alt 22 (.all (.alt 23 .done .stop)) .stop)))) .stop)))) (.alt 18 (.take 19 (.take 21 (.all (.alt 12 (.take 13 (.take 15 (.all (.alt 22 (.all (.alt 23 .done .stop)) .stop)))) .stop)))) .stop))) (.alt 12 (.take 13 (.take 15 (.all (.alt 9 (.all (.alt 18 (.take 19 (.take 21 (.all (.alt 22 (.all (.alt 23 .done .stop)) .stop)))) .stop)) (.alt 18 (.take 19 (.take 21 (.all (.alt 9 (.all (.alt 22 (.all (.alt 23 .done .stop)) .stop)) .stop)))) .stop))))) (.alt 18 (.take 19 (.take 21 (.all (.alt 9 (.all (.alt 12 (.take 13 (.take 15 (.all (.alt 22 (.all (.alt 23 .done .stop)) .stop)))) .stop)) (.alt 12 (.take 13 (.take 15 (.all (.alt 9 (.all (.alt 22 (.all (.alt 23 .done .stop)) .stop)) .stop)))) .stop))))) .stop)))) (.alt 9 (.all (.alt 7 (.all (.alt 12 (.take 13 (.take 15 (.all (.alt 18 (.take 19 (.take 21 (.all (.alt 22 (.all (.alt 23 .done .stop)) .stop)))) .stop)))) (.alt 18 (.take 19 (.take 21 (.all (.alt 12 (.take 13 (.take 15 (.all (.alt 22 (.all (.alt 23 .done .stop)) .stop)))) .stop)))) .stop))) (.alt 12 (.take 13 (.take 15 (.all (.alt 7 (.all (.alt 18 (.take 19 (.take 21 (.all (.alt 22 (.all (.alt 23 .done .stop)) .stop)))) .stop)) (.alt 18 (.take 19 (.take 21 (.all (.alt 7 (.all (.alt 22 (.all (.alt 23 .done .stop)) .stop)) (.alt 22 (.all (.alt 7 (.all (.alt 23 .done .stop)) .stop)) .stop))))) .stop))))) (.alt 18 (.take 19 (.take 21 (.all (.alt 7 (.all (.alt 12 (.take 13 (.take 15 (.all (.alt 22 (.all (.alt 23 .done .stop)) .stop)))) .stop)) (.alt 12 (.take 13 (.take 15 (.all (.alt 7 (.all (.alt 22 (.all (.alt 23 .done .stop)) .stop)) (.alt 22 (.all (.alt 7 (.all (.alt 23 .done .stop)) .stop)) .stop))))) .stop))))) .stop)))) (.alt 12 (.take 13 (.take 15 (.all (.alt 7 (.all (.alt 9 (.all (.alt 18 (.take 19 (.take 21 (.all (.alt 22 (.all (.alt 23 .done .stop)) .stop)))) .stop)) (.alt 18 (.take 19 (.take 21 (.all (.alt 9 (.all (.alt 22 (.all (.alt 23 .done .stop)) .stop)) .stop)))) .stop))) (.alt 9 (.all (.alt 7 (.all (.alt 18 (.take 19 (.take 21 (.all (.alt 22 (.all (.alt 23 .done .stop)) .stop)))) .stop)) (.alt 18 (.take 19 (.take 21 (.all (.alt 7 (.all (.alt 22 (.all (.alt 23 .done .stop)) .stop)) (.alt 22 (.all (.alt 7 (.all (.alt 23 .done .stop)) .stop)) .stop))))) .stop))) (.alt 18 (.take 19 (.take 21 (.all (.alt 7 (.all (.alt 9 (.all (.alt 22 (.all (.alt 23 .done .stop)) .stop)) .stop)) (.alt 9 (.all (.alt 7 (.all (.alt 22 (.all (.alt 23 .done .stop)) .stop)) (.alt 22 (.all (.alt 7 (.all (.alt 23 .done .stop)) .stop)) .stop))) .stop))))) .stop)))))) (.alt 18 (.take 19 (.take 21 (.all (.alt 7 (.all (.alt 9 (.all (.alt 12 (.take 13 (.take 15 (.all (.alt 22 (.all (.alt 23 .done .stop)) .stop)))) .stop)) (.alt 12 (.take 13 (.take 15 (.all (.alt 9 (.all (.alt 22 (.all (.alt 23 .done .stop)) .stop)) .stop)))) .stop))) (.alt 9 (.all (.alt 7 (.all (.alt 12 (.take 13 (.take 15 (.all (.alt 22 (.all (.alt 23 .done .stop)) .stop)))) .stop)) (.alt 12 (.take 13 (.take 15 (.all (.alt 7 (.all (.alt 22 (.all (.alt 23 .done .stop)) .stop)) (.alt 22 (.all (.alt 7 (.all (.alt 23 .done .stop)) .stop)) .stop))))) .stop))) (.alt 12 (.take 13 (.take 15 (.all (.alt 7 (.all (.alt 9 (.all (.alt 22 (.all (.alt 23 .done .stop)) .stop)) .stop)) (.alt 9 (.all (.alt 7 (.all (.alt 22 (.all (.alt 23 .done .stop)) .stop)) (.alt 22 (.all (.alt 7 (.all (.alt 23 .done .stop)) .stop)) .stop))) .stop))))) .stop)))))) .stop))))))))))))))))))) ([0,0,0,6,0,0,48,73,0,256,0,0,2048,5120,0,24576,0,0,131072,327680,0,1572864,2130432,4194432],[0,0,0,6,0,0,48,73,0,256,0,0,2048,5120,0,24576,0,0,131072,327680,0,1572864,2130432,4194432]) 3927423 [(3,{ rw:=some (dI z2) }),(6,{ rw:=some (dI z3) }),(7,{ slfs:=[(0,0)] }),(15,{ rw:=some (dI z4) }),(21,{ rw:=some (dI z5) }),(22,{ rw:=some (.d (.sl 1 (((a3.f2.drop z4.toNat).take (z5.toNat - z4.toNat)).map cU))) }),(23,{ es:=some ((spl (((IntKind.i64.wrap ((IntKind.i64.wrap (a2+v2)) * a0.f0)).toNat)+z2.toNat) (((a3.f2.drop z4.toNat).take (z5.toNat - z4.toNat)).take (z3.toNat - z2.toNat)) v1).map cU) })] [1,2,4,7,8,12,13] [] [(1,dI a1),(2,dI a2),(4,bx_Plate a0),(7,bx_Plate a3),(8,.box [dI 0,dI 0,oW0 []]),(12,.box [dI a0.f0,dI a0.f1,.own 5 1 ((spl (((IntKind.i64.wrap ((IntKind.i64.wrap (a2+v2)) * a0.f0)).toNat)+z2.toNat) (((a3.f2.drop z4.toNat).take (z5.toNat - z4.toNat)).take (z3.toNat - z2.toNat)) v1).map cU)]),(13,dI v2)] ((fun (o3:Prop)=>fun (o6:Prop)=>fun (o7:Prop)=>fun (o15:Prop)=>fun (o21:Prop)=>fun (o22:Prop)=>fun (o23:Prop)=>[(3,o3),(2,o6),(7,o7),(3,o15),(2,o21),(0,o22),(0,o23),(2,o21),(2,o15),(0,o22),(0,o23),(2,o15),(3,o21),(0,o22),(0,o23),(2,o21),(1,o22),(0,o23),(2,o21),(3,o15),(0,o22),(0,o23),(2,o15),(1,o22),(0,o23),(1,o7),(2,o15),(2,o21),(0,o22),(0,o23),(2,o21),(2,o15),(0,o22),(0,o23),(2,o15),(0,o7),(2,o21),(0,o22),(0,o23),(2,o21),(0,o7),(0,o22),(0,o23),(0,o22),(0,o7),(0,o23),(2,o21),(0,o7),(2,o15),(0,o22),(0,o23),(2,o15),(0,o7),(0,o22),(0,o23),(0,o22),(0,o7),(0,o23),(2,o15),(0,o7),(3,o21),(0,o22),(0,o23),(2,o21),(1,o22),(0,o23),(1,o7),(2,o21),(0,o22),(0,o23),(2,o21),(0,o7),(0,o22),(0,o23),(0,o22),(0,o7),(0,o23),(2,o21),(0,o7),(1,o22),(0,o23),(1,o7),(0,o22),(0,o23),(0,o22),(0,o7),(0,o23),(2,o21),(0,o7),(3,o15),(0,o22),(0,o23),(2,o15),(1,o22),(0,o23),(1,o7),(2,o15),(0,o22),(0,o23),(2,o15),(0,o7),(0,o22),(0,o23),(0,o22),(0,o7),(0,o23),(2,o15),(0,o7),(1,o22),(0,o23),(1,o7),(0,o22),(0,o23),(0,o22),(0,o7),(0,o23)]) ((True)∧dI (IntKind.i64.wrap (a1+(if (0:Int) < (IntKind.i64.wrap (0 - a1)) then (IntKind.i64.wrap (0 - a1)) else (0:Int))))=dI z2) ((True)∧dI (IntKind.i64.wrap (a1+(if (IntKind.i64.wrap (a0.f0 - a1)) < a3.f0 then (IntKind.i64.wrap (a0.f0 - a1)) else a3.f0)))=dI z3) (0≤z2∧z2 < z3∧z3≤((((IntKind.i64.wrap ((IntKind.i64.wrap ((IntKind.i64.wrap (a2+v2))+(1:Int))) * a0.f0)).toNat - (IntKind.i64.wrap ((IntKind.i64.wrap (a2+v2)) * a0.f0)).toNat):Nat):Int)) ((True)∧dI (IntKind.i64.wrap ((IntKind.i64.wrap (v2 * a3.f0))+(if (0:Int) < (IntKind.i64.wrap (0 - a1)) then (IntKind.i64.wrap (0 - a1)) else (0:Int))))=dI z4) ((True)∧dI (IntKind.i64.wrap ((IntKind.i64.wrap (v2 * a3.f0))+(if (IntKind.i64.wrap (a0.f0 - a1)) < a3.f0 then (IntKind.i64.wrap (a0.f0 - a1)) else a3.f0)))=dI z5) ((0≤z4∧z4≤z5∧z5≤((a3.f2.map cU).length:Int))∧AV.d (.sl 1 (((a3.f2.map cU).drop z4.toNat).take (z5.toNat - z4.toNat)))=.d (.sl 1 (((a3.f2.drop z4.toNat).take (z5.toNat - z4.toNat)).map cU))) ((0 < (((a3.f2.drop z4.toNat).take (z5.toNat - z4.toNat)).map cU).length∧(((IntKind.i64.wrap ((IntKind.i64.wrap (a2+v2)) * a0.f0)).toNat)+z2.toNat)+(z3.toNat - z2.toNat)≤(v1.map cU).length)∧spl (((IntKind.i64.wrap ((IntKind.i64.wrap (a2+v2)) * a0.f0)).toNat)+z2.toNat) ((((a3.f2.drop z4.toNat).take (z5.toNat - z4.toNat)).map cU).take (z3.toNat - z2.toNat)) (v1.map cU)=((spl (((IntKind.i64.wrap ((IntKind.i64.wrap (a2+v2)) * a0.f0)).toNat)+z2.toNat) (((a3.f2.drop z4.toNat).take (z5.toNat - z4.toNat)).take (z3.toNat - z2.toNat)) v1).map cU))) 0 (by kernel_rfl) (by kernel_rfl) (by kernel_rfl) (have p3:=⟨trivial,(by subst hz3; rfl)⟩; have p6:=⟨trivial,(by subst hz4; rfl)⟩; have p7:=hp2; have p15:=⟨trivial,(by subst hz5; rfl)⟩; have p21:=⟨trivial,(by subst hz6; rfl)⟩; have p22:=cutH cU hp3; have p23:=copy_ok cU hp4; ⟨p3,p6,p7,p15,p21,p22,p23,p21,p15,p22,p23,p15,p21,p22,p23,p21,p22,p23,p21,p15,p22,p23,p15,p22,p23,p7,p15,p21,p22,p23,p21,p15,p22,p23,p15,p7,p21,p22,p23,p21,p7,p22,p23,p22,p7,p23,p21,p7,p15,p22,p23,p15,p7,p22,p23,p22,p7,p23,p15,p7,p21,p22,p23,p21,p22,p23,p7,p21,p22,p23,p21,p7,p22,p23,p22,p7,p23,p21,p7,p22,p23,p7,p22,p23,p22,p7,p23,p21,p7,p15,p22,p23,p15,p22,p23,p7,p15,p22,p23,p15,p7,p22,p23,p22,p7,p23,p15,p7,p22,p23,p7,p22,p23,p22,p7,p23⟩) fun a w hm=>inBlock_norm (then_norm (hm.co (cs:=[.keep [1,2,4,7,8,12,13]]) (by show _=_; kernel_rfl)))
              · have h:=cond_ff hc h
                obtain hs:=Option.some.inj h; subst hs
                refine T_skip fun a w hm=>inBlock_norm (then_norm (hm.co (cs:=[.keep [1,2,4,7,8,12,13]]) (by show _=_; kernel_rfl)))
            · skip
              refine T_reg_end [] [1,2,4,7,8,12,13] [(13,dI (IntKind.i64.wrap (v2+(1:Int))))] [] 3 (by kernel_rfl) (trivial) fun a w hm=>then_norm (⟨(v3,IntKind.i64.wrap (v2+(1:Int))),h,hm.co (cs:=[.keep [1,2,4,7,8,12,13]]) (by show _=_; kernel_rfl)⟩)
          · have h:=cond_ff hc h
            obtain hs:=Option.some.inj h; subst hs
            refine T_exit fun a w hm=>then_exit (then_exit (inBlock_exit (then_norm (hm.co (cs:=[.keep [8,12]]) (by show _=_; kernel_rfl)))))
        · skip
          refine fun a w hm=>then_norm (((?_:T Try.prog e 123 _ _ _) a w hm))
          refine T_reg [(0,{ frz:=[(12,3)] })] [8,9] [(8,.box [dI a0.f0,dI a0.f1,.d (.sl 1 (v4.map cU))]),(9,dI (0:Int))] [] 3 (by kernel_rfl) (trivial) ?_
          obtain hs:=Option.some.inj h; subst hs
          refine T_ret fun a w hm=>T_returnC (fr':=[(8,.box [dI a0.f0,dI a0.f1,.d (.sl 1 (v4.map cU))]),(9,dI (0:Int))]) (ts:=[123,9]) (N':=124) (fr2:=[(123,.agg (cS_Plate (S_Plate.mk a0.f0 a0.f1 v4)))]++[(8,.box [dI a0.f0,dI a0.f1,.d (.sl 1 (v4.map cU))]),(9,dI (0:Int))]) [.keep [8,9]] (by kernel_rfl) (by kernel_rfl) (by kernel_rfl) (by kernel_rfl) (by show _=_; kernel_rfl) (by exact trivial) a w hm
set_option maxHeartbeats 8000000 in
set_option maxRecDepth 100000 in
theorem impose_Plate_ok {F:Nat} {a0:S_ImposeLayout} {a1:List S_Plate} {a2:Bool} {a3:Bool} {r:S_Plate×Int} (h:impose_Plate F a0 a1 a2 a3=some r):ACall Try.prog 17 [.agg (cS_ImposeLayout a0),.d (.sl 3 (a1.map cS_Plate)),.d (.v (.bool a2)),.d (.v (.bool a3))] [] (.tup [.agg (cS_Plate r.1),.d (.v (.int .i64 r.2))]) []:=by
  rw [impose_Plate] at h
  refine ACall.intro (N:=160) Try.func17 rfl rfl rfl rfl rfl fun e=>?_
  refine T_reg [] [1,2,3,4,8] [(4,bx_ImposeLayout a0),(8,.box [dI 0,dI 0,oW0 []])] [] 3 (by kernel_rfl) (trivial) ?_
  refine T_seqk ?_
  obtain ⟨y7,hy1,h⟩:=call_ok h
  refine T_reg [(1,{ res:=dI y7 })] [1,2,3,4,8,10] [(10,dI y7)] [(1,ACall Try.prog 22 [.agg (cS_ImposeLayout a0)] [] (dI y7) [])] 1 (by kernel_rfl) (impose_Check_ok hy1) ?_
  refine T_reg [] [1,2,3,4,8,10,31] [(31,dB (y7 != (0:Int)))] [] 2 (by kernel_rfl) (trivial) ?_
  refine T_cond (y7 != (0:Int)) (by kernel_rfl) (fun hc=>?_) (fun hc=>?_)
  · have h:=cond_tt hc h
    refine T_region [(0,{ take:=[0] })] [8,9] [.nilc 8 2 5 1,.keep [8,9]] [(8,.box [dI 0,dI 0,oW0 []]),(9,dI y7)] [] 4 (by kernel_rfl) (trivial) ?_
    obtain hs:=Option.some.inj h; subst hs
    refine T_ret fun a w hm=>then_ret (T_returnC (fr':=[(8,.box [dI 0,dI 0,.fz 1 ([].map cU)]),(9,dI y7)]) (ts:=[160,9]) (N':=161) (fr2:=[(160,.agg (cS_Plate z_Plate))]++[(8,.box [dI 0,dI 0,.fz 1 ([].map cU)]),(9,dI y7)]) [.frz (8,3),.keep [8,9]] (by kernel_rfl) (by kernel_rfl) (by kernel_rfl) (by kernel_rfl) (by show _=_; kernel_rfl) (by exact trivial) a w hm)
  · have h:=cond_ff hc h
    refine T_skip fun a w hm=>then_norm (((?_:T Try.prog e 160 _ _ _) a w hm))
    refine T_seqk ?_
    obtain ⟨z3,hz1,h⟩:=lett_ok h
    refine T_reg [(1,{ rw:=some (dI (a1.length:Int)) }),(10,{ rw:=some (dB z3) })] [1,2,3,4,8,44] [(44,dB z3)] [(1,True∧dI ((a1.map cS_Plate).length:Int)=dI (a1.length:Int)),(8,(True)∧dB (decide ((a1.length:Int) > (IntKind.i64.wrap ((IntKind.i64.wrap ((2:Int) * a0.f0.f0)) * a0.f0.f1))))=dB z3)] 0 (by kernel_rfl) (⟨len_ok cS_Plate,⟨trivial,(by subst hz1; rfl)⟩⟩) ?_
    refine T_cond z3 (by kernel_rfl) (fun hc=>?_) (fun hc=>?_)
    · have h:=cond_tt hc h
      refine T_region [(0,{ take:=[0] })] [8,9] [.nilc 8 2 5 1,.keep [8,9]] [(8,.box [dI 0,dI 0,oW0 []]),(9,dI (2:Int))] [] 3 (by kernel_rfl) (trivial) ?_
      obtain hs:=Option.some.inj h; subst hs
      refine T_ret fun a w hm=>then_ret (T_returnC (fr':=[(8,.box [dI 0,dI 0,.fz 1 ([].map cU)]),(9,dI (2:Int))]) (ts:=[160,9]) (N':=161) (fr2:=[(160,.agg (cS_Plate z_Plate))]++[(8,.box [dI 0,dI 0,.fz 1 ([].map cU)]),(9,dI (2:Int))]) [.frz (8,3),.keep [8,9]] (by kernel_rfl) (by kernel_rfl) (by kernel_rfl) (by kernel_rfl) (by show _=_; kernel_rfl) (by exact trivial) a w hm)
    · have h:=cond_ff hc h
      refine T_skip fun a w hm=>then_norm (((?_:T Try.prog e 160 _ _ _) a w hm))
      refine T_seqk ?_
      refine T_reg [(1,{ rw:=some (dI (a1.length:Int)) })] [1,2,3,4,8,46,47,48] [(46,.d (.sl 3 (a1.map cS_Plate))),(47,dI (a1.length:Int)),(48,dI (0:Int))] [(1,True∧dI ((a1.map cS_Plate).length:Int)=dI (a1.length:Int))] 1 (by kernel_rfl) (len_ok cS_Plate) ?_
      refine T_joinEt h (fun (p:Unit)=>[(1,.d (.sl 3 (a1.map cS_Plate))),(2,dB a2),(3,dB a3),(4,bx_ImposeLayout a0),(8,.box [dI 0,dI 0,oW0 []])]) (fun s h hk1=>?_) (fun s h=>?_)
      · refine T_co [.keep [1,2,3,4,8,46,47,48]] ((fun (p:Int)=>[(1,.d (.sl 3 (a1.map cS_Plate))),(2,dB a2),(3,dB a3),(4,bx_ImposeLayout a0),(8,.box [dI 0,dI 0,oW0 []]),(46,.d (.sl 3 (a1.map cS_Plate))),(47,dI (a1.length:Int)),(48,dI p)]) (0:Int)) (by show _=_; kernel_rfl) ?_
        refine T_block ?_
        refine T_loopF (ι:=Int) (fun (p:Int)=>[(1,.d (.sl 3 (a1.map cS_Plate))),(2,dB a2),(3,dB a3),(4,bx_ImposeLayout a0),(8,.box [dI 0,dI 0,oW0 []]),(46,.d (.sl 3 (a1.map cS_Plate))),(47,dI (a1.length:Int)),(48,dI p)]) (fun n p=>impose_Plate_L0 F a0 a1 n p=some s) (fun i hh=>by simp [impose_Plate_L0] at hh) (fun n v1 h=>?_) F (0:Int) h
        have h:impose_Plate_L0 F a0 a1 (n+1) v1=some s:=h
        rw [impose_Plate_L0] at h
        refine T_reg [] [1,2,3,4,8,46,47,48,49] [(49,dB (decide (v1 < (a1.length:Int))))] [] 1 (by kernel_rfl) (trivial) ?_
        refine T_seqk ?_
        refine T_cond (decide (v1 < (a1.length:Int))) (by kernel_rfl) (fun hc=>?_) (fun hc=>?_)
        · have h:=cond_tt hc h
          refine T_skip fun a w hm=>then_norm (((?_:T Try.prog e 160 _ _ _) a w hm))
          refine T_seqk ?_
          refine T_block ?_
          obtain ⟨hp1,h⟩:=chk_ok h
          refine T_reg [(0,{ cs:=cS_Plate (a1.getD v1.toNat z_Plate) })] [1,2,3,4,8,12,46,47,48] [(12,.box [dI ((a1.getD v1.toNat z_Plate).f0),dI ((a1.getD v1.toNat z_Plate).f1),.d (.sl 1 (((a1.getD v1.toNat z_Plate).f2).map cU))])] [(0,0≤v1∧(a1.map cS_Plate)[v1.toNat]? = some (cS_Plate (a1.getD v1.toNat z_Plate)))] 3 (by kernel_rfl) (idx_ok (d:=z_Plate) cS_Plate hp1) ?_
          obtain ⟨z1,hz2,h⟩:=lett_ok h
          obtain ⟨z2,hz3,h⟩:=lett_ok h
          refine T_reg [(11,{ rw:=some (dB z1) }),(15,{ rw:=some (dI (((a1.getD v1.toNat z_Plate).f2).length:Int)) }),(22,{ rw:=some (dB z2) })] [1,2,3,4,8,46,47,48,74] [(74,dB z2)] [(6,((((((a1.getD v1.toNat z_Plate).f0) != a0.f1) == false) && true)=true→True)),(0,((((((a1.getD v1.toNat z_Plate).f0) != a0.f1) == false) && true)=true→True)),(0,((((((a1.getD v1.toNat z_Plate).f0) != a0.f1) == false) && true)=true→True)),(0,((((((a1.getD v1.toNat z_Plate).f0) != a0.f1) == false) && true)=true→True)),(0,((((((a1.getD v1.toNat z_Plate).f0) != a0.f1) == false) && true)=true→True)),(0,(True)∧dB (bif (((a1.getD v1.toNat z_Plate).f0) != a0.f1) then true else (((a1.getD v1.toNat z_Plate).f1) != a0.f2))=dB z1),(1,(((z1 == false) && true)=true→True)),(0,(((z1 == false) && true)=true→True)),(0,(((z1 == false) && true)=true→True∧dI ((((a1.getD v1.toNat z_Plate).f2).map cU).length:Int)=dI (((a1.getD v1.toNat z_Plate).f2).length:Int))),(0,(((z1 == false) && true)=true→True)),(0,(((z1 == false) && true)=true→True)),(0,(((z1 == false) && true)=true→True)),(0,(((z1 == false) && true)=true→True)),(0,(((z1 == false) && true)=true→True)),(0,(((z1 == false) && true)=true→True)),(0,(True)∧dB (bif z1 then true else ((((a1.getD v1.toNat z_Plate).f2).length:Int) != (IntKind.i64.wrap (a0.f1 * a0.f2))))=dB z2)] 0 (by kernel_rfl) (⟨(fun hg=>trivial),(fun hg=>trivial),(fun hg=>trivial),(fun hg=>trivial),(fun hg=>trivial),⟨trivial,(by subst hz2; rfl)⟩,(fun hg=>trivial),(fun hg=>trivial),(fun hg=>len_ok cU),(fun hg=>trivial),(fun hg=>trivial),(fun hg=>trivial),(fun hg=>trivial),(fun hg=>trivial),(fun hg=>trivial),⟨trivial,(by subst hz3; rfl)⟩⟩) ?_
          refine T_cond z2 (by kernel_rfl) (fun hc=>?_) (fun hc=>?_)
          · have h:=cond_tt hc h
            refine T_region [(0,{ take:=[0] })] [8,9] [.nilc 8 2 5 1,.keep [8,9]] [(8,.box [dI 0,dI 0,oW0 []]),(9,dI (4:Int))] [] 3 (by kernel_rfl) (trivial) ?_
            obtain hs:=Option.some.inj h; subst hs
            have h:=callE_esc hk1
            obtain hs:=Option.some.inj h; subst hs
            refine T_ret fun a w hm=>inBlock_ret (then_ret (then_ret (inBlock_ret (then_ret (then_ret (T_returnC (fr':=[(8,.box [dI 0,dI 0,.fz 1 ([].map cU)]),(9,dI (4:Int))]) (ts:=[160,9]) (N':=161) (fr2:=[(160,.agg (cS_Plate z_Plate))]++[(8,.box [dI 0,dI 0,.fz 1 ([].map cU)]),(9,dI (4:Int))]) [.frz (8,3),.keep [8,9]] (by kernel_rfl) (by kernel_rfl) (by kernel_rfl) (by kernel_rfl) (by show _=_; kernel_rfl) (by exact trivial) a w hm))))))
          · have h:=cond_ff hc h
            refine T_skip fun a w hm=>inBlock_norm (then_norm (((?_:T Try.prog e 160 _ _ _) a w hm)))
            refine T_reg_end [] [1,2,3,4,8,46,47,48] [(48,dI (IntKind.i64.wrap (v1+(1:Int))))] [] 2 (by kernel_rfl) (trivial) fun a w hm=>then_norm (⟨IntKind.i64.wrap (v1+(1:Int)),h,hm.co (cs:=[.keep [1,2,3,4,8,46,47,48]]) (by show _=_; kernel_rfl)⟩)
        · have h:=cond_ff hc h
          obtain hs:=Option.some.inj h; subst hs
          refine T_exit fun a w hm=>then_exit (then_exit (inBlock_exit (then_norm (⟨_,rfl,hm.co (cs:=[.keep [1,2,3,4,8]]) (by show _=_; kernel_rfl)⟩))))
      · skip
        refine fun a w hm=>then_norm (((?_:T Try.prog e 160 _ _ _) a w hm))
        obtain ⟨y8,hy2,h⟩:=call_ok h
        refine T_reg [(2,{ rw:=some (dI (a1.length:Int)) }),(3,{ res:=.tup [.agg (cS_ImposeSheet y8.1),dI y8.2] })] [1,2,3,4,8,13] [(13,bx_ImposeSheet y8.1)] [(2,True∧dI ((a1.map cS_Plate).length:Int)=dI (a1.length:Int)),(0,ACall Try.prog 26 [.agg (cS_ImposeLayout a0),dI (a1.length:Int)] [] (.tup [.agg (cS_ImposeSheet y8.1),dI y8.2]) [])] 6 (by kernel_rfl) (⟨len_ok cS_Plate,impose_Sheet_ok hy2⟩) ?_
        refine T_reg [] [1,2,3,4,8,13,15] [(15,.d (.sl 4 (y8.1.f2.map cS_ImposePlace)))] [] 3 (by kernel_rfl) (trivial) ?_
        refine T_joinc h (fun (p:(List S_ImposePlace))=>[(1,.d (.sl 3 (a1.map cS_Plate))),(3,dB a3),(4,bx_ImposeLayout a0),(8,.box [dI 0,dI 0,oW0 []]),(13,bx_ImposeSheet y8.1),(15,.d (.sl 4 (p.map cS_ImposePlace)))]) (fun s h=>?_) (fun v6 h=>?_)
        · refine T_reg [] [1,3,4,8,13,15,86] [(86,dB a2)] [] 1 (by kernel_rfl) (trivial) ?_
          refine T_cond a2 (by kernel_rfl) (fun hc=>?_) (fun hc=>?_)
          · have h:=cond_tt hc h
            obtain hs:=Option.some.inj h; subst hs
            refine T_reg_end [] [1,3,4,8,13,15] [(15,.d (.sl 4 (y8.1.f3.map cS_ImposePlace)))] [] 3 (by kernel_rfl) (trivial) fun a w hm=>then_norm (hm.co (cs:=[.keep [1,3,4,8,13,15]]) (by show _=_; kernel_rfl))
          · have h:=cond_ff hc h
            obtain hs:=Option.some.inj h; subst hs
            refine T_skip fun a w hm=>then_norm (hm.co (cs:=[.keep [1,3,4,8,13,15]]) (by show _=_; kernel_rfl))
        · skip
          obtain ⟨y9,hy3,h⟩:=call_ok h
          refine T_reg [(4,{ res:=.tup [.agg (cS_Plate y9.1),dI y9.2] })] [1,3,4,8,15,16] [(16,bx_Plate y9.1)] [(4,ACall Try.prog 34 [dI y8.1.f0,dI y8.1.f1,.d (.v (.int .u8 (0:Int)))] [] (.tup [.agg (cS_Plate y9.1),dI y9.2]) [])] 6 (by kernel_rfl) (raster_Make_uint8_ok hy3) ?_
          refine T_joinc h (fun (p:Int×Int×(List UInt8))=>[(1,.d (.sl 3 (a1.map cS_Plate))),(8,.box [dI 0,dI 0,oW0 []]),(15,.d (.sl 4 (v6.map cS_ImposePlace))),(16,.box [dI p.1,dI p.2.1,.d (.sl 1 (p.2.2.map cU))])]) (fun s h=>?_) (fun s h=>?_)
          · refine T_reg [] [1,4,8,15,16,97] [(97,dB a3)] [] 1 (by kernel_rfl) (trivial) ?_
            refine T_cond a3 (by kernel_rfl) (fun hc=>?_) (fun hc=>?_)
            · have h:=cond_tt hc h
              obtain ⟨y1,hy4,h⟩:=call_ok h
              refine T_reg [(1,{ res:=.tup [oW9 y1.1,dI y1.2] })] [1,8,15,16,18] [(18,oW9 y1.1)] [(1,ACall Try.prog 35 [.agg (cS_ImposeLayout a0)] [] (.tup [oW9 y1.1,dI y1.2]) [])] 5 (by kernel_rfl) (impose_Marks_ok hy4) ?_
              refine T_reg [(1,{ rw:=some (dI (y1.1.length:Int)) })] [1,8,15,16,18,103,104,105] [(103,.vw (18,0)),(104,dI (y1.1.length:Int)),(105,dI (0:Int))] [(1,True∧dI ((y1.1.map cS_ImposeMark).length:Int)=dI (y1.1.length:Int))] 1 (by kernel_rfl) (len_ok cS_ImposeMark) ?_
              refine T_joinct h (fun (p:Int×Int×(List UInt8))=>[(1,.d (.sl 3 (a1.map cS_Plate))),(8,.box [dI 0,dI 0,oW0 []]),(15,.d (.sl 4 (v6.map cS_ImposePlace))),(16,.box [dI p.1,dI p.2.1,.d (.sl 1 (p.2.2.map cU))])]) (fun s h=>?_) (fun s h=>?_)
              · refine T_co [.keep [1,8,15,16,18,103,104,105]] ((fun (p:Int×Int×(List UInt8)×Int)=>[(1,.d (.sl 3 (a1.map cS_Plate))),(8,.box [dI 0,dI 0,oW0 []]),(15,.d (.sl 4 (v6.map cS_ImposePlace))),(16,.box [dI p.1,dI p.2.1,.d (.sl 1 (p.2.2.1.map cU))]),(18,oW9 y1.1),(103,.vw (18,0)),(104,dI (y1.1.length:Int)),(105,dI p.2.2.2)]) (y9.1.f0,y9.1.f1,y9.1.f2,(0:Int))) (by show _=_; kernel_rfl) ?_
                refine T_block ?_
                refine T_loopF (ι:=Int×Int×(List UInt8)×Int) (fun (p:Int×Int×(List UInt8)×Int)=>[(1,.d (.sl 3 (a1.map cS_Plate))),(8,.box [dI 0,dI 0,oW0 []]),(15,.d (.sl 4 (v6.map cS_ImposePlace))),(16,.box [dI p.1,dI p.2.1,.d (.sl 1 (p.2.2.1.map cU))]),(18,oW9 y1.1),(103,.vw (18,0)),(104,dI (y1.1.length:Int)),(105,dI p.2.2.2)]) (fun n p=>impose_Plate_L2 F y1 n p.1 p.2.1 p.2.2.1 p.2.2.2=some s) (fun i hh=>by simp [impose_Plate_L2] at hh) (fun n p h=>?_) F (y9.1.f0,y9.1.f1,y9.1.f2,(0:Int)) h
                obtain ⟨v2,v3,v4,v5⟩:=p
                have h:impose_Plate_L2 F y1 (n+1) v2 v3 v4 v5=some s:=h
                rw [impose_Plate_L2] at h
                refine T_reg [] [1,8,15,16,18,103,104,105,106] [(106,dB (decide (v5 < (y1.1.length:Int))))] [] 1 (by kernel_rfl) (trivial) ?_
                refine T_seqk ?_
                refine T_cond (decide (v5 < (y1.1.length:Int))) (by kernel_rfl) (fun hc=>?_) (fun hc=>?_)
                · have h:=cond_tt hc h
                  refine T_skip fun a w hm=>then_norm (((?_:T Try.prog e 160 _ _ _) a w hm))
                  refine T_seqk ?_
                  refine T_block ?_
                  obtain ⟨hp2,h⟩:=chk_ok h
                  refine T_reg [(1,{ cs:=cS_ImposeMark (y1.1.getD v5.toNat z_ImposeMark) })] [1,8,15,16,18,21,103,104,105] [(21,.box [dI ((y1.1.getD v5.toNat z_ImposeMark).f0),dI ((y1.1.getD v5.toNat z_ImposeMark).f1),dI ((y1.1.getD v5.toNat z_ImposeMark).f2),dI ((y1.1.getD v5.toNat z_ImposeMark).f3)])] [(0,0≤v5∧v5 < (y1.1.map cS_ImposeMark).length),(0,(y1.1.map cS_ImposeMark)[v5.toNat]? = some (cS_ImposeMark (y1.1.getD v5.toNat z_ImposeMark)))] 2 (by kernel_rfl) (⟨own_idx cS_ImposeMark hp2,(idx_ok (d:=z_ImposeMark) cS_ImposeMark hp2).2⟩) ?_
                  obtain ⟨y2,hy5,h⟩:=call_ok h
                  refine T_reg [(4,{ res:=.tup [.agg (cS_Plate y2.1),dI y2.2] })] [1,8,15,16,18,21,22,103,104,105] [(22,bx_Plate y2.1)] [(4,ACall Try.prog 34 [dI ((y1.1.getD v5.toNat z_ImposeMark).f2),dI ((y1.1.getD v5.toNat z_ImposeMark).f3),.d (.v (.int .u8 (255:Int)))] [] (.tup [.agg (cS_Plate y2.1),dI y2.2]) [])] 6 (by kernel_rfl) (raster_Make_uint8_ok hy5) ?_
                  obtain ⟨y3,hy6,h⟩:=call_ok h
                  refine T_reg_end [(6,{ res:=.tup [.agg (cS_Plate y3.1),dI y3.2] })] [1,8,15,16,18,103,104,105] [(16,bx_Plate y3.1)] [(6,ACall Try.prog 36 [.agg (cS_Plate (S_Plate.mk v2 v3 v4)),dI ((y1.1.getD v5.toNat z_ImposeMark).f0),dI ((y1.1.getD v5.toNat z_ImposeMark).f1),.agg (cS_Plate y2.1)] [] (.tup [.agg (cS_Plate y3.1),dI y3.2]) [])] 4 (by kernel_rfl) (raster_Grid_uint8_Paste_ok hy6) fun a w hm=>inBlock_norm (then_norm (((?_:T Try.prog e 160 _ _ _) a w hm)))
                  refine T_reg_end [] [1,8,15,16,18,103,104,105] [(105,dI (IntKind.i64.wrap (v5+(1:Int))))] [] 2 (by kernel_rfl) (trivial) fun a w hm=>then_norm (⟨(y3.1.f0,y3.1.f1,y3.1.f2,IntKind.i64.wrap (v5+(1:Int))),h,hm.co (cs:=[.keep [1,8,15,16,18,103,104,105]]) (by show _=_; kernel_rfl)⟩)
                · have h:=cond_ff hc h
                  obtain hs:=Option.some.inj h; subst hs
                  refine T_exit fun a w hm=>then_exit (then_exit (inBlock_exit (then_norm (hm.co (cs:=[.keep [1,8,15,16]]) (by show _=_; kernel_rfl)))))
              · obtain ⟨v11,v12,v13⟩:=s
                try dsimp only at h
                obtain hs:=Option.some.inj h; subst hs
                refine fun a w hm=>then_norm (hm.co (cs:=[.keep [1,8,15,16]]) (by show _=_; kernel_rfl))
            · have h:=cond_ff hc h
              obtain hs:=Option.some.inj h; subst hs
              refine T_skip fun a w hm=>then_norm (hm.co (cs:=[.keep [1,8,15,16]]) (by show _=_; kernel_rfl))
          · obtain ⟨v14,v15,v16⟩:=s
            try dsimp only at h
            refine T_seqk ?_
            refine T_reg [(1,{ rw:=some (dI (v6.length:Int)) })] [1,8,16,128,129,130] [(128,.d (.sl 4 (v6.map cS_ImposePlace))),(129,dI (v6.length:Int)),(130,dI (0:Int))] [(1,True∧dI ((v6.map cS_ImposePlace).length:Int)=dI (v6.length:Int))] 1 (by kernel_rfl) (len_ok cS_ImposePlace) ?_
            refine T_joinct h (fun (p:Int×Int×(List UInt8))=>[(8,.box [dI 0,dI 0,oW0 []]),(16,.box [dI p.1,dI p.2.1,.d (.sl 1 (p.2.2.map cU))])]) (fun s h=>?_) (fun s h=>?_)
            · refine T_co [.keep [1,8,16,128,129,130]] ((fun (p:Int×Int×(List UInt8)×Int)=>[(1,.d (.sl 3 (a1.map cS_Plate))),(8,.box [dI 0,dI 0,oW0 []]),(16,.box [dI p.1,dI p.2.1,.d (.sl 1 (p.2.2.1.map cU))]),(128,.d (.sl 4 (v6.map cS_ImposePlace))),(129,dI (v6.length:Int)),(130,dI p.2.2.2)]) (v14,v15,v16,(0:Int))) (by show _=_; kernel_rfl) ?_
              refine T_block ?_
              refine T_loopF (ι:=Int×Int×(List UInt8)×Int) (fun (p:Int×Int×(List UInt8)×Int)=>[(1,.d (.sl 3 (a1.map cS_Plate))),(8,.box [dI 0,dI 0,oW0 []]),(16,.box [dI p.1,dI p.2.1,.d (.sl 1 (p.2.2.1.map cU))]),(128,.d (.sl 4 (v6.map cS_ImposePlace))),(129,dI (v6.length:Int)),(130,dI p.2.2.2)]) (fun n p=>impose_Plate_L4 F a1 v6 n p.1 p.2.1 p.2.2.1 p.2.2.2=some s) (fun i hh=>by simp [impose_Plate_L4] at hh) (fun n p h=>?_) F (v14,v15,v16,(0:Int)) h
              obtain ⟨v7,v8,v9,v10⟩:=p
              have h:impose_Plate_L4 F a1 v6 (n+1) v7 v8 v9 v10=some s:=h
              rw [impose_Plate_L4] at h
              refine T_reg [] [1,8,16,128,129,130,131] [(131,dB (decide (v10 < (v6.length:Int))))] [] 1 (by kernel_rfl) (trivial) ?_
              refine T_seqk ?_
              refine T_cond (decide (v10 < (v6.length:Int))) (by kernel_rfl) (fun hc=>?_) (fun hc=>?_)
              · have h:=cond_tt hc h
                refine T_skip fun a w hm=>then_norm (((?_:T Try.prog e 160 _ _ _) a w hm))
                refine T_seqk ?_
                refine T_block ?_
                obtain ⟨hp3,h⟩:=chk_ok h
                refine T_reg [(0,{ cs:=cS_ImposePlace (v6.getD v10.toNat z_ImposePlace) })] [1,8,16,25,128,129,130] [(25,.box [dI ((v6.getD v10.toNat z_ImposePlace).f0),dI ((v6.getD v10.toNat z_ImposePlace).f1),dI ((v6.getD v10.toNat z_ImposePlace).f2),dI ((v6.getD v10.toNat z_ImposePlace).f3)])] [(0,0≤v10∧(v6.map cS_ImposePlace)[v10.toNat]? = some (cS_ImposePlace (v6.getD v10.toNat z_ImposePlace)))] 3 (by kernel_rfl) (idx_ok (d:=z_ImposePlace) cS_ImposePlace hp3) ?_
                obtain ⟨hp4,h⟩:=chk_ok h
                obtain ⟨y4,hy7,h⟩:=call_ok h
                obtain ⟨y5,hy8,h⟩:=call_ok h
                refine T_drawG mixed [(16,0,some 0),(15,1,some 1),(14,3,some 7),(13,131,none),(12,135,some 3),(12,387,none),(12,8323,none),(11,143,none),(11,391,some 3),(11,8327,some 3),(11,8579,none),(10,159,none),(10,399,none),(10,8335,none),(10,8583,some 3),(9,191,none),(9,415,none),(9,8351,none),(9,8591,none),(8,255,none),(8,447,none),(8,8383,none),(8,8607,none),(7,511,none),(7,8447,none),(7,8639,none),(6,1023,some 10),(6,8703,none),(5,2047,none),(5,9215,some 10),(4,4095,none),(4,6143,none),(4,10239,none),(3,8191,none),(3,12287,none),(3,14335,none),(2,16383,none),(2,28671,none),(1,32767,some 15),(0,65535,none)] [(16,27,dI y5.2),(15,26,bx_Plate y5.1),(14,26,.box [dI 0,dI 0,oW0 []]),(13,146,dI y5.2),(12,145,.agg (cS_Plate y5.1)),(11,134,.tup [.agg (cS_Plate y5.1),dI y5.2]),(11,144,.junk),(10,144,.tup [.agg (cS_Plate y5.1),dI y5.2]),(9,143,dI ((v6.getD v10.toNat z_ImposePlace).f3)),(8,142,.bp 25 3),(7,141,.agg (cS_Plate y4)),(6,140,.agg (cS_Plate (a1.getD (IntKind.i64.wrap (((v6.getD v10.toNat z_ImposePlace).f0) - (1:Int))).toNat z_Plate))),(5,139,.d (.pt (cS_Plate (a1.getD (IntKind.i64.wrap (((v6.getD v10.toNat z_ImposePlace).f0) - (1:Int))).toNat z_Plate)))),(4,138,dI (IntKind.i64.wrap (((v6.getD v10.toNat z_ImposePlace).f0) - (1:Int)))),(3,137,dI ((v6.getD v10.toNat z_ImposePlace).f0)),(2,136,.bp 25 0),(1,135,.d (.sl 3 (a1.map cS_Plate))),(0,1,.d (.sl 3 (a1.map cS_Plate))),(0,8,.box [dI 0,dI 0,oW0 []]),(0,16,.box [dI v7,dI v8,.d (.sl 1 (v9.map cU))]),(0,25,.box [dI ((v6.getD v10.toNat z_ImposePlace).f0),dI ((v6.getD v10.toNat z_ImposePlace).f1),dI ((v6.getD v10.toNat z_ImposePlace).f2),dI ((v6.getD v10.toNat z_ImposePlace).f3)]),(0,128,.d (.sl 4 (v6.map cS_ImposePlace))),(0,129,dI (v6.length:Int)),(0,130,dI v10)] [1,8,16,25,26,27,128,129,130,134,135,136,137,138,139,140,141,142,143,144,145,146] ([0,0,2,4,9,16,32,0,128,320,512,1024,1024,0,12287,32767],[0,0,2,4,9,16,32,0,128,320,512,1024,1024,0,10240,4096]) 33931 [(4,{ cs:=cS_Plate (a1.getD (IntKind.i64.wrap (((v6.getD v10.toNat z_ImposePlace).f0) - (1:Int))).toNat z_Plate) }),(6,{ res:=.agg (cS_Plate y4) }),(9,{ res:=.tup [.agg (cS_Plate y5.1),dI y5.2] })] [1,8,16,25,26,128,129,130] [] [(1,.d (.sl 3 (a1.map cS_Plate))),(8,.box [dI 0,dI 0,oW0 []]),(16,.box [dI v7,dI v8,.d (.sl 1 (v9.map cU))]),(25,.box [dI ((v6.getD v10.toNat z_ImposePlace).f0),dI ((v6.getD v10.toNat z_ImposePlace).f1),dI ((v6.getD v10.toNat z_ImposePlace).f2),dI ((v6.getD v10.toNat z_ImposePlace).f3)]),(26,bx_Plate y5.1),(128,.d (.sl 4 (v6.map cS_ImposePlace))),(129,dI (v6.length:Int)),(130,dI v10)] ((fun (o4:Prop)=>fun (o6:Prop)=>fun (o9:Prop)=>[(11,o4),(8,o4),(1,o4),(2,o6),(6,o4),(2,o6),(1,o6),(2,o9),(2,o6),(1,o9)]) (0≤(IntKind.i64.wrap (((v6.getD v10.toNat z_ImposePlace).f0) - (1:Int)))∧(a1.map cS_Plate)[(IntKind.i64.wrap (((v6.getD v10.toNat z_ImposePlace).f0) - (1:Int))).toNat]? = some (cS_Plate (a1.getD (IntKind.i64.wrap (((v6.getD v10.toNat z_ImposePlace).f0) - (1:Int))).toNat z_Plate))) (ACall Try.prog 37 [.agg (cS_Plate (a1.getD (IntKind.i64.wrap (((v6.getD v10.toNat z_ImposePlace).f0) - (1:Int))).toNat z_Plate))] [] (.agg (cS_Plate y4)) []) (ACall Try.prog 38 [.agg (cS_Plate y4),dI ((v6.getD v10.toNat z_ImposePlace).f3)] [] (.tup [.agg (cS_Plate y5.1),dI y5.2]) [])) 17 (by kernel_rfl) (by kernel_rfl) (by kernel_rfl) (by kernel_rfl) (by kernel_rfl) (by kernel_rfl) (have p4:=idx_ok (d:=z_Plate) cS_Plate hp4; have p6:=raster_Of_ok hy7; have p9:=raster_Grid_uint8_Turn_ok hy8; ⟨p4,p4,p4,p6,p4,p6,p6,p9,p6,p9⟩) ?_
                obtain ⟨y6,hy9,h⟩:=call_ok h
                refine T_reg_end [(6,{ res:=.tup [.agg (cS_Plate y6.1),dI y6.2] })] [1,8,16,128,129,130] [(16,bx_Plate y6.1)] [(6,ACall Try.prog 36 [.agg (cS_Plate (S_Plate.mk v7 v8 v9)),dI ((v6.getD v10.toNat z_ImposePlace).f1),dI ((v6.getD v10.toNat z_ImposePlace).f2),.agg (cS_Plate y5.1)] [] (.tup [.agg (cS_Plate y6.1),dI y6.2]) [])] 4 (by kernel_rfl) (raster_Grid_uint8_Paste_ok hy9) fun a w hm=>inBlock_norm (then_norm (((?_:T Try.prog e 160 _ _ _) a w hm)))
                refine T_reg_end [] [1,8,16,128,129,130] [(130,dI (IntKind.i64.wrap (v10+(1:Int))))] [] 2 (by kernel_rfl) (trivial) fun a w hm=>then_norm (⟨(y6.1.f0,y6.1.f1,y6.1.f2,IntKind.i64.wrap (v10+(1:Int))),h,hm.co (cs:=[.keep [1,8,16,128,129,130]]) (by show _=_; kernel_rfl)⟩)
              · have h:=cond_ff hc h
                obtain hs:=Option.some.inj h; subst hs
                refine T_exit fun a w hm=>then_exit (then_exit (inBlock_exit (then_norm (hm.co (cs:=[.keep [8,16]]) (by show _=_; kernel_rfl)))))
            · obtain ⟨v17,v18,v19⟩:=s
              try dsimp only at h
              refine fun a w hm=>then_norm (((?_:T Try.prog e 160 _ _ _) a w hm))
              obtain ⟨y10,hy10,h⟩:=call_ok h
              refine T_reg [(1,{ res:=.agg (cS_Plate y10) })] [8,9] [(8,bx_Plate y10),(9,dI (0:Int))] [(1,ACall Try.prog 39 [.agg (cS_Plate (S_Plate.mk v17 v18 v19))] [] (.agg (cS_Plate y10)) [])] 2 (by kernel_rfl) (raster_Plate_ok hy10) ?_
              obtain hs:=Option.some.inj h; subst hs
              refine T_ret fun a w hm=>T_returnC (fr':=[(8,bx_Plate y10),(9,dI (0:Int))]) (ts:=[160,9]) (N':=161) (fr2:=[(160,.agg (cS_Plate y10))]++[(8,bx_Plate y10),(9,dI (0:Int))]) [.keep [8,9]] (by kernel_rfl) (by kernel_rfl) (by kernel_rfl) (by kernel_rfl) (by show _=_; kernel_rfl) (by exact trivial) a w hm
theorem ref3_PageAt_ok {F:Nat} {a0:S_ImposeLayout} {a1:List S_FoldPage} {a2:Bool} {a3:Int} {a4:Int} {r:Int×Int×Int} (h:ref3_PageAt F a0 a1 a2 a3 a4=some r):ACall Try.prog 40 [.agg (cS_ImposeLayout a0),.d (.sl 4 (a1.map cS_FoldPage)),.d (.v (.bool a2)),.d (.v (.int .i64 a3)),.d (.v (.int .i64 a4))] [] (.tup [.d (.v (.int .i64 r.1)),.d (.v (.int .i64 r.2.1)),.d (.v (.int .i64 r.2.2))]) []:=by
  rw [ref3_PageAt] at h
  refine ACall.intro (N:=171) Try.func40 rfl rfl rfl rfl rfl fun e=>?_
  refine T_reg [] [1,2,3,4,5] [(5,bx_ImposeLayout a0)] [] 4 (by kernel_rfl) (trivial) ?_
  obtain ⟨y1,hy1,h⟩:=call_ok h
  refine T_reg [(1,{ res:=.tup [dI y1.1,dI y1.2] })] [1,2,3,4,5,13,14] [(13,dI y1.1),(14,dI y1.2)] [(1,ACall Try.prog 25 [.agg (cS_ImposeLayout a0)] [] (.tup [dI y1.1,dI y1.2]) [])] 5 (by kernel_rfl) (ref3_leafSize_ok hy1) ?_
  refine T_draw mixed [] [1,2,3,4,5,13,14] [] [(1,.d (.sl 4 (a1.map cS_FoldPage))),(2,dB a2),(3,dI (IntKind.i64.wrap (a3 - a0.f6))),(4,dI (IntKind.i64.wrap (a4 - a0.f6))),(5,bx_ImposeLayout a0),(13,dI y1.1),(14,dI y1.2)] [] 10 (by kernel_rfl) (trivial) ?_
  refine T_seqk ?_
  obtain ⟨z8,hz1,h⟩:=lett_ok h
  obtain ⟨z9,hz2,h⟩:=lett_ok h
  obtain ⟨z10,hz3,h⟩:=lett_ok h
  refine T_reg [(5,{ rw:=some (dB z8) }),(14,{ rw:=some (dB z9) }),(23,{ rw:=some (dB z10) })] [1,2,3,4,5,13,14,60] [(60,dB z10)] [(3,((((decide ((IntKind.i64.wrap (a3 - a0.f6)) < (0:Int))) == false) && true)=true→True)),(0,((((decide ((IntKind.i64.wrap (a3 - a0.f6)) < (0:Int))) == false) && true)=true→True)),(0,(True)∧dB (bif (decide ((IntKind.i64.wrap (a3 - a0.f6)) < (0:Int))) then true else (decide ((IntKind.i64.wrap (a4 - a0.f6)) < (0:Int))))=dB z8),(1,(((z8 == false) && true)=true→True)),(0,(((z8 == false) && true)=true→True)),(0,(((z8 == false) && true)=true→True)),(0,(((z8 == false) && true)=true→True)),(0,(((z8 == false) && true)=true→True)),(0,(((z8 == false) && true)=true→True)),(0,(((z8 == false) && true)=true→True)),(0,(True)∧dB (bif z8 then true else (decide ((IntKind.i64.wrap (a3 - a0.f6)) ≥ (IntKind.i64.wrap (a0.f0.f0 * y1.1)))))=dB z9),(1,(((z9 == false) && true)=true→True)),(0,(((z9 == false) && true)=true→True)),(0,(((z9 == false) && true)=true→True)),(0,(((z9 == false) && true)=true→True)),(0,(((z9 == false) && true)=true→True)),(0,(((z9 == false) && true)=true→True)),(0,(((z9 == false) && true)=true→True)),(0,(True)∧dB (bif z9 then true else (decide ((IntKind.i64.wrap (a4 - a0.f6)) ≥ (IntKind.i64.wrap (a0.f0.f1 * y1.2)))))=dB z10)] 0 (by kernel_rfl) (⟨(fun hg=>trivial),(fun hg=>trivial),⟨trivial,(by subst hz1; rfl)⟩,(fun hg=>trivial),(fun hg=>trivial),(fun hg=>trivial),(fun hg=>trivial),(fun hg=>trivial),(fun hg=>trivial),(fun hg=>trivial),⟨trivial,(by subst hz2; rfl)⟩,(fun hg=>trivial),(fun hg=>trivial),(fun hg=>trivial),(fun hg=>trivial),(fun hg=>trivial),(fun hg=>trivial),(fun hg=>trivial),⟨trivial,(by subst hz3; rfl)⟩⟩) ?_
  refine T_cond z10 (by kernel_rfl) (fun hc=>?_) (fun hc=>?_)
  · have h:=cond_tt hc h
    refine T_reg [] [10,11,12] [(10,dI (0:Int)),(11,dI (0:Int)),(12,dI (0:Int))] [] 3 (by kernel_rfl) (trivial) ?_
    obtain hs:=Option.some.inj h; subst hs
    refine T_ret fun a w hm=>then_ret (T_return (fr':=[(10,dI (0:Int)),(11,dI (0:Int)),(12,dI (0:Int))]) [10,11,12] (by kernel_rfl) [.keep [10,11,12]] (by kernel_rfl) (by kernel_rfl) (by kernel_rfl) (by show _=_; kernel_rfl) (by exact trivial) a w hm)
  · have h:=cond_ff hc h
    refine T_skip fun a w hm=>then_norm (((?_:T Try.prog e 171 _ _ _) a w hm))
    refine T_seqk ?_
    refine T_reg [(1,{ rw:=some (dI (a1.length:Int)) })] [1,2,3,4,5,13,14,61,62,63] [(61,.d (.sl 4 (a1.map cS_FoldPage))),(62,dI (a1.length:Int)),(63,dI (0:Int))] [(1,True∧dI ((a1.map cS_FoldPage).length:Int)=dI (a1.length:Int))] 1 (by kernel_rfl) (len_ok cS_FoldPage) ?_
    refine T_joinEt h (fun (p:Unit)=>[]) (fun s h hk1=>?_) (fun s h=>?_)
    · refine T_co [.keep [1,2,3,4,5,13,14,61,62,63]] ((fun (p:Int)=>[(1,.d (.sl 4 (a1.map cS_FoldPage))),(2,dB a2),(3,dI (IntKind.i64.wrap (a3 - a0.f6))),(4,dI (IntKind.i64.wrap (a4 - a0.f6))),(5,bx_ImposeLayout a0),(13,dI y1.1),(14,dI y1.2),(61,.d (.sl 4 (a1.map cS_FoldPage))),(62,dI (a1.length:Int)),(63,dI p)]) (0:Int)) (by show _=_; kernel_rfl) ?_
      refine T_block ?_
      refine T_loopF (ι:=Int) (fun (p:Int)=>[(1,.d (.sl 4 (a1.map cS_FoldPage))),(2,dB a2),(3,dI (IntKind.i64.wrap (a3 - a0.f6))),(4,dI (IntKind.i64.wrap (a4 - a0.f6))),(5,bx_ImposeLayout a0),(13,dI y1.1),(14,dI y1.2),(61,.d (.sl 4 (a1.map cS_FoldPage))),(62,dI (a1.length:Int)),(63,dI p)]) (fun n p=>ref3_PageAt_L0 F a0 a1 a2 a3 a4 y1 n p=some s) (fun i hh=>by simp [ref3_PageAt_L0] at hh) (fun n v1 h=>?_) F (0:Int) h
      have h:ref3_PageAt_L0 F a0 a1 a2 a3 a4 y1 (n+1) v1=some s:=h
      rw [ref3_PageAt_L0] at h
      refine T_reg [] [1,2,3,4,5,13,14,61,62,63,64] [(64,dB (decide (v1 < (a1.length:Int))))] [] 1 (by kernel_rfl) (trivial) ?_
      refine T_seqk ?_
      refine T_cond (decide (v1 < (a1.length:Int))) (by kernel_rfl) (fun hc=>?_) (fun hc=>?_)
      · have h:=cond_tt hc h
        refine T_skip fun a w hm=>then_norm (((?_:T Try.prog e 171 _ _ _) a w hm))
        refine T_joinE h (fun (p:Unit)=>[(1,.d (.sl 4 (a1.map cS_FoldPage))),(2,dB a2),(3,dI (IntKind.i64.wrap (a3 - a0.f6))),(4,dI (IntKind.i64.wrap (a4 - a0.f6))),(5,bx_ImposeLayout a0),(13,dI y1.1),(14,dI y1.2),(61,.d (.sl 4 (a1.map cS_FoldPage))),(62,dI (a1.length:Int)),(63,dI v1)]) (fun s h hk2=>?_) (fun s h=>?_)
        · refine T_block ?_
          obtain ⟨hp1,h⟩:=chk_ok h
          refine T_reg [(1,{ cs:=cS_FoldPage (a1.getD v1.toNat z_FoldPage) })] [1,2,3,4,5,13,14,15,16,61,62,63] [(15,dI v1),(16,.box [dB ((a1.getD v1.toNat z_FoldPage).f0),dI ((a1.getD v1.toNat z_FoldPage).f1),dI ((a1.getD v1.toNat z_FoldPage).f2),dI ((a1.getD v1.toNat z_FoldPage).f3)])] [(1,0≤v1∧(a1.map cS_FoldPage)[v1.toNat]? = some (cS_FoldPage (a1.getD v1.toNat z_FoldPage)))] 4 (by kernel_rfl) (idx_ok (d:=z_FoldPage) cS_FoldPage hp1) ?_
          refine T_seqk ?_
          obtain ⟨hp2,h⟩:=chk_ok h
          obtain ⟨z1,hz4,h⟩:=lett_ok h
          obtain ⟨hp3,h⟩:=chk_ok h
          obtain ⟨z2,hz5,h⟩:=lett_ok h
          obtain ⟨z3,hz6,h⟩:=lett_ok h
          refine T_draw mixed [(10,{ rw:=some (dB z1) }),(18,{ rw:=some (dB z2) }),(19,{ rw:=some (dB z3) })] [1,2,3,4,5,13,14,15,16,61,62,63,87] [] [(1,.d (.sl 4 (a1.map cS_FoldPage))),(2,dB a2),(3,dI (IntKind.i64.wrap (a3 - a0.f6))),(4,dI (IntKind.i64.wrap (a4 - a0.f6))),(5,bx_ImposeLayout a0),(13,dI y1.1),(14,dI y1.2),(15,dI v1),(16,.box [dB ((a1.getD v1.toNat z_FoldPage).f0),dI ((a1.getD v1.toNat z_FoldPage).f1),dI ((a1.getD v1.toNat z_FoldPage).f2),dI ((a1.getD v1.toNat z_FoldPage).f3)]),(61,.d (.sl 4 (a1.map cS_FoldPage))),(62,dI (a1.length:Int)),(63,dI v1),(87,dB z3)] [(5,((((!(((a1.getD v1.toNat z_FoldPage).f0) == a2)) == false) && true)=true→True)),(0,((((!(((a1.getD v1.toNat z_FoldPage).f0) == a2)) == false) && true)=true→True)),(0,((((!(((a1.getD v1.toNat z_FoldPage).f0) == a2)) == false) && true)=true→True)),(0,((((!(((a1.getD v1.toNat z_FoldPage).f0) == a2)) == false) && true)=true→True)),(0,((((!(((a1.getD v1.toNat z_FoldPage).f0) == a2)) == false) && true)=true→y1.1≠0)),(0,((((!(((a1.getD v1.toNat z_FoldPage).f0) == a2)) == false) && true)=true→(True)∧dB (((a1.getD v1.toNat z_FoldPage).f1) != (IntKind.i64.wrap ((IntKind.i64.wrap (a3 - a0.f6)).tdiv y1.1)))=dB z1)),(2,((((bif (!(((a1.getD v1.toNat z_FoldPage).f0) == a2)) then true else z1) == false) && true)=true→True)),(0,((((bif (!(((a1.getD v1.toNat z_FoldPage).f0) == a2)) then true else z1) == false) && true)=true→True)),(0,((((bif (!(((a1.getD v1.toNat z_FoldPage).f0) == a2)) then true else z1) == false) && true)=true→True)),(0,((((bif (!(((a1.getD v1.toNat z_FoldPage).f0) == a2)) then true else z1) == false) && true)=true→True)),(0,((((bif (!(((a1.getD v1.toNat z_FoldPage).f0) == a2)) then true else z1) == false) && true)=true→y1.2≠0)),(0,((((bif (!(((a1.getD v1.toNat z_FoldPage).f0) == a2)) then true else z1) == false) && true)=true→(True)∧dB (((a1.getD v1.toNat z_FoldPage).f2) != (IntKind.i64.wrap ((IntKind.i64.wrap (a4 - a0.f6)).tdiv y1.2)))=dB z2)),(0,(True)∧dB (bif (bif (!(((a1.getD v1.toNat z_FoldPage).f0) == a2)) then true else z1) then true else z2)=dB z3)] 0 (by kernel_rfl) (⟨(fun hg=>trivial),(fun hg=>trivial),(fun hg=>trivial),(fun hg=>trivial),(fun hg=>(hp2 hg)),(fun hg=>⟨trivial,(by subst hz4; rfl)⟩),(fun hg=>trivial),(fun hg=>trivial),(fun hg=>trivial),(fun hg=>trivial),(fun hg=>(hp3 hg)),(fun hg=>⟨trivial,(by subst hz5; rfl)⟩),⟨trivial,(by subst hz6; rfl)⟩⟩) ?_
          refine T_cond z3 (by kernel_rfl) (fun hc=>?_) (fun hc=>?_)
          · have h:=cond_tt hc h
            obtain hs:=Option.some.inj h; subst hs
            refine T_exit fun a w hm=>then_exit (inBlock_exit (then_norm (⟨_,rfl,hm.co (cs:=[.keep [1,2,3,4,5,13,14,61,62,63]]) (by show _=_; kernel_rfl)⟩)))
          · have h:=cond_ff hc h
            refine T_skip fun a w hm=>then_norm (((?_:T Try.prog e 171 _ _ _) a w hm))
            obtain ⟨hp4,h⟩:=chk_ok h
            obtain ⟨hp5,h⟩:=chk_ok h
            refine T_draw mixed [] [1,5,15,16,17,18,19,20] [] [(1,.d (.sl 4 (a1.map cS_FoldPage))),(5,bx_ImposeLayout a0),(15,dI v1),(16,.box [dB ((a1.getD v1.toNat z_FoldPage).f0),dI ((a1.getD v1.toNat z_FoldPage).f1),dI ((a1.getD v1.toNat z_FoldPage).f2),dI ((a1.getD v1.toNat z_FoldPage).f3)]),(17,dI ((IntKind.i64.wrap (a3 - a0.f6)).tmod y1.1)),(18,dI ((IntKind.i64.wrap (a4 - a0.f6)).tmod y1.2)),(19,dI y1.1),(20,dI y1.2)] [(2,y1.1≠0),(2,y1.2≠0)] 6 (by kernel_rfl) (⟨hp4,hp5⟩) ?_
            refine T_seqk ?_
            refine T_reg [] [1,5,15,17,18,19,20,97,98] [(97,dI ((a1.getD v1.toNat z_FoldPage).f3)),(98,dI (0:Int))] [] 3 (by kernel_rfl) (trivial) ?_
            refine T_joinct h (fun (p:Int×Int×Int)=>[(1,.d (.sl 4 (a1.map cS_FoldPage))),(5,bx_ImposeLayout a0),(15,dI v1),(17,dI p.1),(18,dI p.2.1),(19,dI p.2.2)]) (fun s h=>?_) (fun s h=>?_)
            · refine T_co [.keep [1,5,15,17,18,19,20,97,98]] ((fun (p:Int×Int×Int×Int×Int)=>[(1,.d (.sl 4 (a1.map cS_FoldPage))),(5,bx_ImposeLayout a0),(15,dI v1),(17,dI p.1),(18,dI p.2.1),(19,dI p.2.2.1),(20,dI p.2.2.2.1),(97,dI ((a1.getD v1.toNat z_FoldPage).f3)),(98,dI p.2.2.2.2)]) (((IntKind.i64.wrap (a3 - a0.f6)).tmod y1.1),((IntKind.i64.wrap (a4 - a0.f6)).tmod y1.2),y1.1,y1.2,(0:Int))) (by show _=_; kernel_rfl) ?_
              refine T_block ?_
              refine T_loopF (ι:=Int×Int×Int×Int×Int) (fun (p:Int×Int×Int×Int×Int)=>[(1,.d (.sl 4 (a1.map cS_FoldPage))),(5,bx_ImposeLayout a0),(15,dI v1),(17,dI p.1),(18,dI p.2.1),(19,dI p.2.2.1),(20,dI p.2.2.2.1),(97,dI ((a1.getD v1.toNat z_FoldPage).f3)),(98,dI p.2.2.2.2)]) (fun n p=>ref3_PageAt_L2 F a1 v1 n p.1 p.2.1 p.2.2.1 p.2.2.2.1 p.2.2.2.2=some s) (fun i hh=>by simp [ref3_PageAt_L2] at hh) (fun n p h=>?_) F (((IntKind.i64.wrap (a3 - a0.f6)).tmod y1.1),((IntKind.i64.wrap (a4 - a0.f6)).tmod y1.2),y1.1,y1.2,(0:Int)) h
              obtain ⟨v2,v3,v4,v5,v6⟩:=p
              have h:ref3_PageAt_L2 F a1 v1 (n+1) v2 v3 v4 v5 v6=some s:=h
              rw [ref3_PageAt_L2] at h
              refine T_reg [] [1,5,15,17,18,19,20,97,98,99] [(99,dB (decide (v6 < ((a1.getD v1.toNat z_FoldPage).f3))))] [] 1 (by kernel_rfl) (trivial) ?_
              refine T_seqk ?_
              refine T_cond (decide (v6 < ((a1.getD v1.toNat z_FoldPage).f3))) (by kernel_rfl) (fun hc=>?_) (fun hc=>?_)
              · have h:=cond_tt hc h
                refine T_skip fun a w hm=>then_norm (((?_:T Try.prog e 171 _ _ _) a w hm))
                refine T_seqk ?_
                refine T_block ?_
                refine T_reg [] [1,5,15,17,18,19,20,97,98] [(17,dI v3),(18,dI (IntKind.i64.wrap ((IntKind.i64.wrap (v4 - (1:Int))) - v2)))] [] 7 (by kernel_rfl) (trivial) ?_
                refine T_reg_end [] [1,5,15,17,18,19,20,97,98] [(19,dI v5),(20,dI v4)] [] 4 (by kernel_rfl) (trivial) fun a w hm=>inBlock_norm (then_norm (((?_:T Try.prog e 171 _ _ _) a w hm)))
                refine T_reg_end [] [1,5,15,17,18,19,20,97,98] [(98,dI (IntKind.i64.wrap (v6+(1:Int))))] [] 2 (by kernel_rfl) (trivial) fun a w hm=>then_norm (⟨(v3,IntKind.i64.wrap ((IntKind.i64.wrap (v4 - (1:Int))) - v2),v5,v4,IntKind.i64.wrap (v6+(1:Int))),h,hm.co (cs:=[.keep [1,5,15,17,18,19,20,97,98]]) (by show _=_; kernel_rfl)⟩)
              · have h:=cond_ff hc h
                obtain hs:=Option.some.inj h; subst hs
                refine T_exit fun a w hm=>then_exit (then_exit (inBlock_exit (then_norm (hm.co (cs:=[.keep [1,5,15,17,18,19]]) (by show _=_; kernel_rfl)))))
            · obtain ⟨v7,v8,v9⟩:=s
              try dsimp only at h
              refine fun a w hm=>then_norm (((?_:T Try.prog e 171 _ _ _) a w hm))
              refine T_reg [(1,{ rw:=some (dI (a1.length:Int)) })] [5,15,17,18,19,21] [(21,dI (IntKind.i64.wrap ((a1.length:Int).tdiv (2:Int))))] [(1,True∧dI ((a1.map cS_FoldPage).length:Int)=dI (a1.length:Int)),(0,(2:Int)≠0)] 1 (by kernel_rfl) (⟨len_ok cS_FoldPage,(show (2:Int)≠0 by decide)⟩) ?_
              obtain ⟨z4,hz7,h⟩:=lett_ok h
              obtain ⟨z5,hz8,h⟩:=lett_ok h
              refine T_reg [(10,{ rw:=some (dI z4) }),(11,{ rw:=some (dI z5) })] [5,15,17,18,19,22] [(22,dI (IntKind.i64.wrap (a0.f5 - (IntKind.i64.wrap (a0.f7 * z5)))))] [(5,(2:Int)≠0),(3,(2:Int)≠0),(0,(True)∧dI (IntKind.i64.wrap ((IntKind.i64.wrap ((IntKind.i64.wrap ((a1.length:Int).tdiv (2:Int))) - (1:Int))) - (IntKind.i64.wrap (v1.tdiv (2:Int)))))=dI z4),(0,(True)∧dI (if z4 < (IntKind.i64.wrap (v1.tdiv (2:Int))) then z4 else (IntKind.i64.wrap (v1.tdiv (2:Int))))=dI z5)] 3 (by kernel_rfl) (⟨(show (2:Int)≠0 by decide),(show (2:Int)≠0 by decide),⟨trivial,(by subst hz7; rfl)⟩,⟨trivial,(by subst hz8; rfl)⟩⟩) ?_
              refine T_reg [] [5,15,17,18,19,22,23] [(23,dI (IntKind.i64.wrap (a0.f5 - (IntKind.i64.wrap (a0.f7 * z5)))))] [] 2 (by kernel_rfl) (trivial) ?_
              refine T_joinc h (fun (p:Int)=>[(5,bx_ImposeLayout a0),(15,dI v1),(17,dI v7),(18,dI v8),(23,dI p)]) (fun s h=>?_) (fun v10 h=>?_)
              · refine T_reg [] [5,15,17,18,19,22,23,128] [(128,dB ((v1.tmod (2:Int)) == (1:Int)))] [(1,(2:Int)≠0)] 1 (by kernel_rfl) ((show (2:Int)≠0 by decide)) ?_
                refine T_cond ((v1.tmod (2:Int)) == (1:Int)) (by kernel_rfl) (fun hc=>?_) (fun hc=>?_)
                · have h:=cond_tt hc h
                  obtain ⟨z6,hz9,h⟩:=lett_ok h
                  obtain hs:=Option.some.inj h; subst hs
                  refine T_reg_end [(5,{ rw:=some (dI z6) })] [5,15,17,18,23] [(23,dI z6)] [(5,(True)∧dI (IntKind.i64.wrap ((IntKind.i64.wrap (v9 - (IntKind.i64.wrap (a0.f5 - (IntKind.i64.wrap (a0.f7 * z5)))))) - a0.f1))=dI z6)] 1 (by kernel_rfl) (⟨trivial,(by subst hz9; rfl)⟩) fun a w hm=>then_norm (hm.co (cs:=[.keep [5,15,17,18,23]]) (by show _=_; kernel_rfl))
                · have h:=cond_ff hc h
                  obtain hs:=Option.some.inj h; subst hs
                  refine T_skip fun a w hm=>then_norm (hm.co (cs:=[.keep [5,15,17,18,23]]) (by show _=_; kernel_rfl))
              · skip
                refine T_seqk ?_
                obtain ⟨z7,hz10,h⟩:=lett_ok h
                refine T_reg [(16,{ rw:=some (dB z7) })] [5,15,17,18,23,160] [(160,dB (bif z7 then true else (decide (v8 ≥ (IntKind.i64.wrap (a0.f3+a0.f2))))))] [(4,((((decide (v7 < v10)) == false) && true)=true→True)),(0,((((decide (v7 < v10)) == false) && true)=true→True)),(0,((((decide (v7 < v10)) == false) && true)=true→True)),(0,((((decide (v7 < v10)) == false) && true)=true→True)),(0,((((decide (v7 < v10)) == false) && true)=true→True)),(0,((((decide (v7 < v10)) == false) && true)=true→True)),(2,((((bif (decide (v7 < v10)) then true else (decide (v7 ≥ (IntKind.i64.wrap (v10+a0.f1))))) == false) && true)=true→True)),(0,((((bif (decide (v7 < v10)) then true else (decide (v7 ≥ (IntKind.i64.wrap (v10+a0.f1))))) == false) && true)=true→True)),(0,((((bif (decide (v7 < v10)) then true else (decide (v7 ≥ (IntKind.i64.wrap (v10+a0.f1))))) == false) && true)=true→True)),(0,((((bif (decide (v7 < v10)) then true else (decide (v7 ≥ (IntKind.i64.wrap (v10+a0.f1))))) == false) && true)=true→True)),(0,(True)∧dB (bif (bif (decide (v7 < v10)) then true else (decide (v7 ≥ (IntKind.i64.wrap (v10+a0.f1))))) then true else (decide (v8 < a0.f3)))=dB z7),(1,(((z7 == false) && true)=true→True)),(0,(((z7 == false) && true)=true→True)),(0,(((z7 == false) && true)=true→True)),(0,(((z7 == false) && true)=true→True)),(0,(((z7 == false) && true)=true→True)),(0,(((z7 == false) && true)=true→True)),(0,(((z7 == false) && true)=true→True))] 1 (by kernel_rfl) (⟨(fun hg=>trivial),(fun hg=>trivial),(fun hg=>trivial),(fun hg=>trivial),(fun hg=>trivial),(fun hg=>trivial),(fun hg=>trivial),(fun hg=>trivial),(fun hg=>trivial),(fun hg=>trivial),⟨trivial,(by subst hz10; rfl)⟩,(fun hg=>trivial),(fun hg=>trivial),(fun hg=>trivial),(fun hg=>trivial),(fun hg=>trivial),(fun hg=>trivial),(fun hg=>trivial)⟩) ?_
                refine T_cond (bif z7 then true else (decide (v8 ≥ (IntKind.i64.wrap (a0.f3+a0.f2))))) (by kernel_rfl) (fun hc=>?_) (fun hc=>?_)
                · have h:=cond_tt hc h
                  refine T_reg [] [10,11,12] [(10,dI (0:Int)),(11,dI (0:Int)),(12,dI (0:Int))] [] 3 (by kernel_rfl) (trivial) ?_
                  obtain hs:=Option.some.inj h; subst hs
                  have h:=callE_esc hk2
                  obtain hs:=Option.some.inj h; subst hs
                  have h:=callE_esc hk1
                  obtain hs:=Option.some.inj h; subst hs
                  refine T_ret fun a w hm=>then_ret (inBlock_ret (then_ret (then_ret (inBlock_ret (then_ret (then_ret (T_return (fr':=[(10,dI (0:Int)),(11,dI (0:Int)),(12,dI (0:Int))]) [10,11,12] (by kernel_rfl) [.keep [10,11,12]] (by kernel_rfl) (by kernel_rfl) (by kernel_rfl) (by show _=_; kernel_rfl) (by exact trivial) a w hm)))))))
                · have h:=cond_ff hc h
                  refine T_skip fun a w hm=>then_norm (((?_:T Try.prog e 171 _ _ _) a w hm))
                  refine T_draw mixed [] [10,11,12] [] [(10,dI (IntKind.i64.wrap (v1+(1:Int)))),(11,dI (IntKind.i64.wrap (v7 - v10))),(12,dI (IntKind.i64.wrap (v8 - a0.f3)))] [] 12 (by kernel_rfl) (trivial) ?_
                  obtain hs:=Option.some.inj h; subst hs
                  have h:=callE_esc hk2
                  obtain hs:=Option.some.inj h; subst hs
                  have h:=callE_esc hk1
                  obtain hs:=Option.some.inj h; subst hs
                  refine T_ret fun a w hm=>inBlock_ret (then_ret (then_ret (inBlock_ret (then_ret (then_ret (T_return (fr':=[(10,dI (IntKind.i64.wrap (v1+(1:Int)))),(11,dI (IntKind.i64.wrap (v7 - v10))),(12,dI (IntKind.i64.wrap (v8 - a0.f3)))]) [10,11,12] (by kernel_rfl) [.keep [10,11,12]] (by kernel_rfl) (by kernel_rfl) (by kernel_rfl) (by show _=_; kernel_rfl) (by exact trivial) a w hm))))))
        · skip
          refine T_reg_end [] [1,2,3,4,5,13,14,61,62,63] [(63,dI (IntKind.i64.wrap (v1+(1:Int))))] [] 2 (by kernel_rfl) (trivial) fun a w hm=>then_norm (⟨IntKind.i64.wrap (v1+(1:Int)),h,hm.co (cs:=[.keep [1,2,3,4,5,13,14,61,62,63]]) (by show _=_; kernel_rfl)⟩)
      · have h:=cond_ff hc h
        obtain hs:=Option.some.inj h; subst hs
        refine T_exit fun a w hm=>then_exit (then_exit (inBlock_exit (then_norm (⟨_,rfl,hm.co (cs:=[.keep []]) (by show _=_; kernel_rfl)⟩))))
    · skip
      refine fun a w hm=>then_norm (((?_:T Try.prog e 171 _ _ _) a w hm))
      refine T_reg [] [10,11,12] [(10,dI (0:Int)),(11,dI (0:Int)),(12,dI (0:Int))] [] 3 (by kernel_rfl) (trivial) ?_
      obtain hs:=Option.some.inj h; subst hs
      refine T_ret fun a w hm=>T_return (fr':=[(10,dI (0:Int)),(11,dI (0:Int)),(12,dI (0:Int))]) [10,11,12] (by kernel_rfl) [.keep [10,11,12]] (by kernel_rfl) (by kernel_rfl) (by kernel_rfl) (by show _=_; kernel_rfl) (by exact trivial) a w hm
theorem ref3_PixelAt_ok {F:Nat} {a0:S_ImposeLayout} {a1:List S_FoldPage} {a2:Bool} {a3:Int} {a4:Int} {r:Int×Int×Int} (h:ref3_PixelAt F a0 a1 a2 a3 a4=some r):ACall Try.prog 19 [.agg (cS_ImposeLayout a0),.d (.sl 4 (a1.map cS_FoldPage)),.d (.v (.bool a2)),.d (.v (.int .i64 a3)),.d (.v (.int .i64 a4))] [] (.tup [.d (.v (.int .i64 r.1)),.d (.v (.int .i64 r.2.1)),.d (.v (.int .i64 r.2.2))]) []:=by
  rw [ref3_PixelAt] at h
  refine ACall.intro (N:=77) Try.func19 rfl rfl rfl rfl rfl fun e=>?_
  refine T_reg [] [1,2,3,4,5] [(5,bx_ImposeLayout a0)] [] 4 (by kernel_rfl) (trivial) ?_
  obtain ⟨y1,hy1,h⟩:=call_ok h
  refine T_reg [(1,{ res:=.tup [dI y1.1,dI y1.2] })] [1,2,3,4,5,13,14] [(13,dI y1.1),(14,dI y1.2)] [(1,ACall Try.prog 11 [.agg (cS_ImposeLayout a0)] [] (.tup [dI y1.1,dI y1.2]) [])] 5 (by kernel_rfl) (ref3_SingleSize_ok hy1) ?_
  refine T_seqk ?_
  refine T_block ?_
  refine T_reg [] [1,2,3,4,5,13,14,20] [(20,dB (a0.f8 == (0:Int)))] [] 4 (by kernel_rfl) (trivial) ?_
  refine T_cond (a0.f8 == (0:Int)) (by kernel_rfl) (fun hc=>?_) (fun hc=>?_)
  · have h:=cond_tt hc h
    obtain ⟨y2,hy2,h⟩:=call_ok h
    refine T_reg [(5,{ res:=.tup [dI y2.1,dI y2.2.1,dI y2.2.2] })] [10,11,12] [(10,dI y2.1),(11,dI y2.2.1),(12,dI y2.2.2)] [(5,ACall Try.prog 40 [.agg (cS_ImposeLayout a0),.d (.sl 4 (a1.map cS_FoldPage)),dB a2,dI a3,dI a4] [] (.tup [dI y2.1,dI y2.2.1,dI y2.2.2]) [])] 6 (by kernel_rfl) (ref3_PageAt_ok hy2) ?_
    obtain hs:=Option.some.inj h; subst hs
    refine T_ret fun a w hm=>inBlock_ret (then_ret (T_return (fr':=[(10,dI y2.1),(11,dI y2.2.1),(12,dI y2.2.2)]) [10,11,12] (by kernel_rfl) [.keep [10,11,12]] (by kernel_rfl) (by kernel_rfl) (by kernel_rfl) (by show _=_; kernel_rfl) (by exact trivial) a w hm))
  · have h:=cond_ff hc h
    refine T_reg [] [1,3,4,5,13,14,33] [(33,dB (a0.f8 == (1:Int)))] [] 4 (by kernel_rfl) (trivial) ?_
    refine T_cond (a0.f8 == (1:Int)) (by kernel_rfl) (fun hc=>?_) (fun hc=>?_)
    · have h:=cond_tt hc h
      obtain ⟨hp1,h⟩:=chk_ok h
      obtain ⟨y3,hy3,h⟩:=call_ok h
      refine T_drawX mixed 6 (.take 1 (.take 2 (.take 3 (.take 4 (.take 5 (.take 6 (.take 7 (.take 8 (.all (.alt 0 (.all (.alt 9 (.all (.alt 10 (.all (.alt 11 (.all (.alt 12 (.take 13 (.take 14 (.take 15 .done))) .stop)) (.alt 12 (.all (.alt 11 (.take 13 (.take 14 (.take 15 .done))) .stop)) .stop))) (.alt 11 (.all (.alt 10 (.all (.alt 12 (.take 13 (.take 14 (.take 15 .done))) .stop)) (.alt 12 (.all (.alt 10 (.take 13 (.take 14 (.take 15 .done))) .stop)) .stop))) (.alt 12 (.all (.alt 10 (.all (.alt 11 (.take 13 (.take 14 (.take 15 .done))) .stop)) (.alt 11 (.all (.alt 10 (.take 13 (.take 14 (.take 15 .done))) .stop)) .stop))) .stop)))) .stop)) .stop)))))))))) ([0,0,0,0,12,0,0,96,0,403,512,512,512,8191,16383,32767],[0,0,0,0,12,0,0,96,0,403,512,512,512,1024,2048,4096]) 57854 [(9,{ res:=.tup [dI y3.1,dI y3.2.1,dI y3.2.2] })] [10,11,12] [] [(10,dI y3.1),(11,dI y3.2.1),(12,dI y3.2.2)] ((fun (o7:Prop)=>fun (o9:Prop)=>[(6,o7),(2,o9)]) (y1.1≠0) (ACall Try.prog 40 [.agg (cS_ImposeLayout a0),.d (.sl 4 (a1.map cS_FoldPage)),dB (decide (a3 ≥ y1.1)),dI (a3.tmod y1.1),dI a4] [] (.tup [dI y3.1,dI y3.2.1,dI y3.2.2]) [])) 33 (by kernel_rfl) (by kernel_rfl) (by kernel_rfl) (have p7:=hp1; have p9:=ref3_PageAt_ok hy3; ⟨p7,p9⟩) ?_
      obtain hs:=Option.some.inj h; subst hs
      refine T_ret fun a w hm=>inBlock_ret (then_ret (T_return (fr':=[(10,dI y3.1),(11,dI y3.2.1),(12,dI y3.2.2)]) [10,11,12] (by kernel_rfl) [.keep [10,11,12]] (by kernel_rfl) (by kernel_rfl) (by kernel_rfl) (by show _=_; kernel_rfl) (by exact trivial) a w hm))
    · have h:=cond_ff hc h
      refine T_reg [] [1,3,4,5,13,14,50] [(50,dB (decide (a4 ≥ y1.2)))] [] 4 (by kernel_rfl) (trivial) ?_
      refine T_cond (decide (a4 ≥ y1.2)) (by kernel_rfl) (fun hc=>?_) (fun hc=>?_)
      · have h:=cond_tt hc h
        obtain ⟨y4,hy4,h⟩:=call_ok h
        refine T_reg [(11,{ res:=.tup [dI y4.1,dI y4.2.1,dI y4.2.2] })] [10,11,12] [(10,dI y4.1),(11,dI y4.2.1),(12,dI y4.2.2)] [(11,ACall Try.prog 40 [.agg (cS_ImposeLayout a0),.d (.sl 4 (a1.map cS_FoldPage)),dB true,dI (IntKind.i64.wrap ((IntKind.i64.wrap (y1.1 - (1:Int))) - a3)),dI (IntKind.i64.wrap ((IntKind.i64.wrap ((IntKind.i64.wrap ((2:Int) * y1.2)) - (1:Int))) - a4))] [] (.tup [dI y4.1,dI y4.2.1,dI y4.2.2]) [])] 6 (by kernel_rfl) (ref3_PageAt_ok hy4) ?_
        obtain hs:=Option.some.inj h; subst hs
        refine T_ret fun a w hm=>inBlock_ret (then_ret (T_return (fr':=[(10,dI y4.1),(11,dI y4.2.1),(12,dI y4.2.2)]) [10,11,12] (by kernel_rfl) [.keep [10,11,12]] (by kernel_rfl) (by kernel_rfl) (by kernel_rfl) (by show _=_; kernel_rfl) (by exact trivial) a w hm))
      · have h:=cond_ff hc h
        refine T_skip fun a w hm=>inBlock_norm (then_norm (((?_:T Try.prog e 77 _ _ _) a w hm)))
        obtain ⟨y5,hy5,h⟩:=call_ok h
        refine T_reg [(4,{ res:=.tup [dI y5.1,dI y5.2.1,dI y5.2.2] })] [10,11,12] [(10,dI y5.1),(11,dI y5.2.1),(12,dI y5.2.2)] [(4,ACall Try.prog 40 [.agg (cS_ImposeLayout a0),.d (.sl 4 (a1.map cS_FoldPage)),dB false,dI a3,dI a4] [] (.tup [dI y5.1,dI y5.2.1,dI y5.2.2]) [])] 6 (by kernel_rfl) (ref3_PageAt_ok hy5) ?_
        obtain hs:=Option.some.inj h; subst hs
        refine T_ret fun a w hm=>T_return (fr':=[(10,dI y5.1),(11,dI y5.2.1),(12,dI y5.2.2)]) [10,11,12] (by kernel_rfl) [.keep [10,11,12]] (by kernel_rfl) (by kernel_rfl) (by kernel_rfl) (by show _=_; kernel_rfl) (by exact trivial) a w hm
theorem law3_ImposePlateMatchesReference_ok {F:Nat} {a0:S_ImposeLayout} {a1:Int} {a2:Bool} {r:Bool} (h:law3_ImposePlateMatchesReference F a0 a1 a2=some r):ACall Try.prog 5 [.agg (cS_ImposeLayout a0),.d (.v (.int .i64 a1)),.d (.v (.bool a2))] [] (.d (.v (.bool r))) []:=by
  rw [law3_ImposePlateMatchesReference] at h
  refine ACall.intro (N:=134) Try.func5 rfl rfl rfl rfl rfl fun e=>?_
  refine T_reg [] [1,2,3] [(3,bx_ImposeLayout a0)] [] 2 (by kernel_rfl) (trivial) ?_
  refine T_seqk ?_
  obtain ⟨y9,hy1,h⟩:=call_ok h
  refine T_reg [(0,{ res:=dB y9 })] [1,2,3,22] [(22,dB (!y9))] [(0,ACall Try.prog 12 [] [] (dB y9) [])] 1 (by kernel_rfl) (law3_imposeFact_ok hy1) ?_
  refine T_cond (!y9) (by kernel_rfl) (fun hc=>?_) (fun hc=>?_)
  · have h:=cond_tt hc h
    refine T_reg [] [6] [(6,dB false)] [] 1 (by kernel_rfl) (trivial) ?_
    obtain hs:=Option.some.inj h; subst hs
    refine T_ret fun a w hm=>then_ret (T_return (fr':=[(6,dB false)]) [6] (by kernel_rfl) [.keep [6]] (by kernel_rfl) (by kernel_rfl) (by kernel_rfl) (by show _=_; kernel_rfl) (by exact trivial) a w hm)
  · have h:=cond_ff hc h
    refine T_skip fun a w hm=>then_norm (((?_:T Try.prog e 134 _ _ _) a w hm))
    obtain ⟨y1,hy2,h⟩:=call_ok h
    refine T_reg [(1,{ res:=.agg (cS_ImposeLayout y1) })] [1,2,3] [(3,bx_ImposeLayout y1)] [(1,ACall Try.prog 13 [.agg (cS_ImposeLayout a0)] [] (.agg (cS_ImposeLayout y1)) [])] 1 (by kernel_rfl) (law3_tiny_ok hy2) ?_
    refine T_seqk ?_
    obtain ⟨y10,hy3,h⟩:=call_ok h
    refine T_reg [(1,{ res:=dI y10 })] [1,2,3,27] [(27,dB (y10 != (0:Int)))] [(1,ACall Try.prog 10 [.agg (cS_ImposeLayout y1)] [] (dI y10) [])] 1 (by kernel_rfl) (ref3_LayoutError_ok hy3) ?_
    refine T_cond (y10 != (0:Int)) (by kernel_rfl) (fun hc=>?_) (fun hc=>?_)
    · have h:=cond_tt hc h
      refine T_reg [] [6] [(6,dB true)] [] 1 (by kernel_rfl) (trivial) ?_
      obtain hs:=Option.some.inj h; subst hs
      refine T_ret fun a w hm=>then_ret (T_return (fr':=[(6,dB true)]) [6] (by kernel_rfl) [.keep [6]] (by kernel_rfl) (by kernel_rfl) (by kernel_rfl) (by show _=_; kernel_rfl) (by exact trivial) a w hm)
    · have h:=cond_ff hc h
      refine T_skip fun a w hm=>then_norm (((?_:T Try.prog e 134 _ _ _) a w hm))
      obtain ⟨y3,hy4,h⟩:=call_ok h
      refine T_reg [(2,{ res:=.tup [oW4 y3.1,dI y3.2] })] [1,2,3,7] [(7,oW4 y3.1)] [(2,ACall Try.prog 14 [.agg (cS_FoldScheme y1.f0)] [] (.tup [oW4 y3.1,dI y3.2]) [])] 5 (by kernel_rfl) (ref3_Read_ok hy4) ?_
      obtain ⟨hp1,h⟩:=chk_ok h
      obtain ⟨z1,hz1,h⟩:=lett_ok h
      refine T_reg [(3,{ rw:=some (dI (y3.1.length:Int)) }),(6,{ rw:=some (.d (.v (.int .u64 z1))) })] [1,2,3,7] [(1,dI (IntKind.i64.wrap z1))] [(3,True∧dI ((y3.1.map cS_FoldPage).length:Int)=dI (y3.1.length:Int)),(2,((IntKind.u64.wrap (IntKind.i64.wrap ((y3.1.length:Int)+(1:Int))))≠0)∧AV.d (.v (.int .u64 ((IntKind.u64.wrap a1).tmod (IntKind.u64.wrap (IntKind.i64.wrap ((y3.1.length:Int)+(1:Int)))))))=.d (.v (.int .u64 z1)))] 2 (by kernel_rfl) (⟨len_ok cS_FoldPage,⟨hp1,(by subst hz1; rfl)⟩⟩) ?_
      refine T_reg [] [1,2,3,7,9] [(9,oW10 [])] [] 1 (by kernel_rfl) (trivial) ?_
      refine T_seqk ?_
      refine T_reg [] [1,2,3,7,9,42,43] [(42,dI (IntKind.i64.wrap z1)),(43,dI (0:Int))] [] 2 (by kernel_rfl) (trivial) ?_
      refine T_joinct h (fun (p:(List S_Plate))=>[(1,dI (IntKind.i64.wrap z1)),(2,dB a2),(3,bx_ImposeLayout y1),(7,oW4 y3.1),(9,oW10 p)]) (fun s h=>?_) (fun v3 h=>?_)
      · refine T_co [.keep [1,2,3,7,9,42,43]] ((fun (p:(List S_Plate)×Int)=>[(1,dI (IntKind.i64.wrap z1)),(2,dB a2),(3,bx_ImposeLayout y1),(7,oW4 y3.1),(9,oW10 p.1),(42,dI (IntKind.i64.wrap z1)),(43,dI p.2)]) ([],(0:Int))) (by show _=_; kernel_rfl) ?_
        refine T_block ?_
        refine T_loopF (ι:=(List S_Plate)×Int) (fun (p:(List S_Plate)×Int)=>[(1,dI (IntKind.i64.wrap z1)),(2,dB a2),(3,bx_ImposeLayout y1),(7,oW4 y3.1),(9,oW10 p.1),(42,dI (IntKind.i64.wrap z1)),(43,dI p.2)]) (fun n p=>law3_ImposePlateMatchesReference_L0 F y1 z1 n p.1 p.2=some s) (fun i hh=>by simp [law3_ImposePlateMatchesReference_L0] at hh) (fun n p h=>?_) F ([],(0:Int)) h
        obtain ⟨v1,v2⟩:=p
        have h:law3_ImposePlateMatchesReference_L0 F y1 z1 (n+1) v1 v2=some s:=h
        rw [law3_ImposePlateMatchesReference_L0] at h
        refine T_reg [] [1,2,3,7,9,42,43,44] [(44,dB (decide (v2 < (IntKind.i64.wrap z1))))] [] 1 (by kernel_rfl) (trivial) ?_
        refine T_seqk ?_
        refine T_cond (decide (v2 < (IntKind.i64.wrap z1))) (by kernel_rfl) (fun hc=>?_) (fun hc=>?_)
        · have h:=cond_tt hc h
          refine T_skip fun a w hm=>then_norm (((?_:T Try.prog e 134 _ _ _) a w hm))
          refine T_seqk ?_
          refine T_block ?_
          refine T_reg [] [1,2,3,7,9,10,42,43] [(10,dI v2)] [] 2 (by kernel_rfl) (trivial) ?_
          obtain ⟨y2,hy5,h⟩:=call_ok h
          obtain ⟨hp2,h⟩:=chk_ok h
          refine T_reg_end [(8,{ res:=.agg (cS_Plate y2) }),(9,{ es:=some (([y2]).map cS_Plate) }),(10,{ es:=some ((v1++([y2])).map cS_Plate) })] [1,2,3,7,9,42,43] [(9,.own 24 3 ((v1++([y2])).map cS_Plate))] [(8,ACall Try.prog 7 [dI y1.f1,dI y1.f2,dI (IntKind.i64.wrap ((IntKind.i64.wrap ((31:Int) * v2))+(1:Int)))] [] (.agg (cS_Plate y2)) []),(0,(([y2]).map cS_Plate)=(([y2]).map cS_Plate)),(0,(v1.map cS_Plate).length+(([y2]).map cS_Plate).length≤4294967296∧(v1.map cS_Plate)++(([y2]).map cS_Plate)=((v1++([y2])).map cS_Plate))] 1 (by kernel_rfl) (⟨law3_dots_ok hy5,rfl,app_ok cS_Plate hp2⟩) fun a w hm=>inBlock_norm (then_norm (((?_:T Try.prog e 134 _ _ _) a w hm)))
          refine T_reg_end [] [1,2,3,7,9,42,43] [(43,dI (IntKind.i64.wrap (v2+(1:Int))))] [] 2 (by kernel_rfl) (trivial) fun a w hm=>then_norm (⟨((v1++([y2])),IntKind.i64.wrap (v2+(1:Int))),h,hm.co (cs:=[.keep [1,2,3,7,9,42,43]]) (by show _=_; kernel_rfl)⟩)
        · have h:=cond_ff hc h
          obtain hs:=Option.some.inj h; subst hs
          refine T_exit fun a w hm=>then_exit (then_exit (inBlock_exit (then_norm (hm.co (cs:=[.keep [1,2,3,7,9]]) (by show _=_; kernel_rfl)))))
      · skip
        refine fun a w hm=>then_norm (((?_:T Try.prog e 134 _ _ _) a w hm))
        obtain ⟨y4,hy6,h⟩:=call_ok h
        refine T_reg [(3,{ frz:=[(9,0)],res:=.tup [.agg (cS_Plate y4.1),dI y4.2] })] [1,2,3,7,9,11,12] [(9,.fz 3 (v3.map cS_Plate)),(11,bx_Plate y4.1),(12,dI y4.2)] [(3,ACall Try.prog 17 [.agg (cS_ImposeLayout y1),.d (.sl 3 (v3.map cS_Plate)),dB a2,dB false] [] (.tup [.agg (cS_Plate y4.1),dI y4.2]) [])] 6 (by kernel_rfl) (impose_Plate_ok hy6) ?_
        obtain ⟨y5,hy7,h⟩:=call_ok h
        refine T_reg [(1,{ res:=.tup [dI y5.1,dI y5.2] })] [1,2,3,7,9,11,12,13,14] [(13,dI y5.1),(14,dI y5.2)] [(1,ACall Try.prog 18 [.agg (cS_ImposeLayout y1)] [] (.tup [dI y5.1,dI y5.2]) [])] 5 (by kernel_rfl) (ref3_PlateSize_ok hy7) ?_
        refine T_seqk ?_
        obtain ⟨z2,hz2,h⟩:=lett_ok h
        refine T_reg [(13,{ rw:=some (dB z2) }),(17,{ rw:=some (dI (y4.1.f2.length:Int)) })] [1,2,3,7,9,11,13,14,92] [(92,dB (bif z2 then true else ((y4.1.f2.length:Int) != (IntKind.i64.wrap (y5.1 * y5.2)))))] [(3,((((y4.2 != (0:Int)) == false) && true)=true→True)),(0,((((y4.2 != (0:Int)) == false) && true)=true→True)),(0,((((y4.2 != (0:Int)) == false) && true)=true→True)),(0,((((y4.2 != (0:Int)) == false) && true)=true→True)),(2,((((bif (y4.2 != (0:Int)) then true else (y4.1.f0 != y5.1)) == false) && true)=true→True)),(0,((((bif (y4.2 != (0:Int)) then true else (y4.1.f0 != y5.1)) == false) && true)=true→True)),(0,((((bif (y4.2 != (0:Int)) then true else (y4.1.f0 != y5.1)) == false) && true)=true→True)),(0,((((bif (y4.2 != (0:Int)) then true else (y4.1.f0 != y5.1)) == false) && true)=true→True)),(0,(True)∧dB (bif (bif (y4.2 != (0:Int)) then true else (y4.1.f0 != y5.1)) then true else (y4.1.f1 != y5.2))=dB z2),(1,(((z2 == false) && true)=true→True)),(0,(((z2 == false) && true)=true→True)),(0,(((z2 == false) && true)=true→True∧dI ((y4.1.f2.map cU).length:Int)=dI (y4.1.f2.length:Int))),(0,(((z2 == false) && true)=true→True)),(0,(((z2 == false) && true)=true→True)),(0,(((z2 == false) && true)=true→True)),(0,(((z2 == false) && true)=true→True))] 1 (by kernel_rfl) (⟨(fun hg=>trivial),(fun hg=>trivial),(fun hg=>trivial),(fun hg=>trivial),(fun hg=>trivial),(fun hg=>trivial),(fun hg=>trivial),(fun hg=>trivial),⟨trivial,(by subst hz2; rfl)⟩,(fun hg=>trivial),(fun hg=>trivial),(fun hg=>len_ok cU),(fun hg=>trivial),(fun hg=>trivial),(fun hg=>trivial),(fun hg=>trivial)⟩) ?_
        refine T_cond (bif z2 then true else ((y4.1.f2.length:Int) != (IntKind.i64.wrap (y5.1 * y5.2)))) (by kernel_rfl) (fun hc=>?_) (fun hc=>?_)
        · have h:=cond_tt hc h
          refine T_reg [] [6] [(6,dB false)] [] 1 (by kernel_rfl) (trivial) ?_
          obtain hs:=Option.some.inj h; subst hs
          refine T_ret fun a w hm=>then_ret (T_return (fr':=[(6,dB false)]) [6] (by kernel_rfl) [.keep [6]] (by kernel_rfl) (by kernel_rfl) (by kernel_rfl) (by show _=_; kernel_rfl) (by exact trivial) a w hm)
        · have h:=cond_ff hc h
          refine T_skip fun a w hm=>then_norm (((?_:T Try.prog e 134 _ _ _) a w hm))
          refine T_seqk ?_
          refine T_reg [] [1,2,3,7,9,11,13,93,94] [(93,dI y5.2),(94,dI (0:Int))] [] 2 (by kernel_rfl) (trivial) ?_
          refine T_joinEt h (fun (p:Unit)=>[]) (fun s h hk1=>?_) (fun s h=>?_)
          · refine T_co [.keep [1,2,3,7,9,11,13,93,94]] ((fun (p:Int)=>[(1,dI (IntKind.i64.wrap z1)),(2,dB a2),(3,bx_ImposeLayout y1),(7,oW4 y3.1),(9,.fz 3 (v3.map cS_Plate)),(11,bx_Plate y4.1),(13,dI y5.1),(93,dI y5.2),(94,dI p)]) (0:Int)) (by show _=_; kernel_rfl) ?_
            refine T_block ?_
            refine T_loopF (ι:=Int) (fun (p:Int)=>[(1,dI (IntKind.i64.wrap z1)),(2,dB a2),(3,bx_ImposeLayout y1),(7,oW4 y3.1),(9,.fz 3 (v3.map cS_Plate)),(11,bx_Plate y4.1),(13,dI y5.1),(93,dI y5.2),(94,dI p)]) (fun n p=>law3_ImposePlateMatchesReference_L2 F a2 y1 y3 z1 v3 y4 y5 n p=some s) (fun i hh=>by simp [law3_ImposePlateMatchesReference_L2] at hh) (fun n v4 h=>?_) F (0:Int) h
            have h:law3_ImposePlateMatchesReference_L2 F a2 y1 y3 z1 v3 y4 y5 (n+1) v4=some s:=h
            rw [law3_ImposePlateMatchesReference_L2] at h
            refine T_reg [] [1,2,3,7,9,11,13,93,94,95] [(95,dB (decide (v4 < y5.2)))] [] 1 (by kernel_rfl) (trivial) ?_
            refine T_seqk ?_
            refine T_cond (decide (v4 < y5.2)) (by kernel_rfl) (fun hc=>?_) (fun hc=>?_)
            · have h:=cond_tt hc h
              refine T_skip fun a w hm=>then_norm (((?_:T Try.prog e 134 _ _ _) a w hm))
              refine T_seqk ?_
              refine T_block ?_
              refine T_reg [] [1,2,3,7,9,11,13,15,93,94] [(15,dI v4)] [] 2 (by kernel_rfl) (trivial) ?_
              refine T_reg [] [1,2,3,7,9,11,13,15,93,94,97,98] [(97,dI y5.1),(98,dI (0:Int))] [] 2 (by kernel_rfl) (trivial) ?_
              refine T_joinEt h (fun (p:Unit)=>[(1,dI (IntKind.i64.wrap z1)),(2,dB a2),(3,bx_ImposeLayout y1),(7,oW4 y3.1),(9,.fz 3 (v3.map cS_Plate)),(11,bx_Plate y4.1),(13,dI y5.1),(93,dI y5.2),(94,dI v4)]) (fun s h hk2=>?_) (fun s h=>?_)
              · refine T_co [.keep [1,2,3,7,9,11,13,15,93,94,97,98]] ((fun (p:Int)=>[(1,dI (IntKind.i64.wrap z1)),(2,dB a2),(3,bx_ImposeLayout y1),(7,oW4 y3.1),(9,.fz 3 (v3.map cS_Plate)),(11,bx_Plate y4.1),(13,dI y5.1),(15,dI v4),(93,dI y5.2),(94,dI v4),(97,dI y5.1),(98,dI p)]) (0:Int)) (by show _=_; kernel_rfl) ?_
                refine T_block ?_
                refine T_loopF (ι:=Int) (fun (p:Int)=>[(1,dI (IntKind.i64.wrap z1)),(2,dB a2),(3,bx_ImposeLayout y1),(7,oW4 y3.1),(9,.fz 3 (v3.map cS_Plate)),(11,bx_Plate y4.1),(13,dI y5.1),(15,dI v4),(93,dI y5.2),(94,dI v4),(97,dI y5.1),(98,dI p)]) (fun n p=>law3_ImposePlateMatchesReference_L4 F a2 y1 y3 z1 v3 y4 y5 v4 n p=some s) (fun i hh=>by simp [law3_ImposePlateMatchesReference_L4] at hh) (fun n v5 h=>?_) F (0:Int) h
                have h:law3_ImposePlateMatchesReference_L4 F a2 y1 y3 z1 v3 y4 y5 v4 (n+1) v5=some s:=h
                rw [law3_ImposePlateMatchesReference_L4] at h
                refine T_reg [] [1,2,3,7,9,11,13,15,93,94,97,98,99] [(99,dB (decide (v5 < y5.1)))] [] 1 (by kernel_rfl) (trivial) ?_
                refine T_seqk ?_
                refine T_cond (decide (v5 < y5.1)) (by kernel_rfl) (fun hc=>?_) (fun hc=>?_)
                · have h:=cond_tt hc h
                  refine T_skip fun a w hm=>then_norm (((?_:T Try.prog e 134 _ _ _) a w hm))
                  refine T_seqk ?_
                  refine T_block ?_
                  refine T_reg [] [1,2,3,7,9,11,13,15,16,93,94,97,98] [(16,dI v5)] [] 2 (by kernel_rfl) (trivial) ?_
                  obtain ⟨y6,hy8,h⟩:=call_ok h
                  refine T_reg [(5,{ res:=.tup [dI y6.1,dI y6.2.1,dI y6.2.2] })] [1,2,3,7,9,11,13,15,16,17,18,19,93,94,97,98] [(17,dI y6.1),(18,dI y6.2.1),(19,dI y6.2.2)] [(5,ACall Try.prog 19 [.agg (cS_ImposeLayout y1),.d (.sl 4 (y3.1.map cS_FoldPage)),dB a2,dI v5,dI v4] [] (.tup [dI y6.1,dI y6.2.1,dI y6.2.2]) [])] 7 (by kernel_rfl) (ref3_PixelAt_ok hy8) ?_
                  refine T_reg [] [1,2,3,7,9,11,13,15,16,17,18,19,20,93,94,97,98] [(20,.d (.v (.int .u8 (0:Int))))] [] 1 (by kernel_rfl) (trivial) ?_
                  refine T_joinc h (fun (p:Int)=>[(1,dI (IntKind.i64.wrap z1)),(2,dB a2),(3,bx_ImposeLayout y1),(7,oW4 y3.1),(9,.fz 3 (v3.map cS_Plate)),(11,bx_Plate y4.1),(13,dI y5.1),(15,dI v4),(16,dI v5),(20,.d (.v (.int .u8 p))),(93,dI y5.2),(94,dI v4),(97,dI y5.1),(98,dI v5)]) (fun s h=>?_) (fun v6 h=>?_)
                  · refine T_reg [] [1,2,3,7,9,11,13,15,16,17,18,19,20,93,94,97,98,117] [(117,dB (bif (decide (y6.1 > (0:Int))) then (decide (y6.1≤(IntKind.i64.wrap z1))) else false))] [(3,((((decide (y6.1 > (0:Int))) == true) && true)=true→True)),(0,((((decide (y6.1 > (0:Int))) == true) && true)=true→True)),(0,((((decide (y6.1 > (0:Int))) == true) && true)=true→True))] 1 (by kernel_rfl) (⟨(fun hg=>trivial),(fun hg=>trivial),(fun hg=>trivial)⟩) ?_
                    refine T_cond (bif (decide (y6.1 > (0:Int))) then (decide (y6.1≤(IntKind.i64.wrap z1))) else false) (by kernel_rfl) (fun hc=>?_) (fun hc=>?_)
                    · have h:=cond_tt hc h
                      obtain ⟨hp3,h⟩:=chk_ok h
                      obtain ⟨y7,hy9,h⟩:=call_ok h
                      obtain hs:=Option.some.inj h; subst hs
                      refine T_reg_end [(3,{ cs:=cS_Plate (v3.getD (IntKind.i64.wrap (y6.1 - (1:Int))).toNat z_Plate) }),(7,{ res:=.d (.v (.int .u8 y7)) })] [1,2,3,7,9,11,13,15,16,20,93,94,97,98] [(20,.d (.v (.int .u8 y7)))] [(3,0≤(IntKind.i64.wrap (y6.1 - (1:Int)))∧(v3.map cS_Plate)[(IntKind.i64.wrap (y6.1 - (1:Int))).toNat]? = some (cS_Plate (v3.getD (IntKind.i64.wrap (y6.1 - (1:Int))).toNat z_Plate))),(3,ACall Try.prog 16 [.agg (cS_Plate (v3.getD (IntKind.i64.wrap (y6.1 - (1:Int))).toNat z_Plate)),dI y6.2.1,dI y6.2.2] [] (.d (.v (.int .u8 y7))) [])] 1 (by kernel_rfl) (⟨idx_ok (d:=z_Plate) cS_Plate hp3,ref3_Pix_ok hy9⟩) fun a w hm=>then_norm (hm.co (cs:=[.keep [1,2,3,7,9,11,13,15,16,20,93,94,97,98]]) (by show _=_; kernel_rfl))
                    · have h:=cond_ff hc h
                      obtain hs:=Option.some.inj h; subst hs
                      refine T_skip fun a w hm=>then_norm (hm.co (cs:=[.keep [1,2,3,7,9,11,13,15,16,20,93,94,97,98]]) (by show _=_; kernel_rfl))
                  · skip
                    obtain ⟨y8,hy10,h⟩:=call_ok h
                    refine T_reg [(3,{ res:=.d (.v (.int .u8 y8)) })] [1,2,3,7,9,11,13,15,93,94,97,98,131] [(131,dB (y8 != v6))] [(3,ACall Try.prog 16 [.agg (cS_Plate y4.1),dI v5,dI v4] [] (.d (.v (.int .u8 y8))) [])] 2 (by kernel_rfl) (ref3_Pix_ok hy10) ?_
                    refine T_cond (y8 != v6) (by kernel_rfl) (fun hc=>?_) (fun hc=>?_)
                    · have h:=cond_tt hc h
                      refine T_reg [] [6] [(6,dB false)] [] 1 (by kernel_rfl) (trivial) ?_
                      obtain hs:=Option.some.inj h; subst hs
                      have h:=callE_esc hk2
                      obtain hs:=Option.some.inj h; subst hs
                      have h:=callE_esc hk1
                      obtain hs:=Option.some.inj h; subst hs
                      refine T_ret fun a w hm=>inBlock_ret (then_ret (then_ret (inBlock_ret (then_ret (inBlock_ret (then_ret (then_ret (inBlock_ret (then_ret (then_ret (T_return (fr':=[(6,dB false)]) [6] (by kernel_rfl) [.keep [6]] (by kernel_rfl) (by kernel_rfl) (by kernel_rfl) (by show _=_; kernel_rfl) (by exact trivial) a w hm)))))))))))
                    · have h:=cond_ff hc h
                      refine T_skip fun a w hm=>inBlock_norm (then_norm (((?_:T Try.prog e 134 _ _ _) a w hm)))
                      refine T_reg_end [] [1,2,3,7,9,11,13,15,93,94,97,98] [(98,dI (IntKind.i64.wrap (v5+(1:Int))))] [] 2 (by kernel_rfl) (trivial) fun a w hm=>then_norm (⟨IntKind.i64.wrap (v5+(1:Int)),h,hm.co (cs:=[.keep [1,2,3,7,9,11,13,15,93,94,97,98]]) (by show _=_; kernel_rfl)⟩)
                · have h:=cond_ff hc h
                  obtain hs:=Option.some.inj h; subst hs
                  refine T_exit fun a w hm=>then_exit (then_exit (inBlock_exit (then_norm (⟨_,rfl,hm.co (cs:=[.keep [1,2,3,7,9,11,13,93,94]]) (by show _=_; kernel_rfl)⟩))))
              · skip
                refine fun a w hm=>inBlock_norm (then_norm (((?_:T Try.prog e 134 _ _ _) a w hm)))
                refine T_reg_end [] [1,2,3,7,9,11,13,93,94] [(94,dI (IntKind.i64.wrap (v4+(1:Int))))] [] 2 (by kernel_rfl) (trivial) fun a w hm=>then_norm (⟨IntKind.i64.wrap (v4+(1:Int)),h,hm.co (cs:=[.keep [1,2,3,7,9,11,13,93,94]]) (by show _=_; kernel_rfl)⟩)
            · have h:=cond_ff hc h
              obtain hs:=Option.some.inj h; subst hs
              refine T_exit fun a w hm=>then_exit (then_exit (inBlock_exit (then_norm (⟨_,rfl,hm.co (cs:=[.keep []]) (by show _=_; kernel_rfl)⟩))))
          · skip
            refine fun a w hm=>then_norm (((?_:T Try.prog e 134 _ _ _) a w hm))
            refine T_reg [] [6] [(6,dB true)] [] 1 (by kernel_rfl) (trivial) ?_
            obtain hs:=Option.some.inj h; subst hs
            refine T_ret fun a w hm=>T_return (fr':=[(6,dB true)]) [6] (by kernel_rfl) [.keep [6]] (by kernel_rfl) (by kernel_rfl) (by kernel_rfl) (by show _=_; kernel_rfl) (by exact trivial) a w hm
end Go.Vm.BinG
