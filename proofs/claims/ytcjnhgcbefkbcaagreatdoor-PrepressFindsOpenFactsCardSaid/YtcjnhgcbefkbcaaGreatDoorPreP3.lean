import Derived.Test.YtcjnhgcbefkbcaaGreatDoorPreP2
namespace Go.Vm.PreG
open Go.Proofs
set_option maxRecDepth 20000
variable {gm0:Int}
theorem ref3_Told_ok {F:Nat} {a0:S_PrepressCond} {a1:List S_PrepressFact} {r:Int} (h:ref3_Told F a0 a1=some r):ACall Tryz.prog 13 [.agg (cS_PrepressCond a0),.d (.sl 2 (a1.map cS_PrepressFact))] [] (.d (.v (.int .i64 r))) []:=by
  rw [ref3_Told] at h
  refine ACall.intro (N:=11) Tryz.func13 rfl rfl rfl rfl rfl fun e=>?_
  refine T_reg [] [1,2] [(2,bx_PrepressCond a0)] [] 2 (by kernel_rfl) (trivial) ?_
  refine T_seqk ?_
  obtain ⟨y1,hy1,h⟩:=call_ok h
  refine T_reg [(2,{ res:=dB y1 })] [1,2,7] [(7,dB y1)] [(2,ACall Tryz.prog 35 [.agg (cS_PrepressCond a0),.d (.sl 2 (a1.map cS_PrepressFact)),dB false] [] (dB y1) [])] 0 (by kernel_rfl) (ref3_Can_ok hy1) ?_
  refine T_cond y1 (by kernel_rfl) (fun hc=>?_) (fun hc=>?_)
  · have h:=cond_tt hc h
    refine T_reg [] [4] [(4,dI (1:Int))] [] 1 (by kernel_rfl) (trivial) ?_
    obtain hs:=Option.some.inj h; subst hs
    refine T_ret fun a w hm=>then_ret (T_return (fr':=[(4,dI (1:Int))]) [4] (by kernel_rfl) [.keep [4]] (by kernel_rfl) (by kernel_rfl) (by kernel_rfl) (by show _=_; kernel_rfl) (by exact trivial) a w hm)
  · have h:=cond_ff hc h
    refine T_skip fun a w hm=>then_norm (((?_:T Tryz.prog e 11 _ _ _) a w hm))
    refine T_seqk ?_
    obtain ⟨y2,hy2,h⟩:=call_ok h
    refine T_reg [(2,{ res:=dB y2 })] [10] [(10,dB y2)] [(2,ACall Tryz.prog 35 [.agg (cS_PrepressCond a0),.d (.sl 2 (a1.map cS_PrepressFact)),dB true] [] (dB y2) [])] 0 (by kernel_rfl) (ref3_Can_ok hy2) ?_
    refine T_cond y2 (by kernel_rfl) (fun hc=>?_) (fun hc=>?_)
    · have h:=cond_tt hc h
      refine T_reg [] [4] [(4,dI (0:Int))] [] 1 (by kernel_rfl) (trivial) ?_
      obtain hs:=Option.some.inj h; subst hs
      refine T_ret fun a w hm=>then_ret (T_return (fr':=[(4,dI (0:Int))]) [4] (by kernel_rfl) [.keep [4]] (by kernel_rfl) (by kernel_rfl) (by kernel_rfl) (by show _=_; kernel_rfl) (by exact trivial) a w hm)
    · have h:=cond_ff hc h
      refine T_skip fun a w hm=>then_norm (((?_:T Tryz.prog e 11 _ _ _) a w hm))
      refine T_reg [] [4] [(4,dI (2:Int))] [] 1 (by kernel_rfl) (trivial) ?_
      obtain hs:=Option.some.inj h; subst hs
      refine T_ret fun a w hm=>T_return (fr':=[(4,dI (2:Int))]) [4] (by kernel_rfl) [.keep [4]] (by kernel_rfl) (by kernel_rfl) (by kernel_rfl) (by show _=_; kernel_rfl) (by exact trivial) a w hm
theorem cmp_Less_string_ok {F:Nat} {a0:List UInt8} {a1:List UInt8} {r:Bool} (h:cmp_Less_string F a0 a1=some r):ACall Tryz.prog 41 [.d (.str a0),.d (.str a1)] [] (.d (.v (.bool r))) []:=by
  rw [cmp_Less_string] at h
  refine ACall.intro (N:=17) Tryz.func41 rfl rfl rfl rfl rfl fun e=>?_
  refine T_reg [] [0,1] [] [] 1 (by kernel_rfl) (trivial) ?_
  obtain ⟨y1,hy1,h⟩:=call_ok h
  obtain ⟨y2,hy2,h⟩:=call_ok h
  refine T_reg [(1,{ res:=dB y1 }),(4,{ res:=dB y2 })] [4] [(4,dB (bif (bif y1 then (!y2) else false) then true else (Op.bytesLess a0 a1)))] [(1,ACall Tryz.prog 63 [.d (.str a0)] [] (dB y1) []),(1,(((y1 == true) && true)=true→True)),(0,(((y1 == true) && true)=true→ACall Tryz.prog 63 [.d (.str a1)] [] (dB y2) [])),(0,(((y1 == true) && true)=true→True)),(2,((((bif y1 then (!y2) else false) == false) && true)=true→True)),(0,((((bif y1 then (!y2) else false) == false) && true)=true→True)),(0,((((bif y1 then (!y2) else false) == false) && true)=true→True))] 2 (by kernel_rfl) (⟨cmp_isNaN_string_ok hy1,(fun hg=>trivial),(fun hg=>cmp_isNaN_string_ok (gcall_ok hg hy2)),(fun hg=>trivial),(fun hg=>trivial),(fun hg=>trivial),(fun hg=>trivial)⟩) ?_
  obtain hs:=Option.some.inj h; subst hs
  refine T_ret fun a w hm=>T_return (fr':=[(4,dB (bif (bif y1 then (!y2) else false) then true else (Op.bytesLess a0 a1)))]) [4] (by kernel_rfl) [.keep [4]] (by kernel_rfl) (by kernel_rfl) (by kernel_rfl) (by show _=_; kernel_rfl) (by exact trivial) a w hm
theorem slices_IsSorted_string_ok {F:Nat} {a0:List (List UInt8)} {r:Bool} (h:slices_IsSorted_string F a0=some r):ACall Tryz.prog 15 [.d (.sl 1 (a0.map cS))] [] (.d (.v (.bool r))) []:=by
  rw [slices_IsSorted_string] at h
  refine ACall.intro (N:=21) Tryz.func15 rfl rfl rfl rfl rfl fun e=>?_
  refine T_reg [] [0] [] [] 1 (by kernel_rfl) (trivial) ?_
  refine T_seqk ?_
  refine T_reg [(1,{ rw:=some (dI (a0.length:Int)) })] [0,3] [(3,dI (IntKind.i64.wrap ((a0.length:Int) - (1:Int))))] [(1,True∧dI ((a0.map cS).length:Int)=dI (a0.length:Int))] 2 (by kernel_rfl) (len_ok cS) ?_
  refine T_joinEt h (fun (p:Unit)=>[]) (fun s h hk1=>?_) (fun s h=>?_)
  · refine T_co [.keep [0,3]] ((fun (p:Int)=>[(0,.d (.sl 1 (a0.map cS))),(3,dI p)]) (IntKind.i64.wrap ((a0.length:Int) - (1:Int)))) (by show _=_; kernel_rfl) ?_
    refine T_block ?_
    refine T_loopF (ι:=Int) (fun (p:Int)=>[(0,.d (.sl 1 (a0.map cS))),(3,dI p)]) (fun n p=>slices_IsSorted_string_L0 F a0 n p=some s) (fun i hh=>by simp [slices_IsSorted_string_L0] at hh) (fun n v1 h=>?_) F (IntKind.i64.wrap ((a0.length:Int) - (1:Int))) h
    have h:slices_IsSorted_string_L0 F a0 (n+1) v1=some s:=h
    rw [slices_IsSorted_string_L0] at h
    refine T_seqk ?_
    refine T_reg [] [0,3,8] [(8,dB (decide (v1 > (0:Int))))] [] 2 (by kernel_rfl) (trivial) ?_
    refine T_cond (decide (v1 > (0:Int))) (by kernel_rfl) (fun hc=>?_) (fun hc=>?_)
    · have h:=cond_tt hc h
      refine T_skip fun a w hm=>then_norm (((?_:T Tryz.prog e 21 _ _ _) a w hm))
      refine T_seqk ?_
      refine T_block ?_
      obtain ⟨hp1,h⟩:=chk_ok h
      obtain ⟨hp2,h⟩:=chk_ok h
      obtain ⟨y1,hy1,h⟩:=call_ok h
      refine T_drawX mixed 6 (.take 0 (.take 1 (.take 4 (.take 5 (.take 6 (.all (.alt 2 (.all (.alt 3 (.all (.alt 7 (.all (.alt 8 (.all (.alt 9 .done .stop)) .stop)) .stop)) (.alt 7 (.all (.alt 3 (.all (.alt 8 (.all (.alt 9 .done .stop)) .stop)) (.alt 8 (.all (.alt 3 (.all (.alt 9 .done .stop)) .stop)) .stop))) .stop))) (.alt 7 (.all (.alt 2 (.all (.alt 3 (.all (.alt 8 (.all (.alt 9 .done .stop)) .stop)) (.alt 8 (.all (.alt 3 (.all (.alt 9 .done .stop)) .stop)) .stop))) (.alt 8 (.all (.alt 2 (.all (.alt 3 (.all (.alt 9 .done .stop)) .stop)) .stop)) .stop))) .stop)))))))) ([0,0,3,4,0,0,32,80,128,264],[0,0,3,4,0,0,32,80,128,264]) 115 [(2,{ cs:=cS (a0.getD v1.toNat []) }),(7,{ cs:=cS (a0.getD (IntKind.i64.wrap (v1 - (1:Int))).toNat []) }),(9,{ res:=dB y1 })] [0,3,20] [] [(0,.d (.sl 1 (a0.map cS))),(3,dI v1),(20,dB y1)] ((fun (o2:Prop)=>fun (o7:Prop)=>fun (o9:Prop)=>[(5,o2),(1,o7),(1,o9),(0,o7),(2,o9),(2,o9),(0,o7),(0,o2),(2,o9),(2,o9),(1,o2),(1,o9)]) (0≤v1∧(a0.map cS)[v1.toNat]? = some (cS (a0.getD v1.toNat []))) (0≤(IntKind.i64.wrap (v1 - (1:Int)))∧(a0.map cS)[(IntKind.i64.wrap (v1 - (1:Int))).toNat]? = some (cS (a0.getD (IntKind.i64.wrap (v1 - (1:Int))).toNat []))) (ACall Tryz.prog 41 [.d (.str (a0.getD v1.toNat [])),.d (.str (a0.getD (IntKind.i64.wrap (v1 - (1:Int))).toNat []))] [] (dB y1) [])) 0 (by kernel_rfl) (by kernel_rfl) (by kernel_rfl) (have p2:=idx_ok (d:=[]) cS hp1; have p7:=idx_ok (d:=[]) cS hp2; have p9:=cmp_Less_string_ok hy1; ⟨p2,p7,p9,p7,p9,p9,p7,p2,p9,p9,p2,p9⟩) ?_
      refine T_cond y1 (by kernel_rfl) (fun hc=>?_) (fun hc=>?_)
      · have h:=cond_tt hc h
        refine T_reg [] [2] [(2,dB false)] [] 1 (by kernel_rfl) (trivial) ?_
        obtain hs:=Option.some.inj h; subst hs
        have h:=callE_esc hk1
        obtain hs:=Option.some.inj h; subst hs
        refine T_ret fun a w hm=>inBlock_ret (then_ret (then_ret (inBlock_ret (then_ret (then_ret (T_return (fr':=[(2,dB false)]) [2] (by kernel_rfl) [.keep [2]] (by kernel_rfl) (by kernel_rfl) (by kernel_rfl) (by show _=_; kernel_rfl) (by exact trivial) a w hm))))))
      · have h:=cond_ff hc h
        refine T_skip fun a w hm=>inBlock_norm (then_norm (((?_:T Tryz.prog e 21 _ _ _) a w hm)))
        refine T_reg_end [] [0,3] [(3,dI (IntKind.i64.wrap (v1 - (1:Int))))] [] 3 (by kernel_rfl) (trivial) fun a w hm=>then_norm (⟨IntKind.i64.wrap (v1 - (1:Int)),h,hm.co (cs:=[.keep [0,3]]) (by show _=_; kernel_rfl)⟩)
    · have h:=cond_ff hc h
      obtain hs:=Option.some.inj h; subst hs
      refine T_exit fun a w hm=>then_exit (then_exit (inBlock_exit (then_norm (⟨_,rfl,hm.co (cs:=[.keep []]) (by show _=_; kernel_rfl)⟩))))
  · skip
    refine fun a w hm=>then_norm (((?_:T Tryz.prog e 21 _ _ _) a w hm))
    refine T_reg [] [2] [(2,dB true)] [] 1 (by kernel_rfl) (trivial) ?_
    obtain hs:=Option.some.inj h; subst hs
    refine T_ret fun a w hm=>T_return (fr':=[(2,dB true)]) [2] (by kernel_rfl) [.keep [2]] (by kernel_rfl) (by kernel_rfl) (by kernel_rfl) (by show _=_; kernel_rfl) (by exact trivial) a w hm
theorem law3_PrepressFindsOpenFacts_c1_ok {F:Nat} {a0:S_PrepressFact} {c1:List UInt8} {r:Bool×(List UInt8)} (h:law3_PrepressFindsOpenFacts_c1 F a0 c1=some r):ACall Tryz.prog 17 [.agg (cS_PrepressFact a0),.bp 1000000 0] [.box [.d (.str c1)]] (.d (.v (.bool r.1))) [.box [.d (.str r.2)]]:=by
  rw [law3_PrepressFindsOpenFacts_c1] at h
  refine ACall.intro (N:=8) Tryz.func17 rfl rfl rfl rfl rfl fun e=>?_
  refine T_reg [] [1,2,1000000] [(2,bx_PrepressFact a0)] [] 2 (by kernel_rfl) (trivial) ?_
  refine T_reg [] [3,1000000] [(3,dB (a0.f0 == c1))] [] 5 (by kernel_rfl) (trivial) ?_
  obtain hs:=Option.some.inj h; subst hs
  refine T_ret fun a w hm=>T_return (fr':=[(3,dB (a0.f0 == c1)),(1000000,.box [.d (.str c1)])]) [3] (by kernel_rfl) [.keep [3,1000000]] (by kernel_rfl) (by kernel_rfl) (by kernel_rfl) (by show _=_; kernel_rfl) (by exact ⟨⟨by kernel_rfl,by kernel_rfl⟩,trivial⟩) a w hm
theorem slices_IndexFunc_PrepressFact_ok {F:Nat} {a0:List S_PrepressFact} {c1:List UInt8} {r:Int×(List UInt8)} (h:slices_IndexFunc_PrepressFact F a0 c1=some r):ACall Tryz.prog 42 [.d (.sl 2 (a0.map cS_PrepressFact)),.clo 17 [.bp 1000000 0]] [.box [.d (.str c1)]] (.d (.v (.int .i64 r.1))) [.box [.d (.str r.2)]]:=by
  rw [slices_IndexFunc_PrepressFact] at h
  refine ACall.intro (N:=19) Tryz.func42 rfl rfl rfl rfl rfl fun e=>?_
  refine T_reg [] [0,1,1000000] [] [] 1 (by kernel_rfl) (trivial) ?_
  refine T_seqk ?_
  refine T_reg [(1,{ rw:=some (dI (a0.length:Int)) })] [0,1,7,8,1000000] [(7,dI (a0.length:Int)),(8,dI (0:Int))] [(1,True∧dI ((a0.map cS_PrepressFact).length:Int)=dI (a0.length:Int))] 1 (by kernel_rfl) (len_ok cS_PrepressFact) ?_
  refine T_joinEt h (fun (p:(List UInt8))=>[(1000000,.box [.d (.str p)])]) (fun s h hk1=>?_) (fun v3 h=>?_)
  · refine T_co [.keep [0,1,7,8,1000000]] ((fun (p:Int×(List UInt8))=>[(0,.d (.sl 2 (a0.map cS_PrepressFact))),(1,.clo 17 [.bp 1000000 0]),(7,dI (a0.length:Int)),(8,dI p.1),(1000000,.box [.d (.str p.2)])]) ((0:Int),c1)) (by show _=_; kernel_rfl) ?_
    refine T_block ?_
    refine T_loopF (ι:=Int×(List UInt8)) (fun (p:Int×(List UInt8))=>[(0,.d (.sl 2 (a0.map cS_PrepressFact))),(1,.clo 17 [.bp 1000000 0]),(7,dI (a0.length:Int)),(8,dI p.1),(1000000,.box [.d (.str p.2)])]) (fun n p=>slices_IndexFunc_PrepressFact_L0 F a0 n p.1 p.2=some s) (fun i hh=>by simp [slices_IndexFunc_PrepressFact_L0] at hh) (fun n p h=>?_) F ((0:Int),c1) h
    obtain ⟨v1,v2⟩:=p
    have h:slices_IndexFunc_PrepressFact_L0 F a0 (n+1) v1 v2=some s:=h
    rw [slices_IndexFunc_PrepressFact_L0] at h
    refine T_reg [] [0,1,7,8,9,1000000] [(9,dB (decide (v1 < (a0.length:Int))))] [] 1 (by kernel_rfl) (trivial) ?_
    refine T_seqk ?_
    refine T_cond (decide (v1 < (a0.length:Int))) (by kernel_rfl) (fun hc=>?_) (fun hc=>?_)
    · have h:=cond_tt hc h
      refine T_skip fun a w hm=>then_norm (((?_:T Tryz.prog e 19 _ _ _) a w hm))
      refine T_seqk ?_
      refine T_block ?_
      refine T_reg [] [0,1,5,7,8,1000000] [(5,dI v1)] [] 2 (by kernel_rfl) (trivial) ?_
      obtain ⟨hp1,h⟩:=chk_ok h
      obtain ⟨y1,hy1,h⟩:=call_ok h
      refine T_reg [(3,{ cs:=cS_PrepressFact (a0.getD v1.toNat z_PrepressFact) }),(5,{ res:=dB y1.1,vout:=[.box [.d (.str y1.2)]],xs:=[1000000] })] [0,1,5,7,8,16,1000000] [(16,dB y1.1),(1000000,.box [.d (.str y1.2)])] [(3,0≤v1∧(a0.map cS_PrepressFact)[v1.toNat]? = some (cS_PrepressFact (a0.getD v1.toNat z_PrepressFact))),(1,ACall Tryz.prog 17 [.agg (cS_PrepressFact (a0.getD v1.toNat z_PrepressFact)),.bp 1000000 0] [.box [.d (.str v2)]] (dB y1.1) [.box [.d (.str y1.2)]])] 0 (by kernel_rfl) (⟨idx_ok (d:=z_PrepressFact) cS_PrepressFact hp1,law3_PrepressFindsOpenFacts_c1_ok hy1⟩) ?_
      refine T_cond y1.1 (by kernel_rfl) (fun hc=>?_) (fun hc=>?_)
      · have h:=cond_tt hc h
        refine T_reg [] [4,1000000] [(4,dI v1)] [] 2 (by kernel_rfl) (trivial) ?_
        obtain hs:=Option.some.inj h; subst hs
        have h:=callE_esc hk1
        obtain hs:=Option.some.inj h; subst hs
        refine T_ret fun a w hm=>inBlock_ret (then_ret (then_ret (inBlock_ret (then_ret (then_ret (T_return (fr':=[(4,dI v1),(1000000,.box [.d (.str y1.2)])]) [4] (by kernel_rfl) [.keep [4,1000000]] (by kernel_rfl) (by kernel_rfl) (by kernel_rfl) (by show _=_; kernel_rfl) (by exact ⟨⟨by kernel_rfl,by kernel_rfl⟩,trivial⟩) a w hm))))))
      · have h:=cond_ff hc h
        refine T_skip fun a w hm=>inBlock_norm (then_norm (((?_:T Tryz.prog e 19 _ _ _) a w hm)))
        refine T_reg_end [] [0,1,7,8,1000000] [(8,dI (IntKind.i64.wrap (v1+(1:Int))))] [] 2 (by kernel_rfl) (trivial) fun a w hm=>then_norm (⟨(IntKind.i64.wrap (v1+(1:Int)),y1.2),h,hm.co (cs:=[.keep [0,1,7,8,1000000]]) (by show _=_; kernel_rfl)⟩)
    · have h:=cond_ff hc h
      obtain hs:=Option.some.inj h; subst hs
      refine T_exit fun a w hm=>then_exit (then_exit (inBlock_exit (then_norm (⟨_,rfl,hm.co (cs:=[.keep [1000000]]) (by show _=_; kernel_rfl)⟩))))
  · skip
    refine fun a w hm=>then_norm (((?_:T Tryz.prog e 19 _ _ _) a w hm))
    refine T_reg [] [4,1000000] [(4,dI (-1:Int))] [] 1 (by kernel_rfl) (trivial) ?_
    obtain hs:=Option.some.inj h; subst hs
    refine T_ret fun a w hm=>T_return (fr':=[(4,dI (-1:Int)),(1000000,.box [.d (.str v3)])]) [4] (by kernel_rfl) [.keep [4,1000000]] (by kernel_rfl) (by kernel_rfl) (by kernel_rfl) (by show _=_; kernel_rfl) (by exact ⟨⟨by kernel_rfl,by kernel_rfl⟩,trivial⟩) a w hm
theorem slices_ContainsFunc_PrepressFact_ok {F:Nat} {a0:List S_PrepressFact} {c1:List UInt8} {r:Bool×(List UInt8)} (h:slices_ContainsFunc_PrepressFact F a0 c1=some r):ACall Tryz.prog 16 [.d (.sl 2 (a0.map cS_PrepressFact)),.clo 17 [.bp 1000000 0]] [.box [.d (.str c1)]] (.d (.v (.bool r.1))) [.box [.d (.str r.2)]]:=by
  rw [slices_ContainsFunc_PrepressFact] at h
  refine ACall.intro (N:=9) Tryz.func16 rfl rfl rfl rfl rfl fun e=>?_
  refine T_reg [] [0,1,1000000] [] [] 1 (by kernel_rfl) (trivial) ?_
  obtain ⟨y1,hy1,h⟩:=call_ok h
  refine T_reg [(2,{ res:=dI y1.1,vout:=[.box [.d (.str y1.2)]],xs:=[1000000] })] [4,1000000] [(4,dB (decide (y1.1 ≥ (0:Int)))),(1000000,.box [.d (.str y1.2)])] [(2,ACall Tryz.prog 42 [.d (.sl 2 (a0.map cS_PrepressFact)),.clo 17 [.bp 1000000 0]] [.box [.d (.str c1)]] (dI y1.1) [.box [.d (.str y1.2)]])] 2 (by kernel_rfl) (slices_IndexFunc_PrepressFact_ok hy1) ?_
  obtain hs:=Option.some.inj h; subst hs
  refine T_ret fun a w hm=>T_return (fr':=[(4,dB (decide (y1.1 ≥ (0:Int)))),(1000000,.box [.d (.str y1.2)])]) [4] (by kernel_rfl) [.keep [4,1000000]] (by kernel_rfl) (by kernel_rfl) (by kernel_rfl) (by show _=_; kernel_rfl) (by exact ⟨⟨by kernel_rfl,by kernel_rfl⟩,trivial⟩) a w hm
theorem ref3_mentions_body_ok {F:Nat} {rec_ref3_mentions:S_PrepressCond→(List UInt8)→Option Bool} (hrec_ref3_mentions:∀ {a0:S_PrepressCond},∀ {a1:List UInt8},∀ {r:Bool},rec_ref3_mentions a0 a1=some r→ACall Tryz.prog 43 [.agg (cS_PrepressCond a0),.d (.str a1)] [] (.d (.v (.bool r))) []) {a0:S_PrepressCond} {a1:List UInt8} {r:Bool} (h:ref3_mentions_body F rec_ref3_mentions a0 a1=some r):ACall Tryz.prog 43 [.agg (cS_PrepressCond a0),.d (.str a1)] [] (.d (.v (.bool r))) []:=by
  rw [ref3_mentions_body] at h
  refine ACall.intro (N:=32) Tryz.func43 rfl rfl rfl rfl rfl fun e=>?_
  refine T_reg [] [1,2] [(2,bx_PrepressCond a0)] [] 2 (by kernel_rfl) (trivial) ?_
  refine T_seqk ?_
  refine T_reg [(2,{ rw:=some (dI (a0.f1.length:Int)) })] [1,2,10,11,12] [(10,.d (.sl 2 (a0.f1.map cS_PrepressTerm))),(11,dI (a0.f1.length:Int)),(12,dI (0:Int))] [(2,True∧dI ((a0.f1.map cS_PrepressTerm).length:Int)=dI (a0.f1.length:Int))] 1 (by kernel_rfl) (len_ok cS_PrepressTerm) ?_
  refine T_joinEt h (fun (p:Unit)=>[(1,.d (.str a1)),(2,bx_PrepressCond a0)]) (fun s h hk1=>?_) (fun s h=>?_)
  · refine T_co [.keep [1,2,10,11,12]] ((fun (p:Int)=>[(1,.d (.str a1)),(2,bx_PrepressCond a0),(10,.d (.sl 2 (a0.f1.map cS_PrepressTerm))),(11,dI (a0.f1.length:Int)),(12,dI p)]) (0:Int)) (by show _=_; kernel_rfl) ?_
    refine T_block ?_
    refine T_loopF (ι:=Int) (fun (p:Int)=>[(1,.d (.str a1)),(2,bx_PrepressCond a0),(10,.d (.sl 2 (a0.f1.map cS_PrepressTerm))),(11,dI (a0.f1.length:Int)),(12,dI p)]) (fun n p=>ref3_mentions_L0 F a0 a1 n p=some s) (fun i hh=>by simp [ref3_mentions_L0] at hh) (fun n v1 h=>?_) F (0:Int) h
    have h:ref3_mentions_L0 F a0 a1 (n+1) v1=some s:=h
    rw [ref3_mentions_L0] at h
    refine T_reg [] [1,2,10,11,12,13] [(13,dB (decide (v1 < (a0.f1.length:Int))))] [] 1 (by kernel_rfl) (trivial) ?_
    refine T_seqk ?_
    refine T_cond (decide (v1 < (a0.f1.length:Int))) (by kernel_rfl) (fun hc=>?_) (fun hc=>?_)
    · have h:=cond_tt hc h
      refine T_skip fun a w hm=>then_norm (((?_:T Tryz.prog e 32 _ _ _) a w hm))
      refine T_seqk ?_
      refine T_block ?_
      obtain ⟨hp1,h⟩:=chk_ok h
      refine T_reg [(0,{ cs:=cS_PrepressTerm (a0.f1.getD v1.toNat z_PrepressTerm) })] [1,2,6,10,11,12] [(6,.box [dI ((a0.f1.getD v1.toNat z_PrepressTerm).f0),.d (.str ((a0.f1.getD v1.toNat z_PrepressTerm).f1))])] [(0,0≤v1∧(a0.f1.map cS_PrepressTerm)[v1.toNat]? = some (cS_PrepressTerm (a0.f1.getD v1.toNat z_PrepressTerm)))] 3 (by kernel_rfl) (idx_ok (d:=z_PrepressTerm) cS_PrepressTerm hp1) ?_
      refine T_reg [] [1,2,10,11,12,19] [(19,dB (((a0.f1.getD v1.toNat z_PrepressTerm).f1) == a1))] [] 4 (by kernel_rfl) (trivial) ?_
      refine T_cond (((a0.f1.getD v1.toNat z_PrepressTerm).f1) == a1) (by kernel_rfl) (fun hc=>?_) (fun hc=>?_)
      · have h:=cond_tt hc h
        refine T_reg [] [4] [(4,dB true)] [] 1 (by kernel_rfl) (trivial) ?_
        obtain hs:=Option.some.inj h; subst hs
        have h:=callE_esc hk1
        obtain hs:=Option.some.inj h; subst hs
        refine T_ret fun a w hm=>inBlock_ret (then_ret (then_ret (inBlock_ret (then_ret (then_ret (T_return (fr':=[(4,dB true)]) [4] (by kernel_rfl) [.keep [4]] (by kernel_rfl) (by kernel_rfl) (by kernel_rfl) (by show _=_; kernel_rfl) (by exact trivial) a w hm))))))
      · have h:=cond_ff hc h
        refine T_skip fun a w hm=>inBlock_norm (then_norm (((?_:T Tryz.prog e 32 _ _ _) a w hm)))
        refine T_reg_end [] [1,2,10,11,12] [(12,dI (IntKind.i64.wrap (v1+(1:Int))))] [] 2 (by kernel_rfl) (trivial) fun a w hm=>then_norm (⟨IntKind.i64.wrap (v1+(1:Int)),h,hm.co (cs:=[.keep [1,2,10,11,12]]) (by show _=_; kernel_rfl)⟩)
    · have h:=cond_ff hc h
      obtain hs:=Option.some.inj h; subst hs
      refine T_exit fun a w hm=>then_exit (then_exit (inBlock_exit (then_norm (⟨_,rfl,hm.co (cs:=[.keep [1,2]]) (by show _=_; kernel_rfl)⟩))))
  · skip
    refine fun a w hm=>then_norm (((?_:T Tryz.prog e 32 _ _ _) a w hm))
    refine T_seqk ?_
    refine T_reg [(2,{ rw:=some (dI (a0.f4.length:Int)) })] [1,22,23,24] [(22,.d (.sl 5 (a0.f4.map rS_PrepressCond))),(23,dI (a0.f4.length:Int)),(24,dI (0:Int))] [(2,True∧dI ((a0.f4.map rS_PrepressCond).length:Int)=dI (a0.f4.length:Int))] 1 (by kernel_rfl) (len_ok rS_PrepressCond) ?_
    refine T_joinEt h (fun (p:Unit)=>[]) (fun s h hk2=>?_) (fun s h=>?_)
    · refine T_co [.keep [1,22,23,24]] ((fun (p:Int)=>[(1,.d (.str a1)),(22,.d (.sl 5 (a0.f4.map rS_PrepressCond))),(23,dI (a0.f4.length:Int)),(24,dI p)]) (0:Int)) (by show _=_; kernel_rfl) ?_
      refine T_block ?_
      refine T_loopF (ι:=Int) (fun (p:Int)=>[(1,.d (.str a1)),(22,.d (.sl 5 (a0.f4.map rS_PrepressCond))),(23,dI (a0.f4.length:Int)),(24,dI p)]) (fun n p=>ref3_mentions_L2 F a0 a1 rec_ref3_mentions n p=some s) (fun i hh=>by simp [ref3_mentions_L2] at hh) (fun n v2 h=>?_) F (0:Int) h
      have h:ref3_mentions_L2 F a0 a1 rec_ref3_mentions (n+1) v2=some s:=h
      rw [ref3_mentions_L2] at h
      refine T_reg [] [1,22,23,24,25] [(25,dB (decide (v2 < (a0.f4.length:Int))))] [] 1 (by kernel_rfl) (trivial) ?_
      refine T_seqk ?_
      refine T_cond (decide (v2 < (a0.f4.length:Int))) (by kernel_rfl) (fun hc=>?_) (fun hc=>?_)
      · have h:=cond_tt hc h
        refine T_skip fun a w hm=>then_norm (((?_:T Tryz.prog e 32 _ _ _) a w hm))
        refine T_seqk ?_
        refine T_block ?_
        obtain ⟨hp2,h⟩:=chk_ok h
        refine T_reg [(0,{ cs:=cS_PrepressCond (a0.f4.getD v2.toNat z_PrepressCond) })] [1,8,22,23,24] [(8,.box [dI ((a0.f4.getD v2.toNat z_PrepressCond).f0),.d (.sl 2 (((a0.f4.getD v2.toNat z_PrepressCond).f1).map cS_PrepressTerm)),dI ((a0.f4.getD v2.toNat z_PrepressCond).f2),dI ((a0.f4.getD v2.toNat z_PrepressCond).f3),.d (.sl 5 (((a0.f4.getD v2.toNat z_PrepressCond).f4).map rS_PrepressCond))])] [(0,0≤v2∧(a0.f4.map rS_PrepressCond)[v2.toNat]? = some (cS_PrepressCond (a0.f4.getD v2.toNat z_PrepressCond)))] 3 (by kernel_rfl) (idx_okR (d:=z_PrepressCond) rS_PrepressCond_eq hp2) ?_
        obtain ⟨y1,hy1,h⟩:=call_ok h
        refine T_reg [(2,{ res:=dB y1 })] [1,22,23,24,30] [(30,dB y1)] [(2,ACall Tryz.prog 43 [.agg (cS_PrepressCond (a0.f4.getD v2.toNat z_PrepressCond)),.d (.str a1)] [] (dB y1) [])] 0 (by kernel_rfl) (hrec_ref3_mentions hy1) ?_
        refine T_cond y1 (by kernel_rfl) (fun hc=>?_) (fun hc=>?_)
        · have h:=cond_tt hc h
          refine T_reg [] [4] [(4,dB true)] [] 1 (by kernel_rfl) (trivial) ?_
          obtain hs:=Option.some.inj h; subst hs
          have h:=callE_esc hk2
          obtain hs:=Option.some.inj h; subst hs
          refine T_ret fun a w hm=>inBlock_ret (then_ret (then_ret (inBlock_ret (then_ret (then_ret (T_return (fr':=[(4,dB true)]) [4] (by kernel_rfl) [.keep [4]] (by kernel_rfl) (by kernel_rfl) (by kernel_rfl) (by show _=_; kernel_rfl) (by exact trivial) a w hm))))))
        · have h:=cond_ff hc h
          refine T_skip fun a w hm=>inBlock_norm (then_norm (((?_:T Tryz.prog e 32 _ _ _) a w hm)))
          refine T_reg_end [] [1,22,23,24] [(24,dI (IntKind.i64.wrap (v2+(1:Int))))] [] 2 (by kernel_rfl) (trivial) fun a w hm=>then_norm (⟨IntKind.i64.wrap (v2+(1:Int)),h,hm.co (cs:=[.keep [1,22,23,24]]) (by show _=_; kernel_rfl)⟩)
      · have h:=cond_ff hc h
        obtain hs:=Option.some.inj h; subst hs
        refine T_exit fun a w hm=>then_exit (then_exit (inBlock_exit (then_norm (⟨_,rfl,hm.co (cs:=[.keep []]) (by show _=_; kernel_rfl)⟩))))
    · skip
      refine fun a w hm=>then_norm (((?_:T Tryz.prog e 32 _ _ _) a w hm))
      refine T_reg [] [4] [(4,dB false)] [] 1 (by kernel_rfl) (trivial) ?_
      obtain hs:=Option.some.inj h; subst hs
      refine T_ret fun a w hm=>T_return (fr':=[(4,dB false)]) [4] (by kernel_rfl) [.keep [4]] (by kernel_rfl) (by kernel_rfl) (by kernel_rfl) (by show _=_; kernel_rfl) (by exact trivial) a w hm
theorem ref3_mentions_fuel_ok {F:Nat} (n:Nat):∀ {a0:S_PrepressCond} {a1:List UInt8} {r:Bool},ref3_mentions_fuel F n a0 a1=some r→ACall Tryz.prog 43 [.agg (cS_PrepressCond a0),.d (.str a1)] [] (.d (.v (.bool r))) []:=by
  induction n with
  | zero=>intro a0 a1 r h; exact absurd (show (none:Option Bool)=some r from h) (by simp)
  | succ n ih=>intro a0 a1 r h; exact ref3_mentions_body_ok ih h
theorem ref3_mentions_ok {F:Nat} {a0:S_PrepressCond} {a1:List UInt8} {r:Bool} (h:ref3_mentions F a0 a1=some r):ACall Tryz.prog 43 [.agg (cS_PrepressCond a0),.d (.str a1)] [] (.d (.v (.bool r))) []:=ref3_mentions_fuel_ok F h
theorem ref3_Mentioned_ok {F:Nat} {a0:S_PrepressCond} {a1:List (List UInt8)} {r:(List Bool)} (h:ref3_Mentioned F a0 a1=some r):ACall Tryz.prog 18 [.agg (cS_PrepressCond a0),.d (.sl 1 (a1.map cS))] [] (.own 4 1 (r.map cB)) []:=by
  rw [ref3_Mentioned] at h
  refine ACall.intro (N:=26) Tryz.func18 rfl rfl rfl rfl rfl fun e=>?_
  refine T_reg [] [1,2] [(2,bx_PrepressCond a0)] [] 2 (by kernel_rfl) (trivial) ?_
  obtain ⟨hp1,h⟩:=chk_ok h
  refine T_reg [(1,{ rw:=some (dI (a1.length:Int)) }),(2,{ es:=some ((List.replicate (a1.length:Int).toNat false).map cB) })] [1,2,5] [(5,.own 4 1 ((List.replicate (a1.length:Int).toNat false).map cB))] [(1,True∧dI ((a1.map cS).length:Int)=dI (a1.length:Int)),(0,(0≤(a1.length:Int)∧(a1.length:Int)≤(a1.length:Int)∧(a1.length:Int)≤9223372036854775807∧((1:Nat):Int) * (a1.length:Int)≤281474976710656)∧List.replicate (a1.length:Int).toNat (cB false)=((List.replicate (a1.length:Int).toNat false).map cB))] 1 (by kernel_rfl) (⟨len_ok cS,⟨hp1,repl_ok cB rfl⟩⟩) ?_
  refine T_seqk ?_
  refine T_reg [(1,{ rw:=some (dI (a1.length:Int)) })] [2,5,11,12,13] [(11,.d (.sl 1 (a1.map cS))),(12,dI (a1.length:Int)),(13,dI (0:Int))] [(1,True∧dI ((a1.map cS).length:Int)=dI (a1.length:Int))] 1 (by kernel_rfl) (len_ok cS) ?_
  refine T_joinct h (fun (p:(List Bool))=>[(5,oW7 p)]) (fun s h=>?_) (fun v3 h=>?_)
  · refine T_co [.keep [2,5,11,12,13]] ((fun (p:(List Bool)×Int)=>[(2,bx_PrepressCond a0),(5,oW7 p.1),(11,.d (.sl 1 (a1.map cS))),(12,dI (a1.length:Int)),(13,dI p.2)]) ((List.replicate (a1.length:Int).toNat false),(0:Int))) (by show _=_; kernel_rfl) ?_
    refine T_block ?_
    refine T_loopF (ι:=(List Bool)×Int) (fun (p:(List Bool)×Int)=>[(2,bx_PrepressCond a0),(5,oW7 p.1),(11,.d (.sl 1 (a1.map cS))),(12,dI (a1.length:Int)),(13,dI p.2)]) (fun n p=>ref3_Mentioned_L0 F a0 a1 n p.1 p.2=some s) (fun i hh=>by simp [ref3_Mentioned_L0] at hh) (fun n p h=>?_) F ((List.replicate (a1.length:Int).toNat false),(0:Int)) h
    obtain ⟨v1,v2⟩:=p
    have h:ref3_Mentioned_L0 F a0 a1 (n+1) v1 v2=some s:=h
    rw [ref3_Mentioned_L0] at h
    refine T_reg [] [2,5,11,12,13,14] [(14,dB (decide (v2 < (a1.length:Int))))] [] 1 (by kernel_rfl) (trivial) ?_
    refine T_seqk ?_
    refine T_cond (decide (v2 < (a1.length:Int))) (by kernel_rfl) (fun hc=>?_) (fun hc=>?_)
    · have h:=cond_tt hc h
      refine T_skip fun a w hm=>then_norm (((?_:T Tryz.prog e 26 _ _ _) a w hm))
      refine T_seqk ?_
      refine T_block ?_
      obtain ⟨hp2,h⟩:=chk_ok h
      refine T_reg [(1,{ cs:=cS (a1.getD v2.toNat []) })] [2,5,6,7,11,12,13] [(6,dI v2),(7,.d (.str (a1.getD v2.toNat [])))] [(1,0≤v2∧(a1.map cS)[v2.toNat]? = some (cS (a1.getD v2.toNat [])))] 3 (by kernel_rfl) (idx_ok (d:=[]) cS hp2) ?_
      obtain ⟨y1,hy1,h⟩:=call_ok h
      obtain ⟨hp3,h⟩:=chk_ok h
      refine T_reg_end [(4,{ res:=dB y1 }),(6,{ cs:=cB (v1.getD v2.toNat false),es:=some ((v1.set v2.toNat y1).map cB) })] [2,5,11,12,13] [(5,.own 4 1 ((v1.set v2.toNat y1).map cB))] [(4,ACall Tryz.prog 43 [.agg (cS_PrepressCond a0),.d (.str (a1.getD v2.toNat []))] [] (dB y1) []),(0,0≤v2∧v2 < (v1.map cB).length),(0,(v1.map cB)[v2.toNat]? = some (cB (v1.getD v2.toNat false))∧(v1.map cB).set v2.toNat (cB y1)=((v1.set v2.toNat y1).map cB))] 0 (by kernel_rfl) (⟨ref3_mentions_ok hy1,own_idx cB hp3,⟨(idx_ok (d:=false) cB hp3).2,set_ok cB rfl⟩⟩) fun a w hm=>inBlock_norm (then_norm (((?_:T Tryz.prog e 26 _ _ _) a w hm)))
      refine T_reg_end [] [2,5,11,12,13] [(13,dI (IntKind.i64.wrap (v2+(1:Int))))] [] 2 (by kernel_rfl) (trivial) fun a w hm=>then_norm (⟨((v1.set v2.toNat y1),IntKind.i64.wrap (v2+(1:Int))),h,hm.co (cs:=[.keep [2,5,11,12,13]]) (by show _=_; kernel_rfl)⟩)
    · have h:=cond_ff hc h
      obtain hs:=Option.some.inj h; subst hs
      refine T_exit fun a w hm=>then_exit (then_exit (inBlock_exit (then_norm (hm.co (cs:=[.keep [5]]) (by show _=_; kernel_rfl)))))
  · skip
    refine fun a w hm=>then_norm (((?_:T Tryz.prog e 26 _ _ _) a w hm))
    refine T_reg [] [4,5] [(4,.vw (5,0))] [] 2 (by kernel_rfl) (trivial) ?_
    obtain hs:=Option.some.inj h; subst hs
    refine T_ret fun a w hm=>T_return (fr':=[(4,oW7 v3)]) [4] (by kernel_rfl) [.claim 4,.keep [4]] (by kernel_rfl) (by kernel_rfl) (by kernel_rfl) (by show _=_; kernel_rfl) (by exact trivial) a w hm
theorem slices_Clone_PrepressFact'_ok {F:Nat} {a0:List S_PrepressFact} {r:(List S_PrepressFact)} (h:slices_Clone_PrepressFact' F a0=some r):ACall Tryz.prog 19 [.d (.sl 2 (a0.map cS_PrepressFact))] [] (.own 51 2 (r.map cS_PrepressFact)) []:=by
  rw [slices_Clone_PrepressFact'] at h
  refine ACall.intro (N:=8) Tryz.func19 rfl rfl rfl rfl rfl fun e=>?_
  refine T_reg [] [0] [] [] 1 (by kernel_rfl) (trivial) ?_
  refine T_seqk ?_
  refine T_nilTest (sz:=2) (es:=(a0.map cS_PrepressFact)) 0 3 4 36 (by kernel_rfl) (by kernel_rfl) (by kernel_rfl) (by kernel_rfl) [0] [(0,.d (.sl 2 (a0.map cS_PrepressFact)))] (fun _=>by kernel_rfl) (fun hnil=>?_) ?_
  · replace hnil:=List.map_eq_nil_iff.1 hnil
    have h:(some [])=some r:=by subst hnil; exact h
    refine T_reg [] [2] [(2,oW4 [])] [] 1 (by kernel_rfl) (trivial) ?_
    obtain hs:=Option.some.inj h; subst hs
    refine T_ret fun a w hm=>then_ret (T_return (fr':=[(2,oW4 [])]) [2] (by kernel_rfl) [.keep [2]] (by kernel_rfl) (by kernel_rfl) (by kernel_rfl) (by show _=_; kernel_rfl) (by exact trivial) a w hm)
  · skip
    refine T_skip fun a w hm=>then_norm (((?_:T Tryz.prog e 8 _ _ _) a w hm))
    obtain ⟨hp1,h⟩:=chk_ok h
    refine T_reg [(2,{ es:=some ((([]:List S_PrepressFact)++a0).map cS_PrepressFact) })] [2] [(2,.own 51 2 ((([]:List S_PrepressFact)++a0).map cS_PrepressFact))] [(0,([]:List (List Dat))=[]),(1,(([]:List S_PrepressFact).map cS_PrepressFact).length+(a0.map cS_PrepressFact).length≤4294967296∧(([]:List S_PrepressFact).map cS_PrepressFact)++(a0.map cS_PrepressFact)=((([]:List S_PrepressFact)++a0).map cS_PrepressFact))] 1 (by kernel_rfl) (⟨rfl,app_ok cS_PrepressFact hp1⟩) ?_
    obtain hs:=Option.some.inj h; subst hs
    refine T_ret fun a w hm=>T_return (fr':=[(2,.own 51 2 ((([]:List S_PrepressFact)++a0).map cS_PrepressFact))]) [2] (by kernel_rfl) [.keep [2]] (by kernel_rfl) (by kernel_rfl) (by kernel_rfl) (by show _=_; kernel_rfl) (by exact trivial) a w hm
theorem law3_PrepressFindsOpenFacts_ok {F:Nat} {a0:S_PrepressRule} {a1:List S_PrepressFact} {r:Bool} (h:law3_PrepressFindsOpenFacts F a0 a1=some r):ACall Tryz.prog 5 [.agg (cS_PrepressRule a0),.d (.sl 2 (a1.map cS_PrepressFact))] [.glo 0 ([gm0].flatMap (cI .i64)),.glo 3 (glob_internal_strconv_uint64pow10.flatMap (cI .u64))] (.d (.v (.bool r))) [.glo 0 ([gm0].flatMap (cI .i64)),.glo 3 (glob_internal_strconv_uint64pow10.flatMap (cI .u64))]:=by
  rw [law3_PrepressFindsOpenFacts] at h
  refine ACall.intro (N:=141) Tryz.func5 rfl rfl rfl rfl rfl fun e=>?_
  refine T_reg [] [1,2,1000000,1000001] [(2,bx_PrepressRule a0)] [] 2 (by kernel_rfl) (trivial) ?_
  refine T_seqk ?_
  obtain ⟨y4,hy1,h⟩:=call_ok h
  refine T_reg [(0,{ res:=dB y4,vout:=[.glo 0 ([gm0].flatMap (cI .i64)),.glo 3 (glob_internal_strconv_uint64pow10.flatMap (cI .u64))],xs:=[1000000,1000001] })] [1,2,15,1000000,1000001] [(15,dB (!y4))] [(0,ACall Tryz.prog 6 [] [.glo 0 ([gm0].flatMap (cI .i64)),.glo 3 (glob_internal_strconv_uint64pow10.flatMap (cI .u64))] (dB y4) [.glo 0 ([gm0].flatMap (cI .i64)),.glo 3 (glob_internal_strconv_uint64pow10.flatMap (cI .u64))])] 1 (by kernel_rfl) (law3_ruleFact_ok hy1) ?_
  refine T_cond (!y4) (by kernel_rfl) (fun hc=>?_) (fun hc=>?_)
  · have h:=cond_tt hc h
    refine T_reg [] [4,1000000,1000001] [(4,dB false)] [] 1 (by kernel_rfl) (trivial) ?_
    obtain hs:=Option.some.inj h; subst hs
    refine T_ret fun a w hm=>then_ret (T_return (fr':=[(4,dB false),(1000000,.glo 0 ([gm0].flatMap (cI .i64))),(1000001,.glo 3 (glob_internal_strconv_uint64pow10.flatMap (cI .u64)))]) [4] (by kernel_rfl) [.keep [4,1000000,1000001]] (by kernel_rfl) (by kernel_rfl) (by kernel_rfl) (by show _=_; kernel_rfl) (by exact ⟨⟨by kernel_rfl,by kernel_rfl⟩,⟨⟨by kernel_rfl,by kernel_rfl⟩,trivial⟩⟩) a w hm)
  · have h:=cond_ff hc h
    refine T_skip fun a w hm=>then_norm (((?_:T Tryz.prog e 141 _ _ _) a w hm))
    refine T_seqk ?_
    obtain ⟨y5,hy2,h⟩:=call_ok h
    obtain ⟨y6,hy3,h⟩:=call_ok h
    refine T_reg [(1,{ es:=some (([a0]).map cS_PrepressRule) }),(2,{ res:=dI y5 }),(6,{ res:=dI y6 })] [1,2,24,1000000,1000001] [(24,dB (bif (y5 != (0:Int)) then true else (y6 != (0:Int))))] [(1,(([a0]).map cS_PrepressRule)=(([a0]).map cS_PrepressRule)),(0,ACall Tryz.prog 8 [.d (.sl 6 (([a0]).map cS_PrepressRule))] [] (dI y5) []),(2,((((y5 != (0:Int)) == false) && true)=true→True)),(0,((((y5 != (0:Int)) == false) && true)=true→ACall Tryz.prog 12 [.d (.sl 2 (a1.map cS_PrepressFact))] [] (dI y6) [])),(0,((((y5 != (0:Int)) == false) && true)=true→True))] 1 (by kernel_rfl) (⟨rfl,ref3_RulesError_ok hy2,(fun hg=>trivial),(fun hg=>ref3_FactsError_ok (gcall_ok hg hy3)),(fun hg=>trivial)⟩) ?_
    refine T_cond (bif (y5 != (0:Int)) then true else (y6 != (0:Int))) (by kernel_rfl) (fun hc=>?_) (fun hc=>?_)
    · have h:=cond_tt hc h
      refine T_reg [] [4,1000000,1000001] [(4,dB true)] [] 1 (by kernel_rfl) (trivial) ?_
      obtain hs:=Option.some.inj h; subst hs
      refine T_ret fun a w hm=>then_ret (T_return (fr':=[(4,dB true),(1000000,.glo 0 ([gm0].flatMap (cI .i64))),(1000001,.glo 3 (glob_internal_strconv_uint64pow10.flatMap (cI .u64)))]) [4] (by kernel_rfl) [.keep [4,1000000,1000001]] (by kernel_rfl) (by kernel_rfl) (by kernel_rfl) (by show _=_; kernel_rfl) (by exact ⟨⟨by kernel_rfl,by kernel_rfl⟩,⟨⟨by kernel_rfl,by kernel_rfl⟩,trivial⟩⟩) a w hm)
    · have h:=cond_ff hc h
      refine T_skip fun a w hm=>then_norm (((?_:T Tryz.prog e 141 _ _ _) a w hm))
      obtain ⟨y1,hy4,h⟩:=call_ok h
      refine T_reg [(1,{ es:=some (([a0]).map cS_PrepressRule) }),(3,{ frz:=[(27,0)],res:=.tup [oW5 y1.1,dI y1.2],vout:=[.glo 0 ([gm0].flatMap (cI .i64)),.glo 3 (glob_internal_strconv_uint64pow10.flatMap (cI .u64))],xs:=[1000000,1000001] })] [1,2,5,6,1000000,1000001] [(5,oW5 y1.1),(6,dI y1.2)] [(1,(([a0]).map cS_PrepressRule)=(([a0]).map cS_PrepressRule)),(1,ACall Tryz.prog 14 [.d (.sl 6 (([a0]).map cS_PrepressRule)),.d (.sl 2 (a1.map cS_PrepressFact))] [.glo 0 ([gm0].flatMap (cI .i64)),.glo 3 (glob_internal_strconv_uint64pow10.flatMap (cI .u64))] (.tup [oW5 y1.1,dI y1.2]) [.glo 0 ([gm0].flatMap (cI .i64)),.glo 3 (glob_internal_strconv_uint64pow10.flatMap (cI .u64))])] 5 (by kernel_rfl) (⟨rfl,prepress_Judge_ok hy4⟩) ?_
      obtain ⟨y7,hy5,h⟩:=call_ok h
      refine T_reg [(3,{ res:=dI y7 })] [1,2,5,6,7,1000000,1000001] [(7,dI y7)] [(3,ACall Tryz.prog 13 [.agg (cS_PrepressCond a0.f1),.d (.sl 2 (a1.map cS_PrepressFact))] [] (dI y7) [])] 1 (by kernel_rfl) (ref3_Told_ok hy5) ?_
      refine T_seqk ?_
      obtain ⟨z5,hz1,h⟩:=lett_ok h
      refine T_reg [(4,{ rw:=some (dI (y1.1.length:Int)) }),(9,{ rw:=some (dB z5) }),(12,{ rw:=some (dI (y1.1.length:Int)) })] [1,2,5,7,50,1000000,1000001] [(50,dB (bif z5 then true else (decide ((y1.1.length:Int) > (1:Int)))))] [(3,((((y1.2 != (0:Int)) == false) && true)=true→True)),(0,((((y1.2 != (0:Int)) == false) && true)=true→True∧dI ((y1.1.map cS_PrepressFinding).length:Int)=dI (y1.1.length:Int))),(0,((((y1.2 != (0:Int)) == false) && true)=true→True)),(0,((((y1.2 != (0:Int)) == false) && true)=true→True)),(0,((((y1.2 != (0:Int)) == false) && true)=true→True)),(0,((((y1.2 != (0:Int)) == false) && true)=true→True)),(0,(True)∧dB (bif (y1.2 != (0:Int)) then true else (!(((y1.1.length:Int) == (0:Int)) == (y7 == (1:Int)))))=dB z5),(1,(((z5 == false) && true)=true→True)),(0,(((z5 == false) && true)=true→True∧dI ((y1.1.map cS_PrepressFinding).length:Int)=dI (y1.1.length:Int))),(0,(((z5 == false) && true)=true→True))] 1 (by kernel_rfl) (⟨(fun hg=>trivial),(fun hg=>len_ok cS_PrepressFinding),(fun hg=>trivial),(fun hg=>trivial),(fun hg=>trivial),(fun hg=>trivial),⟨trivial,(by subst hz1; rfl)⟩,(fun hg=>trivial),(fun hg=>len_ok cS_PrepressFinding),(fun hg=>trivial)⟩) ?_
      refine T_cond (bif z5 then true else (decide ((y1.1.length:Int) > (1:Int)))) (by kernel_rfl) (fun hc=>?_) (fun hc=>?_)
      · have h:=cond_tt hc h
        refine T_reg [] [4,1000000,1000001] [(4,dB false)] [] 1 (by kernel_rfl) (trivial) ?_
        obtain hs:=Option.some.inj h; subst hs
        refine T_ret fun a w hm=>then_ret (T_return (fr':=[(4,dB false),(1000000,.glo 0 ([gm0].flatMap (cI .i64))),(1000001,.glo 3 (glob_internal_strconv_uint64pow10.flatMap (cI .u64)))]) [4] (by kernel_rfl) [.keep [4,1000000,1000001]] (by kernel_rfl) (by kernel_rfl) (by kernel_rfl) (by show _=_; kernel_rfl) (by exact ⟨⟨by kernel_rfl,by kernel_rfl⟩,⟨⟨by kernel_rfl,by kernel_rfl⟩,trivial⟩⟩) a w hm)
      · have h:=cond_ff hc h
        refine T_skip fun a w hm=>then_norm (((?_:T Tryz.prog e 141 _ _ _) a w hm))
        refine T_seqk ?_
        refine T_reg [] [1,2,5,52,1000000,1000001] [(52,dB (y7 != (2:Int)))] [] 2 (by kernel_rfl) (trivial) ?_
        refine T_cond (y7 != (2:Int)) (by kernel_rfl) (fun hc=>?_) (fun hc=>?_)
        · have h:=cond_tt hc h
          obtain ⟨hp1,h⟩:=chk_ok h
          obtain ⟨z6,hz2,h⟩:=lett_ok h
          refine T_reg [(1,{ rw:=some (dI (y1.1.length:Int)) }),(7,{ cs:=cS_PrepressFinding (y1.1.getD (0:Int).toNat z_PrepressFinding) }),(9,{ rw:=some (dB z6) })] [4,1000000,1000001] [(4,dB z6)] [(1,True∧dI ((y1.1.map cS_PrepressFinding).length:Int)=dI (y1.1.length:Int)),(2,(((((y1.1.length:Int) == (0:Int)) == false) && true)=true→True)),(0,(((((y1.1.length:Int) == (0:Int)) == false) && true)=true→0≤(0:Int)∧(0:Int) < (y1.1.map cS_PrepressFinding).length)),(0,(((((y1.1.length:Int) == (0:Int)) == false) && true)=true→True)),(0,(((((y1.1.length:Int) == (0:Int)) == false) && true)=true→(y1.1.map cS_PrepressFinding)[(0:Int).toNat]? = some (cS_PrepressFinding (y1.1.getD (0:Int).toNat z_PrepressFinding)))),(0,(((((y1.1.length:Int) == (0:Int)) == false) && true)=true→True)),(0,(True)∧dB (bif ((y1.1.length:Int) == (0:Int)) then true else (!((y1.1.getD (0:Int).toNat z_PrepressFinding).f1)))=dB z6)] 1 (by kernel_rfl) (⟨len_ok cS_PrepressFinding,(fun hg=>trivial),(fun hg=>own_idx cS_PrepressFinding (hp1 hg)),(fun hg=>trivial),(fun hg=>(idx_ok (d:=z_PrepressFinding) cS_PrepressFinding (hp1 hg)).2),(fun hg=>trivial),⟨trivial,(by subst hz2; rfl)⟩⟩) ?_
          obtain hs:=Option.some.inj h; subst hs
          refine T_ret fun a w hm=>then_ret (T_return (fr':=[(4,dB z6),(1000000,.glo 0 ([gm0].flatMap (cI .i64))),(1000001,.glo 3 (glob_internal_strconv_uint64pow10.flatMap (cI .u64)))]) [4] (by kernel_rfl) [.keep [4,1000000,1000001]] (by kernel_rfl) (by kernel_rfl) (by kernel_rfl) (by show _=_; kernel_rfl) (by exact ⟨⟨by kernel_rfl,by kernel_rfl⟩,⟨⟨by kernel_rfl,by kernel_rfl⟩,trivial⟩⟩) a w hm)
        · have h:=cond_ff hc h
          refine T_skip fun a w hm=>then_norm (((?_:T Tryz.prog e 141 _ _ _) a w hm))
          refine T_seqk ?_
          obtain ⟨hp2,h⟩:=chk_ok h
          obtain ⟨hp3,h⟩:=chk_ok h
          obtain ⟨y8,hy6,h⟩:=call_ok h
          refine T_reg [(3,{ cs:=cS_PrepressFinding (y1.1.getD (0:Int).toNat z_PrepressFinding) }),(9,{ cs:=cS_PrepressFinding (y1.1.getD (0:Int).toNat z_PrepressFinding) }),(10,{ res:=dB y8 })] [1,2,5,75,1000000,1000001] [(75,dB (bif (!((y1.1.getD (0:Int).toNat z_PrepressFinding).f1)) then true else (!y8)))] [(1,0≤(0:Int)∧(0:Int) < (y1.1.map cS_PrepressFinding).length),(1,(y1.1.map cS_PrepressFinding)[(0:Int).toNat]? = some (cS_PrepressFinding (y1.1.getD (0:Int).toNat z_PrepressFinding))),(2,((((!((y1.1.getD (0:Int).toNat z_PrepressFinding).f1)) == false) && true)=true→True)),(0,((((!((y1.1.getD (0:Int).toNat z_PrepressFinding).f1)) == false) && true)=true→0≤(0:Int)∧(0:Int) < (y1.1.map cS_PrepressFinding).length)),(0,((((!((y1.1.getD (0:Int).toNat z_PrepressFinding).f1)) == false) && true)=true→True)),(0,((((!((y1.1.getD (0:Int).toNat z_PrepressFinding).f1)) == false) && true)=true→(y1.1.map cS_PrepressFinding)[(0:Int).toNat]? = some (cS_PrepressFinding (y1.1.getD (0:Int).toNat z_PrepressFinding)))),(0,((((!((y1.1.getD (0:Int).toNat z_PrepressFinding).f1)) == false) && true)=true→ACall Tryz.prog 15 [.d (.sl 1 (((y1.1.getD (0:Int).toNat z_PrepressFinding).f2).map cS))] [] (dB y8) [])),(0,((((!((y1.1.getD (0:Int).toNat z_PrepressFinding).f1)) == false) && true)=true→True))] 1 (by kernel_rfl) (⟨own_idx cS_PrepressFinding hp2,(idx_ok (d:=z_PrepressFinding) cS_PrepressFinding hp2).2,(fun hg=>trivial),(fun hg=>own_idx cS_PrepressFinding (hp3 hg)),(fun hg=>trivial),(fun hg=>(idx_ok (d:=z_PrepressFinding) cS_PrepressFinding (hp3 hg)).2),(fun hg=>slices_IsSorted_string_ok (gcall_ok hg hy6)),(fun hg=>trivial)⟩) ?_
          refine T_cond (bif (!((y1.1.getD (0:Int).toNat z_PrepressFinding).f1)) then true else (!y8)) (by kernel_rfl) (fun hc=>?_) (fun hc=>?_)
          · have h:=cond_tt hc h
            refine T_reg [] [4,1000000,1000001] [(4,dB false)] [] 1 (by kernel_rfl) (trivial) ?_
            obtain hs:=Option.some.inj h; subst hs
            refine T_ret fun a w hm=>then_ret (T_return (fr':=[(4,dB false),(1000000,.glo 0 ([gm0].flatMap (cI .i64))),(1000001,.glo 3 (glob_internal_strconv_uint64pow10.flatMap (cI .u64)))]) [4] (by kernel_rfl) [.keep [4,1000000,1000001]] (by kernel_rfl) (by kernel_rfl) (by kernel_rfl) (by show _=_; kernel_rfl) (by exact ⟨⟨by kernel_rfl,by kernel_rfl⟩,⟨⟨by kernel_rfl,by kernel_rfl⟩,trivial⟩⟩) a w hm)
          · have h:=cond_ff hc h
            refine T_skip fun a w hm=>then_norm (((?_:T Tryz.prog e 141 _ _ _) a w hm))
            refine T_seqk ?_
            obtain ⟨hp4,h⟩:=chk_ok h
            refine T_reg [(3,{ cs:=cS_PrepressFinding (y1.1.getD (0:Int).toNat z_PrepressFinding) }),(4,{ rw:=some (dI (((y1.1.getD (0:Int).toNat z_PrepressFinding).f2).length:Int)) })] [1,2,5,79,80,81,1000000,1000001] [(79,.d (.sl 1 (((y1.1.getD (0:Int).toNat z_PrepressFinding).f2).map cS))),(80,dI (((y1.1.getD (0:Int).toNat z_PrepressFinding).f2).length:Int)),(81,dI (0:Int))] [(1,0≤(0:Int)∧(0:Int) < (y1.1.map cS_PrepressFinding).length),(1,(y1.1.map cS_PrepressFinding)[(0:Int).toNat]? = some (cS_PrepressFinding (y1.1.getD (0:Int).toNat z_PrepressFinding))),(0,True∧dI ((((y1.1.getD (0:Int).toNat z_PrepressFinding).f2).map cS).length:Int)=dI (((y1.1.getD (0:Int).toNat z_PrepressFinding).f2).length:Int))] 1 (by kernel_rfl) (⟨own_idx cS_PrepressFinding hp4,(idx_ok (d:=z_PrepressFinding) cS_PrepressFinding hp4).2,len_ok cS⟩) ?_
            refine T_joinEt h (fun (p:Unit)=>[(1,.d (.sl 2 (a1.map cS_PrepressFact))),(2,bx_PrepressRule a0),(5,oW5 y1.1),(1000000,.glo 0 ([gm0].flatMap (cI .i64))),(1000001,.glo 3 (glob_internal_strconv_uint64pow10.flatMap (cI .u64)))]) (fun s h hk1=>?_) (fun s h=>?_)
            · refine T_co [.keep [1,2,5,79,80,81,1000000,1000001]] ((fun (p:Int)=>[(1,.d (.sl 2 (a1.map cS_PrepressFact))),(2,bx_PrepressRule a0),(5,oW5 y1.1),(79,.d (.sl 1 (((y1.1.getD (0:Int).toNat z_PrepressFinding).f2).map cS))),(80,dI (((y1.1.getD (0:Int).toNat z_PrepressFinding).f2).length:Int)),(81,dI p),(1000000,.glo 0 ([gm0].flatMap (cI .i64))),(1000001,.glo 3 (glob_internal_strconv_uint64pow10.flatMap (cI .u64)))]) (0:Int)) (by show _=_; kernel_rfl) ?_
              refine T_block ?_
              refine T_loopF (ι:=Int) (fun (p:Int)=>[(1,.d (.sl 2 (a1.map cS_PrepressFact))),(2,bx_PrepressRule a0),(5,oW5 y1.1),(79,.d (.sl 1 (((y1.1.getD (0:Int).toNat z_PrepressFinding).f2).map cS))),(80,dI (((y1.1.getD (0:Int).toNat z_PrepressFinding).f2).length:Int)),(81,dI p),(1000000,.glo 0 ([gm0].flatMap (cI .i64))),(1000001,.glo 3 (glob_internal_strconv_uint64pow10.flatMap (cI .u64)))]) (fun n p=>law3_PrepressFindsOpenFacts_L0 F a0 a1 y1 n p=some s) (fun i hh=>by simp [law3_PrepressFindsOpenFacts_L0] at hh) (fun n v1 h=>?_) F (0:Int) h
              have h:law3_PrepressFindsOpenFacts_L0 F a0 a1 y1 (n+1) v1=some s:=h
              rw [law3_PrepressFindsOpenFacts_L0] at h
              obtain ⟨z1,hz3,h⟩:=lett_ok h
              refine T_reg [(0,{ rw:=some (dB z1) })] [1,2,5,79,80,81,82,1000000,1000001] [(82,dB z1)] [(0,(True)∧dB (decide (v1 < (((y1.1.getD (0:Int).toNat z_PrepressFinding).f2).length:Int)))=dB z1)] 0 (by kernel_rfl) (⟨trivial,(by subst hz3; rfl)⟩) ?_
              refine T_seqk ?_
              refine T_cond z1 (by kernel_rfl) (fun hc=>?_) (fun hc=>?_)
              · have h:=cond_tt hc h
                refine T_skip fun a w hm=>then_norm (((?_:T Tryz.prog e 141 _ _ _) a w hm))
                refine T_seqk ?_
                refine T_block ?_
                obtain ⟨hp5,h⟩:=chk_ok h
                refine T_reg [(1,{ cs:=cS (((y1.1.getD (0:Int).toNat z_PrepressFinding).f2).getD v1.toNat []) })] [1,2,5,8,9,79,80,81,1000000,1000001] [(8,dI v1),(9,.box [.d (.str (((y1.1.getD (0:Int).toNat z_PrepressFinding).f2).getD v1.toNat []))])] [(1,0≤v1∧(((y1.1.getD (0:Int).toNat z_PrepressFinding).f2).map cS)[v1.toNat]? = some (cS (((y1.1.getD (0:Int).toNat z_PrepressFinding).f2).getD v1.toNat [])))] 4 (by kernel_rfl) (idx_ok (d:=[]) cS hp5) ?_
                obtain ⟨y2,hy7,h⟩:=call_ok h
                refine T_reg [(2,{ res:=dB y2.1,vout:=[.box [.d (.str y2.2)]],xs:=[9] })] [1,2,5,8,9,10,79,80,81,1000000,1000001] [(9,.box [.d (.str y2.2)]),(10,dB y2.1)] [(2,ACall Tryz.prog 16 [.d (.sl 2 (a1.map cS_PrepressFact)),.clo 17 [.bp 1000000 0]] [.box [.d (.str (((y1.1.getD (0:Int).toNat z_PrepressFinding).f2).getD v1.toNat []))]] (dB y2.1) [.box [.d (.str y2.2)]])] 1 (by kernel_rfl) (slices_ContainsFunc_PrepressFact_ok hy7) ?_
                obtain ⟨y3,hy8,h⟩:=call_ok h
                obtain ⟨hp6,h⟩:=chk_ok h
                obtain ⟨hp7,h⟩:=chk_ok h
                obtain ⟨hp8,h⟩:=chk_ok h
                obtain ⟨z2,hz4,h⟩:=lett_ok h
                obtain ⟨z3,hz5,h⟩:=lett_ok h
                refine T_drawX mixed 6 (.take 0 (.take 1 (.all (.alt 2 (.all (.alt 3 (.all (.alt 4 (.all (.alt 5 (.all (.alt 6 (.take 7 (.take 8 (.take 9 (.take 10 (.take 11 (.take 12 (.take 13 (.take 14 (.take 15 (.take 16 (.take 17 (.take 18 (.take 19 (.take 20 (.take 21 (.take 22 (.take 23 (.take 24 (.take 25 (.take 26 .done)))))))))))))))))))) .stop)) .stop)) .stop)) (.alt 4 (.all (.alt 3 (.all (.alt 5 (.all (.alt 6 (.take 7 (.take 8 (.take 9 (.take 10 (.take 11 (.take 12 (.take 13 (.take 14 (.take 15 (.take 16 (.take 17 (.take 18 (.take 19 (.take 20 (.take 21 (.take 22 (.take 23 (.take 24 (.take 25 (.take 26 .done)))))))))))))))))))) .stop)) .stop)) (.alt 5 (.all (.alt 3 (.all (.alt 6 (.take 7 (.take 8 (.take 9 (.take 10 (.take 11 (.take 12 (.take 13 (.take 14 (.take 15 (.take 16 (.take 17 (.take 18 (.take 19 (.take 20 (.take 21 (.take 22 (.take 23 (.take 24 (.take 25 (.take 26 .done)))))))))))))))))))) .stop)) .stop)) .stop))) .stop))) (.alt 4 (.all (.alt 2 (.all (.alt 3 (.all (.alt 5 (.all (.alt 6 (.take 7 (.take 8 (.take 9 (.take 10 (.take 11 (.take 12 (.take 13 (.take 14 (.take 15 (.take 16 (.take 17 (.take 18 (.take 19 (.take 20 (.take 21 (.take 22 (.take 23 (.take 24 (.take 25 (.take 26 .done)))))))))))))))))))) .stop)) .stop)) (.alt 5 (.all (.alt 3 (.all (.alt 6 (.take 7 (.take 8 (.take 9 (.take 10 (.take 11 (.take 12 (.take 13 (.take 14 (.take 15 (.take 16 (.take 17 (.take 18 (.take 19 (.take 20 (.take 21 (.take 22 (.take 23 (.take 24 (.take 25 (.take 26 .done)))))))))))))))))))) .stop)) .stop)) .stop))) (.alt 5 (.all (.alt 2 (.all (.alt 3 (.all (.alt 6 (.take 7 (.take 8 (.take 9 (.take 10 (.take 11 (.take 12 (.take 13 (.take 14 (.take 15 (.take 16 (.take 17 (.take 18 (.take 19 (.take 20 (.take 21 (.take 22 (.take 23 (.take 24 (.take 25 (.take 26 .done)))))))))))))))))))) .stop)) .stop)) .stop)) .stop))) .stop))))) ([0,1,2,6,2,18,42,66,130,258,514,1088,2048,6144,10240,16384,49152,81920,147456,16384,540672,1327104,2113536,16384,12599296,16795648,33556480],[0,1,2,6,2,18,42,66,130,258,514,1024,2048,6144,10240,16384,49152,81920,147456,16384,540672,1327104,2113536,16384,12599296,16795648,33556480]) 134217603 [(5,{ es:=some (([y2.2]).map cS) }),(6,{ res:=.d (.sl 1 (y3.map cB)) }),(7,{ cs:=cB (y3.getD (0:Int).toNat false) }),(18,{ cs:=cS_PrepressFinding (y1.1.getD (0:Int).toNat z_PrepressFinding) }),(21,{ cs:=cS (((y1.1.getD (0:Int).toNat z_PrepressFinding).f2).getD (IntKind.i64.wrap (v1 - (1:Int))).toNat []) }),(22,{ rw:=some (.d (.str z2)) }),(26,{ rw:=some (dB z3) })] [1,2,5,79,80,81,115,1000000,1000001] [] [(1,.d (.sl 2 (a1.map cS_PrepressFact))),(2,bx_PrepressRule a0),(5,oW5 y1.1),(79,.d (.sl 1 (((y1.1.getD (0:Int).toNat z_PrepressFinding).f2).map cS))),(80,dI (((y1.1.getD (0:Int).toNat z_PrepressFinding).f2).length:Int)),(81,dI v1),(115,dB z3),(1000000,.glo 0 ([gm0].flatMap (cI .i64))),(1000001,.glo 3 (glob_internal_strconv_uint64pow10.flatMap (cI .u64)))] ((fun (o2:Prop)=>fun (o3:Prop)=>fun (o4:Prop)=>fun (o5:Prop)=>fun (o6:Prop)=>fun (o7:Prop)=>fun (o8:Prop)=>fun (o9:Prop)=>fun (o12:Prop)=>fun (o13:Prop)=>fun (o14:Prop)=>fun (o15:Prop)=>fun (o16:Prop)=>fun (o17:Prop)=>fun (o18:Prop)=>fun (o19:Prop)=>fun (o20:Prop)=>fun (o21:Prop)=>fun (o22:Prop)=>fun (o23:Prop)=>fun (o24:Prop)=>fun (o25:Prop)=>fun (o26:Prop)=>[(2,o2),(0,o3),(0,o4),(0,o5),(0,o6),(0,o7),(0,o8),(0,o9),(2,o12),(0,o13),(0,o14),(0,o15),(0,o16),(0,o17),(0,o18),(0,o19),(0,o20),(0,o21),(0,o22),(0,o23),(0,o24),(0,o25),(0,o26),(0,o4),(0,o3),(0,o5),(0,o6),(0,o7),(0,o8),(0,o9),(2,o12),(0,o13),(0,o14),(0,o15),(0,o16),(0,o17),(0,o18),(0,o19),(0,o20),(0,o21),(0,o22),(0,o23),(0,o24),(0,o25),(0,o26),(0,o5),(0,o3),(0,o6),(0,o7),(0,o8),(0,o9),(2,o12),(0,o13),(0,o14),(0,o15),(0,o16),(0,o17),(0,o18),(0,o19),(0,o20),(0,o21),(0,o22),(0,o23),(0,o24),(0,o25),(0,o26),(0,o4),(0,o2),(0,o3),(0,o5),(0,o6),(0,o7),(0,o8),(0,o9),(2,o12),(0,o13),(0,o14),(0,o15),(0,o16),(0,o17),(0,o18),(0,o19),(0,o20),(0,o21),(0,o22),(0,o23),(0,o24),(0,o25),(0,o26),(0,o5),(0,o3),(0,o6),(0,o7),(0,o8),(0,o9),(2,o12),(0,o13),(0,o14),(0,o15),(0,o16),(0,o17),(0,o18),(0,o19),(0,o20),(0,o21),(0,o22),(0,o23),(0,o24),(0,o25),(0,o26),(0,o5),(0,o2),(0,o3),(0,o6),(0,o7),(0,o8),(0,o9),(2,o12),(0,o13),(0,o14),(0,o15),(0,o16),(0,o17),(0,o18),(0,o19),(0,o20),(0,o21),(0,o22),(0,o23),(0,o24),(0,o25),(0,o26)]) ((((y2.1 == false) && true)=true→True)) ((((y2.1 == false) && true)=true→True)) ((((y2.1 == false) && true)=true→True)) ((((y2.1 == false) && true)=true→(([y2.2]).map cS)=(([y2.2]).map cS))) ((((y2.1 == false) && true)=true→ACall Tryz.prog 18 [.agg (cS_PrepressCond a0.f1),.d (.sl 1 (([y2.2]).map cS))] [] (.d (.sl 1 (y3.map cB))) [])) ((((y2.1 == false) && true)=true→0≤(0:Int)∧(y3.map cB)[(0:Int).toNat]? = some (cB (y3.getD (0:Int).toNat false)))) ((((y2.1 == false) && true)=true→True)) ((((y2.1 == false) && true)=true→True)) (((((bif y2.1 then true else (!(y3.getD (0:Int).toNat false))) == false) && true)=true→True)) (((((bif y2.1 then true else (!(y3.getD (0:Int).toNat false))) == false) && true)=true→True)) (((((bif y2.1 then true else (!(y3.getD (0:Int).toNat false))) == false) && true)=true→True)) (((((decide (v1 > (0:Int))) == true) && (((bif y2.1 then true else (!(y3.getD (0:Int).toNat false))) == false) && true))=true→True)) (((((decide (v1 > (0:Int))) == true) && (((bif y2.1 then true else (!(y3.getD (0:Int).toNat false))) == false) && true))=true→0≤(0:Int)∧(0:Int) < (y1.1.map cS_PrepressFinding).length)) (((((decide (v1 > (0:Int))) == true) && (((bif y2.1 then true else (!(y3.getD (0:Int).toNat false))) == false) && true))=true→True)) (((((decide (v1 > (0:Int))) == true) && (((bif y2.1 then true else (!(y3.getD (0:Int).toNat false))) == false) && true))=true→(y1.1.map cS_PrepressFinding)[(0:Int).toNat]? = some (cS_PrepressFinding (y1.1.getD (0:Int).toNat z_PrepressFinding)))) (((((decide (v1 > (0:Int))) == true) && (((bif y2.1 then true else (!(y3.getD (0:Int).toNat false))) == false) && true))=true→True)) (((((decide (v1 > (0:Int))) == true) && (((bif y2.1 then true else (!(y3.getD (0:Int).toNat false))) == false) && true))=true→True)) (((((decide (v1 > (0:Int))) == true) && (((bif y2.1 then true else (!(y3.getD (0:Int).toNat false))) == false) && true))=true→0≤(IntKind.i64.wrap (v1 - (1:Int)))∧(((y1.1.getD (0:Int).toNat z_PrepressFinding).f2).map cS)[(IntKind.i64.wrap (v1 - (1:Int))).toNat]? = some (cS (((y1.1.getD (0:Int).toNat z_PrepressFinding).f2).getD (IntKind.i64.wrap (v1 - (1:Int))).toNat [])))) (((((decide (v1 > (0:Int))) == true) && (((bif y2.1 then true else (!(y3.getD (0:Int).toNat false))) == false) && true))=true→(True)∧AV.d (.str (((y1.1.getD (0:Int).toNat z_PrepressFinding).f2).getD (IntKind.i64.wrap (v1 - (1:Int))).toNat []))=.d (.str z2))) (((((decide (v1 > (0:Int))) == true) && (((bif y2.1 then true else (!(y3.getD (0:Int).toNat false))) == false) && true))=true→True)) (((((decide (v1 > (0:Int))) == true) && (((bif y2.1 then true else (!(y3.getD (0:Int).toNat false))) == false) && true))=true→True)) (((((bif y2.1 then true else (!(y3.getD (0:Int).toNat false))) == false) && true)=true→True)) ((True)∧dB (bif (bif y2.1 then true else (!(y3.getD (0:Int).toNat false))) then true else (bif (decide (v1 > (0:Int))) then (z2 == y2.2) else false))=dB z3)) 0 (by kernel_rfl) (by kernel_rfl) (by kernel_rfl) (have p2:=(fun hg=>trivial); have p3:=(fun hg=>trivial); have p4:=(fun hg=>trivial); have p5:=(fun hg=>rfl); have p6:=(fun hg=>ACall.thawRes (ref3_Mentioned_ok (gcall_ok hg hy8))); have p7:=(fun hg=>idx_ok (d:=false) cB (hp6 hg)); have p8:=(fun hg=>trivial); have p9:=(fun hg=>trivial); have p12:=(fun hg=>trivial); have p13:=(fun hg=>trivial); have p14:=(fun hg=>trivial); have p15:=(fun hg=>trivial); have p16:=(fun hg=>own_idx cS_PrepressFinding (hp7 hg)); have p17:=(fun hg=>trivial); have p18:=(fun hg=>(idx_ok (d:=z_PrepressFinding) cS_PrepressFinding (hp7 hg)).2); have p19:=(fun hg=>trivial); have p20:=(fun hg=>trivial); have p21:=(fun hg=>idx_ok (d:=[]) cS (hp8 hg)); have p22:=(fun hg=>⟨trivial,(by subst hz4; rfl)⟩); have p23:=(fun hg=>trivial); have p24:=(fun hg=>trivial); have p25:=(fun hg=>trivial); have p26:=⟨trivial,(by subst hz5; rfl)⟩; ⟨p2,p3,p4,p5,p6,p7,p8,p9,p12,p13,p14,p15,p16,p17,p18,p19,p20,p21,p22,p23,p24,p25,p26,p4,p3,p5,p6,p7,p8,p9,p12,p13,p14,p15,p16,p17,p18,p19,p20,p21,p22,p23,p24,p25,p26,p5,p3,p6,p7,p8,p9,p12,p13,p14,p15,p16,p17,p18,p19,p20,p21,p22,p23,p24,p25,p26,p4,p2,p3,p5,p6,p7,p8,p9,p12,p13,p14,p15,p16,p17,p18,p19,p20,p21,p22,p23,p24,p25,p26,p5,p3,p6,p7,p8,p9,p12,p13,p14,p15,p16,p17,p18,p19,p20,p21,p22,p23,p24,p25,p26,p5,p2,p3,p6,p7,p8,p9,p12,p13,p14,p15,p16,p17,p18,p19,p20,p21,p22,p23,p24,p25,p26⟩) ?_
                refine T_cond z3 (by kernel_rfl) (fun hc=>?_) (fun hc=>?_)
                · have h:=cond_tt hc h
                  refine T_reg [] [4,1000000,1000001] [(4,dB false)] [] 1 (by kernel_rfl) (trivial) ?_
                  obtain hs:=Option.some.inj h; subst hs
                  have h:=callE_esc hk1
                  obtain hs:=Option.some.inj h; subst hs
                  refine T_ret fun a w hm=>inBlock_ret (then_ret (then_ret (inBlock_ret (then_ret (then_ret (T_return (fr':=[(4,dB false),(1000000,.glo 0 ([gm0].flatMap (cI .i64))),(1000001,.glo 3 (glob_internal_strconv_uint64pow10.flatMap (cI .u64)))]) [4] (by kernel_rfl) [.keep [4,1000000,1000001]] (by kernel_rfl) (by kernel_rfl) (by kernel_rfl) (by show _=_; kernel_rfl) (by exact ⟨⟨by kernel_rfl,by kernel_rfl⟩,⟨⟨by kernel_rfl,by kernel_rfl⟩,trivial⟩⟩) a w hm))))))
                · have h:=cond_ff hc h
                  refine T_skip fun a w hm=>inBlock_norm (then_norm (((?_:T Tryz.prog e 141 _ _ _) a w hm)))
                  refine T_reg_end [] [1,2,5,79,80,81,1000000,1000001] [(81,dI (IntKind.i64.wrap (v1+(1:Int))))] [] 2 (by kernel_rfl) (trivial) fun a w hm=>then_norm (⟨IntKind.i64.wrap (v1+(1:Int)),h,hm.co (cs:=[.keep [1,2,5,79,80,81,1000000,1000001]]) (by show _=_; kernel_rfl)⟩)
              · have h:=cond_ff hc h
                obtain hs:=Option.some.inj h; subst hs
                refine T_exit fun a w hm=>then_exit (then_exit (inBlock_exit (then_norm (⟨_,rfl,hm.co (cs:=[.keep [1,2,5,1000000,1000001]]) (by show _=_; kernel_rfl)⟩))))
            · skip
              refine fun a w hm=>then_norm (((?_:T Tryz.prog e 141 _ _ _) a w hm))
              obtain ⟨y9,hy9,h⟩:=call_ok h
              refine T_reg [(1,{ res:=oW4 y9 })] [2,5,11,1000000,1000001] [(11,oW4 y9)] [(1,ACall Tryz.prog 19 [.d (.sl 2 (a1.map cS_PrepressFact))] [] (oW4 y9) [])] 1 (by kernel_rfl) (slices_Clone_PrepressFact'_ok hy9) ?_
              refine T_seqk ?_
              obtain ⟨hp9,h⟩:=chk_ok h
              refine T_reg [(3,{ cs:=cS_PrepressFinding (y1.1.getD (0:Int).toNat z_PrepressFinding) }),(4,{ rw:=some (dI (((y1.1.getD (0:Int).toNat z_PrepressFinding).f2).length:Int)) })] [2,11,122,123,124,1000000,1000001] [(122,.d (.sl 1 (((y1.1.getD (0:Int).toNat z_PrepressFinding).f2).map cS))),(123,dI (((y1.1.getD (0:Int).toNat z_PrepressFinding).f2).length:Int)),(124,dI (0:Int))] [(1,0≤(0:Int)∧(0:Int) < (y1.1.map cS_PrepressFinding).length),(1,(y1.1.map cS_PrepressFinding)[(0:Int).toNat]? = some (cS_PrepressFinding (y1.1.getD (0:Int).toNat z_PrepressFinding))),(0,True∧dI ((((y1.1.getD (0:Int).toNat z_PrepressFinding).f2).map cS).length:Int)=dI (((y1.1.getD (0:Int).toNat z_PrepressFinding).f2).length:Int))] 1 (by kernel_rfl) (⟨own_idx cS_PrepressFinding hp9,(idx_ok (d:=z_PrepressFinding) cS_PrepressFinding hp9).2,len_ok cS⟩) ?_
              refine T_joinct h (fun (p:(List S_PrepressFact))=>[(2,bx_PrepressRule a0),(11,oW4 p),(1000000,.glo 0 ([gm0].flatMap (cI .i64))),(1000001,.glo 3 (glob_internal_strconv_uint64pow10.flatMap (cI .u64)))]) (fun s h=>?_) (fun v4 h=>?_)
              · refine T_co [.keep [2,11,122,123,124,1000000,1000001]] ((fun (p:(List S_PrepressFact)×Int)=>[(2,bx_PrepressRule a0),(11,oW4 p.1),(122,.d (.sl 1 (((y1.1.getD (0:Int).toNat z_PrepressFinding).f2).map cS))),(123,dI (((y1.1.getD (0:Int).toNat z_PrepressFinding).f2).length:Int)),(124,dI p.2),(1000000,.glo 0 ([gm0].flatMap (cI .i64))),(1000001,.glo 3 (glob_internal_strconv_uint64pow10.flatMap (cI .u64)))]) (y9,(0:Int))) (by show _=_; kernel_rfl) ?_
                refine T_block ?_
                refine T_loopF (ι:=(List S_PrepressFact)×Int) (fun (p:(List S_PrepressFact)×Int)=>[(2,bx_PrepressRule a0),(11,oW4 p.1),(122,.d (.sl 1 (((y1.1.getD (0:Int).toNat z_PrepressFinding).f2).map cS))),(123,dI (((y1.1.getD (0:Int).toNat z_PrepressFinding).f2).length:Int)),(124,dI p.2),(1000000,.glo 0 ([gm0].flatMap (cI .i64))),(1000001,.glo 3 (glob_internal_strconv_uint64pow10.flatMap (cI .u64)))]) (fun n p=>law3_PrepressFindsOpenFacts_L2 F y1 n p.1 p.2=some s) (fun i hh=>by simp [law3_PrepressFindsOpenFacts_L2] at hh) (fun n p h=>?_) F (y9,(0:Int)) h
                obtain ⟨v2,v3⟩:=p
                have h:law3_PrepressFindsOpenFacts_L2 F y1 (n+1) v2 v3=some s:=h
                rw [law3_PrepressFindsOpenFacts_L2] at h
                obtain ⟨z4,hz6,h⟩:=lett_ok h
                refine T_reg [(0,{ rw:=some (dB z4) })] [2,11,122,123,124,125,1000000,1000001] [(125,dB z4)] [(0,(True)∧dB (decide (v3 < (((y1.1.getD (0:Int).toNat z_PrepressFinding).f2).length:Int)))=dB z4)] 0 (by kernel_rfl) (⟨trivial,(by subst hz6; rfl)⟩) ?_
                refine T_seqk ?_
                refine T_cond z4 (by kernel_rfl) (fun hc=>?_) (fun hc=>?_)
                · have h:=cond_tt hc h
                  refine T_skip fun a w hm=>then_norm (((?_:T Tryz.prog e 141 _ _ _) a w hm))
                  refine T_seqk ?_
                  refine T_block ?_
                  obtain ⟨hp10,h⟩:=chk_ok h
                  refine T_reg [(0,{ cs:=cS (((y1.1.getD (0:Int).toNat z_PrepressFinding).f2).getD v3.toNat []) })] [2,11,13,122,123,124,1000000,1000001] [(13,.d (.str (((y1.1.getD (0:Int).toNat z_PrepressFinding).f2).getD v3.toNat [])))] [(0,0≤v3∧(((y1.1.getD (0:Int).toNat z_PrepressFinding).f2).map cS)[v3.toNat]? = some (cS (((y1.1.getD (0:Int).toNat z_PrepressFinding).f2).getD v3.toNat [])))] 2 (by kernel_rfl) (idx_ok (d:=[]) cS hp10) ?_
                  obtain ⟨hp11,h⟩:=chk_ok h
                  obtain ⟨l1,hl1,h⟩:=lett_ok h
                  refine T_reg_end [(3,{ es:=some (([(S_PrepressFact.mk (((y1.1.getD (0:Int).toNat z_PrepressFinding).f2).getD v3.toNat []) 0)]).map cS_PrepressFact) }),(4,{ es:=some (l1.map cS_PrepressFact) })] [2,11,122,123,124,1000000,1000001] [(11,oW4 l1)] [(3,(([(S_PrepressFact.mk (((y1.1.getD (0:Int).toNat z_PrepressFinding).f2).getD v3.toNat []) 0)]).map cS_PrepressFact)=(([(S_PrepressFact.mk (((y1.1.getD (0:Int).toNat z_PrepressFinding).f2).getD v3.toNat []) 0)]).map cS_PrepressFact)),(0,(v2.map cS_PrepressFact).length+(([(S_PrepressFact.mk (((y1.1.getD (0:Int).toNat z_PrepressFinding).f2).getD v3.toNat []) 0)]).map cS_PrepressFact).length≤4294967296∧(v2.map cS_PrepressFact)++(([(S_PrepressFact.mk (((y1.1.getD (0:Int).toNat z_PrepressFinding).f2).getD v3.toNat []) 0)]).map cS_PrepressFact)=(l1.map cS_PrepressFact))] 1 (by kernel_rfl) (⟨rfl,and_trans (app_ok cS_PrepressFact hp11) (by subst hl1; rfl)⟩) fun a w hm=>inBlock_norm (then_norm (((?_:T Tryz.prog e 141 _ _ _) a w hm)))
                  refine T_reg_end [] [2,11,122,123,124,1000000,1000001] [(124,dI (IntKind.i64.wrap (v3+(1:Int))))] [] 2 (by kernel_rfl) (trivial) fun a w hm=>then_norm (⟨(l1,IntKind.i64.wrap (v3+(1:Int))),h,hm.co (cs:=[.keep [2,11,122,123,124,1000000,1000001]]) (by show _=_; kernel_rfl)⟩)
                · have h:=cond_ff hc h
                  obtain hs:=Option.some.inj h; subst hs
                  refine T_exit fun a w hm=>then_exit (then_exit (inBlock_exit (then_norm (hm.co (cs:=[.keep [2,11,1000000,1000001]]) (by show _=_; kernel_rfl)))))
              · skip
                refine fun a w hm=>then_norm (((?_:T Tryz.prog e 141 _ _ _) a w hm))
                obtain ⟨hp12,h⟩:=chk_ok h
                refine T_reg [(1,{ xs:=[11],vout:=[.own 51 2 ((@sortBy S_PrepressFact ⟨S_PrepressFact.mk [] 0⟩ (fun x y=>Op.bytesLess x.f0 y.f0) v4).map cS_PrepressFact)],res:=.tup [] })] [2,11,1000000,1000001] [(11,.own 51 2 ((@sortBy S_PrepressFact ⟨S_PrepressFact.mk [] 0⟩ (fun x y=>Op.bytesLess x.f0 y.f0) v4).map cS_PrepressFact))] [(1,ACall Tryz.prog 20 [.vw (1000000,0),.clo 21 []] [oW4 v4] (.tup []) [.own 51 2 ((@sortBy S_PrepressFact ⟨S_PrepressFact.mk [] 0⟩ (fun x y=>Op.bytesLess x.f0 y.f0) v4).map cS_PrepressFact)])] 0 (by kernel_rfl) (b_SortF_20 (κ:=51) hp12 (by kernel_rfl) (by kernel_rfl)) ?_
                obtain ⟨y10,hy10,h⟩:=call_ok h
                refine T_reg [(3,{ res:=dI y10 })] [4,1000000,1000001] [(4,dB (y10 != (2:Int)))] [(3,ACall Tryz.prog 13 [.agg (cS_PrepressCond a0.f1),.d (.sl 2 ((@sortBy S_PrepressFact ⟨S_PrepressFact.mk [] 0⟩ (fun x y=>Op.bytesLess x.f0 y.f0) v4).map cS_PrepressFact))] [] (dI y10) [])] 2 (by kernel_rfl) (ref3_Told_ok hy10) ?_
                obtain hs:=Option.some.inj h; subst hs
                refine T_ret fun a w hm=>T_return (fr':=[(4,dB (y10 != (2:Int))),(1000000,.glo 0 ([gm0].flatMap (cI .i64))),(1000001,.glo 3 (glob_internal_strconv_uint64pow10.flatMap (cI .u64)))]) [4] (by kernel_rfl) [.keep [4,1000000,1000001]] (by kernel_rfl) (by kernel_rfl) (by kernel_rfl) (by show _=_; kernel_rfl) (by exact ⟨⟨by kernel_rfl,by kernel_rfl⟩,⟨⟨by kernel_rfl,by kernel_rfl⟩,trivial⟩⟩) a w hm
end Go.Vm.PreG
