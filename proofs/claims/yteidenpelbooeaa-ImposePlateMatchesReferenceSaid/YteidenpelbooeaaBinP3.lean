import Derived.Test.YteidenpelbooeaaBinP2
namespace Go.Vm.BinG
open Go.Proofs
set_option maxRecDepth 20000
theorem ref3_Sheet_At_ok {F:Nat} {a0:Int} {a1:Int} {c2:List Int} {c3:List Int} {c4:List Int} {c5:List Int} {c6:List Int} {c7:List Int} {c8:List Int} {c9:Int} {c10:Int} {c11:Int} {c12:Int} {c13:Int} {r:(List Int)×(List Int)×(List Int)×(List Int)×(List Int)×(List Int)×(List Int)×(List Int)×Int×Int×Int×Int×Int} (h:ref3_Sheet_At F a0 a1 c2 c3 c4 c5 c6 c7 c8 c9 c10 c11 c12 c13=some r):ACall Try.prog 33 [.bp 1000000 0,.d (.v (.int .i64 a0)),.d (.v (.int .i64 a1))] [.box [.own 3 1 (c2.map (cI .i64)),.own 3 1 (c3.map (cI .i64)),.own 3 1 (c4.map (cI .i64)),.own 3 1 (c5.map (cI .i64)),.own 3 1 (c6.map (cI .i64)),.own 3 1 (c7.map (cI .i64)),.own 3 1 (c8.map (cI .i64)),.d (.v (.int .i64 c9)),.d (.v (.int .i64 c10)),.d (.v (.int .i64 c11)),.d (.v (.int .i64 c12)),.d (.v (.int .i64 c13))]] (.own 3 1 (r.1.map (cI .i64))) [.box [.own 3 1 (r.2.1.map (cI .i64)),.own 3 1 (r.2.2.1.map (cI .i64)),.own 3 1 (r.2.2.2.1.map (cI .i64)),.own 3 1 (r.2.2.2.2.1.map (cI .i64)),.own 3 1 (r.2.2.2.2.2.1.map (cI .i64)),.own 3 1 (r.2.2.2.2.2.2.1.map (cI .i64)),.own 3 1 (r.2.2.2.2.2.2.2.1.map (cI .i64)),.d (.v (.int .i64 r.2.2.2.2.2.2.2.2.1)),.d (.v (.int .i64 r.2.2.2.2.2.2.2.2.2.1)),.d (.v (.int .i64 r.2.2.2.2.2.2.2.2.2.2.1)),.d (.v (.int .i64 r.2.2.2.2.2.2.2.2.2.2.2.1)),.d (.v (.int .i64 r.2.2.2.2.2.2.2.2.2.2.2.2))]]:=by
  rw [ref3_Sheet_At] at h
  refine ACall.intro (N:=102) Try.func33 rfl rfl rfl rfl rfl fun e=>?_
  refine T_reg [] [0,1,2,1000000] [] [] 1 (by kernel_rfl) (trivial) ?_
  refine T_reg [] [0,1,2,7,1000000] [(7,oW6 [])] [] 1 (by kernel_rfl) (trivial) ?_
  refine T_seqk ?_
  refine T_reg [(4,{ rw:=some (dI (c8.length:Int)) })] [0,1,2,7,17,18,1000000] [(17,dI (c8.length:Int)),(18,dI (0:Int))] [(4,True∧dI ((c8.map (cI .i64)).length:Int)=dI (c8.length:Int))] 1 (by kernel_rfl) (len_ok (cI .i64)) ?_
  refine T_joinct h (fun (p:(List Int)×(List Int)×(List Int)×(List Int)×(List Int)×(List Int)×(List Int)×(List Int)×Int×Int×Int×Int×Int)=>[(0,.bp 1000000 0),(7,oW6 p.1),(1000000,.box [oW6 p.2.1,oW6 p.2.2.1,oW6 p.2.2.2.1,oW6 p.2.2.2.2.1,oW6 p.2.2.2.2.2.1,oW6 p.2.2.2.2.2.2.1,oW6 p.2.2.2.2.2.2.2.1,dI p.2.2.2.2.2.2.2.2.1,dI p.2.2.2.2.2.2.2.2.2.1,dI p.2.2.2.2.2.2.2.2.2.2.1,dI p.2.2.2.2.2.2.2.2.2.2.2.1,dI p.2.2.2.2.2.2.2.2.2.2.2.2])]) (fun s h=>?_) (fun s h=>?_)
  · refine T_co [.keep [0,1,2,7,17,18,1000000]] ((fun (p:(List Int)×Int×(List Int)×(List Int)×(List Int)×(List Int)×(List Int)×(List Int)×(List Int)×Int×Int×Int×Int×Int)=>[(0,.bp 1000000 0),(1,dI a0),(2,dI a1),(7,oW6 p.1),(17,dI (c8.length:Int)),(18,dI p.2.1),(1000000,.box [oW6 p.2.2.1,oW6 p.2.2.2.1,oW6 p.2.2.2.2.1,oW6 p.2.2.2.2.2.1,oW6 p.2.2.2.2.2.2.1,oW6 p.2.2.2.2.2.2.2.1,oW6 p.2.2.2.2.2.2.2.2.1,dI p.2.2.2.2.2.2.2.2.2.1,dI p.2.2.2.2.2.2.2.2.2.2.1,dI p.2.2.2.2.2.2.2.2.2.2.2.1,dI p.2.2.2.2.2.2.2.2.2.2.2.2.1,dI p.2.2.2.2.2.2.2.2.2.2.2.2.2])]) ([],(0:Int),c2,c3,c4,c5,c6,c7,c8,c9,c10,c11,c12,c13)) (by show _=_; kernel_rfl) ?_
    refine T_block ?_
    refine T_loopF (ι:=(List Int)×Int×(List Int)×(List Int)×(List Int)×(List Int)×(List Int)×(List Int)×(List Int)×Int×Int×Int×Int×Int) (fun (p:(List Int)×Int×(List Int)×(List Int)×(List Int)×(List Int)×(List Int)×(List Int)×(List Int)×Int×Int×Int×Int×Int)=>[(0,.bp 1000000 0),(1,dI a0),(2,dI a1),(7,oW6 p.1),(17,dI (c8.length:Int)),(18,dI p.2.1),(1000000,.box [oW6 p.2.2.1,oW6 p.2.2.2.1,oW6 p.2.2.2.2.1,oW6 p.2.2.2.2.2.1,oW6 p.2.2.2.2.2.2.1,oW6 p.2.2.2.2.2.2.2.1,oW6 p.2.2.2.2.2.2.2.2.1,dI p.2.2.2.2.2.2.2.2.2.1,dI p.2.2.2.2.2.2.2.2.2.2.1,dI p.2.2.2.2.2.2.2.2.2.2.2.1,dI p.2.2.2.2.2.2.2.2.2.2.2.2.1,dI p.2.2.2.2.2.2.2.2.2.2.2.2.2])]) (fun n p=>ref3_Sheet_At_L0 F a0 a1 c8 n p.1 p.2.1 p.2.2.1 p.2.2.2.1 p.2.2.2.2.1 p.2.2.2.2.2.1 p.2.2.2.2.2.2.1 p.2.2.2.2.2.2.2.1 p.2.2.2.2.2.2.2.2.1 p.2.2.2.2.2.2.2.2.2.1 p.2.2.2.2.2.2.2.2.2.2.1 p.2.2.2.2.2.2.2.2.2.2.2.1 p.2.2.2.2.2.2.2.2.2.2.2.2.1 p.2.2.2.2.2.2.2.2.2.2.2.2.2=some s) (fun i hh=>by simp [ref3_Sheet_At_L0] at hh) (fun n p h=>?_) F ([],(0:Int),c2,c3,c4,c5,c6,c7,c8,c9,c10,c11,c12,c13) h
    obtain ⟨v1,v2,v3,v4,v5,v6,v7,v8,v9,v10,v11,v12,v13,v14⟩:=p
    have h:ref3_Sheet_At_L0 F a0 a1 c8 (n+1) v1 v2 v3 v4 v5 v6 v7 v8 v9 v10 v11 v12 v13 v14=some s:=h
    rw [ref3_Sheet_At_L0] at h
    refine T_reg [] [0,1,2,7,17,18,19,1000000] [(19,dB (decide (v2 < (c8.length:Int))))] [] 1 (by kernel_rfl) (trivial) ?_
    refine T_seqk ?_
    refine T_cond (decide (v2 < (c8.length:Int))) (by kernel_rfl) (fun hc=>?_) (fun hc=>?_)
    · have h:=cond_tt hc h
      refine T_skip fun a w hm=>then_norm (((?_:T Try.prog e 102 _ _ _) a w hm))
      refine T_joinc h (fun (p:(List Int)×(List Int)×(List Int)×(List Int)×(List Int)×(List Int)×(List Int)×(List Int)×Int×Int×Int×Int×Int)=>[(0,.bp 1000000 0),(1,dI a0),(2,dI a1),(7,oW6 p.1),(17,dI (c8.length:Int)),(18,dI v2),(1000000,.box [oW6 p.2.1,oW6 p.2.2.1,oW6 p.2.2.2.1,oW6 p.2.2.2.2.1,oW6 p.2.2.2.2.2.1,oW6 p.2.2.2.2.2.2.1,oW6 p.2.2.2.2.2.2.2.1,dI p.2.2.2.2.2.2.2.2.1,dI p.2.2.2.2.2.2.2.2.2.1,dI p.2.2.2.2.2.2.2.2.2.2.1,dI p.2.2.2.2.2.2.2.2.2.2.2.1,dI p.2.2.2.2.2.2.2.2.2.2.2.2])]) (fun s h=>?_) (fun s h=>?_)
      · refine T_block ?_
        refine T_reg [] [0,1,2,7,8,17,18,1000000] [(8,dI v2)] [] 2 (by kernel_rfl) (trivial) ?_
        obtain ⟨y1,hy1,h⟩:=call_ok h
        refine T_reg [(2,{ res:=.tup [dI y1.1,dI y1.2.1],vout:=[.box [oW6 y1.2.2.1,oW6 y1.2.2.2.1,oW6 y1.2.2.2.2.1,oW6 y1.2.2.2.2.2.1,oW6 y1.2.2.2.2.2.2.1,oW6 y1.2.2.2.2.2.2.2.1,oW6 y1.2.2.2.2.2.2.2.2.1,dI y1.2.2.2.2.2.2.2.2.2.1,dI y1.2.2.2.2.2.2.2.2.2.2.1,dI y1.2.2.2.2.2.2.2.2.2.2.2.1,dI y1.2.2.2.2.2.2.2.2.2.2.2.2.1,dI y1.2.2.2.2.2.2.2.2.2.2.2.2.2]],xs:=[1000000] })] [0,1,2,7,8,9,10,17,18,1000000] [(9,dI y1.1),(10,dI y1.2.1),(1000000,.box [oW6 y1.2.2.1,oW6 y1.2.2.2.1,oW6 y1.2.2.2.2.1,oW6 y1.2.2.2.2.2.1,oW6 y1.2.2.2.2.2.2.1,oW6 y1.2.2.2.2.2.2.2.1,oW6 y1.2.2.2.2.2.2.2.2.1,dI y1.2.2.2.2.2.2.2.2.2.1,dI y1.2.2.2.2.2.2.2.2.2.2.1,dI y1.2.2.2.2.2.2.2.2.2.2.2.1,dI y1.2.2.2.2.2.2.2.2.2.2.2.2.1,dI y1.2.2.2.2.2.2.2.2.2.2.2.2.2])] [(2,ACall Try.prog 51 [.bp 1000000 0,dI v2] [.box [oW6 v3,oW6 v4,oW6 v5,oW6 v6,oW6 v7,oW6 v8,oW6 v9,dI v10,dI v11,dI v12,dI v13,dI v14]] (.tup [dI y1.1,dI y1.2.1]) [.box [oW6 y1.2.2.1,oW6 y1.2.2.2.1,oW6 y1.2.2.2.2.1,oW6 y1.2.2.2.2.2.1,oW6 y1.2.2.2.2.2.2.1,oW6 y1.2.2.2.2.2.2.2.1,oW6 y1.2.2.2.2.2.2.2.2.1,dI y1.2.2.2.2.2.2.2.2.2.1,dI y1.2.2.2.2.2.2.2.2.2.2.1,dI y1.2.2.2.2.2.2.2.2.2.2.2.1,dI y1.2.2.2.2.2.2.2.2.2.2.2.2.1,dI y1.2.2.2.2.2.2.2.2.2.2.2.2.2]])] 5 (by kernel_rfl) (ref3_Sheet_leftTop_ok hy1) ?_
        obtain ⟨z1,hz1,h⟩:=lett_ok h
        refine T_reg [(17,{ rw:=some (dB z1) })] [0,1,2,7,8,17,18,44,1000000] [(44,dB z1)] [(9,((((y1.1 == (IntKind.i64.wrap (y1.2.2.2.2.2.2.2.2.2.1+a0))) == true) && true)=true→True)),(0,((((y1.1 == (IntKind.i64.wrap (y1.2.2.2.2.2.2.2.2.2.1+a0))) == true) && true)=true→True)),(0,((((y1.1 == (IntKind.i64.wrap (y1.2.2.2.2.2.2.2.2.2.1+a0))) == true) && true)=true→True)),(0,((((y1.1 == (IntKind.i64.wrap (y1.2.2.2.2.2.2.2.2.2.1+a0))) == true) && true)=true→True)),(0,((((y1.1 == (IntKind.i64.wrap (y1.2.2.2.2.2.2.2.2.2.1+a0))) == true) && true)=true→True)),(0,((((y1.1 == (IntKind.i64.wrap (y1.2.2.2.2.2.2.2.2.2.1+a0))) == true) && true)=true→True)),(0,((((y1.1 == (IntKind.i64.wrap (y1.2.2.2.2.2.2.2.2.2.1+a0))) == true) && true)=true→True)),(0,((((y1.1 == (IntKind.i64.wrap (y1.2.2.2.2.2.2.2.2.2.1+a0))) == true) && true)=true→True)),(0,(True)∧dB (bif (y1.1 == (IntKind.i64.wrap (y1.2.2.2.2.2.2.2.2.2.1+a0))) then (y1.2.1 == (IntKind.i64.wrap (y1.2.2.2.2.2.2.2.2.2.2.1+a1))) else false)=dB z1)] 0 (by kernel_rfl) (⟨(fun hg=>trivial),(fun hg=>trivial),(fun hg=>trivial),(fun hg=>trivial),(fun hg=>trivial),(fun hg=>trivial),(fun hg=>trivial),(fun hg=>trivial),⟨trivial,(by subst hz1; rfl)⟩⟩) ?_
        refine T_cond z1 (by kernel_rfl) (fun hc=>?_) (fun hc=>?_)
        · have h:=cond_tt hc h
          obtain ⟨hp1,h⟩:=chk_ok h
          obtain hs:=Option.some.inj h; subst hs
          refine T_reg_end [(2,{ es:=some (([v2]).map (cI .i64)) }),(3,{ es:=some ((v1++([v2])).map (cI .i64)) })] [0,1,2,7,17,18,1000000] [(7,.own 3 1 ((v1++([v2])).map (cI .i64)))] [(2,(([v2]).map (cI .i64))=(([v2]).map (cI .i64))),(0,(v1.map (cI .i64)).length+(([v2]).map (cI .i64)).length≤4294967296∧(v1.map (cI .i64))++(([v2]).map (cI .i64))=((v1++([v2])).map (cI .i64)))] 1 (by kernel_rfl) (⟨rfl,app_ok (cI .i64) hp1⟩) fun a w hm=>inBlock_norm (then_norm (hm.co (cs:=[.keep [0,1,2,7,17,18,1000000]]) (by show _=_; kernel_rfl)))
        · have h:=cond_ff hc h
          obtain hs:=Option.some.inj h; subst hs
          refine T_skip fun a w hm=>inBlock_norm (then_norm (hm.co (cs:=[.keep [0,1,2,7,17,18,1000000]]) (by show _=_; kernel_rfl)))
      · obtain ⟨v15,v16,v17,v18,v19,v20,v21,v22,v23,v24,v25,v26,v27⟩:=s
        try dsimp only at h
        refine T_reg_end [] [0,1,2,7,17,18,1000000] [(18,dI (IntKind.i64.wrap (v2+(1:Int))))] [] 2 (by kernel_rfl) (trivial) fun a w hm=>then_norm (⟨(v15,IntKind.i64.wrap (v2+(1:Int)),v16,v17,v18,v19,v20,v21,v22,v23,v24,v25,v26,v27),h,hm.co (cs:=[.keep [0,1,2,7,17,18,1000000]]) (by show _=_; kernel_rfl)⟩)
    · have h:=cond_ff hc h
      obtain hs:=Option.some.inj h; subst hs
      refine T_exit fun a w hm=>then_exit (then_exit (inBlock_exit (then_norm (hm.co (cs:=[.keep [0,7,1000000]]) (by show _=_; kernel_rfl)))))
  · obtain ⟨v31,v35,v36,v37,v38,v39,v40,v28,v41,v42,v43,v44,v45⟩:=s
    try dsimp only at h
    refine fun a w hm=>then_norm (((?_:T Try.prog e 102 _ _ _) a w hm))
    refine T_seqk ?_
    refine T_reg [(1,{ rw:=some (dI (v31.length:Int)) })] [0,7,51,52,1000000] [(51,dI (v31.length:Int)),(52,dI (0:Int))] [(1,True∧dI ((v31.map (cI .i64)).length:Int)=dI (v31.length:Int))] 1 (by kernel_rfl) (len_ok (cI .i64)) ?_
    refine T_joinct h (fun (p:(List Int))=>[(7,oW6 p),(1000000,.box [oW6 v35,oW6 v36,oW6 v37,oW6 v38,oW6 v39,oW6 v40,oW6 v28,dI v41,dI v42,dI v43,dI v44,dI v45])]) (fun s h=>?_) (fun v46 h=>?_)
    · refine T_co [.keep [0,7,51,52,1000000]] ((fun (p:(List Int)×Int)=>[(0,.bp 1000000 0),(7,oW6 p.1),(51,dI (v31.length:Int)),(52,dI p.2),(1000000,.box [oW6 v35,oW6 v36,oW6 v37,oW6 v38,oW6 v39,oW6 v40,oW6 v28,dI v41,dI v42,dI v43,dI v44,dI v45])]) (v31,(0:Int))) (by show _=_; kernel_rfl) ?_
      refine T_block ?_
      refine T_loopF (ι:=(List Int)×Int) (fun (p:(List Int)×Int)=>[(0,.bp 1000000 0),(7,oW6 p.1),(51,dI (v31.length:Int)),(52,dI p.2),(1000000,.box [oW6 v35,oW6 v36,oW6 v37,oW6 v38,oW6 v39,oW6 v40,oW6 v28,dI v41,dI v42,dI v43,dI v44,dI v45])]) (fun n p=>ref3_Sheet_At_L2 F v31 v28 n p.1 p.2=some s) (fun i hh=>by simp [ref3_Sheet_At_L2] at hh) (fun n p h=>?_) F (v31,(0:Int)) h
      obtain ⟨v32,v33⟩:=p
      have h:ref3_Sheet_At_L2 F v31 v28 (n+1) v32 v33=some s:=h
      rw [ref3_Sheet_At_L2] at h
      refine T_reg [] [0,7,51,52,53,1000000] [(53,dB (decide (v33 < (v31.length:Int))))] [] 1 (by kernel_rfl) (trivial) ?_
      refine T_seqk ?_
      refine T_cond (decide (v33 < (v31.length:Int))) (by kernel_rfl) (fun hc=>?_) (fun hc=>?_)
      · have h:=cond_tt hc h
        refine T_skip fun a w hm=>then_norm (((?_:T Try.prog e 102 _ _ _) a w hm))
        refine T_seqk ?_
        refine T_block ?_
        refine T_reg [] [0,7,11,51,52,1000000] [(11,dI v33)] [] 2 (by kernel_rfl) (trivial) ?_
        refine T_reg [] [0,7,12,51,52,1000000] [(12,dI v33)] [] 2 (by kernel_rfl) (trivial) ?_
        refine T_joinct h (fun (p:(List Int))=>[(0,.bp 1000000 0),(7,oW6 p),(51,dI (v31.length:Int)),(52,dI v33),(1000000,.box [oW6 v35,oW6 v36,oW6 v37,oW6 v38,oW6 v39,oW6 v40,oW6 v28,dI v41,dI v42,dI v43,dI v44,dI v45])]) (fun s h=>?_) (fun v34 h=>?_)
        · refine T_co [.keep [0,7,12,51,52,1000000]] ((fun (p:(List Int)×Int)=>[(0,.bp 1000000 0),(7,oW6 p.1),(12,dI p.2),(51,dI (v31.length:Int)),(52,dI v33),(1000000,.box [oW6 v35,oW6 v36,oW6 v37,oW6 v38,oW6 v39,oW6 v40,oW6 v28,dI v41,dI v42,dI v43,dI v44,dI v45])]) (v32,v33)) (by show _=_; kernel_rfl) ?_
          refine T_block ?_
          refine T_loopF (ι:=(List Int)×Int) (fun (p:(List Int)×Int)=>[(0,.bp 1000000 0),(7,oW6 p.1),(12,dI p.2),(51,dI (v31.length:Int)),(52,dI v33),(1000000,.box [oW6 v35,oW6 v36,oW6 v37,oW6 v38,oW6 v39,oW6 v40,oW6 v28,dI v41,dI v42,dI v43,dI v44,dI v45])]) (fun n p=>ref3_Sheet_At_L4 F v28 n p.1 p.2=some s) (fun i hh=>by simp [ref3_Sheet_At_L4] at hh) (fun n p h=>?_) F (v32,v33) h
          obtain ⟨v29,v30⟩:=p
          have h:ref3_Sheet_At_L4 F v28 (n+1) v29 v30=some s:=h
          rw [ref3_Sheet_At_L4] at h
          refine T_seqk ?_
          obtain ⟨hp2,h⟩:=chk_ok h
          obtain ⟨hp3,h⟩:=chk_ok h
          obtain ⟨hp4,h⟩:=chk_ok h
          obtain ⟨hp5,h⟩:=chk_ok h
          obtain ⟨z2,hz2,h⟩:=lett_ok h
          refine T_draw mixed [(10,{ cs:=(cI .i64) (v29.getD v30.toNat 0) }),(12,{ cs:=(cI .i64) (v28.getD (v29.getD v30.toNat 0).toNat 0) }),(21,{ cs:=(cI .i64) (v29.getD (IntKind.i64.wrap (v30 - (1:Int))).toNat 0) }),(23,{ cs:=(cI .i64) (v28.getD (v29.getD (IntKind.i64.wrap (v30 - (1:Int))).toNat 0).toNat 0) }),(24,{ rw:=some (dB z2) })] [0,7,12,51,52,81,1000000] [] [(0,.bp 1000000 0),(7,oW6 v29),(12,dI v30),(51,dI (v31.length:Int)),(52,dI v33),(81,dB (bif (decide (v30 > (0:Int))) then z2 else false)),(1000000,.box [oW6 v35,oW6 v36,oW6 v37,oW6 v38,oW6 v39,oW6 v40,oW6 v28,dI v41,dI v42,dI v43,dI v44,dI v45])] [(3,((((decide (v30 > (0:Int))) == true) && true)=true→True)),(0,((((decide (v30 > (0:Int))) == true) && true)=true→True)),(0,((((decide (v30 > (0:Int))) == true) && true)=true→True)),(0,((((decide (v30 > (0:Int))) == true) && true)=true→True)),(0,((((decide (v30 > (0:Int))) == true) && true)=true→True)),(0,((((decide (v30 > (0:Int))) == true) && true)=true→True)),(0,((((decide (v30 > (0:Int))) == true) && true)=true→0≤v30∧v30 < (v29.map (cI .i64)).length)),(0,((((decide (v30 > (0:Int))) == true) && true)=true→(v29.map (cI .i64))[v30.toNat]? = some ((cI .i64) (v29.getD v30.toNat 0)))),(0,((((decide (v30 > (0:Int))) == true) && true)=true→0≤(v29.getD v30.toNat 0)∧(v29.getD v30.toNat 0) < (v28.map (cI .i64)).length)),(0,((((decide (v30 > (0:Int))) == true) && true)=true→(v28.map (cI .i64))[(v29.getD v30.toNat 0).toNat]? = some ((cI .i64) (v28.getD (v29.getD v30.toNat 0).toNat 0)))),(0,((((decide (v30 > (0:Int))) == true) && true)=true→True)),(0,((((decide (v30 > (0:Int))) == true) && true)=true→True)),(0,((((decide (v30 > (0:Int))) == true) && true)=true→True)),(0,((((decide (v30 > (0:Int))) == true) && true)=true→True)),(0,((((decide (v30 > (0:Int))) == true) && true)=true→True)),(0,((((decide (v30 > (0:Int))) == true) && true)=true→True)),(0,((((decide (v30 > (0:Int))) == true) && true)=true→True)),(0,((((decide (v30 > (0:Int))) == true) && true)=true→0≤(IntKind.i64.wrap (v30 - (1:Int)))∧(IntKind.i64.wrap (v30 - (1:Int))) < (v29.map (cI .i64)).length)),(0,((((decide (v30 > (0:Int))) == true) && true)=true→(v29.map (cI .i64))[(IntKind.i64.wrap (v30 - (1:Int))).toNat]? = some ((cI .i64) (v29.getD (IntKind.i64.wrap (v30 - (1:Int))).toNat 0)))),(0,((((decide (v30 > (0:Int))) == true) && true)=true→0≤(v29.getD (IntKind.i64.wrap (v30 - (1:Int))).toNat 0)∧(v29.getD (IntKind.i64.wrap (v30 - (1:Int))).toNat 0) < (v28.map (cI .i64)).length)),(0,((((decide (v30 > (0:Int))) == true) && true)=true→(v28.map (cI .i64))[(v29.getD (IntKind.i64.wrap (v30 - (1:Int))).toNat 0).toNat]? = some ((cI .i64) (v28.getD (v29.getD (IntKind.i64.wrap (v30 - (1:Int))).toNat 0).toNat 0)))),(0,((((decide (v30 > (0:Int))) == true) && true)=true→(True)∧dB (decide ((v28.getD (v29.getD v30.toNat 0).toNat 0) > (v28.getD (v29.getD (IntKind.i64.wrap (v30 - (1:Int))).toNat 0).toNat 0)))=dB z2))] 1 (by kernel_rfl) (⟨(fun hg=>trivial),(fun hg=>trivial),(fun hg=>trivial),(fun hg=>trivial),(fun hg=>trivial),(fun hg=>trivial),(fun hg=>own_idx (cI .i64) (hp2 hg)),(fun hg=>(idx_ok (d:=0) (cI .i64) (hp2 hg)).2),(fun hg=>own_idx (cI .i64) (hp3 hg)),(fun hg=>(idx_ok (d:=0) (cI .i64) (hp3 hg)).2),(fun hg=>trivial),(fun hg=>trivial),(fun hg=>trivial),(fun hg=>trivial),(fun hg=>trivial),(fun hg=>trivial),(fun hg=>trivial),(fun hg=>own_idx (cI .i64) (hp4 hg)),(fun hg=>(idx_ok (d:=0) (cI .i64) (hp4 hg)).2),(fun hg=>own_idx (cI .i64) (hp5 hg)),(fun hg=>(idx_ok (d:=0) (cI .i64) (hp5 hg)).2),(fun hg=>⟨trivial,(by subst hz2; rfl)⟩)⟩) ?_
          refine T_cond (bif (decide (v30 > (0:Int))) then z2 else false) (by kernel_rfl) (fun hc=>?_) (fun hc=>?_)
          · have h:=cond_tt hc h
            refine T_skip fun a w hm=>then_norm (((?_:T Try.prog e 102 _ _ _) a w hm))
            refine T_seqk ?_
            refine T_block ?_
            obtain ⟨hp6,h⟩:=chk_ok h
            obtain ⟨hp7,h⟩:=chk_ok h
            obtain ⟨hp8,h⟩:=chk_ok h
            obtain ⟨hp9,h⟩:=chk_ok h
            refine T_drawX_end mixed 1 (.take 0 (.take 1 (.take 2 (.take 3 (.take 4 (.take 5 (.take 6 (.take 7 (.take 8 (.take 9 (.take 10 (.take 11 (.take 12 (.take 13 (.take 14 (.all (.alt 15 (.take 16 (.all (.alt 17 .done .stop))) .stop))))))))))))))))) ([0,0,0,0,8,0,0,64,160,256,0,0,3072,4096,9187,25571,65535,131071],[0,0,0,0,8,0,0,64,160,256,0,0,3072,4096,3,16896,20,73728]) 98303 [(9,{ cs:=(cI .i64) (v29.getD (IntKind.i64.wrap (v30 - (1:Int))).toNat 0) }),(13,{ cs:=(cI .i64) (v29.getD v30.toNat 0) }),(15,{ cs:=(cI .i64) (v29.getD v30.toNat 0),es:=some ((v29.set v30.toNat (v29.getD (IntKind.i64.wrap (v30 - (1:Int))).toNat 0)).map (cI .i64)) }),(17,{ cs:=(cI .i64) ((v29.set v30.toNat (v29.getD (IntKind.i64.wrap (v30 - (1:Int))).toNat 0)).getD (IntKind.i64.wrap (v30 - (1:Int))).toNat 0),es:=some (((v29.set v30.toNat (v29.getD (IntKind.i64.wrap (v30 - (1:Int))).toNat 0)).set (IntKind.i64.wrap (v30 - (1:Int))).toNat (v29.getD v30.toNat 0)).map (cI .i64)) })] [0,7,12,51,52,1000000] [] [(0,.bp 1000000 0),(7,.own 3 1 (((v29.set v30.toNat (v29.getD (IntKind.i64.wrap (v30 - (1:Int))).toNat 0)).set (IntKind.i64.wrap (v30 - (1:Int))).toNat (v29.getD v30.toNat 0)).map (cI .i64))),(12,dI v30),(51,dI (v31.length:Int)),(52,dI v33),(1000000,.box [oW6 v35,oW6 v36,oW6 v37,oW6 v38,oW6 v39,oW6 v40,oW6 v28,dI v41,dI v42,dI v43,dI v44,dI v45])] ((fun (o8:Prop)=>fun (o9:Prop)=>fun (o12:Prop)=>fun (o13:Prop)=>fun (o14:Prop)=>fun (o15:Prop)=>fun (o16:Prop)=>fun (o17:Prop)=>[(8,o8),(0,o9),(2,o12),(0,o13),(0,o14),(0,o15),(0,o16),(0,o17)]) (0≤(IntKind.i64.wrap (v30 - (1:Int)))∧(IntKind.i64.wrap (v30 - (1:Int))) < (v29.map (cI .i64)).length) ((v29.map (cI .i64))[(IntKind.i64.wrap (v30 - (1:Int))).toNat]? = some ((cI .i64) (v29.getD (IntKind.i64.wrap (v30 - (1:Int))).toNat 0))) (0≤v30∧v30 < (v29.map (cI .i64)).length) ((v29.map (cI .i64))[v30.toNat]? = some ((cI .i64) (v29.getD v30.toNat 0))) (0≤v30∧v30 < (v29.map (cI .i64)).length) ((v29.map (cI .i64))[v30.toNat]? = some ((cI .i64) (v29.getD v30.toNat 0))∧(v29.map (cI .i64)).set v30.toNat ((cI .i64) (v29.getD (IntKind.i64.wrap (v30 - (1:Int))).toNat 0))=((v29.set v30.toNat (v29.getD (IntKind.i64.wrap (v30 - (1:Int))).toNat 0)).map (cI .i64))) (0≤(IntKind.i64.wrap (v30 - (1:Int)))∧(IntKind.i64.wrap (v30 - (1:Int))) < ((v29.set v30.toNat (v29.getD (IntKind.i64.wrap (v30 - (1:Int))).toNat 0)).map (cI .i64)).length) (((v29.set v30.toNat (v29.getD (IntKind.i64.wrap (v30 - (1:Int))).toNat 0)).map (cI .i64))[(IntKind.i64.wrap (v30 - (1:Int))).toNat]? = some ((cI .i64) ((v29.set v30.toNat (v29.getD (IntKind.i64.wrap (v30 - (1:Int))).toNat 0)).getD (IntKind.i64.wrap (v30 - (1:Int))).toNat 0))∧((v29.set v30.toNat (v29.getD (IntKind.i64.wrap (v30 - (1:Int))).toNat 0)).map (cI .i64)).set (IntKind.i64.wrap (v30 - (1:Int))).toNat ((cI .i64) (v29.getD v30.toNat 0))=(((v29.set v30.toNat (v29.getD (IntKind.i64.wrap (v30 - (1:Int))).toNat 0)).set (IntKind.i64.wrap (v30 - (1:Int))).toNat (v29.getD v30.toNat 0)).map (cI .i64)))) 0 (by kernel_rfl) (by kernel_rfl) (by kernel_rfl) (have p8:=own_idx (cI .i64) hp6; have p9:=(idx_ok (d:=0) (cI .i64) hp6).2; have p12:=own_idx (cI .i64) hp7; have p13:=(idx_ok (d:=0) (cI .i64) hp7).2; have p14:=own_idx (cI .i64) hp8; have p15:=⟨(idx_ok (d:=0) (cI .i64) hp8).2,set_ok (cI .i64) rfl⟩; have p16:=own_idx (cI .i64) hp9; have p17:=⟨(idx_ok (d:=0) (cI .i64) hp9).2,set_ok (cI .i64) rfl⟩; ⟨p8,p9,p12,p13,p14,p15,p16,p17⟩) fun a w hm=>inBlock_norm (then_norm (((?_:T Try.prog e 102 _ _ _) a w hm)))
            refine T_reg_end [] [0,7,12,51,52,1000000] [(12,dI (IntKind.i64.wrap (v30 - (1:Int))))] [] 3 (by kernel_rfl) (trivial) fun a w hm=>then_norm (⟨(((v29.set v30.toNat (v29.getD (IntKind.i64.wrap (v30 - (1:Int))).toNat 0)).set (IntKind.i64.wrap (v30 - (1:Int))).toNat (v29.getD v30.toNat 0)),IntKind.i64.wrap (v30 - (1:Int))),h,hm.co (cs:=[.keep [0,7,12,51,52,1000000]]) (by show _=_; kernel_rfl)⟩)
          · have h:=cond_ff hc h
            obtain hs:=Option.some.inj h; subst hs
            refine T_exit fun a w hm=>then_exit (then_exit (inBlock_exit (then_norm (hm.co (cs:=[.keep [0,7,51,52,1000000]]) (by show _=_; kernel_rfl)))))
        · skip
          refine fun a w hm=>inBlock_norm (then_norm (((?_:T Try.prog e 102 _ _ _) a w hm)))
          refine T_reg_end [] [0,7,51,52,1000000] [(52,dI (IntKind.i64.wrap (v33+(1:Int))))] [] 2 (by kernel_rfl) (trivial) fun a w hm=>then_norm (⟨(v34,IntKind.i64.wrap (v33+(1:Int))),h,hm.co (cs:=[.keep [0,7,51,52,1000000]]) (by show _=_; kernel_rfl)⟩)
      · have h:=cond_ff hc h
        obtain hs:=Option.some.inj h; subst hs
        refine T_exit fun a w hm=>then_exit (then_exit (inBlock_exit (then_norm (hm.co (cs:=[.keep [7,1000000]]) (by show _=_; kernel_rfl)))))
    · skip
      refine fun a w hm=>then_norm (((?_:T Try.prog e 102 _ _ _) a w hm))
      refine T_reg [] [6,7,1000000] [(6,.vw (7,0))] [] 2 (by kernel_rfl) (trivial) ?_
      obtain hs:=Option.some.inj h; subst hs
      refine T_ret fun a w hm=>T_return (fr':=[(6,oW6 v46),(1000000,.box [oW6 v35,oW6 v36,oW6 v37,oW6 v38,oW6 v39,oW6 v40,oW6 v28,dI v41,dI v42,dI v43,dI v44,dI v45])]) [6] (by kernel_rfl) [.claim 6,.keep [6,1000000]] (by kernel_rfl) (by kernel_rfl) (by kernel_rfl) (by show _=_; kernel_rfl) (by exact ⟨⟨by kernel_rfl,by kernel_rfl⟩,trivial⟩) a w hm
theorem ref3_Read_ok {F:Nat} {a0:S_FoldScheme} {r:(List S_FoldPage)×Int} (h:ref3_Read F a0=some r):ACall Try.prog 14 [.agg (cS_FoldScheme a0)] [] (.tup [.own 70 4 (r.1.map cS_FoldPage),.d (.v (.int .i64 r.2))]) []:=by
  rw [ref3_Read] at h
  refine ACall.intro (N:=198) Try.func14 rfl rfl rfl rfl rfl fun e=>?_
  refine T_reg [] [1] [(1,bx_FoldScheme a0)] [] 3 (by kernel_rfl) (trivial) ?_
  refine T_seqk ?_
  obtain ⟨y3,hy1,h⟩:=call_ok h
  refine T_reg [(1,{ res:=dI y3 })] [1,4] [(4,dI y3)] [(1,ACall Try.prog 30 [.agg (cS_FoldScheme a0)] [] (dI y3) [])] 1 (by kernel_rfl) (ref3_FoldError_ok hy1) ?_
  refine T_reg [] [1,4,25] [(25,dB (y3 != (0:Int)))] [] 2 (by kernel_rfl) (trivial) ?_
  refine T_cond (y3 != (0:Int)) (by kernel_rfl) (fun hc=>?_) (fun hc=>?_)
  · have h:=cond_tt hc h
    refine T_reg [] [2,3] [(2,oW4 []),(3,dI y3)] [] 3 (by kernel_rfl) (trivial) ?_
    obtain hs:=Option.some.inj h; subst hs
    refine T_ret fun a w hm=>then_ret (T_return (fr':=[(2,oW4 []),(3,dI y3)]) [2,3] (by kernel_rfl) [.keep [2,3]] (by kernel_rfl) (by kernel_rfl) (by kernel_rfl) (by show _=_; kernel_rfl) (by exact trivial) a w hm)
  · have h:=cond_ff hc h
    refine T_skip fun a w hm=>then_norm (((?_:T Try.prog e 198 _ _ _) a w hm))
    obtain ⟨y4,hy2,h⟩:=call_ok h
    refine T_reg [(3,{ rw:=some (dI (a0.f2.length:Int)) }),(4,{ res:=.box [oW6 y4.f0,oW6 y4.f1,oW6 y4.f2,oW6 y4.f3,oW6 y4.f4,oW6 y4.f5,oW6 y4.f6,dI y4.f7,dI y4.f8,dI y4.f9,dI y4.f10,dI y4.f11] })] [1,5] [(5,.box [oW6 y4.f0,oW6 y4.f1,oW6 y4.f2,oW6 y4.f3,oW6 y4.f4,oW6 y4.f5,oW6 y4.f6,dI y4.f7,dI y4.f8,dI y4.f9,dI y4.f10,dI y4.f11])] [(3,True∧dI ((a0.f2.map cS_FoldStep).length:Int)=dI (a0.f2.length:Int)),(0,ACall Try.prog 31 [.agg (cS_FoldScheme a0),dI (a0.f2.length:Int)] [] (.box [oW6 y4.f0,oW6 y4.f1,oW6 y4.f2,oW6 y4.f3,oW6 y4.f4,oW6 y4.f5,oW6 y4.f6,dI y4.f7,dI y4.f8,dI y4.f9,dI y4.f10,dI y4.f11]) [])] 1 (by kernel_rfl) (⟨len_ok cS_FoldStep,ref3_Folded_ok hy2⟩) ?_
    refine T_seqk ?_
    obtain ⟨z8,hz1,h⟩:=lett_ok h
    refine T_draw mixed [(21,{ rw:=some (dB z8) })] [1,5,53] [] [(1,bx_FoldScheme a0),(5,.box [oW6 y4.f0,oW6 y4.f1,oW6 y4.f2,oW6 y4.f3,oW6 y4.f4,oW6 y4.f5,oW6 y4.f6,dI y4.f7,dI y4.f8,dI y4.f9,dI y4.f10,dI y4.f11]),(53,dB z8)] [(11,(((((IntKind.i64.wrap (y4.f9 - y4.f7)) != (1:Int)) == false) && true)=true→True)),(0,(((((IntKind.i64.wrap (y4.f9 - y4.f7)) != (1:Int)) == false) && true)=true→True)),(0,(((((IntKind.i64.wrap (y4.f9 - y4.f7)) != (1:Int)) == false) && true)=true→True)),(0,(((((IntKind.i64.wrap (y4.f9 - y4.f7)) != (1:Int)) == false) && true)=true→True)),(0,(((((IntKind.i64.wrap (y4.f9 - y4.f7)) != (1:Int)) == false) && true)=true→True)),(0,(((((IntKind.i64.wrap (y4.f9 - y4.f7)) != (1:Int)) == false) && true)=true→True)),(0,(((((IntKind.i64.wrap (y4.f9 - y4.f7)) != (1:Int)) == false) && true)=true→True)),(0,(((((IntKind.i64.wrap (y4.f9 - y4.f7)) != (1:Int)) == false) && true)=true→True)),(0,(((((IntKind.i64.wrap (y4.f9 - y4.f7)) != (1:Int)) == false) && true)=true→True)),(0,(((((IntKind.i64.wrap (y4.f9 - y4.f7)) != (1:Int)) == false) && true)=true→True)),(0,(True)∧dB (bif ((IntKind.i64.wrap (y4.f9 - y4.f7)) != (1:Int)) then true else ((IntKind.i64.wrap (y4.f10 - y4.f8)) != (1:Int)))=dB z8)] 0 (by kernel_rfl) (⟨(fun hg=>trivial),(fun hg=>trivial),(fun hg=>trivial),(fun hg=>trivial),(fun hg=>trivial),(fun hg=>trivial),(fun hg=>trivial),(fun hg=>trivial),(fun hg=>trivial),(fun hg=>trivial),⟨trivial,(by subst hz1; rfl)⟩⟩) ?_
    refine T_cond z8 (by kernel_rfl) (fun hc=>?_) (fun hc=>?_)
    · have h:=cond_tt hc h
      refine T_reg [] [2,3] [(2,oW4 []),(3,dI (9:Int))] [] 2 (by kernel_rfl) (trivial) ?_
      obtain hs:=Option.some.inj h; subst hs
      refine T_ret fun a w hm=>then_ret (T_return (fr':=[(2,oW4 []),(3,dI (9:Int))]) [2,3] (by kernel_rfl) [.keep [2,3]] (by kernel_rfl) (by kernel_rfl) (by kernel_rfl) (by show _=_; kernel_rfl) (by exact trivial) a w hm)
    · have h:=cond_ff hc h
      refine T_skip fun a w hm=>then_norm (((?_:T Try.prog e 198 _ _ _) a w hm))
      obtain ⟨y1,hy3,h⟩:=call_ok h
      refine T_reg [(1,{ res:=.tup [dI y1.1,dI y1.2] })] [1,5,6,7] [(6,dI y1.1),(7,dI y1.2)] [(1,ACall Try.prog 32 [.agg (cS_FoldScheme a0)] [] (.tup [dI y1.1,dI y1.2]) [])] 5 (by kernel_rfl) (ref3_spine_ok hy3) ?_
      refine T_reg [] [1,5,8,9] [(8,dI (IntKind.i64.wrap (0 - y1.2))),(9,dI y1.1)] [] 5 (by kernel_rfl) (trivial) ?_
      refine T_reg [] [1,5,8,9,10] [(10,oW4 [])] [] 1 (by kernel_rfl) (trivial) ?_
      refine T_seqk ?_
      obtain ⟨y2,hy4,h⟩:=call_ok h
      refine T_reg [(1,{ res:=oW6 y2.1,vout:=[.box [oW6 y2.2.1,oW6 y2.2.2.1,oW6 y2.2.2.2.1,oW6 y2.2.2.2.2.1,oW6 y2.2.2.2.2.2.1,oW6 y2.2.2.2.2.2.2.1,oW6 y2.2.2.2.2.2.2.2.1,dI y2.2.2.2.2.2.2.2.2.1,dI y2.2.2.2.2.2.2.2.2.2.1,dI y2.2.2.2.2.2.2.2.2.2.2.1,dI y2.2.2.2.2.2.2.2.2.2.2.2.1,dI y2.2.2.2.2.2.2.2.2.2.2.2.2]],xs:=[5] }),(2,{ rw:=some (dI (y2.1.length:Int)) })] [1,5,8,9,10,63,64,65] [(5,.box [oW6 y2.2.1,oW6 y2.2.2.1,oW6 y2.2.2.2.1,oW6 y2.2.2.2.2.1,oW6 y2.2.2.2.2.2.1,oW6 y2.2.2.2.2.2.2.1,oW6 y2.2.2.2.2.2.2.2.1,dI y2.2.2.2.2.2.2.2.2.1,dI y2.2.2.2.2.2.2.2.2.2.1,dI y2.2.2.2.2.2.2.2.2.2.2.1,dI y2.2.2.2.2.2.2.2.2.2.2.2.1,dI y2.2.2.2.2.2.2.2.2.2.2.2.2]),(63,oW6 y2.1),(64,dI (y2.1.length:Int)),(65,dI (0:Int))] [(1,ACall Try.prog 33 [.bp 1000000 0,dI (0:Int),dI (0:Int)] [.box [oW6 y4.f0,oW6 y4.f1,oW6 y4.f2,oW6 y4.f3,oW6 y4.f4,oW6 y4.f5,oW6 y4.f6,dI y4.f7,dI y4.f8,dI y4.f9,dI y4.f10,dI y4.f11]] (oW6 y2.1) [.box [oW6 y2.2.1,oW6 y2.2.2.1,oW6 y2.2.2.2.1,oW6 y2.2.2.2.2.1,oW6 y2.2.2.2.2.2.1,oW6 y2.2.2.2.2.2.2.1,oW6 y2.2.2.2.2.2.2.2.1,dI y2.2.2.2.2.2.2.2.2.1,dI y2.2.2.2.2.2.2.2.2.2.1,dI y2.2.2.2.2.2.2.2.2.2.2.1,dI y2.2.2.2.2.2.2.2.2.2.2.2.1,dI y2.2.2.2.2.2.2.2.2.2.2.2.2]]),(0,True∧dI ((y2.1.map (cI .i64)).length:Int)=dI (y2.1.length:Int))] 1 (by kernel_rfl) (⟨ref3_Sheet_At_ok hy4,len_ok (cI .i64)⟩) ?_
      refine T_joinct h (fun (p:(List S_FoldPage))=>[(10,oW4 p)]) (fun s h=>?_) (fun v9 h=>?_)
      · refine T_co [.keep [1,5,8,9,10,63,64,65]] ((fun (p:(List S_FoldPage)×Int)=>[(1,bx_FoldScheme a0),(5,.box [oW6 y2.2.1,oW6 y2.2.2.1,oW6 y2.2.2.2.1,oW6 y2.2.2.2.2.1,oW6 y2.2.2.2.2.2.1,oW6 y2.2.2.2.2.2.2.1,oW6 y2.2.2.2.2.2.2.2.1,dI y2.2.2.2.2.2.2.2.2.1,dI y2.2.2.2.2.2.2.2.2.2.1,dI y2.2.2.2.2.2.2.2.2.2.2.1,dI y2.2.2.2.2.2.2.2.2.2.2.2.1,dI y2.2.2.2.2.2.2.2.2.2.2.2.2]),(8,dI (IntKind.i64.wrap (0 - y1.2))),(9,dI y1.1),(10,oW4 p.1),(63,oW6 y2.1),(64,dI (y2.1.length:Int)),(65,dI p.2)]) ([],(0:Int))) (by show _=_; kernel_rfl) ?_
        refine T_block ?_
        refine T_loopF (ι:=(List S_FoldPage)×Int) (fun (p:(List S_FoldPage)×Int)=>[(1,bx_FoldScheme a0),(5,.box [oW6 y2.2.1,oW6 y2.2.2.1,oW6 y2.2.2.2.1,oW6 y2.2.2.2.2.1,oW6 y2.2.2.2.2.2.1,oW6 y2.2.2.2.2.2.2.1,oW6 y2.2.2.2.2.2.2.2.1,dI y2.2.2.2.2.2.2.2.2.1,dI y2.2.2.2.2.2.2.2.2.2.1,dI y2.2.2.2.2.2.2.2.2.2.2.1,dI y2.2.2.2.2.2.2.2.2.2.2.2.1,dI y2.2.2.2.2.2.2.2.2.2.2.2.2]),(8,dI (IntKind.i64.wrap (0 - y1.2))),(9,dI y1.1),(10,oW4 p.1),(63,oW6 y2.1),(64,dI (y2.1.length:Int)),(65,dI p.2)]) (fun n p=>ref3_Read_L0 F a0 y1 y2 n p.1 p.2=some s) (fun i hh=>by simp [ref3_Read_L0] at hh) (fun n p h=>?_) F ([],(0:Int)) h
        obtain ⟨v7,v1⟩:=p
        have h:ref3_Read_L0 F a0 y1 y2 (n+1) v7 v1=some s:=h
        rw [ref3_Read_L0] at h
        refine T_reg [] [1,5,8,9,10,63,64,65,66] [(66,dB (decide (v1 < (y2.1.length:Int))))] [] 1 (by kernel_rfl) (trivial) ?_
        refine T_seqk ?_
        refine T_cond (decide (v1 < (y2.1.length:Int))) (by kernel_rfl) (fun hc=>?_) (fun hc=>?_)
        · have h:=cond_tt hc h
          refine T_skip fun a w hm=>then_norm (((?_:T Try.prog e 198 _ _ _) a w hm))
          refine T_seqk ?_
          refine T_block ?_
          obtain ⟨hp1,h⟩:=chk_ok h
          refine T_reg [(1,{ cs:=(cI .i64) (y2.1.getD v1.toNat 0) })] [1,5,8,9,10,12,63,64,65] [(12,dI (y2.1.getD v1.toNat 0))] [(0,0≤v1∧v1 < (y2.1.map (cI .i64)).length),(0,(y2.1.map (cI .i64))[v1.toNat]? = some ((cI .i64) (y2.1.getD v1.toNat 0)))] 1 (by kernel_rfl) (⟨own_idx (cI .i64) hp1,(idx_ok (d:=0) (cI .i64) hp1).2⟩) ?_
          obtain ⟨hp2,h⟩:=chk_ok h
          obtain ⟨hp3,h⟩:=chk_ok h
          obtain ⟨z1,hz2,h⟩:=lett_ok h
          obtain ⟨hp4,h⟩:=chk_ok h
          obtain ⟨hp5,h⟩:=chk_ok h
          obtain ⟨z2,hz3,h⟩:=lett_ok h
          refine T_draw mixed [(6,{ cs:=(cI .i64) (y2.2.2.2.1.getD (y2.1.getD v1.toNat 0).toNat 0) }),(13,{ cs:=(cI .i64) (y2.2.1.getD (y2.1.getD v1.toNat 0).toNat 0) }),(14,{ rw:=some (dI z1) }),(21,{ cs:=(cI .i64) (y2.2.2.2.2.1.getD (y2.1.getD v1.toNat 0).toNat 0) }),(28,{ cs:=(cI .i64) (y2.2.2.1.getD (y2.1.getD v1.toNat 0).toNat 0) }),(29,{ rw:=some (dI z2) })] [1,5,8,9,10,12,13,14,63,64,65] [] [(1,bx_FoldScheme a0),(5,.box [oW6 y2.2.1,oW6 y2.2.2.1,oW6 y2.2.2.2.1,oW6 y2.2.2.2.2.1,oW6 y2.2.2.2.2.2.1,oW6 y2.2.2.2.2.2.2.1,oW6 y2.2.2.2.2.2.2.2.1,dI y2.2.2.2.2.2.2.2.2.1,dI y2.2.2.2.2.2.2.2.2.2.1,dI y2.2.2.2.2.2.2.2.2.2.2.1,dI y2.2.2.2.2.2.2.2.2.2.2.2.1,dI y2.2.2.2.2.2.2.2.2.2.2.2.2]),(8,dI (IntKind.i64.wrap (0 - y1.2))),(9,dI y1.1),(10,oW4 v7),(12,dI (y2.1.getD v1.toNat 0)),(13,dI z1),(14,dI z2),(63,oW6 y2.1),(64,dI (y2.1.length:Int)),(65,dI v1)] [(5,0≤(y2.1.getD v1.toNat 0)∧(y2.1.getD v1.toNat 0) < (y2.2.2.2.1.map (cI .i64)).length),(0,(y2.2.2.2.1.map (cI .i64))[(y2.1.getD v1.toNat 0).toNat]? = some ((cI .i64) (y2.2.2.2.1.getD (y2.1.getD v1.toNat 0).toNat 0))),(5,0≤(y2.1.getD v1.toNat 0)∧(y2.1.getD v1.toNat 0) < (y2.2.1.map (cI .i64)).length),(0,(y2.2.1.map (cI .i64))[(y2.1.getD v1.toNat 0).toNat]? = some ((cI .i64) (y2.2.1.getD (y2.1.getD v1.toNat 0).toNat 0))),(0,(True)∧dI (IntKind.i64.wrap ((y2.2.2.2.1.getD (y2.1.getD v1.toNat 0).toNat 0) - (y2.2.1.getD (y2.1.getD v1.toNat 0).toNat 0)))=dI z1),(5,0≤(y2.1.getD v1.toNat 0)∧(y2.1.getD v1.toNat 0) < (y2.2.2.2.2.1.map (cI .i64)).length),(0,(y2.2.2.2.2.1.map (cI .i64))[(y2.1.getD v1.toNat 0).toNat]? = some ((cI .i64) (y2.2.2.2.2.1.getD (y2.1.getD v1.toNat 0).toNat 0))),(5,0≤(y2.1.getD v1.toNat 0)∧(y2.1.getD v1.toNat 0) < (y2.2.2.1.map (cI .i64)).length),(0,(y2.2.2.1.map (cI .i64))[(y2.1.getD v1.toNat 0).toNat]? = some ((cI .i64) (y2.2.2.1.getD (y2.1.getD v1.toNat 0).toNat 0))),(0,(True)∧dI (IntKind.i64.wrap ((y2.2.2.2.2.1.getD (y2.1.getD v1.toNat 0).toNat 0) - (y2.2.2.1.getD (y2.1.getD v1.toNat 0).toNat 0)))=dI z2)] 2 (by kernel_rfl) (⟨own_idx (cI .i64) hp2,(idx_ok (d:=0) (cI .i64) hp2).2,own_idx (cI .i64) hp3,(idx_ok (d:=0) (cI .i64) hp3).2,⟨trivial,(by subst hz2; rfl)⟩,own_idx (cI .i64) hp4,(idx_ok (d:=0) (cI .i64) hp4).2,own_idx (cI .i64) hp5,(idx_ok (d:=0) (cI .i64) hp5).2,⟨trivial,(by subst hz3; rfl)⟩⟩) ?_
          obtain ⟨hp6,h⟩:=chk_ok h
          obtain ⟨hp7,h⟩:=chk_ok h
          obtain ⟨z3,hz4,h⟩:=lett_ok h
          obtain ⟨hp8,h⟩:=chk_ok h
          obtain ⟨hp9,h⟩:=chk_ok h
          obtain ⟨z4,hz5,h⟩:=lett_ok h
          refine T_draw mixed [(6,{ cs:=(cI .i64) (y2.2.2.2.2.2.1.getD (y2.1.getD v1.toNat 0).toNat 0) }),(13,{ cs:=(cI .i64) (y2.2.1.getD (y2.1.getD v1.toNat 0).toNat 0) }),(14,{ rw:=some (dI z3) }),(21,{ cs:=(cI .i64) (y2.2.2.2.2.2.2.1.getD (y2.1.getD v1.toNat 0).toNat 0) }),(28,{ cs:=(cI .i64) (y2.2.2.1.getD (y2.1.getD v1.toNat 0).toNat 0) }),(29,{ rw:=some (dI z4) })] [1,5,8,9,10,12,13,14,15,16,63,64,65] [] [(1,bx_FoldScheme a0),(5,.box [oW6 y2.2.1,oW6 y2.2.2.1,oW6 y2.2.2.2.1,oW6 y2.2.2.2.2.1,oW6 y2.2.2.2.2.2.1,oW6 y2.2.2.2.2.2.2.1,oW6 y2.2.2.2.2.2.2.2.1,dI y2.2.2.2.2.2.2.2.2.1,dI y2.2.2.2.2.2.2.2.2.2.1,dI y2.2.2.2.2.2.2.2.2.2.2.1,dI y2.2.2.2.2.2.2.2.2.2.2.2.1,dI y2.2.2.2.2.2.2.2.2.2.2.2.2]),(8,dI (IntKind.i64.wrap (0 - y1.2))),(9,dI y1.1),(10,oW4 v7),(12,dI (y2.1.getD v1.toNat 0)),(13,dI z1),(14,dI z2),(15,dI z3),(16,dI z4),(63,oW6 y2.1),(64,dI (y2.1.length:Int)),(65,dI v1)] [(5,0≤(y2.1.getD v1.toNat 0)∧(y2.1.getD v1.toNat 0) < (y2.2.2.2.2.2.1.map (cI .i64)).length),(0,(y2.2.2.2.2.2.1.map (cI .i64))[(y2.1.getD v1.toNat 0).toNat]? = some ((cI .i64) (y2.2.2.2.2.2.1.getD (y2.1.getD v1.toNat 0).toNat 0))),(5,0≤(y2.1.getD v1.toNat 0)∧(y2.1.getD v1.toNat 0) < (y2.2.1.map (cI .i64)).length),(0,(y2.2.1.map (cI .i64))[(y2.1.getD v1.toNat 0).toNat]? = some ((cI .i64) (y2.2.1.getD (y2.1.getD v1.toNat 0).toNat 0))),(0,(True)∧dI (IntKind.i64.wrap ((y2.2.2.2.2.2.1.getD (y2.1.getD v1.toNat 0).toNat 0) - (y2.2.1.getD (y2.1.getD v1.toNat 0).toNat 0)))=dI z3),(5,0≤(y2.1.getD v1.toNat 0)∧(y2.1.getD v1.toNat 0) < (y2.2.2.2.2.2.2.1.map (cI .i64)).length),(0,(y2.2.2.2.2.2.2.1.map (cI .i64))[(y2.1.getD v1.toNat 0).toNat]? = some ((cI .i64) (y2.2.2.2.2.2.2.1.getD (y2.1.getD v1.toNat 0).toNat 0))),(5,0≤(y2.1.getD v1.toNat 0)∧(y2.1.getD v1.toNat 0) < (y2.2.2.1.map (cI .i64)).length),(0,(y2.2.2.1.map (cI .i64))[(y2.1.getD v1.toNat 0).toNat]? = some ((cI .i64) (y2.2.2.1.getD (y2.1.getD v1.toNat 0).toNat 0))),(0,(True)∧dI (IntKind.i64.wrap ((y2.2.2.2.2.2.2.1.getD (y2.1.getD v1.toNat 0).toNat 0) - (y2.2.2.1.getD (y2.1.getD v1.toNat 0).toNat 0)))=dI z4)] 2 (by kernel_rfl) (⟨own_idx (cI .i64) hp6,(idx_ok (d:=0) (cI .i64) hp6).2,own_idx (cI .i64) hp7,(idx_ok (d:=0) (cI .i64) hp7).2,⟨trivial,(by subst hz4; rfl)⟩,own_idx (cI .i64) hp8,(idx_ok (d:=0) (cI .i64) hp8).2,own_idx (cI .i64) hp9,(idx_ok (d:=0) (cI .i64) hp9).2,⟨trivial,(by subst hz5; rfl)⟩⟩) ?_
          obtain ⟨z5,hz6,h⟩:=lett_ok h
          refine T_reg [(7,{ rw:=some (dB z5) })] [1,5,8,9,10,12,13,14,15,16,17,63,64,65] [(17,dB z5)] [(7,(True)∧dB (decide ((IntKind.i64.wrap ((IntKind.i64.wrap (z1 * z4)) - (IntKind.i64.wrap (z2 * z3)))) > (0:Int)))=dB z5)] 1 (by kernel_rfl) (⟨trivial,(by subst hz6; rfl)⟩) ?_
          refine T_reg [] [1,5,8,9,10,12,13,14,15,16,17,63,64,65,137] [(137,dI (0:Int))] [] 1 (by kernel_rfl) (trivial) ?_
          refine T_joinct h (fun (p:(List S_FoldPage))=>[(1,bx_FoldScheme a0),(5,.box [oW6 y2.2.1,oW6 y2.2.2.1,oW6 y2.2.2.2.1,oW6 y2.2.2.2.2.1,oW6 y2.2.2.2.2.2.1,oW6 y2.2.2.2.2.2.2.1,oW6 y2.2.2.2.2.2.2.2.1,dI y2.2.2.2.2.2.2.2.2.1,dI y2.2.2.2.2.2.2.2.2.2.1,dI y2.2.2.2.2.2.2.2.2.2.2.1,dI y2.2.2.2.2.2.2.2.2.2.2.2.1,dI y2.2.2.2.2.2.2.2.2.2.2.2.2]),(8,dI (IntKind.i64.wrap (0 - y1.2))),(9,dI y1.1),(10,oW4 p),(63,oW6 y2.1),(64,dI (y2.1.length:Int)),(65,dI v1)]) (fun s h=>?_) (fun v8 h=>?_)
          · refine T_co [.keep [1,5,8,9,10,12,13,14,15,16,17,63,64,65,137]] ((fun (p:(List S_FoldPage)×Int)=>[(1,bx_FoldScheme a0),(5,.box [oW6 y2.2.1,oW6 y2.2.2.1,oW6 y2.2.2.2.1,oW6 y2.2.2.2.2.1,oW6 y2.2.2.2.2.2.1,oW6 y2.2.2.2.2.2.2.1,oW6 y2.2.2.2.2.2.2.2.1,dI y2.2.2.2.2.2.2.2.2.1,dI y2.2.2.2.2.2.2.2.2.2.1,dI y2.2.2.2.2.2.2.2.2.2.2.1,dI y2.2.2.2.2.2.2.2.2.2.2.2.1,dI y2.2.2.2.2.2.2.2.2.2.2.2.2]),(8,dI (IntKind.i64.wrap (0 - y1.2))),(9,dI y1.1),(10,oW4 p.1),(12,dI (y2.1.getD v1.toNat 0)),(13,dI z1),(14,dI z2),(15,dI z3),(16,dI z4),(17,dB z5),(63,oW6 y2.1),(64,dI (y2.1.length:Int)),(65,dI v1),(137,dI p.2)]) (v7,(0:Int))) (by show _=_; kernel_rfl) ?_
            refine T_block ?_
            refine T_loopF (ι:=(List S_FoldPage)×Int) (fun (p:(List S_FoldPage)×Int)=>[(1,bx_FoldScheme a0),(5,.box [oW6 y2.2.1,oW6 y2.2.2.1,oW6 y2.2.2.2.1,oW6 y2.2.2.2.2.1,oW6 y2.2.2.2.2.2.1,oW6 y2.2.2.2.2.2.2.1,oW6 y2.2.2.2.2.2.2.2.1,dI y2.2.2.2.2.2.2.2.2.1,dI y2.2.2.2.2.2.2.2.2.2.1,dI y2.2.2.2.2.2.2.2.2.2.2.1,dI y2.2.2.2.2.2.2.2.2.2.2.2.1,dI y2.2.2.2.2.2.2.2.2.2.2.2.2]),(8,dI (IntKind.i64.wrap (0 - y1.2))),(9,dI y1.1),(10,oW4 p.1),(12,dI (y2.1.getD v1.toNat 0)),(13,dI z1),(14,dI z2),(15,dI z3),(16,dI z4),(17,dB z5),(63,oW6 y2.1),(64,dI (y2.1.length:Int)),(65,dI v1),(137,dI p.2)]) (fun n p=>ref3_Read_L2 F a0 y1 y2 v1 z1 z2 z3 z4 z5 n p.1 p.2=some s) (fun i hh=>by simp [ref3_Read_L2] at hh) (fun n p h=>?_) F (v7,(0:Int)) h
            obtain ⟨v2,v3⟩:=p
            have h:ref3_Read_L2 F a0 y1 y2 v1 z1 z2 z3 z4 z5 (n+1) v2 v3=some s:=h
            rw [ref3_Read_L2] at h
            refine T_reg [] [1,5,8,9,10,12,13,14,15,16,17,63,64,65,137,138] [(138,dB (decide (v3 < (2:Int))))] [] 1 (by kernel_rfl) (trivial) ?_
            refine T_seqk ?_
            refine T_cond (decide (v3 < (2:Int))) (by kernel_rfl) (fun hc=>?_) (fun hc=>?_)
            · have h:=cond_tt hc h
              refine T_skip fun a w hm=>then_norm (((?_:T Try.prog e 198 _ _ _) a w hm))
              refine T_seqk ?_
              refine T_block ?_
              refine T_reg [] [1,5,8,9,10,12,13,14,15,16,17,18,63,64,65,137] [(18,dI v3)] [] 2 (by kernel_rfl) (trivial) ?_
              obtain ⟨hp10,h⟩:=chk_ok h
              obtain ⟨hp11,h⟩:=chk_ok h
              refine T_drawX mixed 8 (.take 0 (.take 1 (.take 2 (.take 3 (.take 4 (.take 5 (.take 8 (.take 9 (.all (.alt 6 (.take 7 (.all (.alt 10 (.take 11 (.all (.alt 12 (.all (.alt 13 (.all (.alt 14 .done .stop)) .stop)) (.alt 13 (.all (.alt 12 (.all (.alt 14 .done .stop)) .stop)) .stop)))) (.alt 13 (.all (.alt 10 (.take 11 (.all (.alt 12 (.all (.alt 14 .done .stop)) .stop))) .stop)) .stop)))) (.alt 10 (.take 11 (.all (.alt 6 (.take 7 (.all (.alt 12 (.all (.alt 13 (.all (.alt 14 .done .stop)) .stop)) (.alt 13 (.all (.alt 12 (.all (.alt 14 .done .stop)) .stop)) .stop)))) (.alt 13 (.all (.alt 6 (.take 7 (.all (.alt 12 (.all (.alt 14 .done .stop)) .stop))) .stop)) .stop)))) (.alt 13 (.all (.alt 6 (.take 7 (.all (.alt 10 (.take 11 (.all (.alt 12 (.all (.alt 14 .done .stop)) .stop))) .stop))) (.alt 10 (.take 11 (.all (.alt 6 (.take 7 (.all (.alt 12 (.all (.alt 14 .done .stop)) .stop))) .stop))) .stop))) .stop)))))))))))) ([0,0,2,5,0,0,32,80,0,0,512,1280,2184,0,16383],[0,0,2,5,0,0,32,80,0,0,512,1280,2184,0,12288]) 3007 [] [1,5,8,9,10,12,13,14,15,16,17,19,63,64,65,137] [] [(1,bx_FoldScheme a0),(5,.box [oW6 y2.2.1,oW6 y2.2.2.1,oW6 y2.2.2.2.1,oW6 y2.2.2.2.2.1,oW6 y2.2.2.2.2.2.1,oW6 y2.2.2.2.2.2.2.1,oW6 y2.2.2.2.2.2.2.2.1,dI y2.2.2.2.2.2.2.2.2.1,dI y2.2.2.2.2.2.2.2.2.2.1,dI y2.2.2.2.2.2.2.2.2.2.2.1,dI y2.2.2.2.2.2.2.2.2.2.2.2.1,dI y2.2.2.2.2.2.2.2.2.2.2.2.2]),(8,dI (IntKind.i64.wrap (0 - y1.2))),(9,dI y1.1),(10,oW4 v2),(12,dI (y2.1.getD v1.toNat 0)),(13,dI z1),(14,dI z2),(15,dI z3),(16,dI z4),(17,dB z5),(19,.box [dB (z5 == (v3 == (1:Int))),dI ((y2.1.getD v1.toNat 0).tmod a0.f0),dI (IntKind.i64.wrap ((y2.1.getD v1.toNat 0).tdiv a0.f0)),dI 0]),(63,oW6 y2.1),(64,dI (y2.1.length:Int)),(65,dI v1),(137,dI v3)] ((fun (o7:Prop)=>fun (o11:Prop)=>[(9,o7),(1,o11),(8,o11),(3,o11),(1,o7),(8,o7),(4,o7),(1,o11),(3,o11),(1,o7)]) (a0.f0≠0) (a0.f0≠0)) 2 (by kernel_rfl) (by kernel_rfl) (by kernel_rfl) (have p7:=hp10; have p11:=hp11; ⟨p7,p11,p11,p11,p7,p7,p7,p11,p11,p7⟩) ?_
              obtain ⟨z6,hz7,h⟩:=lett_ok h
              obtain ⟨z7,hz8,h⟩:=lett_ok h
              refine T_reg [(6,{ rw:=some (dI z6) }),(13,{ rw:=some (dI z7) })] [1,5,8,9,10,12,13,14,15,16,17,19,20,21,63,64,65,137] [(20,dI z6),(21,dI z7)] [(6,(True)∧dI (IntKind.i64.wrap ((IntKind.i64.wrap ((IntKind.i64.wrap (0 - y1.2)) * z1))+(IntKind.i64.wrap (y1.1 * z2))))=dI z6),(6,(True)∧dI (IntKind.i64.wrap ((IntKind.i64.wrap ((IntKind.i64.wrap (0 - y1.2)) * z3))+(IntKind.i64.wrap (y1.1 * z4))))=dI z7)] 2 (by kernel_rfl) (⟨⟨trivial,(by subst hz7; rfl)⟩,⟨trivial,(by subst hz8; rfl)⟩⟩) ?_
              refine T_joinc h (fun (p:Int×Int)=>[(1,bx_FoldScheme a0),(5,.box [oW6 y2.2.1,oW6 y2.2.2.1,oW6 y2.2.2.2.1,oW6 y2.2.2.2.2.1,oW6 y2.2.2.2.2.2.1,oW6 y2.2.2.2.2.2.2.1,oW6 y2.2.2.2.2.2.2.2.1,dI y2.2.2.2.2.2.2.2.2.1,dI y2.2.2.2.2.2.2.2.2.2.1,dI y2.2.2.2.2.2.2.2.2.2.2.1,dI y2.2.2.2.2.2.2.2.2.2.2.2.1,dI y2.2.2.2.2.2.2.2.2.2.2.2.2]),(8,dI (IntKind.i64.wrap (0 - y1.2))),(9,dI y1.1),(10,oW4 v2),(12,dI (y2.1.getD v1.toNat 0)),(13,dI z1),(14,dI z2),(15,dI z3),(16,dI z4),(17,dB z5),(19,.box [dB (z5 == (v3 == (1:Int))),dI p.1,dI (IntKind.i64.wrap ((y2.1.getD v1.toNat 0).tdiv a0.f0)),dI 0]),(20,dI p.2),(21,dI z7),(63,oW6 y2.1),(64,dI (y2.1.length:Int)),(65,dI v1),(137,dI v3)]) (fun s h=>?_) (fun s h=>?_)
              · refine T_reg [] [1,5,8,9,10,12,13,14,15,16,17,19,20,21,63,64,65,137,168] [(168,dB (z5 == (v3 == (1:Int))))] [] 2 (by kernel_rfl) (trivial) ?_
                refine T_cond (z5 == (v3 == (1:Int))) (by kernel_rfl) (fun hc=>?_) (fun hc=>?_)
                · have h:=cond_tt hc h
                  obtain hs:=Option.some.inj h; subst hs
                  refine T_drawS_end mixed 10 [] [1,5,8,9,10,12,13,14,15,16,17,19,20,21,63,64,65,137] [] [(1,bx_FoldScheme a0),(5,.box [oW6 y2.2.1,oW6 y2.2.2.1,oW6 y2.2.2.2.1,oW6 y2.2.2.2.2.1,oW6 y2.2.2.2.2.2.1,oW6 y2.2.2.2.2.2.2.1,oW6 y2.2.2.2.2.2.2.2.1,dI y2.2.2.2.2.2.2.2.2.1,dI y2.2.2.2.2.2.2.2.2.2.1,dI y2.2.2.2.2.2.2.2.2.2.2.1,dI y2.2.2.2.2.2.2.2.2.2.2.2.1,dI y2.2.2.2.2.2.2.2.2.2.2.2.2]),(8,dI (IntKind.i64.wrap (0 - y1.2))),(9,dI y1.1),(10,oW4 v2),(12,dI (y2.1.getD v1.toNat 0)),(13,dI z1),(14,dI z2),(15,dI z3),(16,dI z4),(17,dB z5),(19,.box [dB (z5 == (v3 == (1:Int))),dI (IntKind.i64.wrap ((IntKind.i64.wrap (a0.f0 - (1:Int))) - ((y2.1.getD v1.toNat 0).tmod a0.f0))),dI (IntKind.i64.wrap ((y2.1.getD v1.toNat 0).tdiv a0.f0)),dI 0]),(20,dI (IntKind.i64.wrap (0 - z6))),(21,dI z7),(63,oW6 y2.1),(64,dI (y2.1.length:Int)),(65,dI v1),(137,dI v3)] [] 11 (by kernel_rfl) (trivial) fun a w hm=>then_norm (hm.co (cs:=[.keep [1,5,8,9,10,12,13,14,15,16,17,19,20,21,63,64,65,137]]) (by show _=_; kernel_rfl))
                · have h:=cond_ff hc h
                  obtain hs:=Option.some.inj h; subst hs
                  refine T_skip fun a w hm=>then_norm (hm.co (cs:=[.keep [1,5,8,9,10,12,13,14,15,16,17,19,20,21,63,64,65,137]]) (by show _=_; kernel_rfl))
              · obtain ⟨v4,v5⟩:=s
                try dsimp only at h
                refine T_joinc h (fun (p:Int)=>[(1,bx_FoldScheme a0),(5,.box [oW6 y2.2.1,oW6 y2.2.2.1,oW6 y2.2.2.2.1,oW6 y2.2.2.2.2.1,oW6 y2.2.2.2.2.2.1,oW6 y2.2.2.2.2.2.2.1,oW6 y2.2.2.2.2.2.2.2.1,dI y2.2.2.2.2.2.2.2.2.1,dI y2.2.2.2.2.2.2.2.2.2.1,dI y2.2.2.2.2.2.2.2.2.2.2.1,dI y2.2.2.2.2.2.2.2.2.2.2.2.1,dI y2.2.2.2.2.2.2.2.2.2.2.2.2]),(8,dI (IntKind.i64.wrap (0 - y1.2))),(9,dI y1.1),(10,oW4 v2),(12,dI (y2.1.getD v1.toNat 0)),(13,dI z1),(14,dI z2),(15,dI z3),(16,dI z4),(17,dB z5),(19,.box [dB (z5 == (v3 == (1:Int))),dI v4,dI (IntKind.i64.wrap ((y2.1.getD v1.toNat 0).tdiv a0.f0)),dI p]),(63,oW6 y2.1),(64,dI (y2.1.length:Int)),(65,dI v1),(137,dI v3)]) (fun s h=>?_) (fun v6 h=>?_)
                · refine T_block ?_
                  refine T_reg [] [1,5,8,9,10,12,13,14,15,16,17,19,20,21,63,64,65,137,179] [(179,dB (decide (z7 < (0:Int))))] [] 3 (by kernel_rfl) (trivial) ?_
                  refine T_cond (decide (z7 < (0:Int))) (by kernel_rfl) (fun hc=>?_) (fun hc=>?_)
                  · have h:=cond_tt hc h
                    obtain hs:=Option.some.inj h; subst hs
                    refine T_reg_end [] [1,5,8,9,10,12,13,14,15,16,17,19,63,64,65,137] [(19,.box [dB (z5 == (v3 == (1:Int))),dI v4,dI (IntKind.i64.wrap ((y2.1.getD v1.toNat 0).tdiv a0.f0)),dI (0:Int)])] [] 2 (by kernel_rfl) (trivial) fun a w hm=>inBlock_norm (then_norm (hm.co (cs:=[.keep [1,5,8,9,10,12,13,14,15,16,17,19,63,64,65,137]]) (by show _=_; kernel_rfl)))
                  · have h:=cond_ff hc h
                    refine T_reg [] [1,5,8,9,10,12,13,14,15,16,17,19,21,63,64,65,137,183] [(183,dB (decide (v5 > (0:Int))))] [] 3 (by kernel_rfl) (trivial) ?_
                    refine T_cond (decide (v5 > (0:Int))) (by kernel_rfl) (fun hc=>?_) (fun hc=>?_)
                    · have h:=cond_tt hc h
                      obtain hs:=Option.some.inj h; subst hs
                      refine T_reg_end [] [1,5,8,9,10,12,13,14,15,16,17,19,63,64,65,137] [(19,.box [dB (z5 == (v3 == (1:Int))),dI v4,dI (IntKind.i64.wrap ((y2.1.getD v1.toNat 0).tdiv a0.f0)),dI (1:Int)])] [] 2 (by kernel_rfl) (trivial) fun a w hm=>inBlock_norm (then_norm (hm.co (cs:=[.keep [1,5,8,9,10,12,13,14,15,16,17,19,63,64,65,137]]) (by show _=_; kernel_rfl)))
                    · have h:=cond_ff hc h
                      refine T_reg [] [1,5,8,9,10,12,13,14,15,16,17,19,63,64,65,137,187] [(187,dB (decide (z7 > (0:Int))))] [] 3 (by kernel_rfl) (trivial) ?_
                      refine T_cond (decide (z7 > (0:Int))) (by kernel_rfl) (fun hc=>?_) (fun hc=>?_)
                      · have h:=cond_tt hc h
                        obtain hs:=Option.some.inj h; subst hs
                        refine T_reg_end [] [1,5,8,9,10,12,13,14,15,16,17,19,63,64,65,137] [(19,.box [dB (z5 == (v3 == (1:Int))),dI v4,dI (IntKind.i64.wrap ((y2.1.getD v1.toNat 0).tdiv a0.f0)),dI (2:Int)])] [] 2 (by kernel_rfl) (trivial) fun a w hm=>inBlock_norm (then_norm (hm.co (cs:=[.keep [1,5,8,9,10,12,13,14,15,16,17,19,63,64,65,137]]) (by show _=_; kernel_rfl)))
                      · have h:=cond_ff hc h
                        obtain hs:=Option.some.inj h; subst hs
                        refine T_reg_end [] [1,5,8,9,10,12,13,14,15,16,17,19,63,64,65,137] [(19,.box [dB (z5 == (v3 == (1:Int))),dI v4,dI (IntKind.i64.wrap ((y2.1.getD v1.toNat 0).tdiv a0.f0)),dI (3:Int)])] [] 2 (by kernel_rfl) (trivial) fun a w hm=>inBlock_norm (then_norm (hm.co (cs:=[.keep [1,5,8,9,10,12,13,14,15,16,17,19,63,64,65,137]]) (by show _=_; kernel_rfl)))
                · skip
                  obtain ⟨hp12,h⟩:=chk_ok h
                  obtain ⟨l1,hl1,h⟩:=lett_ok h
                  refine T_reg_end [(2,{ es:=some (([(S_FoldPage.mk (z5 == (v3 == (1:Int))) v4 (IntKind.i64.wrap ((y2.1.getD v1.toNat 0).tdiv a0.f0)) v6)]).map cS_FoldPage) }),(3,{ es:=some (l1.map cS_FoldPage) })] [1,5,8,9,10,12,13,14,15,16,17,63,64,65,137] [(10,oW4 l1)] [(2,(([(S_FoldPage.mk (z5 == (v3 == (1:Int))) v4 (IntKind.i64.wrap ((y2.1.getD v1.toNat 0).tdiv a0.f0)) v6)]).map cS_FoldPage)=(([(S_FoldPage.mk (z5 == (v3 == (1:Int))) v4 (IntKind.i64.wrap ((y2.1.getD v1.toNat 0).tdiv a0.f0)) v6)]).map cS_FoldPage)),(0,(v2.map cS_FoldPage).length+(([(S_FoldPage.mk (z5 == (v3 == (1:Int))) v4 (IntKind.i64.wrap ((y2.1.getD v1.toNat 0).tdiv a0.f0)) v6)]).map cS_FoldPage).length≤4294967296∧(v2.map cS_FoldPage)++(([(S_FoldPage.mk (z5 == (v3 == (1:Int))) v4 (IntKind.i64.wrap ((y2.1.getD v1.toNat 0).tdiv a0.f0)) v6)]).map cS_FoldPage)=(l1.map cS_FoldPage))] 1 (by kernel_rfl) (⟨rfl,and_trans (app_ok cS_FoldPage hp12) (by subst hl1; rfl)⟩) fun a w hm=>inBlock_norm (then_norm (((?_:T Try.prog e 198 _ _ _) a w hm)))
                  refine T_reg_end [] [1,5,8,9,10,12,13,14,15,16,17,63,64,65,137] [(137,dI (IntKind.i64.wrap (v3+(1:Int))))] [] 2 (by kernel_rfl) (trivial) fun a w hm=>then_norm (⟨(l1,IntKind.i64.wrap (v3+(1:Int))),h,hm.co (cs:=[.keep [1,5,8,9,10,12,13,14,15,16,17,63,64,65,137]]) (by show _=_; kernel_rfl)⟩)
            · have h:=cond_ff hc h
              obtain hs:=Option.some.inj h; subst hs
              refine T_exit fun a w hm=>then_exit (then_exit (inBlock_exit (then_norm (hm.co (cs:=[.keep [1,5,8,9,10,63,64,65]]) (by show _=_; kernel_rfl)))))
          · skip
            refine fun a w hm=>inBlock_norm (then_norm (((?_:T Try.prog e 198 _ _ _) a w hm)))
            refine T_reg_end [] [1,5,8,9,10,63,64,65] [(65,dI (IntKind.i64.wrap (v1+(1:Int))))] [] 2 (by kernel_rfl) (trivial) fun a w hm=>then_norm (⟨(v8,IntKind.i64.wrap (v1+(1:Int))),h,hm.co (cs:=[.keep [1,5,8,9,10,63,64,65]]) (by show _=_; kernel_rfl)⟩)
        · have h:=cond_ff hc h
          obtain hs:=Option.some.inj h; subst hs
          refine T_exit fun a w hm=>then_exit (then_exit (inBlock_exit (then_norm (hm.co (cs:=[.keep [10]]) (by show _=_; kernel_rfl)))))
      · skip
        refine fun a w hm=>then_norm (((?_:T Try.prog e 198 _ _ _) a w hm))
        refine T_reg [] [2,3,10] [(2,.vw (10,0)),(3,dI (0:Int))] [] 3 (by kernel_rfl) (trivial) ?_
        obtain hs:=Option.some.inj h; subst hs
        refine T_ret fun a w hm=>T_return (fr':=[(2,oW4 v9),(3,dI (0:Int))]) [2,3] (by kernel_rfl) [.claim 2,.keep [2,3]] (by kernel_rfl) (by kernel_rfl) (by kernel_rfl) (by show _=_; kernel_rfl) (by exact trivial) a w hm
theorem ref3_leafSize_ok {F:Nat} {a0:S_ImposeLayout} {r:Int×Int} (h:ref3_leafSize F a0=some r):ACall Try.prog 25 [.agg (cS_ImposeLayout a0)] [] (.tup [.d (.v (.int .i64 r.1)),.d (.v (.int .i64 r.2))]) []:=by
  rw [ref3_leafSize] at h
  refine ACall.intro (N:=38) Try.func25 rfl rfl rfl rfl rfl fun e=>?_
  refine T_reg [] [1] [(1,bx_ImposeLayout a0)] [] 3 (by kernel_rfl) (trivial) ?_
  obtain ⟨y1,hy1,h⟩:=call_ok h
  refine T_reg [(2,{ res:=.tup [oW4 y1.1,dI y1.2] })] [1,4] [(4,oW4 y1.1)] [(2,ACall Try.prog 14 [.agg (cS_FoldScheme a0.f0)] [] (.tup [oW4 y1.1,dI y1.2]) [])] 5 (by kernel_rfl) (ref3_Read_ok hy1) ?_
  refine T_draw mixed [] [4,6,7] [] [(4,oW4 y1.1),(6,dI (IntKind.i64.wrap ((IntKind.i64.wrap (a0.f1+a0.f4))+a0.f5))),(7,dI (IntKind.i64.wrap (a0.f2+(IntKind.i64.wrap ((2:Int) * a0.f3)))))] [] 16 (by kernel_rfl) (trivial) ?_
  refine T_seqk ?_
  obtain ⟨hp1,h⟩:=chk_ok h
  refine T_reg [(3,{ cs:=cS_FoldPage (y1.1.getD (0:Int).toNat z_FoldPage) })] [6,7,33] [(33,dB ((((y1.1.getD (0:Int).toNat z_FoldPage).f3).tmod (2:Int)) == (1:Int)))] [(1,0≤(0:Int)∧(0:Int) < (y1.1.map cS_FoldPage).length),(1,(y1.1.map cS_FoldPage)[(0:Int).toNat]? = some (cS_FoldPage (y1.1.getD (0:Int).toNat z_FoldPage))),(0,(2:Int)≠0)] 1 (by kernel_rfl) (⟨own_idx cS_FoldPage hp1,(idx_ok (d:=z_FoldPage) cS_FoldPage hp1).2,(show (2:Int)≠0 by decide)⟩) ?_
  refine T_cond ((((y1.1.getD (0:Int).toNat z_FoldPage).f3).tmod (2:Int)) == (1:Int)) (by kernel_rfl) (fun hc=>?_) (fun hc=>?_)
  · have h:=cond_tt hc h
    refine T_reg [] [2,3] [(2,dI (IntKind.i64.wrap (a0.f2+(IntKind.i64.wrap ((2:Int) * a0.f3))))),(3,dI (IntKind.i64.wrap ((IntKind.i64.wrap (a0.f1+a0.f4))+a0.f5)))] [] 4 (by kernel_rfl) (trivial) ?_
    obtain hs:=Option.some.inj h; subst hs
    refine T_ret fun a w hm=>then_ret (T_return (fr':=[(2,dI (IntKind.i64.wrap (a0.f2+(IntKind.i64.wrap ((2:Int) * a0.f3))))),(3,dI (IntKind.i64.wrap ((IntKind.i64.wrap (a0.f1+a0.f4))+a0.f5)))]) [2,3] (by kernel_rfl) [.keep [2,3]] (by kernel_rfl) (by kernel_rfl) (by kernel_rfl) (by show _=_; kernel_rfl) (by exact trivial) a w hm)
  · have h:=cond_ff hc h
    refine T_skip fun a w hm=>then_norm (((?_:T Try.prog e 38 _ _ _) a w hm))
    refine T_reg [] [2,3] [(2,dI (IntKind.i64.wrap ((IntKind.i64.wrap (a0.f1+a0.f4))+a0.f5))),(3,dI (IntKind.i64.wrap (a0.f2+(IntKind.i64.wrap ((2:Int) * a0.f3)))))] [] 4 (by kernel_rfl) (trivial) ?_
    obtain hs:=Option.some.inj h; subst hs
    refine T_ret fun a w hm=>T_return (fr':=[(2,dI (IntKind.i64.wrap ((IntKind.i64.wrap (a0.f1+a0.f4))+a0.f5))),(3,dI (IntKind.i64.wrap (a0.f2+(IntKind.i64.wrap ((2:Int) * a0.f3)))))]) [2,3] (by kernel_rfl) [.keep [2,3]] (by kernel_rfl) (by kernel_rfl) (by kernel_rfl) (by show _=_; kernel_rfl) (by exact trivial) a w hm
theorem ref3_SingleSize_ok {F:Nat} {a0:S_ImposeLayout} {r:Int×Int} (h:ref3_SingleSize F a0=some r):ACall Try.prog 11 [.agg (cS_ImposeLayout a0)] [] (.tup [.d (.v (.int .i64 r.1)),.d (.v (.int .i64 r.2))]) []:=by
  rw [ref3_SingleSize] at h
  refine ACall.intro (N:=29) Try.func11 rfl rfl rfl rfl rfl fun e=>?_
  refine T_reg [] [1] [(1,bx_ImposeLayout a0)] [] 3 (by kernel_rfl) (trivial) ?_
  obtain ⟨y1,hy1,h⟩:=call_ok h
  refine T_reg [(1,{ res:=.tup [dI y1.1,dI y1.2] })] [1,4,5] [(4,dI y1.1),(5,dI y1.2)] [(1,ACall Try.prog 25 [.agg (cS_ImposeLayout a0)] [] (.tup [dI y1.1,dI y1.2]) [])] 5 (by kernel_rfl) (ref3_leafSize_ok hy1) ?_
  refine T_draw mixed [] [2,3] [] [(2,dI (IntKind.i64.wrap ((IntKind.i64.wrap (a0.f0.f0 * y1.1))+(IntKind.i64.wrap ((2:Int) * a0.f6))))),(3,dI (IntKind.i64.wrap ((IntKind.i64.wrap (a0.f0.f1 * y1.2))+(IntKind.i64.wrap ((2:Int) * a0.f6)))))] [] 20 (by kernel_rfl) (trivial) ?_
  obtain hs:=Option.some.inj h; subst hs
  refine T_ret fun a w hm=>T_return (fr':=[(2,dI (IntKind.i64.wrap ((IntKind.i64.wrap (a0.f0.f0 * y1.1))+(IntKind.i64.wrap ((2:Int) * a0.f6))))),(3,dI (IntKind.i64.wrap ((IntKind.i64.wrap (a0.f0.f1 * y1.2))+(IntKind.i64.wrap ((2:Int) * a0.f6)))))]) [2,3] (by kernel_rfl) [.keep [2,3]] (by kernel_rfl) (by kernel_rfl) (by kernel_rfl) (by show _=_; kernel_rfl) (by exact trivial) a w hm
theorem ref3_PlateSize_ok {F:Nat} {a0:S_ImposeLayout} {r:Int×Int} (h:ref3_PlateSize F a0=some r):ACall Try.prog 18 [.agg (cS_ImposeLayout a0)] [] (.tup [.d (.v (.int .i64 r.1)),.d (.v (.int .i64 r.2))]) []:=by
  rw [ref3_PlateSize] at h
  refine ACall.intro (N:=25) Try.func18 rfl rfl rfl rfl rfl fun e=>?_
  refine T_reg [] [1] [(1,bx_ImposeLayout a0)] [] 3 (by kernel_rfl) (trivial) ?_
  obtain ⟨y1,hy1,h⟩:=call_ok h
  refine T_reg [(1,{ res:=.tup [dI y1.1,dI y1.2] })] [1,4,5] [(4,dI y1.1),(5,dI y1.2)] [(1,ACall Try.prog 11 [.agg (cS_ImposeLayout a0)] [] (.tup [dI y1.1,dI y1.2]) [])] 5 (by kernel_rfl) (ref3_SingleSize_ok hy1) ?_
  refine T_seqk ?_
  refine T_reg [] [4,5,12] [(12,dI a0.f8)] [] 2 (by kernel_rfl) (trivial) ?_
  refine T_block ?_
  refine T_reg [] [4,5,12,13] [(13,dB (a0.f8 == (1:Int)))] [] 2 (by kernel_rfl) (trivial) ?_
  refine T_cond (a0.f8 == (1:Int)) (by kernel_rfl) (fun hc=>?_) (fun hc=>?_)
  · have h:=cond_tt hc h
    refine T_reg [] [2,3] [(2,dI (IntKind.i64.wrap ((2:Int) * y1.1))),(3,dI y1.2)] [] 5 (by kernel_rfl) (trivial) ?_
    obtain hs:=Option.some.inj h; subst hs
    refine T_ret fun a w hm=>inBlock_ret (then_ret (T_return (fr':=[(2,dI (IntKind.i64.wrap ((2:Int) * y1.1))),(3,dI y1.2)]) [2,3] (by kernel_rfl) [.keep [2,3]] (by kernel_rfl) (by kernel_rfl) (by kernel_rfl) (by show _=_; kernel_rfl) (by exact trivial) a w hm))
  · have h:=cond_ff hc h
    refine T_reg [] [4,5,18] [(18,dB (a0.f8 == (2:Int)))] [] 2 (by kernel_rfl) (trivial) ?_
    refine T_cond (a0.f8 == (2:Int)) (by kernel_rfl) (fun hc=>?_) (fun hc=>?_)
    · have h:=cond_tt hc h
      refine T_reg [] [2,3] [(2,dI y1.1),(3,dI (IntKind.i64.wrap ((2:Int) * y1.2)))] [] 5 (by kernel_rfl) (trivial) ?_
      obtain hs:=Option.some.inj h; subst hs
      refine T_ret fun a w hm=>inBlock_ret (then_ret (T_return (fr':=[(2,dI y1.1),(3,dI (IntKind.i64.wrap ((2:Int) * y1.2)))]) [2,3] (by kernel_rfl) [.keep [2,3]] (by kernel_rfl) (by kernel_rfl) (by kernel_rfl) (by show _=_; kernel_rfl) (by exact trivial) a w hm))
    · have h:=cond_ff hc h
      refine T_skip fun a w hm=>inBlock_norm (then_norm (((?_:T Try.prog e 25 _ _ _) a w hm)))
      refine T_reg [] [2,3] [(2,dI y1.1),(3,dI y1.2)] [] 4 (by kernel_rfl) (trivial) ?_
      obtain hs:=Option.some.inj h; subst hs
      refine T_ret fun a w hm=>T_return (fr':=[(2,dI y1.1),(3,dI y1.2)]) [2,3] (by kernel_rfl) [.keep [2,3]] (by kernel_rfl) (by kernel_rfl) (by kernel_rfl) (by show _=_; kernel_rfl) (by exact trivial) a w hm
theorem ref3_LayoutError_ok {F:Nat} {a0:S_ImposeLayout} {r:Int} (h:ref3_LayoutError F a0=some r):ACall Try.prog 10 [.agg (cS_ImposeLayout a0)] [] (.d (.v (.int .i64 r))) []:=by
  rw [ref3_LayoutError] at h
  refine ACall.intro (N:=117) Try.func10 rfl rfl rfl rfl rfl fun e=>?_
  refine T_reg [] [1] [(1,bx_ImposeLayout a0)] [] 2 (by kernel_rfl) (trivial) ?_
  obtain ⟨y1,hy1,h⟩:=call_ok h
  refine T_reg [(2,{ res:=.tup [oW4 y1.1,dI y1.2] })] [1,3,4] [(3,oW4 y1.1),(4,dI y1.2)] [(2,ACall Try.prog 14 [.agg (cS_FoldScheme a0.f0)] [] (.tup [oW4 y1.1,dI y1.2]) [])] 5 (by kernel_rfl) (ref3_Read_ok hy1) ?_
  refine T_seqk ?_
  refine T_reg [] [1,3,4,15] [(15,dB (y1.2 != (0:Int)))] [] 2 (by kernel_rfl) (trivial) ?_
  refine T_cond (y1.2 != (0:Int)) (by kernel_rfl) (fun hc=>?_) (fun hc=>?_)
  · have h:=cond_tt hc h
    refine T_reg [] [2] [(2,dI y1.2)] [] 2 (by kernel_rfl) (trivial) ?_
    obtain hs:=Option.some.inj h; subst hs
    refine T_ret fun a w hm=>then_ret (T_return (fr':=[(2,dI y1.2)]) [2] (by kernel_rfl) [.keep [2]] (by kernel_rfl) (by kernel_rfl) (by kernel_rfl) (by show _=_; kernel_rfl) (by exact trivial) a w hm)
  · have h:=cond_ff hc h
    refine T_skip fun a w hm=>then_norm (((?_:T Try.prog e 117 _ _ _) a w hm))
    refine T_reg [(1,{ rw:=some (dI (y1.1.length:Int)) })] [1,5] [(5,dI (IntKind.i64.wrap ((y1.1.length:Int).tdiv (2:Int))))] [(1,True∧dI ((y1.1.map cS_FoldPage).length:Int)=dI (y1.1.length:Int)),(0,(2:Int)≠0)] 1 (by kernel_rfl) (⟨len_ok cS_FoldPage,(show (2:Int)≠0 by decide)⟩) ?_
    refine T_seqk ?_
    refine T_block ?_
    obtain ⟨z1,hz1,h⟩:=lett_ok h
    refine T_reg [(12,{ rw:=some (dB z1) })] [1,5,20] [(20,dB (bif z1 then true else (decide (a0.f2 > (256:Int)))))] [(4,((((decide (a0.f1 < (1:Int))) == false) && true)=true→True)),(0,((((decide (a0.f1 < (1:Int))) == false) && true)=true→True)),(0,((((decide (a0.f1 < (1:Int))) == false) && true)=true→True)),(2,((((bif (decide (a0.f1 < (1:Int))) then true else (decide (a0.f1 > (256:Int)))) == false) && true)=true→True)),(0,((((bif (decide (a0.f1 < (1:Int))) then true else (decide (a0.f1 > (256:Int)))) == false) && true)=true→True)),(0,((((bif (decide (a0.f1 < (1:Int))) then true else (decide (a0.f1 > (256:Int)))) == false) && true)=true→True)),(0,(True)∧dB (bif (bif (decide (a0.f1 < (1:Int))) then true else (decide (a0.f1 > (256:Int)))) then true else (decide (a0.f2 < (1:Int))))=dB z1),(1,(((z1 == false) && true)=true→True)),(0,(((z1 == false) && true)=true→True)),(0,(((z1 == false) && true)=true→True))] 2 (by kernel_rfl) (⟨(fun hg=>trivial),(fun hg=>trivial),(fun hg=>trivial),(fun hg=>trivial),(fun hg=>trivial),(fun hg=>trivial),⟨trivial,(by subst hz1; rfl)⟩,(fun hg=>trivial),(fun hg=>trivial),(fun hg=>trivial)⟩) ?_
    refine T_cond (bif z1 then true else (decide (a0.f2 > (256:Int)))) (by kernel_rfl) (fun hc=>?_) (fun hc=>?_)
    · have h:=cond_tt hc h
      refine T_reg [] [2] [(2,dI (3:Int))] [] 1 (by kernel_rfl) (trivial) ?_
      obtain hs:=Option.some.inj h; subst hs
      refine T_ret fun a w hm=>inBlock_ret (then_ret (T_return (fr':=[(2,dI (3:Int))]) [2] (by kernel_rfl) [.keep [2]] (by kernel_rfl) (by kernel_rfl) (by kernel_rfl) (by show _=_; kernel_rfl) (by exact trivial) a w hm))
    · have h:=cond_ff hc h
      obtain ⟨z2,hz2,h⟩:=lett_ok h
      obtain ⟨z3,hz3,h⟩:=lett_ok h
      obtain ⟨z4,hz4,h⟩:=lett_ok h
      refine T_reg [(12,{ rw:=some (dB z2) }),(22,{ rw:=some (dB z3) }),(32,{ rw:=some (dB z4) })] [1,5,39] [(39,dB (bif z4 then true else (decide (a0.f6 > (64:Int)))))] [(4,((((decide (a0.f3 < (0:Int))) == false) && true)=true→True)),(0,((((decide (a0.f3 < (0:Int))) == false) && true)=true→True)),(0,((((decide (a0.f3 < (0:Int))) == false) && true)=true→True)),(2,((((bif (decide (a0.f3 < (0:Int))) then true else (decide (a0.f4 < (0:Int)))) == false) && true)=true→True)),(0,((((bif (decide (a0.f3 < (0:Int))) then true else (decide (a0.f4 < (0:Int)))) == false) && true)=true→True)),(0,((((bif (decide (a0.f3 < (0:Int))) then true else (decide (a0.f4 < (0:Int)))) == false) && true)=true→True)),(0,(True)∧dB (bif (bif (decide (a0.f3 < (0:Int))) then true else (decide (a0.f4 < (0:Int)))) then true else (decide (a0.f5 < (0:Int))))=dB z2),(1,(((z2 == false) && true)=true→True)),(0,(((z2 == false) && true)=true→True)),(0,(((z2 == false) && true)=true→True)),(2,((((bif z2 then true else (decide (a0.f6 < (0:Int)))) == false) && true)=true→True)),(0,((((bif z2 then true else (decide (a0.f6 < (0:Int)))) == false) && true)=true→True)),(0,((((bif z2 then true else (decide (a0.f6 < (0:Int)))) == false) && true)=true→True)),(0,(True)∧dB (bif (bif z2 then true else (decide (a0.f6 < (0:Int)))) then true else (decide (a0.f3 > (64:Int))))=dB z3),(1,(((z3 == false) && true)=true→True)),(0,(((z3 == false) && true)=true→True)),(0,(((z3 == false) && true)=true→True)),(2,((((bif z3 then true else (decide (a0.f4 > (64:Int)))) == false) && true)=true→True)),(0,((((bif z3 then true else (decide (a0.f4 > (64:Int)))) == false) && true)=true→True)),(0,((((bif z3 then true else (decide (a0.f4 > (64:Int)))) == false) && true)=true→True)),(0,(True)∧dB (bif (bif z3 then true else (decide (a0.f4 > (64:Int)))) then true else (decide (a0.f5 > (64:Int))))=dB z4),(1,(((z4 == false) && true)=true→True)),(0,(((z4 == false) && true)=true→True)),(0,(((z4 == false) && true)=true→True))] 2 (by kernel_rfl) (⟨(fun hg=>trivial),(fun hg=>trivial),(fun hg=>trivial),(fun hg=>trivial),(fun hg=>trivial),(fun hg=>trivial),⟨trivial,(by subst hz2; rfl)⟩,(fun hg=>trivial),(fun hg=>trivial),(fun hg=>trivial),(fun hg=>trivial),(fun hg=>trivial),(fun hg=>trivial),⟨trivial,(by subst hz3; rfl)⟩,(fun hg=>trivial),(fun hg=>trivial),(fun hg=>trivial),(fun hg=>trivial),(fun hg=>trivial),(fun hg=>trivial),⟨trivial,(by subst hz4; rfl)⟩,(fun hg=>trivial),(fun hg=>trivial),(fun hg=>trivial)⟩) ?_
      refine T_cond (bif z4 then true else (decide (a0.f6 > (64:Int)))) (by kernel_rfl) (fun hc=>?_) (fun hc=>?_)
      · have h:=cond_tt hc h
        refine T_reg [] [2] [(2,dI (3:Int))] [] 1 (by kernel_rfl) (trivial) ?_
        obtain hs:=Option.some.inj h; subst hs
        refine T_ret fun a w hm=>inBlock_ret (then_ret (T_return (fr':=[(2,dI (3:Int))]) [2] (by kernel_rfl) [.keep [2]] (by kernel_rfl) (by kernel_rfl) (by kernel_rfl) (by show _=_; kernel_rfl) (by exact trivial) a w hm))
      · have h:=cond_ff hc h
        refine T_reg [] [1,5,78] [(78,dB (bif (decide (a0.f7 < (0:Int))) then true else (decide (a0.f7 > (8:Int)))))] [(4,((((decide (a0.f7 < (0:Int))) == false) && true)=true→True)),(0,((((decide (a0.f7 < (0:Int))) == false) && true)=true→True)),(0,((((decide (a0.f7 < (0:Int))) == false) && true)=true→True))] 2 (by kernel_rfl) (⟨(fun hg=>trivial),(fun hg=>trivial),(fun hg=>trivial)⟩) ?_
        refine T_cond (bif (decide (a0.f7 < (0:Int))) then true else (decide (a0.f7 > (8:Int)))) (by kernel_rfl) (fun hc=>?_) (fun hc=>?_)
        · have h:=cond_tt hc h
          refine T_reg [] [2] [(2,dI (3:Int))] [] 1 (by kernel_rfl) (trivial) ?_
          obtain hs:=Option.some.inj h; subst hs
          refine T_ret fun a w hm=>inBlock_ret (then_ret (T_return (fr':=[(2,dI (3:Int))]) [2] (by kernel_rfl) [.keep [2]] (by kernel_rfl) (by kernel_rfl) (by kernel_rfl) (by show _=_; kernel_rfl) (by exact trivial) a w hm))
        · have h:=cond_ff hc h
          refine T_reg [] [1,5,87] [(87,dB (bif (decide (a0.f8 < (0:Int))) then true else (decide (a0.f8 > (2:Int)))))] [(4,((((decide (a0.f8 < (0:Int))) == false) && true)=true→True)),(0,((((decide (a0.f8 < (0:Int))) == false) && true)=true→True)),(0,((((decide (a0.f8 < (0:Int))) == false) && true)=true→True))] 2 (by kernel_rfl) (⟨(fun hg=>trivial),(fun hg=>trivial),(fun hg=>trivial)⟩) ?_
          refine T_cond (bif (decide (a0.f8 < (0:Int))) then true else (decide (a0.f8 > (2:Int)))) (by kernel_rfl) (fun hc=>?_) (fun hc=>?_)
          · have h:=cond_tt hc h
            refine T_reg [] [2] [(2,dI (14:Int))] [] 1 (by kernel_rfl) (trivial) ?_
            obtain hs:=Option.some.inj h; subst hs
            refine T_ret fun a w hm=>inBlock_ret (then_ret (T_return (fr':=[(2,dI (14:Int))]) [2] (by kernel_rfl) [.keep [2]] (by kernel_rfl) (by kernel_rfl) (by kernel_rfl) (by show _=_; kernel_rfl) (by exact trivial) a w hm))
          · have h:=cond_ff hc h
            obtain ⟨z5,hz5,h⟩:=lett_ok h
            refine T_reg [(4,{ rw:=some (dI z5) })] [1,96] [(96,dB (decide ((IntKind.i64.wrap (a0.f7 * z5)) > a0.f5)))] [(4,((2:Int)≠0)∧dI (IntKind.i64.wrap ((IntKind.i64.wrap ((IntKind.i64.wrap ((y1.1.length:Int).tdiv (2:Int))) - (1:Int))).tdiv (2:Int)))=dI z5)] 5 (by kernel_rfl) (⟨(show (2:Int)≠0 by decide),(by subst hz5; rfl)⟩) ?_
            refine T_cond (decide ((IntKind.i64.wrap (a0.f7 * z5)) > a0.f5)) (by kernel_rfl) (fun hc=>?_) (fun hc=>?_)
            · have h:=cond_tt hc h
              refine T_reg [] [2] [(2,dI (19:Int))] [] 1 (by kernel_rfl) (trivial) ?_
              obtain hs:=Option.some.inj h; subst hs
              refine T_ret fun a w hm=>inBlock_ret (then_ret (T_return (fr':=[(2,dI (19:Int))]) [2] (by kernel_rfl) [.keep [2]] (by kernel_rfl) (by kernel_rfl) (by kernel_rfl) (by show _=_; kernel_rfl) (by exact trivial) a w hm))
            · have h:=cond_ff hc h
              refine T_skip fun a w hm=>inBlock_norm (then_norm (((?_:T Try.prog e 117 _ _ _) a w hm)))
              obtain ⟨y2,hy2,h⟩:=call_ok h
              refine T_reg [(1,{ res:=.tup [dI y2.1,dI y2.2] })] [6,7] [(6,dI y2.1),(7,dI y2.2)] [(1,ACall Try.prog 18 [.agg (cS_ImposeLayout a0)] [] (.tup [dI y2.1,dI y2.2]) [])] 5 (by kernel_rfl) (ref3_PlateSize_ok hy2) ?_
              refine T_seqk ?_
              refine T_reg [] [116] [(116,dB (bif (decide (y2.1 > (1024:Int))) then true else (decide (y2.2 > (1024:Int)))))] [(3,((((decide (y2.1 > (1024:Int))) == false) && true)=true→True)),(0,((((decide (y2.1 > (1024:Int))) == false) && true)=true→True))] 1 (by kernel_rfl) (⟨(fun hg=>trivial),(fun hg=>trivial)⟩) ?_
              refine T_cond (bif (decide (y2.1 > (1024:Int))) then true else (decide (y2.2 > (1024:Int)))) (by kernel_rfl) (fun hc=>?_) (fun hc=>?_)
              · have h:=cond_tt hc h
                refine T_reg [] [2] [(2,dI (2:Int))] [] 1 (by kernel_rfl) (trivial) ?_
                obtain hs:=Option.some.inj h; subst hs
                refine T_ret fun a w hm=>then_ret (T_return (fr':=[(2,dI (2:Int))]) [2] (by kernel_rfl) [.keep [2]] (by kernel_rfl) (by kernel_rfl) (by kernel_rfl) (by show _=_; kernel_rfl) (by exact trivial) a w hm)
              · have h:=cond_ff hc h
                refine T_skip fun a w hm=>then_norm (((?_:T Try.prog e 117 _ _ _) a w hm))
                refine T_reg [] [2] [(2,dI (0:Int))] [] 1 (by kernel_rfl) (trivial) ?_
                obtain hs:=Option.some.inj h; subst hs
                refine T_ret fun a w hm=>T_return (fr':=[(2,dI (0:Int))]) [2] (by kernel_rfl) [.keep [2]] (by kernel_rfl) (by kernel_rfl) (by kernel_rfl) (by show _=_; kernel_rfl) (by exact trivial) a w hm
theorem law3_once_ok {F:Nat}  {r:S_FoldScheme} (h:law3_once F  = some r):ACall Try.prog 27 [] [] (.agg (cS_FoldScheme r)) []:=by
  rw [law3_once] at h
  refine ACall.intro (N:=4) Try.func27 rfl rfl rfl rfl rfl fun e=>?_
  refine T_reg [] [0] [(0,.box [dI 0,dI 0,oW7 []])] [] 1 (by kernel_rfl) (trivial) ?_
  refine T_reg [(1,{ es:=some (([(S_FoldStep.mk (0:Int) (1:Int) true)]).map cS_FoldStep) }),(2,{ frz:=[(2,0)] })] [0] [(0,.box [dI (2:Int),dI (1:Int),.d (.sl 3 (([(S_FoldStep.mk (0:Int) (1:Int) true)]).map cS_FoldStep))])] [(1,(([(S_FoldStep.mk (0:Int) (1:Int) true)]).map cS_FoldStep)=(([(S_FoldStep.mk (0:Int) (1:Int) true)]).map cS_FoldStep))] 2 (by kernel_rfl) (rfl) ?_
  obtain hs:=Option.some.inj h; subst hs
  refine T_ret fun a w hm=>T_returnC (fr':=[(0,.box [dI (2:Int),dI (1:Int),.d (.sl 3 (([(S_FoldStep.mk (0:Int) (1:Int) true)]).map cS_FoldStep))])]) (ts:=[4]) (N':=5) (fr2:=[(4,.agg (cS_FoldScheme (S_FoldScheme.mk (2:Int) (1:Int) ([(S_FoldStep.mk (0:Int) (1:Int) true)]))))]++[(0,.box [dI (2:Int),dI (1:Int),.d (.sl 3 (([(S_FoldStep.mk (0:Int) (1:Int) true)]).map cS_FoldStep))])]) [.keep [0]] (by kernel_rfl) (by kernel_rfl) (by kernel_rfl) (by kernel_rfl) (by show _=_; kernel_rfl) (by exact trivial) a w hm
theorem impose_depth_ok {F:Nat} {a0:Int} {a1:Int} {r:Int} (h:impose_depth F a0 a1=some r):ACall Try.prog 66 [.d (.v (.int .i64 a0)),.d (.v (.int .i64 a1))] [] (.d (.v (.int .i64 r))) []:=by
  rw [impose_depth] at h
  refine ACall.intro (N:=11) Try.func66 rfl rfl rfl rfl rfl fun e=>?_
  refine T_reg [] [0,1] [] [] 1 (by kernel_rfl) (trivial) ?_
  obtain ⟨z1,hz1,h⟩:=lett_ok h
  refine T_reg [(5,{ rw:=some (dI z1) })] [4] [(4,dI z1)] [(5,(True)∧dI (if (IntKind.i64.wrap ((IntKind.i64.wrap (a1 - (1:Int))) - a0)) < a0 then (IntKind.i64.wrap ((IntKind.i64.wrap (a1 - (1:Int))) - a0)) else a0)=dI z1)] 1 (by kernel_rfl) (⟨trivial,(by subst hz1; rfl)⟩) ?_
  obtain hs:=Option.some.inj h; subst hs
  refine T_ret fun a w hm=>T_return (fr':=[(4,dI z1)]) [4] (by kernel_rfl) [.keep [4]] (by kernel_rfl) (by kernel_rfl) (by kernel_rfl) (by show _=_; kernel_rfl) (by exact trivial) a w hm
theorem impose_box_turned_ok {F:Nat} {a0:S_impose_box} {a1:Int} {r:S_impose_box} (h:impose_box_turned F a0 a1=some r):ACall Try.prog 48 [.agg (cS_impose_box a0),.d (.v (.int .i64 a1))] [] (.agg (cS_impose_box r)) []:=by
  rw [impose_box_turned] at h
  refine ACall.intro (N:=29) Try.func48 rfl rfl rfl rfl rfl fun e=>?_
  refine T_reg [] [1,2,4] [(2,bx_impose_box a0),(4,.box [dI 0,dI 0,dI 0,dI 0,dI 0,dI 0])] [] 2 (by kernel_rfl) (trivial) ?_
  refine T_joinc h (fun (p:Int×Int×Int×Int×Int×Int)=>[(2,.box [dI p.1,dI p.2.1,dI p.2.2.1,dI p.2.2.2.1,dI p.2.2.2.2.1,dI p.2.2.2.2.2]),(4,.box [dI 0,dI 0,dI 0,dI 0,dI 0,dI 0])]) (fun s h=>?_) (fun s h=>?_)
  · refine T_co [.keep [1,2,4]] ((fun (p:Int×Int×Int×Int×Int×Int×Int)=>[(1,dI p.1),(2,.box [dI p.2.1,dI p.2.2.1,dI p.2.2.2.1,dI p.2.2.2.2.1,dI p.2.2.2.2.2.1,dI p.2.2.2.2.2.2]),(4,.box [dI 0,dI 0,dI 0,dI 0,dI 0,dI 0])]) (a1,a0.f0,a0.f1,a0.f2,a0.f3,a0.f4,a0.f5)) (by show _=_; kernel_rfl) ?_
    refine T_block ?_
    refine T_loopF (ι:=Int×Int×Int×Int×Int×Int×Int) (fun (p:Int×Int×Int×Int×Int×Int×Int)=>[(1,dI p.1),(2,.box [dI p.2.1,dI p.2.2.1,dI p.2.2.2.1,dI p.2.2.2.2.1,dI p.2.2.2.2.2.1,dI p.2.2.2.2.2.2]),(4,.box [dI 0,dI 0,dI 0,dI 0,dI 0,dI 0])]) (fun n p=>impose_box_turned_L0 F n p.1 p.2.1 p.2.2.1 p.2.2.2.1 p.2.2.2.2.1 p.2.2.2.2.2.1 p.2.2.2.2.2.2=some s) (fun i hh=>by simp [impose_box_turned_L0] at hh) (fun n p h=>?_) F (a1,a0.f0,a0.f1,a0.f2,a0.f3,a0.f4,a0.f5) h
    obtain ⟨v1,v2,v3,v4,v5,v6,v7⟩:=p
    have h:impose_box_turned_L0 F (n+1) v1 v2 v3 v4 v5 v6 v7=some s:=h
    rw [impose_box_turned_L0] at h
    refine T_seqk ?_
    refine T_reg [] [1,2,4,6] [(6,dB (decide (v1 > (0:Int))))] [] 2 (by kernel_rfl) (trivial) ?_
    refine T_cond (decide (v1 > (0:Int))) (by kernel_rfl) (fun hc=>?_) (fun hc=>?_)
    · have h:=cond_tt hc h
      refine T_skip fun a w hm=>then_norm (((?_:T Try.prog e 29 _ _ _) a w hm))
      refine T_seqk ?_
      refine T_block ?_
      refine T_reg_end [] [1,2,4] [(2,.box [dI v3,dI v2,dI (IntKind.i64.wrap ((IntKind.i64.wrap (v3 - v5)) - v7)),dI v4,dI v7,dI v6])] [] 20 (by kernel_rfl) (trivial) fun a w hm=>inBlock_norm (then_norm (((?_:T Try.prog e 29 _ _ _) a w hm)))
      refine T_reg_end [] [1,2,4] [(1,dI (IntKind.i64.wrap (v1 - (1:Int))))] [] 3 (by kernel_rfl) (trivial) fun a w hm=>then_norm (⟨(IntKind.i64.wrap (v1 - (1:Int)),v3,v2,(IntKind.i64.wrap ((IntKind.i64.wrap (v3 - v5)) - v7)),v4,v7,v6),h,hm.co (cs:=[.keep [1,2,4]]) (by show _=_; kernel_rfl)⟩)
    · have h:=cond_ff hc h
      obtain hs:=Option.some.inj h; subst hs
      refine T_exit fun a w hm=>then_exit (then_exit (inBlock_exit (then_norm (hm.co (cs:=[.keep [2,4]]) (by show _=_; kernel_rfl)))))
  · obtain ⟨v8,v9,v10,v11,v12,v13⟩:=s
    try dsimp only at h
    refine T_reg [] [4] [(4,.box [dI v8,dI v9,dI v10,dI v11,dI v12,dI v13])] [] 2 (by kernel_rfl) (trivial) ?_
    obtain hs:=Option.some.inj h; subst hs
    refine T_ret fun a w hm=>T_returnC (fr':=[(4,.box [dI v8,dI v9,dI v10,dI v11,dI v12,dI v13])]) (ts:=[29]) (N':=30) (fr2:=[(29,.agg (cS_impose_box (S_impose_box.mk v8 v9 v10 v11 v12 v13)))]++[(4,.box [dI v8,dI v9,dI v10,dI v11,dI v12,dI v13])]) [.keep [4]] (by kernel_rfl) (by kernel_rfl) (by kernel_rfl) (by kernel_rfl) (by show _=_; kernel_rfl) (by exact trivial) a w hm
theorem impose_place_ok {F:Nat} {a0:S_ImposeLayout} {a1:Int} {a2:S_FoldPage} {r:S_impose_box} (h:impose_place F a0 a1 a2=some r):ACall Try.prog 47 [.agg (cS_ImposeLayout a0),.d (.v (.int .i64 a1)),.agg (cS_FoldPage a2)] [] (.agg (cS_impose_box r)) []:=by
  rw [impose_place] at h
  refine ACall.intro (N:=104) Try.func47 rfl rfl rfl rfl rfl fun e=>?_
  refine T_reg [] [1,3,5,6] [(3,bx_ImposeLayout a0),(5,bx_FoldPage a2),(6,.box [dI 0,dI 0,dI 0,dI 0,dI 0,dI 0])] [] 3 (by kernel_rfl) (trivial) ?_
  obtain ⟨y1,hy1,h⟩:=call_ok h
  refine T_reg [(1,{ res:=.tup [dI y1.1,dI y1.2] })] [1,3,5,6,7,8] [(7,dI y1.1),(8,dI y1.2)] [(1,ACall Try.prog 55 [.agg (cS_ImposeLayout a0)] [] (.tup [dI y1.1,dI y1.2]) [])] 5 (by kernel_rfl) (impose_leaf_ok hy1) ?_
  obtain ⟨y2,hy2,h⟩:=call_ok h
  refine T_drawX mixed 40 (.take 0 (.take 2 (.take 4 (.take 5 (.take 6 (.take 7 (.take 8 (.take 10 (.take 11 (.all (.alt 1 (.all (.alt 3 (.all (.alt 9 (.all (.alt 12 (.take 13 (.all (.alt 14 (.take 15 (.take 16 (.take 17 .done))) .stop))) .stop)) (.alt 12 (.all (.alt 9 (.take 13 (.all (.alt 14 (.take 15 (.take 16 (.take 17 .done))) .stop))) .stop)) .stop))) (.alt 9 (.all (.alt 3 (.all (.alt 12 (.take 13 (.all (.alt 14 (.take 15 (.take 16 (.take 17 .done))) .stop))) .stop)) (.alt 12 (.take 13 (.all (.alt 3 (.all (.alt 14 (.take 15 (.take 16 (.take 17 .done))) .stop)) (.alt 14 (.all (.alt 3 (.take 15 (.take 16 (.take 17 .done))) .stop)) .stop)))) .stop))) (.alt 12 (.all (.alt 3 (.all (.alt 9 (.take 13 (.all (.alt 14 (.take 15 (.take 16 (.take 17 .done))) .stop))) .stop)) (.alt 9 (.take 13 (.all (.alt 3 (.all (.alt 14 (.take 15 (.take 16 (.take 17 .done))) .stop)) (.alt 14 (.all (.alt 3 (.take 15 (.take 16 (.take 17 .done))) .stop)) .stop)))) .stop))) .stop)))) (.alt 3 (.all (.alt 1 (.all (.alt 9 (.all (.alt 12 (.take 13 (.all (.alt 14 (.take 15 (.take 16 (.take 17 .done))) .stop))) .stop)) (.alt 12 (.all (.alt 9 (.take 13 (.all (.alt 14 (.take 15 (.take 16 (.take 17 .done))) .stop))) .stop)) .stop))) (.alt 9 (.all (.alt 1 (.all (.alt 12 (.take 13 (.all (.alt 14 (.take 15 (.take 16 (.take 17 .done))) .stop))) .stop)) (.alt 12 (.take 13 (.all (.alt 1 (.all (.alt 14 (.take 15 (.take 16 (.take 17 .done))) .stop)) (.alt 14 (.take 15 (.all (.alt 1 (.take 16 (.take 17 .done)) .stop))) .stop)))) .stop))) (.alt 12 (.all (.alt 1 (.all (.alt 9 (.take 13 (.all (.alt 14 (.take 15 (.take 16 (.take 17 .done))) .stop))) .stop)) (.alt 9 (.take 13 (.all (.alt 1 (.all (.alt 14 (.take 15 (.take 16 (.take 17 .done))) .stop)) (.alt 14 (.take 15 (.all (.alt 1 (.take 16 (.take 17 .done)) .stop))) .stop)))) .stop))) .stop)))) (.alt 9 (.all (.alt 1 (.all (.alt 3 (.all (.alt 12 (.take 13 (.all (.alt 14 (.take 15 (.take 16 (.take 17 .done))) .stop))) .stop)) (.alt 12 (.take 13 (.all (.alt 3 (.all (.alt 14 (.take 15 (.take 16 (.take 17 .done))) .stop)) (.alt 14 (.all (.alt 3 (.take 15 (.take 16 (.take 17 .done))) .stop)) .stop)))) .stop))) (.alt 3 (.all (.alt 1 (.all (.alt 12 (.take 13 (.all (.alt 14 (.take 15 (.take 16 (.take 17 .done))) .stop))) .stop)) (.alt 12 (.take 13 (.all (.alt 1 (.all (.alt 14 (.take 15 (.take 16 (.take 17 .done))) .stop)) (.alt 14 (.take 15 (.all (.alt 1 (.take 16 (.take 17 .done)) .stop))) .stop)))) .stop))) (.alt 12 (.take 13 (.all (.alt 1 (.all (.alt 3 (.all (.alt 14 (.take 15 (.take 16 (.take 17 .done))) .stop)) (.alt 14 (.all (.alt 3 (.take 15 (.take 16 (.take 17 .done))) .stop)) .stop))) (.alt 3 (.all (.alt 1 (.all (.alt 14 (.take 15 (.take 16 (.take 17 .done))) .stop)) (.alt 14 (.take 15 (.all (.alt 1 (.take 16 (.take 17 .done)) .stop))) .stop))) (.alt 14 (.all (.alt 1 (.all (.alt 3 (.take 15 (.take 16 (.take 17 .done))) .stop)) (.alt 3 (.take 15 (.all (.alt 1 (.take 16 (.take 17 .done)) .stop))) .stop))) .stop))))) .stop)))) (.alt 12 (.all (.alt 1 (.all (.alt 3 (.all (.alt 9 (.take 13 (.all (.alt 14 (.take 15 (.take 16 (.take 17 .done))) .stop))) .stop)) (.alt 9 (.take 13 (.all (.alt 3 (.all (.alt 14 (.take 15 (.take 16 (.take 17 .done))) .stop)) (.alt 14 (.all (.alt 3 (.take 15 (.take 16 (.take 17 .done))) .stop)) .stop)))) .stop))) (.alt 3 (.all (.alt 1 (.all (.alt 9 (.take 13 (.all (.alt 14 (.take 15 (.take 16 (.take 17 .done))) .stop))) .stop)) (.alt 9 (.take 13 (.all (.alt 1 (.all (.alt 14 (.take 15 (.take 16 (.take 17 .done))) .stop)) (.alt 14 (.take 15 (.all (.alt 1 (.take 16 (.take 17 .done)) .stop))) .stop)))) .stop))) (.alt 9 (.take 13 (.all (.alt 1 (.all (.alt 3 (.all (.alt 14 (.take 15 (.take 16 (.take 17 .done))) .stop)) (.alt 14 (.all (.alt 3 (.take 15 (.take 16 (.take 17 .done))) .stop)) .stop))) (.alt 3 (.all (.alt 1 (.all (.alt 14 (.take 15 (.take 16 (.take 17 .done))) .stop)) (.alt 14 (.take 15 (.all (.alt 1 (.take 16 (.take 17 .done)) .stop))) .stop))) (.alt 14 (.all (.alt 1 (.all (.alt 3 (.take 15 (.take 16 (.take 17 .done))) .stop)) (.alt 3 (.take 15 (.all (.alt 1 (.take 16 (.take 17 .done)) .stop))) .stop))) .stop))))) .stop)))) .stop)))))))))))))) ([0,1,0,4,0,16,32,0,128,256,0,1024,2048,4608,8256,16392,32770,131071],[0,1,0,4,0,16,32,0,128,256,0,1024,2048,4608,8256,16392,32770,65536]) 241141 [(14,{ res:=dI y2 })] [1,3,5,6,7,8,9] [] [(1,dI a1),(3,bx_ImposeLayout a0),(5,bx_FoldPage a2),(6,.box [dI 0,dI 0,dI 0,dI 0,dI 0,dI 0]),(7,dI y1.1),(8,dI y1.2),(9,dI (IntKind.i64.wrap (a0.f5 - (IntKind.i64.wrap (a0.f7 * y2)))))] ((fun (o6:Prop)=>fun (o14:Prop)=>[(4,o6),(9,o14),(6,o14),(7,o14),(6,o14),(3,o14),(8,o14),(6,o14),(3,o14),(9,o14),(6,o14),(7,o14),(6,o14),(3,o14),(8,o14),(6,o14),(3,o14),(9,o14),(6,o14),(3,o14),(8,o14),(6,o14),(3,o14),(8,o14),(3,o14),(6,o14),(3,o14),(4,o14),(15,o14),(6,o14),(3,o14),(8,o14),(6,o14),(3,o14),(8,o14),(3,o14),(6,o14),(3,o14),(4,o14)]) ((2:Int)≠0) (ACall Try.prog 66 [dI (IntKind.i64.wrap ((IntKind.i64.wrap (a1 - (1:Int))).tdiv (2:Int))),dI (IntKind.i64.wrap (a0.f0.f0 * a0.f0.f1))] [] (dI y2) [])) 10 (by kernel_rfl) (by kernel_rfl) (by kernel_rfl) (have p6:=(show (2:Int)≠0 by decide); have p14:=impose_depth_ok hy2; ⟨p6,p14,p14,p14,p14,p14,p14,p14,p14,p14,p14,p14,p14,p14,p14,p14,p14,p14,p14,p14,p14,p14,p14,p14,p14,p14,p14,p14,p14,p14,p14,p14,p14,p14,p14,p14,p14,p14,p14⟩) ?_
  refine T_reg [] [1,3,5,6,7,8,9,10] [(10,.box [dI (IntKind.i64.wrap ((IntKind.i64.wrap (a0.f1+a0.f4))+a0.f5)),dI (IntKind.i64.wrap (a0.f2+(IntKind.i64.wrap ((2:Int) * a0.f3)))),dI (IntKind.i64.wrap (a0.f5 - (IntKind.i64.wrap (a0.f7 * y2)))),dI a0.f3,dI a0.f1,dI a0.f2])] [] 24 (by kernel_rfl) (trivial) ?_
  refine T_joinc h (fun (p:Int)=>[(3,bx_ImposeLayout a0),(5,bx_FoldPage a2),(6,.box [dI 0,dI 0,dI 0,dI 0,dI 0,dI 0]),(7,dI y1.1),(8,dI y1.2),(10,.box [dI (IntKind.i64.wrap ((IntKind.i64.wrap (a0.f1+a0.f4))+a0.f5)),dI (IntKind.i64.wrap (a0.f2+(IntKind.i64.wrap ((2:Int) * a0.f3)))),dI p,dI a0.f3,dI a0.f1,dI a0.f2])]) (fun s h=>?_) (fun v1 h=>?_)
  · refine T_reg [] [3,5,6,7,8,9,10,59] [(59,dB ((a1.tmod (2:Int)) == (0:Int)))] [(1,(2:Int)≠0)] 1 (by kernel_rfl) ((show (2:Int)≠0 by decide)) ?_
    refine T_cond ((a1.tmod (2:Int)) == (0:Int)) (by kernel_rfl) (fun hc=>?_) (fun hc=>?_)
    · have h:=cond_tt hc h
      obtain ⟨z1,hz1,h⟩:=lett_ok h
      obtain hs:=Option.some.inj h; subst hs
      refine T_reg_end [(3,{ rw:=some (dI z1) })] [3,5,6,7,8,10] [(10,.box [dI (IntKind.i64.wrap ((IntKind.i64.wrap (a0.f1+a0.f4))+a0.f5)),dI (IntKind.i64.wrap (a0.f2+(IntKind.i64.wrap ((2:Int) * a0.f3)))),dI (IntKind.i64.wrap (z1 - a0.f1)),dI a0.f3,dI a0.f1,dI a0.f2])] [(3,(True)∧dI (IntKind.i64.wrap ((IntKind.i64.wrap ((IntKind.i64.wrap (a0.f1+a0.f4))+a0.f5)) - (IntKind.i64.wrap (a0.f5 - (IntKind.i64.wrap (a0.f7 * y2))))))=dI z1)] 5 (by kernel_rfl) (⟨trivial,(by subst hz1; rfl)⟩) fun a w hm=>then_norm (hm.co (cs:=[.keep [3,5,6,7,8,10]]) (by show _=_; kernel_rfl))
    · have h:=cond_ff hc h
      obtain hs:=Option.some.inj h; subst hs
      refine T_skip fun a w hm=>then_norm (hm.co (cs:=[.keep [3,5,6,7,8,10]]) (by show _=_; kernel_rfl))
  · skip
    obtain ⟨y3,hy3,h⟩:=call_ok h
    refine T_reg [(3,{ res:=.agg (cS_impose_box y3) })] [3,5,6,7,8,10] [(10,bx_impose_box y3)] [(3,ACall Try.prog 48 [.agg (cS_impose_box (S_impose_box.mk (IntKind.i64.wrap ((IntKind.i64.wrap (a0.f1+a0.f4))+a0.f5)) (IntKind.i64.wrap (a0.f2+(IntKind.i64.wrap ((2:Int) * a0.f3)))) v1 a0.f3 a0.f1 a0.f2)),dI a2.f3] [] (.agg (cS_impose_box y3)) [])] 1 (by kernel_rfl) (impose_box_turned_ok hy3) ?_
    obtain ⟨y4,hy4,h⟩:=call_ok h
    refine T_reg [(1,{ res:=.tup [dI y4.1,dI y4.2] })] [3,5,6,7,8,10,11,12] [(11,dI y4.1),(12,dI y4.2)] [(1,ACall Try.prog 56 [.agg (cS_ImposeLayout a0)] [] (.tup [dI y4.1,dI y4.2]) [])] 5 (by kernel_rfl) (impose_single_ok hy4) ?_
    refine T_reg [] [6] [(6,.box [dI y4.1,dI y4.2,dI (IntKind.i64.wrap ((IntKind.i64.wrap (a0.f6+(IntKind.i64.wrap (a2.f1 * y1.1))))+y3.f2)),dI (IntKind.i64.wrap ((IntKind.i64.wrap (a0.f6+(IntKind.i64.wrap (a2.f2 * y1.2))))+y3.f3)),dI y3.f4,dI y3.f5])] [] 28 (by kernel_rfl) (trivial) ?_
    obtain hs:=Option.some.inj h; subst hs
    refine T_ret fun a w hm=>T_returnC (fr':=[(6,.box [dI y4.1,dI y4.2,dI (IntKind.i64.wrap ((IntKind.i64.wrap (a0.f6+(IntKind.i64.wrap (a2.f1 * y1.1))))+y3.f2)),dI (IntKind.i64.wrap ((IntKind.i64.wrap (a0.f6+(IntKind.i64.wrap (a2.f2 * y1.2))))+y3.f3)),dI y3.f4,dI y3.f5])]) (ts:=[104]) (N':=105) (fr2:=[(104,.agg (cS_impose_box (S_impose_box.mk y4.1 y4.2 (IntKind.i64.wrap ((IntKind.i64.wrap (a0.f6+(IntKind.i64.wrap (a2.f1 * y1.1))))+y3.f2)) (IntKind.i64.wrap ((IntKind.i64.wrap (a0.f6+(IntKind.i64.wrap (a2.f2 * y1.2))))+y3.f3)) y3.f4 y3.f5)))]++[(6,.box [dI y4.1,dI y4.2,dI (IntKind.i64.wrap ((IntKind.i64.wrap (a0.f6+(IntKind.i64.wrap (a2.f1 * y1.1))))+y3.f2)),dI (IntKind.i64.wrap ((IntKind.i64.wrap (a0.f6+(IntKind.i64.wrap (a2.f2 * y1.2))))+y3.f3)),dI y3.f4,dI y3.f5])]) [.keep [6]] (by kernel_rfl) (by kernel_rfl) (by kernel_rfl) (by kernel_rfl) (by show _=_; kernel_rfl) (by exact trivial) a w hm
theorem impose_Sheet_ok {F:Nat} {a0:S_ImposeLayout} {a1:Int} {r:S_ImposeSheet×Int} (h:impose_Sheet F a0 a1=some r):ACall Try.prog 26 [.agg (cS_ImposeLayout a0),.d (.v (.int .i64 a1))] [] (.tup [.agg (cS_ImposeSheet r.1),.d (.v (.int .i64 r.2))]) []:=by
  rw [impose_Sheet] at h
  refine ACall.intro (N:=136) Try.func26 rfl rfl rfl rfl rfl fun e=>?_
  refine T_reg [] [1,2,4] [(2,bx_ImposeLayout a0),(4,.box [dI 0,dI 0,oW8 [],oW8 []])] [] 3 (by kernel_rfl) (trivial) ?_
  refine T_seqk ?_
  obtain ⟨y5,hy1,h⟩:=call_ok h
  refine T_reg [(1,{ res:=dI y5 })] [1,2,4,6] [(6,dI y5)] [(1,ACall Try.prog 22 [.agg (cS_ImposeLayout a0)] [] (dI y5) [])] 1 (by kernel_rfl) (impose_Check_ok hy1) ?_
  refine T_reg [] [1,2,4,6,17] [(17,dB (y5 != (0:Int)))] [] 2 (by kernel_rfl) (trivial) ?_
  refine T_cond (y5 != (0:Int)) (by kernel_rfl) (fun hc=>?_) (fun hc=>?_)
  · have h:=cond_tt hc h
    refine T_region [(0,{ take:=[0] })] [4,5] [.nilc 4 2 79 4,.nilc 4 3 79 4,.keep [4,5]] [(4,.box [dI 0,dI 0,oW8 [],oW8 []]),(5,dI y5)] [] 4 (by kernel_rfl) (trivial) ?_
    obtain hs:=Option.some.inj h; subst hs
    refine T_ret fun a w hm=>then_ret (T_returnC (fr':=[(4,.box [dI 0,dI 0,.fz 4 ([].map cS_ImposePlace),.fz 4 ([].map cS_ImposePlace)]),(5,dI y5)]) (ts:=[136,5]) (N':=137) (fr2:=[(136,.agg (cS_ImposeSheet z_ImposeSheet))]++[(4,.box [dI 0,dI 0,.fz 4 ([].map cS_ImposePlace),.fz 4 ([].map cS_ImposePlace)]),(5,dI y5)]) [.frz (4,3),.frz (4,4),.keep [4,5]] (by kernel_rfl) (by kernel_rfl) (by kernel_rfl) (by kernel_rfl) (by show _=_; kernel_rfl) (by exact trivial) a w hm)
  · have h:=cond_ff hc h
    refine T_skip fun a w hm=>then_norm (((?_:T Try.prog e 136 _ _ _) a w hm))
    obtain ⟨y1,hy2,h⟩:=call_ok h
    refine T_reg [(2,{ res:=.tup [.d (.sl 4 (y1.1.map cS_FoldPage)),dI y1.2] })] [1,2,4,7] [(7,.d (.sl 4 (y1.1.map cS_FoldPage)))] [(2,ACall Try.prog 24 [.agg (cS_FoldScheme a0.f0)] [] (.tup [.d (.sl 4 (y1.1.map cS_FoldPage)),dI y1.2]) [])] 5 (by kernel_rfl) (fold_Pages_ok hy2) ?_
    refine T_seqk ?_
    refine T_reg [(5,{ rw:=some (dI (y1.1.length:Int)) })] [1,2,4,7,33] [(33,dB (bif (decide (a1 < (0:Int))) then true else (decide (a1 > (y1.1.length:Int)))))] [(3,((((decide (a1 < (0:Int))) == false) && true)=true→True)),(0,((((decide (a1 < (0:Int))) == false) && true)=true→True)),(0,((((decide (a1 < (0:Int))) == false) && true)=true→True∧dI ((y1.1.map cS_FoldPage).length:Int)=dI (y1.1.length:Int))),(0,((((decide (a1 < (0:Int))) == false) && true)=true→True))] 1 (by kernel_rfl) (⟨(fun hg=>trivial),(fun hg=>trivial),(fun hg=>len_ok cS_FoldPage),(fun hg=>trivial)⟩) ?_
    refine T_cond (bif (decide (a1 < (0:Int))) then true else (decide (a1 > (y1.1.length:Int)))) (by kernel_rfl) (fun hc=>?_) (fun hc=>?_)
    · have h:=cond_tt hc h
      refine T_region [(0,{ take:=[0] })] [4,5] [.nilc 4 2 79 4,.nilc 4 3 79 4,.keep [4,5]] [(4,.box [dI 0,dI 0,oW8 [],oW8 []]),(5,dI (3:Int))] [] 3 (by kernel_rfl) (trivial) ?_
      obtain hs:=Option.some.inj h; subst hs
      refine T_ret fun a w hm=>then_ret (T_returnC (fr':=[(4,.box [dI 0,dI 0,.fz 4 ([].map cS_ImposePlace),.fz 4 ([].map cS_ImposePlace)]),(5,dI (3:Int))]) (ts:=[136,5]) (N':=137) (fr2:=[(136,.agg (cS_ImposeSheet z_ImposeSheet))]++[(4,.box [dI 0,dI 0,.fz 4 ([].map cS_ImposePlace),.fz 4 ([].map cS_ImposePlace)]),(5,dI (3:Int))]) [.frz (4,3),.frz (4,4),.keep [4,5]] (by kernel_rfl) (by kernel_rfl) (by kernel_rfl) (by kernel_rfl) (by show _=_; kernel_rfl) (by exact trivial) a w hm)
    · have h:=cond_ff hc h
      refine T_skip fun a w hm=>then_norm (((?_:T Try.prog e 136 _ _ _) a w hm))
      refine T_reg [] [1,2,4,7,9] [(9,.box [dI 0,dI 0,oW8 [],oW8 []])] [] 1 (by kernel_rfl) (trivial) ?_
      obtain ⟨y2,hy3,h⟩:=call_ok h
      refine T_reg [(1,{ res:=.tup [dI y2.1,dI y2.2] })] [1,2,4,7,9] [(9,.box [dI y2.1,dI y2.2,oW8 [],oW8 []])] [(1,ACall Try.prog 44 [.agg (cS_ImposeLayout a0)] [] (.tup [dI y2.1,dI y2.2]) [])] 7 (by kernel_rfl) (impose_size_ok hy3) ?_
      refine T_seqk ?_
      obtain ⟨hp1,h⟩:=chk_ok h
      refine T_reg [(2,{ rw:=some (.d (.sl 4 (((y1.1.drop (0:Int).toNat).take (a1.toNat - (0:Int).toNat)).map cS_FoldPage))) }),(3,{ rw:=some (dI (((y1.1.drop (0:Int).toNat).take (a1.toNat - (0:Int).toNat)).length:Int)) })] [2,4,9,44,45,46] [(44,.d (.sl 4 (((y1.1.drop (0:Int).toNat).take (a1.toNat - (0:Int).toNat)).map cS_FoldPage))),(45,dI (((y1.1.drop (0:Int).toNat).take (a1.toNat - (0:Int).toNat)).length:Int)),(46,dI (0:Int))] [(2,(0≤(0:Int)∧(0:Int)≤a1∧a1≤((y1.1.map cS_FoldPage).length:Int))∧AV.d (.sl 4 (((y1.1.map cS_FoldPage).drop (0:Int).toNat).take (a1.toNat - (0:Int).toNat)))=.d (.sl 4 (((y1.1.drop (0:Int).toNat).take (a1.toNat - (0:Int).toNat)).map cS_FoldPage))),(0,True∧dI ((((y1.1.drop (0:Int).toNat).take (a1.toNat - (0:Int).toNat)).map cS_FoldPage).length:Int)=dI (((y1.1.drop (0:Int).toNat).take (a1.toNat - (0:Int).toNat)).length:Int))] 1 (by kernel_rfl) (⟨cutH cS_FoldPage hp1,len_ok cS_FoldPage⟩) ?_
      refine T_joinct h (fun (p:(List S_ImposePlace)×(List S_ImposePlace))=>[(4,.box [dI 0,dI 0,oW8 [],oW8 []]),(9,.box [dI y2.1,dI y2.2,oW8 p.1,oW8 p.2])]) (fun s h=>?_) (fun s h=>?_)
      · refine T_co [.keep [2,4,9,44,45,46]] ((fun (p:(List S_ImposePlace)×(List S_ImposePlace)×Int)=>[(2,bx_ImposeLayout a0),(4,.box [dI 0,dI 0,oW8 [],oW8 []]),(9,.box [dI y2.1,dI y2.2,oW8 p.1,oW8 p.2.1]),(44,.d (.sl 4 (((y1.1.drop (0:Int).toNat).take (a1.toNat - (0:Int).toNat)).map cS_FoldPage))),(45,dI (((y1.1.drop (0:Int).toNat).take (a1.toNat - (0:Int).toNat)).length:Int)),(46,dI p.2.2)]) ([],[],(0:Int))) (by show _=_; kernel_rfl) ?_
        refine T_block ?_
        refine T_loopF (ι:=(List S_ImposePlace)×(List S_ImposePlace)×Int) (fun (p:(List S_ImposePlace)×(List S_ImposePlace)×Int)=>[(2,bx_ImposeLayout a0),(4,.box [dI 0,dI 0,oW8 [],oW8 []]),(9,.box [dI y2.1,dI y2.2,oW8 p.1,oW8 p.2.1]),(44,.d (.sl 4 (((y1.1.drop (0:Int).toNat).take (a1.toNat - (0:Int).toNat)).map cS_FoldPage))),(45,dI (((y1.1.drop (0:Int).toNat).take (a1.toNat - (0:Int).toNat)).length:Int)),(46,dI p.2.2)]) (fun n p=>impose_Sheet_L0 F a0 a1 y1 y2 n p.1 p.2.1 p.2.2=some s) (fun i hh=>by simp [impose_Sheet_L0] at hh) (fun n p h=>?_) F ([],[],(0:Int)) h
        obtain ⟨v1,v2,v3⟩:=p
        have h:impose_Sheet_L0 F a0 a1 y1 y2 (n+1) v1 v2 v3=some s:=h
        rw [impose_Sheet_L0] at h
        refine T_reg [] [2,4,9,44,45,46,47] [(47,dB (decide (v3 < (((y1.1.drop (0:Int).toNat).take (a1.toNat - (0:Int).toNat)).length:Int))))] [] 1 (by kernel_rfl) (trivial) ?_
        refine T_seqk ?_
        refine T_cond (decide (v3 < (((y1.1.drop (0:Int).toNat).take (a1.toNat - (0:Int).toNat)).length:Int))) (by kernel_rfl) (fun hc=>?_) (fun hc=>?_)
        · have h:=cond_tt hc h
          refine T_skip fun a w hm=>then_norm (((?_:T Try.prog e 136 _ _ _) a w hm))
          refine T_joinc h (fun (p:(List S_ImposePlace)×(List S_ImposePlace))=>[(2,bx_ImposeLayout a0),(4,.box [dI 0,dI 0,oW8 [],oW8 []]),(9,.box [dI y2.1,dI y2.2,oW8 p.1,oW8 p.2]),(44,.d (.sl 4 (((y1.1.drop (0:Int).toNat).take (a1.toNat - (0:Int).toNat)).map cS_FoldPage))),(45,dI (((y1.1.drop (0:Int).toNat).take (a1.toNat - (0:Int).toNat)).length:Int)),(46,dI v3)]) (fun s h=>?_) (fun s h=>?_)
          · refine T_block ?_
            obtain ⟨hp2,h⟩:=chk_ok h
            refine T_reg [(1,{ cs:=cS_FoldPage (((y1.1.drop (0:Int).toNat).take (a1.toNat - (0:Int).toNat)).getD v3.toNat z_FoldPage) })] [2,4,9,10,11,44,45,46] [(10,dI v3),(11,.box [dB ((((y1.1.drop (0:Int).toNat).take (a1.toNat - (0:Int).toNat)).getD v3.toNat z_FoldPage).f0),dI ((((y1.1.drop (0:Int).toNat).take (a1.toNat - (0:Int).toNat)).getD v3.toNat z_FoldPage).f1),dI ((((y1.1.drop (0:Int).toNat).take (a1.toNat - (0:Int).toNat)).getD v3.toNat z_FoldPage).f2),dI ((((y1.1.drop (0:Int).toNat).take (a1.toNat - (0:Int).toNat)).getD v3.toNat z_FoldPage).f3)])] [(1,0≤v3∧(((y1.1.drop (0:Int).toNat).take (a1.toNat - (0:Int).toNat)).map cS_FoldPage)[v3.toNat]? = some (cS_FoldPage (((y1.1.drop (0:Int).toNat).take (a1.toNat - (0:Int).toNat)).getD v3.toNat z_FoldPage)))] 4 (by kernel_rfl) (idx_ok (d:=z_FoldPage) cS_FoldPage hp2) ?_
            obtain ⟨y3,hy4,h⟩:=call_ok h
            refine T_reg [(4,{ res:=.agg (cS_impose_box y3) })] [2,4,9,10,11,12,44,45,46] [(12,bx_impose_box y3)] [(4,ACall Try.prog 47 [.agg (cS_ImposeLayout a0),dI (IntKind.i64.wrap (v3+(1:Int))),.agg (cS_FoldPage (((y1.1.drop (0:Int).toNat).take (a1.toNat - (0:Int).toNat)).getD v3.toNat z_FoldPage))] [] (.agg (cS_impose_box y3)) [])] 2 (by kernel_rfl) (impose_place_ok hy4) ?_
            obtain ⟨z1,hz1,h⟩:=lett_ok h
            refine T_reg [(7,{ rw:=some (dI z1) })] [2,4,9,10,11,12,13,44,45,46] [(13,.box [dI (IntKind.i64.wrap (v3+(1:Int))),dI y3.f2,dI y3.f3,dI z1])] [(7,(True)∧dI ((((y1.1.drop (0:Int).toNat).take (a1.toNat - (0:Int).toNat)).getD v3.toNat z_FoldPage).f3)=dI z1)] 3 (by kernel_rfl) (⟨trivial,(by subst hz1; rfl)⟩) ?_
            refine T_joinE h (fun (p:Int×Int×Int)=>[(2,bx_ImposeLayout a0),(4,.box [dI 0,dI 0,oW8 [],oW8 []]),(9,.box [dI y2.1,dI y2.2,oW8 v1,oW8 v2]),(13,.box [dI (IntKind.i64.wrap (v3+(1:Int))),dI p.1,dI p.2.1,dI p.2.2]),(44,.d (.sl 4 (((y1.1.drop (0:Int).toNat).take (a1.toNat - (0:Int).toNat)).map cS_FoldPage))),(45,dI (((y1.1.drop (0:Int).toNat).take (a1.toNat - (0:Int).toNat)).length:Int)),(46,dI v3)]) (fun s h hk1=>?_) (fun s h=>?_)
            · refine T_block ?_
              obtain ⟨z2,hz2,h⟩:=lett_ok h
              refine T_reg [(5,{ rw:=some (dB z2) })] [2,4,9,10,11,12,13,44,45,46,65] [(65,dB (bif (a0.f8 == (0:Int)) then z2 else false))] [(4,((((a0.f8 == (0:Int)) == true) && true)=true→True)),(0,((((a0.f8 == (0:Int)) == true) && true)=true→(True)∧dB ((((y1.1.drop (0:Int).toNat).take (a1.toNat - (0:Int).toNat)).getD v3.toNat z_FoldPage).f0)=dB z2))] 2 (by kernel_rfl) (⟨(fun hg=>trivial),(fun hg=>⟨trivial,(by subst hz2; rfl)⟩)⟩) ?_
              refine T_cond (bif (a0.f8 == (0:Int)) then z2 else false) (by kernel_rfl) (fun hc=>?_) (fun hc=>?_)
              · have h:=cond_tt hc h
                obtain ⟨hp3,h⟩:=chk_ok h
                refine T_reg [(3,{ es:=some (([(S_ImposePlace.mk (IntKind.i64.wrap (v3+(1:Int))) y3.f2 y3.f3 z1)]).map cS_ImposePlace) }),(4,{ es:=some ((v2++([(S_ImposePlace.mk (IntKind.i64.wrap (v3+(1:Int))) y3.f2 y3.f3 z1)])).map cS_ImposePlace) })] [2,4,9,44,45,46] [(9,.box [dI y2.1,dI y2.2,oW8 v1,.own 79 4 ((v2++([(S_ImposePlace.mk (IntKind.i64.wrap (v3+(1:Int))) y3.f2 y3.f3 z1)])).map cS_ImposePlace)])] [(3,(([(S_ImposePlace.mk (IntKind.i64.wrap (v3+(1:Int))) y3.f2 y3.f3 z1)]).map cS_ImposePlace)=(([(S_ImposePlace.mk (IntKind.i64.wrap (v3+(1:Int))) y3.f2 y3.f3 z1)]).map cS_ImposePlace)),(0,(v2.map cS_ImposePlace).length+(([(S_ImposePlace.mk (IntKind.i64.wrap (v3+(1:Int))) y3.f2 y3.f3 z1)]).map cS_ImposePlace).length≤4294967296∧(v2.map cS_ImposePlace)++(([(S_ImposePlace.mk (IntKind.i64.wrap (v3+(1:Int))) y3.f2 y3.f3 z1)]).map cS_ImposePlace)=((v2++([(S_ImposePlace.mk (IntKind.i64.wrap (v3+(1:Int))) y3.f2 y3.f3 z1)])).map cS_ImposePlace))] 2 (by kernel_rfl) (⟨rfl,app_ok cS_ImposePlace hp3⟩) ?_
                obtain hs:=Option.some.inj h; subst hs
                have h:=callE_esc hk1
                obtain hs:=Option.some.inj h; subst hs
                refine T_exit fun a w hm=>inBlock_pass rfl (then_exit (inBlock_exit (then_norm (hm.co (cs:=[.keep [2,4,9,44,45,46]]) (by show _=_; kernel_rfl)))))
              · have h:=cond_ff hc h
                obtain ⟨z3,hz3,h⟩:=lett_ok h
                refine T_reg [(5,{ rw:=some (dB z3) })] [2,4,9,10,11,12,13,44,45,46,79] [(79,dB (bif (a0.f8 == (1:Int)) then z3 else false))] [(4,((((a0.f8 == (1:Int)) == true) && true)=true→True)),(0,((((a0.f8 == (1:Int)) == true) && true)=true→(True)∧dB ((((y1.1.drop (0:Int).toNat).take (a1.toNat - (0:Int).toNat)).getD v3.toNat z_FoldPage).f0)=dB z3))] 2 (by kernel_rfl) (⟨(fun hg=>trivial),(fun hg=>⟨trivial,(by subst hz3; rfl)⟩)⟩) ?_
                refine T_cond (bif (a0.f8 == (1:Int)) then z3 else false) (by kernel_rfl) (fun hc=>?_) (fun hc=>?_)
                · have h:=cond_tt hc h
                  obtain hs:=Option.some.inj h; subst hs
                  refine T_reg_end [] [2,4,9,13,44,45,46] [(13,.box [dI (IntKind.i64.wrap (v3+(1:Int))),dI (IntKind.i64.wrap (y3.f2+(IntKind.i64.wrap (y2.1.tdiv (2:Int))))),dI y3.f3,dI z1])] [(4,(2:Int)≠0)] 3 (by kernel_rfl) ((show (2:Int)≠0 by decide)) fun a w hm=>inBlock_norm (then_norm (⟨_,rfl,hm.co (cs:=[.keep [2,4,9,13,44,45,46]]) (by show _=_; kernel_rfl)⟩))
                · have h:=cond_ff hc h
                  obtain ⟨z4,hz4,h⟩:=lett_ok h
                  refine T_reg [(5,{ rw:=some (dB z4) })] [2,4,9,10,11,12,13,44,45,46,94] [(94,dB (bif (a0.f8 == (2:Int)) then z4 else false))] [(4,((((a0.f8 == (2:Int)) == true) && true)=true→True)),(0,((((a0.f8 == (2:Int)) == true) && true)=true→(True)∧dB ((((y1.1.drop (0:Int).toNat).take (a1.toNat - (0:Int).toNat)).getD v3.toNat z_FoldPage).f0)=dB z4))] 2 (by kernel_rfl) (⟨(fun hg=>trivial),(fun hg=>⟨trivial,(by subst hz4; rfl)⟩)⟩) ?_
                  refine T_cond (bif (a0.f8 == (2:Int)) then z4 else false) (by kernel_rfl) (fun hc=>?_) (fun hc=>?_)
                  · have h:=cond_tt hc h
                    obtain ⟨y4,hy5,h⟩:=call_ok h
                    refine T_reg [(1,{ res:=.agg (cS_impose_box y4) })] [2,4,9,10,11,12,13,44,45,46] [(12,bx_impose_box y4)] [(1,ACall Try.prog 48 [.agg (cS_impose_box y3),dI (2:Int)] [] (.agg (cS_impose_box y4)) [])] 1 (by kernel_rfl) (impose_box_turned_ok hy5) ?_
                    obtain ⟨z5,hz5,h⟩:=lett_ok h
                    obtain hs:=Option.some.inj h; subst hs
                    refine T_reg_end [(11,{ rw:=some (dI z5) })] [2,4,9,13,44,45,46] [(13,.box [dI (IntKind.i64.wrap (v3+(1:Int))),dI y4.f2,dI (IntKind.i64.wrap ((IntKind.i64.wrap (y2.2.tdiv (2:Int)))+y4.f3)),dI ((IntKind.i64.wrap (z5+(2:Int))).tmod (4:Int))])] [(6,(2:Int)≠0),(4,(True)∧dI ((((y1.1.drop (0:Int).toNat).take (a1.toNat - (0:Int).toNat)).getD v3.toNat z_FoldPage).f3)=dI z5),(1,(4:Int)≠0)] 2 (by kernel_rfl) (⟨(show (2:Int)≠0 by decide),⟨trivial,(by subst hz5; rfl)⟩,(show (4:Int)≠0 by decide)⟩) fun a w hm=>inBlock_norm (then_norm (⟨_,rfl,hm.co (cs:=[.keep [2,4,9,13,44,45,46]]) (by show _=_; kernel_rfl)⟩))
                  · have h:=cond_ff hc h
                    obtain hs:=Option.some.inj h; subst hs
                    refine T_skip fun a w hm=>inBlock_norm (then_norm (⟨_,rfl,hm.co (cs:=[.keep [2,4,9,13,44,45,46]]) (by show _=_; kernel_rfl)⟩))
            · obtain ⟨v4,v5,v6⟩:=s
              try dsimp only at h
              obtain ⟨hp4,h⟩:=chk_ok h
              refine T_reg [(3,{ es:=some (([(S_ImposePlace.mk (IntKind.i64.wrap (v3+(1:Int))) v4 v5 v6)]).map cS_ImposePlace) }),(4,{ es:=some ((v1++([(S_ImposePlace.mk (IntKind.i64.wrap (v3+(1:Int))) v4 v5 v6)])).map cS_ImposePlace) })] [2,4,9,13,44,45,46] [(9,.box [dI y2.1,dI y2.2,.own 79 4 ((v1++([(S_ImposePlace.mk (IntKind.i64.wrap (v3+(1:Int))) v4 v5 v6)])).map cS_ImposePlace),oW8 v2])] [(3,(([(S_ImposePlace.mk (IntKind.i64.wrap (v3+(1:Int))) v4 v5 v6)]).map cS_ImposePlace)=(([(S_ImposePlace.mk (IntKind.i64.wrap (v3+(1:Int))) v4 v5 v6)]).map cS_ImposePlace)),(0,(v1.map cS_ImposePlace).length+(([(S_ImposePlace.mk (IntKind.i64.wrap (v3+(1:Int))) v4 v5 v6)]).map cS_ImposePlace).length≤4294967296∧(v1.map cS_ImposePlace)++(([(S_ImposePlace.mk (IntKind.i64.wrap (v3+(1:Int))) v4 v5 v6)]).map cS_ImposePlace)=((v1++([(S_ImposePlace.mk (IntKind.i64.wrap (v3+(1:Int))) v4 v5 v6)])).map cS_ImposePlace))] 2 (by kernel_rfl) (⟨rfl,app_ok cS_ImposePlace hp4⟩) ?_
              refine T_reg [] [2,4,9,13,44,45,46,127] [(127,dB (a0.f8 != (0:Int)))] [] 3 (by kernel_rfl) (trivial) ?_
              refine T_cond (a0.f8 != (0:Int)) (by kernel_rfl) (fun hc=>?_) (fun hc=>?_)
              · have h:=cond_tt hc h
                obtain ⟨hp5,h⟩:=chk_ok h
                obtain hs:=Option.some.inj h; subst hs
                refine T_reg_end [(3,{ es:=some (([(S_ImposePlace.mk (IntKind.i64.wrap (v3+(1:Int))) v4 v5 v6)]).map cS_ImposePlace) }),(4,{ es:=some ((v2++([(S_ImposePlace.mk (IntKind.i64.wrap (v3+(1:Int))) v4 v5 v6)])).map cS_ImposePlace) })] [2,4,9,44,45,46] [(9,.box [dI y2.1,dI y2.2,.own 79 4 ((v1++([(S_ImposePlace.mk (IntKind.i64.wrap (v3+(1:Int))) v4 v5 v6)])).map cS_ImposePlace),.own 79 4 ((v2++([(S_ImposePlace.mk (IntKind.i64.wrap (v3+(1:Int))) v4 v5 v6)])).map cS_ImposePlace)])] [(3,(([(S_ImposePlace.mk (IntKind.i64.wrap (v3+(1:Int))) v4 v5 v6)]).map cS_ImposePlace)=(([(S_ImposePlace.mk (IntKind.i64.wrap (v3+(1:Int))) v4 v5 v6)]).map cS_ImposePlace)),(0,(v2.map cS_ImposePlace).length+(([(S_ImposePlace.mk (IntKind.i64.wrap (v3+(1:Int))) v4 v5 v6)]).map cS_ImposePlace).length≤4294967296∧(v2.map cS_ImposePlace)++(([(S_ImposePlace.mk (IntKind.i64.wrap (v3+(1:Int))) v4 v5 v6)]).map cS_ImposePlace)=((v2++([(S_ImposePlace.mk (IntKind.i64.wrap (v3+(1:Int))) v4 v5 v6)])).map cS_ImposePlace))] 2 (by kernel_rfl) (⟨rfl,app_ok cS_ImposePlace hp5⟩) fun a w hm=>inBlock_norm (then_norm (hm.co (cs:=[.keep [2,4,9,44,45,46]]) (by show _=_; kernel_rfl)))
              · have h:=cond_ff hc h
                obtain hs:=Option.some.inj h; subst hs
                refine T_skip fun a w hm=>inBlock_norm (then_norm (hm.co (cs:=[.keep [2,4,9,44,45,46]]) (by show _=_; kernel_rfl)))
          · obtain ⟨v7,v8⟩:=s
            try dsimp only at h
            refine T_reg_end [] [2,4,9,44,45,46] [(46,dI (IntKind.i64.wrap (v3+(1:Int))))] [] 2 (by kernel_rfl) (trivial) fun a w hm=>then_norm (⟨(v7,v8,IntKind.i64.wrap (v3+(1:Int))),h,hm.co (cs:=[.keep [2,4,9,44,45,46]]) (by show _=_; kernel_rfl)⟩)
        · have h:=cond_ff hc h
          obtain hs:=Option.some.inj h; subst hs
          refine T_exit fun a w hm=>then_exit (then_exit (inBlock_exit (then_norm (hm.co (cs:=[.keep [4,9]]) (by show _=_; kernel_rfl)))))
      · obtain ⟨v9,v10⟩:=s
        try dsimp only at h
        refine fun a w hm=>then_norm (((?_:T Try.prog e 136 _ _ _) a w hm))
        refine T_reg [(0,{ frz:=[(9,3),(9,4)] })] [4,5] [(4,.box [dI y2.1,dI y2.2,.d (.sl 4 (v9.map cS_ImposePlace)),.d (.sl 4 (v10.map cS_ImposePlace))]),(5,dI (0:Int))] [] 3 (by kernel_rfl) (trivial) ?_
        obtain hs:=Option.some.inj h; subst hs
        refine T_ret fun a w hm=>T_returnC (fr':=[(4,.box [dI y2.1,dI y2.2,.d (.sl 4 (v9.map cS_ImposePlace)),.d (.sl 4 (v10.map cS_ImposePlace))]),(5,dI (0:Int))]) (ts:=[136,5]) (N':=137) (fr2:=[(136,.agg (cS_ImposeSheet (S_ImposeSheet.mk y2.1 y2.2 v9 v10)))]++[(4,.box [dI y2.1,dI y2.2,.d (.sl 4 (v9.map cS_ImposePlace)),.d (.sl 4 (v10.map cS_ImposePlace))]),(5,dI (0:Int))]) [.keep [4,5]] (by kernel_rfl) (by kernel_rfl) (by kernel_rfl) (by kernel_rfl) (by show _=_; kernel_rfl) (by exact trivial) a w hm
theorem slices_Equal_ImposePlace_ok {F:Nat} {a0:List S_ImposePlace} {a1:List S_ImposePlace} {r:Bool} (h:slices_Equal_ImposePlace F a0 a1=some r):ACall Try.prog 28 [.d (.sl 4 (a0.map cS_ImposePlace)),.d (.sl 4 (a1.map cS_ImposePlace))] [] (.d (.v (.bool r))) []:=by
  rw [slices_Equal_ImposePlace] at h
  refine ACall.intro (N:=26) Try.func28 rfl rfl rfl rfl rfl fun e=>?_
  refine T_reg [] [0,1] [] [] 1 (by kernel_rfl) (trivial) ?_
  refine T_seqk ?_
  refine T_reg [(1,{ rw:=some (dI (a0.length:Int)) }),(3,{ rw:=some (dI (a1.length:Int)) })] [0,1,10] [(10,dB ((a0.length:Int) != (a1.length:Int)))] [(1,True∧dI ((a0.map cS_ImposePlace).length:Int)=dI (a0.length:Int)),(1,True∧dI ((a1.map cS_ImposePlace).length:Int)=dI (a1.length:Int))] 1 (by kernel_rfl) (⟨len_ok cS_ImposePlace,len_ok cS_ImposePlace⟩) ?_
  refine T_cond ((a0.length:Int) != (a1.length:Int)) (by kernel_rfl) (fun hc=>?_) (fun hc=>?_)
  · have h:=cond_tt hc h
    refine T_reg [] [4] [(4,dB false)] [] 1 (by kernel_rfl) (trivial) ?_
    obtain hs:=Option.some.inj h; subst hs
    refine T_ret fun a w hm=>then_ret (T_return (fr':=[(4,dB false)]) [4] (by kernel_rfl) [.keep [4]] (by kernel_rfl) (by kernel_rfl) (by kernel_rfl) (by show _=_; kernel_rfl) (by exact trivial) a w hm)
  · have h:=cond_ff hc h
    refine T_skip fun a w hm=>then_norm (((?_:T Try.prog e 26 _ _ _) a w hm))
    refine T_seqk ?_
    refine T_reg [(1,{ rw:=some (dI (a0.length:Int)) })] [0,1,12,13] [(12,dI (a0.length:Int)),(13,dI (0:Int))] [(1,True∧dI ((a0.map cS_ImposePlace).length:Int)=dI (a0.length:Int))] 1 (by kernel_rfl) (len_ok cS_ImposePlace) ?_
    refine T_joinEt h (fun (p:Unit)=>[]) (fun s h hk1=>?_) (fun s h=>?_)
    · refine T_co [.keep [0,1,12,13]] ((fun (p:Int)=>[(0,.d (.sl 4 (a0.map cS_ImposePlace))),(1,.d (.sl 4 (a1.map cS_ImposePlace))),(12,dI (a0.length:Int)),(13,dI p)]) (0:Int)) (by show _=_; kernel_rfl) ?_
      refine T_block ?_
      refine T_loopF (ι:=Int) (fun (p:Int)=>[(0,.d (.sl 4 (a0.map cS_ImposePlace))),(1,.d (.sl 4 (a1.map cS_ImposePlace))),(12,dI (a0.length:Int)),(13,dI p)]) (fun n p=>slices_Equal_ImposePlace_L0 F a0 a1 n p=some s) (fun i hh=>by simp [slices_Equal_ImposePlace_L0] at hh) (fun n v1 h=>?_) F (0:Int) h
      have h:slices_Equal_ImposePlace_L0 F a0 a1 (n+1) v1=some s:=h
      rw [slices_Equal_ImposePlace_L0] at h
      refine T_reg [] [0,1,12,13,14] [(14,dB (decide (v1 < (a0.length:Int))))] [] 1 (by kernel_rfl) (trivial) ?_
      refine T_seqk ?_
      refine T_cond (decide (v1 < (a0.length:Int))) (by kernel_rfl) (fun hc=>?_) (fun hc=>?_)
      · have h:=cond_tt hc h
        refine T_skip fun a w hm=>then_norm (((?_:T Try.prog e 26 _ _ _) a w hm))
        refine T_seqk ?_
        refine T_block ?_
        refine T_reg [] [0,1,5,12,13] [(5,dI v1)] [] 2 (by kernel_rfl) (trivial) ?_
        obtain ⟨hp1,h⟩:=chk_ok h
        obtain ⟨hp2,h⟩:=chk_ok h
        obtain ⟨z1,hz1,h⟩:=lett_ok h
        refine T_draw mixed [(2,{ cs:=cS_ImposePlace (a0.getD v1.toNat z_ImposePlace) }),(6,{ cs:=cS_ImposePlace (a1.getD v1.toNat z_ImposePlace) }),(8,{ rw:=some (dB z1) })] [0,1,12,13,24] [] [(0,.d (.sl 4 (a0.map cS_ImposePlace))),(1,.d (.sl 4 (a1.map cS_ImposePlace))),(12,dI (a0.length:Int)),(13,dI v1),(24,dB z1)] [(2,0≤v1∧(a0.map cS_ImposePlace)[v1.toNat]? = some (cS_ImposePlace (a0.getD v1.toNat z_ImposePlace))),(3,0≤v1∧(a1.map cS_ImposePlace)[v1.toNat]? = some (cS_ImposePlace (a1.getD v1.toNat z_ImposePlace))),(1,(True)∧dB (!((a0.getD v1.toNat z_ImposePlace).f0 == (a1.getD v1.toNat z_ImposePlace).f0 && ((a0.getD v1.toNat z_ImposePlace).f1 == (a1.getD v1.toNat z_ImposePlace).f1 && ((a0.getD v1.toNat z_ImposePlace).f2 == (a1.getD v1.toNat z_ImposePlace).f2 && ((a0.getD v1.toNat z_ImposePlace).f3 == (a1.getD v1.toNat z_ImposePlace).f3 && true)))))=dB z1)] 0 (by kernel_rfl) (⟨idx_ok (d:=z_ImposePlace) cS_ImposePlace hp1,idx_ok (d:=z_ImposePlace) cS_ImposePlace hp2,⟨trivial,(by subst hz1; rfl)⟩⟩) ?_
        refine T_cond z1 (by kernel_rfl) (fun hc=>?_) (fun hc=>?_)
        · have h:=cond_tt hc h
          refine T_reg [] [4] [(4,dB false)] [] 1 (by kernel_rfl) (trivial) ?_
          obtain hs:=Option.some.inj h; subst hs
          have h:=callE_esc hk1
          obtain hs:=Option.some.inj h; subst hs
          refine T_ret fun a w hm=>inBlock_ret (then_ret (then_ret (inBlock_ret (then_ret (then_ret (T_return (fr':=[(4,dB false)]) [4] (by kernel_rfl) [.keep [4]] (by kernel_rfl) (by kernel_rfl) (by kernel_rfl) (by show _=_; kernel_rfl) (by exact trivial) a w hm))))))
        · have h:=cond_ff hc h
          refine T_skip fun a w hm=>inBlock_norm (then_norm (((?_:T Try.prog e 26 _ _ _) a w hm)))
          refine T_reg_end [] [0,1,12,13] [(13,dI (IntKind.i64.wrap (v1+(1:Int))))] [] 2 (by kernel_rfl) (trivial) fun a w hm=>then_norm (⟨IntKind.i64.wrap (v1+(1:Int)),h,hm.co (cs:=[.keep [0,1,12,13]]) (by show _=_; kernel_rfl)⟩)
      · have h:=cond_ff hc h
        obtain hs:=Option.some.inj h; subst hs
        refine T_exit fun a w hm=>then_exit (then_exit (inBlock_exit (then_norm (⟨_,rfl,hm.co (cs:=[.keep []]) (by show _=_; kernel_rfl)⟩))))
    · skip
      refine fun a w hm=>then_norm (((?_:T Try.prog e 26 _ _ _) a w hm))
      refine T_reg [] [4] [(4,dB true)] [] 1 (by kernel_rfl) (trivial) ?_
      obtain hs:=Option.some.inj h; subst hs
      refine T_ret fun a w hm=>T_return (fr':=[(4,dB true)]) [4] (by kernel_rfl) [.keep [4]] (by kernel_rfl) (by kernel_rfl) (by kernel_rfl) (by show _=_; kernel_rfl) (by exact trivial) a w hm
theorem law3_imposeFact_ok {F:Nat}  {r:Bool} (h:law3_imposeFact F  = some r):ACall Try.prog 12 [] [] (.d (.v (.bool r))) []:=by
  rw [law3_imposeFact] at h
  refine ACall.intro (N:=37) Try.func12 rfl rfl rfl rfl rfl fun e=>?_
  refine T_reg [] [] [] [] 1 (by kernel_rfl) (trivial) ?_
  obtain ⟨y1,hy1,h⟩:=call_ok h
  obtain ⟨y2,hy2,h⟩:=call_ok h
  refine T_reg [(0,{ res:=.agg (cS_FoldScheme y1) }),(2,{ res:=.tup [.agg (cS_ImposeSheet y2.1),dI y2.2] })] [1,2] [(1,bx_ImposeSheet y2.1),(2,dI y2.2)] [(0,ACall Try.prog 27 [] [] (.agg (cS_FoldScheme y1)) []),(1,ACall Try.prog 26 [.agg (cS_ImposeLayout (S_ImposeLayout.mk y1 (10:Int) (10:Int) 0 0 0 0 0 0)),dI (4:Int)] [] (.tup [.agg (cS_ImposeSheet y2.1),dI y2.2]) [])] 6 (by kernel_rfl) (⟨law3_once_ok hy1,impose_Sheet_ok hy2⟩) ?_
  obtain ⟨z1,hz1,h⟩:=lett_ok h
  obtain ⟨y3,hy3,h⟩:=call_ok h
  obtain ⟨y4,hy4,h⟩:=call_ok h
  refine T_reg [(11,{ rw:=some (dB z1) }),(17,{ es:=some (([(S_ImposePlace.mk (2:Int) 0 0 0),(S_ImposePlace.mk (3:Int) (10:Int) 0 0)]).map cS_ImposePlace) }),(18,{ res:=dB y3 }),(25,{ es:=some (([(S_ImposePlace.mk (1:Int) (10:Int) 0 0),(S_ImposePlace.mk (4:Int) 0 0 0)]).map cS_ImposePlace) }),(26,{ res:=dB y4 })] [0] [(0,dB (bif (bif z1 then y3 else false) then y4 else false))] [(3,((((y2.2 == (0:Int)) == true) && true)=true→True)),(0,((((y2.2 == (0:Int)) == true) && true)=true→True)),(0,((((y2.2 == (0:Int)) == true) && true)=true→True)),(2,((((bif (y2.2 == (0:Int)) then (y2.1.f0 == (20:Int)) else false) == true) && true)=true→True)),(0,((((bif (y2.2 == (0:Int)) then (y2.1.f0 == (20:Int)) else false) == true) && true)=true→True)),(0,((((bif (y2.2 == (0:Int)) then (y2.1.f0 == (20:Int)) else false) == true) && true)=true→True)),(0,(True)∧dB (bif (bif (y2.2 == (0:Int)) then (y2.1.f0 == (20:Int)) else false) then (y2.1.f1 == (10:Int)) else false)=dB z1),(1,(((z1 == true) && true)=true→True)),(0,(((z1 == true) && true)=true→True)),(0,(((z1 == true) && true)=true→True)),(0,(((z1 == true) && true)=true→True)),(0,(((z1 == true) && true)=true→(([(S_ImposePlace.mk (2:Int) 0 0 0),(S_ImposePlace.mk (3:Int) (10:Int) 0 0)]).map cS_ImposePlace)=(([(S_ImposePlace.mk (2:Int) 0 0 0),(S_ImposePlace.mk (3:Int) (10:Int) 0 0)]).map cS_ImposePlace))),(0,(((z1 == true) && true)=true→ACall Try.prog 28 [.d (.sl 4 (y2.1.f2.map cS_ImposePlace)),.d (.sl 4 (([(S_ImposePlace.mk (2:Int) 0 0 0),(S_ImposePlace.mk (3:Int) (10:Int) 0 0)]).map cS_ImposePlace))] [] (dB y3) [])),(2,((((bif z1 then y3 else false) == true) && true)=true→True)),(0,((((bif z1 then y3 else false) == true) && true)=true→True)),(0,((((bif z1 then y3 else false) == true) && true)=true→True)),(0,((((bif z1 then y3 else false) == true) && true)=true→True)),(0,((((bif z1 then y3 else false) == true) && true)=true→(([(S_ImposePlace.mk (1:Int) (10:Int) 0 0),(S_ImposePlace.mk (4:Int) 0 0 0)]).map cS_ImposePlace)=(([(S_ImposePlace.mk (1:Int) (10:Int) 0 0),(S_ImposePlace.mk (4:Int) 0 0 0)]).map cS_ImposePlace))),(0,((((bif z1 then y3 else false) == true) && true)=true→ACall Try.prog 28 [.d (.sl 4 (y2.1.f3.map cS_ImposePlace)),.d (.sl 4 (([(S_ImposePlace.mk (1:Int) (10:Int) 0 0),(S_ImposePlace.mk (4:Int) 0 0 0)]).map cS_ImposePlace))] [] (dB y4) []))] 2 (by kernel_rfl) (⟨(fun hg=>trivial),(fun hg=>trivial),(fun hg=>trivial),(fun hg=>trivial),(fun hg=>trivial),(fun hg=>trivial),⟨trivial,(by subst hz1; rfl)⟩,(fun hg=>trivial),(fun hg=>trivial),(fun hg=>trivial),(fun hg=>trivial),(fun hg=>rfl),(fun hg=>slices_Equal_ImposePlace_ok (gcall_ok hg hy3)),(fun hg=>trivial),(fun hg=>trivial),(fun hg=>trivial),(fun hg=>trivial),(fun hg=>rfl),(fun hg=>slices_Equal_ImposePlace_ok (gcall_ok hg hy4))⟩) ?_
  obtain hs:=Option.some.inj h; subst hs
  refine T_ret fun a w hm=>T_return (fr':=[(0,dB (bif (bif z1 then y3 else false) then y4 else false))]) [0] (by kernel_rfl) [.keep [0]] (by kernel_rfl) (by kernel_rfl) (by kernel_rfl) (by show _=_; kernel_rfl) (by exact trivial) a w hm
theorem law3_tiny_c1_ok {F:Nat} {a0:Int} {a1:Int} {r:Int} (h:law3_tiny_c1 F a0 a1=some r):ACall Try.prog 29 [.d (.v (.int .i64 a0)),.d (.v (.int .i64 a1))] [] (.d (.v (.int .i64 r))) []:=by
  rw [law3_tiny_c1] at h
  refine ACall.intro (N:=16) Try.func29 rfl rfl rfl rfl rfl fun e=>?_
  refine T_reg [] [0,1] [] [] 1 (by kernel_rfl) (trivial) ?_
  refine T_seqk ?_
  refine T_reg [] [0,1,10] [(10,dB (bif (decide (a0 < (0:Int))) then true else (decide (a0 > (64:Int)))))] [(3,((((decide (a0 < (0:Int))) == false) && true)=true→True)),(0,((((decide (a0 < (0:Int))) == false) && true)=true→True))] 1 (by kernel_rfl) (⟨(fun hg=>trivial),(fun hg=>trivial)⟩) ?_
  refine T_cond (bif (decide (a0 < (0:Int))) then true else (decide (a0 > (64:Int)))) (by kernel_rfl) (fun hc=>?_) (fun hc=>?_)
  · have h:=cond_tt hc h
    refine T_reg [] [4] [(4,dI a0)] [] 2 (by kernel_rfl) (trivial) ?_
    obtain hs:=Option.some.inj h; subst hs
    refine T_ret fun a w hm=>then_ret (T_return (fr':=[(4,dI a0)]) [4] (by kernel_rfl) [.keep [4]] (by kernel_rfl) (by kernel_rfl) (by kernel_rfl) (by show _=_; kernel_rfl) (by exact trivial) a w hm)
  · have h:=cond_ff hc h
    refine T_skip fun a w hm=>then_norm (((?_:T Try.prog e 16 _ _ _) a w hm))
    obtain ⟨hp1,h⟩:=chk_ok h
    refine T_reg [] [4] [(4,dI (a0.tmod (IntKind.i64.wrap (a1+(1:Int)))))] [(3,(IntKind.i64.wrap (a1+(1:Int)))≠0)] 1 (by kernel_rfl) (hp1) ?_
    obtain hs:=Option.some.inj h; subst hs
    refine T_ret fun a w hm=>T_return (fr':=[(4,dI (a0.tmod (IntKind.i64.wrap (a1+(1:Int)))))]) [4] (by kernel_rfl) [.keep [4]] (by kernel_rfl) (by kernel_rfl) (by kernel_rfl) (by show _=_; kernel_rfl) (by exact trivial) a w hm
set_option maxHeartbeats 8000000 in
set_option maxRecDepth 100000 in
theorem law3_tiny_ok {F:Nat} {a0:S_ImposeLayout} {r:S_ImposeLayout} (h:law3_tiny F a0=some r):ACall Try.prog 13 [.agg (cS_ImposeLayout a0)] [] (.agg (cS_ImposeLayout r)) []:=by
  rw [law3_tiny] at h
  refine ACall.intro (N:=35) Try.func13 rfl rfl rfl rfl rfl fun e=>?_
  refine T_reg [] [1,2] [(1,bx_ImposeLayout a0),(2,.box [dI 0,dI 0,oW7 [],dI 0,dI 0,dI 0,dI 0,dI 0,dI 0,dI 0,dI 0])] [] 2 (by kernel_rfl) (trivial) ?_
  refine T_reg [] [1,2,3] [(3,.clo 29 [])] [] 1 (by kernel_rfl) (trivial) ?_
  obtain ⟨y1,hy1,h⟩:=call_ok h
  obtain ⟨y2,hy2,h⟩:=call_ok h
  obtain ⟨y3,hy3,h⟩:=call_ok h
  obtain ⟨y4,hy4,h⟩:=call_ok h
  obtain ⟨y5,hy5,h⟩:=call_ok h
  refine T_drawG mixed [(30,0,some 0),(29,1,some 1),(28,3,some 4),(27,19,some 5),(26,51,some 8),(25,307,some 9),(24,819,some 12),(23,4915,some 13),(22,13107,some 16),(21,78643,some 17),(20,209715,none),(19,209719,none),(19,209779,none),(19,210739,none),(19,226099,none),(19,471859,none),(18,209727,none),(18,209783,none),(18,210743,none),(18,210803,none),(18,226103,none),(18,226163,none),(18,227123,none),(18,471863,none),(18,471923,none),(18,472883,none),(18,488243,none),(17,209791,none),(17,210751,none),(17,210807,none),(17,226111,none),(17,226167,none),(17,227127,none),(17,227187,none),(17,471871,none),(17,471927,none),(17,472887,none),(17,472947,none),(17,488247,none),(17,488307,none),(17,489267,none),(16,209919,none),(16,210815,none),(16,226175,none),(16,227135,none),(16,227191,none),(16,471935,none),(16,472895,none),(16,472951,none),(16,488255,none),(16,488311,none),(16,489271,none),(16,489331,none),(15,210943,none),(15,226303,none),(15,227199,none),(15,472063,none),(15,472959,none),(15,488319,none),(15,489279,none),(15,489335,none),(14,212991,none),(14,227327,none),(14,473087,none),(14,488447,none),(14,489343,some 20),(13,229375,none),(13,475135,none),(13,489471,some 20),(13,1537919,none),(12,262143,none),(12,491519,some 20),(12,1538047,none),(11,524287,some 20),(11,1540095,none),(10,1572863,none),(9,2097151,none),(8,4194303,some 22),(7,8388607,none),(6,16777215,some 24),(5,33554431,none),(4,67108863,some 26),(3,134217727,none),(2,268435455,some 28),(1,536870911,none),(0,1073741823,none)] [(30,1,.box [dI a0.f0.f0,dI a0.f0.f1,.d (.sl 3 (a0.f0.f2.map cS_FoldStep)),dI y1,dI y2,dI y3,dI y4,dI a0.f5,dI y5,dI a0.f7,dI a0.f8]),(29,28,.bp 1 8),(28,1,.box [dI a0.f0.f0,dI a0.f0.f1,.d (.sl 3 (a0.f0.f2.map cS_FoldStep)),dI y1,dI y2,dI y3,dI y4,dI a0.f5,dI a0.f6,dI a0.f7,dI a0.f8]),(27,27,.bp 1 6),(26,1,.box [dI a0.f0.f0,dI a0.f0.f1,.d (.sl 3 (a0.f0.f2.map cS_FoldStep)),dI y1,dI y2,dI y3,dI a0.f4,dI a0.f5,dI a0.f6,dI a0.f7,dI a0.f8]),(25,26,.bp 1 5),(24,1,.box [dI a0.f0.f0,dI a0.f0.f1,.d (.sl 3 (a0.f0.f2.map cS_FoldStep)),dI y1,dI y2,dI a0.f3,dI a0.f4,dI a0.f5,dI a0.f6,dI a0.f7,dI a0.f8]),(23,25,.bp 1 4),(22,1,.box [dI a0.f0.f0,dI a0.f0.f1,.d (.sl 3 (a0.f0.f2.map cS_FoldStep)),dI y1,dI a0.f2,dI a0.f3,dI a0.f4,dI a0.f5,dI a0.f6,dI a0.f7,dI a0.f8]),(21,24,.bp 1 3),(20,23,dI y5),(19,22,dI a0.f6),(18,21,.bp 1 8),(17,20,.clo 29 []),(16,19,dI y4),(15,18,dI a0.f4),(14,17,.bp 1 6),(13,16,.clo 29 []),(12,15,dI y3),(11,14,dI a0.f3),(10,13,.bp 1 5),(9,12,.clo 29 []),(8,11,dI y2),(7,10,dI a0.f2),(6,9,.bp 1 4),(5,8,.clo 29 []),(4,7,dI y1),(3,6,dI a0.f1),(2,5,.bp 1 3),(1,4,.clo 29 []),(0,1,bx_ImposeLayout a0),(0,2,.box [dI 0,dI 0,oW7 [],dI 0,dI 0,dI 0,dI 0,dI 0,dI 0,dI 0,dI 0]),(0,3,.clo 29 [])] [1,2,3,4,5,6,7,8,9,10,11,12,13,14,15,16,17,18,19,20,21,22,23,24,25,26,27,28] ([0,0,2,5,0,0,32,88,0,0,512,1408,0,0,8192,22528,0,0,131072,360448,419439,1992303,3565311,7759615,16150527,32927743,66519039,133627903,268435455,536870911],[0,0,2,5,0,0,32,80,0,0,512,1280,0,0,8192,20480,0,0,131072,327680,0,1048584,0,4194432,0,16779264,0,67141632,0,268959744]) 357774131 [(3,{ res:=dI y1 }),(7,{ res:=dI y2 }),(11,{ res:=dI y3 }),(15,{ res:=dI y4 }),(19,{ res:=dI y5 })] [1,2,3] [] [(1,.box [dI a0.f0.f0,dI a0.f0.f1,.d (.sl 3 (a0.f0.f2.map cS_FoldStep)),dI y1,dI y2,dI y3,dI y4,dI a0.f5,dI y5,dI a0.f7,dI a0.f8]),(2,.box [dI 0,dI 0,oW7 [],dI 0,dI 0,dI 0,dI 0,dI 0,dI 0,dI 0,dI 0]),(3,.clo 29 [])] ((fun (o3:Prop)=>fun (o7:Prop)=>fun (o11:Prop)=>fun (o15:Prop)=>fun (o19:Prop)=>[(15,o3),(24,o3),(3,o3),(6,o3),(9,o3),(12,o7),(6,o3),(5,o3),(2,o3),(7,o3),(2,o3),(4,o3),(9,o7),(2,o7),(4,o3),(1,o7),(4,o3),(3,o3),(1,o3),(2,o11),(4,o7),(3,o7),(1,o7),(2,o3),(2,o11),(1,o11),(3,o15),(3,o7),(2,o11),(1,o15),(0,o19)]) (ACall Try.prog 29 [dI a0.f1,dI (6:Int)] [] (dI y1) []) (ACall Try.prog 29 [dI a0.f2,dI (6:Int)] [] (dI y2) []) (ACall Try.prog 29 [dI a0.f3,dI (2:Int)] [] (dI y3) []) (ACall Try.prog 29 [dI a0.f4,dI (2:Int)] [] (dI y4) []) (ACall Try.prog 29 [dI a0.f6,dI (3:Int)] [] (dI y5) [])) 9 (by kernel_rfl) (by kernel_rfl) (by kernel_rfl) (by kernel_rfl) (by kernel_rfl) (by kernel_rfl) (have p3:=law3_tiny_c1_ok hy1; have p7:=law3_tiny_c1_ok hy2; have p11:=law3_tiny_c1_ok hy3; have p15:=law3_tiny_c1_ok hy4; have p19:=law3_tiny_c1_ok hy5; ⟨p3,p3,p3,p3,p3,p7,p3,p3,p3,p3,p3,p3,p7,p7,p3,p7,p3,p3,p3,p11,p7,p7,p7,p3,p11,p11,p15,p7,p11,p15,p19⟩) ?_
  obtain ⟨y6,hy6,h⟩:=call_ok h
  refine T_reg [(3,{ res:=dI y6 })] [1,2] [(1,.box [dI a0.f0.f0,dI a0.f0.f1,.d (.sl 3 (a0.f0.f2.map cS_FoldStep)),dI y1,dI y2,dI y3,dI y4,dI y6,dI y5,dI a0.f7,dI a0.f8])] [(3,ACall Try.prog 29 [dI a0.f5,dI (12:Int)] [] (dI y6) [])] 2 (by kernel_rfl) (law3_tiny_c1_ok hy6) ?_
  refine T_reg [] [2] [(2,.box [dI a0.f0.f0,dI a0.f0.f1,.d (.sl 3 (a0.f0.f2.map cS_FoldStep)),dI y1,dI y2,dI y3,dI y4,dI y6,dI y5,dI a0.f7,dI a0.f8])] [] 2 (by kernel_rfl) (trivial) ?_
  obtain hs:=Option.some.inj h; subst hs
  refine T_ret fun a w hm=>T_returnC (fr':=[(2,.box [dI a0.f0.f0,dI a0.f0.f1,.d (.sl 3 (a0.f0.f2.map cS_FoldStep)),dI y1,dI y2,dI y3,dI y4,dI y6,dI y5,dI a0.f7,dI a0.f8])]) (ts:=[35]) (N':=36) (fr2:=[(35,.agg (cS_ImposeLayout (S_ImposeLayout.mk a0.f0 y1 y2 y3 y4 y6 y5 a0.f7 a0.f8)))]++[(2,.box [dI a0.f0.f0,dI a0.f0.f1,.d (.sl 3 (a0.f0.f2.map cS_FoldStep)),dI y1,dI y2,dI y3,dI y4,dI y6,dI y5,dI a0.f7,dI a0.f8])]) [.keep [2]] (by kernel_rfl) (by kernel_rfl) (by kernel_rfl) (by kernel_rfl) (by show _=_; kernel_rfl) (by exact trivial) a w hm
theorem ref3_Pix_ok {F:Nat} {a0:S_Plate} {a1:Int} {a2:Int} {r:Int} (h:ref3_Pix F a0 a1 a2=some r):ACall Try.prog 16 [.agg (cS_Plate a0),.d (.v (.int .i64 a1)),.d (.v (.int .i64 a2))] [] (.d (.v (.int .u8 r))) []:=by
  rw [ref3_Pix] at h
  refine ACall.intro (N:=17) Try.func16 rfl rfl rfl rfl rfl fun e=>?_
  refine T_reg [] [1,2,3] [(3,bx_Plate a0)] [] 2 (by kernel_rfl) (trivial) ?_
  obtain ⟨hp1,h⟩:=chk_ok h
  refine T_reg [(8,{ cs:=cU (a0.f2.getD (IntKind.i64.wrap ((IntKind.i64.wrap (a2 * a0.f0))+a1)).toNat 0) })] [6] [(6,.d (.v (.int .u8 ((a0.f2.getD (IntKind.i64.wrap ((IntKind.i64.wrap (a2 * a0.f0))+a1)).toNat 0).toNat:Int))))] [(8,0≤(IntKind.i64.wrap ((IntKind.i64.wrap (a2 * a0.f0))+a1))∧(a0.f2.map cU)[(IntKind.i64.wrap ((IntKind.i64.wrap (a2 * a0.f0))+a1)).toNat]? = some (cU (a0.f2.getD (IntKind.i64.wrap ((IntKind.i64.wrap (a2 * a0.f0))+a1)).toNat 0)))] 2 (by kernel_rfl) (idx_ok (d:=0) cU hp1) ?_
  obtain hs:=Option.some.inj h; subst hs
  refine T_ret fun a w hm=>T_return (fr':=[(6,.d (.v (.int .u8 ((a0.f2.getD (IntKind.i64.wrap ((IntKind.i64.wrap (a2 * a0.f0))+a1)).toNat 0).toNat:Int))))]) [6] (by kernel_rfl) [.keep [6]] (by kernel_rfl) (by kernel_rfl) (by kernel_rfl) (by show _=_; kernel_rfl) (by exact trivial) a w hm
end Go.Vm.BinG
