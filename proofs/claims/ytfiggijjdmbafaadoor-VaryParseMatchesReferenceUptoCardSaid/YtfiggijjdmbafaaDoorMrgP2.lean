import Derived.Test.YtfiggijjdmbafaaDoorMrgP
namespace Go.Vm.MrgG
open Go.Proofs
set_option maxRecDepth 20000
variable {gm0:Int}
theorem ref3_SameTexts_ok {F:Nat} {a0:List (List UInt8)} {a1:List (List UInt8)} {r:Bool} (h:ref3_SameTexts F a0 a1=some r):ACall Tryd.prog 11 [.d (.sl 1 (a0.map cS)),.d (.sl 1 (a1.map cS))] [] (.d (.v (.bool r))) []:=by
  rw [ref3_SameTexts] at h
  refine ACall.intro (N:=26) Tryd.func11 rfl rfl rfl rfl rfl fun e=>?_
  refine T_reg [] [0,1] [] [] 1 (by kernel_rfl) (trivial) ?_
  refine T_seqk ?_
  refine T_reg [(1,{ rw:=some (.d (.v (.int .i64 (a0.length:Int)))) }),(3,{ rw:=some (.d (.v (.int .i64 (a1.length:Int)))) })] [0,1,10] [(10,.d (.v (.bool ((a0.length:Int) != (a1.length:Int)))))] [(1,True∧AV.d (.v (.int .i64 ((a0.map cS).length:Int)))=.d (.v (.int .i64 (a0.length:Int)))),(1,True∧AV.d (.v (.int .i64 ((a1.map cS).length:Int)))=.d (.v (.int .i64 (a1.length:Int))))] 1 (by kernel_rfl) (⟨len_ok cS,len_ok cS⟩) ?_
  refine T_cond ((a0.length:Int) != (a1.length:Int)) (by kernel_rfl) (fun hc=>?_) (fun hc=>?_)
  · have h:=cond_tt hc h
    refine T_reg [] [4] [(4,.d (.v (.bool false)))] [] 1 (by kernel_rfl) (trivial) ?_
    obtain hs:=Option.some.inj h; subst hs
    refine T_ret fun a w hm=>then_ret (T_return (fr':=[(4,.d (.v (.bool false)))]) [4] (by kernel_rfl) [.keep [4]] (by kernel_rfl) (by kernel_rfl) (by kernel_rfl) (by show _=_; kernel_rfl) (by exact trivial) a w hm)
  · have h:=cond_ff hc h
    refine T_skip fun a w hm=>then_norm (((?_:T Tryd.prog e 26 _ _ _) a w hm))
    refine T_seqk ?_
    refine T_reg [(1,{ rw:=some (.d (.v (.int .i64 (a0.length:Int)))) })] [0,1,12,13] [(12,.d (.v (.int .i64 (a0.length:Int)))),(13,.d (.v (.int .i64 (0:Int))))] [(1,True∧AV.d (.v (.int .i64 ((a0.map cS).length:Int)))=.d (.v (.int .i64 (a0.length:Int))))] 1 (by kernel_rfl) (len_ok cS) ?_
    refine T_joinEt h (fun (p:Unit)=>[]) (fun s h hk1=>?_) (fun s h=>?_)
    · refine T_co [.keep [0,1,12,13]] ((fun (p:Int)=>[(0,.d (.sl 1 (a0.map cS))),(1,.d (.sl 1 (a1.map cS))),(12,.d (.v (.int .i64 (a0.length:Int)))),(13,.d (.v (.int .i64 p)))]) (0:Int)) (by show _=_; kernel_rfl) ?_
      refine T_block ?_
      refine T_loopF (ι:=Int) (fun (p:Int)=>[(0,.d (.sl 1 (a0.map cS))),(1,.d (.sl 1 (a1.map cS))),(12,.d (.v (.int .i64 (a0.length:Int)))),(13,.d (.v (.int .i64 p)))]) (fun n p=>ref3_SameTexts_L0 F a0 a1 n p=some s) (fun i hh=>by simp [ref3_SameTexts_L0] at hh) (fun n v1 h=>?_) F (0:Int) h
      have h:ref3_SameTexts_L0 F a0 a1 (n+1) v1=some s:=h
      rw [ref3_SameTexts_L0] at h
      refine T_reg [] [0,1,12,13,14] [(14,.d (.v (.bool (decide (v1 < (a0.length:Int))))))] [] 1 (by kernel_rfl) (trivial) ?_
      refine T_seqk ?_
      refine T_cond (decide (v1 < (a0.length:Int))) (by kernel_rfl) (fun hc=>?_) (fun hc=>?_)
      · have h:=cond_tt hc h
        refine T_skip fun a w hm=>then_norm (((?_:T Tryd.prog e 26 _ _ _) a w hm))
        refine T_seqk ?_
        refine T_block ?_
        refine T_reg [] [0,1,5,12,13] [(5,.d (.v (.int .i64 v1)))] [] 2 (by kernel_rfl) (trivial) ?_
        obtain ⟨hp1,h⟩:=chk_ok h
        obtain ⟨hp2,h⟩:=chk_ok h
        refine T_draw mixed [(2,{ cs:=cS (a0.getD v1.toNat []) }),(6,{ cs:=cS (a1.getD v1.toNat []) })] [0,1,12,13,24] [] [(0,.d (.sl 1 (a0.map cS))),(1,.d (.sl 1 (a1.map cS))),(12,.d (.v (.int .i64 (a0.length:Int)))),(13,.d (.v (.int .i64 v1))),(24,.d (.v (.bool (!((a0.getD v1.toNat []) == (a1.getD v1.toNat []))))))] [(2,0≤v1∧(a0.map cS)[v1.toNat]? = some (cS (a0.getD v1.toNat []))),(3,0≤v1∧(a1.map cS)[v1.toNat]? = some (cS (a1.getD v1.toNat [])))] 2 (by kernel_rfl) (⟨idx_ok (d:=[]) cS hp1,idx_ok (d:=[]) cS hp2⟩) ?_
        refine T_cond (!((a0.getD v1.toNat []) == (a1.getD v1.toNat []))) (by kernel_rfl) (fun hc=>?_) (fun hc=>?_)
        · have h:=cond_tt hc h
          refine T_reg [] [4] [(4,.d (.v (.bool false)))] [] 1 (by kernel_rfl) (trivial) ?_
          obtain hs:=Option.some.inj h; subst hs
          have h:=callE_esc hk1
          obtain hs:=Option.some.inj h; subst hs
          refine T_ret fun a w hm=>inBlock_ret (then_ret (then_ret (inBlock_ret (then_ret (then_ret (T_return (fr':=[(4,.d (.v (.bool false)))]) [4] (by kernel_rfl) [.keep [4]] (by kernel_rfl) (by kernel_rfl) (by kernel_rfl) (by show _=_; kernel_rfl) (by exact trivial) a w hm))))))
        · have h:=cond_ff hc h
          refine T_skip fun a w hm=>inBlock_norm (then_norm (((?_:T Tryd.prog e 26 _ _ _) a w hm)))
          refine T_reg_end [] [0,1,12,13] [(13,.d (.v (.int .i64 (IntKind.i64.wrap (v1+(1:Int))))))] [] 2 (by kernel_rfl) (trivial) fun a w hm=>then_norm (⟨IntKind.i64.wrap (v1+(1:Int)),h,hm.co (cs:=[.keep [0,1,12,13]]) (by show _=_; kernel_rfl)⟩)
      · have h:=cond_ff hc h
        obtain hs:=Option.some.inj h; subst hs
        refine T_exit fun a w hm=>then_exit (then_exit (inBlock_exit (then_norm (⟨_,rfl,hm.co (cs:=[.keep []]) (by show _=_; kernel_rfl)⟩))))
    · skip
      refine fun a w hm=>then_norm (((?_:T Tryd.prog e 26 _ _ _) a w hm))
      refine T_reg [] [4] [(4,.d (.v (.bool true)))] [] 1 (by kernel_rfl) (trivial) ?_
      obtain hs:=Option.some.inj h; subst hs
      refine T_ret fun a w hm=>T_return (fr':=[(4,.d (.v (.bool true)))]) [4] (by kernel_rfl) [.keep [4]] (by kernel_rfl) (by kernel_rfl) (by kernel_rfl) (by show _=_; kernel_rfl) (by exact trivial) a w hm
theorem slices_EqualFunc_string_ok {F:Nat} {a0:List (List (List UInt8))} {a1:List (List (List UInt8))} {r:Bool} (h:slices_EqualFunc_string F a0 a1=some r):ACall Tryd.prog 12 [.d (.sl 1 (a0.map (cL 1 cS))),.d (.sl 1 (a1.map (cL 1 cS))),.clo 11 []] [] (.d (.v (.bool r))) []:=by
  rw [slices_EqualFunc_string] at h
  refine ACall.intro (N:=32) Tryd.func12 rfl rfl rfl rfl rfl fun e=>?_
  refine T_reg [] [0,1,2] [] [] 1 (by kernel_rfl) (trivial) ?_
  refine T_seqk ?_
  refine T_reg [(1,{ rw:=some (.d (.v (.int .i64 (a0.length:Int)))) }),(3,{ rw:=some (.d (.v (.int .i64 (a1.length:Int)))) })] [0,1,2,14] [(14,.d (.v (.bool ((a0.length:Int) != (a1.length:Int)))))] [(1,True∧AV.d (.v (.int .i64 ((a0.map (cL 1 cS)).length:Int)))=.d (.v (.int .i64 (a0.length:Int)))),(1,True∧AV.d (.v (.int .i64 ((a1.map (cL 1 cS)).length:Int)))=.d (.v (.int .i64 (a1.length:Int))))] 1 (by kernel_rfl) (⟨len_ok (cL 1 cS),len_ok (cL 1 cS)⟩) ?_
  refine T_cond ((a0.length:Int) != (a1.length:Int)) (by kernel_rfl) (fun hc=>?_) (fun hc=>?_)
  · have h:=cond_tt hc h
    refine T_reg [] [6] [(6,.d (.v (.bool false)))] [] 1 (by kernel_rfl) (trivial) ?_
    obtain hs:=Option.some.inj h; subst hs
    refine T_ret fun a w hm=>then_ret (T_return (fr':=[(6,.d (.v (.bool false)))]) [6] (by kernel_rfl) [.keep [6]] (by kernel_rfl) (by kernel_rfl) (by kernel_rfl) (by show _=_; kernel_rfl) (by exact trivial) a w hm)
  · have h:=cond_ff hc h
    refine T_skip fun a w hm=>then_norm (((?_:T Tryd.prog e 32 _ _ _) a w hm))
    refine T_seqk ?_
    refine T_reg [(1,{ rw:=some (.d (.v (.int .i64 (a0.length:Int)))) })] [1,2,15,16,17] [(15,.d (.sl 1 (a0.map (cL 1 cS)))),(16,.d (.v (.int .i64 (a0.length:Int)))),(17,.d (.v (.int .i64 (0:Int))))] [(1,True∧AV.d (.v (.int .i64 ((a0.map (cL 1 cS)).length:Int)))=.d (.v (.int .i64 (a0.length:Int))))] 1 (by kernel_rfl) (len_ok (cL 1 cS)) ?_
    refine T_joinEt h (fun (p:Unit)=>[]) (fun s h hk1=>?_) (fun s h=>?_)
    · refine T_co [.keep [1,2,15,16,17]] ((fun (p:Int)=>[(1,.d (.sl 1 (a1.map (cL 1 cS)))),(2,.clo 11 []),(15,.d (.sl 1 (a0.map (cL 1 cS)))),(16,.d (.v (.int .i64 (a0.length:Int)))),(17,.d (.v (.int .i64 p)))]) (0:Int)) (by show _=_; kernel_rfl) ?_
      refine T_block ?_
      refine T_loopF (ι:=Int) (fun (p:Int)=>[(1,.d (.sl 1 (a1.map (cL 1 cS)))),(2,.clo 11 []),(15,.d (.sl 1 (a0.map (cL 1 cS)))),(16,.d (.v (.int .i64 (a0.length:Int)))),(17,.d (.v (.int .i64 p)))]) (fun n p=>slices_EqualFunc_string_L0 F a0 a1 n p=some s) (fun i hh=>by simp [slices_EqualFunc_string_L0] at hh) (fun n v1 h=>?_) F (0:Int) h
      have h:slices_EqualFunc_string_L0 F a0 a1 (n+1) v1=some s:=h
      rw [slices_EqualFunc_string_L0] at h
      refine T_reg [] [1,2,15,16,17,18] [(18,.d (.v (.bool (decide (v1 < (a0.length:Int))))))] [] 1 (by kernel_rfl) (trivial) ?_
      refine T_seqk ?_
      refine T_cond (decide (v1 < (a0.length:Int))) (by kernel_rfl) (fun hc=>?_) (fun hc=>?_)
      · have h:=cond_tt hc h
        refine T_skip fun a w hm=>then_norm (((?_:T Tryd.prog e 32 _ _ _) a w hm))
        refine T_seqk ?_
        refine T_block ?_
        obtain ⟨hp1,h⟩:=chk_ok h
        refine T_reg [(1,{ cs:=(cL 1 cS) (a0.getD v1.toNat []) })] [1,2,7,8,15,16,17] [(7,.d (.v (.int .i64 v1))),(8,.d (.sl 1 ((a0.getD v1.toNat []).map cS)))] [(1,0≤v1∧(a0.map (cL 1 cS))[v1.toNat]? = some ((cL 1 cS) (a0.getD v1.toNat [])))] 3 (by kernel_rfl) (idx_ok (d:=[]) (cL 1 cS) hp1) ?_
        obtain ⟨hp2,h⟩:=chk_ok h
        refine T_reg [(2,{ cs:=(cL 1 cS) (a1.getD v1.toNat []) })] [1,2,8,9,15,16,17] [(9,.d (.sl 1 ((a1.getD v1.toNat []).map cS)))] [(2,0≤v1∧(a1.map (cL 1 cS))[v1.toNat]? = some ((cL 1 cS) (a1.getD v1.toNat [])))] 2 (by kernel_rfl) (idx_ok (d:=[]) (cL 1 cS) hp2) ?_
        obtain ⟨y1,hy1,h⟩:=call_ok h
        refine T_reg [(3,{ res:=.d (.v (.bool y1)) })] [1,2,15,16,17,30] [(30,.d (.v (.bool (!y1))))] [(3,ACall Tryd.prog 11 [.d (.sl 1 ((a0.getD v1.toNat []).map cS)),.d (.sl 1 ((a1.getD v1.toNat []).map cS))] [] (.d (.v (.bool y1))) [])] 1 (by kernel_rfl) (ref3_SameTexts_ok hy1) ?_
        refine T_cond (!y1) (by kernel_rfl) (fun hc=>?_) (fun hc=>?_)
        · have h:=cond_tt hc h
          refine T_reg [] [6] [(6,.d (.v (.bool false)))] [] 1 (by kernel_rfl) (trivial) ?_
          obtain hs:=Option.some.inj h; subst hs
          have h:=callE_esc hk1
          obtain hs:=Option.some.inj h; subst hs
          refine T_ret fun a w hm=>inBlock_ret (then_ret (then_ret (inBlock_ret (then_ret (then_ret (T_return (fr':=[(6,.d (.v (.bool false)))]) [6] (by kernel_rfl) [.keep [6]] (by kernel_rfl) (by kernel_rfl) (by kernel_rfl) (by show _=_; kernel_rfl) (by exact trivial) a w hm))))))
        · have h:=cond_ff hc h
          refine T_skip fun a w hm=>inBlock_norm (then_norm (((?_:T Tryd.prog e 32 _ _ _) a w hm)))
          refine T_reg_end [] [1,2,15,16,17] [(17,.d (.v (.int .i64 (IntKind.i64.wrap (v1+(1:Int))))))] [] 2 (by kernel_rfl) (trivial) fun a w hm=>then_norm (⟨IntKind.i64.wrap (v1+(1:Int)),h,hm.co (cs:=[.keep [1,2,15,16,17]]) (by show _=_; kernel_rfl)⟩)
      · have h:=cond_ff hc h
        obtain hs:=Option.some.inj h; subst hs
        refine T_exit fun a w hm=>then_exit (then_exit (inBlock_exit (then_norm (⟨_,rfl,hm.co (cs:=[.keep []]) (by show _=_; kernel_rfl)⟩))))
    · skip
      refine fun a w hm=>then_norm (((?_:T Tryd.prog e 32 _ _ _) a w hm))
      refine T_reg [] [6] [(6,.d (.v (.bool true)))] [] 1 (by kernel_rfl) (trivial) ?_
      obtain hs:=Option.some.inj h; subst hs
      refine T_ret fun a w hm=>T_return (fr':=[(6,.d (.v (.bool true)))]) [6] (by kernel_rfl) [.keep [6]] (by kernel_rfl) (by kernel_rfl) (by kernel_rfl) (by show _=_; kernel_rfl) (by exact trivial) a w hm
theorem law3_VaryParseMatchesReference_ok {F:Nat} {a0:List UInt8} {r:Bool} (h:law3_VaryParseMatchesReference F a0=some r):ACall Tryd.prog 3 [.d (.str a0)] [.glo 0 ([gm0].flatMap (cI .i64))] (.d (.v (.bool r))) [.glo 0 ([gm0].flatMap (cI .i64))]:=by
  rw [law3_VaryParseMatchesReference] at h
  refine ACall.intro (N:=167) Tryd.func3 rfl rfl rfl rfl rfl fun e=>?_
  refine T_reg [] [0,1000000] [] [] 1 (by kernel_rfl) (trivial) ?_
  refine T_seqk ?_
  obtain ⟨y5,hy1,h⟩:=call_ok h
  refine T_reg [(0,{ res:=.d (.v (.bool y5)),vout:=[.glo 0 ([gm0].flatMap (cI .i64))],xs:=[1000000] })] [0,18,1000000] [(18,.d (.v (.bool (!y5))))] [(0,ACall Tryd.prog 5 [] [.glo 0 ([gm0].flatMap (cI .i64))] (.d (.v (.bool y5))) [.glo 0 ([gm0].flatMap (cI .i64))])] 1 (by kernel_rfl) (law3_tableFact_ok hy1) ?_
  refine T_cond (!y5) (by kernel_rfl) (fun hc=>?_) (fun hc=>?_)
  · have h:=cond_tt hc h
    refine T_reg [] [2,1000000] [(2,.d (.v (.bool false)))] [] 1 (by kernel_rfl) (trivial) ?_
    obtain hs:=Option.some.inj h; subst hs
    refine T_ret fun a w hm=>then_ret (T_return (fr':=[(2,.d (.v (.bool false))),(1000000,.glo 0 ([gm0].flatMap (cI .i64)))]) [2] (by kernel_rfl) [.keep [2,1000000]] (by kernel_rfl) (by kernel_rfl) (by kernel_rfl) (by show _=_; kernel_rfl) (by exact ⟨⟨by kernel_rfl,by kernel_rfl⟩,trivial⟩) a w hm)
  · have h:=cond_ff hc h
    refine T_skip fun a w hm=>then_norm (((?_:T Tryd.prog e 167 _ _ _) a w hm))
    obtain ⟨y6,hy2,h⟩:=call_ok h
    refine T_reg [(1,{ res:=.tup [.agg (cS_VaryTable y6.1),.d (.v (.int .i64 y6.2))],vout:=[.glo 0 ([gm0].flatMap (cI .i64))],xs:=[1000000] })] [0,3,4,1000000] [(3,.box [.d (.sl 1 (y6.1.f0.map cS)),.d (.sl 1 (y6.1.f1.map (cL 1 cS)))]),(4,.d (.v (.int .i64 y6.2)))] [(1,ACall Tryd.prog 6 [.d (.str a0)] [.glo 0 ([gm0].flatMap (cI .i64))] (.tup [.agg (cS_VaryTable y6.1),.d (.v (.int .i64 y6.2))]) [.glo 0 ([gm0].flatMap (cI .i64))])] 6 (by kernel_rfl) (vary_Parse_ok hy2) ?_
    obtain ⟨y1,hy3,h⟩:=call_ok h
    refine T_reg [(1,{ res:=.tup [.own 23 1 (y1.1.map (cL 1 cS)),.d (.v (.bool y1.2))] })] [0,3,4,5,6,1000000] [(5,.own 23 1 (y1.1.map (cL 1 cS))),(6,.d (.v (.bool y1.2)))] [(1,ACall Tryd.prog 7 [.d (.str a0)] [] (.tup [.own 23 1 (y1.1.map (cL 1 cS)),.d (.v (.bool y1.2))]) [])] 5 (by kernel_rfl) (ref3_Table_ok hy3) ?_
    refine T_reg [] [0,3,4,5,6,7,1000000] [(7,.d (.v (.int .i64 (0:Int))))] [] 1 (by kernel_rfl) (trivial) ?_
    refine T_joinc h (fun (p:Int)=>[(3,.box [.d (.sl 1 (y6.1.f0.map cS)),.d (.sl 1 (y6.1.f1.map (cL 1 cS)))]),(4,.d (.v (.int .i64 y6.2))),(5,.own 23 1 (y1.1.map (cL 1 cS))),(7,.d (.v (.int .i64 p))),(1000000,.glo 0 ([gm0].flatMap (cI .i64)))]) (fun s h=>?_) (fun v16 h=>?_)
    · refine T_block ?_
      refine T_reg [] [3,4,5,6,7,29,1000000] [(29,.d (.v (.bool (decide ((a0.length:Int) > (8192:Int))))))] [] 4 (by kernel_rfl) (trivial) ?_
      refine T_cond (decide ((a0.length:Int) > (8192:Int))) (by kernel_rfl) (fun hc=>?_) (fun hc=>?_)
      · have h:=cond_tt hc h
        obtain hs:=Option.some.inj h; subst hs
        refine T_reg_end [] [3,4,5,7,1000000] [(7,.d (.v (.int .i64 (2:Int))))] [] 1 (by kernel_rfl) (trivial) fun a w hm=>inBlock_norm (then_norm (hm.co (cs:=[.keep [3,4,5,7,1000000]]) (by show _=_; kernel_rfl)))
      · have h:=cond_ff hc h
        refine T_reg [] [3,4,5,7,33,1000000] [(33,.d (.v (.bool (!y1.2))))] [] 3 (by kernel_rfl) (trivial) ?_
        refine T_cond (!y1.2) (by kernel_rfl) (fun hc=>?_) (fun hc=>?_)
        · have h:=cond_tt hc h
          obtain hs:=Option.some.inj h; subst hs
          refine T_reg_end [] [3,4,5,7,1000000] [(7,.d (.v (.int .i64 (5:Int))))] [] 1 (by kernel_rfl) (trivial) fun a w hm=>inBlock_norm (then_norm (hm.co (cs:=[.keep [3,4,5,7,1000000]]) (by show _=_; kernel_rfl)))
        · have h:=cond_ff hc h
          obtain ⟨hp1,h⟩:=chk_ok h
          obtain ⟨z4,hz1,h⟩:=lett_ok h
          refine T_reg [(2,{ cs:=(cL 1 cS) (y1.1.getD (0:Int).toNat []) }),(3,{ rw:=some (.d (.v (.int .i64 ((y1.1.getD (0:Int).toNat []).length:Int)))) }),(7,{ rw:=some (.d (.v (.int .i64 (y1.1.length:Int)))) }),(9,{ rw:=some (.d (.v (.bool z4))) })] [3,4,5,7,36,1000000] [(36,.d (.v (.bool z4)))] [(1,0≤(0:Int)∧(0:Int) < (y1.1.map (cL 1 cS)).length),(0,(y1.1.map (cL 1 cS))[(0:Int).toNat]? = some ((cL 1 cS) (y1.1.getD (0:Int).toNat []))),(0,True∧AV.d (.v (.int .i64 (((y1.1.getD (0:Int).toNat []).map cS).length:Int)))=.d (.v (.int .i64 ((y1.1.getD (0:Int).toNat []).length:Int)))),(2,((((decide (((y1.1.getD (0:Int).toNat []).length:Int) > (16:Int))) == false) && true)=true→True)),(0,((((decide (((y1.1.getD (0:Int).toNat []).length:Int) > (16:Int))) == false) && true)=true→True∧AV.d (.v (.int .i64 ((y1.1.map (cL 1 cS)).length:Int)))=.d (.v (.int .i64 (y1.1.length:Int))))),(0,((((decide (((y1.1.getD (0:Int).toNat []).length:Int) > (16:Int))) == false) && true)=true→True)),(0,(True)∧AV.d (.v (.bool (bif (decide (((y1.1.getD (0:Int).toNat []).length:Int) > (16:Int))) then true else (decide ((y1.1.length:Int) > (257:Int))))))=.d (.v (.bool z4)))] 1 (by kernel_rfl) (⟨own_idx (cL 1 cS) hp1,(idx_ok (d:=[]) (cL 1 cS) hp1).2,len_ok cS,(fun hg=>trivial),(fun hg=>len_ok (cL 1 cS)),(fun hg=>trivial),⟨trivial,(by subst hz1; rfl)⟩⟩) ?_
          refine T_cond z4 (by kernel_rfl) (fun hc=>?_) (fun hc=>?_)
          · have h:=cond_tt hc h
            obtain hs:=Option.some.inj h; subst hs
            refine T_reg_end [] [3,4,5,7,1000000] [(7,.d (.v (.int .i64 (2:Int))))] [] 1 (by kernel_rfl) (trivial) fun a w hm=>inBlock_norm (then_norm (hm.co (cs:=[.keep [3,4,5,7,1000000]]) (by show _=_; kernel_rfl)))
          · have h:=cond_ff hc h
            obtain hs:=Option.some.inj h; subst hs
            refine T_skip fun a w hm=>inBlock_norm (then_norm (hm.co (cs:=[.keep [3,4,5,7,1000000]]) (by show _=_; kernel_rfl)))
    · skip
      refine T_joinc h (fun (p:Int)=>[(3,.box [.d (.sl 1 (y6.1.f0.map cS)),.d (.sl 1 (y6.1.f1.map (cL 1 cS)))]),(4,.d (.v (.int .i64 y6.2))),(5,.own 23 1 (y1.1.map (cL 1 cS))),(7,.d (.v (.int .i64 p))),(1000000,.glo 0 ([gm0].flatMap (cI .i64)))]) (fun s h=>?_) (fun v18 h=>?_)
      · refine T_reg [] [3,4,5,7,48,1000000] [(48,.d (.v (.bool (v16 == (0:Int)))))] [] 2 (by kernel_rfl) (trivial) ?_
        refine T_cond (v16 == (0:Int)) (by kernel_rfl) (fun hc=>?_) (fun hc=>?_)
        · have h:=cond_tt hc h
          obtain ⟨hp2,h⟩:=chk_ok h
          refine T_reg [(2,{ cs:=(cL 1 cS) (y1.1.getD (0:Int).toNat []) }),(3,{ rw:=some (.d (.v (.int .i64 ((y1.1.getD (0:Int).toNat []).length:Int)))) })] [3,4,5,7,51,52,53,1000000] [(51,.d (.sl 1 ((y1.1.getD (0:Int).toNat []).map cS))),(52,.d (.v (.int .i64 ((y1.1.getD (0:Int).toNat []).length:Int)))),(53,.d (.v (.int .i64 (0:Int))))] [(1,0≤(0:Int)∧(0:Int) < (y1.1.map (cL 1 cS)).length),(0,(y1.1.map (cL 1 cS))[(0:Int).toNat]? = some ((cL 1 cS) (y1.1.getD (0:Int).toNat []))),(0,True∧AV.d (.v (.int .i64 (((y1.1.getD (0:Int).toNat []).map cS).length:Int)))=.d (.v (.int .i64 ((y1.1.getD (0:Int).toNat []).length:Int))))] 1 (by kernel_rfl) (⟨own_idx (cL 1 cS) hp2,(idx_ok (d:=[]) (cL 1 cS) hp2).2,len_ok cS⟩) ?_
          refine T_joinct h (fun (p:Int)=>[(3,.box [.d (.sl 1 (y6.1.f0.map cS)),.d (.sl 1 (y6.1.f1.map (cL 1 cS)))]),(4,.d (.v (.int .i64 y6.2))),(5,.own 23 1 (y1.1.map (cL 1 cS))),(7,.d (.v (.int .i64 p))),(1000000,.glo 0 ([gm0].flatMap (cI .i64)))]) (fun s h=>?_) (fun v17 h=>?_)
          · refine T_co [.keep [3,4,5,7,51,52,53,1000000]] ((fun (p:Int×Int)=>[(3,.box [.d (.sl 1 (y6.1.f0.map cS)),.d (.sl 1 (y6.1.f1.map (cL 1 cS)))]),(4,.d (.v (.int .i64 y6.2))),(5,.own 23 1 (y1.1.map (cL 1 cS))),(7,.d (.v (.int .i64 p.1))),(51,.d (.sl 1 ((y1.1.getD (0:Int).toNat []).map cS))),(52,.d (.v (.int .i64 ((y1.1.getD (0:Int).toNat []).length:Int)))),(53,.d (.v (.int .i64 p.2))),(1000000,.glo 0 ([gm0].flatMap (cI .i64)))]) (v16,(0:Int))) (by show _=_; kernel_rfl) ?_
            refine T_block ?_
            refine T_loopF (ι:=Int×Int) (fun (p:Int×Int)=>[(3,.box [.d (.sl 1 (y6.1.f0.map cS)),.d (.sl 1 (y6.1.f1.map (cL 1 cS)))]),(4,.d (.v (.int .i64 y6.2))),(5,.own 23 1 (y1.1.map (cL 1 cS))),(7,.d (.v (.int .i64 p.1))),(51,.d (.sl 1 ((y1.1.getD (0:Int).toNat []).map cS))),(52,.d (.v (.int .i64 ((y1.1.getD (0:Int).toNat []).length:Int)))),(53,.d (.v (.int .i64 p.2))),(1000000,.glo 0 ([gm0].flatMap (cI .i64)))]) (fun n p=>law3_VaryParseMatchesReference_L1 F y1 n p.1 p.2=some s) (fun i hh=>by simp [law3_VaryParseMatchesReference_L1] at hh) (fun n p h=>?_) F (v16,(0:Int)) h
            obtain ⟨v1,v2⟩:=p
            have h:law3_VaryParseMatchesReference_L1 F y1 (n+1) v1 v2=some s:=h
            rw [law3_VaryParseMatchesReference_L1] at h
            refine T_reg [] [3,4,5,7,51,52,53,54,1000000] [(54,.d (.v (.bool (decide (v2 < ((y1.1.getD (0:Int).toNat []).length:Int))))))] [] 1 (by kernel_rfl) (trivial) ?_
            refine T_seqk ?_
            refine T_cond (decide (v2 < ((y1.1.getD (0:Int).toNat []).length:Int))) (by kernel_rfl) (fun hc=>?_) (fun hc=>?_)
            · have h:=cond_tt hc h
              refine T_skip fun a w hm=>then_norm (((?_:T Tryd.prog e 167 _ _ _) a w hm))
              refine T_joinc h (fun (p:Int)=>[(3,.box [.d (.sl 1 (y6.1.f0.map cS)),.d (.sl 1 (y6.1.f1.map (cL 1 cS)))]),(4,.d (.v (.int .i64 y6.2))),(5,.own 23 1 (y1.1.map (cL 1 cS))),(7,.d (.v (.int .i64 p))),(51,.d (.sl 1 ((y1.1.getD (0:Int).toNat []).map cS))),(52,.d (.v (.int .i64 ((y1.1.getD (0:Int).toNat []).length:Int)))),(53,.d (.v (.int .i64 v2))),(1000000,.glo 0 ([gm0].flatMap (cI .i64)))]) (fun s h=>?_) (fun v4 h=>?_)
              · refine T_block ?_
                obtain ⟨hp3,h⟩:=chk_ok h
                refine T_reg [(1,{ cs:=cS ((y1.1.getD (0:Int).toNat []).getD v2.toNat []) })] [3,4,5,7,8,9,51,52,53,1000000] [(8,.d (.v (.int .i64 v2))),(9,.d (.str ((y1.1.getD (0:Int).toNat []).getD v2.toNat [])))] [(1,0≤v2∧((y1.1.getD (0:Int).toNat []).map cS)[v2.toNat]? = some (cS ((y1.1.getD (0:Int).toNat []).getD v2.toNat [])))] 3 (by kernel_rfl) (idx_ok (d:=[]) cS hp3) ?_
                refine T_joinc h (fun (p:Int)=>[(3,.box [.d (.sl 1 (y6.1.f0.map cS)),.d (.sl 1 (y6.1.f1.map (cL 1 cS)))]),(4,.d (.v (.int .i64 y6.2))),(5,.own 23 1 (y1.1.map (cL 1 cS))),(7,.d (.v (.int .i64 p))),(8,.d (.v (.int .i64 v2))),(9,.d (.str ((y1.1.getD (0:Int).toNat []).getD v2.toNat []))),(51,.d (.sl 1 ((y1.1.getD (0:Int).toNat []).map cS))),(52,.d (.v (.int .i64 ((y1.1.getD (0:Int).toNat []).length:Int)))),(53,.d (.v (.int .i64 v2))),(1000000,.glo 0 ([gm0].flatMap (cI .i64)))]) (fun s h=>?_) (fun v3 h=>?_)
                · obtain ⟨y2,hy4,h⟩:=call_ok h
                  refine T_reg [(4,{ res:=.d (.v (.bool y2)) })] [3,4,5,7,8,9,51,52,53,64,1000000] [(64,.d (.v (.bool (bif (v1 == (0:Int)) then (!y2) else false))))] [(3,((((v1 == (0:Int)) == true) && true)=true→True)),(0,((((v1 == (0:Int)) == true) && true)=true→ACall Tryd.prog 8 [.d (.str ((y1.1.getD (0:Int).toNat []).getD v2.toNat []))] [] (.d (.v (.bool y2))) [])),(0,((((v1 == (0:Int)) == true) && true)=true→True))] 1 (by kernel_rfl) (⟨(fun hg=>trivial),(fun hg=>ref3_IsName_ok (gcall_ok hg hy4)),(fun hg=>trivial)⟩) ?_
                  refine T_cond (bif (v1 == (0:Int)) then (!y2) else false) (by kernel_rfl) (fun hc=>?_) (fun hc=>?_)
                  · have h:=cond_tt hc h
                    obtain hs:=Option.some.inj h; subst hs
                    refine T_reg_end [] [3,4,5,7,8,9,51,52,53,1000000] [(7,.d (.v (.int .i64 (6:Int))))] [] 1 (by kernel_rfl) (trivial) fun a w hm=>then_norm (hm.co (cs:=[.keep [3,4,5,7,8,9,51,52,53,1000000]]) (by show _=_; kernel_rfl))
                  · have h:=cond_ff hc h
                    obtain hs:=Option.some.inj h; subst hs
                    refine T_skip fun a w hm=>then_norm (hm.co (cs:=[.keep [3,4,5,7,8,9,51,52,53,1000000]]) (by show _=_; kernel_rfl))
                · skip
                  obtain ⟨hp4,h⟩:=chk_ok h
                  obtain ⟨hp5,h⟩:=chk_ok h
                  obtain ⟨y3,hy5,h⟩:=call_ok h
                  refine T_reg [(5,{ cs:=(cL 1 cS) (y1.1.getD (0:Int).toNat []) }),(7,{ rw:=some (.d (.sl 1 ((((y1.1.getD (0:Int).toNat []).drop (0:Int).toNat).take (v2.toNat - (0:Int).toNat)).map cS))) }),(9,{ res:=.d (.v (.bool y3)) })] [3,4,5,7,51,52,53,75,1000000] [(75,.d (.v (.bool (bif (v3 == (0:Int)) then y3 else false))))] [(3,((((v3 == (0:Int)) == true) && true)=true→True)),(0,((((v3 == (0:Int)) == true) && true)=true→0≤(0:Int)∧(0:Int) < (y1.1.map (cL 1 cS)).length)),(0,((((v3 == (0:Int)) == true) && true)=true→(y1.1.map (cL 1 cS))[(0:Int).toNat]? = some ((cL 1 cS) (y1.1.getD (0:Int).toNat [])))),(0,((((v3 == (0:Int)) == true) && true)=true→True)),(0,((((v3 == (0:Int)) == true) && true)=true→(0≤(0:Int)∧(0:Int)≤v2∧v2≤(((y1.1.getD (0:Int).toNat []).map cS).length:Int))∧AV.d (.sl 1 ((((y1.1.getD (0:Int).toNat []).map cS).drop (0:Int).toNat).take (v2.toNat - (0:Int).toNat)))=.d (.sl 1 ((((y1.1.getD (0:Int).toNat []).drop (0:Int).toNat).take (v2.toNat - (0:Int).toNat)).map cS)))),(0,((((v3 == (0:Int)) == true) && true)=true→True)),(0,((((v3 == (0:Int)) == true) && true)=true→ACall Tryd.prog 9 [.d (.sl 1 ((((y1.1.getD (0:Int).toNat []).drop (0:Int).toNat).take (v2.toNat - (0:Int).toNat)).map cS)),.d (.str ((y1.1.getD (0:Int).toNat []).getD v2.toNat []))] [] (.d (.v (.bool y3))) []))] 1 (by kernel_rfl) (⟨(fun hg=>trivial),(fun hg=>own_idx (cL 1 cS) (hp4 hg)),(fun hg=>(idx_ok (d:=[]) (cL 1 cS) (hp4 hg)).2),(fun hg=>trivial),(fun hg=>cutH cS (hp5 hg)),(fun hg=>trivial),(fun hg=>ref3_HasText_ok (gcall_ok hg hy5))⟩) ?_
                  refine T_cond (bif (v3 == (0:Int)) then y3 else false) (by kernel_rfl) (fun hc=>?_) (fun hc=>?_)
                  · have h:=cond_tt hc h
                    obtain hs:=Option.some.inj h; subst hs
                    refine T_reg_end [] [3,4,5,7,51,52,53,1000000] [(7,.d (.v (.int .i64 (7:Int))))] [] 1 (by kernel_rfl) (trivial) fun a w hm=>inBlock_norm (then_norm (hm.co (cs:=[.keep [3,4,5,7,51,52,53,1000000]]) (by show _=_; kernel_rfl)))
                  · have h:=cond_ff hc h
                    obtain hs:=Option.some.inj h; subst hs
                    refine T_skip fun a w hm=>inBlock_norm (then_norm (hm.co (cs:=[.keep [3,4,5,7,51,52,53,1000000]]) (by show _=_; kernel_rfl)))
              · skip
                refine T_reg_end [] [3,4,5,7,51,52,53,1000000] [(53,.d (.v (.int .i64 (IntKind.i64.wrap (v2+(1:Int))))))] [] 2 (by kernel_rfl) (trivial) fun a w hm=>then_norm (⟨(v4,IntKind.i64.wrap (v2+(1:Int))),h,hm.co (cs:=[.keep [3,4,5,7,51,52,53,1000000]]) (by show _=_; kernel_rfl)⟩)
            · have h:=cond_ff hc h
              obtain hs:=Option.some.inj h; subst hs
              refine T_exit fun a w hm=>then_exit (then_exit (inBlock_exit (then_norm (hm.co (cs:=[.keep [3,4,5,7,1000000]]) (by show _=_; kernel_rfl)))))
          · skip
            obtain hs:=Option.some.inj h; subst hs
            refine fun a w hm=>then_norm (hm.co (cs:=[.keep [3,4,5,7,1000000]]) (by show _=_; kernel_rfl))
        · have h:=cond_ff hc h
          obtain hs:=Option.some.inj h; subst hs
          refine T_skip fun a w hm=>then_norm (hm.co (cs:=[.keep [3,4,5,7,1000000]]) (by show _=_; kernel_rfl))
      · skip
        refine T_joinc h (fun (p:Int)=>[(3,.box [.d (.sl 1 (y6.1.f0.map cS)),.d (.sl 1 (y6.1.f1.map (cL 1 cS)))]),(4,.d (.v (.int .i64 y6.2))),(5,.d (.sl 1 (y1.1.map (cL 1 cS)))),(7,.d (.v (.int .i64 p))),(1000000,.glo 0 ([gm0].flatMap (cI .i64)))]) (fun s h=>?_) (fun v21 h=>?_)
        · refine T_reg [] [3,4,5,7,78,1000000] [(78,.d (.v (.bool (v18 == (0:Int)))))] [] 2 (by kernel_rfl) (trivial) ?_
          refine T_cond (v18 == (0:Int)) (by kernel_rfl) (fun hc=>?_) (fun hc=>?_)
          · have h:=cond_tt hc h
            obtain ⟨hp6,h⟩:=chk_ok h
            refine T_reg [(2,{ cs:=(cL 1 cS) (y1.1.getD (0:Int).toNat []) }),(3,{ rw:=some (.d (.v (.int .i64 ((y1.1.getD (0:Int).toNat []).length:Int)))) })] [3,4,5,7,10,1000000] [(10,.d (.v (.int .i64 ((y1.1.getD (0:Int).toNat []).length:Int))))] [(1,0≤(0:Int)∧(0:Int) < (y1.1.map (cL 1 cS)).length),(0,(y1.1.map (cL 1 cS))[(0:Int).toNat]? = some ((cL 1 cS) (y1.1.getD (0:Int).toNat []))),(0,True∧AV.d (.v (.int .i64 (((y1.1.getD (0:Int).toNat []).map cS).length:Int)))=.d (.v (.int .i64 ((y1.1.getD (0:Int).toNat []).length:Int))))] 1 (by kernel_rfl) (⟨own_idx (cL 1 cS) hp6,(idx_ok (d:=[]) (cL 1 cS) hp6).2,len_ok cS⟩) ?_
            refine T_seqk ?_
            obtain ⟨hp7,h⟩:=chk_ok h
            refine T_reg [(2,{ cs:=(cL 1 cS) (y1.1.getD (0:Int).toNat []) }),(3,{ rw:=some (.d (.v (.int .i64 ((y1.1.getD (0:Int).toNat []).length:Int)))) })] [3,4,5,7,10,85,86,87,1000000] [(85,.d (.sl 1 ((y1.1.getD (0:Int).toNat []).map cS))),(86,.d (.v (.int .i64 ((y1.1.getD (0:Int).toNat []).length:Int)))),(87,.d (.v (.int .i64 (0:Int))))] [(1,0≤(0:Int)∧(0:Int) < (y1.1.map (cL 1 cS)).length),(0,(y1.1.map (cL 1 cS))[(0:Int).toNat]? = some ((cL 1 cS) (y1.1.getD (0:Int).toNat []))),(0,True∧AV.d (.v (.int .i64 (((y1.1.getD (0:Int).toNat []).map cS).length:Int)))=.d (.v (.int .i64 ((y1.1.getD (0:Int).toNat []).length:Int))))] 1 (by kernel_rfl) (⟨own_idx (cL 1 cS) hp7,(idx_ok (d:=[]) (cL 1 cS) hp7).2,len_ok cS⟩) ?_
            refine T_joinct h (fun (p:Int)=>[(3,.box [.d (.sl 1 (y6.1.f0.map cS)),.d (.sl 1 (y6.1.f1.map (cL 1 cS)))]),(4,.d (.v (.int .i64 y6.2))),(5,.own 23 1 (y1.1.map (cL 1 cS))),(7,.d (.v (.int .i64 v18))),(10,.d (.v (.int .i64 p))),(1000000,.glo 0 ([gm0].flatMap (cI .i64)))]) (fun s h=>?_) (fun v19 h=>?_)
            · refine T_co [.keep [3,4,5,7,10,85,86,87,1000000]] ((fun (p:Int×Int)=>[(3,.box [.d (.sl 1 (y6.1.f0.map cS)),.d (.sl 1 (y6.1.f1.map (cL 1 cS)))]),(4,.d (.v (.int .i64 y6.2))),(5,.own 23 1 (y1.1.map (cL 1 cS))),(7,.d (.v (.int .i64 v18))),(10,.d (.v (.int .i64 p.1))),(85,.d (.sl 1 ((y1.1.getD (0:Int).toNat []).map cS))),(86,.d (.v (.int .i64 ((y1.1.getD (0:Int).toNat []).length:Int)))),(87,.d (.v (.int .i64 p.2))),(1000000,.glo 0 ([gm0].flatMap (cI .i64)))]) (((y1.1.getD (0:Int).toNat []).length:Int),(0:Int))) (by show _=_; kernel_rfl) ?_
              refine T_block ?_
              refine T_loopF (ι:=Int×Int) (fun (p:Int×Int)=>[(3,.box [.d (.sl 1 (y6.1.f0.map cS)),.d (.sl 1 (y6.1.f1.map (cL 1 cS)))]),(4,.d (.v (.int .i64 y6.2))),(5,.own 23 1 (y1.1.map (cL 1 cS))),(7,.d (.v (.int .i64 v18))),(10,.d (.v (.int .i64 p.1))),(85,.d (.sl 1 ((y1.1.getD (0:Int).toNat []).map cS))),(86,.d (.v (.int .i64 ((y1.1.getD (0:Int).toNat []).length:Int)))),(87,.d (.v (.int .i64 p.2))),(1000000,.glo 0 ([gm0].flatMap (cI .i64)))]) (fun n p=>law3_VaryParseMatchesReference_L3 F y1 n p.1 p.2=some s) (fun i hh=>by simp [law3_VaryParseMatchesReference_L3] at hh) (fun n p h=>?_) F (((y1.1.getD (0:Int).toNat []).length:Int),(0:Int)) h
              obtain ⟨v5,v6⟩:=p
              have h:law3_VaryParseMatchesReference_L3 F y1 (n+1) v5 v6=some s:=h
              rw [law3_VaryParseMatchesReference_L3] at h
              refine T_reg [] [3,4,5,7,10,85,86,87,88,1000000] [(88,.d (.v (.bool (decide (v6 < ((y1.1.getD (0:Int).toNat []).length:Int))))))] [] 1 (by kernel_rfl) (trivial) ?_
              refine T_seqk ?_
              refine T_cond (decide (v6 < ((y1.1.getD (0:Int).toNat []).length:Int))) (by kernel_rfl) (fun hc=>?_) (fun hc=>?_)
              · have h:=cond_tt hc h
                refine T_skip fun a w hm=>then_norm (((?_:T Tryd.prog e 167 _ _ _) a w hm))
                refine T_seqk ?_
                refine T_block ?_
                obtain ⟨hp8,h⟩:=chk_ok h
                refine T_reg [(0,{ cs:=cS ((y1.1.getD (0:Int).toNat []).getD v6.toNat []) })] [3,4,5,7,10,12,85,86,87,1000000] [(12,.d (.str ((y1.1.getD (0:Int).toNat []).getD v6.toNat [])))] [(0,0≤v6∧((y1.1.getD (0:Int).toNat []).map cS)[v6.toNat]? = some (cS ((y1.1.getD (0:Int).toNat []).getD v6.toNat [])))] 2 (by kernel_rfl) (idx_ok (d:=[]) cS hp8) ?_
                refine T_reg_end [] [3,4,5,7,10,85,86,87,1000000] [(10,.d (.v (.int .i64 (IntKind.i64.wrap (v5+(((y1.1.getD (0:Int).toNat []).getD v6.toNat []).length:Int))))))] [] 5 (by kernel_rfl) (trivial) fun a w hm=>inBlock_norm (then_norm (((?_:T Tryd.prog e 167 _ _ _) a w hm)))
                refine T_reg_end [] [3,4,5,7,10,85,86,87,1000000] [(87,.d (.v (.int .i64 (IntKind.i64.wrap (v6+(1:Int))))))] [] 2 (by kernel_rfl) (trivial) fun a w hm=>then_norm (⟨(IntKind.i64.wrap (v5+(((y1.1.getD (0:Int).toNat []).getD v6.toNat []).length:Int)),IntKind.i64.wrap (v6+(1:Int))),h,hm.co (cs:=[.keep [3,4,5,7,10,85,86,87,1000000]]) (by show _=_; kernel_rfl)⟩)
              · have h:=cond_ff hc h
                obtain hs:=Option.some.inj h; subst hs
                refine T_exit fun a w hm=>then_exit (then_exit (inBlock_exit (then_norm (hm.co (cs:=[.keep [3,4,5,7,10,1000000]]) (by show _=_; kernel_rfl)))))
            · skip
              refine fun a w hm=>then_norm (((?_:T Tryd.prog e 167 _ _ _) a w hm))
              obtain ⟨hp9,h⟩:=chk_ok h
              refine T_reg [(1,{ frz:=[(5,0)],rw:=some (.d (.sl 1 (((y1.1.drop (1:Int).toNat).take ((y1.1.length:Int).toNat - (1:Int).toNat)).map (cL 1 cS)))) }),(2,{ rw:=some (.d (.v (.int .i64 (((y1.1.drop (1:Int).toNat).take ((y1.1.length:Int).toNat - (1:Int).toNat)).length:Int)))) })] [3,4,5,7,10,97,98,99,1000000] [(5,.fz 1 (y1.1.map (cL 1 cS))),(97,.d (.sl 1 (((y1.1.drop (1:Int).toNat).take ((y1.1.length:Int).toNat - (1:Int).toNat)).map (cL 1 cS)))),(98,.d (.v (.int .i64 (((y1.1.drop (1:Int).toNat).take ((y1.1.length:Int).toNat - (1:Int).toNat)).length:Int)))),(99,.d (.v (.int .i64 (0:Int))))] [(1,(0≤(1:Int)∧(1:Int)≤((y1.1.map (cL 1 cS)).length:Int)∧((y1.1.map (cL 1 cS)).length:Int)≤((y1.1.map (cL 1 cS)).length:Int))∧AV.d (.sl 1 (((y1.1.map (cL 1 cS)).drop (1:Int).toNat).take (((y1.1.map (cL 1 cS)).length:Int).toNat - (1:Int).toNat)))=.d (.sl 1 (((y1.1.drop (1:Int).toNat).take ((y1.1.length:Int).toNat - (1:Int).toNat)).map (cL 1 cS)))),(0,True∧AV.d (.v (.int .i64 ((((y1.1.drop (1:Int).toNat).take ((y1.1.length:Int).toNat - (1:Int).toNat)).map (cL 1 cS)).length:Int)))=.d (.v (.int .i64 (((y1.1.drop (1:Int).toNat).take ((y1.1.length:Int).toNat - (1:Int).toNat)).length:Int))))] 1 (by kernel_rfl) (⟨cutL (cL 1 cS) hp9,len_ok (cL 1 cS)⟩) ?_
              refine T_joinct h (fun (p:Int)=>[(3,.box [.d (.sl 1 (y6.1.f0.map cS)),.d (.sl 1 (y6.1.f1.map (cL 1 cS)))]),(4,.d (.v (.int .i64 y6.2))),(5,.fz 1 (y1.1.map (cL 1 cS))),(7,.d (.v (.int .i64 p))),(1000000,.glo 0 ([gm0].flatMap (cI .i64)))]) (fun s h=>?_) (fun v20 h=>?_)
              · refine T_co [.keep [3,4,5,7,10,97,98,99,1000000]] ((fun (p:Int×Int×Int)=>[(3,.box [.d (.sl 1 (y6.1.f0.map cS)),.d (.sl 1 (y6.1.f1.map (cL 1 cS)))]),(4,.d (.v (.int .i64 y6.2))),(5,.fz 1 (y1.1.map (cL 1 cS))),(7,.d (.v (.int .i64 p.1))),(10,.d (.v (.int .i64 p.2.1))),(97,.d (.sl 1 (((y1.1.drop (1:Int).toNat).take ((y1.1.length:Int).toNat - (1:Int).toNat)).map (cL 1 cS)))),(98,.d (.v (.int .i64 (((y1.1.drop (1:Int).toNat).take ((y1.1.length:Int).toNat - (1:Int).toNat)).length:Int)))),(99,.d (.v (.int .i64 p.2.2))),(1000000,.glo 0 ([gm0].flatMap (cI .i64)))]) (v18,v19,(0:Int))) (by show _=_; kernel_rfl) ?_
                refine T_block ?_
                refine T_loopF (ι:=Int×Int×Int) (fun (p:Int×Int×Int)=>[(3,.box [.d (.sl 1 (y6.1.f0.map cS)),.d (.sl 1 (y6.1.f1.map (cL 1 cS)))]),(4,.d (.v (.int .i64 y6.2))),(5,.fz 1 (y1.1.map (cL 1 cS))),(7,.d (.v (.int .i64 p.1))),(10,.d (.v (.int .i64 p.2.1))),(97,.d (.sl 1 (((y1.1.drop (1:Int).toNat).take ((y1.1.length:Int).toNat - (1:Int).toNat)).map (cL 1 cS)))),(98,.d (.v (.int .i64 (((y1.1.drop (1:Int).toNat).take ((y1.1.length:Int).toNat - (1:Int).toNat)).length:Int)))),(99,.d (.v (.int .i64 p.2.2))),(1000000,.glo 0 ([gm0].flatMap (cI .i64)))]) (fun n p=>law3_VaryParseMatchesReference_L5 F y1 n p.1 p.2.1 p.2.2=some s) (fun i hh=>by simp [law3_VaryParseMatchesReference_L5] at hh) (fun n p h=>?_) F (v18,v19,(0:Int)) h
                obtain ⟨v9,v10,v11⟩:=p
                have h:law3_VaryParseMatchesReference_L5 F y1 (n+1) v9 v10 v11=some s:=h
                rw [law3_VaryParseMatchesReference_L5] at h
                obtain ⟨z2,hz2,h⟩:=lett_ok h
                refine T_reg [(0,{ rw:=some (.d (.v (.bool z2))) })] [3,4,5,7,10,97,98,99,100,1000000] [(100,.d (.v (.bool z2)))] [(0,(True)∧AV.d (.v (.bool (decide (v11 < (((y1.1.drop (1:Int).toNat).take ((y1.1.length:Int).toNat - (1:Int).toNat)).length:Int)))))=.d (.v (.bool z2)))] 0 (by kernel_rfl) (⟨trivial,(by subst hz2; rfl)⟩) ?_
                refine T_seqk ?_
                refine T_cond z2 (by kernel_rfl) (fun hc=>?_) (fun hc=>?_)
                · have h:=cond_tt hc h
                  refine T_skip fun a w hm=>then_norm (((?_:T Tryd.prog e 167 _ _ _) a w hm))
                  refine T_joinc h (fun (p:Int×Int)=>[(3,.box [.d (.sl 1 (y6.1.f0.map cS)),.d (.sl 1 (y6.1.f1.map (cL 1 cS)))]),(4,.d (.v (.int .i64 y6.2))),(5,.fz 1 (y1.1.map (cL 1 cS))),(7,.d (.v (.int .i64 p.1))),(10,.d (.v (.int .i64 p.2))),(97,.d (.sl 1 (((y1.1.drop (1:Int).toNat).take ((y1.1.length:Int).toNat - (1:Int).toNat)).map (cL 1 cS)))),(98,.d (.v (.int .i64 (((y1.1.drop (1:Int).toNat).take ((y1.1.length:Int).toNat - (1:Int).toNat)).length:Int)))),(99,.d (.v (.int .i64 v11))),(1000000,.glo 0 ([gm0].flatMap (cI .i64)))]) (fun s h=>?_) (fun s h=>?_)
                  · refine T_block ?_
                    obtain ⟨hp10,h⟩:=chk_ok h
                    obtain ⟨z1,hz3,h⟩:=lett_ok h
                    refine T_reg [(0,{ cs:=(cL 1 cS) (((y1.1.drop (1:Int).toNat).take ((y1.1.length:Int).toNat - (1:Int).toNat)).getD v11.toNat []) }),(1,{ rw:=some (.d (.sl 1 (z1.map cS))) })] [3,4,5,7,10,14,97,98,99,1000000] [(14,.d (.sl 1 (z1.map cS)))] [(0,0≤v11∧(((y1.1.drop (1:Int).toNat).take ((y1.1.length:Int).toNat - (1:Int).toNat)).map (cL 1 cS))[v11.toNat]? = some ((cL 1 cS) (((y1.1.drop (1:Int).toNat).take ((y1.1.length:Int).toNat - (1:Int).toNat)).getD v11.toNat []))),(0,(True)∧AV.d (.sl 1 ((((y1.1.drop (1:Int).toNat).take ((y1.1.length:Int).toNat - (1:Int).toNat)).getD v11.toNat []).map cS))=.d (.sl 1 (z1.map cS)))] 1 (by kernel_rfl) (⟨idx_ok (d:=[]) (cL 1 cS) hp10,⟨trivial,(by subst hz3; rfl)⟩⟩) ?_
                    refine T_joinc h (fun (p:Int)=>[(3,.box [.d (.sl 1 (y6.1.f0.map cS)),.d (.sl 1 (y6.1.f1.map (cL 1 cS)))]),(4,.d (.v (.int .i64 y6.2))),(5,.fz 1 (y1.1.map (cL 1 cS))),(7,.d (.v (.int .i64 p))),(10,.d (.v (.int .i64 v10))),(14,.d (.sl 1 (z1.map cS))),(97,.d (.sl 1 (((y1.1.drop (1:Int).toNat).take ((y1.1.length:Int).toNat - (1:Int).toNat)).map (cL 1 cS)))),(98,.d (.v (.int .i64 (((y1.1.drop (1:Int).toNat).take ((y1.1.length:Int).toNat - (1:Int).toNat)).length:Int)))),(99,.d (.v (.int .i64 v11))),(1000000,.glo 0 ([gm0].flatMap (cI .i64)))]) (fun s h=>?_) (fun v12 h=>?_)
                    · obtain ⟨hp11,h⟩:=chk_ok h
                      obtain ⟨z3,hz4,h⟩:=lett_ok h
                      refine T_reg [(4,{ rw:=some (.d (.v (.int .i64 (z1.length:Int)))) }),(6,{ cs:=(cL 1 cS) (y1.1.getD (0:Int).toNat []) }),(8,{ rw:=some (.d (.v (.int .i64 ((y1.1.getD (0:Int).toNat []).length:Int)))) }),(10,{ rw:=some (.d (.v (.bool z3))) })] [3,4,5,7,10,14,97,98,99,113,1000000] [(113,.d (.v (.bool z3)))] [(3,((((v9 == (0:Int)) == true) && true)=true→True)),(0,((((v9 == (0:Int)) == true) && true)=true→True∧AV.d (.v (.int .i64 ((z1.map cS).length:Int)))=.d (.v (.int .i64 (z1.length:Int))))),(0,((((v9 == (0:Int)) == true) && true)=true→True)),(0,((((v9 == (0:Int)) == true) && true)=true→0≤(0:Int)∧(y1.1.map (cL 1 cS))[(0:Int).toNat]? = some ((cL 1 cS) (y1.1.getD (0:Int).toNat [])))),(0,((((v9 == (0:Int)) == true) && true)=true→True)),(0,((((v9 == (0:Int)) == true) && true)=true→True∧AV.d (.v (.int .i64 (((y1.1.getD (0:Int).toNat []).map cS).length:Int)))=.d (.v (.int .i64 ((y1.1.getD (0:Int).toNat []).length:Int))))),(0,((((v9 == (0:Int)) == true) && true)=true→True)),(0,(True)∧AV.d (.v (.bool (bif (v9 == (0:Int)) then ((z1.length:Int) != ((y1.1.getD (0:Int).toNat []).length:Int)) else false)))=.d (.v (.bool z3)))] 0 (by kernel_rfl) (⟨(fun hg=>trivial),(fun hg=>len_ok cS),(fun hg=>trivial),(fun hg=>idx_ok (d:=[]) (cL 1 cS) (hp11 hg)),(fun hg=>trivial),(fun hg=>len_ok cS),(fun hg=>trivial),⟨trivial,(by subst hz4; rfl)⟩⟩) ?_
                      refine T_cond z3 (by kernel_rfl) (fun hc=>?_) (fun hc=>?_)
                      · have h:=cond_tt hc h
                        obtain hs:=Option.some.inj h; subst hs
                        refine T_reg_end [] [3,4,5,7,10,14,97,98,99,1000000] [(7,.d (.v (.int .i64 (4:Int))))] [] 1 (by kernel_rfl) (trivial) fun a w hm=>then_norm (hm.co (cs:=[.keep [3,4,5,7,10,14,97,98,99,1000000]]) (by show _=_; kernel_rfl))
                      · have h:=cond_ff hc h
                        obtain hs:=Option.some.inj h; subst hs
                        refine T_skip fun a w hm=>then_norm (hm.co (cs:=[.keep [3,4,5,7,10,14,97,98,99,1000000]]) (by show _=_; kernel_rfl))
                    · skip
                      refine T_seqk ?_
                      refine T_reg [(1,{ rw:=some (.d (.v (.int .i64 (z1.length:Int)))) })] [3,4,5,7,10,97,98,99,114,115,116,1000000] [(114,.d (.sl 1 (z1.map cS))),(115,.d (.v (.int .i64 (z1.length:Int)))),(116,.d (.v (.int .i64 (0:Int))))] [(1,True∧AV.d (.v (.int .i64 ((z1.map cS).length:Int)))=.d (.v (.int .i64 (z1.length:Int))))] 1 (by kernel_rfl) (len_ok cS) ?_
                      refine T_joinct h (fun (p:Int)=>[(3,.box [.d (.sl 1 (y6.1.f0.map cS)),.d (.sl 1 (y6.1.f1.map (cL 1 cS)))]),(4,.d (.v (.int .i64 y6.2))),(5,.fz 1 (y1.1.map (cL 1 cS))),(7,.d (.v (.int .i64 v12))),(10,.d (.v (.int .i64 p))),(97,.d (.sl 1 (((y1.1.drop (1:Int).toNat).take ((y1.1.length:Int).toNat - (1:Int).toNat)).map (cL 1 cS)))),(98,.d (.v (.int .i64 (((y1.1.drop (1:Int).toNat).take ((y1.1.length:Int).toNat - (1:Int).toNat)).length:Int)))),(99,.d (.v (.int .i64 v11))),(1000000,.glo 0 ([gm0].flatMap (cI .i64)))]) (fun s h=>?_) (fun v13 h=>?_)
                      · refine T_co [.keep [3,4,5,7,10,97,98,99,114,115,116,1000000]] ((fun (p:Int×Int)=>[(3,.box [.d (.sl 1 (y6.1.f0.map cS)),.d (.sl 1 (y6.1.f1.map (cL 1 cS)))]),(4,.d (.v (.int .i64 y6.2))),(5,.fz 1 (y1.1.map (cL 1 cS))),(7,.d (.v (.int .i64 v12))),(10,.d (.v (.int .i64 p.1))),(97,.d (.sl 1 (((y1.1.drop (1:Int).toNat).take ((y1.1.length:Int).toNat - (1:Int).toNat)).map (cL 1 cS)))),(98,.d (.v (.int .i64 (((y1.1.drop (1:Int).toNat).take ((y1.1.length:Int).toNat - (1:Int).toNat)).length:Int)))),(99,.d (.v (.int .i64 v11))),(114,.d (.sl 1 (z1.map cS))),(115,.d (.v (.int .i64 (z1.length:Int)))),(116,.d (.v (.int .i64 p.2))),(1000000,.glo 0 ([gm0].flatMap (cI .i64)))]) (v10,(0:Int))) (by show _=_; kernel_rfl) ?_
                        refine T_block ?_
                        refine T_loopF (ι:=Int×Int) (fun (p:Int×Int)=>[(3,.box [.d (.sl 1 (y6.1.f0.map cS)),.d (.sl 1 (y6.1.f1.map (cL 1 cS)))]),(4,.d (.v (.int .i64 y6.2))),(5,.fz 1 (y1.1.map (cL 1 cS))),(7,.d (.v (.int .i64 v12))),(10,.d (.v (.int .i64 p.1))),(97,.d (.sl 1 (((y1.1.drop (1:Int).toNat).take ((y1.1.length:Int).toNat - (1:Int).toNat)).map (cL 1 cS)))),(98,.d (.v (.int .i64 (((y1.1.drop (1:Int).toNat).take ((y1.1.length:Int).toNat - (1:Int).toNat)).length:Int)))),(99,.d (.v (.int .i64 v11))),(114,.d (.sl 1 (z1.map cS))),(115,.d (.v (.int .i64 (z1.length:Int)))),(116,.d (.v (.int .i64 p.2))),(1000000,.glo 0 ([gm0].flatMap (cI .i64)))]) (fun n p=>law3_VaryParseMatchesReference_L7 F z1 n p.1 p.2=some s) (fun i hh=>by simp [law3_VaryParseMatchesReference_L7] at hh) (fun n p h=>?_) F (v10,(0:Int)) h
                        obtain ⟨v7,v8⟩:=p
                        have h:law3_VaryParseMatchesReference_L7 F z1 (n+1) v7 v8=some s:=h
                        rw [law3_VaryParseMatchesReference_L7] at h
                        refine T_reg [] [3,4,5,7,10,97,98,99,114,115,116,117,1000000] [(117,.d (.v (.bool (decide (v8 < (z1.length:Int))))))] [] 1 (by kernel_rfl) (trivial) ?_
                        refine T_seqk ?_
                        refine T_cond (decide (v8 < (z1.length:Int))) (by kernel_rfl) (fun hc=>?_) (fun hc=>?_)
                        · have h:=cond_tt hc h
                          refine T_skip fun a w hm=>then_norm (((?_:T Tryd.prog e 167 _ _ _) a w hm))
                          refine T_seqk ?_
                          refine T_block ?_
                          obtain ⟨hp12,h⟩:=chk_ok h
                          refine T_reg [(0,{ cs:=cS (z1.getD v8.toNat []) })] [3,4,5,7,10,16,97,98,99,114,115,116,1000000] [(16,.d (.str (z1.getD v8.toNat [])))] [(0,0≤v8∧(z1.map cS)[v8.toNat]? = some (cS (z1.getD v8.toNat [])))] 2 (by kernel_rfl) (idx_ok (d:=[]) cS hp12) ?_
                          obtain ⟨y4,hy6,h⟩:=call_ok h
                          refine T_reg_end [(2,{ res:=.d (.v (.int .i64 y4)) })] [3,4,5,7,10,97,98,99,114,115,116,1000000] [(10,.d (.v (.int .i64 (IntKind.i64.wrap (v7+(IntKind.i64.wrap ((1:Int)+y4)))))))] [(2,ACall Tryd.prog 10 [.d (.str (z1.getD v8.toNat []))] [] (.d (.v (.int .i64 y4))) [])] 3 (by kernel_rfl) (ref3_Quoted_ok hy6) fun a w hm=>inBlock_norm (then_norm (((?_:T Tryd.prog e 167 _ _ _) a w hm)))
                          refine T_reg_end [] [3,4,5,7,10,97,98,99,114,115,116,1000000] [(116,.d (.v (.int .i64 (IntKind.i64.wrap (v8+(1:Int))))))] [] 2 (by kernel_rfl) (trivial) fun a w hm=>then_norm (⟨(IntKind.i64.wrap (v7+(IntKind.i64.wrap ((1:Int)+y4))),IntKind.i64.wrap (v8+(1:Int))),h,hm.co (cs:=[.keep [3,4,5,7,10,97,98,99,114,115,116,1000000]]) (by show _=_; kernel_rfl)⟩)
                        · have h:=cond_ff hc h
                          obtain hs:=Option.some.inj h; subst hs
                          refine T_exit fun a w hm=>then_exit (then_exit (inBlock_exit (then_norm (hm.co (cs:=[.keep [3,4,5,7,10,97,98,99,1000000]]) (by show _=_; kernel_rfl)))))
                      · skip
                        refine fun a w hm=>then_norm (((?_:T Tryd.prog e 167 _ _ _) a w hm))
                        refine T_reg [] [3,4,5,7,10,97,98,99,131,1000000] [(131,.d (.v (.bool (bif (v12 == (0:Int)) then (decide (v13 > (8192:Int))) else false))))] [(3,((((v12 == (0:Int)) == true) && true)=true→True)),(0,((((v12 == (0:Int)) == true) && true)=true→True))] 1 (by kernel_rfl) (⟨(fun hg=>trivial),(fun hg=>trivial)⟩) ?_
                        refine T_cond (bif (v12 == (0:Int)) then (decide (v13 > (8192:Int))) else false) (by kernel_rfl) (fun hc=>?_) (fun hc=>?_)
                        · have h:=cond_tt hc h
                          obtain hs:=Option.some.inj h; subst hs
                          refine T_reg_end [] [3,4,5,7,10,97,98,99,1000000] [(7,.d (.v (.int .i64 (2:Int))))] [] 1 (by kernel_rfl) (trivial) fun a w hm=>inBlock_norm (then_norm (hm.co (cs:=[.keep [3,4,5,7,10,97,98,99,1000000]]) (by show _=_; kernel_rfl)))
                        · have h:=cond_ff hc h
                          obtain hs:=Option.some.inj h; subst hs
                          refine T_skip fun a w hm=>inBlock_norm (then_norm (hm.co (cs:=[.keep [3,4,5,7,10,97,98,99,1000000]]) (by show _=_; kernel_rfl)))
                  · obtain ⟨v14,v15⟩:=s
                    try dsimp only at h
                    refine T_reg_end [] [3,4,5,7,10,97,98,99,1000000] [(99,.d (.v (.int .i64 (IntKind.i64.wrap (v11+(1:Int))))))] [] 2 (by kernel_rfl) (trivial) fun a w hm=>then_norm (⟨(v14,v15,IntKind.i64.wrap (v11+(1:Int))),h,hm.co (cs:=[.keep [3,4,5,7,10,97,98,99,1000000]]) (by show _=_; kernel_rfl)⟩)
                · have h:=cond_ff hc h
                  obtain hs:=Option.some.inj h; subst hs
                  refine T_exit fun a w hm=>then_exit (then_exit (inBlock_exit (then_norm (hm.co (cs:=[.keep [3,4,5,7,1000000]]) (by show _=_; kernel_rfl)))))
              · skip
                obtain hs:=Option.some.inj h; subst hs
                refine fun a w hm=>then_norm (hm.co (cs:=[.thaw 5,.keep [3,4,5,7,1000000]]) (by show _=_; kernel_rfl))
          · have h:=cond_ff hc h
            obtain hs:=Option.some.inj h; subst hs
            refine T_skip fun a w hm=>then_norm (hm.co (cs:=[.thaw 5,.keep [3,4,5,7,1000000]]) (by show _=_; kernel_rfl))
        · skip
          refine T_seqk ?_
          refine T_reg [] [3,4,5,7,134,1000000] [(134,.d (.v (.bool (v21 != (0:Int)))))] [] 2 (by kernel_rfl) (trivial) ?_
          refine T_cond (v21 != (0:Int)) (by kernel_rfl) (fun hc=>?_) (fun hc=>?_)
          · have h:=cond_tt hc h
            obtain ⟨z5,hz5,h⟩:=lett_ok h
            refine T_reg [(6,{ rw:=some (.d (.v (.int .i64 (y6.1.f0.length:Int)))) }),(12,{ rw:=some (.d (.v (.int .i64 (y6.1.f1.length:Int)))) }),(14,{ rw:=some (.d (.v (.bool z5))) })] [2,1000000] [(2,.d (.v (.bool z5)))] [(4,((((y6.2 == v21) == true) && true)=true→True)),(0,((((y6.2 == v21) == true) && true)=true→True)),(0,((((y6.2 == v21) == true) && true)=true→True∧AV.d (.v (.int .i64 ((y6.1.f0.map cS).length:Int)))=.d (.v (.int .i64 (y6.1.f0.length:Int))))),(0,((((y6.2 == v21) == true) && true)=true→True)),(2,((((bif (y6.2 == v21) then ((y6.1.f0.length:Int) == (0:Int)) else false) == true) && true)=true→True)),(0,((((bif (y6.2 == v21) then ((y6.1.f0.length:Int) == (0:Int)) else false) == true) && true)=true→True)),(0,((((bif (y6.2 == v21) then ((y6.1.f0.length:Int) == (0:Int)) else false) == true) && true)=true→True∧AV.d (.v (.int .i64 ((y6.1.f1.map (cL 1 cS)).length:Int)))=.d (.v (.int .i64 (y6.1.f1.length:Int))))),(0,((((bif (y6.2 == v21) then ((y6.1.f0.length:Int) == (0:Int)) else false) == true) && true)=true→True)),(0,(True)∧AV.d (.v (.bool (bif (bif (y6.2 == v21) then ((y6.1.f0.length:Int) == (0:Int)) else false) then ((y6.1.f1.length:Int) == (0:Int)) else false)))=.d (.v (.bool z5)))] 1 (by kernel_rfl) (⟨(fun hg=>trivial),(fun hg=>trivial),(fun hg=>len_ok cS),(fun hg=>trivial),(fun hg=>trivial),(fun hg=>trivial),(fun hg=>len_ok (cL 1 cS)),(fun hg=>trivial),⟨trivial,(by subst hz5; rfl)⟩⟩) ?_
            obtain hs:=Option.some.inj h; subst hs
            refine T_ret fun a w hm=>then_ret (T_return (fr':=[(2,.d (.v (.bool z5))),(1000000,.glo 0 ([gm0].flatMap (cI .i64)))]) [2] (by kernel_rfl) [.keep [2,1000000]] (by kernel_rfl) (by kernel_rfl) (by kernel_rfl) (by show _=_; kernel_rfl) (by exact ⟨⟨by kernel_rfl,by kernel_rfl⟩,trivial⟩) a w hm)
          · have h:=cond_ff hc h
            refine T_skip fun a w hm=>then_norm (((?_:T Tryd.prog e 167 _ _ _) a w hm))
            obtain ⟨hp13,h⟩:=chk_ok h
            obtain ⟨y7,hy7,h⟩:=call_ok h
            obtain ⟨hp14,h⟩:=chk_ok h
            obtain ⟨y8,hy8,h⟩:=call_ok h
            refine T_drawX mixed 1 (.take 0 (.take 1 (.take 2 (.take 3 (.take 4 (.take 5 (.take 6 (.take 7 (.all (.alt 8 (.take 9 (.take 10 (.take 11 (.take 12 (.take 13 (.take 14 (.all (.alt 15 (.take 16 (.take 17 .done)) .stop)))))))) .stop)))))))))) ([0,1,2,4,12,4,36,68,148,260,768,1024,3072,1024,9216,21504,33792,131071],[0,1,2,4,12,4,36,68,148,260,512,1024,3072,1024,9216,21504,33792,65536]) 229119 [(6,{ cs:=(cL 1 cS) (y1.1.getD (0:Int).toNat []) }),(8,{ res:=.d (.v (.bool y7)) }),(14,{ rw:=some (.d (.sl 1 (((y1.1.drop (1:Int).toNat).take ((y1.1.length:Int).toNat - (1:Int).toNat)).map (cL 1 cS)))) }),(15,{ res:=.d (.v (.bool y8)) })] [2,1000000] [] [(2,.d (.v (.bool (bif (bif (y6.2 == (0:Int)) then y7 else false) then y8 else false)))),(1000000,.glo 0 ([gm0].flatMap (cI .i64)))] ((fun (o3:Prop)=>fun (o4:Prop)=>fun (o5:Prop)=>fun (o6:Prop)=>fun (o7:Prop)=>fun (o8:Prop)=>fun (o11:Prop)=>fun (o12:Prop)=>fun (o13:Prop)=>fun (o14:Prop)=>fun (o15:Prop)=>[(3,o3),(0,o4),(0,o5),(0,o6),(0,o7),(0,o8),(2,o11),(0,o12),(0,o13),(0,o14),(0,o15)]) (((((y6.2 == (0:Int)) == true) && true)=true→True)) (((((y6.2 == (0:Int)) == true) && true)=true→True)) (((((y6.2 == (0:Int)) == true) && true)=true→True)) (((((y6.2 == (0:Int)) == true) && true)=true→0≤(0:Int)∧(y1.1.map (cL 1 cS))[(0:Int).toNat]? = some ((cL 1 cS) (y1.1.getD (0:Int).toNat [])))) (((((y6.2 == (0:Int)) == true) && true)=true→True)) (((((y6.2 == (0:Int)) == true) && true)=true→ACall Tryd.prog 11 [.d (.sl 1 (y6.1.f0.map cS)),.d (.sl 1 ((y1.1.getD (0:Int).toNat []).map cS))] [] (.d (.v (.bool y7))) [])) (((((bif (y6.2 == (0:Int)) then y7 else false) == true) && true)=true→True)) (((((bif (y6.2 == (0:Int)) then y7 else false) == true) && true)=true→True)) (((((bif (y6.2 == (0:Int)) then y7 else false) == true) && true)=true→True)) (((((bif (y6.2 == (0:Int)) then y7 else false) == true) && true)=true→(0≤(1:Int)∧(1:Int)≤((y1.1.map (cL 1 cS)).length:Int)∧((y1.1.map (cL 1 cS)).length:Int)≤((y1.1.map (cL 1 cS)).length:Int))∧AV.d (.sl 1 (((y1.1.map (cL 1 cS)).drop (1:Int).toNat).take (((y1.1.map (cL 1 cS)).length:Int).toNat - (1:Int).toNat)))=.d (.sl 1 (((y1.1.drop (1:Int).toNat).take ((y1.1.length:Int).toNat - (1:Int).toNat)).map (cL 1 cS))))) (((((bif (y6.2 == (0:Int)) then y7 else false) == true) && true)=true→ACall Tryd.prog 12 [.d (.sl 1 (y6.1.f1.map (cL 1 cS))),.d (.sl 1 (((y1.1.drop (1:Int).toNat).take ((y1.1.length:Int).toNat - (1:Int).toNat)).map (cL 1 cS))),.clo 11 []] [] (.d (.v (.bool y8))) []))) 2 (by kernel_rfl) (by kernel_rfl) (by kernel_rfl) (have p3:=(fun hg=>trivial); have p4:=(fun hg=>trivial); have p5:=(fun hg=>trivial); have p6:=(fun hg=>idx_ok (d:=[]) (cL 1 cS) (hp13 hg)); have p7:=(fun hg=>trivial); have p8:=(fun hg=>ref3_SameTexts_ok (gcall_ok hg hy7)); have p11:=(fun hg=>trivial); have p12:=(fun hg=>trivial); have p13:=(fun hg=>trivial); have p14:=(fun hg=>cutL (cL 1 cS) (hp14 hg)); have p15:=(fun hg=>slices_EqualFunc_string_ok (gcall_ok hg hy8)); ⟨p3,p4,p5,p6,p7,p8,p11,p12,p13,p14,p15⟩) ?_
            obtain hs:=Option.some.inj h; subst hs
            refine T_ret fun a w hm=>T_return (fr':=[(2,.d (.v (.bool (bif (bif (y6.2 == (0:Int)) then y7 else false) then y8 else false)))),(1000000,.glo 0 ([gm0].flatMap (cI .i64)))]) [2] (by kernel_rfl) [.keep [2,1000000]] (by kernel_rfl) (by kernel_rfl) (by kernel_rfl) (by show _=_; kernel_rfl) (by exact ⟨⟨by kernel_rfl,by kernel_rfl⟩,trivial⟩) a w hm
end Go.Vm.MrgG
