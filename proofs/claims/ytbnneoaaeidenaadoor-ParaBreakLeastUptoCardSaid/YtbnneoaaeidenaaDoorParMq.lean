import Derived.Test.YtbnneoaaeidenaaDoorParMp
namespace Go.Vm.ParM
open Go.Proofs
set_option maxRecDepth 20000
theorem law3_ParaBreakLeast_ok {F:Nat} {a0:List S_ParaWord} {a1:S_ParaShape} {r:Bool} (h:law3_ParaBreakLeast F a0 a1=some r):ACall Tryd.prog 5 [.d (.sl 2 (a0.map cS_ParaWord)),.agg (cS_ParaShape a1)] [] (.d (.v (.bool r))) []:=by
  rw [law3_ParaBreakLeast] at h
  refine ACall.intro (N:=109) Tryd.func5 rfl rfl rfl rfl rfl fun e=>?_
  refine T_reg [] [0,3] [(3,.box [.d (.v (.int .i64 a1.f0)),.d (.v (.int .i64 a1.f1)),.d (.v (.int .i64 a1.f2)),.d (.v (.int .i64 a1.f3)),.d (.v (.int .i64 a1.f4)),.d (.v (.int .i64 a1.f5))])] [] 2 (by kernel_rfl) (trivial) ?_
  refine T_seqk ?_
  obtain ⟨y3,hy1,h⟩:=call_ok h
  refine T_reg [(0,{ res:=.d (.v (.bool y3)) })] [0,3,15] [(15,.d (.v (.bool (!y3))))] [(0,ACall Tryd.prog 6 [] [] (.d (.v (.bool y3))) [])] 1 (by kernel_rfl) (law3_paraFact_ok hy1) ?_
  refine T_cond (!y3) (by kernel_rfl) (fun hc=>?_) (fun hc=>?_)
  · have h:=cond_tt hc h
    refine T_reg [] [4] [(4,.d (.v (.bool false)))] [] 1 (by kernel_rfl) (trivial) ?_
    obtain hs:=Option.some.inj h; subst hs
    refine T_ret fun a w hm=>then_ret (T_return (fr':=[(4,.d (.v (.bool false)))]) [4] (by kernel_rfl) [.keep [4]] (by kernel_rfl) (by kernel_rfl) (by kernel_rfl) (by show _=_; kernel_rfl) (by exact trivial) a w hm)
  · have h:=cond_ff hc h
    refine T_skip fun a w hm=>then_norm (((?_:T Tryd.prog e 109 _ _ _) a w hm))
    refine T_joinc h (fun (p:(List S_ParaWord))=>[(0,.d (.sl 2 (p.map cS_ParaWord))),(3,.box [.d (.v (.int .i64 a1.f0)),.d (.v (.int .i64 a1.f1)),.d (.v (.int .i64 a1.f2)),.d (.v (.int .i64 a1.f3)),.d (.v (.int .i64 a1.f4)),.d (.v (.int .i64 a1.f5))])]) (fun s h=>?_) (fun v2 h=>?_)
    · refine T_reg [(1,{ rw:=some (.d (.v (.int .i64 (a0.length:Int)))) })] [0,3,18] [(18,.d (.v (.bool (decide ((a0.length:Int) > (8:Int))))))] [(1,True∧AV.d (.v (.int .i64 ((a0.map cS_ParaWord).length:Int)))=.d (.v (.int .i64 (a0.length:Int))))] 1 (by kernel_rfl) (len_ok cS_ParaWord) ?_
      refine T_cond (decide ((a0.length:Int) > (8:Int))) (by kernel_rfl) (fun hc=>?_) (fun hc=>?_)
      · have h:=cond_tt hc h
        obtain ⟨hp1,h⟩:=chk_ok h
        obtain hs:=Option.some.inj h; subst hs
        refine T_reg_end [(1,{ rw:=some (.d (.sl 2 (((a0.drop (0:Int).toNat).take ((8:Int).toNat - (0:Int).toNat)).map cS_ParaWord))) })] [0,3] [(0,.d (.sl 2 (((a0.drop (0:Int).toNat).take ((8:Int).toNat - (0:Int).toNat)).map cS_ParaWord)))] [(1,(0≤(0:Int)∧(0:Int)≤(8:Int)∧(8:Int)≤((a0.map cS_ParaWord).length:Int))∧AV.d (.sl 2 (((a0.map cS_ParaWord).drop (0:Int).toNat).take ((8:Int).toNat - (0:Int).toNat)))=.d (.sl 2 (((a0.drop (0:Int).toNat).take ((8:Int).toNat - (0:Int).toNat)).map cS_ParaWord)))] 1 (by kernel_rfl) (cutH cS_ParaWord hp1) fun a w hm=>then_norm (hm.co (cs:=[.keep [0,3]]) (by show _=_; kernel_rfl))
      · have h:=cond_ff hc h
        obtain hs:=Option.some.inj h; subst hs
        refine T_skip fun a w hm=>then_norm (hm.co (cs:=[.keep [0,3]]) (by show _=_; kernel_rfl))
    · skip
      refine T_seqk ?_
      obtain ⟨y4,hy2,h⟩:=call_ok h
      refine T_reg [(2,{ res:=.d (.v (.int .i64 y4)) })] [0,3,24] [(24,.d (.v (.bool (y4 != (0:Int)))))] [(2,ACall Tryd.prog 11 [.d (.sl 2 (v2.map cS_ParaWord)),.agg (cS_ParaShape a1)] [] (.d (.v (.int .i64 y4))) [])] 1 (by kernel_rfl) (ref3_ParaError_ok hy2) ?_
      refine T_cond (y4 != (0:Int)) (by kernel_rfl) (fun hc=>?_) (fun hc=>?_)
      · have h:=cond_tt hc h
        refine T_reg [] [4] [(4,.d (.v (.bool true)))] [] 1 (by kernel_rfl) (trivial) ?_
        obtain hs:=Option.some.inj h; subst hs
        refine T_ret fun a w hm=>then_ret (T_return (fr':=[(4,.d (.v (.bool true)))]) [4] (by kernel_rfl) [.keep [4]] (by kernel_rfl) (by kernel_rfl) (by kernel_rfl) (by show _=_; kernel_rfl) (by exact trivial) a w hm)
      · have h:=cond_ff hc h
        refine T_skip fun a w hm=>then_norm (((?_:T Tryd.prog e 109 _ _ _) a w hm))
        obtain ⟨y5,hy3,h⟩:=call_ok h
        refine T_reg [(1,{ res:=.own 56 4 (y5.map cS_ref3_Piece) })] [0,3,5] [(5,.own 56 4 (y5.map cS_ref3_Piece))] [(1,ACall Tryd.prog 12 [.d (.sl 2 (v2.map cS_ParaWord))] [] (.own 56 4 (y5.map cS_ref3_Piece)) [])] 1 (by kernel_rfl) (ref3_Pieces_ok hy3) ?_
        refine T_seqk ?_
        refine T_reg [(1,{ rw:=some (.d (.v (.int .i64 (y5.length:Int)))) })] [0,3,5,29] [(29,.d (.v (.bool (decide ((y5.length:Int) > (12:Int))))))] [(1,True∧AV.d (.v (.int .i64 ((y5.map cS_ref3_Piece).length:Int)))=.d (.v (.int .i64 (y5.length:Int))))] 1 (by kernel_rfl) (len_ok cS_ref3_Piece) ?_
        refine T_cond (decide ((y5.length:Int) > (12:Int))) (by kernel_rfl) (fun hc=>?_) (fun hc=>?_)
        · have h:=cond_tt hc h
          refine T_reg [] [4] [(4,.d (.v (.bool true)))] [] 1 (by kernel_rfl) (trivial) ?_
          obtain hs:=Option.some.inj h; subst hs
          refine T_ret fun a w hm=>then_ret (T_return (fr':=[(4,.d (.v (.bool true)))]) [4] (by kernel_rfl) [.keep [4]] (by kernel_rfl) (by kernel_rfl) (by kernel_rfl) (by show _=_; kernel_rfl) (by exact trivial) a w hm)
        · have h:=cond_ff hc h
          refine T_skip fun a w hm=>then_norm (((?_:T Tryd.prog e 109 _ _ _) a w hm))
          obtain ⟨y1,hy4,h⟩:=call_ok h
          refine T_reg [(2,{ res:=.tup [.own 43 4 (y1.1.map cS_ParaLine),.d (.v (.int .i64 y1.2.1)),.d (.v (.int .i64 y1.2.2))] })] [3,5,6,7,8] [(6,.own 43 4 (y1.1.map cS_ParaLine)),(7,.d (.v (.int .i64 y1.2.1))),(8,.d (.v (.int .i64 y1.2.2)))] [(2,ACall Tryd.prog 13 [.d (.sl 2 (v2.map cS_ParaWord)),.agg (cS_ParaShape a1)] [] (.tup [.own 43 4 (y1.1.map cS_ParaLine),.d (.v (.int .i64 y1.2.1)),.d (.v (.int .i64 y1.2.2))]) [])] 7 (by kernel_rfl) (para_Break_ok hy4) ?_
          obtain ⟨y2,hy5,h⟩:=call_ok h
          refine T_reg [(2,{ frz:=[(5,0)],res:=.tup [.d (.v (.int .i64 y2.1)),.own 3 1 (y2.2.1.map (cI .i64)),.d (.v (.bool y2.2.2))] })] [6,7,8,9,10,11] [(9,.d (.v (.int .i64 y2.1))),(10,.own 3 1 (y2.2.1.map (cI .i64))),(11,.d (.v (.bool y2.2.2)))] [(2,ACall Tryd.prog 14 [.d (.sl 4 (y5.map cS_ref3_Piece)),.d (.v (.int .i64 (0:Int))),.agg (cS_ParaShape a1)] [] (.tup [.d (.v (.int .i64 y2.1)),.own 3 1 (y2.2.1.map (cI .i64)),.d (.v (.bool y2.2.2))]) [])] 7 (by kernel_rfl) (ref3_Cheapest_ok hy5) ?_
          refine T_seqk ?_
          refine T_reg [] [6,7,8,9,10,45] [(45,.d (.v (.bool (!y2.2.2))))] [] 2 (by kernel_rfl) (trivial) ?_
          refine T_cond (!y2.2.2) (by kernel_rfl) (fun hc=>?_) (fun hc=>?_)
          · have h:=cond_tt hc h
            obtain ⟨z4,hz1,h⟩:=lett_ok h
            refine T_reg [(4,{ rw:=some (.d (.v (.int .i64 (y1.1.length:Int)))) }),(10,{ rw:=some (.d (.v (.bool z4))) })] [4] [(4,.d (.v (.bool z4)))] [(3,((((y1.2.2 == (8:Int)) == true) && true)=true→True)),(0,((((y1.2.2 == (8:Int)) == true) && true)=true→True∧AV.d (.v (.int .i64 ((y1.1.map cS_ParaLine).length:Int)))=.d (.v (.int .i64 (y1.1.length:Int))))),(0,((((y1.2.2 == (8:Int)) == true) && true)=true→True)),(2,((((bif (y1.2.2 == (8:Int)) then ((y1.1.length:Int) == (0:Int)) else false) == true) && true)=true→True)),(0,((((bif (y1.2.2 == (8:Int)) then ((y1.1.length:Int) == (0:Int)) else false) == true) && true)=true→True)),(0,(True)∧AV.d (.v (.bool (bif (bif (y1.2.2 == (8:Int)) then ((y1.1.length:Int) == (0:Int)) else false) then (y1.2.1 == (0:Int)) else false)))=.d (.v (.bool z4)))] 1 (by kernel_rfl) (⟨(fun hg=>trivial),(fun hg=>len_ok cS_ParaLine),(fun hg=>trivial),(fun hg=>trivial),(fun hg=>trivial),⟨trivial,(by subst hz1; rfl)⟩⟩) ?_
            obtain hs:=Option.some.inj h; subst hs
            refine T_ret fun a w hm=>then_ret (T_return (fr':=[(4,.d (.v (.bool z4)))]) [4] (by kernel_rfl) [.keep [4]] (by kernel_rfl) (by kernel_rfl) (by kernel_rfl) (by show _=_; kernel_rfl) (by exact trivial) a w hm)
          · have h:=cond_ff hc h
            refine T_skip fun a w hm=>then_norm (((?_:T Tryd.prog e 109 _ _ _) a w hm))
            refine T_seqk ?_
            obtain ⟨z5,hz2,h⟩:=lett_ok h
            refine T_reg [(9,{ rw:=some (.d (.v (.int .i64 (y1.1.length:Int)))) }),(11,{ rw:=some (.d (.v (.int .i64 (y2.2.1.length:Int)))) }),(13,{ rw:=some (.d (.v (.bool z5))) })] [6,10,70] [(70,.d (.v (.bool z5)))] [(3,((((y1.2.2 != (0:Int)) == false) && true)=true→True)),(0,((((y1.2.2 != (0:Int)) == false) && true)=true→True)),(0,((((y1.2.2 != (0:Int)) == false) && true)=true→True)),(2,((((bif (y1.2.2 != (0:Int)) then true else (y1.2.1 != y2.1)) == false) && true)=true→True)),(0,((((bif (y1.2.2 != (0:Int)) then true else (y1.2.1 != y2.1)) == false) && true)=true→True∧AV.d (.v (.int .i64 ((y1.1.map cS_ParaLine).length:Int)))=.d (.v (.int .i64 (y1.1.length:Int))))),(0,((((bif (y1.2.2 != (0:Int)) then true else (y1.2.1 != y2.1)) == false) && true)=true→True)),(0,((((bif (y1.2.2 != (0:Int)) then true else (y1.2.1 != y2.1)) == false) && true)=true→True∧AV.d (.v (.int .i64 ((y2.2.1.map (cI .i64)).length:Int)))=.d (.v (.int .i64 (y2.2.1.length:Int))))),(0,((((bif (y1.2.2 != (0:Int)) then true else (y1.2.1 != y2.1)) == false) && true)=true→True)),(0,(True)∧AV.d (.v (.bool (bif (bif (y1.2.2 != (0:Int)) then true else (y1.2.1 != y2.1)) then true else ((y1.1.length:Int) != (y2.2.1.length:Int)))))=.d (.v (.bool z5)))] 0 (by kernel_rfl) (⟨(fun hg=>trivial),(fun hg=>trivial),(fun hg=>trivial),(fun hg=>trivial),(fun hg=>len_ok cS_ParaLine),(fun hg=>trivial),(fun hg=>len_ok (cI .i64)),(fun hg=>trivial),⟨trivial,(by subst hz2; rfl)⟩⟩) ?_
            refine T_cond z5 (by kernel_rfl) (fun hc=>?_) (fun hc=>?_)
            · have h:=cond_tt hc h
              refine T_reg [] [4] [(4,.d (.v (.bool false)))] [] 1 (by kernel_rfl) (trivial) ?_
              obtain hs:=Option.some.inj h; subst hs
              refine T_ret fun a w hm=>then_ret (T_return (fr':=[(4,.d (.v (.bool false)))]) [4] (by kernel_rfl) [.keep [4]] (by kernel_rfl) (by kernel_rfl) (by kernel_rfl) (by show _=_; kernel_rfl) (by exact trivial) a w hm)
            · have h:=cond_ff hc h
              refine T_skip fun a w hm=>then_norm (((?_:T Tryd.prog e 109 _ _ _) a w hm))
              refine T_seqk ?_
              refine T_reg [(1,{ rw:=some (.d (.v (.int .i64 (y1.1.length:Int)))) })] [6,10,71,72,73] [(71,.vw (6,0)),(72,.d (.v (.int .i64 (y1.1.length:Int)))),(73,.d (.v (.int .i64 (0:Int))))] [(1,True∧AV.d (.v (.int .i64 ((y1.1.map cS_ParaLine).length:Int)))=.d (.v (.int .i64 (y1.1.length:Int))))] 1 (by kernel_rfl) (len_ok cS_ParaLine) ?_
              refine T_joinEt h (fun (p:Unit)=>[]) (fun s h hk1=>?_) (fun s h=>?_)
              · refine T_co [.keep [6,10,71,72,73]] ((fun (p:Int)=>[(6,.own 43 4 (y1.1.map cS_ParaLine)),(10,.own 3 1 (y2.2.1.map (cI .i64))),(71,.vw (6,0)),(72,.d (.v (.int .i64 (y1.1.length:Int)))),(73,.d (.v (.int .i64 p)))]) (0:Int)) (by show _=_; kernel_rfl) ?_
                refine T_block ?_
                refine T_loopF (ι:=Int) (fun (p:Int)=>[(6,.own 43 4 (y1.1.map cS_ParaLine)),(10,.own 3 1 (y2.2.1.map (cI .i64))),(71,.vw (6,0)),(72,.d (.v (.int .i64 (y1.1.length:Int)))),(73,.d (.v (.int .i64 p)))]) (fun n p=>law3_ParaBreakLeast_L0 F y1 y2 n p=some s) (fun i hh=>by simp [law3_ParaBreakLeast_L0] at hh) (fun n v1 h=>?_) F (0:Int) h
                have h:law3_ParaBreakLeast_L0 F y1 y2 (n+1) v1=some s:=h
                rw [law3_ParaBreakLeast_L0] at h
                refine T_reg [] [6,10,71,72,73,74] [(74,.d (.v (.bool (decide (v1 < (y1.1.length:Int))))))] [] 1 (by kernel_rfl) (trivial) ?_
                refine T_seqk ?_
                refine T_cond (decide (v1 < (y1.1.length:Int))) (by kernel_rfl) (fun hc=>?_) (fun hc=>?_)
                · have h:=cond_tt hc h
                  refine T_skip fun a w hm=>then_norm (((?_:T Tryd.prog e 109 _ _ _) a w hm))
                  refine T_seqk ?_
                  refine T_block ?_
                  obtain ⟨hp2,h⟩:=chk_ok h
                  refine T_reg [(2,{ cs:=cS_ParaLine (y1.1.getD v1.toNat (S_ParaLine.mk 0 0 false [])) })] [6,10,12,13,71,72,73] [(12,.d (.v (.int .i64 v1))),(13,.box [.d (.v (.int .i64 ((y1.1.getD v1.toNat (S_ParaLine.mk 0 0 false [])).f0))),.d (.v (.int .i64 ((y1.1.getD v1.toNat (S_ParaLine.mk 0 0 false [])).f1))),.d (.v (.bool ((y1.1.getD v1.toNat (S_ParaLine.mk 0 0 false [])).f2))),.d (.sl 1 (((y1.1.getD v1.toNat (S_ParaLine.mk 0 0 false [])).f3).map (cI .i64)))])] [(1,0≤v1∧v1 < (y1.1.map cS_ParaLine).length),(0,(y1.1.map cS_ParaLine)[v1.toNat]? = some (cS_ParaLine (y1.1.getD v1.toNat (S_ParaLine.mk 0 0 false []))))] 3 (by kernel_rfl) (⟨own_idx cS_ParaLine hp2,(idx_ok (d:=(S_ParaLine.mk 0 0 false [])) cS_ParaLine hp2).2⟩) ?_
                  obtain ⟨hp3,h⟩:=chk_ok h
                  obtain ⟨hp4,h⟩:=chk_ok h
                  obtain ⟨z1,hz3,h⟩:=lett_ok h
                  obtain ⟨z2,hz4,h⟩:=lett_ok h
                  obtain ⟨z3,hz5,h⟩:=lett_ok h
                  refine T_draw mixed [(5,{ cs:=(cI .i64) (y2.2.1.getD v1.toNat 0) }),(17,{ cs:=(cI .i64) (y2.2.1.getD (IntKind.i64.wrap (v1 - (1:Int))).toNat 0) }),(18,{ rw:=some (.d (.v (.bool z1))) }),(20,{ rw:=some (.d (.v (.bool z2))) }),(28,{ rw:=some (.d (.v (.bool z3))) })] [6,10,71,72,73,107] [] [(6,.own 43 4 (y1.1.map cS_ParaLine)),(10,.own 3 1 (y2.2.1.map (cI .i64))),(71,.vw (6,0)),(72,.d (.v (.int .i64 (y1.1.length:Int)))),(73,.d (.v (.int .i64 v1))),(107,.d (.v (.bool (bif z2 then true else z3))))] [(4,0≤v1∧v1 < (y2.2.1.map (cI .i64)).length),(0,(y2.2.1.map (cI .i64))[v1.toNat]? = some ((cI .i64) (y2.2.1.getD v1.toNat 0))),(2,((((((y1.1.getD v1.toNat (S_ParaLine.mk 0 0 false [])).f1) != (y2.2.1.getD v1.toNat 0)) == false) && true)=true→True)),(0,((((((y1.1.getD v1.toNat (S_ParaLine.mk 0 0 false [])).f1) != (y2.2.1.getD v1.toNat 0)) == false) && true)=true→True)),(0,((((((y1.1.getD v1.toNat (S_ParaLine.mk 0 0 false [])).f1) != (y2.2.1.getD v1.toNat 0)) == false) && true)=true→True)),(0,((((decide (v1 > (0:Int))) == true) && (((((y1.1.getD v1.toNat (S_ParaLine.mk 0 0 false [])).f1) != (y2.2.1.getD v1.toNat 0)) == false) && true))=true→True)),(0,((((decide (v1 > (0:Int))) == true) && (((((y1.1.getD v1.toNat (S_ParaLine.mk 0 0 false [])).f1) != (y2.2.1.getD v1.toNat 0)) == false) && true))=true→True)),(0,((((decide (v1 > (0:Int))) == true) && (((((y1.1.getD v1.toNat (S_ParaLine.mk 0 0 false [])).f1) != (y2.2.1.getD v1.toNat 0)) == false) && true))=true→True)),(0,((((decide (v1 > (0:Int))) == true) && (((((y1.1.getD v1.toNat (S_ParaLine.mk 0 0 false [])).f1) != (y2.2.1.getD v1.toNat 0)) == false) && true))=true→True)),(0,((((decide (v1 > (0:Int))) == true) && (((((y1.1.getD v1.toNat (S_ParaLine.mk 0 0 false [])).f1) != (y2.2.1.getD v1.toNat 0)) == false) && true))=true→True)),(0,((((decide (v1 > (0:Int))) == true) && (((((y1.1.getD v1.toNat (S_ParaLine.mk 0 0 false [])).f1) != (y2.2.1.getD v1.toNat 0)) == false) && true))=true→0≤(IntKind.i64.wrap (v1 - (1:Int)))∧(IntKind.i64.wrap (v1 - (1:Int))) < (y2.2.1.map (cI .i64)).length)),(0,((((decide (v1 > (0:Int))) == true) && (((((y1.1.getD v1.toNat (S_ParaLine.mk 0 0 false [])).f1) != (y2.2.1.getD v1.toNat 0)) == false) && true))=true→(y2.2.1.map (cI .i64))[(IntKind.i64.wrap (v1 - (1:Int))).toNat]? = some ((cI .i64) (y2.2.1.getD (IntKind.i64.wrap (v1 - (1:Int))).toNat 0)))),(0,((((decide (v1 > (0:Int))) == true) && (((((y1.1.getD v1.toNat (S_ParaLine.mk 0 0 false [])).f1) != (y2.2.1.getD v1.toNat 0)) == false) && true))=true→(True)∧AV.d (.v (.bool (((y1.1.getD v1.toNat (S_ParaLine.mk 0 0 false [])).f0) != (y2.2.1.getD (IntKind.i64.wrap (v1 - (1:Int))).toNat 0))))=.d (.v (.bool z1)))),(0,((((((y1.1.getD v1.toNat (S_ParaLine.mk 0 0 false [])).f1) != (y2.2.1.getD v1.toNat 0)) == false) && true)=true→True)),(0,(True)∧AV.d (.v (.bool (bif (((y1.1.getD v1.toNat (S_ParaLine.mk 0 0 false [])).f1) != (y2.2.1.getD v1.toNat 0)) then true else (bif (decide (v1 > (0:Int))) then z1 else false))))=.d (.v (.bool z2))),(1,(((z2 == false) && true)=true→True)),(0,(((z2 == false) && true)=true→True)),(0,(((z2 == false) && true)=true→True)),(0,((((v1 == (0:Int)) == true) && ((z2 == false) && true))=true→True)),(0,((((v1 == (0:Int)) == true) && ((z2 == false) && true))=true→True)),(0,((((v1 == (0:Int)) == true) && ((z2 == false) && true))=true→True)),(0,(((z2 == false) && true)=true→(True)∧AV.d (.v (.bool (bif (v1 == (0:Int)) then (((y1.1.getD v1.toNat (S_ParaLine.mk 0 0 false [])).f0) != (0:Int)) else false)))=.d (.v (.bool z3))))] 1 (by kernel_rfl) (⟨own_idx (cI .i64) hp3,(idx_ok (d:=0) (cI .i64) hp3).2,(fun hg=>trivial),(fun hg=>trivial),(fun hg=>trivial),(fun hg=>trivial),(fun hg=>trivial),(fun hg=>trivial),(fun hg=>trivial),(fun hg=>trivial),(fun hg=>own_idx (cI .i64) (hp4 hg)),(fun hg=>(idx_ok (d:=0) (cI .i64) (hp4 hg)).2),(fun hg=>⟨trivial,(by subst hz3; rfl)⟩),(fun hg=>trivial),⟨trivial,(by subst hz4; rfl)⟩,(fun hg=>trivial),(fun hg=>trivial),(fun hg=>trivial),(fun hg=>trivial),(fun hg=>trivial),(fun hg=>trivial),(fun hg=>⟨trivial,(by subst hz5; rfl)⟩)⟩) ?_
                  refine T_cond (bif z2 then true else z3) (by kernel_rfl) (fun hc=>?_) (fun hc=>?_)
                  · have h:=cond_tt hc h
                    refine T_reg [] [4] [(4,.d (.v (.bool false)))] [] 1 (by kernel_rfl) (trivial) ?_
                    obtain hs:=Option.some.inj h; subst hs
                    have h:=callE_esc hk1
                    obtain hs:=Option.some.inj h; subst hs
                    refine T_ret fun a w hm=>inBlock_ret (then_ret (then_ret (inBlock_ret (then_ret (then_ret (T_return (fr':=[(4,.d (.v (.bool false)))]) [4] (by kernel_rfl) [.keep [4]] (by kernel_rfl) (by kernel_rfl) (by kernel_rfl) (by show _=_; kernel_rfl) (by exact trivial) a w hm))))))
                  · have h:=cond_ff hc h
                    refine T_skip fun a w hm=>inBlock_norm (then_norm (((?_:T Tryd.prog e 109 _ _ _) a w hm)))
                    refine T_reg_end [] [6,10,71,72,73] [(73,.d (.v (.int .i64 (IntKind.i64.wrap (v1+(1:Int))))))] [] 2 (by kernel_rfl) (trivial) fun a w hm=>then_norm (⟨IntKind.i64.wrap (v1+(1:Int)),h,hm.co (cs:=[.keep [6,10,71,72,73]]) (by show _=_; kernel_rfl)⟩)
                · have h:=cond_ff hc h
                  obtain hs:=Option.some.inj h; subst hs
                  refine T_exit fun a w hm=>then_exit (then_exit (inBlock_exit (then_norm (⟨_,rfl,hm.co (cs:=[.keep []]) (by show _=_; kernel_rfl)⟩))))
              · skip
                refine fun a w hm=>then_norm (((?_:T Tryd.prog e 109 _ _ _) a w hm))
                refine T_reg [] [4] [(4,.d (.v (.bool true)))] [] 1 (by kernel_rfl) (trivial) ?_
                obtain hs:=Option.some.inj h; subst hs
                refine T_ret fun a w hm=>T_return (fr':=[(4,.d (.v (.bool true)))]) [4] (by kernel_rfl) [.keep [4]] (by kernel_rfl) (by kernel_rfl) (by kernel_rfl) (by show _=_; kernel_rfl) (by exact trivial) a w hm
end Go.Vm.ParM
