import Derived.Test.YtbnneoaaeidenaaDoorProg
import Derived.Test.YtbnneoaaeidenaaDoorParMh
namespace Go.Vm.ParM
open Go.Proofs
set_option maxRecDepth 20000
theorem mixed:Tryd.prog.follows .mixedOrders=true:=by kernel_rfl
theorem para_Check_ok {F:Nat} {a0:List S_ParaWord} {a1:S_ParaShape} {r:Int} (h:para_Check F a0 a1=some r):ACall Tryd.prog 10 [.d (.sl 2 (a0.map cS_ParaWord)),.agg (cS_ParaShape a1)] [] (.d (.v (.int .i64 r))) []:=by
  rw [para_Check] at h
  refine ACall.intro (N:=123) Tryd.func10 rfl rfl rfl rfl rfl fun e=>?_
  refine T_reg [] [0,3] [(3,.box [.d (.v (.int .i64 a1.f0)),.d (.v (.int .i64 a1.f1)),.d (.v (.int .i64 a1.f2)),.d (.v (.int .i64 a1.f3)),.d (.v (.int .i64 a1.f4)),.d (.v (.int .i64 a1.f5))])] [] 2 (by kernel_rfl) (trivial) ?_
  refine T_seqk ?_
  refine T_reg [(1,{ rw:=some (.d (.v (.int .i64 (a0.length:Int)))) })] [0,3,14] [(14,.d (.v (.bool (decide ((a0.length:Int) > (128:Int))))))] [(1,True∧AV.d (.v (.int .i64 ((a0.map cS_ParaWord).length:Int)))=.d (.v (.int .i64 (a0.length:Int))))] 1 (by kernel_rfl) (len_ok cS_ParaWord) ?_
  refine T_cond (decide ((a0.length:Int) > (128:Int))) (by kernel_rfl) (fun hc=>?_) (fun hc=>?_)
  · have h:=cond_tt hc h
    refine T_reg [] [4] [(4,.d (.v (.int .i64 (2:Int))))] [] 1 (by kernel_rfl) (trivial) ?_
    obtain hs:=Option.some.inj h; subst hs
    refine T_ret fun a w hm=>then_ret (T_return (fr':=[(4,.d (.v (.int .i64 (2:Int))))]) [4] (by kernel_rfl) [.keep [4]] (by kernel_rfl) (by kernel_rfl) (by kernel_rfl) (by show _=_; kernel_rfl) (by exact trivial) a w hm)
  · have h:=cond_ff hc h
    refine T_skip fun a w hm=>then_norm (((?_:T Tryd.prog e 123 _ _ _) a w hm))
    refine T_reg [] [0,3,5] [(5,.d (.v (.int .i64 (0:Int))))] [] 1 (by kernel_rfl) (trivial) ?_
    refine T_seqk ?_
    refine T_reg [(1,{ rw:=some (.d (.v (.int .i64 (a0.length:Int)))) })] [3,5,15,16,17] [(15,.d (.sl 2 (a0.map cS_ParaWord))),(16,.d (.v (.int .i64 (a0.length:Int)))),(17,.d (.v (.int .i64 (0:Int))))] [(1,True∧AV.d (.v (.int .i64 ((a0.map cS_ParaWord).length:Int)))=.d (.v (.int .i64 (a0.length:Int))))] 1 (by kernel_rfl) (len_ok cS_ParaWord) ?_
    refine T_joinEt h (fun (p:Unit)=>[(3,.box [.d (.v (.int .i64 a1.f0)),.d (.v (.int .i64 a1.f1)),.d (.v (.int .i64 a1.f2)),.d (.v (.int .i64 a1.f3)),.d (.v (.int .i64 a1.f4)),.d (.v (.int .i64 a1.f5))])]) (fun s h hk1=>?_) (fun s h=>?_)
    · refine T_co [.keep [3,5,15,16,17]] ((fun (p:Int×Int)=>[(3,.box [.d (.v (.int .i64 a1.f0)),.d (.v (.int .i64 a1.f1)),.d (.v (.int .i64 a1.f2)),.d (.v (.int .i64 a1.f3)),.d (.v (.int .i64 a1.f4)),.d (.v (.int .i64 a1.f5))]),(5,.d (.v (.int .i64 p.1))),(15,.d (.sl 2 (a0.map cS_ParaWord))),(16,.d (.v (.int .i64 (a0.length:Int)))),(17,.d (.v (.int .i64 p.2)))]) ((0:Int),(0:Int))) (by show _=_; kernel_rfl) ?_
      refine T_block ?_
      refine T_loopF (ι:=Int×Int) (fun (p:Int×Int)=>[(3,.box [.d (.v (.int .i64 a1.f0)),.d (.v (.int .i64 a1.f1)),.d (.v (.int .i64 a1.f2)),.d (.v (.int .i64 a1.f3)),.d (.v (.int .i64 a1.f4)),.d (.v (.int .i64 a1.f5))]),(5,.d (.v (.int .i64 p.1))),(15,.d (.sl 2 (a0.map cS_ParaWord))),(16,.d (.v (.int .i64 (a0.length:Int)))),(17,.d (.v (.int .i64 p.2)))]) (fun n p=>para_Check_L0 F a0 n p.1 p.2=some s) (fun i hh=>by simp [para_Check_L0] at hh) (fun n p h=>?_) F ((0:Int),(0:Int)) h
      obtain ⟨v4,v1⟩:=p
      have h:para_Check_L0 F a0 (n+1) v4 v1=some s:=h
      rw [para_Check_L0] at h
      refine T_reg [] [3,5,15,16,17,18] [(18,.d (.v (.bool (decide (v1 < (a0.length:Int))))))] [] 1 (by kernel_rfl) (trivial) ?_
      refine T_seqk ?_
      refine T_cond (decide (v1 < (a0.length:Int))) (by kernel_rfl) (fun hc=>?_) (fun hc=>?_)
      · have h:=cond_tt hc h
        refine T_skip fun a w hm=>then_norm (((?_:T Tryd.prog e 123 _ _ _) a w hm))
        refine T_seqk ?_
        refine T_block ?_
        obtain ⟨hp1,h⟩:=chk_ok h
        refine T_reg [(0,{ cs:=cS_ParaWord (a0.getD v1.toNat (S_ParaWord.mk [] [])) })] [3,5,7,15,16,17] [(7,.box [.d (.sl 1 (((a0.getD v1.toNat (S_ParaWord.mk [] [])).f0).map (cI .i64))),.d (.sl 1 (((a0.getD v1.toNat (S_ParaWord.mk [] [])).f1).map (cI .i64)))])] [(0,0≤v1∧(a0.map cS_ParaWord)[v1.toNat]? = some (cS_ParaWord (a0.getD v1.toNat (S_ParaWord.mk [] []))))] 3 (by kernel_rfl) (idx_ok (d:=(S_ParaWord.mk [] [])) cS_ParaWord hp1) ?_
        refine T_seqk ?_
        obtain ⟨z3,hz1,h⟩:=lett_ok h
        obtain ⟨z4,hz2,h⟩:=lett_ok h
        refine T_reg [(2,{ rw:=some (.d (.v (.int .i64 (((a0.getD v1.toNat (S_ParaWord.mk [] [])).f0).length:Int)))) }),(7,{ rw:=some (.d (.v (.int .i64 (((a0.getD v1.toNat (S_ParaWord.mk [] [])).f1).length:Int)))) }),(10,{ rw:=some (.d (.v (.int .i64 (((a0.getD v1.toNat (S_ParaWord.mk [] [])).f0).length:Int)))) }),(12,{ rw:=some (.d (.v (.bool z3))) }),(13,{ rw:=some (.d (.v (.bool z4))) })] [3,5,7,15,16,17,34] [(34,.d (.v (.bool z4)))] [(2,True∧AV.d (.v (.int .i64 ((((a0.getD v1.toNat (S_ParaWord.mk [] [])).f0).map (cI .i64)).length:Int)))=.d (.v (.int .i64 (((a0.getD v1.toNat (S_ParaWord.mk [] [])).f0).length:Int)))),(2,(((((((a0.getD v1.toNat (S_ParaWord.mk [] [])).f0).length:Int) == (0:Int)) == false) && true)=true→True)),(0,(((((((a0.getD v1.toNat (S_ParaWord.mk [] [])).f0).length:Int) == (0:Int)) == false) && true)=true→True)),(0,(((((((a0.getD v1.toNat (S_ParaWord.mk [] [])).f0).length:Int) == (0:Int)) == false) && true)=true→True∧AV.d (.v (.int .i64 ((((a0.getD v1.toNat (S_ParaWord.mk [] [])).f1).map (cI .i64)).length:Int)))=.d (.v (.int .i64 (((a0.getD v1.toNat (S_ParaWord.mk [] [])).f1).length:Int))))),(0,(((((((a0.getD v1.toNat (S_ParaWord.mk [] [])).f0).length:Int) == (0:Int)) == false) && true)=true→True)),(0,(((((((a0.getD v1.toNat (S_ParaWord.mk [] [])).f0).length:Int) == (0:Int)) == false) && true)=true→True)),(0,(((((((a0.getD v1.toNat (S_ParaWord.mk [] [])).f0).length:Int) == (0:Int)) == false) && true)=true→True∧AV.d (.v (.int .i64 ((((a0.getD v1.toNat (S_ParaWord.mk [] [])).f0).map (cI .i64)).length:Int)))=.d (.v (.int .i64 (((a0.getD v1.toNat (S_ParaWord.mk [] [])).f0).length:Int))))),(0,(((((((a0.getD v1.toNat (S_ParaWord.mk [] [])).f0).length:Int) == (0:Int)) == false) && true)=true→True)),(0,(((((((a0.getD v1.toNat (S_ParaWord.mk [] [])).f0).length:Int) == (0:Int)) == false) && true)=true→(True)∧AV.d (.v (.bool ((((a0.getD v1.toNat (S_ParaWord.mk [] [])).f1).length:Int) != (IntKind.i64.wrap ((((a0.getD v1.toNat (S_ParaWord.mk [] [])).f0).length:Int) - (1:Int))))))=.d (.v (.bool z3)))),(0,(True)∧AV.d (.v (.bool (bif ((((a0.getD v1.toNat (S_ParaWord.mk [] [])).f0).length:Int) == (0:Int)) then true else z3)))=.d (.v (.bool z4)))] 0 (by kernel_rfl) (⟨len_ok (cI .i64),(fun hg=>trivial),(fun hg=>trivial),(fun hg=>len_ok (cI .i64)),(fun hg=>trivial),(fun hg=>trivial),(fun hg=>len_ok (cI .i64)),(fun hg=>trivial),(fun hg=>⟨trivial,(by subst hz1; rfl)⟩),⟨trivial,(by subst hz2; rfl)⟩⟩) ?_
        refine T_cond z4 (by kernel_rfl) (fun hc=>?_) (fun hc=>?_)
        · have h:=cond_tt hc h
          refine T_reg [] [4] [(4,.d (.v (.int .i64 (4:Int))))] [] 1 (by kernel_rfl) (trivial) ?_
          obtain hs:=Option.some.inj h; subst hs
          have h:=callE_esc hk1
          obtain hs:=Option.some.inj h; subst hs
          refine T_ret fun a w hm=>then_ret (inBlock_ret (then_ret (then_ret (inBlock_ret (then_ret (then_ret (T_return (fr':=[(4,.d (.v (.int .i64 (4:Int))))]) [4] (by kernel_rfl) [.keep [4]] (by kernel_rfl) (by kernel_rfl) (by kernel_rfl) (by show _=_; kernel_rfl) (by exact trivial) a w hm)))))))
        · have h:=cond_ff hc h
          refine T_skip fun a w hm=>then_norm (((?_:T Tryd.prog e 123 _ _ _) a w hm))
          refine T_seqk ?_
          refine T_reg [(3,{ rw:=some (.d (.v (.int .i64 (((a0.getD v1.toNat (S_ParaWord.mk [] [])).f0).length:Int)))) })] [3,5,7,15,16,17] [(5,.d (.v (.int .i64 (IntKind.i64.wrap (v4+(((a0.getD v1.toNat (S_ParaWord.mk [] [])).f0).length:Int))))))] [(3,True∧AV.d (.v (.int .i64 ((((a0.getD v1.toNat (S_ParaWord.mk [] [])).f0).map (cI .i64)).length:Int)))=.d (.v (.int .i64 (((a0.getD v1.toNat (S_ParaWord.mk [] [])).f0).length:Int))))] 2 (by kernel_rfl) (len_ok (cI .i64)) ?_
          obtain ⟨z5,hz3,h⟩:=lett_ok h
          refine T_reg [(1,{ rw:=some (.d (.v (.bool z5))) })] [3,5,7,15,16,17,41] [(41,.d (.v (.bool z5)))] [(1,(True)∧AV.d (.v (.bool (decide ((IntKind.i64.wrap (v4+(((a0.getD v1.toNat (S_ParaWord.mk [] [])).f0).length:Int))) > (256:Int)))))=.d (.v (.bool z5)))] 0 (by kernel_rfl) (⟨trivial,(by subst hz3; rfl)⟩) ?_
          refine T_cond z5 (by kernel_rfl) (fun hc=>?_) (fun hc=>?_)
          · have h:=cond_tt hc h
            refine T_reg [] [4] [(4,.d (.v (.int .i64 (2:Int))))] [] 1 (by kernel_rfl) (trivial) ?_
            obtain hs:=Option.some.inj h; subst hs
            have h:=callE_esc hk1
            obtain hs:=Option.some.inj h; subst hs
            refine T_ret fun a w hm=>then_ret (inBlock_ret (then_ret (then_ret (inBlock_ret (then_ret (then_ret (T_return (fr':=[(4,.d (.v (.int .i64 (2:Int))))]) [4] (by kernel_rfl) [.keep [4]] (by kernel_rfl) (by kernel_rfl) (by kernel_rfl) (by show _=_; kernel_rfl) (by exact trivial) a w hm)))))))
          · have h:=cond_ff hc h
            refine T_skip fun a w hm=>then_norm (((?_:T Tryd.prog e 123 _ _ _) a w hm))
            refine T_seqk ?_
            refine T_reg [(2,{ rw:=some (.d (.v (.int .i64 (((a0.getD v1.toNat (S_ParaWord.mk [] [])).f0).length:Int)))) })] [3,5,7,15,16,17,43,44,45] [(43,.d (.sl 1 (((a0.getD v1.toNat (S_ParaWord.mk [] [])).f0).map (cI .i64)))),(44,.d (.v (.int .i64 (((a0.getD v1.toNat (S_ParaWord.mk [] [])).f0).length:Int)))),(45,.d (.v (.int .i64 (0:Int))))] [(2,True∧AV.d (.v (.int .i64 ((((a0.getD v1.toNat (S_ParaWord.mk [] [])).f0).map (cI .i64)).length:Int)))=.d (.v (.int .i64 (((a0.getD v1.toNat (S_ParaWord.mk [] [])).f0).length:Int))))] 1 (by kernel_rfl) (len_ok (cI .i64)) ?_
            refine T_joinEt h (fun (p:Unit)=>[(3,.box [.d (.v (.int .i64 a1.f0)),.d (.v (.int .i64 a1.f1)),.d (.v (.int .i64 a1.f2)),.d (.v (.int .i64 a1.f3)),.d (.v (.int .i64 a1.f4)),.d (.v (.int .i64 a1.f5))]),(5,.d (.v (.int .i64 (IntKind.i64.wrap (v4+(((a0.getD v1.toNat (S_ParaWord.mk [] [])).f0).length:Int)))))),(7,.box [.d (.sl 1 (((a0.getD v1.toNat (S_ParaWord.mk [] [])).f0).map (cI .i64))),.d (.sl 1 (((a0.getD v1.toNat (S_ParaWord.mk [] [])).f1).map (cI .i64)))]),(15,.d (.sl 2 (a0.map cS_ParaWord))),(16,.d (.v (.int .i64 (a0.length:Int)))),(17,.d (.v (.int .i64 v1)))]) (fun s h hk2=>?_) (fun s h=>?_)
            · refine T_co [.keep [3,5,7,15,16,17,43,44,45]] ((fun (p:Int)=>[(3,.box [.d (.v (.int .i64 a1.f0)),.d (.v (.int .i64 a1.f1)),.d (.v (.int .i64 a1.f2)),.d (.v (.int .i64 a1.f3)),.d (.v (.int .i64 a1.f4)),.d (.v (.int .i64 a1.f5))]),(5,.d (.v (.int .i64 (IntKind.i64.wrap (v4+(((a0.getD v1.toNat (S_ParaWord.mk [] [])).f0).length:Int)))))),(7,.box [.d (.sl 1 (((a0.getD v1.toNat (S_ParaWord.mk [] [])).f0).map (cI .i64))),.d (.sl 1 (((a0.getD v1.toNat (S_ParaWord.mk [] [])).f1).map (cI .i64)))]),(15,.d (.sl 2 (a0.map cS_ParaWord))),(16,.d (.v (.int .i64 (a0.length:Int)))),(17,.d (.v (.int .i64 v1))),(43,.d (.sl 1 (((a0.getD v1.toNat (S_ParaWord.mk [] [])).f0).map (cI .i64)))),(44,.d (.v (.int .i64 (((a0.getD v1.toNat (S_ParaWord.mk [] [])).f0).length:Int)))),(45,.d (.v (.int .i64 p)))]) (0:Int)) (by show _=_; kernel_rfl) ?_
              refine T_block ?_
              refine T_loopF (ι:=Int) (fun (p:Int)=>[(3,.box [.d (.v (.int .i64 a1.f0)),.d (.v (.int .i64 a1.f1)),.d (.v (.int .i64 a1.f2)),.d (.v (.int .i64 a1.f3)),.d (.v (.int .i64 a1.f4)),.d (.v (.int .i64 a1.f5))]),(5,.d (.v (.int .i64 (IntKind.i64.wrap (v4+(((a0.getD v1.toNat (S_ParaWord.mk [] [])).f0).length:Int)))))),(7,.box [.d (.sl 1 (((a0.getD v1.toNat (S_ParaWord.mk [] [])).f0).map (cI .i64))),.d (.sl 1 (((a0.getD v1.toNat (S_ParaWord.mk [] [])).f1).map (cI .i64)))]),(15,.d (.sl 2 (a0.map cS_ParaWord))),(16,.d (.v (.int .i64 (a0.length:Int)))),(17,.d (.v (.int .i64 v1))),(43,.d (.sl 1 (((a0.getD v1.toNat (S_ParaWord.mk [] [])).f0).map (cI .i64)))),(44,.d (.v (.int .i64 (((a0.getD v1.toNat (S_ParaWord.mk [] [])).f0).length:Int)))),(45,.d (.v (.int .i64 p)))]) (fun n p=>para_Check_L2 F a0 v1 n p=some s) (fun i hh=>by simp [para_Check_L2] at hh) (fun n v2 h=>?_) F (0:Int) h
              have h:para_Check_L2 F a0 v1 (n+1) v2=some s:=h
              rw [para_Check_L2] at h
              refine T_reg [] [3,5,7,15,16,17,43,44,45,46] [(46,.d (.v (.bool (decide (v2 < (((a0.getD v1.toNat (S_ParaWord.mk [] [])).f0).length:Int))))))] [] 1 (by kernel_rfl) (trivial) ?_
              refine T_seqk ?_
              refine T_cond (decide (v2 < (((a0.getD v1.toNat (S_ParaWord.mk [] [])).f0).length:Int))) (by kernel_rfl) (fun hc=>?_) (fun hc=>?_)
              · have h:=cond_tt hc h
                refine T_skip fun a w hm=>then_norm (((?_:T Tryd.prog e 123 _ _ _) a w hm))
                refine T_seqk ?_
                refine T_block ?_
                obtain ⟨hp2,h⟩:=chk_ok h
                refine T_reg [(0,{ cs:=(cI .i64) (((a0.getD v1.toNat (S_ParaWord.mk [] [])).f0).getD v2.toNat 0) })] [3,5,7,9,15,16,17,43,44,45] [(9,.d (.v (.int .i64 (((a0.getD v1.toNat (S_ParaWord.mk [] [])).f0).getD v2.toNat 0))))] [(0,0≤v2∧(((a0.getD v1.toNat (S_ParaWord.mk [] [])).f0).map (cI .i64))[v2.toNat]? = some ((cI .i64) (((a0.getD v1.toNat (S_ParaWord.mk [] [])).f0).getD v2.toNat 0)))] 2 (by kernel_rfl) (idx_ok (d:=0) (cI .i64) hp2) ?_
                obtain ⟨z1,hz4,h⟩:=lett_ok h
                refine T_reg [(5,{ rw:=some (.d (.v (.bool z1))) })] [3,5,7,15,16,17,43,44,45,54] [(54,.d (.v (.bool z1)))] [(3,((((decide ((((a0.getD v1.toNat (S_ParaWord.mk [] [])).f0).getD v2.toNat 0) < (0:Int))) == false) && true)=true→True)),(0,((((decide ((((a0.getD v1.toNat (S_ParaWord.mk [] [])).f0).getD v2.toNat 0) < (0:Int))) == false) && true)=true→True)),(0,(True)∧AV.d (.v (.bool (bif (decide ((((a0.getD v1.toNat (S_ParaWord.mk [] [])).f0).getD v2.toNat 0) < (0:Int))) then true else (decide ((((a0.getD v1.toNat (S_ParaWord.mk [] [])).f0).getD v2.toNat 0) > (65535:Int))))))=.d (.v (.bool z1)))] 0 (by kernel_rfl) (⟨(fun hg=>trivial),(fun hg=>trivial),⟨trivial,(by subst hz4; rfl)⟩⟩) ?_
                refine T_cond z1 (by kernel_rfl) (fun hc=>?_) (fun hc=>?_)
                · have h:=cond_tt hc h
                  refine T_reg [] [4] [(4,.d (.v (.int .i64 (3:Int))))] [] 1 (by kernel_rfl) (trivial) ?_
                  obtain hs:=Option.some.inj h; subst hs
                  have h:=callE_esc hk2
                  obtain hs:=Option.some.inj h; subst hs
                  have h:=callE_esc hk1
                  obtain hs:=Option.some.inj h; subst hs
                  refine T_ret fun a w hm=>inBlock_ret (then_ret (then_ret (inBlock_ret (then_ret (then_ret (inBlock_ret (then_ret (then_ret (inBlock_ret (then_ret (then_ret (T_return (fr':=[(4,.d (.v (.int .i64 (3:Int))))]) [4] (by kernel_rfl) [.keep [4]] (by kernel_rfl) (by kernel_rfl) (by kernel_rfl) (by show _=_; kernel_rfl) (by exact trivial) a w hm))))))))))))
                · have h:=cond_ff hc h
                  refine T_skip fun a w hm=>inBlock_norm (then_norm (((?_:T Tryd.prog e 123 _ _ _) a w hm)))
                  refine T_reg_end [] [3,5,7,15,16,17,43,44,45] [(45,.d (.v (.int .i64 (IntKind.i64.wrap (v2+(1:Int))))))] [] 2 (by kernel_rfl) (trivial) fun a w hm=>then_norm (⟨IntKind.i64.wrap (v2+(1:Int)),h,hm.co (cs:=[.keep [3,5,7,15,16,17,43,44,45]]) (by show _=_; kernel_rfl)⟩)
              · have h:=cond_ff hc h
                obtain hs:=Option.some.inj h; subst hs
                refine T_exit fun a w hm=>then_exit (then_exit (inBlock_exit (then_norm (⟨_,rfl,hm.co (cs:=[.keep [3,5,7,15,16,17]]) (by show _=_; kernel_rfl)⟩))))
            · skip
              refine fun a w hm=>then_norm (((?_:T Tryd.prog e 123 _ _ _) a w hm))
              refine T_reg [(2,{ rw:=some (.d (.v (.int .i64 (((a0.getD v1.toNat (S_ParaWord.mk [] [])).f1).length:Int)))) })] [3,5,15,16,17,57,58,59] [(57,.d (.sl 1 (((a0.getD v1.toNat (S_ParaWord.mk [] [])).f1).map (cI .i64)))),(58,.d (.v (.int .i64 (((a0.getD v1.toNat (S_ParaWord.mk [] [])).f1).length:Int)))),(59,.d (.v (.int .i64 (0:Int))))] [(2,True∧AV.d (.v (.int .i64 ((((a0.getD v1.toNat (S_ParaWord.mk [] [])).f1).map (cI .i64)).length:Int)))=.d (.v (.int .i64 (((a0.getD v1.toNat (S_ParaWord.mk [] [])).f1).length:Int))))] 1 (by kernel_rfl) (len_ok (cI .i64)) ?_
              refine T_joinEt h (fun (p:Unit)=>[(3,.box [.d (.v (.int .i64 a1.f0)),.d (.v (.int .i64 a1.f1)),.d (.v (.int .i64 a1.f2)),.d (.v (.int .i64 a1.f3)),.d (.v (.int .i64 a1.f4)),.d (.v (.int .i64 a1.f5))]),(5,.d (.v (.int .i64 (IntKind.i64.wrap (v4+(((a0.getD v1.toNat (S_ParaWord.mk [] [])).f0).length:Int)))))),(15,.d (.sl 2 (a0.map cS_ParaWord))),(16,.d (.v (.int .i64 (a0.length:Int)))),(17,.d (.v (.int .i64 v1)))]) (fun s h hk3=>?_) (fun s h=>?_)
              · refine T_co [.keep [3,5,15,16,17,57,58,59]] ((fun (p:Int)=>[(3,.box [.d (.v (.int .i64 a1.f0)),.d (.v (.int .i64 a1.f1)),.d (.v (.int .i64 a1.f2)),.d (.v (.int .i64 a1.f3)),.d (.v (.int .i64 a1.f4)),.d (.v (.int .i64 a1.f5))]),(5,.d (.v (.int .i64 (IntKind.i64.wrap (v4+(((a0.getD v1.toNat (S_ParaWord.mk [] [])).f0).length:Int)))))),(15,.d (.sl 2 (a0.map cS_ParaWord))),(16,.d (.v (.int .i64 (a0.length:Int)))),(17,.d (.v (.int .i64 v1))),(57,.d (.sl 1 (((a0.getD v1.toNat (S_ParaWord.mk [] [])).f1).map (cI .i64)))),(58,.d (.v (.int .i64 (((a0.getD v1.toNat (S_ParaWord.mk [] [])).f1).length:Int)))),(59,.d (.v (.int .i64 p)))]) (0:Int)) (by show _=_; kernel_rfl) ?_
                refine T_block ?_
                refine T_loopF (ι:=Int) (fun (p:Int)=>[(3,.box [.d (.v (.int .i64 a1.f0)),.d (.v (.int .i64 a1.f1)),.d (.v (.int .i64 a1.f2)),.d (.v (.int .i64 a1.f3)),.d (.v (.int .i64 a1.f4)),.d (.v (.int .i64 a1.f5))]),(5,.d (.v (.int .i64 (IntKind.i64.wrap (v4+(((a0.getD v1.toNat (S_ParaWord.mk [] [])).f0).length:Int)))))),(15,.d (.sl 2 (a0.map cS_ParaWord))),(16,.d (.v (.int .i64 (a0.length:Int)))),(17,.d (.v (.int .i64 v1))),(57,.d (.sl 1 (((a0.getD v1.toNat (S_ParaWord.mk [] [])).f1).map (cI .i64)))),(58,.d (.v (.int .i64 (((a0.getD v1.toNat (S_ParaWord.mk [] [])).f1).length:Int)))),(59,.d (.v (.int .i64 p)))]) (fun n p=>para_Check_L4 F a0 v1 n p=some s) (fun i hh=>by simp [para_Check_L4] at hh) (fun n v3 h=>?_) F (0:Int) h
                have h:para_Check_L4 F a0 v1 (n+1) v3=some s:=h
                rw [para_Check_L4] at h
                refine T_reg [] [3,5,15,16,17,57,58,59,60] [(60,.d (.v (.bool (decide (v3 < (((a0.getD v1.toNat (S_ParaWord.mk [] [])).f1).length:Int))))))] [] 1 (by kernel_rfl) (trivial) ?_
                refine T_seqk ?_
                refine T_cond (decide (v3 < (((a0.getD v1.toNat (S_ParaWord.mk [] [])).f1).length:Int))) (by kernel_rfl) (fun hc=>?_) (fun hc=>?_)
                · have h:=cond_tt hc h
                  refine T_skip fun a w hm=>then_norm (((?_:T Tryd.prog e 123 _ _ _) a w hm))
                  refine T_seqk ?_
                  refine T_block ?_
                  obtain ⟨hp3,h⟩:=chk_ok h
                  refine T_reg [(0,{ cs:=(cI .i64) (((a0.getD v1.toNat (S_ParaWord.mk [] [])).f1).getD v3.toNat 0) })] [3,5,11,15,16,17,57,58,59] [(11,.d (.v (.int .i64 (((a0.getD v1.toNat (S_ParaWord.mk [] [])).f1).getD v3.toNat 0))))] [(0,0≤v3∧(((a0.getD v1.toNat (S_ParaWord.mk [] [])).f1).map (cI .i64))[v3.toNat]? = some ((cI .i64) (((a0.getD v1.toNat (S_ParaWord.mk [] [])).f1).getD v3.toNat 0)))] 2 (by kernel_rfl) (idx_ok (d:=0) (cI .i64) hp3) ?_
                  obtain ⟨z2,hz5,h⟩:=lett_ok h
                  refine T_reg [(5,{ rw:=some (.d (.v (.bool z2))) })] [3,5,15,16,17,57,58,59,68] [(68,.d (.v (.bool z2)))] [(3,((((decide ((((a0.getD v1.toNat (S_ParaWord.mk [] [])).f1).getD v3.toNat 0) < (-2047:Int))) == false) && true)=true→True)),(0,((((decide ((((a0.getD v1.toNat (S_ParaWord.mk [] [])).f1).getD v3.toNat 0) < (-2047:Int))) == false) && true)=true→True)),(0,(True)∧AV.d (.v (.bool (bif (decide ((((a0.getD v1.toNat (S_ParaWord.mk [] [])).f1).getD v3.toNat 0) < (-2047:Int))) then true else (decide ((((a0.getD v1.toNat (S_ParaWord.mk [] [])).f1).getD v3.toNat 0) > (2047:Int))))))=.d (.v (.bool z2)))] 0 (by kernel_rfl) (⟨(fun hg=>trivial),(fun hg=>trivial),⟨trivial,(by subst hz5; rfl)⟩⟩) ?_
                  refine T_cond z2 (by kernel_rfl) (fun hc=>?_) (fun hc=>?_)
                  · have h:=cond_tt hc h
                    refine T_reg [] [4] [(4,.d (.v (.int .i64 (3:Int))))] [] 1 (by kernel_rfl) (trivial) ?_
                    obtain hs:=Option.some.inj h; subst hs
                    have h:=callE_esc hk3
                    obtain hs:=Option.some.inj h; subst hs
                    have h:=callE_esc hk1
                    obtain hs:=Option.some.inj h; subst hs
                    refine T_ret fun a w hm=>inBlock_ret (then_ret (then_ret (inBlock_ret (then_ret (inBlock_ret (then_ret (then_ret (inBlock_ret (then_ret (then_ret (T_return (fr':=[(4,.d (.v (.int .i64 (3:Int))))]) [4] (by kernel_rfl) [.keep [4]] (by kernel_rfl) (by kernel_rfl) (by kernel_rfl) (by show _=_; kernel_rfl) (by exact trivial) a w hm)))))))))))
                  · have h:=cond_ff hc h
                    refine T_skip fun a w hm=>inBlock_norm (then_norm (((?_:T Tryd.prog e 123 _ _ _) a w hm)))
                    refine T_reg_end [] [3,5,15,16,17,57,58,59] [(59,.d (.v (.int .i64 (IntKind.i64.wrap (v3+(1:Int))))))] [] 2 (by kernel_rfl) (trivial) fun a w hm=>then_norm (⟨IntKind.i64.wrap (v3+(1:Int)),h,hm.co (cs:=[.keep [3,5,15,16,17,57,58,59]]) (by show _=_; kernel_rfl)⟩)
                · have h:=cond_ff hc h
                  obtain hs:=Option.some.inj h; subst hs
                  refine T_exit fun a w hm=>then_exit (then_exit (inBlock_exit (then_norm (⟨_,rfl,hm.co (cs:=[.keep [3,5,15,16,17]]) (by show _=_; kernel_rfl)⟩))))
              · skip
                refine fun a w hm=>inBlock_norm (then_norm (((?_:T Tryd.prog e 123 _ _ _) a w hm)))
                refine T_reg_end [] [3,5,15,16,17] [(17,.d (.v (.int .i64 (IntKind.i64.wrap (v1+(1:Int))))))] [] 2 (by kernel_rfl) (trivial) fun a w hm=>then_norm (⟨(IntKind.i64.wrap (v4+(((a0.getD v1.toNat (S_ParaWord.mk [] [])).f0).length:Int)),IntKind.i64.wrap (v1+(1:Int))),h,hm.co (cs:=[.keep [3,5,15,16,17]]) (by show _=_; kernel_rfl)⟩)
      · have h:=cond_ff hc h
        obtain hs:=Option.some.inj h; subst hs
        refine T_exit fun a w hm=>then_exit (then_exit (inBlock_exit (then_norm (⟨_,rfl,hm.co (cs:=[.keep [3]]) (by show _=_; kernel_rfl)⟩))))
    · skip
      refine fun a w hm=>then_norm (((?_:T Tryd.prog e 123 _ _ _) a w hm))
      refine T_seqk ?_
      refine T_block ?_
      obtain ⟨z6,hz6,h⟩:=lett_ok h
      obtain ⟨z7,hz7,h⟩:=lett_ok h
      obtain ⟨z8,hz8,h⟩:=lett_ok h
      refine T_reg [(12,{ rw:=some (.d (.v (.bool z6))) }),(22,{ rw:=some (.d (.v (.bool z7))) }),(32,{ rw:=some (.d (.v (.bool z8))) })] [3,71] [(71,.d (.v (.bool (bif z8 then true else (decide (a1.f5 > (1048576:Int)))))))] [(4,((((decide (a1.f0 < (1:Int))) == false) && true)=true→True)),(0,((((decide (a1.f0 < (1:Int))) == false) && true)=true→True)),(0,((((decide (a1.f0 < (1:Int))) == false) && true)=true→True)),(2,((((bif (decide (a1.f0 < (1:Int))) then true else (decide (a1.f0 > (65535:Int)))) == false) && true)=true→True)),(0,((((bif (decide (a1.f0 < (1:Int))) then true else (decide (a1.f0 > (65535:Int)))) == false) && true)=true→True)),(0,((((bif (decide (a1.f0 < (1:Int))) then true else (decide (a1.f0 > (65535:Int)))) == false) && true)=true→True)),(0,(True)∧AV.d (.v (.bool (bif (bif (decide (a1.f0 < (1:Int))) then true else (decide (a1.f0 > (65535:Int)))) then true else (decide (a1.f2 < (0:Int))))))=.d (.v (.bool z6))),(1,(((z6 == false) && true)=true→True)),(0,(((z6 == false) && true)=true→True)),(0,(((z6 == false) && true)=true→True)),(2,((((bif z6 then true else (decide (a1.f3 > (65535:Int)))) == false) && true)=true→True)),(0,((((bif z6 then true else (decide (a1.f3 > (65535:Int)))) == false) && true)=true→True)),(0,((((bif z6 then true else (decide (a1.f3 > (65535:Int)))) == false) && true)=true→True)),(0,(True)∧AV.d (.v (.bool (bif (bif z6 then true else (decide (a1.f3 > (65535:Int)))) then true else (decide (a1.f4 < (0:Int))))))=.d (.v (.bool z7))),(1,(((z7 == false) && true)=true→True)),(0,(((z7 == false) && true)=true→True)),(0,(((z7 == false) && true)=true→True)),(2,((((bif z7 then true else (decide (a1.f4 > (65535:Int)))) == false) && true)=true→True)),(0,((((bif z7 then true else (decide (a1.f4 > (65535:Int)))) == false) && true)=true→True)),(0,((((bif z7 then true else (decide (a1.f4 > (65535:Int)))) == false) && true)=true→True)),(0,(True)∧AV.d (.v (.bool (bif (bif z7 then true else (decide (a1.f4 > (65535:Int)))) then true else (decide (a1.f5 < (0:Int))))))=.d (.v (.bool z8))),(1,(((z8 == false) && true)=true→True)),(0,(((z8 == false) && true)=true→True)),(0,(((z8 == false) && true)=true→True))] 2 (by kernel_rfl) (⟨(fun hg=>trivial),(fun hg=>trivial),(fun hg=>trivial),(fun hg=>trivial),(fun hg=>trivial),(fun hg=>trivial),⟨trivial,(by subst hz6; rfl)⟩,(fun hg=>trivial),(fun hg=>trivial),(fun hg=>trivial),(fun hg=>trivial),(fun hg=>trivial),(fun hg=>trivial),⟨trivial,(by subst hz7; rfl)⟩,(fun hg=>trivial),(fun hg=>trivial),(fun hg=>trivial),(fun hg=>trivial),(fun hg=>trivial),(fun hg=>trivial),⟨trivial,(by subst hz8; rfl)⟩,(fun hg=>trivial),(fun hg=>trivial),(fun hg=>trivial)⟩) ?_
      refine T_cond (bif z8 then true else (decide (a1.f5 > (1048576:Int)))) (by kernel_rfl) (fun hc=>?_) (fun hc=>?_)
      · have h:=cond_tt hc h
        refine T_reg [] [4] [(4,.d (.v (.int .i64 (3:Int))))] [] 1 (by kernel_rfl) (trivial) ?_
        obtain hs:=Option.some.inj h; subst hs
        refine T_ret fun a w hm=>inBlock_ret (then_ret (T_return (fr':=[(4,.d (.v (.int .i64 (3:Int))))]) [4] (by kernel_rfl) [.keep [4]] (by kernel_rfl) (by kernel_rfl) (by kernel_rfl) (by show _=_; kernel_rfl) (by exact trivial) a w hm))
      · have h:=cond_ff hc h
        refine T_reg [] [110] [(110,.d (.v (.bool (bif (decide (a1.f2 > a1.f1)) then true else (decide (a1.f1 > a1.f3))))))] [(6,((((decide (a1.f2 > a1.f1)) == false) && true)=true→True)),(0,((((decide (a1.f2 > a1.f1)) == false) && true)=true→True)),(0,((((decide (a1.f2 > a1.f1)) == false) && true)=true→True)),(0,((((decide (a1.f2 > a1.f1)) == false) && true)=true→True)),(0,((((decide (a1.f2 > a1.f1)) == false) && true)=true→True))] 2 (by kernel_rfl) (⟨(fun hg=>trivial),(fun hg=>trivial),(fun hg=>trivial),(fun hg=>trivial),(fun hg=>trivial)⟩) ?_
        refine T_cond (bif (decide (a1.f2 > a1.f1)) then true else (decide (a1.f1 > a1.f3))) (by kernel_rfl) (fun hc=>?_) (fun hc=>?_)
        · have h:=cond_tt hc h
          refine T_reg [] [4] [(4,.d (.v (.int .i64 (18:Int))))] [] 1 (by kernel_rfl) (trivial) ?_
          obtain hs:=Option.some.inj h; subst hs
          refine T_ret fun a w hm=>inBlock_ret (then_ret (T_return (fr':=[(4,.d (.v (.int .i64 (18:Int))))]) [4] (by kernel_rfl) [.keep [4]] (by kernel_rfl) (by kernel_rfl) (by kernel_rfl) (by show _=_; kernel_rfl) (by exact trivial) a w hm))
        · have h:=cond_ff hc h
          refine T_skip fun a w hm=>inBlock_norm (then_norm (((?_:T Tryd.prog e 123 _ _ _) a w hm)))
          refine T_reg [] [4] [(4,.d (.v (.int .i64 (0:Int))))] [] 1 (by kernel_rfl) (trivial) ?_
          obtain hs:=Option.some.inj h; subst hs
          refine T_ret fun a w hm=>T_return (fr':=[(4,.d (.v (.int .i64 (0:Int))))]) [4] (by kernel_rfl) [.keep [4]] (by kernel_rfl) (by kernel_rfl) (by kernel_rfl) (by show _=_; kernel_rfl) (by exact trivial) a w hm
theorem para_flat_ok {F:Nat} {a0:List S_ParaWord} {r:(List S_para_part)} (h:para_flat F a0=some r):ACall Tryd.prog 20 [.d (.sl 2 (a0.map cS_ParaWord))] [] (.own 75 4 (r.map cS_para_part)) []:=by
  rw [para_flat] at h
  refine ACall.intro (N:=49) Tryd.func20 rfl rfl rfl rfl rfl fun e=>?_
  refine T_reg [] [0] [] [] 1 (by kernel_rfl) (trivial) ?_
  refine T_reg [] [0,3] [(3,.own 75 4 ([].map cS_para_part))] [] 1 (by kernel_rfl) (trivial) ?_
  refine T_seqk ?_
  refine T_reg [(1,{ rw:=some (.d (.v (.int .i64 (a0.length:Int)))) })] [3,9,10,11] [(9,.d (.sl 2 (a0.map cS_ParaWord))),(10,.d (.v (.int .i64 (a0.length:Int)))),(11,.d (.v (.int .i64 (0:Int))))] [(1,True∧AV.d (.v (.int .i64 ((a0.map cS_ParaWord).length:Int)))=.d (.v (.int .i64 (a0.length:Int))))] 1 (by kernel_rfl) (len_ok cS_ParaWord) ?_
  refine T_joinct h (fun (p:(List S_para_part))=>[(3,.own 75 4 (p.map cS_para_part))]) (fun s h=>?_) (fun v7 h=>?_)
  · refine T_co [.keep [3,9,10,11]] ((fun (p:(List S_para_part)×Int)=>[(3,.own 75 4 (p.1.map cS_para_part)),(9,.d (.sl 2 (a0.map cS_ParaWord))),(10,.d (.v (.int .i64 (a0.length:Int)))),(11,.d (.v (.int .i64 p.2)))]) ([],(0:Int))) (by show _=_; kernel_rfl) ?_
    refine T_block ?_
    refine T_loopF (ι:=(List S_para_part)×Int) (fun (p:(List S_para_part)×Int)=>[(3,.own 75 4 (p.1.map cS_para_part)),(9,.d (.sl 2 (a0.map cS_ParaWord))),(10,.d (.v (.int .i64 (a0.length:Int)))),(11,.d (.v (.int .i64 p.2)))]) (fun n p=>para_flat_L0 F a0 n p.1 p.2=some s) (fun i hh=>by simp [para_flat_L0] at hh) (fun n p h=>?_) F ([],(0:Int)) h
    obtain ⟨v5,v1⟩:=p
    have h:para_flat_L0 F a0 (n+1) v5 v1=some s:=h
    rw [para_flat_L0] at h
    refine T_reg [] [3,9,10,11,12] [(12,.d (.v (.bool (decide (v1 < (a0.length:Int))))))] [] 1 (by kernel_rfl) (trivial) ?_
    refine T_seqk ?_
    refine T_cond (decide (v1 < (a0.length:Int))) (by kernel_rfl) (fun hc=>?_) (fun hc=>?_)
    · have h:=cond_tt hc h
      refine T_skip fun a w hm=>then_norm (((?_:T Tryd.prog e 49 _ _ _) a w hm))
      refine T_seqk ?_
      refine T_block ?_
      obtain ⟨hp1,h⟩:=chk_ok h
      refine T_reg [(0,{ cs:=cS_ParaWord (a0.getD v1.toNat (S_ParaWord.mk [] [])) })] [3,5,9,10,11] [(5,.box [.d (.sl 1 (((a0.getD v1.toNat (S_ParaWord.mk [] [])).f0).map (cI .i64))),.d (.sl 1 (((a0.getD v1.toNat (S_ParaWord.mk [] [])).f1).map (cI .i64)))])] [(0,0≤v1∧(a0.map cS_ParaWord)[v1.toNat]? = some (cS_ParaWord (a0.getD v1.toNat (S_ParaWord.mk [] []))))] 3 (by kernel_rfl) (idx_ok (d:=(S_ParaWord.mk [] [])) cS_ParaWord hp1) ?_
      refine T_reg [(2,{ rw:=some (.d (.v (.int .i64 (((a0.getD v1.toNat (S_ParaWord.mk [] [])).f0).length:Int)))) })] [3,5,9,10,11,16,17,18] [(16,.d (.sl 1 (((a0.getD v1.toNat (S_ParaWord.mk [] [])).f0).map (cI .i64)))),(17,.d (.v (.int .i64 (((a0.getD v1.toNat (S_ParaWord.mk [] [])).f0).length:Int)))),(18,.d (.v (.int .i64 (0:Int))))] [(2,True∧AV.d (.v (.int .i64 ((((a0.getD v1.toNat (S_ParaWord.mk [] [])).f0).map (cI .i64)).length:Int)))=.d (.v (.int .i64 (((a0.getD v1.toNat (S_ParaWord.mk [] [])).f0).length:Int))))] 1 (by kernel_rfl) (len_ok (cI .i64)) ?_
      refine T_joinct h (fun (p:(List S_para_part))=>[(3,.own 75 4 (p.map cS_para_part)),(9,.d (.sl 2 (a0.map cS_ParaWord))),(10,.d (.v (.int .i64 (a0.length:Int)))),(11,.d (.v (.int .i64 v1)))]) (fun s h=>?_) (fun v6 h=>?_)
      · refine T_co [.keep [3,5,9,10,11,16,17,18]] ((fun (p:(List S_para_part)×Int)=>[(3,.own 75 4 (p.1.map cS_para_part)),(5,.box [.d (.sl 1 (((a0.getD v1.toNat (S_ParaWord.mk [] [])).f0).map (cI .i64))),.d (.sl 1 (((a0.getD v1.toNat (S_ParaWord.mk [] [])).f1).map (cI .i64)))]),(9,.d (.sl 2 (a0.map cS_ParaWord))),(10,.d (.v (.int .i64 (a0.length:Int)))),(11,.d (.v (.int .i64 v1))),(16,.d (.sl 1 (((a0.getD v1.toNat (S_ParaWord.mk [] [])).f0).map (cI .i64)))),(17,.d (.v (.int .i64 (((a0.getD v1.toNat (S_ParaWord.mk [] [])).f0).length:Int)))),(18,.d (.v (.int .i64 p.2)))]) (v5,(0:Int))) (by show _=_; kernel_rfl) ?_
        refine T_block ?_
        refine T_loopF (ι:=(List S_para_part)×Int) (fun (p:(List S_para_part)×Int)=>[(3,.own 75 4 (p.1.map cS_para_part)),(5,.box [.d (.sl 1 (((a0.getD v1.toNat (S_ParaWord.mk [] [])).f0).map (cI .i64))),.d (.sl 1 (((a0.getD v1.toNat (S_ParaWord.mk [] [])).f1).map (cI .i64)))]),(9,.d (.sl 2 (a0.map cS_ParaWord))),(10,.d (.v (.int .i64 (a0.length:Int)))),(11,.d (.v (.int .i64 v1))),(16,.d (.sl 1 (((a0.getD v1.toNat (S_ParaWord.mk [] [])).f0).map (cI .i64)))),(17,.d (.v (.int .i64 (((a0.getD v1.toNat (S_ParaWord.mk [] [])).f0).length:Int)))),(18,.d (.v (.int .i64 p.2)))]) (fun n p=>para_flat_L2 F a0 v1 n p.1 p.2=some s) (fun i hh=>by simp [para_flat_L2] at hh) (fun n p h=>?_) F (v5,(0:Int)) h
        obtain ⟨v2,v3⟩:=p
        have h:para_flat_L2 F a0 v1 (n+1) v2 v3=some s:=h
        rw [para_flat_L2] at h
        refine T_reg [] [3,5,9,10,11,16,17,18,19] [(19,.d (.v (.bool (decide (v3 < (((a0.getD v1.toNat (S_ParaWord.mk [] [])).f0).length:Int))))))] [] 1 (by kernel_rfl) (trivial) ?_
        refine T_seqk ?_
        refine T_cond (decide (v3 < (((a0.getD v1.toNat (S_ParaWord.mk [] [])).f0).length:Int))) (by kernel_rfl) (fun hc=>?_) (fun hc=>?_)
        · have h:=cond_tt hc h
          refine T_skip fun a w hm=>then_norm (((?_:T Tryd.prog e 49 _ _ _) a w hm))
          refine T_seqk ?_
          refine T_block ?_
          obtain ⟨hp2,h⟩:=chk_ok h
          refine T_reg [(1,{ cs:=(cI .i64) (((a0.getD v1.toNat (S_ParaWord.mk [] [])).f0).getD v3.toNat 0) })] [3,5,6,7,9,10,11,16,17,18] [(6,.d (.v (.int .i64 v3))),(7,.d (.v (.int .i64 (((a0.getD v1.toNat (S_ParaWord.mk [] [])).f0).getD v3.toNat 0))))] [(1,0≤v3∧(((a0.getD v1.toNat (S_ParaWord.mk [] [])).f0).map (cI .i64))[v3.toNat]? = some ((cI .i64) (((a0.getD v1.toNat (S_ParaWord.mk [] [])).f0).getD v3.toNat 0)))] 3 (by kernel_rfl) (idx_ok (d:=0) (cI .i64) hp2) ?_
          obtain ⟨z1,hz1,h⟩:=lett_ok h
          refine T_reg [(6,{ rw:=some (.d (.v (.int .i64 (((a0.getD v1.toNat (S_ParaWord.mk [] [])).f0).length:Int)))) }),(8,{ rw:=some (.d (.v (.bool z1))) })] [3,5,6,8,9,10,11,16,17,18] [(8,.box [.d (.v (.int .i64 (((a0.getD v1.toNat (S_ParaWord.mk [] [])).f0).getD v3.toNat 0))),.d (.v (.int .i64 0)),.d (.v (.bool (v3 == (0:Int)))),.d (.v (.bool z1))])] [(6,True∧AV.d (.v (.int .i64 ((((a0.getD v1.toNat (S_ParaWord.mk [] [])).f0).map (cI .i64)).length:Int)))=.d (.v (.int .i64 (((a0.getD v1.toNat (S_ParaWord.mk [] [])).f0).length:Int)))),(1,(True)∧AV.d (.v (.bool (v3 == (IntKind.i64.wrap ((((a0.getD v1.toNat (S_ParaWord.mk [] [])).f0).length:Int) - (1:Int))))))=.d (.v (.bool z1)))] 3 (by kernel_rfl) (⟨len_ok (cI .i64),⟨trivial,(by subst hz1; rfl)⟩⟩) ?_
          refine T_joinc h (fun (p:Int)=>[(3,.own 75 4 (v2.map cS_para_part)),(5,.box [.d (.sl 1 (((a0.getD v1.toNat (S_ParaWord.mk [] [])).f0).map (cI .i64))),.d (.sl 1 (((a0.getD v1.toNat (S_ParaWord.mk [] [])).f1).map (cI .i64)))]),(8,.box [.d (.v (.int .i64 (((a0.getD v1.toNat (S_ParaWord.mk [] [])).f0).getD v3.toNat 0))),.d (.v (.int .i64 p)),.d (.v (.bool (v3 == (0:Int)))),.d (.v (.bool z1))]),(9,.d (.sl 2 (a0.map cS_ParaWord))),(10,.d (.v (.int .i64 (a0.length:Int)))),(11,.d (.v (.int .i64 v1))),(16,.d (.sl 1 (((a0.getD v1.toNat (S_ParaWord.mk [] [])).f0).map (cI .i64)))),(17,.d (.v (.int .i64 (((a0.getD v1.toNat (S_ParaWord.mk [] [])).f0).length:Int)))),(18,.d (.v (.int .i64 v3)))]) (fun s h=>?_) (fun v4 h=>?_)
          · refine T_reg [] [3,5,6,8,9,10,11,16,17,18,34] [(34,.d (.v (.bool (decide (v3 > (0:Int))))))] [] 2 (by kernel_rfl) (trivial) ?_
            refine T_cond (decide (v3 > (0:Int))) (by kernel_rfl) (fun hc=>?_) (fun hc=>?_)
            · have h:=cond_tt hc h
              obtain ⟨hp3,h⟩:=chk_ok h
              obtain hs:=Option.some.inj h; subst hs
              refine T_reg_end [(4,{ cs:=(cI .i64) (((a0.getD v1.toNat (S_ParaWord.mk [] [])).f1).getD (IntKind.i64.wrap (v3 - (1:Int))).toNat 0) })] [3,5,8,9,10,11,16,17,18] [(8,.box [.d (.v (.int .i64 (((a0.getD v1.toNat (S_ParaWord.mk [] [])).f0).getD v3.toNat 0))),.d (.v (.int .i64 (((a0.getD v1.toNat (S_ParaWord.mk [] [])).f1).getD (IntKind.i64.wrap (v3 - (1:Int))).toNat 0))),.d (.v (.bool (v3 == (0:Int)))),.d (.v (.bool z1))])] [(4,0≤(IntKind.i64.wrap (v3 - (1:Int)))∧(((a0.getD v1.toNat (S_ParaWord.mk [] [])).f1).map (cI .i64))[(IntKind.i64.wrap (v3 - (1:Int))).toNat]? = some ((cI .i64) (((a0.getD v1.toNat (S_ParaWord.mk [] [])).f1).getD (IntKind.i64.wrap (v3 - (1:Int))).toNat 0)))] 3 (by kernel_rfl) (idx_ok (d:=0) (cI .i64) hp3) fun a w hm=>then_norm (hm.co (cs:=[.keep [3,5,8,9,10,11,16,17,18]]) (by show _=_; kernel_rfl))
            · have h:=cond_ff hc h
              obtain hs:=Option.some.inj h; subst hs
              refine T_skip fun a w hm=>then_norm (hm.co (cs:=[.keep [3,5,8,9,10,11,16,17,18]]) (by show _=_; kernel_rfl))
          · skip
            obtain ⟨hp4,h⟩:=chk_ok h
            obtain ⟨l1,hl1,h⟩:=lett_ok h
            refine T_reg_end [(2,{ es:=some (([(S_para_part.mk (((a0.getD v1.toNat (S_ParaWord.mk [] [])).f0).getD v3.toNat 0) v4 (v3 == (0:Int)) z1)]).map cS_para_part) }),(3,{ es:=some (l1.map cS_para_part) })] [3,5,9,10,11,16,17,18] [(3,.own 75 4 (l1.map cS_para_part))] [(2,(([(S_para_part.mk (((a0.getD v1.toNat (S_ParaWord.mk [] [])).f0).getD v3.toNat 0) v4 (v3 == (0:Int)) z1)]).map cS_para_part)=(([(S_para_part.mk (((a0.getD v1.toNat (S_ParaWord.mk [] [])).f0).getD v3.toNat 0) v4 (v3 == (0:Int)) z1)]).map cS_para_part)),(0,(v2.map cS_para_part).length+(([(S_para_part.mk (((a0.getD v1.toNat (S_ParaWord.mk [] [])).f0).getD v3.toNat 0) v4 (v3 == (0:Int)) z1)]).map cS_para_part).length≤4294967296∧(v2.map cS_para_part)++(([(S_para_part.mk (((a0.getD v1.toNat (S_ParaWord.mk [] [])).f0).getD v3.toNat 0) v4 (v3 == (0:Int)) z1)]).map cS_para_part)=(l1.map cS_para_part))] 1 (by kernel_rfl) (⟨rfl,and_trans (app_ok cS_para_part hp4) (by subst hl1; rfl)⟩) fun a w hm=>inBlock_norm (then_norm (((?_:T Tryd.prog e 49 _ _ _) a w hm)))
            refine T_reg_end [] [3,5,9,10,11,16,17,18] [(18,.d (.v (.int .i64 (IntKind.i64.wrap (v3+(1:Int))))))] [] 2 (by kernel_rfl) (trivial) fun a w hm=>then_norm (⟨(l1,IntKind.i64.wrap (v3+(1:Int))),h,hm.co (cs:=[.keep [3,5,9,10,11,16,17,18]]) (by show _=_; kernel_rfl)⟩)
        · have h:=cond_ff hc h
          obtain hs:=Option.some.inj h; subst hs
          refine T_exit fun a w hm=>then_exit (then_exit (inBlock_exit (then_norm (hm.co (cs:=[.keep [3,9,10,11]]) (by show _=_; kernel_rfl)))))
      · skip
        refine fun a w hm=>inBlock_norm (then_norm (((?_:T Tryd.prog e 49 _ _ _) a w hm)))
        refine T_reg_end [] [3,9,10,11] [(11,.d (.v (.int .i64 (IntKind.i64.wrap (v1+(1:Int))))))] [] 2 (by kernel_rfl) (trivial) fun a w hm=>then_norm (⟨(v6,IntKind.i64.wrap (v1+(1:Int))),h,hm.co (cs:=[.keep [3,9,10,11]]) (by show _=_; kernel_rfl)⟩)
    · have h:=cond_ff hc h
      obtain hs:=Option.some.inj h; subst hs
      refine T_exit fun a w hm=>then_exit (then_exit (inBlock_exit (then_norm (hm.co (cs:=[.keep [3]]) (by show _=_; kernel_rfl)))))
  · skip
    refine fun a w hm=>then_norm (((?_:T Tryd.prog e 49 _ _ _) a w hm))
    refine T_reg [] [2,3] [(2,.vw (3,0))] [] 2 (by kernel_rfl) (trivial) ?_
    obtain hs:=Option.some.inj h; subst hs
    refine T_ret fun a w hm=>T_return (fr':=[(2,.own 75 4 (v7.map cS_para_part))]) [2] (by kernel_rfl) [.claim 2,.keep [2]] (by kernel_rfl) (by kernel_rfl) (by kernel_rfl) (by show _=_; kernel_rfl) (by exact trivial) a w hm
theorem para_fixed_ok {F:Nat} {a0:List S_para_part} {a1:Int} {a2:Int} {a3:S_ParaShape} {r:Int×Int} (h:para_fixed F a0 a1 a2 a3=some r):ACall Tryd.prog 28 [.d (.sl 4 (a0.map cS_para_part)),.d (.v (.int .i64 a1)),.d (.v (.int .i64 a2)),.agg (cS_ParaShape a3)] [] (.tup [.d (.v (.int .i64 r.1)),.d (.v (.int .i64 r.2))]) []:=by
  rw [para_fixed] at h
  refine ACall.intro (N:=61) Tryd.func28 rfl rfl rfl rfl rfl fun e=>?_
  refine T_reg [] [0,1,2,7] [(7,.box [.d (.v (.int .i64 a3.f0)),.d (.v (.int .i64 a3.f1)),.d (.v (.int .i64 a3.f2)),.d (.v (.int .i64 a3.f3)),.d (.v (.int .i64 a3.f4)),.d (.v (.int .i64 a3.f5))])] [] 3 (by kernel_rfl) (trivial) ?_
  refine T_reg [] [0,1,2,7,10,11] [(10,.d (.v (.int .i64 (0:Int)))),(11,.d (.v (.int .i64 (0:Int))))] [] 2 (by kernel_rfl) (trivial) ?_
  refine T_seqk ?_
  refine T_reg [] [0,1,2,7,10,11,12] [(12,.d (.v (.int .i64 a1)))] [] 2 (by kernel_rfl) (trivial) ?_
  refine T_joinct h (fun (p:Int×Int)=>[(0,.d (.sl 4 (a0.map cS_para_part))),(2,.d (.v (.int .i64 a2))),(7,.box [.d (.v (.int .i64 a3.f0)),.d (.v (.int .i64 a3.f1)),.d (.v (.int .i64 a3.f2)),.d (.v (.int .i64 a3.f3)),.d (.v (.int .i64 a3.f4)),.d (.v (.int .i64 a3.f5))]),(10,.d (.v (.int .i64 p.1))),(11,.d (.v (.int .i64 p.2)))]) (fun s h=>?_) (fun s h=>?_)
  · refine T_co [.keep [0,1,2,7,10,11,12]] ((fun (p:Int×Int×Int)=>[(0,.d (.sl 4 (a0.map cS_para_part))),(1,.d (.v (.int .i64 a1))),(2,.d (.v (.int .i64 a2))),(7,.box [.d (.v (.int .i64 a3.f0)),.d (.v (.int .i64 a3.f1)),.d (.v (.int .i64 a3.f2)),.d (.v (.int .i64 a3.f3)),.d (.v (.int .i64 a3.f4)),.d (.v (.int .i64 a3.f5))]),(10,.d (.v (.int .i64 p.1))),(11,.d (.v (.int .i64 p.2.1))),(12,.d (.v (.int .i64 p.2.2)))]) ((0:Int),(0:Int),a1)) (by show _=_; kernel_rfl) ?_
    refine T_block ?_
    refine T_loopF (ι:=Int×Int×Int) (fun (p:Int×Int×Int)=>[(0,.d (.sl 4 (a0.map cS_para_part))),(1,.d (.v (.int .i64 a1))),(2,.d (.v (.int .i64 a2))),(7,.box [.d (.v (.int .i64 a3.f0)),.d (.v (.int .i64 a3.f1)),.d (.v (.int .i64 a3.f2)),.d (.v (.int .i64 a3.f3)),.d (.v (.int .i64 a3.f4)),.d (.v (.int .i64 a3.f5))]),(10,.d (.v (.int .i64 p.1))),(11,.d (.v (.int .i64 p.2.1))),(12,.d (.v (.int .i64 p.2.2)))]) (fun n p=>para_fixed_L0 F a0 a1 a2 n p.1 p.2.1 p.2.2=some s) (fun i hh=>by simp [para_fixed_L0] at hh) (fun n p h=>?_) F ((0:Int),(0:Int),a1) h
    obtain ⟨v1,v2,v3⟩:=p
    have h:para_fixed_L0 F a0 a1 a2 (n+1) v1 v2 v3=some s:=h
    rw [para_fixed_L0] at h
    refine T_seqk ?_
    refine T_reg [] [0,1,2,7,10,11,12,16] [(16,.d (.v (.bool (decide (v3 < a2)))))] [] 3 (by kernel_rfl) (trivial) ?_
    refine T_cond (decide (v3 < a2)) (by kernel_rfl) (fun hc=>?_) (fun hc=>?_)
    · have h:=cond_tt hc h
      refine T_skip fun a w hm=>then_norm (((?_:T Tryd.prog e 61 _ _ _) a w hm))
      refine T_joinc h (fun (p:Int×Int)=>[(0,.d (.sl 4 (a0.map cS_para_part))),(1,.d (.v (.int .i64 a1))),(2,.d (.v (.int .i64 a2))),(7,.box [.d (.v (.int .i64 a3.f0)),.d (.v (.int .i64 a3.f1)),.d (.v (.int .i64 a3.f2)),.d (.v (.int .i64 a3.f3)),.d (.v (.int .i64 a3.f4)),.d (.v (.int .i64 a3.f5))]),(10,.d (.v (.int .i64 p.1))),(11,.d (.v (.int .i64 p.2))),(12,.d (.v (.int .i64 v3)))]) (fun s h=>?_) (fun s h=>?_)
      · refine T_block ?_
        obtain ⟨hp1,h⟩:=chk_ok h
        refine T_reg [(3,{ cs:=cS_para_part (a0.getD v3.toNat (S_para_part.mk 0 0 false false)) })] [0,1,2,7,10,11,12] [(10,.d (.v (.int .i64 (IntKind.i64.wrap (v1+((a0.getD v3.toNat (S_para_part.mk 0 0 false false)).f0))))))] [(3,0≤v3∧(a0.map cS_para_part)[v3.toNat]? = some (cS_para_part (a0.getD v3.toNat (S_para_part.mk 0 0 false false))))] 4 (by kernel_rfl) (idx_ok (d:=(S_para_part.mk 0 0 false false)) cS_para_part hp1) ?_
        obtain ⟨hp2,h⟩:=chk_ok h
        refine T_reg [(6,{ cs:=cS_para_part (a0.getD v3.toNat (S_para_part.mk 0 0 false false)) })] [0,1,2,7,10,11,12,35] [(35,.d (.v (.bool (bif (decide (v3 > a1)) then ((a0.getD v3.toNat (S_para_part.mk 0 0 false false)).f2) else false))))] [(4,((((decide (v3 > a1)) == true) && true)=true→True)),(0,((((decide (v3 > a1)) == true) && true)=true→True)),(0,((((decide (v3 > a1)) == true) && true)=true→0≤v3∧(a0.map cS_para_part)[v3.toNat]? = some (cS_para_part (a0.getD v3.toNat (S_para_part.mk 0 0 false false))))),(0,((((decide (v3 > a1)) == true) && true)=true→True)),(0,((((decide (v3 > a1)) == true) && true)=true→True))] 1 (by kernel_rfl) (⟨(fun hg=>trivial),(fun hg=>trivial),(fun hg=>idx_ok (d:=(S_para_part.mk 0 0 false false)) cS_para_part (hp2 hg)),(fun hg=>trivial),(fun hg=>trivial)⟩) ?_
        refine T_cond (bif (decide (v3 > a1)) then ((a0.getD v3.toNat (S_para_part.mk 0 0 false false)).f2) else false) (by kernel_rfl) (fun hc=>?_) (fun hc=>?_)
        · have h:=cond_tt hc h
          obtain hs:=Option.some.inj h; subst hs
          refine T_reg_end [] [0,1,2,7,10,11,12] [(11,.d (.v (.int .i64 (IntKind.i64.wrap (v2+(1:Int))))))] [] 3 (by kernel_rfl) (trivial) fun a w hm=>inBlock_norm (then_norm (hm.co (cs:=[.keep [0,1,2,7,10,11,12]]) (by show _=_; kernel_rfl)))
        · have h:=cond_ff hc h
          refine T_reg [] [0,1,2,7,10,11,12,40] [(40,.d (.v (.bool (decide (v3 > a1)))))] [] 3 (by kernel_rfl) (trivial) ?_
          refine T_cond (decide (v3 > a1)) (by kernel_rfl) (fun hc=>?_) (fun hc=>?_)
          · have h:=cond_tt hc h
            obtain ⟨hp3,h⟩:=chk_ok h
            obtain ⟨z1,hz1,h⟩:=lett_ok h
            obtain hs:=Option.some.inj h; subst hs
            refine T_reg_end [(3,{ cs:=cS_para_part (a0.getD v3.toNat (S_para_part.mk 0 0 false false)) }),(6,{ rw:=some (.d (.v (.int .i64 z1))) })] [0,1,2,7,10,11,12] [(10,.d (.v (.int .i64 z1)))] [(3,0≤v3∧(a0.map cS_para_part)[v3.toNat]? = some (cS_para_part (a0.getD v3.toNat (S_para_part.mk 0 0 false false)))),(2,(True)∧AV.d (.v (.int .i64 (IntKind.i64.wrap ((IntKind.i64.wrap (v1+((a0.getD v3.toNat (S_para_part.mk 0 0 false false)).f0)))+((a0.getD v3.toNat (S_para_part.mk 0 0 false false)).f1)))))=.d (.v (.int .i64 z1)))] 1 (by kernel_rfl) (⟨idx_ok (d:=(S_para_part.mk 0 0 false false)) cS_para_part hp3,⟨trivial,(by subst hz1; rfl)⟩⟩) fun a w hm=>inBlock_norm (then_norm (hm.co (cs:=[.keep [0,1,2,7,10,11,12]]) (by show _=_; kernel_rfl)))
          · have h:=cond_ff hc h
            obtain hs:=Option.some.inj h; subst hs
            refine T_skip fun a w hm=>inBlock_norm (then_norm (hm.co (cs:=[.keep [0,1,2,7,10,11,12]]) (by show _=_; kernel_rfl)))
      · obtain ⟨v4,v5⟩:=s
        try dsimp only at h
        refine T_reg_end [] [0,1,2,7,10,11,12] [(12,.d (.v (.int .i64 (IntKind.i64.wrap (v3+(1:Int))))))] [] 3 (by kernel_rfl) (trivial) fun a w hm=>then_norm (⟨(v4,v5,IntKind.i64.wrap (v3+(1:Int))),h,hm.co (cs:=[.keep [0,1,2,7,10,11,12]]) (by show _=_; kernel_rfl)⟩)
    · have h:=cond_ff hc h
      obtain hs:=Option.some.inj h; subst hs
      refine T_exit fun a w hm=>then_exit (then_exit (inBlock_exit (then_norm (hm.co (cs:=[.keep [0,2,7,10,11]]) (by show _=_; kernel_rfl)))))
  · obtain ⟨v6,v7⟩:=s
    try dsimp only at h
    refine fun a w hm=>then_norm (((?_:T Tryd.prog e 61 _ _ _) a w hm))
    refine T_joinc h (fun (p:Int)=>[(10,.d (.v (.int .i64 p))),(11,.d (.v (.int .i64 v7)))]) (fun s h=>?_) (fun v8 h=>?_)
    · obtain ⟨hp4,h⟩:=chk_ok h
      refine T_reg [(3,{ cs:=cS_para_part (a0.getD (IntKind.i64.wrap (a2 - (1:Int))).toNat (S_para_part.mk 0 0 false false)) })] [7,10,11,54] [(54,.d (.v (.bool (!((a0.getD (IntKind.i64.wrap (a2 - (1:Int))).toNat (S_para_part.mk 0 0 false false)).f3)))))] [(3,0≤(IntKind.i64.wrap (a2 - (1:Int)))∧(a0.map cS_para_part)[(IntKind.i64.wrap (a2 - (1:Int))).toNat]? = some (cS_para_part (a0.getD (IntKind.i64.wrap (a2 - (1:Int))).toNat (S_para_part.mk 0 0 false false))))] 3 (by kernel_rfl) (idx_ok (d:=(S_para_part.mk 0 0 false false)) cS_para_part hp4) ?_
      refine T_cond (!((a0.getD (IntKind.i64.wrap (a2 - (1:Int))).toNat (S_para_part.mk 0 0 false false)).f3)) (by kernel_rfl) (fun hc=>?_) (fun hc=>?_)
      · have h:=cond_tt hc h
        obtain hs:=Option.some.inj h; subst hs
        refine T_reg_end [] [10,11] [(10,.d (.v (.int .i64 (IntKind.i64.wrap (v6+a3.f4)))))] [] 5 (by kernel_rfl) (trivial) fun a w hm=>then_norm (hm.co (cs:=[.keep [10,11]]) (by show _=_; kernel_rfl))
      · have h:=cond_ff hc h
        obtain hs:=Option.some.inj h; subst hs
        refine T_skip fun a w hm=>then_norm (hm.co (cs:=[.keep [10,11]]) (by show _=_; kernel_rfl))
    · skip
      refine T_reg [] [8,9] [(8,.d (.v (.int .i64 v8))),(9,.d (.v (.int .i64 v7)))] [] 4 (by kernel_rfl) (trivial) ?_
      obtain hs:=Option.some.inj h; subst hs
      refine T_ret fun a w hm=>T_return (fr':=[(8,.d (.v (.int .i64 v8))),(9,.d (.v (.int .i64 v7)))]) [8,9] (by kernel_rfl) [.keep [8,9]] (by kernel_rfl) (by kernel_rfl) (by kernel_rfl) (by show _=_; kernel_rfl) (by exact trivial) a w hm
theorem para_cost_ok {F:Nat} {a0:List S_para_part} {a1:Int} {a2:Int} {a3:S_ParaShape} {r:Int×Bool} (h:para_cost F a0 a1 a2 a3=some r):ACall Tryd.prog 21 [.d (.sl 4 (a0.map cS_para_part)),.d (.v (.int .i64 a1)),.d (.v (.int .i64 a2)),.agg (cS_ParaShape a3)] [] (.tup [.d (.v (.int .i64 r.1)),.d (.v (.bool r.2))]) []:=by
  rw [para_cost] at h
  refine ACall.intro (N:=84) Tryd.func21 rfl rfl rfl rfl rfl fun e=>?_
  refine T_reg [] [0,1,2,7] [(7,.box [.d (.v (.int .i64 a3.f0)),.d (.v (.int .i64 a3.f1)),.d (.v (.int .i64 a3.f2)),.d (.v (.int .i64 a3.f3)),.d (.v (.int .i64 a3.f4)),.d (.v (.int .i64 a3.f5))])] [] 3 (by kernel_rfl) (trivial) ?_
  obtain ⟨y1,hy1,h⟩:=call_ok h
  refine T_reg [(4,{ res:=.tup [.d (.v (.int .i64 y1.1)),.d (.v (.int .i64 y1.2))] })] [0,2,7,10,11] [(10,.d (.v (.int .i64 y1.1))),(11,.d (.v (.int .i64 y1.2)))] [(4,ACall Tryd.prog 28 [.d (.sl 4 (a0.map cS_para_part)),.d (.v (.int .i64 a1)),.d (.v (.int .i64 a2)),.agg (cS_ParaShape a3)] [] (.tup [.d (.v (.int .i64 y1.1)),.d (.v (.int .i64 y1.2))]) [])] 5 (by kernel_rfl) (para_fixed_ok hy1) ?_
  refine T_reg [] [0,2,7,10,11,12] [(12,.d (.v (.int .i64 (IntKind.i64.wrap ((IntKind.i64.wrap (a3.f0 - y1.1)) - (IntKind.i64.wrap (y1.2 * a3.f1)))))))] [] 10 (by kernel_rfl) (trivial) ?_
  refine T_reg [(2,{ rw:=some (.d (.v (.int .i64 (a0.length:Int)))) })] [0,2,7,10,11,12,13] [(13,.d (.v (.bool (a2 == (a0.length:Int)))))] [(2,True∧AV.d (.v (.int .i64 ((a0.map cS_para_part).length:Int)))=.d (.v (.int .i64 (a0.length:Int))))] 2 (by kernel_rfl) (len_ok cS_para_part) ?_
  refine T_seqk ?_
  obtain ⟨z1,hz1,h⟩:=lett_ok h
  obtain ⟨z2,hz2,h⟩:=lett_ok h
  refine T_reg [(26,{ rw:=some (.d (.v (.bool z1))) }),(27,{ rw:=some (.d (.v (.bool z2))) })] [0,2,7,12,13,63] [(63,.d (.v (.bool z2)))] [(10,((((decide ((IntKind.i64.wrap (y1.1+(IntKind.i64.wrap (y1.2 * a3.f2)))) > a3.f0)) == false) && true)=true→True)),(0,((((decide ((IntKind.i64.wrap (y1.1+(IntKind.i64.wrap (y1.2 * a3.f2)))) > a3.f0)) == false) && true)=true→True)),(0,((((decide ((IntKind.i64.wrap (y1.1+(IntKind.i64.wrap (y1.2 * a3.f2)))) > a3.f0)) == false) && true)=true→True)),(0,((((!(a2 == (a0.length:Int))) == true) && (((decide ((IntKind.i64.wrap (y1.1+(IntKind.i64.wrap (y1.2 * a3.f2)))) > a3.f0)) == false) && true))=true→True)),(0,((((!(a2 == (a0.length:Int))) == true) && (((decide ((IntKind.i64.wrap (y1.1+(IntKind.i64.wrap (y1.2 * a3.f2)))) > a3.f0)) == false) && true))=true→True)),(0,((((decide ((IntKind.i64.wrap (y1.1+(IntKind.i64.wrap (y1.2 * a3.f2)))) > a3.f0)) == false) && true)=true→True)),(0,((((decide ((IntKind.i64.wrap (y1.1+(IntKind.i64.wrap (y1.2 * a3.f2)))) > a3.f0)) == false) && true)=true→True)),(0,((((bif (!(a2 == (a0.length:Int))) then (decide (y1.2 > (0:Int))) else false) == true) && (((decide ((IntKind.i64.wrap (y1.1+(IntKind.i64.wrap (y1.2 * a3.f2)))) > a3.f0)) == false) && true))=true→True)),(0,((((bif (!(a2 == (a0.length:Int))) then (decide (y1.2 > (0:Int))) else false) == true) && (((decide ((IntKind.i64.wrap (y1.1+(IntKind.i64.wrap (y1.2 * a3.f2)))) > a3.f0)) == false) && true))=true→True)),(0,((((bif (!(a2 == (a0.length:Int))) then (decide (y1.2 > (0:Int))) else false) == true) && (((decide ((IntKind.i64.wrap (y1.1+(IntKind.i64.wrap (y1.2 * a3.f2)))) > a3.f0)) == false) && true))=true→True)),(0,((((bif (!(a2 == (a0.length:Int))) then (decide (y1.2 > (0:Int))) else false) == true) && (((decide ((IntKind.i64.wrap (y1.1+(IntKind.i64.wrap (y1.2 * a3.f2)))) > a3.f0)) == false) && true))=true→True)),(0,((((bif (!(a2 == (a0.length:Int))) then (decide (y1.2 > (0:Int))) else false) == true) && (((decide ((IntKind.i64.wrap (y1.1+(IntKind.i64.wrap (y1.2 * a3.f2)))) > a3.f0)) == false) && true))=true→True)),(0,((((bif (!(a2 == (a0.length:Int))) then (decide (y1.2 > (0:Int))) else false) == true) && (((decide ((IntKind.i64.wrap (y1.1+(IntKind.i64.wrap (y1.2 * a3.f2)))) > a3.f0)) == false) && true))=true→True)),(0,((((bif (!(a2 == (a0.length:Int))) then (decide (y1.2 > (0:Int))) else false) == true) && (((decide ((IntKind.i64.wrap (y1.1+(IntKind.i64.wrap (y1.2 * a3.f2)))) > a3.f0)) == false) && true))=true→True)),(0,((((bif (!(a2 == (a0.length:Int))) then (decide (y1.2 > (0:Int))) else false) == true) && (((decide ((IntKind.i64.wrap (y1.1+(IntKind.i64.wrap (y1.2 * a3.f2)))) > a3.f0)) == false) && true))=true→True)),(0,((((bif (!(a2 == (a0.length:Int))) then (decide (y1.2 > (0:Int))) else false) == true) && (((decide ((IntKind.i64.wrap (y1.1+(IntKind.i64.wrap (y1.2 * a3.f2)))) > a3.f0)) == false) && true))=true→True)),(0,((((decide ((IntKind.i64.wrap (y1.1+(IntKind.i64.wrap (y1.2 * a3.f2)))) > a3.f0)) == false) && true)=true→(True)∧AV.d (.v (.bool (bif (bif (!(a2 == (a0.length:Int))) then (decide (y1.2 > (0:Int))) else false) then (decide ((IntKind.i64.wrap (y1.1+(IntKind.i64.wrap (y1.2 * a3.f3)))) < a3.f0)) else false)))=.d (.v (.bool z1)))),(0,(True)∧AV.d (.v (.bool (bif (decide ((IntKind.i64.wrap (y1.1+(IntKind.i64.wrap (y1.2 * a3.f2)))) > a3.f0)) then true else z1)))=.d (.v (.bool z2)))] 0 (by kernel_rfl) (⟨(fun hg=>trivial),(fun hg=>trivial),(fun hg=>trivial),(fun hg=>trivial),(fun hg=>trivial),(fun hg=>trivial),(fun hg=>trivial),(fun hg=>trivial),(fun hg=>trivial),(fun hg=>trivial),(fun hg=>trivial),(fun hg=>trivial),(fun hg=>trivial),(fun hg=>trivial),(fun hg=>trivial),(fun hg=>trivial),(fun hg=>⟨trivial,(by subst hz1; rfl)⟩),⟨trivial,(by subst hz2; rfl)⟩⟩) ?_
  refine T_cond z2 (by kernel_rfl) (fun hc=>?_) (fun hc=>?_)
  · have h:=cond_tt hc h
    refine T_reg [] [8,9] [(8,.d (.v (.int .i64 (0:Int)))),(9,.d (.v (.bool false)))] [] 2 (by kernel_rfl) (trivial) ?_
    obtain hs:=Option.some.inj h; subst hs
    refine T_ret fun a w hm=>then_ret (T_return (fr':=[(8,.d (.v (.int .i64 (0:Int)))),(9,.d (.v (.bool false)))]) [8,9] (by kernel_rfl) [.keep [8,9]] (by kernel_rfl) (by kernel_rfl) (by kernel_rfl) (by show _=_; kernel_rfl) (by exact trivial) a w hm)
  · have h:=cond_ff hc h
    refine T_skip fun a w hm=>then_norm (((?_:T Tryd.prog e 84 _ _ _) a w hm))
    obtain ⟨z3,hz3,h⟩:=lett_ok h
    refine T_reg [(2,{ rw:=some (.d (.v (.int .i64 z3))) })] [0,2,7,12,13,14] [(14,.d (.v (.int .i64 z3)))] [(2,(True)∧AV.d (.v (.int .i64 (IntKind.i64.wrap ((IntKind.i64.wrap ((IntKind.i64.wrap (a3.f0 - y1.1)) - (IntKind.i64.wrap (y1.2 * a3.f1)))) * (IntKind.i64.wrap ((IntKind.i64.wrap (a3.f0 - y1.1)) - (IntKind.i64.wrap (y1.2 * a3.f1))))))))=.d (.v (.int .i64 z3)))] 1 (by kernel_rfl) (⟨trivial,(by subst hz3; rfl)⟩) ?_
    refine T_joinc h (fun (p:Int)=>[(0,.d (.sl 4 (a0.map cS_para_part))),(2,.d (.v (.int .i64 a2))),(7,.box [.d (.v (.int .i64 a3.f0)),.d (.v (.int .i64 a3.f1)),.d (.v (.int .i64 a3.f2)),.d (.v (.int .i64 a3.f3)),.d (.v (.int .i64 a3.f4)),.d (.v (.int .i64 a3.f5))]),(14,.d (.v (.int .i64 p)))]) (fun s h=>?_) (fun v1 h=>?_)
    · obtain ⟨z4,hz4,h⟩:=lett_ok h
      refine T_reg [(3,{ rw:=some (.d (.v (.bool z4))) })] [0,2,7,14,71] [(71,.d (.v (.bool (bif (a2 == (a0.length:Int)) then z4 else false))))] [(2,((((a2 == (a0.length:Int)) == true) && true)=true→True)),(0,((((a2 == (a0.length:Int)) == true) && true)=true→(True)∧AV.d (.v (.bool (decide ((IntKind.i64.wrap ((IntKind.i64.wrap (a3.f0 - y1.1)) - (IntKind.i64.wrap (y1.2 * a3.f1)))) > (0:Int)))))=.d (.v (.bool z4))))] 1 (by kernel_rfl) (⟨(fun hg=>trivial),(fun hg=>⟨trivial,(by subst hz4; rfl)⟩)⟩) ?_
      refine T_cond (bif (a2 == (a0.length:Int)) then z4 else false) (by kernel_rfl) (fun hc=>?_) (fun hc=>?_)
      · have h:=cond_tt hc h
        obtain hs:=Option.some.inj h; subst hs
        refine T_reg_end [] [0,2,7,14] [(14,.d (.v (.int .i64 (0:Int))))] [] 1 (by kernel_rfl) (trivial) fun a w hm=>then_norm (hm.co (cs:=[.keep [0,2,7,14]]) (by show _=_; kernel_rfl))
      · have h:=cond_ff hc h
        obtain hs:=Option.some.inj h; subst hs
        refine T_skip fun a w hm=>then_norm (hm.co (cs:=[.keep [0,2,7,14]]) (by show _=_; kernel_rfl))
    · skip
      refine T_joinc h (fun (p:Int)=>[(14,.d (.v (.int .i64 p)))]) (fun s h=>?_) (fun v2 h=>?_)
      · obtain ⟨hp1,h⟩:=chk_ok h
        refine T_reg [(3,{ cs:=cS_para_part (a0.getD (IntKind.i64.wrap (a2 - (1:Int))).toNat (S_para_part.mk 0 0 false false)) })] [7,14,78] [(78,.d (.v (.bool (!((a0.getD (IntKind.i64.wrap (a2 - (1:Int))).toNat (S_para_part.mk 0 0 false false)).f3)))))] [(3,0≤(IntKind.i64.wrap (a2 - (1:Int)))∧(a0.map cS_para_part)[(IntKind.i64.wrap (a2 - (1:Int))).toNat]? = some (cS_para_part (a0.getD (IntKind.i64.wrap (a2 - (1:Int))).toNat (S_para_part.mk 0 0 false false))))] 3 (by kernel_rfl) (idx_ok (d:=(S_para_part.mk 0 0 false false)) cS_para_part hp1) ?_
        refine T_cond (!((a0.getD (IntKind.i64.wrap (a2 - (1:Int))).toNat (S_para_part.mk 0 0 false false)).f3)) (by kernel_rfl) (fun hc=>?_) (fun hc=>?_)
        · have h:=cond_tt hc h
          obtain hs:=Option.some.inj h; subst hs
          refine T_reg_end [] [14] [(14,.d (.v (.int .i64 (IntKind.i64.wrap (v1+a3.f5)))))] [] 5 (by kernel_rfl) (trivial) fun a w hm=>then_norm (hm.co (cs:=[.keep [14]]) (by show _=_; kernel_rfl))
        · have h:=cond_ff hc h
          obtain hs:=Option.some.inj h; subst hs
          refine T_skip fun a w hm=>then_norm (hm.co (cs:=[.keep [14]]) (by show _=_; kernel_rfl))
      · skip
        refine T_reg [] [8,9] [(8,.d (.v (.int .i64 v2))),(9,.d (.v (.bool true)))] [] 3 (by kernel_rfl) (trivial) ?_
        obtain hs:=Option.some.inj h; subst hs
        refine T_ret fun a w hm=>T_return (fr':=[(8,.d (.v (.int .i64 v2))),(9,.d (.v (.bool true)))]) [8,9] (by kernel_rfl) [.keep [8,9]] (by kernel_rfl) (by kernel_rfl) (by kernel_rfl) (by show _=_; kernel_rfl) (by exact trivial) a w hm
theorem para_line_ok {F:Nat} {a0:List S_para_part} {a1:Int} {a2:Int} {a3:S_ParaShape} {r:S_ParaLine} (h:para_line F a0 a1 a2 a3=some r):ACall Tryd.prog 22 [.d (.sl 4 (a0.map cS_para_part)),.d (.v (.int .i64 a1)),.d (.v (.int .i64 a2)),.agg (cS_ParaShape a3)] [] (.agg (cS_ParaLine r)) []:=by
  rw [para_line] at h
  refine ACall.intro (N:=69) Tryd.func22 rfl rfl rfl rfl rfl fun e=>?_
  refine T_reg [] [0,1,2,7,8] [(7,.box [.d (.v (.int .i64 a3.f0)),.d (.v (.int .i64 a3.f1)),.d (.v (.int .i64 a3.f2)),.d (.v (.int .i64 a3.f3)),.d (.v (.int .i64 a3.f4)),.d (.v (.int .i64 a3.f5))]),(8,.box [.d (.v (.int .i64 0)),.d (.v (.int .i64 0)),.d (.v (.bool false)),.own 3 1 ([].map (cI .i64))])] [] 2 (by kernel_rfl) (trivial) ?_
  obtain ⟨y1,hy1,h⟩:=call_ok h
  refine T_reg [(4,{ res:=.tup [.d (.v (.int .i64 y1.1)),.d (.v (.int .i64 y1.2))] })] [0,1,2,7,8,9,10] [(9,.d (.v (.int .i64 y1.1))),(10,.d (.v (.int .i64 y1.2)))] [(4,ACall Tryd.prog 28 [.d (.sl 4 (a0.map cS_para_part)),.d (.v (.int .i64 a1)),.d (.v (.int .i64 a2)),.agg (cS_ParaShape a3)] [] (.tup [.d (.v (.int .i64 y1.1)),.d (.v (.int .i64 y1.2))]) [])] 5 (by kernel_rfl) (para_fixed_ok hy1) ?_
  obtain ⟨hp1,h⟩:=chk_ok h
  refine T_region [(5,{ cs:=cS_para_part (a0.getD (IntKind.i64.wrap (a2 - (1:Int))).toNat (S_para_part.mk 0 0 false false)) }),(9,{ take:=[0] })] [0,2,7,8,9,10,11] [.nilc 11 3 3 1,.keep [0,2,7,8,9,10,11]] [(0,.d (.sl 4 (a0.map cS_para_part))),(2,.d (.v (.int .i64 a2))),(7,.box [.d (.v (.int .i64 a3.f0)),.d (.v (.int .i64 a3.f1)),.d (.v (.int .i64 a3.f2)),.d (.v (.int .i64 a3.f3)),.d (.v (.int .i64 a3.f4)),.d (.v (.int .i64 a3.f5))]),(8,.box [.d (.v (.int .i64 0)),.d (.v (.int .i64 0)),.d (.v (.bool false)),.own 3 1 ([].map (cI .i64))]),(9,.d (.v (.int .i64 y1.1))),(10,.d (.v (.int .i64 y1.2))),(11,.box [.d (.v (.int .i64 a1)),.d (.v (.int .i64 a2)),.d (.v (.bool (!((a0.getD (IntKind.i64.wrap (a2 - (1:Int))).toNat (S_para_part.mk 0 0 false false)).f3)))),.own 3 1 ([].map (cI .i64))])] [(5,0≤(IntKind.i64.wrap (a2 - (1:Int)))∧(a0.map cS_para_part)[(IntKind.i64.wrap (a2 - (1:Int))).toNat]? = some (cS_para_part (a0.getD (IntKind.i64.wrap (a2 - (1:Int))).toNat (S_para_part.mk 0 0 false false))))] 6 (by kernel_rfl) (idx_ok (d:=(S_para_part.mk 0 0 false false)) cS_para_part hp1) ?_
  refine T_reg [] [0,2,7,8,10,11,12] [(12,.d (.v (.int .i64 (IntKind.i64.wrap (a3.f0 - y1.1)))))] [] 5 (by kernel_rfl) (trivial) ?_
  refine T_joinc h (fun (p:Int)=>[(8,.box [.d (.v (.int .i64 0)),.d (.v (.int .i64 0)),.d (.v (.bool false)),.own 3 1 ([].map (cI .i64))]),(10,.d (.v (.int .i64 y1.2))),(11,.box [.d (.v (.int .i64 a1)),.d (.v (.int .i64 a2)),.d (.v (.bool (!((a0.getD (IntKind.i64.wrap (a2 - (1:Int))).toNat (S_para_part.mk 0 0 false false)).f3)))),.own 3 1 ([].map (cI .i64))]),(12,.d (.v (.int .i64 p)))]) (fun s h=>?_) (fun v1 h=>?_)
  · refine T_reg [(2,{ rw:=some (.d (.v (.int .i64 (a0.length:Int)))) })] [7,8,10,11,12,39] [(39,.d (.v (.bool (a2 == (a0.length:Int)))))] [(2,True∧AV.d (.v (.int .i64 ((a0.map cS_para_part).length:Int)))=.d (.v (.int .i64 (a0.length:Int))))] 1 (by kernel_rfl) (len_ok cS_para_part) ?_
    refine T_cond (a2 == (a0.length:Int)) (by kernel_rfl) (fun hc=>?_) (fun hc=>?_)
    · have h:=cond_tt hc h
      obtain ⟨z2,hz1,h⟩:=lett_ok h
      obtain hs:=Option.some.inj h; subst hs
      refine T_reg_end [(5,{ rw:=some (.d (.v (.int .i64 z2))) })] [8,10,11,12] [(12,.d (.v (.int .i64 z2)))] [(5,(True)∧AV.d (.v (.int .i64 (if (IntKind.i64.wrap (y1.2 * a3.f1)) < (IntKind.i64.wrap (a3.f0 - y1.1)) then (IntKind.i64.wrap (y1.2 * a3.f1)) else (IntKind.i64.wrap (a3.f0 - y1.1)))))=.d (.v (.int .i64 z2)))] 1 (by kernel_rfl) (⟨trivial,(by subst hz1; rfl)⟩) fun a w hm=>then_norm (hm.co (cs:=[.keep [8,10,11,12]]) (by show _=_; kernel_rfl))
    · have h:=cond_ff hc h
      obtain hs:=Option.some.inj h; subst hs
      refine T_skip fun a w hm=>then_norm (hm.co (cs:=[.keep [8,10,11,12]]) (by show _=_; kernel_rfl))
  · skip
    refine T_seqk ?_
    refine T_reg [] [8,10,11,12,46,47] [(46,.d (.v (.int .i64 y1.2))),(47,.d (.v (.int .i64 (0:Int))))] [] 2 (by kernel_rfl) (trivial) ?_
    refine T_joinct h (fun (p:(List Int))=>[(8,.box [.d (.v (.int .i64 0)),.d (.v (.int .i64 0)),.d (.v (.bool false)),.own 3 1 ([].map (cI .i64))]),(11,.box [.d (.v (.int .i64 a1)),.d (.v (.int .i64 a2)),.d (.v (.bool (!((a0.getD (IntKind.i64.wrap (a2 - (1:Int))).toNat (S_para_part.mk 0 0 false false)).f3)))),.own 3 1 (p.map (cI .i64))])]) (fun s h=>?_) (fun v4 h=>?_)
    · refine T_co [.keep [8,10,11,12,46,47]] ((fun (p:(List Int)×Int)=>[(8,.box [.d (.v (.int .i64 0)),.d (.v (.int .i64 0)),.d (.v (.bool false)),.own 3 1 ([].map (cI .i64))]),(10,.d (.v (.int .i64 y1.2))),(11,.box [.d (.v (.int .i64 a1)),.d (.v (.int .i64 a2)),.d (.v (.bool (!((a0.getD (IntKind.i64.wrap (a2 - (1:Int))).toNat (S_para_part.mk 0 0 false false)).f3)))),.own 3 1 (p.1.map (cI .i64))]),(12,.d (.v (.int .i64 v1))),(46,.d (.v (.int .i64 y1.2))),(47,.d (.v (.int .i64 p.2)))]) ([],(0:Int))) (by show _=_; kernel_rfl) ?_
      refine T_block ?_
      refine T_loopF (ι:=(List Int)×Int) (fun (p:(List Int)×Int)=>[(8,.box [.d (.v (.int .i64 0)),.d (.v (.int .i64 0)),.d (.v (.bool false)),.own 3 1 ([].map (cI .i64))]),(10,.d (.v (.int .i64 y1.2))),(11,.box [.d (.v (.int .i64 a1)),.d (.v (.int .i64 a2)),.d (.v (.bool (!((a0.getD (IntKind.i64.wrap (a2 - (1:Int))).toNat (S_para_part.mk 0 0 false false)).f3)))),.own 3 1 (p.1.map (cI .i64))]),(12,.d (.v (.int .i64 v1))),(46,.d (.v (.int .i64 y1.2))),(47,.d (.v (.int .i64 p.2)))]) (fun n p=>para_line_L0 F y1 v1 n p.1 p.2=some s) (fun i hh=>by simp [para_line_L0] at hh) (fun n p h=>?_) F ([],(0:Int)) h
      obtain ⟨v2,v3⟩:=p
      have h:para_line_L0 F y1 v1 (n+1) v2 v3=some s:=h
      rw [para_line_L0] at h
      refine T_reg [] [8,10,11,12,46,47,48] [(48,.d (.v (.bool (decide (v3 < y1.2)))))] [] 1 (by kernel_rfl) (trivial) ?_
      refine T_seqk ?_
      refine T_cond (decide (v3 < y1.2)) (by kernel_rfl) (fun hc=>?_) (fun hc=>?_)
      · have h:=cond_tt hc h
        refine T_skip fun a w hm=>then_norm (((?_:T Tryd.prog e 69 _ _ _) a w hm))
        refine T_seqk ?_
        refine T_block ?_
        refine T_reg [] [8,10,11,12,13,46,47] [(13,.d (.v (.int .i64 v3)))] [] 2 (by kernel_rfl) (trivial) ?_
        obtain ⟨hp2,h⟩:=chk_ok h
        obtain ⟨hp3,h⟩:=chk_ok h
        obtain ⟨z1,hz2,h⟩:=lett_ok h
        obtain ⟨hp4,h⟩:=chk_ok h
        refine T_drawX_end mixed 2 (.take 0 (.take 2 (.take 3 (.take 4 (.take 5 (.take 6 (.take 7 (.take 8 (.take 9 (.take 10 (.take 11 (.take 12 (.take 13 (.all (.alt 1 (.all (.alt 14 (.all (.alt 15 (.take 16 (.all (.alt 17 .done .stop))) .stop)) .stop)) (.alt 14 (.take 1 (.all (.alt 15 (.take 16 (.all (.alt 17 .done .stop))) .stop))) .stop)))))))))))))))) ([0,1,0,4,0,24,0,96,0,0,768,0,3072,4224,8192,16386,65535,131071],[0,1,0,4,0,24,0,96,0,0,768,0,3072,4224,8192,16386,0,98304]) 81919 [(13,{ rw:=some (.d (.v (.int .i64 z1))) }),(14,{ es:=some (([z1]).map (cI .i64)) }),(15,{ es:=some ((v2++([z1])).map (cI .i64)) })] [8,10,11,12,46,47] [] [(8,.box [.d (.v (.int .i64 0)),.d (.v (.int .i64 0)),.d (.v (.bool false)),.own 3 1 ([].map (cI .i64))]),(10,.d (.v (.int .i64 y1.2))),(11,.box [.d (.v (.int .i64 a1)),.d (.v (.int .i64 a2)),.d (.v (.bool (!((a0.getD (IntKind.i64.wrap (a2 - (1:Int))).toNat (S_para_part.mk 0 0 false false)).f3)))),.own 3 1 ((v2++([z1])).map (cI .i64))]),(12,.d (.v (.int .i64 v1))),(46,.d (.v (.int .i64 y1.2))),(47,.d (.v (.int .i64 v3)))] ((fun (o7:Prop)=>fun (o12:Prop)=>fun (o13:Prop)=>fun (o14:Prop)=>fun (o15:Prop)=>[(6,o7),(4,o12),(0,o13),(1,o14),(0,o15),(2,o14),(1,o15)]) (y1.2≠0) (y1.2≠0) ((True)∧AV.d (.v (.int .i64 (IntKind.i64.wrap ((IntKind.i64.wrap ((IntKind.i64.wrap ((IntKind.i64.wrap (v3+(1:Int))) * v1)).tdiv y1.2)) - (IntKind.i64.wrap ((IntKind.i64.wrap (v3 * v1)).tdiv y1.2))))))=.d (.v (.int .i64 z1))) ((([z1]).map (cI .i64))=(([z1]).map (cI .i64))) ((v2.map (cI .i64)).length+(([z1]).map (cI .i64)).length≤4294967296∧(v2.map (cI .i64))++(([z1]).map (cI .i64))=((v2++([z1])).map (cI .i64)))) 2 (by kernel_rfl) (by kernel_rfl) (by kernel_rfl) (have p7:=hp2; have p12:=hp3; have p13:=⟨trivial,(by subst hz2; rfl)⟩; have p14:=rfl; have p15:=app_ok (cI .i64) hp4; ⟨p7,p12,p13,p14,p15,p14,p15⟩) fun a w hm=>inBlock_norm (then_norm (((?_:T Tryd.prog e 69 _ _ _) a w hm)))
        refine T_reg_end [] [8,10,11,12,46,47] [(47,.d (.v (.int .i64 (IntKind.i64.wrap (v3+(1:Int))))))] [] 2 (by kernel_rfl) (trivial) fun a w hm=>then_norm (⟨((v2++([z1])),IntKind.i64.wrap (v3+(1:Int))),h,hm.co (cs:=[.keep [8,10,11,12,46,47]]) (by show _=_; kernel_rfl)⟩)
      · have h:=cond_ff hc h
        obtain hs:=Option.some.inj h; subst hs
        refine T_exit fun a w hm=>then_exit (then_exit (inBlock_exit (then_norm (hm.co (cs:=[.keep [8,11]]) (by show _=_; kernel_rfl)))))
    · skip
      refine fun a w hm=>then_norm (((?_:T Tryd.prog e 69 _ _ _) a w hm))
      refine T_reg [(0,{ frz:=[(11,4)] })] [8] [(8,.box [.d (.v (.int .i64 a1)),.d (.v (.int .i64 a2)),.d (.v (.bool (!((a0.getD (IntKind.i64.wrap (a2 - (1:Int))).toNat (S_para_part.mk 0 0 false false)).f3)))),.d (.sl 1 (v4.map (cI .i64)))])] [] 2 (by kernel_rfl) (trivial) ?_
      obtain hs:=Option.some.inj h; subst hs
      refine T_ret fun a w hm=>T_returnC (fr':=[(8,.box [.d (.v (.int .i64 a1)),.d (.v (.int .i64 a2)),.d (.v (.bool (!((a0.getD (IntKind.i64.wrap (a2 - (1:Int))).toNat (S_para_part.mk 0 0 false false)).f3)))),.d (.sl 1 (v4.map (cI .i64)))])]) (ts:=[69]) (N':=70) (fr2:=[(69,.agg (cS_ParaLine (S_ParaLine.mk a1 a2 (!((a0.getD (IntKind.i64.wrap (a2 - (1:Int))).toNat (S_para_part.mk 0 0 false false)).f3)) v4)))]++[(8,.box [.d (.v (.int .i64 a1)),.d (.v (.int .i64 a2)),.d (.v (.bool (!((a0.getD (IntKind.i64.wrap (a2 - (1:Int))).toNat (S_para_part.mk 0 0 false false)).f3)))),.d (.sl 1 (v4.map (cI .i64)))])]) [.keep [8]] (by kernel_rfl) (by kernel_rfl) (by kernel_rfl) (by kernel_rfl) (by show _=_; kernel_rfl) (by exact trivial) a w hm
theorem para_Break_ok {F:Nat} {a0:List S_ParaWord} {a1:S_ParaShape} {r:(List S_ParaLine)×Int×Int} (h:para_Break F a0 a1=some r):ACall Tryd.prog 13 [.d (.sl 2 (a0.map cS_ParaWord)),.agg (cS_ParaShape a1)] [] (.tup [.own 43 4 (r.1.map cS_ParaLine),.d (.v (.int .i64 r.2.1)),.d (.v (.int .i64 r.2.2))]) []:=by
  rw [para_Break] at h
  refine ACall.intro (N:=119) Tryd.func13 rfl rfl rfl rfl rfl fun e=>?_
  refine T_reg [] [0,3] [(3,.box [.d (.v (.int .i64 a1.f0)),.d (.v (.int .i64 a1.f1)),.d (.v (.int .i64 a1.f2)),.d (.v (.int .i64 a1.f3)),.d (.v (.int .i64 a1.f4)),.d (.v (.int .i64 a1.f5))])] [] 4 (by kernel_rfl) (trivial) ?_
  refine T_seqk ?_
  obtain ⟨y4,hy1,h⟩:=call_ok h
  refine T_reg [(2,{ res:=.d (.v (.int .i64 y4)) })] [0,3,7] [(7,.d (.v (.int .i64 y4)))] [(2,ACall Tryd.prog 10 [.d (.sl 2 (a0.map cS_ParaWord)),.agg (cS_ParaShape a1)] [] (.d (.v (.int .i64 y4))) [])] 1 (by kernel_rfl) (para_Check_ok hy1) ?_
  refine T_reg [] [0,3,7,22] [(22,.d (.v (.bool (y4 != (0:Int)))))] [] 2 (by kernel_rfl) (trivial) ?_
  refine T_cond (y4 != (0:Int)) (by kernel_rfl) (fun hc=>?_) (fun hc=>?_)
  · have h:=cond_tt hc h
    refine T_reg [] [4,5,6] [(4,.own 43 4 ([].map cS_ParaLine)),(5,.d (.v (.int .i64 (0:Int)))),(6,.d (.v (.int .i64 y4)))] [] 4 (by kernel_rfl) (trivial) ?_
    obtain hs:=Option.some.inj h; subst hs
    refine T_ret fun a w hm=>then_ret (T_return (fr':=[(4,.own 43 4 ([].map cS_ParaLine)),(5,.d (.v (.int .i64 (0:Int)))),(6,.d (.v (.int .i64 y4)))]) [4,5,6] (by kernel_rfl) [.keep [4,5,6]] (by kernel_rfl) (by kernel_rfl) (by kernel_rfl) (by show _=_; kernel_rfl) (by exact trivial) a w hm)
  · have h:=cond_ff hc h
    refine T_skip fun a w hm=>then_norm (((?_:T Tryd.prog e 119 _ _ _) a w hm))
    obtain ⟨y1,hy2,h⟩:=call_ok h
    refine T_reg [(1,{ res:=.own 75 4 (y1.map cS_para_part) })] [3,8] [(8,.own 75 4 (y1.map cS_para_part))] [(1,ACall Tryd.prog 20 [.d (.sl 2 (a0.map cS_ParaWord))] [] (.own 75 4 (y1.map cS_para_part)) [])] 1 (by kernel_rfl) (para_flat_ok hy2) ?_
    refine T_reg [(1,{ rw:=some (.d (.v (.int .i64 (y1.length:Int)))) })] [3,8,9] [(9,.d (.v (.int .i64 (y1.length:Int))))] [(1,True∧AV.d (.v (.int .i64 ((y1.map cS_para_part).length:Int)))=.d (.v (.int .i64 (y1.length:Int))))] 1 (by kernel_rfl) (len_ok cS_para_part) ?_
    obtain ⟨hp1,h⟩:=chk_ok h
    obtain ⟨hp2,h⟩:=chk_ok h
    refine T_drawX mixed 2 (.take 0 (.take 1 (.take 3 (.all (.alt 2 (.take 5 (.all (.alt 4 (.take 6 .done) .stop))) (.alt 4 (.all (.alt 2 (.take 5 (.take 6 .done)) .stop)) .stop)))))) ([0,1,2,0,8,7,63],[0,1,2,0,8,4,16]) 107 [(2,{ es:=some ((List.replicate (IntKind.i64.wrap ((y1.length:Int)+(1:Int))).toNat 0).map (cI .i64)) }),(4,{ es:=some ((List.replicate (y1.length:Int).toNat 0).map (cI .i64)) })] [3,8,9,10,11] [] [(3,.box [.d (.v (.int .i64 a1.f0)),.d (.v (.int .i64 a1.f1)),.d (.v (.int .i64 a1.f2)),.d (.v (.int .i64 a1.f3)),.d (.v (.int .i64 a1.f4)),.d (.v (.int .i64 a1.f5))]),(8,.own 75 4 (y1.map cS_para_part)),(9,.d (.v (.int .i64 (y1.length:Int)))),(10,.own 3 1 ((List.replicate (IntKind.i64.wrap ((y1.length:Int)+(1:Int))).toNat 0).map (cI .i64))),(11,.own 3 1 ((List.replicate (y1.length:Int).toNat 0).map (cI .i64)))] ((fun (o2:Prop)=>fun (o4:Prop)=>[(3,o2),(1,o4),(1,o4),(0,o2)]) ((0≤(IntKind.i64.wrap ((y1.length:Int)+(1:Int)))∧(IntKind.i64.wrap ((y1.length:Int)+(1:Int)))≤(IntKind.i64.wrap ((y1.length:Int)+(1:Int)))∧(IntKind.i64.wrap ((y1.length:Int)+(1:Int)))≤9223372036854775807∧((8:Nat):Int) * (IntKind.i64.wrap ((y1.length:Int)+(1:Int)))≤281474976710656)∧List.replicate (IntKind.i64.wrap ((y1.length:Int)+(1:Int))).toNat ((cI .i64) 0)=((List.replicate (IntKind.i64.wrap ((y1.length:Int)+(1:Int))).toNat 0).map (cI .i64))) ((0≤(y1.length:Int)∧(y1.length:Int)≤(y1.length:Int)∧(y1.length:Int)≤9223372036854775807∧((8:Nat):Int) * (y1.length:Int)≤281474976710656)∧List.replicate (y1.length:Int).toNat ((cI .i64) 0)=((List.replicate (y1.length:Int).toNat 0).map (cI .i64)))) 2 (by kernel_rfl) (by kernel_rfl) (by kernel_rfl) (have p2:=⟨hp1,repl_ok (cI .i64) rfl⟩; have p4:=⟨hp2,repl_ok (cI .i64) rfl⟩; ⟨p2,p4,p4,p2⟩) ?_
    refine T_seqk ?_
    refine T_reg [] [3,8,9,10,11,12] [(12,.d (.v (.int .i64 (IntKind.i64.wrap ((y1.length:Int) - (1:Int))))))] [] 3 (by kernel_rfl) (trivial) ?_
    refine T_joinct h (fun (p:(List Int)×(List Int))=>[(3,.box [.d (.v (.int .i64 a1.f0)),.d (.v (.int .i64 a1.f1)),.d (.v (.int .i64 a1.f2)),.d (.v (.int .i64 a1.f3)),.d (.v (.int .i64 a1.f4)),.d (.v (.int .i64 a1.f5))]),(8,.own 75 4 (y1.map cS_para_part)),(9,.d (.v (.int .i64 (y1.length:Int)))),(10,.own 3 1 (p.1.map (cI .i64))),(11,.own 3 1 (p.2.map (cI .i64)))]) (fun s h=>?_) (fun s h=>?_)
    · refine T_co [.keep [3,8,9,10,11,12]] ((fun (p:(List Int)×(List Int)×Int)=>[(3,.box [.d (.v (.int .i64 a1.f0)),.d (.v (.int .i64 a1.f1)),.d (.v (.int .i64 a1.f2)),.d (.v (.int .i64 a1.f3)),.d (.v (.int .i64 a1.f4)),.d (.v (.int .i64 a1.f5))]),(8,.own 75 4 (y1.map cS_para_part)),(9,.d (.v (.int .i64 (y1.length:Int)))),(10,.own 3 1 (p.1.map (cI .i64))),(11,.own 3 1 (p.2.1.map (cI .i64))),(12,.d (.v (.int .i64 p.2.2)))]) ((List.replicate (IntKind.i64.wrap ((y1.length:Int)+(1:Int))).toNat 0),(List.replicate (y1.length:Int).toNat 0),IntKind.i64.wrap ((y1.length:Int) - (1:Int)))) (by show _=_; kernel_rfl) ?_
      refine T_block ?_
      refine T_loopF (ι:=(List Int)×(List Int)×Int) (fun (p:(List Int)×(List Int)×Int)=>[(3,.box [.d (.v (.int .i64 a1.f0)),.d (.v (.int .i64 a1.f1)),.d (.v (.int .i64 a1.f2)),.d (.v (.int .i64 a1.f3)),.d (.v (.int .i64 a1.f4)),.d (.v (.int .i64 a1.f5))]),(8,.own 75 4 (y1.map cS_para_part)),(9,.d (.v (.int .i64 (y1.length:Int)))),(10,.own 3 1 (p.1.map (cI .i64))),(11,.own 3 1 (p.2.1.map (cI .i64))),(12,.d (.v (.int .i64 p.2.2)))]) (fun n p=>para_Break_L0 F a1 y1 n p.1 p.2.1 p.2.2=some s) (fun i hh=>by simp [para_Break_L0] at hh) (fun n p h=>?_) F ((List.replicate (IntKind.i64.wrap ((y1.length:Int)+(1:Int))).toNat 0),(List.replicate (y1.length:Int).toNat 0),IntKind.i64.wrap ((y1.length:Int) - (1:Int))) h
      obtain ⟨v7,v8,v1⟩:=p
      have h:para_Break_L0 F a1 y1 (n+1) v7 v8 v1=some s:=h
      rw [para_Break_L0] at h
      refine T_seqk ?_
      refine T_reg [] [3,8,9,10,11,12,36] [(36,.d (.v (.bool (decide (v1 ≥ (0:Int))))))] [] 2 (by kernel_rfl) (trivial) ?_
      refine T_cond (decide (v1 ≥ (0:Int))) (by kernel_rfl) (fun hc=>?_) (fun hc=>?_)
      · have h:=cond_tt hc h
        refine T_skip fun a w hm=>then_norm (((?_:T Tryd.prog e 119 _ _ _) a w hm))
        refine T_seqk ?_
        refine T_block ?_
        obtain ⟨hp3,h⟩:=chk_ok h
        refine T_reg [(3,{ cs:=(cI .i64) (v7.getD v1.toNat 0),es:=some ((v7.set v1.toNat (-1:Int)).map (cI .i64)) })] [3,8,9,10,11,12] [(10,.own 3 1 ((v7.set v1.toNat (-1:Int)).map (cI .i64)))] [(2,0≤v1∧v1 < (v7.map (cI .i64)).length),(0,(v7.map (cI .i64))[v1.toNat]? = some ((cI .i64) (v7.getD v1.toNat 0))∧(v7.map (cI .i64)).set v1.toNat ((cI .i64) (-1:Int))=((v7.set v1.toNat (-1:Int)).map (cI .i64)))] 0 (by kernel_rfl) (⟨own_idx (cI .i64) hp3,⟨(idx_ok (d:=0) (cI .i64) hp3).2,set_ok (cI .i64) rfl⟩⟩) ?_
        refine T_reg [] [3,8,9,10,11,12,13] [(13,.d (.v (.int .i64 (IntKind.i64.wrap (v1+(1:Int))))))] [] 3 (by kernel_rfl) (trivial) ?_
        refine T_joinct h (fun (p:(List Int)×(List Int))=>[(3,.box [.d (.v (.int .i64 a1.f0)),.d (.v (.int .i64 a1.f1)),.d (.v (.int .i64 a1.f2)),.d (.v (.int .i64 a1.f3)),.d (.v (.int .i64 a1.f4)),.d (.v (.int .i64 a1.f5))]),(8,.own 75 4 (y1.map cS_para_part)),(9,.d (.v (.int .i64 (y1.length:Int)))),(10,.own 3 1 (p.1.map (cI .i64))),(11,.own 3 1 (p.2.map (cI .i64))),(12,.d (.v (.int .i64 v1)))]) (fun s h=>?_) (fun s h=>?_)
        · refine T_co [.keep [3,8,9,10,11,12,13]] ((fun (p:(List Int)×(List Int)×Int)=>[(3,.box [.d (.v (.int .i64 a1.f0)),.d (.v (.int .i64 a1.f1)),.d (.v (.int .i64 a1.f2)),.d (.v (.int .i64 a1.f3)),.d (.v (.int .i64 a1.f4)),.d (.v (.int .i64 a1.f5))]),(8,.own 75 4 (y1.map cS_para_part)),(9,.d (.v (.int .i64 (y1.length:Int)))),(10,.own 3 1 (p.1.map (cI .i64))),(11,.own 3 1 (p.2.1.map (cI .i64))),(12,.d (.v (.int .i64 v1))),(13,.d (.v (.int .i64 p.2.2)))]) ((v7.set v1.toNat (-1:Int)),v8,IntKind.i64.wrap (v1+(1:Int)))) (by show _=_; kernel_rfl) ?_
          refine T_block ?_
          refine T_loopF (ι:=(List Int)×(List Int)×Int) (fun (p:(List Int)×(List Int)×Int)=>[(3,.box [.d (.v (.int .i64 a1.f0)),.d (.v (.int .i64 a1.f1)),.d (.v (.int .i64 a1.f2)),.d (.v (.int .i64 a1.f3)),.d (.v (.int .i64 a1.f4)),.d (.v (.int .i64 a1.f5))]),(8,.own 75 4 (y1.map cS_para_part)),(9,.d (.v (.int .i64 (y1.length:Int)))),(10,.own 3 1 (p.1.map (cI .i64))),(11,.own 3 1 (p.2.1.map (cI .i64))),(12,.d (.v (.int .i64 v1))),(13,.d (.v (.int .i64 p.2.2)))]) (fun n p=>para_Break_L2 F a1 y1 v1 n p.1 p.2.1 p.2.2=some s) (fun i hh=>by simp [para_Break_L2] at hh) (fun n p h=>?_) F ((v7.set v1.toNat (-1:Int)),v8,IntKind.i64.wrap (v1+(1:Int))) h
          obtain ⟨v2,v3,v4⟩:=p
          have h:para_Break_L2 F a1 y1 v1 (n+1) v2 v3 v4=some s:=h
          rw [para_Break_L2] at h
          refine T_seqk ?_
          refine T_reg [] [3,8,9,10,11,12,13,46] [(46,.d (.v (.bool (decide (v4≤(y1.length:Int))))))] [] 3 (by kernel_rfl) (trivial) ?_
          refine T_cond (decide (v4≤(y1.length:Int))) (by kernel_rfl) (fun hc=>?_) (fun hc=>?_)
          · have h:=cond_tt hc h
            refine T_skip fun a w hm=>then_norm (((?_:T Tryd.prog e 119 _ _ _) a w hm))
            refine T_joinc h (fun (p:(List Int)×(List Int))=>[(3,.box [.d (.v (.int .i64 a1.f0)),.d (.v (.int .i64 a1.f1)),.d (.v (.int .i64 a1.f2)),.d (.v (.int .i64 a1.f3)),.d (.v (.int .i64 a1.f4)),.d (.v (.int .i64 a1.f5))]),(8,.own 75 4 (y1.map cS_para_part)),(9,.d (.v (.int .i64 (y1.length:Int)))),(10,.own 3 1 (p.1.map (cI .i64))),(11,.own 3 1 (p.2.map (cI .i64))),(12,.d (.v (.int .i64 v1))),(13,.d (.v (.int .i64 v4)))]) (fun s h=>?_) (fun s h=>?_)
            · refine T_block ?_
              obtain ⟨y2,hy3,h⟩:=call_ok h
              refine T_reg [(4,{ res:=.tup [.d (.v (.int .i64 y2.1)),.d (.v (.bool y2.2))] })] [3,8,9,10,11,12,13,14,15] [(14,.d (.v (.int .i64 y2.1))),(15,.d (.v (.bool y2.2)))] [(4,ACall Tryd.prog 21 [.d (.sl 4 (y1.map cS_para_part)),.d (.v (.int .i64 v1)),.d (.v (.int .i64 v4)),.agg (cS_ParaShape a1)] [] (.tup [.d (.v (.int .i64 y2.1)),.d (.v (.bool y2.2))]) [])] 5 (by kernel_rfl) (para_cost_ok hy3) ?_
              refine T_seqk ?_
              obtain ⟨hp4,h⟩:=chk_ok h
              refine T_reg [(6,{ cs:=(cI .i64) (v2.getD v4.toNat 0) })] [3,8,9,10,11,12,13,14,65] [(65,.d (.v (.bool (bif (!y2.2) then true else (decide ((v2.getD v4.toNat 0) < (0:Int)))))))] [(3,((((!y2.2) == false) && true)=true→True)),(0,((((!y2.2) == false) && true)=true→True)),(0,((((!y2.2) == false) && true)=true→0≤v4∧v4 < (v2.map (cI .i64)).length)),(0,((((!y2.2) == false) && true)=true→(v2.map (cI .i64))[v4.toNat]? = some ((cI .i64) (v2.getD v4.toNat 0)))),(0,((((!y2.2) == false) && true)=true→True))] 1 (by kernel_rfl) (⟨(fun hg=>trivial),(fun hg=>trivial),(fun hg=>own_idx (cI .i64) (hp4 hg)),(fun hg=>(idx_ok (d:=0) (cI .i64) (hp4 hg)).2),(fun hg=>trivial)⟩) ?_
              refine T_cond (bif (!y2.2) then true else (decide ((v2.getD v4.toNat 0) < (0:Int)))) (by kernel_rfl) (fun hc=>?_) (fun hc=>?_)
              · have h:=cond_tt hc h
                obtain hs:=Option.some.inj h; subst hs
                refine T_exit fun a w hm=>then_exit (inBlock_exit (then_norm (hm.co (cs:=[.keep [3,8,9,10,11,12,13]]) (by show _=_; kernel_rfl))))
              · have h:=cond_ff hc h
                refine T_skip fun a w hm=>then_norm (((?_:T Tryd.prog e 119 _ _ _) a w hm))
                obtain ⟨hp5,h⟩:=chk_ok h
                refine T_reg [(4,{ cs:=(cI .i64) (v2.getD v4.toNat 0) })] [3,8,9,10,11,12,13,14] [(14,.d (.v (.int .i64 (IntKind.i64.wrap (y2.1+(v2.getD v4.toNat 0))))))] [(3,0≤v4∧v4 < (v2.map (cI .i64)).length),(0,(v2.map (cI .i64))[v4.toNat]? = some ((cI .i64) (v2.getD v4.toNat 0)))] 2 (by kernel_rfl) (⟨own_idx (cI .i64) hp5,(idx_ok (d:=0) (cI .i64) hp5).2⟩) ?_
                obtain ⟨hp6,h⟩:=chk_ok h
                obtain ⟨hp7,h⟩:=chk_ok h
                obtain ⟨z1,hz1,h⟩:=lett_ok h
                refine T_reg [(3,{ cs:=(cI .i64) (v2.getD v1.toNat 0) }),(10,{ cs:=(cI .i64) (v2.getD v1.toNat 0) }),(12,{ rw:=some (.d (.v (.bool z1))) })] [3,8,9,10,11,12,13,14,84] [(84,.d (.v (.bool z1)))] [(2,0≤v1∧v1 < (v2.map (cI .i64)).length),(0,(v2.map (cI .i64))[v1.toNat]? = some ((cI .i64) (v2.getD v1.toNat 0))),(2,((((decide ((v2.getD v1.toNat 0) < (0:Int))) == false) && true)=true→True)),(0,((((decide ((v2.getD v1.toNat 0) < (0:Int))) == false) && true)=true→True)),(0,((((decide ((v2.getD v1.toNat 0) < (0:Int))) == false) && true)=true→True)),(0,((((decide ((v2.getD v1.toNat 0) < (0:Int))) == false) && true)=true→0≤v1∧v1 < (v2.map (cI .i64)).length)),(0,((((decide ((v2.getD v1.toNat 0) < (0:Int))) == false) && true)=true→(v2.map (cI .i64))[v1.toNat]? = some ((cI .i64) (v2.getD v1.toNat 0)))),(0,((((decide ((v2.getD v1.toNat 0) < (0:Int))) == false) && true)=true→True)),(0,(True)∧AV.d (.v (.bool (bif (decide ((v2.getD v1.toNat 0) < (0:Int))) then true else (decide ((IntKind.i64.wrap (y2.1+(v2.getD v4.toNat 0)))≤(v2.getD v1.toNat 0))))))=.d (.v (.bool z1)))] 0 (by kernel_rfl) (⟨own_idx (cI .i64) hp6,(idx_ok (d:=0) (cI .i64) hp6).2,(fun hg=>trivial),(fun hg=>trivial),(fun hg=>trivial),(fun hg=>own_idx (cI .i64) (hp7 hg)),(fun hg=>(idx_ok (d:=0) (cI .i64) (hp7 hg)).2),(fun hg=>trivial),⟨trivial,(by subst hz1; rfl)⟩⟩) ?_
                refine T_cond z1 (by kernel_rfl) (fun hc=>?_) (fun hc=>?_)
                · have h:=cond_tt hc h
                  obtain ⟨hp8,h⟩:=chk_ok h
                  obtain ⟨hp9,h⟩:=chk_ok h
                  obtain hs:=Option.some.inj h; subst hs
                  refine T_reg_end [(7,{ cs:=(cI .i64) (v2.getD v1.toNat 0),es:=some ((v2.set v1.toNat (IntKind.i64.wrap (y2.1+(v2.getD v4.toNat 0)))).map (cI .i64)) }),(9,{ cs:=(cI .i64) (v3.getD v1.toNat 0),es:=some ((v3.set v1.toNat v4).map (cI .i64)) })] [3,8,9,10,11,12,13] [(10,.own 3 1 ((v2.set v1.toNat (IntKind.i64.wrap (y2.1+(v2.getD v4.toNat 0)))).map (cI .i64))),(11,.own 3 1 ((v3.set v1.toNat v4).map (cI .i64)))] [(6,0≤v1∧v1 < (v2.map (cI .i64)).length),(0,(v2.map (cI .i64))[v1.toNat]? = some ((cI .i64) (v2.getD v1.toNat 0))∧(v2.map (cI .i64)).set v1.toNat ((cI .i64) (IntKind.i64.wrap (y2.1+(v2.getD v4.toNat 0))))=((v2.set v1.toNat (IntKind.i64.wrap (y2.1+(v2.getD v4.toNat 0)))).map (cI .i64))),(0,0≤v1∧v1 < (v3.map (cI .i64)).length),(0,(v3.map (cI .i64))[v1.toNat]? = some ((cI .i64) (v3.getD v1.toNat 0))∧(v3.map (cI .i64)).set v1.toNat ((cI .i64) v4)=((v3.set v1.toNat v4).map (cI .i64)))] 0 (by kernel_rfl) (⟨own_idx (cI .i64) hp8,⟨(idx_ok (d:=0) (cI .i64) hp8).2,set_ok (cI .i64) rfl⟩,own_idx (cI .i64) hp9,⟨(idx_ok (d:=0) (cI .i64) hp9).2,set_ok (cI .i64) rfl⟩⟩) fun a w hm=>inBlock_norm (then_norm (hm.co (cs:=[.keep [3,8,9,10,11,12,13]]) (by show _=_; kernel_rfl)))
                · have h:=cond_ff hc h
                  obtain hs:=Option.some.inj h; subst hs
                  refine T_skip fun a w hm=>inBlock_norm (then_norm (hm.co (cs:=[.keep [3,8,9,10,11,12,13]]) (by show _=_; kernel_rfl)))
            · obtain ⟨v5,v6⟩:=s
              try dsimp only at h
              refine T_reg_end [] [3,8,9,10,11,12,13] [(13,.d (.v (.int .i64 (IntKind.i64.wrap (v4+(1:Int))))))] [] 3 (by kernel_rfl) (trivial) fun a w hm=>then_norm (⟨(v5,v6,IntKind.i64.wrap (v4+(1:Int))),h,hm.co (cs:=[.keep [3,8,9,10,11,12,13]]) (by show _=_; kernel_rfl)⟩)
          · have h:=cond_ff hc h
            obtain hs:=Option.some.inj h; subst hs
            refine T_exit fun a w hm=>then_exit (then_exit (inBlock_exit (then_norm (hm.co (cs:=[.keep [3,8,9,10,11,12]]) (by show _=_; kernel_rfl)))))
        · obtain ⟨v9,v10⟩:=s
          try dsimp only at h
          refine fun a w hm=>inBlock_norm (then_norm (((?_:T Tryd.prog e 119 _ _ _) a w hm)))
          refine T_reg_end [] [3,8,9,10,11,12] [(12,.d (.v (.int .i64 (IntKind.i64.wrap (v1 - (1:Int))))))] [] 3 (by kernel_rfl) (trivial) fun a w hm=>then_norm (⟨(v9,v10,IntKind.i64.wrap (v1 - (1:Int))),h,hm.co (cs:=[.keep [3,8,9,10,11,12]]) (by show _=_; kernel_rfl)⟩)
      · have h:=cond_ff hc h
        obtain hs:=Option.some.inj h; subst hs
        refine T_exit fun a w hm=>then_exit (then_exit (inBlock_exit (then_norm (hm.co (cs:=[.keep [3,8,9,10,11]]) (by show _=_; kernel_rfl)))))
    · obtain ⟨v14,v11⟩:=s
      try dsimp only at h
      refine fun a w hm=>then_norm (((?_:T Tryd.prog e 119 _ _ _) a w hm))
      refine T_seqk ?_
      obtain ⟨hp10,h⟩:=chk_ok h
      refine T_reg [(2,{ cs:=(cI .i64) (v14.getD (0:Int).toNat 0) })] [3,8,9,10,11,96] [(96,.d (.v (.bool (decide ((v14.getD (0:Int).toNat 0) < (0:Int))))))] [(1,0≤(0:Int)∧(0:Int) < (v14.map (cI .i64)).length),(0,(v14.map (cI .i64))[(0:Int).toNat]? = some ((cI .i64) (v14.getD (0:Int).toNat 0)))] 1 (by kernel_rfl) (⟨own_idx (cI .i64) hp10,(idx_ok (d:=0) (cI .i64) hp10).2⟩) ?_
      refine T_cond (decide ((v14.getD (0:Int).toNat 0) < (0:Int))) (by kernel_rfl) (fun hc=>?_) (fun hc=>?_)
      · have h:=cond_tt hc h
        refine T_reg [] [4,5,6] [(4,.own 43 4 ([].map cS_ParaLine)),(5,.d (.v (.int .i64 (0:Int)))),(6,.d (.v (.int .i64 (8:Int))))] [] 3 (by kernel_rfl) (trivial) ?_
        obtain hs:=Option.some.inj h; subst hs
        refine T_ret fun a w hm=>then_ret (T_return (fr':=[(4,.own 43 4 ([].map cS_ParaLine)),(5,.d (.v (.int .i64 (0:Int)))),(6,.d (.v (.int .i64 (8:Int))))]) [4,5,6] (by kernel_rfl) [.keep [4,5,6]] (by kernel_rfl) (by kernel_rfl) (by kernel_rfl) (by show _=_; kernel_rfl) (by exact trivial) a w hm)
      · have h:=cond_ff hc h
        refine T_skip fun a w hm=>then_norm (((?_:T Tryd.prog e 119 _ _ _) a w hm))
        refine T_reg [] [3,8,9,10,11,16] [(16,.own 43 4 ([].map cS_ParaLine))] [] 1 (by kernel_rfl) (trivial) ?_
        refine T_seqk ?_
        refine T_reg [] [3,8,9,10,11,16,17] [(17,.d (.v (.int .i64 (0:Int))))] [] 1 (by kernel_rfl) (trivial) ?_
        refine T_joinct h (fun (p:(List S_ParaLine))=>[(10,.own 3 1 (v14.map (cI .i64))),(16,.own 43 4 (p.map cS_ParaLine))]) (fun s h=>?_) (fun v15 h=>?_)
        · refine T_co [.thaw 8,.keep [3,8,9,10,11,16,17]] ((fun (p:(List S_ParaLine)×Int)=>[(3,.box [.d (.v (.int .i64 a1.f0)),.d (.v (.int .i64 a1.f1)),.d (.v (.int .i64 a1.f2)),.d (.v (.int .i64 a1.f3)),.d (.v (.int .i64 a1.f4)),.d (.v (.int .i64 a1.f5))]),(8,.d (.sl 4 (y1.map cS_para_part))),(9,.d (.v (.int .i64 (y1.length:Int)))),(10,.own 3 1 (v14.map (cI .i64))),(11,.own 3 1 (v11.map (cI .i64))),(16,.own 43 4 (p.1.map cS_ParaLine)),(17,.d (.v (.int .i64 p.2)))]) ([],(0:Int))) (by show _=_; kernel_rfl) ?_
          refine T_block ?_
          refine T_loopF (ι:=(List S_ParaLine)×Int) (fun (p:(List S_ParaLine)×Int)=>[(3,.box [.d (.v (.int .i64 a1.f0)),.d (.v (.int .i64 a1.f1)),.d (.v (.int .i64 a1.f2)),.d (.v (.int .i64 a1.f3)),.d (.v (.int .i64 a1.f4)),.d (.v (.int .i64 a1.f5))]),(8,.d (.sl 4 (y1.map cS_para_part))),(9,.d (.v (.int .i64 (y1.length:Int)))),(10,.own 3 1 (v14.map (cI .i64))),(11,.own 3 1 (v11.map (cI .i64))),(16,.own 43 4 (p.1.map cS_ParaLine)),(17,.d (.v (.int .i64 p.2)))]) (fun n p=>para_Break_L4 F a1 y1 v11 n p.1 p.2=some s) (fun i hh=>by simp [para_Break_L4] at hh) (fun n p h=>?_) F ([],(0:Int)) h
          obtain ⟨v12,v13⟩:=p
          have h:para_Break_L4 F a1 y1 v11 (n+1) v12 v13=some s:=h
          rw [para_Break_L4] at h
          refine T_seqk ?_
          refine T_reg [] [3,8,9,10,11,16,17,99] [(99,.d (.v (.bool (decide (v13 < (y1.length:Int))))))] [] 3 (by kernel_rfl) (trivial) ?_
          refine T_cond (decide (v13 < (y1.length:Int))) (by kernel_rfl) (fun hc=>?_) (fun hc=>?_)
          · have h:=cond_tt hc h
            refine T_skip fun a w hm=>then_norm (((?_:T Tryd.prog e 119 _ _ _) a w hm))
            refine T_seqk ?_
            refine T_block ?_
            obtain ⟨hp11,h⟩:=chk_ok h
            obtain ⟨y3,hy4,h⟩:=call_ok h
            obtain ⟨hp12,h⟩:=chk_ok h
            refine T_drawX_end mixed 1 (.take 0 (.take 1 (.take 2 (.take 3 (.take 4 (.take 5 (.take 6 (.take 7 (.all (.alt 8 (.all (.alt 9 (.all (.alt 10 (.take 11 .done) .stop)) .stop)) .stop)))))))))) ([0,0,0,0,0,24,32,0,198,256,769,2047],[0,0,0,0,0,24,32,0,198,256,513,1025]) 2303 [(6,{ cs:=(cI .i64) (v11.getD v13.toNat 0) }),(8,{ res:=.agg (cS_ParaLine y3) }),(9,{ es:=some (([y3]).map cS_ParaLine) }),(10,{ es:=some ((v12++([y3])).map cS_ParaLine) })] [3,8,9,10,11,16,17] [] [(3,.box [.d (.v (.int .i64 a1.f0)),.d (.v (.int .i64 a1.f1)),.d (.v (.int .i64 a1.f2)),.d (.v (.int .i64 a1.f3)),.d (.v (.int .i64 a1.f4)),.d (.v (.int .i64 a1.f5))]),(8,.d (.sl 4 (y1.map cS_para_part))),(9,.d (.v (.int .i64 (y1.length:Int)))),(10,.own 3 1 (v14.map (cI .i64))),(11,.own 3 1 (v11.map (cI .i64))),(16,.own 43 4 ((v12++([y3])).map cS_ParaLine)),(17,.d (.v (.int .i64 v13)))] ((fun (o5:Prop)=>fun (o6:Prop)=>fun (o8:Prop)=>fun (o9:Prop)=>fun (o10:Prop)=>[(5,o5),(0,o6),(1,o8),(0,o9),(0,o10)]) (0≤v13∧v13 < (v11.map (cI .i64)).length) ((v11.map (cI .i64))[v13.toNat]? = some ((cI .i64) (v11.getD v13.toNat 0))) (ACall Tryd.prog 22 [.d (.sl 4 (y1.map cS_para_part)),.d (.v (.int .i64 v13)),.d (.v (.int .i64 (v11.getD v13.toNat 0))),.agg (cS_ParaShape a1)] [] (.agg (cS_ParaLine y3)) []) ((([y3]).map cS_ParaLine)=(([y3]).map cS_ParaLine)) ((v12.map cS_ParaLine).length+(([y3]).map cS_ParaLine).length≤4294967296∧(v12.map cS_ParaLine)++(([y3]).map cS_ParaLine)=((v12++([y3])).map cS_ParaLine))) 1 (by kernel_rfl) (by kernel_rfl) (by kernel_rfl) (have p5:=own_idx (cI .i64) hp11; have p6:=(idx_ok (d:=0) (cI .i64) hp11).2; have p8:=para_line_ok hy4; have p9:=rfl; have p10:=app_ok cS_ParaLine hp12; ⟨p5,p6,p8,p9,p10⟩) fun a w hm=>inBlock_norm (then_norm (((?_:T Tryd.prog e 119 _ _ _) a w hm)))
            obtain ⟨hp13,h⟩:=chk_ok h
            refine T_reg_end [(3,{ cs:=(cI .i64) (v11.getD v13.toNat 0) })] [3,8,9,10,11,16,17] [(17,.d (.v (.int .i64 (v11.getD v13.toNat 0))))] [(2,0≤v13∧v13 < (v11.map (cI .i64)).length),(0,(v11.map (cI .i64))[v13.toNat]? = some ((cI .i64) (v11.getD v13.toNat 0)))] 1 (by kernel_rfl) (⟨own_idx (cI .i64) hp13,(idx_ok (d:=0) (cI .i64) hp13).2⟩) fun a w hm=>then_norm (⟨((v12++([y3])),(v11.getD v13.toNat 0)),h,hm.co (cs:=[.keep [3,8,9,10,11,16,17]]) (by show _=_; kernel_rfl)⟩)
          · have h:=cond_ff hc h
            obtain hs:=Option.some.inj h; subst hs
            refine T_exit fun a w hm=>then_exit (then_exit (inBlock_exit (then_norm (hm.co (cs:=[.keep [10,16]]) (by show _=_; kernel_rfl)))))
        · skip
          refine fun a w hm=>then_norm (((?_:T Tryd.prog e 119 _ _ _) a w hm))
          obtain ⟨hp14,h⟩:=chk_ok h
          refine T_draw mixed [(3,{ cs:=(cI .i64) (v14.getD (0:Int).toNat 0) })] [4,5,6,16] [] [(4,.vw (16,0)),(5,.d (.v (.int .i64 (v14.getD (0:Int).toNat 0)))),(6,.d (.v (.int .i64 (0:Int)))),(16,.own 43 4 (v15.map cS_ParaLine))] [(2,0≤(0:Int)∧(0:Int) < (v14.map (cI .i64)).length),(0,(v14.map (cI .i64))[(0:Int).toNat]? = some ((cI .i64) (v14.getD (0:Int).toNat 0)))] 3 (by kernel_rfl) (⟨own_idx (cI .i64) hp14,(idx_ok (d:=0) (cI .i64) hp14).2⟩) ?_
          obtain hs:=Option.some.inj h; subst hs
          refine T_ret fun a w hm=>T_return (fr':=[(4,.own 43 4 (v15.map cS_ParaLine)),(5,.d (.v (.int .i64 (v14.getD (0:Int).toNat 0)))),(6,.d (.v (.int .i64 (0:Int))))]) [4,5,6] (by kernel_rfl) [.claim 4,.keep [4,5,6]] (by kernel_rfl) (by kernel_rfl) (by kernel_rfl) (by show _=_; kernel_rfl) (by exact trivial) a w hm
theorem slices_Equal_int_ok {F:Nat} {a0:List Int} {a1:List Int} {r:Bool} (h:slices_Equal_int F a0 a1=some r):ACall Tryd.prog 9 [.d (.sl 1 (a0.map (cI .i64))),.d (.sl 1 (a1.map (cI .i64)))] [] (.d (.v (.bool r))) []:=by
  rw [slices_Equal_int] at h
  refine ACall.intro (N:=26) Tryd.func9 rfl rfl rfl rfl rfl fun e=>?_
  refine T_reg [] [0,1] [] [] 1 (by kernel_rfl) (trivial) ?_
  refine T_seqk ?_
  refine T_reg [(1,{ rw:=some (.d (.v (.int .i64 (a0.length:Int)))) }),(3,{ rw:=some (.d (.v (.int .i64 (a1.length:Int)))) })] [0,1,10] [(10,.d (.v (.bool ((a0.length:Int) != (a1.length:Int)))))] [(1,True∧AV.d (.v (.int .i64 ((a0.map (cI .i64)).length:Int)))=.d (.v (.int .i64 (a0.length:Int)))),(1,True∧AV.d (.v (.int .i64 ((a1.map (cI .i64)).length:Int)))=.d (.v (.int .i64 (a1.length:Int))))] 1 (by kernel_rfl) (⟨len_ok (cI .i64),len_ok (cI .i64)⟩) ?_
  refine T_cond ((a0.length:Int) != (a1.length:Int)) (by kernel_rfl) (fun hc=>?_) (fun hc=>?_)
  · have h:=cond_tt hc h
    refine T_reg [] [4] [(4,.d (.v (.bool false)))] [] 1 (by kernel_rfl) (trivial) ?_
    obtain hs:=Option.some.inj h; subst hs
    refine T_ret fun a w hm=>then_ret (T_return (fr':=[(4,.d (.v (.bool false)))]) [4] (by kernel_rfl) [.keep [4]] (by kernel_rfl) (by kernel_rfl) (by kernel_rfl) (by show _=_; kernel_rfl) (by exact trivial) a w hm)
  · have h:=cond_ff hc h
    refine T_skip fun a w hm=>then_norm (((?_:T Tryd.prog e 26 _ _ _) a w hm))
    refine T_seqk ?_
    refine T_reg [(1,{ rw:=some (.d (.v (.int .i64 (a0.length:Int)))) })] [0,1,12,13] [(12,.d (.v (.int .i64 (a0.length:Int)))),(13,.d (.v (.int .i64 (0:Int))))] [(1,True∧AV.d (.v (.int .i64 ((a0.map (cI .i64)).length:Int)))=.d (.v (.int .i64 (a0.length:Int))))] 1 (by kernel_rfl) (len_ok (cI .i64)) ?_
    refine T_joinEt h (fun (p:Unit)=>[]) (fun s h hk1=>?_) (fun s h=>?_)
    · refine T_co [.keep [0,1,12,13]] ((fun (p:Int)=>[(0,.d (.sl 1 (a0.map (cI .i64)))),(1,.d (.sl 1 (a1.map (cI .i64)))),(12,.d (.v (.int .i64 (a0.length:Int)))),(13,.d (.v (.int .i64 p)))]) (0:Int)) (by show _=_; kernel_rfl) ?_
      refine T_block ?_
      refine T_loopF (ι:=Int) (fun (p:Int)=>[(0,.d (.sl 1 (a0.map (cI .i64)))),(1,.d (.sl 1 (a1.map (cI .i64)))),(12,.d (.v (.int .i64 (a0.length:Int)))),(13,.d (.v (.int .i64 p)))]) (fun n p=>slices_Equal_int_L0 F a0 a1 n p=some s) (fun i hh=>by simp [slices_Equal_int_L0] at hh) (fun n v1 h=>?_) F (0:Int) h
      have h:slices_Equal_int_L0 F a0 a1 (n+1) v1=some s:=h
      rw [slices_Equal_int_L0] at h
      refine T_reg [] [0,1,12,13,14] [(14,.d (.v (.bool (decide (v1 < (a0.length:Int))))))] [] 1 (by kernel_rfl) (trivial) ?_
      refine T_seqk ?_
      refine T_cond (decide (v1 < (a0.length:Int))) (by kernel_rfl) (fun hc=>?_) (fun hc=>?_)
      · have h:=cond_tt hc h
        refine T_skip fun a w hm=>then_norm (((?_:T Tryd.prog e 26 _ _ _) a w hm))
        refine T_seqk ?_
        refine T_block ?_
        refine T_reg [] [0,1,5,12,13] [(5,.d (.v (.int .i64 v1)))] [] 2 (by kernel_rfl) (trivial) ?_
        obtain ⟨hp1,h⟩:=chk_ok h
        obtain ⟨hp2,h⟩:=chk_ok h
        refine T_draw mixed [(2,{ cs:=(cI .i64) (a0.getD v1.toNat 0) }),(6,{ cs:=(cI .i64) (a1.getD v1.toNat 0) })] [0,1,12,13,24] [] [(0,.d (.sl 1 (a0.map (cI .i64)))),(1,.d (.sl 1 (a1.map (cI .i64)))),(12,.d (.v (.int .i64 (a0.length:Int)))),(13,.d (.v (.int .i64 v1))),(24,.d (.v (.bool ((a0.getD v1.toNat 0) != (a1.getD v1.toNat 0)))))] [(2,0≤v1∧(a0.map (cI .i64))[v1.toNat]? = some ((cI .i64) (a0.getD v1.toNat 0))),(3,0≤v1∧(a1.map (cI .i64))[v1.toNat]? = some ((cI .i64) (a1.getD v1.toNat 0)))] 2 (by kernel_rfl) (⟨idx_ok (d:=0) (cI .i64) hp1,idx_ok (d:=0) (cI .i64) hp2⟩) ?_
        refine T_cond ((a0.getD v1.toNat 0) != (a1.getD v1.toNat 0)) (by kernel_rfl) (fun hc=>?_) (fun hc=>?_)
        · have h:=cond_tt hc h
          refine T_reg [] [4] [(4,.d (.v (.bool false)))] [] 1 (by kernel_rfl) (trivial) ?_
          obtain hs:=Option.some.inj h; subst hs
          have h:=callE_esc hk1
          obtain hs:=Option.some.inj h; subst hs
          refine T_ret fun a w hm=>inBlock_ret (then_ret (then_ret (inBlock_ret (then_ret (then_ret (T_return (fr':=[(4,.d (.v (.bool false)))]) [4] (by kernel_rfl) [.keep [4]] (by kernel_rfl) (by kernel_rfl) (by kernel_rfl) (by show _=_; kernel_rfl) (by exact trivial) a w hm))))))
        · have h:=cond_ff hc h
          refine T_skip fun a w hm=>inBlock_norm (then_norm (((?_:T Tryd.prog e 26 _ _ _) a w hm)))
          refine T_reg_end [] [0,1,12,13] [(13,.d (.v (.int .i64 (IntKind.i64.wrap (v1+(1:Int))))))] [] 2 (by kernel_rfl) (trivial) fun a w hm=>then_norm (⟨IntKind.i64.wrap (v1+(1:Int)),h,hm.co (cs:=[.keep [0,1,12,13]]) (by show _=_; kernel_rfl)⟩)
      · have h:=cond_ff hc h
        obtain hs:=Option.some.inj h; subst hs
        refine T_exit fun a w hm=>then_exit (then_exit (inBlock_exit (then_norm (⟨_,rfl,hm.co (cs:=[.keep []]) (by show _=_; kernel_rfl)⟩))))
    · skip
      refine fun a w hm=>then_norm (((?_:T Tryd.prog e 26 _ _ _) a w hm))
      refine T_reg [] [4] [(4,.d (.v (.bool true)))] [] 1 (by kernel_rfl) (trivial) ?_
      obtain hs:=Option.some.inj h; subst hs
      refine T_ret fun a w hm=>T_return (fr':=[(4,.d (.v (.bool true)))]) [4] (by kernel_rfl) [.keep [4]] (by kernel_rfl) (by kernel_rfl) (by kernel_rfl) (by show _=_; kernel_rfl) (by exact trivial) a w hm
theorem law3_paraFact_ok {F:Nat}  {r:Bool} (h:law3_paraFact F  = some r):ACall Tryd.prog 6 [] [] (.d (.v (.bool r))) []:=by
  rw [law3_paraFact] at h
  refine ACall.intro (N:=59) Tryd.func6 rfl rfl rfl rfl rfl fun e=>?_
  refine T_reg [] [] [] [] 1 (by kernel_rfl) (trivial) ?_
  obtain ⟨y1,hy1,h⟩:=call_ok h
  refine T_reg [(0,{ es:=some (([([98,49,99]:List UInt8)]).map cS) }),(1,{ frz:=[(8,0)],res:=.tup [.d (.sl 1 (y1.1.map (cI .i64))),.d (.v (.int .i64 y1.2))] })] [1,2] [(1,.d (.sl 1 (y1.1.map (cI .i64)))),(2,.d (.v (.int .i64 y1.2)))] [(0,(([([98,49,99]:List UInt8)]).map cS)=(([([98,49,99]:List UInt8)]).map cS)),(0,ACall Tryd.prog 7 [.d (.str ([97,98,99,100,101]:List UInt8)),.d (.sl 1 (([([98,49,99]:List UInt8)]).map cS))] [] (.tup [.d (.sl 1 (y1.1.map (cI .i64))),.d (.v (.int .i64 y1.2))]) [])] 5 (by kernel_rfl) (⟨rfl,para_Hyphens_ok hy1⟩) ?_
  refine T_region [(0,{ es:=some (([(10:Int)]).map (cI .i64)) }),(1,{ frz:=[(12,0)],take:=[0] })] [1,2,3] [.nilc 3 1 3 1,.keep [1,2,3]] [(1,.d (.sl 1 (y1.1.map (cI .i64)))),(2,.d (.v (.int .i64 y1.2))),(3,.box [.d (.sl 1 (([(10:Int)]).map (cI .i64))),.own 3 1 ([].map (cI .i64))])] [(0,(([(10:Int)]).map (cI .i64))=(([(10:Int)]).map (cI .i64)))] 3 (by kernel_rfl) (rfl) ?_
  obtain ⟨y2,hy2,h⟩:=call_ok h
  refine T_reg [(0,{ frz:=[(3,2)] }),(3,{ es:=some (([(S_ParaWord.mk ([(10:Int)]) []),(S_ParaWord.mk ([(10:Int)]) []),(S_ParaWord.mk ([(10:Int)]) [])]).map cS_ParaWord) }),(5,{ frz:=[(18,0)],res:=.tup [.own 43 4 (y2.1.map cS_ParaLine),.d (.v (.int .i64 y2.2.1)),.d (.v (.int .i64 y2.2.2))] })] [1,2,4,5,6] [(4,.own 43 4 (y2.1.map cS_ParaLine)),(5,.d (.v (.int .i64 y2.2.1))),(6,.d (.v (.int .i64 y2.2.2)))] [(3,(([(S_ParaWord.mk ([(10:Int)]) []),(S_ParaWord.mk ([(10:Int)]) []),(S_ParaWord.mk ([(10:Int)]) [])]).map cS_ParaWord)=(([(S_ParaWord.mk ([(10:Int)]) []),(S_ParaWord.mk ([(10:Int)]) []),(S_ParaWord.mk ([(10:Int)]) [])]).map cS_ParaWord)),(1,ACall Tryd.prog 13 [.d (.sl 2 (([(S_ParaWord.mk ([(10:Int)]) []),(S_ParaWord.mk ([(10:Int)]) []),(S_ParaWord.mk ([(10:Int)]) [])]).map cS_ParaWord)),.agg (cS_ParaShape (S_ParaShape.mk (25:Int) (5:Int) (3:Int) (9:Int) 0 0))] [] (.tup [.own 43 4 (y2.1.map cS_ParaLine),.d (.v (.int .i64 y2.2.1)),.d (.v (.int .i64 y2.2.2))]) [])] 7 (by kernel_rfl) (⟨rfl,para_Break_ok hy2⟩) ?_
  obtain ⟨y3,hy3,h⟩:=call_ok h
  obtain ⟨z1,hz1,h⟩:=lett_ok h
  obtain ⟨hp1,h⟩:=chk_ok h
  obtain ⟨z2,hz2,h⟩:=lett_ok h
  obtain ⟨hp2,h⟩:=chk_ok h
  obtain ⟨y4,hy4,h⟩:=call_ok h
  refine T_reg [(8,{ es:=some (([(2:Int)]).map (cI .i64)) }),(9,{ res:=.d (.v (.bool y3)) }),(14,{ rw:=some (.d (.v (.bool z1))) }),(17,{ rw:=some (.d (.v (.int .i64 (y2.1.length:Int)))) }),(24,{ cs:=cS_ParaLine (y2.1.getD (0:Int).toNat (S_ParaLine.mk 0 0 false [])) }),(26,{ rw:=some (.d (.v (.bool z2))) }),(31,{ cs:=cS_ParaLine (y2.1.getD (0:Int).toNat (S_ParaLine.mk 0 0 false [])) }),(32,{ es:=some (([(5:Int)]).map (cI .i64)) }),(33,{ res:=.d (.v (.bool y4)) })] [0] [(0,.d (.v (.bool (bif z2 then y4 else false))))] [(3,((((y1.2 == (0:Int)) == true) && true)=true→True)),(0,((((y1.2 == (0:Int)) == true) && true)=true→True)),(2,((((bif (y1.2 == (0:Int)) then (y2.2.2 == (0:Int)) else false) == true) && true)=true→True)),(0,((((bif (y1.2 == (0:Int)) then (y2.2.2 == (0:Int)) else false) == true) && true)=true→(([(2:Int)]).map (cI .i64))=(([(2:Int)]).map (cI .i64)))),(0,((((bif (y1.2 == (0:Int)) then (y2.2.2 == (0:Int)) else false) == true) && true)=true→ACall Tryd.prog 9 [.d (.sl 1 (y1.1.map (cI .i64))),.d (.sl 1 (([(2:Int)]).map (cI .i64)))] [] (.d (.v (.bool y3))) [])),(2,((((bif (bif (y1.2 == (0:Int)) then (y2.2.2 == (0:Int)) else false) then y3 else false) == true) && true)=true→True)),(0,((((bif (bif (y1.2 == (0:Int)) then (y2.2.2 == (0:Int)) else false) then y3 else false) == true) && true)=true→True)),(0,(True)∧AV.d (.v (.bool (bif (bif (bif (y1.2 == (0:Int)) then (y2.2.2 == (0:Int)) else false) then y3 else false) then (y2.2.1 == (0:Int)) else false)))=.d (.v (.bool z1))),(1,(((z1 == true) && true)=true→True)),(0,(((z1 == true) && true)=true→True∧AV.d (.v (.int .i64 ((y2.1.map cS_ParaLine).length:Int)))=.d (.v (.int .i64 (y2.1.length:Int))))),(0,(((z1 == true) && true)=true→True)),(2,((((bif z1 then ((y2.1.length:Int) == (2:Int)) else false) == true) && true)=true→True)),(0,((((bif z1 then ((y2.1.length:Int) == (2:Int)) else false) == true) && true)=true→0≤(0:Int)∧(0:Int) < (y2.1.map cS_ParaLine).length)),(0,((((bif z1 then ((y2.1.length:Int) == (2:Int)) else false) == true) && true)=true→True)),(0,((((bif z1 then ((y2.1.length:Int) == (2:Int)) else false) == true) && true)=true→(y2.1.map cS_ParaLine)[(0:Int).toNat]? = some (cS_ParaLine (y2.1.getD (0:Int).toNat (S_ParaLine.mk 0 0 false []))))),(0,((((bif z1 then ((y2.1.length:Int) == (2:Int)) else false) == true) && true)=true→True)),(0,(True)∧AV.d (.v (.bool (bif (bif z1 then ((y2.1.length:Int) == (2:Int)) else false) then (((y2.1.getD (0:Int).toNat (S_ParaLine.mk 0 0 false [])).f1) == (2:Int)) else false)))=.d (.v (.bool z2))),(1,(((z2 == true) && true)=true→True)),(0,(((z2 == true) && true)=true→0≤(0:Int)∧(0:Int) < (y2.1.map cS_ParaLine).length)),(0,(((z2 == true) && true)=true→True)),(0,(((z2 == true) && true)=true→(y2.1.map cS_ParaLine)[(0:Int).toNat]? = some (cS_ParaLine (y2.1.getD (0:Int).toNat (S_ParaLine.mk 0 0 false []))))),(0,(((z2 == true) && true)=true→(([(5:Int)]).map (cI .i64))=(([(5:Int)]).map (cI .i64)))),(0,(((z2 == true) && true)=true→ACall Tryd.prog 9 [.d (.sl 1 (((y2.1.getD (0:Int).toNat (S_ParaLine.mk 0 0 false [])).f3).map (cI .i64))),.d (.sl 1 (([(5:Int)]).map (cI .i64)))] [] (.d (.v (.bool y4))) []))] 2 (by kernel_rfl) (⟨(fun hg=>trivial),(fun hg=>trivial),(fun hg=>trivial),(fun hg=>rfl),(fun hg=>slices_Equal_int_ok (gcall_ok hg hy3)),(fun hg=>trivial),(fun hg=>trivial),⟨trivial,(by subst hz1; rfl)⟩,(fun hg=>trivial),(fun hg=>len_ok cS_ParaLine),(fun hg=>trivial),(fun hg=>trivial),(fun hg=>own_idx cS_ParaLine (hp1 hg)),(fun hg=>trivial),(fun hg=>(idx_ok (d:=(S_ParaLine.mk 0 0 false [])) cS_ParaLine (hp1 hg)).2),(fun hg=>trivial),⟨trivial,(by subst hz2; rfl)⟩,(fun hg=>trivial),(fun hg=>own_idx cS_ParaLine (hp2 hg)),(fun hg=>trivial),(fun hg=>(idx_ok (d:=(S_ParaLine.mk 0 0 false [])) cS_ParaLine (hp2 hg)).2),(fun hg=>rfl),(fun hg=>slices_Equal_int_ok (gcall_ok hg hy4))⟩) ?_
  obtain hs:=Option.some.inj h; subst hs
  refine T_ret fun a w hm=>T_return (fr':=[(0,.d (.v (.bool (bif z2 then y4 else false))))]) [0] (by kernel_rfl) [.keep [0]] (by kernel_rfl) (by kernel_rfl) (by kernel_rfl) (by show _=_; kernel_rfl) (by exact trivial) a w hm
theorem ref3_beyond_ok {F:Nat} {a0:Int} {a1:List Int} {r:Bool} (h:ref3_beyond F a0 a1=some r):ACall Tryd.prog 19 [.d (.v (.int .i64 a0)),.d (.sl 1 (a1.map (cI .i64)))] [] (.d (.v (.bool r))) []:=by
  rw [ref3_beyond] at h
  refine ACall.intro (N:=23) Tryd.func19 rfl rfl rfl rfl rfl fun e=>?_
  refine T_reg [] [0,1] [] [] 1 (by kernel_rfl) (trivial) ?_
  refine T_seqk ?_
  refine T_reg [(1,{ rw:=some (.d (.v (.int .i64 (a1.length:Int)))) })] [0,7,8,9] [(7,.d (.sl 1 (a1.map (cI .i64)))),(8,.d (.v (.int .i64 (a1.length:Int)))),(9,.d (.v (.int .i64 (0:Int))))] [(1,True∧AV.d (.v (.int .i64 ((a1.map (cI .i64)).length:Int)))=.d (.v (.int .i64 (a1.length:Int))))] 1 (by kernel_rfl) (len_ok (cI .i64)) ?_
  refine T_joinEt h (fun (p:Unit)=>[]) (fun s h hk1=>?_) (fun s h=>?_)
  · refine T_co [.keep [0,7,8,9]] ((fun (p:Int)=>[(0,.d (.v (.int .i64 a0))),(7,.d (.sl 1 (a1.map (cI .i64)))),(8,.d (.v (.int .i64 (a1.length:Int)))),(9,.d (.v (.int .i64 p)))]) (0:Int)) (by show _=_; kernel_rfl) ?_
    refine T_block ?_
    refine T_loopF (ι:=Int) (fun (p:Int)=>[(0,.d (.v (.int .i64 a0))),(7,.d (.sl 1 (a1.map (cI .i64)))),(8,.d (.v (.int .i64 (a1.length:Int)))),(9,.d (.v (.int .i64 p)))]) (fun n p=>ref3_beyond_L0 F a0 a1 n p=some s) (fun i hh=>by simp [ref3_beyond_L0] at hh) (fun n v1 h=>?_) F (0:Int) h
    have h:ref3_beyond_L0 F a0 a1 (n+1) v1=some s:=h
    rw [ref3_beyond_L0] at h
    refine T_reg [] [0,7,8,9,10] [(10,.d (.v (.bool (decide (v1 < (a1.length:Int))))))] [] 1 (by kernel_rfl) (trivial) ?_
    refine T_seqk ?_
    refine T_cond (decide (v1 < (a1.length:Int))) (by kernel_rfl) (fun hc=>?_) (fun hc=>?_)
    · have h:=cond_tt hc h
      refine T_skip fun a w hm=>then_norm (((?_:T Tryd.prog e 23 _ _ _) a w hm))
      refine T_seqk ?_
      refine T_block ?_
      obtain ⟨hp1,h⟩:=chk_ok h
      refine T_reg [(0,{ cs:=(cI .i64) (a1.getD v1.toNat 0) })] [0,6,7,8,9] [(6,.d (.v (.int .i64 (a1.getD v1.toNat 0))))] [(0,0≤v1∧(a1.map (cI .i64))[v1.toNat]? = some ((cI .i64) (a1.getD v1.toNat 0)))] 2 (by kernel_rfl) (idx_ok (d:=0) (cI .i64) hp1) ?_
      obtain ⟨z1,hz1,h⟩:=lett_ok h
      refine T_reg [(8,{ rw:=some (.d (.v (.bool z1))) })] [0,7,8,9,21] [(21,.d (.v (.bool z1)))] [(4,((((decide ((a1.getD v1.toNat 0) > a0)) == false) && true)=true→True)),(0,((((decide ((a1.getD v1.toNat 0) > a0)) == false) && true)=true→True)),(0,((((decide ((a1.getD v1.toNat 0) > a0)) == false) && true)=true→True)),(0,((((decide ((a1.getD v1.toNat 0) > a0)) == false) && true)=true→True)),(0,(True)∧AV.d (.v (.bool (bif (decide ((a1.getD v1.toNat 0) > a0)) then true else (decide ((a1.getD v1.toNat 0) < (IntKind.i64.wrap (0 - a0)))))))=.d (.v (.bool z1)))] 0 (by kernel_rfl) (⟨(fun hg=>trivial),(fun hg=>trivial),(fun hg=>trivial),(fun hg=>trivial),⟨trivial,(by subst hz1; rfl)⟩⟩) ?_
      refine T_cond z1 (by kernel_rfl) (fun hc=>?_) (fun hc=>?_)
      · have h:=cond_tt hc h
        refine T_reg [] [4] [(4,.d (.v (.bool true)))] [] 1 (by kernel_rfl) (trivial) ?_
        obtain hs:=Option.some.inj h; subst hs
        have h:=callE_esc hk1
        obtain hs:=Option.some.inj h; subst hs
        refine T_ret fun a w hm=>inBlock_ret (then_ret (then_ret (inBlock_ret (then_ret (then_ret (T_return (fr':=[(4,.d (.v (.bool true)))]) [4] (by kernel_rfl) [.keep [4]] (by kernel_rfl) (by kernel_rfl) (by kernel_rfl) (by show _=_; kernel_rfl) (by exact trivial) a w hm))))))
      · have h:=cond_ff hc h
        refine T_skip fun a w hm=>inBlock_norm (then_norm (((?_:T Tryd.prog e 23 _ _ _) a w hm)))
        refine T_reg_end [] [0,7,8,9] [(9,.d (.v (.int .i64 (IntKind.i64.wrap (v1+(1:Int))))))] [] 2 (by kernel_rfl) (trivial) fun a w hm=>then_norm (⟨IntKind.i64.wrap (v1+(1:Int)),h,hm.co (cs:=[.keep [0,7,8,9]]) (by show _=_; kernel_rfl)⟩)
    · have h:=cond_ff hc h
      obtain hs:=Option.some.inj h; subst hs
      refine T_exit fun a w hm=>then_exit (then_exit (inBlock_exit (then_norm (⟨_,rfl,hm.co (cs:=[.keep []]) (by show _=_; kernel_rfl)⟩))))
  · skip
    refine fun a w hm=>then_norm (((?_:T Tryd.prog e 23 _ _ _) a w hm))
    refine T_reg [] [4] [(4,.d (.v (.bool false)))] [] 1 (by kernel_rfl) (trivial) ?_
    obtain hs:=Option.some.inj h; subst hs
    refine T_ret fun a w hm=>T_return (fr':=[(4,.d (.v (.bool false)))]) [4] (by kernel_rfl) [.keep [4]] (by kernel_rfl) (by kernel_rfl) (by kernel_rfl) (by show _=_; kernel_rfl) (by exact trivial) a w hm
theorem ref3_ParaError_ok {F:Nat} {a0:List S_ParaWord} {a1:S_ParaShape} {r:Int} (h:ref3_ParaError F a0 a1=some r):ACall Tryd.prog 11 [.d (.sl 2 (a0.map cS_ParaWord)),.agg (cS_ParaShape a1)] [] (.d (.v (.int .i64 r))) []:=by
  rw [ref3_ParaError] at h
  refine ACall.intro (N:=108) Tryd.func11 rfl rfl rfl rfl rfl fun e=>?_
  refine T_reg [] [0,3] [(3,.box [.d (.v (.int .i64 a1.f0)),.d (.v (.int .i64 a1.f1)),.d (.v (.int .i64 a1.f2)),.d (.v (.int .i64 a1.f3)),.d (.v (.int .i64 a1.f4)),.d (.v (.int .i64 a1.f5))])] [] 2 (by kernel_rfl) (trivial) ?_
  refine T_seqk ?_
  refine T_reg [(1,{ rw:=some (.d (.v (.int .i64 (a0.length:Int)))) })] [0,3,12] [(12,.d (.v (.bool (decide ((a0.length:Int) > (128:Int))))))] [(1,True∧AV.d (.v (.int .i64 ((a0.map cS_ParaWord).length:Int)))=.d (.v (.int .i64 (a0.length:Int))))] 1 (by kernel_rfl) (len_ok cS_ParaWord) ?_
  refine T_cond (decide ((a0.length:Int) > (128:Int))) (by kernel_rfl) (fun hc=>?_) (fun hc=>?_)
  · have h:=cond_tt hc h
    refine T_reg [] [4] [(4,.d (.v (.int .i64 (2:Int))))] [] 1 (by kernel_rfl) (trivial) ?_
    obtain hs:=Option.some.inj h; subst hs
    refine T_ret fun a w hm=>then_ret (T_return (fr':=[(4,.d (.v (.int .i64 (2:Int))))]) [4] (by kernel_rfl) [.keep [4]] (by kernel_rfl) (by kernel_rfl) (by kernel_rfl) (by show _=_; kernel_rfl) (by exact trivial) a w hm)
  · have h:=cond_ff hc h
    refine T_skip fun a w hm=>then_norm (((?_:T Tryd.prog e 108 _ _ _) a w hm))
    refine T_reg [] [0,3,5] [(5,.d (.v (.int .i64 (0:Int))))] [] 1 (by kernel_rfl) (trivial) ?_
    refine T_seqk ?_
    refine T_reg [(1,{ rw:=some (.d (.v (.int .i64 (a0.length:Int)))) })] [3,5,13,14,15] [(13,.d (.sl 2 (a0.map cS_ParaWord))),(14,.d (.v (.int .i64 (a0.length:Int)))),(15,.d (.v (.int .i64 (0:Int))))] [(1,True∧AV.d (.v (.int .i64 ((a0.map cS_ParaWord).length:Int)))=.d (.v (.int .i64 (a0.length:Int))))] 1 (by kernel_rfl) (len_ok cS_ParaWord) ?_
    refine T_joinEt h (fun (p:Unit)=>[(3,.box [.d (.v (.int .i64 a1.f0)),.d (.v (.int .i64 a1.f1)),.d (.v (.int .i64 a1.f2)),.d (.v (.int .i64 a1.f3)),.d (.v (.int .i64 a1.f4)),.d (.v (.int .i64 a1.f5))])]) (fun s h hk1=>?_) (fun s h=>?_)
    · refine T_co [.keep [3,5,13,14,15]] ((fun (p:Int×Int)=>[(3,.box [.d (.v (.int .i64 a1.f0)),.d (.v (.int .i64 a1.f1)),.d (.v (.int .i64 a1.f2)),.d (.v (.int .i64 a1.f3)),.d (.v (.int .i64 a1.f4)),.d (.v (.int .i64 a1.f5))]),(5,.d (.v (.int .i64 p.1))),(13,.d (.sl 2 (a0.map cS_ParaWord))),(14,.d (.v (.int .i64 (a0.length:Int)))),(15,.d (.v (.int .i64 p.2)))]) ((0:Int),(0:Int))) (by show _=_; kernel_rfl) ?_
      refine T_block ?_
      refine T_loopF (ι:=Int×Int) (fun (p:Int×Int)=>[(3,.box [.d (.v (.int .i64 a1.f0)),.d (.v (.int .i64 a1.f1)),.d (.v (.int .i64 a1.f2)),.d (.v (.int .i64 a1.f3)),.d (.v (.int .i64 a1.f4)),.d (.v (.int .i64 a1.f5))]),(5,.d (.v (.int .i64 p.1))),(13,.d (.sl 2 (a0.map cS_ParaWord))),(14,.d (.v (.int .i64 (a0.length:Int)))),(15,.d (.v (.int .i64 p.2)))]) (fun n p=>ref3_ParaError_L0 F a0 n p.1 p.2=some s) (fun i hh=>by simp [ref3_ParaError_L0] at hh) (fun n p h=>?_) F ((0:Int),(0:Int)) h
      obtain ⟨v3,v1⟩:=p
      have h:ref3_ParaError_L0 F a0 (n+1) v3 v1=some s:=h
      rw [ref3_ParaError_L0] at h
      refine T_reg [] [3,5,13,14,15,16] [(16,.d (.v (.bool (decide (v1 < (a0.length:Int))))))] [] 1 (by kernel_rfl) (trivial) ?_
      refine T_seqk ?_
      refine T_cond (decide (v1 < (a0.length:Int))) (by kernel_rfl) (fun hc=>?_) (fun hc=>?_)
      · have h:=cond_tt hc h
        refine T_skip fun a w hm=>then_norm (((?_:T Tryd.prog e 108 _ _ _) a w hm))
        refine T_seqk ?_
        refine T_block ?_
        obtain ⟨hp1,h⟩:=chk_ok h
        refine T_reg [(0,{ cs:=cS_ParaWord (a0.getD v1.toNat (S_ParaWord.mk [] [])) })] [3,5,7,13,14,15] [(7,.box [.d (.sl 1 (((a0.getD v1.toNat (S_ParaWord.mk [] [])).f0).map (cI .i64))),.d (.sl 1 (((a0.getD v1.toNat (S_ParaWord.mk [] [])).f1).map (cI .i64)))])] [(0,0≤v1∧(a0.map cS_ParaWord)[v1.toNat]? = some (cS_ParaWord (a0.getD v1.toNat (S_ParaWord.mk [] []))))] 3 (by kernel_rfl) (idx_ok (d:=(S_ParaWord.mk [] [])) cS_ParaWord hp1) ?_
        refine T_seqk ?_
        obtain ⟨z2,hz1,h⟩:=lett_ok h
        obtain ⟨z3,hz2,h⟩:=lett_ok h
        refine T_reg [(2,{ rw:=some (.d (.v (.int .i64 (((a0.getD v1.toNat (S_ParaWord.mk [] [])).f0).length:Int)))) }),(7,{ rw:=some (.d (.v (.int .i64 (((a0.getD v1.toNat (S_ParaWord.mk [] [])).f1).length:Int)))) }),(11,{ rw:=some (.d (.v (.int .i64 (((a0.getD v1.toNat (S_ParaWord.mk [] [])).f0).length:Int)))) }),(12,{ rw:=some (.d (.v (.bool z2))) }),(13,{ rw:=some (.d (.v (.bool z3))) })] [3,5,7,13,14,15,32] [(32,.d (.v (.bool z3)))] [(2,True∧AV.d (.v (.int .i64 ((((a0.getD v1.toNat (S_ParaWord.mk [] [])).f0).map (cI .i64)).length:Int)))=.d (.v (.int .i64 (((a0.getD v1.toNat (S_ParaWord.mk [] [])).f0).length:Int)))),(2,(((((((a0.getD v1.toNat (S_ParaWord.mk [] [])).f0).length:Int) == (0:Int)) == false) && true)=true→True)),(0,(((((((a0.getD v1.toNat (S_ParaWord.mk [] [])).f0).length:Int) == (0:Int)) == false) && true)=true→True)),(0,(((((((a0.getD v1.toNat (S_ParaWord.mk [] [])).f0).length:Int) == (0:Int)) == false) && true)=true→True∧AV.d (.v (.int .i64 ((((a0.getD v1.toNat (S_ParaWord.mk [] [])).f1).map (cI .i64)).length:Int)))=.d (.v (.int .i64 (((a0.getD v1.toNat (S_ParaWord.mk [] [])).f1).length:Int))))),(0,(((((((a0.getD v1.toNat (S_ParaWord.mk [] [])).f0).length:Int) == (0:Int)) == false) && true)=true→True)),(0,(((((((a0.getD v1.toNat (S_ParaWord.mk [] [])).f0).length:Int) == (0:Int)) == false) && true)=true→True)),(0,(((((((a0.getD v1.toNat (S_ParaWord.mk [] [])).f0).length:Int) == (0:Int)) == false) && true)=true→True)),(0,(((((((a0.getD v1.toNat (S_ParaWord.mk [] [])).f0).length:Int) == (0:Int)) == false) && true)=true→True∧AV.d (.v (.int .i64 ((((a0.getD v1.toNat (S_ParaWord.mk [] [])).f0).map (cI .i64)).length:Int)))=.d (.v (.int .i64 (((a0.getD v1.toNat (S_ParaWord.mk [] [])).f0).length:Int))))),(0,(((((((a0.getD v1.toNat (S_ParaWord.mk [] [])).f0).length:Int) == (0:Int)) == false) && true)=true→(True)∧AV.d (.v (.bool ((IntKind.i64.wrap ((((a0.getD v1.toNat (S_ParaWord.mk [] [])).f1).length:Int)+(1:Int))) != (((a0.getD v1.toNat (S_ParaWord.mk [] [])).f0).length:Int))))=.d (.v (.bool z2)))),(0,(True)∧AV.d (.v (.bool (bif ((((a0.getD v1.toNat (S_ParaWord.mk [] [])).f0).length:Int) == (0:Int)) then true else z2)))=.d (.v (.bool z3)))] 0 (by kernel_rfl) (⟨len_ok (cI .i64),(fun hg=>trivial),(fun hg=>trivial),(fun hg=>len_ok (cI .i64)),(fun hg=>trivial),(fun hg=>trivial),(fun hg=>trivial),(fun hg=>len_ok (cI .i64)),(fun hg=>⟨trivial,(by subst hz1; rfl)⟩),⟨trivial,(by subst hz2; rfl)⟩⟩) ?_
        refine T_cond z3 (by kernel_rfl) (fun hc=>?_) (fun hc=>?_)
        · have h:=cond_tt hc h
          refine T_reg [] [4] [(4,.d (.v (.int .i64 (4:Int))))] [] 1 (by kernel_rfl) (trivial) ?_
          obtain hs:=Option.some.inj h; subst hs
          have h:=callE_esc hk1
          obtain hs:=Option.some.inj h; subst hs
          refine T_ret fun a w hm=>then_ret (inBlock_ret (then_ret (then_ret (inBlock_ret (then_ret (then_ret (T_return (fr':=[(4,.d (.v (.int .i64 (4:Int))))]) [4] (by kernel_rfl) [.keep [4]] (by kernel_rfl) (by kernel_rfl) (by kernel_rfl) (by show _=_; kernel_rfl) (by exact trivial) a w hm)))))))
        · have h:=cond_ff hc h
          refine T_skip fun a w hm=>then_norm (((?_:T Tryd.prog e 108 _ _ _) a w hm))
          refine T_reg [(3,{ rw:=some (.d (.v (.int .i64 (((a0.getD v1.toNat (S_ParaWord.mk [] [])).f0).length:Int)))) })] [3,5,7,13,14,15] [(5,.d (.v (.int .i64 (IntKind.i64.wrap (v3+(((a0.getD v1.toNat (S_ParaWord.mk [] [])).f0).length:Int))))))] [(3,True∧AV.d (.v (.int .i64 ((((a0.getD v1.toNat (S_ParaWord.mk [] [])).f0).map (cI .i64)).length:Int)))=.d (.v (.int .i64 (((a0.getD v1.toNat (S_ParaWord.mk [] [])).f0).length:Int))))] 2 (by kernel_rfl) (len_ok (cI .i64)) ?_
          refine T_seqk ?_
          obtain ⟨z4,hz3,h⟩:=lett_ok h
          refine T_reg [(1,{ rw:=some (.d (.v (.bool z4))) })] [3,5,7,13,14,15,39] [(39,.d (.v (.bool z4)))] [(1,(True)∧AV.d (.v (.bool (decide ((IntKind.i64.wrap (v3+(((a0.getD v1.toNat (S_ParaWord.mk [] [])).f0).length:Int))) > (256:Int)))))=.d (.v (.bool z4)))] 0 (by kernel_rfl) (⟨trivial,(by subst hz3; rfl)⟩) ?_
          refine T_cond z4 (by kernel_rfl) (fun hc=>?_) (fun hc=>?_)
          · have h:=cond_tt hc h
            refine T_reg [] [4] [(4,.d (.v (.int .i64 (2:Int))))] [] 1 (by kernel_rfl) (trivial) ?_
            obtain hs:=Option.some.inj h; subst hs
            have h:=callE_esc hk1
            obtain hs:=Option.some.inj h; subst hs
            refine T_ret fun a w hm=>then_ret (inBlock_ret (then_ret (then_ret (inBlock_ret (then_ret (then_ret (T_return (fr':=[(4,.d (.v (.int .i64 (2:Int))))]) [4] (by kernel_rfl) [.keep [4]] (by kernel_rfl) (by kernel_rfl) (by kernel_rfl) (by show _=_; kernel_rfl) (by exact trivial) a w hm)))))))
          · have h:=cond_ff hc h
            refine T_skip fun a w hm=>then_norm (((?_:T Tryd.prog e 108 _ _ _) a w hm))
            refine T_seqk ?_
            refine T_reg [(2,{ rw:=some (.d (.v (.int .i64 (((a0.getD v1.toNat (S_ParaWord.mk [] [])).f0).length:Int)))) })] [3,5,7,13,14,15,41,42,43] [(41,.d (.sl 1 (((a0.getD v1.toNat (S_ParaWord.mk [] [])).f0).map (cI .i64)))),(42,.d (.v (.int .i64 (((a0.getD v1.toNat (S_ParaWord.mk [] [])).f0).length:Int)))),(43,.d (.v (.int .i64 (0:Int))))] [(2,True∧AV.d (.v (.int .i64 ((((a0.getD v1.toNat (S_ParaWord.mk [] [])).f0).map (cI .i64)).length:Int)))=.d (.v (.int .i64 (((a0.getD v1.toNat (S_ParaWord.mk [] [])).f0).length:Int))))] 1 (by kernel_rfl) (len_ok (cI .i64)) ?_
            refine T_joinEt h (fun (p:Unit)=>[(3,.box [.d (.v (.int .i64 a1.f0)),.d (.v (.int .i64 a1.f1)),.d (.v (.int .i64 a1.f2)),.d (.v (.int .i64 a1.f3)),.d (.v (.int .i64 a1.f4)),.d (.v (.int .i64 a1.f5))]),(5,.d (.v (.int .i64 (IntKind.i64.wrap (v3+(((a0.getD v1.toNat (S_ParaWord.mk [] [])).f0).length:Int)))))),(7,.box [.d (.sl 1 (((a0.getD v1.toNat (S_ParaWord.mk [] [])).f0).map (cI .i64))),.d (.sl 1 (((a0.getD v1.toNat (S_ParaWord.mk [] [])).f1).map (cI .i64)))]),(13,.d (.sl 2 (a0.map cS_ParaWord))),(14,.d (.v (.int .i64 (a0.length:Int)))),(15,.d (.v (.int .i64 v1)))]) (fun s h hk2=>?_) (fun s h=>?_)
            · refine T_co [.keep [3,5,7,13,14,15,41,42,43]] ((fun (p:Int)=>[(3,.box [.d (.v (.int .i64 a1.f0)),.d (.v (.int .i64 a1.f1)),.d (.v (.int .i64 a1.f2)),.d (.v (.int .i64 a1.f3)),.d (.v (.int .i64 a1.f4)),.d (.v (.int .i64 a1.f5))]),(5,.d (.v (.int .i64 (IntKind.i64.wrap (v3+(((a0.getD v1.toNat (S_ParaWord.mk [] [])).f0).length:Int)))))),(7,.box [.d (.sl 1 (((a0.getD v1.toNat (S_ParaWord.mk [] [])).f0).map (cI .i64))),.d (.sl 1 (((a0.getD v1.toNat (S_ParaWord.mk [] [])).f1).map (cI .i64)))]),(13,.d (.sl 2 (a0.map cS_ParaWord))),(14,.d (.v (.int .i64 (a0.length:Int)))),(15,.d (.v (.int .i64 v1))),(41,.d (.sl 1 (((a0.getD v1.toNat (S_ParaWord.mk [] [])).f0).map (cI .i64)))),(42,.d (.v (.int .i64 (((a0.getD v1.toNat (S_ParaWord.mk [] [])).f0).length:Int)))),(43,.d (.v (.int .i64 p)))]) (0:Int)) (by show _=_; kernel_rfl) ?_
              refine T_block ?_
              refine T_loopF (ι:=Int) (fun (p:Int)=>[(3,.box [.d (.v (.int .i64 a1.f0)),.d (.v (.int .i64 a1.f1)),.d (.v (.int .i64 a1.f2)),.d (.v (.int .i64 a1.f3)),.d (.v (.int .i64 a1.f4)),.d (.v (.int .i64 a1.f5))]),(5,.d (.v (.int .i64 (IntKind.i64.wrap (v3+(((a0.getD v1.toNat (S_ParaWord.mk [] [])).f0).length:Int)))))),(7,.box [.d (.sl 1 (((a0.getD v1.toNat (S_ParaWord.mk [] [])).f0).map (cI .i64))),.d (.sl 1 (((a0.getD v1.toNat (S_ParaWord.mk [] [])).f1).map (cI .i64)))]),(13,.d (.sl 2 (a0.map cS_ParaWord))),(14,.d (.v (.int .i64 (a0.length:Int)))),(15,.d (.v (.int .i64 v1))),(41,.d (.sl 1 (((a0.getD v1.toNat (S_ParaWord.mk [] [])).f0).map (cI .i64)))),(42,.d (.v (.int .i64 (((a0.getD v1.toNat (S_ParaWord.mk [] [])).f0).length:Int)))),(43,.d (.v (.int .i64 p)))]) (fun n p=>ref3_ParaError_L2 F a0 v1 n p=some s) (fun i hh=>by simp [ref3_ParaError_L2] at hh) (fun n v2 h=>?_) F (0:Int) h
              have h:ref3_ParaError_L2 F a0 v1 (n+1) v2=some s:=h
              rw [ref3_ParaError_L2] at h
              refine T_reg [] [3,5,7,13,14,15,41,42,43,44] [(44,.d (.v (.bool (decide (v2 < (((a0.getD v1.toNat (S_ParaWord.mk [] [])).f0).length:Int))))))] [] 1 (by kernel_rfl) (trivial) ?_
              refine T_seqk ?_
              refine T_cond (decide (v2 < (((a0.getD v1.toNat (S_ParaWord.mk [] [])).f0).length:Int))) (by kernel_rfl) (fun hc=>?_) (fun hc=>?_)
              · have h:=cond_tt hc h
                refine T_skip fun a w hm=>then_norm (((?_:T Tryd.prog e 108 _ _ _) a w hm))
                refine T_seqk ?_
                refine T_block ?_
                obtain ⟨hp2,h⟩:=chk_ok h
                refine T_reg [(0,{ cs:=(cI .i64) (((a0.getD v1.toNat (S_ParaWord.mk [] [])).f0).getD v2.toNat 0) })] [3,5,7,9,13,14,15,41,42,43] [(9,.d (.v (.int .i64 (((a0.getD v1.toNat (S_ParaWord.mk [] [])).f0).getD v2.toNat 0))))] [(0,0≤v2∧(((a0.getD v1.toNat (S_ParaWord.mk [] [])).f0).map (cI .i64))[v2.toNat]? = some ((cI .i64) (((a0.getD v1.toNat (S_ParaWord.mk [] [])).f0).getD v2.toNat 0)))] 2 (by kernel_rfl) (idx_ok (d:=0) (cI .i64) hp2) ?_
                obtain ⟨z1,hz4,h⟩:=lett_ok h
                refine T_reg [(5,{ rw:=some (.d (.v (.bool z1))) })] [3,5,7,13,14,15,41,42,43,52] [(52,.d (.v (.bool z1)))] [(3,((((decide ((((a0.getD v1.toNat (S_ParaWord.mk [] [])).f0).getD v2.toNat 0) < (0:Int))) == false) && true)=true→True)),(0,((((decide ((((a0.getD v1.toNat (S_ParaWord.mk [] [])).f0).getD v2.toNat 0) < (0:Int))) == false) && true)=true→True)),(0,(True)∧AV.d (.v (.bool (bif (decide ((((a0.getD v1.toNat (S_ParaWord.mk [] [])).f0).getD v2.toNat 0) < (0:Int))) then true else (decide ((((a0.getD v1.toNat (S_ParaWord.mk [] [])).f0).getD v2.toNat 0) > (65535:Int))))))=.d (.v (.bool z1)))] 0 (by kernel_rfl) (⟨(fun hg=>trivial),(fun hg=>trivial),⟨trivial,(by subst hz4; rfl)⟩⟩) ?_
                refine T_cond z1 (by kernel_rfl) (fun hc=>?_) (fun hc=>?_)
                · have h:=cond_tt hc h
                  refine T_reg [] [4] [(4,.d (.v (.int .i64 (3:Int))))] [] 1 (by kernel_rfl) (trivial) ?_
                  obtain hs:=Option.some.inj h; subst hs
                  have h:=callE_esc hk2
                  obtain hs:=Option.some.inj h; subst hs
                  have h:=callE_esc hk1
                  obtain hs:=Option.some.inj h; subst hs
                  refine T_ret fun a w hm=>inBlock_ret (then_ret (then_ret (inBlock_ret (then_ret (then_ret (inBlock_ret (then_ret (then_ret (inBlock_ret (then_ret (then_ret (T_return (fr':=[(4,.d (.v (.int .i64 (3:Int))))]) [4] (by kernel_rfl) [.keep [4]] (by kernel_rfl) (by kernel_rfl) (by kernel_rfl) (by show _=_; kernel_rfl) (by exact trivial) a w hm))))))))))))
                · have h:=cond_ff hc h
                  refine T_skip fun a w hm=>inBlock_norm (then_norm (((?_:T Tryd.prog e 108 _ _ _) a w hm)))
                  refine T_reg_end [] [3,5,7,13,14,15,41,42,43] [(43,.d (.v (.int .i64 (IntKind.i64.wrap (v2+(1:Int))))))] [] 2 (by kernel_rfl) (trivial) fun a w hm=>then_norm (⟨IntKind.i64.wrap (v2+(1:Int)),h,hm.co (cs:=[.keep [3,5,7,13,14,15,41,42,43]]) (by show _=_; kernel_rfl)⟩)
              · have h:=cond_ff hc h
                obtain hs:=Option.some.inj h; subst hs
                refine T_exit fun a w hm=>then_exit (then_exit (inBlock_exit (then_norm (⟨_,rfl,hm.co (cs:=[.keep [3,5,7,13,14,15]]) (by show _=_; kernel_rfl)⟩))))
            · skip
              refine fun a w hm=>then_norm (((?_:T Tryd.prog e 108 _ _ _) a w hm))
              obtain ⟨y1,hy1,h⟩:=call_ok h
              refine T_reg [(2,{ res:=.d (.v (.bool y1)) })] [3,5,13,14,15,56] [(56,.d (.v (.bool y1)))] [(2,ACall Tryd.prog 19 [.d (.v (.int .i64 (2047:Int))),.d (.sl 1 (((a0.getD v1.toNat (S_ParaWord.mk [] [])).f1).map (cI .i64)))] [] (.d (.v (.bool y1))) [])] 0 (by kernel_rfl) (ref3_beyond_ok hy1) ?_
              refine T_cond y1 (by kernel_rfl) (fun hc=>?_) (fun hc=>?_)
              · have h:=cond_tt hc h
                refine T_reg [] [4] [(4,.d (.v (.int .i64 (3:Int))))] [] 1 (by kernel_rfl) (trivial) ?_
                obtain hs:=Option.some.inj h; subst hs
                have h:=callE_esc hk1
                obtain hs:=Option.some.inj h; subst hs
                refine T_ret fun a w hm=>inBlock_ret (then_ret (then_ret (inBlock_ret (then_ret (then_ret (T_return (fr':=[(4,.d (.v (.int .i64 (3:Int))))]) [4] (by kernel_rfl) [.keep [4]] (by kernel_rfl) (by kernel_rfl) (by kernel_rfl) (by show _=_; kernel_rfl) (by exact trivial) a w hm))))))
              · have h:=cond_ff hc h
                refine T_skip fun a w hm=>inBlock_norm (then_norm (((?_:T Tryd.prog e 108 _ _ _) a w hm)))
                refine T_reg_end [] [3,5,13,14,15] [(15,.d (.v (.int .i64 (IntKind.i64.wrap (v1+(1:Int))))))] [] 2 (by kernel_rfl) (trivial) fun a w hm=>then_norm (⟨(IntKind.i64.wrap (v3+(((a0.getD v1.toNat (S_ParaWord.mk [] [])).f0).length:Int)),IntKind.i64.wrap (v1+(1:Int))),h,hm.co (cs:=[.keep [3,5,13,14,15]]) (by show _=_; kernel_rfl)⟩)
      · have h:=cond_ff hc h
        obtain hs:=Option.some.inj h; subst hs
        refine T_exit fun a w hm=>then_exit (then_exit (inBlock_exit (then_norm (⟨_,rfl,hm.co (cs:=[.keep [3]]) (by show _=_; kernel_rfl)⟩))))
    · skip
      refine fun a w hm=>then_norm (((?_:T Tryd.prog e 108 _ _ _) a w hm))
      refine T_seqk ?_
      obtain ⟨z5,hz5,h⟩:=lett_ok h
      obtain ⟨z6,hz6,h⟩:=lett_ok h
      obtain ⟨z7,hz7,h⟩:=lett_ok h
      refine T_reg [(12,{ rw:=some (.d (.v (.bool z5))) }),(22,{ rw:=some (.d (.v (.bool z6))) }),(32,{ rw:=some (.d (.v (.bool z7))) })] [3,95] [(95,.d (.v (.bool (bif z7 then true else (decide (a1.f5 > (1048576:Int)))))))] [(4,((((decide (a1.f0 < (1:Int))) == false) && true)=true→True)),(0,((((decide (a1.f0 < (1:Int))) == false) && true)=true→True)),(0,((((decide (a1.f0 < (1:Int))) == false) && true)=true→True)),(2,((((bif (decide (a1.f0 < (1:Int))) then true else (decide (a1.f0 > (65535:Int)))) == false) && true)=true→True)),(0,((((bif (decide (a1.f0 < (1:Int))) then true else (decide (a1.f0 > (65535:Int)))) == false) && true)=true→True)),(0,((((bif (decide (a1.f0 < (1:Int))) then true else (decide (a1.f0 > (65535:Int)))) == false) && true)=true→True)),(0,(True)∧AV.d (.v (.bool (bif (bif (decide (a1.f0 < (1:Int))) then true else (decide (a1.f0 > (65535:Int)))) then true else (decide (a1.f2 < (0:Int))))))=.d (.v (.bool z5))),(1,(((z5 == false) && true)=true→True)),(0,(((z5 == false) && true)=true→True)),(0,(((z5 == false) && true)=true→True)),(2,((((bif z5 then true else (decide (a1.f3 > (65535:Int)))) == false) && true)=true→True)),(0,((((bif z5 then true else (decide (a1.f3 > (65535:Int)))) == false) && true)=true→True)),(0,((((bif z5 then true else (decide (a1.f3 > (65535:Int)))) == false) && true)=true→True)),(0,(True)∧AV.d (.v (.bool (bif (bif z5 then true else (decide (a1.f3 > (65535:Int)))) then true else (decide (a1.f4 < (0:Int))))))=.d (.v (.bool z6))),(1,(((z6 == false) && true)=true→True)),(0,(((z6 == false) && true)=true→True)),(0,(((z6 == false) && true)=true→True)),(2,((((bif z6 then true else (decide (a1.f4 > (65535:Int)))) == false) && true)=true→True)),(0,((((bif z6 then true else (decide (a1.f4 > (65535:Int)))) == false) && true)=true→True)),(0,((((bif z6 then true else (decide (a1.f4 > (65535:Int)))) == false) && true)=true→True)),(0,(True)∧AV.d (.v (.bool (bif (bif z6 then true else (decide (a1.f4 > (65535:Int)))) then true else (decide (a1.f5 < (0:Int))))))=.d (.v (.bool z7))),(1,(((z7 == false) && true)=true→True)),(0,(((z7 == false) && true)=true→True)),(0,(((z7 == false) && true)=true→True))] 1 (by kernel_rfl) (⟨(fun hg=>trivial),(fun hg=>trivial),(fun hg=>trivial),(fun hg=>trivial),(fun hg=>trivial),(fun hg=>trivial),⟨trivial,(by subst hz5; rfl)⟩,(fun hg=>trivial),(fun hg=>trivial),(fun hg=>trivial),(fun hg=>trivial),(fun hg=>trivial),(fun hg=>trivial),⟨trivial,(by subst hz6; rfl)⟩,(fun hg=>trivial),(fun hg=>trivial),(fun hg=>trivial),(fun hg=>trivial),(fun hg=>trivial),(fun hg=>trivial),⟨trivial,(by subst hz7; rfl)⟩,(fun hg=>trivial),(fun hg=>trivial),(fun hg=>trivial)⟩) ?_
      refine T_cond (bif z7 then true else (decide (a1.f5 > (1048576:Int)))) (by kernel_rfl) (fun hc=>?_) (fun hc=>?_)
      · have h:=cond_tt hc h
        refine T_reg [] [4] [(4,.d (.v (.int .i64 (3:Int))))] [] 1 (by kernel_rfl) (trivial) ?_
        obtain hs:=Option.some.inj h; subst hs
        refine T_ret fun a w hm=>then_ret (T_return (fr':=[(4,.d (.v (.int .i64 (3:Int))))]) [4] (by kernel_rfl) [.keep [4]] (by kernel_rfl) (by kernel_rfl) (by kernel_rfl) (by show _=_; kernel_rfl) (by exact trivial) a w hm)
      · have h:=cond_ff hc h
        refine T_skip fun a w hm=>then_norm (((?_:T Tryd.prog e 108 _ _ _) a w hm))
        refine T_seqk ?_
        refine T_reg [] [107] [(107,.d (.v (.bool (bif (decide (a1.f1 < a1.f2)) then true else (decide (a1.f3 < a1.f1))))))] [(6,((((decide (a1.f1 < a1.f2)) == false) && true)=true→True)),(0,((((decide (a1.f1 < a1.f2)) == false) && true)=true→True)),(0,((((decide (a1.f1 < a1.f2)) == false) && true)=true→True)),(0,((((decide (a1.f1 < a1.f2)) == false) && true)=true→True)),(0,((((decide (a1.f1 < a1.f2)) == false) && true)=true→True))] 1 (by kernel_rfl) (⟨(fun hg=>trivial),(fun hg=>trivial),(fun hg=>trivial),(fun hg=>trivial),(fun hg=>trivial)⟩) ?_
        refine T_cond (bif (decide (a1.f1 < a1.f2)) then true else (decide (a1.f3 < a1.f1))) (by kernel_rfl) (fun hc=>?_) (fun hc=>?_)
        · have h:=cond_tt hc h
          refine T_reg [] [4] [(4,.d (.v (.int .i64 (18:Int))))] [] 1 (by kernel_rfl) (trivial) ?_
          obtain hs:=Option.some.inj h; subst hs
          refine T_ret fun a w hm=>then_ret (T_return (fr':=[(4,.d (.v (.int .i64 (18:Int))))]) [4] (by kernel_rfl) [.keep [4]] (by kernel_rfl) (by kernel_rfl) (by kernel_rfl) (by show _=_; kernel_rfl) (by exact trivial) a w hm)
        · have h:=cond_ff hc h
          refine T_skip fun a w hm=>then_norm (((?_:T Tryd.prog e 108 _ _ _) a w hm))
          refine T_reg [] [4] [(4,.d (.v (.int .i64 (0:Int))))] [] 1 (by kernel_rfl) (trivial) ?_
          obtain hs:=Option.some.inj h; subst hs
          refine T_ret fun a w hm=>T_return (fr':=[(4,.d (.v (.int .i64 (0:Int))))]) [4] (by kernel_rfl) [.keep [4]] (by kernel_rfl) (by kernel_rfl) (by kernel_rfl) (by show _=_; kernel_rfl) (by exact trivial) a w hm
theorem ref3_Pieces_ok {F:Nat} {a0:List S_ParaWord} {r:(List S_ref3_Piece)} (h:ref3_Pieces F a0=some r):ACall Tryd.prog 12 [.d (.sl 2 (a0.map cS_ParaWord))] [] (.own 56 4 (r.map cS_ref3_Piece)) []:=by
  rw [ref3_Pieces] at h
  refine ACall.intro (N:=49) Tryd.func12 rfl rfl rfl rfl rfl fun e=>?_
  refine T_reg [] [0] [] [] 1 (by kernel_rfl) (trivial) ?_
  refine T_reg [] [0,3] [(3,.own 56 4 ([].map cS_ref3_Piece))] [] 1 (by kernel_rfl) (trivial) ?_
  refine T_seqk ?_
  refine T_reg [(1,{ rw:=some (.d (.v (.int .i64 (a0.length:Int)))) })] [3,9,10,11] [(9,.d (.sl 2 (a0.map cS_ParaWord))),(10,.d (.v (.int .i64 (a0.length:Int)))),(11,.d (.v (.int .i64 (0:Int))))] [(1,True∧AV.d (.v (.int .i64 ((a0.map cS_ParaWord).length:Int)))=.d (.v (.int .i64 (a0.length:Int))))] 1 (by kernel_rfl) (len_ok cS_ParaWord) ?_
  refine T_joinct h (fun (p:(List S_ref3_Piece))=>[(3,.own 56 4 (p.map cS_ref3_Piece))]) (fun s h=>?_) (fun v7 h=>?_)
  · refine T_co [.keep [3,9,10,11]] ((fun (p:(List S_ref3_Piece)×Int)=>[(3,.own 56 4 (p.1.map cS_ref3_Piece)),(9,.d (.sl 2 (a0.map cS_ParaWord))),(10,.d (.v (.int .i64 (a0.length:Int)))),(11,.d (.v (.int .i64 p.2)))]) ([],(0:Int))) (by show _=_; kernel_rfl) ?_
    refine T_block ?_
    refine T_loopF (ι:=(List S_ref3_Piece)×Int) (fun (p:(List S_ref3_Piece)×Int)=>[(3,.own 56 4 (p.1.map cS_ref3_Piece)),(9,.d (.sl 2 (a0.map cS_ParaWord))),(10,.d (.v (.int .i64 (a0.length:Int)))),(11,.d (.v (.int .i64 p.2)))]) (fun n p=>ref3_Pieces_L0 F a0 n p.1 p.2=some s) (fun i hh=>by simp [ref3_Pieces_L0] at hh) (fun n p h=>?_) F ([],(0:Int)) h
    obtain ⟨v5,v1⟩:=p
    have h:ref3_Pieces_L0 F a0 (n+1) v5 v1=some s:=h
    rw [ref3_Pieces_L0] at h
    refine T_reg [] [3,9,10,11,12] [(12,.d (.v (.bool (decide (v1 < (a0.length:Int))))))] [] 1 (by kernel_rfl) (trivial) ?_
    refine T_seqk ?_
    refine T_cond (decide (v1 < (a0.length:Int))) (by kernel_rfl) (fun hc=>?_) (fun hc=>?_)
    · have h:=cond_tt hc h
      refine T_skip fun a w hm=>then_norm (((?_:T Tryd.prog e 49 _ _ _) a w hm))
      refine T_seqk ?_
      refine T_block ?_
      obtain ⟨hp1,h⟩:=chk_ok h
      refine T_reg [(1,{ cs:=cS_ParaWord (a0.getD v1.toNat (S_ParaWord.mk [] [])) })] [3,4,5,9,10,11] [(4,.d (.v (.int .i64 v1))),(5,.box [.d (.sl 1 (((a0.getD v1.toNat (S_ParaWord.mk [] [])).f0).map (cI .i64))),.d (.sl 1 (((a0.getD v1.toNat (S_ParaWord.mk [] [])).f1).map (cI .i64)))])] [(1,0≤v1∧(a0.map cS_ParaWord)[v1.toNat]? = some (cS_ParaWord (a0.getD v1.toNat (S_ParaWord.mk [] []))))] 4 (by kernel_rfl) (idx_ok (d:=(S_ParaWord.mk [] [])) cS_ParaWord hp1) ?_
      refine T_reg [(2,{ rw:=some (.d (.v (.int .i64 (((a0.getD v1.toNat (S_ParaWord.mk [] [])).f0).length:Int)))) })] [3,4,5,9,10,11,17,18,19] [(17,.d (.sl 1 (((a0.getD v1.toNat (S_ParaWord.mk [] [])).f0).map (cI .i64)))),(18,.d (.v (.int .i64 (((a0.getD v1.toNat (S_ParaWord.mk [] [])).f0).length:Int)))),(19,.d (.v (.int .i64 (0:Int))))] [(2,True∧AV.d (.v (.int .i64 ((((a0.getD v1.toNat (S_ParaWord.mk [] [])).f0).map (cI .i64)).length:Int)))=.d (.v (.int .i64 (((a0.getD v1.toNat (S_ParaWord.mk [] [])).f0).length:Int))))] 1 (by kernel_rfl) (len_ok (cI .i64)) ?_
      refine T_joinct h (fun (p:(List S_ref3_Piece))=>[(3,.own 56 4 (p.map cS_ref3_Piece)),(9,.d (.sl 2 (a0.map cS_ParaWord))),(10,.d (.v (.int .i64 (a0.length:Int)))),(11,.d (.v (.int .i64 v1)))]) (fun s h=>?_) (fun v6 h=>?_)
      · refine T_co [.keep [3,4,5,9,10,11,17,18,19]] ((fun (p:(List S_ref3_Piece)×Int)=>[(3,.own 56 4 (p.1.map cS_ref3_Piece)),(4,.d (.v (.int .i64 v1))),(5,.box [.d (.sl 1 (((a0.getD v1.toNat (S_ParaWord.mk [] [])).f0).map (cI .i64))),.d (.sl 1 (((a0.getD v1.toNat (S_ParaWord.mk [] [])).f1).map (cI .i64)))]),(9,.d (.sl 2 (a0.map cS_ParaWord))),(10,.d (.v (.int .i64 (a0.length:Int)))),(11,.d (.v (.int .i64 v1))),(17,.d (.sl 1 (((a0.getD v1.toNat (S_ParaWord.mk [] [])).f0).map (cI .i64)))),(18,.d (.v (.int .i64 (((a0.getD v1.toNat (S_ParaWord.mk [] [])).f0).length:Int)))),(19,.d (.v (.int .i64 p.2)))]) (v5,(0:Int))) (by show _=_; kernel_rfl) ?_
        refine T_block ?_
        refine T_loopF (ι:=(List S_ref3_Piece)×Int) (fun (p:(List S_ref3_Piece)×Int)=>[(3,.own 56 4 (p.1.map cS_ref3_Piece)),(4,.d (.v (.int .i64 v1))),(5,.box [.d (.sl 1 (((a0.getD v1.toNat (S_ParaWord.mk [] [])).f0).map (cI .i64))),.d (.sl 1 (((a0.getD v1.toNat (S_ParaWord.mk [] [])).f1).map (cI .i64)))]),(9,.d (.sl 2 (a0.map cS_ParaWord))),(10,.d (.v (.int .i64 (a0.length:Int)))),(11,.d (.v (.int .i64 v1))),(17,.d (.sl 1 (((a0.getD v1.toNat (S_ParaWord.mk [] [])).f0).map (cI .i64)))),(18,.d (.v (.int .i64 (((a0.getD v1.toNat (S_ParaWord.mk [] [])).f0).length:Int)))),(19,.d (.v (.int .i64 p.2)))]) (fun n p=>ref3_Pieces_L2 F a0 v1 n p.1 p.2=some s) (fun i hh=>by simp [ref3_Pieces_L2] at hh) (fun n p h=>?_) F (v5,(0:Int)) h
        obtain ⟨v2,v3⟩:=p
        have h:ref3_Pieces_L2 F a0 v1 (n+1) v2 v3=some s:=h
        rw [ref3_Pieces_L2] at h
        refine T_reg [] [3,4,5,9,10,11,17,18,19,20] [(20,.d (.v (.bool (decide (v3 < (((a0.getD v1.toNat (S_ParaWord.mk [] [])).f0).length:Int))))))] [] 1 (by kernel_rfl) (trivial) ?_
        refine T_seqk ?_
        refine T_cond (decide (v3 < (((a0.getD v1.toNat (S_ParaWord.mk [] [])).f0).length:Int))) (by kernel_rfl) (fun hc=>?_) (fun hc=>?_)
        · have h:=cond_tt hc h
          refine T_skip fun a w hm=>then_norm (((?_:T Tryd.prog e 49 _ _ _) a w hm))
          refine T_seqk ?_
          refine T_block ?_
          obtain ⟨hp2,h⟩:=chk_ok h
          refine T_reg [(1,{ cs:=(cI .i64) (((a0.getD v1.toNat (S_ParaWord.mk [] [])).f0).getD v3.toNat 0) })] [3,4,5,6,7,9,10,11,17,18,19] [(6,.d (.v (.int .i64 v3))),(7,.d (.v (.int .i64 (((a0.getD v1.toNat (S_ParaWord.mk [] [])).f0).getD v3.toNat 0))))] [(1,0≤v3∧(((a0.getD v1.toNat (S_ParaWord.mk [] [])).f0).map (cI .i64))[v3.toNat]? = some ((cI .i64) (((a0.getD v1.toNat (S_ParaWord.mk [] [])).f0).getD v3.toNat 0)))] 3 (by kernel_rfl) (idx_ok (d:=0) (cI .i64) hp2) ?_
          obtain ⟨z1,hz1,h⟩:=lett_ok h
          refine T_reg [(6,{ rw:=some (.d (.v (.int .i64 (((a0.getD v1.toNat (S_ParaWord.mk [] [])).f0).length:Int)))) }),(7,{ rw:=some (.d (.v (.bool z1))) })] [3,4,5,6,8,9,10,11,17,18,19] [(8,.box [.d (.v (.int .i64 (((a0.getD v1.toNat (S_ParaWord.mk [] [])).f0).getD v3.toNat 0))),.d (.v (.int .i64 0)),.d (.v (.int .i64 v1)),.d (.v (.bool z1))])] [(6,True∧AV.d (.v (.int .i64 ((((a0.getD v1.toNat (S_ParaWord.mk [] [])).f0).map (cI .i64)).length:Int)))=.d (.v (.int .i64 (((a0.getD v1.toNat (S_ParaWord.mk [] [])).f0).length:Int)))),(0,(True)∧AV.d (.v (.bool ((IntKind.i64.wrap (v3+(1:Int))) == (((a0.getD v1.toNat (S_ParaWord.mk [] [])).f0).length:Int))))=.d (.v (.bool z1)))] 3 (by kernel_rfl) (⟨len_ok (cI .i64),⟨trivial,(by subst hz1; rfl)⟩⟩) ?_
          refine T_joinc h (fun (p:Int)=>[(3,.own 56 4 (v2.map cS_ref3_Piece)),(4,.d (.v (.int .i64 v1))),(5,.box [.d (.sl 1 (((a0.getD v1.toNat (S_ParaWord.mk [] [])).f0).map (cI .i64))),.d (.sl 1 (((a0.getD v1.toNat (S_ParaWord.mk [] [])).f1).map (cI .i64)))]),(8,.box [.d (.v (.int .i64 (((a0.getD v1.toNat (S_ParaWord.mk [] [])).f0).getD v3.toNat 0))),.d (.v (.int .i64 p)),.d (.v (.int .i64 v1)),.d (.v (.bool z1))]),(9,.d (.sl 2 (a0.map cS_ParaWord))),(10,.d (.v (.int .i64 (a0.length:Int)))),(11,.d (.v (.int .i64 v1))),(17,.d (.sl 1 (((a0.getD v1.toNat (S_ParaWord.mk [] [])).f0).map (cI .i64)))),(18,.d (.v (.int .i64 (((a0.getD v1.toNat (S_ParaWord.mk [] [])).f0).length:Int)))),(19,.d (.v (.int .i64 v3)))]) (fun s h=>?_) (fun v4 h=>?_)
          · refine T_reg [] [3,4,5,6,8,9,10,11,17,18,19,34] [(34,.d (.v (.bool (decide (v3 > (0:Int))))))] [] 2 (by kernel_rfl) (trivial) ?_
            refine T_cond (decide (v3 > (0:Int))) (by kernel_rfl) (fun hc=>?_) (fun hc=>?_)
            · have h:=cond_tt hc h
              obtain ⟨hp3,h⟩:=chk_ok h
              obtain hs:=Option.some.inj h; subst hs
              refine T_reg_end [(4,{ cs:=(cI .i64) (((a0.getD v1.toNat (S_ParaWord.mk [] [])).f1).getD (IntKind.i64.wrap (v3 - (1:Int))).toNat 0) })] [3,4,5,8,9,10,11,17,18,19] [(8,.box [.d (.v (.int .i64 (((a0.getD v1.toNat (S_ParaWord.mk [] [])).f0).getD v3.toNat 0))),.d (.v (.int .i64 (((a0.getD v1.toNat (S_ParaWord.mk [] [])).f1).getD (IntKind.i64.wrap (v3 - (1:Int))).toNat 0))),.d (.v (.int .i64 v1)),.d (.v (.bool z1))])] [(4,0≤(IntKind.i64.wrap (v3 - (1:Int)))∧(((a0.getD v1.toNat (S_ParaWord.mk [] [])).f1).map (cI .i64))[(IntKind.i64.wrap (v3 - (1:Int))).toNat]? = some ((cI .i64) (((a0.getD v1.toNat (S_ParaWord.mk [] [])).f1).getD (IntKind.i64.wrap (v3 - (1:Int))).toNat 0)))] 3 (by kernel_rfl) (idx_ok (d:=0) (cI .i64) hp3) fun a w hm=>then_norm (hm.co (cs:=[.keep [3,4,5,8,9,10,11,17,18,19]]) (by show _=_; kernel_rfl))
            · have h:=cond_ff hc h
              obtain hs:=Option.some.inj h; subst hs
              refine T_skip fun a w hm=>then_norm (hm.co (cs:=[.keep [3,4,5,8,9,10,11,17,18,19]]) (by show _=_; kernel_rfl))
          · skip
            obtain ⟨hp4,h⟩:=chk_ok h
            obtain ⟨l1,hl1,h⟩:=lett_ok h
            refine T_reg_end [(2,{ es:=some (([(S_ref3_Piece.mk (((a0.getD v1.toNat (S_ParaWord.mk [] [])).f0).getD v3.toNat 0) v4 v1 z1)]).map cS_ref3_Piece) }),(3,{ es:=some (l1.map cS_ref3_Piece) })] [3,4,5,9,10,11,17,18,19] [(3,.own 56 4 (l1.map cS_ref3_Piece))] [(2,(([(S_ref3_Piece.mk (((a0.getD v1.toNat (S_ParaWord.mk [] [])).f0).getD v3.toNat 0) v4 v1 z1)]).map cS_ref3_Piece)=(([(S_ref3_Piece.mk (((a0.getD v1.toNat (S_ParaWord.mk [] [])).f0).getD v3.toNat 0) v4 v1 z1)]).map cS_ref3_Piece)),(0,(v2.map cS_ref3_Piece).length+(([(S_ref3_Piece.mk (((a0.getD v1.toNat (S_ParaWord.mk [] [])).f0).getD v3.toNat 0) v4 v1 z1)]).map cS_ref3_Piece).length≤4294967296∧(v2.map cS_ref3_Piece)++(([(S_ref3_Piece.mk (((a0.getD v1.toNat (S_ParaWord.mk [] [])).f0).getD v3.toNat 0) v4 v1 z1)]).map cS_ref3_Piece)=(l1.map cS_ref3_Piece))] 1 (by kernel_rfl) (⟨rfl,and_trans (app_ok cS_ref3_Piece hp4) (by subst hl1; rfl)⟩) fun a w hm=>inBlock_norm (then_norm (((?_:T Tryd.prog e 49 _ _ _) a w hm)))
            refine T_reg_end [] [3,4,5,9,10,11,17,18,19] [(19,.d (.v (.int .i64 (IntKind.i64.wrap (v3+(1:Int))))))] [] 2 (by kernel_rfl) (trivial) fun a w hm=>then_norm (⟨(l1,IntKind.i64.wrap (v3+(1:Int))),h,hm.co (cs:=[.keep [3,4,5,9,10,11,17,18,19]]) (by show _=_; kernel_rfl)⟩)
        · have h:=cond_ff hc h
          obtain hs:=Option.some.inj h; subst hs
          refine T_exit fun a w hm=>then_exit (then_exit (inBlock_exit (then_norm (hm.co (cs:=[.keep [3,9,10,11]]) (by show _=_; kernel_rfl)))))
      · skip
        refine fun a w hm=>inBlock_norm (then_norm (((?_:T Tryd.prog e 49 _ _ _) a w hm)))
        refine T_reg_end [] [3,9,10,11] [(11,.d (.v (.int .i64 (IntKind.i64.wrap (v1+(1:Int))))))] [] 2 (by kernel_rfl) (trivial) fun a w hm=>then_norm (⟨(v6,IntKind.i64.wrap (v1+(1:Int))),h,hm.co (cs:=[.keep [3,9,10,11]]) (by show _=_; kernel_rfl)⟩)
    · have h:=cond_ff hc h
      obtain hs:=Option.some.inj h; subst hs
      refine T_exit fun a w hm=>then_exit (then_exit (inBlock_exit (then_norm (hm.co (cs:=[.keep [3]]) (by show _=_; kernel_rfl)))))
  · skip
    refine fun a w hm=>then_norm (((?_:T Tryd.prog e 49 _ _ _) a w hm))
    refine T_reg [] [2,3] [(2,.vw (3,0))] [] 2 (by kernel_rfl) (trivial) ?_
    obtain hs:=Option.some.inj h; subst hs
    refine T_ret fun a w hm=>T_return (fr':=[(2,.own 56 4 (v7.map cS_ref3_Piece))]) [2] (by kernel_rfl) [.claim 2,.keep [2]] (by kernel_rfl) (by kernel_rfl) (by kernel_rfl) (by show _=_; kernel_rfl) (by exact trivial) a w hm
theorem ref3_Measured_ok {F:Nat} {a0:List S_ref3_Piece} {a1:Int} {a2:Int} {a3:Int} {r:Int×Int} (h:ref3_Measured F a0 a1 a2 a3=some r):ACall Tryd.prog 29 [.d (.sl 4 (a0.map cS_ref3_Piece)),.d (.v (.int .i64 a1)),.d (.v (.int .i64 a2)),.d (.v (.int .i64 a3))] [] (.tup [.d (.v (.int .i64 r.1)),.d (.v (.int .i64 r.2))]) []:=by
  rw [ref3_Measured] at h
  refine ACall.intro (N:=65) Tryd.func29 rfl rfl rfl rfl rfl fun e=>?_
  refine T_reg [] [0,1,2,3] [] [] 2 (by kernel_rfl) (trivial) ?_
  obtain ⟨hp1,h⟩:=chk_ok h
  refine T_reg [(2,{ cs:=cS_ref3_Piece (a0.getD a1.toNat (S_ref3_Piece.mk 0 0 0 false)) })] [0,1,2,3,10,11] [(10,.d (.v (.int .i64 ((a0.getD a1.toNat (S_ref3_Piece.mk 0 0 0 false)).f0)))),(11,.d (.v (.int .i64 (0:Int))))] [(2,0≤a1∧(a0.map cS_ref3_Piece)[a1.toNat]? = some (cS_ref3_Piece (a0.getD a1.toNat (S_ref3_Piece.mk 0 0 0 false))))] 4 (by kernel_rfl) (idx_ok (d:=(S_ref3_Piece.mk 0 0 0 false)) cS_ref3_Piece hp1) ?_
  refine T_seqk ?_
  refine T_reg [] [0,2,3,10,11,12] [(12,.d (.v (.int .i64 (IntKind.i64.wrap (a1+(1:Int))))))] [] 3 (by kernel_rfl) (trivial) ?_
  refine T_joinct h (fun (p:Int×Int)=>[(0,.d (.sl 4 (a0.map cS_ref3_Piece))),(2,.d (.v (.int .i64 a2))),(3,.d (.v (.int .i64 a3))),(10,.d (.v (.int .i64 p.1))),(11,.d (.v (.int .i64 p.2)))]) (fun s h=>?_) (fun s h=>?_)
  · refine T_co [.keep [0,2,3,10,11,12]] ((fun (p:Int×Int×Int)=>[(0,.d (.sl 4 (a0.map cS_ref3_Piece))),(2,.d (.v (.int .i64 a2))),(3,.d (.v (.int .i64 a3))),(10,.d (.v (.int .i64 p.1))),(11,.d (.v (.int .i64 p.2.1))),(12,.d (.v (.int .i64 p.2.2)))]) ((a0.getD a1.toNat (S_ref3_Piece.mk 0 0 0 false)).f0,(0:Int),IntKind.i64.wrap (a1+(1:Int)))) (by show _=_; kernel_rfl) ?_
    refine T_block ?_
    refine T_loopF (ι:=Int×Int×Int) (fun (p:Int×Int×Int)=>[(0,.d (.sl 4 (a0.map cS_ref3_Piece))),(2,.d (.v (.int .i64 a2))),(3,.d (.v (.int .i64 a3))),(10,.d (.v (.int .i64 p.1))),(11,.d (.v (.int .i64 p.2.1))),(12,.d (.v (.int .i64 p.2.2)))]) (fun n p=>ref3_Measured_L0 F a0 a2 n p.1 p.2.1 p.2.2=some s) (fun i hh=>by simp [ref3_Measured_L0] at hh) (fun n p h=>?_) F ((a0.getD a1.toNat (S_ref3_Piece.mk 0 0 0 false)).f0,(0:Int),IntKind.i64.wrap (a1+(1:Int))) h
    obtain ⟨v1,v2,v3⟩:=p
    have h:ref3_Measured_L0 F a0 a2 (n+1) v1 v2 v3=some s:=h
    rw [ref3_Measured_L0] at h
    refine T_seqk ?_
    refine T_reg [] [0,2,3,10,11,12,22] [(22,.d (.v (.bool (decide (v3 < a2)))))] [] 3 (by kernel_rfl) (trivial) ?_
    refine T_cond (decide (v3 < a2)) (by kernel_rfl) (fun hc=>?_) (fun hc=>?_)
    · have h:=cond_tt hc h
      refine T_skip fun a w hm=>then_norm (((?_:T Tryd.prog e 65 _ _ _) a w hm))
      refine T_joinc h (fun (p:Int×Int)=>[(0,.d (.sl 4 (a0.map cS_ref3_Piece))),(2,.d (.v (.int .i64 a2))),(3,.d (.v (.int .i64 a3))),(10,.d (.v (.int .i64 p.1))),(11,.d (.v (.int .i64 p.2))),(12,.d (.v (.int .i64 v3)))]) (fun s h=>?_) (fun s h=>?_)
      · refine T_block ?_
        obtain ⟨hp2,h⟩:=chk_ok h
        refine T_reg [(3,{ cs:=cS_ref3_Piece (a0.getD v3.toNat (S_ref3_Piece.mk 0 0 0 false)) })] [0,2,3,10,11,12] [(10,.d (.v (.int .i64 (IntKind.i64.wrap (v1+((a0.getD v3.toNat (S_ref3_Piece.mk 0 0 0 false)).f0))))))] [(3,0≤v3∧(a0.map cS_ref3_Piece)[v3.toNat]? = some (cS_ref3_Piece (a0.getD v3.toNat (S_ref3_Piece.mk 0 0 0 false))))] 4 (by kernel_rfl) (idx_ok (d:=(S_ref3_Piece.mk 0 0 0 false)) cS_ref3_Piece hp2) ?_
        obtain ⟨hp3,h⟩:=chk_ok h
        obtain ⟨hp4,h⟩:=chk_ok h
        obtain ⟨z1,hz1,h⟩:=lett_ok h
        refine T_draw mixed [(2,{ cs:=cS_ref3_Piece (a0.getD v3.toNat (S_ref3_Piece.mk 0 0 0 false)) }),(8,{ cs:=cS_ref3_Piece (a0.getD (IntKind.i64.wrap (v3 - (1:Int))).toNat (S_ref3_Piece.mk 0 0 0 false)) }),(11,{ rw:=some (.d (.v (.bool z1))) })] [0,2,3,10,11,12,43] [] [(0,.d (.sl 4 (a0.map cS_ref3_Piece))),(2,.d (.v (.int .i64 a2))),(3,.d (.v (.int .i64 a3))),(10,.d (.v (.int .i64 (IntKind.i64.wrap (v1+((a0.getD v3.toNat (S_ref3_Piece.mk 0 0 0 false)).f0)))))),(11,.d (.v (.int .i64 v2))),(12,.d (.v (.int .i64 v3))),(43,.d (.v (.bool z1)))] [(2,0≤v3∧(a0.map cS_ref3_Piece)[v3.toNat]? = some (cS_ref3_Piece (a0.getD v3.toNat (S_ref3_Piece.mk 0 0 0 false)))),(5,0≤(IntKind.i64.wrap (v3 - (1:Int)))∧(a0.map cS_ref3_Piece)[(IntKind.i64.wrap (v3 - (1:Int))).toNat]? = some (cS_ref3_Piece (a0.getD (IntKind.i64.wrap (v3 - (1:Int))).toNat (S_ref3_Piece.mk 0 0 0 false)))),(2,(True)∧AV.d (.v (.bool (((a0.getD v3.toNat (S_ref3_Piece.mk 0 0 0 false)).f2) == ((a0.getD (IntKind.i64.wrap (v3 - (1:Int))).toNat (S_ref3_Piece.mk 0 0 0 false)).f2))))=.d (.v (.bool z1)))] 0 (by kernel_rfl) (⟨idx_ok (d:=(S_ref3_Piece.mk 0 0 0 false)) cS_ref3_Piece hp3,idx_ok (d:=(S_ref3_Piece.mk 0 0 0 false)) cS_ref3_Piece hp4,⟨trivial,(by subst hz1; rfl)⟩⟩) ?_
        refine T_cond z1 (by kernel_rfl) (fun hc=>?_) (fun hc=>?_)
        · have h:=cond_tt hc h
          obtain ⟨hp5,h⟩:=chk_ok h
          obtain ⟨z2,hz2,h⟩:=lett_ok h
          obtain hs:=Option.some.inj h; subst hs
          refine T_reg_end [(3,{ cs:=cS_ref3_Piece (a0.getD v3.toNat (S_ref3_Piece.mk 0 0 0 false)) }),(6,{ rw:=some (.d (.v (.int .i64 z2))) })] [0,2,3,10,11,12] [(10,.d (.v (.int .i64 z2)))] [(3,0≤v3∧(a0.map cS_ref3_Piece)[v3.toNat]? = some (cS_ref3_Piece (a0.getD v3.toNat (S_ref3_Piece.mk 0 0 0 false)))),(2,(True)∧AV.d (.v (.int .i64 (IntKind.i64.wrap ((IntKind.i64.wrap (v1+((a0.getD v3.toNat (S_ref3_Piece.mk 0 0 0 false)).f0)))+((a0.getD v3.toNat (S_ref3_Piece.mk 0 0 0 false)).f1)))))=.d (.v (.int .i64 z2)))] 1 (by kernel_rfl) (⟨idx_ok (d:=(S_ref3_Piece.mk 0 0 0 false)) cS_ref3_Piece hp5,⟨trivial,(by subst hz2; rfl)⟩⟩) fun a w hm=>inBlock_norm (then_norm (hm.co (cs:=[.keep [0,2,3,10,11,12]]) (by show _=_; kernel_rfl)))
        · have h:=cond_ff hc h
          obtain hs:=Option.some.inj h; subst hs
          refine T_reg_end [] [0,2,3,10,11,12] [(11,.d (.v (.int .i64 (IntKind.i64.wrap (v2+(1:Int))))))] [] 3 (by kernel_rfl) (trivial) fun a w hm=>inBlock_norm (then_norm (hm.co (cs:=[.keep [0,2,3,10,11,12]]) (by show _=_; kernel_rfl)))
      · obtain ⟨v4,v5⟩:=s
        try dsimp only at h
        refine T_reg_end [] [0,2,3,10,11,12] [(12,.d (.v (.int .i64 (IntKind.i64.wrap (v3+(1:Int))))))] [] 3 (by kernel_rfl) (trivial) fun a w hm=>then_norm (⟨(v4,v5,IntKind.i64.wrap (v3+(1:Int))),h,hm.co (cs:=[.keep [0,2,3,10,11,12]]) (by show _=_; kernel_rfl)⟩)
    · have h:=cond_ff hc h
      obtain hs:=Option.some.inj h; subst hs
      refine T_exit fun a w hm=>then_exit (then_exit (inBlock_exit (then_norm (hm.co (cs:=[.keep [0,2,3,10,11]]) (by show _=_; kernel_rfl)))))
  · obtain ⟨v6,v7⟩:=s
    try dsimp only at h
    refine fun a w hm=>then_norm (((?_:T Tryd.prog e 65 _ _ _) a w hm))
    refine T_joinc h (fun (p:Int)=>[(10,.d (.v (.int .i64 p))),(11,.d (.v (.int .i64 v7)))]) (fun s h=>?_) (fun v8 h=>?_)
    · obtain ⟨hp6,h⟩:=chk_ok h
      refine T_reg [(3,{ cs:=cS_ref3_Piece (a0.getD (IntKind.i64.wrap (a2 - (1:Int))).toNat (S_ref3_Piece.mk 0 0 0 false)) })] [3,10,11,59] [(59,.d (.v (.bool (!((a0.getD (IntKind.i64.wrap (a2 - (1:Int))).toNat (S_ref3_Piece.mk 0 0 0 false)).f3)))))] [(3,0≤(IntKind.i64.wrap (a2 - (1:Int)))∧(a0.map cS_ref3_Piece)[(IntKind.i64.wrap (a2 - (1:Int))).toNat]? = some (cS_ref3_Piece (a0.getD (IntKind.i64.wrap (a2 - (1:Int))).toNat (S_ref3_Piece.mk 0 0 0 false))))] 3 (by kernel_rfl) (idx_ok (d:=(S_ref3_Piece.mk 0 0 0 false)) cS_ref3_Piece hp6) ?_
      refine T_cond (!((a0.getD (IntKind.i64.wrap (a2 - (1:Int))).toNat (S_ref3_Piece.mk 0 0 0 false)).f3)) (by kernel_rfl) (fun hc=>?_) (fun hc=>?_)
      · have h:=cond_tt hc h
        obtain hs:=Option.some.inj h; subst hs
        refine T_reg_end [] [10,11] [(10,.d (.v (.int .i64 (IntKind.i64.wrap (v6+a3)))))] [] 4 (by kernel_rfl) (trivial) fun a w hm=>then_norm (hm.co (cs:=[.keep [10,11]]) (by show _=_; kernel_rfl))
      · have h:=cond_ff hc h
        obtain hs:=Option.some.inj h; subst hs
        refine T_skip fun a w hm=>then_norm (hm.co (cs:=[.keep [10,11]]) (by show _=_; kernel_rfl))
    · skip
      refine T_reg [] [8,9] [(8,.d (.v (.int .i64 v8))),(9,.d (.v (.int .i64 v7)))] [] 4 (by kernel_rfl) (trivial) ?_
      obtain hs:=Option.some.inj h; subst hs
      refine T_ret fun a w hm=>T_return (fr':=[(8,.d (.v (.int .i64 v8))),(9,.d (.v (.int .i64 v7)))]) [8,9] (by kernel_rfl) [.keep [8,9]] (by kernel_rfl) (by kernel_rfl) (by kernel_rfl) (by show _=_; kernel_rfl) (by exact trivial) a w hm
theorem ref3_LineCost_ok {F:Nat} {a0:List S_ref3_Piece} {a1:Int} {a2:Int} {a3:S_ParaShape} {r:Int×Bool} (h:ref3_LineCost F a0 a1 a2 a3=some r):ACall Tryd.prog 23 [.d (.sl 4 (a0.map cS_ref3_Piece)),.d (.v (.int .i64 a1)),.d (.v (.int .i64 a2)),.agg (cS_ParaShape a3)] [] (.tup [.d (.v (.int .i64 r.1)),.d (.v (.bool r.2))]) []:=by
  rw [ref3_LineCost] at h
  refine ACall.intro (N:=80) Tryd.func23 rfl rfl rfl rfl rfl fun e=>?_
  refine T_reg [] [0,1,2,7] [(7,.box [.d (.v (.int .i64 a3.f0)),.d (.v (.int .i64 a3.f1)),.d (.v (.int .i64 a3.f2)),.d (.v (.int .i64 a3.f3)),.d (.v (.int .i64 a3.f4)),.d (.v (.int .i64 a3.f5))])] [] 3 (by kernel_rfl) (trivial) ?_
  obtain ⟨y1,hy1,h⟩:=call_ok h
  refine T_reg [(5,{ res:=.tup [.d (.v (.int .i64 y1.1)),.d (.v (.int .i64 y1.2))] })] [0,2,7,10,11] [(10,.d (.v (.int .i64 y1.1))),(11,.d (.v (.int .i64 y1.2)))] [(5,ACall Tryd.prog 29 [.d (.sl 4 (a0.map cS_ref3_Piece)),.d (.v (.int .i64 a1)),.d (.v (.int .i64 a2)),.d (.v (.int .i64 a3.f4))] [] (.tup [.d (.v (.int .i64 y1.1)),.d (.v (.int .i64 y1.2))]) [])] 5 (by kernel_rfl) (ref3_Measured_ok hy1) ?_
  refine T_seqk ?_
  refine T_reg [] [0,2,7,10,11,30] [(30,.d (.v (.bool (decide ((IntKind.i64.wrap (y1.1+(IntKind.i64.wrap (y1.2 * a3.f2)))) > a3.f0)))))] [] 9 (by kernel_rfl) (trivial) ?_
  refine T_cond (decide ((IntKind.i64.wrap (y1.1+(IntKind.i64.wrap (y1.2 * a3.f2)))) > a3.f0)) (by kernel_rfl) (fun hc=>?_) (fun hc=>?_)
  · have h:=cond_tt hc h
    refine T_reg [] [8,9] [(8,.d (.v (.int .i64 (0:Int)))),(9,.d (.v (.bool false)))] [] 2 (by kernel_rfl) (trivial) ?_
    obtain hs:=Option.some.inj h; subst hs
    refine T_ret fun a w hm=>then_ret (T_return (fr':=[(8,.d (.v (.int .i64 (0:Int)))),(9,.d (.v (.bool false)))]) [8,9] (by kernel_rfl) [.keep [8,9]] (by kernel_rfl) (by kernel_rfl) (by kernel_rfl) (by show _=_; kernel_rfl) (by exact trivial) a w hm)
  · have h:=cond_ff hc h
    refine T_skip fun a w hm=>then_norm (((?_:T Tryd.prog e 80 _ _ _) a w hm))
    refine T_seqk ?_
    obtain ⟨z1,hz1,h⟩:=lett_ok h
    refine T_reg [(2,{ rw:=some (.d (.v (.int .i64 (a0.length:Int)))) }),(18,{ rw:=some (.d (.v (.bool z1))) })] [0,2,7,10,11,49] [(49,.d (.v (.bool z1)))] [(2,True∧AV.d (.v (.int .i64 ((a0.map cS_ref3_Piece).length:Int)))=.d (.v (.int .i64 (a0.length:Int)))),(2,((((decide (a2 < (a0.length:Int))) == true) && true)=true→True)),(0,((((decide (a2 < (a0.length:Int))) == true) && true)=true→True)),(2,((((bif (decide (a2 < (a0.length:Int))) then (decide (y1.2 > (0:Int))) else false) == true) && true)=true→True)),(0,((((bif (decide (a2 < (a0.length:Int))) then (decide (y1.2 > (0:Int))) else false) == true) && true)=true→True)),(0,((((bif (decide (a2 < (a0.length:Int))) then (decide (y1.2 > (0:Int))) else false) == true) && true)=true→True)),(0,((((bif (decide (a2 < (a0.length:Int))) then (decide (y1.2 > (0:Int))) else false) == true) && true)=true→True)),(0,((((bif (decide (a2 < (a0.length:Int))) then (decide (y1.2 > (0:Int))) else false) == true) && true)=true→True)),(0,((((bif (decide (a2 < (a0.length:Int))) then (decide (y1.2 > (0:Int))) else false) == true) && true)=true→True)),(0,((((bif (decide (a2 < (a0.length:Int))) then (decide (y1.2 > (0:Int))) else false) == true) && true)=true→True)),(0,((((bif (decide (a2 < (a0.length:Int))) then (decide (y1.2 > (0:Int))) else false) == true) && true)=true→True)),(0,((((bif (decide (a2 < (a0.length:Int))) then (decide (y1.2 > (0:Int))) else false) == true) && true)=true→True)),(0,(True)∧AV.d (.v (.bool (bif (bif (decide (a2 < (a0.length:Int))) then (decide (y1.2 > (0:Int))) else false) then (decide ((IntKind.i64.wrap (y1.1+(IntKind.i64.wrap (y1.2 * a3.f3)))) < a3.f0)) else false)))=.d (.v (.bool z1)))] 0 (by kernel_rfl) (⟨len_ok cS_ref3_Piece,(fun hg=>trivial),(fun hg=>trivial),(fun hg=>trivial),(fun hg=>trivial),(fun hg=>trivial),(fun hg=>trivial),(fun hg=>trivial),(fun hg=>trivial),(fun hg=>trivial),(fun hg=>trivial),(fun hg=>trivial),⟨trivial,(by subst hz1; rfl)⟩⟩) ?_
    refine T_cond z1 (by kernel_rfl) (fun hc=>?_) (fun hc=>?_)
    · have h:=cond_tt hc h
      refine T_reg [] [8,9] [(8,.d (.v (.int .i64 (0:Int)))),(9,.d (.v (.bool false)))] [] 2 (by kernel_rfl) (trivial) ?_
      obtain hs:=Option.some.inj h; subst hs
      refine T_ret fun a w hm=>then_ret (T_return (fr':=[(8,.d (.v (.int .i64 (0:Int)))),(9,.d (.v (.bool false)))]) [8,9] (by kernel_rfl) [.keep [8,9]] (by kernel_rfl) (by kernel_rfl) (by kernel_rfl) (by show _=_; kernel_rfl) (by exact trivial) a w hm)
    · have h:=cond_ff hc h
      refine T_skip fun a w hm=>then_norm (((?_:T Tryd.prog e 80 _ _ _) a w hm))
      refine T_reg [] [0,2,7,12] [(12,.d (.v (.int .i64 (IntKind.i64.wrap ((IntKind.i64.wrap (a3.f0 - y1.1)) - (IntKind.i64.wrap (y1.2 * a3.f1)))))))] [] 10 (by kernel_rfl) (trivial) ?_
      refine T_joinc h (fun (p:Int)=>[(0,.d (.sl 4 (a0.map cS_ref3_Piece))),(2,.d (.v (.int .i64 a2))),(7,.box [.d (.v (.int .i64 a3.f0)),.d (.v (.int .i64 a3.f1)),.d (.v (.int .i64 a3.f2)),.d (.v (.int .i64 a3.f3)),.d (.v (.int .i64 a3.f4)),.d (.v (.int .i64 a3.f5))]),(12,.d (.v (.int .i64 p)))]) (fun s h=>?_) (fun v1 h=>?_)
      · refine T_reg [(2,{ rw:=some (.d (.v (.int .i64 (a0.length:Int)))) })] [0,2,7,12,62] [(62,.d (.v (.bool (a2 == (a0.length:Int)))))] [(2,True∧AV.d (.v (.int .i64 ((a0.map cS_ref3_Piece).length:Int)))=.d (.v (.int .i64 (a0.length:Int))))] 1 (by kernel_rfl) (len_ok cS_ref3_Piece) ?_
        refine T_cond (a2 == (a0.length:Int)) (by kernel_rfl) (fun hc=>?_) (fun hc=>?_)
        · have h:=cond_tt hc h
          obtain ⟨z2,hz2,h⟩:=lett_ok h
          obtain hs:=Option.some.inj h; subst hs
          refine T_reg_end [(1,{ rw:=some (.d (.v (.int .i64 z2))) })] [0,2,7,12] [(12,.d (.v (.int .i64 z2)))] [(1,(True)∧AV.d (.v (.int .i64 (if (0:Int) < (IntKind.i64.wrap ((IntKind.i64.wrap (a3.f0 - y1.1)) - (IntKind.i64.wrap (y1.2 * a3.f1)))) then (0:Int) else (IntKind.i64.wrap ((IntKind.i64.wrap (a3.f0 - y1.1)) - (IntKind.i64.wrap (y1.2 * a3.f1)))))))=.d (.v (.int .i64 z2)))] 1 (by kernel_rfl) (⟨trivial,(by subst hz2; rfl)⟩) fun a w hm=>then_norm (hm.co (cs:=[.keep [0,2,7,12]]) (by show _=_; kernel_rfl))
        · have h:=cond_ff hc h
          obtain hs:=Option.some.inj h; subst hs
          refine T_skip fun a w hm=>then_norm (hm.co (cs:=[.keep [0,2,7,12]]) (by show _=_; kernel_rfl))
      · skip
        refine T_seqk ?_
        obtain ⟨hp1,h⟩:=chk_ok h
        refine T_reg [(3,{ cs:=cS_ref3_Piece (a0.getD (IntKind.i64.wrap (a2 - (1:Int))).toNat (S_ref3_Piece.mk 0 0 0 false)) })] [7,12,70] [(70,.d (.v (.bool ((a0.getD (IntKind.i64.wrap (a2 - (1:Int))).toNat (S_ref3_Piece.mk 0 0 0 false)).f3))))] [(3,0≤(IntKind.i64.wrap (a2 - (1:Int)))∧(a0.map cS_ref3_Piece)[(IntKind.i64.wrap (a2 - (1:Int))).toNat]? = some (cS_ref3_Piece (a0.getD (IntKind.i64.wrap (a2 - (1:Int))).toNat (S_ref3_Piece.mk 0 0 0 false))))] 2 (by kernel_rfl) (idx_ok (d:=(S_ref3_Piece.mk 0 0 0 false)) cS_ref3_Piece hp1) ?_
        refine T_cond ((a0.getD (IntKind.i64.wrap (a2 - (1:Int))).toNat (S_ref3_Piece.mk 0 0 0 false)).f3) (by kernel_rfl) (fun hc=>?_) (fun hc=>?_)
        · have h:=cond_tt hc h
          refine T_reg [] [8,9] [(8,.d (.v (.int .i64 (IntKind.i64.wrap (v1 * v1))))),(9,.d (.v (.bool true)))] [] 5 (by kernel_rfl) (trivial) ?_
          obtain hs:=Option.some.inj h; subst hs
          refine T_ret fun a w hm=>then_ret (T_return (fr':=[(8,.d (.v (.int .i64 (IntKind.i64.wrap (v1 * v1))))),(9,.d (.v (.bool true)))]) [8,9] (by kernel_rfl) [.keep [8,9]] (by kernel_rfl) (by kernel_rfl) (by kernel_rfl) (by show _=_; kernel_rfl) (by exact trivial) a w hm)
        · have h:=cond_ff hc h
          refine T_skip fun a w hm=>then_norm (((?_:T Tryd.prog e 80 _ _ _) a w hm))
          refine T_reg [] [8,9] [(8,.d (.v (.int .i64 (IntKind.i64.wrap ((IntKind.i64.wrap (v1 * v1))+a3.f5))))),(9,.d (.v (.bool true)))] [] 8 (by kernel_rfl) (trivial) ?_
          obtain hs:=Option.some.inj h; subst hs
          refine T_ret fun a w hm=>T_return (fr':=[(8,.d (.v (.int .i64 (IntKind.i64.wrap ((IntKind.i64.wrap (v1 * v1))+a3.f5))))),(9,.d (.v (.bool true)))]) [8,9] (by kernel_rfl) [.keep [8,9]] (by kernel_rfl) (by kernel_rfl) (by kernel_rfl) (by show _=_; kernel_rfl) (by exact trivial) a w hm
theorem ref3_Cheapest_body_ok {F:Nat} {rec_ref3_Cheapest:(List S_ref3_Piece)→Int→S_ParaShape→Option (Int×(List Int)×Bool)} (hrec_ref3_Cheapest:∀ {a0:List S_ref3_Piece},∀ {a1:Int},∀ {a2:S_ParaShape},∀ {r:Int×(List Int)×Bool},rec_ref3_Cheapest a0 a1 a2=some r→ACall Tryd.prog 14 [.d (.sl 4 (a0.map cS_ref3_Piece)),.d (.v (.int .i64 a1)),.agg (cS_ParaShape a2)] [] (.tup [.d (.v (.int .i64 r.1)),.own 3 1 (r.2.1.map (cI .i64)),.d (.v (.bool r.2.2))]) []) {a0:List S_ref3_Piece} {a1:Int} {a2:S_ParaShape} {r:Int×(List Int)×Bool} (h:ref3_Cheapest_body F rec_ref3_Cheapest a0 a1 a2=some r):ACall Tryd.prog 14 [.d (.sl 4 (a0.map cS_ref3_Piece)),.d (.v (.int .i64 a1)),.agg (cS_ParaShape a2)] [] (.tup [.d (.v (.int .i64 r.1)),.own 3 1 (r.2.1.map (cI .i64)),.d (.v (.bool r.2.2))]) []:=by
  rw [ref3_Cheapest_body] at h
  refine ACall.intro (N:=75) Tryd.func14 rfl rfl rfl rfl rfl fun e=>?_
  refine T_reg [] [0,1,5] [(5,.box [.d (.v (.int .i64 a2.f0)),.d (.v (.int .i64 a2.f1)),.d (.v (.int .i64 a2.f2)),.d (.v (.int .i64 a2.f3)),.d (.v (.int .i64 a2.f4)),.d (.v (.int .i64 a2.f5))])] [] 4 (by kernel_rfl) (trivial) ?_
  refine T_seqk ?_
  refine T_reg [(2,{ rw:=some (.d (.v (.int .i64 (a0.length:Int)))) })] [0,1,5,22] [(22,.d (.v (.bool (a1 == (a0.length:Int)))))] [(2,True∧AV.d (.v (.int .i64 ((a0.map cS_ref3_Piece).length:Int)))=.d (.v (.int .i64 (a0.length:Int))))] 1 (by kernel_rfl) (len_ok cS_ref3_Piece) ?_
  refine T_cond (a1 == (a0.length:Int)) (by kernel_rfl) (fun hc=>?_) (fun hc=>?_)
  · have h:=cond_tt hc h
    refine T_reg [] [6,7,8] [(6,.d (.v (.int .i64 (0:Int)))),(7,.own 3 1 ([].map (cI .i64))),(8,.d (.v (.bool true)))] [] 3 (by kernel_rfl) (trivial) ?_
    obtain hs:=Option.some.inj h; subst hs
    refine T_ret fun a w hm=>then_ret (T_return (fr':=[(6,.d (.v (.int .i64 (0:Int)))),(7,.own 3 1 ([].map (cI .i64))),(8,.d (.v (.bool true)))]) [6,7,8] (by kernel_rfl) [.keep [6,7,8]] (by kernel_rfl) (by kernel_rfl) (by kernel_rfl) (by show _=_; kernel_rfl) (by exact trivial) a w hm)
  · have h:=cond_ff hc h
    refine T_skip fun a w hm=>then_norm (((?_:T Tryd.prog e 75 _ _ _) a w hm))
    refine T_reg [] [0,1,5,9,10] [(9,.d (.v (.int .i64 (0:Int)))),(10,.d (.v (.bool false)))] [] 2 (by kernel_rfl) (trivial) ?_
    refine T_reg [] [0,1,5,9,10,11] [(11,.own 3 1 ([].map (cI .i64)))] [] 1 (by kernel_rfl) (trivial) ?_
    refine T_seqk ?_
    refine T_reg [(1,{ rw:=some (.d (.v (.int .i64 (a0.length:Int)))) })] [0,1,5,9,10,11,26,27] [(26,.d (.v (.int .i64 (IntKind.i64.wrap ((a0.length:Int) - a1))))),(27,.d (.v (.int .i64 (0:Int))))] [(1,True∧AV.d (.v (.int .i64 ((a0.map cS_ref3_Piece).length:Int)))=.d (.v (.int .i64 (a0.length:Int))))] 3 (by kernel_rfl) (len_ok cS_ref3_Piece) ?_
    refine T_joinct h (fun (p:Int×Bool×(List Int))=>[(9,.d (.v (.int .i64 p.1))),(10,.d (.v (.bool p.2.1))),(11,.own 3 1 (p.2.2.map (cI .i64)))]) (fun s h=>?_) (fun s h=>?_)
    · refine T_co [.keep [0,1,5,9,10,11,26,27]] ((fun (p:Int×Bool×(List Int)×Int)=>[(0,.d (.sl 4 (a0.map cS_ref3_Piece))),(1,.d (.v (.int .i64 a1))),(5,.box [.d (.v (.int .i64 a2.f0)),.d (.v (.int .i64 a2.f1)),.d (.v (.int .i64 a2.f2)),.d (.v (.int .i64 a2.f3)),.d (.v (.int .i64 a2.f4)),.d (.v (.int .i64 a2.f5))]),(9,.d (.v (.int .i64 p.1))),(10,.d (.v (.bool p.2.1))),(11,.own 3 1 (p.2.2.1.map (cI .i64))),(26,.d (.v (.int .i64 (IntKind.i64.wrap ((a0.length:Int) - a1))))),(27,.d (.v (.int .i64 p.2.2.2)))]) ((0:Int),false,[],(0:Int))) (by show _=_; kernel_rfl) ?_
      refine T_block ?_
      refine T_loopF (ι:=Int×Bool×(List Int)×Int) (fun (p:Int×Bool×(List Int)×Int)=>[(0,.d (.sl 4 (a0.map cS_ref3_Piece))),(1,.d (.v (.int .i64 a1))),(5,.box [.d (.v (.int .i64 a2.f0)),.d (.v (.int .i64 a2.f1)),.d (.v (.int .i64 a2.f2)),.d (.v (.int .i64 a2.f3)),.d (.v (.int .i64 a2.f4)),.d (.v (.int .i64 a2.f5))]),(9,.d (.v (.int .i64 p.1))),(10,.d (.v (.bool p.2.1))),(11,.own 3 1 (p.2.2.1.map (cI .i64))),(26,.d (.v (.int .i64 (IntKind.i64.wrap ((a0.length:Int) - a1))))),(27,.d (.v (.int .i64 p.2.2.2)))]) (fun n p=>ref3_Cheapest_L0 F a0 a1 a2 rec_ref3_Cheapest n p.1 p.2.1 p.2.2.1 p.2.2.2=some s) (fun i hh=>by simp [ref3_Cheapest_L0] at hh) (fun n p h=>?_) F ((0:Int),false,[],(0:Int)) h
      obtain ⟨v1,v2,v3,v4⟩:=p
      have h:ref3_Cheapest_L0 F a0 a1 a2 rec_ref3_Cheapest (n+1) v1 v2 v3 v4=some s:=h
      rw [ref3_Cheapest_L0] at h
      refine T_reg [] [0,1,5,9,10,11,26,27,28] [(28,.d (.v (.bool (decide (v4 < (IntKind.i64.wrap ((a0.length:Int) - a1)))))))] [] 1 (by kernel_rfl) (trivial) ?_
      refine T_seqk ?_
      refine T_cond (decide (v4 < (IntKind.i64.wrap ((a0.length:Int) - a1)))) (by kernel_rfl) (fun hc=>?_) (fun hc=>?_)
      · have h:=cond_tt hc h
        refine T_skip fun a w hm=>then_norm (((?_:T Tryd.prog e 75 _ _ _) a w hm))
        refine T_joinc h (fun (p:Int×Bool×(List Int))=>[(0,.d (.sl 4 (a0.map cS_ref3_Piece))),(1,.d (.v (.int .i64 a1))),(5,.box [.d (.v (.int .i64 a2.f0)),.d (.v (.int .i64 a2.f1)),.d (.v (.int .i64 a2.f2)),.d (.v (.int .i64 a2.f3)),.d (.v (.int .i64 a2.f4)),.d (.v (.int .i64 a2.f5))]),(9,.d (.v (.int .i64 p.1))),(10,.d (.v (.bool p.2.1))),(11,.own 3 1 (p.2.2.map (cI .i64))),(26,.d (.v (.int .i64 (IntKind.i64.wrap ((a0.length:Int) - a1))))),(27,.d (.v (.int .i64 v4)))]) (fun s h=>?_) (fun s h=>?_)
        · refine T_block ?_
          refine T_reg [] [0,1,5,9,10,11,12,26,27] [(12,.d (.v (.int .i64 v4)))] [] 2 (by kernel_rfl) (trivial) ?_
          refine T_reg [(1,{ rw:=some (.d (.v (.int .i64 (a0.length:Int)))) })] [0,1,5,9,10,11,13,26,27] [(13,.d (.v (.int .i64 (IntKind.i64.wrap ((a0.length:Int) - v4)))))] [(1,True∧AV.d (.v (.int .i64 ((a0.map cS_ref3_Piece).length:Int)))=.d (.v (.int .i64 (a0.length:Int))))] 3 (by kernel_rfl) (len_ok cS_ref3_Piece) ?_
          obtain ⟨y1,hy1,h⟩:=call_ok h
          refine T_reg [(4,{ res:=.tup [.d (.v (.int .i64 y1.1)),.d (.v (.bool y1.2))] })] [0,1,5,9,10,11,13,14,15,26,27] [(14,.d (.v (.int .i64 y1.1))),(15,.d (.v (.bool y1.2)))] [(4,ACall Tryd.prog 23 [.d (.sl 4 (a0.map cS_ref3_Piece)),.d (.v (.int .i64 a1)),.d (.v (.int .i64 (IntKind.i64.wrap ((a0.length:Int) - v4)))),.agg (cS_ParaShape a2)] [] (.tup [.d (.v (.int .i64 y1.1)),.d (.v (.bool y1.2))]) [])] 5 (by kernel_rfl) (ref3_LineCost_ok hy1) ?_
          refine T_seqk ?_
          refine T_reg [] [0,1,5,9,10,11,13,14,26,27,43] [(43,.d (.v (.bool (!y1.2))))] [] 2 (by kernel_rfl) (trivial) ?_
          refine T_cond (!y1.2) (by kernel_rfl) (fun hc=>?_) (fun hc=>?_)
          · have h:=cond_tt hc h
            obtain hs:=Option.some.inj h; subst hs
            refine T_exit fun a w hm=>then_exit (inBlock_exit (then_norm (hm.co (cs:=[.keep [0,1,5,9,10,11,26,27]]) (by show _=_; kernel_rfl))))
          · have h:=cond_ff hc h
            refine T_skip fun a w hm=>then_norm (((?_:T Tryd.prog e 75 _ _ _) a w hm))
            obtain ⟨y2,hy2,h⟩:=call_ok h
            refine T_reg [(3,{ res:=.tup [.d (.v (.int .i64 y2.1)),.own 3 1 (y2.2.1.map (cI .i64)),.d (.v (.bool y2.2.2))] })] [0,1,5,9,10,11,13,14,16,17,18,26,27] [(16,.d (.v (.int .i64 y2.1))),(17,.own 3 1 (y2.2.1.map (cI .i64))),(18,.d (.v (.bool y2.2.2)))] [(3,ACall Tryd.prog 14 [.d (.sl 4 (a0.map cS_ref3_Piece)),.d (.v (.int .i64 (IntKind.i64.wrap ((a0.length:Int) - v4)))),.agg (cS_ParaShape a2)] [] (.tup [.d (.v (.int .i64 y2.1)),.own 3 1 (y2.2.1.map (cI .i64)),.d (.v (.bool y2.2.2))]) [])] 7 (by kernel_rfl) (hrec_ref3_Cheapest hy2) ?_
            obtain ⟨z1,hz1,h⟩:=lett_ok h
            refine T_reg [(11,{ rw:=some (.d (.v (.bool z1))) })] [0,1,5,9,10,11,13,14,16,17,26,27,63] [(63,.d (.v (.bool z1)))] [(2,(((y2.2.2 == true) && true)=true→True)),(0,(((y2.2.2 == true) && true)=true→True)),(0,(((y2.2.2 == true) && true)=true→True)),(0,((((!v2) == false) && ((y2.2.2 == true) && true))=true→True)),(0,((((!v2) == false) && ((y2.2.2 == true) && true))=true→True)),(0,((((!v2) == false) && ((y2.2.2 == true) && true))=true→True)),(0,((((!v2) == false) && ((y2.2.2 == true) && true))=true→True)),(0,((((!v2) == false) && ((y2.2.2 == true) && true))=true→True)),(0,(((y2.2.2 == true) && true)=true→True)),(0,(True)∧AV.d (.v (.bool (bif y2.2.2 then (bif (!v2) then true else (decide ((IntKind.i64.wrap (y1.1+y2.1)) < v1))) else false)))=.d (.v (.bool z1)))] 0 (by kernel_rfl) (⟨(fun hg=>trivial),(fun hg=>trivial),(fun hg=>trivial),(fun hg=>trivial),(fun hg=>trivial),(fun hg=>trivial),(fun hg=>trivial),(fun hg=>trivial),(fun hg=>trivial),⟨trivial,(by subst hz1; rfl)⟩⟩) ?_
            refine T_cond z1 (by kernel_rfl) (fun hc=>?_) (fun hc=>?_)
            · have h:=cond_tt hc h
              refine T_reg [] [0,1,5,9,10,13,17,26,27] [(9,.d (.v (.int .i64 (IntKind.i64.wrap (y1.1+y2.1))))),(10,.d (.v (.bool true)))] [] 5 (by kernel_rfl) (trivial) ?_
              obtain ⟨hp1,h⟩:=chk_ok h
              obtain hs:=Option.some.inj h; subst hs
              refine T_reg_end [(1,{ es:=some (([IntKind.i64.wrap ((a0.length:Int) - v4)]).map (cI .i64)) }),(3,{ es:=some ((([IntKind.i64.wrap ((a0.length:Int) - v4)])++y2.2.1).map (cI .i64)) })] [0,1,5,9,10,11,26,27] [(11,.own 3 1 ((([IntKind.i64.wrap ((a0.length:Int) - v4)])++y2.2.1).map (cI .i64)))] [(1,(([IntKind.i64.wrap ((a0.length:Int) - v4)]).map (cI .i64))=(([IntKind.i64.wrap ((a0.length:Int) - v4)]).map (cI .i64))),(1,(([IntKind.i64.wrap ((a0.length:Int) - v4)]).map (cI .i64)).length+(y2.2.1.map (cI .i64)).length≤4294967296∧(([IntKind.i64.wrap ((a0.length:Int) - v4)]).map (cI .i64))++(y2.2.1.map (cI .i64))=((([IntKind.i64.wrap ((a0.length:Int) - v4)])++y2.2.1).map (cI .i64)))] 1 (by kernel_rfl) (⟨rfl,app_ok (cI .i64) hp1⟩) fun a w hm=>inBlock_norm (then_norm (hm.co (cs:=[.keep [0,1,5,9,10,11,26,27]]) (by show _=_; kernel_rfl)))
            · have h:=cond_ff hc h
              obtain hs:=Option.some.inj h; subst hs
              refine T_skip fun a w hm=>inBlock_norm (then_norm (hm.co (cs:=[.keep [0,1,5,9,10,11,26,27]]) (by show _=_; kernel_rfl)))
        · obtain ⟨v5,v6,v7⟩:=s
          try dsimp only at h
          refine T_reg_end [] [0,1,5,9,10,11,26,27] [(27,.d (.v (.int .i64 (IntKind.i64.wrap (v4+(1:Int))))))] [] 2 (by kernel_rfl) (trivial) fun a w hm=>then_norm (⟨(v5,v6,v7,IntKind.i64.wrap (v4+(1:Int))),h,hm.co (cs:=[.keep [0,1,5,9,10,11,26,27]]) (by show _=_; kernel_rfl)⟩)
      · have h:=cond_ff hc h
        obtain hs:=Option.some.inj h; subst hs
        refine T_exit fun a w hm=>then_exit (then_exit (inBlock_exit (then_norm (hm.co (cs:=[.keep [9,10,11]]) (by show _=_; kernel_rfl)))))
    · obtain ⟨v8,v9,v10⟩:=s
      try dsimp only at h
      refine fun a w hm=>then_norm (((?_:T Tryd.prog e 75 _ _ _) a w hm))
      refine T_reg [] [6,7,8,11] [(6,.d (.v (.int .i64 v8))),(7,.vw (11,0)),(8,.d (.v (.bool v9)))] [] 6 (by kernel_rfl) (trivial) ?_
      obtain hs:=Option.some.inj h; subst hs
      refine T_ret fun a w hm=>T_return (fr':=[(6,.d (.v (.int .i64 v8))),(7,.own 3 1 (v10.map (cI .i64))),(8,.d (.v (.bool v9)))]) [6,7,8] (by kernel_rfl) [.claim 7,.keep [6,7,8]] (by kernel_rfl) (by kernel_rfl) (by kernel_rfl) (by show _=_; kernel_rfl) (by exact trivial) a w hm
theorem ref3_Cheapest_fuel_ok {F:Nat} (n:Nat):∀ {a0:List S_ref3_Piece} {a1:Int} {a2:S_ParaShape} {r:Int×(List Int)×Bool},ref3_Cheapest_fuel F n a0 a1 a2=some r→ACall Tryd.prog 14 [.d (.sl 4 (a0.map cS_ref3_Piece)),.d (.v (.int .i64 a1)),.agg (cS_ParaShape a2)] [] (.tup [.d (.v (.int .i64 r.1)),.own 3 1 (r.2.1.map (cI .i64)),.d (.v (.bool r.2.2))]) []:=by
  induction n with
  | zero=>intro a0 a1 a2 r h; exact absurd (show (none:Option (Int×(List Int)×Bool))=some r from h) (by simp)
  | succ n ih=>intro a0 a1 a2 r h; exact ref3_Cheapest_body_ok ih h
theorem ref3_Cheapest_ok {F:Nat} {a0:List S_ref3_Piece} {a1:Int} {a2:S_ParaShape} {r:Int×(List Int)×Bool} (h:ref3_Cheapest F a0 a1 a2=some r):ACall Tryd.prog 14 [.d (.sl 4 (a0.map cS_ref3_Piece)),.d (.v (.int .i64 a1)),.agg (cS_ParaShape a2)] [] (.tup [.d (.v (.int .i64 r.1)),.own 3 1 (r.2.1.map (cI .i64)),.d (.v (.bool r.2.2))]) []:=ref3_Cheapest_fuel_ok F h
end Go.Vm.ParM
