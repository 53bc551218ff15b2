import Derived.Test.YtbnneoaaeidenaaDoorProg
import Derived.Test.YtbnneoaaeidenaaDoorParMh
namespace Go.Vm.ParM
open Go.Proofs
set_option maxRecDepth 20000
theorem mixed:Tryd.prog.follows .mixedOrders=true:=by kernel_rfl
theorem para_Check_ok {F:Nat} {a0:List S_ParaWord} {a1:S_ParaShape} {r:Int} (h:para_Check F a0 a1=some r):ACall Tryd.prog 10 [.d (.sl 2 (a0.map cS_ParaWord)),.agg (cS_ParaShape a1)] [] (.d (.v (.int .i64 r))) []:=by
  rw [para_Check] at h
  refine ACall.intro (N:=123) Tryd.func10 rfl rfl rfl rfl rfl fun e=>?_
  refine T_reg [] [0,3] [(3,.box [.d (.v (.int .i64 a1.f0)),.d (.v (.int .i64 a1.f1)),.d (.v (.int .i64 a1.f2)),.d (.v (.int .i64 a1.f3)),.d (.v (.int .i64 a1.f4)),.d (.v (.int .i64 a1.f5))])] [] 2 (by kernel_rfl) (trivial) ?_
  refine T_seqk ?_
  refine T_reg [(1,{ rw:=some (.d (.v (.int .i64 (a0.length:Int)))) })] [0,3,14] [(14,.d (.v (.bool (decide ((a0.length:Int) > (128:Int))))))] [(1,True∧AV.d (.v (.int .i64 ((a0.map cS_ParaWord).length:Int)))=.d (.v (.int .i64 (a0.length:Int))))] 1 (by kernel_rfl) (len_ok cS_ParaWord) ?_
  refine T_cond (decide ((a0.length:Int) > (128:Int))) (by kernel_rfl) (fun hc=>?_) (fun hc=>?_)
  · have h:=cond_tt hc h
    refine T_reg [] [4] [(4,.d (.v (.int .i64 (2:Int))))] [] 1 (by kernel_rfl) (trivial) ?_
    obtain hs:=Option.some.inj h; subst hs
    refine T_ret fun a w hm=>then_ret (T_return (fr':=[(4,.d (.v (.int .i64 (2:Int))))]) [4] (by kernel_rfl) [.keep [4]] (by kernel_rfl) (by kernel_rfl) (by kernel_rfl) (by show _=_; kernel_rfl) (by exact trivial) a w hm)
  · have h:=cond_ff hc h
    refine T_skip fun a w hm=>then_norm (((?_:T Tryd.prog e 123 _ _ _) a w hm))
    refine T_reg [] [0,3,5] [(5,.d (.v (.int .i64 (0:Int))))] [] 1 (by kernel_rfl) (trivial) ?_
    refine T_seqk ?_
    refine T_reg [(1,{ rw:=some (.d (.v (.int .i64 (a0.length:Int)))) })] [3,5,15,16,17] [(15,.d (.sl 2 (a0.map cS_ParaWord))),(16,.d (.v (.int .i64 (a0.length:Int)))),(17,.d (.v (.int .i64 (0:Int))))] [(1,True∧AV.d (.v (.int .i64 ((a0.map cS_ParaWord).length:Int)))=.d (.v (.int .i64 (a0.length:Int))))] 1 (by kernel_rfl) (len_ok cS_ParaWord) ?_
    refine T_joinEt h (fun (p:Unit)=>[(3,.box [.d (.v (.int .i64 a1.f0)),.d (.v (.int .i64 a1.f1)),.d (.v (.int .i64 a1.f2)),.d (.v (.int .i64 a1.f3)),.d (.v (.int .i64 a1.f4)),.d (.v (.int .i64 a1.f5))])]) (fun s h hk1=>?_) (fun s h=>?_)
    · refine T_co [.keep [3,5,15,16,17]] ((fun (p:Int×Int)=>[(3,.box [.d (.v (.int .i64 a1.f0)),.d (.v (.int .i64 a1.f1)),.d (.v (.int .i64 a1.f2)),.d (.v (.int .i64 a1.f3)),.d (.v (.int .i64 a1.f4)),.d (.v (.int .i64 a1.f5))]),(5,.d (.v (.int .i64 p.1))),(15,.d (.sl 2 (a0.map cS_ParaWord))),(16,.d (.v (.int .i64 (a0.length:Int)))),(17,.d (.v (.int .i64 p.2)))]) ((0:Int),(0:Int))) (by show _=_; kernel_rfl) ?_
      refine T_block ?_
      refine T_loopF (ι:=Int×Int) (fun (p:Int×Int)=>[(3,.box [.d (.v (.int .i64 a1.f0)),.d (.v (.int .i64 a1.f1)),.d (.v (.int .i64 a1.f2)),.d (.v (.int .i64 a1.f3)),.d (.v (.int .i64 a1.f4)),.d (.v (.int .i64 a1.f5))]),(5,.d (.v (.int .i64 p.1))),(15,.d (.sl 2 (a0.map cS_ParaWord))),(16,.d (.v (.int .i64 (a0.length:Int)))),(17,.d (.v (.int .i64 p.2)))]) (fun n p=>para_Check_L0 F a0 n p.1 p.2=some s) (fun i hh=>by simp [para_Check_L0] at hh) (fun n p h=>?_) F ((0:Int),(0:Int)) h
      obtain ⟨v4,v1⟩:=p
      have h:para_Check_L0 F a0 (n+1) v4 v1=some s:=h
      rw [para_Check_L0] at h
      refine T_reg [] [3,5,15,16,17,18] [(18,.d (.v (.bool (decide (v1 < (a0.length:Int))))))] [] 1 (by kernel_rfl) (trivial) ?_
      refine T_seqk ?_
      refine T_cond (decide (v1 < (a0.length:Int))) (by kernel_rfl) (fun hc=>?_) (fun hc=>?_)
      · have h:=cond_tt hc h
        refine T_skip fun a w hm=>then_norm (((?_:T Tryd.prog e 123 _ _ _) a w hm))
        refine T_seqk ?_
        refine T_block ?_
        obtain ⟨hp1,h⟩:=chk_ok h
        refine T_reg [(0,{ cs:=cS_ParaWord (a0.getD v1.toNat (S_ParaWord.mk [] [])) })] [3,5,7,15,16,17] [(7,.box [.d (.sl 1 (((a0.getD v1.toNat (S_ParaWord.mk [] [])).f0).map (cI .i64))),.d (.sl 1 (((a0.getD v1.toNat (S_ParaWord.mk [] [])).f1).map (cI .i64)))])] [(0,0≤v1∧(a0.map cS_ParaWord)[v1.toNat]? = some (cS_ParaWord (a0.getD v1.toNat (S_ParaWord.mk [] []))))] 3 (by kernel_rfl) (idx_ok (d:=(S_ParaWord.mk [] [])) cS_ParaWord hp1) ?_
        refine T_seqk ?_
        obtain ⟨z3,hz1,h⟩:=lett_ok h
        obtain ⟨z4,hz2,h⟩:=lett_ok h
        refine T_reg [(2,{ rw:=some (.d (.v (.int .i64 (((a0.getD v1.toNat (S_ParaWord.mk [] [])).f0).length:Int)))) }),(7,{ rw:=some (.d (.v (.int .i64 (((a0.getD v1.toNat (S_ParaWord.mk [] [])).f1).length:Int)))) }),(10,{ rw:=some (.d (.v (.int .i64 (((a0.getD v1.toNat (S_ParaWord.mk [] [])).f0).length:Int)))) }),(12,{ rw:=some (.d (.v (.bool z3))) }),(13,{ rw:=some (.d (.v (.bool z4))) })] [3,5,7,15,16,17,34] [(34,.d (.v (.bool z4)))] [(2,True∧AV.d (.v (.int .i64 ((((a0.getD v1.toNat (S_ParaWord.mk [] [])).f0).map (cI .i64)).length:Int)))=.d (.v (.int .i64 (((a0.getD v1.toNat (S_ParaWord.mk [] [])).f0).length:Int)))),(2,(((((((a0.getD v1.toNat (S_ParaWord.mk [] [])).f0).length:Int) == (0:Int)) == false) && true)=true→True)),(0,(((((((a0.getD v1.toNat (S_ParaWord.mk [] [])).f0).length:Int) == (0:Int)) == false) && true)=true→True)),(0,(((((((a0.getD v1.toNat (S_ParaWord.mk [] [])).f0).length:Int) == (0:Int)) == false) && true)=true→True∧AV.d (.v (.int .i64 ((((a0.getD v1.toNat (S_ParaWord.mk [] [])).f1).map (cI .i64)).length:Int)))=.d (.v (.int .i64 (((a0.getD v1.toNat (S_ParaWord.mk [] [])).f1).length:Int))))),(0,(((((((a0.getD v1.toNat (S_ParaWord.mk [] [])).f0).length:Int) == (0:Int)) == false) && true)=true→True)),(0,(((((((a0.getD v1.toNat (S_ParaWord.mk [] [])).f0).length:Int) == (0:Int)) == false) && true)=true→True)),(0,(((((((a0.getD v1.toNat (S_ParaWord.mk [] [])).f0).length:Int) == (0:Int)) == false) && true)=true→True∧AV.d (.v (.int .i64 ((((a0.getD v1.toNat (S_ParaWord.mk [] [])).f0).map (cI .i64)).length:Int)))=.d (.v (.int .i64 (((a0.getD v1.toNat (S_ParaWord.mk [] [])).f0).length:Int))))),(0,(((((((a0.getD v1.toNat (S_ParaWord.mk [] [])).f0).length:Int) == (0:Int)) == false) && true)=true→True)),(0,(((((((a0.getD v1.toNat (S_ParaWord.mk [] [])).f0).length:Int) == (0:Int)) == false) && true)=true→(True)∧AV.d (.v (.bool ((((a0.getD v1.toNat (S_ParaWord.mk [] [])).f1).length:Int) != (IntKind.i64.wrap ((((a0.getD v1.toNat (S_ParaWord.mk [] [])).f0).length:Int) - (1:Int))))))=.d (.v (.bool z3)))),(0,(True)∧AV.d (.v (.bool (bif ((((a0.getD v1.toNat (S_ParaWord.mk [] [])).f0).length:Int) == (0:Int)) then true else z3)))=.d (.v (.bool z4)))] 0 (by kernel_rfl) (⟨len_ok (cI .i64),(fun hg=>trivial),(fun hg=>trivial),(fun hg=>len_ok (cI .i64)),(fun hg=>trivial),(fun hg=>trivial),(fun hg=>len_ok (cI .i64)),(fun hg=>trivial),(fun hg=>⟨trivial,(by subst hz1; rfl)⟩),⟨trivial,(by subst hz2; rfl)⟩⟩) ?_
        refine T_cond z4 (by kernel_rfl) (fun hc=>?_) (fun hc=>?_)
        · have h:=cond_tt hc h
          refine T_reg [] [4] [(4,.d (.v (.int .i64 (4:Int))))] [] 1 (by kernel_rfl) (trivial) ?_
          obtain hs:=Option.some.inj h; subst hs
          have h:=callE_esc hk1
          obtain hs:=Option.some.inj h; subst hs
          refine T_ret fun a w hm=>then_ret (inBlock_ret (then_ret (then_ret (inBlock_ret (then_ret (then_ret (T_return (fr':=[(4,.d (.v (.int .i64 (4:Int))))]) [4] (by kernel_rfl) [.keep [4]] (by kernel_rfl) (by kernel_rfl) (by kernel_rfl) (by show _=_; kernel_rfl) (by exact trivial) a w hm)))))))
        · have h:=cond_ff hc h
          refine T_skip fun a w hm=>then_norm (((?_:T Tryd.prog e 123 _ _ _) a w hm))
          refine T_seqk ?_
          refine T_reg [(3,{ rw:=some (.d (.v (.int .i64 (((a0.getD v1.toNat (S_ParaWord.mk [] [])).f0).length:Int)))) })] [3,5,7,15,16,17] [(5,.d (.v (.int .i64 (IntKind.i64.wrap (v4+(((a0.getD v1.toNat (S_ParaWord.mk [] [])).f0).length:Int))))))] [(3,True∧AV.d (.v (.int .i64 ((((a0.getD v1.toNat (S_ParaWord.mk [] [])).f0).map (cI .i64)).length:Int)))=.d (.v (.int .i64 (((a0.getD v1.toNat (S_ParaWord.mk [] [])).f0).length:Int))))] 2 (by kernel_rfl) (len_ok (cI .i64)) ?_
          obtain ⟨z5,hz3,h⟩:=lett_ok h
          refine T_reg [(1,{ rw:=some (.d (.v (.bool z5))) })] [3,5,7,15,16,17,41] [(41,.d (.v (.bool z5)))] [(1,(True)∧AV.d (.v (.bool (decide ((IntKind.i64.wrap (v4+(((a0.getD v1.toNat (S_ParaWord.mk [] [])).f0).length:Int))) > (256:Int)))))=.d (.v (.bool z5)))] 0 (by kernel_rfl) (⟨trivial,(by subst hz3; rfl)⟩) ?_
          refine T_cond z5 (by kernel_rfl) (fun hc=>?_) (fun hc=>?_)
          · have h:=cond_tt hc h
            refine T_reg [] [4] [(4,.d (.v (.int .i64 (2:Int))))] [] 1 (by kernel_rfl) (trivial) ?_
            obtain hs:=Option.some.inj h; subst hs
            have h:=callE_esc hk1
            obtain hs:=Option.some.inj h; subst hs
            refine T_ret fun a w hm=>then_ret (inBlock_ret (then_ret (then_ret (inBlock_ret (then_ret (then_ret (T_return (fr':=[(4,.d (.v (.int .i64 (2:Int))))]) [4] (by kernel_rfl) [.keep [4]] (by kernel_rfl) (by kernel_rfl) (by kernel_rfl) (by show _=_; kernel_rfl) (by exact trivial) a w hm)))))))
          · have h:=cond_ff hc h
            refine T_skip fun a w hm=>then_norm (((?_:T Tryd.prog e 123 _ _ _) a w hm))
            refine T_seqk ?_
            refine T_reg [(2,{ rw:=some (.d (.v (.int .i64 (((a0.getD v1.toNat (S_ParaWord.mk [] [])).f0).length:Int)))) })] [3,5,7,15,16,17,43,44,45] [(43,.d (.sl 1 (((a0.getD v1.toNat (S_ParaWord.mk [] [])).f0).map (cI .i64)))),(44,.d (.v (.int .i64 (((a0.getD v1.toNat (S_ParaWord.mk [] [])).f0).length:Int)))),(45,.d (.v (.int .i64 (0:Int))))] [(2,True∧AV.d (.v (.int .i64 ((((a0.getD v1.toNat (S_ParaWord.mk [] [])).f0).map (cI .i64)).length:Int)))=.d (.v (.int .i64 (((a0.getD v1.toNat (S_ParaWord.mk [] [])).f0).length:Int))))] 1 (by kernel_rfl) (len_ok (cI .i64)) ?_
            refine T_joinEt h (fun (p:Unit)=>[(3,.box [.d (.v (.int .i64 a1.f0)),.d (.v (.int .i64 a1.f1)),.d (.v (.int .i64 a1.f2)),.d (.v (.int .i64 a1.f3)),.d (.v (.int .i64 a1.f4)),.d (.v (.int .i64 a1.f5))]),(5,.d (.v (.int .i64 (IntKind.i64.wrap (v4+(((a0.getD v1.toNat (S_ParaWord.mk [] [])).f0).length:Int)))))),(7,.box [.d (.sl 1 (((a0.getD v1.toNat (S_ParaWord.mk [] [])).f0).map (cI .i64))),.d (.sl 1 (((a0.getD v1.toNat (S_ParaWord.mk [] [])).f1).map (cI .i64)))]),(15,.d (.sl 2 (a0.map cS_ParaWord))),(16,.d (.v (.int .i64 (a0.length:Int)))),(17,.d (.v (.int .i64 v1)))]) (fun s h hk2=>?_) (fun s h=>?_)
            · refine T_co [.keep [3,5,7,15,16,17,43,44,45]] ((fun (p:Int)=>[(3,.box [.d (.v (.int .i64 a1.f0)),.d (.v (.int .i64 a1.f1)),.d (.v (.int .i64 a1.f2)),.d (.v (.int .i64 a1.f3)),.d (.v (.int .i64 a1.f4)),.d (.v (.int .i64 a1.f5))]),(5,.d (.v (.int .i64 (IntKind.i64.wrap (v4+(((a0.getD v1.toNat (S_ParaWord.mk [] [])).f0).length:Int)))))),(7,.box [.d (.sl 1 (((a0.getD v1.toNat (S_ParaWord.mk [] [])).f0).map (cI .i64))),.d (.sl 1 (((a0.getD v1.toNat (S_ParaWord.mk [] [])).f1).map (cI .i64)))]),(15,.d (.sl 2 (a0.map cS_ParaWord))),(16,.d (.v (.int .i64 (a0.length:Int)))),(17,.d (.v (.int .i64 v1))),(43,.d (.sl 1 (((a0.getD v1.toNat (S_ParaWord.mk [] [])).f0).map (cI .i64)))),(44,.d (.v (.int .i64 (((a0.getD v1.toNat (S_ParaWord.mk [] [])).f0).length:Int)))),(45,.d (.v (.int .i64 p)))]) (0:Int)) (by show _=_; kernel_rfl) ?_
              refine T_block ?_
              refine T_loopF (ι:=Int) (fun (p:Int)=>[(3,.box [.d (.v (.int .i64 a1.f0)),.d (.v (.int .i64 a1.f1)),.d (.v (.int .i64 a1.f2)),.d (.v (.int .i64 a1.f3)),.d (.v (.int .i64 a1.f4)),.d (.v (.int .i64 a1.f5))]),(5,.d (.v (.int .i64 (IntKind.i64.wrap (v4+(((a0.getD v1.toNat (S_ParaWord.mk [] [])).f0).length:Int)))))),(7,.box [.d (.sl 1 (((a0.getD v1.toNat (S_ParaWord.mk [] [])).f0).map (cI .i64))),.d (.sl 1 (((a0.getD v1.toNat (S_ParaWord.mk [] [])).f1).map (cI .i64)))]),(15,.d (.sl 2 (a0.map cS_ParaWord))),(16,.d (.v (.int .i64 (a0.length:Int)))),(17,.d (.v (.int .i64 v1))),(43,.d (.sl 1 (((a0.getD v1.toNat (S_ParaWord.mk [] [])).f0).map (cI .i64)))),(44,.d (.v (.int .i64 (((a0.getD v1.toNat (S_ParaWord.mk [] [])).f0).length:Int)))),(45,.d (.v (.int .i64 p)))]) (fun n p=>para_Check_L2 F a0 v1 n p=some s) (fun i hh=>by simp [para_Check_L2] at hh) (fun n v2 h=>?_) F (0:Int) h
              have h:para_Check_L2 F a0 v1 (n+1) v2=some s:=h
              rw [para_Check_L2] at h
              refine T_reg [] [3,5,7,15,16,17,43,44,45,46] [(46,.d (.v (.bool (decide (v2 < (((a0.getD v1.toNat (S_ParaWord.mk [] [])).f0).length:Int))))))] [] 1 (by kernel_rfl) (trivial) ?_
              refine T_seqk ?_
              refine T_cond (decide (v2 < (((a0.getD v1.toNat (S_ParaWord.mk [] [])).f0).length:Int))) (by kernel_rfl) (fun hc=>?_) (fun hc=>?_)
              · have h:=cond_tt hc h
                refine T_skip fun a w hm=>then_norm (((?_:T Tryd.prog e 123 _ _ _) a w hm))
                refine T_seqk ?_
                refine T_block ?_
                obtain ⟨hp2,h⟩:=chk_ok h
                refine T_reg [(0,{ cs:=(cI .i64) (((a0.getD v1.toNat (S_ParaWord.mk [] [])).f0).getD v2.toNat 0) })] [3,5,7,9,15,16,17,43,44,45] [(9,.d (.v (.int .i64 (((a0.getD v1.toNat (S_ParaWord.mk [] [])).f0).getD v2.toNat 0))))] [(0,0≤v2∧(((a0.getD v1.toNat (S_ParaWord.mk [] [])).f0).map (cI .i64))[v2.toNat]? = some ((cI .i64) (((a0.getD v1.toNat (S_ParaWord.mk [] [])).f0).getD v2.toNat 0)))] 2 (by kernel_rfl) (idx_ok (d:=0) (cI .i64) hp2) ?_
                obtain ⟨z1,hz4,h⟩:=lett_ok h
                refine T_reg [(5,{ rw:=some (.d (.v (.bool z1))) })] [3,5,7,15,16,17,43,44,45,54] [(54,.d (.v (.bool z1)))] [(3,((((decide ((((a0.getD v1.toNat (S_ParaWord.mk [] [])).f0).getD v2.toNat 0) < (0:Int))) == false) && true)=true→True)),(0,((((decide ((((a0.getD v1.toNat (S_ParaWord.mk [] [])).f0).getD v2.toNat 0) < (0:Int))) == false) && true)=true→True)),(0,(True)∧AV.d (.v (.bool (bif (decide ((((a0.getD v1.toNat (S_ParaWord.mk [] [])).f0).getD v2.toNat 0) < (0:Int))) then true else (decide ((((a0.getD v1.toNat (S_ParaWord.mk [] [])).f0).getD v2.toNat 0) > (65535:Int))))))=.d (.v (.bool z1)))] 0 (by kernel_rfl) (⟨(fun hg=>trivial),(fun hg=>trivial),⟨trivial,(by subst hz4; rfl)⟩⟩) ?_
                refine T_cond z1 (by kernel_rfl) (fun hc=>?_) (fun hc=>?_)
                · have h:=cond_tt hc h
                  refine T_reg [] [4] [(4,.d (.v (.int .i64 (3:Int))))] [] 1 (by kernel_rfl) (trivial) ?_
                  obtain hs:=Option.some.inj h; subst hs
                  have h:=callE_esc hk2
                  obtain hs:=Option.some.inj h; subst hs
                  have h:=callE_esc hk1
                  obtain hs:=Option.some.inj h; subst hs
                  refine T_ret fun a w hm=>inBlock_ret (then_ret (then_ret (inBlock_ret (then_ret (then_ret (inBlock_ret (then_ret (then_ret (inBlock_ret (then_ret (then_ret (T_return (fr':=[(4,.d (.v (.int .i64 (3:Int))))]) [4] (by kernel_rfl) [.keep [4]] (by kernel_rfl) (by kernel_rfl) (by kernel_rfl) (by show _=_; kernel_rfl) (by exact trivial) a w hm))))))))))))
                · have h:=cond_ff hc h
                  refine T_skip fun a w hm=>inBlock_norm (then_norm (((?_:T Tryd.prog e 123 _ _ _) a w hm)))
                  refine T_reg_end [] [3,5,7,15,16,17,43,44,45] [(45,.d (.v (.int .i64 (IntKind.i64.wrap (v2+(1:Int))))))] [] 2 (by kernel_rfl) (trivial) fun a w hm=>then_norm (⟨IntKind.i64.wrap (v2+(1:Int)),h,hm.co (cs:=[.keep [3,5,7,15,16,17,43,44,45]]) (by show _=_; kernel_rfl)⟩)
              · have h:=cond_ff hc h
                obtain hs:=Option.some.inj h; subst hs
                refine T_exit fun a w hm=>then_exit (then_exit (inBlock_exit (then_norm (⟨_,rfl,hm.co (cs:=[.keep [3,5,7,15,16,17]]) (by show _=_; kernel_rfl)⟩))))
            · skip
              refine fun a w hm=>then_norm (((?_:T Tryd.prog e 123 _ _ _) a w hm))
              refine T_reg [(2,{ rw:=some (.d (.v (.int .i64 (((a0.getD v1.toNat (S_ParaWord.mk [] [])).f1).length:Int)))) })] [3,5,15,16,17,57,58,59] [(57,.d (.sl 1 (((a0.getD v1.toNat (S_ParaWord.mk [] [])).f1).map (cI .i64)))),(58,.d (.v (.int .i64 (((a0.getD v1.toNat (S_ParaWord.mk [] [])).f1).length:Int)))),(59,.d (.v (.int .i64 (0:Int))))] [(2,True∧AV.d (.v (.int .i64 ((((a0.getD v1.toNat (S_ParaWord.mk [] [])).f1).map (cI .i64)).length:Int)))=.d (.v (.int .i64 (((a0.getD v1.toNat (S_ParaWord.mk [] [])).f1).length:Int))))] 1 (by kernel_rfl) (len_ok (cI .i64)) ?_
              refine T_joinEt h (fun (p:Unit)=>[(3,.box [.d (.v (.int .i64 a1.f0)),.d (.v (.int .i64 a1.f1)),.d (.v (.int .i64 a1.f2)),.d (.v (.int .i64 a1.f3)),.d (.v (.int .i64 a1.f4)),.d (.v (.int .i64 a1.f5))]),(5,.d (.v (.int .i64 (IntKind.i64.wrap (v4+(((a0.getD v1.toNat (S_ParaWord.mk [] [])).f0).length:Int)))))),(15,.d (.sl 2 (a0.map cS_ParaWord))),(16,.d (.v (.int .i64 (a0.length:Int)))),(17,.d (.v (.int .i64 v1)))]) (fun s h hk3=>?_) (fun s h=>?_)
              · refine T_co [.keep [3,5,15,16,17,57,58,59]] ((fun (p:Int)=>[(3,.box [.d (.v (.int .i64 a1.f0)),.d (.v (.int .i64 a1.f1)),.d (.v (.int .i64 a1.f2)),.d (.v (.int .i64 a1.f3)),.d (.v (.int .i64 a1.f4)),.d (.v (.int .i64 a1.f5))]),(5,.d (.v (.int .i64 (IntKind.i64.wrap (v4+(((a0.getD v1.toNat (S_ParaWord.mk [] [])).f0).length:Int)))))),(15,.d (.sl 2 (a0.map cS_ParaWord))),(16,.d (.v (.int .i64 (a0.length:Int)))),(17,.d (.v (.int .i64 v1))),(57,.d (.sl 1 (((a0.getD v1.toNat (S_ParaWord.mk [] [])).f1).map (cI .i64)))),(58,.d (.v (.int .i64 (((a0.getD v1.toNat (S_ParaWord.mk [] [])).f1).length:Int)))),(59,.d (.v (.int .i64 p)))]) (0:Int)) (by show _=_; kernel_rfl) ?_
                refine T_block ?_
                refine T_loopF (ι:=Int) (fun (p:Int)=>[(3,.box [.d (.v (.int .i64 a1.f0)),.d (.v (.int .i64 a1.f1)),.d (.v (.int .i64 a1.f2)),.d (.v (.int .i64 a1.f3)),.d (.v (.int .i64 a1.f4)),.d (.v (.int .i64 a1.f5))]),(5,.d (.v (.int .i64 (IntKind.i64.wrap (v4+(((a0.getD v1.toNat (S_ParaWord.mk [] [])).f0).length:Int)))))),(15,.d (.sl 2 (a0.map cS_ParaWord))),(16,.d (.v (.int .i64 (a0.length:Int)))),(17,.d (.v (.int .i64 v1))),(57,.d (.sl 1 (((a0.getD v1.toNat (S_ParaWord.mk [] [])).f1).map (cI .i64)))),(58,.d (.v (.int .i64 (((a0.getD v1.toNat (S_ParaWord.mk [] [])).f1).length:Int)))),(59,.d (.v (.int .i64 p)))]) (fun n p=>para_Check_L4 F a0 v1 n p=some s) (fun i hh=>by simp [para_Check_L4] at hh) (fun n v3 h=>?_) F (0:Int) h
                have h:para_Check_L4 F a0 v1 (n+1) v3=some s:=h
                rw [para_Check_L4] at h
                refine T_reg [] [3,5,15,16,17,57,58,59,60] [(60,.d (.v (.bool (decide (v3 < (((a0.getD v1.toNat (S_ParaWord.mk [] [])).f1).length:Int))))))] [] 1 (by kernel_rfl) (trivial) ?_
                refine T_seqk ?_
                refine T_cond (decide (v3 < (((a0.getD v1.toNat (S_ParaWord.mk [] [])).f1).length:Int))) (by kernel_rfl) (fun hc=>?_) (fun hc=>?_)
                · have h:=cond_tt hc h
                  refine T_skip fun a w hm=>then_norm (((?_:T Tryd.prog e 123 _ _ _) a w hm))
                  refine T_seqk ?_
                  refine T_block ?_
                  obtain ⟨hp3,h⟩:=chk_ok h
                  refine T_reg [(0,{ cs:=(cI .i64) (((a0.getD v1.toNat (S_ParaWord.mk [] [])).f1).getD v3.toNat 0) })] [3,5,11,15,16,17,57,58,59] [(11,.d (.v (.int .i64 (((a0.getD v1.toNat (S_ParaWord.mk [] [])).f1).getD v3.toNat 0))))] [(0,0≤v3∧(((a0.getD v1.toNat (S_ParaWord.mk [] [])).f1).map (cI .i64))[v3.toNat]? = some ((cI .i64) (((a0.getD v1.toNat (S_ParaWord.mk [] [])).f1).getD v3.toNat 0)))] 2 (by kernel_rfl) (idx_ok (d:=0) (cI .i64) hp3) ?_
                  obtain ⟨z2,hz5,h⟩:=lett_ok h
                  refine T_reg [(5,{ rw:=some (.d (.v (.bool z2))) })] [3,5,15,16,17,57,58,59,68] [(68,.d (.v (.bool z2)))] [(3,((((decide ((((a0.getD v1.toNat (S_ParaWord.mk [] [])).f1).getD v3.toNat 0) < (-2047:Int))) == false) && true)=true→True)),(0,((((decide ((((a0.getD v1.toNat (S_ParaWord.mk [] [])).f1).getD v3.toNat 0) < (-2047:Int))) == false) && true)=true→True)),(0,(True)∧AV.d (.v (.bool (bif (decide ((((a0.getD v1.toNat (S_ParaWord.mk [] [])).f1).getD v3.toNat 0) < (-2047:Int))) then true else (decide ((((a0.getD v1.toNat (S_ParaWord.mk [] [])).f1).getD v3.toNat 0) > (2047:Int))))))=.d (.v (.bool z2)))] 0 (by kernel_rfl) (⟨(fun hg=>trivial),(fun hg=>trivial),⟨trivial,(by subst hz5; rfl)⟩⟩) ?_
                  refine T_cond z2 (by kernel_rfl) (fun hc=>?_) (fun hc=>?_)
                  · have h:=cond_tt hc h
                    refine T_reg [] [4] [(4,.d (.v (.int .i64 (3:Int))))] [] 1 (by kernel_rfl) (trivial) ?_
                    obtain hs:=Option.some.inj h; subst hs
                    have h:=callE_esc hk3
                    obtain hs:=Option.some.inj h; subst hs
                    have h:=callE_esc hk1
                    obtain hs:=Option.some.inj h; subst hs
                    refine T_ret fun a w hm=>inBlock_ret (then_ret (then_ret (inBlock_ret (then_ret (inBlock_ret (then_ret (then_ret (inBlock_ret (then_ret (then_ret (T_return (fr':=[(4,.d (.v (.int .i64 (3:Int))))]) [4] (by kernel_rfl) [.keep [4]] (by kernel_rfl) (by kernel_rfl) (by kernel_rfl) (by show _=_; kernel_rfl) (by exact trivial) a w hm)))))))))))
                  · have h:=cond_ff hc h
                    refine T_skip fun a w hm=>inBlock_norm (then_norm (((?_:T Tryd.prog e 123 _ _ _) a w hm)))
                    refine T_reg_end [] [3,5,15,16,17,57,58,59] [(59,.d (.v (.int .i64 (IntKind.i64.wrap (v3+(1:Int))))))] [] 2 (by kernel_rfl) (trivial) fun a w hm=>then_norm (⟨IntKind.i64.wrap (v3+(1:Int)),h,hm.co (cs:=[.keep [3,5,15,16,17,57,58,59]]) (by show _=_; kernel_rfl)⟩)
                · have h:=cond_ff hc h
                  obtain hs:=Option.some.inj h; subst hs
                  refine T_exit fun a w hm=>then_exit (then_exit (inBlock_exit (then_norm (⟨_,rfl,hm.co (cs:=[.keep [3,5,15,16,17]]) (by show _=_; kernel_rfl)⟩))))
              · skip
                refine fun a w hm=>inBlock_norm (then_norm (((?_:T Tryd.prog e 123 _ _ _) a w hm)))
                refine T_reg_end [] [3,5,15,16,17] [(17,.d (.v (.int .i64 (IntKind.i64.wrap (v1+(1:Int))))))] [] 2 (by kernel_rfl) (trivial) fun a w hm=>then_norm (⟨(IntKind.i64.wrap (v4+(((a0.getD v1.toNat (S_ParaWord.mk [] [])).f0).length:Int)),IntKind.i64.wrap (v1+(1:Int))),h,hm.co (cs:=[.keep [3,5,15,16,17]]) (by show _=_; kernel_rfl)⟩)
      · have h:=cond_ff hc h
        obtain hs:=Option.some.inj h; subst hs
        refine T_exit fun a w hm=>then_exit (then_exit (inBlock_exit (then_norm (⟨_,rfl,hm.co (cs:=[.keep [3]]) (by show _=_; kernel_rfl)⟩))))
    · skip
      refine fun a w hm=>then_norm (((?_:T Tryd.prog e 123 _ _ _) a w hm))
      refine T_seqk ?_
      refine T_block ?_
      obtain ⟨z6,hz6,h⟩:=lett_ok h
      obtain ⟨z7,hz7,h⟩:=lett_ok h
      obtain ⟨z8,hz8,h⟩:=lett_ok h
      refine T_reg [(12,{ rw:=some (.d (.v (.bool z6))) }),(22,{ rw:=some (.d (.v (.bool z7))) }),(32,{ rw:=some (.d (.v (.bool z8))) })] [3,71] [(71,.d (.v (.bool (bif z8 then true else (decide (a1.f5 > (1048576:Int)))))))] [(4,((((decide (a1.f0 < (1:Int))) == false) && true)=true→True)),(0,((((decide (a1.f0 < (1:Int))) == false) && true)=true→True)),(0,((((decide (a1.f0 < (1:Int))) == false) && true)=true→True)),(2,((((bif (decide (a1.f0 < (1:Int))) then true else (decide (a1.f0 > (65535:Int)))) == false) && true)=true→True)),(0,((((bif (decide (a1.f0 < (1:Int))) then true else (decide (a1.f0 > (65535:Int)))) == false) && true)=true→True)),(0,((((bif (decide (a1.f0 < (1:Int))) then true else (decide (a1.f0 > (65535:Int)))) == false) && true)=true→True)),(0,(True)∧AV.d (.v (.bool (bif (bif (decide (a1.f0 < (1:Int))) then true else (decide (a1.f0 > (65535:Int)))) then true else (decide (a1.f2 < (0:Int))))))=.d (.v (.bool z6))),(1,(((z6 == false) && true)=true→True)),(0,(((z6 == false) && true)=true→True)),(0,(((z6 == false) && true)=true→True)),(2,((((bif z6 then true else (decide (a1.f3 > (65535:Int)))) == false) && true)=true→True)),(0,((((bif z6 then true else (decide (a1.f3 > (65535:Int)))) == false) && true)=true→True)),(0,((((bif z6 then true else (decide (a1.f3 > (65535:Int)))) == false) && true)=true→True)),(0,(True)∧AV.d (.v (.bool (bif (bif z6 then true else (decide (a1.f3 > (65535:Int)))) then true else (decide (a1.f4 < (0:Int))))))=.d (.v (.bool z7))),(1,(((z7 == false) && true)=true→True)),(0,(((z7 == false) && true)=true→True)),(0,(((z7 == false) && true)=true→True)),(2,((((bif z7 then true else (decide (a1.f4 > (65535:Int)))) == false) && true)=true→True)),(0,((((bif z7 then true else (decide (a1.f4 > (65535:Int)))) == false) && true)=true→True)),(0,((((bif z7 then true else (decide (a1.f4 > (65535:Int)))) == false) && true)=true→True)),(0,(True)∧AV.d (.v (.bool (bif (bif z7 then true else (decide (a1.f4 > (65535:Int)))) then true else (decide (a1.f5 < (0:Int))))))=.d (.v (.bool z8))),(1,(((z8 == false) && true)=true→True)),(0,(((z8 == false) && true)=true→True)),(0,(((z8 == false) && true)=true→True))] 2 (by kernel_rfl) (⟨(fun hg=>trivial),(fun hg=>trivial),(fun hg=>trivial),(fun hg=>trivial),(fun hg=>trivial),(fun hg=>trivial),⟨trivial,(by subst hz6; rfl)⟩,(fun hg=>trivial),(fun hg=>trivial),(fun hg=>trivial),(fun hg=>trivial),(fun hg=>trivial),(fun hg=>trivial),⟨trivial,(by subst hz7; rfl)⟩,(fun hg=>trivial),(fun hg=>trivial),(fun hg=>trivial),(fun hg=>trivial),(fun hg=>trivial),(fun hg=>trivial),⟨trivial,(by subst hz8; rfl)⟩,(fun hg=>trivial),(fun hg=>trivial),(fun hg=>trivial)⟩) ?_
      refine T_cond (bif z8 then true else (decide (a1.f5 > (1048576:Int)))) (by kernel_rfl) (fun hc=>?_) (fun hc=>?_)
      · have h:=cond_tt hc h
        refine T_reg [] [4] [(4,.d (.v (.int .i64 (3:Int))))] [] 1 (by kernel_rfl) (trivial) ?_
        obtain hs:=Option.some.inj h; subst hs
        refine T_ret fun a w hm=>inBlock_ret (then_ret (T_return (fr':=[(4,.d (.v (.int .i64 (3:Int))))]) [4] (by kernel_rfl) [.keep [4]] (by kernel_rfl) (by kernel_rfl) (by kernel_rfl) (by show _=_; kernel_rfl) (by exact trivial) a w hm))
      · have h:=cond_ff hc h
        refine T_reg [] [110] [(110,.d (.v (.bool (bif (decide (a1.f2 > a1.f1)) then true else (decide (a1.f1 > a1.f3))))))] [(6,((((decide (a1.f2 > a1.f1)) == false) && true)=true→True)),(0,((((decide (a1.f2 > a1.f1)) == false) && true)=true→True)),(0,((((decide (a1.f2 > a1.f1)) == false) && true)=true→True)),(0,((((decide (a1.f2 > a1.f1)) == false) && true)=true→True)),(0,((((decide (a1.f2 > a1.f1)) == false) && true)=true→True))] 2 (by kernel_rfl) (⟨(fun hg=>trivial),(fun hg=>trivial),(fun hg=>trivial),(fun hg=>trivial),(fun hg=>trivial)⟩) ?_
        refine T_cond (bif (decide (a1.f2 > a1.f1)) then true else (decide (a1.f1 > a1.f3))) (by kernel_rfl) (fun hc=>?_) (fun hc=>?_)
        · have h:=cond_tt hc h
          refine T_reg [] [4] [(4,.d (.v (.int .i64 (18:Int))))] [] 1 (by kernel_rfl) (trivial) ?_
          obtain hs:=Option.some.inj h; subst hs
          refine T_ret fun a w hm=>inBlock_ret (then_ret (T_return (fr':=[(4,.d (.v (.int .i64 (18:Int))))]) [4] (by kernel_rfl) [.keep [4]] (by kernel_rfl) (by kernel_rfl) (by kernel_rfl) (by show _=_; kernel_rfl) (by exact trivial) a w hm))
        · have h:=cond_ff hc h
          refine T_skip fun a w hm=>inBlock_norm (then_norm (((?_:T Tryd.prog e 123 _ _ _) a w hm)))
          refine T_reg [] [4] [(4,.d (.v (.int .i64 (0:Int))))] [] 1 (by kernel_rfl) (trivial) ?_
          obtain hs:=Option.some.inj h; subst hs
          refine T_ret fun a w hm=>T_return (fr':=[(4,.d (.v (.int .i64 (0:Int))))]) [4] (by kernel_rfl) [.keep [4]] (by kernel_rfl) (by kernel_rfl) (by kernel_rfl) (by show _=_; kernel_rfl) (by exact trivial) a w hm
theorem para_flat_ok {F:Nat} {a0:List S_ParaWord} {r:(List S_para_part)} (h:para_flat F a0=some r):ACall Tryd.prog 20 [.d (.sl 2 (a0.map cS_ParaWord))] [] (.own 75 4 (r.map cS_para_part)) []:=by
  rw [para_flat] at h
  refine ACall.intro (N:=49) Tryd.func20 rfl rfl rfl rfl rfl fun e=>?_
  refine T_reg [] [0] [] [] 1 (by kernel_rfl) (trivial) ?_
  refine T_reg [] [0,3] [(3,.own 75 4 ([].map cS_para_part))] [] 1 (by kernel_rfl) (trivial) ?_
  refine T_seqk ?_
  refine T_reg [(1,{ rw:=some (.d (.v (.int .i64 (a0.length:Int)))) })] [3,9,10,11] [(9,.d (.sl 2 (a0.map cS_ParaWord))),(10,.d (.v (.int .i64 (a0.length:Int)))),(11,.d (.v (.int .i64 (0:Int))))] [(1,True∧AV.d (.v (.int .i64 ((a0.map cS_ParaWord).length:Int)))=.d (.v (.int .i64 (a0.length:Int))))] 1 (by kernel_rfl) (len_ok cS_ParaWord) ?_
  refine T_joinct h (fun (p:(List S_para_part))=>[(3,.own 75 4 (p.map cS_para_part))]) (fun s h=>?_) (fun v7 h=>?_)
  · refine T_co [.keep [3,9,10,11]] ((fun (p:(List S_para_part)×Int)=>[(3,.own 75 4 (p.1.map cS_para_part)),(9,.d (.sl 2 (a0.map cS_ParaWord))),(10,.d (.v (.int .i64 (a0.length:Int)))),(11,.d (.v (.int .i64 p.2)))]) ([],(0:Int))) (by show _=_; kernel_rfl) ?_
    refine T_block ?_
    refine T_loopF (ι:=(List S_para_part)×Int) (fun (p:(List S_para_part)×Int)=>[(3,.own 75 4 (p.1.map cS_para_part)),(9,.d (.sl 2 (a0.map cS_ParaWord))),(10,.d (.v (.int .i64 (a0.length:Int)))),(11,.d (.v (.int .i64 p.2)))]) (fun n p=>para_flat_L0 F a0 n p.1 p.2=some s) (fun i hh=>by simp [para_flat_L0] at hh) (fun n p h=>?_) F ([],(0:Int)) h
    obtain ⟨v5,v1⟩:=p
    have h:para_flat_L0 F a0 (n+1) v5 v1=some s:=h
    rw [para_flat_L0] at h
    refine T_reg [] [3,9,10,11,12] [(12,.d (.v (.bool (decide (v1 < (a0.length:Int))))))] [] 1 (by kernel_rfl) (trivial) ?_
    refine T_seqk ?_
    refine T_cond (decide (v1 < (a0.length:Int))) (by kernel_rfl) (fun hc=>?_) (fun hc=>?_)
    · have h:=cond_tt hc h
      refine T_skip fun a w hm=>then_norm (((?_:T Tryd.prog e 49 _ _ _) a w hm))
      refine T_seqk ?_
      refine T_block ?_
      obtain ⟨hp1,h⟩:=chk_ok h
      refine T_reg [(0,{ cs:=cS_ParaWord (a0.getD v1.toNat (S_ParaWord.mk [] [])) })] [3,5,9,10,11] [(5,.box [.d (.sl 1 (((a0.getD v1.toNat (S_ParaWord.mk [] [])).f0).map (cI .i64))),.d (.sl 1 (((a0.getD v1.toNat (S_ParaWord.mk [] [])).f1).map (cI .i64)))])] [(0,0≤v1∧(a0.map cS_ParaWord)[v1.toNat]? = some (cS_ParaWord (a0.getD v1.toNat (S_ParaWord.mk [] []))))] 3 (by kernel_rfl) (idx_ok (d:=(S_ParaWord.mk [] [])) cS_ParaWord hp1) ?_
      refine T_reg [(2,{ rw:=some (.d (.v (.int .i64 (((a0.getD v1.toNat (S_ParaWord.mk [] [])).f0).length:Int)))) })] [3,5,9,10,11,16,17,18] [(16,.d (.sl 1 (((a0.getD v1.toNat (S_ParaWord.mk [] [])).f0).map (cI .i64)))),(17,.d (.v (.int .i64 (((a0.getD v1.toNat (S_ParaWord.mk [] [])).f0).length:Int)))),(18,.d (.v (.int .i64 (0:Int))))] [(2,True∧AV.d (.v (.int .i64 ((((a0.getD v1.toNat (S_ParaWord.mk [] [])).f0).map (cI .i64)).length:Int)))=.d (.v (.int .i64 (((a0.getD v1.toNat (S_ParaWord.mk [] [])).f0).length:Int))))] 1 (by kernel_rfl) (len_ok (cI .i64)) ?_
      refine T_joinct h (fun (p:(List S_para_part))=>[(3,.own 75 4 (p.map cS_para_part)),(9,.d (.sl 2 (a0.map cS_ParaWord))),(10,.d (.v (.int .i64 (a0.length:Int)))),(11,.d (.v (.int .i64 v1)))]) (fun s h=>?_) (fun v6 h=>?_)
      · refine T_co [.keep [3,5,9,10,11,16,17,18]] ((fun (p:(List S_para_part)×Int)=>[(3,.own 75 4 (p.1.map cS_para_part)),(5,.box [.d (.sl 1 (((a0.getD v1.toNat (S_ParaWord.mk [] [])).f0).map (cI .i64))),.d (.sl 1 (((a0.getD v1.toNat (S_ParaWord.mk [] [])).f1).map (cI .i64)))]),(9,.d (.sl 2 (a0.map cS_ParaWord))),(10,.d (.v (.int .i64 (a0.length:Int)))),(11,.d (.v (.int .i64 v1))),(16,.d (.sl 1 (((a0.getD v1.toNat (S_ParaWord.mk [] [])).f0).map (cI .i64)))),(17,.d (.v (.int .i64 (((a0.getD v1.toNat (S_ParaWord.mk [] [])).f0).length:Int)))),(18,.d (.v (.int .i64 p.2)))]) (v5,(0:Int))) (by show _=_; kernel_rfl) ?_
        refine T_block ?_
        refine T_loopF (ι:=(List S_para_part)×Int) (fun (p:(List S_para_part)×Int)=>[(3,.own 75 4 (p.1.map cS_para_part)),(5,.box [.d (.sl 1 (((a0.getD v1.toNat (S_ParaWord.mk [] [])).f0).map (cI .i64))),.d (.sl 1 (((a0.getD v1.toNat (S_ParaWord.mk [] [])).f1).map (cI .i64)))]),(9,.d (.sl 2 (a0.map cS_ParaWord))),(10,.d (.v (.int .i64 (a0.length:Int)))),(11,.d (.v (.int .i64 v1))),(16,.d (.sl 1 (((a0.getD v1.toNat (S_ParaWord.mk [] [])).f0).map (cI .i64)))),(17,.d (.v (.int .i64 (((a0.getD v1.toNat (S_ParaWord.mk [] [])).f0).length:Int)))),(18,.d (.v (.int .i64 p.2)))]) (fun n p=>para_flat_L2 F a0 v1 n p.1 p.2=some s) (fun i hh=>by simp [para_flat_L2] at hh) (fun n p h=>?_) F (v5,(0:Int)) h
        obtain ⟨v2,v3⟩:=p
        have h:para_flat_L2 F a0 v1 (n+1) v2 v3=some s:=h
        rw [para_flat_L2] at h
        refine T_reg [] [3,5,9,10,11,16,17,18,19] [(19,.d (.v (.bool (decide (v3 < (((a0.getD v1.toNat (S_ParaWord.mk [] [])).f0).length:Int))))))] [] 1 (by kernel_rfl) (trivial) ?_
        refine T_seqk ?_
        refine T_cond (decide (v3 < (((a0.getD v1.toNat (S_ParaWord.mk [] [])).f0).length:Int))) (by kernel_rfl) (fun hc=>?_) (fun hc=>?_)
        · have h:=cond_tt hc h
          refine T_skip fun a w hm=>then_norm (((?_:T Tryd.prog e 49 _ _ _) a w hm))
          refine T_seqk ?_
          refine T_block ?_
          obtain ⟨hp2,h⟩:=chk_ok h
          refine T_reg [(1,{ cs:=(cI .i64) (((a0.getD v1.toNat (S_ParaWord.mk [] [])).f0).getD v3.toNat 0) })] [3,5,6,7,9,10,11,16,17,18] [(6,.d (.v (.int .i64 v3))),(7,.d (.v (.int .i64 (((a0.getD v1.toNat (S_ParaWord.mk [] [])).f0).getD v3.toNat 0))))] [(1,0≤v3∧(((a0.getD v1.toNat (S_ParaWord.mk [] [])).f0).map (cI .i64))[v3.toNat]? = some ((cI .i64) (((a0.getD v1.toNat (S_ParaWord.mk [] [])).f0).getD v3.toNat 0)))] 3 (by kernel_rfl) (idx_ok (d:=0) (cI .i64) hp2) ?_
          obtain ⟨z1,hz1,h⟩:=lett_ok h
          refine T_reg [(6,{ rw:=some (.d (.v (.int .i64 (((a0.getD v1.toNat (S_ParaWord.mk [] [])).f0).length:Int)))) }),(8,{ rw:=some (.d (.v (.bool z1))) })] [3,5,6,8,9,10,11,16,17,18] [(8,.box [.d (.v (.int .i64 (((a0.getD v1.toNat (S_ParaWord.mk [] [])).f0).getD v3.toNat 0))),.d (.v (.int .i64 0)),.d (.v (.bool (v3 == (0:Int)))),.d (.v (.bool z1))])] [(6,True∧AV.d (.v (.int .i64 ((((a0.getD v1.toNat (S_ParaWord.mk [] [])).f0).map (cI .i64)).length:Int)))=.d (.v (.int .i64 (((a0.getD v1.toNat (S_ParaWord.mk [] [])).f0).length:Int)))),(1,(True)∧AV.d (.v (.bool (v3 == (IntKind.i64.wrap ((((a0.getD v1.toNat (S_ParaWord.mk [] [])).f0).length:Int) - (1:Int))))))=.d (.v (.bool z1)))] 3 (by kernel_rfl) (⟨len_ok (cI .i64),⟨trivial,(by subst hz1; rfl)⟩⟩) ?_
          refine T_joinc h (fun (p:Int)=>[(3,.own 75 4 (v2.map cS_para_part)),(5,.box [.d (.sl 1 (((a0.getD v1.toNat (S_ParaWord.mk [] [])).f0).map (cI .i64))),.d (.sl 1 (((a0.getD v1.toNat (S_ParaWord.mk [] [])).f1).map (cI .i64)))]),(8,.box [.d (.v (.int .i64 (((a0.getD v1.toNat (S_ParaWord.mk [] [])).f0).getD v3.toNat 0))),.d (.v (.int .i64 p)),.d (.v (.bool (v3 == (0:Int)))),.d (.v (.bool z1))]),(9,.d (.sl 2 (a0.map cS_ParaWord))),(10,.d (.v (.int .i64 (a0.length:Int)))),(11,.d (.v (.int .i64 v1))),(16,.d (.sl 1 (((a0.getD v1.toNat (S_ParaWord.mk [] [])).f0).map (cI .i64)))),(17,.d (.v (.int .i64 (((a0.getD v1.toNat (S_ParaWord.mk [] [])).f0).length:Int)))),(18,.d (.v (.int .i64 v3)))]) (fun s h=>?_) (fun v4 h=>?_)
          · refine T_reg [] [3,5,6,8,9,10,11,16,17,18,34] [(34,.d (.v (.bool (decide (v3 > (0:Int))))))] [] 2 (by kernel_rfl) (trivial) ?_
            refine T_cond (decide (v3 > (0:Int))) (by kernel_rfl) (fun hc=>?_) (fun hc=>?_)
            · have h:=cond_tt hc h
              obtain ⟨hp3,h⟩:=chk_ok h
              obtain hs:=Option.some.inj h; subst hs
              refine T_reg_end [(4,{ cs:=(cI .i64) (((a0.getD v1.toNat (S_ParaWord.mk [] [])).f1).getD (IntKind.i64.wrap (v3 - (1:Int))).toNat 0) })] [3,5,8,9,10,11,16,17,18] [(8,.box [.d (.v (.int .i64 (((a0.getD v1.toNat (S_ParaWord.mk [] [])).f0).getD v3.toNat 0))),.d (.v (.int .i64 (((a0.getD v1.toNat (S_ParaWord.mk [] [])).f1).getD (IntKind.i64.wrap (v3 - (1:Int))).toNat 0))),.d (.v (.bool (v3 == (0:Int)))),.d (.v (.bool z1))])] [(4,0≤(IntKind.i64.wrap (v3 - (1:Int)))∧(((a0.getD v1.toNat (S_ParaWord.mk [] [])).f1).map (cI .i64))[(IntKind.i64.wrap (v3 - (1:Int))).toNat]? = some ((cI .i64) (((a0.getD v1.toNat (S_ParaWord.mk [] [])).f1).getD (IntKind.i64.wrap (v3 - (1:Int))).toNat 0)))] 3 (by kernel_rfl) (idx_ok (d:=0) (cI .i64) hp3) fun a w hm=>then_norm (hm.co (cs:=[.keep [3,5,8,9,10,11,16,17,18]]) (by show _=_; kernel_rfl))
            · have h:=cond_ff hc h
              obtain hs:=Option.some.inj h; subst hs
              refine T_skip fun a w hm=>then_norm (hm.co (cs:=[.keep [3,5,8,9,10,11,16,17,18]]) (by show _=_; kernel_rfl))
          · skip
            obtain ⟨hp4,h⟩:=chk_ok h
            obtain ⟨l1,hl1,h⟩:=lett_ok h
            refine T_reg_end [(2,{ es:=some (([(S_para_part.mk (((a0.getD v1.toNat (S_ParaWord.mk [] [])).f0).getD v3.toNat 0) v4 (v3 == (0:Int)) z1)]).map cS_para_part) }),(3,{ es:=some (l1.map cS_para_part) })] [3,5,9,10,11,16,17,18] [(3,.own 75 4 (l1.map cS_para_part))] [(2,(([(S_para_part.mk (((a0.getD v1.toNat (S_ParaWord.mk [] [])).f0).getD v3.toNat 0) v4 (v3 == (0:Int)) z1)]).map cS_para_part)=(([(S_para_part.mk (((a0.getD v1.toNat (S_ParaWord.mk [] [])).f0).getD v3.toNat 0) v4 (v3 == (0:Int)) z1)]).map cS_para_part)),(0,(v2.map cS_para_part).length+(([(S_para_part.mk (((a0.getD v1.toNat (S_ParaWord.mk [] [])).f0).getD v3.toNat 0) v4 (v3 == (0:Int)) z1)]).map cS_para_part).length≤4294967296∧(v2.map cS_para_part)++(([(S_para_part.mk (((a0.getD v1.toNat (S_ParaWord.mk [] [])).f0).getD v3.toNat 0) v4 (v3 == (0:Int)) z1)]).map cS_para_part)=(l1.map cS_para_part))] 1 (by kernel_rfl) (⟨rfl,and_trans (app_ok cS_para_part hp4) (by subst hl1; rfl)⟩) fun a w hm=>inBlock_norm (then_norm (((?_:T Tryd.prog e 49 _ _ _) a w hm)))
            refine T_reg_end [] [3,5,9,10,11,16,17,18] [(18,.d (.v (.int .i64 (IntKind.i64.wrap (v3+(1:Int))))))] [] 2 (by kernel_rfl) (trivial) fun a w hm=>then_norm (⟨(l1,IntKind.i64.wrap (v3+(1:Int))),h,hm.co (cs:=[.keep [3,5,9,10,11,16,17,18]]) (by show _=_; kernel_rfl)⟩)
        · have h:=cond_ff hc h
          obtain hs:=Option.some.inj h; subst hs
          refine T_exit fun a w hm=>then_exit (then_exit (inBlock_exit (then_norm (hm.co (cs:=[.keep [3,9,10,11]]) (by show _=_; kernel_rfl)))))
      · skip
        refine fun a w hm=>inBlock_norm (then_norm (((?_:T Tryd.prog e 49 _ _ _) a w hm)))
        refine T_reg_end [] [3,9,10,11] [(11,.d (.v (.int .i64 (IntKind.i64.wrap (v1+(1:Int))))))] [] 2 (by kernel_rfl) (trivial) fun a w hm=>then_norm (⟨(v6,IntKind.i64.wrap (v1+(1:Int))),h,hm.co (cs:=[.keep [3,9,10,11]]) (by show _=_; kernel_rfl)⟩)
    · have h:=cond_ff hc h
      obtain hs:=Option.some.inj h; subst hs
      refine T_exit fun a w hm=>then_exit (then_exit (inBlock_exit (then_norm (hm.co (cs:=[.keep [3]]) (by show _=_; kernel_rfl)))))
  · skip
    refine fun a w hm=>then_norm (((?_:T Tryd.prog e 49 _ _ _) a w hm))
    refine T_reg [] [2,3] [(2,.vw (3,0))] [] 2 (by kernel_rfl) (trivial) ?_
    obtain hs:=Option.some.inj h; subst hs
    refine T_ret fun a w hm=>T_return (fr':=[(2,.own 75 4 (v7.map cS_para_part))]) [2] (by kernel_rfl) [.claim 2,.keep [2]] (by kernel_rfl) (by kernel_rfl) (by kernel_rfl) (by show _=_; kernel_rfl) (by exact trivial) a w hm
theorem para_fixed_ok {F:Nat} {a0:List S_para_part} {a1:Int} {a2:Int} {a3:S_ParaShape} {r:Int×Int} (h:para_fixed F a0 a1 a2 a3=some r):ACall Tryd.prog 28 [.d (.sl 4 (a0.map cS_para_part)),.d (.v (.int .i64 a1)),.d (.v (.int .i64 a2)),.agg (cS_ParaShape a3)] [] (.tup [.d (.v (.int .i64 r.1)),.d (.v (.int .i64 r.2))]) []:=by
  rw [para_fixed] at h
  refine ACall.intro (N:=61) Tryd.func28 rfl rfl rfl rfl rfl fun e=>?_
  refine T_reg [] [0,1,2,7] [(7,.box [.d (.v (.int .i64 a3.f0)),.d (.v (.int .i64 a3.f1)),.d (.v (.int .i64 a3.f2)),.d (.v (.int .i64 a3.f3)),.d (.v (.int .i64 a3.f4)),.d (.v (.int .i64 a3.f5))])] [] 3 (by kernel_rfl) (trivial) ?_
  refine T_reg [] [0,1,2,7,10,11] [(10,.d (.v (.int .i64 (0:Int)))),(11,.d (.v (.int .i64 (0:Int))))] [] 2 (by kernel_rfl) (trivial) ?_
  refine T_seqk ?_
  refine T_reg [] [0,1,2,7,10,11,12] [(12,.d (.v (.int .i64 a1)))] [] 2 (by kernel_rfl) (trivial) ?_
  refine T_joinct h (fun (p:Int×Int)=>[(0,.d (.sl 4 (a0.map cS_para_part))),(2,.d (.v (.int .i64 a2))),(7,.box [.d (.v (.int .i64 a3.f0)),.d (.v (.int .i64 a3.f1)),.d (.v (.int .i64 a3.f2)),.d (.v (.int .i64 a3.f3)),.d (.v (.int .i64 a3.f4)),.d (.v (.int .i64 a3.f5))]),(10,.d (.v (.int .i64 p.1))),(11,.d (.v (.int .i64 p.2)))]) (fun s h=>?_) (fun s h=>?_)
  · refine T_co [.keep [0,1,2,7,10,11,12]] ((fun (p:Int×Int×Int)=>[(0,.d (.sl 4 (a0.map cS_para_part))),(1,.d (.v (.int .i64 a1))),(2,.d (.v (.int .i64 a2))),(7,.box [.d (.v (.int .i64 a3.f0)),.d (.v (.int .i64 a3.f1)),.d (.v (.int .i64 a3.f2)),.d (.v (.int .i64 a3.f3)),.d (.v (.int .i64 a3.f4)),.d (.v (.int .i64 a3.f5))]),(10,.d (.v (.int .i64 p.1))),(11,.d (.v (.int .i64 p.2.1))),(12,.d (.v (.int .i64 p.2.2)))]) ((0:Int),(0:Int),a1)) (by show _=_; kernel_rfl) ?_
    refine T_block ?_
    refine T_loopF (ι:=Int×Int×Int) (fun (p:Int×Int×Int)=>[(0,.d (.sl 4 (a0.map cS_para_part))),(1,.d (.v (.int .i64 a1))),(2,.d (.v (.int .i64 a2))),(7,.box [.d (.v (.int .i64 a3.f0)),.d (.v (.int .i64 a3.f1)),.d (.v (.int .i64 a3.f2)),.d (.v (.int .i64 a3.f3)),.d (.v (.int .i64 a3.f4)),.d (.v (.int .i64 a3.f5))]),(10,.d (.v (.int .i64 p.1))),(11,.d (.v (.int .i64 p.2.1))),(12,.d (.v (.int .i64 p.2.2)))]) (fun n p=>para_fixed_L0 F a0 a1 a2 n p.1 p.2.1 p.2.2=some s) (fun i hh=>by simp [para_fixed_L0] at hh) (fun n p h=>?_) F ((0:Int),(0:Int),a1) h
    obtain ⟨v1,v2,v3⟩:=p
    have h:para_fixed_L0 F a0 a1 a2 (n+1) v1 v2 v3=some s:=h
    rw [para_fixed_L0] at h
    refine T_seqk ?_
    refine T_reg [] [0,1,2,7,10,11,12,16] [(16,.d (.v (.bool (decide (v3 < a2)))))] [] 3 (by kernel_rfl) (trivial) ?_
    refine T_cond (decide (v3 < a2)) (by kernel_rfl) (fun hc=>?_) (fun hc=>?_)
    · have h:=cond_tt hc h
      refine T_skip fun a w hm=>then_norm (((?_:T Tryd.prog e 61 _ _ _) a w hm))
      refine T_joinc h (fun (p:Int×Int)=>[(0,.d (.sl 4 (a0.map cS_para_part))),(1,.d (.v (.int .i64 a1))),(2,.d (.v (.int .i64 a2))),(7,.box [.d (.v (.int .i64 a3.f0)),.d (.v (.int .i64 a3.f1)),.d (.v (.int .i64 a3.f2)),.d (.v (.int .i64 a3.f3)),.d (.v (.int .i64 a3.f4)),.d (.v (.int .i64 a3.f5))]),(10,.d (.v (.int .i64 p.1))),(11,.d (.v (.int .i64 p.2))),(12,.d (.v (.int .i64 v3)))]) (fun s h=>?_) (fun s h=>?_)
      · refine T_block ?_
        obtain ⟨hp1,h⟩:=chk_ok h
        refine T_reg [(3,{ cs:=cS_para_part (a0.getD v3.toNat (S_para_part.mk 0 0 false false)) })] [0,1,2,7,10,11,12] [(10,.d (.v (.int .i64 (IntKind.i64.wrap (v1+((a0.getD v3.toNat (S_para_part.mk 0 0 false false)).f0))))))] [(3,0≤v3∧(a0.map cS_para_part)[v3.toNat]? = some (cS_para_part (a0.getD v3.toNat (S_para_part.mk 0 0 false false))))] 4 (by kernel_rfl) (idx_ok (d:=(S_para_part.mk 0 0 false false)) cS_para_part hp1) ?_
        obtain ⟨hp2,h⟩:=chk_ok h
        refine T_reg [(6,{ cs:=cS_para_part (a0.getD v3.toNat (S_para_part.mk 0 0 false false)) })] [0,1,2,7,10,11,12,35] [(35,.d (.v (.bool (bif (decide (v3 > a1)) then ((a0.getD v3.toNat (S_para_part.mk 0 0 false false)).f2) else false))))] [(4,((((decide (v3 > a1)) == true) && true)=true→True)),(0,((((decide (v3 > a1)) == true) && true)=true→True)),(0,((((decide (v3 > a1)) == true) && true)=true→0≤v3∧(a0.map cS_para_part)[v3.toNat]? = some (cS_para_part (a0.getD v3.toNat (S_para_part.mk 0 0 false false))))),(0,((((decide (v3 > a1)) == true) && true)=true→True)),(0,((((decide (v3 > a1)) == true) && true)=true→True))] 1 (by kernel_rfl) (⟨(fun hg=>trivial),(fun hg=>trivial),(fun hg=>idx_ok (d:=(S_para_part.mk 0 0 false false)) cS_para_part (hp2 hg)),(fun hg=>trivial),(fun hg=>trivial)⟩) ?_
        refine T_cond (bif (decide (v3 > a1)) then ((a0.getD v3.toNat (S_para_part.mk 0 0 false false)).f2) else false) (by kernel_rfl) (fun hc=>?_) (fun hc=>?_)
        · have h:=cond_tt hc h
          obtain hs:=Option.some.inj h; subst hs
          refine T_reg_end [] [0,1,2,7,10,11,12] [(11,.d (.v (.int .i64 (IntKind.i64.wrap (v2+(1:Int))))))] [] 3 (by kernel_rfl) (trivial) fun a w hm=>inBlock_norm (then_norm (hm.co (cs:=[.keep [0,1,2,7,10,11,12]]) (by show _=_; kernel_rfl)))
        · have h:=cond_ff hc h
          refine T_reg [] [0,1,2,7,10,11,12,40] [(40,.d (.v (.bool (decide (v3 > a1)))))] [] 3 (by kernel_rfl) (trivial) ?_
          refine T_cond (decide (v3 > a1)) (by kernel_rfl) (fun hc=>?_) (fun hc=>?_)
          · have h:=cond_tt hc h
            obtain ⟨hp3,h⟩:=chk_ok h
            obtain ⟨z1,hz1,h⟩:=lett_ok h
            obtain hs:=Option.some.inj h; subst hs
            refine T_reg_end [(3,{ cs:=cS_para_part (a0.getD v3.toNat (S_para_part.mk 0 0 false false)) }),(6,{ rw:=some (.d (.v (.int .i64 z1))) })] [0,1,2,7,10,11,12] [(10,.d (.v (.int .i64 z1)))] [(3,0≤v3∧(a0.map cS_para_part)[v3.toNat]? = some (cS_para_part (a0.getD v3.toNat (S_para_part.mk 0 0 false false)))),(2,(True)∧AV.d (.v (.int .i64 (IntKind.i64.wrap ((IntKind.i64.wrap (v1+((a0.getD v3.toNat (S_para_part.mk 0 0 false false)).f0)))+((a0.getD v3.toNat (S_para_part.mk 0 0 false false)).f1)))))=.d (.v (.int .i64 z1)))] 1 (by kernel_rfl) (⟨idx_ok (d:=(S_para_part.mk 0 0 false false)) cS_para_part hp3,⟨trivial,(by subst hz1; rfl)⟩⟩) fun a w hm=>inBlock_norm (then_norm (hm.co (cs:=[.keep [0,1,2,7,10,11,12]]) (by show _=_; kernel_rfl)))
          · have h:=cond_ff hc h
            obtain hs:=Option.some.inj h; subst hs
            refine T_skip fun a w hm=>inBlock_norm (then_norm (hm.co (cs:=[.keep [0,1,2,7,10,11,12]]) (by show _=_; kernel_rfl)))
      · obtain ⟨v4,v5⟩:=s
        try dsimp only at h
        refine T_reg_end [] [0,1,2,7,10,11,12] [(12,.d (.v (.int .i64 (IntKind.i64.wrap (v3+(1:Int))))))] [] 3 (by kernel_rfl) (trivial) fun a w hm=>then_norm (⟨(v4,v5,IntKind.i64.wrap (v3+(1:Int))),h,hm.co (cs:=[.keep [0,1,2,7,10,11,12]]) (by show _=_; kernel_rfl)⟩)
    · have h:=cond_ff hc h
      obtain hs:=Option.some.inj h; subst hs
      refine T_exit fun a w hm=>then_exit (then_exit (inBlock_exit (then_norm (hm.co (cs:=[.keep [0,2,7,10,11]]) (by show _=_; kernel_rfl)))))
  · obtain ⟨v6,v7⟩:=s
    try dsimp only at h
    refine fun a w hm=>then_norm (((?_:T Tryd.prog e 61 _ _ _) a w hm))
    refine T_joinc h (fun (p:Int)=>[(10,.d (.v (.int .i64 p))),(11,.d (.v (.int .i64 v7)))]) (fun s h=>?_) (fun v8 h=>?_)
    · obtain ⟨hp4,h⟩:=chk_ok h
      refine T_reg [(3,{ cs:=cS_para_part (a0.getD (IntKind.i64.wrap (a2 - (1:Int))).toNat (S_para_part.mk 0 0 false false)) })] [7,10,11,54] [(54,.d (.v (.bool (!((a0.getD (IntKind.i64.wrap (a2 - (1:Int))).toNat (S_para_part.mk 0 0 false false)).f3)))))] [(3,0≤(IntKind.i64.wrap (a2 - (1:Int)))∧(a0.map cS_para_part)[(IntKind.i64.wrap (a2 - (1:Int))).toNat]? = some (cS_para_part (a0.getD (IntKind.i64.wrap (a2 - (1:Int))).toNat (S_para_part.mk 0 0 false false))))] 3 (by kernel_rfl) (idx_ok (d:=(S_para_part.mk 0 0 false false)) cS_para_part hp4) ?_
      refine T_cond (!((a0.getD (IntKind.i64.wrap (a2 - (1:Int))).toNat (S_para_part.mk 0 0 false false)).f3)) (by kernel_rfl) (fun hc=>?_) (fun hc=>?_)
      · have h:=cond_tt hc h
        obtain hs:=Option.some.inj h; subst hs
        refine T_reg_end [] [10,11] [(10,.d (.v (.int .i64 (IntKind.i64.wrap (v6+a3.f4)))))] [] 5 (by kernel_rfl) (trivial) fun a w hm=>then_norm (hm.co (cs:=[.keep [10,11]]) (by show _=_; kernel_rfl))
      · have h:=cond_ff hc h
        obtain hs:=Option.some.inj h; subst hs
        refine T_skip fun a w hm=>then_norm (hm.co (cs:=[.keep [10,11]]) (by show _=_; kernel_rfl))
    · skip
      refine T_reg [] [8,9] [(8,.d (.v (.int .i64 v8))),(9,.d (.v (.int .i64 v7)))] [] 4 (by kernel_rfl) (trivial) ?_
      obtain hs:=Option.some.inj h; subst hs
      refine T_ret fun a w hm=>T_return (fr':=[(8,.d (.v (.int .i64 v8))),(9,.d (.v (.int .i64 v7)))]) [8,9] (by kernel_rfl) [.keep [8,9]] (by kernel_rfl) (by kernel_rfl) (by kernel_rfl) (by show _=_; kernel_rfl) (by exact trivial) a w hm
theorem para_cost_ok {F:Nat} {a0:List S_para_part} {a1:Int} {a2:Int} {a3:S_ParaShape} {r:Int×Bool} (h:para_cost F a0 a1 a2 a3=some r):ACall Tryd.prog 21 [.d (.sl 4 (a0.map cS_para_part)),.d (.v (.int .i64 a1)),.d (.v (.int .i64 a2)),.agg (cS_ParaShape a3)] [] (.tup [.d (.v (.int .i64 r.1)),.d (.v (.bool r.2))]) []:=by
  rw [para_cost] at h
  refine ACall.intro (N:=84) Tryd.func21 rfl rfl rfl rfl rfl fun e=>?_
  refine T_reg [] [0,1,2,7] [(7,.box [.d (.v (.int .i64 a3.f0)),.d (.v (.int .i64 a3.f1)),.d (.v (.int .i64 a3.f2)),.d (.v (.int .i64 a3.f3)),.d (.v (.int .i64 a3.f4)),.d (.v (.int .i64 a3.f5))])] [] 3 (by kernel_rfl) (trivial) ?_
  obtain ⟨y1,hy1,h⟩:=call_ok h
  refine T_reg [(4,{ res:=.tup [.d (.v (.int .i64 y1.1)),.d (.v (.int .i64 y1.2))] })] [0,2,7,10,11] [(10,.d (.v (.int .i64 y1.1))),(11,.d (.v (.int .i64 y1.2)))] [(4,ACall Tryd.prog 28 [.d (.sl 4 (a0.map cS_para_part)),.d (.v (.int .i64 a1)),.d (.v (.int .i64 a2)),.agg (cS_ParaShape a3)] [] (.tup [.d (.v (.int .i64 y1.1)),.d (.v (.int .i64 y1.2))]) [])] 5 (by kernel_rfl) (para_fixed_ok hy1) ?_
  refine T_reg [] [0,2,7,10,11,12] [(12,.d (.v (.int .i64 (IntKind.i64.wrap ((IntKind.i64.wrap (a3.f0 - y1.1)) - (IntKind.i64.wrap (y1.2 * a3.f1)))))))] [] 10 (by kernel_rfl) (trivial) ?_
  refine T_reg [(2,{ rw:=some (.d (.v (.int .i64 (a0.length:Int)))) })] [0,2,7,10,11,12,13] [(13,.d (.v (.bool (a2 == (a0.length:Int)))))] [(2,True∧AV.d (.v (.int .i64 ((a0.map cS_para_part).length:Int)))=.d (.v (.int .i64 (a0.length:Int))))] 2 (by kernel_rfl) (len_ok cS_para_part) ?_
  refine T_seqk ?_
  obtain ⟨z1,hz1,h⟩:=lett_ok h
  obtain ⟨z2,hz2,h⟩:=lett_ok h
  refine T_reg [(26,{ rw:=some (.d (.v (.bool z1))) }),(27,{ rw:=some (.d (.v (.bool z2))) })] [0,2,7,12,13,63] [(63,.d (.v (.bool z2)))] [(10,((((decide ((IntKind.i64.wrap (y1.1+(IntKind.i64.wrap (y1.2 * a3.f2)))) > a3.f0)) == false) && true)=true→True)),(0,((((decide ((IntKind.i64.wrap (y1.1+(IntKind.i64.wrap (y1.2 * a3.f2)))) > a3.f0)) == false) && true)=true→True)),(0,((((decide ((IntKind.i64.wrap (y1.1+(IntKind.i64.wrap (y1.2 * a3.f2)))) > a3.f0)) == false) && true)=true→True)),(0,((((!(a2 == (a0.length:Int))) == true) && (((decide ((IntKind.i64.wrap (y1.1+(IntKind.i64.wrap (y1.2 * a3.f2)))) > a3.f0)) == false) && true))=true→True)),(0,((((!(a2 == (a0.length:Int))) == true) && (((decide ((IntKind.i64.wrap (y1.1+(IntKind.i64.wrap (y1.2 * a3.f2)))) > a3.f0)) == false) && true))=true→True)),(0,((((decide ((IntKind.i64.wrap (y1.1+(IntKind.i64.wrap (y1.2 * a3.f2)))) > a3.f0)) == false) && true)=true→True)),(0,((((decide ((IntKind.i64.wrap (y1.1+(IntKind.i64.wrap (y1.2 * a3.f2)))) > a3.f0)) == false) && true)=true→True)),(0,((((bif (!(a2 == (a0.length:Int))) then (decide (y1.2 > (0:Int))) else false) == true) && (((decide ((IntKind.i64.wrap (y1.1+(IntKind.i64.wrap (y1.2 * a3.f2)))) > a3.f0)) == false) && true))=true→True)),(0,((((bif (!(a2 == (a0.length:Int))) then (decide (y1.2 > (0:Int))) else false) == true) && (((decide ((IntKind.i64.wrap (y1.1+(IntKind.i64.wrap (y1.2 * a3.f2)))) > a3.f0)) == false) && true))=true→True)),(0,((((bif (!(a2 == (a0.length:Int))) then (decide (y1.2 > (0:Int))) else false) == true) && (((decide ((IntKind.i64.wrap (y1.1+(IntKind.i64.wrap (y1.2 * a3.f2)))) > a3.f0)) == false) && true))=true→True)),(0,((((bif (!(a2 == (a0.length:Int))) then (decide (y1.2 > (0:Int))) else false) == true) && (((decide ((IntKind.i64.wrap (y1.1+(IntKind.i64.wrap (y1.2 * a3.f2)))) > a3.f0)) == false) && true))=true→True)),(0,((((bif (!(a2 == (a0.length:Int))) then (decide (y1.2 > (0:Int))) else false) == true) && (((decide ((IntKind.i64.wrap (y1.1+(IntKind.i64.wrap (y1.2 * a3.f2)))) > a3.f0)) == false) && true))=true→True)),(0,((((bif (!(a2 == (a0.length:Int))) then (decide (y1.2 > (0:Int))) else false) == true) && (((decide ((IntKind.i64.wrap (y1.1+(IntKind.i64.wrap (y1.2 * a3.f2)))) > a3.f0)) == false) && true))=true→True)),(0,((((bif (!(a2 == (a0.length:Int))) then (decide (y1.2 > (0:Int))) else false) == true) && (((decide ((IntKind.i64.wrap (y1.1+(IntKind.i64.wrap (y1.2 * a3.f2)))) > a3.f0)) == false) && true))=true→True)),(0,((((bif (!(a2 == (a0.length:Int))) then (decide (y1.2 > (0:Int))) else false) == true) && (((decide ((IntKind.i64.wrap (y1.1+(IntKind.i64.wrap (y1.2 * a3.f2)))) > a3.f0)) == false) && true))=true→True)),(0,((((bif (!(a2 == (a0.length:Int))) then (decide (y1.2 > (0:Int))) else false) == true) && (((decide ((IntKind.i64.wrap (y1.1+(IntKind.i64.wrap (y1.2 * a3.f2)))) > a3.f0)) == false) && true))=true→True)),(0,((((decide ((IntKind.i64.wrap (y1.1+(IntKind.i64.wrap (y1.2 * a3.f2)))) > a3.f0)) == false) && true)=true→(True)∧AV.d (.v (.bool (bif (bif (!(a2 == (a0.length:Int))) then (decide (y1.2 > (0:Int))) else false) then (decide ((IntKind.i64.wrap (y1.1+(IntKind.i64.wrap (y1.2 * a3.f3)))) < a3.f0)) else false)))=.d (.v (.bool z1)))),(0,(True)∧AV.d (.v (.bool (bif (decide ((IntKind.i64.wrap (y1.1+(IntKind.i64.wrap (y1.2 * a3.f2)))) > a3.f0)) then true else z1)))=.d (.v (.bool z2)))] 0 (by kernel_rfl) (⟨(fun hg=>trivial),(fun hg=>trivial),(fun hg=>trivial),(fun hg=>trivial),(fun hg=>trivial),(fun hg=>trivial),(fun hg=>trivial),(fun hg=>trivial),(fun hg=>trivial),(fun hg=>trivial),(fun hg=>trivial),(fun hg=>trivial),(fun hg=>trivial),(fun hg=>trivial),(fun hg=>trivial),(fun hg=>trivial),(fun hg=>⟨trivial,(by subst hz1; rfl)⟩),⟨trivial,(by subst hz2; rfl)⟩⟩) ?_
  refine T_cond z2 (by kernel_rfl) (fun hc=>?_) (fun hc=>?_)
  · have h:=cond_tt hc h
    refine T_reg [] [8,9] [(8,.d (.v (.int .i64 (0:Int)))),(9,.d (.v (.bool false)))] [] 2 (by kernel_rfl) (trivial) ?_
    obtain hs:=Option.some.inj h; subst hs
    refine T_ret fun a w hm=>then_ret (T_return (fr':=[(8,.d (.v (.int .i64 (0:Int)))),(9,.d (.v (.bool false)))]) [8,9] (by kernel_rfl) [.keep [8,9]] (by kernel_rfl) (by kernel_rfl) (by kernel_rfl) (by show _=_; kernel_rfl) (by exact trivial) a w hm)
  · have h:=cond_ff hc h
    refine T_skip fun a w hm=>then_norm (((?_:T Tryd.prog e 84 _ _ _) a w hm))
    obtain ⟨z3,hz3,h⟩:=lett_ok h
    refine T_reg [(2,{ rw:=some (.d (.v (.int .i64 z3))) })] [0,2,7,12,13,14] [(14,.d (.v (.int .i64 z3)))] [(2,(True)∧AV.d (.v (.int .i64 (IntKind.i64.wrap ((IntKind.i64.wrap ((IntKind.i64.wrap (a3.f0 - y1.1)) - (IntKind.i64.wrap (y1.2 * a3.f1)))) * (IntKind.i64.wrap ((IntKind.i64.wrap (a3.f0 - y1.1)) - (IntKind.i64.wrap (y1.2 * a3.f1))))))))=.d (.v (.int .i64 z3)))] 1 (by kernel_rfl) (⟨trivial,(by subst hz3; rfl)⟩) ?_
    refine T_joinc h (fun (p:Int)=>[(0,.d (.sl 4 (a0.map cS_para_part))),(2,.d (.v (.int .i64 a2))),(7,.box [.d (.v (.int .i64 a3.f0)),.d (.v (.int .i64 a3.f1)),.d (.v (.int .i64 a3.f2)),.d (.v (.int .i64 a3.f3)),.d (.v (.int .i64 a3.f4)),.d (.v (.int .i64 a3.f5))]),(14,.d (.v (.int .i64 p)))]) (fun s h=>?_) (fun v1 h=>?_)
    · obtain ⟨z4,hz4,h⟩:=lett_ok h
      refine T_reg [(3,{ rw:=some (.d (.v (.bool z4))) })] [0,2,7,14,71] [(71,.d (.v (.bool (bif (a2 == (a0.length:Int)) then z4 else false))))] [(2,((((a2 == (a0.length:Int)) == true) && true)=true→True)),(0,((((a2 == (a0.length:Int)) == true) && true)=true→(True)∧AV.d (.v (.bool (decide ((IntKind.i64.wrap ((IntKind.i64.wrap (a3.f0 - y1.1)) - (IntKind.i64.wrap (y1.2 * a3.f1)))) > (0:Int)))))=.d (.v (.bool z4))))] 1 (by kernel_rfl) (⟨(fun hg=>trivial),(fun hg=>⟨trivial,(by subst hz4; rfl)⟩)⟩) ?_
      refine T_cond (bif (a2 == (a0.length:Int)) then z4 else false) (by kernel_rfl) (fun hc=>?_) (fun hc=>?_)
      · have h:=cond_tt hc h
        obtain hs:=Option.some.inj h; subst hs
        refine T_reg_end [] [0,2,7,14] [(14,.d (.v (.int .i64 (0:Int))))] [] 1 (by kernel_rfl) (trivial) fun a w hm=>then_norm (hm.co (cs:=[.keep [0,2,7,14]]) (by show _=_; kernel_rfl))
      · have h:=cond_ff hc h
        obtain hs:=Option.some.inj h; subst hs
        refine T_skip fun a w hm=>then_norm (hm.co (cs:=[.keep [0,2,7,14]]) (by show _=_; kernel_rfl))
    · skip
      refine T_joinc h (fun (p:Int)=>[(14,.d (.v (.int .i64 p)))]) (fun s h=>?_) (fun v2 h=>?_)
      · obtain ⟨hp1,h⟩:=chk_ok h
        refine T_reg [(3,{ cs:=cS_para_part (a0.getD (IntKind.i64.wrap (a2 - (1:Int))).toNat (S_para_part.mk 0 0 false false)) })] [7,14,78] [(78,.d (.v (.bool (!((a0.getD (IntKind.i64.wrap (a2 - (1:Int))).toNat (S_para_part.mk 0 0 false false)).f3)))))] [(3,0≤(IntKind.i64.wrap (a2 - (1:Int)))∧(a0.map cS_para_part)[(IntKind.i64.wrap (a2 - (1:Int))).toNat]? = some (cS_para_part (a0.getD (IntKind.i64.wrap (a2 - (1:Int))).toNat (S_para_part.mk 0 0 false false))))] 3 (by kernel_rfl) (idx_ok (d:=(S_para_part.mk 0 0 false false)) cS_para_part hp1) ?_
        refine T_cond (!((a0.getD (IntKind.i64.wrap (a2 - (1:Int))).toNat (S_para_part.mk 0 0 false false)).f3)) (by kernel_rfl) (fun hc=>?_) (fun hc=>?_)
        · have h:=cond_tt hc h
          obtain hs:=Option.some.inj h; subst hs
          refine T_reg_end [] [14] [(14,.d (.v (.int .i64 (IntKind.i64.wrap (v1+a3.f5)))))] [] 5 (by kernel_rfl) (trivial) fun a w hm=>then_norm (hm.co (cs:=[.keep [14]]) (by show _=_; kernel_rfl))
        · have h:=cond_ff hc h
          obtain hs:=Option.some.inj h; subst hs
          refine T_skip fun a w hm=>then_norm (hm.co (cs:=[.keep [14]]) (by show _=_; kernel_rfl))
      · skip
        refine T_reg [] [8,9] [(8,.d (.v (.int .i64 v2))),(9,.d (.v (.bool true)))] [] 3 (by kernel_rfl) (trivial) ?_
        obtain hs:=Option.some.inj h; subst hs
        refine T_ret fun a w hm=>T_return (fr':=[(8,.d (.v (.int .i64 v2))),(9,.d (.v (.bool true)))]) [8,9] (by kernel_rfl) [.keep [8,9]] (by kernel_rfl) (by kernel_rfl) (by kernel_rfl) (by show _=_; kernel_rfl) (by exact trivial) a w hm
theorem para_line_ok {F:Nat} {a0:List S_para_part} {a1:Int} {a2:Int} {a3:S_ParaShape} {r:S_ParaLine} (h:para_line F a0 a1 a2 a3=some r):ACall Tryd.prog 22 [.d (.sl 4 (a0.map cS_para_part)),.d (.v (.int .i64 a1)),.d (.v (.int .i64 a2)),.agg (cS_ParaShape a3)] [] (.agg (cS_ParaLine r)) []:=by
  rw [para_line] at h
  refine ACall.intro (N:=69) Tryd.func22 rfl rfl rfl rfl rfl fun e=>?_
  refine T_reg [] [0,1,2,7,8] [(7,.box [.d (.v (.int .i64 a3.f0)),.d (.v (.int .i64 a3.f1)),.d (.v (.int .i64 a3.f2)),.d (.v (.int .i64 a3.f3)),.d (.v (.int .i64 a3.f4)),.d (.v (.int .i64 a3.f5))]),(8,.box [.d (.v (.int .i64 0)),.d (.v (.int .i64 0)),.d (.v (.bool false)),.own 3 1 ([].map (cI .i64))])] [] 2 (by kernel_rfl) (trivial) ?_
  obtain ⟨y1,hy1,h⟩:=call_ok h
  refine T_reg [(4,{ res:=.tup [.d (.v (.int .i64 y1.1)),.d (.v (.int .i64 y1.2))] })] [0,1,2,7,8,9,10] [(9,.d (.v (.int .i64 y1.1))),(10,.d (.v (.int .i64 y1.2)))] [(4,ACall Tryd.prog 28 [.d (.sl 4 (a0.map cS_para_part)),.d (.v (.int .i64 a1)),.d (.v (.int .i64 a2)),.agg (cS_ParaShape a3)] [] (.tup [.d (.v (.int .i64 y1.1)),.d (.v (.int .i64 y1.2))]) [])] 5 (by kernel_rfl) (para_fixed_ok hy1) ?_
  obtain ⟨hp1,h⟩:=chk_ok h
  refine T_region [(5,{ cs:=cS_para_part (a0.getD (IntKind.i64.wrap (a2 - (1:Int))).toNat (S_para_part.mk 0 0 false false)) }),(9,{ take:=[0] })] [0,2,7,8,9,10,11] [.nilc 11 3 3 1,.keep [0,2,7,8,9,10,11]] [(0,.d (.sl 4 (a0.map cS_para_part))),(2,.d (.v (.int .i64 a2))),(7,.box [.d (.v (.int .i64 a3.f0)),.d (.v (.int .i64 a3.f1)),.d (.v (.int .i64 a3.f2)),.d (.v (.int .i64 a3.f3)),.d (.v (.int .i64 a3.f4)),.d (.v (.int .i64 a3.f5))]),(8,.box [.d (.v (.int .i64 0)),.d (.v (.int .i64 0)),.d (.v (.bool false)),.own 3 1 ([].map (cI .i64))]),(9,.d (.v (.int .i64 y1.1))),(10,.d (.v (.int .i64 y1.2))),(11,.box [.d (.v (.int .i64 a1)),.d (.v (.int .i64 a2)),.d (.v (.bool (!((a0.getD (IntKind.i64.wrap (a2 - (1:Int))).toNat (S_para_part.mk 0 0 false false)).f3)))),.own 3 1 ([].map (cI .i64))])] [(5,0≤(IntKind.i64.wrap (a2 - (1:Int)))∧(a0.map cS_para_part)[(IntKind.i64.wrap (a2 - (1:Int))).toNat]? = some (cS_para_part (a0.getD (IntKind.i64.wrap (a2 - (1:Int))).toNat (S_para_part.mk 0 0 false false))))] 6 (by kernel_rfl) (idx_ok (d:=(S_para_part.mk 0 0 false false)) cS_para_part hp1) ?_
  refine T_reg [] [0,2,7,8,10,11,12] [(12,.d (.v (.int .i64 (IntKind.i64.wrap (a3.f0 - y1.1)))))] [] 5 (by kernel_rfl) (trivial) ?_
  refine T_joinc h (fun (p:Int)=>[(8,.box [.d (.v (.int .i64 0)),.d (.v (.int .i64 0)),.d (.v (.bool false)),.own 3 1 ([].map (cI .i64))]),(10,.d (.v (.int .i64 y1.2))),(11,.box [.d (.v (.int .i64 a1)),.d (.v (.int .i64 a2)),.d (.v (.bool (!((a0.getD (IntKind.i64.wrap (a2 - (1:Int))).toNat (S_para_part.mk 0 0 false false)).f3)))),.own 3 1 ([].map (cI .i64))]),(12,.d (.v (.int .i64 p)))]) (fun s h=>?_) (fun v1 h=>?_)
  · refine T_reg [(2,{ rw:=some (.d (.v (.int .i64 (a0.length:Int)))) })] [7,8,10,11,12,39] [(39,.d (.v (.bool (a2 == (a0.length:Int)))))] [(2,True∧AV.d (.v (.int .i64 ((a0.map cS_para_part).length:Int)))=.d (.v (.int .i64 (a0.length:Int))))] 1 (by kernel_rfl) (len_ok cS_para_part) ?_
    refine T_cond (a2 == (a0.length:Int)) (by kernel_rfl) (fun hc=>?_) (fun hc=>?_)
    · have h:=cond_tt hc h
      obtain ⟨z2,hz1,h⟩:=lett_ok h
      obtain hs:=Option.some.inj h; subst hs
      refine T_reg_end [(5,{ rw:=some (.d (.v (.int .i64 z2))) })] [8,10,11,12] [(12,.d (.v (.int .i64 z2)))] [(5,(True)∧AV.d (.v (.int .i64 (if (IntKind.i64.wrap (y1.2 * a3.f1)) < (IntKind.i64.wrap (a3.f0 - y1.1)) then (IntKind.i64.wrap (y1.2 * a3.f1)) else (IntKind.i64.wrap (a3.f0 - y1.1)))))=.d (.v (.int .i64 z2)))] 1 (by kernel_rfl) (⟨trivial,(by subst hz1; rfl)⟩) fun a w hm=>then_norm (hm.co (cs:=[.keep [8,10,11,12]]) (by show _=_; kernel_rfl))
    · have h:=cond_ff hc h
      obtain hs:=Option.some.inj h; subst hs
      refine T_skip fun a w hm=>then_norm (hm.co (cs:=[.keep [8,10,11,12]]) (by show _=_; kernel_rfl))
  · skip
    refine T_seqk ?_
    refine T_reg [] [8,10,11,12,46,47] [(46,.d (.v (.int .i64 y1.2))),(47,.d (.v (.int .i64 (0:Int))))] [] 2 (by kernel_rfl) (trivial) ?_
    refine T_joinct h (fun (p:(List Int))=>[(8,.box [.d (.v (.int .i64 0)),.d (.v (.int .i64 0)),.d (.v (.bool false)),.own 3 1 ([].map (cI .i64))]),(11,.box [.d (.v (.int .i64 a1)),.d (.v (.int .i64 a2)),.d (.v (.bool (!((a0.getD (IntKind.i64.wrap (a2 - (1:Int))).toNat (S_para_part.mk 0 0 false false)).f3)))),.own 3 1 (p.map (cI .i64))])]) (fun s h=>?_) (fun v4 h=>?_)
    · refine T_co [.keep [8,10,11,12,46,47]] ((fun (p:(List Int)×Int)=>[(8,.box [.d (.v (.int .i64 0)),.d (.v (.int .i64 0)),.d (.v (.bool false)),.own 3 1 ([].map (cI .i64))]),(10,.d (.v (.int .i64 y1.2))),(11,.box [.d (.v (.int .i64 a1)),.d (.v (.int .i64 a2)),.d (.v (.bool (!((a0.getD (IntKind.i64.wrap (a2 - (1:Int))).toNat (S_para_part.mk 0 0 false false)).f3)))),.own 3 1 (p.1.map (cI .i64))]),(12,.d (.v (.int .i64 v1))),(46,.d (.v (.int .i64 y1.2))),(47,.d (.v (.int .i64 p.2)))]) ([],(0:Int))) (by show _=_; kernel_rfl) ?_
      refine T_block ?_
      refine T_loopF (ι:=(List Int)×Int) (fun (p:(List Int)×Int)=>[(8,.box [.d (.v (.int .i64 0)),.d (.v (.int .i64 0)),.d (.v (.bool false)),.own 3 1 ([].map (cI .i64))]),(10,.d (.v (.int .i64 y1.2))),(11,.box [.d (.v (.int .i64 a1)),.d (.v (.int .i64 a2)),.d (.v (.bool (!((a0.getD (IntKind.i64.wrap (a2 - (1:Int))).toNat (S_para_part.mk 0 0 false false)).f3)))),.own 3 1 (p.1.map (cI .i64))]),(12,.d (.v (.int .i64 v1))),(46,.d (.v (.int .i64 y1.2))),(47,.d (.v (.int .i64 p.2)))]) (fun n p=>para_line_L0 F y1 v1 n p.1 p.2=some s) (fun i hh=>by simp [para_line_L0] at hh) (fun n p h=>?_) F ([],(0:Int)) h
      obtain ⟨v2,v3⟩:=p
      have h:para_line_L0 F y1 v1 (n+1) v2 v3=some s:=h
      rw [para_line_L0] at h
      refine T_reg [] [8,10,11,12,46,47,48] [(48,.d (.v (.bool (decide (v3 < y1.2)))))] [] 1 (by kernel_rfl) (trivial) ?_
      refine T_seqk ?_
      refine T_cond (decide (v3 < y1.2)) (by kernel_rfl) (fun hc=>?_) (fun hc=>?_)
      · have h:=cond_tt hc h
        refine T_skip fun a w hm=>then_norm (((?_:T Tryd.prog e 69 _ _ _) a w hm))
        refine T_seqk ?_
        refine T_block ?_
        refine T_reg [] [8,10,11,12,13,46,47] [(13,.d (.v (.int .i64 v3)))] [] 2 (by kernel_rfl) (trivial) ?_
        obtain ⟨hp2,h⟩:=chk_ok h
        obtain ⟨hp3,h⟩:=chk_ok h
        obtain ⟨z1,hz2,h⟩:=lett_ok h
        obtain ⟨hp4,h⟩:=chk_ok h
        refine T_drawX_end mixed 2 (.take 0 (.take 2 (.take 3 (.take 4 (.take 5 (.take 6 (.take 7 (.take 8 (.take 9 (.take 10 (.take 11 (.take 12 (.take 13 (.all (.alt 1 (.all (.alt 14 (.all (.alt 15 (.take 16 (.all (.alt 17 .done .stop))) .stop)) .stop)) (.alt 14 (.take 1 (.all (.alt 15 (.take 16 (.all (.alt 17 .done .stop))) .stop))) .stop)))))))))))))))) ([0,1,0,4,0,24,0,96,0,0,768,0,3072,4224,8192,16386,65535,131071],[0,1,0,4,0,24,0,96,0,0,768,0,3072,4224,8192,16386,0,98304]) 81919 [(13,{ rw:=some (.d (.v (.int .i64 z1))) }),(14,{ es:=some (([z1]).map (cI .i64)) }),(15,{ es:=some ((v2++([z1])).map (cI .i64)) })] [8,10,11,12,46,47] [] [(8,.box [.d (.v (.int .i64 0)),.d (.v (.int .i64 0)),.d (.v (.bool false)),.own 3 1 ([].map (cI .i64))]),(10,.d (.v (.int .i64 y1.2))),(11,.box [.d (.v (.int .i64 a1)),.d (.v (.int .i64 a2)),.d (.v (.bool (!((a0.getD (IntKind.i64.wrap (a2 - (1:Int))).toNat (S_para_part.mk 0 0 false false)).f3)))),.own 3 1 ((v2++([z1])).map (cI .i64))]),(12,.d (.v (.int .i64 v1))),(46,.d (.v (.int .i64 y1.2))),(47,.d (.v (.int .i64 v3)))] ((fun (o7:Prop)=>fun (o12:Prop)=>fun (o13:Prop)=>fun (o14:Prop)=>fun (o15:Prop)=>[(6,o7),(4,o12),(0,o13),(1,o14),(0,o15),(2,o14),(1,o15)]) (y1.2≠0) (y1.2≠0) ((True)∧AV.d (.v (.int .i64 (IntKind.i64.wrap ((IntKind.i64.wrap ((IntKind.i64.wrap ((IntKind.i64.wrap (v3+(1:Int))) * v1)).tdiv y1.2)) - (IntKind.i64.wrap ((IntKind.i64.wrap (v3 * v1)).tdiv y1.2))))))=.d (.v (.int .i64 z1))) ((([z1]).map (cI .i64))=(([z1]).map (cI .i64))) ((v2.map (cI .i64)).length+(([z1]).map (cI .i64)).length≤4294967296∧(v2.map (cI .i64))++(([z1]).map (cI .i64))=((v2++([z1])).map (cI .i64)))) 2 (by kernel_rfl) (by kernel_rfl) (by kernel_rfl) (have p7:=hp2; have p12:=hp3; have p13:=⟨trivial,(by subst hz2; rfl)⟩; have p14:=rfl; have p15:=app_ok (cI .i64) hp4; ⟨p7,p12,p13,p14,p15,p14,p15⟩) fun a w hm=>inBlock_norm (then_norm (((?_:T Tryd.prog e 69 _ _ _) a w hm)))
        refine T_reg_end [] [8,10,11,12,46,47] [(47,.d (.v (.int .i64 (IntKind.i64.wrap (v3+(1:Int))))))] [] 2 (by kernel_rfl) (trivial) fun a w hm=>then_norm (⟨((v2++([z1])),IntKind.i64.wrap (v3+(1:Int))),h,hm.co (cs:=[.keep [8,10,11,12,46,47]]) (by show _=_; kernel_rfl)⟩)
      · have h:=cond_ff hc h
        obtain hs:=Option.some.inj h; subst hs
        refine T_exit fun a w hm=>then_exit (then_exit (inBlock_exit (then_norm (hm.co (cs:=[.keep [8,11]]) (by show _=_; kernel_rfl)))))
    · skip
      refine fun a w hm=>then_norm (((?_:T Tryd.prog e 69 _ _ _) a w hm))
      refine T_reg [(0,{ frz:=[(11,4)] })] [8] [(8,.box [.d (.v (.int .i64 a1)),.d (.v (.int .i64 a2)),.d (.v (.bool (!((a0.getD (IntKind.i64.wrap (a2 - (1:Int))).toNat (S_para_part.mk 0 0 false false)).f3)))),.d (.sl 1 (v4.map (cI .i64)))])] [] 2 (by kernel_rfl) (trivial) ?_
      obtain hs:=Option.some.inj h; subst hs
      refine T_ret fun a w hm=>T_returnC (fr':=[(8,.box [.d (.v (.int .i64 a1)),.d (.v (.int .i64 a2)),.d (.v (.bool (!((a0.getD (IntKind.i64.wrap (a2 - (1:Int))).toNat (S_para_part.mk 0 0 false false)).f3)))),.d (.sl 1 (v4.map (cI .i64)))])]) (ts:=[69]) (N':=70) (fr2:=[(69,.agg (cS_ParaLine (S_ParaLine.mk a1 a2 (!((a0.getD (IntKind.i64.wrap (a2 - (1:Int))).toNat (S_para_part.mk 0 0 false false)).f3)) v4)))]++[(8,.box [.d (.v (.int .i64 a1)),.d (.v (.int .i64 a2)),.d (.v (.bool (!((a0.getD (IntKind.i64.wrap (a2 - (1:Int))).toNat (S_para_part.mk 0 0 false false)).f3)))),.d (.sl 1 (v4.map (cI .i64)))])]) [.keep [8]] (by kernel_rfl) (by kernel_rfl) (by kernel_rfl) (by kernel_rfl) (by show _=_; kernel_rfl) (by exact trivial) a w hm
theorem para_Break_ok {F:Nat} {a0:List S_ParaWord} {a1:S_ParaShape} {r:(List S_ParaLine)×Int×Int} (h:para_Break F a0 a1=some r):ACall Tryd.prog 13 [.d (.sl 2 (a0.map cS_ParaWord)),.agg (cS_ParaShape a1)] [] (.tup [.own 43 4 (r.1.map cS_ParaLine),.d (.v (.int .i64 r.2.1)),.d (.v (.int .i64 r.2.2))]) []:=by
  rw [para_Break] at h
  refine ACall.intro (N:=119) Tryd.func13 rfl rfl rfl rfl rfl fun e=>?_
  refine T_reg [] [0,3] [(3,.box [.d (.v (.int .i64 a1.f0)),.d (.v (.int .i64 a1.f1)),.d (.v (.int .i64 a1.f2)),.d (.v (.int .i64 a1.f3)),.d (.v (.int .i64 a1.f4)),.d (.v (.int .i64 a1.f5))])] [] 4 (by kernel_rfl) (trivial) ?_
  refine T_seqk ?_
  obtain ⟨y4,hy1,h⟩:=call_ok h
  refine T_reg [(2,{ res:=.d (.v (.int .i64 y4)) })] [0,3,7] [(7,.d (.v (.int .i64 y4)))] [(2,ACall Tryd.prog 10 [.d (.sl 2 (a0.map cS_ParaWord)),.agg (cS_ParaShape a1)] [] (.d (.v (.int .i64 y4))) [])] 1 (by kernel_rfl) (para_Check_ok hy1) ?_
  refine T_reg [] [0,3,7,22] [(22,.d (.v (.bool (y4 != (0:Int)))))] [] 2 (by kernel_rfl) (trivial) ?_
  refine T_cond (y4 != (0:Int)) (by kernel_rfl) (fun hc=>?_) (fun hc=>?_)
  · have h:=cond_tt hc h
    refine T_reg [] [4,5,6] [(4,.own 43 4 ([].map cS_ParaLine)),(5,.d (.v (.int .i64 (0:Int)))),(6,.d (.v (.int .i64 y4)))] [] 4 (by kernel_rfl) (trivial) ?_
    obtain hs:=Option.some.inj h; subst hs
    refine T_ret fun a w hm=>then_ret (T_return (fr':=[(4,.own 43 4 ([].map cS_ParaLine)),(5,.d (.v (.int .i64 (0:Int)))),(6,.d (.v (.int .i64 y4)))]) [4,5,6] (by kernel_rfl) [.keep [4,5,6]] (by kernel_rfl) (by kernel_rfl) (by kernel_rfl) (by show _=_; kernel_rfl) (by exact trivial) a w hm)
  · have h:=cond_ff hc h
    refine T_skip fun a w hm=>then_norm (((?_:T Tryd.prog e 119 _ _ _) a w hm))
    obtain ⟨y1,hy2,h⟩:=call_ok h
    refine T_reg [(1,{ res:=.own 75 4 (y1.map cS_para_part) })] [3,8] [(8,.own 75 4 (y1.map cS_para_part))] [(1,ACall Tryd.prog 20 [.d (.sl 2 (a0.map cS_ParaWord))] [] (.own 75 4 (y1.map cS_para_part)) [])] 1 (by kernel_rfl) (para_flat_ok hy2) ?_
    refine T_reg [(1,{ rw:=some (.d (.v (.int .i64 (y1.length:Int)))) })] [3,8,9] [(9,.d (.v (.int .i64 (y1.length:Int))))] [(1,True∧AV.d (.v (.int .i64 ((y1.map cS_para_part).length:Int)))=.d (.v (.int .i64 (y1.length:Int))))] 1 (by kernel_rfl) (len_ok cS_para_part) ?_
    obtain ⟨hp1,h⟩:=chk_ok h
    obtain ⟨hp2,h⟩:=chk_ok h
    refine T_drawX mixed 2 (.take 0 (.take 1 (.take 3 (.all (.alt 2 (.take 5 (.all (.alt 4 (.take 6 .done) .stop))) (.alt 4 (.all (.alt 2 (.take 5 (.take 6 .done)) .stop)) .stop)))))) ([0,1,2,0,8,7,63],[0,1,2,0,8,4,16]) 107 [(2,{ es:=some ((List.replicate (IntKind.i64.wrap ((y1.length:Int)+(1:Int))).toNat 0).map (cI .i64)) }),(4,{ es:=some ((List.replicate (y1.length:Int).toNat 0).map (cI .i64)) })] [3,8,9,10,11] [] [(3,.box [.d (.v (.int .i64 a1.f0)),.d (.v (.int .i64 a1.f1)),.d (.v (.int .i64 a1.f2)),.d (.v (.int .i64 a1.f3)),.d (.v (.int .i64 a1.f4)),.d (.v (.int .i64 a1.f5))]),(8,.own 75 4 (y1.map cS_para_part)),(9,.d (.v (.int .i64 (y1.length:Int)))),(10,.own 3 1 ((List.replicate (IntKind.i64.wrap ((y1.length:Int)+(1:Int))).toNat 0).map (cI .i64))),(11,.own 3 1 ((List.replicate (y1.length:Int).toNat 0).map (cI .i64)))] ((fun (o2:Prop)=>fun (o4:Prop)=>[(3,o2),(1,o4),(1,o4),(0,o2)]) ((0≤(IntKind.i64.wrap ((y1.length:Int)+(1:Int)))∧(IntKind.i64.wrap ((y1.length:Int)+(1:Int)))≤(IntKind.i64.wrap ((y1.length:Int)+(1:Int)))∧(IntKind.i64.wrap ((y1.length:Int)+(1:Int)))≤9223372036854775807∧((8:Nat):Int) * (IntKind.i64.wrap ((y1.length:Int)+(1:Int)))≤281474976710656)∧List.replicate (IntKind.i64.wrap ((y1.length:Int)+(1:Int))).toNat ((cI .i64) 0)=((List.replicate (IntKind.i64.wrap ((y1.length:Int)+(1:Int))).toNat 0).map (cI .i64))) ((0≤(y1.length:Int)∧(y1.length:Int)≤(y1.length:Int)∧(y1.length:Int)≤9223372036854775807∧((8:Nat):Int) * (y1.length:Int)≤281474976710656)∧List.replicate (y1.length:Int).toNat ((cI .i64) 0)=((List.replicate (y1.length:Int).toNat 0).map (cI .i64)))) 2 (by kernel_rfl) (by kernel_rfl) (by kernel_rfl) (have p2:=⟨hp1,repl_ok (cI .i64) rfl⟩; have p4:=⟨hp2,repl_ok (cI .i64) rfl⟩; ⟨p2,p4,p4,p2⟩) ?_
    refine T_seqk ?_
    refine T_reg [] [3,8,9,10,11,12] [(12,.d (.v (.int .i64 (IntKind.i64.wrap ((y1.length:Int) - (1:Int))))))] [] 3 (by kernel_rfl) (trivial) ?_
    refine T_joinct h (fun (p:(List Int)×(List Int))=>[(3,.box [.d (.v (.int .i64 a1.f0)),.d (.v (.int .i64 a1.f1)),.d (.v (.int .i64 a1.f2)),.d (.v (.int .i64 a1.f3)),.d (.v (.int .i64 a1.f4)),.d (.v (.int .i64 a1.f5))]),(8,.own 75 4 (y1.map cS_para_part)),(9,.d (.v (.int .i64 (y1.length:Int)))),(10,.own 3 1 (p.1.map (cI .i64))),(11,.own 3 1 (p.2.map (cI .i64)))]) (fun s h=>?_) (fun s h=>?_)
    · refine T_co [.keep [3,8,9,10,11,12]] ((fun (p:(List Int)×(List Int)×Int)=>[(3,.box [.d (.v (.int .i64 a1.f0)),.d (.v (.int .i64 a1.f1)),.d (.v (.int .i64 a1.f2)),.d (.v (.int .i64 a1.f3)),.d (.v (.int .i64 a1.f4)),.d (.v (.int .i64 a1.f5))]),(8,.own 75 4 (y1.map cS_para_part)),(9,.d (.v (.int .i64 (y1.length:Int)))),(10,.own 3 1 (p.1.map (cI .i64))),(11,.own 3 1 (p.2.1.map (cI .i64))),(12,.d (.v (.int .i64 p.2.2)))]) ((List.replicate (IntKind.i64.wrap ((y1.length:Int)+(1:Int))).toNat 0),(List.replicate (y1.length:Int).toNat 0),IntKind.i64.wrap ((y1.length:Int) - (1:Int)))) (by show _=_; kernel_rfl) ?_
      refine T_block ?_
      refine T_loopF (ι:=(List Int)×(List Int)×Int) (fun (p:(List Int)×(List Int)×Int)=>[(3,.box [.d (.v (.int .i64 a1.f0)),.d (.v (.int .i64 a1.f1)),.d (.v (.int .i64 a1.f2)),.d (.v (.int .i64 a1.f3)),.d (.v (.int .i64 a1.f4)),.d (.v (.int .i64 a1.f5))]),(8,.own 75 4 (y1.map cS_para_part)),(9,.d (.v (.int .i64 (y1.length:Int)))),(10,.own 3 1 (p.1.map (cI .i64))),(11,.own 3 1 (p.2.1.map (cI .i64))),(12,.d (.v (.int .i64 p.2.2)))]) (fun n p=>para_Break_L0 F a1 y1 n p.1 p.2.1 p.2.2=some s) (fun i hh=>by simp [para_Break_L0] at hh) (fun n p h=>?_) F ((List.replicate (IntKind.i64.wrap ((y1.length:Int)+(1:Int))).toNat 0),(List.replicate (y1.length:Int).toNat 0),IntKind.i64.wrap ((y1.length:Int) - (1:Int))) h
      obtain ⟨v7,v8,v1⟩:=p
      have h:para_Break_L0 F a1 y1 (n+1) v7 v8 v1=some s:=h
      rw [para_Break_L0] at h
      refine T_seqk ?_
      refine T_reg [] [3,8,9,10,11,12,36] [(36,.d (.v (.bool (decide (v1 ≥ (0:Int))))))] [] 2 (by kernel_rfl) (trivial) ?_
      refine T_cond (decide (v1 ≥ (0:Int))) (by kernel_rfl) (fun hc=>?_) (fun hc=>?_)
      · have h:=cond_tt hc h
        refine T_skip fun a w hm=>then_norm (((?_:T Tryd.prog e 119 _ _ _) a w hm))
        refine T_seqk ?_
        refine T_block ?_
        obtain ⟨hp3,h⟩:=chk_ok h
        refine T_reg [(3,{ cs:=(cI .i64) (v7.getD v1.toNat 0),es:=some ((v7.set v1.toNat (-1:Int)).map (cI .i64)) })] [3,8,9,10,11,12] [(10,.own 3 1 ((v7.set v1.toNat (-1:Int)).map (cI .i64)))] [(2,0≤v1∧v1 < (v7.map (cI .i64)).length),(0,(v7.map (cI .i64))[v1.toNat]? = some ((cI .i64) (v7.getD v1.toNat 0))∧(v7.map (cI .i64)).set v1.toNat ((cI .i64) (-1:Int))=((v7.set v1.toNat (-1:Int)).map (cI .i64)))] 0 (by kernel_rfl) (⟨own_idx (cI .i64) hp3,⟨(idx_ok (d:=0) (cI .i64) hp3).2,set_ok (cI .i64) rfl⟩⟩) ?_
        refine T_reg [] [3,8,9,10,11,12,13] [(13,.d (.v (.int .i64 (IntKind.i64.wrap (v1+(1:Int))))))] [] 3 (by kernel_rfl) (trivial) ?_
        refine T_joinct h (fun (p:(List Int)×(List Int))=>[(3,.box [.d (.v (.int .i64 a1.f0)),.d (.v (.int .i64 a1.f1)),.d (.v (.int .i64 a1.f2)),.d (.v (.int .i64 a1.f3)),.d (.v (.int .i64 a1.f4)),.d (.v (.int .i64 a1.f5))]),(8,.own 75 4 (y1.map cS_para_part)),(9,.d (.v (.int .i64 (y1.length:Int)))),(10,.own 3 1 (p.1.map (cI .i64))),(11,.own 3 1 (p.2.map (cI .i64))),(12,.d (.v (.int .i64 v1)))]) (fun s h=>?_) (fun s h=>?_)
        · refine T_co [.keep [3,8,9,10,11,12,13]] ((fun (p:(List Int)×(List Int)×Int)=>[(3,.box [.d (.v (.int .i64 a1.f0)),.d (.v (.int .i64 a1.f1)),.d (.v (.int .i64 a1.f2)),.d (.v (.int .i64 a1.f3)),.d (.v (.int .i64 a1.f4)),.d (.v (.int .i64 a1.f5))]),(8,.own 75 4 (y1.map cS_para_part)),(9,.d (.v (.int .i64 (y1.length:Int)))),(10,.own 3 1 (p.1.map (cI .i64))),(11,.own 3 1 (p.2.1.map (cI .i64))),(12,.d (.v (.int .i64 v1))),(13,.d (.v (.int .i64 p.2.2)))]) ((v7.set v1.toNat (-1:Int)),v8,IntKind.i64.wrap (v1+(1:Int)))) (by show _=_; kernel_rfl) ?_
          refine T_block ?_
          refine T_loopF (ι:=(List Int)×(List Int)×Int) (fun (p:(List Int)×(List Int)×Int)=>[(3,.box [.d (.v (.int .i64 a1.f0)),.d (.v (.int .i64 a1.f1)),.d (.v (.int .i64 a1.f2)),.d (.v (.int .i64 a1.f3)),.d (.v (.int .i64 a1.f4)),.d (.v (.int .i64 a1.f5))]),(8,.own 75 4 (y1.map cS_para_part)),(9,.d (.v (.int .i64 (y1.length:Int)))),(10,.own 3 1 (p.1.map (cI .i64))),(11,.own 3 1 (p.2.1.map (cI .i64))),(12,.d (.v (.int .i64 v1))),(13,.d (.v (.int .i64 p.2.2)))]) (fun n p=>para_Break_L2 F a1 y1 v1 n p.1 p.2.1 p.2.2=some s) (fun i hh=>by simp [para_Break_L2] at hh) (fun n p h=>?_) F ((v7.set v1.toNat (-1:Int)),v8,IntKind.i64.wrap (v1+(1:Int))) h
          obtain ⟨v2,v3,v4⟩:=p
          have h:para_Break_L2 F a1 y1 v1 (n+1) v2 v3 v4=some s:=h
          rw [para_Break_L2] at h
          refine T_seqk ?_
          refine T_reg [] [3,8,9,10,11,12,13,46] [(46,.d (.v (.bool (decide (v4≤(y1.length:Int))))))] [] 3 (by kernel_rfl) (trivial) ?_
          refine T_cond (decide (v4≤(y1.length:Int))) (by kernel_rfl) (fun hc=>?_) (fun hc=>?_)
          · have h:=cond_tt hc h
            refine T_skip fun a w hm=>then_norm (((?_:T Tryd.prog e 119 _ _ _) a w hm))
            refine T_joinc h (fun (p:(List Int)×(List Int))=>[(3,.box [.d (.v (.int .i64 a1.f0)),.d (.v (.int .i64 a1.f1)),.d (.v (.int .i64 a1.f2)),.d (.v (.int .i64 a1.f3)),.d (.v (.int .i64 a1.f4)),.d (.v (.int .i64 a1.f5))]),(8,.own 75 4 (y1.map cS_para_part)),(9,.d (.v (.int .i64 (y1.length:Int)))),(10,.own 3 1 (p.1.map (cI .i64))),(11,.own 3 1 (p.2.map (cI .i64))),(12,.d (.v (.int .i64 v1))),(13,.d (.v (.int .i64 v4)))]) (fun s h=>?_) (fun s h=>?_)
            · refine T_block ?_
              obtain ⟨y2,hy3,h⟩:=call_ok h
              refine T_reg [(4,{ res:=.tup [.d (.v (.int .i64 y2.1)),.d (.v (.bool y2.2))] })] [3,8,9,10,11,12,13,14,15] [(14,.d (.v (.int .i64 y2.1))),(15,.d (.v (.bool y2.2)))] [(4,ACall Tryd.prog 21 [.d (.sl 4 (y1.map cS_para_part)),.d (.v (.int .i64 v1)),.d (.v (.int .i64 v4)),.agg (cS_ParaShape a1)] [] (.tup [.d (.v (.int .i64 y2.1)),.d (.v (.bool y2.2))]) [])] 5 (by kernel_rfl) (para_cost_ok hy3) ?_
              refine T_seqk ?_
              obtain ⟨hp4,h⟩:=chk_ok h
              refine T_reg [(6,{ cs:=(cI .i64) (v2.getD v4.toNat 0) })] [3,8,9,10,11,12,13,14,65] [(65,.d (.v (.bool (bif (!y2.2) then true else (decide ((v2.getD v4.toNat 0) < (0:Int)))))))] [(3,((((!y2.2) == false) && true)=true→True)),(0,((((!y2.2) == false) && true)=true→True)),(0,((((!y2.2) == false) && true)=true→0≤v4∧v4 < (v2.map (cI .i64)).length)),(0,((((!y2.2) == false) && true)=true→(v2.map (cI .i64))[v4.toNat]? = some ((cI .i64) (v2.getD v4.toNat 0)))),(0,((((!y2.2) == false) && true)=true→True))] 1 (by kernel_rfl) (⟨(fun hg=>trivial),(fun hg=>trivial),(fun hg=>own_idx (cI .i64) (hp4 hg)),(fun hg=>(idx_ok (d:=0) (cI .i64) (hp4 hg)).2),(fun hg=>trivial)⟩) ?_
              refine T_cond (bif (!y2.2) then true else (decide ((v2.getD v4.toNat 0) < (0:Int)))) (by kernel_rfl) (fun hc=>?_) (fun hc=>?_)
              · have h:=cond_tt hc h
                obtain hs:=Option.some.inj h; subst hs
                refine T_exit fun a w hm=>then_exit (inBlock_exit (then_norm (hm.co (cs:=[.keep [3,8,9,10,11,12,13]]) (by show _=_; kernel_rfl))))
              · have h:=cond_ff hc h
                refine T_skip fun a w hm=>then_norm (((?_:T Tryd.prog e 119 _ _ _) a w hm))
                obtain ⟨hp5,h⟩:=chk_ok h
                refine T_reg [(4,{ cs:=(cI .i64) (v2.getD v4.toNat 0) })] [3,8,9,10,11,12,13,14] [(14,.d (.v (.int .i64 (IntKind.i64.wrap (y2.1+(v2.getD v4.toNat 0))))))] [(3,0≤v4∧v4 < (v2.map (cI .i64)).length),(0,(v2.map (cI .i64))[v4.toNat]? = some ((cI .i64) (v2.getD v4.toNat 0)))] 2 (by kernel_rfl) (⟨own_idx (cI .i64) hp5,(idx_ok (d:=0) (cI .i64) hp5).2⟩) ?_
                obtain ⟨hp6,h⟩:=chk_ok h
                obtain ⟨hp7,h⟩:=chk_ok h
                obtain ⟨z1,hz1,h⟩:=lett_ok h
                refine T_reg [(3,{ cs:=(cI .i64) (v2.getD v1.toNat 0) }),(10,{ cs:=(cI .i64) (v2.getD v1.toNat 0) }),(12,{ rw:=some (.d (.v (.bool z1))) })] [3,8,9,10,11,12,13,14,84] [(84,.d (.v (.bool z1)))] [(2,0≤v1∧v1 < (v2.map (cI .i64)).length),(0,(v2.map (cI .i64))[v1.toNat]? = some ((cI .i64) (v2.getD v1.toNat 0))),(2,((((decide ((v2.getD v1.toNat 0) < (0:Int))) == false) && true)=true→True)),(0,((((decide ((v2.getD v1.toNat 0) < (0:Int))) == false) && true)=true→True)),(0,((((decide ((v2.getD v1.toNat 0) < (0:Int))) == false) && true)=true→True)),(0,((((decide ((v2.getD v1.toNat 0) < (0:Int))) == false) && true)=true→0≤v1∧v1 < (v2.map (cI .i64)).length)),(0,((((decide ((v2.getD v1.toNat 0) < (0:Int))) == false) && true)=true→(v2.map (cI .i64))[v1.toNat]? = some ((cI .i64) (v2.getD v1.toNat 0)))),(0,((((decide ((v2.getD v1.toNat 0) < (0:Int))) == false) && true)=true→True)),(0,(True)∧AV.d (.v (.bool (bif (decide ((v2.getD v1.toNat 0) < (0:Int))) then true else (decide ((IntKind.i64.wrap (y2.1+(v2.getD v4.toNat 0)))≤(v2.getD v1.toNat 0))))))=.d (.v (.bool z1)))] 0 (by kernel_rfl) (⟨own_idx (cI .i64) hp6,(idx_ok (d:=0) (cI .i64) hp6).2,(fun hg=>trivial),(fun hg=>trivial),(fun hg=>trivial),(fun hg=>own_idx (cI .i64) (hp7 hg)),(fun hg=>(idx_ok (d:=0) (cI .i64) (hp7 hg)).2),(fun hg=>trivial),⟨trivial,(by subst hz1; rfl)⟩⟩) ?_
                refine T_cond z1 (by kernel_rfl) (fun hc=>?_) (fun hc=>?_)
                · have h:=cond_tt hc h
                  obtain ⟨hp8,h⟩:=chk_ok h
                  obtain ⟨hp9,h⟩:=chk_ok h
                  obtain hs:=Option.some.inj h; subst hs
                  refine T_reg_end [(7,{ cs:=(cI .i64) (v2.getD v1.toNat 0),es:=some ((v2.set v1.toNat (IntKind.i64.wrap (y2.1+(v2.getD v4.toNat 0)))).map (cI .i64)) }),(9,{ cs:=(cI .i64) (v3.getD v1.toNat 0),es:=some ((v3.set v1.toNat v4).map (cI .i64)) })] [3,8,9,10,11,12,13] [(10,.own 3 1 ((v2.set v1.toNat (IntKind.i64.wrap (y2.1+(v2.getD v4.toNat 0)))).map (cI .i64))),(11,.own 3 1 ((v3.set v1.toNat v4).map (cI .i64)))] [(6,0≤v1∧v1 < (v2.map (cI .i64)).length),(0,(v2.map (cI .i64))[v1.toNat]? = some ((cI .i64) (v2.getD v1.toNat 0))∧(v2.map (cI .i64)).set v1.toNat ((cI .i64) (IntKind.i64.wrap (y2.1+(v2.getD v4.toNat 0))))=((v2.set v1.toNat (IntKind.i64.wrap (y2.1+(v2.getD v4.toNat 0)))).map (cI .i64))),(0,0≤v1∧v1 < (v3.map (cI .i64)).length),(0,(v3.map (cI .i64))[v1.toNat]? = some ((cI .i64) (v3.getD v1.toNat 0))∧(v3.map (cI .i64)).set v1.toNat ((cI .i64) v4)=((v3.set v1.toNat v4).map (cI .i64)))] 0 (by kernel_rfl) (⟨own_idx (cI .i64) hp8,⟨(idx_ok (d:=0) (cI .i64) hp8).2,set_ok (cI .i64) rfl⟩,own_idx (cI .i64) hp9,⟨(idx_ok (d:=0) (cI .i64) hp9).2,set_ok (cI .i64) rfl⟩⟩) fun a w hm=>inBlock_norm (then_norm (hm.co (cs:=[.keep [3,8,9,10,11,12,13]]) (by show _=_; kernel_rfl)))
                · have h:=cond_ff hc h
                  obtain hs:=Option.some.inj h; subst hs
                  refine T_skip fun a w hm=>inBlock_norm (then_norm (hm.co (cs:=[.keep [3,8,9,10,11,12,13]]) (by show _=_; kernel_rfl)))
            · obtain ⟨v5,v6⟩:=s
              try dsimp only at h
              refine T_reg_end [] [3,8,9,10,11,12,13] [(13,.d (.v (.int .i64 (IntKind.i64.wrap (v4+(1:Int))))))] [] 3 (by kernel_rfl) (trivial) fun a w hm=>then_norm (⟨(v5,v6,IntKind.i64.wrap (v4+(1:Int))),h,hm.co (cs:=[.keep [3,8,9,10,11,12,13]]) (by show _=_; kernel_rfl)⟩)
          · have h:=cond_ff hc h
            obtain hs:=Option.some.inj h; subst hs
            refine T_exit fun a w hm=>then_exit (then_exit (inBlock_exit (then_norm (hm.co (cs:=[.keep [3,8,9,10,11,12]]) (by show _=_; kernel_rfl)))))
        · obtain ⟨v9,v10⟩:=s
          try dsimp only at h
          refine fun a w hm=>inBlock_norm (then_norm (((?_:T Tryd.prog e 119 _ _ _) a w hm)))
          refine T_reg_end [] [3,8,9,10,11,12] [(12,.d (.v (.int .i64 (IntKind.i64.wrap (v1 - (1:Int))))))] [] 3 (by kernel_rfl) (trivial) fun a w hm=>then_norm (⟨(v9,v10,IntKind.i64.wrap (v1 - (1:Int))),h,hm.co (cs:=[.keep [3,8,9,10,11,12]]) (by show _=_; kernel_rfl)⟩)
      · have h:=cond_ff hc h
        obtain hs:=Option.some.inj h; subst hs
        refine T_exit fun a w hm=>then_exit (then_exit (inBlock_exit (then_norm (hm.co (cs:=[.keep [3,8,9,10,11]]) (by show _=_; kernel_rfl)))))
    · obtain ⟨v14,v11⟩:=s
      try dsimp only at h
      refine fun a w hm=>then_norm (((?_:T Tryd.prog e 119 _ _ _) a w hm))
      refine T_seqk ?_
      obtain ⟨hp10,h⟩:=chk_ok h
      refine T_reg [(2,{ cs:=(cI .i64) (v14.getD (0:Int).toNat 0) })] [3,8,9,10,11,96] [(96,.d (.v (.bool (decide ((v14.getD (0:Int).toNat 0) < (0:Int))))))] [(1,0≤(0:Int)∧(0:Int) < (v14.map (cI .i64)).length),(0,(v14.map (cI .i64))[(0:Int).toNat]? = some ((cI .i64) (v14.getD (0:Int).toNat 0)))] 1 (by kernel_rfl) (⟨own_idx (cI .i64) hp10,(idx_ok (d:=0) (cI .i64) hp10).2⟩) ?_
      refine T_cond (decide ((v14.getD (0:Int).toNat 0) < (0:Int))) (by kernel_rfl) (fun hc=>?_) (fun hc=>?_)
      · have h:=cond_tt hc h
        refine T_reg [] [4,5,6] [(4,.own 43 4 ([].map cS_ParaLine)),(5,.d (.v (.int .i64 (0:Int)))),(6,.d (.v (.int .i64 (8:Int))))] [] 3 (by kernel_rfl) (trivial) ?_
        obtain hs:=Option.some.inj h; subst hs
        refine T_ret fun a w hm=>then_ret (T_return (fr':=[(4,.own 43 4 ([].map cS_ParaLine)),(5,.d (.v (.int .i64 (0:Int)))),(6,.d (.v (.int .i64 (8:Int))))]) [4,5,6] (by kernel_rfl) [.keep [4,5,6]] (by kernel_rfl) (by kernel_rfl) (by kernel_rfl) (by show _=_; kernel_rfl) (by exact trivial) a w hm)
      · have h:=cond_ff hc h
        refine T_skip fun a w hm=>then_norm (((?_:T Tryd.prog e 119 _ _ _) a w hm))
        refine T_reg [] [3,8,9,10,11,16] [(16,.own 43 4 ([].map cS_ParaLine))] [] 1 (by kernel_rfl) (trivial) ?_
        refine T_seqk ?_
        refine T_reg [] [3,8,9,10,11,16,17] [(17,.d (.v (.int .i64 (0:Int))))] [] 1 (by kernel_rfl) (trivial) ?_
        refine T_joinct h (fun (p:(List S_ParaLine))=>[(10,.own 3 1 (v14.map (cI .i64))),(16,.own 43 4 (p.map cS_ParaLine))]) (fun s h=>?_) (fun v15 h=>?_)
        · refine T_co [.thaw 8,.keep [3,8,9,10,11,16,17]] ((fun (p:(List S_ParaLine)×Int)=>[(3,.box [.d (.v (.int .i64 a1.f0)),.d (.v (.int .i64 a1.f1)),.d (.v (.int .i64 a1.f2)),.d (.v (.int .i64 a1.f3)),.d (.v (.int .i64 a1.f4)),.d (.v (.int .i64 a1.f5))]),(8,.d (.sl 4 (y1.map cS_para_part))),(9,.d (.v (.int .i64 (y1.length:Int)))),(10,.own 3 1 (v14.map (cI .i64))),(11,.own 3 1 (v11.map (cI .i64))),(16,.own 43 4 (p.1.map cS_ParaLine)),(17,.d (.v (.int .i64 p.2)))]) ([],(0:Int))) (by show _=_; kernel_rfl) ?_
          refine T_block ?_
          refine T_loopF (ι:=(List S_ParaLine)×Int) (fun (p:(List S_ParaLine)×Int)=>[(3,.box [.d (.v (.int .i64 a1.f0)),.d (.v (.int .i64 a1.f1)),.d (.v (.int .i64 a1.f2)),.d (.v (.int .i64 a1.f3)),.d (.v (.int .i64 a1.f4)),.d (.v (.int .i64 a1.f5))]),(8,.d (.sl 4 (y1.map cS_para_part))),(9,.d (.v (.int .i64 (y1.length:Int)))),(10,.own 3 1 (v14.map (cI .i64))),(11,.own 3 1 (v11.map (cI .i64))),(16,.own 43 4 (p.1.map cS_ParaLine)),(17,.d (.v (.int .i64 p.2)))]) (fun n p=>para_Break_L4 F a1 y1 v11 n p.1 p.2=some s) (fun i hh=>by simp [para_Break_L4] at hh) (fun n p h=>?_) F ([],(0:Int)) h
          obtain ⟨v12,v13⟩:=p
          have h:para_Break_L4 F a1 y1 v11 (n+1) v12 v13=some s:=h
          rw [para_Break_L4] at h
          refine T_seqk ?_
          refine T_reg [] [3,8,9,10,11,16,17,99] [(99,.d (.v (.bool (decide (v13 < (y1.length:Int))))))] [] 3 (by kernel_rfl) (trivial) ?_
          refine T_cond (decide (v13 < (y1.length:Int))) (by kernel_rfl) (fun hc=>?_) (fun hc=>?_)
          · have h:=cond_tt hc h
            refine T_skip fun a w hm=>then_norm (((?_:T Tryd.prog e 119 _ _ _) a w hm))
            refine T_seqk ?_
            refine T_block ?_
            obtain ⟨hp11,h⟩:=chk_ok h
            obtain ⟨y3,hy4,h⟩:=call_ok h
            obtain ⟨hp12,h⟩:=chk_ok h
            refine T_drawX_end mixed 1 (.take 0 (.take 1 (.take 2 (.take 3 (.take 4 (.take 5 (.take 6 (.take 7 (.all (.alt 8 (.all (.alt 9 (.all (.alt 10 (.take 11 .done) .stop)) .stop)) .stop)))))))))) ([0,0,0,0,0,24,32,0,198,256,769,2047],[0,0,0,0,0,24,32,0,198,256,513,1025]) 2303 [(6,{ cs:=(cI .i64) (v11.getD v13.toNat 0) }),(8,{ res:=.agg (cS_ParaLine y3) }),(9,{ es:=some (([y3]).map cS_ParaLine) }),(10,{ es:=some ((v12++([y3])).map cS_ParaLine) })] [3,8,9,10,11,16,17] [] [(3,.box [.d (.v (.int .i64 a1.f0)),.d (.v (.int .i64 a1.f1)),.d (.v (.int .i64 a1.f2)),.d (.v (.int .i64 a1.f3)),.d (.v (.int .i64 a1.f4)),.d (.v (.int .i64 a1.f5))]),(8,.d (.sl 4 (y1.map cS_para_part))),(9,.d (.v (.int .i64 (y1.length:Int)))),(10,.own 3 1 (v14.map (cI .i64))),(11,.own 3 1 (v11.map (cI .i64))),(16,.own 43 4 ((v12++([y3])).map cS_ParaLine)),(17,.d (.v (.int .i64 v13)))] ((fun (o5:Prop)=>fun (o6:Prop)=>fun (o8:Prop)=>fun (o9:Prop)=>fun (o10:Prop)=>[(5,o5),(0,o6),(1,o8),(0,o9),(0,o10)]) (0≤v13∧v13 < (v11.map (cI .i64)).length) ((v11.map (cI .i64))[v13.toNat]? = some ((cI .i64) (v11.getD v13.toNat 0))) (ACall Tryd.prog 22 [.d (.sl 4 (y1.map cS_para_part)),.d (.v (.int .i64 v13)),.d (.v (.int .i64 (v11.getD v13.toNat 0))),.agg (cS_ParaShape a1)] [] (.agg (cS_ParaLine y3)) []) ((([y3]).map cS_ParaLine)=(([y3]).map cS_ParaLine)) ((v12.map cS_ParaLine).length+(([y3]).map cS_ParaLine).length≤4294967296∧(v12.map cS_ParaLine)++(([y3]).map cS_ParaLine)=((v12++([y3])).map cS_ParaLine))) 1 (by kernel_rfl) (by kernel_rfl) (by kernel_rfl) (have p5:=own_idx (cI .i64) hp11; have p6:=(idx_ok (d:=0) (cI .i64) hp11).2; have p8:=para_line_ok hy4; have p9:=rfl; have p10:=app_ok cS_ParaLine hp12; ⟨p5,p6,p8,p9,p10⟩) fun a w hm=>inBlock_norm (then_norm (((?_:T Tryd.prog e 119 _ _ _) a w hm)))
            obtain ⟨hp13,h⟩:=chk_ok h
            refine T_reg_end [(3,{ cs:=(cI .i64) (v11.getD v13.toNat 0) })] [3,8,9,10,11,16,17] [(17,.d (.v (.int .i64 (v11.getD v13.toNat 0))))] [(2,0≤v13∧v13 < (v11.map (cI .i64)).length),(0,(v11.map (cI .i64))[v13.toNat]? = some ((cI .i64) (v11.getD v13.toNat 0)))] 1 (by kernel_rfl) (⟨own_idx (cI .i64) hp13,(idx_ok (d:=0) (cI .i64) hp13).2⟩) fun a w hm=>then_norm (⟨((v12++([y3])),(v11.getD v13.toNat 0)),h,hm.co (cs:=[.keep [3,8,9,10,11,16,17]]) (by show _=_; kernel_rfl)⟩)
          · have h:=cond_ff hc h
            obtain hs:=Option.some.inj h; subst hs
            refine T_exit fun a w hm=>then_exit (then_exit (inBlock_exit (then_norm (hm.co (cs:=[.keep [10,16]]) (by show _=_; kernel_rfl)))))
        · skip
          refine fun a w hm=>then_norm (((?_:T Tryd.prog e 119 _ _ _) a w hm))
          obtain ⟨hp14,h⟩:=chk_ok h
          refine T_draw mixed [(3,{ cs:=(cI .i64) (v14.getD (0:Int).toNat 0) })] [4,5,6,16] [] [(4,.vw (16,0)),(5,.d (.v (.int .i64 (v14.getD (0:Int).toNat 0)))),(6,.d (.v (.int .i64 (0:Int)))),(16,.own 43 4 (v15.map cS_ParaLine))] [(2,0≤(0:Int)∧(0:Int) < (v14.map (cI .i64)).length),(0,(v14.map (cI .i64))[(0:Int).toNat]? = some ((cI .i64) (v14.getD (0:Int).toNat 0)))] 3 (by kernel_rfl) (⟨own_idx (cI .i64) hp14,(idx_ok (d:=0) (cI .i64) hp14).2⟩) ?_
          obtain hs:=Option.some.inj h; subst hs
          refine T_ret fun a w hm=>T_return (fr':=[(4,.own 43 4 (v15.map cS_ParaLine)),(5,.d (.v (.int .i64 (v14.getD (0:Int).toNat 0)))),(6,.d (.v (.int .i64 (0:Int))))]) [4,5,6] (by kernel_rfl) [.claim 4,.keep [4,5,6]] (by kernel_rfl) (by kernel_rfl) (by kernel_rfl) (by show _=_; kernel_rfl) (by exact trivial) a w hm
theorem slices_Equal_int_ok {F:Nat} {a0:List Int} {a1:List Int} {r:Bool} (h:slices_Equal_int F a0 a1=some r):ACall Tryd.prog 9 [.d (.sl 1 (a0.map (cI .i64))),.d (.sl 1 (a1.map (cI .i64)))] [] (.d (.v (.bool r))) []:=by
  rw [slices_Equal_int] at h
  refine ACall.intro (N:=26) Tryd.func9 rfl rfl rfl rfl rfl fun e=>?_
  refine T_reg [] [0,1] [] [] 1 (by kernel_rfl) (trivial) ?_
  refine T_seqk ?_
  refine T_reg [(1,{ rw:=some (.d (.v (.int .i64 (a0.length:Int)))) }),(3,{ rw:=some (.d (.v (.int .i64 (a1.length:Int)))) })] [0,1,10] [(10,.d (.v (.bool ((a0.length:Int) != (a1.length:Int)))))] [(1,True∧AV.d (.v (.int .i64 ((a0.map (cI .i64)).length:Int)))=.d (.v (.int .i64 (a0.length:Int)))),(1,True∧AV.d (.v (.int .i64 ((a1.map (cI .i64)).length:Int)))=.d (.v (.int .i64 (a1.length:Int))))] 1 (by kernel_rfl) (⟨len_ok (cI .i64),len_ok (cI .i64)⟩) ?_
  refine T_cond ((a0.length:Int) != (a1.length:Int)) (by kernel_rfl) (fun hc=>?_) (fun hc=>?_)
  · have h:=cond_tt hc h
    refine T_reg [] [4] [(4,.d (.v (.bool false)))] [] 1 (by kernel_rfl) (trivial) ?_
    obtain hs:=Option.some.inj h; subst hs
    refine T_ret fun a w hm=>then_ret (T_return (fr':=[(4,.d (.v (.bool false)))]) [4] (by kernel_rfl) [.keep [4]] (by kernel_rfl) (by kernel_rfl) (by kernel_rfl) (by show _=_; kernel_rfl) (by exact trivial) a w hm)
  · have h:=cond_ff hc h
    refine T_skip fun a w hm=>then_norm (((?_:T Tryd.prog e 26 _ _ _) a w hm))
    refine T_seqk ?_
    refine T_reg [(1,{ rw:=some (.d (.v (.int .i64 (a0.length:Int)))) })] [0,1,12,13] [(12,.d (.v (.int .i64 (a0.length:Int)))),(13,.d (.v (.int .i64 (0:Int))))] [(1,True∧AV.d (.v (.int .i64 ((a0.map (cI .i64)).length:Int)))=.d (.v (.int .i64 (a0.length:Int))))] 1 (by kernel_rfl) (len_ok (cI .i64)) ?_
    refine T_joinEt h (fun (p:Unit)=>[]) (fun s h hk1=>?_) (fun s h=>?_)
    · refine T_co [.keep [0,1,12,13]] ((fun (p:Int)=>[(0,.d (.sl 1 (a0.map (cI .i64)))),(1,.d (.sl 1 (a1.map (cI .i64)))),(12,.d (.v (.int .i64 (a0.length:Int)))),(13,.d (.v (.int .i64 p)))]) (0:Int)) (by show _=_; kernel_rfl) ?_
      refine T_block ?_
      refine T_loopF (ι:=Int) (fun (p:Int)=>[(0,.d (.sl 1 (a0.map (cI .i64)))),(1,.d (.sl 1 (a1.map (cI .i64)))),(12,.d (.v (.int .i64 (a0.length:Int)))),(13,.d (.v (.int .i64 p)))]) (fun n p=>slices_Equal_int_L0 F a0 a1 n p=some s) (fun i hh=>by simp [slices_Equal_int_L0] at hh) (fun n v1 h=>?_) F (0:Int) h
      have h:slices_Equal_int_L0 F a0 a1 (n+1) v1=some s:=h
      rw [slices_Equal_int_L0] at h
      refine T_reg [] [0,1,12,13,14] [(14,.d (.v (.bool (decide (v1 < (a0.length:Int))))))] [] 1 (by kernel_rfl) (trivial) ?_
      refine T_seqk ?_
      refine T_cond (decide (v1 < (a0.length:Int))) (by kernel_rfl) (fun hc=>?_) (fun hc=>?_)
      · have h:=cond_tt hc h
        refine T_skip fun a w hm=>then_norm (((?_:T Tryd.prog e 26 _ _ _) a w hm))
        refine T_seqk ?_
        refine T_block ?_
        refine T_reg [] [0,1,5,12,13] [(5,.d (.v (.int .i64 v1)))] [] 2 (by kernel_rfl) (trivial) ?_
        obtain ⟨hp1,h⟩:=chk_ok h
        obtain ⟨hp2,h⟩:=chk_ok h
        refine T_draw mixed [(2,{ cs:=(cI .i64) (a0.getD v1.toNat 0) }),(6,{ cs:=(cI .i64) (a1.getD v1.toNat 0) })] [0,1,12,13,24] [] [(0,.d (.sl 1 (a0.map (cI .i64)))),(1,.d (.sl 1 (a1.map (cI .i64)))),(12,.d (.v (.int .i64 (a0.length:Int)))),(13,.d (.v (.int .i64 v1))),(24,.d (.v (.bool ((a0.getD v1.toNat 0) != (a1.getD v1.toNat 0)))))] [(2,0≤v1∧(a0.map (cI .i64))[v1.toNat]? = some ((cI .i64) (a0.getD v1.toNat 0))),(3,0≤v1∧(a1.map (cI .i64))[v1.toNat]? = some ((cI .i64) (a1.getD v1.toNat 0)))] 2 (by kernel_rfl) (⟨idx_ok (d:=0) (cI .i64) hp1,idx_ok (d:=0) (cI .i64) hp2⟩) ?_
        refine T_cond ((a0.getD v1.toNat 0) != (a1.getD v1.toNat 0)) (by kernel_rfl) (fun hc=>?_) (fun hc=>?_)
        · have h:=cond_tt hc h
          refine T_reg [] [4] [(4,.d (.v (.bool false)))] [] 1 (by kernel_rfl) (trivial) ?_
          obtain hs:=Option.some.inj h; subst hs
          have h:=callE_esc hk1
          obtain hs:=Option.some.inj h; subst hs
          refine T_ret fun a w hm=>inBlock_ret (then_ret (then_ret (inBlock_ret (then_ret (then_ret (T_return (fr':=[(4,.d (.v (.bool false)))]) [4] (by kernel_rfl) [.keep [4]] (by kernel_rfl) (by kernel_rfl) (by kernel_rfl) (by show _=_; kernel_rfl) (by exact trivial) a w hm))))))
        · have h:=cond_ff hc h
          refine T_skip fun a w hm=>inBlock_norm (then_norm (((?_:T Tryd.prog e 26 _ _ _) a w hm)))
          refine T_reg_end [] [0,1,12,13] [(13,.d (.v (.int .i64 (IntKind.i64.wrap (v1+(1:Int))))))] [] 2 (by kernel_rfl) (trivial) fun a w hm=>then_norm (⟨IntKind.i64.wrap (v1+(1:Int)),h,hm.co (cs:=[.keep [0,1,12,13]]) (by show _=_; kernel_rfl)⟩)
      · have h:=cond_ff hc h
        obtain hs:=Option.some.inj h; subst hs
        refine T_exit fun a w hm=>then_exit (then_exit (inBlock_exit (then_norm (⟨_,rfl,hm.co (cs:=[.keep []]) (by show _=_; kernel_rfl)⟩))))
    · skip
      refine fun a w hm=>then_norm (((?_:T Tryd.prog e 26 _ _ _) a w hm))
      refine T_reg [] [4] [(4,.d (.v (.bool true)))] [] 1 (by kernel_rfl) (trivial) ?_
      obtain hs:=Option.some.inj h; subst hs
      refine T_ret fun a w hm=>T_return (fr':=[(4,.d (.v (.bool true)))]) [4] (by kernel_rfl) [.keep [4]] (by kernel_rfl) (by kernel_rfl) (by kernel_rfl) (by show _=_; kernel_rfl) (by exact trivial) a w hm
theorem law3_paraFact_ok {F:Nat}  {r:Bool} (h:law3_paraFact F  = some r):ACall Tryd.prog 6 [] [] (.d (.v (.bool r))) []:=by
  rw [law3_paraFact] at h
  refine ACall.intro (N:=59) Tryd.func6 rfl rfl rfl rfl rfl fun e=>?_
  refine T_reg [] [] [] [] 1 (by kernel_rfl) (trivial) ?_
  obtain ⟨y1,hy1,h⟩:=call_ok h
  refine T_reg [(0,{ es:=some (([([98,49,99]:List UInt8)]).map cS) }),(1,{ frz:=[(8,0)],res:=.tup [.d (.sl 1 (y1.1.map (cI .i64))),.d (.v (.int .i64 y1.2))] })] [1,2] [(1,.d (.sl 1 (y1.1.map (cI .i64)))),(2,.d (.v (.int .i64 y1.2)))] [(0,(([([98,49,99]:List UInt8)]).map cS)=(([([98,49,99]:List UInt8)]).map cS)),(0,ACall Tryd.prog 7 [.d (.str ([97,98,99,100,101]:List UInt8)),.d (.sl 1 (([([98,49,99]:List UInt8)]).map cS))] [] (.tup [.d (.sl 1 (y1.1.map (cI .i64))),.d (.v (.int .i64 y1.2))]) [])] 5 (by kernel_rfl) (⟨rfl,para_Hyphens_ok hy1⟩) ?_
  refine T_region [(0,{ es:=some (([(10:Int)]).map (cI .i64)) }),(1,{ frz:=[(12,0)],take:=[0] })] [1,2,3] [.nilc 3 1 3 1,.keep [1,2,3]] [(1,.d (.sl 1 (y1.1.map (cI .i64)))),(2,.d (.v (.int .i64 y1.2))),(3,.box [.d (.sl 1 (([(10:Int)]).map (cI .i64))),.own 3 1 ([].map (cI .i64))])] [(0,(([(10:Int)]).map (cI .i64))=(([(10:Int)]).map (cI .i64)))] 3 (by kernel_rfl) (rfl) ?_
  obtain ⟨y2,hy2,h⟩:=call_ok h
  refine T_reg [(0,{ frz:=[(3,2)] }),(3,{ es:=some (([(S_ParaWord.mk ([(10:Int)]) []),(S_ParaWord.mk ([(10:Int)]) []),(S_ParaWord.mk ([(10:Int)]) [])]).map cS_ParaWord) }),(5,{ frz:=[(18,0)],res:=.tup [.own 43 4 (y2.1.map cS_ParaLine),.d (.v (.int .i64 y2.2.1)),.d (.v (.int .i64 y2.2.2))] })] [1,2,4,5,6] [(4,.own 43 4 (y2.1.map cS_ParaLine)),(5,.d (.v (.int .i64 y2.2.1))),(6,.d (.v (.int .i64 y2.2.2)))] [(3,(([(S_ParaWord.mk ([(10:Int)]) []),(S_ParaWord.mk ([(10:Int)]) []),(S_ParaWord.mk ([(10:Int)]) [])]).map cS_ParaWord)=(([(S_ParaWord.mk ([(10:Int)]) []),(S_ParaWord.mk ([(10:Int)]) []),(S_ParaWord.mk ([(10:Int)]) [])]).map cS_ParaWord)),(1,ACall Tryd.prog 13 [.d (.sl 2 (([(S_ParaWord.mk ([(10:Int)]) []),(S_ParaWord.mk ([(10:Int)]) []),(S_ParaWord.mk ([(10:Int)]) [])]).map cS_ParaWord)),.agg (cS_ParaShape (S_ParaShape.mk (25:Int) (5:Int) (3:Int) (9:Int) 0 0))] [] (.tup [.own 43 4 (y2.1.map cS_ParaLine),.d (.v (.int .i64 y2.2.1)),.d (.v (.int .i64 y2.2.2))]) [])] 7 (by kernel_rfl) (⟨rfl,para_Break_ok hy2⟩) ?_
  obtain ⟨y3,hy3,h⟩:=call_ok h
  obtain ⟨z1,hz1,h⟩:=lett_ok h
  obtain ⟨hp1,h⟩:=chk_ok h
  obtain ⟨z2,hz2,h⟩:=lett_ok h
  obtain ⟨hp2,h⟩:=chk_ok h
  obtain ⟨y4,hy4,h⟩:=call_ok h
  refine T_reg [(8,{ es:=some (([(2:Int)]).map (cI .i64)) }),(9,{ res:=.d (.v (.bool y3)) }),(14,{ rw:=some (.d (.v (.bool z1))) }),(17,{ rw:=some (.d (.v (.int .i64 (y2.1.length:Int)))) }),(24,{ cs:=cS_ParaLine (y2.1.getD (0:Int).toNat (S_ParaLine.mk 0 0 false [])) }),(26,{ rw:=some (.d (.v (.bool z2))) }),(31,{ cs:=cS_ParaLine (y2.1.getD (0:Int).toNat (S_ParaLine.mk 0 0 false [])) }),(32,{ es:=some (([(5:Int)]).map (cI .i64)) }),(33,{ res:=.d (.v (.bool y4)) })] [0] [(0,.d (.v (.bool (bif z2 then y4 else false))))] [(3,((((y1.2 == (0:Int)) == true) && true)=true→True)),(0,((((y1.2 == (0:Int)) == true) && true)=true→True)),(2,((((bif (y1.2 == (0:Int)) then (y2.2.2 == (0:Int)) else false) == true) && true)=true→True)),(0,((((bif (y1.2 == (0:Int)) then (y2.2.2 == (0:Int)) else false) == true) && true)=true→(([(2:Int)]).map (cI .i64))=(([(2:Int)]).map (cI .i64)))),(0,((((bif (y1.2 == (0:Int)) then (y2.2.2 == (0:Int)) else false) == true) && true)=true→ACall Tryd.prog 9 [.d (.sl 1 (y1.1.map (cI .i64))),.d (.sl 1 (([(2:Int)]).map (cI .i64)))] [] (.d (.v (.bool y3))) [])),(2,((((bif (bif (y1.2 == (0:Int)) then (y2.2.2 == (0:Int)) else false) then y3 else false) == true) && true)=true→True)),(0,((((bif (bif (y1.2 == (0:Int)) then (y2.2.2 == (0:Int)) else false) then y3 else false) == true) && true)=true→True)),(0,(True)∧AV.d (.v (.bool (bif (bif (bif (y1.2 == (0:Int)) then (y2.2.2 == (0:Int)) else false) then y3 else false) then (y2.2.1 == (0:Int)) else false)))=.d (.v (.bool z1))),(1,(((z1 == true) && true)=true→True)),(0,(((z1 == true) && true)=true→True∧AV.d (.v (.int .i64 ((y2.1.map cS_ParaLine).length:Int)))=.d (.v (.int .i64 (y2.1.length:Int))))),(0,(((z1 == true) && true)=true→True)),(2,((((bif z1 then ((y2.1.length:Int) == (2:Int)) else false) == true) && true)=true→True)),(0,((((bif z1 then ((y2.1.length:Int) == (2:Int)) else false) == true) && true)=true→0≤(0:Int)∧(0:Int) < (y2.1.map cS_ParaLine).length)),(0,((((bif z1 then ((y2.1.length:Int) == (2:Int)) else false) == true) && true)=true→True)),(0,((((bif z1 then ((y2.1.length:Int) == (2:Int)) else false) == true) && true)=true→(y2.1.map cS_ParaLine)[(0:Int).toNat]? = some (cS_ParaLine (y2.1.getD (0:Int).toNat (S_ParaLine.mk 0 0 false []))))),(0,((((bif z1 then ((y2.1.length:Int) == (2:Int)) else false) == true) && true)=true→True)),(0,(True)∧AV.d (.v (.bool (bif (bif z1 then ((y2.1.length:Int) == (2:Int)) else false) then (((y2.1.getD (0:Int).toNat (S_ParaLine.mk 0 0 false [])).f1) == (2:Int)) else false)))=.d (.v (.bool z2))),(1,(((z2 == true) && true)=true→True)),(0,(((z2 == true) && true)=true→0≤(0:Int)∧(0:Int) < (y2.1.map cS_ParaLine).length)),(0,(((z2 == true) && true)=true→True)),(0,(((z2 == true) && true)=true→(y2.1.map cS_ParaLine)[(0:Int).toNat]? = some (cS_ParaLine (y2.1.getD (0:Int).toNat (S_ParaLine.mk 0 0 false []))))),(0,(((z2 == true) && true)=true→(([(5:Int)]).map (cI .i64))=(([(5:Int)]).map (cI .i64)))),(0,(((z2 == true) && true)=true→ACall Tryd.prog 9 [.d (.sl 1 (((y2.1.getD (0:Int).toNat (S_ParaLine.mk 0 0 false [])).f3).map (cI .i64))),.d (.sl 1 (([(5:Int)]).map (cI .i64)))] [] (.d (.v (.bool y4))) []))] 2 (by kernel_rfl) (⟨(fun hg=>trivial),(fun hg=>trivial),(fun hg=>trivial),(fun hg=>rfl),(fun hg=>slices_Equal_int_ok (gcall_ok hg hy3)),(fun hg=>trivial),(fun hg=>trivial),⟨trivial,(by subst hz1; rfl)⟩,(fun hg=>trivial),(fun hg=>len_ok cS_ParaLine),(fun hg=>trivial),(fun hg=>trivial),(fun hg=>own_idx cS_ParaLine (hp1 hg)),(fun hg=>trivial),(fun hg=>(idx_ok (d:=(S_ParaLine.mk 0 0 false [])) cS_ParaLine (hp1 hg)).2),(fun hg=>trivial),⟨trivial,(by subst hz2; rfl)⟩,(fun hg=>trivial),(fun hg=>own_idx cS_ParaLine (hp2 hg)),(fun hg=>trivial),(fun hg=>(idx_ok (d:=(S_ParaLine.mk 0 0 false [])) cS_ParaLine (hp2 hg)).2),(fun hg=>rfl),(fun hg=>slices_Equal_int_ok (gcall_ok hg hy4))⟩) ?_
  obtain hs:=Option.some.inj h; subst hs
  refine T_ret fun a w hm=>T_return (fr':=[(0,.d (.v (.bool (bif z2 then y4 else false))))]) [0] (by kernel_rfl) [.keep [0]] (by kernel_rfl) (by kernel_rfl) (by kernel_rfl) (by show _=_; kernel_rfl) (by exact trivial) a w hm
theorem ref3_bare_ok {F:Nat} {a0:List UInt8} {r:(List UInt8)×(List Int)×Bool} (h:ref3_bare F a0=some r):ACall Tryd.prog 18 [.d (.str a0)] [] (.tup [.d (.str r.1),.own 3 1 (r.2.1.map (cI .i64)),.d (.v (.bool r.2.2))]) []:=by
  rw [ref3_bare] at h
  refine ACall.intro (N:=88) Tryd.func18 rfl rfl rfl rfl rfl fun e=>?_
  refine T_reg [] [0] [] [] 3 (by kernel_rfl) (trivial) ?_
  refine T_reg [] [0,5,6] [(5,.d (.str [])),(6,.d (.v (.bool false)))] [] 2 (by kernel_rfl) (trivial) ?_
  refine T_reg [(0,{ es:=some (([(0:Int)]).map (cI .i64)) })] [0,5,6,7] [(7,.own 3 1 (([(0:Int)]).map (cI .i64)))] [(0,(([(0:Int)]).map (cI .i64))=(([(0:Int)]).map (cI .i64)))] 1 (by kernel_rfl) (rfl) ?_
  refine T_seqk ?_
  refine T_reg [] [0,5,6,7,13,14] [(13,.d (.v (.int .i64 (a0.length:Int)))),(14,.d (.v (.int .i64 (0:Int))))] [] 3 (by kernel_rfl) (trivial) ?_
  refine T_joinEt h (fun (p:(List UInt8)×Bool×(List Int))=>[(0,.d (.str a0)),(5,.d (.str p.1)),(6,.d (.v (.bool p.2.1))),(7,.own 3 1 (p.2.2.map (cI .i64)))]) (fun s h hk1=>?_) (fun s h=>?_)
  · refine T_co [.keep [0,5,6,7,13,14]] ((fun (p:(List UInt8)×Bool×(List Int)×Int)=>[(0,.d (.str a0)),(5,.d (.str p.1)),(6,.d (.v (.bool p.2.1))),(7,.own 3 1 (p.2.2.1.map (cI .i64))),(13,.d (.v (.int .i64 (a0.length:Int)))),(14,.d (.v (.int .i64 p.2.2.2)))]) ([],false,[(0:Int)],(0:Int))) (by show _=_; kernel_rfl) ?_
    refine T_block ?_
    refine T_loopF (ι:=(List UInt8)×Bool×(List Int)×Int) (fun (p:(List UInt8)×Bool×(List Int)×Int)=>[(0,.d (.str a0)),(5,.d (.str p.1)),(6,.d (.v (.bool p.2.1))),(7,.own 3 1 (p.2.2.1.map (cI .i64))),(13,.d (.v (.int .i64 (a0.length:Int)))),(14,.d (.v (.int .i64 p.2.2.2)))]) (fun n p=>ref3_bare_L0 F a0 n p.1 p.2.1 p.2.2.1 p.2.2.2=some s) (fun i hh=>by simp [ref3_bare_L0] at hh) (fun n p h=>?_) F ([],false,[(0:Int)],(0:Int)) h
    obtain ⟨v1,v2,v3,v4⟩:=p
    have h:ref3_bare_L0 F a0 (n+1) v1 v2 v3 v4=some s:=h
    rw [ref3_bare_L0] at h
    refine T_reg [] [0,5,6,7,13,14,15] [(15,.d (.v (.bool (decide (v4 < (a0.length:Int))))))] [] 1 (by kernel_rfl) (trivial) ?_
    refine T_seqk ?_
    refine T_cond (decide (v4 < (a0.length:Int))) (by kernel_rfl) (fun hc=>?_) (fun hc=>?_)
    · have h:=cond_tt hc h
      refine T_skip fun a w hm=>then_norm (((?_:T Tryd.prog e 88 _ _ _) a w hm))
      refine T_joinE h (fun (p:(List UInt8)×Bool×(List Int))=>[(0,.d (.str a0)),(5,.d (.str p.1)),(6,.d (.v (.bool p.2.1))),(7,.own 3 1 (p.2.2.map (cI .i64))),(13,.d (.v (.int .i64 (a0.length:Int)))),(14,.d (.v (.int .i64 v4)))]) (fun s h hk2=>?_) (fun s h=>?_)
      · refine T_block ?_
        refine T_reg [] [0,5,6,7,8,13,14] [(8,.d (.v (.int .i64 v4)))] [] 2 (by kernel_rfl) (trivial) ?_
        obtain ⟨hp1,h⟩:=chk_ok h
        refine T_reg [] [0,5,6,7,8,9,13,14] [(9,.d (.v (.int .u8 ((a0.getD v4.toNat 0).toNat:Int))))] [(2,0≤v4∧v4 < a0.length)] 1 (by kernel_rfl) (hp1) ?_
        refine T_seqk ?_
        obtain ⟨z1,hz1,h⟩:=lett_ok h
        refine T_reg [(5,{ rw:=some (.d (.v (.bool z1))) })] [0,5,6,7,8,9,13,14,25] [(25,.d (.v (.bool z1)))] [(3,((((decide (((a0.getD v4.toNat 0).toNat:Int) ≥ (49:Int))) == true) && true)=true→True)),(0,((((decide (((a0.getD v4.toNat 0).toNat:Int) ≥ (49:Int))) == true) && true)=true→True)),(0,(True)∧AV.d (.v (.bool (bif (decide (((a0.getD v4.toNat 0).toNat:Int) ≥ (49:Int))) then (decide (((a0.getD v4.toNat 0).toNat:Int)≤(57:Int))) else false)))=.d (.v (.bool z1)))] 0 (by kernel_rfl) (⟨(fun hg=>trivial),(fun hg=>trivial),⟨trivial,(by subst hz1; rfl)⟩⟩) ?_
        refine T_cond z1 (by kernel_rfl) (fun hc=>?_) (fun hc=>?_)
        · have h:=cond_tt hc h
          refine T_seqk ?_
          obtain ⟨hp2,h⟩:=chk_ok h
          refine T_reg [(2,{ rw:=some (.d (.v (.int .i64 (v3.length:Int)))) }),(5,{ cs:=(cI .i64) (v3.getD (IntKind.i64.wrap ((v3.length:Int) - (1:Int))).toNat 0) })] [0,5,6,7,9,13,14,32] [(32,.d (.v (.bool ((v3.getD (IntKind.i64.wrap ((v3.length:Int) - (1:Int))).toNat 0) != (0:Int)))))] [(2,True∧AV.d (.v (.int .i64 ((v3.map (cI .i64)).length:Int)))=.d (.v (.int .i64 (v3.length:Int)))),(1,0≤(IntKind.i64.wrap ((v3.length:Int) - (1:Int)))∧(IntKind.i64.wrap ((v3.length:Int) - (1:Int))) < (v3.map (cI .i64)).length),(0,(v3.map (cI .i64))[(IntKind.i64.wrap ((v3.length:Int) - (1:Int))).toNat]? = some ((cI .i64) (v3.getD (IntKind.i64.wrap ((v3.length:Int) - (1:Int))).toNat 0)))] 1 (by kernel_rfl) (⟨len_ok (cI .i64),own_idx (cI .i64) hp2,(idx_ok (d:=0) (cI .i64) hp2).2⟩) ?_
          refine T_cond ((v3.getD (IntKind.i64.wrap ((v3.length:Int) - (1:Int))).toNat 0) != (0:Int)) (by kernel_rfl) (fun hc=>?_) (fun hc=>?_)
          · have h:=cond_tt hc h
            refine T_reg [] [2,3,4] [(2,.d (.str [])),(3,.own 3 1 ([].map (cI .i64))),(4,.d (.v (.bool false)))] [] 3 (by kernel_rfl) (trivial) ?_
            obtain hs:=Option.some.inj h; subst hs
            have h:=callE_esc hk2
            obtain hs:=Option.some.inj h; subst hs
            have h:=callE_esc hk1
            obtain hs:=Option.some.inj h; subst hs
            refine T_ret fun a w hm=>then_ret (then_ret (inBlock_ret (then_ret (then_ret (inBlock_ret (then_ret (then_ret (T_return (fr':=[(2,.d (.str [])),(3,.own 3 1 ([].map (cI .i64))),(4,.d (.v (.bool false)))]) [2,3,4] (by kernel_rfl) [.keep [2,3,4]] (by kernel_rfl) (by kernel_rfl) (by kernel_rfl) (by show _=_; kernel_rfl) (by exact trivial) a w hm))))))))
          · have h:=cond_ff hc h
            refine T_skip fun a w hm=>then_norm (((?_:T Tryd.prog e 88 _ _ _) a w hm))
            obtain ⟨hp3,h⟩:=chk_ok h
            refine T_reg [(2,{ rw:=some (.d (.v (.int .i64 (v3.length:Int)))) }),(8,{ cs:=(cI .i64) (v3.getD (IntKind.i64.wrap ((v3.length:Int) - (1:Int))).toNat 0),es:=some ((v3.set (IntKind.i64.wrap ((v3.length:Int) - (1:Int))).toNat (IntKind.i64.wrap ((IntKind.i64.wrap ((a0.getD v4.toNat 0).toNat:Int)) - (48:Int)))).map (cI .i64)) })] [0,5,6,7,13,14] [(7,.own 3 1 ((v3.set (IntKind.i64.wrap ((v3.length:Int) - (1:Int))).toNat (IntKind.i64.wrap ((IntKind.i64.wrap ((a0.getD v4.toNat 0).toNat:Int)) - (48:Int)))).map (cI .i64)))] [(2,True∧AV.d (.v (.int .i64 ((v3.map (cI .i64)).length:Int)))=.d (.v (.int .i64 (v3.length:Int)))),(4,0≤(IntKind.i64.wrap ((v3.length:Int) - (1:Int)))∧(IntKind.i64.wrap ((v3.length:Int) - (1:Int))) < (v3.map (cI .i64)).length),(0,(v3.map (cI .i64))[(IntKind.i64.wrap ((v3.length:Int) - (1:Int))).toNat]? = some ((cI .i64) (v3.getD (IntKind.i64.wrap ((v3.length:Int) - (1:Int))).toNat 0))∧(v3.map (cI .i64)).set (IntKind.i64.wrap ((v3.length:Int) - (1:Int))).toNat ((cI .i64) (IntKind.i64.wrap ((IntKind.i64.wrap ((a0.getD v4.toNat 0).toNat:Int)) - (48:Int))))=((v3.set (IntKind.i64.wrap ((v3.length:Int) - (1:Int))).toNat (IntKind.i64.wrap ((IntKind.i64.wrap ((a0.getD v4.toNat 0).toNat:Int)) - (48:Int)))).map (cI .i64)))] 0 (by kernel_rfl) (⟨len_ok (cI .i64),own_idx (cI .i64) hp3,⟨(idx_ok (d:=0) (cI .i64) hp3).2,set_ok (cI .i64) rfl⟩⟩) ?_
            obtain hs:=Option.some.inj h; subst hs
            refine T_exit fun a w hm=>then_exit (inBlock_exit (then_norm (⟨_,rfl,hm.co (cs:=[.keep [0,5,6,7,13,14]]) (by show _=_; kernel_rfl)⟩)))
        · have h:=cond_ff hc h
          refine T_skip fun a w hm=>then_norm (((?_:T Tryd.prog e 88 _ _ _) a w hm))
          obtain ⟨z2,hz2,h⟩:=lett_ok h
          refine T_reg [(12,{ rw:=some (.d (.v (.bool z2))) })] [0,5,6,7,8,9,10,13,14] [(10,.d (.v (.bool z2)))] [(3,((((((a0.getD v4.toNat 0).toNat:Int) == (46:Int)) == true) && true)=true→True)),(0,((((((a0.getD v4.toNat 0).toNat:Int) == (46:Int)) == true) && true)=true→True)),(0,((((((a0.getD v4.toNat 0).toNat:Int) == (46:Int)) == true) && true)=true→True)),(0,((((v1 == []) == false) && (((((a0.getD v4.toNat 0).toNat:Int) == (46:Int)) == true) && true))=true→True)),(0,((((v1 == []) == false) && (((((a0.getD v4.toNat 0).toNat:Int) == (46:Int)) == true) && true))=true→True)),(0,((((v1 == []) == false) && (((((a0.getD v4.toNat 0).toNat:Int) == (46:Int)) == true) && true))=true→True)),(0,((((v1 == []) == false) && (((((a0.getD v4.toNat 0).toNat:Int) == (46:Int)) == true) && true))=true→True)),(0,((((v1 == []) == false) && (((((a0.getD v4.toNat 0).toNat:Int) == (46:Int)) == true) && true))=true→True)),(0,((((((a0.getD v4.toNat 0).toNat:Int) == (46:Int)) == true) && true)=true→True)),(0,(True)∧AV.d (.v (.bool (bif (((a0.getD v4.toNat 0).toNat:Int) == (46:Int)) then (bif (v1 == []) then true else (v4 == (IntKind.i64.wrap ((a0.length:Int) - (1:Int))))) else false)))=.d (.v (.bool z2)))] 1 (by kernel_rfl) (⟨(fun hg=>trivial),(fun hg=>trivial),(fun hg=>trivial),(fun hg=>trivial),(fun hg=>trivial),(fun hg=>trivial),(fun hg=>trivial),(fun hg=>trivial),(fun hg=>trivial),⟨trivial,(by subst hz2; rfl)⟩⟩) ?_
          refine T_seqk ?_
          obtain ⟨z3,hz3,h⟩:=lett_ok h
          refine T_reg [(8,{ rw:=some (.d (.v (.bool z3))) })] [0,5,6,7,8,9,13,14,63] [(63,.d (.v (.bool (bif (!z2) then z3 else false))))] [(3,((((!z2) == true) && true)=true→True)),(0,((((!z2) == true) && true)=true→True)),(0,((((!z2) == true) && true)=true→True)),(0,((((decide (((a0.getD v4.toNat 0).toNat:Int) < (97:Int))) == false) && (((!z2) == true) && true))=true→True)),(0,((((decide (((a0.getD v4.toNat 0).toNat:Int) < (97:Int))) == false) && (((!z2) == true) && true))=true→True)),(0,((((!z2) == true) && true)=true→(True)∧AV.d (.v (.bool (bif (decide (((a0.getD v4.toNat 0).toNat:Int) < (97:Int))) then true else (decide (((a0.getD v4.toNat 0).toNat:Int) > (122:Int))))))=.d (.v (.bool z3))))] 1 (by kernel_rfl) (⟨(fun hg=>trivial),(fun hg=>trivial),(fun hg=>trivial),(fun hg=>trivial),(fun hg=>trivial),(fun hg=>⟨trivial,(by subst hz3; rfl)⟩)⟩) ?_
          refine T_cond (bif (!z2) then z3 else false) (by kernel_rfl) (fun hc=>?_) (fun hc=>?_)
          · have h:=cond_tt hc h
            refine T_reg [] [2,3,4] [(2,.d (.str [])),(3,.own 3 1 ([].map (cI .i64))),(4,.d (.v (.bool false)))] [] 3 (by kernel_rfl) (trivial) ?_
            obtain hs:=Option.some.inj h; subst hs
            have h:=callE_esc hk2
            obtain hs:=Option.some.inj h; subst hs
            have h:=callE_esc hk1
            obtain hs:=Option.some.inj h; subst hs
            refine T_ret fun a w hm=>then_ret (inBlock_ret (then_ret (then_ret (inBlock_ret (then_ret (then_ret (T_return (fr':=[(2,.d (.str [])),(3,.own 3 1 ([].map (cI .i64))),(4,.d (.v (.bool false)))]) [2,3,4] (by kernel_rfl) [.keep [2,3,4]] (by kernel_rfl) (by kernel_rfl) (by kernel_rfl) (by show _=_; kernel_rfl) (by exact trivial) a w hm)))))))
          · have h:=cond_ff hc h
            refine T_skip fun a w hm=>then_norm (((?_:T Tryd.prog e 88 _ _ _) a w hm))
            refine T_reg [] [0,5,6,7,8,13,14] [(6,.d (.v (.bool (bif v2 then true else (((a0.getD v4.toNat 0).toNat:Int) != (46:Int))))))] [(2,(((v2 == false) && true)=true→True)),(0,(((v2 == false) && true)=true→True))] 2 (by kernel_rfl) (⟨(fun hg=>trivial),(fun hg=>trivial)⟩) ?_
            obtain ⟨hp4,h⟩:=chk_ok h
            obtain ⟨hp5,h⟩:=chk_ok h
            refine T_reg [] [0,5,6,7,13,14] [(5,.d (.str (v1++((a0.drop v4.toNat).take ((IntKind.i64.wrap (v4+(1:Int))).toNat - v4.toNat)))))] [(5,0≤v4∧v4≤(IntKind.i64.wrap (v4+(1:Int)))∧(IntKind.i64.wrap (v4+(1:Int)))≤(a0.length:Int)),(0,v1.length+((a0.drop v4.toNat).take ((IntKind.i64.wrap (v4+(1:Int))).toNat - v4.toNat)).length≤9223372036854775807)] 1 (by kernel_rfl) (⟨hp4,hp5⟩) ?_
            obtain ⟨hp6,h⟩:=chk_ok h
            obtain hs:=Option.some.inj h; subst hs
            refine T_reg_end [(1,{ es:=some (([(0:Int)]).map (cI .i64)) }),(2,{ es:=some ((v3++([(0:Int)])).map (cI .i64)) })] [0,5,6,7,13,14] [(7,.own 3 1 ((v3++([(0:Int)])).map (cI .i64)))] [(1,(([(0:Int)]).map (cI .i64))=(([(0:Int)]).map (cI .i64))),(0,(v3.map (cI .i64)).length+(([(0:Int)]).map (cI .i64)).length≤4294967296∧(v3.map (cI .i64))++(([(0:Int)]).map (cI .i64))=((v3++([(0:Int)])).map (cI .i64)))] 1 (by kernel_rfl) (⟨rfl,app_ok (cI .i64) hp6⟩) fun a w hm=>inBlock_norm (then_norm (⟨_,rfl,hm.co (cs:=[.keep [0,5,6,7,13,14]]) (by show _=_; kernel_rfl)⟩))
      · obtain ⟨v5,v6,v7⟩:=s
        try dsimp only at h
        refine T_reg_end [] [0,5,6,7,13,14] [(14,.d (.v (.int .i64 (IntKind.i64.wrap (v4+(1:Int))))))] [] 2 (by kernel_rfl) (trivial) fun a w hm=>then_norm (⟨(v5,v6,v7,IntKind.i64.wrap (v4+(1:Int))),h,hm.co (cs:=[.keep [0,5,6,7,13,14]]) (by show _=_; kernel_rfl)⟩)
    · have h:=cond_ff hc h
      obtain hs:=Option.some.inj h; subst hs
      refine T_exit fun a w hm=>then_exit (then_exit (inBlock_exit (then_norm (⟨_,rfl,hm.co (cs:=[.keep [0,5,6,7]]) (by show _=_; kernel_rfl)⟩))))
  · obtain ⟨v8,v9,v10⟩:=s
    try dsimp only at h
    refine fun a w hm=>then_norm (((?_:T Tryd.prog e 88 _ _ _) a w hm))
    refine T_reg [] [2,3,4,7] [(2,.d (.str v8)),(3,.vw (7,0)),(4,.d (.v (.bool (bif v9 then (decide ((a0.length:Int)≤(16:Int))) else false))))] [(4,(((v9 == true) && true)=true→True)),(0,(((v9 == true) && true)=true→True)),(0,(((v9 == true) && true)=true→True))] 4 (by kernel_rfl) (⟨(fun hg=>trivial),(fun hg=>trivial),(fun hg=>trivial)⟩) ?_
    obtain hs:=Option.some.inj h; subst hs
    refine T_ret fun a w hm=>T_return (fr':=[(2,.d (.str v8)),(3,.own 3 1 (v10.map (cI .i64))),(4,.d (.v (.bool (bif v9 then (decide ((a0.length:Int)≤(16:Int))) else false))))]) [2,3,4] (by kernel_rfl) [.claim 3,.keep [2,3,4]] (by kernel_rfl) (by kernel_rfl) (by kernel_rfl) (by show _=_; kernel_rfl) (by exact trivial) a w hm
theorem ref3_Divided_ok {F:Nat} {a0:List UInt8} {a1:List (List UInt8)} {r:(List Int)×Int} (h:ref3_Divided F a0 a1=some r):ACall Tryd.prog 8 [.d (.str a0),.d (.sl 1 (a1.map cS))] [] (.tup [.own 3 1 (r.1.map (cI .i64)),.d (.v (.int .i64 r.2))]) []:=by
  rw [ref3_Divided] at h
  refine ACall.intro (N:=139) Tryd.func8 rfl rfl rfl rfl rfl fun e=>?_
  refine T_reg [] [0,1] [] [] 2 (by kernel_rfl) (trivial) ?_
  refine T_reg [] [0,1,6] [(6,.d (.v (.bool (bif (!(a0 == [])) then (decide ((a0.length:Int)≤(31:Int))) else false))))] [(3,((((!(a0 == [])) == true) && true)=true→True)),(0,((((!(a0 == [])) == true) && true)=true→True)),(0,((((!(a0 == [])) == true) && true)=true→True))] 2 (by kernel_rfl) (⟨(fun hg=>trivial),(fun hg=>trivial),(fun hg=>trivial)⟩) ?_
  refine T_seqk ?_
  refine T_reg [] [0,1,6,32,33] [(32,.d (.v (.int .i64 (a0.length:Int)))),(33,.d (.v (.int .i64 (0:Int))))] [] 3 (by kernel_rfl) (trivial) ?_
  refine T_joinct h (fun (p:Bool)=>[(0,.d (.str a0)),(1,.d (.sl 1 (a1.map cS))),(6,.d (.v (.bool p)))]) (fun s h=>?_) (fun v14 h=>?_)
  · refine T_co [.keep [0,1,6,32,33]] ((fun (p:Bool×Int)=>[(0,.d (.str a0)),(1,.d (.sl 1 (a1.map cS))),(6,.d (.v (.bool p.1))),(32,.d (.v (.int .i64 (a0.length:Int)))),(33,.d (.v (.int .i64 p.2)))]) ((bif (!(a0 == [])) then (decide ((a0.length:Int)≤(31:Int))) else false),(0:Int))) (by show _=_; kernel_rfl) ?_
    refine T_block ?_
    refine T_loopF (ι:=Bool×Int) (fun (p:Bool×Int)=>[(0,.d (.str a0)),(1,.d (.sl 1 (a1.map cS))),(6,.d (.v (.bool p.1))),(32,.d (.v (.int .i64 (a0.length:Int)))),(33,.d (.v (.int .i64 p.2)))]) (fun n p=>ref3_Divided_L0 F a0 n p.1 p.2=some s) (fun i hh=>by simp [ref3_Divided_L0] at hh) (fun n p h=>?_) F ((bif (!(a0 == [])) then (decide ((a0.length:Int)≤(31:Int))) else false),(0:Int)) h
    obtain ⟨v1,v2⟩:=p
    have h:ref3_Divided_L0 F a0 (n+1) v1 v2=some s:=h
    rw [ref3_Divided_L0] at h
    refine T_reg [] [0,1,6,32,33,34] [(34,.d (.v (.bool (decide (v2 < (a0.length:Int))))))] [] 1 (by kernel_rfl) (trivial) ?_
    refine T_seqk ?_
    refine T_cond (decide (v2 < (a0.length:Int))) (by kernel_rfl) (fun hc=>?_) (fun hc=>?_)
    · have h:=cond_tt hc h
      refine T_skip fun a w hm=>then_norm (((?_:T Tryd.prog e 139 _ _ _) a w hm))
      refine T_seqk ?_
      refine T_block ?_
      refine T_reg [] [0,1,6,7,32,33] [(7,.d (.v (.int .i64 v2)))] [] 2 (by kernel_rfl) (trivial) ?_
      obtain ⟨hp1,h⟩:=chk_ok h
      obtain ⟨hp2,h⟩:=chk_ok h
      obtain ⟨z1,hz1,h⟩:=lett_ok h
      refine T_reg_end [(12,{ rw:=some (.d (.v (.bool z1))) })] [0,1,6,32,33] [(6,.d (.v (.bool z1)))] [(2,(((v1 == true) && true)=true→True)),(0,(((v1 == true) && true)=true→True)),(0,(((v1 == true) && true)=true→0≤v2∧v2 < a0.length)),(0,(((v1 == true) && true)=true→True)),(2,((((bif v1 then (decide (((a0.getD v2.toNat 0).toNat:Int) ≥ (97:Int))) else false) == true) && true)=true→True)),(0,((((bif v1 then (decide (((a0.getD v2.toNat 0).toNat:Int) ≥ (97:Int))) else false) == true) && true)=true→True)),(0,((((bif v1 then (decide (((a0.getD v2.toNat 0).toNat:Int) ≥ (97:Int))) else false) == true) && true)=true→0≤v2∧v2 < a0.length)),(0,((((bif v1 then (decide (((a0.getD v2.toNat 0).toNat:Int) ≥ (97:Int))) else false) == true) && true)=true→True)),(0,(True)∧AV.d (.v (.bool (bif (bif v1 then (decide (((a0.getD v2.toNat 0).toNat:Int) ≥ (97:Int))) else false) then (decide (((a0.getD v2.toNat 0).toNat:Int)≤(122:Int))) else false)))=.d (.v (.bool z1)))] 1 (by kernel_rfl) (⟨(fun hg=>trivial),(fun hg=>trivial),(fun hg=>(hp1 hg)),(fun hg=>trivial),(fun hg=>trivial),(fun hg=>trivial),(fun hg=>(hp2 hg)),(fun hg=>trivial),⟨trivial,(by subst hz1; rfl)⟩⟩) fun a w hm=>inBlock_norm (then_norm (((?_:T Tryd.prog e 139 _ _ _) a w hm)))
      refine T_reg_end [] [0,1,6,32,33] [(33,.d (.v (.int .i64 (IntKind.i64.wrap (v2+(1:Int))))))] [] 2 (by kernel_rfl) (trivial) fun a w hm=>then_norm (⟨(z1,IntKind.i64.wrap (v2+(1:Int))),h,hm.co (cs:=[.keep [0,1,6,32,33]]) (by show _=_; kernel_rfl)⟩)
    · have h:=cond_ff hc h
      obtain hs:=Option.some.inj h; subst hs
      refine T_exit fun a w hm=>then_exit (then_exit (inBlock_exit (then_norm (hm.co (cs:=[.keep [0,1,6]]) (by show _=_; kernel_rfl)))))
  · skip
    refine fun a w hm=>then_norm (((?_:T Tryd.prog e 139 _ _ _) a w hm))
    refine T_seqk ?_
    refine T_reg [] [0,1,51] [(51,.d (.v (.bool (!v14))))] [] 2 (by kernel_rfl) (trivial) ?_
    refine T_cond (!v14) (by kernel_rfl) (fun hc=>?_) (fun hc=>?_)
    · have h:=cond_tt hc h
      refine T_reg [] [4,5] [(4,.own 3 1 ([].map (cI .i64))),(5,.d (.v (.int .i64 (6:Int))))] [] 2 (by kernel_rfl) (trivial) ?_
      obtain hs:=Option.some.inj h; subst hs
      refine T_ret fun a w hm=>then_ret (T_return (fr':=[(4,.own 3 1 ([].map (cI .i64))),(5,.d (.v (.int .i64 (6:Int))))]) [4,5] (by kernel_rfl) [.keep [4,5]] (by kernel_rfl) (by kernel_rfl) (by kernel_rfl) (by show _=_; kernel_rfl) (by exact trivial) a w hm)
    · have h:=cond_ff hc h
      refine T_skip fun a w hm=>then_norm (((?_:T Tryd.prog e 139 _ _ _) a w hm))
      refine T_seqk ?_
      refine T_reg [(1,{ rw:=some (.d (.v (.int .i64 (a1.length:Int)))) })] [0,1,54] [(54,.d (.v (.bool (decide ((a1.length:Int) > (256:Int))))))] [(1,True∧AV.d (.v (.int .i64 ((a1.map cS).length:Int)))=.d (.v (.int .i64 (a1.length:Int))))] 1 (by kernel_rfl) (len_ok cS) ?_
      refine T_cond (decide ((a1.length:Int) > (256:Int))) (by kernel_rfl) (fun hc=>?_) (fun hc=>?_)
      · have h:=cond_tt hc h
        refine T_reg [] [4,5] [(4,.own 3 1 ([].map (cI .i64))),(5,.d (.v (.int .i64 (2:Int))))] [] 2 (by kernel_rfl) (trivial) ?_
        obtain hs:=Option.some.inj h; subst hs
        refine T_ret fun a w hm=>then_ret (T_return (fr':=[(4,.own 3 1 ([].map (cI .i64))),(5,.d (.v (.int .i64 (2:Int))))]) [4,5] (by kernel_rfl) [.keep [4,5]] (by kernel_rfl) (by kernel_rfl) (by kernel_rfl) (by show _=_; kernel_rfl) (by exact trivial) a w hm)
      · have h:=cond_ff hc h
        refine T_skip fun a w hm=>then_norm (((?_:T Tryd.prog e 139 _ _ _) a w hm))
        refine T_seqk ?_
        refine T_reg [(1,{ rw:=some (.d (.v (.int .i64 (a1.length:Int)))) })] [0,1,55,56,57] [(55,.d (.sl 1 (a1.map cS))),(56,.d (.v (.int .i64 (a1.length:Int)))),(57,.d (.v (.int .i64 (0:Int))))] [(1,True∧AV.d (.v (.int .i64 ((a1.map cS).length:Int)))=.d (.v (.int .i64 (a1.length:Int))))] 1 (by kernel_rfl) (len_ok cS) ?_
        refine T_joinEt h (fun (p:Unit)=>[(0,.d (.str a0)),(1,.d (.sl 1 (a1.map cS)))]) (fun s h hk1=>?_) (fun s h=>?_)
        · refine T_co [.keep [0,1,55,56,57]] ((fun (p:Int)=>[(0,.d (.str a0)),(1,.d (.sl 1 (a1.map cS))),(55,.d (.sl 1 (a1.map cS))),(56,.d (.v (.int .i64 (a1.length:Int)))),(57,.d (.v (.int .i64 p)))]) (0:Int)) (by show _=_; kernel_rfl) ?_
          refine T_block ?_
          refine T_loopF (ι:=Int) (fun (p:Int)=>[(0,.d (.str a0)),(1,.d (.sl 1 (a1.map cS))),(55,.d (.sl 1 (a1.map cS))),(56,.d (.v (.int .i64 (a1.length:Int)))),(57,.d (.v (.int .i64 p)))]) (fun n p=>ref3_Divided_L2 F a1 n p=some s) (fun i hh=>by simp [ref3_Divided_L2] at hh) (fun n v3 h=>?_) F (0:Int) h
          have h:ref3_Divided_L2 F a1 (n+1) v3=some s:=h
          rw [ref3_Divided_L2] at h
          refine T_reg [] [0,1,55,56,57,58] [(58,.d (.v (.bool (decide (v3 < (a1.length:Int))))))] [] 1 (by kernel_rfl) (trivial) ?_
          refine T_seqk ?_
          refine T_cond (decide (v3 < (a1.length:Int))) (by kernel_rfl) (fun hc=>?_) (fun hc=>?_)
          · have h:=cond_tt hc h
            refine T_skip fun a w hm=>then_norm (((?_:T Tryd.prog e 139 _ _ _) a w hm))
            refine T_seqk ?_
            refine T_block ?_
            obtain ⟨hp3,h⟩:=chk_ok h
            refine T_reg [(0,{ cs:=cS (a1.getD v3.toNat []) })] [0,1,9,55,56,57] [(9,.d (.str (a1.getD v3.toNat [])))] [(0,0≤v3∧(a1.map cS)[v3.toNat]? = some (cS (a1.getD v3.toNat [])))] 2 (by kernel_rfl) (idx_ok (d:=[]) cS hp3) ?_
            obtain ⟨y1,hy1,h⟩:=call_ok h
            refine T_reg [(1,{ res:=.tup [.d (.str y1.1),.own 3 1 (y1.2.1.map (cI .i64)),.d (.v (.bool y1.2.2))] })] [0,1,12,55,56,57] [(12,.d (.v (.bool y1.2.2)))] [(1,ACall Tryd.prog 18 [.d (.str (a1.getD v3.toNat []))] [] (.tup [.d (.str y1.1),.own 3 1 (y1.2.1.map (cI .i64)),.d (.v (.bool y1.2.2))]) [])] 7 (by kernel_rfl) (ref3_bare_ok hy1) ?_
            refine T_reg [] [0,1,55,56,57,68] [(68,.d (.v (.bool (!y1.2.2))))] [] 2 (by kernel_rfl) (trivial) ?_
            refine T_cond (!y1.2.2) (by kernel_rfl) (fun hc=>?_) (fun hc=>?_)
            · have h:=cond_tt hc h
              refine T_reg [] [4,5] [(4,.own 3 1 ([].map (cI .i64))),(5,.d (.v (.int .i64 (5:Int))))] [] 2 (by kernel_rfl) (trivial) ?_
              obtain hs:=Option.some.inj h; subst hs
              have h:=callE_esc hk1
              obtain hs:=Option.some.inj h; subst hs
              refine T_ret fun a w hm=>inBlock_ret (then_ret (then_ret (inBlock_ret (then_ret (then_ret (T_return (fr':=[(4,.own 3 1 ([].map (cI .i64))),(5,.d (.v (.int .i64 (5:Int))))]) [4,5] (by kernel_rfl) [.keep [4,5]] (by kernel_rfl) (by kernel_rfl) (by kernel_rfl) (by show _=_; kernel_rfl) (by exact trivial) a w hm))))))
            · have h:=cond_ff hc h
              refine T_skip fun a w hm=>inBlock_norm (then_norm (((?_:T Tryd.prog e 139 _ _ _) a w hm)))
              refine T_reg_end [] [0,1,55,56,57] [(57,.d (.v (.int .i64 (IntKind.i64.wrap (v3+(1:Int))))))] [] 2 (by kernel_rfl) (trivial) fun a w hm=>then_norm (⟨IntKind.i64.wrap (v3+(1:Int)),h,hm.co (cs:=[.keep [0,1,55,56,57]]) (by show _=_; kernel_rfl)⟩)
          · have h:=cond_ff hc h
            obtain hs:=Option.some.inj h; subst hs
            refine T_exit fun a w hm=>then_exit (then_exit (inBlock_exit (then_norm (⟨_,rfl,hm.co (cs:=[.keep [0,1]]) (by show _=_; kernel_rfl)⟩))))
        · skip
          refine fun a w hm=>then_norm (((?_:T Tryd.prog e 139 _ _ _) a w hm))
          obtain ⟨hp4,h⟩:=chk_ok h
          obtain ⟨hp5,h⟩:=chk_ok h
          refine T_reg [] [0,1,13] [(13,.d (.str ((([46]:List UInt8)++a0)++([46]:List UInt8))))] [(1,([46]:List UInt8).length+a0.length≤9223372036854775807),(0,(([46]:List UInt8)++a0).length+([46]:List UInt8).length≤9223372036854775807)] 1 (by kernel_rfl) (⟨hp4,hp5⟩) ?_
          refine T_reg [] [0,1,13,14] [(14,.own 3 1 ([].map (cI .i64)))] [] 1 (by kernel_rfl) (trivial) ?_
          refine T_seqk ?_
          refine T_reg [] [0,1,13,14,15] [(15,.d (.v (.int .i64 (2:Int))))] [] 1 (by kernel_rfl) (trivial) ?_
          refine T_joinct h (fun (p:(List Int))=>[(14,.own 3 1 (p.map (cI .i64)))]) (fun s h=>?_) (fun v15 h=>?_)
          · refine T_co [.keep [0,1,13,14,15]] ((fun (p:(List Int)×Int)=>[(0,.d (.str a0)),(1,.d (.sl 1 (a1.map cS))),(13,.d (.str ((([46]:List UInt8)++a0)++([46]:List UInt8)))),(14,.own 3 1 (p.1.map (cI .i64))),(15,.d (.v (.int .i64 p.2)))]) ([],(2:Int))) (by show _=_; kernel_rfl) ?_
            refine T_block ?_
            refine T_loopF (ι:=(List Int)×Int) (fun (p:(List Int)×Int)=>[(0,.d (.str a0)),(1,.d (.sl 1 (a1.map cS))),(13,.d (.str ((([46]:List UInt8)++a0)++([46]:List UInt8)))),(14,.own 3 1 (p.1.map (cI .i64))),(15,.d (.v (.int .i64 p.2)))]) (fun n p=>ref3_Divided_L4 F a0 a1 n p.1 p.2=some s) (fun i hh=>by simp [ref3_Divided_L4] at hh) (fun n p h=>?_) F ([],(2:Int)) h
            obtain ⟨v11,v4⟩:=p
            have h:ref3_Divided_L4 F a0 a1 (n+1) v11 v4=some s:=h
            rw [ref3_Divided_L4] at h
            refine T_seqk ?_
            refine T_reg [] [0,1,13,14,15,77] [(77,.d (.v (.bool (decide (v4≤(IntKind.i64.wrap ((a0.length:Int) - (2:Int))))))))] [] 5 (by kernel_rfl) (trivial) ?_
            refine T_cond (decide (v4≤(IntKind.i64.wrap ((a0.length:Int) - (2:Int))))) (by kernel_rfl) (fun hc=>?_) (fun hc=>?_)
            · have h:=cond_tt hc h
              refine T_skip fun a w hm=>then_norm (((?_:T Tryd.prog e 139 _ _ _) a w hm))
              refine T_joinc h (fun (p:(List Int))=>[(0,.d (.str a0)),(1,.d (.sl 1 (a1.map cS))),(13,.d (.str ((([46]:List UInt8)++a0)++([46]:List UInt8)))),(14,.own 3 1 (p.map (cI .i64))),(15,.d (.v (.int .i64 v4)))]) (fun s h=>?_) (fun v13 h=>?_)
              · refine T_block ?_
                refine T_reg [] [0,1,13,14,15,16] [(16,.d (.v (.int .i64 (0:Int))))] [] 1 (by kernel_rfl) (trivial) ?_
                refine T_seqk ?_
                refine T_reg [(1,{ rw:=some (.d (.v (.int .i64 (a1.length:Int)))) })] [0,1,13,14,15,16,80,81,82] [(80,.d (.sl 1 (a1.map cS))),(81,.d (.v (.int .i64 (a1.length:Int)))),(82,.d (.v (.int .i64 (0:Int))))] [(1,True∧AV.d (.v (.int .i64 ((a1.map cS).length:Int)))=.d (.v (.int .i64 (a1.length:Int))))] 1 (by kernel_rfl) (len_ok cS) ?_
                refine T_joinct h (fun (p:Int)=>[(0,.d (.str a0)),(1,.d (.sl 1 (a1.map cS))),(13,.d (.str ((([46]:List UInt8)++a0)++([46]:List UInt8)))),(14,.own 3 1 (v11.map (cI .i64))),(15,.d (.v (.int .i64 v4))),(16,.d (.v (.int .i64 p)))]) (fun s h=>?_) (fun v12 h=>?_)
                · refine T_co [.keep [0,1,13,14,15,16,80,81,82]] ((fun (p:Int×Int)=>[(0,.d (.str a0)),(1,.d (.sl 1 (a1.map cS))),(13,.d (.str ((([46]:List UInt8)++a0)++([46]:List UInt8)))),(14,.own 3 1 (v11.map (cI .i64))),(15,.d (.v (.int .i64 v4))),(16,.d (.v (.int .i64 p.1))),(80,.d (.sl 1 (a1.map cS))),(81,.d (.v (.int .i64 (a1.length:Int)))),(82,.d (.v (.int .i64 p.2)))]) ((0:Int),(0:Int))) (by show _=_; kernel_rfl) ?_
                  refine T_block ?_
                  refine T_loopF (ι:=Int×Int) (fun (p:Int×Int)=>[(0,.d (.str a0)),(1,.d (.sl 1 (a1.map cS))),(13,.d (.str ((([46]:List UInt8)++a0)++([46]:List UInt8)))),(14,.own 3 1 (v11.map (cI .i64))),(15,.d (.v (.int .i64 v4))),(16,.d (.v (.int .i64 p.1))),(80,.d (.sl 1 (a1.map cS))),(81,.d (.v (.int .i64 (a1.length:Int)))),(82,.d (.v (.int .i64 p.2)))]) (fun n p=>ref3_Divided_L6 F a0 a1 v4 n p.1 p.2=some s) (fun i hh=>by simp [ref3_Divided_L6] at hh) (fun n p h=>?_) F ((0:Int),(0:Int)) h
                  obtain ⟨v8,v9⟩:=p
                  have h:ref3_Divided_L6 F a0 a1 v4 (n+1) v8 v9=some s:=h
                  rw [ref3_Divided_L6] at h
                  refine T_reg [] [0,1,13,14,15,16,80,81,82,83] [(83,.d (.v (.bool (decide (v9 < (a1.length:Int))))))] [] 1 (by kernel_rfl) (trivial) ?_
                  refine T_seqk ?_
                  refine T_cond (decide (v9 < (a1.length:Int))) (by kernel_rfl) (fun hc=>?_) (fun hc=>?_)
                  · have h:=cond_tt hc h
                    refine T_skip fun a w hm=>then_norm (((?_:T Tryd.prog e 139 _ _ _) a w hm))
                    refine T_seqk ?_
                    refine T_block ?_
                    obtain ⟨hp6,h⟩:=chk_ok h
                    refine T_reg [(0,{ cs:=cS (a1.getD v9.toNat []) })] [0,1,13,14,15,16,18,80,81,82] [(18,.d (.str (a1.getD v9.toNat [])))] [(0,0≤v9∧(a1.map cS)[v9.toNat]? = some (cS (a1.getD v9.toNat [])))] 2 (by kernel_rfl) (idx_ok (d:=[]) cS hp6) ?_
                    obtain ⟨y2,hy2,h⟩:=call_ok h
                    refine T_reg [(1,{ res:=.tup [.d (.str y2.1),.own 3 1 (y2.2.1.map (cI .i64)),.d (.v (.bool y2.2.2))] })] [0,1,13,14,15,16,19,20,80,81,82] [(19,.d (.str y2.1)),(20,.own 3 1 (y2.2.1.map (cI .i64)))] [(1,ACall Tryd.prog 18 [.d (.str (a1.getD v9.toNat []))] [] (.tup [.d (.str y2.1),.own 3 1 (y2.2.1.map (cI .i64)),.d (.v (.bool y2.2.2))]) [])] 7 (by kernel_rfl) (ref3_bare_ok hy2) ?_
                    refine T_reg [(1,{ rw:=some (.d (.v (.int .i64 (y2.2.1.length:Int)))) })] [0,1,13,14,15,16,19,20,80,81,82,93,94] [(93,.d (.v (.int .i64 (y2.2.1.length:Int)))),(94,.d (.v (.int .i64 (0:Int))))] [(1,True∧AV.d (.v (.int .i64 ((y2.2.1.map (cI .i64)).length:Int)))=.d (.v (.int .i64 (y2.2.1.length:Int))))] 1 (by kernel_rfl) (len_ok (cI .i64)) ?_
                    refine T_joinct h (fun (p:Int)=>[(0,.d (.str a0)),(1,.d (.sl 1 (a1.map cS))),(13,.d (.str ((([46]:List UInt8)++a0)++([46]:List UInt8)))),(14,.own 3 1 (v11.map (cI .i64))),(15,.d (.v (.int .i64 v4))),(16,.d (.v (.int .i64 p))),(80,.d (.sl 1 (a1.map cS))),(81,.d (.v (.int .i64 (a1.length:Int)))),(82,.d (.v (.int .i64 v9)))]) (fun s h=>?_) (fun v10 h=>?_)
                    · refine T_co [.keep [0,1,13,14,15,16,19,20,80,81,82,93,94]] ((fun (p:Int×Int)=>[(0,.d (.str a0)),(1,.d (.sl 1 (a1.map cS))),(13,.d (.str ((([46]:List UInt8)++a0)++([46]:List UInt8)))),(14,.own 3 1 (v11.map (cI .i64))),(15,.d (.v (.int .i64 v4))),(16,.d (.v (.int .i64 p.1))),(19,.d (.str y2.1)),(20,.own 3 1 (y2.2.1.map (cI .i64))),(80,.d (.sl 1 (a1.map cS))),(81,.d (.v (.int .i64 (a1.length:Int)))),(82,.d (.v (.int .i64 v9))),(93,.d (.v (.int .i64 (y2.2.1.length:Int)))),(94,.d (.v (.int .i64 p.2)))]) (v8,(0:Int))) (by show _=_; kernel_rfl) ?_
                      refine T_block ?_
                      refine T_loopF (ι:=Int×Int) (fun (p:Int×Int)=>[(0,.d (.str a0)),(1,.d (.sl 1 (a1.map cS))),(13,.d (.str ((([46]:List UInt8)++a0)++([46]:List UInt8)))),(14,.own 3 1 (v11.map (cI .i64))),(15,.d (.v (.int .i64 v4))),(16,.d (.v (.int .i64 p.1))),(19,.d (.str y2.1)),(20,.own 3 1 (y2.2.1.map (cI .i64))),(80,.d (.sl 1 (a1.map cS))),(81,.d (.v (.int .i64 (a1.length:Int)))),(82,.d (.v (.int .i64 v9))),(93,.d (.v (.int .i64 (y2.2.1.length:Int)))),(94,.d (.v (.int .i64 p.2)))]) (fun n p=>ref3_Divided_L8 F a0 v4 y2 n p.1 p.2=some s) (fun i hh=>by simp [ref3_Divided_L8] at hh) (fun n p h=>?_) F (v8,(0:Int)) h
                      obtain ⟨v5,v6⟩:=p
                      have h:ref3_Divided_L8 F a0 v4 y2 (n+1) v5 v6=some s:=h
                      rw [ref3_Divided_L8] at h
                      refine T_reg [] [0,1,13,14,15,16,19,20,80,81,82,93,94,95] [(95,.d (.v (.bool (decide (v6 < (y2.2.1.length:Int))))))] [] 1 (by kernel_rfl) (trivial) ?_
                      refine T_seqk ?_
                      refine T_cond (decide (v6 < (y2.2.1.length:Int))) (by kernel_rfl) (fun hc=>?_) (fun hc=>?_)
                      · have h:=cond_tt hc h
                        refine T_skip fun a w hm=>then_norm (((?_:T Tryd.prog e 139 _ _ _) a w hm))
                        refine T_joinc h (fun (p:Int)=>[(0,.d (.str a0)),(1,.d (.sl 1 (a1.map cS))),(13,.d (.str ((([46]:List UInt8)++a0)++([46]:List UInt8)))),(14,.own 3 1 (v11.map (cI .i64))),(15,.d (.v (.int .i64 v4))),(16,.d (.v (.int .i64 p))),(19,.d (.str y2.1)),(20,.own 3 1 (y2.2.1.map (cI .i64))),(80,.d (.sl 1 (a1.map cS))),(81,.d (.v (.int .i64 (a1.length:Int)))),(82,.d (.v (.int .i64 v9))),(93,.d (.v (.int .i64 (y2.2.1.length:Int)))),(94,.d (.v (.int .i64 v6)))]) (fun s h=>?_) (fun v7 h=>?_)
                        · refine T_block ?_
                          refine T_reg [] [0,1,13,14,15,16,19,20,22,80,81,82,93,94] [(22,.d (.v (.int .i64 v6)))] [] 2 (by kernel_rfl) (trivial) ?_
                          refine T_reg [] [0,1,13,14,15,16,19,20,22,23,80,81,82,93,94] [(23,.d (.v (.int .i64 (IntKind.i64.wrap ((IntKind.i64.wrap (v4+(1:Int))) - v6)))))] [] 5 (by kernel_rfl) (trivial) ?_
                          obtain ⟨z2,hz2,h⟩:=lett_ok h
                          obtain ⟨z3,hz3,h⟩:=lett_ok h
                          obtain ⟨z4,hz4,h⟩:=lett_ok h
                          obtain ⟨hp7,h⟩:=chk_ok h
                          obtain ⟨z5,hz5,h⟩:=lett_ok h
                          refine T_reg [(6,{ rw:=some (.d (.v (.int .i64 z2))) }),(10,{ rw:=some (.d (.v (.bool z3))) }),(17,{ rw:=some (.d (.v (.int .i64 z4))) }),(18,{ rw:=some (.d (.str z5)) })] [0,1,13,14,15,16,19,20,22,80,81,82,93,94,122] [(122,.d (.v (.bool (bif z3 then (z5 == y2.1) else false))))] [(3,((((decide ((IntKind.i64.wrap ((IntKind.i64.wrap (v4+(1:Int))) - v6)) ≥ (0:Int))) == true) && true)=true→True)),(0,((((decide ((IntKind.i64.wrap ((IntKind.i64.wrap (v4+(1:Int))) - v6)) ≥ (0:Int))) == true) && true)=true→True)),(0,((((decide ((IntKind.i64.wrap ((IntKind.i64.wrap (v4+(1:Int))) - v6)) ≥ (0:Int))) == true) && true)=true→True)),(0,((((decide ((IntKind.i64.wrap ((IntKind.i64.wrap (v4+(1:Int))) - v6)) ≥ (0:Int))) == true) && true)=true→(True)∧AV.d (.v (.int .i64 (IntKind.i64.wrap ((IntKind.i64.wrap ((IntKind.i64.wrap (v4+(1:Int))) - v6))+(y2.1.length:Int)))))=.d (.v (.int .i64 z2)))),(0,((((decide ((IntKind.i64.wrap ((IntKind.i64.wrap (v4+(1:Int))) - v6)) ≥ (0:Int))) == true) && true)=true→True)),(0,((((decide ((IntKind.i64.wrap ((IntKind.i64.wrap (v4+(1:Int))) - v6)) ≥ (0:Int))) == true) && true)=true→True)),(0,((((decide ((IntKind.i64.wrap ((IntKind.i64.wrap (v4+(1:Int))) - v6)) ≥ (0:Int))) == true) && true)=true→True)),(0,(True)∧AV.d (.v (.bool (bif (decide ((IntKind.i64.wrap ((IntKind.i64.wrap (v4+(1:Int))) - v6)) ≥ (0:Int))) then (decide (z2≤(((([46]:List UInt8)++a0)++([46]:List UInt8)).length:Int))) else false)))=.d (.v (.bool z3))),(1,(((z3 == true) && true)=true→True)),(0,(((z3 == true) && true)=true→True)),(0,(((z3 == true) && true)=true→True)),(0,(((z3 == true) && true)=true→True)),(0,(((z3 == true) && true)=true→True)),(0,(((z3 == true) && true)=true→(True)∧AV.d (.v (.int .i64 (IntKind.i64.wrap ((IntKind.i64.wrap ((IntKind.i64.wrap (v4+(1:Int))) - v6))+(y2.1.length:Int)))))=.d (.v (.int .i64 z4)))),(0,(((z3 == true) && true)=true→(0≤(IntKind.i64.wrap ((IntKind.i64.wrap (v4+(1:Int))) - v6))∧(IntKind.i64.wrap ((IntKind.i64.wrap (v4+(1:Int))) - v6))≤z4∧z4≤(((([46]:List UInt8)++a0)++([46]:List UInt8)).length:Int))∧AV.d (.str ((((([46]:List UInt8)++a0)++([46]:List UInt8)).drop (IntKind.i64.wrap ((IntKind.i64.wrap (v4+(1:Int))) - v6)).toNat).take (z4.toNat - (IntKind.i64.wrap ((IntKind.i64.wrap (v4+(1:Int))) - v6)).toNat)))=.d (.str z5))),(0,(((z3 == true) && true)=true→True)),(0,(((z3 == true) && true)=true→True))] 1 (by kernel_rfl) (⟨(fun hg=>trivial),(fun hg=>trivial),(fun hg=>trivial),(fun hg=>⟨trivial,(by subst hz2; rfl)⟩),(fun hg=>trivial),(fun hg=>trivial),(fun hg=>trivial),⟨trivial,(by subst hz3; rfl)⟩,(fun hg=>trivial),(fun hg=>trivial),(fun hg=>trivial),(fun hg=>trivial),(fun hg=>trivial),(fun hg=>⟨trivial,(by subst hz4; rfl)⟩),(fun hg=>⟨(hp7 hg),(by subst hz5; rfl)⟩),(fun hg=>trivial),(fun hg=>trivial)⟩) ?_
                          refine T_cond (bif z3 then (z5 == y2.1) else false) (by kernel_rfl) (fun hc=>?_) (fun hc=>?_)
                          · have h:=cond_tt hc h
                            obtain ⟨hp8,h⟩:=chk_ok h
                            obtain hs:=Option.some.inj h; subst hs
                            refine T_reg_end [(4,{ cs:=(cI .i64) (y2.2.1.getD v6.toNat 0) })] [0,1,13,14,15,16,19,20,80,81,82,93,94] [(16,.d (.v (.int .i64 (if v5 < (y2.2.1.getD v6.toNat 0) then (y2.2.1.getD v6.toNat 0) else v5))))] [(3,0≤v6∧v6 < (y2.2.1.map (cI .i64)).length),(0,(y2.2.1.map (cI .i64))[v6.toNat]? = some ((cI .i64) (y2.2.1.getD v6.toNat 0)))] 2 (by kernel_rfl) (⟨own_idx (cI .i64) hp8,(idx_ok (d:=0) (cI .i64) hp8).2⟩) fun a w hm=>inBlock_norm (then_norm (hm.co (cs:=[.keep [0,1,13,14,15,16,19,20,80,81,82,93,94]]) (by show _=_; kernel_rfl)))
                          · have h:=cond_ff hc h
                            obtain hs:=Option.some.inj h; subst hs
                            refine T_skip fun a w hm=>inBlock_norm (then_norm (hm.co (cs:=[.keep [0,1,13,14,15,16,19,20,80,81,82,93,94]]) (by show _=_; kernel_rfl)))
                        · skip
                          refine T_reg_end [] [0,1,13,14,15,16,19,20,80,81,82,93,94] [(94,.d (.v (.int .i64 (IntKind.i64.wrap (v6+(1:Int))))))] [] 2 (by kernel_rfl) (trivial) fun a w hm=>then_norm (⟨(v7,IntKind.i64.wrap (v6+(1:Int))),h,hm.co (cs:=[.keep [0,1,13,14,15,16,19,20,80,81,82,93,94]]) (by show _=_; kernel_rfl)⟩)
                      · have h:=cond_ff hc h
                        obtain hs:=Option.some.inj h; subst hs
                        refine T_exit fun a w hm=>then_exit (then_exit (inBlock_exit (then_norm (hm.co (cs:=[.keep [0,1,13,14,15,16,80,81,82]]) (by show _=_; kernel_rfl)))))
                    · skip
                      refine fun a w hm=>inBlock_norm (then_norm (((?_:T Tryd.prog e 139 _ _ _) a w hm)))
                      refine T_reg_end [] [0,1,13,14,15,16,80,81,82] [(82,.d (.v (.int .i64 (IntKind.i64.wrap (v9+(1:Int))))))] [] 2 (by kernel_rfl) (trivial) fun a w hm=>then_norm (⟨(v10,IntKind.i64.wrap (v9+(1:Int))),h,hm.co (cs:=[.keep [0,1,13,14,15,16,80,81,82]]) (by show _=_; kernel_rfl)⟩)
                  · have h:=cond_ff hc h
                    obtain hs:=Option.some.inj h; subst hs
                    refine T_exit fun a w hm=>then_exit (then_exit (inBlock_exit (then_norm (hm.co (cs:=[.keep [0,1,13,14,15,16]]) (by show _=_; kernel_rfl)))))
                · skip
                  refine fun a w hm=>then_norm (((?_:T Tryd.prog e 139 _ _ _) a w hm))
                  refine T_reg [] [0,1,13,14,15,133] [(133,.d (.v (.bool ((v12.tmod (2:Int)) == (1:Int)))))] [(1,(2:Int)≠0)] 1 (by kernel_rfl) ((show (2:Int)≠0 by decide)) ?_
                  refine T_cond ((v12.tmod (2:Int)) == (1:Int)) (by kernel_rfl) (fun hc=>?_) (fun hc=>?_)
                  · have h:=cond_tt hc h
                    obtain ⟨hp9,h⟩:=chk_ok h
                    obtain hs:=Option.some.inj h; subst hs
                    refine T_reg_end [(2,{ es:=some (([v4]).map (cI .i64)) }),(3,{ es:=some ((v11++([v4])).map (cI .i64)) })] [0,1,13,14,15] [(14,.own 3 1 ((v11++([v4])).map (cI .i64)))] [(2,(([v4]).map (cI .i64))=(([v4]).map (cI .i64))),(0,(v11.map (cI .i64)).length+(([v4]).map (cI .i64)).length≤4294967296∧(v11.map (cI .i64))++(([v4]).map (cI .i64))=((v11++([v4])).map (cI .i64)))] 1 (by kernel_rfl) (⟨rfl,app_ok (cI .i64) hp9⟩) fun a w hm=>inBlock_norm (then_norm (hm.co (cs:=[.keep [0,1,13,14,15]]) (by show _=_; kernel_rfl)))
                  · have h:=cond_ff hc h
                    obtain hs:=Option.some.inj h; subst hs
                    refine T_skip fun a w hm=>inBlock_norm (then_norm (hm.co (cs:=[.keep [0,1,13,14,15]]) (by show _=_; kernel_rfl)))
              · skip
                refine T_reg_end [] [0,1,13,14,15] [(15,.d (.v (.int .i64 (IntKind.i64.wrap (v4+(1:Int))))))] [] 3 (by kernel_rfl) (trivial) fun a w hm=>then_norm (⟨(v13,IntKind.i64.wrap (v4+(1:Int))),h,hm.co (cs:=[.keep [0,1,13,14,15]]) (by show _=_; kernel_rfl)⟩)
            · have h:=cond_ff hc h
              obtain hs:=Option.some.inj h; subst hs
              refine T_exit fun a w hm=>then_exit (then_exit (inBlock_exit (then_norm (hm.co (cs:=[.keep [14]]) (by show _=_; kernel_rfl)))))
          · skip
            refine fun a w hm=>then_norm (((?_:T Tryd.prog e 139 _ _ _) a w hm))
            refine T_reg [] [4,5,14] [(4,.vw (14,0)),(5,.d (.v (.int .i64 (0:Int))))] [] 3 (by kernel_rfl) (trivial) ?_
            obtain hs:=Option.some.inj h; subst hs
            refine T_ret fun a w hm=>T_return (fr':=[(4,.own 3 1 (v15.map (cI .i64))),(5,.d (.v (.int .i64 (0:Int))))]) [4,5] (by kernel_rfl) [.claim 4,.keep [4,5]] (by kernel_rfl) (by kernel_rfl) (by kernel_rfl) (by show _=_; kernel_rfl) (by exact trivial) a w hm
theorem law3_ParaHyphensMatchReference_ok {F:Nat} {a0:List UInt8} {a1:List (List UInt8)} {r:Bool} (h:law3_ParaHyphensMatchReference F a0 a1=some r):ACall Tryd.prog 3 [.d (.str a0),.d (.sl 1 (a1.map cS))] [] (.d (.v (.bool r))) []:=by
  rw [law3_ParaHyphensMatchReference] at h
  refine ACall.intro (N:=31) Tryd.func3 rfl rfl rfl rfl rfl fun e=>?_
  refine T_reg [] [0,1] [] [] 1 (by kernel_rfl) (trivial) ?_
  refine T_seqk ?_
  obtain ⟨y1,hy1,h⟩:=call_ok h
  refine T_reg [(0,{ res:=.d (.v (.bool y1)) })] [0,1,10] [(10,.d (.v (.bool (!y1))))] [(0,ACall Tryd.prog 6 [] [] (.d (.v (.bool y1))) [])] 1 (by kernel_rfl) (law3_paraFact_ok hy1) ?_
  refine T_cond (!y1) (by kernel_rfl) (fun hc=>?_) (fun hc=>?_)
  · have h:=cond_tt hc h
    refine T_reg [] [4] [(4,.d (.v (.bool false)))] [] 1 (by kernel_rfl) (trivial) ?_
    obtain hs:=Option.some.inj h; subst hs
    refine T_ret fun a w hm=>then_ret (T_return (fr':=[(4,.d (.v (.bool false)))]) [4] (by kernel_rfl) [.keep [4]] (by kernel_rfl) (by kernel_rfl) (by kernel_rfl) (by show _=_; kernel_rfl) (by exact trivial) a w hm)
  · have h:=cond_ff hc h
    refine T_skip fun a w hm=>then_norm (((?_:T Tryd.prog e 31 _ _ _) a w hm))
    obtain ⟨y2,hy2,h⟩:=call_ok h
    refine T_reg [(2,{ res:=.tup [.d (.sl 1 (y2.1.map (cI .i64))),.d (.v (.int .i64 y2.2))] })] [0,1,5,6] [(5,.d (.sl 1 (y2.1.map (cI .i64)))),(6,.d (.v (.int .i64 y2.2)))] [(2,ACall Tryd.prog 7 [.d (.str a0),.d (.sl 1 (a1.map cS))] [] (.tup [.d (.sl 1 (y2.1.map (cI .i64))),.d (.v (.int .i64 y2.2))]) [])] 5 (by kernel_rfl) (para_Hyphens_ok hy2) ?_
    obtain ⟨y3,hy3,h⟩:=call_ok h
    refine T_reg [(2,{ res:=.tup [.own 3 1 (y3.1.map (cI .i64)),.d (.v (.int .i64 y3.2))] })] [5,6,7,8] [(7,.own 3 1 (y3.1.map (cI .i64))),(8,.d (.v (.int .i64 y3.2)))] [(2,ACall Tryd.prog 8 [.d (.str a0),.d (.sl 1 (a1.map cS))] [] (.tup [.own 3 1 (y3.1.map (cI .i64)),.d (.v (.int .i64 y3.2))]) [])] 5 (by kernel_rfl) (ref3_Divided_ok hy3) ?_
    obtain ⟨y4,hy4,h⟩:=call_ok h
    refine T_reg [(6,{ res:=.d (.v (.bool y4)) })] [4] [(4,.d (.v (.bool (bif (y2.2 == y3.2) then y4 else false))))] [(4,((((y2.2 == y3.2) == true) && true)=true→True)),(0,((((y2.2 == y3.2) == true) && true)=true→True)),(0,((((y2.2 == y3.2) == true) && true)=true→ACall Tryd.prog 9 [.d (.sl 1 (y2.1.map (cI .i64))),.d (.sl 1 (y3.1.map (cI .i64)))] [] (.d (.v (.bool y4))) []))] 2 (by kernel_rfl) (⟨(fun hg=>trivial),(fun hg=>trivial),(fun hg=>slices_Equal_int_ok (gcall_ok hg hy4))⟩) ?_
    obtain hs:=Option.some.inj h; subst hs
    refine T_ret fun a w hm=>T_return (fr':=[(4,.d (.v (.bool (bif (y2.2 == y3.2) then y4 else false))))]) [4] (by kernel_rfl) [.keep [4]] (by kernel_rfl) (by kernel_rfl) (by kernel_rfl) (by show _=_; kernel_rfl) (by exact trivial) a w hm
end Go.Vm.ParM
