import Derived.Test.YtflaiaeofndgmaaDoorProg
import Derived.Test.YtflaiaeofndgmaaDoorArcF
import Derived.Test.YtflaiaeofndgmaaDoorArcB
namespace Go.Vm.ArcG
open Go.Proofs
set_option maxRecDepth 20000
theorem mixed:Tryd.prog.follows .mixedOrders=true:=by kernel_rfl
theorem archive_cut_ok {F:Nat} {a0:List UInt8} {r:Int} (h:archive_cut F a0=some r):ACall Tryd.prog 12 [.d (.str a0)] [] (.d (.v (.int .i64 r))) []:=by
  rw [archive_cut] at h
  refine ACall.intro (N:=54) Tryd.func12 rfl rfl rfl rfl rfl fun e=>?_
  refine T_reg [] [0] [] [] 1 (by kernel_rfl) (trivial) ?_
  refine T_reg [] [0,3] [(3,.d (.v (.int .u32 (0:Int))))] [] 1 (by kernel_rfl) (trivial) ?_
  refine T_reg [] [0,3,4] [(4,.d (.v (.int .u32 (1:Int))))] [] 1 (by kernel_rfl) (trivial) ?_
  refine T_seqk ?_
  refine T_reg [] [0,3,4,6] [(6,.d (.v (.int .i64 (0:Int))))] [] 1 (by kernel_rfl) (trivial) ?_
  refine T_joinct h (fun (p:Int)=>[(0,.d (.str a0)),(3,.d (.v (.int .u32 (0:Int)))),(4,.d (.v (.int .u32 p)))]) (fun s h=>?_) (fun v3 h=>?_)
  · refine T_co [.keep [0,3,4,6]] ((fun (p:Int×Int)=>[(0,.d (.str a0)),(3,.d (.v (.int .u32 (0:Int)))),(4,.d (.v (.int .u32 p.1))),(6,.d (.v (.int .i64 p.2)))]) ((1:Int),(0:Int))) (by show _=_; kernel_rfl) ?_
    refine T_block ?_
    refine T_loopF (ι:=Int×Int) (fun (p:Int×Int)=>[(0,.d (.str a0)),(3,.d (.v (.int .u32 (0:Int)))),(4,.d (.v (.int .u32 p.1))),(6,.d (.v (.int .i64 p.2)))]) (fun n p=>archive_cut_L0 F n p.1 p.2=some s) (fun i hh=>by simp [archive_cut_L0] at hh) (fun n p h=>?_) F ((1:Int),(0:Int)) h
    obtain ⟨v1,v2⟩:=p
    have h:archive_cut_L0 F (n+1) v1 v2=some s:=h
    rw [archive_cut_L0] at h
    refine T_reg [] [0,3,4,6,7] [(7,.d (.v (.bool (decide (v2 < (16:Int))))))] [] 1 (by kernel_rfl) (trivial) ?_
    refine T_seqk ?_
    refine T_cond (decide (v2 < (16:Int))) (by kernel_rfl) (fun hc=>?_) (fun hc=>?_)
    · have h:=cond_tt hc h
      refine T_skip fun a w hm=>then_norm (((?_:T Tryd.prog e 54 _ _ _) a w hm))
      refine T_seqk ?_
      refine T_block ?_
      refine T_reg_end [] [0,3,4,6] [(4,.d (.v (.int .u32 (IntKind.u32.wrap (v1 * (31:Int))))))] [] 3 (by kernel_rfl) (trivial) fun a w hm=>inBlock_norm (then_norm (((?_:T Tryd.prog e 54 _ _ _) a w hm)))
      refine T_reg_end [] [0,3,4,6] [(6,.d (.v (.int .i64 (IntKind.i64.wrap (v2+(1:Int))))))] [] 2 (by kernel_rfl) (trivial) fun a w hm=>then_norm (⟨(IntKind.u32.wrap (v1 * (31:Int)),IntKind.i64.wrap (v2+(1:Int))),h,hm.co (cs:=[.keep [0,3,4,6]]) (by show _=_; kernel_rfl)⟩)
    · have h:=cond_ff hc h
      obtain hs:=Option.some.inj h; subst hs
      refine T_exit fun a w hm=>then_exit (then_exit (inBlock_exit (then_norm (hm.co (cs:=[.keep [0,3,4]]) (by show _=_; kernel_rfl)))))
  · skip
    refine fun a w hm=>then_norm (((?_:T Tryd.prog e 54 _ _ _) a w hm))
    refine T_seqk ?_
    refine T_reg [] [0,3,4,12,13] [(12,.d (.v (.int .i64 (a0.length:Int)))),(13,.d (.v (.int .i64 (0:Int))))] [] 3 (by kernel_rfl) (trivial) ?_
    refine T_joinEt h (fun (p:Unit)=>[(0,.d (.str a0))]) (fun s h hk1=>?_) (fun s h=>?_)
    · refine T_co [.keep [0,3,4,12,13]] ((fun (p:Int×Int)=>[(0,.d (.str a0)),(3,.d (.v (.int .u32 p.1))),(4,.d (.v (.int .u32 v3))),(12,.d (.v (.int .i64 (a0.length:Int)))),(13,.d (.v (.int .i64 p.2)))]) ((0:Int),(0:Int))) (by show _=_; kernel_rfl) ?_
      refine T_block ?_
      refine T_loopF (ι:=Int×Int) (fun (p:Int×Int)=>[(0,.d (.str a0)),(3,.d (.v (.int .u32 p.1))),(4,.d (.v (.int .u32 v3))),(12,.d (.v (.int .i64 (a0.length:Int)))),(13,.d (.v (.int .i64 p.2)))]) (fun n p=>archive_cut_L2 F a0 v3 n p.1 p.2=some s) (fun i hh=>by simp [archive_cut_L2] at hh) (fun n p h=>?_) F ((0:Int),(0:Int)) h
      obtain ⟨v4,v5⟩:=p
      have h:archive_cut_L2 F a0 v3 (n+1) v4 v5=some s:=h
      rw [archive_cut_L2] at h
      refine T_reg [] [0,3,4,12,13,14] [(14,.d (.v (.bool (decide (v5 < (a0.length:Int))))))] [] 1 (by kernel_rfl) (trivial) ?_
      refine T_seqk ?_
      refine T_cond (decide (v5 < (a0.length:Int))) (by kernel_rfl) (fun hc=>?_) (fun hc=>?_)
      · have h:=cond_tt hc h
        refine T_skip fun a w hm=>then_norm (((?_:T Tryd.prog e 54 _ _ _) a w hm))
        refine T_seqk ?_
        refine T_block ?_
        refine T_reg [] [0,3,4,5,12,13] [(5,.d (.v (.int .i64 v5)))] [] 2 (by kernel_rfl) (trivial) ?_
        obtain ⟨hp1,h⟩:=chk_ok h
        obtain ⟨z1,hz1,h⟩:=lett_ok h
        refine T_reg [(6,{ rw:=some (.d (.v (.int .u32 z1))) })] [0,3,4,5,12,13] [(3,.d (.v (.int .u32 (IntKind.u32.wrap (z1+(1:Int))))))] [(4,0≤v5∧v5 < a0.length),(1,(True)∧AV.d (.v (.int .u32 (IntKind.u32.wrap ((IntKind.u32.wrap (v4 * (31:Int)))+(IntKind.u32.wrap ((a0.getD v5.toNat 0).toNat:Int))))))=.d (.v (.int .u32 z1)))] 2 (by kernel_rfl) (⟨hp1,⟨trivial,(by subst hz1; rfl)⟩⟩) ?_
        refine T_joinc h (fun (p:Int)=>[(0,.d (.str a0)),(3,.d (.v (.int .u32 p))),(4,.d (.v (.int .u32 v3))),(5,.d (.v (.int .i64 v5))),(12,.d (.v (.int .i64 (a0.length:Int)))),(13,.d (.v (.int .i64 v5)))]) (fun s h=>?_) (fun v6 h=>?_)
        · refine T_reg [] [0,3,4,5,12,13,25] [(25,.d (.v (.bool (decide (v5 ≥ (16:Int))))))] [] 2 (by kernel_rfl) (trivial) ?_
          refine T_cond (decide (v5 ≥ (16:Int))) (by kernel_rfl) (fun hc=>?_) (fun hc=>?_)
          · have h:=cond_tt hc h
            obtain ⟨hp2,h⟩:=chk_ok h
            obtain ⟨z2,hz2,h⟩:=lett_ok h
            obtain hs:=Option.some.inj h; subst hs
            refine T_reg_end [(7,{ rw:=some (.d (.v (.int .u32 z2))) })] [0,3,4,5,12,13] [(3,.d (.v (.int .u32 (IntKind.u32.wrap ((IntKind.u32.wrap (z1+(1:Int))) - (IntKind.u32.wrap (v3 * z2)))))))] [(5,0≤(IntKind.i64.wrap (v5 - (16:Int)))∧(IntKind.i64.wrap (v5 - (16:Int))) < a0.length),(1,(True)∧AV.d (.v (.int .u32 (IntKind.u32.wrap ((IntKind.u32.wrap ((a0.getD (IntKind.i64.wrap (v5 - (16:Int))).toNat 0).toNat:Int))+(1:Int)))))=.d (.v (.int .u32 z2)))] 3 (by kernel_rfl) (⟨hp2,⟨trivial,(by subst hz2; rfl)⟩⟩) fun a w hm=>then_norm (hm.co (cs:=[.keep [0,3,4,5,12,13]]) (by show _=_; kernel_rfl))
          · have h:=cond_ff hc h
            obtain hs:=Option.some.inj h; subst hs
            refine T_skip fun a w hm=>then_norm (hm.co (cs:=[.keep [0,3,4,5,12,13]]) (by show _=_; kernel_rfl))
        · skip
          obtain ⟨z3,hz3,h⟩:=lett_ok h
          refine T_reg [(11,{ rw:=some (.d (.v (.bool z3))) })] [0,3,4,5,12,13,48] [(48,.d (.v (.bool (bif (decide ((IntKind.i64.wrap (v5+(1:Int))) ≥ (256:Int))) then true else z3))))] [(4,((((decide ((IntKind.i64.wrap (v5+(1:Int))) ≥ (256:Int))) == false) && true)=true→True)),(0,((((decide ((IntKind.i64.wrap (v5+(1:Int))) ≥ (256:Int))) == false) && true)=true→True)),(0,((((decide ((IntKind.i64.wrap (v5+(1:Int))) ≥ (256:Int))) == false) && true)=true→True)),(0,((((decide ((IntKind.i64.wrap (v5+(1:Int))) ≥ (256:Int))) == false) && true)=true→True)),(0,((((decide ((IntKind.i64.wrap (v5+(1:Int))) ≥ (32:Int))) == true) && (((decide ((IntKind.i64.wrap (v5+(1:Int))) ≥ (256:Int))) == false) && true))=true→True)),(0,((((decide ((IntKind.i64.wrap (v5+(1:Int))) ≥ (32:Int))) == true) && (((decide ((IntKind.i64.wrap (v5+(1:Int))) ≥ (256:Int))) == false) && true))=true→0≤(26:Int))),(0,((((decide ((IntKind.i64.wrap (v5+(1:Int))) ≥ (32:Int))) == true) && (((decide ((IntKind.i64.wrap (v5+(1:Int))) ≥ (256:Int))) == false) && true))=true→True)),(0,((((decide ((IntKind.i64.wrap (v5+(1:Int))) ≥ (256:Int))) == false) && true)=true→(True)∧AV.d (.v (.bool (bif (decide ((IntKind.i64.wrap (v5+(1:Int))) ≥ (32:Int))) then ((v6.fdiv (2 ^ (min (26:Int).toNat IntKind.u32.bits))) == (0:Int)) else false)))=.d (.v (.bool z3))))] 1 (by kernel_rfl) (⟨(fun hg=>trivial),(fun hg=>trivial),(fun hg=>trivial),(fun hg=>trivial),(fun hg=>trivial),(fun hg=>(show 0≤(26:Int) by decide)),(fun hg=>trivial),(fun hg=>⟨trivial,(by subst hz3; rfl)⟩)⟩) ?_
          refine T_cond (bif (decide ((IntKind.i64.wrap (v5+(1:Int))) ≥ (256:Int))) then true else z3) (by kernel_rfl) (fun hc=>?_) (fun hc=>?_)
          · have h:=cond_tt hc h
            refine T_reg [] [2] [(2,.d (.v (.int .i64 (IntKind.i64.wrap (v5+(1:Int))))))] [] 3 (by kernel_rfl) (trivial) ?_
            obtain hs:=Option.some.inj h; subst hs
            have h:=callE_esc hk1
            obtain hs:=Option.some.inj h; subst hs
            refine T_ret fun a w hm=>inBlock_ret (then_ret (then_ret (inBlock_ret (then_ret (then_ret (T_return (fr':=[(2,.d (.v (.int .i64 (IntKind.i64.wrap (v5+(1:Int))))))]) [2] (by kernel_rfl) [.keep [2]] (by kernel_rfl) (by kernel_rfl) (by kernel_rfl) (by show _=_; kernel_rfl) (by exact trivial) a w hm))))))
          · have h:=cond_ff hc h
            refine T_skip fun a w hm=>inBlock_norm (then_norm (((?_:T Tryd.prog e 54 _ _ _) a w hm)))
            refine T_reg_end [] [0,3,4,12,13] [(13,.d (.v (.int .i64 (IntKind.i64.wrap (v5+(1:Int))))))] [] 2 (by kernel_rfl) (trivial) fun a w hm=>then_norm (⟨(v6,IntKind.i64.wrap (v5+(1:Int))),h,hm.co (cs:=[.keep [0,3,4,12,13]]) (by show _=_; kernel_rfl)⟩)
      · have h:=cond_ff hc h
        obtain hs:=Option.some.inj h; subst hs
        refine T_exit fun a w hm=>then_exit (then_exit (inBlock_exit (then_norm (⟨_,rfl,hm.co (cs:=[.keep [0]]) (by show _=_; kernel_rfl)⟩))))
    · skip
      refine fun a w hm=>then_norm (((?_:T Tryd.prog e 54 _ _ _) a w hm))
      refine T_reg [] [2] [(2,.d (.v (.int .i64 (a0.length:Int))))] [] 3 (by kernel_rfl) (trivial) ?_
      obtain hs:=Option.some.inj h; subst hs
      refine T_ret fun a w hm=>T_return (fr':=[(2,.d (.v (.int .i64 (a0.length:Int))))]) [2] (by kernel_rfl) [.keep [2]] (by kernel_rfl) (by kernel_rfl) (by kernel_rfl) (by show _=_; kernel_rfl) (by exact trivial) a w hm
theorem archive_Cuts_ok {F:Nat} {a0:List UInt8} {r:(List Int)×Int} (h:archive_Cuts F a0=some r):ACall Tryd.prog 5 [.d (.str a0)] [] (.tup [.own 3 1 (r.1.map (cI .i64)),.d (.v (.int .i64 r.2))]) []:=by
  rw [archive_Cuts] at h
  refine ACall.intro (N:=21) Tryd.func5 rfl rfl rfl rfl rfl fun e=>?_
  refine T_reg [] [0] [] [] 2 (by kernel_rfl) (trivial) ?_
  refine T_seqk ?_
  refine T_reg [] [0,8] [(8,.d (.v (.bool (decide ((a0.length:Int) > (16384:Int))))))] [] 3 (by kernel_rfl) (trivial) ?_
  refine T_cond (decide ((a0.length:Int) > (16384:Int))) (by kernel_rfl) (fun hc=>?_) (fun hc=>?_)
  · have h:=cond_tt hc h
    refine T_reg [] [2,3] [(2,.own 3 1 ([].map (cI .i64))),(3,.d (.v (.int .i64 (2:Int))))] [] 2 (by kernel_rfl) (trivial) ?_
    obtain hs:=Option.some.inj h; subst hs
    refine T_ret fun a w hm=>then_ret (T_return (fr':=[(2,.own 3 1 ([].map (cI .i64))),(3,.d (.v (.int .i64 (2:Int))))]) [2,3] (by kernel_rfl) [.keep [2,3]] (by kernel_rfl) (by kernel_rfl) (by kernel_rfl) (by show _=_; kernel_rfl) (by exact trivial) a w hm)
  · have h:=cond_ff hc h
    refine T_skip fun a w hm=>then_norm (((?_:T Tryd.prog e 21 _ _ _) a w hm))
    refine T_reg [] [0,4] [(4,.own 3 1 ([].map (cI .i64)))] [] 1 (by kernel_rfl) (trivial) ?_
    refine T_joinc h (fun (p:(List Int))=>[(4,.own 3 1 (p.map (cI .i64)))]) (fun s h=>?_) (fun v3 h=>?_)
    · refine T_co [.keep [0,4]] ((fun (p:(List UInt8)×(List Int))=>[(0,.d (.str p.1)),(4,.own 3 1 (p.2.map (cI .i64)))]) (a0,[])) (by show _=_; kernel_rfl) ?_
      refine T_block ?_
      refine T_loopF (ι:=(List UInt8)×(List Int)) (fun (p:(List UInt8)×(List Int))=>[(0,.d (.str p.1)),(4,.own 3 1 (p.2.map (cI .i64)))]) (fun n p=>archive_Cuts_L0 F n p.1 p.2=some s) (fun i hh=>by simp [archive_Cuts_L0] at hh) (fun n p h=>?_) F (a0,[]) h
      obtain ⟨v1,v2⟩:=p
      have h:archive_Cuts_L0 F (n+1) v1 v2=some s:=h
      rw [archive_Cuts_L0] at h
      refine T_seqk ?_
      refine T_reg [] [0,4,10] [(10,.d (.v (.bool (!(v1 == [])))))] [] 2 (by kernel_rfl) (trivial) ?_
      refine T_cond (!(v1 == [])) (by kernel_rfl) (fun hc=>?_) (fun hc=>?_)
      · have h:=cond_tt hc h
        refine T_skip fun a w hm=>then_norm (((?_:T Tryd.prog e 21 _ _ _) a w hm))
        refine T_block ?_
        obtain ⟨y1,hy1,h⟩:=call_ok h
        refine T_reg [(1,{ res:=.d (.v (.int .i64 y1)) })] [0,4,5] [(5,.d (.v (.int .i64 y1)))] [(1,ACall Tryd.prog 12 [.d (.str v1)] [] (.d (.v (.int .i64 y1))) [])] 1 (by kernel_rfl) (archive_cut_ok hy1) ?_
        obtain ⟨hp1,h⟩:=chk_ok h
        refine T_reg [(2,{ es:=some (([y1]).map (cI .i64)) }),(3,{ es:=some ((v2++([y1])).map (cI .i64)) })] [0,4,5] [(4,.own 3 1 ((v2++([y1])).map (cI .i64)))] [(2,(([y1]).map (cI .i64))=(([y1]).map (cI .i64))),(0,(v2.map (cI .i64)).length+(([y1]).map (cI .i64)).length≤4294967296∧(v2.map (cI .i64))++(([y1]).map (cI .i64))=((v2++([y1])).map (cI .i64)))] 1 (by kernel_rfl) (⟨rfl,app_ok (cI .i64) hp1⟩) ?_
        obtain ⟨hp2,h⟩:=chk_ok h
        refine T_reg_end [] [0,4] [(0,.d (.str ((v1.drop y1.toNat).take ((v1.length:Int).toNat - y1.toNat))))] [(2,0≤y1∧y1≤(v1.length:Int)∧(v1.length:Int)≤(v1.length:Int))] 1 (by kernel_rfl) (hp2) fun a w hm=>inBlock_norm (then_norm (⟨(((v1.drop y1.toNat).take ((v1.length:Int).toNat - y1.toNat)),(v2++([y1]))),h,hm.co (cs:=[.keep [0,4]]) (by show _=_; kernel_rfl)⟩))
      · have h:=cond_ff hc h
        obtain hs:=Option.some.inj h; subst hs
        refine T_exit fun a w hm=>then_exit (then_exit (inBlock_exit (then_norm (hm.co (cs:=[.keep [4]]) (by show _=_; kernel_rfl)))))
    · skip
      refine T_reg [] [2,3,4] [(2,.vw (4,0)),(3,.d (.v (.int .i64 (0:Int))))] [] 3 (by kernel_rfl) (trivial) ?_
      obtain hs:=Option.some.inj h; subst hs
      refine T_ret fun a w hm=>T_return (fr':=[(2,.own 3 1 (v3.map (cI .i64))),(3,.d (.v (.int .i64 (0:Int))))]) [2,3] (by kernel_rfl) [.claim 2,.keep [2,3]] (by kernel_rfl) (by kernel_rfl) (by kernel_rfl) (by show _=_; kernel_rfl) (by exact trivial) a w hm
theorem slices_Equal_int_ok {F:Nat} {a0:List Int} {a1:List Int} {r:Bool} (h:slices_Equal_int F a0 a1=some r):ACall Tryd.prog 6 [.d (.sl 1 (a0.map (cI .i64))),.d (.sl 1 (a1.map (cI .i64)))] [] (.d (.v (.bool r))) []:=by
  rw [slices_Equal_int] at h
  refine ACall.intro (N:=26) Tryd.func6 rfl rfl rfl rfl rfl fun e=>?_
  refine T_reg [] [0,1] [] [] 1 (by kernel_rfl) (trivial) ?_
  refine T_seqk ?_
  refine T_reg [(1,{ rw:=some (.d (.v (.int .i64 (a0.length:Int)))) }),(3,{ rw:=some (.d (.v (.int .i64 (a1.length:Int)))) })] [0,1,10] [(10,.d (.v (.bool ((a0.length:Int) != (a1.length:Int)))))] [(1,True∧AV.d (.v (.int .i64 ((a0.map (cI .i64)).length:Int)))=.d (.v (.int .i64 (a0.length:Int)))),(1,True∧AV.d (.v (.int .i64 ((a1.map (cI .i64)).length:Int)))=.d (.v (.int .i64 (a1.length:Int))))] 1 (by kernel_rfl) (⟨len_ok (cI .i64),len_ok (cI .i64)⟩) ?_
  refine T_cond ((a0.length:Int) != (a1.length:Int)) (by kernel_rfl) (fun hc=>?_) (fun hc=>?_)
  · have h:=cond_tt hc h
    refine T_reg [] [4] [(4,.d (.v (.bool false)))] [] 1 (by kernel_rfl) (trivial) ?_
    obtain hs:=Option.some.inj h; subst hs
    refine T_ret fun a w hm=>then_ret (T_return (fr':=[(4,.d (.v (.bool false)))]) [4] (by kernel_rfl) [.keep [4]] (by kernel_rfl) (by kernel_rfl) (by kernel_rfl) (by show _=_; kernel_rfl) (by exact trivial) a w hm)
  · have h:=cond_ff hc h
    refine T_skip fun a w hm=>then_norm (((?_:T Tryd.prog e 26 _ _ _) a w hm))
    refine T_seqk ?_
    refine T_reg [(1,{ rw:=some (.d (.v (.int .i64 (a0.length:Int)))) })] [0,1,12,13] [(12,.d (.v (.int .i64 (a0.length:Int)))),(13,.d (.v (.int .i64 (0:Int))))] [(1,True∧AV.d (.v (.int .i64 ((a0.map (cI .i64)).length:Int)))=.d (.v (.int .i64 (a0.length:Int))))] 1 (by kernel_rfl) (len_ok (cI .i64)) ?_
    refine T_joinEt h (fun (p:Unit)=>[]) (fun s h hk1=>?_) (fun s h=>?_)
    · refine T_co [.keep [0,1,12,13]] ((fun (p:Int)=>[(0,.d (.sl 1 (a0.map (cI .i64)))),(1,.d (.sl 1 (a1.map (cI .i64)))),(12,.d (.v (.int .i64 (a0.length:Int)))),(13,.d (.v (.int .i64 p)))]) (0:Int)) (by show _=_; kernel_rfl) ?_
      refine T_block ?_
      refine T_loopF (ι:=Int) (fun (p:Int)=>[(0,.d (.sl 1 (a0.map (cI .i64)))),(1,.d (.sl 1 (a1.map (cI .i64)))),(12,.d (.v (.int .i64 (a0.length:Int)))),(13,.d (.v (.int .i64 p)))]) (fun n p=>slices_Equal_int_L0 F a0 a1 n p=some s) (fun i hh=>by simp [slices_Equal_int_L0] at hh) (fun n v1 h=>?_) F (0:Int) h
      have h:slices_Equal_int_L0 F a0 a1 (n+1) v1=some s:=h
      rw [slices_Equal_int_L0] at h
      refine T_reg [] [0,1,12,13,14] [(14,.d (.v (.bool (decide (v1 < (a0.length:Int))))))] [] 1 (by kernel_rfl) (trivial) ?_
      refine T_seqk ?_
      refine T_cond (decide (v1 < (a0.length:Int))) (by kernel_rfl) (fun hc=>?_) (fun hc=>?_)
      · have h:=cond_tt hc h
        refine T_skip fun a w hm=>then_norm (((?_:T Tryd.prog e 26 _ _ _) a w hm))
        refine T_seqk ?_
        refine T_block ?_
        refine T_reg [] [0,1,5,12,13] [(5,.d (.v (.int .i64 v1)))] [] 2 (by kernel_rfl) (trivial) ?_
        obtain ⟨hp1,h⟩:=chk_ok h
        obtain ⟨hp2,h⟩:=chk_ok h
        refine T_draw mixed [(2,{ cs:=(cI .i64) (a0.getD v1.toNat 0) }),(6,{ cs:=(cI .i64) (a1.getD v1.toNat 0) })] [0,1,12,13,24] [] [(0,.d (.sl 1 (a0.map (cI .i64)))),(1,.d (.sl 1 (a1.map (cI .i64)))),(12,.d (.v (.int .i64 (a0.length:Int)))),(13,.d (.v (.int .i64 v1))),(24,.d (.v (.bool ((a0.getD v1.toNat 0) != (a1.getD v1.toNat 0)))))] [(2,0≤v1∧(a0.map (cI .i64))[v1.toNat]? = some ((cI .i64) (a0.getD v1.toNat 0))),(3,0≤v1∧(a1.map (cI .i64))[v1.toNat]? = some ((cI .i64) (a1.getD v1.toNat 0)))] 2 (by kernel_rfl) (⟨idx_ok (d:=0) (cI .i64) hp1,idx_ok (d:=0) (cI .i64) hp2⟩) ?_
        refine T_cond ((a0.getD v1.toNat 0) != (a1.getD v1.toNat 0)) (by kernel_rfl) (fun hc=>?_) (fun hc=>?_)
        · have h:=cond_tt hc h
          refine T_reg [] [4] [(4,.d (.v (.bool false)))] [] 1 (by kernel_rfl) (trivial) ?_
          obtain hs:=Option.some.inj h; subst hs
          have h:=callE_esc hk1
          obtain hs:=Option.some.inj h; subst hs
          refine T_ret fun a w hm=>inBlock_ret (then_ret (then_ret (inBlock_ret (then_ret (then_ret (T_return (fr':=[(4,.d (.v (.bool false)))]) [4] (by kernel_rfl) [.keep [4]] (by kernel_rfl) (by kernel_rfl) (by kernel_rfl) (by show _=_; kernel_rfl) (by exact trivial) a w hm))))))
        · have h:=cond_ff hc h
          refine T_skip fun a w hm=>inBlock_norm (then_norm (((?_:T Tryd.prog e 26 _ _ _) a w hm)))
          refine T_reg_end [] [0,1,12,13] [(13,.d (.v (.int .i64 (IntKind.i64.wrap (v1+(1:Int))))))] [] 2 (by kernel_rfl) (trivial) fun a w hm=>then_norm (⟨IntKind.i64.wrap (v1+(1:Int)),h,hm.co (cs:=[.keep [0,1,12,13]]) (by show _=_; kernel_rfl)⟩)
      · have h:=cond_ff hc h
        obtain hs:=Option.some.inj h; subst hs
        refine T_exit fun a w hm=>then_exit (then_exit (inBlock_exit (then_norm (⟨_,rfl,hm.co (cs:=[.keep []]) (by show _=_; kernel_rfl)⟩))))
    · skip
      refine fun a w hm=>then_norm (((?_:T Tryd.prog e 26 _ _ _) a w hm))
      refine T_reg [] [4] [(4,.d (.v (.bool true)))] [] 1 (by kernel_rfl) (trivial) ?_
      obtain hs:=Option.some.inj h; subst hs
      refine T_ret fun a w hm=>T_return (fr':=[(4,.d (.v (.bool true)))]) [4] (by kernel_rfl) [.keep [4]] (by kernel_rfl) (by kernel_rfl) (by kernel_rfl) (by show _=_; kernel_rfl) (by exact trivial) a w hm
theorem ref3_Window_ok {F:Nat} {a0:List UInt8} {r:Int} (h:ref3_Window F a0=some r):ACall Tryd.prog 13 [.d (.str a0)] [] (.d (.v (.int .i64 r))) []:=by
  rw [ref3_Window] at h
  refine ACall.intro (N:=43) Tryd.func13 rfl rfl rfl rfl rfl fun e=>?_
  refine T_reg [] [0] [] [] 1 (by kernel_rfl) (trivial) ?_
  refine T_seqk ?_
  refine T_reg [] [0,3] [(3,.d (.v (.int .i64 (1:Int))))] [] 1 (by kernel_rfl) (trivial) ?_
  refine T_joinEt h (fun (p:Unit)=>[(0,.d (.str a0))]) (fun s h hk1=>?_) (fun s h=>?_)
  · refine T_co [.keep [0,3]] ((fun (p:Int)=>[(0,.d (.str a0)),(3,.d (.v (.int .i64 p)))]) (1:Int)) (by show _=_; kernel_rfl) ?_
    refine T_block ?_
    refine T_loopF (ι:=Int) (fun (p:Int)=>[(0,.d (.str a0)),(3,.d (.v (.int .i64 p)))]) (fun n p=>ref3_Window_L0 F a0 n p=some s) (fun i hh=>by simp [ref3_Window_L0] at hh) (fun n v1 h=>?_) F (1:Int) h
    have h:ref3_Window_L0 F a0 (n+1) v1=some s:=h
    rw [ref3_Window_L0] at h
    refine T_seqk ?_
    refine T_reg [] [0,3,14] [(14,.d (.v (.bool (bif (decide (v1 < (a0.length:Int))) then (decide (v1 < (256:Int))) else false))))] [(5,((((decide (v1 < (a0.length:Int))) == true) && true)=true→True)),(0,((((decide (v1 < (a0.length:Int))) == true) && true)=true→True))] 1 (by kernel_rfl) (⟨(fun hg=>trivial),(fun hg=>trivial)⟩) ?_
    refine T_cond (bif (decide (v1 < (a0.length:Int))) then (decide (v1 < (256:Int))) else false) (by kernel_rfl) (fun hc=>?_) (fun hc=>?_)
    · have h:=cond_tt hc h
      refine T_skip fun a w hm=>then_norm (((?_:T Tryd.prog e 43 _ _ _) a w hm))
      refine T_joinE h (fun (p:Unit)=>[(0,.d (.str a0)),(3,.d (.v (.int .i64 v1)))]) (fun s h hk2=>?_) (fun s h=>?_)
      · refine T_block ?_
        refine T_seqk ?_
        refine T_reg [] [0,3,18] [(18,.d (.v (.bool (decide (v1 < (32:Int))))))] [] 2 (by kernel_rfl) (trivial) ?_
        refine T_cond (decide (v1 < (32:Int))) (by kernel_rfl) (fun hc=>?_) (fun hc=>?_)
        · have h:=cond_tt hc h
          obtain hs:=Option.some.inj h; subst hs
          refine T_exit fun a w hm=>then_exit (inBlock_exit (then_norm (⟨_,rfl,hm.co (cs:=[.keep [0,3]]) (by show _=_; kernel_rfl)⟩)))
        · have h:=cond_ff hc h
          refine T_skip fun a w hm=>then_norm (((?_:T Tryd.prog e 43 _ _ _) a w hm))
          refine T_reg [] [0,3,4] [(4,.d (.v (.int .u32 (0:Int))))] [] 1 (by kernel_rfl) (trivial) ?_
          refine T_reg [] [0,3,4,5] [(5,.d (.v (.int .u32 (1:Int))))] [] 1 (by kernel_rfl) (trivial) ?_
          refine T_seqk ?_
          refine T_reg [] [0,3,4,5,19] [(19,.d (.v (.int .i64 (0:Int))))] [] 1 (by kernel_rfl) (trivial) ?_
          refine T_joinct h (fun (p:Int)=>[(0,.d (.str a0)),(3,.d (.v (.int .i64 v1))),(4,.d (.v (.int .u32 p)))]) (fun s h=>?_) (fun v5 h=>?_)
          · refine T_co [.keep [0,3,4,5,19]] ((fun (p:Int×Int×Int)=>[(0,.d (.str a0)),(3,.d (.v (.int .i64 v1))),(4,.d (.v (.int .u32 p.1))),(5,.d (.v (.int .u32 p.2.1))),(19,.d (.v (.int .i64 p.2.2)))]) ((0:Int),(1:Int),(0:Int))) (by show _=_; kernel_rfl) ?_
            refine T_block ?_
            refine T_loopF (ι:=Int×Int×Int) (fun (p:Int×Int×Int)=>[(0,.d (.str a0)),(3,.d (.v (.int .i64 v1))),(4,.d (.v (.int .u32 p.1))),(5,.d (.v (.int .u32 p.2.1))),(19,.d (.v (.int .i64 p.2.2)))]) (fun n p=>ref3_Window_L2 F a0 v1 n p.1 p.2.1 p.2.2=some s) (fun i hh=>by simp [ref3_Window_L2] at hh) (fun n p h=>?_) F ((0:Int),(1:Int),(0:Int)) h
            obtain ⟨v2,v3,v4⟩:=p
            have h:ref3_Window_L2 F a0 v1 (n+1) v2 v3 v4=some s:=h
            rw [ref3_Window_L2] at h
            refine T_reg [] [0,3,4,5,19,20] [(20,.d (.v (.bool (decide (v4 < (16:Int))))))] [] 1 (by kernel_rfl) (trivial) ?_
            refine T_seqk ?_
            refine T_cond (decide (v4 < (16:Int))) (by kernel_rfl) (fun hc=>?_) (fun hc=>?_)
            · have h:=cond_tt hc h
              refine T_skip fun a w hm=>then_norm (((?_:T Tryd.prog e 43 _ _ _) a w hm))
              refine T_seqk ?_
              refine T_block ?_
              refine T_reg [] [0,3,4,5,6,19] [(6,.d (.v (.int .i64 v4)))] [] 2 (by kernel_rfl) (trivial) ?_
              obtain ⟨hp1,h⟩:=chk_ok h
              obtain ⟨z1,hz1,h⟩:=lett_ok h
              refine T_reg [(7,{ rw:=some (.d (.v (.int .u32 z1))) })] [0,3,4,5,19] [(4,.d (.v (.int .u32 (IntKind.u32.wrap (v2+(IntKind.u32.wrap ((IntKind.u32.wrap (z1+(1:Int))) * v3)))))))] [(6,0≤(IntKind.i64.wrap ((IntKind.i64.wrap (v1 - (1:Int))) - v4))∧(IntKind.i64.wrap ((IntKind.i64.wrap (v1 - (1:Int))) - v4)) < a0.length),(0,(True)∧AV.d (.v (.int .u32 (IntKind.u32.wrap ((a0.getD (IntKind.i64.wrap ((IntKind.i64.wrap (v1 - (1:Int))) - v4)).toNat 0).toNat:Int))))=.d (.v (.int .u32 z1)))] 5 (by kernel_rfl) (⟨hp1,⟨trivial,(by subst hz1; rfl)⟩⟩) ?_
              refine T_reg_end [] [0,3,4,5,19] [(5,.d (.v (.int .u32 (IntKind.u32.wrap (v3 * (31:Int))))))] [] 3 (by kernel_rfl) (trivial) fun a w hm=>inBlock_norm (then_norm (((?_:T Tryd.prog e 43 _ _ _) a w hm)))
              refine T_reg_end [] [0,3,4,5,19] [(19,.d (.v (.int .i64 (IntKind.i64.wrap (v4+(1:Int))))))] [] 2 (by kernel_rfl) (trivial) fun a w hm=>then_norm (⟨(IntKind.u32.wrap (v2+(IntKind.u32.wrap ((IntKind.u32.wrap (z1+(1:Int))) * v3))),IntKind.u32.wrap (v3 * (31:Int)),IntKind.i64.wrap (v4+(1:Int))),h,hm.co (cs:=[.keep [0,3,4,5,19]]) (by show _=_; kernel_rfl)⟩)
            · have h:=cond_ff hc h
              obtain hs:=Option.some.inj h; subst hs
              refine T_exit fun a w hm=>then_exit (then_exit (inBlock_exit (then_norm (hm.co (cs:=[.keep [0,3,4]]) (by show _=_; kernel_rfl)))))
          · skip
            refine fun a w hm=>then_norm (((?_:T Tryd.prog e 43 _ _ _) a w hm))
            refine T_reg [] [0,3,38] [(38,.d (.v (.bool (decide (v5 < (67108864:Int))))))] [] 2 (by kernel_rfl) (trivial) ?_
            refine T_cond (decide (v5 < (67108864:Int))) (by kernel_rfl) (fun hc=>?_) (fun hc=>?_)
            · have h:=cond_tt hc h
              refine T_reg [] [2] [(2,.d (.v (.int .i64 v1)))] [] 2 (by kernel_rfl) (trivial) ?_
              obtain hs:=Option.some.inj h; subst hs
              have h:=callE_esc hk2
              obtain hs:=Option.some.inj h; subst hs
              have h:=callE_esc hk1
              obtain hs:=Option.some.inj h; subst hs
              refine T_ret fun a w hm=>inBlock_ret (then_ret (then_ret (inBlock_ret (then_ret (then_ret (T_return (fr':=[(2,.d (.v (.int .i64 v1)))]) [2] (by kernel_rfl) [.keep [2]] (by kernel_rfl) (by kernel_rfl) (by kernel_rfl) (by show _=_; kernel_rfl) (by exact trivial) a w hm))))))
            · have h:=cond_ff hc h
              obtain hs:=Option.some.inj h; subst hs
              refine T_skip fun a w hm=>inBlock_norm (then_norm (⟨_,rfl,hm.co (cs:=[.keep [0,3]]) (by show _=_; kernel_rfl)⟩))
      · skip
        refine T_reg_end [] [0,3] [(3,.d (.v (.int .i64 (IntKind.i64.wrap (v1+(1:Int))))))] [] 3 (by kernel_rfl) (trivial) fun a w hm=>then_norm (⟨IntKind.i64.wrap (v1+(1:Int)),h,hm.co (cs:=[.keep [0,3]]) (by show _=_; kernel_rfl)⟩)
    · have h:=cond_ff hc h
      obtain hs:=Option.some.inj h; subst hs
      refine T_exit fun a w hm=>then_exit (then_exit (inBlock_exit (then_norm (⟨_,rfl,hm.co (cs:=[.keep [0]]) (by show _=_; kernel_rfl)⟩))))
  · skip
    refine fun a w hm=>then_norm (((?_:T Tryd.prog e 43 _ _ _) a w hm))
    refine T_reg [] [2] [(2,.d (.v (.int .i64 (if (256:Int) < (a0.length:Int) then (256:Int) else (a0.length:Int)))))] [] 4 (by kernel_rfl) (trivial) ?_
    obtain hs:=Option.some.inj h; subst hs
    refine T_ret fun a w hm=>T_return (fr':=[(2,.d (.v (.int .i64 (if (256:Int) < (a0.length:Int) then (256:Int) else (a0.length:Int)))))]) [2] (by kernel_rfl) [.keep [2]] (by kernel_rfl) (by kernel_rfl) (by kernel_rfl) (by show _=_; kernel_rfl) (by exact trivial) a w hm
theorem ref3_Windows_ok {F:Nat} {a0:List UInt8} {r:(List Int)} (h:ref3_Windows F a0=some r):ACall Tryd.prog 7 [.d (.str a0)] [] (.own 3 1 (r.map (cI .i64))) []:=by
  rw [ref3_Windows] at h
  refine ACall.intro (N:=17) Tryd.func7 rfl rfl rfl rfl rfl fun e=>?_
  refine T_reg [] [0] [] [] 1 (by kernel_rfl) (trivial) ?_
  refine T_reg [] [0,3] [(3,.own 3 1 ([].map (cI .i64)))] [] 1 (by kernel_rfl) (trivial) ?_
  refine T_joinc h (fun (p:(List Int))=>[(3,.own 3 1 (p.map (cI .i64)))]) (fun s h=>?_) (fun v3 h=>?_)
  · refine T_co [.keep [0,3]] ((fun (p:(List UInt8)×(List Int))=>[(0,.d (.str p.1)),(3,.own 3 1 (p.2.map (cI .i64)))]) (a0,[])) (by show _=_; kernel_rfl) ?_
    refine T_block ?_
    refine T_loopF (ι:=(List UInt8)×(List Int)) (fun (p:(List UInt8)×(List Int))=>[(0,.d (.str p.1)),(3,.own 3 1 (p.2.map (cI .i64)))]) (fun n p=>ref3_Windows_L0 F n p.1 p.2=some s) (fun i hh=>by simp [ref3_Windows_L0] at hh) (fun n p h=>?_) F (a0,[]) h
    obtain ⟨v1,v2⟩:=p
    have h:ref3_Windows_L0 F (n+1) v1 v2=some s:=h
    rw [ref3_Windows_L0] at h
    refine T_seqk ?_
    refine T_reg [] [0,3,6] [(6,.d (.v (.bool (!(v1 == [])))))] [] 2 (by kernel_rfl) (trivial) ?_
    refine T_cond (!(v1 == [])) (by kernel_rfl) (fun hc=>?_) (fun hc=>?_)
    · have h:=cond_tt hc h
      refine T_skip fun a w hm=>then_norm (((?_:T Tryd.prog e 17 _ _ _) a w hm))
      refine T_block ?_
      obtain ⟨y1,hy1,h⟩:=call_ok h
      refine T_reg [(1,{ res:=.d (.v (.int .i64 y1)) })] [0,3,4] [(4,.d (.v (.int .i64 y1)))] [(1,ACall Tryd.prog 13 [.d (.str v1)] [] (.d (.v (.int .i64 y1))) [])] 1 (by kernel_rfl) (ref3_Window_ok hy1) ?_
      obtain ⟨hp1,h⟩:=chk_ok h
      refine T_reg [(2,{ es:=some (([y1]).map (cI .i64)) }),(3,{ es:=some ((v2++([y1])).map (cI .i64)) })] [0,3,4] [(3,.own 3 1 ((v2++([y1])).map (cI .i64)))] [(2,(([y1]).map (cI .i64))=(([y1]).map (cI .i64))),(0,(v2.map (cI .i64)).length+(([y1]).map (cI .i64)).length≤4294967296∧(v2.map (cI .i64))++(([y1]).map (cI .i64))=((v2++([y1])).map (cI .i64)))] 1 (by kernel_rfl) (⟨rfl,app_ok (cI .i64) hp1⟩) ?_
      obtain ⟨hp2,h⟩:=chk_ok h
      refine T_reg_end [] [0,3] [(0,.d (.str ((v1.drop y1.toNat).take ((v1.length:Int).toNat - y1.toNat))))] [(2,0≤y1∧y1≤(v1.length:Int)∧(v1.length:Int)≤(v1.length:Int))] 1 (by kernel_rfl) (hp2) fun a w hm=>inBlock_norm (then_norm (⟨(((v1.drop y1.toNat).take ((v1.length:Int).toNat - y1.toNat)),(v2++([y1]))),h,hm.co (cs:=[.keep [0,3]]) (by show _=_; kernel_rfl)⟩))
    · have h:=cond_ff hc h
      obtain hs:=Option.some.inj h; subst hs
      refine T_exit fun a w hm=>then_exit (then_exit (inBlock_exit (then_norm (hm.co (cs:=[.keep [3]]) (by show _=_; kernel_rfl)))))
  · skip
    refine T_reg [] [2,3] [(2,.vw (3,0))] [] 2 (by kernel_rfl) (trivial) ?_
    obtain hs:=Option.some.inj h; subst hs
    refine T_ret fun a w hm=>T_return (fr':=[(2,.own 3 1 (v3.map (cI .i64)))]) [2] (by kernel_rfl) [.claim 2,.keep [2]] (by kernel_rfl) (by kernel_rfl) (by kernel_rfl) (by show _=_; kernel_rfl) (by exact trivial) a w hm
theorem archive_plain_ok {F:Nat} {a0:List UInt8} {r:Bool} (h:archive_plain F a0=some r):ACall Tryd.prog 14 [.d (.str a0)] [] (.d (.v (.bool r))) []:=by
  rw [archive_plain] at h
  refine ACall.intro (N:=45) Tryd.func14 rfl rfl rfl rfl rfl fun e=>?_
  refine T_reg [] [0] [] [] 1 (by kernel_rfl) (trivial) ?_
  refine T_seqk ?_
  refine T_reg [] [0,6,7] [(6,.d (.v (.int .i64 (a0.length:Int)))),(7,.d (.v (.int .i64 (0:Int))))] [] 3 (by kernel_rfl) (trivial) ?_
  refine T_joinEt h (fun (p:Unit)=>[(0,.d (.str a0))]) (fun s h hk1=>?_) (fun s h=>?_)
  · refine T_co [.keep [0,6,7]] ((fun (p:Int)=>[(0,.d (.str a0)),(6,.d (.v (.int .i64 (a0.length:Int)))),(7,.d (.v (.int .i64 p)))]) (0:Int)) (by show _=_; kernel_rfl) ?_
    refine T_block ?_
    refine T_loopF (ι:=Int) (fun (p:Int)=>[(0,.d (.str a0)),(6,.d (.v (.int .i64 (a0.length:Int)))),(7,.d (.v (.int .i64 p)))]) (fun n p=>archive_plain_L0 F a0 n p=some s) (fun i hh=>by simp [archive_plain_L0] at hh) (fun n v1 h=>?_) F (0:Int) h
    have h:archive_plain_L0 F a0 (n+1) v1=some s:=h
    rw [archive_plain_L0] at h
    refine T_reg [] [0,6,7,8] [(8,.d (.v (.bool (decide (v1 < (a0.length:Int))))))] [] 1 (by kernel_rfl) (trivial) ?_
    refine T_seqk ?_
    refine T_cond (decide (v1 < (a0.length:Int))) (by kernel_rfl) (fun hc=>?_) (fun hc=>?_)
    · have h:=cond_tt hc h
      refine T_skip fun a w hm=>then_norm (((?_:T Tryd.prog e 45 _ _ _) a w hm))
      refine T_seqk ?_
      refine T_block ?_
      refine T_reg [] [0,3,6,7] [(3,.d (.v (.int .i64 v1)))] [] 2 (by kernel_rfl) (trivial) ?_
      obtain ⟨hp1,h⟩:=chk_ok h
      refine T_reg [] [0,3,4,6,7] [(4,.d (.v (.int .u8 ((a0.getD v1.toNat 0).toNat:Int))))] [(2,0≤v1∧v1 < a0.length)] 1 (by kernel_rfl) (hp1) ?_
      obtain ⟨z1,hz1,h⟩:=lett_ok h
      obtain ⟨z2,hz2,h⟩:=lett_ok h
      obtain ⟨z3,hz3,h⟩:=lett_ok h
      refine T_reg [(5,{ rw:=some (.d (.v (.bool z1))) }),(16,{ rw:=some (.d (.v (.bool z2))) }),(22,{ rw:=some (.d (.v (.bool z3))) })] [0,6,7,36] [(36,.d (.v (.bool (bif (!z1) then z3 else false))))] [(3,((((decide ((97:Int)≤((a0.getD v1.toNat 0).toNat:Int))) == true) && true)=true→True)),(0,((((decide ((97:Int)≤((a0.getD v1.toNat 0).toNat:Int))) == true) && true)=true→True)),(0,(True)∧AV.d (.v (.bool (bif (decide ((97:Int)≤((a0.getD v1.toNat 0).toNat:Int))) then (decide (((a0.getD v1.toNat 0).toNat:Int)≤(122:Int))) else false)))=.d (.v (.bool z1))),(2,((((!z1) == true) && true)=true→True)),(0,((((!z1) == true) && true)=true→True)),(0,((((!z1) == true) && true)=true→True)),(0,((((v1 == (0:Int)) == false) && (((!z1) == true) && true))=true→True)),(0,((((v1 == (0:Int)) == false) && (((!z1) == true) && true))=true→True)),(0,((((v1 == (0:Int)) == false) && (((!z1) == true) && true))=true→True)),(0,((((decide ((48:Int)≤((a0.getD v1.toNat 0).toNat:Int))) == true) && (((v1 == (0:Int)) == false) && (((!z1) == true) && true)))=true→True)),(0,((((decide ((48:Int)≤((a0.getD v1.toNat 0).toNat:Int))) == true) && (((v1 == (0:Int)) == false) && (((!z1) == true) && true)))=true→True)),(0,((((v1 == (0:Int)) == false) && (((!z1) == true) && true))=true→(True)∧AV.d (.v (.bool (bif (decide ((48:Int)≤((a0.getD v1.toNat 0).toNat:Int))) then (decide (((a0.getD v1.toNat 0).toNat:Int)≤(57:Int))) else false)))=.d (.v (.bool z2)))),(0,((((v1 == (0:Int)) == false) && (((!z1) == true) && true))=true→True)),(0,((((v1 == (0:Int)) == false) && (((!z1) == true) && true))=true→True)),(0,((((!z2) == true) && (((v1 == (0:Int)) == false) && (((!z1) == true) && true)))=true→True)),(0,((((!z2) == true) && (((v1 == (0:Int)) == false) && (((!z1) == true) && true)))=true→True)),(0,((((v1 == (0:Int)) == false) && (((!z1) == true) && true))=true→True)),(0,((((!z1) == true) && true)=true→(True)∧AV.d (.v (.bool (bif (v1 == (0:Int)) then true else (bif (!z2) then (((a0.getD v1.toNat 0).toNat:Int) != (45:Int)) else false))))=.d (.v (.bool z3))))] 1 (by kernel_rfl) (⟨(fun hg=>trivial),(fun hg=>trivial),⟨trivial,(by subst hz1; rfl)⟩,(fun hg=>trivial),(fun hg=>trivial),(fun hg=>trivial),(fun hg=>trivial),(fun hg=>trivial),(fun hg=>trivial),(fun hg=>trivial),(fun hg=>trivial),(fun hg=>⟨trivial,(by subst hz2; rfl)⟩),(fun hg=>trivial),(fun hg=>trivial),(fun hg=>trivial),(fun hg=>trivial),(fun hg=>trivial),(fun hg=>⟨trivial,(by subst hz3; rfl)⟩)⟩) ?_
      refine T_cond (bif (!z1) then z3 else false) (by kernel_rfl) (fun hc=>?_) (fun hc=>?_)
      · have h:=cond_tt hc h
        refine T_reg [] [2] [(2,.d (.v (.bool false)))] [] 1 (by kernel_rfl) (trivial) ?_
        obtain hs:=Option.some.inj h; subst hs
        have h:=callE_esc hk1
        obtain hs:=Option.some.inj h; subst hs
        refine T_ret fun a w hm=>inBlock_ret (then_ret (then_ret (inBlock_ret (then_ret (then_ret (T_return (fr':=[(2,.d (.v (.bool false)))]) [2] (by kernel_rfl) [.keep [2]] (by kernel_rfl) (by kernel_rfl) (by kernel_rfl) (by show _=_; kernel_rfl) (by exact trivial) a w hm))))))
      · have h:=cond_ff hc h
        refine T_skip fun a w hm=>inBlock_norm (then_norm (((?_:T Tryd.prog e 45 _ _ _) a w hm)))
        refine T_reg_end [] [0,6,7] [(7,.d (.v (.int .i64 (IntKind.i64.wrap (v1+(1:Int))))))] [] 2 (by kernel_rfl) (trivial) fun a w hm=>then_norm (⟨IntKind.i64.wrap (v1+(1:Int)),h,hm.co (cs:=[.keep [0,6,7]]) (by show _=_; kernel_rfl)⟩)
    · have h:=cond_ff hc h
      obtain hs:=Option.some.inj h; subst hs
      refine T_exit fun a w hm=>then_exit (then_exit (inBlock_exit (then_norm (⟨_,rfl,hm.co (cs:=[.keep [0]]) (by show _=_; kernel_rfl)⟩))))
  · skip
    refine fun a w hm=>then_norm (((?_:T Tryd.prog e 45 _ _ _) a w hm))
    refine T_reg [] [2] [(2,.d (.v (.bool (bif (!(a0 == [])) then (decide ((a0.length:Int)≤(16:Int))) else false))))] [(3,((((!(a0 == [])) == true) && true)=true→True)),(0,((((!(a0 == [])) == true) && true)=true→True)),(0,((((!(a0 == [])) == true) && true)=true→True))] 2 (by kernel_rfl) (⟨(fun hg=>trivial),(fun hg=>trivial),(fun hg=>trivial)⟩) ?_
    obtain hs:=Option.some.inj h; subst hs
    refine T_ret fun a w hm=>T_return (fr':=[(2,.d (.v (.bool (bif (!(a0 == [])) then (decide ((a0.length:Int)≤(16:Int))) else false))))]) [2] (by kernel_rfl) [.keep [2]] (by kernel_rfl) (by kernel_rfl) (by kernel_rfl) (by show _=_; kernel_rfl) (by exact trivial) a w hm
theorem filter_Sum_ok {F:Nat} {a0:List UInt8} {r:Int} (h:filter_Sum F a0=some r):ACall Tryd.prog 22 [.d (.str a0)] [.glo 0 (glob_filter_steps.flatMap (cI .u32))] (.d (.v (.int .u32 r))) [.glo 0 (glob_filter_steps.flatMap (cI .u32))]:=by
  rw [filter_Sum] at h
  refine ACall.intro (N:=33) Tryd.func22 rfl rfl rfl rfl rfl fun e=>?_
  refine T_reg [] [0,1000000] [] [] 1 (by kernel_rfl) (trivial) ?_
  refine T_reg [] [0,3,1000000] [(3,.d (.v (.int .u32 (4294967295:Int))))] [] 1 (by kernel_rfl) (trivial) ?_
  refine T_seqk ?_
  refine T_reg [] [0,3,6,7,1000000] [(6,.d (.v (.int .i64 (a0.length:Int)))),(7,.d (.v (.int .i64 (0:Int))))] [] 3 (by kernel_rfl) (trivial) ?_
  refine T_joinct h (fun (p:Int)=>[(3,.d (.v (.int .u32 p))),(1000000,.glo 0 (glob_filter_steps.flatMap (cI .u32)))]) (fun s h=>?_) (fun v3 h=>?_)
  · refine T_co [.keep [0,3,6,7,1000000]] ((fun (p:Int×Int)=>[(0,.d (.str a0)),(3,.d (.v (.int .u32 p.1))),(6,.d (.v (.int .i64 (a0.length:Int)))),(7,.d (.v (.int .i64 p.2))),(1000000,.glo 0 (glob_filter_steps.flatMap (cI .u32)))]) ((4294967295:Int),(0:Int))) (by show _=_; kernel_rfl) ?_
    refine T_block ?_
    refine T_loopF (ι:=Int×Int) (fun (p:Int×Int)=>[(0,.d (.str a0)),(3,.d (.v (.int .u32 p.1))),(6,.d (.v (.int .i64 (a0.length:Int)))),(7,.d (.v (.int .i64 p.2))),(1000000,.glo 0 (glob_filter_steps.flatMap (cI .u32)))]) (fun n p=>filter_Sum_L0 F a0 n p.1 p.2=some s) (fun i hh=>by simp [filter_Sum_L0] at hh) (fun n p h=>?_) F ((4294967295:Int),(0:Int)) h
    obtain ⟨v1,v2⟩:=p
    have h:filter_Sum_L0 F a0 (n+1) v1 v2=some s:=h
    rw [filter_Sum_L0] at h
    refine T_reg [] [0,3,6,7,8,1000000] [(8,.d (.v (.bool (decide (v2 < (a0.length:Int))))))] [] 1 (by kernel_rfl) (trivial) ?_
    refine T_seqk ?_
    refine T_cond (decide (v2 < (a0.length:Int))) (by kernel_rfl) (fun hc=>?_) (fun hc=>?_)
    · have h:=cond_tt hc h
      refine T_skip fun a w hm=>then_norm (((?_:T Tryd.prog e 33 _ _ _) a w hm))
      refine T_seqk ?_
      refine T_block ?_
      refine T_reg [] [0,3,4,6,7,1000000] [(4,.d (.v (.int .i64 v2)))] [] 2 (by kernel_rfl) (trivial) ?_
      obtain ⟨hp1,h⟩:=chk_ok h
      obtain ⟨z1,hz1,h⟩:=lett_ok h
      refine T_reg [(5,{ rw:=some (.d (.v (.int .u32 z1))) })] [0,3,6,7,1000000] [(3,.d (.v (.int .u32 z1)))] [(3,0≤v2∧v2 < a0.length),(1,(True)∧AV.d (.v (.int .u32 (IntKind.u32.wrap ((BitVec.ofInt IntKind.u32.bits v1 ^^^ BitVec.ofInt IntKind.u32.bits (IntKind.u32.wrap ((a0.getD v2.toNat 0).toNat:Int))).toNat:Int))))=.d (.v (.int .u32 z1)))] 1 (by kernel_rfl) (⟨hp1,⟨trivial,(by subst hz1; rfl)⟩⟩) ?_
      obtain ⟨z2,hz2,h⟩:=lett_ok h
      obtain ⟨hp2,h⟩:=chk_ok h
      obtain ⟨z3,hz3,h⟩:=lett_ok h
      refine T_reg [(3,{ rw:=some (.d (.v (.int .u32 z2))) }),(4,{ rw:=some (.d (.pt (((cI .u32) (glob_filter_steps.getD z2.toNat 0))++((glob_filter_steps.flatMap (cI .u32)).drop (z2.toNat * 1+1))))) }),(6,{ rw:=some (.d (.v (.int .u32 z3))) })] [0,3,6,7,1000000] [(3,.d (.v (.int .u32 z3)))] [(1,0≤(4:Int)),(1,(True)∧AV.d (.v (.int .u32 (IntKind.u32.wrap ((BitVec.ofInt IntKind.u32.bits z1 &&& BitVec.ofInt IntKind.u32.bits (15:Int)).toNat:Int))))=.d (.v (.int .u32 z2))),(0,(0≤z2∧z2 < 16)∧AV.d (.pt ((glob_filter_steps.flatMap (cI .u32)).drop (z2.toNat * 1)))=AV.d (.pt (((cI .u32) (glob_filter_steps.getD z2.toNat 0))++((glob_filter_steps.flatMap (cI .u32)).drop (z2.toNat * 1+1))))),(1,(True)∧AV.d (.v (.int .u32 (IntKind.u32.wrap ((BitVec.ofInt IntKind.u32.bits (z1.fdiv (2 ^ (min (4:Int).toNat IntKind.u32.bits))) ^^^ BitVec.ofInt IntKind.u32.bits (glob_filter_steps.getD z2.toNat 0)).toNat:Int))))=.d (.v (.int .u32 z3)))] 1 (by kernel_rfl) (⟨(show 0≤(4:Int) by decide),⟨trivial,(by subst hz2; rfl)⟩,⟨hp2,glo_ok (cI .u32) 1 16 (by decide) (fun _=>rfl) hp2⟩,⟨trivial,(by subst hz3; rfl)⟩⟩) ?_
      obtain ⟨z4,hz4,h⟩:=lett_ok h
      obtain ⟨hp3,h⟩:=chk_ok h
      obtain ⟨z5,hz5,h⟩:=lett_ok h
      refine T_reg_end [(3,{ rw:=some (.d (.v (.int .u32 z4))) }),(4,{ rw:=some (.d (.pt (((cI .u32) (glob_filter_steps.getD z4.toNat 0))++((glob_filter_steps.flatMap (cI .u32)).drop (z4.toNat * 1+1))))) }),(6,{ rw:=some (.d (.v (.int .u32 z5))) })] [0,3,6,7,1000000] [(3,.d (.v (.int .u32 z5)))] [(1,0≤(4:Int)),(1,(True)∧AV.d (.v (.int .u32 (IntKind.u32.wrap ((BitVec.ofInt IntKind.u32.bits z3 &&& BitVec.ofInt IntKind.u32.bits (15:Int)).toNat:Int))))=.d (.v (.int .u32 z4))),(0,(0≤z4∧z4 < 16)∧AV.d (.pt ((glob_filter_steps.flatMap (cI .u32)).drop (z4.toNat * 1)))=AV.d (.pt (((cI .u32) (glob_filter_steps.getD z4.toNat 0))++((glob_filter_steps.flatMap (cI .u32)).drop (z4.toNat * 1+1))))),(1,(True)∧AV.d (.v (.int .u32 (IntKind.u32.wrap ((BitVec.ofInt IntKind.u32.bits (z3.fdiv (2 ^ (min (4:Int).toNat IntKind.u32.bits))) ^^^ BitVec.ofInt IntKind.u32.bits (glob_filter_steps.getD z4.toNat 0)).toNat:Int))))=.d (.v (.int .u32 z5)))] 1 (by kernel_rfl) (⟨(show 0≤(4:Int) by decide),⟨trivial,(by subst hz4; rfl)⟩,⟨hp3,glo_ok (cI .u32) 1 16 (by decide) (fun _=>rfl) hp3⟩,⟨trivial,(by subst hz5; rfl)⟩⟩) fun a w hm=>inBlock_norm (then_norm (((?_:T Tryd.prog e 33 _ _ _) a w hm)))
      refine T_reg_end [] [0,3,6,7,1000000] [(7,.d (.v (.int .i64 (IntKind.i64.wrap (v2+(1:Int))))))] [] 2 (by kernel_rfl) (trivial) fun a w hm=>then_norm (⟨(z5,IntKind.i64.wrap (v2+(1:Int))),h,hm.co (cs:=[.keep [0,3,6,7,1000000]]) (by show _=_; kernel_rfl)⟩)
    · have h:=cond_ff hc h
      obtain hs:=Option.some.inj h; subst hs
      refine T_exit fun a w hm=>then_exit (then_exit (inBlock_exit (then_norm (hm.co (cs:=[.keep [3,1000000]]) (by show _=_; kernel_rfl)))))
  · skip
    refine fun a w hm=>then_norm (((?_:T Tryd.prog e 33 _ _ _) a w hm))
    obtain ⟨z6,hz6,h⟩:=lett_ok h
    refine T_reg [(1,{ rw:=some (.d (.v (.int .u32 z6))) })] [2,1000000] [(2,.d (.v (.int .u32 z6)))] [(1,(True)∧AV.d (.v (.int .u32 (IntKind.u32.wrap (((BitVec.ofInt IntKind.u32.bits (4294967295)) ^^^ (BitVec.ofInt IntKind.u32.bits v3)).toNat:Int))))=.d (.v (.int .u32 z6)))] 1 (by kernel_rfl) (⟨trivial,(by subst hz6; rfl)⟩) ?_
    obtain hs:=Option.some.inj h; subst hs
    refine T_ret fun a w hm=>T_return (fr':=[(2,.d (.v (.int .u32 z6))),(1000000,.glo 0 (glob_filter_steps.flatMap (cI .u32)))]) [2] (by kernel_rfl) [.keep [2,1000000]] (by kernel_rfl) (by kernel_rfl) (by kernel_rfl) (by show _=_; kernel_rfl) (by exact ⟨⟨by kernel_rfl,by kernel_rfl⟩,trivial⟩) a w hm
theorem strings_Clone_ok {F:Nat} {a0:List UInt8} {r:(List UInt8)} (h:strings_Clone F a0=some r):ACall Tryd.prog 24 [.d (.str a0)] [] (.d (.str r)) []:=by
  rw [strings_Clone] at h
  refine ACall.intro (N:=5) Tryd.func24 rfl rfl rfl rfl rfl fun e=>?_
  refine T_reg [] [0] [] [] 1 (by kernel_rfl) (trivial) ?_
  obtain ⟨hp1,h⟩:=chk_ok h
  refine T_reg [(1,{ res:=.d (.str a0) })] [2] [(2,.d (.str a0))] [(1,ACall Tryd.prog 29 [.d (.str a0)] [] (.d (.str a0)) [])] 1 (by kernel_rfl) (b_Clone hp1) ?_
  obtain hs:=Option.some.inj h; subst hs
  refine T_ret fun a w hm=>T_return (fr':=[(2,.d (.str a0))]) [2] (by kernel_rfl) [.keep [2]] (by kernel_rfl) (by kernel_rfl) (by kernel_rfl) (by show _=_; kernel_rfl) (by exact trivial) a w hm
end Go.Vm.ArcG
