import Derived.Test.YtkoocklcgndanaaDoorSubPb
namespace Go.Vm.SubG
open Go.Proofs
set_option maxRecDepth 20000
theorem ref3_nested_ok {F:Nat} {a0:S_Font} {r:(List Int)×(List Int)×Bool} (h:ref3_nested F a0=some r):ACall Tryd.prog 24 [.agg (cS_Font a0)] [] (.tup [.own 3 1 (r.1.map (cI .i64)),.own 3 1 (r.2.1.map (cI .i64)),.d (.v (.bool r.2.2))]) []:=by
 rw [ref3_nested] at h
 refine ACall.intro (N:=104) Tryd.func24 rfl rfl rfl rfl rfl fun e=>?_
 refine T_reg [] [1] [(1,.box [.d (.v (.int .i64 a0.f0)),.d (.sl 3 (a0.f1.map cS_FontGlyph)),.d (.sl 3 (a0.f2.map cS_FontRange)),.d (.sl 3 (a0.f3.map cS_FontPair))])] [] 4 (by kernel_rfl) (trivial) ?_
 refine T_reg [(2,{ rw:=some (.d (.v (.int .i64 (a0.f1.length:Int)))) })] [1,5] [(5,.d (.v (.int .i64 (a0.f1.length:Int))))] [(2,True∧AV.d (.v (.int .i64 ((a0.f1.map cS_FontGlyph).length:Int)))=.d (.v (.int .i64 (a0.f1.length:Int))))] 1 (by kernel_rfl) (len_ok cS_FontGlyph) ?_
 obtain ⟨hp1,h⟩:=chk_ok h
 obtain ⟨hp2,h⟩:=chk_ok h
 refine T_drawX mixed 2 (.take 0 (.take 2 (.all (.alt 1 (.take 4 (.all (.alt 3 (.take 5 .done) .stop))) (.alt 3 (.all (.alt 1 (.take 4 (.take 5 .done)) .stop)) .stop))))) ([0,1,0,4,3,31],[0,1,0,4,2,8]) 53 [(1,{ es:=some ((List.replicate (a0.f1.length:Int).toNat 0).map (cI .i64)) }),(3,{ es:=some ((List.replicate (a0.f1.length:Int).toNat 0).map (cI .i64)) })] [1,5,6,7] [] [(1,.box [.d (.v (.int .i64 a0.f0)),.d (.sl 3 (a0.f1.map cS_FontGlyph)),.d (.sl 3 (a0.f2.map cS_FontRange)),.d (.sl 3 (a0.f3.map cS_FontPair))]),(5,.d (.v (.int .i64 (a0.f1.length:Int)))),(6,.own 3 1 ((List.replicate (a0.f1.length:Int).toNat 0).map (cI .i64))),(7,.own 3 1 ((List.replicate (a0.f1.length:Int).toNat 0).map (cI .i64)))] ((fun (o1:Prop)=>fun (o3:Prop)=>[(2,o1),(1,o3),(1,o3),(0,o1)]) ((0≤(a0.f1.length:Int)∧(a0.f1.length:Int)≤(a0.f1.length:Int)∧(a0.f1.length:Int)≤9223372036854775807∧((8:Nat):Int) * (a0.f1.length:Int)≤281474976710656)∧List.replicate (a0.f1.length:Int).toNat ((cI .i64) 0)=((List.replicate (a0.f1.length:Int).toNat 0).map (cI .i64))) ((0≤(a0.f1.length:Int)∧(a0.f1.length:Int)≤(a0.f1.length:Int)∧(a0.f1.length:Int)≤9223372036854775807∧((8:Nat):Int) * (a0.f1.length:Int)≤281474976710656)∧List.replicate (a0.f1.length:Int).toNat ((cI .i64) 0)=((List.replicate (a0.f1.length:Int).toNat 0).map (cI .i64)))) 2 (by kernel_rfl) (by kernel_rfl) (by kernel_rfl) (have p1:=⟨hp1,repl_ok (cI .i64) rfl⟩; have p3:=⟨hp2,repl_ok (cI .i64) rfl⟩; ⟨p1,p3,p3,p1⟩) ?_
 refine T_reg [] [1,5,6,7,8] [(8,.d (.v (.int .i64 (a0.f1.length:Int))))] [] 2 (by kernel_rfl) (trivial) ?_
 refine T_seqk ?_
 refine T_reg [] [1,6,7,8,26,27] [(26,.d (.v (.int .i64 (a0.f1.length:Int)))),(27,.d (.v (.int .i64 (0:Int))))] [] 2 (by kernel_rfl) (trivial) ?_
 refine T_joinct h (fun (p:(List Int)×(List Int)×Int)=>[(6,.own 3 1 (p.1.map (cI .i64))),(7,.own 3 1 (p.2.1.map (cI .i64))),(8,.d (.v (.int .i64 p.2.2)))]) (fun s h=>?_) (fun s h=>?_)
 ·refine T_co [.keep [1,6,7,8,26,27]] ((fun (p:(List Int)×(List Int)×Int×Int)=>[(1,.box [.d (.v (.int .i64 a0.f0)),.d (.sl 3 (a0.f1.map cS_FontGlyph)),.d (.sl 3 (a0.f2.map cS_FontRange)),.d (.sl 3 (a0.f3.map cS_FontPair))]),(6,.own 3 1 (p.1.map (cI .i64))),(7,.own 3 1 (p.2.1.map (cI .i64))),(8,.d (.v (.int .i64 p.2.2.1))),(26,.d (.v (.int .i64 (a0.f1.length:Int)))),(27,.d (.v (.int .i64 p.2.2.2)))]) ((List.replicate (a0.f1.length:Int).toNat 0),(List.replicate (a0.f1.length:Int).toNat 0),(a0.f1.length:Int),(0:Int))) (by show _=_; kernel_rfl) ?_
  refine T_block ?_
  refine T_loopF (ι:=(List Int)×(List Int)×Int×Int) (fun (p:(List Int)×(List Int)×Int×Int)=>[(1,.box [.d (.v (.int .i64 a0.f0)),.d (.sl 3 (a0.f1.map cS_FontGlyph)),.d (.sl 3 (a0.f2.map cS_FontRange)),.d (.sl 3 (a0.f3.map cS_FontPair))]),(6,.own 3 1 (p.1.map (cI .i64))),(7,.own 3 1 (p.2.1.map (cI .i64))),(8,.d (.v (.int .i64 p.2.2.1))),(26,.d (.v (.int .i64 (a0.f1.length:Int)))),(27,.d (.v (.int .i64 p.2.2.2)))]) (fun n p=>ref3_nested_L0 F a0 n p.1 p.2.1 p.2.2.1 p.2.2.2=some s) (fun i hh=>by simp [ref3_nested_L0] at hh) (fun n p h=>?_) F ((List.replicate (a0.f1.length:Int).toNat 0),(List.replicate (a0.f1.length:Int).toNat 0),(a0.f1.length:Int),(0:Int)) h
  obtain ⟨v18,v19,v20,v21⟩:=p
  have h:ref3_nested_L0 F a0 (n+1) v18 v19 v20 v21=some s:=h
  rw [ref3_nested_L0] at h
  refine T_reg [] [1,6,7,8,26,27,28] [(28,.d (.v (.bool (decide (v21 < (a0.f1.length:Int))))))] [] 1 (by kernel_rfl) (trivial) ?_
  refine T_seqk ?_
  refine T_cond (decide (v21 < (a0.f1.length:Int))) (by kernel_rfl) (fun hc=>?_) (fun hc=>?_)
  ·have h:=cond_tt hc h
   refine T_skip fun a w hm=>then_norm (((?_:T Tryd.prog e 104 _ _ _) a w hm))
   refine T_seqk ?_
   refine T_block ?_
   refine T_reg [(2,{ rw:=some (.d (.v (.int .i64 (a0.f1.length:Int)))) })] [1,6,7,8,26,27,30,31,32] [(30,.d (.sl 3 (a0.f1.map cS_FontGlyph))),(31,.d (.v (.int .i64 (a0.f1.length:Int)))),(32,.d (.v (.int .i64 (0:Int))))] [(2,True∧AV.d (.v (.int .i64 ((a0.f1.map cS_FontGlyph).length:Int)))=.d (.v (.int .i64 (a0.f1.length:Int))))] 1 (by kernel_rfl) (len_ok cS_FontGlyph) ?_
   refine T_joinct h (fun (p:(List Int)×(List Int)×Int)=>[(1,.box [.d (.v (.int .i64 a0.f0)),.d (.sl 3 (a0.f1.map cS_FontGlyph)),.d (.sl 3 (a0.f2.map cS_FontRange)),.d (.sl 3 (a0.f3.map cS_FontPair))]),(6,.own 3 1 (p.1.map (cI .i64))),(7,.own 3 1 (p.2.1.map (cI .i64))),(8,.d (.v (.int .i64 p.2.2))),(26,.d (.v (.int .i64 (a0.f1.length:Int)))),(27,.d (.v (.int .i64 v21)))]) (fun s h=>?_) (fun s h=>?_)
   ·refine T_co [.keep [1,6,7,8,26,27,30,31,32]] ((fun (p:(List Int)×(List Int)×Int×Int)=>[(1,.box [.d (.v (.int .i64 a0.f0)),.d (.sl 3 (a0.f1.map cS_FontGlyph)),.d (.sl 3 (a0.f2.map cS_FontRange)),.d (.sl 3 (a0.f3.map cS_FontPair))]),(6,.own 3 1 (p.1.map (cI .i64))),(7,.own 3 1 (p.2.1.map (cI .i64))),(8,.d (.v (.int .i64 p.2.2.1))),(26,.d (.v (.int .i64 (a0.f1.length:Int)))),(27,.d (.v (.int .i64 v21))),(30,.d (.sl 3 (a0.f1.map cS_FontGlyph))),(31,.d (.v (.int .i64 (a0.f1.length:Int)))),(32,.d (.v (.int .i64 p.2.2.2)))]) (v18,v19,v20,(0:Int))) (by show _=_; kernel_rfl) ?_
    refine T_block ?_
    refine T_loopF (ι:=(List Int)×(List Int)×Int×Int) (fun (p:(List Int)×(List Int)×Int×Int)=>[(1,.box [.d (.v (.int .i64 a0.f0)),.d (.sl 3 (a0.f1.map cS_FontGlyph)),.d (.sl 3 (a0.f2.map cS_FontRange)),.d (.sl 3 (a0.f3.map cS_FontPair))]),(6,.own 3 1 (p.1.map (cI .i64))),(7,.own 3 1 (p.2.1.map (cI .i64))),(8,.d (.v (.int .i64 p.2.2.1))),(26,.d (.v (.int .i64 (a0.f1.length:Int)))),(27,.d (.v (.int .i64 v21))),(30,.d (.sl 3 (a0.f1.map cS_FontGlyph))),(31,.d (.v (.int .i64 (a0.f1.length:Int)))),(32,.d (.v (.int .i64 p.2.2.2)))]) (fun n p=>ref3_nested_L2 F a0 n p.1 p.2.1 p.2.2.1 p.2.2.2=some s) (fun i hh=>by simp [ref3_nested_L2] at hh) (fun n p h=>?_) F (v18,v19,v20,(0:Int)) h
    obtain ⟨v4,v5,v10,v1⟩:=p
    have h:ref3_nested_L2 F a0 (n+1) v4 v5 v10 v1=some s:=h
    rw [ref3_nested_L2] at h
    refine T_reg [] [1,6,7,8,26,27,30,31,32,33] [(33,.d (.v (.bool (decide (v1 < (a0.f1.length:Int))))))] [] 1 (by kernel_rfl) (trivial) ?_
    refine T_seqk ?_
    refine T_cond (decide (v1 < (a0.f1.length:Int))) (by kernel_rfl) (fun hc=>?_) (fun hc=>?_)
    ·have h:=cond_tt hc h
     refine T_skip fun a w hm=>then_norm (((?_:T Tryd.prog e 104 _ _ _) a w hm))
     refine T_joinc h (fun (p:(List Int)×(List Int)×Int)=>[(1,.box [.d (.v (.int .i64 a0.f0)),.d (.sl 3 (a0.f1.map cS_FontGlyph)),.d (.sl 3 (a0.f2.map cS_FontRange)),.d (.sl 3 (a0.f3.map cS_FontPair))]),(6,.own 3 1 (p.1.map (cI .i64))),(7,.own 3 1 (p.2.1.map (cI .i64))),(8,.d (.v (.int .i64 p.2.2))),(26,.d (.v (.int .i64 (a0.f1.length:Int)))),(27,.d (.v (.int .i64 v21))),(30,.d (.sl 3 (a0.f1.map cS_FontGlyph))),(31,.d (.v (.int .i64 (a0.f1.length:Int)))),(32,.d (.v (.int .i64 v1)))]) (fun s h=>?_) (fun s h=>?_)
     ·refine T_block ?_
      obtain ⟨hp3,h⟩:=chk_ok h
      refine T_reg [(1,{ cs:=cS_FontGlyph (a0.f1.getD v1.toNat (S_FontGlyph.mk 0 [] [])) })] [1,6,7,8,9,10,26,27,30,31,32] [(9,.d (.v (.int .i64 v1))),(10,.box [.d (.v (.int .i64 ((a0.f1.getD v1.toNat (S_FontGlyph.mk 0 [] [])).f0))),.d (.sl 1 (((a0.f1.getD v1.toNat (S_FontGlyph.mk 0 [] [])).f1).map (cL 3 cS_FontPoint))),.d (.sl 3 (((a0.f1.getD v1.toNat (S_FontGlyph.mk 0 [] [])).f2).map cS_FontPart))])] [(1,0≤v1∧(a0.f1.map cS_FontGlyph)[v1.toNat]? = some (cS_FontGlyph (a0.f1.getD v1.toNat (S_FontGlyph.mk 0 [] []))))] 4 (by kernel_rfl) (idx_ok (d:=(S_FontGlyph.mk 0 [] [])) cS_FontGlyph hp3) ?_
      obtain ⟨hp4,h⟩:=chk_ok h
      refine T_draw mixed [(3,{ cs:=(cI .i64) (v4.getD v1.toNat 0) })] [1,6,7,8,9,10,11,12,13,26,27,30,31,32] [] [(1,.box [.d (.v (.int .i64 a0.f0)),.d (.sl 3 (a0.f1.map cS_FontGlyph)),.d (.sl 3 (a0.f2.map cS_FontRange)),.d (.sl 3 (a0.f3.map cS_FontPair))]),(6,.own 3 1 (v4.map (cI .i64))),(7,.own 3 1 (v5.map (cI .i64))),(8,.d (.v (.int .i64 v10))),(9,.d (.v (.int .i64 v1))),(10,.box [.d (.v (.int .i64 ((a0.f1.getD v1.toNat (S_FontGlyph.mk 0 [] [])).f0))),.d (.sl 1 (((a0.f1.getD v1.toNat (S_FontGlyph.mk 0 [] [])).f1).map (cL 3 cS_FontPoint))),.d (.sl 3 (((a0.f1.getD v1.toNat (S_FontGlyph.mk 0 [] [])).f2).map cS_FontPart))]),(11,.d (.v (.int .i64 (1:Int)))),(12,.d (.v (.int .i64 (0:Int)))),(13,.d (.v (.bool ((v4.getD v1.toNat 0) == (0:Int))))),(26,.d (.v (.int .i64 (a0.f1.length:Int)))),(27,.d (.v (.int .i64 v21))),(30,.d (.sl 3 (a0.f1.map cS_FontGlyph))),(31,.d (.v (.int .i64 (a0.f1.length:Int)))),(32,.d (.v (.int .i64 v1)))] [(2,0≤v1∧v1 < (v4.map (cI .i64)).length),(0,(v4.map (cI .i64))[v1.toNat]? = some ((cI .i64) (v4.getD v1.toNat 0)))] 4 (by kernel_rfl) (⟨own_idx (cI .i64) hp4,(idx_ok (d:=0) (cI .i64) hp4).2⟩) ?_
      refine T_seqk ?_
      refine T_reg [(2,{ rw:=some (.d (.v (.int .i64 (((a0.f1.getD v1.toNat (S_FontGlyph.mk 0 [] [])).f1).length:Int)))) })] [1,6,7,8,9,10,11,12,13,26,27,30,31,32,43,44,45] [(43,.d (.sl 1 (((a0.f1.getD v1.toNat (S_FontGlyph.mk 0 [] [])).f1).map (cL 3 cS_FontPoint)))),(44,.d (.v (.int .i64 (((a0.f1.getD v1.toNat (S_FontGlyph.mk 0 [] [])).f1).length:Int)))),(45,.d (.v (.int .i64 (0:Int))))] [(2,True∧AV.d (.v (.int .i64 ((((a0.f1.getD v1.toNat (S_FontGlyph.mk 0 [] [])).f1).map (cL 3 cS_FontPoint)).length:Int)))=.d (.v (.int .i64 (((a0.f1.getD v1.toNat (S_FontGlyph.mk 0 [] [])).f1).length:Int))))] 1 (by kernel_rfl) (len_ok (cL 3 cS_FontPoint)) ?_
      refine T_joinct h (fun (p:Int)=>[(1,.box [.d (.v (.int .i64 a0.f0)),.d (.sl 3 (a0.f1.map cS_FontGlyph)),.d (.sl 3 (a0.f2.map cS_FontRange)),.d (.sl 3 (a0.f3.map cS_FontPair))]),(6,.own 3 1 (v4.map (cI .i64))),(7,.own 3 1 (v5.map (cI .i64))),(8,.d (.v (.int .i64 v10))),(9,.d (.v (.int .i64 v1))),(10,.box [.d (.v (.int .i64 ((a0.f1.getD v1.toNat (S_FontGlyph.mk 0 [] [])).f0))),.d (.sl 1 (((a0.f1.getD v1.toNat (S_FontGlyph.mk 0 [] [])).f1).map (cL 3 cS_FontPoint))),.d (.sl 3 (((a0.f1.getD v1.toNat (S_FontGlyph.mk 0 [] [])).f2).map cS_FontPart))]),(11,.d (.v (.int .i64 (1:Int)))),(12,.d (.v (.int .i64 p))),(13,.d (.v (.bool ((v4.getD v1.toNat 0) == (0:Int))))),(26,.d (.v (.int .i64 (a0.f1.length:Int)))),(27,.d (.v (.int .i64 v21))),(30,.d (.sl 3 (a0.f1.map cS_FontGlyph))),(31,.d (.v (.int .i64 (a0.f1.length:Int)))),(32,.d (.v (.int .i64 v1)))]) (fun s h=>?_) (fun v11 h=>?_)
      ·refine T_co [.keep [1,6,7,8,9,10,11,12,13,26,27,30,31,32,43,44,45]] ((fun (p:Int×Int)=>[(1,.box [.d (.v (.int .i64 a0.f0)),.d (.sl 3 (a0.f1.map cS_FontGlyph)),.d (.sl 3 (a0.f2.map cS_FontRange)),.d (.sl 3 (a0.f3.map cS_FontPair))]),(6,.own 3 1 (v4.map (cI .i64))),(7,.own 3 1 (v5.map (cI .i64))),(8,.d (.v (.int .i64 v10))),(9,.d (.v (.int .i64 v1))),(10,.box [.d (.v (.int .i64 ((a0.f1.getD v1.toNat (S_FontGlyph.mk 0 [] [])).f0))),.d (.sl 1 (((a0.f1.getD v1.toNat (S_FontGlyph.mk 0 [] [])).f1).map (cL 3 cS_FontPoint))),.d (.sl 3 (((a0.f1.getD v1.toNat (S_FontGlyph.mk 0 [] [])).f2).map cS_FontPart))]),(11,.d (.v (.int .i64 (1:Int)))),(12,.d (.v (.int .i64 p.1))),(13,.d (.v (.bool ((v4.getD v1.toNat 0) == (0:Int))))),(26,.d (.v (.int .i64 (a0.f1.length:Int)))),(27,.d (.v (.int .i64 v21))),(30,.d (.sl 3 (a0.f1.map cS_FontGlyph))),(31,.d (.v (.int .i64 (a0.f1.length:Int)))),(32,.d (.v (.int .i64 v1))),(43,.d (.sl 1 (((a0.f1.getD v1.toNat (S_FontGlyph.mk 0 [] [])).f1).map (cL 3 cS_FontPoint)))),(44,.d (.v (.int .i64 (((a0.f1.getD v1.toNat (S_FontGlyph.mk 0 [] [])).f1).length:Int)))),(45,.d (.v (.int .i64 p.2)))]) ((0:Int),(0:Int))) (by show _=_; kernel_rfl) ?_
       refine T_block ?_
       refine T_loopF (ι:=Int×Int) (fun (p:Int×Int)=>[(1,.box [.d (.v (.int .i64 a0.f0)),.d (.sl 3 (a0.f1.map cS_FontGlyph)),.d (.sl 3 (a0.f2.map cS_FontRange)),.d (.sl 3 (a0.f3.map cS_FontPair))]),(6,.own 3 1 (v4.map (cI .i64))),(7,.own 3 1 (v5.map (cI .i64))),(8,.d (.v (.int .i64 v10))),(9,.d (.v (.int .i64 v1))),(10,.box [.d (.v (.int .i64 ((a0.f1.getD v1.toNat (S_FontGlyph.mk 0 [] [])).f0))),.d (.sl 1 (((a0.f1.getD v1.toNat (S_FontGlyph.mk 0 [] [])).f1).map (cL 3 cS_FontPoint))),.d (.sl 3 (((a0.f1.getD v1.toNat (S_FontGlyph.mk 0 [] [])).f2).map cS_FontPart))]),(11,.d (.v (.int .i64 (1:Int)))),(12,.d (.v (.int .i64 p.1))),(13,.d (.v (.bool ((v4.getD v1.toNat 0) == (0:Int))))),(26,.d (.v (.int .i64 (a0.f1.length:Int)))),(27,.d (.v (.int .i64 v21))),(30,.d (.sl 3 (a0.f1.map cS_FontGlyph))),(31,.d (.v (.int .i64 (a0.f1.length:Int)))),(32,.d (.v (.int .i64 v1))),(43,.d (.sl 1 (((a0.f1.getD v1.toNat (S_FontGlyph.mk 0 [] [])).f1).map (cL 3 cS_FontPoint)))),(44,.d (.v (.int .i64 (((a0.f1.getD v1.toNat (S_FontGlyph.mk 0 [] [])).f1).length:Int)))),(45,.d (.v (.int .i64 p.2)))]) (fun n p=>ref3_nested_L4 F a0 v1 n p.1 p.2=some s) (fun i hh=>by simp [ref3_nested_L4] at hh) (fun n p h=>?_) F ((0:Int),(0:Int)) h
       obtain ⟨v2,v3⟩:=p
       have h:ref3_nested_L4 F a0 v1 (n+1) v2 v3=some s:=h
       rw [ref3_nested_L4] at h
       refine T_reg [] [1,6,7,8,9,10,11,12,13,26,27,30,31,32,43,44,45,46] [(46,.d (.v (.bool (decide (v3 < (((a0.f1.getD v1.toNat (S_FontGlyph.mk 0 [] [])).f1).length:Int))))))] [] 1 (by kernel_rfl) (trivial) ?_
       refine T_seqk ?_
       refine T_cond (decide (v3 < (((a0.f1.getD v1.toNat (S_FontGlyph.mk 0 [] [])).f1).length:Int))) (by kernel_rfl) (fun hc=>?_) (fun hc=>?_)
       ·have h:=cond_tt hc h
        refine T_skip fun a w hm=>then_norm (((?_:T Tryd.prog e 104 _ _ _) a w hm))
        refine T_seqk ?_
        refine T_block ?_
        obtain ⟨hp5,h⟩:=chk_ok h
        refine T_reg [(0,{ cs:=(cL 3 cS_FontPoint) (((a0.f1.getD v1.toNat (S_FontGlyph.mk 0 [] [])).f1).getD v3.toNat []) })] [1,6,7,8,9,10,11,12,13,15,26,27,30,31,32,43,44,45] [(15,.d (.sl 3 ((((a0.f1.getD v1.toNat (S_FontGlyph.mk 0 [] [])).f1).getD v3.toNat []).map cS_FontPoint)))] [(0,0≤v3∧(((a0.f1.getD v1.toNat (S_FontGlyph.mk 0 [] [])).f1).map (cL 3 cS_FontPoint))[v3.toNat]? = some ((cL 3 cS_FontPoint) (((a0.f1.getD v1.toNat (S_FontGlyph.mk 0 [] [])).f1).getD v3.toNat [])))] 2 (by kernel_rfl) (idx_ok (d:=[]) (cL 3 cS_FontPoint) hp5) ?_
        obtain ⟨z1,hz1,h⟩:=lett_ok h
        refine T_reg_end [(2,{ rw:=some (.d (.v (.int .i64 ((((a0.f1.getD v1.toNat (S_FontGlyph.mk 0 [] [])).f1).getD v3.toNat []).length:Int)))) }),(3,{ rw:=some (.d (.v (.int .i64 z1))) })] [1,6,7,8,9,10,11,12,13,26,27,30,31,32,43,44,45] [(12,.d (.v (.int .i64 z1)))] [(2,True∧AV.d (.v (.int .i64 (((((a0.f1.getD v1.toNat (S_FontGlyph.mk 0 [] [])).f1).getD v3.toNat []).map cS_FontPoint).length:Int)))=.d (.v (.int .i64 ((((a0.f1.getD v1.toNat (S_FontGlyph.mk 0 [] [])).f1).getD v3.toNat []).length:Int)))),(0,(True)∧AV.d (.v (.int .i64 (IntKind.i64.wrap (v2+((((a0.f1.getD v1.toNat (S_FontGlyph.mk 0 [] [])).f1).getD v3.toNat []).length:Int)))))=.d (.v (.int .i64 z1)))] 1 (by kernel_rfl) (⟨len_ok cS_FontPoint,⟨trivial,(by subst hz1; rfl)⟩⟩) fun a w hm=>inBlock_norm (then_norm (((?_:T Tryd.prog e 104 _ _ _) a w hm)))
        refine T_reg_end [] [1,6,7,8,9,10,11,12,13,26,27,30,31,32,43,44,45] [(45,.d (.v (.int .i64 (IntKind.i64.wrap (v3+(1:Int))))))] [] 2 (by kernel_rfl) (trivial) fun a w hm=>then_norm (⟨(z1,IntKind.i64.wrap (v3+(1:Int))),h,hm.co (cs:=[.keep [1,6,7,8,9,10,11,12,13,26,27,30,31,32,43,44,45]]) (by show _=_; kernel_rfl)⟩)
       ·have h:=cond_ff hc h
        obtain hs:=Option.some.inj h; subst hs
        refine T_exit fun a w hm=>then_exit (then_exit (inBlock_exit (then_norm (hm.co (cs:=[.keep [1,6,7,8,9,10,11,12,13,26,27,30,31,32]]) (by show _=_; kernel_rfl)))))
      ·skip
       refine fun a w hm=>then_norm (((?_:T Tryd.prog e 104 _ _ _) a w hm))
       refine T_seqk ?_
       refine T_reg [(2,{ rw:=some (.d (.v (.int .i64 (((a0.f1.getD v1.toNat (S_FontGlyph.mk 0 [] [])).f2).length:Int)))) })] [1,6,7,8,9,11,12,13,26,27,30,31,32,55,56,57] [(55,.d (.sl 3 (((a0.f1.getD v1.toNat (S_FontGlyph.mk 0 [] [])).f2).map cS_FontPart))),(56,.d (.v (.int .i64 (((a0.f1.getD v1.toNat (S_FontGlyph.mk 0 [] [])).f2).length:Int)))),(57,.d (.v (.int .i64 (0:Int))))] [(2,True∧AV.d (.v (.int .i64 ((((a0.f1.getD v1.toNat (S_FontGlyph.mk 0 [] [])).f2).map cS_FontPart).length:Int)))=.d (.v (.int .i64 (((a0.f1.getD v1.toNat (S_FontGlyph.mk 0 [] [])).f2).length:Int))))] 1 (by kernel_rfl) (len_ok cS_FontPart) ?_
       refine T_joinct h (fun (p:Int×Int×Bool)=>[(1,.box [.d (.v (.int .i64 a0.f0)),.d (.sl 3 (a0.f1.map cS_FontGlyph)),.d (.sl 3 (a0.f2.map cS_FontRange)),.d (.sl 3 (a0.f3.map cS_FontPair))]),(6,.own 3 1 (v4.map (cI .i64))),(7,.own 3 1 (v5.map (cI .i64))),(8,.d (.v (.int .i64 v10))),(9,.d (.v (.int .i64 v1))),(11,.d (.v (.int .i64 p.1))),(12,.d (.v (.int .i64 p.2.1))),(13,.d (.v (.bool p.2.2))),(26,.d (.v (.int .i64 (a0.f1.length:Int)))),(27,.d (.v (.int .i64 v21))),(30,.d (.sl 3 (a0.f1.map cS_FontGlyph))),(31,.d (.v (.int .i64 (a0.f1.length:Int)))),(32,.d (.v (.int .i64 v1)))]) (fun s h=>?_) (fun s h=>?_)
       ·refine T_co [.keep [1,6,7,8,9,11,12,13,26,27,30,31,32,55,56,57]] ((fun (p:Int×Int×Bool×Int)=>[(1,.box [.d (.v (.int .i64 a0.f0)),.d (.sl 3 (a0.f1.map cS_FontGlyph)),.d (.sl 3 (a0.f2.map cS_FontRange)),.d (.sl 3 (a0.f3.map cS_FontPair))]),(6,.own 3 1 (v4.map (cI .i64))),(7,.own 3 1 (v5.map (cI .i64))),(8,.d (.v (.int .i64 v10))),(9,.d (.v (.int .i64 v1))),(11,.d (.v (.int .i64 p.1))),(12,.d (.v (.int .i64 p.2.1))),(13,.d (.v (.bool p.2.2.1))),(26,.d (.v (.int .i64 (a0.f1.length:Int)))),(27,.d (.v (.int .i64 v21))),(30,.d (.sl 3 (a0.f1.map cS_FontGlyph))),(31,.d (.v (.int .i64 (a0.f1.length:Int)))),(32,.d (.v (.int .i64 v1))),(55,.d (.sl 3 (((a0.f1.getD v1.toNat (S_FontGlyph.mk 0 [] [])).f2).map cS_FontPart))),(56,.d (.v (.int .i64 (((a0.f1.getD v1.toNat (S_FontGlyph.mk 0 [] [])).f2).length:Int)))),(57,.d (.v (.int .i64 p.2.2.2)))]) ((1:Int),v11,((v4.getD v1.toNat 0) == (0:Int)),(0:Int))) (by show _=_; kernel_rfl) ?_
        refine T_block ?_
        refine T_loopF (ι:=Int×Int×Bool×Int) (fun (p:Int×Int×Bool×Int)=>[(1,.box [.d (.v (.int .i64 a0.f0)),.d (.sl 3 (a0.f1.map cS_FontGlyph)),.d (.sl 3 (a0.f2.map cS_FontRange)),.d (.sl 3 (a0.f3.map cS_FontPair))]),(6,.own 3 1 (v4.map (cI .i64))),(7,.own 3 1 (v5.map (cI .i64))),(8,.d (.v (.int .i64 v10))),(9,.d (.v (.int .i64 v1))),(11,.d (.v (.int .i64 p.1))),(12,.d (.v (.int .i64 p.2.1))),(13,.d (.v (.bool p.2.2.1))),(26,.d (.v (.int .i64 (a0.f1.length:Int)))),(27,.d (.v (.int .i64 v21))),(30,.d (.sl 3 (a0.f1.map cS_FontGlyph))),(31,.d (.v (.int .i64 (a0.f1.length:Int)))),(32,.d (.v (.int .i64 v1))),(55,.d (.sl 3 (((a0.f1.getD v1.toNat (S_FontGlyph.mk 0 [] [])).f2).map cS_FontPart))),(56,.d (.v (.int .i64 (((a0.f1.getD v1.toNat (S_FontGlyph.mk 0 [] [])).f2).length:Int)))),(57,.d (.v (.int .i64 p.2.2.2)))]) (fun n p=>ref3_nested_L6 F a0 v4 v5 v1 n p.1 p.2.1 p.2.2.1 p.2.2.2=some s) (fun i hh=>by simp [ref3_nested_L6] at hh) (fun n p h=>?_) F ((1:Int),v11,((v4.getD v1.toNat 0) == (0:Int)),(0:Int)) h
        obtain ⟨v6,v7,v8,v9⟩:=p
        have h:ref3_nested_L6 F a0 v4 v5 v1 (n+1) v6 v7 v8 v9=some s:=h
        rw [ref3_nested_L6] at h
        refine T_reg [] [1,6,7,8,9,11,12,13,26,27,30,31,32,55,56,57,58] [(58,.d (.v (.bool (decide (v9 < (((a0.f1.getD v1.toNat (S_FontGlyph.mk 0 [] [])).f2).length:Int))))))] [] 1 (by kernel_rfl) (trivial) ?_
        refine T_seqk ?_
        refine T_cond (decide (v9 < (((a0.f1.getD v1.toNat (S_FontGlyph.mk 0 [] [])).f2).length:Int))) (by kernel_rfl) (fun hc=>?_) (fun hc=>?_)
        ·have h:=cond_tt hc h
         refine T_skip fun a w hm=>then_norm (((?_:T Tryd.prog e 104 _ _ _) a w hm))
         refine T_seqk ?_
         refine T_block ?_
         obtain ⟨hp6,h⟩:=chk_ok h
         refine T_reg [(0,{ cs:=cS_FontPart (((a0.f1.getD v1.toNat (S_FontGlyph.mk 0 [] [])).f2).getD v9.toNat (S_FontPart.mk 0 0 0)) })] [1,6,7,8,9,11,12,13,17,26,27,30,31,32,55,56,57] [(17,.box [.d (.v (.int .i64 ((((a0.f1.getD v1.toNat (S_FontGlyph.mk 0 [] [])).f2).getD v9.toNat (S_FontPart.mk 0 0 0)).f0))),.d (.v (.int .i64 ((((a0.f1.getD v1.toNat (S_FontGlyph.mk 0 [] [])).f2).getD v9.toNat (S_FontPart.mk 0 0 0)).f1))),.d (.v (.int .i64 ((((a0.f1.getD v1.toNat (S_FontGlyph.mk 0 [] [])).f2).getD v9.toNat (S_FontPart.mk 0 0 0)).f2)))])] [(0,0≤v9∧(((a0.f1.getD v1.toNat (S_FontGlyph.mk 0 [] [])).f2).map cS_FontPart)[v9.toNat]? = some (cS_FontPart (((a0.f1.getD v1.toNat (S_FontGlyph.mk 0 [] [])).f2).getD v9.toNat (S_FontPart.mk 0 0 0))))] 3 (by kernel_rfl) (idx_ok (d:=(S_FontPart.mk 0 0 0)) cS_FontPart hp6) ?_
         obtain ⟨hp7,h⟩:=chk_ok h
         obtain ⟨z2,hz2,h⟩:=lett_ok h
         refine T_reg [(6,{ cs:=(cI .i64) (v4.getD ((((a0.f1.getD v1.toNat (S_FontGlyph.mk 0 [] [])).f2).getD v9.toNat (S_FontPart.mk 0 0 0)).f0).toNat 0),rw:=some (.d (.v (.int .i64 z2))) })] [1,6,7,8,9,11,12,13,17,26,27,30,31,32,55,56,57] [(13,.d (.v (.bool (bif v8 then (decide (z2 > (0:Int))) else false))))] [(2,(((v8 == true) && true)=true→True)),(0,(((v8 == true) && true)=true→True)),(0,(((v8 == true) && true)=true→True)),(0,(((v8 == true) && true)=true→0≤((((a0.f1.getD v1.toNat (S_FontGlyph.mk 0 [] [])).f2).getD v9.toNat (S_FontPart.mk 0 0 0)).f0)∧((((a0.f1.getD v1.toNat (S_FontGlyph.mk 0 [] [])).f2).getD v9.toNat (S_FontPart.mk 0 0 0)).f0) < (v4.map (cI .i64)).length)),(0,(((v8 == true) && true)=true→((v4.map (cI .i64))[((((a0.f1.getD v1.toNat (S_FontGlyph.mk 0 [] [])).f2).getD v9.toNat (S_FontPart.mk 0 0 0)).f0).toNat]? = some ((cI .i64) (v4.getD ((((a0.f1.getD v1.toNat (S_FontGlyph.mk 0 [] [])).f2).getD v9.toNat (S_FontPart.mk 0 0 0)).f0).toNat 0)))∧AV.d (.v (.int .i64 (v4.getD ((((a0.f1.getD v1.toNat (S_FontGlyph.mk 0 [] [])).f2).getD v9.toNat (S_FontPart.mk 0 0 0)).f0).toNat 0)))=.d (.v (.int .i64 z2)))),(0,(((v8 == true) && true)=true→True))] 2 (by kernel_rfl) (⟨(fun hg=>trivial),(fun hg=>trivial),(fun hg=>trivial),(fun hg=>own_idx (cI .i64) (hp7 hg)),(fun hg=>⟨(idx_ok (d:=0) (cI .i64) (hp7 hg)).2,(by subst hz2; rfl)⟩),(fun hg=>trivial)⟩) ?_
         obtain ⟨hp8,h⟩:=chk_ok h
         obtain ⟨z3,hz3,h⟩:=lett_ok h
         obtain ⟨z4,hz4,h⟩:=lett_ok h
         obtain ⟨hp9,h⟩:=chk_ok h
         obtain ⟨z5,hz5,h⟩:=lett_ok h
         obtain ⟨z6,hz6,h⟩:=lett_ok h
         refine T_draw_end mixed [(5,{ cs:=(cI .i64) (v4.getD ((((a0.f1.getD v1.toNat (S_FontGlyph.mk 0 [] [])).f2).getD v9.toNat (S_FontPart.mk 0 0 0)).f0).toNat 0),rw:=some (.d (.v (.int .i64 z3))) }),(7,{ rw:=some (.d (.v (.int .i64 z4))) }),(13,{ cs:=(cI .i64) (v5.getD ((((a0.f1.getD v1.toNat (S_FontGlyph.mk 0 [] [])).f2).getD v9.toNat (S_FontPart.mk 0 0 0)).f0).toNat 0),rw:=some (.d (.v (.int .i64 z5))) }),(15,{ rw:=some (.d (.v (.int .i64 z6))) })] [1,6,7,8,9,11,12,13,26,27,30,31,32,55,56,57] [] [(1,.box [.d (.v (.int .i64 a0.f0)),.d (.sl 3 (a0.f1.map cS_FontGlyph)),.d (.sl 3 (a0.f2.map cS_FontRange)),.d (.sl 3 (a0.f3.map cS_FontPair))]),(6,.own 3 1 (v4.map (cI .i64))),(7,.own 3 1 (v5.map (cI .i64))),(8,.d (.v (.int .i64 v10))),(9,.d (.v (.int .i64 v1))),(11,.d (.v (.int .i64 z4))),(12,.d (.v (.int .i64 z6))),(13,.d (.v (.bool (bif v8 then (decide (z2 > (0:Int))) else false)))),(26,.d (.v (.int .i64 (a0.f1.length:Int)))),(27,.d (.v (.int .i64 v21))),(30,.d (.sl 3 (a0.f1.map cS_FontGlyph))),(31,.d (.v (.int .i64 (a0.f1.length:Int)))),(32,.d (.v (.int .i64 v1))),(55,.d (.sl 3 (((a0.f1.getD v1.toNat (S_FontGlyph.mk 0 [] [])).f2).map cS_FontPart))),(56,.d (.v (.int .i64 (((a0.f1.getD v1.toNat (S_FontGlyph.mk 0 [] [])).f2).length:Int)))),(57,.d (.v (.int .i64 v9)))] [(4,0≤((((a0.f1.getD v1.toNat (S_FontGlyph.mk 0 [] [])).f2).getD v9.toNat (S_FontPart.mk 0 0 0)).f0)∧((((a0.f1.getD v1.toNat (S_FontGlyph.mk 0 [] [])).f2).getD v9.toNat (S_FontPart.mk 0 0 0)).f0) < (v4.map (cI .i64)).length),(0,((v4.map (cI .i64))[((((a0.f1.getD v1.toNat (S_FontGlyph.mk 0 [] [])).f2).getD v9.toNat (S_FontPart.mk 0 0 0)).f0).toNat]? = some ((cI .i64) (v4.getD ((((a0.f1.getD v1.toNat (S_FontGlyph.mk 0 [] [])).f2).getD v9.toNat (S_FontPart.mk 0 0 0)).f0).toNat 0)))∧AV.d (.v (.int .i64 (v4.getD ((((a0.f1.getD v1.toNat (S_FontGlyph.mk 0 [] [])).f2).getD v9.toNat (S_FontPart.mk 0 0 0)).f0).toNat 0)))=.d (.v (.int .i64 z3))),(1,(True)∧AV.d (.v (.int .i64 (if v6 < (IntKind.i64.wrap (z3+(1:Int))) then (IntKind.i64.wrap (z3+(1:Int))) else v6)))=.d (.v (.int .i64 z4))),(4,0≤((((a0.f1.getD v1.toNat (S_FontGlyph.mk 0 [] [])).f2).getD v9.toNat (S_FontPart.mk 0 0 0)).f0)∧((((a0.f1.getD v1.toNat (S_FontGlyph.mk 0 [] [])).f2).getD v9.toNat (S_FontPart.mk 0 0 0)).f0) < (v5.map (cI .i64)).length),(0,((v5.map (cI .i64))[((((a0.f1.getD v1.toNat (S_FontGlyph.mk 0 [] [])).f2).getD v9.toNat (S_FontPart.mk 0 0 0)).f0).toNat]? = some ((cI .i64) (v5.getD ((((a0.f1.getD v1.toNat (S_FontGlyph.mk 0 [] [])).f2).getD v9.toNat (S_FontPart.mk 0 0 0)).f0).toNat 0)))∧AV.d (.v (.int .i64 (v5.getD ((((a0.f1.getD v1.toNat (S_FontGlyph.mk 0 [] [])).f2).getD v9.toNat (S_FontPart.mk 0 0 0)).f0).toNat 0)))=.d (.v (.int .i64 z5))),(1,(True)∧AV.d (.v (.int .i64 (if (1073741824:Int) < (IntKind.i64.wrap (v7+z5)) then (1073741824:Int) else (IntKind.i64.wrap (v7+z5)))))=.d (.v (.int .i64 z6)))] 2 (by kernel_rfl) (⟨own_idx (cI .i64) hp8,⟨(idx_ok (d:=0) (cI .i64) hp8).2,(by subst hz3; rfl)⟩,⟨trivial,(by subst hz4; rfl)⟩,own_idx (cI .i64) hp9,⟨(idx_ok (d:=0) (cI .i64) hp9).2,(by subst hz5; rfl)⟩,⟨trivial,(by subst hz6; rfl)⟩⟩) fun a w hm=>inBlock_norm (then_norm (((?_:T Tryd.prog e 104 _ _ _) a w hm)))
         refine T_reg_end [] [1,6,7,8,9,11,12,13,26,27,30,31,32,55,56,57] [(57,.d (.v (.int .i64 (IntKind.i64.wrap (v9+(1:Int))))))] [] 2 (by kernel_rfl) (trivial) fun a w hm=>then_norm (⟨(z4,z6,(bif v8 then (decide (z2 > (0:Int))) else false),IntKind.i64.wrap (v9+(1:Int))),h,hm.co (cs:=[.keep [1,6,7,8,9,11,12,13,26,27,30,31,32,55,56,57]]) (by show _=_; kernel_rfl)⟩)
        ·have h:=cond_ff hc h
         obtain hs:=Option.some.inj h; subst hs
         refine T_exit fun a w hm=>then_exit (then_exit (inBlock_exit (then_norm (hm.co (cs:=[.keep [1,6,7,8,9,11,12,13,26,27,30,31,32]]) (by show _=_; kernel_rfl)))))
       ·obtain ⟨v12,v13,v14⟩:=s
        try dsimp only at h
        refine fun a w hm=>then_norm (((?_:T Tryd.prog e 104 _ _ _) a w hm))
        refine T_reg [] [1,6,7,8,9,11,12,26,27,30,31,32,87] [(87,.d (.v (.bool v14)))] [] 1 (by kernel_rfl) (trivial) ?_
        refine T_cond v14 (by kernel_rfl) (fun hc=>?_) (fun hc=>?_)
        ·have h:=cond_tt hc h
         obtain ⟨hp10,h⟩:=chk_ok h
         obtain ⟨hp11,h⟩:=chk_ok h
         refine T_reg [(7,{ cs:=(cI .i64) (v4.getD v1.toNat 0),es:=some ((v4.set v1.toNat v12).map (cI .i64)) }),(9,{ cs:=(cI .i64) (v5.getD v1.toNat 0),es:=some ((v5.set v1.toNat v13).map (cI .i64)) })] [1,6,7,8,26,27,30,31,32] [(6,.own 3 1 ((v4.set v1.toNat v12).map (cI .i64))),(7,.own 3 1 ((v5.set v1.toNat v13).map (cI .i64)))] [(6,0≤v1∧v1 < (v4.map (cI .i64)).length),(0,(v4.map (cI .i64))[v1.toNat]? = some ((cI .i64) (v4.getD v1.toNat 0))∧(v4.map (cI .i64)).set v1.toNat ((cI .i64) v12)=((v4.set v1.toNat v12).map (cI .i64))),(0,0≤v1∧v1 < (v5.map (cI .i64)).length),(0,(v5.map (cI .i64))[v1.toNat]? = some ((cI .i64) (v5.getD v1.toNat 0))∧(v5.map (cI .i64)).set v1.toNat ((cI .i64) v13)=((v5.set v1.toNat v13).map (cI .i64)))] 0 (by kernel_rfl) (⟨own_idx (cI .i64) hp10,⟨(idx_ok (d:=0) (cI .i64) hp10).2,set_ok (cI .i64) rfl⟩,own_idx (cI .i64) hp11,⟨(idx_ok (d:=0) (cI .i64) hp11).2,set_ok (cI .i64) rfl⟩⟩) ?_
         obtain hs:=Option.some.inj h; subst hs
         refine T_reg_end [] [1,6,7,8,26,27,30,31,32] [(8,.d (.v (.int .i64 (IntKind.i64.wrap (v10 - (1:Int))))))] [] 3 (by kernel_rfl) (trivial) fun a w hm=>inBlock_norm (then_norm (hm.co (cs:=[.keep [1,6,7,8,26,27,30,31,32]]) (by show _=_; kernel_rfl)))
        ·have h:=cond_ff hc h
         obtain hs:=Option.some.inj h; subst hs
         refine T_skip fun a w hm=>inBlock_norm (then_norm (hm.co (cs:=[.keep [1,6,7,8,26,27,30,31,32]]) (by show _=_; kernel_rfl)))
     ·obtain ⟨v15,v16,v17⟩:=s
      try dsimp only at h
      refine T_reg_end [] [1,6,7,8,26,27,30,31,32] [(32,.d (.v (.int .i64 (IntKind.i64.wrap (v1+(1:Int))))))] [] 2 (by kernel_rfl) (trivial) fun a w hm=>then_norm (⟨(v15,v16,v17,IntKind.i64.wrap (v1+(1:Int))),h,hm.co (cs:=[.keep [1,6,7,8,26,27,30,31,32]]) (by show _=_; kernel_rfl)⟩)
    ·have h:=cond_ff hc h
     obtain hs:=Option.some.inj h; subst hs
     refine T_exit fun a w hm=>then_exit (then_exit (inBlock_exit (then_norm (hm.co (cs:=[.keep [1,6,7,8,26,27]]) (by show _=_; kernel_rfl)))))
   ·obtain ⟨v22,v23,v24⟩:=s
    try dsimp only at h
    refine fun a w hm=>inBlock_norm (then_norm (((?_:T Tryd.prog e 104 _ _ _) a w hm)))
    refine T_reg_end [] [1,6,7,8,26,27] [(27,.d (.v (.int .i64 (IntKind.i64.wrap (v21+(1:Int))))))] [] 2 (by kernel_rfl) (trivial) fun a w hm=>then_norm (⟨(v22,v23,v24,IntKind.i64.wrap (v21+(1:Int))),h,hm.co (cs:=[.keep [1,6,7,8,26,27]]) (by show _=_; kernel_rfl)⟩)
  ·have h:=cond_ff hc h
   obtain hs:=Option.some.inj h; subst hs
   refine T_exit fun a w hm=>then_exit (then_exit (inBlock_exit (then_norm (hm.co (cs:=[.keep [6,7,8]]) (by show _=_; kernel_rfl)))))
 ·obtain ⟨v25,v26,v27⟩:=s
  try dsimp only at h
  refine fun a w hm=>then_norm (((?_:T Tryd.prog e 104 _ _ _) a w hm))
  refine T_reg [] [2,3,4,6,7] [(2,.vw (6,0)),(3,.vw (7,0)),(4,.d (.v (.bool (v27 == (0:Int)))))] [] 7 (by kernel_rfl) (trivial) ?_
  obtain hs:=Option.some.inj h; subst hs
  refine T_ret fun a w hm=>T_return (fr':=[(2,.own 3 1 (v25.map (cI .i64))),(3,.own 3 1 (v26.map (cI .i64))),(4,.d (.v (.bool (v27 == (0:Int)))))]) [2,3,4] (by kernel_rfl) [.claim 2,.claim 3,.keep [2,3,4]] (by kernel_rfl) (by kernel_rfl) (by kernel_rfl) (by show _=_; kernel_rfl) (by exact trivial) a w hm
theorem ref3_FontError_ok {F:Nat} {a0:S_Font} {r:Int} (h:ref3_FontError F a0=some r):ACall Tryd.prog 6 [.agg (cS_Font a0)] [] (.d (.v (.int .i64 r))) []:=by
 rw [ref3_FontError] at h
 refine ACall.intro (N:=122) Tryd.func6 rfl rfl rfl rfl rfl fun e=>?_
 refine T_reg [] [1] [(1,.box [.d (.v (.int .i64 a0.f0)),.d (.sl 3 (a0.f1.map cS_FontGlyph)),.d (.sl 3 (a0.f2.map cS_FontRange)),.d (.sl 3 (a0.f3.map cS_FontPair))])] [] 2 (by kernel_rfl) (trivial) ?_
 refine T_reg [(2,{ rw:=some (.d (.v (.int .i64 (a0.f1.length:Int)))) })] [1,3] [(3,.d (.v (.int .i64 (a0.f1.length:Int))))] [(2,True∧AV.d (.v (.int .i64 ((a0.f1.map cS_FontGlyph).length:Int)))=.d (.v (.int .i64 (a0.f1.length:Int))))] 1 (by kernel_rfl) (len_ok cS_FontGlyph) ?_
 refine T_seqk ?_
 refine T_block ?_
 refine T_reg [] [1,3,18] [(18,.d (.v (.bool (bif (decide (a0.f0 < (16:Int))) then true else (decide (a0.f0 > (1024:Int)))))))] [(4,((((decide (a0.f0 < (16:Int))) == false) && true)=true→True)),(0,((((decide (a0.f0 < (16:Int))) == false) && true)=true→True)),(0,((((decide (a0.f0 < (16:Int))) == false) && true)=true→True))] 2 (by kernel_rfl) (⟨(fun hg=>trivial),(fun hg=>trivial),(fun hg=>trivial)⟩) ?_
 refine T_cond (bif (decide (a0.f0 < (16:Int))) then true else (decide (a0.f0 > (1024:Int)))) (by kernel_rfl) (fun hc=>?_) (fun hc=>?_)
 ·have h:=cond_tt hc h
  refine T_reg [] [2] [(2,.d (.v (.int .i64 (3:Int))))] [] 1 (by kernel_rfl) (trivial) ?_
  obtain hs:=Option.some.inj h; subst hs
  refine T_ret fun a w hm=>inBlock_ret (then_ret (T_return (fr':=[(2,.d (.v (.int .i64 (3:Int))))]) [2] (by kernel_rfl) [.keep [2]] (by kernel_rfl) (by kernel_rfl) (by kernel_rfl) (by show _=_; kernel_rfl) (by exact trivial) a w hm))
 ·have h:=cond_ff hc h
  refine T_reg [] [1,3,27] [(27,.d (.v (.bool ((a0.f1.length:Int) == (0:Int)))))] [] 3 (by kernel_rfl) (trivial) ?_
  refine T_cond ((a0.f1.length:Int) == (0:Int)) (by kernel_rfl) (fun hc=>?_) (fun hc=>?_)
  ·have h:=cond_tt hc h
   refine T_reg [] [2] [(2,.d (.v (.int .i64 (8:Int))))] [] 1 (by kernel_rfl) (trivial) ?_
   obtain hs:=Option.some.inj h; subst hs
   refine T_ret fun a w hm=>inBlock_ret (then_ret (T_return (fr':=[(2,.d (.v (.int .i64 (8:Int))))]) [2] (by kernel_rfl) [.keep [2]] (by kernel_rfl) (by kernel_rfl) (by kernel_rfl) (by show _=_; kernel_rfl) (by exact trivial) a w hm))
  ·have h:=cond_ff hc h
   obtain ⟨z3,hz1,h⟩:=lett_ok h
   refine T_reg [(5,{ rw:=some (.d (.v (.int .i64 (a0.f2.length:Int)))) }),(7,{ rw:=some (.d (.v (.bool z3))) }),(11,{ rw:=some (.d (.v (.int .i64 (a0.f3.length:Int)))) })] [1,3,30] [(30,.d (.v (.bool (bif z3 then true else (decide ((a0.f3.length:Int) > (128:Int)))))))] [(3,((((decide ((a0.f1.length:Int) > (128:Int))) == false) && true)=true→True)),(0,((((decide ((a0.f1.length:Int) > (128:Int))) == false) && true)=true→True)),(0,((((decide ((a0.f1.length:Int) > (128:Int))) == false) && true)=true→True∧AV.d (.v (.int .i64 ((a0.f2.map cS_FontRange).length:Int)))=.d (.v (.int .i64 (a0.f2.length:Int))))),(0,((((decide ((a0.f1.length:Int) > (128:Int))) == false) && true)=true→True)),(0,(True)∧AV.d (.v (.bool (bif (decide ((a0.f1.length:Int) > (128:Int))) then true else (decide ((a0.f2.length:Int) > (64:Int))))))=.d (.v (.bool z3))),(1,(((z3 == false) && true)=true→True)),(0,(((z3 == false) && true)=true→True)),(0,(((z3 == false) && true)=true→True∧AV.d (.v (.int .i64 ((a0.f3.map cS_FontPair).length:Int)))=.d (.v (.int .i64 (a0.f3.length:Int))))),(0,(((z3 == false) && true)=true→True))] 2 (by kernel_rfl) (⟨(fun hg=>trivial),(fun hg=>trivial),(fun hg=>len_ok cS_FontRange),(fun hg=>trivial),⟨trivial,(by subst hz1; rfl)⟩,(fun hg=>trivial),(fun hg=>trivial),(fun hg=>len_ok cS_FontPair),(fun hg=>trivial)⟩) ?_
   refine T_cond (bif z3 then true else (decide ((a0.f3.length:Int) > (128:Int)))) (by kernel_rfl) (fun hc=>?_) (fun hc=>?_)
   ·have h:=cond_tt hc h
    refine T_reg [] [2] [(2,.d (.v (.int .i64 (2:Int))))] [] 1 (by kernel_rfl) (trivial) ?_
    obtain hs:=Option.some.inj h; subst hs
    refine T_ret fun a w hm=>inBlock_ret (then_ret (T_return (fr':=[(2,.d (.v (.int .i64 (2:Int))))]) [2] (by kernel_rfl) [.keep [2]] (by kernel_rfl) (by kernel_rfl) (by kernel_rfl) (by show _=_; kernel_rfl) (by exact trivial) a w hm))
   ·have h:=cond_ff hc h
    refine T_skip fun a w hm=>inBlock_norm (then_norm (((?_:T Tryd.prog e 122 _ _ _) a w hm)))
    obtain ⟨z4,hz2,h⟩:=lett_ok h
    refine T_reg [(2,{ rw:=some (.d (.v (.int .i64 (a0.f2.length:Int)))) }),(7,{ rw:=some (.d (.v (.int .i64 (a0.f3.length:Int)))) }),(9,{ rw:=some (.d (.v (.int .i64 z4))) })] [1,3,4] [(4,.d (.v (.int .i64 z4)))] [(2,True∧AV.d (.v (.int .i64 ((a0.f2.map cS_FontRange).length:Int)))=.d (.v (.int .i64 (a0.f2.length:Int)))),(4,True∧AV.d (.v (.int .i64 ((a0.f3.map cS_FontPair).length:Int)))=.d (.v (.int .i64 (a0.f3.length:Int)))),(1,(True)∧AV.d (.v (.int .i64 (IntKind.i64.wrap ((IntKind.i64.wrap ((27:Int)+(IntKind.i64.wrap ((7:Int) * (a0.f2.length:Int)))))+(IntKind.i64.wrap ((4:Int) * (a0.f3.length:Int)))))))=.d (.v (.int .i64 z4)))] 1 (by kernel_rfl) (⟨len_ok cS_FontRange,len_ok cS_FontPair,⟨trivial,(by subst hz2; rfl)⟩⟩) ?_
    refine T_seqk ?_
    refine T_reg [(2,{ rw:=some (.d (.v (.int .i64 (a0.f1.length:Int)))) })] [1,3,4,56,57,58] [(56,.d (.sl 3 (a0.f1.map cS_FontGlyph))),(57,.d (.v (.int .i64 (a0.f1.length:Int)))),(58,.d (.v (.int .i64 (0:Int))))] [(2,True∧AV.d (.v (.int .i64 ((a0.f1.map cS_FontGlyph).length:Int)))=.d (.v (.int .i64 (a0.f1.length:Int))))] 1 (by kernel_rfl) (len_ok cS_FontGlyph) ?_
    refine T_joinEt h (fun (p:Int)=>[(1,.box [.d (.v (.int .i64 a0.f0)),.d (.sl 3 (a0.f1.map cS_FontGlyph)),.d (.sl 3 (a0.f2.map cS_FontRange)),.d (.sl 3 (a0.f3.map cS_FontPair))]),(4,.d (.v (.int .i64 p)))]) (fun s h hk1=>?_) (fun v7 h=>?_)
    ·refine T_co [.keep [1,3,4,56,57,58]] ((fun (p:Int×Int)=>[(1,.box [.d (.v (.int .i64 a0.f0)),.d (.sl 3 (a0.f1.map cS_FontGlyph)),.d (.sl 3 (a0.f2.map cS_FontRange)),.d (.sl 3 (a0.f3.map cS_FontPair))]),(3,.d (.v (.int .i64 (a0.f1.length:Int)))),(4,.d (.v (.int .i64 p.1))),(56,.d (.sl 3 (a0.f1.map cS_FontGlyph))),(57,.d (.v (.int .i64 (a0.f1.length:Int)))),(58,.d (.v (.int .i64 p.2)))]) (z4,(0:Int))) (by show _=_; kernel_rfl) ?_
     refine T_block ?_
     refine T_loopF (ι:=Int×Int) (fun (p:Int×Int)=>[(1,.box [.d (.v (.int .i64 a0.f0)),.d (.sl 3 (a0.f1.map cS_FontGlyph)),.d (.sl 3 (a0.f2.map cS_FontRange)),.d (.sl 3 (a0.f3.map cS_FontPair))]),(3,.d (.v (.int .i64 (a0.f1.length:Int)))),(4,.d (.v (.int .i64 p.1))),(56,.d (.sl 3 (a0.f1.map cS_FontGlyph))),(57,.d (.v (.int .i64 (a0.f1.length:Int)))),(58,.d (.v (.int .i64 p.2)))]) (fun n p=>ref3_FontError_L1 F a0 n p.1 p.2=some s) (fun i hh=>by simp [ref3_FontError_L1] at hh) (fun n p h=>?_) F (z4,(0:Int)) h
     obtain ⟨v4,v1⟩:=p
     have h:ref3_FontError_L1 F a0 (n+1) v4 v1=some s:=h
     rw [ref3_FontError_L1] at h
     refine T_reg [] [1,3,4,56,57,58,59] [(59,.d (.v (.bool (decide (v1 < (a0.f1.length:Int))))))] [] 1 (by kernel_rfl) (trivial) ?_
     refine T_seqk ?_
     refine T_cond (decide (v1 < (a0.f1.length:Int))) (by kernel_rfl) (fun hc=>?_) (fun hc=>?_)
     ·have h:=cond_tt hc h
      refine T_skip fun a w hm=>then_norm (((?_:T Tryd.prog e 122 _ _ _) a w hm))
      refine T_seqk ?_
      refine T_block ?_
      obtain ⟨hp1,h⟩:=chk_ok h
      refine T_reg [(0,{ cs:=cS_FontGlyph (a0.f1.getD v1.toNat (S_FontGlyph.mk 0 [] [])) })] [1,3,4,6,56,57,58] [(6,.box [.d (.v (.int .i64 ((a0.f1.getD v1.toNat (S_FontGlyph.mk 0 [] [])).f0))),.d (.sl 1 (((a0.f1.getD v1.toNat (S_FontGlyph.mk 0 [] [])).f1).map (cL 3 cS_FontPoint))),.d (.sl 3 (((a0.f1.getD v1.toNat (S_FontGlyph.mk 0 [] [])).f2).map cS_FontPart))])] [(0,0≤v1∧(a0.f1.map cS_FontGlyph)[v1.toNat]? = some (cS_FontGlyph (a0.f1.getD v1.toNat (S_FontGlyph.mk 0 [] []))))] 3 (by kernel_rfl) (idx_ok (d:=(S_FontGlyph.mk 0 [] [])) cS_FontGlyph hp1) ?_
      refine T_seqk ?_
      obtain ⟨y1,hy1,h⟩:=call_ok h
      refine T_reg [(2,{ res:=.d (.v (.int .i64 y1)) })] [1,3,4,6,7,56,57,58] [(7,.d (.v (.int .i64 y1)))] [(2,ACall Tryd.prog 22 [.agg (cS_FontGlyph (a0.f1.getD v1.toNat (S_FontGlyph.mk 0 [] []))),.d (.v (.int .i64 (a0.f1.length:Int)))] [] (.d (.v (.int .i64 y1))) [])] 1 (by kernel_rfl) (ref3_glyphError_ok hy1) ?_
      refine T_reg [] [1,3,4,6,7,56,57,58,66] [(66,.d (.v (.bool (y1 != (0:Int)))))] [] 2 (by kernel_rfl) (trivial) ?_
      refine T_cond (y1 != (0:Int)) (by kernel_rfl) (fun hc=>?_) (fun hc=>?_)
      ·have h:=cond_tt hc h
       refine T_reg [] [2] [(2,.d (.v (.int .i64 y1)))] [] 2 (by kernel_rfl) (trivial) ?_
       obtain hs:=Option.some.inj h; subst hs
       have h:=callE_esc hk1
       obtain hs:=Option.some.inj h; subst hs
       refine T_ret fun a w hm=>then_ret (inBlock_ret (then_ret (then_ret (inBlock_ret (then_ret (then_ret (T_return (fr':=[(2,.d (.v (.int .i64 y1)))]) [2] (by kernel_rfl) [.keep [2]] (by kernel_rfl) (by kernel_rfl) (by kernel_rfl) (by show _=_; kernel_rfl) (by exact trivial) a w hm)))))))
      ·have h:=cond_ff hc h
       refine T_skip fun a w hm=>then_norm (((?_:T Tryd.prog e 122 _ _ _) a w hm))
       obtain ⟨z2,hz3,h⟩:=lett_ok h
       refine T_reg [(3,{ rw:=some (.d (.v (.int .i64 (((a0.f1.getD v1.toNat (S_FontGlyph.mk 0 [] [])).f2).length:Int)))) }),(5,{ rw:=some (.d (.v (.int .i64 z2))) })] [1,3,4,6,56,57,58] [(4,.d (.v (.int .i64 (IntKind.i64.wrap (v4+z2)))))] [(3,True∧AV.d (.v (.int .i64 ((((a0.f1.getD v1.toNat (S_FontGlyph.mk 0 [] [])).f2).map cS_FontPart).length:Int)))=.d (.v (.int .i64 (((a0.f1.getD v1.toNat (S_FontGlyph.mk 0 [] [])).f2).length:Int)))),(1,(True)∧AV.d (.v (.int .i64 (IntKind.i64.wrap ((4:Int)+(IntKind.i64.wrap ((5:Int) * (((a0.f1.getD v1.toNat (S_FontGlyph.mk 0 [] [])).f2).length:Int)))))))=.d (.v (.int .i64 z2)))] 2 (by kernel_rfl) (⟨len_ok cS_FontPart,⟨trivial,(by subst hz3; rfl)⟩⟩) ?_
       refine T_reg [(2,{ rw:=some (.d (.v (.int .i64 (((a0.f1.getD v1.toNat (S_FontGlyph.mk 0 [] [])).f1).length:Int)))) })] [1,3,4,56,57,58,76,77,78] [(76,.d (.sl 1 (((a0.f1.getD v1.toNat (S_FontGlyph.mk 0 [] [])).f1).map (cL 3 cS_FontPoint)))),(77,.d (.v (.int .i64 (((a0.f1.getD v1.toNat (S_FontGlyph.mk 0 [] [])).f1).length:Int)))),(78,.d (.v (.int .i64 (0:Int))))] [(2,True∧AV.d (.v (.int .i64 ((((a0.f1.getD v1.toNat (S_FontGlyph.mk 0 [] [])).f1).map (cL 3 cS_FontPoint)).length:Int)))=.d (.v (.int .i64 (((a0.f1.getD v1.toNat (S_FontGlyph.mk 0 [] [])).f1).length:Int))))] 1 (by kernel_rfl) (len_ok (cL 3 cS_FontPoint)) ?_
       refine T_joinct h (fun (p:Int)=>[(1,.box [.d (.v (.int .i64 a0.f0)),.d (.sl 3 (a0.f1.map cS_FontGlyph)),.d (.sl 3 (a0.f2.map cS_FontRange)),.d (.sl 3 (a0.f3.map cS_FontPair))]),(3,.d (.v (.int .i64 (a0.f1.length:Int)))),(4,.d (.v (.int .i64 p))),(56,.d (.sl 3 (a0.f1.map cS_FontGlyph))),(57,.d (.v (.int .i64 (a0.f1.length:Int)))),(58,.d (.v (.int .i64 v1)))]) (fun s h=>?_) (fun v5 h=>?_)
       ·refine T_co [.keep [1,3,4,56,57,58,76,77,78]] ((fun (p:Int×Int)=>[(1,.box [.d (.v (.int .i64 a0.f0)),.d (.sl 3 (a0.f1.map cS_FontGlyph)),.d (.sl 3 (a0.f2.map cS_FontRange)),.d (.sl 3 (a0.f3.map cS_FontPair))]),(3,.d (.v (.int .i64 (a0.f1.length:Int)))),(4,.d (.v (.int .i64 p.1))),(56,.d (.sl 3 (a0.f1.map cS_FontGlyph))),(57,.d (.v (.int .i64 (a0.f1.length:Int)))),(58,.d (.v (.int .i64 v1))),(76,.d (.sl 1 (((a0.f1.getD v1.toNat (S_FontGlyph.mk 0 [] [])).f1).map (cL 3 cS_FontPoint)))),(77,.d (.v (.int .i64 (((a0.f1.getD v1.toNat (S_FontGlyph.mk 0 [] [])).f1).length:Int)))),(78,.d (.v (.int .i64 p.2)))]) (IntKind.i64.wrap (v4+z2),(0:Int))) (by show _=_; kernel_rfl) ?_
        refine T_block ?_
        refine T_loopF (ι:=Int×Int) (fun (p:Int×Int)=>[(1,.box [.d (.v (.int .i64 a0.f0)),.d (.sl 3 (a0.f1.map cS_FontGlyph)),.d (.sl 3 (a0.f2.map cS_FontRange)),.d (.sl 3 (a0.f3.map cS_FontPair))]),(3,.d (.v (.int .i64 (a0.f1.length:Int)))),(4,.d (.v (.int .i64 p.1))),(56,.d (.sl 3 (a0.f1.map cS_FontGlyph))),(57,.d (.v (.int .i64 (a0.f1.length:Int)))),(58,.d (.v (.int .i64 v1))),(76,.d (.sl 1 (((a0.f1.getD v1.toNat (S_FontGlyph.mk 0 [] [])).f1).map (cL 3 cS_FontPoint)))),(77,.d (.v (.int .i64 (((a0.f1.getD v1.toNat (S_FontGlyph.mk 0 [] [])).f1).length:Int)))),(78,.d (.v (.int .i64 p.2)))]) (fun n p=>ref3_FontError_L3 F a0 v1 n p.1 p.2=some s) (fun i hh=>by simp [ref3_FontError_L3] at hh) (fun n p h=>?_) F (IntKind.i64.wrap (v4+z2),(0:Int)) h
        obtain ⟨v2,v3⟩:=p
        have h:ref3_FontError_L3 F a0 v1 (n+1) v2 v3=some s:=h
        rw [ref3_FontError_L3] at h
        refine T_reg [] [1,3,4,56,57,58,76,77,78,79] [(79,.d (.v (.bool (decide (v3 < (((a0.f1.getD v1.toNat (S_FontGlyph.mk 0 [] [])).f1).length:Int))))))] [] 1 (by kernel_rfl) (trivial) ?_
        refine T_seqk ?_
        refine T_cond (decide (v3 < (((a0.f1.getD v1.toNat (S_FontGlyph.mk 0 [] [])).f1).length:Int))) (by kernel_rfl) (fun hc=>?_) (fun hc=>?_)
        ·have h:=cond_tt hc h
         refine T_skip fun a w hm=>then_norm (((?_:T Tryd.prog e 122 _ _ _) a w hm))
         refine T_seqk ?_
         refine T_block ?_
         obtain ⟨hp2,h⟩:=chk_ok h
         refine T_reg [(0,{ cs:=(cL 3 cS_FontPoint) (((a0.f1.getD v1.toNat (S_FontGlyph.mk 0 [] [])).f1).getD v3.toNat []) })] [1,3,4,9,56,57,58,76,77,78] [(9,.d (.sl 3 ((((a0.f1.getD v1.toNat (S_FontGlyph.mk 0 [] [])).f1).getD v3.toNat []).map cS_FontPoint)))] [(0,0≤v3∧(((a0.f1.getD v1.toNat (S_FontGlyph.mk 0 [] [])).f1).map (cL 3 cS_FontPoint))[v3.toNat]? = some ((cL 3 cS_FontPoint) (((a0.f1.getD v1.toNat (S_FontGlyph.mk 0 [] [])).f1).getD v3.toNat [])))] 2 (by kernel_rfl) (idx_ok (d:=[]) (cL 3 cS_FontPoint) hp2) ?_
         obtain ⟨z1,hz4,h⟩:=lett_ok h
         refine T_reg_end [(2,{ rw:=some (.d (.v (.int .i64 ((((a0.f1.getD v1.toNat (S_FontGlyph.mk 0 [] [])).f1).getD v3.toNat []).length:Int)))) }),(3,{ rw:=some (.d (.v (.int .i64 z1))) })] [1,3,4,56,57,58,76,77,78] [(4,.d (.v (.int .i64 (IntKind.i64.wrap (v2+(IntKind.i64.wrap ((1:Int)+z1)))))))] [(2,True∧AV.d (.v (.int .i64 (((((a0.f1.getD v1.toNat (S_FontGlyph.mk 0 [] [])).f1).getD v3.toNat []).map cS_FontPoint).length:Int)))=.d (.v (.int .i64 ((((a0.f1.getD v1.toNat (S_FontGlyph.mk 0 [] [])).f1).getD v3.toNat []).length:Int)))),(0,(True)∧AV.d (.v (.int .i64 (IntKind.i64.wrap ((5:Int) * ((((a0.f1.getD v1.toNat (S_FontGlyph.mk 0 [] [])).f1).getD v3.toNat []).length:Int)))))=.d (.v (.int .i64 z1)))] 3 (by kernel_rfl) (⟨len_ok cS_FontPoint,⟨trivial,(by subst hz4; rfl)⟩⟩) fun a w hm=>inBlock_norm (then_norm (((?_:T Tryd.prog e 122 _ _ _) a w hm)))
         refine T_reg_end [] [1,3,4,56,57,58,76,77,78] [(78,.d (.v (.int .i64 (IntKind.i64.wrap (v3+(1:Int))))))] [] 2 (by kernel_rfl) (trivial) fun a w hm=>then_norm (⟨(IntKind.i64.wrap (v2+(IntKind.i64.wrap ((1:Int)+z1))),IntKind.i64.wrap (v3+(1:Int))),h,hm.co (cs:=[.keep [1,3,4,56,57,58,76,77,78]]) (by show _=_; kernel_rfl)⟩)
        ·have h:=cond_ff hc h
         obtain hs:=Option.some.inj h; subst hs
         refine T_exit fun a w hm=>then_exit (then_exit (inBlock_exit (then_norm (hm.co (cs:=[.keep [1,3,4,56,57,58]]) (by show _=_; kernel_rfl)))))
       ·skip
        refine fun a w hm=>inBlock_norm (then_norm (((?_:T Tryd.prog e 122 _ _ _) a w hm)))
        refine T_reg_end [] [1,3,4,56,57,58] [(58,.d (.v (.int .i64 (IntKind.i64.wrap (v1+(1:Int))))))] [] 2 (by kernel_rfl) (trivial) fun a w hm=>then_norm (⟨(v5,IntKind.i64.wrap (v1+(1:Int))),h,hm.co (cs:=[.keep [1,3,4,56,57,58]]) (by show _=_; kernel_rfl)⟩)
     ·have h:=cond_ff hc h
      obtain hs:=Option.some.inj h; subst hs
      refine T_exit fun a w hm=>then_exit (then_exit (inBlock_exit (then_norm (⟨_,rfl,hm.co (cs:=[.keep [1,4]]) (by show _=_; kernel_rfl)⟩))))
    ·skip
     refine fun a w hm=>then_norm (((?_:T Tryd.prog e 122 _ _ _) a w hm))
     refine T_seqk ?_
     obtain ⟨y3,hy2,h⟩:=call_ok h
     refine T_reg [(1,{ res:=.d (.v (.int .i64 y3)) })] [1,4,10] [(10,.d (.v (.int .i64 y3)))] [(1,ACall Tryd.prog 23 [.agg (cS_Font a0)] [] (.d (.v (.int .i64 y3))) [])] 1 (by kernel_rfl) (ref3_mapError_ok hy2) ?_
     refine T_reg [] [1,4,10,93] [(93,.d (.v (.bool (y3 != (0:Int)))))] [] 2 (by kernel_rfl) (trivial) ?_
     refine T_cond (y3 != (0:Int)) (by kernel_rfl) (fun hc=>?_) (fun hc=>?_)
     ·have h:=cond_tt hc h
      refine T_reg [] [2] [(2,.d (.v (.int .i64 y3)))] [] 2 (by kernel_rfl) (trivial) ?_
      obtain hs:=Option.some.inj h; subst hs
      refine T_ret fun a w hm=>then_ret (T_return (fr':=[(2,.d (.v (.int .i64 y3)))]) [2] (by kernel_rfl) [.keep [2]] (by kernel_rfl) (by kernel_rfl) (by kernel_rfl) (by show _=_; kernel_rfl) (by exact trivial) a w hm)
     ·have h:=cond_ff hc h
      refine T_skip fun a w hm=>then_norm (((?_:T Tryd.prog e 122 _ _ _) a w hm))
      obtain ⟨y2,hy3,h⟩:=call_ok h
      refine T_reg [(1,{ res:=.tup [.own 3 1 (y2.1.map (cI .i64)),.own 3 1 (y2.2.1.map (cI .i64)),.d (.v (.bool y2.2.2))] })] [1,4,11,12,13] [(11,.own 3 1 (y2.1.map (cI .i64))),(12,.own 3 1 (y2.2.1.map (cI .i64))),(13,.d (.v (.bool y2.2.2)))] [(1,ACall Tryd.prog 24 [.agg (cS_Font a0)] [] (.tup [.own 3 1 (y2.1.map (cI .i64)),.own 3 1 (y2.2.1.map (cI .i64)),.d (.v (.bool y2.2.2))]) [])] 7 (by kernel_rfl) (ref3_nested_ok hy3) ?_
      refine T_seqk ?_
      refine T_reg [] [1,4,11,12,102] [(102,.d (.v (.bool (!y2.2.2))))] [] 2 (by kernel_rfl) (trivial) ?_
      refine T_cond (!y2.2.2) (by kernel_rfl) (fun hc=>?_) (fun hc=>?_)
      ·have h:=cond_tt hc h
       refine T_reg [] [2] [(2,.d (.v (.int .i64 (13:Int))))] [] 1 (by kernel_rfl) (trivial) ?_
       obtain hs:=Option.some.inj h; subst hs
       refine T_ret fun a w hm=>then_ret (T_return (fr':=[(2,.d (.v (.int .i64 (13:Int))))]) [2] (by kernel_rfl) [.keep [2]] (by kernel_rfl) (by kernel_rfl) (by kernel_rfl) (by show _=_; kernel_rfl) (by exact trivial) a w hm)
      ·have h:=cond_ff hc h
       refine T_skip fun a w hm=>then_norm (((?_:T Tryd.prog e 122 _ _ _) a w hm))
       refine T_seqk ?_
       refine T_reg [(2,{ rw:=some (.d (.v (.int .i64 (a0.f1.length:Int)))) })] [4,11,12,105,106] [(105,.d (.v (.int .i64 (a0.f1.length:Int)))),(106,.d (.v (.int .i64 (0:Int))))] [(2,True∧AV.d (.v (.int .i64 ((a0.f1.map cS_FontGlyph).length:Int)))=.d (.v (.int .i64 (a0.f1.length:Int))))] 1 (by kernel_rfl) (len_ok cS_FontGlyph) ?_
       refine T_joinEt h (fun (p:Unit)=>[(4,.d (.v (.int .i64 v7)))]) (fun s h hk2=>?_) (fun s h=>?_)
       ·refine T_co [.keep [4,11,12,105,106]] ((fun (p:Int)=>[(4,.d (.v (.int .i64 v7))),(11,.own 3 1 (y2.1.map (cI .i64))),(12,.own 3 1 (y2.2.1.map (cI .i64))),(105,.d (.v (.int .i64 (a0.f1.length:Int)))),(106,.d (.v (.int .i64 p)))]) (0:Int)) (by show _=_; kernel_rfl) ?_
        refine T_block ?_
        refine T_loopF (ι:=Int) (fun (p:Int)=>[(4,.d (.v (.int .i64 v7))),(11,.own 3 1 (y2.1.map (cI .i64))),(12,.own 3 1 (y2.2.1.map (cI .i64))),(105,.d (.v (.int .i64 (a0.f1.length:Int)))),(106,.d (.v (.int .i64 p)))]) (fun n p=>ref3_FontError_L5 F a0 y2 n p=some s) (fun i hh=>by simp [ref3_FontError_L5] at hh) (fun n v6 h=>?_) F (0:Int) h
        have h:ref3_FontError_L5 F a0 y2 (n+1) v6=some s:=h
        rw [ref3_FontError_L5] at h
        refine T_reg [] [4,11,12,105,106,107] [(107,.d (.v (.bool (decide (v6 < (a0.f1.length:Int))))))] [] 1 (by kernel_rfl) (trivial) ?_
        refine T_seqk ?_
        refine T_cond (decide (v6 < (a0.f1.length:Int))) (by kernel_rfl) (fun hc=>?_) (fun hc=>?_)
        ·have h:=cond_tt hc h
         refine T_skip fun a w hm=>then_norm (((?_:T Tryd.prog e 122 _ _ _) a w hm))
         refine T_seqk ?_
         refine T_block ?_
         refine T_reg [] [4,11,12,14,105,106] [(14,.d (.v (.int .i64 v6)))] [] 2 (by kernel_rfl) (trivial) ?_
         refine T_seqk ?_
         obtain ⟨hp3,h⟩:=chk_ok h
         refine T_reg [(3,{ cs:=(cI .i64) (y2.1.getD v6.toNat 0) })] [4,11,12,14,105,106,113] [(113,.d (.v (.bool (decide ((y2.1.getD v6.toNat 0) > (4:Int))))))] [(2,0≤v6∧v6 < (y2.1.map (cI .i64)).length),(0,(y2.1.map (cI .i64))[v6.toNat]? = some ((cI .i64) (y2.1.getD v6.toNat 0)))] 1 (by kernel_rfl) (⟨own_idx (cI .i64) hp3,(idx_ok (d:=0) (cI .i64) hp3).2⟩) ?_
         refine T_cond (decide ((y2.1.getD v6.toNat 0) > (4:Int))) (by kernel_rfl) (fun hc=>?_) (fun hc=>?_)
         ·have h:=cond_tt hc h
          refine T_reg [] [2] [(2,.d (.v (.int .i64 (15:Int))))] [] 1 (by kernel_rfl) (trivial) ?_
          obtain hs:=Option.some.inj h; subst hs
          have h:=callE_esc hk2
          obtain hs:=Option.some.inj h; subst hs
          refine T_ret fun a w hm=>then_ret (inBlock_ret (then_ret (then_ret (inBlock_ret (then_ret (then_ret (T_return (fr':=[(2,.d (.v (.int .i64 (15:Int))))]) [2] (by kernel_rfl) [.keep [2]] (by kernel_rfl) (by kernel_rfl) (by kernel_rfl) (by show _=_; kernel_rfl) (by exact trivial) a w hm)))))))
         ·have h:=cond_ff hc h
          refine T_skip fun a w hm=>then_norm (((?_:T Tryd.prog e 122 _ _ _) a w hm))
          obtain ⟨hp4,h⟩:=chk_ok h
          refine T_reg [(3,{ cs:=(cI .i64) (y2.2.1.getD v6.toNat 0) })] [4,11,12,105,106,118] [(118,.d (.v (.bool (decide ((y2.2.1.getD v6.toNat 0) > (512:Int))))))] [(2,0≤v6∧v6 < (y2.2.1.map (cI .i64)).length),(0,(y2.2.1.map (cI .i64))[v6.toNat]? = some ((cI .i64) (y2.2.1.getD v6.toNat 0)))] 1 (by kernel_rfl) (⟨own_idx (cI .i64) hp4,(idx_ok (d:=0) (cI .i64) hp4).2⟩) ?_
          refine T_cond (decide ((y2.2.1.getD v6.toNat 0) > (512:Int))) (by kernel_rfl) (fun hc=>?_) (fun hc=>?_)
          ·have h:=cond_tt hc h
           refine T_reg [] [2] [(2,.d (.v (.int .i64 (2:Int))))] [] 1 (by kernel_rfl) (trivial) ?_
           obtain hs:=Option.some.inj h; subst hs
           have h:=callE_esc hk2
           obtain hs:=Option.some.inj h; subst hs
           refine T_ret fun a w hm=>inBlock_ret (then_ret (then_ret (inBlock_ret (then_ret (then_ret (T_return (fr':=[(2,.d (.v (.int .i64 (2:Int))))]) [2] (by kernel_rfl) [.keep [2]] (by kernel_rfl) (by kernel_rfl) (by kernel_rfl) (by show _=_; kernel_rfl) (by exact trivial) a w hm))))))
          ·have h:=cond_ff hc h
           refine T_skip fun a w hm=>inBlock_norm (then_norm (((?_:T Tryd.prog e 122 _ _ _) a w hm)))
           refine T_reg_end [] [4,11,12,105,106] [(106,.d (.v (.int .i64 (IntKind.i64.wrap (v6+(1:Int))))))] [] 2 (by kernel_rfl) (trivial) fun a w hm=>then_norm (⟨IntKind.i64.wrap (v6+(1:Int)),h,hm.co (cs:=[.keep [4,11,12,105,106]]) (by show _=_; kernel_rfl)⟩)
        ·have h:=cond_ff hc h
         obtain hs:=Option.some.inj h; subst hs
         refine T_exit fun a w hm=>then_exit (then_exit (inBlock_exit (then_norm (⟨_,rfl,hm.co (cs:=[.keep [4]]) (by show _=_; kernel_rfl)⟩))))
       ·skip
        refine fun a w hm=>then_norm (((?_:T Tryd.prog e 122 _ _ _) a w hm))
        refine T_seqk ?_
        refine T_reg [] [121] [(121,.d (.v (.bool (decide (v7 > (4096:Int))))))] [] 2 (by kernel_rfl) (trivial) ?_
        refine T_cond (decide (v7 > (4096:Int))) (by kernel_rfl) (fun hc=>?_) (fun hc=>?_)
        ·have h:=cond_tt hc h
         refine T_reg [] [2] [(2,.d (.v (.int .i64 (2:Int))))] [] 1 (by kernel_rfl) (trivial) ?_
         obtain hs:=Option.some.inj h; subst hs
         refine T_ret fun a w hm=>then_ret (T_return (fr':=[(2,.d (.v (.int .i64 (2:Int))))]) [2] (by kernel_rfl) [.keep [2]] (by kernel_rfl) (by kernel_rfl) (by kernel_rfl) (by show _=_; kernel_rfl) (by exact trivial) a w hm)
        ·have h:=cond_ff hc h
         refine T_skip fun a w hm=>then_norm (((?_:T Tryd.prog e 122 _ _ _) a w hm))
         refine T_reg [] [2] [(2,.d (.v (.int .i64 (0:Int))))] [] 1 (by kernel_rfl) (trivial) ?_
         obtain hs:=Option.some.inj h; subst hs
         refine T_ret fun a w hm=>T_return (fr':=[(2,.d (.v (.int .i64 (0:Int))))]) [2] (by kernel_rfl) [.keep [2]] (by kernel_rfl) (by kernel_rfl) (by kernel_rfl) (by show _=_; kernel_rfl) (by exact trivial) a w hm
theorem font_Encode_ok {F:Nat} {a0:S_Font} {r:(List UInt8)×Int} (h:font_Encode F a0=some r):ACall Tryd.prog 7 [.agg (cS_Font a0)] [.glo 0 (glob_filter_steps.flatMap (cI .u32))] (.tup [.d (.str r.1),.d (.v (.int .i64 r.2))]) [.glo 0 (glob_filter_steps.flatMap (cI .u32))]:=by
 rw [font_Encode] at h
 refine ACall.intro (N:=12) Tryd.func7 rfl rfl rfl rfl rfl fun e=>?_
 refine T_reg [] [1,1000000] [(1,.box [.d (.v (.int .i64 a0.f0)),.d (.sl 3 (a0.f1.map cS_FontGlyph)),.d (.sl 3 (a0.f2.map cS_FontRange)),.d (.sl 3 (a0.f3.map cS_FontPair))])] [] 3 (by kernel_rfl) (trivial) ?_
 refine T_seqk ?_
 obtain ⟨y1,hy1,h⟩:=call_ok h
 refine T_reg [(1,{ res:=.d (.v (.int .i64 y1)),vout:=[.glo 0 (glob_filter_steps.flatMap (cI .u32))],xs:=[1000000] })] [1,4,1000000] [(4,.d (.v (.int .i64 y1)))] [(1,ACall Tryd.prog 13 [.agg (cS_Font a0)] [.glo 0 (glob_filter_steps.flatMap (cI .u32))] (.d (.v (.int .i64 y1))) [.glo 0 (glob_filter_steps.flatMap (cI .u32))])] 1 (by kernel_rfl) (font_Check_ok hy1) ?_
 refine T_reg [] [1,4,8,1000000] [(8,.d (.v (.bool (y1 != (0:Int)))))] [] 2 (by kernel_rfl) (trivial) ?_
 refine T_cond (y1 != (0:Int)) (by kernel_rfl) (fun hc=>?_) (fun hc=>?_)
 ·have h:=cond_tt hc h
  refine T_reg [] [2,3,1000000] [(2,.d (.str [])),(3,.d (.v (.int .i64 y1)))] [] 3 (by kernel_rfl) (trivial) ?_
  obtain hs:=Option.some.inj h; subst hs
  refine T_ret fun a w hm=>then_ret (T_return (fr':=[(2,.d (.str [])),(3,.d (.v (.int .i64 y1))),(1000000,.glo 0 (glob_filter_steps.flatMap (cI .u32)))]) [2,3] (by kernel_rfl) [.keep [2,3,1000000]] (by kernel_rfl) (by kernel_rfl) (by kernel_rfl) (by show _=_; kernel_rfl) (by exact ⟨⟨by kernel_rfl,by kernel_rfl⟩,trivial⟩) a w hm)
 ·have h:=cond_ff hc h
  refine T_skip fun a w hm=>then_norm (((?_:T Tryd.prog e 12 _ _ _) a w hm))
  obtain ⟨y2,hy2,h⟩:=call_ok h
  refine T_reg [(1,{ res:=.d (.str y2),vout:=[.glo 0 (glob_filter_steps.flatMap (cI .u32))],xs:=[1000000] })] [2,3,1000000] [(2,.d (.str y2)),(3,.d (.v (.int .i64 (0:Int))))] [(1,ACall Tryd.prog 25 [.agg (cS_Font a0)] [.glo 0 (glob_filter_steps.flatMap (cI .u32))] (.d (.str y2)) [.glo 0 (glob_filter_steps.flatMap (cI .u32))])] 2 (by kernel_rfl) (font_written_ok hy2) ?_
  obtain hs:=Option.some.inj h; subst hs
  refine T_ret fun a w hm=>T_return (fr':=[(2,.d (.str y2)),(3,.d (.v (.int .i64 (0:Int)))),(1000000,.glo 0 (glob_filter_steps.flatMap (cI .u32)))]) [2,3] (by kernel_rfl) [.keep [2,3,1000000]] (by kernel_rfl) (by kernel_rfl) (by kernel_rfl) (by show _=_; kernel_rfl) (by exact ⟨⟨by kernel_rfl,by kernel_rfl⟩,trivial⟩) a w hm
theorem ref3_GlyphOf_ok {F:Nat} {a0:S_Font} {a1:Int} {r:Int} (h:ref3_GlyphOf F a0 a1=some r):ACall Tryd.prog 26 [.agg (cS_Font a0),.d (.v (.int .i64 a1))] [] (.d (.v (.int .i64 r))) []:=by
 rw [ref3_GlyphOf] at h
 refine ACall.intro (N:=35) Tryd.func26 rfl rfl rfl rfl rfl fun e=>?_
 refine T_reg [] [1,2] [(2,.box [.d (.v (.int .i64 a0.f0)),.d (.sl 3 (a0.f1.map cS_FontGlyph)),.d (.sl 3 (a0.f2.map cS_FontRange)),.d (.sl 3 (a0.f3.map cS_FontPair))])] [] 2 (by kernel_rfl) (trivial) ?_
 refine T_seqk ?_
 refine T_reg [(2,{ rw:=some (.d (.v (.int .i64 (a0.f2.length:Int)))) })] [1,9,10,11] [(9,.d (.sl 3 (a0.f2.map cS_FontRange))),(10,.d (.v (.int .i64 (a0.f2.length:Int)))),(11,.d (.v (.int .i64 (0:Int))))] [(2,True∧AV.d (.v (.int .i64 ((a0.f2.map cS_FontRange).length:Int)))=.d (.v (.int .i64 (a0.f2.length:Int))))] 1 (by kernel_rfl) (len_ok cS_FontRange) ?_
 refine T_joinEt h (fun (p:Unit)=>[]) (fun s h hk1=>?_) (fun s h=>?_)
 ·refine T_co [.keep [1,9,10,11]] ((fun (p:Int)=>[(1,.d (.v (.int .i64 a1))),(9,.d (.sl 3 (a0.f2.map cS_FontRange))),(10,.d (.v (.int .i64 (a0.f2.length:Int)))),(11,.d (.v (.int .i64 p)))]) (0:Int)) (by show _=_; kernel_rfl) ?_
  refine T_block ?_
  refine T_loopF (ι:=Int) (fun (p:Int)=>[(1,.d (.v (.int .i64 a1))),(9,.d (.sl 3 (a0.f2.map cS_FontRange))),(10,.d (.v (.int .i64 (a0.f2.length:Int)))),(11,.d (.v (.int .i64 p)))]) (fun n p=>ref3_GlyphOf_L0 F a0 a1 n p=some s) (fun i hh=>by simp [ref3_GlyphOf_L0] at hh) (fun n v1 h=>?_) F (0:Int) h
  have h:ref3_GlyphOf_L0 F a0 a1 (n+1) v1=some s:=h
  rw [ref3_GlyphOf_L0] at h
  refine T_reg [] [1,9,10,11,12] [(12,.d (.v (.bool (decide (v1 < (a0.f2.length:Int))))))] [] 1 (by kernel_rfl) (trivial) ?_
  refine T_seqk ?_
  refine T_cond (decide (v1 < (a0.f2.length:Int))) (by kernel_rfl) (fun hc=>?_) (fun hc=>?_)
  ·have h:=cond_tt hc h
   refine T_skip fun a w hm=>then_norm (((?_:T Tryd.prog e 35 _ _ _) a w hm))
   refine T_seqk ?_
   refine T_block ?_
   obtain ⟨hp1,h⟩:=chk_ok h
   refine T_reg [(0,{ cs:=cS_FontRange (a0.f2.getD v1.toNat (S_FontRange.mk 0 0 0)) })] [1,6,9,10,11] [(6,.box [.d (.v (.int .i64 ((a0.f2.getD v1.toNat (S_FontRange.mk 0 0 0)).f0))),.d (.v (.int .i64 ((a0.f2.getD v1.toNat (S_FontRange.mk 0 0 0)).f1))),.d (.v (.int .i64 ((a0.f2.getD v1.toNat (S_FontRange.mk 0 0 0)).f2)))])] [(0,0≤v1∧(a0.f2.map cS_FontRange)[v1.toNat]? = some (cS_FontRange (a0.f2.getD v1.toNat (S_FontRange.mk 0 0 0))))] 3 (by kernel_rfl) (idx_ok (d:=(S_FontRange.mk 0 0 0)) cS_FontRange hp1) ?_
   refine T_reg [] [1,6,7,9,10,11] [(7,.d (.v (.int .i64 (0:Int))))] [] 1 (by kernel_rfl) (trivial) ?_
   refine T_joinEt h (fun (p:Unit)=>[(1,.d (.v (.int .i64 a1))),(9,.d (.sl 3 (a0.f2.map cS_FontRange))),(10,.d (.v (.int .i64 (a0.f2.length:Int)))),(11,.d (.v (.int .i64 v1)))]) (fun s h hk2=>?_) (fun s h=>?_)
   ·refine T_co [.keep [1,6,7,9,10,11]] ((fun (p:Int)=>[(1,.d (.v (.int .i64 a1))),(6,.box [.d (.v (.int .i64 ((a0.f2.getD v1.toNat (S_FontRange.mk 0 0 0)).f0))),.d (.v (.int .i64 ((a0.f2.getD v1.toNat (S_FontRange.mk 0 0 0)).f1))),.d (.v (.int .i64 ((a0.f2.getD v1.toNat (S_FontRange.mk 0 0 0)).f2)))]),(7,.d (.v (.int .i64 p))),(9,.d (.sl 3 (a0.f2.map cS_FontRange))),(10,.d (.v (.int .i64 (a0.f2.length:Int)))),(11,.d (.v (.int .i64 v1)))]) (0:Int)) (by show _=_; kernel_rfl) ?_
    refine T_block ?_
    refine T_loopF (ι:=Int) (fun (p:Int)=>[(1,.d (.v (.int .i64 a1))),(6,.box [.d (.v (.int .i64 ((a0.f2.getD v1.toNat (S_FontRange.mk 0 0 0)).f0))),.d (.v (.int .i64 ((a0.f2.getD v1.toNat (S_FontRange.mk 0 0 0)).f1))),.d (.v (.int .i64 ((a0.f2.getD v1.toNat (S_FontRange.mk 0 0 0)).f2)))]),(7,.d (.v (.int .i64 p))),(9,.d (.sl 3 (a0.f2.map cS_FontRange))),(10,.d (.v (.int .i64 (a0.f2.length:Int)))),(11,.d (.v (.int .i64 v1)))]) (fun n p=>ref3_GlyphOf_L2 F a0 a1 v1 n p=some s) (fun i hh=>by simp [ref3_GlyphOf_L2] at hh) (fun n v2 h=>?_) F (0:Int) h
    have h:ref3_GlyphOf_L2 F a0 a1 v1 (n+1) v2=some s:=h
    rw [ref3_GlyphOf_L2] at h
    refine T_seqk ?_
    obtain ⟨z1,hz1,h⟩:=lett_ok h
    refine T_reg [(5,{ rw:=some (.d (.v (.int .i64 z1))) })] [1,6,7,9,10,11,21] [(21,.d (.v (.bool (decide (v2≤z1)))))] [(5,(True)∧AV.d (.v (.int .i64 (IntKind.i64.wrap (((a0.f2.getD v1.toNat (S_FontRange.mk 0 0 0)).f1) - ((a0.f2.getD v1.toNat (S_FontRange.mk 0 0 0)).f0)))))=.d (.v (.int .i64 z1)))] 1 (by kernel_rfl) (⟨trivial,(by subst hz1; rfl)⟩) ?_
    refine T_cond (decide (v2≤z1)) (by kernel_rfl) (fun hc=>?_) (fun hc=>?_)
    ·have h:=cond_tt hc h
     refine T_skip fun a w hm=>then_norm (((?_:T Tryd.prog e 35 _ _ _) a w hm))
     refine T_seqk ?_
     refine T_block ?_
     refine T_reg [] [1,6,7,9,10,11,29] [(29,.d (.v (.bool ((IntKind.i64.wrap (((a0.f2.getD v1.toNat (S_FontRange.mk 0 0 0)).f0)+v2)) == a1))))] [] 6 (by kernel_rfl) (trivial) ?_
     refine T_cond ((IntKind.i64.wrap (((a0.f2.getD v1.toNat (S_FontRange.mk 0 0 0)).f0)+v2)) == a1) (by kernel_rfl) (fun hc=>?_) (fun hc=>?_)
     ·have h:=cond_tt hc h
      refine T_reg [] [4] [(4,.d (.v (.int .i64 (IntKind.i64.wrap (((a0.f2.getD v1.toNat (S_FontRange.mk 0 0 0)).f2)+v2)))))] [] 5 (by kernel_rfl) (trivial) ?_
      obtain hs:=Option.some.inj h; subst hs
      have h:=callE_esc hk2
      obtain hs:=Option.some.inj h; subst hs
      have h:=callE_esc hk1
      obtain hs:=Option.some.inj h; subst hs
      refine T_ret fun a w hm=>inBlock_ret (then_ret (then_ret (inBlock_ret (then_ret (inBlock_ret (then_ret (then_ret (inBlock_ret (then_ret (then_ret (T_return (fr':=[(4,.d (.v (.int .i64 (IntKind.i64.wrap (((a0.f2.getD v1.toNat (S_FontRange.mk 0 0 0)).f2)+v2)))))]) [4] (by kernel_rfl) [.keep [4]] (by kernel_rfl) (by kernel_rfl) (by kernel_rfl) (by show _=_; kernel_rfl) (by exact trivial) a w hm)))))))))))
     ·have h:=cond_ff hc h
      refine T_skip fun a w hm=>inBlock_norm (then_norm (((?_:T Tryd.prog e 35 _ _ _) a w hm)))
      refine T_reg_end [] [1,6,7,9,10,11] [(7,.d (.v (.int .i64 (IntKind.i64.wrap (v2+(1:Int))))))] [] 3 (by kernel_rfl) (trivial) fun a w hm=>then_norm (⟨IntKind.i64.wrap (v2+(1:Int)),h,hm.co (cs:=[.keep [1,6,7,9,10,11]]) (by show _=_; kernel_rfl)⟩)
    ·have h:=cond_ff hc h
     obtain hs:=Option.some.inj h; subst hs
     refine T_exit fun a w hm=>then_exit (then_exit (inBlock_exit (then_norm (⟨_,rfl,hm.co (cs:=[.keep [1,9,10,11]]) (by show _=_; kernel_rfl)⟩))))
   ·skip
    refine fun a w hm=>inBlock_norm (then_norm (((?_:T Tryd.prog e 35 _ _ _) a w hm)))
    refine T_reg_end [] [1,9,10,11] [(11,.d (.v (.int .i64 (IntKind.i64.wrap (v1+(1:Int))))))] [] 2 (by kernel_rfl) (trivial) fun a w hm=>then_norm (⟨IntKind.i64.wrap (v1+(1:Int)),h,hm.co (cs:=[.keep [1,9,10,11]]) (by show _=_; kernel_rfl)⟩)
  ·have h:=cond_ff hc h
   obtain hs:=Option.some.inj h; subst hs
   refine T_exit fun a w hm=>then_exit (then_exit (inBlock_exit (then_norm (⟨_,rfl,hm.co (cs:=[.keep []]) (by show _=_; kernel_rfl)⟩))))
 ·skip
  refine fun a w hm=>then_norm (((?_:T Tryd.prog e 35 _ _ _) a w hm))
  refine T_reg [] [4] [(4,.d (.v (.int .i64 (0:Int))))] [] 1 (by kernel_rfl) (trivial) ?_
  obtain hs:=Option.some.inj h; subst hs
  refine T_ret fun a w hm=>T_return (fr':=[(4,.d (.v (.int .i64 (0:Int))))]) [4] (by kernel_rfl) [.keep [4]] (by kernel_rfl) (by kernel_rfl) (by kernel_rfl) (by show _=_; kernel_rfl) (by exact trivial) a w hm
theorem ref3_Needed_ok {F:Nat} {a0:S_Font} {a1:List Int} {r:(List Bool)} (h:ref3_Needed F a0 a1=some r):ACall Tryd.prog 8 [.agg (cS_Font a0),.d (.sl 1 (a1.map (cI .i64)))] [] (.agg (r.map cB).flatten) []:=by
 rw [ref3_Needed] at h
 refine ACall.intro (N:=60) Tryd.func8 rfl rfl rfl rfl rfl fun e=>?_
 refine T_reg [(1,{ es:=some ((List.replicate 128 false).map cB) })] [1,2,4] [(2,.box [.d (.v (.int .i64 a0.f0)),.d (.sl 3 (a0.f1.map cS_FontGlyph)),.d (.sl 3 (a0.f2.map cS_FontRange)),.d (.sl 3 (a0.f3.map cS_FontPair))]),(4,.arr 35 1 ((List.replicate 128 false).map cB))] [(1,ArrZero Tryd.prog 35 128 4∧List.replicate 128 (cB false)=((List.replicate 128 false).map cB))] 0 (by kernel_rfl) (⟨(by show _=_; kernel_rfl),repl_ok cB rfl⟩) ?_
 refine T_reg [(0,{ es:=some ((List.replicate 128 false).map cB) })] [1,2,4,5] [(5,.arr 35 1 ((List.replicate 128 false).map cB))] [(0,ArrZero Tryd.prog 35 128 4∧List.replicate 128 (cB false)=((List.replicate 128 false).map cB))] 0 (by kernel_rfl) (⟨(by show _=_; kernel_rfl),repl_ok cB rfl⟩) ?_
 obtain ⟨hp1,h⟩:=chk_ok h
 refine T_reg [(1,{ cs:=cB ((List.replicate 128 false).getD (0:Int).toNat false),es:=some (((List.replicate 128 false).set (0:Int).toNat true).map cB) })] [1,2,4,5] [(5,.arr 35 1 (((List.replicate 128 false).set (0:Int).toNat true).map cB))] [(0,0≤(0:Int)∧(0:Int) < 128),(0,((List.replicate 128 false).map cB)[(0:Int).toNat]? = some (cB ((List.replicate 128 false).getD (0:Int).toNat false))∧((List.replicate 128 false).map cB).set (0:Int).toNat (cB true)=(((List.replicate 128 false).set (0:Int).toNat true).map cB))] 0 (by kernel_rfl) (⟨(hp1).1,⟨(idx_ok (d:=false) cB ⟨(hp1).1.1,(hp1).2⟩).2,set_ok cB rfl⟩⟩) ?_
 refine T_seqk ?_
 refine T_reg [(1,{ rw:=some (.d (.v (.int .i64 (a1.length:Int)))) })] [2,4,5,13,14,15] [(13,.d (.sl 1 (a1.map (cI .i64)))),(14,.d (.v (.int .i64 (a1.length:Int)))),(15,.d (.v (.int .i64 (0:Int))))] [(1,True∧AV.d (.v (.int .i64 ((a1.map (cI .i64)).length:Int)))=.d (.v (.int .i64 (a1.length:Int))))] 1 (by kernel_rfl) (len_ok (cI .i64)) ?_
 refine T_joinct h (fun (p:(List Bool))=>[(2,.box [.d (.v (.int .i64 a0.f0)),.d (.sl 3 (a0.f1.map cS_FontGlyph)),.d (.sl 3 (a0.f2.map cS_FontRange)),.d (.sl 3 (a0.f3.map cS_FontPair))]),(4,.arr 35 1 ((List.replicate 128 false).map cB)),(5,.arr 35 1 (p.map cB))]) (fun s h=>?_) (fun v11 h=>?_)
 ·refine T_co [.keep [2,4,5,13,14,15]] ((fun (p:(List Bool)×Int)=>[(2,.box [.d (.v (.int .i64 a0.f0)),.d (.sl 3 (a0.f1.map cS_FontGlyph)),.d (.sl 3 (a0.f2.map cS_FontRange)),.d (.sl 3 (a0.f3.map cS_FontPair))]),(4,.arr 35 1 ((List.replicate 128 false).map cB)),(5,.arr 35 1 (p.1.map cB)),(13,.d (.sl 1 (a1.map (cI .i64)))),(14,.d (.v (.int .i64 (a1.length:Int)))),(15,.d (.v (.int .i64 p.2)))]) (((List.replicate 128 false).set (0:Int).toNat true),(0:Int))) (by show _=_; kernel_rfl) ?_
  refine T_block ?_
  refine T_loopF (ι:=(List Bool)×Int) (fun (p:(List Bool)×Int)=>[(2,.box [.d (.v (.int .i64 a0.f0)),.d (.sl 3 (a0.f1.map cS_FontGlyph)),.d (.sl 3 (a0.f2.map cS_FontRange)),.d (.sl 3 (a0.f3.map cS_FontPair))]),(4,.arr 35 1 ((List.replicate 128 false).map cB)),(5,.arr 35 1 (p.1.map cB)),(13,.d (.sl 1 (a1.map (cI .i64)))),(14,.d (.v (.int .i64 (a1.length:Int)))),(15,.d (.v (.int .i64 p.2)))]) (fun n p=>ref3_Needed_L0 F a0 a1 n p.1 p.2=some s) (fun i hh=>by simp [ref3_Needed_L0] at hh) (fun n p h=>?_) F (((List.replicate 128 false).set (0:Int).toNat true),(0:Int)) h
  obtain ⟨v1,v2⟩:=p
  have h:ref3_Needed_L0 F a0 a1 (n+1) v1 v2=some s:=h
  rw [ref3_Needed_L0] at h
  refine T_reg [] [2,4,5,13,14,15,16] [(16,.d (.v (.bool (decide (v2 < (a1.length:Int))))))] [] 1 (by kernel_rfl) (trivial) ?_
  refine T_seqk ?_
  refine T_cond (decide (v2 < (a1.length:Int))) (by kernel_rfl) (fun hc=>?_) (fun hc=>?_)
  ·have h:=cond_tt hc h
   refine T_skip fun a w hm=>then_norm (((?_:T Tryd.prog e 60 _ _ _) a w hm))
   refine T_seqk ?_
   refine T_block ?_
   obtain ⟨hp2,h⟩:=chk_ok h
   refine T_reg [(0,{ cs:=(cI .i64) (a1.getD v2.toNat 0) })] [2,4,5,7,13,14,15] [(7,.d (.v (.int .i64 (a1.getD v2.toNat 0))))] [(0,0≤v2∧(a1.map (cI .i64))[v2.toNat]? = some ((cI .i64) (a1.getD v2.toNat 0)))] 2 (by kernel_rfl) (idx_ok (d:=0) (cI .i64) hp2) ?_
   obtain ⟨y1,hy1,h⟩:=call_ok h
   obtain ⟨hp3,h⟩:=chk_ok h
   refine T_reg_end [(2,{ res:=.d (.v (.int .i64 y1)) }),(4,{ cs:=cB (v1.getD y1.toNat false),es:=some ((v1.set y1.toNat true).map cB) })] [2,4,5,13,14,15] [(5,.arr 35 1 ((v1.set y1.toNat true).map cB))] [(2,ACall Tryd.prog 26 [.agg (cS_Font a0),.d (.v (.int .i64 (a1.getD v2.toNat 0)))] [] (.d (.v (.int .i64 y1))) []),(0,0≤y1∧y1 < 128),(0,(v1.map cB)[y1.toNat]? = some (cB (v1.getD y1.toNat false))∧(v1.map cB).set y1.toNat (cB true)=((v1.set y1.toNat true).map cB))] 0 (by kernel_rfl) (⟨ref3_GlyphOf_ok hy1,(hp3).1,⟨(idx_ok (d:=false) cB ⟨(hp3).1.1,(hp3).2⟩).2,set_ok cB rfl⟩⟩) fun a w hm=>inBlock_norm (then_norm (((?_:T Tryd.prog e 60 _ _ _) a w hm)))
   refine T_reg_end [] [2,4,5,13,14,15] [(15,.d (.v (.int .i64 (IntKind.i64.wrap (v2+(1:Int))))))] [] 2 (by kernel_rfl) (trivial) fun a w hm=>then_norm (⟨((v1.set y1.toNat true),IntKind.i64.wrap (v2+(1:Int))),h,hm.co (cs:=[.keep [2,4,5,13,14,15]]) (by show _=_; kernel_rfl)⟩)
  ·have h:=cond_ff hc h
   obtain hs:=Option.some.inj h; subst hs
   refine T_exit fun a w hm=>then_exit (then_exit (inBlock_exit (then_norm (hm.co (cs:=[.keep [2,4,5]]) (by show _=_; kernel_rfl)))))
 ·skip
  refine fun a w hm=>then_norm (((?_:T Tryd.prog e 60 _ _ _) a w hm))
  refine T_seqk ?_
  refine T_reg [(2,{ rw:=some (.d (.v (.int .i64 (a0.f1.length:Int)))) })] [2,4,5,26,27] [(26,.d (.v (.int .i64 (a0.f1.length:Int)))),(27,.d (.v (.int .i64 (0:Int))))] [(2,True∧AV.d (.v (.int .i64 ((a0.f1.map cS_FontGlyph).length:Int)))=.d (.v (.int .i64 (a0.f1.length:Int))))] 1 (by kernel_rfl) (len_ok cS_FontGlyph) ?_
  refine T_joinct h (fun (p:(List Bool))=>[(4,.arr 35 1 ((List.replicate 128 false).map cB)),(5,.arr 35 1 (p.map cB))]) (fun s h=>?_) (fun v12 h=>?_)
  ·refine T_co [.keep [2,4,5,26,27]] ((fun (p:(List Bool)×Int)=>[(2,.box [.d (.v (.int .i64 a0.f0)),.d (.sl 3 (a0.f1.map cS_FontGlyph)),.d (.sl 3 (a0.f2.map cS_FontRange)),.d (.sl 3 (a0.f3.map cS_FontPair))]),(4,.arr 35 1 ((List.replicate 128 false).map cB)),(5,.arr 35 1 (p.1.map cB)),(26,.d (.v (.int .i64 (a0.f1.length:Int)))),(27,.d (.v (.int .i64 p.2)))]) (v11,(0:Int))) (by show _=_; kernel_rfl) ?_
   refine T_block ?_
   refine T_loopF (ι:=(List Bool)×Int) (fun (p:(List Bool)×Int)=>[(2,.box [.d (.v (.int .i64 a0.f0)),.d (.sl 3 (a0.f1.map cS_FontGlyph)),.d (.sl 3 (a0.f2.map cS_FontRange)),.d (.sl 3 (a0.f3.map cS_FontPair))]),(4,.arr 35 1 ((List.replicate 128 false).map cB)),(5,.arr 35 1 (p.1.map cB)),(26,.d (.v (.int .i64 (a0.f1.length:Int)))),(27,.d (.v (.int .i64 p.2)))]) (fun n p=>ref3_Needed_L2 F a0 n p.1 p.2=some s) (fun i hh=>by simp [ref3_Needed_L2] at hh) (fun n p h=>?_) F (v11,(0:Int)) h
   obtain ⟨v8,v9⟩:=p
   have h:ref3_Needed_L2 F a0 (n+1) v8 v9=some s:=h
   rw [ref3_Needed_L2] at h
   refine T_reg [] [2,4,5,26,27,28] [(28,.d (.v (.bool (decide (v9 < (a0.f1.length:Int))))))] [] 1 (by kernel_rfl) (trivial) ?_
   refine T_seqk ?_
   refine T_cond (decide (v9 < (a0.f1.length:Int))) (by kernel_rfl) (fun hc=>?_) (fun hc=>?_)
   ·have h:=cond_tt hc h
    refine T_skip fun a w hm=>then_norm (((?_:T Tryd.prog e 60 _ _ _) a w hm))
    refine T_seqk ?_
    refine T_block ?_
    refine T_reg [(2,{ rw:=some (.d (.v (.int .i64 (a0.f1.length:Int)))) })] [2,4,5,26,27,30,31,32] [(30,.d (.sl 3 (a0.f1.map cS_FontGlyph))),(31,.d (.v (.int .i64 (a0.f1.length:Int)))),(32,.d (.v (.int .i64 (0:Int))))] [(2,True∧AV.d (.v (.int .i64 ((a0.f1.map cS_FontGlyph).length:Int)))=.d (.v (.int .i64 (a0.f1.length:Int))))] 1 (by kernel_rfl) (len_ok cS_FontGlyph) ?_
    refine T_joinct h (fun (p:(List Bool))=>[(2,.box [.d (.v (.int .i64 a0.f0)),.d (.sl 3 (a0.f1.map cS_FontGlyph)),.d (.sl 3 (a0.f2.map cS_FontRange)),.d (.sl 3 (a0.f3.map cS_FontPair))]),(4,.arr 35 1 ((List.replicate 128 false).map cB)),(5,.arr 35 1 (p.map cB)),(26,.d (.v (.int .i64 (a0.f1.length:Int)))),(27,.d (.v (.int .i64 v9)))]) (fun s h=>?_) (fun v10 h=>?_)
    ·refine T_co [.keep [2,4,5,26,27,30,31,32]] ((fun (p:(List Bool)×Int)=>[(2,.box [.d (.v (.int .i64 a0.f0)),.d (.sl 3 (a0.f1.map cS_FontGlyph)),.d (.sl 3 (a0.f2.map cS_FontRange)),.d (.sl 3 (a0.f3.map cS_FontPair))]),(4,.arr 35 1 ((List.replicate 128 false).map cB)),(5,.arr 35 1 (p.1.map cB)),(26,.d (.v (.int .i64 (a0.f1.length:Int)))),(27,.d (.v (.int .i64 v9))),(30,.d (.sl 3 (a0.f1.map cS_FontGlyph))),(31,.d (.v (.int .i64 (a0.f1.length:Int)))),(32,.d (.v (.int .i64 p.2)))]) (v8,(0:Int))) (by show _=_; kernel_rfl) ?_
     refine T_block ?_
     refine T_loopF (ι:=(List Bool)×Int) (fun (p:(List Bool)×Int)=>[(2,.box [.d (.v (.int .i64 a0.f0)),.d (.sl 3 (a0.f1.map cS_FontGlyph)),.d (.sl 3 (a0.f2.map cS_FontRange)),.d (.sl 3 (a0.f3.map cS_FontPair))]),(4,.arr 35 1 ((List.replicate 128 false).map cB)),(5,.arr 35 1 (p.1.map cB)),(26,.d (.v (.int .i64 (a0.f1.length:Int)))),(27,.d (.v (.int .i64 v9))),(30,.d (.sl 3 (a0.f1.map cS_FontGlyph))),(31,.d (.v (.int .i64 (a0.f1.length:Int)))),(32,.d (.v (.int .i64 p.2)))]) (fun n p=>ref3_Needed_L4 F a0 n p.1 p.2=some s) (fun i hh=>by simp [ref3_Needed_L4] at hh) (fun n p h=>?_) F (v8,(0:Int)) h
     obtain ⟨v6,v3⟩:=p
     have h:ref3_Needed_L4 F a0 (n+1) v6 v3=some s:=h
     rw [ref3_Needed_L4] at h
     refine T_reg [] [2,4,5,26,27,30,31,32,33] [(33,.d (.v (.bool (decide (v3 < (a0.f1.length:Int))))))] [] 1 (by kernel_rfl) (trivial) ?_
     refine T_seqk ?_
     refine T_cond (decide (v3 < (a0.f1.length:Int))) (by kernel_rfl) (fun hc=>?_) (fun hc=>?_)
     ·have h:=cond_tt hc h
      refine T_skip fun a w hm=>then_norm (((?_:T Tryd.prog e 60 _ _ _) a w hm))
      refine T_seqk ?_
      refine T_block ?_
      obtain ⟨hp4,h⟩:=chk_ok h
      refine T_reg [(1,{ cs:=cS_FontGlyph (a0.f1.getD v3.toNat (S_FontGlyph.mk 0 [] [])) })] [2,4,5,8,9,26,27,30,31,32] [(8,.d (.v (.int .i64 v3))),(9,.box [.d (.v (.int .i64 ((a0.f1.getD v3.toNat (S_FontGlyph.mk 0 [] [])).f0))),.d (.sl 1 (((a0.f1.getD v3.toNat (S_FontGlyph.mk 0 [] [])).f1).map (cL 3 cS_FontPoint))),.d (.sl 3 (((a0.f1.getD v3.toNat (S_FontGlyph.mk 0 [] [])).f2).map cS_FontPart))])] [(1,0≤v3∧(a0.f1.map cS_FontGlyph)[v3.toNat]? = some (cS_FontGlyph (a0.f1.getD v3.toNat (S_FontGlyph.mk 0 [] []))))] 4 (by kernel_rfl) (idx_ok (d:=(S_FontGlyph.mk 0 [] [])) cS_FontGlyph hp4) ?_
      refine T_reg [(2,{ rw:=some (.d (.v (.int .i64 (((a0.f1.getD v3.toNat (S_FontGlyph.mk 0 [] [])).f2).length:Int)))) })] [2,4,5,8,26,27,30,31,32,38,39,40] [(38,.d (.sl 3 (((a0.f1.getD v3.toNat (S_FontGlyph.mk 0 [] [])).f2).map cS_FontPart))),(39,.d (.v (.int .i64 (((a0.f1.getD v3.toNat (S_FontGlyph.mk 0 [] [])).f2).length:Int)))),(40,.d (.v (.int .i64 (0:Int))))] [(2,True∧AV.d (.v (.int .i64 ((((a0.f1.getD v3.toNat (S_FontGlyph.mk 0 [] [])).f2).map cS_FontPart).length:Int)))=.d (.v (.int .i64 (((a0.f1.getD v3.toNat (S_FontGlyph.mk 0 [] [])).f2).length:Int))))] 1 (by kernel_rfl) (len_ok cS_FontPart) ?_
      refine T_joinct h (fun (p:(List Bool))=>[(2,.box [.d (.v (.int .i64 a0.f0)),.d (.sl 3 (a0.f1.map cS_FontGlyph)),.d (.sl 3 (a0.f2.map cS_FontRange)),.d (.sl 3 (a0.f3.map cS_FontPair))]),(4,.arr 35 1 ((List.replicate 128 false).map cB)),(5,.arr 35 1 (p.map cB)),(26,.d (.v (.int .i64 (a0.f1.length:Int)))),(27,.d (.v (.int .i64 v9))),(30,.d (.sl 3 (a0.f1.map cS_FontGlyph))),(31,.d (.v (.int .i64 (a0.f1.length:Int)))),(32,.d (.v (.int .i64 v3)))]) (fun s h=>?_) (fun v7 h=>?_)
      ·refine T_co [.keep [2,4,5,8,26,27,30,31,32,38,39,40]] ((fun (p:(List Bool)×Int)=>[(2,.box [.d (.v (.int .i64 a0.f0)),.d (.sl 3 (a0.f1.map cS_FontGlyph)),.d (.sl 3 (a0.f2.map cS_FontRange)),.d (.sl 3 (a0.f3.map cS_FontPair))]),(4,.arr 35 1 ((List.replicate 128 false).map cB)),(5,.arr 35 1 (p.1.map cB)),(8,.d (.v (.int .i64 v3))),(26,.d (.v (.int .i64 (a0.f1.length:Int)))),(27,.d (.v (.int .i64 v9))),(30,.d (.sl 3 (a0.f1.map cS_FontGlyph))),(31,.d (.v (.int .i64 (a0.f1.length:Int)))),(32,.d (.v (.int .i64 v3))),(38,.d (.sl 3 (((a0.f1.getD v3.toNat (S_FontGlyph.mk 0 [] [])).f2).map cS_FontPart))),(39,.d (.v (.int .i64 (((a0.f1.getD v3.toNat (S_FontGlyph.mk 0 [] [])).f2).length:Int)))),(40,.d (.v (.int .i64 p.2)))]) (v6,(0:Int))) (by show _=_; kernel_rfl) ?_
       refine T_block ?_
       refine T_loopF (ι:=(List Bool)×Int) (fun (p:(List Bool)×Int)=>[(2,.box [.d (.v (.int .i64 a0.f0)),.d (.sl 3 (a0.f1.map cS_FontGlyph)),.d (.sl 3 (a0.f2.map cS_FontRange)),.d (.sl 3 (a0.f3.map cS_FontPair))]),(4,.arr 35 1 ((List.replicate 128 false).map cB)),(5,.arr 35 1 (p.1.map cB)),(8,.d (.v (.int .i64 v3))),(26,.d (.v (.int .i64 (a0.f1.length:Int)))),(27,.d (.v (.int .i64 v9))),(30,.d (.sl 3 (a0.f1.map cS_FontGlyph))),(31,.d (.v (.int .i64 (a0.f1.length:Int)))),(32,.d (.v (.int .i64 v3))),(38,.d (.sl 3 (((a0.f1.getD v3.toNat (S_FontGlyph.mk 0 [] [])).f2).map cS_FontPart))),(39,.d (.v (.int .i64 (((a0.f1.getD v3.toNat (S_FontGlyph.mk 0 [] [])).f2).length:Int)))),(40,.d (.v (.int .i64 p.2)))]) (fun n p=>ref3_Needed_L6 F a0 v3 n p.1 p.2=some s) (fun i hh=>by simp [ref3_Needed_L6] at hh) (fun n p h=>?_) F (v6,(0:Int)) h
       obtain ⟨v4,v5⟩:=p
       have h:ref3_Needed_L6 F a0 v3 (n+1) v4 v5=some s:=h
       rw [ref3_Needed_L6] at h
       refine T_reg [] [2,4,5,8,26,27,30,31,32,38,39,40,41] [(41,.d (.v (.bool (decide (v5 < (((a0.f1.getD v3.toNat (S_FontGlyph.mk 0 [] [])).f2).length:Int))))))] [] 1 (by kernel_rfl) (trivial) ?_
       refine T_seqk ?_
       refine T_cond (decide (v5 < (((a0.f1.getD v3.toNat (S_FontGlyph.mk 0 [] [])).f2).length:Int))) (by kernel_rfl) (fun hc=>?_) (fun hc=>?_)
       ·have h:=cond_tt hc h
        refine T_skip fun a w hm=>then_norm (((?_:T Tryd.prog e 60 _ _ _) a w hm))
        refine T_seqk ?_
        refine T_block ?_
        obtain ⟨hp5,h⟩:=chk_ok h
        refine T_reg [(0,{ cs:=cS_FontPart (((a0.f1.getD v3.toNat (S_FontGlyph.mk 0 [] [])).f2).getD v5.toNat (S_FontPart.mk 0 0 0)) })] [2,4,5,8,11,26,27,30,31,32,38,39,40] [(11,.box [.d (.v (.int .i64 ((((a0.f1.getD v3.toNat (S_FontGlyph.mk 0 [] [])).f2).getD v5.toNat (S_FontPart.mk 0 0 0)).f0))),.d (.v (.int .i64 ((((a0.f1.getD v3.toNat (S_FontGlyph.mk 0 [] [])).f2).getD v5.toNat (S_FontPart.mk 0 0 0)).f1))),.d (.v (.int .i64 ((((a0.f1.getD v3.toNat (S_FontGlyph.mk 0 [] [])).f2).getD v5.toNat (S_FontPart.mk 0 0 0)).f2)))])] [(0,0≤v5∧(((a0.f1.getD v3.toNat (S_FontGlyph.mk 0 [] [])).f2).map cS_FontPart)[v5.toNat]? = some (cS_FontPart (((a0.f1.getD v3.toNat (S_FontGlyph.mk 0 [] [])).f2).getD v5.toNat (S_FontPart.mk 0 0 0))))] 3 (by kernel_rfl) (idx_ok (d:=(S_FontPart.mk 0 0 0)) cS_FontPart hp5) ?_
        obtain ⟨hp6,h⟩:=chk_ok h
        obtain ⟨z1,hz1,h⟩:=lett_ok h
        obtain ⟨hp7,h⟩:=chk_ok h
        obtain ⟨hp8,h⟩:=chk_ok h
        refine T_drawS_end mixed 12 [(5,{ cs:=cB (v4.getD ((((a0.f1.getD v3.toNat (S_FontGlyph.mk 0 [] [])).f2).getD v5.toNat (S_FontPart.mk 0 0 0)).f0).toNat false),rw:=some (.d (.v (.bool z1))) }),(9,{ cs:=cB (v4.getD v3.toNat false) }),(12,{ cs:=cB (v4.getD ((((a0.f1.getD v3.toNat (S_FontGlyph.mk 0 [] [])).f2).getD v5.toNat (S_FontPart.mk 0 0 0)).f0).toNat false),es:=some ((v4.set ((((a0.f1.getD v3.toNat (S_FontGlyph.mk 0 [] [])).f2).getD v5.toNat (S_FontPart.mk 0 0 0)).f0).toNat (bif z1 then true else (v4.getD v3.toNat false))).map cB) })] [2,4,5,8,26,27,30,31,32,38,39,40] [] [(2,.box [.d (.v (.int .i64 a0.f0)),.d (.sl 3 (a0.f1.map cS_FontGlyph)),.d (.sl 3 (a0.f2.map cS_FontRange)),.d (.sl 3 (a0.f3.map cS_FontPair))]),(4,.arr 35 1 ((List.replicate 128 false).map cB)),(5,.arr 35 1 ((v4.set ((((a0.f1.getD v3.toNat (S_FontGlyph.mk 0 [] [])).f2).getD v5.toNat (S_FontPart.mk 0 0 0)).f0).toNat (bif z1 then true else (v4.getD v3.toNat false))).map cB)),(8,.d (.v (.int .i64 v3))),(26,.d (.v (.int .i64 (a0.f1.length:Int)))),(27,.d (.v (.int .i64 v9))),(30,.d (.sl 3 (a0.f1.map cS_FontGlyph))),(31,.d (.v (.int .i64 (a0.f1.length:Int)))),(32,.d (.v (.int .i64 v3))),(38,.d (.sl 3 (((a0.f1.getD v3.toNat (S_FontGlyph.mk 0 [] [])).f2).map cS_FontPart))),(39,.d (.v (.int .i64 (((a0.f1.getD v3.toNat (S_FontGlyph.mk 0 [] [])).f2).length:Int)))),(40,.d (.v (.int .i64 v5)))] [(4,0≤((((a0.f1.getD v3.toNat (S_FontGlyph.mk 0 [] [])).f2).getD v5.toNat (S_FontPart.mk 0 0 0)).f0)∧((((a0.f1.getD v3.toNat (S_FontGlyph.mk 0 [] [])).f2).getD v5.toNat (S_FontPart.mk 0 0 0)).f0) < 128),(0,((v4.map cB)[((((a0.f1.getD v3.toNat (S_FontGlyph.mk 0 [] [])).f2).getD v5.toNat (S_FontPart.mk 0 0 0)).f0).toNat]? = some (cB (v4.getD ((((a0.f1.getD v3.toNat (S_FontGlyph.mk 0 [] [])).f2).getD v5.toNat (S_FontPart.mk 0 0 0)).f0).toNat false)))∧AV.d (.v (.bool (v4.getD ((((a0.f1.getD v3.toNat (S_FontGlyph.mk 0 [] [])).f2).getD v5.toNat (S_FontPart.mk 0 0 0)).f0).toNat false)))=.d (.v (.bool z1))),(1,(((z1 == false) && true)=true→True)),(0,(((z1 == false) && true)=true→0≤v3∧v3 < 128)),(0,(((z1 == false) && true)=true→(v4.map cB)[v3.toNat]? = some (cB (v4.getD v3.toNat false)))),(1,0≤((((a0.f1.getD v3.toNat (S_FontGlyph.mk 0 [] [])).f2).getD v5.toNat (S_FontPart.mk 0 0 0)).f0)∧((((a0.f1.getD v3.toNat (S_FontGlyph.mk 0 [] [])).f2).getD v5.toNat (S_FontPart.mk 0 0 0)).f0) < 128),(0,(v4.map cB)[((((a0.f1.getD v3.toNat (S_FontGlyph.mk 0 [] [])).f2).getD v5.toNat (S_FontPart.mk 0 0 0)).f0).toNat]? = some (cB (v4.getD ((((a0.f1.getD v3.toNat (S_FontGlyph.mk 0 [] [])).f2).getD v5.toNat (S_FontPart.mk 0 0 0)).f0).toNat false))∧(v4.map cB).set ((((a0.f1.getD v3.toNat (S_FontGlyph.mk 0 [] [])).f2).getD v5.toNat (S_FontPart.mk 0 0 0)).f0).toNat (cB (bif z1 then true else (v4.getD v3.toNat false)))=((v4.set ((((a0.f1.getD v3.toNat (S_FontGlyph.mk 0 [] [])).f2).getD v5.toNat (S_FontPart.mk 0 0 0)).f0).toNat (bif z1 then true else (v4.getD v3.toNat false))).map cB))] 0 (by kernel_rfl) (⟨(hp6).1,⟨(idx_ok (d:=false) cB ⟨(hp6).1.1,(hp6).2⟩).2,(by subst hz1; rfl)⟩,(fun hg=>trivial),(fun hg=>((hp7 hg)).1),(fun hg=>(idx_ok (d:=false) cB ⟨((hp7 hg)).1.1,((hp7 hg)).2⟩).2),(hp8).1,⟨(idx_ok (d:=false) cB ⟨(hp8).1.1,(hp8).2⟩).2,set_ok cB rfl⟩⟩) fun a w hm=>inBlock_norm (then_norm (((?_:T Tryd.prog e 60 _ _ _) a w hm)))
        refine T_reg_end [] [2,4,5,8,26,27,30,31,32,38,39,40] [(40,.d (.v (.int .i64 (IntKind.i64.wrap (v5+(1:Int))))))] [] 2 (by kernel_rfl) (trivial) fun a w hm=>then_norm (⟨((v4.set ((((a0.f1.getD v3.toNat (S_FontGlyph.mk 0 [] [])).f2).getD v5.toNat (S_FontPart.mk 0 0 0)).f0).toNat (bif z1 then true else (v4.getD v3.toNat false))),IntKind.i64.wrap (v5+(1:Int))),h,hm.co (cs:=[.keep [2,4,5,8,26,27,30,31,32,38,39,40]]) (by show _=_; kernel_rfl)⟩)
       ·have h:=cond_ff hc h
        obtain hs:=Option.some.inj h; subst hs
        refine T_exit fun a w hm=>then_exit (then_exit (inBlock_exit (then_norm (hm.co (cs:=[.keep [2,4,5,26,27,30,31,32]]) (by show _=_; kernel_rfl)))))
      ·skip
       refine fun a w hm=>inBlock_norm (then_norm (((?_:T Tryd.prog e 60 _ _ _) a w hm)))
       refine T_reg_end [] [2,4,5,26,27,30,31,32] [(32,.d (.v (.int .i64 (IntKind.i64.wrap (v3+(1:Int))))))] [] 2 (by kernel_rfl) (trivial) fun a w hm=>then_norm (⟨(v7,IntKind.i64.wrap (v3+(1:Int))),h,hm.co (cs:=[.keep [2,4,5,26,27,30,31,32]]) (by show _=_; kernel_rfl)⟩)
     ·have h:=cond_ff hc h
      obtain hs:=Option.some.inj h; subst hs
      refine T_exit fun a w hm=>then_exit (then_exit (inBlock_exit (then_norm (hm.co (cs:=[.keep [2,4,5,26,27]]) (by show _=_; kernel_rfl)))))
    ·skip
     refine fun a w hm=>inBlock_norm (then_norm (((?_:T Tryd.prog e 60 _ _ _) a w hm)))
     refine T_reg_end [] [2,4,5,26,27] [(27,.d (.v (.int .i64 (IntKind.i64.wrap (v9+(1:Int))))))] [] 2 (by kernel_rfl) (trivial) fun a w hm=>then_norm (⟨(v10,IntKind.i64.wrap (v9+(1:Int))),h,hm.co (cs:=[.keep [2,4,5,26,27]]) (by show _=_; kernel_rfl)⟩)
   ·have h:=cond_ff hc h
    obtain hs:=Option.some.inj h; subst hs
    refine T_exit fun a w hm=>then_exit (then_exit (inBlock_exit (then_norm (hm.co (cs:=[.keep [4,5]]) (by show _=_; kernel_rfl)))))
  ·skip
   refine fun a w hm=>then_norm (((?_:T Tryd.prog e 60 _ _ _) a w hm))
   obtain ⟨hp9,h⟩:=chk_ok h
   refine T_copyArr 5 4 59 35 (by kernel_rfl) (κ:=35) (κ':=35) (sz:=1) (es:=(v12.map cB)) (es0:=((List.replicate 128 false).map cB)) (by kernel_rfl) (by kernel_rfl) (by kernel_rfl) 128 (by kernel_rfl) (arrlen_ok cB 1 hp9 rfl) (by kernel_rfl) (by decide) [4] [(4,.arr 35 1 (v12.map cB))] (by kernel_rfl) ?_
   obtain hs:=Option.some.inj h; subst hs
   refine T_ret fun a w hm=>hm.co (cs:=[.keep [4]]) (by show _=_; kernel_rfl) |> T_returnA (fr:=[(4,.arr 35 1 (v12.map cB))]) 4 35 (by kernel_rfl) (κ:=35) (sz:=1) (es:=(v12.map cB)) (by kernel_rfl) (by kernel_rfl) 128 (by kernel_rfl) (arrlen_ok cB 1 hp9 rfl) (by decide) (by decide) (by exact trivial) a w
theorem slices_Equal_int_ok {F:Nat} {a0:List Int} {a1:List Int} {r:Bool} (h:slices_Equal_int F a0 a1=some r):ACall Tryd.prog 9 [.d (.sl 1 (a0.map (cI .i64))),.d (.sl 1 (a1.map (cI .i64)))] [] (.d (.v (.bool r))) []:=by
 rw [slices_Equal_int] at h
 refine ACall.intro (N:=26) Tryd.func9 rfl rfl rfl rfl rfl fun e=>?_
 refine T_reg [] [0,1] [] [] 1 (by kernel_rfl) (trivial) ?_
 refine T_seqk ?_
 refine T_reg [(1,{ rw:=some (.d (.v (.int .i64 (a0.length:Int)))) }),(3,{ rw:=some (.d (.v (.int .i64 (a1.length:Int)))) })] [0,1,10] [(10,.d (.v (.bool ((a0.length:Int) != (a1.length:Int)))))] [(1,True∧AV.d (.v (.int .i64 ((a0.map (cI .i64)).length:Int)))=.d (.v (.int .i64 (a0.length:Int)))),(1,True∧AV.d (.v (.int .i64 ((a1.map (cI .i64)).length:Int)))=.d (.v (.int .i64 (a1.length:Int))))] 1 (by kernel_rfl) (⟨len_ok (cI .i64),len_ok (cI .i64)⟩) ?_
 refine T_cond ((a0.length:Int) != (a1.length:Int)) (by kernel_rfl) (fun hc=>?_) (fun hc=>?_)
 ·have h:=cond_tt hc h
  refine T_reg [] [4] [(4,.d (.v (.bool false)))] [] 1 (by kernel_rfl) (trivial) ?_
  obtain hs:=Option.some.inj h; subst hs
  refine T_ret fun a w hm=>then_ret (T_return (fr':=[(4,.d (.v (.bool false)))]) [4] (by kernel_rfl) [.keep [4]] (by kernel_rfl) (by kernel_rfl) (by kernel_rfl) (by show _=_; kernel_rfl) (by exact trivial) a w hm)
 ·have h:=cond_ff hc h
  refine T_skip fun a w hm=>then_norm (((?_:T Tryd.prog e 26 _ _ _) a w hm))
  refine T_seqk ?_
  refine T_reg [(1,{ rw:=some (.d (.v (.int .i64 (a0.length:Int)))) })] [0,1,12,13] [(12,.d (.v (.int .i64 (a0.length:Int)))),(13,.d (.v (.int .i64 (0:Int))))] [(1,True∧AV.d (.v (.int .i64 ((a0.map (cI .i64)).length:Int)))=.d (.v (.int .i64 (a0.length:Int))))] 1 (by kernel_rfl) (len_ok (cI .i64)) ?_
  refine T_joinEt h (fun (p:Unit)=>[]) (fun s h hk1=>?_) (fun s h=>?_)
  ·refine T_co [.keep [0,1,12,13]] ((fun (p:Int)=>[(0,.d (.sl 1 (a0.map (cI .i64)))),(1,.d (.sl 1 (a1.map (cI .i64)))),(12,.d (.v (.int .i64 (a0.length:Int)))),(13,.d (.v (.int .i64 p)))]) (0:Int)) (by show _=_; kernel_rfl) ?_
   refine T_block ?_
   refine T_loopF (ι:=Int) (fun (p:Int)=>[(0,.d (.sl 1 (a0.map (cI .i64)))),(1,.d (.sl 1 (a1.map (cI .i64)))),(12,.d (.v (.int .i64 (a0.length:Int)))),(13,.d (.v (.int .i64 p)))]) (fun n p=>slices_Equal_int_L0 F a0 a1 n p=some s) (fun i hh=>by simp [slices_Equal_int_L0] at hh) (fun n v1 h=>?_) F (0:Int) h
   have h:slices_Equal_int_L0 F a0 a1 (n+1) v1=some s:=h
   rw [slices_Equal_int_L0] at h
   refine T_reg [] [0,1,12,13,14] [(14,.d (.v (.bool (decide (v1 < (a0.length:Int))))))] [] 1 (by kernel_rfl) (trivial) ?_
   refine T_seqk ?_
   refine T_cond (decide (v1 < (a0.length:Int))) (by kernel_rfl) (fun hc=>?_) (fun hc=>?_)
   ·have h:=cond_tt hc h
    refine T_skip fun a w hm=>then_norm (((?_:T Tryd.prog e 26 _ _ _) a w hm))
    refine T_seqk ?_
    refine T_block ?_
    refine T_reg [] [0,1,5,12,13] [(5,.d (.v (.int .i64 v1)))] [] 2 (by kernel_rfl) (trivial) ?_
    obtain ⟨hp1,h⟩:=chk_ok h
    obtain ⟨hp2,h⟩:=chk_ok h
    refine T_draw mixed [(2,{ cs:=(cI .i64) (a0.getD v1.toNat 0) }),(6,{ cs:=(cI .i64) (a1.getD v1.toNat 0) })] [0,1,12,13,24] [] [(0,.d (.sl 1 (a0.map (cI .i64)))),(1,.d (.sl 1 (a1.map (cI .i64)))),(12,.d (.v (.int .i64 (a0.length:Int)))),(13,.d (.v (.int .i64 v1))),(24,.d (.v (.bool ((a0.getD v1.toNat 0) != (a1.getD v1.toNat 0)))))] [(2,0≤v1∧(a0.map (cI .i64))[v1.toNat]? = some ((cI .i64) (a0.getD v1.toNat 0))),(3,0≤v1∧(a1.map (cI .i64))[v1.toNat]? = some ((cI .i64) (a1.getD v1.toNat 0)))] 2 (by kernel_rfl) (⟨idx_ok (d:=0) (cI .i64) hp1,idx_ok (d:=0) (cI .i64) hp2⟩) ?_
    refine T_cond ((a0.getD v1.toNat 0) != (a1.getD v1.toNat 0)) (by kernel_rfl) (fun hc=>?_) (fun hc=>?_)
    ·have h:=cond_tt hc h
     refine T_reg [] [4] [(4,.d (.v (.bool false)))] [] 1 (by kernel_rfl) (trivial) ?_
     obtain hs:=Option.some.inj h; subst hs
     have h:=callE_esc hk1
     obtain hs:=Option.some.inj h; subst hs
     refine T_ret fun a w hm=>inBlock_ret (then_ret (then_ret (inBlock_ret (then_ret (then_ret (T_return (fr':=[(4,.d (.v (.bool false)))]) [4] (by kernel_rfl) [.keep [4]] (by kernel_rfl) (by kernel_rfl) (by kernel_rfl) (by show _=_; kernel_rfl) (by exact trivial) a w hm))))))
    ·have h:=cond_ff hc h
     refine T_skip fun a w hm=>inBlock_norm (then_norm (((?_:T Tryd.prog e 26 _ _ _) a w hm)))
     refine T_reg_end [] [0,1,12,13] [(13,.d (.v (.int .i64 (IntKind.i64.wrap (v1+(1:Int))))))] [] 2 (by kernel_rfl) (trivial) fun a w hm=>then_norm (⟨IntKind.i64.wrap (v1+(1:Int)),h,hm.co (cs:=[.keep [0,1,12,13]]) (by show _=_; kernel_rfl)⟩)
   ·have h:=cond_ff hc h
    obtain hs:=Option.some.inj h; subst hs
    refine T_exit fun a w hm=>then_exit (then_exit (inBlock_exit (then_norm (⟨_,rfl,hm.co (cs:=[.keep []]) (by show _=_; kernel_rfl)⟩))))
  ·skip
   refine fun a w hm=>then_norm (((?_:T Tryd.prog e 26 _ _ _) a w hm))
   refine T_reg [] [4] [(4,.d (.v (.bool true)))] [] 1 (by kernel_rfl) (trivial) ?_
   obtain hs:=Option.some.inj h; subst hs
   refine T_ret fun a w hm=>T_return (fr':=[(4,.d (.v (.bool true)))]) [4] (by kernel_rfl) [.keep [4]] (by kernel_rfl) (by kernel_rfl) (by kernel_rfl) (by show _=_; kernel_rfl) (by exact trivial) a w hm
theorem law3_FontSubsetGlyphs_ok {F:Nat} {a0:S_Font} {a1:List Int} {r:Bool} (h:law3_FontSubsetGlyphs F a0 a1=some r):ACall Tryd.prog 3 [.agg (cS_Font a0),.d (.sl 1 (a1.map (cI .i64)))] [.glo 0 (glob_filter_steps.flatMap (cI .u32))] (.d (.v (.bool r))) [.glo 0 (glob_filter_steps.flatMap (cI .u32))]:=by
 rw [law3_FontSubsetGlyphs] at h
 refine ACall.intro (N:=90) Tryd.func3 rfl rfl rfl rfl rfl fun e=>?_
 refine T_reg [] [1,2,1000000] [(2,.box [.d (.v (.int .i64 a0.f0)),.d (.sl 3 (a0.f1.map cS_FontGlyph)),.d (.sl 3 (a0.f2.map cS_FontRange)),.d (.sl 3 (a0.f3.map cS_FontPair))])] [] 2 (by kernel_rfl) (trivial) ?_
 refine T_seqk ?_
 obtain ⟨y2,hy1,h⟩:=call_ok h
 refine T_reg [(0,{ res:=.d (.v (.bool y2)),vout:=[.glo 0 (glob_filter_steps.flatMap (cI .u32))],xs:=[1000000] })] [1,2,15,1000000] [(15,.d (.v (.bool (!y2))))] [(0,ACall Tryd.prog 4 [] [.glo 0 (glob_filter_steps.flatMap (cI .u32))] (.d (.v (.bool y2))) [.glo 0 (glob_filter_steps.flatMap (cI .u32))])] 1 (by kernel_rfl) (law3_fontFact_ok hy1) ?_
 refine T_cond (!y2) (by kernel_rfl) (fun hc=>?_) (fun hc=>?_)
 ·have h:=cond_tt hc h
  refine T_reg [] [4,1000000] [(4,.d (.v (.bool false)))] [] 1 (by kernel_rfl) (trivial) ?_
  obtain hs:=Option.some.inj h; subst hs
  refine T_ret fun a w hm=>then_ret (T_return (fr':=[(4,.d (.v (.bool false))),(1000000,.glo 0 (glob_filter_steps.flatMap (cI .u32)))]) [4] (by kernel_rfl) [.keep [4,1000000]] (by kernel_rfl) (by kernel_rfl) (by kernel_rfl) (by show _=_; kernel_rfl) (by exact ⟨⟨by kernel_rfl,by kernel_rfl⟩,trivial⟩) a w hm)
 ·have h:=cond_ff hc h
  refine T_skip fun a w hm=>then_norm (((?_:T Tryd.prog e 90 _ _ _) a w hm))
  obtain ⟨y3,hy2,h⟩:=call_ok h
  refine T_reg [(2,{ res:=.tup [.agg (cS_Font y3.1),.own 3 1 (y3.2.1.map (cI .i64)),.d (.v (.int .i64 y3.2.2))],vout:=[.glo 0 (glob_filter_steps.flatMap (cI .u32))],xs:=[1000000] })] [1,2,5,6,7,1000000] [(5,.box [.d (.v (.int .i64 y3.1.f0)),.d (.sl 3 (y3.1.f1.map cS_FontGlyph)),.d (.sl 3 (y3.1.f2.map cS_FontRange)),.d (.sl 3 (y3.1.f3.map cS_FontPair))]),(6,.own 3 1 (y3.2.1.map (cI .i64))),(7,.d (.v (.int .i64 y3.2.2)))] [(2,ACall Tryd.prog 5 [.agg (cS_Font a0),.d (.sl 1 (a1.map (cI .i64)))] [.glo 0 (glob_filter_steps.flatMap (cI .u32))] (.tup [.agg (cS_Font y3.1),.own 3 1 (y3.2.1.map (cI .i64)),.d (.v (.int .i64 y3.2.2))]) [.glo 0 (glob_filter_steps.flatMap (cI .u32))])] 8 (by kernel_rfl) (font_Subset_ok hy2) ?_
  obtain ⟨y4,hy3,h⟩:=call_ok h
  refine T_reg [(1,{ res:=.d (.v (.int .i64 y4)) })] [1,2,5,6,7,8,1000000] [(8,.d (.v (.int .i64 y4)))] [(1,ACall Tryd.prog 6 [.agg (cS_Font a0)] [] (.d (.v (.int .i64 y4))) [])] 1 (by kernel_rfl) (ref3_FontError_ok hy3) ?_
  refine T_joinc h (fun (p:Int)=>[(1,.d (.sl 1 (a1.map (cI .i64)))),(2,.box [.d (.v (.int .i64 a0.f0)),.d (.sl 3 (a0.f1.map cS_FontGlyph)),.d (.sl 3 (a0.f2.map cS_FontRange)),.d (.sl 3 (a0.f3.map cS_FontPair))]),(5,.box [.d (.v (.int .i64 y3.1.f0)),.d (.sl 3 (y3.1.f1.map cS_FontGlyph)),.d (.sl 3 (y3.1.f2.map cS_FontRange)),.d (.sl 3 (y3.1.f3.map cS_FontPair))]),(6,.own 3 1 (y3.2.1.map (cI .i64))),(7,.d (.v (.int .i64 y3.2.2))),(8,.d (.v (.int .i64 p))),(1000000,.glo 0 (glob_filter_steps.flatMap (cI .u32)))]) (fun s h=>?_) (fun v4 h=>?_)
  ·refine T_reg [(4,{ rw:=some (.d (.v (.int .i64 (a1.length:Int)))) })] [1,2,5,6,7,8,31,1000000] [(31,.d (.v (.bool (bif (y4 == (0:Int)) then (decide ((a1.length:Int) > (1024:Int))) else false))))] [(3,((((y4 == (0:Int)) == true) && true)=true→True)),(0,((((y4 == (0:Int)) == true) && true)=true→True∧AV.d (.v (.int .i64 ((a1.map (cI .i64)).length:Int)))=.d (.v (.int .i64 (a1.length:Int))))),(0,((((y4 == (0:Int)) == true) && true)=true→True))] 1 (by kernel_rfl) (⟨(fun hg=>trivial),(fun hg=>len_ok (cI .i64)),(fun hg=>trivial)⟩) ?_
   refine T_cond (bif (y4 == (0:Int)) then (decide ((a1.length:Int) > (1024:Int))) else false) (by kernel_rfl) (fun hc=>?_) (fun hc=>?_)
   ·have h:=cond_tt hc h
    obtain hs:=Option.some.inj h; subst hs
    refine T_reg_end [] [1,2,5,6,7,8,1000000] [(8,.d (.v (.int .i64 (2:Int))))] [] 1 (by kernel_rfl) (trivial) fun a w hm=>then_norm (hm.co (cs:=[.keep [1,2,5,6,7,8,1000000]]) (by show _=_; kernel_rfl))
   ·have h:=cond_ff hc h
    obtain hs:=Option.some.inj h; subst hs
    refine T_skip fun a w hm=>then_norm (hm.co (cs:=[.keep [1,2,5,6,7,8,1000000]]) (by show _=_; kernel_rfl))
  ·skip
   refine T_seqk ?_
   refine T_reg [] [1,2,5,6,7,8,33,1000000] [(33,.d (.v (.bool (v4 != (0:Int)))))] [] 2 (by kernel_rfl) (trivial) ?_
   refine T_cond (v4 != (0:Int)) (by kernel_rfl) (fun hc=>?_) (fun hc=>?_)
   ·have h:=cond_tt hc h
    refine T_reg [(5,{ rw:=some (.d (.v (.int .i64 (y3.2.1.length:Int)))) })] [4,1000000] [(4,.d (.v (.bool (bif (y3.2.2 == v4) then ((y3.2.1.length:Int) == (0:Int)) else false))))] [(4,((((y3.2.2 == v4) == true) && true)=true→True)),(0,((((y3.2.2 == v4) == true) && true)=true→True∧AV.d (.v (.int .i64 ((y3.2.1.map (cI .i64)).length:Int)))=.d (.v (.int .i64 (y3.2.1.length:Int))))),(0,((((y3.2.2 == v4) == true) && true)=true→True))] 2 (by kernel_rfl) (⟨(fun hg=>trivial),(fun hg=>len_ok (cI .i64)),(fun hg=>trivial)⟩) ?_
    obtain hs:=Option.some.inj h; subst hs
    refine T_ret fun a w hm=>then_ret (T_return (fr':=[(4,.d (.v (.bool (bif (y3.2.2 == v4) then ((y3.2.1.length:Int) == (0:Int)) else false)))),(1000000,.glo 0 (glob_filter_steps.flatMap (cI .u32)))]) [4] (by kernel_rfl) [.keep [4,1000000]] (by kernel_rfl) (by kernel_rfl) (by kernel_rfl) (by show _=_; kernel_rfl) (by exact ⟨⟨by kernel_rfl,by kernel_rfl⟩,trivial⟩) a w hm)
   ·have h:=cond_ff hc h
    refine T_skip fun a w hm=>then_norm (((?_:T Tryd.prog e 90 _ _ _) a w hm))
    refine T_seqk ?_
    refine T_reg [] [1,2,5,6,7,43,1000000] [(43,.d (.v (.bool (y3.2.2 != (0:Int)))))] [] 2 (by kernel_rfl) (trivial) ?_
    refine T_cond (y3.2.2 != (0:Int)) (by kernel_rfl) (fun hc=>?_) (fun hc=>?_)
    ·have h:=cond_tt hc h
     obtain ⟨y5,hy4,h⟩:=call_ok h
     refine T_reg [(1,{ res:=.tup [.d (.str y5.1),.d (.v (.int .i64 y5.2))],vout:=[.glo 0 (glob_filter_steps.flatMap (cI .u32))],xs:=[1000000] })] [1,6,7,9,1000000] [(9,.d (.str y5.1))] [(1,ACall Tryd.prog 7 [.agg (cS_Font a0)] [.glo 0 (glob_filter_steps.flatMap (cI .u32))] (.tup [.d (.str y5.1),.d (.v (.int .i64 y5.2))]) [.glo 0 (glob_filter_steps.flatMap (cI .u32))])] 5 (by kernel_rfl) (font_Encode_ok hy4) ?_
     obtain ⟨z1,hz1,h⟩:=lett_ok h
     obtain ⟨z2,hz2,h⟩:=lett_ok h
     refine T_reg [(4,{ rw:=some (.d (.v (.int .i64 (y3.2.1.length:Int)))) }),(9,{ rw:=some (.d (.v (.int .i64 (a1.length:Int)))) }),(15,{ rw:=some (.d (.v (.bool z1))) }),(16,{ rw:=some (.d (.v (.bool z2))) })] [4,1000000] [(4,.d (.v (.bool z2)))] [(3,((((y3.2.2 == (2:Int)) == true) && true)=true→True)),(0,((((y3.2.2 == (2:Int)) == true) && true)=true→True∧AV.d (.v (.int .i64 ((y3.2.1.map (cI .i64)).length:Int)))=.d (.v (.int .i64 (y3.2.1.length:Int))))),(0,((((y3.2.2 == (2:Int)) == true) && true)=true→True)),(2,((((bif (y3.2.2 == (2:Int)) then ((y3.2.1.length:Int) == (0:Int)) else false) == true) && true)=true→True)),(0,((((bif (y3.2.2 == (2:Int)) then ((y3.2.1.length:Int) == (0:Int)) else false) == true) && true)=true→True∧AV.d (.v (.int .i64 ((a1.map (cI .i64)).length:Int)))=.d (.v (.int .i64 (a1.length:Int))))),(0,((((bif (y3.2.2 == (2:Int)) then ((y3.2.1.length:Int) == (0:Int)) else false) == true) && true)=true→True)),(0,((((bif (y3.2.2 == (2:Int)) then ((y3.2.1.length:Int) == (0:Int)) else false) == true) && true)=true→True)),(0,((((decide ((a1.length:Int) > (64:Int))) == false) && (((bif (y3.2.2 == (2:Int)) then ((y3.2.1.length:Int) == (0:Int)) else false) == true) && true))=true→True)),(0,((((decide ((a1.length:Int) > (64:Int))) == false) && (((bif (y3.2.2 == (2:Int)) then ((y3.2.1.length:Int) == (0:Int)) else false) == true) && true))=true→True)),(0,((((decide ((a1.length:Int) > (64:Int))) == false) && (((bif (y3.2.2 == (2:Int)) then ((y3.2.1.length:Int) == (0:Int)) else false) == true) && true))=true→True)),(0,((((bif (y3.2.2 == (2:Int)) then ((y3.2.1.length:Int) == (0:Int)) else false) == true) && true)=true→(True)∧AV.d (.v (.bool (bif (decide ((a1.length:Int) > (64:Int))) then true else (decide ((y5.1.length:Int) > (3596:Int))))))=.d (.v (.bool z1)))),(0,(True)∧AV.d (.v (.bool (bif (bif (y3.2.2 == (2:Int)) then ((y3.2.1.length:Int) == (0:Int)) else false) then z1 else false)))=.d (.v (.bool z2)))] 1 (by kernel_rfl) (⟨(fun hg=>trivial),(fun hg=>len_ok (cI .i64)),(fun hg=>trivial),(fun hg=>trivial),(fun hg=>len_ok (cI .i64)),(fun hg=>trivial),(fun hg=>trivial),(fun hg=>trivial),(fun hg=>trivial),(fun hg=>trivial),(fun hg=>⟨trivial,(by subst hz1; rfl)⟩),⟨trivial,(by subst hz2; rfl)⟩⟩) ?_
     obtain hs:=Option.some.inj h; subst hs
     refine T_ret fun a w hm=>then_ret (T_return (fr':=[(4,.d (.v (.bool z2))),(1000000,.glo 0 (glob_filter_steps.flatMap (cI .u32)))]) [4] (by kernel_rfl) [.keep [4,1000000]] (by kernel_rfl) (by kernel_rfl) (by kernel_rfl) (by show _=_; kernel_rfl) (by exact ⟨⟨by kernel_rfl,by kernel_rfl⟩,trivial⟩) a w hm)
    ·have h:=cond_ff hc h
     refine T_skip fun a w hm=>then_norm (((?_:T Tryd.prog e 90 _ _ _) a w hm))
     refine T_reg [] [1,2,5,6,11,1000000] [(11,.own 3 1 ([].map (cI .i64)))] [] 1 (by kernel_rfl) (trivial) ?_
     refine T_seqk ?_
     obtain ⟨y1,hy5,h⟩:=call_ok h
     refine T_reg [(2,{ res:=.agg (y1.map cB).flatten })] [5,6,11,68,69,1000000] [(68,.agg (y1.map cB).flatten),(69,.d (.v (.int .i64 (0:Int))))] [(2,ACall Tryd.prog 8 [.agg (cS_Font a0),.d (.sl 1 (a1.map (cI .i64)))] [] (.agg (y1.map cB).flatten) [])] 1 (by kernel_rfl) (ref3_Needed_ok hy5) ?_
     refine T_joinct h (fun (p:(List Int))=>[(5,.box [.d (.v (.int .i64 y3.1.f0)),.d (.sl 3 (y3.1.f1.map cS_FontGlyph)),.d (.sl 3 (y3.1.f2.map cS_FontRange)),.d (.sl 3 (y3.1.f3.map cS_FontPair))]),(6,.own 3 1 (y3.2.1.map (cI .i64))),(11,.own 3 1 (p.map (cI .i64))),(1000000,.glo 0 (glob_filter_steps.flatMap (cI .u32)))]) (fun s h=>?_) (fun v5 h=>?_)
     ·refine T_co [.keep [5,6,11,68,69,1000000]] ((fun (p:(List Int)×Int)=>[(5,.box [.d (.v (.int .i64 y3.1.f0)),.d (.sl 3 (y3.1.f1.map cS_FontGlyph)),.d (.sl 3 (y3.1.f2.map cS_FontRange)),.d (.sl 3 (y3.1.f3.map cS_FontPair))]),(6,.own 3 1 (y3.2.1.map (cI .i64))),(11,.own 3 1 (p.1.map (cI .i64))),(68,.agg (y1.map cB).flatten),(69,.d (.v (.int .i64 p.2))),(1000000,.glo 0 (glob_filter_steps.flatMap (cI .u32)))]) ([],(0:Int))) (by show _=_; kernel_rfl) ?_
      refine T_block ?_
      refine T_loopF (ι:=(List Int)×Int) (fun (p:(List Int)×Int)=>[(5,.box [.d (.v (.int .i64 y3.1.f0)),.d (.sl 3 (y3.1.f1.map cS_FontGlyph)),.d (.sl 3 (y3.1.f2.map cS_FontRange)),.d (.sl 3 (y3.1.f3.map cS_FontPair))]),(6,.own 3 1 (y3.2.1.map (cI .i64))),(11,.own 3 1 (p.1.map (cI .i64))),(68,.agg (y1.map cB).flatten),(69,.d (.v (.int .i64 p.2))),(1000000,.glo 0 (glob_filter_steps.flatMap (cI .u32)))]) (fun n p=>law3_FontSubsetGlyphs_L0 F y1 n p.1 p.2=some s) (fun i hh=>by simp [law3_FontSubsetGlyphs_L0] at hh) (fun n p h=>?_) F ([],(0:Int)) h
      obtain ⟨v1,v2⟩:=p
      have h:law3_FontSubsetGlyphs_L0 F y1 (n+1) v1 v2=some s:=h
      rw [law3_FontSubsetGlyphs_L0] at h
      refine T_reg [] [5,6,11,68,69,70,1000000] [(70,.d (.v (.bool (decide (v2 < (128:Int))))))] [] 1 (by kernel_rfl) (trivial) ?_
      refine T_seqk ?_
      refine T_cond (decide (v2 < (128:Int))) (by kernel_rfl) (fun hc=>?_) (fun hc=>?_)
      ·have h:=cond_tt hc h
       refine T_skip fun a w hm=>then_norm (((?_:T Tryd.prog e 90 _ _ _) a w hm))
       refine T_joinc h (fun (p:(List Int))=>[(5,.box [.d (.v (.int .i64 y3.1.f0)),.d (.sl 3 (y3.1.f1.map cS_FontGlyph)),.d (.sl 3 (y3.1.f2.map cS_FontRange)),.d (.sl 3 (y3.1.f3.map cS_FontPair))]),(6,.own 3 1 (y3.2.1.map (cI .i64))),(11,.own 3 1 (p.map (cI .i64))),(68,.agg (y1.map cB).flatten),(69,.d (.v (.int .i64 v2))),(1000000,.glo 0 (glob_filter_steps.flatMap (cI .u32)))]) (fun s h=>?_) (fun v3 h=>?_)
       ·refine T_block ?_
        obtain ⟨hp1,h⟩:=chk_ok h
        refine T_reg [(1,{ cs:=cB (y1.getD v2.toNat false) })] [5,6,11,12,13,68,69,1000000] [(12,.d (.v (.int .i64 v2))),(13,.d (.v (.bool (y1.getD v2.toNat false))))] [(1,(0≤v2∧v2 < 128)∧cB (y1.getD v2.toNat false)=(((y1.map cB).flatten).drop (v2.toNat * 1)).take 1)] 2 (by kernel_rfl) (⟨(hp1).1,arr_ok (d:=false) cB 1 128 y1 (hp1).2 (fun _=>rfl) (hp1).1 rfl⟩) ?_
        refine T_reg [] [5,6,11,12,68,69,73,1000000] [(73,.d (.v (.bool (y1.getD v2.toNat false))))] [] 1 (by kernel_rfl) (trivial) ?_
        refine T_cond (y1.getD v2.toNat false) (by kernel_rfl) (fun hc=>?_) (fun hc=>?_)
        ·have h:=cond_tt hc h
         obtain ⟨hp2,h⟩:=chk_ok h
         obtain hs:=Option.some.inj h; subst hs
         refine T_reg_end [(2,{ es:=some (([v2]).map (cI .i64)) }),(3,{ es:=some ((v1++([v2])).map (cI .i64)) })] [5,6,11,68,69,1000000] [(11,.own 3 1 ((v1++([v2])).map (cI .i64)))] [(2,(([v2]).map (cI .i64))=(([v2]).map (cI .i64))),(0,(v1.map (cI .i64)).length+(([v2]).map (cI .i64)).length≤4294967296∧(v1.map (cI .i64))++(([v2]).map (cI .i64))=((v1++([v2])).map (cI .i64)))] 1 (by kernel_rfl) (⟨rfl,app_ok (cI .i64) hp2⟩) fun a w hm=>inBlock_norm (then_norm (hm.co (cs:=[.keep [5,6,11,68,69,1000000]]) (by show _=_; kernel_rfl)))
        ·have h:=cond_ff hc h
         obtain hs:=Option.some.inj h; subst hs
         refine T_skip fun a w hm=>inBlock_norm (then_norm (hm.co (cs:=[.keep [5,6,11,68,69,1000000]]) (by show _=_; kernel_rfl)))
       ·skip
        refine T_reg_end [] [5,6,11,68,69,1000000] [(69,.d (.v (.int .i64 (IntKind.i64.wrap (v2+(1:Int))))))] [] 2 (by kernel_rfl) (trivial) fun a w hm=>then_norm (⟨(v3,IntKind.i64.wrap (v2+(1:Int))),h,hm.co (cs:=[.keep [5,6,11,68,69,1000000]]) (by show _=_; kernel_rfl)⟩)
      ·have h:=cond_ff hc h
       obtain hs:=Option.some.inj h; subst hs
       refine T_exit fun a w hm=>then_exit (then_exit (inBlock_exit (then_norm (hm.co (cs:=[.keep [5,6,11,1000000]]) (by show _=_; kernel_rfl)))))
     ·skip
      refine fun a w hm=>then_norm (((?_:T Tryd.prog e 90 _ _ _) a w hm))
      obtain ⟨y6,hy6,h⟩:=call_ok h
      refine T_reg [(2,{ res:=.d (.v (.bool y6)) }),(6,{ rw:=some (.d (.v (.int .i64 (y3.1.f1.length:Int)))) }),(8,{ rw:=some (.d (.v (.int .i64 (y3.2.1.length:Int)))) })] [4,1000000] [(4,.d (.v (.bool (bif y6 then ((y3.1.f1.length:Int) == (y3.2.1.length:Int)) else false))))] [(2,ACall Tryd.prog 9 [.d (.sl 1 (y3.2.1.map (cI .i64))),.d (.sl 1 (v5.map (cI .i64)))] [] (.d (.v (.bool y6))) []),(1,(((y6 == true) && true)=true→True)),(0,(((y6 == true) && true)=true→True)),(0,(((y6 == true) && true)=true→True∧AV.d (.v (.int .i64 ((y3.1.f1.map cS_FontGlyph).length:Int)))=.d (.v (.int .i64 (y3.1.f1.length:Int))))),(0,(((y6 == true) && true)=true→True)),(0,(((y6 == true) && true)=true→True∧AV.d (.v (.int .i64 ((y3.2.1.map (cI .i64)).length:Int)))=.d (.v (.int .i64 (y3.2.1.length:Int))))),(0,(((y6 == true) && true)=true→True))] 2 (by kernel_rfl) (⟨slices_Equal_int_ok hy6,(fun hg=>trivial),(fun hg=>trivial),(fun hg=>len_ok cS_FontGlyph),(fun hg=>trivial),(fun hg=>len_ok (cI .i64)),(fun hg=>trivial)⟩) ?_
      obtain hs:=Option.some.inj h; subst hs
      refine T_ret fun a w hm=>T_return (fr':=[(4,.d (.v (.bool (bif y6 then ((y3.1.f1.length:Int) == (y3.2.1.length:Int)) else false)))),(1000000,.glo 0 (glob_filter_steps.flatMap (cI .u32)))]) [4] (by kernel_rfl) [.keep [4,1000000]] (by kernel_rfl) (by kernel_rfl) (by kernel_rfl) (by show _=_; kernel_rfl) (by exact ⟨⟨by kernel_rfl,by kernel_rfl⟩,trivial⟩) a w hm
end Go.Vm.SubG
