import Derived.Test.YtflaiaeofndgmaaGreatDoorArP
namespace Go.Vm.ArzG
open Go.Proofs
set_option maxRecDepth 20000
theorem ref3_Saved_ok {F:Nat} {a0:List UInt8} {r:(List (List UInt8))×(List (List UInt8))×(List (List UInt8))} (h:ref3_Saved F a0=some r):ACall Tryz.prog 6 [.d (.str a0)] [] (.tup [.own 9 1 (r.1.map cS),.own 9 1 (r.2.1.map cS),.own 9 1 (r.2.2.map cS)]) []:=by
 rw [ref3_Saved] at h
 refine ACall.intro (N:=189) Tryz.func6 rfl rfl rfl rfl rfl fun e=>?_
 refine T_reg [] [0] [] [] 3 (by kernel_rfl) (trivial) ?_
 refine T_reg [] [0,5,6,7] [(5,.own 9 1 ([].map cS)),(6,.own 9 1 ([].map cS)),(7,.own 9 1 ([].map cS))] [] 3 (by kernel_rfl) (trivial) ?_
 refine T_reg [] [0,5,6,7,8] [(8,.own 3 1 ([].map (cI .i64)))] [] 1 (by kernel_rfl) (trivial) ?_
 refine T_reg [] [0,5,6,7,8,9] [(9,.own 9 1 ([].map cS))] [] 1 (by kernel_rfl) (trivial) ?_
 refine T_seqk ?_
 obtain ⟨y4,hy1,h⟩:=call_ok h
 refine T_reg [(1,{ res:=.own 9 1 (y4.map cS) }),(2,{ rw:=some (.d (.v (.int .i64 (y4.length:Int)))) })] [5,6,7,8,9,24,25,26] [(24,.own 9 1 (y4.map cS)),(25,.d (.v (.int .i64 (y4.length:Int)))),(26,.d (.v (.int .i64 (0:Int))))] [(1,ACall Tryz.prog 21 [.d (.str a0),.d (.v (.int .u8 (10:Int)))] [] (.own 9 1 (y4.map cS)) []),(0,True∧AV.d (.v (.int .i64 ((y4.map cS).length:Int)))=.d (.v (.int .i64 (y4.length:Int))))] 1 (by kernel_rfl) (⟨ref3_Parts_ok hy1,len_ok cS⟩) ?_
 refine T_joinct h (fun (p:(List (List UInt8))×(List (List UInt8))×(List (List UInt8)))=>[(5,.own 9 1 (p.1.map cS)),(6,.own 9 1 (p.2.1.map cS)),(7,.own 9 1 (p.2.2.map cS))]) (fun s h=>?_) (fun s h=>?_)
 ·refine T_co [.keep [5,6,7,8,9,24,25,26]] ((fun (p:(List (List UInt8))×(List (List UInt8))×(List (List UInt8))×(List Int)×(List (List UInt8))×Int)=>[(5,.own 9 1 (p.1.map cS)),(6,.own 9 1 (p.2.1.map cS)),(7,.own 9 1 (p.2.2.1.map cS)),(8,.own 3 1 (p.2.2.2.1.map (cI .i64))),(9,.own 9 1 (p.2.2.2.2.1.map cS)),(24,.own 9 1 (y4.map cS)),(25,.d (.v (.int .i64 (y4.length:Int)))),(26,.d (.v (.int .i64 p.2.2.2.2.2)))]) ([],[],[],[],[],(0:Int))) (by show _=_; kernel_rfl) ?_
  refine T_block ?_
  refine T_loopF (ι:=(List (List UInt8))×(List (List UInt8))×(List (List UInt8))×(List Int)×(List (List UInt8))×Int) (fun (p:(List (List UInt8))×(List (List UInt8))×(List (List UInt8))×(List Int)×(List (List UInt8))×Int)=>[(5,.own 9 1 (p.1.map cS)),(6,.own 9 1 (p.2.1.map cS)),(7,.own 9 1 (p.2.2.1.map cS)),(8,.own 3 1 (p.2.2.2.1.map (cI .i64))),(9,.own 9 1 (p.2.2.2.2.1.map cS)),(24,.own 9 1 (y4.map cS)),(25,.d (.v (.int .i64 (y4.length:Int)))),(26,.d (.v (.int .i64 p.2.2.2.2.2)))]) (fun n p=>ref3_Saved_L0 F y4 n p.1 p.2.1 p.2.2.1 p.2.2.2.1 p.2.2.2.2.1 p.2.2.2.2.2=some s) (fun i hh=>by simp [ref3_Saved_L0] at hh) (fun n p h=>?_) F ([],[],[],[],[],(0:Int)) h
  obtain ⟨v9,v10,v11,v12,v13,v14⟩:=p
  have h:ref3_Saved_L0 F y4 (n+1) v9 v10 v11 v12 v13 v14=some s:=h
  rw [ref3_Saved_L0] at h
  refine T_reg [] [5,6,7,8,9,24,25,26,27] [(27,.d (.v (.bool (decide (v14 < (y4.length:Int))))))] [] 1 (by kernel_rfl) (trivial) ?_
  refine T_seqk ?_
  refine T_cond (decide (v14 < (y4.length:Int))) (by kernel_rfl) (fun hc=>?_) (fun hc=>?_)
  ·have h:=cond_tt hc h
   refine T_skip fun a w hm=>then_norm (((?_:T Tryz.prog e 189 _ _ _) a w hm))
   refine T_joinc h (fun (p:(List Int)×(List (List UInt8))×(List (List UInt8))×(List (List UInt8))×(List (List UInt8)))=>[(5,.own 9 1 (p.2.2.2.1.map cS)),(6,.own 9 1 (p.2.2.2.2.map cS)),(7,.own 9 1 (p.2.2.1.map cS)),(8,.own 3 1 (p.1.map (cI .i64))),(9,.own 9 1 (p.2.1.map cS)),(24,.own 9 1 (y4.map cS)),(25,.d (.v (.int .i64 (y4.length:Int)))),(26,.d (.v (.int .i64 v14)))]) (fun s h=>?_) (fun s h=>?_)
   ·refine T_block ?_
    obtain ⟨hp1,h⟩:=chk_ok h
    refine T_reg [(1,{ cs:=cS (y4.getD v14.toNat []) })] [5,6,7,8,9,11,24,25,26] [(11,.d (.str (y4.getD v14.toNat [])))] [(0,0≤v14∧v14 < (y4.map cS).length),(0,(y4.map cS)[v14.toNat]? = some (cS (y4.getD v14.toNat [])))] 1 (by kernel_rfl) (⟨own_idx cS hp1,(idx_ok (d:=[]) cS hp1).2⟩) ?_
    refine T_reg [] [5,6,7,8,9,11,12,24,25,26] [(12,.d (.v (.int .i64 (IntKind.i64.wrap (((y4.getD v14.toNat []).length:Int) - (9:Int))))))] [] 4 (by kernel_rfl) (trivial) ?_
    refine T_seqk ?_
    obtain ⟨hp2,h⟩:=chk_ok h
    obtain ⟨z4,hz1,h⟩:=lett_ok h
    obtain ⟨z5,hz2,h⟩:=lett_ok h
    obtain ⟨hp3,h⟩:=chk_ok h
    obtain ⟨z6,hz3,h⟩:=lett_ok h
    obtain ⟨y5,hy2,h⟩:=call_ok h
    obtain ⟨y6,hy3,h⟩:=call_ok h
    obtain ⟨z7,hz4,h⟩:=lett_ok h
    obtain ⟨hp4,h⟩:=chk_ok h
    obtain ⟨z8,hz5,h⟩:=lett_ok h
    refine T_drawX mixed 41 (.take 0 (.take 1 (.take 2 (.take 3 (.take 4 (.take 5 (.take 6 (.take 7 (.take 8 (.take 9 (.take 10 (.take 11 (.all (.alt 12 (.all (.alt 13 (.take 14 (.take 15 (.take 16 (.take 17 (.take 18 (.take 19 .done)))))) (.alt 14 (.all (.alt 13 (.take 15 (.take 16 (.take 17 (.take 18 (.take 19 .done))))) (.alt 15 (.all (.alt 13 (.take 16 (.take 17 (.take 18 (.take 19 .done)))) (.alt 16 (.all (.alt 13 (.take 17 (.take 18 (.take 19 .done))) (.alt 17 (.all (.alt 13 (.take 18 (.take 19 .done)) .stop)) .stop))) .stop))) .stop))) (.alt 15 (.all (.alt 13 (.take 14 (.take 16 (.take 17 (.take 18 (.take 19 .done))))) (.alt 14 (.all (.alt 13 (.take 16 (.take 17 (.take 18 (.take 19 .done)))) (.alt 16 (.all (.alt 13 (.take 17 (.take 18 (.take 19 .done))) (.alt 17 (.all (.alt 13 (.take 18 (.take 19 .done)) .stop)) .stop))) .stop))) (.alt 16 (.all (.alt 13 (.take 14 (.take 17 (.take 18 (.take 19 .done)))) (.alt 14 (.all (.alt 13 (.take 17 (.take 18 (.take 19 .done))) (.alt 17 (.all (.alt 13 (.take 18 (.take 19 .done)) .stop)) .stop))) .stop))) .stop)))) .stop)))) (.alt 14 (.all (.alt 12 (.all (.alt 13 (.take 15 (.take 16 (.take 17 (.take 18 (.take 19 .done))))) (.alt 15 (.all (.alt 13 (.take 16 (.take 17 (.take 18 (.take 19 .done)))) (.alt 16 (.all (.alt 13 (.take 17 (.take 18 (.take 19 .done))) (.alt 17 (.all (.alt 13 (.take 18 (.take 19 .done)) .stop)) .stop))) .stop))) .stop))) (.alt 15 (.all (.alt 12 (.all (.alt 13 (.take 16 (.take 17 (.take 18 (.take 19 .done)))) (.alt 16 (.all (.alt 13 (.take 17 (.take 18 (.take 19 .done))) (.alt 17 (.all (.alt 13 (.take 18 (.take 19 .done)) .stop)) .stop))) .stop))) (.alt 16 (.all (.alt 12 (.all (.alt 13 (.take 17 (.take 18 (.take 19 .done))) (.alt 17 (.all (.alt 13 (.take 18 (.take 19 .done)) .stop)) .stop))) (.alt 17 (.all (.alt 12 (.all (.alt 13 (.take 18 (.take 19 .done)) .stop)) .stop)) .stop))) .stop))) .stop))) (.alt 15 (.all (.alt 12 (.all (.alt 13 (.take 14 (.take 16 (.take 17 (.take 18 (.take 19 .done))))) (.alt 14 (.all (.alt 13 (.take 16 (.take 17 (.take 18 (.take 19 .done)))) (.alt 16 (.all (.alt 13 (.take 17 (.take 18 (.take 19 .done))) (.alt 17 (.all (.alt 13 (.take 18 (.take 19 .done)) .stop)) .stop))) .stop))) (.alt 16 (.all (.alt 13 (.take 14 (.take 17 (.take 18 (.take 19 .done)))) (.alt 14 (.all (.alt 13 (.take 17 (.take 18 (.take 19 .done))) (.alt 17 (.all (.alt 13 (.take 18 (.take 19 .done)) .stop)) .stop))) .stop))) .stop)))) (.alt 14 (.all (.alt 12 (.all (.alt 13 (.take 16 (.take 17 (.take 18 (.take 19 .done)))) (.alt 16 (.all (.alt 13 (.take 17 (.take 18 (.take 19 .done))) (.alt 17 (.all (.alt 13 (.take 18 (.take 19 .done)) .stop)) .stop))) .stop))) (.alt 16 (.all (.alt 12 (.all (.alt 13 (.take 17 (.take 18 (.take 19 .done))) (.alt 17 (.all (.alt 13 (.take 18 (.take 19 .done)) .stop)) .stop))) (.alt 17 (.all (.alt 12 (.all (.alt 13 (.take 18 (.take 19 .done)) .stop)) .stop)) .stop))) .stop))) (.alt 16 (.all (.alt 12 (.all (.alt 13 (.take 14 (.take 17 (.take 18 (.take 19 .done)))) (.alt 14 (.all (.alt 13 (.take 17 (.take 18 (.take 19 .done))) (.alt 17 (.all (.alt 13 (.take 18 (.take 19 .done)) .stop)) .stop))) .stop))) (.alt 14 (.all (.alt 12 (.all (.alt 13 (.take 17 (.take 18 (.take 19 .done))) (.alt 17 (.all (.alt 13 (.take 18 (.take 19 .done)) .stop)) .stop))) (.alt 17 (.all (.alt 12 (.all (.alt 13 (.take 18 (.take 19 .done)) .stop)) .stop)) .stop))) .stop))) .stop)))) .stop)))))))))))))))) ([0,1,2,4,4,28,36,68,132,256,256,1792,2304,4352,256,256,33024,82176,139520,262400],[0,1,2,4,4,28,36,68,128,256,256,1792,2304,4352,256,256,33024,82176,139520,262400]) 1036287 [(5,{ rw:=some (.d (.v (.int .u8 z4))) }),(7,{ rw:=some (.d (.v (.bool z5))) }),(11,{ rw:=some (.d (.str z6)) }),(12,{ res:=.d (.v (.int .u32 y5)) }),(13,{ res:=.d (.str y6) }),(16,{ rw:=some (.d (.v (.int .i64 z7))) }),(17,{ rw:=some (.d (.str z8)) })] [5,6,7,8,9,11,12,24,25,26,52] [] [(5,.own 9 1 (v9.map cS)),(6,.own 9 1 (v10.map cS)),(7,.own 9 1 (v11.map cS)),(8,.own 3 1 (v12.map (cI .i64))),(9,.own 9 1 (v13.map cS)),(11,.d (.str (y4.getD v14.toNat []))),(12,.d (.v (.int .i64 (IntKind.i64.wrap (((y4.getD v14.toNat []).length:Int) - (9:Int)))))),(24,.own 9 1 (y4.map cS)),(25,.d (.v (.int .i64 (y4.length:Int)))),(26,.d (.v (.int .i64 v14))),(52,.d (.v (.bool (bif z5 then true else (!(y6 == z8))))))] ((fun (o3:Prop)=>fun (o4:Prop)=>fun (o5:Prop)=>fun (o6:Prop)=>fun (o7:Prop)=>fun (o9:Prop)=>fun (o10:Prop)=>fun (o11:Prop)=>fun (o12:Prop)=>fun (o13:Prop)=>fun (o14:Prop)=>fun (o15:Prop)=>fun (o16:Prop)=>fun (o17:Prop)=>fun (o18:Prop)=>[(3,o3),(0,o4),(0,o5),(0,o6),(0,o7),(1,o9),(0,o10),(0,o11),(0,o12),(0,o13),(0,o14),(0,o15),(0,o16),(0,o17),(0,o18),(1,o14),(0,o13),(0,o15),(0,o16),(0,o17),(0,o18),(1,o15),(0,o13),(0,o16),(0,o17),(0,o18),(1,o16),(0,o13),(0,o17),(0,o18),(1,o17),(0,o13),(0,o18),(1,o15),(0,o13),(0,o14),(0,o16),(0,o17),(0,o18),(1,o14),(0,o13),(0,o16),(0,o17),(0,o18),(1,o16),(0,o13),(0,o17),(0,o18),(1,o17),(0,o13),(0,o18),(1,o16),(0,o13),(0,o14),(0,o17),(0,o18),(1,o14),(0,o13),(0,o17),(0,o18),(1,o17),(0,o13),(0,o18),(1,o14),(0,o12),(0,o13),(0,o15),(0,o16),(0,o17),(0,o18),(1,o15),(0,o13),(0,o16),(0,o17),(0,o18),(1,o16),(0,o13),(0,o17),(0,o18),(1,o17),(0,o13),(0,o18),(1,o15),(0,o12),(0,o13),(0,o16),(0,o17),(0,o18),(1,o16),(0,o13),(0,o17),(0,o18),(1,o17),(0,o13),(0,o18),(1,o16),(0,o12),(0,o13),(0,o17),(0,o18),(1,o17),(0,o13),(0,o18),(1,o17),(0,o12),(0,o13),(0,o18),(1,o15),(0,o12),(0,o13),(0,o14),(0,o16),(0,o17),(0,o18),(1,o14),(0,o13),(0,o16),(0,o17),(0,o18),(1,o16),(0,o13),(0,o17),(0,o18),(1,o17),(0,o13),(0,o18),(1,o16),(0,o13),(0,o14),(0,o17),(0,o18),(1,o14),(0,o13),(0,o17),(0,o18),(1,o17),(0,o13),(0,o18),(1,o14),(0,o12),(0,o13),(0,o16),(0,o17),(0,o18),(1,o16),(0,o13),(0,o17),(0,o18),(1,o17),(0,o13),(0,o18),(1,o16),(0,o12),(0,o13),(0,o17),(0,o18),(1,o17),(0,o13),(0,o18),(1,o17),(0,o12),(0,o13),(0,o18),(1,o16),(0,o12),(0,o13),(0,o14),(0,o17),(0,o18),(1,o14),(0,o13),(0,o17),(0,o18),(1,o17),(0,o13),(0,o18),(1,o14),(0,o12),(0,o13),(0,o17),(0,o18),(1,o17),(0,o13),(0,o18),(1,o17),(0,o12),(0,o13),(0,o18)]) (((((decide ((IntKind.i64.wrap (((y4.getD v14.toNat []).length:Int) - (9:Int))) < (0:Int))) == false) && true)=true→True)) (((((decide ((IntKind.i64.wrap (((y4.getD v14.toNat []).length:Int) - (9:Int))) < (0:Int))) == false) && true)=true→True)) (((((decide ((IntKind.i64.wrap (((y4.getD v14.toNat []).length:Int) - (9:Int))) < (0:Int))) == false) && true)=true→(0≤(IntKind.i64.wrap (((y4.getD v14.toNat []).length:Int) - (9:Int)))∧(IntKind.i64.wrap (((y4.getD v14.toNat []).length:Int) - (9:Int))) < (y4.getD v14.toNat []).length)∧AV.d (.v (.int .u8 (((y4.getD v14.toNat []).getD (IntKind.i64.wrap (((y4.getD v14.toNat []).length:Int) - (9:Int))).toNat 0).toNat:Int)))=.d (.v (.int .u8 z4)))) (((((decide ((IntKind.i64.wrap (((y4.getD v14.toNat []).length:Int) - (9:Int))) < (0:Int))) == false) && true)=true→True)) ((True)∧AV.d (.v (.bool (bif (decide ((IntKind.i64.wrap (((y4.getD v14.toNat []).length:Int) - (9:Int))) < (0:Int))) then true else (z4 != (32:Int)))))=.d (.v (.bool z5))) ((((z5 == false) && true)=true→True)) ((((z5 == false) && true)=true→True)) ((((z5 == false) && true)=true→(0≤(0:Int)∧(0:Int)≤(IntKind.i64.wrap (((y4.getD v14.toNat []).length:Int) - (9:Int)))∧(IntKind.i64.wrap (((y4.getD v14.toNat []).length:Int) - (9:Int)))≤((y4.getD v14.toNat []).length:Int))∧AV.d (.str (((y4.getD v14.toNat []).drop (0:Int).toNat).take ((IntKind.i64.wrap (((y4.getD v14.toNat []).length:Int) - (9:Int))).toNat - (0:Int).toNat)))=.d (.str z6))) ((((z5 == false) && true)=true→ACall Tryz.prog 23 [.d (.str z6)] [] (.d (.v (.int .u32 y5))) [])) ((((z5 == false) && true)=true→ACall Tryz.prog 22 [.d (.v (.int .u32 y5))] [] (.d (.str y6)) [])) ((((z5 == false) && true)=true→True)) ((((z5 == false) && true)=true→True)) ((((z5 == false) && true)=true→(True)∧AV.d (.v (.int .i64 (IntKind.i64.wrap ((IntKind.i64.wrap (((y4.getD v14.toNat []).length:Int) - (9:Int)))+(1:Int)))))=.d (.v (.int .i64 z7)))) ((((z5 == false) && true)=true→(0≤z7∧z7≤((y4.getD v14.toNat []).length:Int)∧((y4.getD v14.toNat []).length:Int)≤((y4.getD v14.toNat []).length:Int))∧AV.d (.str (((y4.getD v14.toNat []).drop z7.toNat).take (((y4.getD v14.toNat []).length:Int).toNat - z7.toNat)))=.d (.str z8))) ((((z5 == false) && true)=true→True))) 1 (by kernel_rfl) (by kernel_rfl) (by kernel_rfl) (have p3:=(fun hg=>trivial); have p4:=(fun hg=>trivial); have p5:=(fun hg=>⟨(hp2 hg),(by subst hz1; rfl)⟩); have p6:=(fun hg=>trivial); have p7:=⟨trivial,(by subst hz2; rfl)⟩; have p9:=(fun hg=>trivial); have p10:=(fun hg=>trivial); have p11:=(fun hg=>⟨(hp3 hg),(by subst hz3; rfl)⟩); have p12:=(fun hg=>ref3_Check32_ok (gcall_ok hg hy2)); have p13:=(fun hg=>ref3_Hexed_ok (gcall_ok hg hy3)); have p14:=(fun hg=>trivial); have p15:=(fun hg=>trivial); have p16:=(fun hg=>⟨trivial,(by subst hz4; rfl)⟩); have p17:=(fun hg=>⟨(hp4 hg),(by subst hz5; rfl)⟩); have p18:=(fun hg=>trivial); ⟨p3,p4,p5,p6,p7,p9,p10,p11,p12,p13,p14,p15,p16,p17,p18,p14,p13,p15,p16,p17,p18,p15,p13,p16,p17,p18,p16,p13,p17,p18,p17,p13,p18,p15,p13,p14,p16,p17,p18,p14,p13,p16,p17,p18,p16,p13,p17,p18,p17,p13,p18,p16,p13,p14,p17,p18,p14,p13,p17,p18,p17,p13,p18,p14,p12,p13,p15,p16,p17,p18,p15,p13,p16,p17,p18,p16,p13,p17,p18,p17,p13,p18,p15,p12,p13,p16,p17,p18,p16,p13,p17,p18,p17,p13,p18,p16,p12,p13,p17,p18,p17,p13,p18,p17,p12,p13,p18,p15,p12,p13,p14,p16,p17,p18,p14,p13,p16,p17,p18,p16,p13,p17,p18,p17,p13,p18,p16,p13,p14,p17,p18,p14,p13,p17,p18,p17,p13,p18,p14,p12,p13,p16,p17,p18,p16,p13,p17,p18,p17,p13,p18,p16,p12,p13,p17,p18,p17,p13,p18,p17,p12,p13,p18,p16,p12,p13,p14,p17,p18,p14,p13,p17,p18,p17,p13,p18,p14,p12,p13,p17,p18,p17,p13,p18,p17,p12,p13,p18⟩) ?_
    refine T_cond (bif z5 then true else (!(y6 == z8))) (by kernel_rfl) (fun hc=>?_) (fun hc=>?_)
    ·have h:=cond_tt hc h
     obtain hs:=Option.some.inj h; subst hs
     refine T_exit fun a w hm=>then_exit (inBlock_exit (then_norm (hm.co (cs:=[.keep [5,6,7,8,9,24,25,26]]) (by show _=_; kernel_rfl))))
    ·have h:=cond_ff hc h
     refine T_skip fun a w hm=>then_norm (((?_:T Tryz.prog e 189 _ _ _) a w hm))
     obtain ⟨hp5,h⟩:=chk_ok h
     obtain ⟨z9,hz6,h⟩:=lett_ok h
     obtain ⟨y1,hy4,h⟩:=call_ok h
     refine T_reg [(2,{ rw:=some (.d (.str z9)) }),(3,{ res:=.own 9 1 (y1.map cS) })] [5,6,7,8,9,13,24,25,26] [(13,.own 9 1 (y1.map cS))] [(2,(0≤(0:Int)∧(0:Int)≤(IntKind.i64.wrap (((y4.getD v14.toNat []).length:Int) - (9:Int)))∧(IntKind.i64.wrap (((y4.getD v14.toNat []).length:Int) - (9:Int)))≤((y4.getD v14.toNat []).length:Int))∧AV.d (.str (((y4.getD v14.toNat []).drop (0:Int).toNat).take ((IntKind.i64.wrap (((y4.getD v14.toNat []).length:Int) - (9:Int))).toNat - (0:Int).toNat)))=.d (.str z9)),(0,ACall Tryz.prog 21 [.d (.str z9),.d (.v (.int .u8 (32:Int)))] [] (.own 9 1 (y1.map cS)) [])] 1 (by kernel_rfl) (⟨⟨hp5,(by subst hz6; rfl)⟩,ref3_Parts_ok hy4⟩) ?_
     refine T_joinc h (fun (p:(List Int)×(List (List UInt8)))=>[(5,.own 9 1 (v9.map cS)),(6,.own 9 1 (v10.map cS)),(7,.own 9 1 (v11.map cS)),(8,.own 3 1 (p.1.map (cI .i64))),(9,.own 9 1 (p.2.map cS)),(13,.own 9 1 (y1.map cS)),(24,.own 9 1 (y4.map cS)),(25,.d (.v (.int .i64 (y4.length:Int)))),(26,.d (.v (.int .i64 v14)))]) (fun s h=>?_) (fun s h=>?_)
     ·obtain ⟨hp6,h⟩:=chk_ok h
      obtain ⟨z10,hz7,h⟩:=lett_ok h
      refine T_reg [(2,{ cs:=cS (y1.getD (0:Int).toNat []) }),(6,{ rw:=some (.d (.v (.int .i64 (y1.length:Int)))) }),(8,{ rw:=some (.d (.v (.bool z10))) })] [5,6,7,8,9,13,24,25,26,65] [(65,.d (.v (.bool z10)))] [(1,0≤(0:Int)∧(0:Int) < (y1.map cS).length),(0,(y1.map cS)[(0:Int).toNat]? = some (cS (y1.getD (0:Int).toNat []))),(2,(((((y1.getD (0:Int).toNat []) == ([112,105,101,99,101]:List UInt8)) == true) && true)=true→True)),(0,(((((y1.getD (0:Int).toNat []) == ([112,105,101,99,101]:List UInt8)) == true) && true)=true→True∧AV.d (.v (.int .i64 ((y1.map cS).length:Int)))=.d (.v (.int .i64 (y1.length:Int))))),(0,(((((y1.getD (0:Int).toNat []) == ([112,105,101,99,101]:List UInt8)) == true) && true)=true→True)),(0,(True)∧AV.d (.v (.bool (bif ((y1.getD (0:Int).toNat []) == ([112,105,101,99,101]:List UInt8)) then ((y1.length:Int) == (3:Int)) else false)))=.d (.v (.bool z10)))] 0 (by kernel_rfl) (⟨own_idx cS hp6,(idx_ok (d:=[]) cS hp6).2,(fun hg=>trivial),(fun hg=>len_ok cS),(fun hg=>trivial),⟨trivial,(by subst hz7; rfl)⟩⟩) ?_
      refine T_cond z10 (by kernel_rfl) (fun hc=>?_) (fun hc=>?_)
      ·have h:=cond_tt hc h
       obtain ⟨hp7,h⟩:=chk_ok h
       obtain ⟨y7,hy5,h⟩:=call_ok h
       refine T_reg [(2,{ cs:=cS (y1.getD (2:Int).toNat []) }),(3,{ res:=.tup [.d (.str y7.1),.d (.v (.int .i64 y7.2))] })] [5,6,7,8,9,13,14,15,24,25,26] [(14,.d (.str y7.1)),(15,.d (.v (.int .i64 y7.2)))] [(1,0≤(2:Int)∧(2:Int) < (y1.map cS).length),(0,(y1.map cS)[(2:Int).toNat]? = some (cS (y1.getD (2:Int).toNat []))),(0,ACall Tryz.prog 24 [.d (.str (y1.getD (2:Int).toNat []))] [] (.tup [.d (.str y7.1),.d (.v (.int .i64 y7.2))]) [])] 5 (by kernel_rfl) (⟨own_idx cS hp7,(idx_ok (d:=[]) cS hp7).2,ref3_unletter_ok hy5⟩) ?_
       obtain ⟨hp8,h⟩:=chk_ok h
       obtain ⟨y8,hy6,h⟩:=call_ok h
       refine T_reg [(2,{ cs:=cS (y1.getD (1:Int).toNat []) }),(3,{ res:=.d (.v (.int .i64 y8)) })] [5,6,7,8,9,13,14,15,16,24,25,26] [(16,.d (.v (.int .i64 y8)))] [(1,0≤(1:Int)∧(1:Int) < (y1.map cS).length),(0,(y1.map cS)[(1:Int).toNat]? = some (cS (y1.getD (1:Int).toNat []))),(0,ACall Tryz.prog 25 [.d (.str (y1.getD (1:Int).toNat []))] [] (.d (.v (.int .i64 y8))) [])] 1 (by kernel_rfl) (⟨own_idx cS hp8,(idx_ok (d:=[]) cS hp8).2,ref3_Tidy_ok hy6⟩) ?_
       obtain ⟨z11,hz8,h⟩:=lett_ok h
       obtain ⟨y9,hy7,h⟩:=call_ok h
       refine T_reg [(10,{ rw:=some (.d (.v (.bool z11))) }),(14,{ res:=.d (.v (.int .i64 y9)) })] [5,6,7,8,9,13,14,16,24,25,26,93] [(93,.d (.v (.bool (bif z11 then (decide (y9 < (0:Int))) else false))))] [(3,((((decide (y8 ≥ (0:Int))) == true) && true)=true→True)),(0,((((decide (y8 ≥ (0:Int))) == true) && true)=true→True)),(2,((((bif (decide (y8 ≥ (0:Int))) then (y7.2 == (0:Int)) else false) == true) && true)=true→True)),(0,((((bif (decide (y8 ≥ (0:Int))) then (y7.2 == (0:Int)) else false) == true) && true)=true→True)),(0,((((bif (decide (y8 ≥ (0:Int))) then (y7.2 == (0:Int)) else false) == true) && true)=true→True)),(0,(True)∧AV.d (.v (.bool (bif (bif (decide (y8 ≥ (0:Int))) then (y7.2 == (0:Int)) else false) then (decide ((y7.1.length:Int)≤(16384:Int))) else false)))=.d (.v (.bool z11))),(1,(((z11 == true) && true)=true→True)),(0,(((z11 == true) && true)=true→True)),(0,(((z11 == true) && true)=true→ACall Tryz.prog 26 [.d (.sl 1 (v12.map (cI .i64))),.d (.v (.int .i64 y8))] [] (.d (.v (.int .i64 y9))) [])),(0,(((z11 == true) && true)=true→True))] 1 (by kernel_rfl) (⟨(fun hg=>trivial),(fun hg=>trivial),(fun hg=>trivial),(fun hg=>trivial),(fun hg=>trivial),⟨trivial,(by subst hz8; rfl)⟩,(fun hg=>trivial),(fun hg=>trivial),(fun hg=>ref3_at_ok (gcall_ok hg hy7)),(fun hg=>trivial)⟩) ?_
       refine T_cond (bif z11 then (decide (y9 < (0:Int))) else false) (by kernel_rfl) (fun hc=>?_) (fun hc=>?_)
       ·have h:=cond_tt hc h
        obtain ⟨hp9,h⟩:=chk_ok h
        obtain ⟨hp10,h⟩:=chk_ok h
        obtain hs:=Option.some.inj h; subst hs
        refine T_reg_end [(2,{ es:=some (([y8]).map (cI .i64)) }),(3,{ es:=some ((v12++([y8])).map (cI .i64)) }),(6,{ es:=some (([y7.1]).map cS) }),(7,{ es:=some ((v13++([y7.1])).map cS) })] [5,6,7,8,9,13,24,25,26] [(8,.own 3 1 ((v12++([y8])).map (cI .i64))),(9,.own 9 1 ((v13++([y7.1])).map cS))] [(2,(([y8]).map (cI .i64))=(([y8]).map (cI .i64))),(0,(v12.map (cI .i64)).length+(([y8]).map (cI .i64)).length≤4294967296∧(v12.map (cI .i64))++(([y8]).map (cI .i64))=((v12++([y8])).map (cI .i64))),(2,(([y7.1]).map cS)=(([y7.1]).map cS)),(0,(v13.map cS).length+(([y7.1]).map cS).length≤4294967296∧(v13.map cS)++(([y7.1]).map cS)=((v13++([y7.1])).map cS))] 2 (by kernel_rfl) (⟨rfl,app_ok (cI .i64) hp9,rfl,app_ok cS hp10⟩) fun a w hm=>then_norm (hm.co (cs:=[.keep [5,6,7,8,9,13,24,25,26]]) (by show _=_; kernel_rfl))
       ·have h:=cond_ff hc h
        obtain hs:=Option.some.inj h; subst hs
        refine T_skip fun a w hm=>then_norm (hm.co (cs:=[.keep [5,6,7,8,9,13,24,25,26]]) (by show _=_; kernel_rfl))
      ·have h:=cond_ff hc h
       obtain hs:=Option.some.inj h; subst hs
       refine T_skip fun a w hm=>then_norm (hm.co (cs:=[.keep [5,6,7,8,9,13,24,25,26]]) (by show _=_; kernel_rfl))
     ·obtain ⟨v1,v2⟩:=s
      try dsimp only at h
      refine T_seqk ?_
      obtain ⟨hp11,h⟩:=chk_ok h
      obtain ⟨z12,hz9,h⟩:=lett_ok h
      refine T_reg [(2,{ cs:=cS (y1.getD (0:Int).toNat []) }),(6,{ rw:=some (.d (.v (.int .i64 (y1.length:Int)))) }),(8,{ rw:=some (.d (.v (.bool z12))) })] [5,6,7,8,9,13,24,25,26,110] [(110,.d (.v (.bool z12)))] [(1,0≤(0:Int)∧(0:Int) < (y1.map cS).length),(0,(y1.map cS)[(0:Int).toNat]? = some (cS (y1.getD (0:Int).toNat []))),(2,((((!((y1.getD (0:Int).toNat []) == ([110,97,109,101]:List UInt8))) == false) && true)=true→True)),(0,((((!((y1.getD (0:Int).toNat []) == ([110,97,109,101]:List UInt8))) == false) && true)=true→True∧AV.d (.v (.int .i64 ((y1.map cS).length:Int)))=.d (.v (.int .i64 (y1.length:Int))))),(0,((((!((y1.getD (0:Int).toNat []) == ([110,97,109,101]:List UInt8))) == false) && true)=true→True)),(0,(True)∧AV.d (.v (.bool (bif (!((y1.getD (0:Int).toNat []) == ([110,97,109,101]:List UInt8))) then true else (decide ((y1.length:Int) < (2:Int))))))=.d (.v (.bool z12)))] 0 (by kernel_rfl) (⟨own_idx cS hp11,(idx_ok (d:=[]) cS hp11).2,(fun hg=>trivial),(fun hg=>len_ok cS),(fun hg=>trivial),⟨trivial,(by subst hz9; rfl)⟩⟩) ?_
      refine T_cond z12 (by kernel_rfl) (fun hc=>?_) (fun hc=>?_)
      ·have h:=cond_tt hc h
       obtain hs:=Option.some.inj h; subst hs
       refine T_exit fun a w hm=>then_exit (inBlock_exit (then_norm (hm.co (cs:=[.keep [5,6,7,8,9,24,25,26]]) (by show _=_; kernel_rfl))))
      ·have h:=cond_ff hc h
       refine T_skip fun a w hm=>then_norm (((?_:T Tryz.prog e 189 _ _ _) a w hm))
       refine T_reg [] [5,6,7,8,9,13,17,18,24,25,26] [(17,.d (.str [])),(18,.d (.v (.bool true)))] [] 2 (by kernel_rfl) (trivial) ?_
       refine T_seqk ?_
       obtain ⟨hp12,h⟩:=chk_ok h
       refine T_reg [(1,{ frz:=[(13,0)],rw:=some (.d (.sl 1 (((y1.drop (2:Int).toNat).take ((y1.length:Int).toNat - (2:Int).toNat)).map cS))) }),(2,{ rw:=some (.d (.v (.int .i64 (((y1.drop (2:Int).toNat).take ((y1.length:Int).toNat - (2:Int).toNat)).length:Int)))) })] [5,6,7,8,9,13,17,18,24,25,26,112,113,114] [(13,.fz 1 (y1.map cS)),(112,.d (.sl 1 (((y1.drop (2:Int).toNat).take ((y1.length:Int).toNat - (2:Int).toNat)).map cS))),(113,.d (.v (.int .i64 (((y1.drop (2:Int).toNat).take ((y1.length:Int).toNat - (2:Int).toNat)).length:Int)))),(114,.d (.v (.int .i64 (0:Int))))] [(1,(0≤(2:Int)∧(2:Int)≤((y1.map cS).length:Int)∧((y1.map cS).length:Int)≤((y1.map cS).length:Int))∧AV.d (.sl 1 (((y1.map cS).drop (2:Int).toNat).take (((y1.map cS).length:Int).toNat - (2:Int).toNat)))=.d (.sl 1 (((y1.drop (2:Int).toNat).take ((y1.length:Int).toNat - (2:Int).toNat)).map cS))),(0,True∧AV.d (.v (.int .i64 ((((y1.drop (2:Int).toNat).take ((y1.length:Int).toNat - (2:Int).toNat)).map cS).length:Int)))=.d (.v (.int .i64 (((y1.drop (2:Int).toNat).take ((y1.length:Int).toNat - (2:Int).toNat)).length:Int))))] 1 (by kernel_rfl) (⟨cutL cS hp12,len_ok cS⟩) ?_
       refine T_joinct h (fun (p:(List UInt8)×Bool)=>[(5,.own 9 1 (v9.map cS)),(6,.own 9 1 (v10.map cS)),(7,.own 9 1 (v11.map cS)),(8,.own 3 1 (v1.map (cI .i64))),(9,.own 9 1 (v2.map cS)),(13,.fz 1 (y1.map cS)),(17,.d (.str p.1)),(18,.d (.v (.bool p.2))),(24,.own 9 1 (y4.map cS)),(25,.d (.v (.int .i64 (y4.length:Int)))),(26,.d (.v (.int .i64 v14)))]) (fun s h=>?_) (fun s h=>?_)
       ·refine T_co [.keep [5,6,7,8,9,13,17,18,24,25,26,112,113,114]] ((fun (p:(List UInt8)×Bool×Int)=>[(5,.own 9 1 (v9.map cS)),(6,.own 9 1 (v10.map cS)),(7,.own 9 1 (v11.map cS)),(8,.own 3 1 (v1.map (cI .i64))),(9,.own 9 1 (v2.map cS)),(13,.fz 1 (y1.map cS)),(17,.d (.str p.1)),(18,.d (.v (.bool p.2.1))),(24,.own 9 1 (y4.map cS)),(25,.d (.v (.int .i64 (y4.length:Int)))),(26,.d (.v (.int .i64 v14))),(112,.d (.sl 1 (((y1.drop (2:Int).toNat).take ((y1.length:Int).toNat - (2:Int).toNat)).map cS))),(113,.d (.v (.int .i64 (((y1.drop (2:Int).toNat).take ((y1.length:Int).toNat - (2:Int).toNat)).length:Int)))),(114,.d (.v (.int .i64 p.2.2)))]) ([],true,(0:Int))) (by show _=_; kernel_rfl) ?_
        refine T_block ?_
        refine T_loopF (ι:=(List UInt8)×Bool×Int) (fun (p:(List UInt8)×Bool×Int)=>[(5,.own 9 1 (v9.map cS)),(6,.own 9 1 (v10.map cS)),(7,.own 9 1 (v11.map cS)),(8,.own 3 1 (v1.map (cI .i64))),(9,.own 9 1 (v2.map cS)),(13,.fz 1 (y1.map cS)),(17,.d (.str p.1)),(18,.d (.v (.bool p.2.1))),(24,.own 9 1 (y4.map cS)),(25,.d (.v (.int .i64 (y4.length:Int)))),(26,.d (.v (.int .i64 v14))),(112,.d (.sl 1 (((y1.drop (2:Int).toNat).take ((y1.length:Int).toNat - (2:Int).toNat)).map cS))),(113,.d (.v (.int .i64 (((y1.drop (2:Int).toNat).take ((y1.length:Int).toNat - (2:Int).toNat)).length:Int)))),(114,.d (.v (.int .i64 p.2.2)))]) (fun n p=>ref3_Saved_L2 F y1 v1 v2 n p.1 p.2.1 p.2.2=some s) (fun i hh=>by simp [ref3_Saved_L2] at hh) (fun n p h=>?_) F ([],true,(0:Int)) h
        obtain ⟨v3,v4,v5⟩:=p
        have h:ref3_Saved_L2 F y1 v1 v2 (n+1) v3 v4 v5=some s:=h
        rw [ref3_Saved_L2] at h
        obtain ⟨z1,hz10,h⟩:=lett_ok h
        refine T_reg [(0,{ rw:=some (.d (.v (.bool z1))) })] [5,6,7,8,9,13,17,18,24,25,26,112,113,114,115] [(115,.d (.v (.bool z1)))] [(0,(True)∧AV.d (.v (.bool (decide (v5 < (((y1.drop (2:Int).toNat).take ((y1.length:Int).toNat - (2:Int).toNat)).length:Int)))))=.d (.v (.bool z1)))] 0 (by kernel_rfl) (⟨trivial,(by subst hz10; rfl)⟩) ?_
        refine T_seqk ?_
        refine T_cond z1 (by kernel_rfl) (fun hc=>?_) (fun hc=>?_)
        ·have h:=cond_tt hc h
         refine T_skip fun a w hm=>then_norm (((?_:T Tryz.prog e 189 _ _ _) a w hm))
         refine T_joinc h (fun (p:(List UInt8)×Bool)=>[(5,.own 9 1 (v9.map cS)),(6,.own 9 1 (v10.map cS)),(7,.own 9 1 (v11.map cS)),(8,.own 3 1 (v1.map (cI .i64))),(9,.own 9 1 (v2.map cS)),(13,.fz 1 (y1.map cS)),(17,.d (.str p.1)),(18,.d (.v (.bool p.2))),(24,.own 9 1 (y4.map cS)),(25,.d (.v (.int .i64 (y4.length:Int)))),(26,.d (.v (.int .i64 v14))),(112,.d (.sl 1 (((y1.drop (2:Int).toNat).take ((y1.length:Int).toNat - (2:Int).toNat)).map cS))),(113,.d (.v (.int .i64 (((y1.drop (2:Int).toNat).take ((y1.length:Int).toNat - (2:Int).toNat)).length:Int)))),(114,.d (.v (.int .i64 v5)))]) (fun s h=>?_) (fun s h=>?_)
         ·refine T_block ?_
          obtain ⟨hp13,h⟩:=chk_ok h
          obtain ⟨z2,hz11,h⟩:=lett_ok h
          refine T_reg [(0,{ cs:=cS (((y1.drop (2:Int).toNat).take ((y1.length:Int).toNat - (2:Int).toNat)).getD v5.toNat []) }),(1,{ rw:=some (.d (.str z2)) })] [5,6,7,8,9,13,17,18,20,24,25,26,112,113,114] [(20,.d (.str z2))] [(0,0≤v5∧(((y1.drop (2:Int).toNat).take ((y1.length:Int).toNat - (2:Int).toNat)).map cS)[v5.toNat]? = some (cS (((y1.drop (2:Int).toNat).take ((y1.length:Int).toNat - (2:Int).toNat)).getD v5.toNat []))),(0,(True)∧AV.d (.str (((y1.drop (2:Int).toNat).take ((y1.length:Int).toNat - (2:Int).toNat)).getD v5.toNat []))=.d (.str z2))] 1 (by kernel_rfl) (⟨idx_ok (d:=[]) cS hp13,⟨trivial,(by subst hz11; rfl)⟩⟩) ?_
          refine T_reg [] [5,6,7,8,9,13,17,18,20,21,24,25,26,112,113,114] [(21,.d (.v (.int .i64 (-1:Int))))] [] 1 (by kernel_rfl) (trivial) ?_
          refine T_joinc h (fun (p:Int)=>[(5,.own 9 1 (v9.map cS)),(6,.own 9 1 (v10.map cS)),(7,.own 9 1 (v11.map cS)),(8,.own 3 1 (v1.map (cI .i64))),(9,.own 9 1 (v2.map cS)),(13,.fz 1 (y1.map cS)),(17,.d (.str v3)),(18,.d (.v (.bool v4))),(21,.d (.v (.int .i64 p))),(24,.own 9 1 (y4.map cS)),(25,.d (.v (.int .i64 (y4.length:Int)))),(26,.d (.v (.int .i64 v14))),(112,.d (.sl 1 (((y1.drop (2:Int).toNat).take ((y1.length:Int).toNat - (2:Int).toNat)).map cS))),(113,.d (.v (.int .i64 (((y1.drop (2:Int).toNat).take ((y1.length:Int).toNat - (2:Int).toNat)).length:Int)))),(114,.d (.v (.int .i64 v5)))]) (fun s h=>?_) (fun v6 h=>?_)
          ·obtain ⟨y2,hy8,h⟩:=call_ok h
           refine T_reg [(1,{ res:=.d (.v (.int .i64 y2)) })] [5,6,7,8,9,13,17,18,21,22,24,25,26,112,113,114] [(22,.d (.v (.int .i64 y2)))] [(1,ACall Tryz.prog 25 [.d (.str z2)] [] (.d (.v (.int .i64 y2))) [])] 1 (by kernel_rfl) (ref3_Tidy_ok hy8) ?_
           refine T_reg [] [5,6,7,8,9,13,17,18,21,22,24,25,26,112,113,114,121] [(121,.d (.v (.bool (decide (y2 ≥ (0:Int))))))] [] 2 (by kernel_rfl) (trivial) ?_
           refine T_cond (decide (y2 ≥ (0:Int))) (by kernel_rfl) (fun hc=>?_) (fun hc=>?_)
           ·have h:=cond_tt hc h
            obtain ⟨y3,hy9,h⟩:=call_ok h
            obtain hs:=Option.some.inj h; subst hs
            refine T_reg_end [(2,{ res:=.d (.v (.int .i64 y3)) })] [5,6,7,8,9,13,17,18,21,24,25,26,112,113,114] [(21,.d (.v (.int .i64 y3)))] [(2,ACall Tryz.prog 26 [.d (.sl 1 (v1.map (cI .i64))),.d (.v (.int .i64 y2))] [] (.d (.v (.int .i64 y3))) [])] 1 (by kernel_rfl) (ref3_at_ok hy9) fun a w hm=>then_norm (hm.co (cs:=[.keep [5,6,7,8,9,13,17,18,21,24,25,26,112,113,114]]) (by show _=_; kernel_rfl))
           ·have h:=cond_ff hc h
            obtain hs:=Option.some.inj h; subst hs
            refine T_skip fun a w hm=>then_norm (hm.co (cs:=[.keep [5,6,7,8,9,13,17,18,21,24,25,26,112,113,114]]) (by show _=_; kernel_rfl))
          ·skip
           refine T_reg [] [5,6,7,8,9,13,17,18,21,24,25,26,112,113,114] [(18,.d (.v (.bool (bif v4 then (decide (v6 ≥ (0:Int))) else false))))] [(2,(((v4 == true) && true)=true→True)),(0,(((v4 == true) && true)=true→True))] 2 (by kernel_rfl) (⟨(fun hg=>trivial),(fun hg=>trivial)⟩) ?_
           obtain ⟨z3,hz12,h⟩:=lett_ok h
           refine T_reg [(5,{ rw:=some (.d (.v (.bool z3))) })] [5,6,7,8,9,13,17,18,21,24,25,26,112,113,114,135] [(135,.d (.v (.bool z3)))] [(2,((((bif v4 then (decide (v6 ≥ (0:Int))) else false) == true) && true)=true→True)),(0,((((bif v4 then (decide (v6 ≥ (0:Int))) else false) == true) && true)=true→True)),(0,((((bif v4 then (decide (v6 ≥ (0:Int))) else false) == true) && true)=true→True)),(0,(True)∧AV.d (.v (.bool (bif (bif v4 then (decide (v6 ≥ (0:Int))) else false) then (decide ((v3.length:Int)≤(16384:Int))) else false)))=.d (.v (.bool z3)))] 0 (by kernel_rfl) (⟨(fun hg=>trivial),(fun hg=>trivial),(fun hg=>trivial),⟨trivial,(by subst hz12; rfl)⟩⟩) ?_
           refine T_cond z3 (by kernel_rfl) (fun hc=>?_) (fun hc=>?_)
           ·have h:=cond_tt hc h
            obtain ⟨hp14,h⟩:=chk_ok h
            obtain ⟨hp15,h⟩:=chk_ok h
            obtain hs:=Option.some.inj h; subst hs
            refine T_reg_end [(4,{ cs:=cS (v2.getD v6.toNat []) })] [5,6,7,8,9,13,17,18,24,25,26,112,113,114] [(17,.d (.str (v3++(v2.getD v6.toNat []))))] [(3,0≤v6∧v6 < (v2.map cS).length),(0,(v2.map cS)[v6.toNat]? = some (cS (v2.getD v6.toNat []))),(0,v3.length+(v2.getD v6.toNat []).length≤9223372036854775807)] 1 (by kernel_rfl) (⟨own_idx cS hp14,(idx_ok (d:=[]) cS hp14).2,hp15⟩) fun a w hm=>inBlock_norm (then_norm (hm.co (cs:=[.keep [5,6,7,8,9,13,17,18,24,25,26,112,113,114]]) (by show _=_; kernel_rfl)))
           ·have h:=cond_ff hc h
            obtain hs:=Option.some.inj h; subst hs
            refine T_skip fun a w hm=>inBlock_norm (then_norm (hm.co (cs:=[.keep [5,6,7,8,9,13,17,18,24,25,26,112,113,114]]) (by show _=_; kernel_rfl)))
         ·obtain ⟨v7,v8⟩:=s
          try dsimp only at h
          refine T_reg_end [] [5,6,7,8,9,13,17,18,24,25,26,112,113,114] [(114,.d (.v (.int .i64 (IntKind.i64.wrap (v5+(1:Int))))))] [] 2 (by kernel_rfl) (trivial) fun a w hm=>then_norm (⟨(v7,v8,IntKind.i64.wrap (v5+(1:Int))),h,hm.co (cs:=[.keep [5,6,7,8,9,13,17,18,24,25,26,112,113,114]]) (by show _=_; kernel_rfl)⟩)
        ·have h:=cond_ff hc h
         obtain hs:=Option.some.inj h; subst hs
         refine T_exit fun a w hm=>then_exit (then_exit (inBlock_exit (then_norm (hm.co (cs:=[.keep [5,6,7,8,9,13,17,18,24,25,26]]) (by show _=_; kernel_rfl)))))
       ·obtain ⟨v15,v16⟩:=s
        try dsimp only at h
        refine fun a w hm=>then_norm (((?_:T Tryz.prog e 189 _ _ _) a w hm))
        refine T_seqk ?_
        obtain ⟨hp16,h⟩:=chk_ok h
        obtain ⟨y10,hy10,h⟩:=call_ok h
        obtain ⟨z13,hz13,h⟩:=lett_ok h
        obtain ⟨hp17,h⟩:=chk_ok h
        obtain ⟨y11,hy11,h⟩:=call_ok h
        refine T_reg [(9,{ cs:=cS (y1.getD (1:Int).toNat []) }),(11,{ res:=.d (.v (.bool y10)) }),(13,{ rw:=some (.d (.v (.bool z13))) }),(17,{ cs:=cS (y1.getD (1:Int).toNat []) }),(19,{ res:=.d (.v (.bool y11)) }),(23,{ rw:=some (.d (.v (.int .i64 (v9.length:Int)))) })] [5,6,7,8,9,13,17,24,25,26,168] [(168,.d (.v (.bool (bif (bif z13 then true else y11) then true else ((v9.length:Int) == (64:Int))))))] [(3,((((!v16) == false) && true)=true→True)),(0,((((!v16) == false) && true)=true→True)),(0,((((!v16) == false) && true)=true→True)),(2,((((bif (!v16) then true else (decide ((v15.length:Int) > (16384:Int)))) == false) && true)=true→True)),(0,((((bif (!v16) then true else (decide ((v15.length:Int) > (16384:Int)))) == false) && true)=true→0≤(1:Int)∧(y1.map cS)[(1:Int).toNat]? = some (cS (y1.getD (1:Int).toNat [])))),(0,((((bif (!v16) then true else (decide ((v15.length:Int) > (16384:Int)))) == false) && true)=true→True)),(0,((((bif (!v16) then true else (decide ((v15.length:Int) > (16384:Int)))) == false) && true)=true→ACall Tryz.prog 27 [.d (.str (y1.getD (1:Int).toNat []))] [] (.d (.v (.bool y10))) [])),(0,((((bif (!v16) then true else (decide ((v15.length:Int) > (16384:Int)))) == false) && true)=true→True)),(0,(True)∧AV.d (.v (.bool (bif (bif (!v16) then true else (decide ((v15.length:Int) > (16384:Int)))) then true else (!y10))))=.d (.v (.bool z13))),(1,(((z13 == false) && true)=true→True)),(0,(((z13 == false) && true)=true→True)),(0,(((z13 == false) && true)=true→0≤(1:Int)∧(y1.map cS)[(1:Int).toNat]? = some (cS (y1.getD (1:Int).toNat [])))),(0,(((z13 == false) && true)=true→True)),(0,(((z13 == false) && true)=true→ACall Tryz.prog 28 [.d (.sl 1 (v9.map cS)),.d (.str (y1.getD (1:Int).toNat []))] [] (.d (.v (.bool y11))) [])),(2,((((bif z13 then true else y11) == false) && true)=true→True)),(0,((((bif z13 then true else y11) == false) && true)=true→True∧AV.d (.v (.int .i64 ((v9.map cS).length:Int)))=.d (.v (.int .i64 (v9.length:Int))))),(0,((((bif z13 then true else y11) == false) && true)=true→True))] 1 (by kernel_rfl) (⟨(fun hg=>trivial),(fun hg=>trivial),(fun hg=>trivial),(fun hg=>trivial),(fun hg=>idx_ok (d:=[]) cS (hp16 hg)),(fun hg=>trivial),(fun hg=>ref3_IsName_ok (gcall_ok hg hy10)),(fun hg=>trivial),⟨trivial,(by subst hz13; rfl)⟩,(fun hg=>trivial),(fun hg=>trivial),(fun hg=>idx_ok (d:=[]) cS (hp17 hg)),(fun hg=>trivial),(fun hg=>ref3_HasText_ok (gcall_ok hg hy11)),(fun hg=>trivial),(fun hg=>len_ok cS),(fun hg=>trivial)⟩) ?_
        refine T_cond (bif (bif z13 then true else y11) then true else ((v9.length:Int) == (64:Int))) (by kernel_rfl) (fun hc=>?_) (fun hc=>?_)
        ·have h:=cond_tt hc h
         obtain ⟨hp18,h⟩:=chk_ok h
         obtain ⟨hp19,h⟩:=chk_ok h
         refine T_reg [(2,{ cs:=cS (y1.getD (1:Int).toNat []) }),(4,{ es:=some (([(y1.getD (1:Int).toNat [])]).map cS) }),(5,{ es:=some ((v11++([(y1.getD (1:Int).toNat [])])).map cS) })] [5,6,7,8,9,24,25,26] [(7,.own 9 1 ((v11++([(y1.getD (1:Int).toNat [])])).map cS))] [(2,0≤(1:Int)∧(y1.map cS)[(1:Int).toNat]? = some (cS (y1.getD (1:Int).toNat []))),(1,(([(y1.getD (1:Int).toNat [])]).map cS)=(([(y1.getD (1:Int).toNat [])]).map cS)),(0,(v11.map cS).length+(([(y1.getD (1:Int).toNat [])]).map cS).length≤4294967296∧(v11.map cS)++(([(y1.getD (1:Int).toNat [])]).map cS)=((v11++([(y1.getD (1:Int).toNat [])])).map cS))] 1 (by kernel_rfl) (⟨idx_ok (d:=[]) cS hp18,rfl,app_ok cS hp19⟩) ?_
         obtain hs:=Option.some.inj h; subst hs
         refine T_exit fun a w hm=>then_exit (inBlock_exit (then_norm (hm.co (cs:=[.keep [5,6,7,8,9,24,25,26]]) (by show _=_; kernel_rfl))))
        ·have h:=cond_ff hc h
         refine T_skip fun a w hm=>then_norm (((?_:T Tryz.prog e 189 _ _ _) a w hm))
         obtain ⟨hp20,h⟩:=chk_ok h
         obtain ⟨hp21,h⟩:=chk_ok h
         obtain ⟨hp22,h⟩:=chk_ok h
         obtain hs:=Option.some.inj h; subst hs
         refine T_reg_end [(2,{ cs:=cS (y1.getD (1:Int).toNat []) }),(4,{ es:=some (([(y1.getD (1:Int).toNat [])]).map cS) }),(5,{ es:=some ((v9++([(y1.getD (1:Int).toNat [])])).map cS) }),(8,{ es:=some (([v15]).map cS) }),(9,{ es:=some ((v10++([v15])).map cS) })] [5,6,7,8,9,24,25,26] [(5,.own 9 1 ((v9++([(y1.getD (1:Int).toNat [])])).map cS)),(6,.own 9 1 ((v10++([v15])).map cS))] [(2,0≤(1:Int)∧(y1.map cS)[(1:Int).toNat]? = some (cS (y1.getD (1:Int).toNat []))),(1,(([(y1.getD (1:Int).toNat [])]).map cS)=(([(y1.getD (1:Int).toNat [])]).map cS)),(0,(v9.map cS).length+(([(y1.getD (1:Int).toNat [])]).map cS).length≤4294967296∧(v9.map cS)++(([(y1.getD (1:Int).toNat [])]).map cS)=((v9++([(y1.getD (1:Int).toNat [])])).map cS)),(2,(([v15]).map cS)=(([v15]).map cS)),(0,(v10.map cS).length+(([v15]).map cS).length≤4294967296∧(v10.map cS)++(([v15]).map cS)=((v10++([v15])).map cS))] 2 (by kernel_rfl) (⟨idx_ok (d:=[]) cS hp20,rfl,app_ok cS hp21,rfl,app_ok cS hp22⟩) fun a w hm=>inBlock_norm (then_norm (hm.co (cs:=[.keep [5,6,7,8,9,24,25,26]]) (by show _=_; kernel_rfl)))
   ·obtain ⟨v17,v18,v19,v20,v21⟩:=s
    try dsimp only at h
    refine T_reg_end [] [5,6,7,8,9,24,25,26] [(26,.d (.v (.int .i64 (IntKind.i64.wrap (v14+(1:Int))))))] [] 2 (by kernel_rfl) (trivial) fun a w hm=>then_norm (⟨(v20,v21,v19,v17,v18,IntKind.i64.wrap (v14+(1:Int))),h,hm.co (cs:=[.keep [5,6,7,8,9,24,25,26]]) (by show _=_; kernel_rfl)⟩)
  ·have h:=cond_ff hc h
   obtain hs:=Option.some.inj h; subst hs
   refine T_exit fun a w hm=>then_exit (then_exit (inBlock_exit (then_norm (hm.co (cs:=[.keep [5,6,7]]) (by show _=_; kernel_rfl)))))
 ·obtain ⟨v22,v23,v24⟩:=s
  try dsimp only at h
  refine fun a w hm=>then_norm (((?_:T Tryz.prog e 189 _ _ _) a w hm))
  refine T_reg [] [2,3,4,5,6,7] [(2,.vw (5,0)),(3,.vw (6,0)),(4,.vw (7,0))] [] 6 (by kernel_rfl) (trivial) ?_
  obtain hs:=Option.some.inj h; subst hs
  refine T_ret fun a w hm=>T_return (fr':=[(2,.own 9 1 (v22.map cS)),(3,.own 9 1 (v23.map cS)),(4,.own 9 1 (v24.map cS))]) [2,3,4] (by kernel_rfl) [.claim 2,.claim 3,.claim 4,.keep [2,3,4]] (by kernel_rfl) (by kernel_rfl) (by kernel_rfl) (by show _=_; kernel_rfl) (by exact trivial) a w hm
theorem slices_IsSorted_string_ok {F:Nat} {a0:List (List UInt8)} {r:Bool} (h:slices_IsSorted_string F a0=some r):ACall Tryz.prog 9 [.d (.sl 1 (a0.map cS))] [] (.d (.v (.bool r))) []:=by
 rw [slices_IsSorted_string] at h
 refine ACall.intro (N:=21) Tryz.func9 rfl rfl rfl rfl rfl fun e=>?_
 refine T_reg [] [0] [] [] 1 (by kernel_rfl) (trivial) ?_
 refine T_seqk ?_
 refine T_reg [(1,{ rw:=some (.d (.v (.int .i64 (a0.length:Int)))) })] [0,3] [(3,.d (.v (.int .i64 (IntKind.i64.wrap ((a0.length:Int) - (1:Int))))))] [(1,True∧AV.d (.v (.int .i64 ((a0.map cS).length:Int)))=.d (.v (.int .i64 (a0.length:Int))))] 2 (by kernel_rfl) (len_ok cS) ?_
 refine T_joinEt h (fun (p:Unit)=>[]) (fun s h hk1=>?_) (fun s h=>?_)
 ·refine T_co [.keep [0,3]] ((fun (p:Int)=>[(0,.d (.sl 1 (a0.map cS))),(3,.d (.v (.int .i64 p)))]) (IntKind.i64.wrap ((a0.length:Int) - (1:Int)))) (by show _=_; kernel_rfl) ?_
  refine T_block ?_
  refine T_loopF (ι:=Int) (fun (p:Int)=>[(0,.d (.sl 1 (a0.map cS))),(3,.d (.v (.int .i64 p)))]) (fun n p=>slices_IsSorted_string_L0 F a0 n p=some s) (fun i hh=>by simp [slices_IsSorted_string_L0] at hh) (fun n v1 h=>?_) F (IntKind.i64.wrap ((a0.length:Int) - (1:Int))) h
  have h:slices_IsSorted_string_L0 F a0 (n+1) v1=some s:=h
  rw [slices_IsSorted_string_L0] at h
  refine T_seqk ?_
  refine T_reg [] [0,3,8] [(8,.d (.v (.bool (decide (v1 > (0:Int))))))] [] 2 (by kernel_rfl) (trivial) ?_
  refine T_cond (decide (v1 > (0:Int))) (by kernel_rfl) (fun hc=>?_) (fun hc=>?_)
  ·have h:=cond_tt hc h
   refine T_skip fun a w hm=>then_norm (((?_:T Tryz.prog e 21 _ _ _) a w hm))
   refine T_seqk ?_
   refine T_block ?_
   obtain ⟨hp1,h⟩:=chk_ok h
   obtain ⟨hp2,h⟩:=chk_ok h
   obtain ⟨y1,hy1,h⟩:=call_ok h
   refine T_drawX mixed 1 (.take 0 (.take 1 (.take 2 (.take 3 (.take 4 (.take 5 (.take 6 (.take 7 (.take 8 (.all (.alt 9 .done .stop))))))))))) ([0,0,3,4,0,0,32,80,128,264],[0,0,3,4,0,0,32,80,128,264]) 511 [(2,{ cs:=cS (a0.getD v1.toNat []) }),(7,{ cs:=cS (a0.getD (IntKind.i64.wrap (v1 - (1:Int))).toNat []) }),(9,{ res:=.d (.v (.bool y1)) })] [0,3,20] [] [(0,.d (.sl 1 (a0.map cS))),(3,.d (.v (.int .i64 v1))),(20,.d (.v (.bool y1)))] ((fun (o2:Prop)=>fun (o7:Prop)=>fun (o9:Prop)=>[(2,o2),(4,o7),(1,o9)]) (0≤v1∧(a0.map cS)[v1.toNat]? = some (cS (a0.getD v1.toNat []))) (0≤(IntKind.i64.wrap (v1 - (1:Int)))∧(a0.map cS)[(IntKind.i64.wrap (v1 - (1:Int))).toNat]? = some (cS (a0.getD (IntKind.i64.wrap (v1 - (1:Int))).toNat []))) (ACall Tryz.prog 30 [.d (.str (a0.getD v1.toNat [])),.d (.str (a0.getD (IntKind.i64.wrap (v1 - (1:Int))).toNat []))] [] (.d (.v (.bool y1))) [])) 0 (by kernel_rfl) (by kernel_rfl) (by kernel_rfl) (have p2:=idx_ok (d:=[]) cS hp1; have p7:=idx_ok (d:=[]) cS hp2; have p9:=cmp_Less_string_ok hy1; ⟨p2,p7,p9⟩) ?_
   refine T_cond y1 (by kernel_rfl) (fun hc=>?_) (fun hc=>?_)
   ·have h:=cond_tt hc h
    refine T_reg [] [2] [(2,.d (.v (.bool false)))] [] 1 (by kernel_rfl) (trivial) ?_
    obtain hs:=Option.some.inj h; subst hs
    have h:=callE_esc hk1
    obtain hs:=Option.some.inj h; subst hs
    refine T_ret fun a w hm=>inBlock_ret (then_ret (then_ret (inBlock_ret (then_ret (then_ret (T_return (fr':=[(2,.d (.v (.bool false)))]) [2] (by kernel_rfl) [.keep [2]] (by kernel_rfl) (by kernel_rfl) (by kernel_rfl) (by show _=_; kernel_rfl) (by exact trivial) a w hm))))))
   ·have h:=cond_ff hc h
    refine T_skip fun a w hm=>inBlock_norm (then_norm (((?_:T Tryz.prog e 21 _ _ _) a w hm)))
    refine T_reg_end [] [0,3] [(3,.d (.v (.int .i64 (IntKind.i64.wrap (v1 - (1:Int))))))] [] 3 (by kernel_rfl) (trivial) fun a w hm=>then_norm (⟨IntKind.i64.wrap (v1 - (1:Int)),h,hm.co (cs:=[.keep [0,3]]) (by show _=_; kernel_rfl)⟩)
  ·have h:=cond_ff hc h
   obtain hs:=Option.some.inj h; subst hs
   refine T_exit fun a w hm=>then_exit (then_exit (inBlock_exit (then_norm (⟨_,rfl,hm.co (cs:=[.keep []]) (by show _=_; kernel_rfl)⟩))))
 ·skip
  refine fun a w hm=>then_norm (((?_:T Tryz.prog e 21 _ _ _) a w hm))
  refine T_reg [] [2] [(2,.d (.v (.bool true)))] [] 1 (by kernel_rfl) (trivial) ?_
  obtain hs:=Option.some.inj h; subst hs
  refine T_ret fun a w hm=>T_return (fr':=[(2,.d (.v (.bool true)))]) [2] (by kernel_rfl) [.keep [2]] (by kernel_rfl) (by kernel_rfl) (by kernel_rfl) (by show _=_; kernel_rfl) (by exact trivial) a w hm
theorem slices_Equal_string_ok {F:Nat} {a0:List (List UInt8)} {a1:List (List UInt8)} {r:Bool} (h:slices_Equal_string F a0 a1=some r):ACall Tryz.prog 7 [.d (.sl 1 (a0.map cS)),.d (.sl 1 (a1.map cS))] [] (.d (.v (.bool r))) []:=by
 rw [slices_Equal_string] at h
 refine ACall.intro (N:=26) Tryz.func7 rfl rfl rfl rfl rfl fun e=>?_
 refine T_reg [] [0,1] [] [] 1 (by kernel_rfl) (trivial) ?_
 refine T_seqk ?_
 refine T_reg [(1,{ rw:=some (.d (.v (.int .i64 (a0.length:Int)))) }),(3,{ rw:=some (.d (.v (.int .i64 (a1.length:Int)))) })] [0,1,10] [(10,.d (.v (.bool ((a0.length:Int) != (a1.length:Int)))))] [(1,True∧AV.d (.v (.int .i64 ((a0.map cS).length:Int)))=.d (.v (.int .i64 (a0.length:Int)))),(1,True∧AV.d (.v (.int .i64 ((a1.map cS).length:Int)))=.d (.v (.int .i64 (a1.length:Int))))] 1 (by kernel_rfl) (⟨len_ok cS,len_ok cS⟩) ?_
 refine T_cond ((a0.length:Int) != (a1.length:Int)) (by kernel_rfl) (fun hc=>?_) (fun hc=>?_)
 ·have h:=cond_tt hc h
  refine T_reg [] [4] [(4,.d (.v (.bool false)))] [] 1 (by kernel_rfl) (trivial) ?_
  obtain hs:=Option.some.inj h; subst hs
  refine T_ret fun a w hm=>then_ret (T_return (fr':=[(4,.d (.v (.bool false)))]) [4] (by kernel_rfl) [.keep [4]] (by kernel_rfl) (by kernel_rfl) (by kernel_rfl) (by show _=_; kernel_rfl) (by exact trivial) a w hm)
 ·have h:=cond_ff hc h
  refine T_skip fun a w hm=>then_norm (((?_:T Tryz.prog e 26 _ _ _) a w hm))
  refine T_seqk ?_
  refine T_reg [(1,{ rw:=some (.d (.v (.int .i64 (a0.length:Int)))) })] [0,1,12,13] [(12,.d (.v (.int .i64 (a0.length:Int)))),(13,.d (.v (.int .i64 (0:Int))))] [(1,True∧AV.d (.v (.int .i64 ((a0.map cS).length:Int)))=.d (.v (.int .i64 (a0.length:Int))))] 1 (by kernel_rfl) (len_ok cS) ?_
  refine T_joinEt h (fun (p:Unit)=>[]) (fun s h hk1=>?_) (fun s h=>?_)
  ·refine T_co [.keep [0,1,12,13]] ((fun (p:Int)=>[(0,.d (.sl 1 (a0.map cS))),(1,.d (.sl 1 (a1.map cS))),(12,.d (.v (.int .i64 (a0.length:Int)))),(13,.d (.v (.int .i64 p)))]) (0:Int)) (by show _=_; kernel_rfl) ?_
   refine T_block ?_
   refine T_loopF (ι:=Int) (fun (p:Int)=>[(0,.d (.sl 1 (a0.map cS))),(1,.d (.sl 1 (a1.map cS))),(12,.d (.v (.int .i64 (a0.length:Int)))),(13,.d (.v (.int .i64 p)))]) (fun n p=>slices_Equal_string_L0 F a0 a1 n p=some s) (fun i hh=>by simp [slices_Equal_string_L0] at hh) (fun n v1 h=>?_) F (0:Int) h
   have h:slices_Equal_string_L0 F a0 a1 (n+1) v1=some s:=h
   rw [slices_Equal_string_L0] at h
   refine T_reg [] [0,1,12,13,14] [(14,.d (.v (.bool (decide (v1 < (a0.length:Int))))))] [] 1 (by kernel_rfl) (trivial) ?_
   refine T_seqk ?_
   refine T_cond (decide (v1 < (a0.length:Int))) (by kernel_rfl) (fun hc=>?_) (fun hc=>?_)
   ·have h:=cond_tt hc h
    refine T_skip fun a w hm=>then_norm (((?_:T Tryz.prog e 26 _ _ _) a w hm))
    refine T_seqk ?_
    refine T_block ?_
    refine T_reg [] [0,1,5,12,13] [(5,.d (.v (.int .i64 v1)))] [] 2 (by kernel_rfl) (trivial) ?_
    obtain ⟨hp1,h⟩:=chk_ok h
    obtain ⟨hp2,h⟩:=chk_ok h
    refine T_draw mixed [(2,{ cs:=cS (a0.getD v1.toNat []) }),(6,{ cs:=cS (a1.getD v1.toNat []) })] [0,1,12,13,24] [] [(0,.d (.sl 1 (a0.map cS))),(1,.d (.sl 1 (a1.map cS))),(12,.d (.v (.int .i64 (a0.length:Int)))),(13,.d (.v (.int .i64 v1))),(24,.d (.v (.bool (!((a0.getD v1.toNat []) == (a1.getD v1.toNat []))))))] [(2,0≤v1∧(a0.map cS)[v1.toNat]? = some (cS (a0.getD v1.toNat []))),(3,0≤v1∧(a1.map cS)[v1.toNat]? = some (cS (a1.getD v1.toNat [])))] 2 (by kernel_rfl) (⟨idx_ok (d:=[]) cS hp1,idx_ok (d:=[]) cS hp2⟩) ?_
    refine T_cond (!((a0.getD v1.toNat []) == (a1.getD v1.toNat []))) (by kernel_rfl) (fun hc=>?_) (fun hc=>?_)
    ·have h:=cond_tt hc h
     refine T_reg [] [4] [(4,.d (.v (.bool false)))] [] 1 (by kernel_rfl) (trivial) ?_
     obtain hs:=Option.some.inj h; subst hs
     have h:=callE_esc hk1
     obtain hs:=Option.some.inj h; subst hs
     refine T_ret fun a w hm=>inBlock_ret (then_ret (then_ret (inBlock_ret (then_ret (then_ret (T_return (fr':=[(4,.d (.v (.bool false)))]) [4] (by kernel_rfl) [.keep [4]] (by kernel_rfl) (by kernel_rfl) (by kernel_rfl) (by show _=_; kernel_rfl) (by exact trivial) a w hm))))))
    ·have h:=cond_ff hc h
     refine T_skip fun a w hm=>inBlock_norm (then_norm (((?_:T Tryz.prog e 26 _ _ _) a w hm)))
     refine T_reg_end [] [0,1,12,13] [(13,.d (.v (.int .i64 (IntKind.i64.wrap (v1+(1:Int))))))] [] 2 (by kernel_rfl) (trivial) fun a w hm=>then_norm (⟨IntKind.i64.wrap (v1+(1:Int)),h,hm.co (cs:=[.keep [0,1,12,13]]) (by show _=_; kernel_rfl)⟩)
   ·have h:=cond_ff hc h
    obtain hs:=Option.some.inj h; subst hs
    refine T_exit fun a w hm=>then_exit (then_exit (inBlock_exit (then_norm (⟨_,rfl,hm.co (cs:=[.keep []]) (by show _=_; kernel_rfl)⟩))))
  ·skip
   refine fun a w hm=>then_norm (((?_:T Tryz.prog e 26 _ _ _) a w hm))
   refine T_reg [] [4] [(4,.d (.v (.bool true)))] [] 1 (by kernel_rfl) (trivial) ?_
   obtain hs:=Option.some.inj h; subst hs
   refine T_ret fun a w hm=>T_return (fr':=[(4,.d (.v (.bool true)))]) [4] (by kernel_rfl) [.keep [4]] (by kernel_rfl) (by kernel_rfl) (by kernel_rfl) (by show _=_; kernel_rfl) (by exact trivial) a w hm
theorem slices_Clone_string_ok {F:Nat} {a0:List (List UInt8)} {r:(List (List UInt8))} (h:slices_Clone_string F a0=some r):ACall Tryz.prog 29 [.d (.sl 1 (a0.map cS))] [] (.own 9 1 (r.map cS)) []:=by
 rw [slices_Clone_string] at h
 refine ACall.intro (N:=8) Tryz.func29 rfl rfl rfl rfl rfl fun e=>?_
 refine T_reg [] [0] [] [] 1 (by kernel_rfl) (trivial) ?_
 refine T_seqk ?_
 refine T_nilTest (sz:=1) (es:=(a0.map cS)) 0 3 4 24 (by kernel_rfl) (by kernel_rfl) (by kernel_rfl) (by kernel_rfl) [0] [(0,.d (.sl 1 (a0.map cS)))] (fun _=>by kernel_rfl) (fun hnil=>?_) ?_
 ·replace hnil:=List.map_eq_nil_iff.1 hnil
  have h:(some [])=some r:=by subst hnil; exact h
  refine T_reg [] [2] [(2,.own 9 1 ([].map cS))] [] 1 (by kernel_rfl) (trivial) ?_
  obtain hs:=Option.some.inj h; subst hs
  refine T_ret fun a w hm=>then_ret (T_return (fr':=[(2,.own 9 1 ([].map cS))]) [2] (by kernel_rfl) [.keep [2]] (by kernel_rfl) (by kernel_rfl) (by kernel_rfl) (by show _=_; kernel_rfl) (by exact trivial) a w hm)
 ·skip
  refine T_skip fun a w hm=>then_norm (((?_:T Tryz.prog e 8 _ _ _) a w hm))
  obtain ⟨hp1,h⟩:=chk_ok h
  refine T_reg [(2,{ es:=some ((([]:List (List UInt8))++a0).map cS) })] [2] [(2,.own 9 1 ((([]:List (List UInt8))++a0).map cS))] [(0,([]:List (List Dat))=[]),(1,(([]:List (List UInt8)).map cS).length+(a0.map cS).length≤4294967296∧(([]:List (List UInt8)).map cS)++(a0.map cS)=((([]:List (List UInt8))++a0).map cS))] 1 (by kernel_rfl) (⟨rfl,app_ok cS hp1⟩) ?_
  obtain hs:=Option.some.inj h; subst hs
  refine T_ret fun a w hm=>T_return (fr':=[(2,.own 9 1 ((([]:List (List UInt8))++a0).map cS))]) [2] (by kernel_rfl) [.keep [2]] (by kernel_rfl) (by kernel_rfl) (by kernel_rfl) (by show _=_; kernel_rfl) (by exact trivial) a w hm
end Go.Vm.ArzG
