/-
  Texts.
-/
import Derived.Test.YtjjclmimifionaaRg
namespace Go.Vm.TopG
open Go.Proofs
set_option maxRecDepth 20000
theorem top_aShown_ok {F:Nat}  {r:Bool} (h:top_aShown F  = some r):ACall Try.prog 4 [] [] (.d (.v (.bool r))) []:=by
 rw [top_aShown] at h
 refine ACall.intro (N:=16) Try.func4 rfl rfl rfl rfl rfl fun e=>?_
 refine T_r0 [] [] [] 1 ?_
 obtain ⟨y1,hy1,h⟩:=call_ok h
 obtain ⟨y2,hy2,h⟩:=call_ok h
 refine T_rg [(1,{ res:=.agg (cS_List y1) }),(2,{ res:=.tup [.agg (cS_Inks y2.1),dI y2.2] })] [1,2] [(1,bx_Inks y2.1),(2,dI y2.2)] [(1,ACall Try.prog 10 [dI (1:Int),dI (1:Int),.agg (cS_Inks (S_Inks.mk (200:Int) 0 0 0 0 0 0 0))] [] (.agg (cS_List y1)) []),(0,ACall Try.prog 9 [.agg (cS_List y1),dI (3:Int),dI (3:Int)] [] (.tup [.agg (cS_Inks y2.1),dI y2.2]) [])] 6 (⟨top_aPlain_ok hy1,list_At_ok hy2⟩) ?_
 obtain ⟨z1,hz1,h⟩:=lett_ok h
 refine T_rg [(5,{ rw:=some (dB z1) })] [0] [(0,dB (bif (y2.2 == (0:Int)) then z1 else false))] [(3,((((y2.2 == (0:Int)) == true) && true)=true→True)),(0,((((y2.2 == (0:Int)) == true) && true)=true→True)),(0,((((y2.2 == (0:Int)) == true) && true)=true→(True)∧dB (y2.1.f0 == (200:Int) && (y2.1.f1 == 0 && (y2.1.f2 == 0 && (y2.1.f3 == 0 && (y2.1.f4 == 0 && (y2.1.f5 == 0 && (y2.1.f6 == 0 && (y2.1.f7 == 0 && true))))))))=dB z1))] 2 (⟨tr,tr,(fun hg=>⟨trivial,(by subst hz1; rfl)⟩)⟩) ?_
 obtain hs:=Option.some.inj h; subst hs
 refine T_ret fun a w hm=>T_rn [(0,dB (bif (y2.2 == (0:Int)) then z1 else false))] [0] [.keep [0]] (by exact trivial) a w hm
theorem top_TopGroups_ok {F:Nat} {a0:S_List} {a1:Int} {a2:Int} {a3:Int} {a4:Int} {r:Bool} (h:top_TopGroups F a0 a1 a2 a3 a4=some r):ACall Try.prog 3 [.agg (cS_List a0),.d (.v (.int .i64 a1)),.d (.v (.int .i64 a2)),.d (.v (.int .i64 a3)),.d (.v (.int .i64 a4))] [] (.d (.v (.bool r))) []:=by
 rw [top_TopGroups] at h
 refine ACall.intro (N:=190) Try.func3 rfl rfl rfl rfl rfl fun e=>?_
 refine T_r0 [] [1,2,3,4,5] [(5,bx_List a0)] 2 ?_
 refine T_seqk ?_
 obtain ⟨y11,hy1,h⟩:=call_ok h
 refine T_rg [(0,{ res:=dB y11 })] [1,2,3,4,5,31] [(31,dB (!y11))] [(0,ACall Try.prog 4 [] [] (dB y11) [])] 1 (top_aShown_ok hy1) ?_
 refine T_cd (!y11) (fun hc=>?_) (fun hc=>?_)
 ·have h:=cond_tt hc h
  refine T_r0 [] [10] [(10,dB false)] 1 ?_
  obtain hs:=Option.some.inj h; subst hs
  refine T_ret fun a w hm=>then_ret (T_rn [(10,dB false)] [10] [.keep [10]] (by exact trivial) a w hm)
 ·have h:=cond_ff hc h
  refine T_skip fun a w hm=>then_norm (((?_:T Try.prog e 190 _ _ _) a w hm))
  obtain ⟨y1,hy2,h⟩:=call_ok h
  refine T_rg [(1,{ res:=.agg (cS_List y1) })] [1,2,3,4,5] [(5,bx_List y1)] [(1,ACall Try.prog 5 [.agg (cS_List a0)] [] (.agg (cS_List y1)) [])] 1 (top_aTiny_ok hy2) ?_
  refine T_seqk ?_
  obtain ⟨y12,hy3,h⟩:=call_ok h
  refine T_rg [(1,{ res:=dI y12 })] [1,2,3,4,5,36] [(36,dB (y12 != (0:Int)))] [(1,ACall Try.prog 6 [.agg (cS_List y1)] [] (dI y12) [])] 1 (list_Check_ok hy3) ?_
  refine T_cd (y12 != (0:Int)) (fun hc=>?_) (fun hc=>?_)
  ·have h:=cond_tt hc h
   refine T_r0 [] [10] [(10,dB true)] 1 ?_
   obtain hs:=Option.some.inj h; subst hs
   refine T_ret fun a w hm=>then_ret (T_rn [(10,dB true)] [10] [.keep [10]] (by exact trivial) a w hm)
  ·have h:=cond_ff hc h
   refine T_skip fun a w hm=>then_norm (((?_:T Try.prog e 190 _ _ _) a w hm))
   obtain ⟨y2,hy4,h⟩:=call_ok h
   refine T_rg [(3,{ rw:=some (dI (y1.f3.length:Int)) }),(4,{ res:=dI y2 })] [1,2,3,4,5] [(1,dI y2)] [(3,True∧dI ((y1.f3.map cS_Item).length:Int)=dI (y1.f3.length:Int)),(0,ACall Try.prog 7 [dI a1,dI (0:Int),dI (y1.f3.length:Int)] [] (dI y2) [])] 1 (⟨len_ok cS_Item,top_aCut_ok hy4⟩) ?_
   obtain ⟨y3,hy5,h⟩:=call_ok h
   refine T_rg [(4,{ rw:=some (dI (y1.f3.length:Int)) }),(5,{ res:=dI y3 })] [1,2,3,4,5] [(2,dI y3)] [(4,True∧dI ((y1.f3.map cS_Item).length:Int)=dI (y1.f3.length:Int)),(0,ACall Try.prog 7 [dI a2,dI y2,dI (y1.f3.length:Int)] [] (dI y3) [])] 1 (⟨len_ok cS_Item,top_aCut_ok hy5⟩) ?_
   obtain ⟨y4,hy6,h⟩:=call_ok h
   refine T_rg [(4,{ res:=.tup [.agg (cS_List y4.1),dI y4.2] })] [1,2,3,4,5,11,12] [(11,bx_List y4.1),(12,dI y4.2)] [(4,ACall Try.prog 8 [.agg (cS_List y1),dI y2,dI y3,.agg (cS_Item (S_Item.mk (1:Int) [] z_Source (255:Int) 0 false false false))] [] (.tup [.agg (cS_List y4.1),dI y4.2]) [])] 6 (list_Bracket_ok hy6) ?_
   refine T_r0 [] [1,2,3,4,5,11,12,13,14] [(13,dB true),(14,dI (0:Int))] 2 ?_
   refine T_seqk ?_
   obtain ⟨hp1,h⟩:=chk_ok h
   refine T_rg [(4,{ rw:=some (.d (.sl 34 (((y1.f3.drop y2.toNat).take (y3.toNat - y2.toNat)).map cS_Item))) }),(5,{ rw:=some (dI (((y1.f3.drop y2.toNat).take (y3.toNat - y2.toNat)).length:Int)) })] [1,2,3,4,5,11,12,13,14,60,61,62] [(60,.d (.sl 34 (((y1.f3.drop y2.toNat).take (y3.toNat - y2.toNat)).map cS_Item))),(61,dI (((y1.f3.drop y2.toNat).take (y3.toNat - y2.toNat)).length:Int)),(62,dI (0:Int))] [(4,(0≤y2∧y2≤y3∧y3≤((y1.f3.map cS_Item).length:Int))∧AV.d (.sl 34 (((y1.f3.map cS_Item).drop y2.toNat).take (y3.toNat - y2.toNat)))=.d (.sl 34 (((y1.f3.drop y2.toNat).take (y3.toNat - y2.toNat)).map cS_Item))),(0,True∧dI ((((y1.f3.drop y2.toNat).take (y3.toNat - y2.toNat)).map cS_Item).length:Int)=dI (((y1.f3.drop y2.toNat).take (y3.toNat - y2.toNat)).length:Int))] 1 (⟨cutH cS_Item hp1,len_ok cS_Item⟩) ?_
   refine T_joinEt h (fun (p:Bool×Int)=>[(1,dI y2),(2,dI y3),(3,dI a3),(4,dI a4),(5,bx_List y1),(11,bx_List y4.1),(12,dI y4.2),(13,dB p.1),(14,dI p.2)]) (fun s h hk1=>?_) (fun s h=>?_)
   ·refine T_co [.keep [1,2,3,4,5,11,12,13,14,60,61,62]] ((fun (p:Bool×Int×Int)=>[(1,dI y2),(2,dI y3),(3,dI a3),(4,dI a4),(5,bx_List y1),(11,bx_List y4.1),(12,dI y4.2),(13,dB p.1),(14,dI p.2.1),(60,.d (.sl 34 (((y1.f3.drop y2.toNat).take (y3.toNat - y2.toNat)).map cS_Item))),(61,dI (((y1.f3.drop y2.toNat).take (y3.toNat - y2.toNat)).length:Int)),(62,dI p.2.2)]) (true,(0:Int),(0:Int))) (by show _=_; kernel_rfl) ?_
    refine T_block ?_
    refine T_loopF (ι:=Bool×Int×Int) (fun (p:Bool×Int×Int)=>[(1,dI y2),(2,dI y3),(3,dI a3),(4,dI a4),(5,bx_List y1),(11,bx_List y4.1),(12,dI y4.2),(13,dB p.1),(14,dI p.2.1),(60,.d (.sl 34 (((y1.f3.drop y2.toNat).take (y3.toNat - y2.toNat)).map cS_Item))),(61,dI (((y1.f3.drop y2.toNat).take (y3.toNat - y2.toNat)).length:Int)),(62,dI p.2.2)]) (fun n p=>top_TopGroups_L0 F y1 y2 y3 n p.1 p.2.1 p.2.2=some s) (fun i hh=>by simp [top_TopGroups_L0] at hh) (fun n p h=>?_) F (true,(0:Int),(0:Int)) h
    obtain ⟨v1,v2,v3⟩:=p
    have h:top_TopGroups_L0 F y1 y2 y3 (n+1) v1 v2 v3=some s:=h
    rw [top_TopGroups_L0] at h
    refine T_r0 [] [1,2,3,4,5,11,12,13,14,60,61,62,63] [(63,dB (decide (v3 < (((y1.f3.drop y2.toNat).take (y3.toNat - y2.toNat)).length:Int))))] 1 ?_
    refine T_seqk ?_
    refine T_cd (decide (v3 < (((y1.f3.drop y2.toNat).take (y3.toNat - y2.toNat)).length:Int))) (fun hc=>?_) (fun hc=>?_)
    ·have h:=cond_tt hc h
     refine T_skip fun a w hm=>then_norm (((?_:T Try.prog e 190 _ _ _) a w hm))
     refine T_seqk ?_
     refine T_block ?_
     obtain ⟨hp2,h⟩:=chk_ok h
     refine T_rg [(0,{ cs:=cS_Item (((y1.f3.drop y2.toNat).take (y3.toNat - y2.toNat)).getD v3.toNat z_Item) })] [1,2,3,4,5,11,12,13,14,16,60,61,62] [(16,.box [dI ((((y1.f3.drop y2.toNat).take (y3.toNat - y2.toNat)).getD v3.toNat z_Item).f0),.d (.sl 3 (((((y1.f3.drop y2.toNat).take (y3.toNat - y2.toNat)).getD v3.toNat z_Item).f1).map cS_Run)),dI (((((y1.f3.drop y2.toNat).take (y3.toNat - y2.toNat)).getD v3.toNat z_Item).f2).f0),.d (.v (.int .u8 ((((((y1.f3.drop y2.toNat).take (y3.toNat - y2.toNat)).getD v3.toNat z_Item).f2).f1).f0))),.d (.v (.int .u8 ((((((y1.f3.drop y2.toNat).take (y3.toNat - y2.toNat)).getD v3.toNat z_Item).f2).f1).f1))),.d (.v (.int .u8 ((((((y1.f3.drop y2.toNat).take (y3.toNat - y2.toNat)).getD v3.toNat z_Item).f2).f1).f2))),.d (.v (.int .u8 ((((((y1.f3.drop y2.toNat).take (y3.toNat - y2.toNat)).getD v3.toNat z_Item).f2).f1).f3))),.d (.v (.int .u8 ((((((y1.f3.drop y2.toNat).take (y3.toNat - y2.toNat)).getD v3.toNat z_Item).f2).f1).f4))),.d (.v (.int .u8 ((((((y1.f3.drop y2.toNat).take (y3.toNat - y2.toNat)).getD v3.toNat z_Item).f2).f1).f5))),.d (.v (.int .u8 ((((((y1.f3.drop y2.toNat).take (y3.toNat - y2.toNat)).getD v3.toNat z_Item).f2).f1).f6))),.d (.v (.int .u8 ((((((y1.f3.drop y2.toNat).take (y3.toNat - y2.toNat)).getD v3.toNat z_Item).f2).f1).f7))),dI ((((((y1.f3.drop y2.toNat).take (y3.toNat - y2.toNat)).getD v3.toNat z_Item).f2).f2).f0),dI ((((((y1.f3.drop y2.toNat).take (y3.toNat - y2.toNat)).getD v3.toNat z_Item).f2).f2).f1),dI ((((((y1.f3.drop y2.toNat).take (y3.toNat - y2.toNat)).getD v3.toNat z_Item).f2).f3).f0),dI ((((((y1.f3.drop y2.toNat).take (y3.toNat - y2.toNat)).getD v3.toNat z_Item).f2).f3).f1),dI (((((y1.f3.drop y2.toNat).take (y3.toNat - y2.toNat)).getD v3.toNat z_Item).f2).f4),.d (.sl 9 ((((((y1.f3.drop y2.toNat).take (y3.toNat - y2.toNat)).getD v3.toNat z_Item).f2).f5).map cS_Stop)),dI ((((((y1.f3.drop y2.toNat).take (y3.toNat - y2.toNat)).getD v3.toNat z_Item).f2).f6).f0),dI ((((((y1.f3.drop y2.toNat).take (y3.toNat - y2.toNat)).getD v3.toNat z_Item).f2).f6).f1),.d (.sl 8 (((((((y1.f3.drop y2.toNat).take (y3.toNat - y2.toNat)).getD v3.toNat z_Item).f2).f6).f2).map cS_Inks)),.d (.sl 1 (((((((y1.f3.drop y2.toNat).take (y3.toNat - y2.toNat)).getD v3.toNat z_Item).f2).f6).f3).map cU)),dI (((((((y1.f3.drop y2.toNat).take (y3.toNat - y2.toNat)).getD v3.toNat z_Item).f2).f6).f4).f0),dI (((((((y1.f3.drop y2.toNat).take (y3.toNat - y2.toNat)).getD v3.toNat z_Item).f2).f6).f4).f1),dI (((((((y1.f3.drop y2.toNat).take (y3.toNat - y2.toNat)).getD v3.toNat z_Item).f2).f6).f4).f2),dI (((((((y1.f3.drop y2.toNat).take (y3.toNat - y2.toNat)).getD v3.toNat z_Item).f2).f6).f4).f3),dI (((((((y1.f3.drop y2.toNat).take (y3.toNat - y2.toNat)).getD v3.toNat z_Item).f2).f6).f4).f4),dI (((((((y1.f3.drop y2.toNat).take (y3.toNat - y2.toNat)).getD v3.toNat z_Item).f2).f6).f4).f5),dB ((((((y1.f3.drop y2.toNat).take (y3.toNat - y2.toNat)).getD v3.toNat z_Item).f2).f6).f5),dB ((((((y1.f3.drop y2.toNat).take (y3.toNat - y2.toNat)).getD v3.toNat z_Item).f2).f6).f6),.d (.v (.int .u8 ((((y1.f3.drop y2.toNat).take (y3.toNat - y2.toNat)).getD v3.toNat z_Item).f3))),dI ((((y1.f3.drop y2.toNat).take (y3.toNat - y2.toNat)).getD v3.toNat z_Item).f4),dB ((((y1.f3.drop y2.toNat).take (y3.toNat - y2.toNat)).getD v3.toNat z_Item).f5),dB ((((y1.f3.drop y2.toNat).take (y3.toNat - y2.toNat)).getD v3.toNat z_Item).f6),dB ((((y1.f3.drop y2.toNat).take (y3.toNat - y2.toNat)).getD v3.toNat z_Item).f7)])] [(0,0≤v3∧(((y1.f3.drop y2.toNat).take (y3.toNat - y2.toNat)).map cS_Item)[v3.toNat]? = some (cS_Item (((y1.f3.drop y2.toNat).take (y3.toNat - y2.toNat)).getD v3.toNat z_Item)))] 3 (idx_ok (d:=z_Item) cS_Item hp2) ?_
     obtain ⟨z1,hz1,h⟩:=lett_ok h
     obtain ⟨z2,hz2,h⟩:=lett_ok h
     obtain ⟨z3,hz3,h⟩:=lett_ok h
     obtain ⟨z4,hz4,h⟩:=lett_ok h
     obtain ⟨z5,hz5,h⟩:=lett_ok h
     obtain ⟨z6,hz6,h⟩:=lett_ok h
     refine T_rg [(3,{ rw:=some (dI z1) }),(8,{ rw:=some (.d (.v (.int .u8 z2))) }),(13,{ rw:=some (dI z3) }),(15,{ rw:=some (dB z4) }),(18,{ rw:=some (dB z5) }),(24,{ rw:=some (dI z6) })] [1,2,3,4,5,11,12,13,14,16,60,61,62] [(13,dB (bif (bif z4 then (!z5) else false) then (z6 == (0:Int)) else false))] [(2,(((v1 == true) && true)=true→True)),(0,(((v1 == true) && true)=true→(True)∧dI ((((y1.f3.drop y2.toNat).take (y3.toNat - y2.toNat)).getD v3.toNat z_Item).f0)=dI z1)),(0,(((v1 == true) && true)=true→True)),(2,((((bif v1 then (z1 == (0:Int)) else false) == true) && true)=true→True)),(0,((((bif v1 then (z1 == (0:Int)) else false) == true) && true)=true→(True)∧AV.d (.v (.int .u8 ((((y1.f3.drop y2.toNat).take (y3.toNat - y2.toNat)).getD v3.toNat z_Item).f3)))=.d (.v (.int .u8 z2)))),(0,((((bif v1 then (z1 == (0:Int)) else false) == true) && true)=true→True)),(2,((((bif (bif v1 then (z1 == (0:Int)) else false) then (z2 == (255:Int)) else false) == true) && true)=true→True)),(0,((((bif (bif v1 then (z1 == (0:Int)) else false) then (z2 == (255:Int)) else false) == true) && true)=true→(True)∧dI ((((y1.f3.drop y2.toNat).take (y3.toNat - y2.toNat)).getD v3.toNat z_Item).f4)=dI z3)),(0,((((bif (bif v1 then (z1 == (0:Int)) else false) then (z2 == (255:Int)) else false) == true) && true)=true→True)),(0,(True)∧dB (bif (bif (bif v1 then (z1 == (0:Int)) else false) then (z2 == (255:Int)) else false) then (z3 == (0:Int)) else false)=dB z4),(1,(((z4 == true) && true)=true→True)),(0,(((z4 == true) && true)=true→(True)∧dB ((((y1.f3.drop y2.toNat).take (y3.toNat - y2.toNat)).getD v3.toNat z_Item).f5)=dB z5)),(0,(((z4 == true) && true)=true→True)),(2,((((bif z4 then (!z5) else false) == true) && true)=true→True)),(0,((((bif z4 then (!z5) else false) == true) && true)=true→True)),(0,((((bif z4 then (!z5) else false) == true) && true)=true→(True)∧dI (((((y1.f3.drop y2.toNat).take (y3.toNat - y2.toNat)).getD v3.toNat z_Item).f2).f0)=dI z6)),(0,((((bif z4 then (!z5) else false) == true) && true)=true→True))] 2 (⟨tr,(fun hg=>⟨trivial,(by subst hz1; rfl)⟩),tr,tr,(fun hg=>⟨trivial,(by subst hz2; rfl)⟩),tr,tr,(fun hg=>⟨trivial,(by subst hz3; rfl)⟩),tr,⟨trivial,(by subst hz4; rfl)⟩,tr,(fun hg=>⟨trivial,(by subst hz5; rfl)⟩),tr,tr,tr,(fun hg=>⟨trivial,(by subst hz6; rfl)⟩),tr⟩) ?_
     refine T_joinc h (fun (p:Int)=>[(1,dI y2),(2,dI y3),(3,dI a3),(4,dI a4),(5,bx_List y1),(11,bx_List y4.1),(12,dI y4.2),(13,dB (bif (bif z4 then (!z5) else false) then (z6 == (0:Int)) else false)),(14,dI p),(60,.d (.sl 34 (((y1.f3.drop y2.toNat).take (y3.toNat - y2.toNat)).map cS_Item))),(61,dI (((y1.f3.drop y2.toNat).take (y3.toNat - y2.toNat)).length:Int)),(62,dI v3)]) (fun s h=>?_) (fun v4 h=>?_)
     ·obtain ⟨z7,hz7,h⟩:=lett_ok h
      refine T_rg [(1,{ rw:=some (dI z7) })] [1,2,3,4,5,11,12,13,14,60,61,62,94] [(94,dI z7)] [(1,(True)∧dI ((((y1.f3.drop y2.toNat).take (y3.toNat - y2.toNat)).getD v3.toNat z_Item).f0)=dI z7)] 0 (⟨trivial,(by subst hz7; rfl)⟩) ?_
      refine T_block ?_
      refine T_r0 [] [1,2,3,4,5,11,12,13,14,60,61,62,94,95] [(95,dB (z7 == (1:Int)))] 2 ?_
      refine T_cd (z7 == (1:Int)) (fun hc=>?_) (fun hc=>?_)
      ·have h:=cond_tt hc h
       obtain hs:=Option.some.inj h; subst hs
       refine T_reg_end [] [1,2,3,4,5,11,12,13,14,60,61,62] [(14,dI (IntKind.i64.wrap (v2+(1:Int))))] [] 3 (by kernel_rfl) (trivial) fun a w hm=>inBlock_norm (then_norm (hm.co (cs:=[.keep [1,2,3,4,5,11,12,13,14,60,61,62]]) (by show _=_; kernel_rfl)))
      ·have h:=cond_ff hc h
       refine T_r0 [] [1,2,3,4,5,11,12,13,14,60,61,62,99] [(99,dB (z7 == (2:Int)))] 2 ?_
       refine T_cd (z7 == (2:Int)) (fun hc=>?_) (fun hc=>?_)
       ·have h:=cond_tt hc h
        obtain hs:=Option.some.inj h; subst hs
        refine T_reg_end [] [1,2,3,4,5,11,12,13,14,60,61,62] [(14,dI (IntKind.i64.wrap (v2 - (1:Int))))] [] 3 (by kernel_rfl) (trivial) fun a w hm=>inBlock_norm (then_norm (hm.co (cs:=[.keep [1,2,3,4,5,11,12,13,14,60,61,62]]) (by show _=_; kernel_rfl)))
       ·have h:=cond_ff hc h
        obtain hs:=Option.some.inj h; subst hs
        refine T_skip fun a w hm=>inBlock_norm (then_norm (hm.co (cs:=[.keep [1,2,3,4,5,11,12,13,14,60,61,62]]) (by show _=_; kernel_rfl)))
     ·skip
      refine T_r0 [] [1,2,3,4,5,11,12,13,14,60,61,62,104] [(104,dB (decide (v4 < (0:Int))))] 2 ?_
      refine T_cd (decide (v4 < (0:Int))) (fun hc=>?_) (fun hc=>?_)
      ·have h:=cond_tt hc h
       refine T_r0 [] [10] [(10,dB true)] 1 ?_
       obtain hs:=Option.some.inj h; subst hs
       have h:=callE_esc hk1
       obtain hs:=Option.some.inj h; subst hs
       refine T_ret fun a w hm=>inBlock_ret (then_ret (then_ret (inBlock_ret (then_ret (then_ret (T_rn [(10,dB true)] [10] [.keep [10]] (by exact trivial) a w hm))))))
      ·have h:=cond_ff hc h
       refine T_skip fun a w hm=>inBlock_norm (then_norm (((?_:T Try.prog e 190 _ _ _) a w hm)))
       refine T_reg_end [] [1,2,3,4,5,11,12,13,14,60,61,62] [(62,dI (IntKind.i64.wrap (v3+(1:Int))))] [] 2 (by kernel_rfl) (trivial) fun a w hm=>then_norm (⟨((bif (bif z4 then (!z5) else false) then (z6 == (0:Int)) else false),v4,IntKind.i64.wrap (v3+(1:Int))),h,hm.co (cs:=[.keep [1,2,3,4,5,11,12,13,14,60,61,62]]) (by show _=_; kernel_rfl)⟩)
    ·have h:=cond_ff hc h
     obtain hs:=Option.some.inj h; subst hs
     refine T_exit fun a w hm=>then_exit (then_exit (inBlock_exit (then_norm (⟨_,rfl,hm.co (cs:=[.keep [1,2,3,4,5,11,12,13,14]]) (by show _=_; kernel_rfl)⟩))))
   ·obtain ⟨v6,v8⟩:=s
    try dsimp only at h
    refine fun a w hm=>then_norm (((?_:T Try.prog e 190 _ _ _) a w hm))
    refine T_seqk ?_
    refine T_r0 [] [1,2,3,4,5,11,12,13,107] [(107,dB (decide (v8 > (0:Int))))] 2 ?_
    refine T_cd (decide (v8 > (0:Int))) (fun hc=>?_) (fun hc=>?_)
    ·have h:=cond_tt hc h
     refine T_r0 [] [10] [(10,dB true)] 1 ?_
     obtain hs:=Option.some.inj h; subst hs
     refine T_ret fun a w hm=>then_ret (T_rn [(10,dB true)] [10] [.keep [10]] (by exact trivial) a w hm)
    ·have h:=cond_ff hc h
     refine T_skip fun a w hm=>then_norm (((?_:T Try.prog e 190 _ _ _) a w hm))
     refine T_seqk ?_
     refine T_r0 [] [1,2,3,4,5,11,13,109] [(109,dB (y4.2 != (0:Int)))] 2 ?_
     refine T_cd (y4.2 != (0:Int)) (fun hc=>?_) (fun hc=>?_)
     ·have h:=cond_tt hc h
      refine T_r0 [] [10] [(10,dB false)] 1 ?_
      obtain hs:=Option.some.inj h; subst hs
      refine T_ret fun a w hm=>then_ret (T_rn [(10,dB false)] [10] [.keep [10]] (by exact trivial) a w hm)
     ·have h:=cond_ff hc h
      refine T_skip fun a w hm=>then_norm (((?_:T Try.prog e 190 _ _ _) a w hm))
      refine T_seqk ?_
      refine T_rg [(2,{ rw:=some (dI (y1.f3.length:Int)) })] [1,2,3,4,5,11,13,111,112,113] [(111,.d (.sl 34 (y1.f3.map cS_Item))),(112,dI (y1.f3.length:Int)),(113,dI (0:Int))] [(2,True∧dI ((y1.f3.map cS_Item).length:Int)=dI (y1.f3.length:Int))] 1 (len_ok cS_Item) ?_
      refine T_joinEt h (fun (p:Unit)=>[(1,dI y2),(2,dI y3),(3,dI a3),(4,dI a4),(5,bx_List y1),(11,bx_List y4.1),(13,dB v6)]) (fun s h hk2=>?_) (fun s h=>?_)
      ·refine T_co [.keep [1,2,3,4,5,11,13,111,112,113]] ((fun (p:Int)=>[(1,dI y2),(2,dI y3),(3,dI a3),(4,dI a4),(5,bx_List y1),(11,bx_List y4.1),(13,dB v6),(111,.d (.sl 34 (y1.f3.map cS_Item))),(112,dI (y1.f3.length:Int)),(113,dI p)]) (0:Int)) (by show _=_; kernel_rfl) ?_
       refine T_block ?_
       refine T_loopF (ι:=Int) (fun (p:Int)=>[(1,dI y2),(2,dI y3),(3,dI a3),(4,dI a4),(5,bx_List y1),(11,bx_List y4.1),(13,dB v6),(111,.d (.sl 34 (y1.f3.map cS_Item))),(112,dI (y1.f3.length:Int)),(113,dI p)]) (fun n p=>top_TopGroups_L3 F y1 n p=some s) (fun i hh=>by simp [top_TopGroups_L3] at hh) (fun n v5 h=>?_) F (0:Int) h
       have h:top_TopGroups_L3 F y1 (n+1) v5=some s:=h
       rw [top_TopGroups_L3] at h
       refine T_r0 [] [1,2,3,4,5,11,13,111,112,113,114] [(114,dB (decide (v5 < (y1.f3.length:Int))))] 1 ?_
       refine T_seqk ?_
       refine T_cd (decide (v5 < (y1.f3.length:Int))) (fun hc=>?_) (fun hc=>?_)
       ·have h:=cond_tt hc h
        refine T_skip fun a w hm=>then_norm (((?_:T Try.prog e 190 _ _ _) a w hm))
        refine T_seqk ?_
        refine T_block ?_
        obtain ⟨hp3,h⟩:=chk_ok h
        refine T_rg [(0,{ cs:=cS_Item (y1.f3.getD v5.toNat z_Item) })] [1,2,3,4,5,11,13,18,111,112,113] [(18,.box [dI ((y1.f3.getD v5.toNat z_Item).f0),.d (.sl 3 (((y1.f3.getD v5.toNat z_Item).f1).map cS_Run)),dI (((y1.f3.getD v5.toNat z_Item).f2).f0),.d (.v (.int .u8 ((((y1.f3.getD v5.toNat z_Item).f2).f1).f0))),.d (.v (.int .u8 ((((y1.f3.getD v5.toNat z_Item).f2).f1).f1))),.d (.v (.int .u8 ((((y1.f3.getD v5.toNat z_Item).f2).f1).f2))),.d (.v (.int .u8 ((((y1.f3.getD v5.toNat z_Item).f2).f1).f3))),.d (.v (.int .u8 ((((y1.f3.getD v5.toNat z_Item).f2).f1).f4))),.d (.v (.int .u8 ((((y1.f3.getD v5.toNat z_Item).f2).f1).f5))),.d (.v (.int .u8 ((((y1.f3.getD v5.toNat z_Item).f2).f1).f6))),.d (.v (.int .u8 ((((y1.f3.getD v5.toNat z_Item).f2).f1).f7))),dI ((((y1.f3.getD v5.toNat z_Item).f2).f2).f0),dI ((((y1.f3.getD v5.toNat z_Item).f2).f2).f1),dI ((((y1.f3.getD v5.toNat z_Item).f2).f3).f0),dI ((((y1.f3.getD v5.toNat z_Item).f2).f3).f1),dI (((y1.f3.getD v5.toNat z_Item).f2).f4),.d (.sl 9 ((((y1.f3.getD v5.toNat z_Item).f2).f5).map cS_Stop)),dI ((((y1.f3.getD v5.toNat z_Item).f2).f6).f0),dI ((((y1.f3.getD v5.toNat z_Item).f2).f6).f1),.d (.sl 8 (((((y1.f3.getD v5.toNat z_Item).f2).f6).f2).map cS_Inks)),.d (.sl 1 (((((y1.f3.getD v5.toNat z_Item).f2).f6).f3).map cU)),dI (((((y1.f3.getD v5.toNat z_Item).f2).f6).f4).f0),dI (((((y1.f3.getD v5.toNat z_Item).f2).f6).f4).f1),dI (((((y1.f3.getD v5.toNat z_Item).f2).f6).f4).f2),dI (((((y1.f3.getD v5.toNat z_Item).f2).f6).f4).f3),dI (((((y1.f3.getD v5.toNat z_Item).f2).f6).f4).f4),dI (((((y1.f3.getD v5.toNat z_Item).f2).f6).f4).f5),dB ((((y1.f3.getD v5.toNat z_Item).f2).f6).f5),dB ((((y1.f3.getD v5.toNat z_Item).f2).f6).f6),.d (.v (.int .u8 ((y1.f3.getD v5.toNat z_Item).f3))),dI ((y1.f3.getD v5.toNat z_Item).f4),dB ((y1.f3.getD v5.toNat z_Item).f5),dB ((y1.f3.getD v5.toNat z_Item).f6),dB ((y1.f3.getD v5.toNat z_Item).f7)])] [(0,0≤v5∧(y1.f3.map cS_Item)[v5.toNat]? = some (cS_Item (y1.f3.getD v5.toNat z_Item)))] 3 (idx_ok (d:=z_Item) cS_Item hp3) ?_
        obtain ⟨z8,hz8,h⟩:=lett_ok h
        refine T_rg [(1,{ rw:=some (dB z8) })] [1,2,3,4,5,11,13,111,112,113,118] [(118,dB z8)] [(1,(True)∧dB ((y1.f3.getD v5.toNat z_Item).f7)=dB z8)] 0 (⟨trivial,(by subst hz8; rfl)⟩) ?_
        refine T_cd z8 (fun hc=>?_) (fun hc=>?_)
        ·have h:=cond_tt hc h
         refine T_r0 [] [10] [(10,dB true)] 1 ?_
         obtain hs:=Option.some.inj h; subst hs
         have h:=callE_esc hk2
         obtain hs:=Option.some.inj h; subst hs
         refine T_ret fun a w hm=>inBlock_ret (then_ret (then_ret (inBlock_ret (then_ret (then_ret (T_rn [(10,dB true)] [10] [.keep [10]] (by exact trivial) a w hm))))))
        ·have h:=cond_ff hc h
         refine T_skip fun a w hm=>inBlock_norm (then_norm (((?_:T Try.prog e 190 _ _ _) a w hm)))
         refine T_reg_end [] [1,2,3,4,5,11,13,111,112,113] [(113,dI (IntKind.i64.wrap (v5+(1:Int))))] [] 2 (by kernel_rfl) (trivial) fun a w hm=>then_norm (⟨IntKind.i64.wrap (v5+(1:Int)),h,hm.co (cs:=[.keep [1,2,3,4,5,11,13,111,112,113]]) (by show _=_; kernel_rfl)⟩)
       ·have h:=cond_ff hc h
        obtain hs:=Option.some.inj h; subst hs
        refine T_exit fun a w hm=>then_exit (then_exit (inBlock_exit (then_norm (⟨_,rfl,hm.co (cs:=[.keep [1,2,3,4,5,11,13]]) (by show _=_; kernel_rfl)⟩))))
      ·skip
       refine fun a w hm=>then_norm (((?_:T Try.prog e 190 _ _ _) a w hm))
       obtain ⟨y5,hy7,h⟩:=call_ok h
       refine T_rg [(4,{ res:=.tup [.agg (cS_List y5.1),dI y5.2] })] [3,4,5,11,13,19] [(19,bx_List y5.1)] [(4,ACall Try.prog 8 [.agg (cS_List y1),dI y2,dI y3,.agg (cS_Item (S_Item.mk (1:Int) [] z_Source (255:Int) 0 false true false))] [] (.tup [.agg (cS_List y5.1),dI y5.2]) [])] 6 (list_Bracket_ok hy7) ?_
       obtain ⟨y6,hy8,h⟩:=call_ok h
       obtain ⟨y7,hy9,h⟩:=call_ok h
       refine T_drawX mixed 2 (.take 0 (.take 1 (.take 2 (.take 3 (.take 4 (.take 6 (.take 7 (.all (.alt 5 (.take 8 (.take 9 (.take 10 (.all (.alt 11 (.take 12 (.take 13 .done)) .stop))))) (.alt 8 (.take 9 (.take 10 (.all (.alt 5 (.all (.alt 11 (.take 12 (.take 13 .done)) .stop)) .stop)))) .stop)))))))))) ([0,0,2,4,8,17,0,0,128,256,512,1120,2111,8191],[0,0,2,4,8,17,0,0,128,256,512,1088,33,2112]) 14303 [(5,{ res:=dI y6 }),(11,{ res:=dI y7 })] [3,4,5,11,13,19] [] [(3,dI y6),(4,dI y7),(5,bx_List y1),(11,bx_List y4.1),(13,dB v6),(19,bx_List y5.1)] ((fun (o5:Prop)=>fun (o11:Prop)=>[(7,o5),(3,o11),(5,o5),(0,o11)]) (ACall Try.prog 7 [dI a3,dI (0:Int),dI (IntKind.i64.wrap ((IntKind.i64.wrap ((16:Int) * y1.f0)) - (1:Int)))] [] (dI y6) []) (ACall Try.prog 7 [dI a4,dI (0:Int),dI (IntKind.i64.wrap ((IntKind.i64.wrap ((16:Int) * y1.f1)) - (1:Int)))] [] (dI y7) [])) 2 (by kernel_rfl) (by kernel_rfl) (by kernel_rfl) (have p5:=top_aCut_ok hy8; have p11:=top_aCut_ok hy9; ⟨p5,p11,p5,p11⟩) ?_
       refine T_seqk ?_
       refine T_r0 [] [3,4,5,11,13,19,140] [(140,dI (0:Int))] 1 ?_
       refine T_joinEt h (fun (p:Unit)=>[]) (fun s h hk3=>?_) (fun s h=>?_)
       ·refine T_co [.keep [3,4,5,11,13,19,140]] ((fun (p:Int)=>[(3,dI y6),(4,dI y7),(5,bx_List y1),(11,bx_List y4.1),(13,dB v6),(19,bx_List y5.1),(140,dI p)]) (0:Int)) (by show _=_; kernel_rfl) ?_
        refine T_block ?_
        refine T_loopF (ι:=Int) (fun (p:Int)=>[(3,dI y6),(4,dI y7),(5,bx_List y1),(11,bx_List y4.1),(13,dB v6),(19,bx_List y5.1),(140,dI p)]) (fun n p=>top_TopGroups_L5 F y1 y4 v6 y5 y6 y7 n p=some s) (fun i hh=>by simp [top_TopGroups_L5] at hh) (fun n v7 h=>?_) F (0:Int) h
        have h:top_TopGroups_L5 F y1 y4 v6 y5 y6 y7 (n+1) v7=some s:=h
        rw [top_TopGroups_L5] at h
        refine T_r0 [] [3,4,5,11,13,19,140,141] [(141,dB (decide (v7 < (16:Int))))] 1 ?_
        refine T_seqk ?_
        refine T_cd (decide (v7 < (16:Int))) (fun hc=>?_) (fun hc=>?_)
        ·have h:=cond_tt hc h
         refine T_skip fun a w hm=>then_norm (((?_:T Try.prog e 190 _ _ _) a w hm))
         refine T_seqk ?_
         refine T_block ?_
         refine T_r0 [] [3,4,5,11,13,19,21,140] [(21,dI v7)] 2 ?_
         obtain ⟨hp4,h⟩:=chk_ok h
         obtain ⟨z9,hz9,h⟩:=lett_ok h
         obtain ⟨hp5,h⟩:=chk_ok h
         obtain ⟨z10,hz10,h⟩:=lett_ok h
         refine T_draw mixed [(7,{ rw:=some (dI z9) }),(15,{ rw:=some (dI z10) })] [3,4,5,11,13,19,22,23,140] [] [(3,dI y6),(4,dI y7),(5,bx_List y1),(11,bx_List y4.1),(13,dB v6),(19,bx_List y5.1),(22,dI z9),(23,dI z10),(140,dI v7)] [(7,((IntKind.i64.wrap ((16:Int) * y1.f0))≠0)∧dI ((IntKind.i64.wrap (y6+(IntKind.i64.wrap ((5:Int) * v7)))).tmod (IntKind.i64.wrap ((16:Int) * y1.f0)))=dI z9),(7,((IntKind.i64.wrap ((16:Int) * y1.f1))≠0)∧dI ((IntKind.i64.wrap (y7+(IntKind.i64.wrap ((3:Int) * v7)))).tmod (IntKind.i64.wrap ((16:Int) * y1.f1)))=dI z10)] 2 (by kernel_rfl) (⟨⟨hp4,(by subst hz9; rfl)⟩,⟨hp5,(by subst hz10; rfl)⟩⟩) ?_
         obtain ⟨y8,hy10,h⟩:=call_ok h
         refine T_rg [(3,{ res:=.tup [.agg (cS_Inks y8.1),dI y8.2] })] [3,4,5,11,13,19,22,23,24,140] [(24,bx_Inks y8.1)] [(3,ACall Try.prog 9 [.agg (cS_List y1),dI z9,dI z10] [] (.tup [.agg (cS_Inks y8.1),dI y8.2]) [])] 6 (list_At_ok hy10) ?_
         obtain ⟨y9,hy11,h⟩:=call_ok h
         refine T_rg [(3,{ res:=.tup [.agg (cS_Inks y9.1),dI y9.2] })] [3,4,5,11,13,19,22,23,24,26,140] [(26,bx_Inks y9.1)] [(3,ACall Try.prog 9 [.agg (cS_List y4.1),dI z9,dI z10] [] (.tup [.agg (cS_Inks y9.1),dI y9.2]) [])] 6 (list_At_ok hy11) ?_
         refine T_seqk ?_
         obtain ⟨z11,hz11,h⟩:=lett_ok h
         refine T_rg [(2,{ rw:=some (dB z11) })] [3,4,5,11,13,19,22,23,24,140,175] [(175,dB z11)] [(2,(True)∧dB (!(y8.1.f0 == y9.1.f0 && (y8.1.f1 == y9.1.f1 && (y8.1.f2 == y9.1.f2 && (y8.1.f3 == y9.1.f3 && (y8.1.f4 == y9.1.f4 && (y8.1.f5 == y9.1.f5 && (y8.1.f6 == y9.1.f6 && (y8.1.f7 == y9.1.f7 && true)))))))))=dB z11)] 0 (⟨trivial,(by subst hz11; rfl)⟩) ?_
         refine T_cd z11 (fun hc=>?_) (fun hc=>?_)
         ·have h:=cond_tt hc h
          refine T_r0 [] [10] [(10,dB false)] 1 ?_
          obtain hs:=Option.some.inj h; subst hs
          have h:=callE_esc hk3
          obtain hs:=Option.some.inj h; subst hs
          refine T_ret fun a w hm=>then_ret (inBlock_ret (then_ret (then_ret (inBlock_ret (then_ret (then_ret (T_rn [(10,dB false)] [10] [.keep [10]] (by exact trivial) a w hm)))))))
         ·have h:=cond_ff hc h
          refine T_skip fun a w hm=>then_norm (((?_:T Try.prog e 190 _ _ _) a w hm))
          obtain ⟨y10,hy12,h⟩:=call_ok h
          refine T_rg [(3,{ res:=.tup [.agg (cS_Inks y10.1),dI y10.2] })] [3,4,5,11,13,19,24,28,140] [(28,bx_Inks y10.1)] [(3,ACall Try.prog 9 [.agg (cS_List y5.1),dI z9,dI z10] [] (.tup [.agg (cS_Inks y10.1),dI y10.2]) [])] 6 (list_At_ok hy12) ?_
          obtain ⟨z12,hz12,h⟩:=lett_ok h
          refine T_rg [(4,{ rw:=some (dB z12) })] [3,4,5,11,13,19,140,188] [(188,dB (bif v6 then z12 else false))] [(2,(((v6 == true) && true)=true→True)),(0,(((v6 == true) && true)=true→True)),(0,(((v6 == true) && true)=true→(True)∧dB (!(y10.1.f0 == y8.1.f0 && (y10.1.f1 == y8.1.f1 && (y10.1.f2 == y8.1.f2 && (y10.1.f3 == y8.1.f3 && (y10.1.f4 == y8.1.f4 && (y10.1.f5 == y8.1.f5 && (y10.1.f6 == y8.1.f6 && (y10.1.f7 == y8.1.f7 && true)))))))))=dB z12))] 1 (⟨tr,tr,(fun hg=>⟨trivial,(by subst hz12; rfl)⟩)⟩) ?_
          refine T_cd (bif v6 then z12 else false) (fun hc=>?_) (fun hc=>?_)
          ·have h:=cond_tt hc h
           refine T_r0 [] [10] [(10,dB false)] 1 ?_
           obtain hs:=Option.some.inj h; subst hs
           have h:=callE_esc hk3
           obtain hs:=Option.some.inj h; subst hs
           refine T_ret fun a w hm=>inBlock_ret (then_ret (then_ret (inBlock_ret (then_ret (then_ret (T_rn [(10,dB false)] [10] [.keep [10]] (by exact trivial) a w hm))))))
          ·have h:=cond_ff hc h
           refine T_skip fun a w hm=>inBlock_norm (then_norm (((?_:T Try.prog e 190 _ _ _) a w hm)))
           refine T_reg_end [] [3,4,5,11,13,19,140] [(140,dI (IntKind.i64.wrap (v7+(1:Int))))] [] 2 (by kernel_rfl) (trivial) fun a w hm=>then_norm (⟨IntKind.i64.wrap (v7+(1:Int)),h,hm.co (cs:=[.keep [3,4,5,11,13,19,140]]) (by show _=_; kernel_rfl)⟩)
        ·have h:=cond_ff hc h
         obtain hs:=Option.some.inj h; subst hs
         refine T_exit fun a w hm=>then_exit (then_exit (inBlock_exit (then_norm (⟨_,rfl,hm.co (cs:=[.keep []]) (by show _=_; kernel_rfl)⟩))))
       ·skip
        refine fun a w hm=>then_norm (((?_:T Try.prog e 190 _ _ _) a w hm))
        refine T_r0 [] [10] [(10,dB true)] 1 ?_
        obtain hs:=Option.some.inj h; subst hs
        refine T_ret fun a w hm=>T_rn [(10,dB true)] [10] [.keep [10]] (by exact trivial) a w hm
end Go.Vm.TopG
