import Derived.Test.YtkoocklcgndanaaDoorProg
import Derived.Test.YtkoocklcgndanaaDoorSubF
import Derived.Test.YtkoocklcgndanaaDoorSubB
namespace Go.Vm.SubG
open Go.Proofs
set_option maxRecDepth 20000
theorem mixed:Tryd.prog.follows .mixedOrders=true:=by kernel_rfl
theorem law3_smallFont_ok {F:Nat}  {r:S_Font} (h:law3_smallFont F  = some r):ACall Tryd.prog 11 [] [] (.agg (cS_Font r)) []:=by
 rw [law3_smallFont] at h
 refine ACall.intro (N:=19) Tryd.func11 rfl rfl rfl rfl rfl fun e=>?_
 refine T_reg [] [0] [(0,.box [.d (.v (.int .i64 0)),.own 55 3 ([].map cS_FontGlyph),.own 65 3 ([].map cS_FontRange),.own 67 3 ([].map cS_FontPair)])] [] 1 (by kernel_rfl) (trivial) ?_
 refine T_reg [(3,{ es:=some (([(S_FontPoint.mk 0 0 true),(S_FontPoint.mk (8:Int) 0 true),(S_FontPoint.mk (8:Int) (8:Int) false)]).map cS_FontPoint) })] [0,1] [(1,.own 50 3 (([(S_FontPoint.mk 0 0 true),(S_FontPoint.mk (8:Int) 0 true),(S_FontPoint.mk (8:Int) (8:Int) false)]).map cS_FontPoint))] [(3,(([(S_FontPoint.mk 0 0 true),(S_FontPoint.mk (8:Int) 0 true),(S_FontPoint.mk (8:Int) (8:Int) false)]).map cS_FontPoint)=(([(S_FontPoint.mk 0 0 true),(S_FontPoint.mk (8:Int) 0 true),(S_FontPoint.mk (8:Int) (8:Int) false)]).map cS_FontPoint))] 1 (by kernel_rfl) (rfl) ?_
 refine T_reg [(2,{ frz:=[(1,0)],es:=some (([[(S_FontPoint.mk 0 0 true),(S_FontPoint.mk (8:Int) 0 true),(S_FontPoint.mk (8:Int) (8:Int) false)]]).map (cL 3 cS_FontPoint)) }),(3,{ frz:=[(8,0)] }),(5,{ es:=some (([(S_FontPart.mk (1:Int) (5:Int) 0)]).map cS_FontPart) }),(6,{ frz:=[(11,0)] }),(7,{ es:=some (([(S_FontGlyph.mk (4:Int) [] []),(S_FontGlyph.mk (10:Int) ([[(S_FontPoint.mk 0 0 true),(S_FontPoint.mk (8:Int) 0 true),(S_FontPoint.mk (8:Int) (8:Int) false)]]) []),(S_FontGlyph.mk (6:Int) [] ([(S_FontPart.mk (1:Int) (5:Int) 0)]))]).map cS_FontGlyph) }),(9,{ es:=some (([(S_FontRange.mk (97:Int) (98:Int) (1:Int))]).map cS_FontRange) }),(11,{ es:=some (([(S_FontPair.mk (1:Int) (2:Int) (-2:Int))]).map cS_FontPair) }),(12,{ frz:=[(13,0),(15,0),(17,0)] })] [0] [(0,.box [.d (.v (.int .i64 (16:Int))),.d (.sl 3 (([(S_FontGlyph.mk (4:Int) [] []),(S_FontGlyph.mk (10:Int) ([[(S_FontPoint.mk 0 0 true),(S_FontPoint.mk (8:Int) 0 true),(S_FontPoint.mk (8:Int) (8:Int) false)]]) []),(S_FontGlyph.mk (6:Int) [] ([(S_FontPart.mk (1:Int) (5:Int) 0)]))]).map cS_FontGlyph)),.d (.sl 3 (([(S_FontRange.mk (97:Int) (98:Int) (1:Int))]).map cS_FontRange)),.d (.sl 3 (([(S_FontPair.mk (1:Int) (2:Int) (-2:Int))]).map cS_FontPair))])] [(2,(([[(S_FontPoint.mk 0 0 true),(S_FontPoint.mk (8:Int) 0 true),(S_FontPoint.mk (8:Int) (8:Int) false)]]).map (cL 3 cS_FontPoint))=(([[(S_FontPoint.mk 0 0 true),(S_FontPoint.mk (8:Int) 0 true),(S_FontPoint.mk (8:Int) (8:Int) false)]]).map (cL 3 cS_FontPoint))),(2,(([(S_FontPart.mk (1:Int) (5:Int) 0)]).map cS_FontPart)=(([(S_FontPart.mk (1:Int) (5:Int) 0)]).map cS_FontPart)),(1,(([(S_FontGlyph.mk (4:Int) [] []),(S_FontGlyph.mk (10:Int) ([[(S_FontPoint.mk 0 0 true),(S_FontPoint.mk (8:Int) 0 true),(S_FontPoint.mk (8:Int) (8:Int) false)]]) []),(S_FontGlyph.mk (6:Int) [] ([(S_FontPart.mk (1:Int) (5:Int) 0)]))]).map cS_FontGlyph)=(([(S_FontGlyph.mk (4:Int) [] []),(S_FontGlyph.mk (10:Int) ([[(S_FontPoint.mk 0 0 true),(S_FontPoint.mk (8:Int) 0 true),(S_FontPoint.mk (8:Int) (8:Int) false)]]) []),(S_FontGlyph.mk (6:Int) [] ([(S_FontPart.mk (1:Int) (5:Int) 0)]))]).map cS_FontGlyph)),(1,(([(S_FontRange.mk (97:Int) (98:Int) (1:Int))]).map cS_FontRange)=(([(S_FontRange.mk (97:Int) (98:Int) (1:Int))]).map cS_FontRange)),(1,(([(S_FontPair.mk (1:Int) (2:Int) (-2:Int))]).map cS_FontPair)=(([(S_FontPair.mk (1:Int) (2:Int) (-2:Int))]).map cS_FontPair))] 2 (by kernel_rfl) (⟨rfl,rfl,rfl,rfl,rfl⟩) ?_
 obtain hs:=Option.some.inj h; subst hs
 refine T_ret fun a w hm=>T_returnC (fr':=[(0,.box [.d (.v (.int .i64 (16:Int))),.d (.sl 3 (([(S_FontGlyph.mk (4:Int) [] []),(S_FontGlyph.mk (10:Int) ([[(S_FontPoint.mk 0 0 true),(S_FontPoint.mk (8:Int) 0 true),(S_FontPoint.mk (8:Int) (8:Int) false)]]) []),(S_FontGlyph.mk (6:Int) [] ([(S_FontPart.mk (1:Int) (5:Int) 0)]))]).map cS_FontGlyph)),.d (.sl 3 (([(S_FontRange.mk (97:Int) (98:Int) (1:Int))]).map cS_FontRange)),.d (.sl 3 (([(S_FontPair.mk (1:Int) (2:Int) (-2:Int))]).map cS_FontPair))])]) (ts:=[19]) (N':=20) (fr2:=[(19,.agg (cS_Font (S_Font.mk (16:Int) ([(S_FontGlyph.mk (4:Int) [] []),(S_FontGlyph.mk (10:Int) ([[(S_FontPoint.mk 0 0 true),(S_FontPoint.mk (8:Int) 0 true),(S_FontPoint.mk (8:Int) (8:Int) false)]]) []),(S_FontGlyph.mk (6:Int) [] ([(S_FontPart.mk (1:Int) (5:Int) 0)]))]) ([(S_FontRange.mk (97:Int) (98:Int) (1:Int))]) ([(S_FontPair.mk (1:Int) (2:Int) (-2:Int))]))))]++[(0,.box [.d (.v (.int .i64 (16:Int))),.d (.sl 3 (([(S_FontGlyph.mk (4:Int) [] []),(S_FontGlyph.mk (10:Int) ([[(S_FontPoint.mk 0 0 true),(S_FontPoint.mk (8:Int) 0 true),(S_FontPoint.mk (8:Int) (8:Int) false)]]) []),(S_FontGlyph.mk (6:Int) [] ([(S_FontPart.mk (1:Int) (5:Int) 0)]))]).map cS_FontGlyph)),.d (.sl 3 (([(S_FontRange.mk (97:Int) (98:Int) (1:Int))]).map cS_FontRange)),.d (.sl 3 (([(S_FontPair.mk (1:Int) (2:Int) (-2:Int))]).map cS_FontPair))])]) [.keep [0]] (by kernel_rfl) (by kernel_rfl) (by kernel_rfl) (by kernel_rfl) (by show _=_; kernel_rfl) (by exact trivial) a w hm
theorem font_far_ok {F:Nat} {a0:Int} {a1:Int} {r:Bool} (h:font_far F a0 a1=some r):ACall Tryd.prog 46 [.d (.v (.int .i64 a0)),.d (.v (.int .i64 a1))] [] (.d (.v (.bool r))) []:=by
 rw [font_far] at h
 refine ACall.intro (N:=14) Tryd.func46 rfl rfl rfl rfl rfl fun e=>?_
 refine T_reg [] [0,1] [] [] 1 (by kernel_rfl) (trivial) ?_
 refine T_reg [] [4] [(4,.d (.v (.bool (bif (decide (a0 < (IntKind.i64.wrap (0 - a1)))) then true else (decide (a0 > a1))))))] [(5,((((decide (a0 < (IntKind.i64.wrap (0 - a1)))) == false) && true)=true→True)),(0,((((decide (a0 < (IntKind.i64.wrap (0 - a1)))) == false) && true)=true→True)),(0,((((decide (a0 < (IntKind.i64.wrap (0 - a1)))) == false) && true)=true→True))] 2 (by kernel_rfl) (⟨(fun hg=>trivial),(fun hg=>trivial),(fun hg=>trivial)⟩) ?_
 obtain hs:=Option.some.inj h; subst hs
 refine T_ret fun a w hm=>T_return (fr':=[(4,.d (.v (.bool (bif (decide (a0 < (IntKind.i64.wrap (0 - a1)))) then true else (decide (a0 > a1))))))]) [4] (by kernel_rfl) [.keep [4]] (by kernel_rfl) (by kernel_rfl) (by kernel_rfl) (by show _=_; kernel_rfl) (by exact trivial) a w hm
theorem font_contour_ok {F:Nat} {a0:List S_FontPoint} {r:Int} (h:font_contour F a0=some r):ACall Tryd.prog 45 [.d (.sl 3 (a0.map cS_FontPoint))] [] (.d (.v (.int .i64 r))) []:=by
 rw [font_contour] at h
 refine ACall.intro (N:=50) Tryd.func45 rfl rfl rfl rfl rfl fun e=>?_
 refine T_reg [] [0] [] [] 1 (by kernel_rfl) (trivial) ?_
 refine T_seqk ?_
 obtain ⟨hp1,h⟩:=chk_ok h
 obtain ⟨z3,hz1,h⟩:=lett_ok h
 refine T_reg [(1,{ rw:=some (.d (.v (.int .i64 (a0.length:Int)))) }),(5,{ cs:=cS_FontPoint (a0.getD (0:Int).toNat (S_FontPoint.mk 0 0 false)) }),(9,{ rw:=some (.d (.v (.bool z3))) })] [0,14] [(14,.d (.v (.bool z3)))] [(1,True∧AV.d (.v (.int .i64 ((a0.map cS_FontPoint).length:Int)))=.d (.v (.int .i64 (a0.length:Int)))),(2,((((decide ((a0.length:Int) < (3:Int))) == false) && true)=true→True)),(0,((((decide ((a0.length:Int) < (3:Int))) == false) && true)=true→0≤(0:Int)∧(a0.map cS_FontPoint)[(0:Int).toNat]? = some (cS_FontPoint (a0.getD (0:Int).toNat (S_FontPoint.mk 0 0 false))))),(0,((((decide ((a0.length:Int) < (3:Int))) == false) && true)=true→True)),(0,((((decide ((a0.length:Int) < (3:Int))) == false) && true)=true→True)),(0,((((decide ((a0.length:Int) < (3:Int))) == false) && true)=true→True)),(0,(True)∧AV.d (.v (.bool (bif (decide ((a0.length:Int) < (3:Int))) then true else (!((a0.getD (0:Int).toNat (S_FontPoint.mk 0 0 false)).f2)))))=.d (.v (.bool z3)))] 0 (by kernel_rfl) (⟨len_ok cS_FontPoint,(fun hg=>trivial),(fun hg=>idx_ok (d:=(S_FontPoint.mk 0 0 false)) cS_FontPoint (hp1 hg)),(fun hg=>trivial),(fun hg=>trivial),(fun hg=>trivial),⟨trivial,(by subst hz1; rfl)⟩⟩) ?_
 refine T_cond z3 (by kernel_rfl) (fun hc=>?_) (fun hc=>?_)
 ·have h:=cond_tt hc h
  refine T_reg [] [2] [(2,.d (.v (.int .i64 (4:Int))))] [] 1 (by kernel_rfl) (trivial) ?_
  obtain hs:=Option.some.inj h; subst hs
  refine T_ret fun a w hm=>then_ret (T_return (fr':=[(2,.d (.v (.int .i64 (4:Int))))]) [2] (by kernel_rfl) [.keep [2]] (by kernel_rfl) (by kernel_rfl) (by kernel_rfl) (by show _=_; kernel_rfl) (by exact trivial) a w hm)
 ·have h:=cond_ff hc h
  refine T_skip fun a w hm=>then_norm (((?_:T Tryd.prog e 50 _ _ _) a w hm))
  refine T_seqk ?_
  refine T_reg [(1,{ rw:=some (.d (.v (.int .i64 (a0.length:Int)))) })] [0,17] [(17,.d (.v (.bool (decide ((a0.length:Int) > (32:Int))))))] [(1,True∧AV.d (.v (.int .i64 ((a0.map cS_FontPoint).length:Int)))=.d (.v (.int .i64 (a0.length:Int))))] 1 (by kernel_rfl) (len_ok cS_FontPoint) ?_
  refine T_cond (decide ((a0.length:Int) > (32:Int))) (by kernel_rfl) (fun hc=>?_) (fun hc=>?_)
  ·have h:=cond_tt hc h
   refine T_reg [] [2] [(2,.d (.v (.int .i64 (2:Int))))] [] 1 (by kernel_rfl) (trivial) ?_
   obtain hs:=Option.some.inj h; subst hs
   refine T_ret fun a w hm=>then_ret (T_return (fr':=[(2,.d (.v (.int .i64 (2:Int))))]) [2] (by kernel_rfl) [.keep [2]] (by kernel_rfl) (by kernel_rfl) (by kernel_rfl) (by show _=_; kernel_rfl) (by exact trivial) a w hm)
  ·have h:=cond_ff hc h
   refine T_skip fun a w hm=>then_norm (((?_:T Tryd.prog e 50 _ _ _) a w hm))
   refine T_seqk ?_
   refine T_reg [(1,{ rw:=some (.d (.v (.int .i64 (a0.length:Int)))) })] [0,18,19,20] [(18,.d (.sl 3 (a0.map cS_FontPoint))),(19,.d (.v (.int .i64 (a0.length:Int)))),(20,.d (.v (.int .i64 (0:Int))))] [(1,True∧AV.d (.v (.int .i64 ((a0.map cS_FontPoint).length:Int)))=.d (.v (.int .i64 (a0.length:Int))))] 1 (by kernel_rfl) (len_ok cS_FontPoint) ?_
   refine T_joinEt h (fun (p:Unit)=>[]) (fun s h hk1=>?_) (fun s h=>?_)
   ·refine T_co [.keep [0,18,19,20]] ((fun (p:Int)=>[(0,.d (.sl 3 (a0.map cS_FontPoint))),(18,.d (.sl 3 (a0.map cS_FontPoint))),(19,.d (.v (.int .i64 (a0.length:Int)))),(20,.d (.v (.int .i64 p)))]) (0:Int)) (by show _=_; kernel_rfl) ?_
    refine T_block ?_
    refine T_loopF (ι:=Int) (fun (p:Int)=>[(0,.d (.sl 3 (a0.map cS_FontPoint))),(18,.d (.sl 3 (a0.map cS_FontPoint))),(19,.d (.v (.int .i64 (a0.length:Int)))),(20,.d (.v (.int .i64 p)))]) (fun n p=>font_contour_L0 F a0 n p=some s) (fun i hh=>by simp [font_contour_L0] at hh) (fun n v1 h=>?_) F (0:Int) h
    have h:font_contour_L0 F a0 (n+1) v1=some s:=h
    rw [font_contour_L0] at h
    refine T_reg [] [0,18,19,20,21] [(21,.d (.v (.bool (decide (v1 < (a0.length:Int))))))] [] 1 (by kernel_rfl) (trivial) ?_
    refine T_seqk ?_
    refine T_cond (decide (v1 < (a0.length:Int))) (by kernel_rfl) (fun hc=>?_) (fun hc=>?_)
    ·have h:=cond_tt hc h
     refine T_skip fun a w hm=>then_norm (((?_:T Tryd.prog e 50 _ _ _) a w hm))
     refine T_seqk ?_
     refine T_block ?_
     obtain ⟨hp2,h⟩:=chk_ok h
     refine T_reg [(1,{ cs:=cS_FontPoint (a0.getD v1.toNat (S_FontPoint.mk 0 0 false)) })] [0,3,4,18,19,20] [(3,.d (.v (.int .i64 v1))),(4,.box [.d (.v (.int .i64 ((a0.getD v1.toNat (S_FontPoint.mk 0 0 false)).f0))),.d (.v (.int .i64 ((a0.getD v1.toNat (S_FontPoint.mk 0 0 false)).f1))),.d (.v (.bool ((a0.getD v1.toNat (S_FontPoint.mk 0 0 false)).f2)))])] [(1,0≤v1∧(a0.map cS_FontPoint)[v1.toNat]? = some (cS_FontPoint (a0.getD v1.toNat (S_FontPoint.mk 0 0 false))))] 4 (by kernel_rfl) (idx_ok (d:=(S_FontPoint.mk 0 0 false)) cS_FontPoint hp2) ?_
     refine T_seqk ?_
     obtain ⟨y1,hy1,h⟩:=call_ok h
     obtain ⟨y2,hy2,h⟩:=call_ok h
     refine T_reg [(2,{ res:=.d (.v (.bool y1)) }),(6,{ res:=.d (.v (.bool y2)) })] [0,3,4,18,19,20,32] [(32,.d (.v (.bool (bif y1 then true else y2))))] [(2,ACall Tryd.prog 46 [.d (.v (.int .i64 ((a0.getD v1.toNat (S_FontPoint.mk 0 0 false)).f0))),.d (.v (.int .i64 (2047:Int)))] [] (.d (.v (.bool y1))) []),(1,(((y1 == false) && true)=true→True)),(0,(((y1 == false) && true)=true→True)),(0,(((y1 == false) && true)=true→ACall Tryd.prog 46 [.d (.v (.int .i64 ((a0.getD v1.toNat (S_FontPoint.mk 0 0 false)).f1))),.d (.v (.int .i64 (2047:Int)))] [] (.d (.v (.bool y2))) []))] 1 (by kernel_rfl) (⟨font_far_ok hy1,(fun hg=>trivial),(fun hg=>trivial),(fun hg=>font_far_ok (gcall_ok hg hy2))⟩) ?_
     refine T_cond (bif y1 then true else y2) (by kernel_rfl) (fun hc=>?_) (fun hc=>?_)
     ·have h:=cond_tt hc h
      refine T_reg [] [2] [(2,.d (.v (.int .i64 (3:Int))))] [] 1 (by kernel_rfl) (trivial) ?_
      obtain hs:=Option.some.inj h; subst hs
      have h:=callE_esc hk1
      obtain hs:=Option.some.inj h; subst hs
      refine T_ret fun a w hm=>then_ret (inBlock_ret (then_ret (then_ret (inBlock_ret (then_ret (then_ret (T_return (fr':=[(2,.d (.v (.int .i64 (3:Int))))]) [2] (by kernel_rfl) [.keep [2]] (by kernel_rfl) (by kernel_rfl) (by kernel_rfl) (by show _=_; kernel_rfl) (by exact trivial) a w hm)))))))
     ·have h:=cond_ff hc h
      refine T_skip fun a w hm=>then_norm (((?_:T Tryd.prog e 50 _ _ _) a w hm))
      obtain ⟨z1,hz2,h⟩:=lett_ok h
      obtain ⟨hp3,h⟩:=chk_ok h
      obtain ⟨z2,hz3,h⟩:=lett_ok h
      refine T_reg [(6,{ rw:=some (.d (.v (.bool z1))) }),(11,{ cs:=cS_FontPoint (a0.getD (IntKind.i64.wrap (v1 - (1:Int))).toNat (S_FontPoint.mk 0 0 false)) }),(15,{ rw:=some (.d (.v (.bool z2))) })] [0,18,19,20,48] [(48,.d (.v (.bool z2)))] [(3,((((decide (v1 > (0:Int))) == true) && true)=true→True)),(0,((((decide (v1 > (0:Int))) == true) && true)=true→True)),(0,((((decide (v1 > (0:Int))) == true) && true)=true→True)),(0,(True)∧AV.d (.v (.bool (bif (decide (v1 > (0:Int))) then (!((a0.getD v1.toNat (S_FontPoint.mk 0 0 false)).f2)) else false)))=.d (.v (.bool z1))),(1,(((z1 == true) && true)=true→True)),(0,(((z1 == true) && true)=true→True)),(0,(((z1 == true) && true)=true→True)),(0,(((z1 == true) && true)=true→0≤(IntKind.i64.wrap (v1 - (1:Int)))∧(a0.map cS_FontPoint)[(IntKind.i64.wrap (v1 - (1:Int))).toNat]? = some (cS_FontPoint (a0.getD (IntKind.i64.wrap (v1 - (1:Int))).toNat (S_FontPoint.mk 0 0 false))))),(0,(((z1 == true) && true)=true→True)),(0,(((z1 == true) && true)=true→True)),(0,(((z1 == true) && true)=true→True)),(0,(True)∧AV.d (.v (.bool (bif z1 then (!((a0.getD (IntKind.i64.wrap (v1 - (1:Int))).toNat (S_FontPoint.mk 0 0 false)).f2)) else false)))=.d (.v (.bool z2)))] 0 (by kernel_rfl) (⟨(fun hg=>trivial),(fun hg=>trivial),(fun hg=>trivial),⟨trivial,(by subst hz2; rfl)⟩,(fun hg=>trivial),(fun hg=>trivial),(fun hg=>trivial),(fun hg=>idx_ok (d:=(S_FontPoint.mk 0 0 false)) cS_FontPoint (hp3 hg)),(fun hg=>trivial),(fun hg=>trivial),(fun hg=>trivial),⟨trivial,(by subst hz3; rfl)⟩⟩) ?_
      refine T_cond z2 (by kernel_rfl) (fun hc=>?_) (fun hc=>?_)
      ·have h:=cond_tt hc h
       refine T_reg [] [2] [(2,.d (.v (.int .i64 (4:Int))))] [] 1 (by kernel_rfl) (trivial) ?_
       obtain hs:=Option.some.inj h; subst hs
       have h:=callE_esc hk1
       obtain hs:=Option.some.inj h; subst hs
       refine T_ret fun a w hm=>inBlock_ret (then_ret (then_ret (inBlock_ret (then_ret (then_ret (T_return (fr':=[(2,.d (.v (.int .i64 (4:Int))))]) [2] (by kernel_rfl) [.keep [2]] (by kernel_rfl) (by kernel_rfl) (by kernel_rfl) (by show _=_; kernel_rfl) (by exact trivial) a w hm))))))
      ·have h:=cond_ff hc h
       refine T_skip fun a w hm=>inBlock_norm (then_norm (((?_:T Tryd.prog e 50 _ _ _) a w hm)))
       refine T_reg_end [] [0,18,19,20] [(20,.d (.v (.int .i64 (IntKind.i64.wrap (v1+(1:Int))))))] [] 2 (by kernel_rfl) (trivial) fun a w hm=>then_norm (⟨IntKind.i64.wrap (v1+(1:Int)),h,hm.co (cs:=[.keep [0,18,19,20]]) (by show _=_; kernel_rfl)⟩)
    ·have h:=cond_ff hc h
     obtain hs:=Option.some.inj h; subst hs
     refine T_exit fun a w hm=>then_exit (then_exit (inBlock_exit (then_norm (⟨_,rfl,hm.co (cs:=[.keep []]) (by show _=_; kernel_rfl)⟩))))
   ·skip
    refine fun a w hm=>then_norm (((?_:T Tryd.prog e 50 _ _ _) a w hm))
    refine T_reg [] [2] [(2,.d (.v (.int .i64 (0:Int))))] [] 1 (by kernel_rfl) (trivial) ?_
    obtain hs:=Option.some.inj h; subst hs
    refine T_ret fun a w hm=>T_return (fr':=[(2,.d (.v (.int .i64 (0:Int))))]) [2] (by kernel_rfl) [.keep [2]] (by kernel_rfl) (by kernel_rfl) (by kernel_rfl) (by show _=_; kernel_rfl) (by exact trivial) a w hm
theorem font_glyph_ok {F:Nat} {a0:S_FontGlyph} {a1:Int} {r:Int} (h:font_glyph F a0 a1=some r):ACall Tryd.prog 29 [.agg (cS_FontGlyph a0),.d (.v (.int .i64 a1))] [] (.d (.v (.int .i64 r))) []:=by
 rw [font_glyph] at h
 refine ACall.intro (N:=79) Tryd.func29 rfl rfl rfl rfl rfl fun e=>?_
 refine T_reg [] [1,2] [(2,.box [.d (.v (.int .i64 a0.f0)),.d (.sl 1 (a0.f1.map (cL 3 cS_FontPoint))),.d (.sl 3 (a0.f2.map cS_FontPart))])] [] 2 (by kernel_rfl) (trivial) ?_
 refine T_seqk ?_
 refine T_block ?_
 refine T_reg [] [1,2,10] [(10,.d (.v (.bool (bif (decide (a0.f0 < (0:Int))) then true else (decide (a0.f0 > (2047:Int)))))))] [(4,((((decide (a0.f0 < (0:Int))) == false) && true)=true→True)),(0,((((decide (a0.f0 < (0:Int))) == false) && true)=true→True)),(0,((((decide (a0.f0 < (0:Int))) == false) && true)=true→True))] 2 (by kernel_rfl) (⟨(fun hg=>trivial),(fun hg=>trivial),(fun hg=>trivial)⟩) ?_
 refine T_cond (bif (decide (a0.f0 < (0:Int))) then true else (decide (a0.f0 > (2047:Int)))) (by kernel_rfl) (fun hc=>?_) (fun hc=>?_)
 ·have h:=cond_tt hc h
  refine T_reg [] [4] [(4,.d (.v (.int .i64 (3:Int))))] [] 1 (by kernel_rfl) (trivial) ?_
  obtain hs:=Option.some.inj h; subst hs
  refine T_ret fun a w hm=>inBlock_ret (then_ret (T_return (fr':=[(4,.d (.v (.int .i64 (3:Int))))]) [4] (by kernel_rfl) [.keep [4]] (by kernel_rfl) (by kernel_rfl) (by kernel_rfl) (by show _=_; kernel_rfl) (by exact trivial) a w hm))
 ·have h:=cond_ff hc h
  obtain ⟨z2,hz1,h⟩:=lett_ok h
  refine T_reg [(2,{ rw:=some (.d (.v (.int .i64 (a0.f1.length:Int)))) }),(7,{ rw:=some (.d (.v (.int .i64 (a0.f2.length:Int)))) }),(9,{ rw:=some (.d (.v (.bool z2))) })] [1,2,19] [(19,.d (.v (.bool z2)))] [(2,True∧AV.d (.v (.int .i64 ((a0.f1.map (cL 3 cS_FontPoint)).length:Int)))=.d (.v (.int .i64 (a0.f1.length:Int)))),(2,((((decide ((a0.f1.length:Int) > (0:Int))) == true) && true)=true→True)),(0,((((decide ((a0.f1.length:Int) > (0:Int))) == true) && true)=true→True)),(0,((((decide ((a0.f1.length:Int) > (0:Int))) == true) && true)=true→True∧AV.d (.v (.int .i64 ((a0.f2.map cS_FontPart).length:Int)))=.d (.v (.int .i64 (a0.f2.length:Int))))),(0,((((decide ((a0.f1.length:Int) > (0:Int))) == true) && true)=true→True)),(0,(True)∧AV.d (.v (.bool (bif (decide ((a0.f1.length:Int) > (0:Int))) then (decide ((a0.f2.length:Int) > (0:Int))) else false)))=.d (.v (.bool z2)))] 1 (by kernel_rfl) (⟨len_ok (cL 3 cS_FontPoint),(fun hg=>trivial),(fun hg=>trivial),(fun hg=>len_ok cS_FontPart),(fun hg=>trivial),⟨trivial,(by subst hz1; rfl)⟩⟩) ?_
  refine T_cond z2 (by kernel_rfl) (fun hc=>?_) (fun hc=>?_)
  ·have h:=cond_tt hc h
   refine T_reg [] [4] [(4,.d (.v (.int .i64 (4:Int))))] [] 1 (by kernel_rfl) (trivial) ?_
   obtain hs:=Option.some.inj h; subst hs
   refine T_ret fun a w hm=>inBlock_ret (then_ret (T_return (fr':=[(4,.d (.v (.int .i64 (4:Int))))]) [4] (by kernel_rfl) [.keep [4]] (by kernel_rfl) (by kernel_rfl) (by kernel_rfl) (by show _=_; kernel_rfl) (by exact trivial) a w hm))
  ·have h:=cond_ff hc h
   obtain ⟨z3,hz2,h⟩:=lett_ok h
   refine T_reg [(2,{ rw:=some (.d (.v (.int .i64 (a0.f1.length:Int)))) }),(7,{ rw:=some (.d (.v (.int .i64 (a0.f2.length:Int)))) }),(9,{ rw:=some (.d (.v (.bool z3))) })] [1,2,30] [(30,.d (.v (.bool z3)))] [(2,True∧AV.d (.v (.int .i64 ((a0.f1.map (cL 3 cS_FontPoint)).length:Int)))=.d (.v (.int .i64 (a0.f1.length:Int)))),(2,((((decide ((a0.f1.length:Int) > (8:Int))) == false) && true)=true→True)),(0,((((decide ((a0.f1.length:Int) > (8:Int))) == false) && true)=true→True)),(0,((((decide ((a0.f1.length:Int) > (8:Int))) == false) && true)=true→True∧AV.d (.v (.int .i64 ((a0.f2.map cS_FontPart).length:Int)))=.d (.v (.int .i64 (a0.f2.length:Int))))),(0,((((decide ((a0.f1.length:Int) > (8:Int))) == false) && true)=true→True)),(0,(True)∧AV.d (.v (.bool (bif (decide ((a0.f1.length:Int) > (8:Int))) then true else (decide ((a0.f2.length:Int) > (4:Int))))))=.d (.v (.bool z3)))] 1 (by kernel_rfl) (⟨len_ok (cL 3 cS_FontPoint),(fun hg=>trivial),(fun hg=>trivial),(fun hg=>len_ok cS_FontPart),(fun hg=>trivial),⟨trivial,(by subst hz2; rfl)⟩⟩) ?_
   refine T_cond z3 (by kernel_rfl) (fun hc=>?_) (fun hc=>?_)
   ·have h:=cond_tt hc h
    refine T_reg [] [4] [(4,.d (.v (.int .i64 (2:Int))))] [] 1 (by kernel_rfl) (trivial) ?_
    obtain hs:=Option.some.inj h; subst hs
    refine T_ret fun a w hm=>inBlock_ret (then_ret (T_return (fr':=[(4,.d (.v (.int .i64 (2:Int))))]) [4] (by kernel_rfl) [.keep [4]] (by kernel_rfl) (by kernel_rfl) (by kernel_rfl) (by show _=_; kernel_rfl) (by exact trivial) a w hm))
   ·have h:=cond_ff hc h
    refine T_skip fun a w hm=>inBlock_norm (then_norm (((?_:T Tryd.prog e 79 _ _ _) a w hm)))
    refine T_seqk ?_
    refine T_reg [(2,{ rw:=some (.d (.v (.int .i64 (a0.f1.length:Int)))) })] [1,2,42,43,44] [(42,.d (.sl 1 (a0.f1.map (cL 3 cS_FontPoint)))),(43,.d (.v (.int .i64 (a0.f1.length:Int)))),(44,.d (.v (.int .i64 (0:Int))))] [(2,True∧AV.d (.v (.int .i64 ((a0.f1.map (cL 3 cS_FontPoint)).length:Int)))=.d (.v (.int .i64 (a0.f1.length:Int))))] 1 (by kernel_rfl) (len_ok (cL 3 cS_FontPoint)) ?_
    refine T_joinEt h (fun (p:Unit)=>[(1,.d (.v (.int .i64 a1))),(2,.box [.d (.v (.int .i64 a0.f0)),.d (.sl 1 (a0.f1.map (cL 3 cS_FontPoint))),.d (.sl 3 (a0.f2.map cS_FontPart))])]) (fun s h hk1=>?_) (fun s h=>?_)
    ·refine T_co [.keep [1,2,42,43,44]] ((fun (p:Int)=>[(1,.d (.v (.int .i64 a1))),(2,.box [.d (.v (.int .i64 a0.f0)),.d (.sl 1 (a0.f1.map (cL 3 cS_FontPoint))),.d (.sl 3 (a0.f2.map cS_FontPart))]),(42,.d (.sl 1 (a0.f1.map (cL 3 cS_FontPoint)))),(43,.d (.v (.int .i64 (a0.f1.length:Int)))),(44,.d (.v (.int .i64 p)))]) (0:Int)) (by show _=_; kernel_rfl) ?_
     refine T_block ?_
     refine T_loopF (ι:=Int) (fun (p:Int)=>[(1,.d (.v (.int .i64 a1))),(2,.box [.d (.v (.int .i64 a0.f0)),.d (.sl 1 (a0.f1.map (cL 3 cS_FontPoint))),.d (.sl 3 (a0.f2.map cS_FontPart))]),(42,.d (.sl 1 (a0.f1.map (cL 3 cS_FontPoint)))),(43,.d (.v (.int .i64 (a0.f1.length:Int)))),(44,.d (.v (.int .i64 p)))]) (fun n p=>font_glyph_L1 F a0 n p=some s) (fun i hh=>by simp [font_glyph_L1] at hh) (fun n v1 h=>?_) F (0:Int) h
     have h:font_glyph_L1 F a0 (n+1) v1=some s:=h
     rw [font_glyph_L1] at h
     refine T_reg [] [1,2,42,43,44,45] [(45,.d (.v (.bool (decide (v1 < (a0.f1.length:Int))))))] [] 1 (by kernel_rfl) (trivial) ?_
     refine T_seqk ?_
     refine T_cond (decide (v1 < (a0.f1.length:Int))) (by kernel_rfl) (fun hc=>?_) (fun hc=>?_)
     ·have h:=cond_tt hc h
      refine T_skip fun a w hm=>then_norm (((?_:T Tryd.prog e 79 _ _ _) a w hm))
      refine T_seqk ?_
      refine T_block ?_
      obtain ⟨hp1,h⟩:=chk_ok h
      refine T_reg [(0,{ cs:=(cL 3 cS_FontPoint) (a0.f1.getD v1.toNat []) })] [1,2,6,42,43,44] [(6,.d (.sl 3 ((a0.f1.getD v1.toNat []).map cS_FontPoint)))] [(0,0≤v1∧(a0.f1.map (cL 3 cS_FontPoint))[v1.toNat]? = some ((cL 3 cS_FontPoint) (a0.f1.getD v1.toNat [])))] 2 (by kernel_rfl) (idx_ok (d:=[]) (cL 3 cS_FontPoint) hp1) ?_
      obtain ⟨y1,hy1,h⟩:=call_ok h
      refine T_reg [(1,{ res:=.d (.v (.int .i64 y1)) })] [1,2,7,42,43,44] [(7,.d (.v (.int .i64 y1)))] [(1,ACall Tryd.prog 45 [.d (.sl 3 ((a0.f1.getD v1.toNat []).map cS_FontPoint))] [] (.d (.v (.int .i64 y1))) [])] 1 (by kernel_rfl) (font_contour_ok hy1) ?_
      refine T_reg [] [1,2,7,42,43,44,51] [(51,.d (.v (.bool (y1 != (0:Int)))))] [] 2 (by kernel_rfl) (trivial) ?_
      refine T_cond (y1 != (0:Int)) (by kernel_rfl) (fun hc=>?_) (fun hc=>?_)
      ·have h:=cond_tt hc h
       refine T_reg [] [4] [(4,.d (.v (.int .i64 y1)))] [] 2 (by kernel_rfl) (trivial) ?_
       obtain hs:=Option.some.inj h; subst hs
       have h:=callE_esc hk1
       obtain hs:=Option.some.inj h; subst hs
       refine T_ret fun a w hm=>inBlock_ret (then_ret (then_ret (inBlock_ret (then_ret (then_ret (T_return (fr':=[(4,.d (.v (.int .i64 y1)))]) [4] (by kernel_rfl) [.keep [4]] (by kernel_rfl) (by kernel_rfl) (by kernel_rfl) (by show _=_; kernel_rfl) (by exact trivial) a w hm))))))
      ·have h:=cond_ff hc h
       refine T_skip fun a w hm=>inBlock_norm (then_norm (((?_:T Tryd.prog e 79 _ _ _) a w hm)))
       refine T_reg_end [] [1,2,42,43,44] [(44,.d (.v (.int .i64 (IntKind.i64.wrap (v1+(1:Int))))))] [] 2 (by kernel_rfl) (trivial) fun a w hm=>then_norm (⟨IntKind.i64.wrap (v1+(1:Int)),h,hm.co (cs:=[.keep [1,2,42,43,44]]) (by show _=_; kernel_rfl)⟩)
     ·have h:=cond_ff hc h
      obtain hs:=Option.some.inj h; subst hs
      refine T_exit fun a w hm=>then_exit (then_exit (inBlock_exit (then_norm (⟨_,rfl,hm.co (cs:=[.keep [1,2]]) (by show _=_; kernel_rfl)⟩))))
    ·skip
     refine fun a w hm=>then_norm (((?_:T Tryd.prog e 79 _ _ _) a w hm))
     refine T_seqk ?_
     refine T_reg [(2,{ rw:=some (.d (.v (.int .i64 (a0.f2.length:Int)))) })] [1,55,56,57] [(55,.d (.sl 3 (a0.f2.map cS_FontPart))),(56,.d (.v (.int .i64 (a0.f2.length:Int)))),(57,.d (.v (.int .i64 (0:Int))))] [(2,True∧AV.d (.v (.int .i64 ((a0.f2.map cS_FontPart).length:Int)))=.d (.v (.int .i64 (a0.f2.length:Int))))] 1 (by kernel_rfl) (len_ok cS_FontPart) ?_
     refine T_joinEt h (fun (p:Unit)=>[]) (fun s h hk2=>?_) (fun s h=>?_)
     ·refine T_co [.keep [1,55,56,57]] ((fun (p:Int)=>[(1,.d (.v (.int .i64 a1))),(55,.d (.sl 3 (a0.f2.map cS_FontPart))),(56,.d (.v (.int .i64 (a0.f2.length:Int)))),(57,.d (.v (.int .i64 p)))]) (0:Int)) (by show _=_; kernel_rfl) ?_
      refine T_block ?_
      refine T_loopF (ι:=Int) (fun (p:Int)=>[(1,.d (.v (.int .i64 a1))),(55,.d (.sl 3 (a0.f2.map cS_FontPart))),(56,.d (.v (.int .i64 (a0.f2.length:Int)))),(57,.d (.v (.int .i64 p)))]) (fun n p=>font_glyph_L3 F a0 a1 n p=some s) (fun i hh=>by simp [font_glyph_L3] at hh) (fun n v2 h=>?_) F (0:Int) h
      have h:font_glyph_L3 F a0 a1 (n+1) v2=some s:=h
      rw [font_glyph_L3] at h
      refine T_reg [] [1,55,56,57,58] [(58,.d (.v (.bool (decide (v2 < (a0.f2.length:Int))))))] [] 1 (by kernel_rfl) (trivial) ?_
      refine T_seqk ?_
      refine T_cond (decide (v2 < (a0.f2.length:Int))) (by kernel_rfl) (fun hc=>?_) (fun hc=>?_)
      ·have h:=cond_tt hc h
       refine T_skip fun a w hm=>then_norm (((?_:T Tryd.prog e 79 _ _ _) a w hm))
       refine T_seqk ?_
       refine T_block ?_
       obtain ⟨hp2,h⟩:=chk_ok h
       refine T_reg [(0,{ cs:=cS_FontPart (a0.f2.getD v2.toNat (S_FontPart.mk 0 0 0)) })] [1,9,55,56,57] [(9,.box [.d (.v (.int .i64 ((a0.f2.getD v2.toNat (S_FontPart.mk 0 0 0)).f0))),.d (.v (.int .i64 ((a0.f2.getD v2.toNat (S_FontPart.mk 0 0 0)).f1))),.d (.v (.int .i64 ((a0.f2.getD v2.toNat (S_FontPart.mk 0 0 0)).f2)))])] [(0,0≤v2∧(a0.f2.map cS_FontPart)[v2.toNat]? = some (cS_FontPart (a0.f2.getD v2.toNat (S_FontPart.mk 0 0 0))))] 3 (by kernel_rfl) (idx_ok (d:=(S_FontPart.mk 0 0 0)) cS_FontPart hp2) ?_
       refine T_seqk ?_
       obtain ⟨z1,hz3,h⟩:=lett_ok h
       refine T_reg [(8,{ rw:=some (.d (.v (.bool z1))) })] [1,9,55,56,57,69] [(69,.d (.v (.bool z1)))] [(4,((((decide (((a0.f2.getD v2.toNat (S_FontPart.mk 0 0 0)).f0) < (0:Int))) == false) && true)=true→True)),(0,((((decide (((a0.f2.getD v2.toNat (S_FontPart.mk 0 0 0)).f0) < (0:Int))) == false) && true)=true→True)),(0,((((decide (((a0.f2.getD v2.toNat (S_FontPart.mk 0 0 0)).f0) < (0:Int))) == false) && true)=true→True)),(0,((((decide (((a0.f2.getD v2.toNat (S_FontPart.mk 0 0 0)).f0) < (0:Int))) == false) && true)=true→True)),(0,(True)∧AV.d (.v (.bool (bif (decide (((a0.f2.getD v2.toNat (S_FontPart.mk 0 0 0)).f0) < (0:Int))) then true else (decide (((a0.f2.getD v2.toNat (S_FontPart.mk 0 0 0)).f0) ≥ a1)))))=.d (.v (.bool z1)))] 0 (by kernel_rfl) (⟨(fun hg=>trivial),(fun hg=>trivial),(fun hg=>trivial),(fun hg=>trivial),⟨trivial,(by subst hz3; rfl)⟩⟩) ?_
       refine T_cond z1 (by kernel_rfl) (fun hc=>?_) (fun hc=>?_)
       ·have h:=cond_tt hc h
        refine T_reg [] [4] [(4,.d (.v (.int .i64 (8:Int))))] [] 1 (by kernel_rfl) (trivial) ?_
        obtain hs:=Option.some.inj h; subst hs
        have h:=callE_esc hk2
        obtain hs:=Option.some.inj h; subst hs
        refine T_ret fun a w hm=>then_ret (inBlock_ret (then_ret (then_ret (inBlock_ret (then_ret (then_ret (T_return (fr':=[(4,.d (.v (.int .i64 (8:Int))))]) [4] (by kernel_rfl) [.keep [4]] (by kernel_rfl) (by kernel_rfl) (by kernel_rfl) (by show _=_; kernel_rfl) (by exact trivial) a w hm)))))))
       ·have h:=cond_ff hc h
        refine T_skip fun a w hm=>then_norm (((?_:T Tryd.prog e 79 _ _ _) a w hm))
        obtain ⟨y2,hy2,h⟩:=call_ok h
        obtain ⟨y3,hy3,h⟩:=call_ok h
        refine T_reg [(2,{ res:=.d (.v (.bool y2)) }),(6,{ res:=.d (.v (.bool y3)) })] [1,55,56,57,77] [(77,.d (.v (.bool (bif y2 then true else y3))))] [(2,ACall Tryd.prog 46 [.d (.v (.int .i64 ((a0.f2.getD v2.toNat (S_FontPart.mk 0 0 0)).f1))),.d (.v (.int .i64 (2047:Int)))] [] (.d (.v (.bool y2))) []),(1,(((y2 == false) && true)=true→True)),(0,(((y2 == false) && true)=true→True)),(0,(((y2 == false) && true)=true→ACall Tryd.prog 46 [.d (.v (.int .i64 ((a0.f2.getD v2.toNat (S_FontPart.mk 0 0 0)).f2))),.d (.v (.int .i64 (2047:Int)))] [] (.d (.v (.bool y3))) []))] 1 (by kernel_rfl) (⟨font_far_ok hy2,(fun hg=>trivial),(fun hg=>trivial),(fun hg=>font_far_ok (gcall_ok hg hy3))⟩) ?_
        refine T_cond (bif y2 then true else y3) (by kernel_rfl) (fun hc=>?_) (fun hc=>?_)
        ·have h:=cond_tt hc h
         refine T_reg [] [4] [(4,.d (.v (.int .i64 (3:Int))))] [] 1 (by kernel_rfl) (trivial) ?_
         obtain hs:=Option.some.inj h; subst hs
         have h:=callE_esc hk2
         obtain hs:=Option.some.inj h; subst hs
         refine T_ret fun a w hm=>inBlock_ret (then_ret (then_ret (inBlock_ret (then_ret (then_ret (T_return (fr':=[(4,.d (.v (.int .i64 (3:Int))))]) [4] (by kernel_rfl) [.keep [4]] (by kernel_rfl) (by kernel_rfl) (by kernel_rfl) (by show _=_; kernel_rfl) (by exact trivial) a w hm))))))
        ·have h:=cond_ff hc h
         refine T_skip fun a w hm=>inBlock_norm (then_norm (((?_:T Tryd.prog e 79 _ _ _) a w hm)))
         refine T_reg_end [] [1,55,56,57] [(57,.d (.v (.int .i64 (IntKind.i64.wrap (v2+(1:Int))))))] [] 2 (by kernel_rfl) (trivial) fun a w hm=>then_norm (⟨IntKind.i64.wrap (v2+(1:Int)),h,hm.co (cs:=[.keep [1,55,56,57]]) (by show _=_; kernel_rfl)⟩)
      ·have h:=cond_ff hc h
       obtain hs:=Option.some.inj h; subst hs
       refine T_exit fun a w hm=>then_exit (then_exit (inBlock_exit (then_norm (⟨_,rfl,hm.co (cs:=[.keep []]) (by show _=_; kernel_rfl)⟩))))
     ·skip
      refine fun a w hm=>then_norm (((?_:T Tryd.prog e 79 _ _ _) a w hm))
      refine T_reg [] [4] [(4,.d (.v (.int .i64 (0:Int))))] [] 1 (by kernel_rfl) (trivial) ?_
      obtain hs:=Option.some.inj h; subst hs
      refine T_ret fun a w hm=>T_return (fr':=[(4,.d (.v (.int .i64 (0:Int))))]) [4] (by kernel_rfl) [.keep [4]] (by kernel_rfl) (by kernel_rfl) (by kernel_rfl) (by show _=_; kernel_rfl) (by exact trivial) a w hm
theorem cmp_isNaN_int_ok {F:Nat} {a0:Int} {r:Bool} (h:cmp_isNaN_int F a0=some r):ACall Tryd.prog 58 [.d (.v (.int .i64 a0))] [] (.d (.v (.bool r))) []:=by
 rw [cmp_isNaN_int] at h
 refine ACall.intro (N:=6) Tryd.func58 rfl rfl rfl rfl rfl fun e=>?_
 refine T_reg [] [0] [] [] 1 (by kernel_rfl) (trivial) ?_
 refine T_reg [] [2] [(2,.d (.v (.bool (a0 != a0))))] [] 4 (by kernel_rfl) (trivial) ?_
 obtain hs:=Option.some.inj h; subst hs
 refine T_ret fun a w hm=>T_return (fr':=[(2,.d (.v (.bool (a0 != a0))))]) [2] (by kernel_rfl) [.keep [2]] (by kernel_rfl) (by kernel_rfl) (by kernel_rfl) (by show _=_; kernel_rfl) (by exact trivial) a w hm
theorem cmp_Compare_int_ok {F:Nat} {a0:Int} {a1:Int} {r:Int} (h:cmp_Compare_int F a0 a1=some r):ACall Tryd.prog 37 [.d (.v (.int .i64 a0)),.d (.v (.int .i64 a1))] [] (.d (.v (.int .i64 r))) []:=by
 rw [cmp_Compare_int] at h
 refine ACall.intro (N:=20) Tryd.func37 rfl rfl rfl rfl rfl fun e=>?_
 refine T_reg [] [0,1] [] [] 1 (by kernel_rfl) (trivial) ?_
 obtain ⟨y1,hy1,h⟩:=call_ok h
 refine T_reg [(1,{ res:=.d (.v (.bool y1)) })] [0,1,5] [(5,.d (.v (.bool y1)))] [(1,ACall Tryd.prog 58 [.d (.v (.int .i64 a0))] [] (.d (.v (.bool y1))) [])] 1 (by kernel_rfl) (cmp_isNaN_int_ok hy1) ?_
 obtain ⟨y2,hy2,h⟩:=call_ok h
 refine T_reg [(1,{ res:=.d (.v (.bool y2)) })] [0,1,5,6] [(6,.d (.v (.bool y2)))] [(1,ACall Tryd.prog 58 [.d (.v (.int .i64 a1))] [] (.d (.v (.bool y2))) [])] 1 (by kernel_rfl) (cmp_isNaN_int_ok hy2) ?_
 refine T_seqk ?_
 refine T_reg [] [0,1,6,11] [(11,.d (.v (.bool y1)))] [] 1 (by kernel_rfl) (trivial) ?_
 refine T_cond y1 (by kernel_rfl) (fun hc=>?_) (fun hc=>?_)
 ·have h:=cond_tt hc h
  refine T_seqk ?_
  refine T_reg [] [12] [(12,.d (.v (.bool y2)))] [] 1 (by kernel_rfl) (trivial) ?_
  refine T_cond y2 (by kernel_rfl) (fun hc=>?_) (fun hc=>?_)
  ·have h:=cond_tt hc h
   refine T_reg [] [4] [(4,.d (.v (.int .i64 (0:Int))))] [] 1 (by kernel_rfl) (trivial) ?_
   obtain hs:=Option.some.inj h; subst hs
   refine T_ret fun a w hm=>then_ret (then_ret (T_return (fr':=[(4,.d (.v (.int .i64 (0:Int))))]) [4] (by kernel_rfl) [.keep [4]] (by kernel_rfl) (by kernel_rfl) (by kernel_rfl) (by show _=_; kernel_rfl) (by exact trivial) a w hm))
  ·have h:=cond_ff hc h
   refine T_skip fun a w hm=>then_norm (((?_:T Tryd.prog e 20 _ _ _) a w hm))
   refine T_reg [] [4] [(4,.d (.v (.int .i64 (-1:Int))))] [] 1 (by kernel_rfl) (trivial) ?_
   obtain hs:=Option.some.inj h; subst hs
   refine T_ret fun a w hm=>then_ret (T_return (fr':=[(4,.d (.v (.int .i64 (-1:Int))))]) [4] (by kernel_rfl) [.keep [4]] (by kernel_rfl) (by kernel_rfl) (by kernel_rfl) (by show _=_; kernel_rfl) (by exact trivial) a w hm)
 ·have h:=cond_ff hc h
  refine T_skip fun a w hm=>then_norm (((?_:T Tryd.prog e 20 _ _ _) a w hm))
  refine T_seqk ?_
  refine T_reg [] [0,1,13] [(13,.d (.v (.bool y2)))] [] 1 (by kernel_rfl) (trivial) ?_
  refine T_cond y2 (by kernel_rfl) (fun hc=>?_) (fun hc=>?_)
  ·have h:=cond_tt hc h
   refine T_reg [] [4] [(4,.d (.v (.int .i64 (1:Int))))] [] 1 (by kernel_rfl) (trivial) ?_
   obtain hs:=Option.some.inj h; subst hs
   refine T_ret fun a w hm=>then_ret (T_return (fr':=[(4,.d (.v (.int .i64 (1:Int))))]) [4] (by kernel_rfl) [.keep [4]] (by kernel_rfl) (by kernel_rfl) (by kernel_rfl) (by show _=_; kernel_rfl) (by exact trivial) a w hm)
  ·have h:=cond_ff hc h
   refine T_skip fun a w hm=>then_norm (((?_:T Tryd.prog e 20 _ _ _) a w hm))
   refine T_seqk ?_
   refine T_reg [] [0,1,16] [(16,.d (.v (.bool (decide (a0 < a1)))))] [] 3 (by kernel_rfl) (trivial) ?_
   refine T_cond (decide (a0 < a1)) (by kernel_rfl) (fun hc=>?_) (fun hc=>?_)
   ·have h:=cond_tt hc h
    refine T_reg [] [4] [(4,.d (.v (.int .i64 (-1:Int))))] [] 1 (by kernel_rfl) (trivial) ?_
    obtain hs:=Option.some.inj h; subst hs
    refine T_ret fun a w hm=>then_ret (T_return (fr':=[(4,.d (.v (.int .i64 (-1:Int))))]) [4] (by kernel_rfl) [.keep [4]] (by kernel_rfl) (by kernel_rfl) (by kernel_rfl) (by show _=_; kernel_rfl) (by exact trivial) a w hm)
   ·have h:=cond_ff hc h
    refine T_skip fun a w hm=>then_norm (((?_:T Tryd.prog e 20 _ _ _) a w hm))
    refine T_seqk ?_
    refine T_reg [] [19] [(19,.d (.v (.bool (decide (a0 > a1)))))] [] 3 (by kernel_rfl) (trivial) ?_
    refine T_cond (decide (a0 > a1)) (by kernel_rfl) (fun hc=>?_) (fun hc=>?_)
    ·have h:=cond_tt hc h
     refine T_reg [] [4] [(4,.d (.v (.int .i64 (1:Int))))] [] 1 (by kernel_rfl) (trivial) ?_
     obtain hs:=Option.some.inj h; subst hs
     refine T_ret fun a w hm=>then_ret (T_return (fr':=[(4,.d (.v (.int .i64 (1:Int))))]) [4] (by kernel_rfl) [.keep [4]] (by kernel_rfl) (by kernel_rfl) (by kernel_rfl) (by show _=_; kernel_rfl) (by exact trivial) a w hm)
    ·have h:=cond_ff hc h
     refine T_skip fun a w hm=>then_norm (((?_:T Tryd.prog e 20 _ _ _) a w hm))
     refine T_reg [] [4] [(4,.d (.v (.int .i64 (0:Int))))] [] 1 (by kernel_rfl) (trivial) ?_
     obtain hs:=Option.some.inj h; subst hs
     refine T_ret fun a w hm=>T_return (fr':=[(4,.d (.v (.int .i64 (0:Int))))]) [4] (by kernel_rfl) [.keep [4]] (by kernel_rfl) (by kernel_rfl) (by kernel_rfl) (by show _=_; kernel_rfl) (by exact trivial) a w hm
theorem cmp_Or_int_ok {F:Nat} {a0:List Int} {r:Int} (h:cmp_Or_int F a0=some r):ACall Tryd.prog 61 [.d (.sl 1 (a0.map (cI .i64)))] [] (.d (.v (.int .i64 r))) []:=by
 rw [cmp_Or_int] at h
 refine ACall.intro (N:=18) Tryd.func61 rfl rfl rfl rfl rfl fun e=>?_
 refine T_reg [] [0] [] [] 1 (by kernel_rfl) (trivial) ?_
 refine T_reg [] [0,3] [(3,.d (.v (.int .i64 (0:Int))))] [] 1 (by kernel_rfl) (trivial) ?_
 refine T_seqk ?_
 refine T_reg [(1,{ rw:=some (.d (.v (.int .i64 (a0.length:Int)))) })] [3,6,7,8] [(6,.d (.sl 1 (a0.map (cI .i64)))),(7,.d (.v (.int .i64 (a0.length:Int)))),(8,.d (.v (.int .i64 (0:Int))))] [(1,True∧AV.d (.v (.int .i64 ((a0.map (cI .i64)).length:Int)))=.d (.v (.int .i64 (a0.length:Int))))] 1 (by kernel_rfl) (len_ok (cI .i64)) ?_
 refine T_joinEt h (fun (p:Unit)=>[(3,.d (.v (.int .i64 (0:Int))))]) (fun s h hk1=>?_) (fun s h=>?_)
 ·refine T_co [.keep [3,6,7,8]] ((fun (p:Int)=>[(3,.d (.v (.int .i64 (0:Int)))),(6,.d (.sl 1 (a0.map (cI .i64)))),(7,.d (.v (.int .i64 (a0.length:Int)))),(8,.d (.v (.int .i64 p)))]) (0:Int)) (by show _=_; kernel_rfl) ?_
  refine T_block ?_
  refine T_loopF (ι:=Int) (fun (p:Int)=>[(3,.d (.v (.int .i64 (0:Int)))),(6,.d (.sl 1 (a0.map (cI .i64)))),(7,.d (.v (.int .i64 (a0.length:Int)))),(8,.d (.v (.int .i64 p)))]) (fun n p=>cmp_Or_int_L0 F a0 n p=some s) (fun i hh=>by simp [cmp_Or_int_L0] at hh) (fun n v1 h=>?_) F (0:Int) h
  have h:cmp_Or_int_L0 F a0 (n+1) v1=some s:=h
  rw [cmp_Or_int_L0] at h
  refine T_reg [] [3,6,7,8,9] [(9,.d (.v (.bool (decide (v1 < (a0.length:Int))))))] [] 1 (by kernel_rfl) (trivial) ?_
  refine T_seqk ?_
  refine T_cond (decide (v1 < (a0.length:Int))) (by kernel_rfl) (fun hc=>?_) (fun hc=>?_)
  ·have h:=cond_tt hc h
   refine T_skip fun a w hm=>then_norm (((?_:T Tryd.prog e 18 _ _ _) a w hm))
   refine T_seqk ?_
   refine T_block ?_
   obtain ⟨hp1,h⟩:=chk_ok h
   refine T_reg [(0,{ cs:=(cI .i64) (a0.getD v1.toNat 0) })] [3,5,6,7,8] [(5,.d (.v (.int .i64 (a0.getD v1.toNat 0))))] [(0,0≤v1∧(a0.map (cI .i64))[v1.toNat]? = some ((cI .i64) (a0.getD v1.toNat 0)))] 2 (by kernel_rfl) (idx_ok (d:=0) (cI .i64) hp1) ?_
   refine T_reg [] [3,5,6,7,8,14] [(14,.d (.v (.bool ((a0.getD v1.toNat 0) != (0:Int)))))] [] 3 (by kernel_rfl) (trivial) ?_
   refine T_cond ((a0.getD v1.toNat 0) != (0:Int)) (by kernel_rfl) (fun hc=>?_) (fun hc=>?_)
   ·have h:=cond_tt hc h
    refine T_reg [] [2] [(2,.d (.v (.int .i64 (a0.getD v1.toNat 0))))] [] 2 (by kernel_rfl) (trivial) ?_
    obtain hs:=Option.some.inj h; subst hs
    have h:=callE_esc hk1
    obtain hs:=Option.some.inj h; subst hs
    refine T_ret fun a w hm=>inBlock_ret (then_ret (then_ret (inBlock_ret (then_ret (then_ret (T_return (fr':=[(2,.d (.v (.int .i64 (a0.getD v1.toNat 0))))]) [2] (by kernel_rfl) [.keep [2]] (by kernel_rfl) (by kernel_rfl) (by kernel_rfl) (by show _=_; kernel_rfl) (by exact trivial) a w hm))))))
   ·have h:=cond_ff hc h
    refine T_skip fun a w hm=>inBlock_norm (then_norm (((?_:T Tryd.prog e 18 _ _ _) a w hm)))
    refine T_reg_end [] [3,6,7,8] [(8,.d (.v (.int .i64 (IntKind.i64.wrap (v1+(1:Int))))))] [] 2 (by kernel_rfl) (trivial) fun a w hm=>then_norm (⟨IntKind.i64.wrap (v1+(1:Int)),h,hm.co (cs:=[.keep [3,6,7,8]]) (by show _=_; kernel_rfl)⟩)
  ·have h:=cond_ff hc h
   obtain hs:=Option.some.inj h; subst hs
   refine T_exit fun a w hm=>then_exit (then_exit (inBlock_exit (then_norm (⟨_,rfl,hm.co (cs:=[.keep [3]]) (by show _=_; kernel_rfl)⟩))))
 ·skip
  refine fun a w hm=>then_norm (((?_:T Tryd.prog e 18 _ _ _) a w hm))
  refine T_reg [] [2] [(2,.d (.v (.int .i64 (0:Int))))] [] 2 (by kernel_rfl) (trivial) ?_
  obtain hs:=Option.some.inj h; subst hs
  refine T_ret fun a w hm=>T_return (fr':=[(2,.d (.v (.int .i64 (0:Int))))]) [2] (by kernel_rfl) [.keep [2]] (by kernel_rfl) (by kernel_rfl) (by kernel_rfl) (by show _=_; kernel_rfl) (by exact trivial) a w hm
theorem font_pairs_ok {F:Nat} {a0:S_FontPair} {a1:S_FontPair} {r:Int} (h:font_pairs F a0 a1=some r):ACall Tryd.prog 44 [.agg (cS_FontPair a0),.agg (cS_FontPair a1)] [] (.d (.v (.int .i64 r))) []:=by
 rw [font_pairs] at h
 refine ACall.intro (N:=17) Tryd.func44 rfl rfl rfl rfl rfl fun e=>?_
 refine T_reg [] [2,3] [(2,.box [.d (.v (.int .i64 a0.f0)),.d (.v (.int .i64 a0.f1)),.d (.v (.int .i64 a0.f2))]),(3,.box [.d (.v (.int .i64 a1.f0)),.d (.v (.int .i64 a1.f1)),.d (.v (.int .i64 a1.f2))])] [] 3 (by kernel_rfl) (trivial) ?_
 obtain ⟨y1,hy1,h⟩:=call_ok h
 obtain ⟨y2,hy2,h⟩:=call_ok h
 obtain ⟨y3,hy3,h⟩:=call_ok h
 refine T_drawX mixed 5 (.take 0 (.take 1 (.take 2 (.take 3 (.take 5 (.take 7 (.all (.alt 4 (.take 6 (.take 8 (.all (.alt 9 (.all (.alt 10 (.all (.alt 11 (.take 12 .done) .stop)) .stop)) .stop)))) (.alt 6 (.all (.alt 4 (.take 8 (.all (.alt 9 (.all (.alt 10 (.all (.alt 11 (.take 12 .done) .stop)) .stop)) .stop))) (.alt 8 (.all (.alt 4 (.all (.alt 9 (.all (.alt 10 (.all (.alt 11 (.take 12 .done) .stop)) .stop)) .stop)) .stop)) .stop))) (.alt 8 (.all (.alt 4 (.take 6 (.all (.alt 9 (.all (.alt 10 (.all (.alt 11 (.take 12 .done) .stop)) .stop)) .stop))) (.alt 6 (.all (.alt 4 (.all (.alt 9 (.all (.alt 10 (.all (.alt 11 (.take 12 .done) .stop)) .stop)) .stop)) .stop)) .stop))) .stop)))))))))) ([0,1,0,4,10,0,32,0,128,336,528,1536,4095],[0,1,0,4,10,0,32,0,128,320,528,1024,2048]) 4591 [(4,{ res:=.d (.v (.int .i64 y1)) }),(9,{ res:=.d (.v (.int .i64 y2)) }),(10,{ es:=some (([y1,y2]).map (cI .i64)) }),(11,{ res:=.d (.v (.int .i64 y3)) })] [4] [] [(4,.d (.v (.int .i64 y3)))] ((fun (o4:Prop)=>fun (o9:Prop)=>fun (o10:Prop)=>fun (o11:Prop)=>[(6,o4),(2,o9),(0,o10),(0,o11),(2,o4),(1,o9),(0,o10),(0,o11),(2,o4),(0,o9),(0,o10),(0,o11),(2,o4),(1,o9),(0,o10),(0,o11),(2,o4),(0,o9),(0,o10),(0,o11)]) (ACall Tryd.prog 37 [.d (.v (.int .i64 a0.f0)),.d (.v (.int .i64 a1.f0))] [] (.d (.v (.int .i64 y1))) []) (ACall Tryd.prog 37 [.d (.v (.int .i64 a0.f1)),.d (.v (.int .i64 a1.f1))] [] (.d (.v (.int .i64 y2))) []) ((([y1,y2]).map (cI .i64))=(([y1,y2]).map (cI .i64))) (ACall Tryd.prog 61 [.d (.sl 1 (([y1,y2]).map (cI .i64)))] [] (.d (.v (.int .i64 y3))) [])) 1 (by kernel_rfl) (by kernel_rfl) (by kernel_rfl) (have p4:=cmp_Compare_int_ok hy1; have p9:=cmp_Compare_int_ok hy2; have p10:=rfl; have p11:=cmp_Or_int_ok hy3; ⟨p4,p9,p10,p11,p4,p9,p10,p11,p4,p9,p10,p11,p4,p9,p10,p11,p4,p9,p10,p11⟩) ?_
 obtain hs:=Option.some.inj h; subst hs
 refine T_ret fun a w hm=>T_return (fr':=[(4,.d (.v (.int .i64 y3)))]) [4] (by kernel_rfl) [.keep [4]] (by kernel_rfl) (by kernel_rfl) (by kernel_rfl) (by show _=_; kernel_rfl) (by exact trivial) a w hm
theorem font_tables_ok {F:Nat} {a0:S_Font} {r:Int} (h:font_tables F a0=some r):ACall Tryd.prog 30 [.agg (cS_Font a0)] [] (.d (.v (.int .i64 r))) []:=by
 rw [font_tables] at h
 refine ACall.intro (N:=130) Tryd.func30 rfl rfl rfl rfl rfl fun e=>?_
 refine T_reg [] [1] [(1,.box [.d (.v (.int .i64 a0.f0)),.d (.sl 3 (a0.f1.map cS_FontGlyph)),.d (.sl 3 (a0.f2.map cS_FontRange)),.d (.sl 3 (a0.f3.map cS_FontPair))])] [] 2 (by kernel_rfl) (trivial) ?_
 refine T_seqk ?_
 refine T_reg [(2,{ rw:=some (.d (.v (.int .i64 (a0.f2.length:Int)))) })] [1,8,9,10] [(8,.d (.sl 3 (a0.f2.map cS_FontRange))),(9,.d (.v (.int .i64 (a0.f2.length:Int)))),(10,.d (.v (.int .i64 (0:Int))))] [(2,True∧AV.d (.v (.int .i64 ((a0.f2.map cS_FontRange).length:Int)))=.d (.v (.int .i64 (a0.f2.length:Int))))] 1 (by kernel_rfl) (len_ok cS_FontRange) ?_
 refine T_joinEt h (fun (p:Unit)=>[(1,.box [.d (.v (.int .i64 a0.f0)),.d (.sl 3 (a0.f1.map cS_FontGlyph)),.d (.sl 3 (a0.f2.map cS_FontRange)),.d (.sl 3 (a0.f3.map cS_FontPair))])]) (fun s h hk1=>?_) (fun s h=>?_)
 ·refine T_co [.keep [1,8,9,10]] ((fun (p:Int)=>[(1,.box [.d (.v (.int .i64 a0.f0)),.d (.sl 3 (a0.f1.map cS_FontGlyph)),.d (.sl 3 (a0.f2.map cS_FontRange)),.d (.sl 3 (a0.f3.map cS_FontPair))]),(8,.d (.sl 3 (a0.f2.map cS_FontRange))),(9,.d (.v (.int .i64 (a0.f2.length:Int)))),(10,.d (.v (.int .i64 p)))]) (0:Int)) (by show _=_; kernel_rfl) ?_
  refine T_block ?_
  refine T_loopF (ι:=Int) (fun (p:Int)=>[(1,.box [.d (.v (.int .i64 a0.f0)),.d (.sl 3 (a0.f1.map cS_FontGlyph)),.d (.sl 3 (a0.f2.map cS_FontRange)),.d (.sl 3 (a0.f3.map cS_FontPair))]),(8,.d (.sl 3 (a0.f2.map cS_FontRange))),(9,.d (.v (.int .i64 (a0.f2.length:Int)))),(10,.d (.v (.int .i64 p)))]) (fun n p=>font_tables_L0 F a0 n p=some s) (fun i hh=>by simp [font_tables_L0] at hh) (fun n v1 h=>?_) F (0:Int) h
  have h:font_tables_L0 F a0 (n+1) v1=some s:=h
  rw [font_tables_L0] at h
  refine T_reg [] [1,8,9,10,11] [(11,.d (.v (.bool (decide (v1 < (a0.f2.length:Int))))))] [] 1 (by kernel_rfl) (trivial) ?_
  refine T_seqk ?_
  refine T_cond (decide (v1 < (a0.f2.length:Int))) (by kernel_rfl) (fun hc=>?_) (fun hc=>?_)
  ·have h:=cond_tt hc h
   refine T_skip fun a w hm=>then_norm (((?_:T Tryd.prog e 130 _ _ _) a w hm))
   refine T_seqk ?_
   refine T_block ?_
   obtain ⟨hp1,h⟩:=chk_ok h
   refine T_reg [(1,{ cs:=cS_FontRange (a0.f2.getD v1.toNat (S_FontRange.mk 0 0 0)) })] [1,3,4,8,9,10] [(3,.d (.v (.int .i64 v1))),(4,.box [.d (.v (.int .i64 ((a0.f2.getD v1.toNat (S_FontRange.mk 0 0 0)).f0))),.d (.v (.int .i64 ((a0.f2.getD v1.toNat (S_FontRange.mk 0 0 0)).f1))),.d (.v (.int .i64 ((a0.f2.getD v1.toNat (S_FontRange.mk 0 0 0)).f2)))])] [(1,0≤v1∧(a0.f2.map cS_FontRange)[v1.toNat]? = some (cS_FontRange (a0.f2.getD v1.toNat (S_FontRange.mk 0 0 0))))] 4 (by kernel_rfl) (idx_ok (d:=(S_FontRange.mk 0 0 0)) cS_FontRange hp1) ?_
   refine T_block ?_
   obtain ⟨z1,hz1,h⟩:=lett_ok h
   obtain ⟨z2,hz2,h⟩:=lett_ok h
   refine T_reg [(8,{ rw:=some (.d (.v (.bool z1))) }),(14,{ rw:=some (.d (.v (.bool z2))) })] [1,3,4,8,9,10,15] [(15,.d (.v (.bool z2)))] [(4,((((decide (((a0.f2.getD v1.toNat (S_FontRange.mk 0 0 0)).f0) < (0:Int))) == false) && true)=true→True)),(0,((((decide (((a0.f2.getD v1.toNat (S_FontRange.mk 0 0 0)).f0) < (0:Int))) == false) && true)=true→True)),(0,((((decide (((a0.f2.getD v1.toNat (S_FontRange.mk 0 0 0)).f0) < (0:Int))) == false) && true)=true→True)),(0,((((decide (((a0.f2.getD v1.toNat (S_FontRange.mk 0 0 0)).f0) < (0:Int))) == false) && true)=true→True)),(0,((((decide (((a0.f2.getD v1.toNat (S_FontRange.mk 0 0 0)).f0) < (0:Int))) == false) && true)=true→(True)∧AV.d (.v (.bool (decide (((a0.f2.getD v1.toNat (S_FontRange.mk 0 0 0)).f1) < ((a0.f2.getD v1.toNat (S_FontRange.mk 0 0 0)).f0)))))=.d (.v (.bool z1)))),(2,((((bif (decide (((a0.f2.getD v1.toNat (S_FontRange.mk 0 0 0)).f0) < (0:Int))) then true else z1) == false) && true)=true→True)),(0,((((bif (decide (((a0.f2.getD v1.toNat (S_FontRange.mk 0 0 0)).f0) < (0:Int))) then true else z1) == false) && true)=true→True)),(0,((((bif (decide (((a0.f2.getD v1.toNat (S_FontRange.mk 0 0 0)).f0) < (0:Int))) then true else z1) == false) && true)=true→True)),(0,(True)∧AV.d (.v (.bool (bif (bif (decide (((a0.f2.getD v1.toNat (S_FontRange.mk 0 0 0)).f0) < (0:Int))) then true else z1) then true else (decide (((a0.f2.getD v1.toNat (S_FontRange.mk 0 0 0)).f1) > (1114111:Int))))))=.d (.v (.bool z2)))] 1 (by kernel_rfl) (⟨(fun hg=>trivial),(fun hg=>trivial),(fun hg=>trivial),(fun hg=>trivial),(fun hg=>⟨trivial,(by subst hz1; rfl)⟩),(fun hg=>trivial),(fun hg=>trivial),(fun hg=>trivial),⟨trivial,(by subst hz2; rfl)⟩⟩) ?_
   refine T_cond z2 (by kernel_rfl) (fun hc=>?_) (fun hc=>?_)
   ·have h:=cond_tt hc h
    refine T_reg [] [2] [(2,.d (.v (.int .i64 (3:Int))))] [] 1 (by kernel_rfl) (trivial) ?_
    obtain hs:=Option.some.inj h; subst hs
    have h:=callE_esc hk1
    obtain hs:=Option.some.inj h; subst hs
    refine T_ret fun a w hm=>inBlock_ret (inBlock_ret (then_ret (then_ret (inBlock_ret (then_ret (then_ret (T_return (fr':=[(2,.d (.v (.int .i64 (3:Int))))]) [2] (by kernel_rfl) [.keep [2]] (by kernel_rfl) (by kernel_rfl) (by kernel_rfl) (by show _=_; kernel_rfl) (by exact trivial) a w hm)))))))
   ·have h:=cond_ff hc h
    obtain ⟨z3,hz3,h⟩:=lett_ok h
    obtain ⟨z4,hz4,h⟩:=lett_ok h
    obtain ⟨z5,hz5,h⟩:=lett_ok h
    refine T_reg [(8,{ rw:=some (.d (.v (.int .i64 (a0.f1.length:Int)))) }),(10,{ rw:=some (.d (.v (.bool z3))) }),(16,{ rw:=some (.d (.v (.int .i64 z4))) }),(22,{ rw:=some (.d (.v (.int .i64 (a0.f1.length:Int)))) }),(23,{ rw:=some (.d (.v (.bool z5))) })] [1,3,4,8,9,10,31] [(31,.d (.v (.bool (bif z3 then true else z5))))] [(4,((((decide (((a0.f2.getD v1.toNat (S_FontRange.mk 0 0 0)).f2) < (0:Int))) == false) && true)=true→True)),(0,((((decide (((a0.f2.getD v1.toNat (S_FontRange.mk 0 0 0)).f2) < (0:Int))) == false) && true)=true→True)),(0,((((decide (((a0.f2.getD v1.toNat (S_FontRange.mk 0 0 0)).f2) < (0:Int))) == false) && true)=true→True)),(0,((((decide (((a0.f2.getD v1.toNat (S_FontRange.mk 0 0 0)).f2) < (0:Int))) == false) && true)=true→True)),(0,((((decide (((a0.f2.getD v1.toNat (S_FontRange.mk 0 0 0)).f2) < (0:Int))) == false) && true)=true→True∧AV.d (.v (.int .i64 ((a0.f1.map cS_FontGlyph).length:Int)))=.d (.v (.int .i64 (a0.f1.length:Int))))),(0,((((decide (((a0.f2.getD v1.toNat (S_FontRange.mk 0 0 0)).f2) < (0:Int))) == false) && true)=true→True)),(0,(True)∧AV.d (.v (.bool (bif (decide (((a0.f2.getD v1.toNat (S_FontRange.mk 0 0 0)).f2) < (0:Int))) then true else (decide (((a0.f2.getD v1.toNat (S_FontRange.mk 0 0 0)).f2) ≥ (a0.f1.length:Int))))))=.d (.v (.bool z3))),(1,(((z3 == false) && true)=true→True)),(0,(((z3 == false) && true)=true→True)),(0,(((z3 == false) && true)=true→True)),(0,(((z3 == false) && true)=true→True)),(0,(((z3 == false) && true)=true→(True)∧AV.d (.v (.int .i64 (IntKind.i64.wrap (((a0.f2.getD v1.toNat (S_FontRange.mk 0 0 0)).f2)+((a0.f2.getD v1.toNat (S_FontRange.mk 0 0 0)).f1)))))=.d (.v (.int .i64 z4)))),(0,(((z3 == false) && true)=true→True)),(0,(((z3 == false) && true)=true→True)),(0,(((z3 == false) && true)=true→True)),(0,(((z3 == false) && true)=true→True)),(0,(((z3 == false) && true)=true→True)),(0,(((z3 == false) && true)=true→True∧AV.d (.v (.int .i64 ((a0.f1.map cS_FontGlyph).length:Int)))=.d (.v (.int .i64 (a0.f1.length:Int))))),(0,(((z3 == false) && true)=true→(True)∧AV.d (.v (.bool (decide ((IntKind.i64.wrap (z4 - ((a0.f2.getD v1.toNat (S_FontRange.mk 0 0 0)).f0))) ≥ (a0.f1.length:Int)))))=.d (.v (.bool z5))))] 2 (by kernel_rfl) (⟨(fun hg=>trivial),(fun hg=>trivial),(fun hg=>trivial),(fun hg=>trivial),(fun hg=>len_ok cS_FontGlyph),(fun hg=>trivial),⟨trivial,(by subst hz3; rfl)⟩,(fun hg=>trivial),(fun hg=>trivial),(fun hg=>trivial),(fun hg=>trivial),(fun hg=>⟨trivial,(by subst hz4; rfl)⟩),(fun hg=>trivial),(fun hg=>trivial),(fun hg=>trivial),(fun hg=>trivial),(fun hg=>trivial),(fun hg=>len_ok cS_FontGlyph),(fun hg=>⟨trivial,(by subst hz5; rfl)⟩)⟩) ?_
    refine T_cond (bif z3 then true else z5) (by kernel_rfl) (fun hc=>?_) (fun hc=>?_)
    ·have h:=cond_tt hc h
     refine T_reg [] [2] [(2,.d (.v (.int .i64 (8:Int))))] [] 1 (by kernel_rfl) (trivial) ?_
     obtain hs:=Option.some.inj h; subst hs
     have h:=callE_esc hk1
     obtain hs:=Option.some.inj h; subst hs
     refine T_ret fun a w hm=>inBlock_ret (inBlock_ret (then_ret (then_ret (inBlock_ret (then_ret (then_ret (T_return (fr':=[(2,.d (.v (.int .i64 (8:Int))))]) [2] (by kernel_rfl) [.keep [2]] (by kernel_rfl) (by kernel_rfl) (by kernel_rfl) (by show _=_; kernel_rfl) (by exact trivial) a w hm)))))))
    ·have h:=cond_ff hc h
     obtain ⟨hp2,h⟩:=chk_ok h
     obtain ⟨z6,hz6,h⟩:=lett_ok h
     refine T_draw mixed [(9,{ cs:=cS_FontRange (a0.f2.getD (IntKind.i64.wrap (v1 - (1:Int))).toNat (S_FontRange.mk 0 0 0)) }),(12,{ rw:=some (.d (.v (.bool z6))) })] [1,8,9,10,57] [] [(1,.box [.d (.v (.int .i64 a0.f0)),.d (.sl 3 (a0.f1.map cS_FontGlyph)),.d (.sl 3 (a0.f2.map cS_FontRange)),.d (.sl 3 (a0.f3.map cS_FontPair))]),(8,.d (.sl 3 (a0.f2.map cS_FontRange))),(9,.d (.v (.int .i64 (a0.f2.length:Int)))),(10,.d (.v (.int .i64 v1))),(57,.d (.v (.bool (bif (decide (v1 > (0:Int))) then z6 else false))))] [(3,((((decide (v1 > (0:Int))) == true) && true)=true→True)),(0,((((decide (v1 > (0:Int))) == true) && true)=true→True)),(0,((((decide (v1 > (0:Int))) == true) && true)=true→True)),(0,((((decide (v1 > (0:Int))) == true) && true)=true→True)),(0,((((decide (v1 > (0:Int))) == true) && true)=true→True)),(0,((((decide (v1 > (0:Int))) == true) && true)=true→True)),(0,((((decide (v1 > (0:Int))) == true) && true)=true→0≤(IntKind.i64.wrap (v1 - (1:Int)))∧(a0.f2.map cS_FontRange)[(IntKind.i64.wrap (v1 - (1:Int))).toNat]? = some (cS_FontRange (a0.f2.getD (IntKind.i64.wrap (v1 - (1:Int))).toNat (S_FontRange.mk 0 0 0))))),(0,((((decide (v1 > (0:Int))) == true) && true)=true→True)),(0,((((decide (v1 > (0:Int))) == true) && true)=true→True)),(0,((((decide (v1 > (0:Int))) == true) && true)=true→(True)∧AV.d (.v (.bool (decide (((a0.f2.getD v1.toNat (S_FontRange.mk 0 0 0)).f0)≤((a0.f2.getD (IntKind.i64.wrap (v1 - (1:Int))).toNat (S_FontRange.mk 0 0 0)).f1)))))=.d (.v (.bool z6))))] 2 (by kernel_rfl) (⟨(fun hg=>trivial),(fun hg=>trivial),(fun hg=>trivial),(fun hg=>trivial),(fun hg=>trivial),(fun hg=>trivial),(fun hg=>idx_ok (d:=(S_FontRange.mk 0 0 0)) cS_FontRange (hp2 hg)),(fun hg=>trivial),(fun hg=>trivial),(fun hg=>⟨trivial,(by subst hz6; rfl)⟩)⟩) ?_
     refine T_cond (bif (decide (v1 > (0:Int))) then z6 else false) (by kernel_rfl) (fun hc=>?_) (fun hc=>?_)
     ·have h:=cond_tt hc h
      refine T_reg [] [2] [(2,.d (.v (.int .i64 (18:Int))))] [] 1 (by kernel_rfl) (trivial) ?_
      obtain hs:=Option.some.inj h; subst hs
      have h:=callE_esc hk1
      obtain hs:=Option.some.inj h; subst hs
      refine T_ret fun a w hm=>inBlock_ret (inBlock_ret (then_ret (then_ret (inBlock_ret (then_ret (then_ret (T_return (fr':=[(2,.d (.v (.int .i64 (18:Int))))]) [2] (by kernel_rfl) [.keep [2]] (by kernel_rfl) (by kernel_rfl) (by kernel_rfl) (by show _=_; kernel_rfl) (by exact trivial) a w hm)))))))
     ·have h:=cond_ff hc h
      refine T_skip fun a w hm=>inBlock_norm (inBlock_norm (then_norm (((?_:T Tryd.prog e 130 _ _ _) a w hm))))
      refine T_reg_end [] [1,8,9,10] [(10,.d (.v (.int .i64 (IntKind.i64.wrap (v1+(1:Int))))))] [] 2 (by kernel_rfl) (trivial) fun a w hm=>then_norm (⟨IntKind.i64.wrap (v1+(1:Int)),h,hm.co (cs:=[.keep [1,8,9,10]]) (by show _=_; kernel_rfl)⟩)
  ·have h:=cond_ff hc h
   obtain hs:=Option.some.inj h; subst hs
   refine T_exit fun a w hm=>then_exit (then_exit (inBlock_exit (then_norm (⟨_,rfl,hm.co (cs:=[.keep [1]]) (by show _=_; kernel_rfl)⟩))))
 ·skip
  refine fun a w hm=>then_norm (((?_:T Tryd.prog e 130 _ _ _) a w hm))
  refine T_seqk ?_
  refine T_reg [(2,{ rw:=some (.d (.v (.int .i64 (a0.f3.length:Int)))) })] [1,74,75,76] [(74,.d (.sl 3 (a0.f3.map cS_FontPair))),(75,.d (.v (.int .i64 (a0.f3.length:Int)))),(76,.d (.v (.int .i64 (0:Int))))] [(2,True∧AV.d (.v (.int .i64 ((a0.f3.map cS_FontPair).length:Int)))=.d (.v (.int .i64 (a0.f3.length:Int))))] 1 (by kernel_rfl) (len_ok cS_FontPair) ?_
  refine T_joinEt h (fun (p:Unit)=>[]) (fun s h hk2=>?_) (fun s h=>?_)
  ·refine T_co [.keep [1,74,75,76]] ((fun (p:Int)=>[(1,.box [.d (.v (.int .i64 a0.f0)),.d (.sl 3 (a0.f1.map cS_FontGlyph)),.d (.sl 3 (a0.f2.map cS_FontRange)),.d (.sl 3 (a0.f3.map cS_FontPair))]),(74,.d (.sl 3 (a0.f3.map cS_FontPair))),(75,.d (.v (.int .i64 (a0.f3.length:Int)))),(76,.d (.v (.int .i64 p)))]) (0:Int)) (by show _=_; kernel_rfl) ?_
   refine T_block ?_
   refine T_loopF (ι:=Int) (fun (p:Int)=>[(1,.box [.d (.v (.int .i64 a0.f0)),.d (.sl 3 (a0.f1.map cS_FontGlyph)),.d (.sl 3 (a0.f2.map cS_FontRange)),.d (.sl 3 (a0.f3.map cS_FontPair))]),(74,.d (.sl 3 (a0.f3.map cS_FontPair))),(75,.d (.v (.int .i64 (a0.f3.length:Int)))),(76,.d (.v (.int .i64 p)))]) (fun n p=>font_tables_L3 F a0 n p=some s) (fun i hh=>by simp [font_tables_L3] at hh) (fun n v2 h=>?_) F (0:Int) h
   have h:font_tables_L3 F a0 (n+1) v2=some s:=h
   rw [font_tables_L3] at h
   refine T_reg [] [1,74,75,76,77] [(77,.d (.v (.bool (decide (v2 < (a0.f3.length:Int))))))] [] 1 (by kernel_rfl) (trivial) ?_
   refine T_seqk ?_
   refine T_cond (decide (v2 < (a0.f3.length:Int))) (by kernel_rfl) (fun hc=>?_) (fun hc=>?_)
   ·have h:=cond_tt hc h
    refine T_skip fun a w hm=>then_norm (((?_:T Tryd.prog e 130 _ _ _) a w hm))
    refine T_seqk ?_
    refine T_block ?_
    obtain ⟨hp3,h⟩:=chk_ok h
    refine T_reg [(1,{ cs:=cS_FontPair (a0.f3.getD v2.toNat (S_FontPair.mk 0 0 0)) })] [1,5,6,74,75,76] [(5,.d (.v (.int .i64 v2))),(6,.box [.d (.v (.int .i64 ((a0.f3.getD v2.toNat (S_FontPair.mk 0 0 0)).f0))),.d (.v (.int .i64 ((a0.f3.getD v2.toNat (S_FontPair.mk 0 0 0)).f1))),.d (.v (.int .i64 ((a0.f3.getD v2.toNat (S_FontPair.mk 0 0 0)).f2)))])] [(1,0≤v2∧(a0.f3.map cS_FontPair)[v2.toNat]? = some (cS_FontPair (a0.f3.getD v2.toNat (S_FontPair.mk 0 0 0))))] 4 (by kernel_rfl) (idx_ok (d:=(S_FontPair.mk 0 0 0)) cS_FontPair hp3) ?_
    refine T_block ?_
    obtain ⟨z7,hz7,h⟩:=lett_ok h
    obtain ⟨z8,hz8,h⟩:=lett_ok h
    refine T_reg [(8,{ rw:=some (.d (.v (.int .i64 (a0.f1.length:Int)))) }),(10,{ rw:=some (.d (.v (.bool z7))) }),(21,{ rw:=some (.d (.v (.int .i64 (a0.f1.length:Int)))) }),(23,{ rw:=some (.d (.v (.bool z8))) })] [1,5,6,74,75,76,81] [(81,.d (.v (.bool z8)))] [(4,((((decide (((a0.f3.getD v2.toNat (S_FontPair.mk 0 0 0)).f0) < (0:Int))) == false) && true)=true→True)),(0,((((decide (((a0.f3.getD v2.toNat (S_FontPair.mk 0 0 0)).f0) < (0:Int))) == false) && true)=true→True)),(0,((((decide (((a0.f3.getD v2.toNat (S_FontPair.mk 0 0 0)).f0) < (0:Int))) == false) && true)=true→True)),(0,((((decide (((a0.f3.getD v2.toNat (S_FontPair.mk 0 0 0)).f0) < (0:Int))) == false) && true)=true→True)),(0,((((decide (((a0.f3.getD v2.toNat (S_FontPair.mk 0 0 0)).f0) < (0:Int))) == false) && true)=true→True∧AV.d (.v (.int .i64 ((a0.f1.map cS_FontGlyph).length:Int)))=.d (.v (.int .i64 (a0.f1.length:Int))))),(0,((((decide (((a0.f3.getD v2.toNat (S_FontPair.mk 0 0 0)).f0) < (0:Int))) == false) && true)=true→True)),(0,(True)∧AV.d (.v (.bool (bif (decide (((a0.f3.getD v2.toNat (S_FontPair.mk 0 0 0)).f0) < (0:Int))) then true else (decide (((a0.f3.getD v2.toNat (S_FontPair.mk 0 0 0)).f0) ≥ (a0.f1.length:Int))))))=.d (.v (.bool z7))),(1,(((z7 == false) && true)=true→True)),(0,(((z7 == false) && true)=true→True)),(0,(((z7 == false) && true)=true→True)),(2,((((bif z7 then true else (decide (((a0.f3.getD v2.toNat (S_FontPair.mk 0 0 0)).f1) < (0:Int)))) == false) && true)=true→True)),(0,((((bif z7 then true else (decide (((a0.f3.getD v2.toNat (S_FontPair.mk 0 0 0)).f1) < (0:Int)))) == false) && true)=true→True)),(0,((((bif z7 then true else (decide (((a0.f3.getD v2.toNat (S_FontPair.mk 0 0 0)).f1) < (0:Int)))) == false) && true)=true→True)),(0,((((bif z7 then true else (decide (((a0.f3.getD v2.toNat (S_FontPair.mk 0 0 0)).f1) < (0:Int)))) == false) && true)=true→True)),(0,((((bif z7 then true else (decide (((a0.f3.getD v2.toNat (S_FontPair.mk 0 0 0)).f1) < (0:Int)))) == false) && true)=true→True∧AV.d (.v (.int .i64 ((a0.f1.map cS_FontGlyph).length:Int)))=.d (.v (.int .i64 (a0.f1.length:Int))))),(0,((((bif z7 then true else (decide (((a0.f3.getD v2.toNat (S_FontPair.mk 0 0 0)).f1) < (0:Int)))) == false) && true)=true→True)),(0,(True)∧AV.d (.v (.bool (bif (bif z7 then true else (decide (((a0.f3.getD v2.toNat (S_FontPair.mk 0 0 0)).f1) < (0:Int)))) then true else (decide (((a0.f3.getD v2.toNat (S_FontPair.mk 0 0 0)).f1) ≥ (a0.f1.length:Int))))))=.d (.v (.bool z8)))] 1 (by kernel_rfl) (⟨(fun hg=>trivial),(fun hg=>trivial),(fun hg=>trivial),(fun hg=>trivial),(fun hg=>len_ok cS_FontGlyph),(fun hg=>trivial),⟨trivial,(by subst hz7; rfl)⟩,(fun hg=>trivial),(fun hg=>trivial),(fun hg=>trivial),(fun hg=>trivial),(fun hg=>trivial),(fun hg=>trivial),(fun hg=>trivial),(fun hg=>len_ok cS_FontGlyph),(fun hg=>trivial),⟨trivial,(by subst hz8; rfl)⟩⟩) ?_
    refine T_cond z8 (by kernel_rfl) (fun hc=>?_) (fun hc=>?_)
    ·have h:=cond_tt hc h
     refine T_reg [] [2] [(2,.d (.v (.int .i64 (8:Int))))] [] 1 (by kernel_rfl) (trivial) ?_
     obtain hs:=Option.some.inj h; subst hs
     have h:=callE_esc hk2
     obtain hs:=Option.some.inj h; subst hs
     refine T_ret fun a w hm=>inBlock_ret (inBlock_ret (then_ret (then_ret (inBlock_ret (then_ret (then_ret (T_return (fr':=[(2,.d (.v (.int .i64 (8:Int))))]) [2] (by kernel_rfl) [.keep [2]] (by kernel_rfl) (by kernel_rfl) (by kernel_rfl) (by show _=_; kernel_rfl) (by exact trivial) a w hm)))))))
    ·have h:=cond_ff hc h
     obtain ⟨y1,hy1,h⟩:=call_ok h
     refine T_reg [(6,{ res:=.d (.v (.bool y1)) })] [1,5,6,74,75,76,106] [(106,.d (.v (.bool (bif (((a0.f3.getD v2.toNat (S_FontPair.mk 0 0 0)).f2) == (0:Int)) then true else y1))))] [(4,((((((a0.f3.getD v2.toNat (S_FontPair.mk 0 0 0)).f2) == (0:Int)) == false) && true)=true→True)),(0,((((((a0.f3.getD v2.toNat (S_FontPair.mk 0 0 0)).f2) == (0:Int)) == false) && true)=true→True)),(0,((((((a0.f3.getD v2.toNat (S_FontPair.mk 0 0 0)).f2) == (0:Int)) == false) && true)=true→ACall Tryd.prog 46 [.d (.v (.int .i64 ((a0.f3.getD v2.toNat (S_FontPair.mk 0 0 0)).f2))),.d (.v (.int .i64 (2047:Int)))] [] (.d (.v (.bool y1))) []))] 2 (by kernel_rfl) (⟨(fun hg=>trivial),(fun hg=>trivial),(fun hg=>font_far_ok (gcall_ok hg hy1))⟩) ?_
     refine T_cond (bif (((a0.f3.getD v2.toNat (S_FontPair.mk 0 0 0)).f2) == (0:Int)) then true else y1) (by kernel_rfl) (fun hc=>?_) (fun hc=>?_)
     ·have h:=cond_tt hc h
      refine T_reg [] [2] [(2,.d (.v (.int .i64 (3:Int))))] [] 1 (by kernel_rfl) (trivial) ?_
      obtain hs:=Option.some.inj h; subst hs
      have h:=callE_esc hk2
      obtain hs:=Option.some.inj h; subst hs
      refine T_ret fun a w hm=>inBlock_ret (inBlock_ret (then_ret (then_ret (inBlock_ret (then_ret (then_ret (T_return (fr':=[(2,.d (.v (.int .i64 (3:Int))))]) [2] (by kernel_rfl) [.keep [2]] (by kernel_rfl) (by kernel_rfl) (by kernel_rfl) (by show _=_; kernel_rfl) (by exact trivial) a w hm)))))))
     ·have h:=cond_ff hc h
      obtain ⟨hp4,h⟩:=chk_ok h
      obtain ⟨y2,hy2,h⟩:=call_ok h
      refine T_drawX mixed 1 (.take 0 (.take 1 (.take 2 (.take 3 (.take 4 (.take 5 (.take 6 (.take 7 (.take 8 (.take 9 (.all (.alt 10 (.take 11 (.take 12 (.take 13 .done))) .stop)))))))))))) ([0,1,2,4,12,4,36,84,132,4,772,1028,2052,5120],[0,1,2,4,12,4,36,84,132,4,772,1028,2052,4096]) 15359 [(7,{ cs:=cS_FontPair (a0.f3.getD (IntKind.i64.wrap (v2 - (1:Int))).toNat (S_FontPair.mk 0 0 0)) }),(10,{ res:=.d (.v (.int .i64 y2)) })] [1,74,75,76,115] [] [(1,.box [.d (.v (.int .i64 a0.f0)),.d (.sl 3 (a0.f1.map cS_FontGlyph)),.d (.sl 3 (a0.f2.map cS_FontRange)),.d (.sl 3 (a0.f3.map cS_FontPair))]),(74,.d (.sl 3 (a0.f3.map cS_FontPair))),(75,.d (.v (.int .i64 (a0.f3.length:Int)))),(76,.d (.v (.int .i64 v2))),(115,.d (.v (.bool (bif (decide (v2 > (0:Int))) then (decide (y2 ≥ (0:Int))) else false))))] ((fun (o3:Prop)=>fun (o4:Prop)=>fun (o5:Prop)=>fun (o6:Prop)=>fun (o7:Prop)=>fun (o8:Prop)=>fun (o9:Prop)=>fun (o10:Prop)=>fun (o11:Prop)=>[(3,o3),(0,o4),(0,o5),(0,o6),(0,o7),(0,o8),(0,o9),(0,o10),(0,o11)]) (((((decide (v2 > (0:Int))) == true) && true)=true→True)) (((((decide (v2 > (0:Int))) == true) && true)=true→True)) (((((decide (v2 > (0:Int))) == true) && true)=true→True)) (((((decide (v2 > (0:Int))) == true) && true)=true→True)) (((((decide (v2 > (0:Int))) == true) && true)=true→0≤(IntKind.i64.wrap (v2 - (1:Int)))∧(a0.f3.map cS_FontPair)[(IntKind.i64.wrap (v2 - (1:Int))).toNat]? = some (cS_FontPair (a0.f3.getD (IntKind.i64.wrap (v2 - (1:Int))).toNat (S_FontPair.mk 0 0 0))))) (((((decide (v2 > (0:Int))) == true) && true)=true→True)) (((((decide (v2 > (0:Int))) == true) && true)=true→True)) (((((decide (v2 > (0:Int))) == true) && true)=true→ACall Tryd.prog 44 [.agg (cS_FontPair (a0.f3.getD (IntKind.i64.wrap (v2 - (1:Int))).toNat (S_FontPair.mk 0 0 0))),.agg (cS_FontPair (a0.f3.getD v2.toNat (S_FontPair.mk 0 0 0)))] [] (.d (.v (.int .i64 y2))) [])) (((((decide (v2 > (0:Int))) == true) && true)=true→True))) 2 (by kernel_rfl) (by kernel_rfl) (by kernel_rfl) (have p3:=(fun hg=>trivial); have p4:=(fun hg=>trivial); have p5:=(fun hg=>trivial); have p6:=(fun hg=>trivial); have p7:=(fun hg=>idx_ok (d:=(S_FontPair.mk 0 0 0)) cS_FontPair (hp4 hg)); have p8:=(fun hg=>trivial); have p9:=(fun hg=>trivial); have p10:=(fun hg=>font_pairs_ok (gcall_ok hg hy2)); have p11:=(fun hg=>trivial); ⟨p3,p4,p5,p6,p7,p8,p9,p10,p11⟩) ?_
      refine T_cond (bif (decide (v2 > (0:Int))) then (decide (y2 ≥ (0:Int))) else false) (by kernel_rfl) (fun hc=>?_) (fun hc=>?_)
      ·have h:=cond_tt hc h
       refine T_reg [] [2] [(2,.d (.v (.int .i64 (18:Int))))] [] 1 (by kernel_rfl) (trivial) ?_
       obtain hs:=Option.some.inj h; subst hs
       have h:=callE_esc hk2
       obtain hs:=Option.some.inj h; subst hs
       refine T_ret fun a w hm=>inBlock_ret (inBlock_ret (then_ret (then_ret (inBlock_ret (then_ret (then_ret (T_return (fr':=[(2,.d (.v (.int .i64 (18:Int))))]) [2] (by kernel_rfl) [.keep [2]] (by kernel_rfl) (by kernel_rfl) (by kernel_rfl) (by show _=_; kernel_rfl) (by exact trivial) a w hm)))))))
      ·have h:=cond_ff hc h
       refine T_skip fun a w hm=>inBlock_norm (inBlock_norm (then_norm (((?_:T Tryd.prog e 130 _ _ _) a w hm))))
       refine T_reg_end [] [1,74,75,76] [(76,.d (.v (.int .i64 (IntKind.i64.wrap (v2+(1:Int))))))] [] 2 (by kernel_rfl) (trivial) fun a w hm=>then_norm (⟨IntKind.i64.wrap (v2+(1:Int)),h,hm.co (cs:=[.keep [1,74,75,76]]) (by show _=_; kernel_rfl)⟩)
   ·have h:=cond_ff hc h
    obtain hs:=Option.some.inj h; subst hs
    refine T_exit fun a w hm=>then_exit (then_exit (inBlock_exit (then_norm (⟨_,rfl,hm.co (cs:=[.keep []]) (by show _=_; kernel_rfl)⟩))))
  ·skip
   refine fun a w hm=>then_norm (((?_:T Tryd.prog e 130 _ _ _) a w hm))
   refine T_reg [] [2] [(2,.d (.v (.int .i64 (0:Int))))] [] 1 (by kernel_rfl) (trivial) ?_
   obtain hs:=Option.some.inj h; subst hs
   refine T_ret fun a w hm=>T_return (fr':=[(2,.d (.v (.int .i64 (0:Int))))]) [2] (by kernel_rfl) [.keep [2]] (by kernel_rfl) (by kernel_rfl) (by kernel_rfl) (by show _=_; kernel_rfl) (by exact trivial) a w hm
theorem font_visit_body_ok {F:Nat} {rec_font_visit:S_Font→Int→(List S_font_nest)→Option (Int×(List S_font_nest))} (hrec_font_visit:∀ {a0:S_Font},∀ {a1:Int},∀ {c2:List S_font_nest},∀ {r:Int×(List S_font_nest)},rec_font_visit a0 a1 c2=some r→ACall Tryd.prog 31 [.agg (cS_Font a0),.d (.v (.int .i64 a1)),.vw (1000000,0)] [.own 77 3 (c2.map cS_font_nest)] (.d (.v (.int .i64 r.1))) [.own 77 3 (r.2.map cS_font_nest)]) {a0:S_Font} {a1:Int} {c2:List S_font_nest} {r:Int×(List S_font_nest)} (h:font_visit_body F rec_font_visit a0 a1 c2=some r):ACall Tryd.prog 31 [.agg (cS_Font a0),.d (.v (.int .i64 a1)),.vw (1000000,0)] [.own 77 3 (c2.map cS_font_nest)] (.d (.v (.int .i64 r.1))) [.own 77 3 (r.2.map cS_font_nest)]:=by
 rw [font_visit_body] at h
 refine ACall.intro (N:=91) Tryd.func31 rfl rfl rfl rfl rfl fun e=>?_
 refine T_reg [] [1,2,3,1000000] [(3,.box [.d (.v (.int .i64 a0.f0)),.d (.sl 3 (a0.f1.map cS_FontGlyph)),.d (.sl 3 (a0.f2.map cS_FontRange)),.d (.sl 3 (a0.f3.map cS_FontPair))])] [] 2 (by kernel_rfl) (trivial) ?_
 refine T_seqk ?_
 obtain ⟨hp1,h⟩:=chk_ok h
 refine T_reg [(4,{ cs:=cS_font_nest (c2.getD a1.toNat (S_font_nest.mk 0 0 0)) })] [1,2,3,17,1000000] [(17,.d (.v (.int .i64 ((c2.getD a1.toNat (S_font_nest.mk 0 0 0)).f0))))] [(2,0≤a1∧a1 < (c2.map cS_font_nest).length),(1,(c2.map cS_font_nest)[a1.toNat]? = some (cS_font_nest (c2.getD a1.toNat (S_font_nest.mk 0 0 0))))] 0 (by kernel_rfl) (⟨own_idx cS_font_nest hp1,(idx_ok (d:=(S_font_nest.mk 0 0 0)) cS_font_nest hp1).2⟩) ?_
 refine T_block ?_
 refine T_reg [] [1,2,3,17,18,1000000] [(18,.d (.v (.bool (((c2.getD a1.toNat (S_font_nest.mk 0 0 0)).f0) == (1:Int)))))] [] 2 (by kernel_rfl) (trivial) ?_
 refine T_cond (((c2.getD a1.toNat (S_font_nest.mk 0 0 0)).f0) == (1:Int)) (by kernel_rfl) (fun hc=>?_) (fun hc=>?_)
 ·have h:=cond_tt hc h
  refine T_reg [] [6,1000000] [(6,.d (.v (.int .i64 (13:Int))))] [] 1 (by kernel_rfl) (trivial) ?_
  obtain hs:=Option.some.inj h; subst hs
  refine T_ret fun a w hm=>inBlock_ret (then_ret (T_return (fr':=[(6,.d (.v (.int .i64 (13:Int)))),(1000000,.own 77 3 (c2.map cS_font_nest))]) [6] (by kernel_rfl) [.keep [6,1000000]] (by kernel_rfl) (by kernel_rfl) (by kernel_rfl) (by show _=_; kernel_rfl) (by exact ⟨⟨by kernel_rfl,by kernel_rfl⟩,trivial⟩) a w hm))
 ·have h:=cond_ff hc h
  refine T_reg [] [1,2,3,20,1000000] [(20,.d (.v (.bool (((c2.getD a1.toNat (S_font_nest.mk 0 0 0)).f0) == (2:Int)))))] [] 2 (by kernel_rfl) (trivial) ?_
  refine T_cond (((c2.getD a1.toNat (S_font_nest.mk 0 0 0)).f0) == (2:Int)) (by kernel_rfl) (fun hc=>?_) (fun hc=>?_)
  ·have h:=cond_tt hc h
   refine T_reg [] [6,1000000] [(6,.d (.v (.int .i64 (0:Int))))] [] 1 (by kernel_rfl) (trivial) ?_
   obtain hs:=Option.some.inj h; subst hs
   refine T_ret fun a w hm=>inBlock_ret (then_ret (T_return (fr':=[(6,.d (.v (.int .i64 (0:Int)))),(1000000,.own 77 3 (c2.map cS_font_nest))]) [6] (by kernel_rfl) [.keep [6,1000000]] (by kernel_rfl) (by kernel_rfl) (by kernel_rfl) (by show _=_; kernel_rfl) (by exact ⟨⟨by kernel_rfl,by kernel_rfl⟩,trivial⟩) a w hm))
  ·have h:=cond_ff hc h
   refine T_skip fun a w hm=>inBlock_norm (then_norm (((?_:T Tryd.prog e 91 _ _ _) a w hm)))
   obtain ⟨hp2,h⟩:=chk_ok h
   refine T_reg [(4,{ cs:=cS_font_nest (c2.getD a1.toNat (S_font_nest.mk 0 0 0)),es:=some ((c2.set a1.toNat (S_font_nest.mk (1:Int) ((c2.getD a1.toNat (S_font_nest.mk 0 0 0)).f1) ((c2.getD a1.toNat (S_font_nest.mk 0 0 0)).f2))).map cS_font_nest) })] [1,2,3,1000000] [(1000000,.own 77 3 ((c2.set a1.toNat (S_font_nest.mk (1:Int) ((c2.getD a1.toNat (S_font_nest.mk 0 0 0)).f1) ((c2.getD a1.toNat (S_font_nest.mk 0 0 0)).f2))).map cS_font_nest))] [(2,0≤a1∧a1 < (c2.map cS_font_nest).length),(1,(c2.map cS_font_nest)[a1.toNat]? = some (cS_font_nest (c2.getD a1.toNat (S_font_nest.mk 0 0 0)))∧(c2.map cS_font_nest).set a1.toNat (cS_font_nest (S_font_nest.mk (1:Int) ((c2.getD a1.toNat (S_font_nest.mk 0 0 0)).f1) ((c2.getD a1.toNat (S_font_nest.mk 0 0 0)).f2)))=((c2.set a1.toNat (S_font_nest.mk (1:Int) ((c2.getD a1.toNat (S_font_nest.mk 0 0 0)).f1) ((c2.getD a1.toNat (S_font_nest.mk 0 0 0)).f2))).map cS_font_nest))] 0 (by kernel_rfl) (⟨own_idx cS_font_nest hp2,⟨(idx_ok (d:=(S_font_nest.mk 0 0 0)) cS_font_nest hp2).2,set_ok cS_font_nest rfl⟩⟩) ?_
   refine T_reg [] [1,2,3,7,1000000] [(7,.box [.d (.v (.int .i64 (2:Int))),.d (.v (.int .i64 (1:Int))),.d (.v (.int .i64 0))])] [] 3 (by kernel_rfl) (trivial) ?_
   refine T_seqk ?_
   obtain ⟨hp3,h⟩:=chk_ok h
   refine T_reg [(3,{ cs:=cS_FontGlyph (a0.f1.getD a1.toNat (S_FontGlyph.mk 0 [] [])) }),(6,{ rw:=some (.d (.v (.int .i64 (((a0.f1.getD a1.toNat (S_FontGlyph.mk 0 [] [])).f1).length:Int)))) })] [1,2,3,7,32,33,34,1000000] [(32,.d (.sl 1 (((a0.f1.getD a1.toNat (S_FontGlyph.mk 0 [] [])).f1).map (cL 3 cS_FontPoint)))),(33,.d (.v (.int .i64 (((a0.f1.getD a1.toNat (S_FontGlyph.mk 0 [] [])).f1).length:Int)))),(34,.d (.v (.int .i64 (0:Int))))] [(3,0≤a1∧(a0.f1.map cS_FontGlyph)[a1.toNat]? = some (cS_FontGlyph (a0.f1.getD a1.toNat (S_FontGlyph.mk 0 [] [])))),(2,True∧AV.d (.v (.int .i64 ((((a0.f1.getD a1.toNat (S_FontGlyph.mk 0 [] [])).f1).map (cL 3 cS_FontPoint)).length:Int)))=.d (.v (.int .i64 (((a0.f1.getD a1.toNat (S_FontGlyph.mk 0 [] [])).f1).length:Int))))] 1 (by kernel_rfl) (⟨idx_ok (d:=(S_FontGlyph.mk 0 [] [])) cS_FontGlyph hp3,len_ok (cL 3 cS_FontPoint)⟩) ?_
   refine T_joinct h (fun (p:Int)=>[(1,.d (.v (.int .i64 a1))),(2,.vw (1000000,0)),(3,.box [.d (.v (.int .i64 a0.f0)),.d (.sl 3 (a0.f1.map cS_FontGlyph)),.d (.sl 3 (a0.f2.map cS_FontRange)),.d (.sl 3 (a0.f3.map cS_FontPair))]),(7,.box [.d (.v (.int .i64 (2:Int))),.d (.v (.int .i64 (1:Int))),.d (.v (.int .i64 p))]),(1000000,.own 77 3 ((c2.set a1.toNat (S_font_nest.mk (1:Int) ((c2.getD a1.toNat (S_font_nest.mk 0 0 0)).f1) ((c2.getD a1.toNat (S_font_nest.mk 0 0 0)).f2))).map cS_font_nest))]) (fun s h=>?_) (fun v7 h=>?_)
   ·refine T_co [.keep [1,2,3,7,32,33,34,1000000]] ((fun (p:Int×Int)=>[(1,.d (.v (.int .i64 a1))),(2,.vw (1000000,0)),(3,.box [.d (.v (.int .i64 a0.f0)),.d (.sl 3 (a0.f1.map cS_FontGlyph)),.d (.sl 3 (a0.f2.map cS_FontRange)),.d (.sl 3 (a0.f3.map cS_FontPair))]),(7,.box [.d (.v (.int .i64 (2:Int))),.d (.v (.int .i64 (1:Int))),.d (.v (.int .i64 p.1))]),(32,.d (.sl 1 (((a0.f1.getD a1.toNat (S_FontGlyph.mk 0 [] [])).f1).map (cL 3 cS_FontPoint)))),(33,.d (.v (.int .i64 (((a0.f1.getD a1.toNat (S_FontGlyph.mk 0 [] [])).f1).length:Int)))),(34,.d (.v (.int .i64 p.2))),(1000000,.own 77 3 ((c2.set a1.toNat (S_font_nest.mk (1:Int) ((c2.getD a1.toNat (S_font_nest.mk 0 0 0)).f1) ((c2.getD a1.toNat (S_font_nest.mk 0 0 0)).f2))).map cS_font_nest))]) (0,(0:Int))) (by show _=_; kernel_rfl) ?_
    refine T_block ?_
    refine T_loopF (ι:=Int×Int) (fun (p:Int×Int)=>[(1,.d (.v (.int .i64 a1))),(2,.vw (1000000,0)),(3,.box [.d (.v (.int .i64 a0.f0)),.d (.sl 3 (a0.f1.map cS_FontGlyph)),.d (.sl 3 (a0.f2.map cS_FontRange)),.d (.sl 3 (a0.f3.map cS_FontPair))]),(7,.box [.d (.v (.int .i64 (2:Int))),.d (.v (.int .i64 (1:Int))),.d (.v (.int .i64 p.1))]),(32,.d (.sl 1 (((a0.f1.getD a1.toNat (S_FontGlyph.mk 0 [] [])).f1).map (cL 3 cS_FontPoint)))),(33,.d (.v (.int .i64 (((a0.f1.getD a1.toNat (S_FontGlyph.mk 0 [] [])).f1).length:Int)))),(34,.d (.v (.int .i64 p.2))),(1000000,.own 77 3 ((c2.set a1.toNat (S_font_nest.mk (1:Int) ((c2.getD a1.toNat (S_font_nest.mk 0 0 0)).f1) ((c2.getD a1.toNat (S_font_nest.mk 0 0 0)).f2))).map cS_font_nest))]) (fun n p=>font_visit_L1 F a0 a1 n p.1 p.2=some s) (fun i hh=>by simp [font_visit_L1] at hh) (fun n p h=>?_) F (0,(0:Int)) h
    obtain ⟨v1,v2⟩:=p
    have h:font_visit_L1 F a0 a1 (n+1) v1 v2=some s:=h
    rw [font_visit_L1] at h
    refine T_reg [] [1,2,3,7,32,33,34,35,1000000] [(35,.d (.v (.bool (decide (v2 < (((a0.f1.getD a1.toNat (S_FontGlyph.mk 0 [] [])).f1).length:Int))))))] [] 1 (by kernel_rfl) (trivial) ?_
    refine T_seqk ?_
    refine T_cond (decide (v2 < (((a0.f1.getD a1.toNat (S_FontGlyph.mk 0 [] [])).f1).length:Int))) (by kernel_rfl) (fun hc=>?_) (fun hc=>?_)
    ·have h:=cond_tt hc h
     refine T_skip fun a w hm=>then_norm (((?_:T Tryd.prog e 91 _ _ _) a w hm))
     refine T_seqk ?_
     refine T_block ?_
     obtain ⟨hp4,h⟩:=chk_ok h
     refine T_reg [(0,{ cs:=(cL 3 cS_FontPoint) (((a0.f1.getD a1.toNat (S_FontGlyph.mk 0 [] [])).f1).getD v2.toNat []) })] [1,2,3,7,9,32,33,34,1000000] [(9,.d (.sl 3 ((((a0.f1.getD a1.toNat (S_FontGlyph.mk 0 [] [])).f1).getD v2.toNat []).map cS_FontPoint)))] [(0,0≤v2∧(((a0.f1.getD a1.toNat (S_FontGlyph.mk 0 [] [])).f1).map (cL 3 cS_FontPoint))[v2.toNat]? = some ((cL 3 cS_FontPoint) (((a0.f1.getD a1.toNat (S_FontGlyph.mk 0 [] [])).f1).getD v2.toNat [])))] 2 (by kernel_rfl) (idx_ok (d:=[]) (cL 3 cS_FontPoint) hp4) ?_
     obtain ⟨z1,hz1,h⟩:=lett_ok h
     refine T_reg_end [(3,{ rw:=some (.d (.v (.int .i64 ((((a0.f1.getD a1.toNat (S_FontGlyph.mk 0 [] [])).f1).getD v2.toNat []).length:Int)))) }),(4,{ rw:=some (.d (.v (.int .i64 z1))) })] [1,2,3,7,32,33,34,1000000] [(7,.box [.d (.v (.int .i64 (2:Int))),.d (.v (.int .i64 (1:Int))),.d (.v (.int .i64 z1))])] [(3,True∧AV.d (.v (.int .i64 (((((a0.f1.getD a1.toNat (S_FontGlyph.mk 0 [] [])).f1).getD v2.toNat []).map cS_FontPoint).length:Int)))=.d (.v (.int .i64 ((((a0.f1.getD a1.toNat (S_FontGlyph.mk 0 [] [])).f1).getD v2.toNat []).length:Int)))),(0,(True)∧AV.d (.v (.int .i64 (IntKind.i64.wrap (v1+((((a0.f1.getD a1.toNat (S_FontGlyph.mk 0 [] [])).f1).getD v2.toNat []).length:Int)))))=.d (.v (.int .i64 z1)))] 2 (by kernel_rfl) (⟨len_ok cS_FontPoint,⟨trivial,(by subst hz1; rfl)⟩⟩) fun a w hm=>inBlock_norm (then_norm (((?_:T Tryd.prog e 91 _ _ _) a w hm)))
     refine T_reg_end [] [1,2,3,7,32,33,34,1000000] [(34,.d (.v (.int .i64 (IntKind.i64.wrap (v2+(1:Int))))))] [] 2 (by kernel_rfl) (trivial) fun a w hm=>then_norm (⟨(z1,IntKind.i64.wrap (v2+(1:Int))),h,hm.co (cs:=[.keep [1,2,3,7,32,33,34,1000000]]) (by show _=_; kernel_rfl)⟩)
    ·have h:=cond_ff hc h
     obtain hs:=Option.some.inj h; subst hs
     refine T_exit fun a w hm=>then_exit (then_exit (inBlock_exit (then_norm (hm.co (cs:=[.keep [1,2,3,7,1000000]]) (by show _=_; kernel_rfl)))))
   ·skip
    refine fun a w hm=>then_norm (((?_:T Tryd.prog e 91 _ _ _) a w hm))
    refine T_seqk ?_
    obtain ⟨hp5,h⟩:=chk_ok h
    refine T_reg [(3,{ cs:=cS_FontGlyph (a0.f1.getD a1.toNat (S_FontGlyph.mk 0 [] [])) }),(6,{ rw:=some (.d (.v (.int .i64 (((a0.f1.getD a1.toNat (S_FontGlyph.mk 0 [] [])).f2).length:Int)))) })] [1,2,3,7,50,51,52,1000000] [(50,.d (.sl 3 (((a0.f1.getD a1.toNat (S_FontGlyph.mk 0 [] [])).f2).map cS_FontPart))),(51,.d (.v (.int .i64 (((a0.f1.getD a1.toNat (S_FontGlyph.mk 0 [] [])).f2).length:Int)))),(52,.d (.v (.int .i64 (0:Int))))] [(3,0≤a1∧(a0.f1.map cS_FontGlyph)[a1.toNat]? = some (cS_FontGlyph (a0.f1.getD a1.toNat (S_FontGlyph.mk 0 [] [])))),(2,True∧AV.d (.v (.int .i64 ((((a0.f1.getD a1.toNat (S_FontGlyph.mk 0 [] [])).f2).map cS_FontPart).length:Int)))=.d (.v (.int .i64 (((a0.f1.getD a1.toNat (S_FontGlyph.mk 0 [] [])).f2).length:Int))))] 1 (by kernel_rfl) (⟨idx_ok (d:=(S_FontGlyph.mk 0 [] [])) cS_FontGlyph hp5,len_ok cS_FontPart⟩) ?_
    refine T_joinEt h (fun (p:Int×Int×(List S_font_nest))=>[(1,.d (.v (.int .i64 a1))),(2,.vw (1000000,0)),(7,.box [.d (.v (.int .i64 (2:Int))),.d (.v (.int .i64 p.1)),.d (.v (.int .i64 p.2.1))]),(1000000,.own 77 3 (p.2.2.map cS_font_nest))]) (fun s h hk1=>?_) (fun s h=>?_)
    ·refine T_co [.keep [1,2,3,7,50,51,52,1000000]] ((fun (p:Int×Int×Int×(List S_font_nest))=>[(1,.d (.v (.int .i64 a1))),(2,.vw (1000000,0)),(3,.box [.d (.v (.int .i64 a0.f0)),.d (.sl 3 (a0.f1.map cS_FontGlyph)),.d (.sl 3 (a0.f2.map cS_FontRange)),.d (.sl 3 (a0.f3.map cS_FontPair))]),(7,.box [.d (.v (.int .i64 (2:Int))),.d (.v (.int .i64 p.1)),.d (.v (.int .i64 p.2.1))]),(50,.d (.sl 3 (((a0.f1.getD a1.toNat (S_FontGlyph.mk 0 [] [])).f2).map cS_FontPart))),(51,.d (.v (.int .i64 (((a0.f1.getD a1.toNat (S_FontGlyph.mk 0 [] [])).f2).length:Int)))),(52,.d (.v (.int .i64 p.2.2.1))),(1000000,.own 77 3 (p.2.2.2.map cS_font_nest))]) ((1:Int),v7,(0:Int),(c2.set a1.toNat (S_font_nest.mk (1:Int) ((c2.getD a1.toNat (S_font_nest.mk 0 0 0)).f1) ((c2.getD a1.toNat (S_font_nest.mk 0 0 0)).f2))))) (by show _=_; kernel_rfl) ?_
     refine T_block ?_
     refine T_loopF (ι:=Int×Int×Int×(List S_font_nest)) (fun (p:Int×Int×Int×(List S_font_nest))=>[(1,.d (.v (.int .i64 a1))),(2,.vw (1000000,0)),(3,.box [.d (.v (.int .i64 a0.f0)),.d (.sl 3 (a0.f1.map cS_FontGlyph)),.d (.sl 3 (a0.f2.map cS_FontRange)),.d (.sl 3 (a0.f3.map cS_FontPair))]),(7,.box [.d (.v (.int .i64 (2:Int))),.d (.v (.int .i64 p.1)),.d (.v (.int .i64 p.2.1))]),(50,.d (.sl 3 (((a0.f1.getD a1.toNat (S_FontGlyph.mk 0 [] [])).f2).map cS_FontPart))),(51,.d (.v (.int .i64 (((a0.f1.getD a1.toNat (S_FontGlyph.mk 0 [] [])).f2).length:Int)))),(52,.d (.v (.int .i64 p.2.2.1))),(1000000,.own 77 3 (p.2.2.2.map cS_font_nest))]) (fun n p=>font_visit_L3 F a0 a1 rec_font_visit n p.1 p.2.1 p.2.2.1 p.2.2.2=some s) (fun i hh=>by simp [font_visit_L3] at hh) (fun n p h=>?_) F ((1:Int),v7,(0:Int),(c2.set a1.toNat (S_font_nest.mk (1:Int) ((c2.getD a1.toNat (S_font_nest.mk 0 0 0)).f1) ((c2.getD a1.toNat (S_font_nest.mk 0 0 0)).f2)))) h
     obtain ⟨v3,v4,v5,v6⟩:=p
     have h:font_visit_L3 F a0 a1 rec_font_visit (n+1) v3 v4 v5 v6=some s:=h
     rw [font_visit_L3] at h
     refine T_reg [] [1,2,3,7,50,51,52,53,1000000] [(53,.d (.v (.bool (decide (v5 < (((a0.f1.getD a1.toNat (S_FontGlyph.mk 0 [] [])).f2).length:Int))))))] [] 1 (by kernel_rfl) (trivial) ?_
     refine T_seqk ?_
     refine T_cond (decide (v5 < (((a0.f1.getD a1.toNat (S_FontGlyph.mk 0 [] [])).f2).length:Int))) (by kernel_rfl) (fun hc=>?_) (fun hc=>?_)
     ·have h:=cond_tt hc h
      refine T_skip fun a w hm=>then_norm (((?_:T Tryd.prog e 91 _ _ _) a w hm))
      refine T_seqk ?_
      refine T_block ?_
      obtain ⟨hp6,h⟩:=chk_ok h
      refine T_reg [(0,{ cs:=cS_FontPart (((a0.f1.getD a1.toNat (S_FontGlyph.mk 0 [] [])).f2).getD v5.toNat (S_FontPart.mk 0 0 0)) })] [1,2,3,7,11,50,51,52,1000000] [(11,.box [.d (.v (.int .i64 ((((a0.f1.getD a1.toNat (S_FontGlyph.mk 0 [] [])).f2).getD v5.toNat (S_FontPart.mk 0 0 0)).f0))),.d (.v (.int .i64 ((((a0.f1.getD a1.toNat (S_FontGlyph.mk 0 [] [])).f2).getD v5.toNat (S_FontPart.mk 0 0 0)).f1))),.d (.v (.int .i64 ((((a0.f1.getD a1.toNat (S_FontGlyph.mk 0 [] [])).f2).getD v5.toNat (S_FontPart.mk 0 0 0)).f2)))])] [(0,0≤v5∧(((a0.f1.getD a1.toNat (S_FontGlyph.mk 0 [] [])).f2).map cS_FontPart)[v5.toNat]? = some (cS_FontPart (((a0.f1.getD a1.toNat (S_FontGlyph.mk 0 [] [])).f2).getD v5.toNat (S_FontPart.mk 0 0 0))))] 3 (by kernel_rfl) (idx_ok (d:=(S_FontPart.mk 0 0 0)) cS_FontPart hp6) ?_
      refine T_seqk ?_
      obtain ⟨y1,hy1,h⟩:=call_ok h
      refine T_reg [(4,{ res:=.d (.v (.int .i64 y1.1)),vout:=[.own 77 3 (y1.2.map cS_font_nest)],xs:=[1000000] })] [1,2,3,7,11,12,50,51,52,1000000] [(12,.d (.v (.int .i64 y1.1))),(1000000,.own 77 3 (y1.2.map cS_font_nest))] [(4,ACall Tryd.prog 31 [.agg (cS_Font a0),.d (.v (.int .i64 ((((a0.f1.getD a1.toNat (S_FontGlyph.mk 0 [] [])).f2).getD v5.toNat (S_FontPart.mk 0 0 0)).f0))),.vw (1000000,0)] [.own 77 3 (v6.map cS_font_nest)] (.d (.v (.int .i64 y1.1))) [.own 77 3 (y1.2.map cS_font_nest)])] 1 (by kernel_rfl) (hrec_font_visit hy1) ?_
      refine T_reg [] [1,2,3,7,11,12,50,51,52,62,1000000] [(62,.d (.v (.bool (y1.1 != (0:Int)))))] [] 2 (by kernel_rfl) (trivial) ?_
      refine T_cond (y1.1 != (0:Int)) (by kernel_rfl) (fun hc=>?_) (fun hc=>?_)
      ·have h:=cond_tt hc h
       refine T_reg [] [6,1000000] [(6,.d (.v (.int .i64 y1.1)))] [] 2 (by kernel_rfl) (trivial) ?_
       obtain hs:=Option.some.inj h; subst hs
       have h:=callE_esc hk1
       obtain hs:=Option.some.inj h; subst hs
       refine T_ret fun a w hm=>then_ret (inBlock_ret (then_ret (then_ret (inBlock_ret (then_ret (then_ret (T_return (fr':=[(6,.d (.v (.int .i64 y1.1))),(1000000,.own 77 3 (y1.2.map cS_font_nest))]) [6] (by kernel_rfl) [.keep [6,1000000]] (by kernel_rfl) (by kernel_rfl) (by kernel_rfl) (by show _=_; kernel_rfl) (by exact ⟨⟨by kernel_rfl,by kernel_rfl⟩,trivial⟩) a w hm)))))))
      ·have h:=cond_ff hc h
       refine T_skip fun a w hm=>then_norm (((?_:T Tryd.prog e 91 _ _ _) a w hm))
       obtain ⟨hp7,h⟩:=chk_ok h
       obtain ⟨z2,hz2,h⟩:=lett_ok h
       obtain ⟨z3,hz3,h⟩:=lett_ok h
       refine T_drawS mixed 11 [(7,{ cs:=cS_font_nest (y1.2.getD ((((a0.f1.getD a1.toNat (S_FontGlyph.mk 0 [] [])).f2).getD v5.toNat (S_FontPart.mk 0 0 0)).f0).toNat (S_font_nest.mk 0 0 0)),rw:=some (.d (.v (.int .i64 z2))) }),(9,{ rw:=some (.d (.v (.int .i64 z3))) })] [1,2,3,7,11,50,51,52,1000000] [] [(1,.d (.v (.int .i64 a1))),(2,.vw (1000000,0)),(3,.box [.d (.v (.int .i64 a0.f0)),.d (.sl 3 (a0.f1.map cS_FontGlyph)),.d (.sl 3 (a0.f2.map cS_FontRange)),.d (.sl 3 (a0.f3.map cS_FontPair))]),(7,.box [.d (.v (.int .i64 (2:Int))),.d (.v (.int .i64 z3)),.d (.v (.int .i64 v4))]),(11,.box [.d (.v (.int .i64 ((((a0.f1.getD a1.toNat (S_FontGlyph.mk 0 [] [])).f2).getD v5.toNat (S_FontPart.mk 0 0 0)).f0))),.d (.v (.int .i64 ((((a0.f1.getD a1.toNat (S_FontGlyph.mk 0 [] [])).f2).getD v5.toNat (S_FontPart.mk 0 0 0)).f1))),.d (.v (.int .i64 ((((a0.f1.getD a1.toNat (S_FontGlyph.mk 0 [] [])).f2).getD v5.toNat (S_FontPart.mk 0 0 0)).f2)))]),(50,.d (.sl 3 (((a0.f1.getD a1.toNat (S_FontGlyph.mk 0 [] [])).f2).map cS_FontPart))),(51,.d (.v (.int .i64 (((a0.f1.getD a1.toNat (S_FontGlyph.mk 0 [] [])).f2).length:Int)))),(52,.d (.v (.int .i64 v5))),(1000000,.own 77 3 (y1.2.map cS_font_nest))] [(5,0≤((((a0.f1.getD a1.toNat (S_FontGlyph.mk 0 [] [])).f2).getD v5.toNat (S_FontPart.mk 0 0 0)).f0)∧((((a0.f1.getD a1.toNat (S_FontGlyph.mk 0 [] [])).f2).getD v5.toNat (S_FontPart.mk 0 0 0)).f0) < (y1.2.map cS_font_nest).length),(1,((y1.2.map cS_font_nest)[((((a0.f1.getD a1.toNat (S_FontGlyph.mk 0 [] [])).f2).getD v5.toNat (S_FontPart.mk 0 0 0)).f0).toNat]? = some (cS_font_nest (y1.2.getD ((((a0.f1.getD a1.toNat (S_FontGlyph.mk 0 [] [])).f2).getD v5.toNat (S_FontPart.mk 0 0 0)).f0).toNat (S_font_nest.mk 0 0 0))))∧AV.d (.v (.int .i64 ((y1.2.getD ((((a0.f1.getD a1.toNat (S_FontGlyph.mk 0 [] [])).f2).getD v5.toNat (S_FontPart.mk 0 0 0)).f0).toNat (S_font_nest.mk 0 0 0)).f1)))=.d (.v (.int .i64 z2))),(1,(True)∧AV.d (.v (.int .i64 (if v3 < (IntKind.i64.wrap (z2+(1:Int))) then (IntKind.i64.wrap (z2+(1:Int))) else v3)))=.d (.v (.int .i64 z3)))] 2 (by kernel_rfl) (⟨own_idx cS_font_nest hp7,⟨(idx_ok (d:=(S_font_nest.mk 0 0 0)) cS_font_nest hp7).2,(by subst hz2; rfl)⟩,⟨trivial,(by subst hz3; rfl)⟩⟩) ?_
       obtain ⟨hp8,h⟩:=chk_ok h
       obtain ⟨z4,hz4,h⟩:=lett_ok h
       obtain ⟨z5,hz5,h⟩:=lett_ok h
       refine T_drawS_end mixed 11 [(7,{ cs:=cS_font_nest (y1.2.getD ((((a0.f1.getD a1.toNat (S_FontGlyph.mk 0 [] [])).f2).getD v5.toNat (S_FontPart.mk 0 0 0)).f0).toNat (S_font_nest.mk 0 0 0)),rw:=some (.d (.v (.int .i64 z4))) }),(9,{ rw:=some (.d (.v (.int .i64 z5))) })] [1,2,3,7,50,51,52,1000000] [] [(1,.d (.v (.int .i64 a1))),(2,.vw (1000000,0)),(3,.box [.d (.v (.int .i64 a0.f0)),.d (.sl 3 (a0.f1.map cS_FontGlyph)),.d (.sl 3 (a0.f2.map cS_FontRange)),.d (.sl 3 (a0.f3.map cS_FontPair))]),(7,.box [.d (.v (.int .i64 (2:Int))),.d (.v (.int .i64 z3)),.d (.v (.int .i64 z5))]),(50,.d (.sl 3 (((a0.f1.getD a1.toNat (S_FontGlyph.mk 0 [] [])).f2).map cS_FontPart))),(51,.d (.v (.int .i64 (((a0.f1.getD a1.toNat (S_FontGlyph.mk 0 [] [])).f2).length:Int)))),(52,.d (.v (.int .i64 v5))),(1000000,.own 77 3 (y1.2.map cS_font_nest))] [(5,0≤((((a0.f1.getD a1.toNat (S_FontGlyph.mk 0 [] [])).f2).getD v5.toNat (S_FontPart.mk 0 0 0)).f0)∧((((a0.f1.getD a1.toNat (S_FontGlyph.mk 0 [] [])).f2).getD v5.toNat (S_FontPart.mk 0 0 0)).f0) < (y1.2.map cS_font_nest).length),(1,((y1.2.map cS_font_nest)[((((a0.f1.getD a1.toNat (S_FontGlyph.mk 0 [] [])).f2).getD v5.toNat (S_FontPart.mk 0 0 0)).f0).toNat]? = some (cS_font_nest (y1.2.getD ((((a0.f1.getD a1.toNat (S_FontGlyph.mk 0 [] [])).f2).getD v5.toNat (S_FontPart.mk 0 0 0)).f0).toNat (S_font_nest.mk 0 0 0))))∧AV.d (.v (.int .i64 ((y1.2.getD ((((a0.f1.getD a1.toNat (S_FontGlyph.mk 0 [] [])).f2).getD v5.toNat (S_FontPart.mk 0 0 0)).f0).toNat (S_font_nest.mk 0 0 0)).f2)))=.d (.v (.int .i64 z4))),(1,(True)∧AV.d (.v (.int .i64 (if (1048576:Int) < (IntKind.i64.wrap (v4+z4)) then (1048576:Int) else (IntKind.i64.wrap (v4+z4)))))=.d (.v (.int .i64 z5)))] 2 (by kernel_rfl) (⟨own_idx cS_font_nest hp8,⟨(idx_ok (d:=(S_font_nest.mk 0 0 0)) cS_font_nest hp8).2,(by subst hz4; rfl)⟩,⟨trivial,(by subst hz5; rfl)⟩⟩) fun a w hm=>inBlock_norm (then_norm (((?_:T Tryd.prog e 91 _ _ _) a w hm)))
       refine T_reg_end [] [1,2,3,7,50,51,52,1000000] [(52,.d (.v (.int .i64 (IntKind.i64.wrap (v5+(1:Int))))))] [] 2 (by kernel_rfl) (trivial) fun a w hm=>then_norm (⟨(z3,z5,IntKind.i64.wrap (v5+(1:Int)),y1.2),h,hm.co (cs:=[.keep [1,2,3,7,50,51,52,1000000]]) (by show _=_; kernel_rfl)⟩)
     ·have h:=cond_ff hc h
      obtain hs:=Option.some.inj h; subst hs
      refine T_exit fun a w hm=>then_exit (then_exit (inBlock_exit (then_norm (⟨_,rfl,hm.co (cs:=[.keep [1,2,7,1000000]]) (by show _=_; kernel_rfl)⟩))))
    ·obtain ⟨v8,v9,v10⟩:=s
     try dsimp only at h
     refine fun a w hm=>then_norm (((?_:T Tryd.prog e 91 _ _ _) a w hm))
     obtain ⟨hp9,h⟩:=chk_ok h
     refine T_reg [(4,{ cs:=cS_font_nest (v10.getD a1.toNat (S_font_nest.mk 0 0 0)),es:=some ((v10.set a1.toNat (S_font_nest.mk (2:Int) v8 v9)).map cS_font_nest) })] [1000000] [(1000000,.own 77 3 ((v10.set a1.toNat (S_font_nest.mk (2:Int) v8 v9)).map cS_font_nest))] [(3,0≤a1∧a1 < (v10.map cS_font_nest).length),(0,(v10.map cS_font_nest)[a1.toNat]? = some (cS_font_nest (v10.getD a1.toNat (S_font_nest.mk 0 0 0)))∧(v10.map cS_font_nest).set a1.toNat (cS_font_nest (S_font_nest.mk (2:Int) v8 v9))=((v10.set a1.toNat (S_font_nest.mk (2:Int) v8 v9)).map cS_font_nest))] 0 (by kernel_rfl) (⟨own_idx cS_font_nest hp9,⟨(idx_ok (d:=(S_font_nest.mk 0 0 0)) cS_font_nest hp9).2,set_ok cS_font_nest rfl⟩⟩) ?_
     refine T_reg [] [6,1000000] [(6,.d (.v (.int .i64 (0:Int))))] [] 1 (by kernel_rfl) (trivial) ?_
     obtain hs:=Option.some.inj h; subst hs
     refine T_ret fun a w hm=>T_return (fr':=[(6,.d (.v (.int .i64 (0:Int)))),(1000000,.own 77 3 ((v10.set a1.toNat (S_font_nest.mk (2:Int) v8 v9)).map cS_font_nest))]) [6] (by kernel_rfl) [.keep [6,1000000]] (by kernel_rfl) (by kernel_rfl) (by kernel_rfl) (by show _=_; kernel_rfl) (by exact ⟨⟨by kernel_rfl,by kernel_rfl⟩,trivial⟩) a w hm
theorem font_visit_fuel_ok {F:Nat} (n:Nat):∀ {a0:S_Font} {a1:Int} {c2:List S_font_nest} {r:Int×(List S_font_nest)},font_visit_fuel F n a0 a1 c2=some r→ACall Tryd.prog 31 [.agg (cS_Font a0),.d (.v (.int .i64 a1)),.vw (1000000,0)] [.own 77 3 (c2.map cS_font_nest)] (.d (.v (.int .i64 r.1))) [.own 77 3 (r.2.map cS_font_nest)]:=by
 induction n with
 | zero=>intro a0 a1 c2 r h; exact absurd (show (none:Option (Int×(List S_font_nest)))=some r from h) (by simp)
 | succ n ih=>intro a0 a1 c2 r h; exact font_visit_body_ok ih h
theorem font_visit_ok {F:Nat} {a0:S_Font} {a1:Int} {c2:List S_font_nest} {r:Int×(List S_font_nest)} (h:font_visit F a0 a1 c2=some r):ACall Tryd.prog 31 [.agg (cS_Font a0),.d (.v (.int .i64 a1)),.vw (1000000,0)] [.own 77 3 (c2.map cS_font_nest)] (.d (.v (.int .i64 r.1))) [.own 77 3 (r.2.map cS_font_nest)]:=font_visit_fuel_ok F h
theorem strings_Builder_WriteByte_ok {F:Nat} {a0:Int} {c1:List UInt8} {r:Unit×(List UInt8)} (h:strings_Builder_WriteByte F a0 c1=some r):ACall Tryd.prog 59 [.bp 1000000 0,.d (.v (.int .u8 a0))] [.box [.slf 0 92,.own 5 1 (c1.map cU)]] (.d (.v .nilIface)) [.box [.slf 0 92,.own 5 1 (r.2.map cU)]]:=by
 rw [strings_Builder_WriteByte] at h
 refine ACall.intro (N:=17) Tryd.func59 rfl rfl rfl rfl rfl fun e=>?_
 refine T_reg [] [0,1,1000000] [] [] 1 (by kernel_rfl) (trivial) ?_
 refine T_reg [(1,{ xs:=[1000000],res:=.tup [],vout:=[.box [.slf 0 92,.own 5 1 (c1.map cU)]] })] [0,1,1000000] [] [(1,ACall Tryd.prog 60 [.bp 1000000 0] [.box [.slf 0 92,.own 5 1 (c1.map cU)]] (.tup []) [.box [.slf 0 92,.own 5 1 (c1.map cU)]])] 0 (by kernel_rfl) (b_copyCheck (E:=92) (by kernel_rfl) (by kernel_rfl) (by kernel_rfl)) ?_
 obtain ⟨hp1,h⟩:=chk_ok h
 obtain ⟨hp2,h⟩:=chk_ok h
 refine T_reg [(6,{ es:=some (([(UInt8.ofNat a0.toNat)]).map cU) }),(7,{ es:=some ((c1++([(UInt8.ofNat a0.toNat)])).map cU) })] [1000000] [(1000000,.box [.slf 0 92,.own 5 1 ((c1++([(UInt8.ofNat a0.toNat)])).map cU)])] [(6,[[Dat.v (.int .u8 a0)]]=(([(UInt8.ofNat a0.toNat)]).map cU)),(0,(c1.map cU).length+(([(UInt8.ofNat a0.toNat)]).map cU).length≤4294967296∧(c1.map cU)++(([(UInt8.ofNat a0.toNat)]).map cU)=((c1++([(UInt8.ofNat a0.toNat)])).map cU))] 3 (by kernel_rfl) (⟨(lit_u hp1 (rfl:([]:List (List Dat))=([]:List UInt8).map cU)),app_ok cU hp2⟩) ?_
 refine T_reg [] [4,1000000] [(4,.d (.v .nilIface))] [] 1 (by kernel_rfl) (trivial) ?_
 obtain hs:=Option.some.inj h; subst hs
 refine T_ret fun a w hm=>T_return (fr':=[(4,.d (.v .nilIface)),(1000000,.box [.slf 0 92,.own 5 1 ((c1++([(UInt8.ofNat a0.toNat)])).map cU)])]) [4] (by kernel_rfl) [.keep [4,1000000]] (by kernel_rfl) (by kernel_rfl) (by kernel_rfl) (by show _=_; kernel_rfl) (by exact ⟨⟨by kernel_rfl,by kernel_rfl⟩,trivial⟩) a w hm
theorem font_packer_put_ok {F:Nat} {a0:Int} {a1:List Int} {c2:List UInt8} {r:(List UInt8)} (h:font_packer_put F a0 a1 c2=some r):ACall Tryd.prog 39 [.bp 1000000 0,.d (.v (.int .i64 a0)),.d (.sl 1 (a1.map (cI .i64)))] [.box [.slf 0 92,.own 5 1 (c2.map cU)]] (.tup []) [.box [.slf 0 92,.own 5 1 (r.map cU)]]:=by
 rw [font_packer_put] at h
 refine ACall.intro (N:=31) Tryd.func39 rfl rfl rfl rfl rfl fun e=>?_
 refine T_reg [(1,{ rw:=some (.d (.v (.int .i64 (a1.length:Int)))) })] [0,1,9,10,11,1000000] [(9,.d (.sl 1 (a1.map (cI .i64)))),(10,.d (.v (.int .i64 (a1.length:Int)))),(11,.d (.v (.int .i64 (0:Int))))] [(1,True∧AV.d (.v (.int .i64 ((a1.map (cI .i64)).length:Int)))=.d (.v (.int .i64 (a1.length:Int))))] 1 (by kernel_rfl) (len_ok (cI .i64)) ?_
 refine T_joinct h (fun (p:(List UInt8))=>[(1000000,.box [.slf 0 92,.own 5 1 (p.map cU)])]) (fun s h=>?_) (fun v6 h=>?_)
 ·refine T_co [.keep [0,1,9,10,11,1000000]] ((fun (p:Int×(List UInt8))=>[(0,.bp 1000000 0),(1,.d (.v (.int .i64 a0))),(9,.d (.sl 1 (a1.map (cI .i64)))),(10,.d (.v (.int .i64 (a1.length:Int)))),(11,.d (.v (.int .i64 p.1))),(1000000,.box [.slf 0 92,.own 5 1 (p.2.map cU)])]) ((0:Int),c2)) (by show _=_; kernel_rfl) ?_
  refine T_block ?_
  refine T_loopF (ι:=Int×(List UInt8)) (fun (p:Int×(List UInt8))=>[(0,.bp 1000000 0),(1,.d (.v (.int .i64 a0))),(9,.d (.sl 1 (a1.map (cI .i64)))),(10,.d (.v (.int .i64 (a1.length:Int)))),(11,.d (.v (.int .i64 p.1))),(1000000,.box [.slf 0 92,.own 5 1 (p.2.map cU)])]) (fun n p=>font_packer_put_L0 F a0 a1 n p.1 p.2=some s) (fun i hh=>by simp [font_packer_put_L0] at hh) (fun n p h=>?_) F ((0:Int),c2) h
  obtain ⟨v1,v4⟩:=p
  have h:font_packer_put_L0 F a0 a1 (n+1) v1 v4=some s:=h
  rw [font_packer_put_L0] at h
  refine T_reg [] [0,1,9,10,11,12,1000000] [(12,.d (.v (.bool (decide (v1 < (a1.length:Int))))))] [] 1 (by kernel_rfl) (trivial) ?_
  refine T_seqk ?_
  refine T_cond (decide (v1 < (a1.length:Int))) (by kernel_rfl) (fun hc=>?_) (fun hc=>?_)
  ·have h:=cond_tt hc h
   refine T_skip fun a w hm=>then_norm (((?_:T Tryd.prog e 31 _ _ _) a w hm))
   refine T_seqk ?_
   refine T_block ?_
   obtain ⟨hp1,h⟩:=chk_ok h
   refine T_reg [(0,{ cs:=(cI .i64) (a1.getD v1.toNat 0) })] [0,1,7,9,10,11,1000000] [(7,.d (.v (.int .i64 (a1.getD v1.toNat 0))))] [(0,0≤v1∧(a1.map (cI .i64))[v1.toNat]? = some ((cI .i64) (a1.getD v1.toNat 0)))] 2 (by kernel_rfl) (idx_ok (d:=0) (cI .i64) hp1) ?_
   refine T_reg [] [0,1,7,8,9,10,11,1000000] [(8,.d (.v (.int .i64 (IntKind.i64.wrap (a0 - (1:Int))))))] [] 3 (by kernel_rfl) (trivial) ?_
   refine T_joinct h (fun (p:(List UInt8))=>[(0,.bp 1000000 0),(1,.d (.v (.int .i64 a0))),(9,.d (.sl 1 (a1.map (cI .i64)))),(10,.d (.v (.int .i64 (a1.length:Int)))),(11,.d (.v (.int .i64 v1))),(1000000,.box [.slf 0 92,.own 5 1 (p.map cU)])]) (fun s h=>?_) (fun v5 h=>?_)
   ·refine T_co [.keep [0,1,7,8,9,10,11,1000000]] ((fun (p:Int×(List UInt8))=>[(0,.bp 1000000 0),(1,.d (.v (.int .i64 a0))),(7,.d (.v (.int .i64 (a1.getD v1.toNat 0)))),(8,.d (.v (.int .i64 p.1))),(9,.d (.sl 1 (a1.map (cI .i64)))),(10,.d (.v (.int .i64 (a1.length:Int)))),(11,.d (.v (.int .i64 v1))),(1000000,.box [.slf 0 92,.own 5 1 (p.2.map cU)])]) (IntKind.i64.wrap (a0 - (1:Int)),v4)) (by show _=_; kernel_rfl) ?_
    refine T_block ?_
    refine T_loopF (ι:=Int×(List UInt8)) (fun (p:Int×(List UInt8))=>[(0,.bp 1000000 0),(1,.d (.v (.int .i64 a0))),(7,.d (.v (.int .i64 (a1.getD v1.toNat 0)))),(8,.d (.v (.int .i64 p.1))),(9,.d (.sl 1 (a1.map (cI .i64)))),(10,.d (.v (.int .i64 (a1.length:Int)))),(11,.d (.v (.int .i64 v1))),(1000000,.box [.slf 0 92,.own 5 1 (p.2.map cU)])]) (fun n p=>font_packer_put_L2 F a1 v1 n p.1 p.2=some s) (fun i hh=>by simp [font_packer_put_L2] at hh) (fun n p h=>?_) F (IntKind.i64.wrap (a0 - (1:Int)),v4) h
    obtain ⟨v2,v3⟩:=p
    have h:font_packer_put_L2 F a1 v1 (n+1) v2 v3=some s:=h
    rw [font_packer_put_L2] at h
    refine T_seqk ?_
    refine T_reg [] [0,1,7,8,9,10,11,18,1000000] [(18,.d (.v (.bool (decide (v2 ≥ (0:Int))))))] [] 2 (by kernel_rfl) (trivial) ?_
    refine T_cond (decide (v2 ≥ (0:Int))) (by kernel_rfl) (fun hc=>?_) (fun hc=>?_)
    ·have h:=cond_tt hc h
     refine T_skip fun a w hm=>then_norm (((?_:T Tryd.prog e 31 _ _ _) a w hm))
     refine T_seqk ?_
     refine T_block ?_
     obtain ⟨hp2,h⟩:=chk_ok h
     obtain ⟨z1,hz1,h⟩:=lett_ok h
     obtain ⟨y1,hy1,h⟩:=call_ok h
     refine T_drawX_end mixed 1 (.take 0 (.take 1 (.take 2 (.take 3 (.take 4 (.take 5 (.take 6 (.take 7 (.all (.alt 8 .done .stop)))))))))) ([0,1,2,0,0,16,40,64,132],[0,1,2,0,0,16,40,64,132]) 255 [(6,{ rw:=some (.d (.v (.int .i64 z1))) }),(8,{ res:=.d (.v .nilIface),vout:=[.box [.slf 0 92,.own 5 1 (y1.2.map cU)]],xs:=[1000000] })] [0,1,7,8,9,10,11,1000000] [] [(0,.bp 1000000 0),(1,.d (.v (.int .i64 a0))),(7,.d (.v (.int .i64 (a1.getD v1.toNat 0)))),(8,.d (.v (.int .i64 v2))),(9,.d (.sl 1 (a1.map (cI .i64)))),(10,.d (.v (.int .i64 (a1.length:Int)))),(11,.d (.v (.int .i64 v1))),(1000000,.box [.slf 0 92,.own 5 1 (y1.2.map cU)])] ((fun (o6:Prop)=>fun (o8:Prop)=>[(6,o6),(1,o8)]) ((0≤(IntKind.i64.wrap ((8:Int) * v2)))∧AV.d (.v (.int .i64 ((a1.getD v1.toNat 0).fdiv (2 ^ (min (IntKind.i64.wrap ((8:Int) * v2)).toNat IntKind.i64.bits)))))=.d (.v (.int .i64 z1))) (ACall Tryd.prog 59 [.bp 1000000 0,.d (.v (.int .u8 (IntKind.u8.wrap z1)))] [.box [.slf 0 92,.own 5 1 (v3.map cU)]] (.d (.v .nilIface)) [.box [.slf 0 92,.own 5 1 (y1.2.map cU)]])) 0 (by kernel_rfl) (by kernel_rfl) (by kernel_rfl) (have p6:=⟨hp2,(by subst hz1; rfl)⟩; have p8:=strings_Builder_WriteByte_ok hy1; ⟨p6,p8⟩) fun a w hm=>inBlock_norm (then_norm (((?_:T Tryd.prog e 31 _ _ _) a w hm)))
     refine T_reg_end [] [0,1,7,8,9,10,11,1000000] [(8,.d (.v (.int .i64 (IntKind.i64.wrap (v2 - (1:Int))))))] [] 3 (by kernel_rfl) (trivial) fun a w hm=>then_norm (⟨(IntKind.i64.wrap (v2 - (1:Int)),y1.2),h,hm.co (cs:=[.keep [0,1,7,8,9,10,11,1000000]]) (by show _=_; kernel_rfl)⟩)
    ·have h:=cond_ff hc h
     obtain hs:=Option.some.inj h; subst hs
     refine T_exit fun a w hm=>then_exit (then_exit (inBlock_exit (then_norm (hm.co (cs:=[.keep [0,1,9,10,11,1000000]]) (by show _=_; kernel_rfl)))))
   ·skip
    refine fun a w hm=>inBlock_norm (then_norm (((?_:T Tryd.prog e 31 _ _ _) a w hm)))
    refine T_reg_end [] [0,1,9,10,11,1000000] [(11,.d (.v (.int .i64 (IntKind.i64.wrap (v1+(1:Int))))))] [] 2 (by kernel_rfl) (trivial) fun a w hm=>then_norm (⟨(IntKind.i64.wrap (v1+(1:Int)),v5),h,hm.co (cs:=[.keep [0,1,9,10,11,1000000]]) (by show _=_; kernel_rfl)⟩)
  ·have h:=cond_ff hc h
   obtain hs:=Option.some.inj h; subst hs
   refine T_exit fun a w hm=>then_exit (then_exit (inBlock_exit (then_norm (hm.co (cs:=[.keep [1000000]]) (by show _=_; kernel_rfl)))))
 ·skip
  obtain hs:=Option.some.inj h; subst hs
  refine fun a w hm=>T_return (fr':=[(1000000,.box [.slf 0 92,.own 5 1 (v6.map cU)])]) [] (by kernel_rfl) [.keep [1000000]] (by kernel_rfl) (by kernel_rfl) (by kernel_rfl) (by show _=_; kernel_rfl) (by exact ⟨⟨by kernel_rfl,by kernel_rfl⟩,trivial⟩) a w hm
theorem strings_Builder_WriteString_ok {F:Nat} {a0:List UInt8} {c1:List UInt8} {r:Int×Unit×(List UInt8)} (h:strings_Builder_WriteString F a0 c1=some r):ACall Tryd.prog 40 [.bp 1000000 0,.d (.str a0)] [.box [.slf 0 92,.own 5 1 (c1.map cU)]] (.tup [.d (.v (.int .i64 r.1)),.d (.v .nilIface)]) [.box [.slf 0 92,.own 5 1 (r.2.2.map cU)]]:=by
 rw [strings_Builder_WriteString] at h
 refine ACall.intro (N:=19) Tryd.func40 rfl rfl rfl rfl rfl fun e=>?_
 refine T_reg [] [0,1,1000000] [] [] 2 (by kernel_rfl) (trivial) ?_
 refine T_reg [(1,{ xs:=[1000000],res:=.tup [],vout:=[.box [.slf 0 92,.own 5 1 (c1.map cU)]] })] [0,1,1000000] [] [(1,ACall Tryd.prog 60 [.bp 1000000 0] [.box [.slf 0 92,.own 5 1 (c1.map cU)]] (.tup []) [.box [.slf 0 92,.own 5 1 (c1.map cU)]])] 0 (by kernel_rfl) (b_copyCheck (E:=92) (by kernel_rfl) (by kernel_rfl) (by kernel_rfl)) ?_
 obtain ⟨hp1,h⟩:=chk_ok h
 refine T_reg [(6,{ es:=some ((c1++a0).map cU) })] [1,1000000] [(1000000,.box [.slf 0 92,.own 5 1 ((c1++a0).map cU)])] [(6,(c1.map cU).length+(a0.map cU).length≤4294967296∧(c1.map cU)++(a0.map cU)=((c1++a0).map cU))] 3 (by kernel_rfl) (app_ok cU hp1) ?_
 refine T_reg [] [4,5,1000000] [(4,.d (.v (.int .i64 (a0.length:Int)))),(5,.d (.v .nilIface))] [] 4 (by kernel_rfl) (trivial) ?_
 obtain hs:=Option.some.inj h; subst hs
 refine T_ret fun a w hm=>T_return (fr':=[(4,.d (.v (.int .i64 (a0.length:Int)))),(5,.d (.v .nilIface)),(1000000,.box [.slf 0 92,.own 5 1 ((c1++a0).map cU)])]) [4,5] (by kernel_rfl) [.keep [4,5,1000000]] (by kernel_rfl) (by kernel_rfl) (by kernel_rfl) (by show _=_; kernel_rfl) (by exact ⟨⟨by kernel_rfl,by kernel_rfl⟩,trivial⟩) a w hm
theorem filter_Sum_ok {F:Nat} {a0:List UInt8} {r:Int} (h:filter_Sum F a0=some r):ACall Tryd.prog 42 [.d (.str a0)] [.glo 0 (glob_filter_steps.flatMap (cI .u32))] (.d (.v (.int .u32 r))) [.glo 0 (glob_filter_steps.flatMap (cI .u32))]:=by
 rw [filter_Sum] at h
 refine ACall.intro (N:=33) Tryd.func42 rfl rfl rfl rfl rfl fun e=>?_
 refine T_reg [] [0,1000000] [] [] 1 (by kernel_rfl) (trivial) ?_
 refine T_reg [] [0,3,1000000] [(3,.d (.v (.int .u32 (4294967295:Int))))] [] 1 (by kernel_rfl) (trivial) ?_
 refine T_seqk ?_
 refine T_reg [] [0,3,6,7,1000000] [(6,.d (.v (.int .i64 (a0.length:Int)))),(7,.d (.v (.int .i64 (0:Int))))] [] 3 (by kernel_rfl) (trivial) ?_
 refine T_joinct h (fun (p:Int)=>[(3,.d (.v (.int .u32 p))),(1000000,.glo 0 (glob_filter_steps.flatMap (cI .u32)))]) (fun s h=>?_) (fun v3 h=>?_)
 ·refine T_co [.keep [0,3,6,7,1000000]] ((fun (p:Int×Int)=>[(0,.d (.str a0)),(3,.d (.v (.int .u32 p.1))),(6,.d (.v (.int .i64 (a0.length:Int)))),(7,.d (.v (.int .i64 p.2))),(1000000,.glo 0 (glob_filter_steps.flatMap (cI .u32)))]) ((4294967295:Int),(0:Int))) (by show _=_; kernel_rfl) ?_
  refine T_block ?_
  refine T_loopF (ι:=Int×Int) (fun (p:Int×Int)=>[(0,.d (.str a0)),(3,.d (.v (.int .u32 p.1))),(6,.d (.v (.int .i64 (a0.length:Int)))),(7,.d (.v (.int .i64 p.2))),(1000000,.glo 0 (glob_filter_steps.flatMap (cI .u32)))]) (fun n p=>filter_Sum_L0 F a0 n p.1 p.2=some s) (fun i hh=>by simp [filter_Sum_L0] at hh) (fun n p h=>?_) F ((4294967295:Int),(0:Int)) h
  obtain ⟨v1,v2⟩:=p
  have h:filter_Sum_L0 F a0 (n+1) v1 v2=some s:=h
  rw [filter_Sum_L0] at h
  refine T_reg [] [0,3,6,7,8,1000000] [(8,.d (.v (.bool (decide (v2 < (a0.length:Int))))))] [] 1 (by kernel_rfl) (trivial) ?_
  refine T_seqk ?_
  refine T_cond (decide (v2 < (a0.length:Int))) (by kernel_rfl) (fun hc=>?_) (fun hc=>?_)
  ·have h:=cond_tt hc h
   refine T_skip fun a w hm=>then_norm (((?_:T Tryd.prog e 33 _ _ _) a w hm))
   refine T_seqk ?_
   refine T_block ?_
   refine T_reg [] [0,3,4,6,7,1000000] [(4,.d (.v (.int .i64 v2)))] [] 2 (by kernel_rfl) (trivial) ?_
   obtain ⟨hp1,h⟩:=chk_ok h
   obtain ⟨z1,hz1,h⟩:=lett_ok h
   refine T_reg [(5,{ rw:=some (.d (.v (.int .u32 z1))) })] [0,3,6,7,1000000] [(3,.d (.v (.int .u32 z1)))] [(3,0≤v2∧v2 < a0.length),(1,(True)∧AV.d (.v (.int .u32 (IntKind.u32.wrap ((BitVec.ofInt IntKind.u32.bits v1 ^^^ BitVec.ofInt IntKind.u32.bits (IntKind.u32.wrap ((a0.getD v2.toNat 0).toNat:Int))).toNat:Int))))=.d (.v (.int .u32 z1)))] 1 (by kernel_rfl) (⟨hp1,⟨trivial,(by subst hz1; rfl)⟩⟩) ?_
   obtain ⟨z2,hz2,h⟩:=lett_ok h
   obtain ⟨hp2,h⟩:=chk_ok h
   obtain ⟨z3,hz3,h⟩:=lett_ok h
   refine T_reg [(3,{ rw:=some (.d (.v (.int .u32 z2))) }),(4,{ rw:=some (.d (.pt (((cI .u32) (glob_filter_steps.getD z2.toNat 0))++((glob_filter_steps.flatMap (cI .u32)).drop (z2.toNat * 1+1))))) }),(6,{ rw:=some (.d (.v (.int .u32 z3))) })] [0,3,6,7,1000000] [(3,.d (.v (.int .u32 z3)))] [(1,0≤(4:Int)),(1,(True)∧AV.d (.v (.int .u32 (IntKind.u32.wrap ((BitVec.ofInt IntKind.u32.bits z1 &&& BitVec.ofInt IntKind.u32.bits (15:Int)).toNat:Int))))=.d (.v (.int .u32 z2))),(0,(0≤z2∧z2 < 16)∧AV.d (.pt ((glob_filter_steps.flatMap (cI .u32)).drop (z2.toNat * 1)))=AV.d (.pt (((cI .u32) (glob_filter_steps.getD z2.toNat 0))++((glob_filter_steps.flatMap (cI .u32)).drop (z2.toNat * 1+1))))),(1,(True)∧AV.d (.v (.int .u32 (IntKind.u32.wrap ((BitVec.ofInt IntKind.u32.bits (z1.fdiv (2 ^ (min (4:Int).toNat IntKind.u32.bits))) ^^^ BitVec.ofInt IntKind.u32.bits (glob_filter_steps.getD z2.toNat 0)).toNat:Int))))=.d (.v (.int .u32 z3)))] 1 (by kernel_rfl) (⟨(show 0≤(4:Int) by decide),⟨trivial,(by subst hz2; rfl)⟩,⟨hp2,glo_ok (cI .u32) 1 16 (by decide) (fun _=>rfl) hp2⟩,⟨trivial,(by subst hz3; rfl)⟩⟩) ?_
   obtain ⟨z4,hz4,h⟩:=lett_ok h
   obtain ⟨hp3,h⟩:=chk_ok h
   obtain ⟨z5,hz5,h⟩:=lett_ok h
   refine T_reg_end [(3,{ rw:=some (.d (.v (.int .u32 z4))) }),(4,{ rw:=some (.d (.pt (((cI .u32) (glob_filter_steps.getD z4.toNat 0))++((glob_filter_steps.flatMap (cI .u32)).drop (z4.toNat * 1+1))))) }),(6,{ rw:=some (.d (.v (.int .u32 z5))) })] [0,3,6,7,1000000] [(3,.d (.v (.int .u32 z5)))] [(1,0≤(4:Int)),(1,(True)∧AV.d (.v (.int .u32 (IntKind.u32.wrap ((BitVec.ofInt IntKind.u32.bits z3 &&& BitVec.ofInt IntKind.u32.bits (15:Int)).toNat:Int))))=.d (.v (.int .u32 z4))),(0,(0≤z4∧z4 < 16)∧AV.d (.pt ((glob_filter_steps.flatMap (cI .u32)).drop (z4.toNat * 1)))=AV.d (.pt (((cI .u32) (glob_filter_steps.getD z4.toNat 0))++((glob_filter_steps.flatMap (cI .u32)).drop (z4.toNat * 1+1))))),(1,(True)∧AV.d (.v (.int .u32 (IntKind.u32.wrap ((BitVec.ofInt IntKind.u32.bits (z3.fdiv (2 ^ (min (4:Int).toNat IntKind.u32.bits))) ^^^ BitVec.ofInt IntKind.u32.bits (glob_filter_steps.getD z4.toNat 0)).toNat:Int))))=.d (.v (.int .u32 z5)))] 1 (by kernel_rfl) (⟨(show 0≤(4:Int) by decide),⟨trivial,(by subst hz4; rfl)⟩,⟨hp3,glo_ok (cI .u32) 1 16 (by decide) (fun _=>rfl) hp3⟩,⟨trivial,(by subst hz5; rfl)⟩⟩) fun a w hm=>inBlock_norm (then_norm (((?_:T Tryd.prog e 33 _ _ _) a w hm)))
   refine T_reg_end [] [0,3,6,7,1000000] [(7,.d (.v (.int .i64 (IntKind.i64.wrap (v2+(1:Int))))))] [] 2 (by kernel_rfl) (trivial) fun a w hm=>then_norm (⟨(z5,IntKind.i64.wrap (v2+(1:Int))),h,hm.co (cs:=[.keep [0,3,6,7,1000000]]) (by show _=_; kernel_rfl)⟩)
  ·have h:=cond_ff hc h
   obtain hs:=Option.some.inj h; subst hs
   refine T_exit fun a w hm=>then_exit (then_exit (inBlock_exit (then_norm (hm.co (cs:=[.keep [3,1000000]]) (by show _=_; kernel_rfl)))))
 ·skip
  refine fun a w hm=>then_norm (((?_:T Tryd.prog e 33 _ _ _) a w hm))
  obtain ⟨z6,hz6,h⟩:=lett_ok h
  refine T_reg [(1,{ rw:=some (.d (.v (.int .u32 z6))) })] [2,1000000] [(2,.d (.v (.int .u32 z6)))] [(1,(True)∧AV.d (.v (.int .u32 (IntKind.u32.wrap (((BitVec.ofInt IntKind.u32.bits (4294967295)) ^^^ (BitVec.ofInt IntKind.u32.bits v3)).toNat:Int))))=.d (.v (.int .u32 z6)))] 1 (by kernel_rfl) (⟨trivial,(by subst hz6; rfl)⟩) ?_
  obtain hs:=Option.some.inj h; subst hs
  refine T_ret fun a w hm=>T_return (fr':=[(2,.d (.v (.int .u32 z6))),(1000000,.glo 0 (glob_filter_steps.flatMap (cI .u32)))]) [2] (by kernel_rfl) [.keep [2,1000000]] (by kernel_rfl) (by kernel_rfl) (by kernel_rfl) (by show _=_; kernel_rfl) (by exact ⟨⟨by kernel_rfl,by kernel_rfl⟩,trivial⟩) a w hm
theorem font_written_ok {F:Nat} {a0:S_Font} {r:(List UInt8)} (h:font_written F a0=some r):ACall Tryd.prog 25 [.agg (cS_Font a0)] [.glo 0 (glob_filter_steps.flatMap (cI .u32))] (.d (.str r)) [.glo 0 (glob_filter_steps.flatMap (cI .u32))]:=by
 rw [font_written] at h
 refine ACall.intro (N:=170) Tryd.func25 rfl rfl rfl rfl rfl fun e=>?_
 refine T_reg [] [1,1000000] [(1,.box [.d (.v (.int .i64 a0.f0)),.d (.sl 3 (a0.f1.map cS_FontGlyph)),.d (.sl 3 (a0.f2.map cS_FontRange)),.d (.sl 3 (a0.f3.map cS_FontPair))])] [] 2 (by kernel_rfl) (trivial) ?_
 refine T_reg [(0,{ slfs:=[(0,0)] }),(1,{ slfs:=[(0,0)] }),(2,{ slfs:=[(0,0)] }),(3,{ slfs:=[(0,0)] })] [1,3,4,5,6,1000000] [(3,.box [.slf 0 92,.own 5 1 ([].map cU)]),(4,.box [.slf 0 92,.own 5 1 ([].map cU)]),(5,.box [.slf 0 92,.own 5 1 ([].map cU)]),(6,.box [.slf 0 92,.own 5 1 ([].map cU)])] [] 4 (by kernel_rfl) (trivial) ?_
 refine T_seqk ?_
 refine T_reg [(2,{ rw:=some (.d (.v (.int .i64 (a0.f1.length:Int)))) })] [1,3,4,5,6,23,24,25,1000000] [(23,.d (.sl 3 (a0.f1.map cS_FontGlyph))),(24,.d (.v (.int .i64 (a0.f1.length:Int)))),(25,.d (.v (.int .i64 (0:Int))))] [(2,True∧AV.d (.v (.int .i64 ((a0.f1.map cS_FontGlyph).length:Int)))=.d (.v (.int .i64 (a0.f1.length:Int))))] 1 (by kernel_rfl) (len_ok cS_FontGlyph) ?_
 refine T_joinct h (fun (p:(List UInt8))=>[(1,.box [.d (.v (.int .i64 a0.f0)),.d (.sl 3 (a0.f1.map cS_FontGlyph)),.d (.sl 3 (a0.f2.map cS_FontRange)),.d (.sl 3 (a0.f3.map cS_FontPair))]),(3,.box [.slf 0 92,.own 5 1 (p.map cU)]),(4,.box [.slf 0 92,.own 5 1 ([].map cU)]),(5,.box [.slf 0 92,.own 5 1 ([].map cU)]),(6,.box [.slf 0 92,.own 5 1 ([].map cU)]),(1000000,.glo 0 (glob_filter_steps.flatMap (cI .u32)))]) (fun s h=>?_) (fun v17 h=>?_)
 ·refine T_co [.keep [1,3,4,5,6,23,24,25,1000000]] ((fun (p:(List UInt8)×Int)=>[(1,.box [.d (.v (.int .i64 a0.f0)),.d (.sl 3 (a0.f1.map cS_FontGlyph)),.d (.sl 3 (a0.f2.map cS_FontRange)),.d (.sl 3 (a0.f3.map cS_FontPair))]),(3,.box [.slf 0 92,.own 5 1 (p.1.map cU)]),(4,.box [.slf 0 92,.own 5 1 ([].map cU)]),(5,.box [.slf 0 92,.own 5 1 ([].map cU)]),(6,.box [.slf 0 92,.own 5 1 ([].map cU)]),(23,.d (.sl 3 (a0.f1.map cS_FontGlyph))),(24,.d (.v (.int .i64 (a0.f1.length:Int)))),(25,.d (.v (.int .i64 p.2))),(1000000,.glo 0 (glob_filter_steps.flatMap (cI .u32)))]) ([],(0:Int))) (by show _=_; kernel_rfl) ?_
  refine T_block ?_
  refine T_loopF (ι:=(List UInt8)×Int) (fun (p:(List UInt8)×Int)=>[(1,.box [.d (.v (.int .i64 a0.f0)),.d (.sl 3 (a0.f1.map cS_FontGlyph)),.d (.sl 3 (a0.f2.map cS_FontRange)),.d (.sl 3 (a0.f3.map cS_FontPair))]),(3,.box [.slf 0 92,.own 5 1 (p.1.map cU)]),(4,.box [.slf 0 92,.own 5 1 ([].map cU)]),(5,.box [.slf 0 92,.own 5 1 ([].map cU)]),(6,.box [.slf 0 92,.own 5 1 ([].map cU)]),(23,.d (.sl 3 (a0.f1.map cS_FontGlyph))),(24,.d (.v (.int .i64 (a0.f1.length:Int)))),(25,.d (.v (.int .i64 p.2))),(1000000,.glo 0 (glob_filter_steps.flatMap (cI .u32)))]) (fun n p=>font_written_L0 F a0 n p.1 p.2=some s) (fun i hh=>by simp [font_written_L0] at hh) (fun n p h=>?_) F ([],(0:Int)) h
  obtain ⟨v10,v1⟩:=p
  have h:font_written_L0 F a0 (n+1) v10 v1=some s:=h
  rw [font_written_L0] at h
  refine T_reg [] [1,3,4,5,6,23,24,25,26,1000000] [(26,.d (.v (.bool (decide (v1 < (a0.f1.length:Int))))))] [] 1 (by kernel_rfl) (trivial) ?_
  refine T_seqk ?_
  refine T_cond (decide (v1 < (a0.f1.length:Int))) (by kernel_rfl) (fun hc=>?_) (fun hc=>?_)
  ·have h:=cond_tt hc h
   refine T_skip fun a w hm=>then_norm (((?_:T Tryd.prog e 170 _ _ _) a w hm))
   refine T_seqk ?_
   refine T_block ?_
   obtain ⟨hp1,h⟩:=chk_ok h
   refine T_reg [(0,{ cs:=cS_FontGlyph (a0.f1.getD v1.toNat (S_FontGlyph.mk 0 [] [])) })] [1,3,4,5,6,8,23,24,25,1000000] [(8,.box [.d (.v (.int .i64 ((a0.f1.getD v1.toNat (S_FontGlyph.mk 0 [] [])).f0))),.d (.sl 1 (((a0.f1.getD v1.toNat (S_FontGlyph.mk 0 [] [])).f1).map (cL 3 cS_FontPoint))),.d (.sl 3 (((a0.f1.getD v1.toNat (S_FontGlyph.mk 0 [] [])).f2).map cS_FontPart))])] [(0,0≤v1∧(a0.f1.map cS_FontGlyph)[v1.toNat]? = some (cS_FontGlyph (a0.f1.getD v1.toNat (S_FontGlyph.mk 0 [] []))))] 3 (by kernel_rfl) (idx_ok (d:=(S_FontGlyph.mk 0 [] [])) cS_FontGlyph hp1) ?_
   obtain ⟨y6,hy1,h⟩:=call_ok h
   refine T_reg [(2,{ es:=some (([(a0.f1.getD v1.toNat (S_FontGlyph.mk 0 [] [])).f0]).map (cI .i64)) }),(3,{ res:=.tup [],frz:=[(31,0)],vout:=[.box [.slf 0 92,.own 5 1 (y6.map cU)]],xs:=[3] })] [1,3,4,5,6,8,23,24,25,1000000] [(3,.box [.slf 0 92,.own 5 1 (y6.map cU)])] [(2,(([(a0.f1.getD v1.toNat (S_FontGlyph.mk 0 [] [])).f0]).map (cI .i64))=(([(a0.f1.getD v1.toNat (S_FontGlyph.mk 0 [] [])).f0]).map (cI .i64))),(0,ACall Tryd.prog 39 [.bp 1000000 0,.d (.v (.int .i64 (2:Int))),.d (.sl 1 (([(a0.f1.getD v1.toNat (S_FontGlyph.mk 0 [] [])).f0]).map (cI .i64)))] [.box [.slf 0 92,.own 5 1 (v10.map cU)]] (.tup []) [.box [.slf 0 92,.own 5 1 (y6.map cU)]])] 0 (by kernel_rfl) (⟨rfl,font_packer_put_ok hy1⟩) ?_
   obtain ⟨y7,hy2,h⟩:=call_ok h
   refine T_reg [(2,{ rw:=some (.d (.v (.int .i64 (((a0.f1.getD v1.toNat (S_FontGlyph.mk 0 [] [])).f1).length:Int)))) }),(5,{ rw:=some (.d (.v (.int .i64 (((a0.f1.getD v1.toNat (S_FontGlyph.mk 0 [] [])).f2).length:Int)))) }),(6,{ es:=some (([(((a0.f1.getD v1.toNat (S_FontGlyph.mk 0 [] [])).f1).length:Int),(((a0.f1.getD v1.toNat (S_FontGlyph.mk 0 [] [])).f2).length:Int)]).map (cI .i64)) }),(7,{ res:=.tup [],frz:=[(39,0)],vout:=[.box [.slf 0 92,.own 5 1 (y7.map cU)]],xs:=[3] })] [1,3,4,5,6,8,23,24,25,1000000] [(3,.box [.slf 0 92,.own 5 1 (y7.map cU)])] [(2,True∧AV.d (.v (.int .i64 ((((a0.f1.getD v1.toNat (S_FontGlyph.mk 0 [] [])).f1).map (cL 3 cS_FontPoint)).length:Int)))=.d (.v (.int .i64 (((a0.f1.getD v1.toNat (S_FontGlyph.mk 0 [] [])).f1).length:Int)))),(2,True∧AV.d (.v (.int .i64 ((((a0.f1.getD v1.toNat (S_FontGlyph.mk 0 [] [])).f2).map cS_FontPart).length:Int)))=.d (.v (.int .i64 (((a0.f1.getD v1.toNat (S_FontGlyph.mk 0 [] [])).f2).length:Int)))),(0,(([(((a0.f1.getD v1.toNat (S_FontGlyph.mk 0 [] [])).f1).length:Int),(((a0.f1.getD v1.toNat (S_FontGlyph.mk 0 [] [])).f2).length:Int)]).map (cI .i64))=(([(((a0.f1.getD v1.toNat (S_FontGlyph.mk 0 [] [])).f1).length:Int),(((a0.f1.getD v1.toNat (S_FontGlyph.mk 0 [] [])).f2).length:Int)]).map (cI .i64))),(0,ACall Tryd.prog 39 [.bp 1000000 0,.d (.v (.int .i64 (1:Int))),.d (.sl 1 (([(((a0.f1.getD v1.toNat (S_FontGlyph.mk 0 [] [])).f1).length:Int),(((a0.f1.getD v1.toNat (S_FontGlyph.mk 0 [] [])).f2).length:Int)]).map (cI .i64)))] [.box [.slf 0 92,.own 5 1 (y6.map cU)]] (.tup []) [.box [.slf 0 92,.own 5 1 (y7.map cU)]])] 0 (by kernel_rfl) (⟨len_ok (cL 3 cS_FontPoint),len_ok cS_FontPart,rfl,font_packer_put_ok hy2⟩) ?_
   refine T_seqk ?_
   refine T_reg [(2,{ rw:=some (.d (.v (.int .i64 (((a0.f1.getD v1.toNat (S_FontGlyph.mk 0 [] [])).f1).length:Int)))) })] [1,3,4,5,6,8,23,24,25,42,43,44,1000000] [(42,.d (.sl 1 (((a0.f1.getD v1.toNat (S_FontGlyph.mk 0 [] [])).f1).map (cL 3 cS_FontPoint)))),(43,.d (.v (.int .i64 (((a0.f1.getD v1.toNat (S_FontGlyph.mk 0 [] [])).f1).length:Int)))),(44,.d (.v (.int .i64 (0:Int))))] [(2,True∧AV.d (.v (.int .i64 ((((a0.f1.getD v1.toNat (S_FontGlyph.mk 0 [] [])).f1).map (cL 3 cS_FontPoint)).length:Int)))=.d (.v (.int .i64 (((a0.f1.getD v1.toNat (S_FontGlyph.mk 0 [] [])).f1).length:Int))))] 1 (by kernel_rfl) (len_ok (cL 3 cS_FontPoint)) ?_
   refine T_joinct h (fun (p:(List UInt8))=>[(1,.box [.d (.v (.int .i64 a0.f0)),.d (.sl 3 (a0.f1.map cS_FontGlyph)),.d (.sl 3 (a0.f2.map cS_FontRange)),.d (.sl 3 (a0.f3.map cS_FontPair))]),(3,.box [.slf 0 92,.own 5 1 (p.map cU)]),(4,.box [.slf 0 92,.own 5 1 ([].map cU)]),(5,.box [.slf 0 92,.own 5 1 ([].map cU)]),(6,.box [.slf 0 92,.own 5 1 ([].map cU)]),(8,.box [.d (.v (.int .i64 ((a0.f1.getD v1.toNat (S_FontGlyph.mk 0 [] [])).f0))),.d (.sl 1 (((a0.f1.getD v1.toNat (S_FontGlyph.mk 0 [] [])).f1).map (cL 3 cS_FontPoint))),.d (.sl 3 (((a0.f1.getD v1.toNat (S_FontGlyph.mk 0 [] [])).f2).map cS_FontPart))]),(23,.d (.sl 3 (a0.f1.map cS_FontGlyph))),(24,.d (.v (.int .i64 (a0.f1.length:Int)))),(25,.d (.v (.int .i64 v1))),(1000000,.glo 0 (glob_filter_steps.flatMap (cI .u32)))]) (fun s h=>?_) (fun v11 h=>?_)
   ·refine T_co [.keep [1,3,4,5,6,8,23,24,25,42,43,44,1000000]] ((fun (p:(List UInt8)×Int)=>[(1,.box [.d (.v (.int .i64 a0.f0)),.d (.sl 3 (a0.f1.map cS_FontGlyph)),.d (.sl 3 (a0.f2.map cS_FontRange)),.d (.sl 3 (a0.f3.map cS_FontPair))]),(3,.box [.slf 0 92,.own 5 1 (p.1.map cU)]),(4,.box [.slf 0 92,.own 5 1 ([].map cU)]),(5,.box [.slf 0 92,.own 5 1 ([].map cU)]),(6,.box [.slf 0 92,.own 5 1 ([].map cU)]),(8,.box [.d (.v (.int .i64 ((a0.f1.getD v1.toNat (S_FontGlyph.mk 0 [] [])).f0))),.d (.sl 1 (((a0.f1.getD v1.toNat (S_FontGlyph.mk 0 [] [])).f1).map (cL 3 cS_FontPoint))),.d (.sl 3 (((a0.f1.getD v1.toNat (S_FontGlyph.mk 0 [] [])).f2).map cS_FontPart))]),(23,.d (.sl 3 (a0.f1.map cS_FontGlyph))),(24,.d (.v (.int .i64 (a0.f1.length:Int)))),(25,.d (.v (.int .i64 v1))),(42,.d (.sl 1 (((a0.f1.getD v1.toNat (S_FontGlyph.mk 0 [] [])).f1).map (cL 3 cS_FontPoint)))),(43,.d (.v (.int .i64 (((a0.f1.getD v1.toNat (S_FontGlyph.mk 0 [] [])).f1).length:Int)))),(44,.d (.v (.int .i64 p.2))),(1000000,.glo 0 (glob_filter_steps.flatMap (cI .u32)))]) (y7,(0:Int))) (by show _=_; kernel_rfl) ?_
    refine T_block ?_
    refine T_loopF (ι:=(List UInt8)×Int) (fun (p:(List UInt8)×Int)=>[(1,.box [.d (.v (.int .i64 a0.f0)),.d (.sl 3 (a0.f1.map cS_FontGlyph)),.d (.sl 3 (a0.f2.map cS_FontRange)),.d (.sl 3 (a0.f3.map cS_FontPair))]),(3,.box [.slf 0 92,.own 5 1 (p.1.map cU)]),(4,.box [.slf 0 92,.own 5 1 ([].map cU)]),(5,.box [.slf 0 92,.own 5 1 ([].map cU)]),(6,.box [.slf 0 92,.own 5 1 ([].map cU)]),(8,.box [.d (.v (.int .i64 ((a0.f1.getD v1.toNat (S_FontGlyph.mk 0 [] [])).f0))),.d (.sl 1 (((a0.f1.getD v1.toNat (S_FontGlyph.mk 0 [] [])).f1).map (cL 3 cS_FontPoint))),.d (.sl 3 (((a0.f1.getD v1.toNat (S_FontGlyph.mk 0 [] [])).f2).map cS_FontPart))]),(23,.d (.sl 3 (a0.f1.map cS_FontGlyph))),(24,.d (.v (.int .i64 (a0.f1.length:Int)))),(25,.d (.v (.int .i64 v1))),(42,.d (.sl 1 (((a0.f1.getD v1.toNat (S_FontGlyph.mk 0 [] [])).f1).map (cL 3 cS_FontPoint)))),(43,.d (.v (.int .i64 (((a0.f1.getD v1.toNat (S_FontGlyph.mk 0 [] [])).f1).length:Int)))),(44,.d (.v (.int .i64 p.2))),(1000000,.glo 0 (glob_filter_steps.flatMap (cI .u32)))]) (fun n p=>font_written_L2 F a0 v1 n p.1 p.2=some s) (fun i hh=>by simp [font_written_L2] at hh) (fun n p h=>?_) F (y7,(0:Int)) h
    obtain ⟨v6,v2⟩:=p
    have h:font_written_L2 F a0 v1 (n+1) v6 v2=some s:=h
    rw [font_written_L2] at h
    refine T_reg [] [1,3,4,5,6,8,23,24,25,42,43,44,45,1000000] [(45,.d (.v (.bool (decide (v2 < (((a0.f1.getD v1.toNat (S_FontGlyph.mk 0 [] [])).f1).length:Int))))))] [] 1 (by kernel_rfl) (trivial) ?_
    refine T_seqk ?_
    refine T_cond (decide (v2 < (((a0.f1.getD v1.toNat (S_FontGlyph.mk 0 [] [])).f1).length:Int))) (by kernel_rfl) (fun hc=>?_) (fun hc=>?_)
    ·have h:=cond_tt hc h
     refine T_skip fun a w hm=>then_norm (((?_:T Tryd.prog e 170 _ _ _) a w hm))
     refine T_seqk ?_
     refine T_block ?_
     obtain ⟨hp2,h⟩:=chk_ok h
     refine T_reg [(0,{ cs:=(cL 3 cS_FontPoint) (((a0.f1.getD v1.toNat (S_FontGlyph.mk 0 [] [])).f1).getD v2.toNat []) })] [1,3,4,5,6,8,10,23,24,25,42,43,44,1000000] [(10,.d (.sl 3 ((((a0.f1.getD v1.toNat (S_FontGlyph.mk 0 [] [])).f1).getD v2.toNat []).map cS_FontPoint)))] [(0,0≤v2∧(((a0.f1.getD v1.toNat (S_FontGlyph.mk 0 [] [])).f1).map (cL 3 cS_FontPoint))[v2.toNat]? = some ((cL 3 cS_FontPoint) (((a0.f1.getD v1.toNat (S_FontGlyph.mk 0 [] [])).f1).getD v2.toNat [])))] 2 (by kernel_rfl) (idx_ok (d:=[]) (cL 3 cS_FontPoint) hp2) ?_
     obtain ⟨y3,hy3,h⟩:=call_ok h
     refine T_reg [(1,{ rw:=some (.d (.v (.int .i64 ((((a0.f1.getD v1.toNat (S_FontGlyph.mk 0 [] [])).f1).getD v2.toNat []).length:Int)))) }),(2,{ es:=some (([((((a0.f1.getD v1.toNat (S_FontGlyph.mk 0 [] [])).f1).getD v2.toNat []).length:Int)]).map (cI .i64)) }),(3,{ res:=.tup [],frz:=[(50,0)],vout:=[.box [.slf 0 92,.own 5 1 (y3.map cU)]],xs:=[3] })] [1,3,4,5,6,8,10,23,24,25,42,43,44,1000000] [(3,.box [.slf 0 92,.own 5 1 (y3.map cU)])] [(1,True∧AV.d (.v (.int .i64 (((((a0.f1.getD v1.toNat (S_FontGlyph.mk 0 [] [])).f1).getD v2.toNat []).map cS_FontPoint).length:Int)))=.d (.v (.int .i64 ((((a0.f1.getD v1.toNat (S_FontGlyph.mk 0 [] [])).f1).getD v2.toNat []).length:Int)))),(0,(([((((a0.f1.getD v1.toNat (S_FontGlyph.mk 0 [] [])).f1).getD v2.toNat []).length:Int)]).map (cI .i64))=(([((((a0.f1.getD v1.toNat (S_FontGlyph.mk 0 [] [])).f1).getD v2.toNat []).length:Int)]).map (cI .i64))),(0,ACall Tryd.prog 39 [.bp 1000000 0,.d (.v (.int .i64 (1:Int))),.d (.sl 1 (([((((a0.f1.getD v1.toNat (S_FontGlyph.mk 0 [] [])).f1).getD v2.toNat []).length:Int)]).map (cI .i64)))] [.box [.slf 0 92,.own 5 1 (v6.map cU)]] (.tup []) [.box [.slf 0 92,.own 5 1 (y3.map cU)]])] 0 (by kernel_rfl) (⟨len_ok cS_FontPoint,rfl,font_packer_put_ok hy3⟩) ?_
     refine T_reg [(1,{ rw:=some (.d (.v (.int .i64 ((((a0.f1.getD v1.toNat (S_FontGlyph.mk 0 [] [])).f1).getD v2.toNat []).length:Int)))) })] [1,3,4,5,6,8,23,24,25,42,43,44,52,53,54,1000000] [(52,.d (.sl 3 ((((a0.f1.getD v1.toNat (S_FontGlyph.mk 0 [] [])).f1).getD v2.toNat []).map cS_FontPoint))),(53,.d (.v (.int .i64 ((((a0.f1.getD v1.toNat (S_FontGlyph.mk 0 [] [])).f1).getD v2.toNat []).length:Int)))),(54,.d (.v (.int .i64 (0:Int))))] [(1,True∧AV.d (.v (.int .i64 (((((a0.f1.getD v1.toNat (S_FontGlyph.mk 0 [] [])).f1).getD v2.toNat []).map cS_FontPoint).length:Int)))=.d (.v (.int .i64 ((((a0.f1.getD v1.toNat (S_FontGlyph.mk 0 [] [])).f1).getD v2.toNat []).length:Int))))] 1 (by kernel_rfl) (len_ok cS_FontPoint) ?_
     refine T_joinct h (fun (p:(List UInt8))=>[(1,.box [.d (.v (.int .i64 a0.f0)),.d (.sl 3 (a0.f1.map cS_FontGlyph)),.d (.sl 3 (a0.f2.map cS_FontRange)),.d (.sl 3 (a0.f3.map cS_FontPair))]),(3,.box [.slf 0 92,.own 5 1 (p.map cU)]),(4,.box [.slf 0 92,.own 5 1 ([].map cU)]),(5,.box [.slf 0 92,.own 5 1 ([].map cU)]),(6,.box [.slf 0 92,.own 5 1 ([].map cU)]),(8,.box [.d (.v (.int .i64 ((a0.f1.getD v1.toNat (S_FontGlyph.mk 0 [] [])).f0))),.d (.sl 1 (((a0.f1.getD v1.toNat (S_FontGlyph.mk 0 [] [])).f1).map (cL 3 cS_FontPoint))),.d (.sl 3 (((a0.f1.getD v1.toNat (S_FontGlyph.mk 0 [] [])).f2).map cS_FontPart))]),(23,.d (.sl 3 (a0.f1.map cS_FontGlyph))),(24,.d (.v (.int .i64 (a0.f1.length:Int)))),(25,.d (.v (.int .i64 v1))),(42,.d (.sl 1 (((a0.f1.getD v1.toNat (S_FontGlyph.mk 0 [] [])).f1).map (cL 3 cS_FontPoint)))),(43,.d (.v (.int .i64 (((a0.f1.getD v1.toNat (S_FontGlyph.mk 0 [] [])).f1).length:Int)))),(44,.d (.v (.int .i64 v2))),(1000000,.glo 0 (glob_filter_steps.flatMap (cI .u32)))]) (fun s h=>?_) (fun v7 h=>?_)
     ·refine T_co [.keep [1,3,4,5,6,8,23,24,25,42,43,44,52,53,54,1000000]] ((fun (p:(List UInt8)×Int)=>[(1,.box [.d (.v (.int .i64 a0.f0)),.d (.sl 3 (a0.f1.map cS_FontGlyph)),.d (.sl 3 (a0.f2.map cS_FontRange)),.d (.sl 3 (a0.f3.map cS_FontPair))]),(3,.box [.slf 0 92,.own 5 1 (p.1.map cU)]),(4,.box [.slf 0 92,.own 5 1 ([].map cU)]),(5,.box [.slf 0 92,.own 5 1 ([].map cU)]),(6,.box [.slf 0 92,.own 5 1 ([].map cU)]),(8,.box [.d (.v (.int .i64 ((a0.f1.getD v1.toNat (S_FontGlyph.mk 0 [] [])).f0))),.d (.sl 1 (((a0.f1.getD v1.toNat (S_FontGlyph.mk 0 [] [])).f1).map (cL 3 cS_FontPoint))),.d (.sl 3 (((a0.f1.getD v1.toNat (S_FontGlyph.mk 0 [] [])).f2).map cS_FontPart))]),(23,.d (.sl 3 (a0.f1.map cS_FontGlyph))),(24,.d (.v (.int .i64 (a0.f1.length:Int)))),(25,.d (.v (.int .i64 v1))),(42,.d (.sl 1 (((a0.f1.getD v1.toNat (S_FontGlyph.mk 0 [] [])).f1).map (cL 3 cS_FontPoint)))),(43,.d (.v (.int .i64 (((a0.f1.getD v1.toNat (S_FontGlyph.mk 0 [] [])).f1).length:Int)))),(44,.d (.v (.int .i64 v2))),(52,.d (.sl 3 ((((a0.f1.getD v1.toNat (S_FontGlyph.mk 0 [] [])).f1).getD v2.toNat []).map cS_FontPoint))),(53,.d (.v (.int .i64 ((((a0.f1.getD v1.toNat (S_FontGlyph.mk 0 [] [])).f1).getD v2.toNat []).length:Int)))),(54,.d (.v (.int .i64 p.2))),(1000000,.glo 0 (glob_filter_steps.flatMap (cI .u32)))]) (y3,(0:Int))) (by show _=_; kernel_rfl) ?_
      refine T_block ?_
      refine T_loopF (ι:=(List UInt8)×Int) (fun (p:(List UInt8)×Int)=>[(1,.box [.d (.v (.int .i64 a0.f0)),.d (.sl 3 (a0.f1.map cS_FontGlyph)),.d (.sl 3 (a0.f2.map cS_FontRange)),.d (.sl 3 (a0.f3.map cS_FontPair))]),(3,.box [.slf 0 92,.own 5 1 (p.1.map cU)]),(4,.box [.slf 0 92,.own 5 1 ([].map cU)]),(5,.box [.slf 0 92,.own 5 1 ([].map cU)]),(6,.box [.slf 0 92,.own 5 1 ([].map cU)]),(8,.box [.d (.v (.int .i64 ((a0.f1.getD v1.toNat (S_FontGlyph.mk 0 [] [])).f0))),.d (.sl 1 (((a0.f1.getD v1.toNat (S_FontGlyph.mk 0 [] [])).f1).map (cL 3 cS_FontPoint))),.d (.sl 3 (((a0.f1.getD v1.toNat (S_FontGlyph.mk 0 [] [])).f2).map cS_FontPart))]),(23,.d (.sl 3 (a0.f1.map cS_FontGlyph))),(24,.d (.v (.int .i64 (a0.f1.length:Int)))),(25,.d (.v (.int .i64 v1))),(42,.d (.sl 1 (((a0.f1.getD v1.toNat (S_FontGlyph.mk 0 [] [])).f1).map (cL 3 cS_FontPoint)))),(43,.d (.v (.int .i64 (((a0.f1.getD v1.toNat (S_FontGlyph.mk 0 [] [])).f1).length:Int)))),(44,.d (.v (.int .i64 v2))),(52,.d (.sl 3 ((((a0.f1.getD v1.toNat (S_FontGlyph.mk 0 [] [])).f1).getD v2.toNat []).map cS_FontPoint))),(53,.d (.v (.int .i64 ((((a0.f1.getD v1.toNat (S_FontGlyph.mk 0 [] [])).f1).getD v2.toNat []).length:Int)))),(54,.d (.v (.int .i64 p.2))),(1000000,.glo 0 (glob_filter_steps.flatMap (cI .u32)))]) (fun n p=>font_written_L4 F a0 v1 v2 n p.1 p.2=some s) (fun i hh=>by simp [font_written_L4] at hh) (fun n p h=>?_) F (y3,(0:Int)) h
      obtain ⟨v3,v4⟩:=p
      have h:font_written_L4 F a0 v1 v2 (n+1) v3 v4=some s:=h
      rw [font_written_L4] at h
      obtain ⟨z1,hz1,h⟩:=lett_ok h
      refine T_reg [(0,{ rw:=some (.d (.v (.bool z1))) })] [1,3,4,5,6,8,23,24,25,42,43,44,52,53,54,55,1000000] [(55,.d (.v (.bool z1)))] [(0,(True)∧AV.d (.v (.bool (decide (v4 < ((((a0.f1.getD v1.toNat (S_FontGlyph.mk 0 [] [])).f1).getD v2.toNat []).length:Int)))))=.d (.v (.bool z1)))] 0 (by kernel_rfl) (⟨trivial,(by subst hz1; rfl)⟩) ?_
      refine T_seqk ?_
      refine T_cond z1 (by kernel_rfl) (fun hc=>?_) (fun hc=>?_)
      ·have h:=cond_tt hc h
       refine T_skip fun a w hm=>then_norm (((?_:T Tryd.prog e 170 _ _ _) a w hm))
       refine T_seqk ?_
       refine T_block ?_
       obtain ⟨hp3,h⟩:=chk_ok h
       refine T_reg [(0,{ cs:=cS_FontPoint ((((a0.f1.getD v1.toNat (S_FontGlyph.mk 0 [] [])).f1).getD v2.toNat []).getD v4.toNat (S_FontPoint.mk 0 0 false)) })] [1,3,4,5,6,8,12,23,24,25,42,43,44,52,53,54,1000000] [(12,.box [.d (.v (.int .i64 (((((a0.f1.getD v1.toNat (S_FontGlyph.mk 0 [] [])).f1).getD v2.toNat []).getD v4.toNat (S_FontPoint.mk 0 0 false)).f0))),.d (.v (.int .i64 (((((a0.f1.getD v1.toNat (S_FontGlyph.mk 0 [] [])).f1).getD v2.toNat []).getD v4.toNat (S_FontPoint.mk 0 0 false)).f1))),.d (.v (.bool (((((a0.f1.getD v1.toNat (S_FontGlyph.mk 0 [] [])).f1).getD v2.toNat []).getD v4.toNat (S_FontPoint.mk 0 0 false)).f2)))])] [(0,0≤v4∧((((a0.f1.getD v1.toNat (S_FontGlyph.mk 0 [] [])).f1).getD v2.toNat []).map cS_FontPoint)[v4.toNat]? = some (cS_FontPoint ((((a0.f1.getD v1.toNat (S_FontGlyph.mk 0 [] [])).f1).getD v2.toNat []).getD v4.toNat (S_FontPoint.mk 0 0 false))))] 3 (by kernel_rfl) (idx_ok (d:=(S_FontPoint.mk 0 0 false)) cS_FontPoint hp3) ?_
       refine T_reg [] [1,3,4,5,6,8,12,13,23,24,25,42,43,44,52,53,54,1000000] [(13,.d (.v (.int .i64 (0:Int))))] [] 1 (by kernel_rfl) (trivial) ?_
       refine T_joinc h (fun (p:Int)=>[(1,.box [.d (.v (.int .i64 a0.f0)),.d (.sl 3 (a0.f1.map cS_FontGlyph)),.d (.sl 3 (a0.f2.map cS_FontRange)),.d (.sl 3 (a0.f3.map cS_FontPair))]),(3,.box [.slf 0 92,.own 5 1 (v3.map cU)]),(4,.box [.slf 0 92,.own 5 1 ([].map cU)]),(5,.box [.slf 0 92,.own 5 1 ([].map cU)]),(6,.box [.slf 0 92,.own 5 1 ([].map cU)]),(8,.box [.d (.v (.int .i64 ((a0.f1.getD v1.toNat (S_FontGlyph.mk 0 [] [])).f0))),.d (.sl 1 (((a0.f1.getD v1.toNat (S_FontGlyph.mk 0 [] [])).f1).map (cL 3 cS_FontPoint))),.d (.sl 3 (((a0.f1.getD v1.toNat (S_FontGlyph.mk 0 [] [])).f2).map cS_FontPart))]),(12,.box [.d (.v (.int .i64 (((((a0.f1.getD v1.toNat (S_FontGlyph.mk 0 [] [])).f1).getD v2.toNat []).getD v4.toNat (S_FontPoint.mk 0 0 false)).f0))),.d (.v (.int .i64 (((((a0.f1.getD v1.toNat (S_FontGlyph.mk 0 [] [])).f1).getD v2.toNat []).getD v4.toNat (S_FontPoint.mk 0 0 false)).f1))),.d (.v (.bool (((((a0.f1.getD v1.toNat (S_FontGlyph.mk 0 [] [])).f1).getD v2.toNat []).getD v4.toNat (S_FontPoint.mk 0 0 false)).f2)))]),(13,.d (.v (.int .i64 p))),(23,.d (.sl 3 (a0.f1.map cS_FontGlyph))),(24,.d (.v (.int .i64 (a0.f1.length:Int)))),(25,.d (.v (.int .i64 v1))),(42,.d (.sl 1 (((a0.f1.getD v1.toNat (S_FontGlyph.mk 0 [] [])).f1).map (cL 3 cS_FontPoint)))),(43,.d (.v (.int .i64 (((a0.f1.getD v1.toNat (S_FontGlyph.mk 0 [] [])).f1).length:Int)))),(44,.d (.v (.int .i64 v2))),(52,.d (.sl 3 ((((a0.f1.getD v1.toNat (S_FontGlyph.mk 0 [] [])).f1).getD v2.toNat []).map cS_FontPoint))),(53,.d (.v (.int .i64 ((((a0.f1.getD v1.toNat (S_FontGlyph.mk 0 [] [])).f1).getD v2.toNat []).length:Int)))),(54,.d (.v (.int .i64 v4))),(1000000,.glo 0 (glob_filter_steps.flatMap (cI .u32)))]) (fun s h=>?_) (fun v5 h=>?_)
       ·obtain ⟨z2,hz2,h⟩:=lett_ok h
        refine T_reg [(1,{ rw:=some (.d (.v (.bool z2))) })] [1,3,4,5,6,8,12,13,23,24,25,42,43,44,52,53,54,59,1000000] [(59,.d (.v (.bool z2)))] [(1,(True)∧AV.d (.v (.bool (((((a0.f1.getD v1.toNat (S_FontGlyph.mk 0 [] [])).f1).getD v2.toNat []).getD v4.toNat (S_FontPoint.mk 0 0 false)).f2)))=.d (.v (.bool z2)))] 0 (by kernel_rfl) (⟨trivial,(by subst hz2; rfl)⟩) ?_
        refine T_cond z2 (by kernel_rfl) (fun hc=>?_) (fun hc=>?_)
        ·have h:=cond_tt hc h
         obtain hs:=Option.some.inj h; subst hs
         refine T_reg_end [] [1,3,4,5,6,8,12,13,23,24,25,42,43,44,52,53,54,1000000] [(13,.d (.v (.int .i64 (1:Int))))] [] 1 (by kernel_rfl) (trivial) fun a w hm=>then_norm (hm.co (cs:=[.keep [1,3,4,5,6,8,12,13,23,24,25,42,43,44,52,53,54,1000000]]) (by show _=_; kernel_rfl))
        ·have h:=cond_ff hc h
         obtain hs:=Option.some.inj h; subst hs
         refine T_skip fun a w hm=>then_norm (hm.co (cs:=[.keep [1,3,4,5,6,8,12,13,23,24,25,42,43,44,52,53,54,1000000]]) (by show _=_; kernel_rfl))
       ·skip
        obtain ⟨y1,hy4,h⟩:=call_ok h
        refine T_reg [(1,{ es:=some (([v5]).map (cI .i64)) }),(2,{ res:=.tup [],frz:=[(61,0)],vout:=[.box [.slf 0 92,.own 5 1 (y1.map cU)]],xs:=[3] })] [1,3,4,5,6,8,12,23,24,25,42,43,44,52,53,54,1000000] [(3,.box [.slf 0 92,.own 5 1 (y1.map cU)])] [(1,(([v5]).map (cI .i64))=(([v5]).map (cI .i64))),(0,ACall Tryd.prog 39 [.bp 1000000 0,.d (.v (.int .i64 (1:Int))),.d (.sl 1 (([v5]).map (cI .i64)))] [.box [.slf 0 92,.own 5 1 (v3.map cU)]] (.tup []) [.box [.slf 0 92,.own 5 1 (y1.map cU)]])] 0 (by kernel_rfl) (⟨rfl,font_packer_put_ok hy4⟩) ?_
        obtain ⟨z3,hz3,h⟩:=lett_ok h
        obtain ⟨z4,hz4,h⟩:=lett_ok h
        obtain ⟨y2,hy5,h⟩:=call_ok h
        refine T_reg_end [(1,{ rw:=some (.d (.v (.int .i64 z3))) }),(3,{ rw:=some (.d (.v (.int .i64 z4))) }),(4,{ es:=some (([z3,z4]).map (cI .i64)) }),(5,{ res:=.tup [],frz:=[(67,0)],vout:=[.box [.slf 0 92,.own 5 1 (y2.map cU)]],xs:=[3] })] [1,3,4,5,6,8,23,24,25,42,43,44,52,53,54,1000000] [(3,.box [.slf 0 92,.own 5 1 (y2.map cU)])] [(1,(True)∧AV.d (.v (.int .i64 (((((a0.f1.getD v1.toNat (S_FontGlyph.mk 0 [] [])).f1).getD v2.toNat []).getD v4.toNat (S_FontPoint.mk 0 0 false)).f0)))=.d (.v (.int .i64 z3))),(1,(True)∧AV.d (.v (.int .i64 (((((a0.f1.getD v1.toNat (S_FontGlyph.mk 0 [] [])).f1).getD v2.toNat []).getD v4.toNat (S_FontPoint.mk 0 0 false)).f1)))=.d (.v (.int .i64 z4))),(0,(([z3,z4]).map (cI .i64))=(([z3,z4]).map (cI .i64))),(0,ACall Tryd.prog 39 [.bp 1000000 0,.d (.v (.int .i64 (2:Int))),.d (.sl 1 (([z3,z4]).map (cI .i64)))] [.box [.slf 0 92,.own 5 1 (y1.map cU)]] (.tup []) [.box [.slf 0 92,.own 5 1 (y2.map cU)]])] 0 (by kernel_rfl) (⟨⟨trivial,(by subst hz3; rfl)⟩,⟨trivial,(by subst hz4; rfl)⟩,rfl,font_packer_put_ok hy5⟩) fun a w hm=>inBlock_norm (then_norm (((?_:T Tryd.prog e 170 _ _ _) a w hm)))
        refine T_reg_end [] [1,3,4,5,6,8,23,24,25,42,43,44,52,53,54,1000000] [(54,.d (.v (.int .i64 (IntKind.i64.wrap (v4+(1:Int))))))] [] 2 (by kernel_rfl) (trivial) fun a w hm=>then_norm (⟨(y2,IntKind.i64.wrap (v4+(1:Int))),h,hm.co (cs:=[.keep [1,3,4,5,6,8,23,24,25,42,43,44,52,53,54,1000000]]) (by show _=_; kernel_rfl)⟩)
      ·have h:=cond_ff hc h
       obtain hs:=Option.some.inj h; subst hs
       refine T_exit fun a w hm=>then_exit (then_exit (inBlock_exit (then_norm (hm.co (cs:=[.keep [1,3,4,5,6,8,23,24,25,42,43,44,1000000]]) (by show _=_; kernel_rfl)))))
     ·skip
      refine fun a w hm=>inBlock_norm (then_norm (((?_:T Tryd.prog e 170 _ _ _) a w hm)))
      refine T_reg_end [] [1,3,4,5,6,8,23,24,25,42,43,44,1000000] [(44,.d (.v (.int .i64 (IntKind.i64.wrap (v2+(1:Int))))))] [] 2 (by kernel_rfl) (trivial) fun a w hm=>then_norm (⟨(v7,IntKind.i64.wrap (v2+(1:Int))),h,hm.co (cs:=[.keep [1,3,4,5,6,8,23,24,25,42,43,44,1000000]]) (by show _=_; kernel_rfl)⟩)
    ·have h:=cond_ff hc h
     obtain hs:=Option.some.inj h; subst hs
     refine T_exit fun a w hm=>then_exit (then_exit (inBlock_exit (then_norm (hm.co (cs:=[.keep [1,3,4,5,6,8,23,24,25,1000000]]) (by show _=_; kernel_rfl)))))
   ·skip
    refine fun a w hm=>then_norm (((?_:T Tryd.prog e 170 _ _ _) a w hm))
    refine T_reg [(2,{ rw:=some (.d (.v (.int .i64 (((a0.f1.getD v1.toNat (S_FontGlyph.mk 0 [] [])).f2).length:Int)))) })] [1,3,4,5,6,23,24,25,72,73,74,1000000] [(72,.d (.sl 3 (((a0.f1.getD v1.toNat (S_FontGlyph.mk 0 [] [])).f2).map cS_FontPart))),(73,.d (.v (.int .i64 (((a0.f1.getD v1.toNat (S_FontGlyph.mk 0 [] [])).f2).length:Int)))),(74,.d (.v (.int .i64 (0:Int))))] [(2,True∧AV.d (.v (.int .i64 ((((a0.f1.getD v1.toNat (S_FontGlyph.mk 0 [] [])).f2).map cS_FontPart).length:Int)))=.d (.v (.int .i64 (((a0.f1.getD v1.toNat (S_FontGlyph.mk 0 [] [])).f2).length:Int))))] 1 (by kernel_rfl) (len_ok cS_FontPart) ?_
    refine T_joinct h (fun (p:(List UInt8))=>[(1,.box [.d (.v (.int .i64 a0.f0)),.d (.sl 3 (a0.f1.map cS_FontGlyph)),.d (.sl 3 (a0.f2.map cS_FontRange)),.d (.sl 3 (a0.f3.map cS_FontPair))]),(3,.box [.slf 0 92,.own 5 1 (p.map cU)]),(4,.box [.slf 0 92,.own 5 1 ([].map cU)]),(5,.box [.slf 0 92,.own 5 1 ([].map cU)]),(6,.box [.slf 0 92,.own 5 1 ([].map cU)]),(23,.d (.sl 3 (a0.f1.map cS_FontGlyph))),(24,.d (.v (.int .i64 (a0.f1.length:Int)))),(25,.d (.v (.int .i64 v1))),(1000000,.glo 0 (glob_filter_steps.flatMap (cI .u32)))]) (fun s h=>?_) (fun v12 h=>?_)
    ·refine T_co [.keep [1,3,4,5,6,23,24,25,72,73,74,1000000]] ((fun (p:(List UInt8)×Int)=>[(1,.box [.d (.v (.int .i64 a0.f0)),.d (.sl 3 (a0.f1.map cS_FontGlyph)),.d (.sl 3 (a0.f2.map cS_FontRange)),.d (.sl 3 (a0.f3.map cS_FontPair))]),(3,.box [.slf 0 92,.own 5 1 (p.1.map cU)]),(4,.box [.slf 0 92,.own 5 1 ([].map cU)]),(5,.box [.slf 0 92,.own 5 1 ([].map cU)]),(6,.box [.slf 0 92,.own 5 1 ([].map cU)]),(23,.d (.sl 3 (a0.f1.map cS_FontGlyph))),(24,.d (.v (.int .i64 (a0.f1.length:Int)))),(25,.d (.v (.int .i64 v1))),(72,.d (.sl 3 (((a0.f1.getD v1.toNat (S_FontGlyph.mk 0 [] [])).f2).map cS_FontPart))),(73,.d (.v (.int .i64 (((a0.f1.getD v1.toNat (S_FontGlyph.mk 0 [] [])).f2).length:Int)))),(74,.d (.v (.int .i64 p.2))),(1000000,.glo 0 (glob_filter_steps.flatMap (cI .u32)))]) (v11,(0:Int))) (by show _=_; kernel_rfl) ?_
     refine T_block ?_
     refine T_loopF (ι:=(List UInt8)×Int) (fun (p:(List UInt8)×Int)=>[(1,.box [.d (.v (.int .i64 a0.f0)),.d (.sl 3 (a0.f1.map cS_FontGlyph)),.d (.sl 3 (a0.f2.map cS_FontRange)),.d (.sl 3 (a0.f3.map cS_FontPair))]),(3,.box [.slf 0 92,.own 5 1 (p.1.map cU)]),(4,.box [.slf 0 92,.own 5 1 ([].map cU)]),(5,.box [.slf 0 92,.own 5 1 ([].map cU)]),(6,.box [.slf 0 92,.own 5 1 ([].map cU)]),(23,.d (.sl 3 (a0.f1.map cS_FontGlyph))),(24,.d (.v (.int .i64 (a0.f1.length:Int)))),(25,.d (.v (.int .i64 v1))),(72,.d (.sl 3 (((a0.f1.getD v1.toNat (S_FontGlyph.mk 0 [] [])).f2).map cS_FontPart))),(73,.d (.v (.int .i64 (((a0.f1.getD v1.toNat (S_FontGlyph.mk 0 [] [])).f2).length:Int)))),(74,.d (.v (.int .i64 p.2))),(1000000,.glo 0 (glob_filter_steps.flatMap (cI .u32)))]) (fun n p=>font_written_L6 F a0 v1 n p.1 p.2=some s) (fun i hh=>by simp [font_written_L6] at hh) (fun n p h=>?_) F (v11,(0:Int)) h
     obtain ⟨v8,v9⟩:=p
     have h:font_written_L6 F a0 v1 (n+1) v8 v9=some s:=h
     rw [font_written_L6] at h
     refine T_reg [] [1,3,4,5,6,23,24,25,72,73,74,75,1000000] [(75,.d (.v (.bool (decide (v9 < (((a0.f1.getD v1.toNat (S_FontGlyph.mk 0 [] [])).f2).length:Int))))))] [] 1 (by kernel_rfl) (trivial) ?_
     refine T_seqk ?_
     refine T_cond (decide (v9 < (((a0.f1.getD v1.toNat (S_FontGlyph.mk 0 [] [])).f2).length:Int))) (by kernel_rfl) (fun hc=>?_) (fun hc=>?_)
     ·have h:=cond_tt hc h
      refine T_skip fun a w hm=>then_norm (((?_:T Tryd.prog e 170 _ _ _) a w hm))
      refine T_seqk ?_
      refine T_block ?_
      obtain ⟨hp4,h⟩:=chk_ok h
      refine T_reg [(0,{ cs:=cS_FontPart (((a0.f1.getD v1.toNat (S_FontGlyph.mk 0 [] [])).f2).getD v9.toNat (S_FontPart.mk 0 0 0)) })] [1,3,4,5,6,15,23,24,25,72,73,74,1000000] [(15,.box [.d (.v (.int .i64 ((((a0.f1.getD v1.toNat (S_FontGlyph.mk 0 [] [])).f2).getD v9.toNat (S_FontPart.mk 0 0 0)).f0))),.d (.v (.int .i64 ((((a0.f1.getD v1.toNat (S_FontGlyph.mk 0 [] [])).f2).getD v9.toNat (S_FontPart.mk 0 0 0)).f1))),.d (.v (.int .i64 ((((a0.f1.getD v1.toNat (S_FontGlyph.mk 0 [] [])).f2).getD v9.toNat (S_FontPart.mk 0 0 0)).f2)))])] [(0,0≤v9∧(((a0.f1.getD v1.toNat (S_FontGlyph.mk 0 [] [])).f2).map cS_FontPart)[v9.toNat]? = some (cS_FontPart (((a0.f1.getD v1.toNat (S_FontGlyph.mk 0 [] [])).f2).getD v9.toNat (S_FontPart.mk 0 0 0))))] 3 (by kernel_rfl) (idx_ok (d:=(S_FontPart.mk 0 0 0)) cS_FontPart hp4) ?_
      obtain ⟨y4,hy6,h⟩:=call_ok h
      refine T_reg [(2,{ es:=some (([(((a0.f1.getD v1.toNat (S_FontGlyph.mk 0 [] [])).f2).getD v9.toNat (S_FontPart.mk 0 0 0)).f0]).map (cI .i64)) }),(3,{ res:=.tup [],frz:=[(80,0)],vout:=[.box [.slf 0 92,.own 5 1 (y4.map cU)]],xs:=[3] })] [1,3,4,5,6,15,23,24,25,72,73,74,1000000] [(3,.box [.slf 0 92,.own 5 1 (y4.map cU)])] [(2,(([(((a0.f1.getD v1.toNat (S_FontGlyph.mk 0 [] [])).f2).getD v9.toNat (S_FontPart.mk 0 0 0)).f0]).map (cI .i64))=(([(((a0.f1.getD v1.toNat (S_FontGlyph.mk 0 [] [])).f2).getD v9.toNat (S_FontPart.mk 0 0 0)).f0]).map (cI .i64))),(0,ACall Tryd.prog 39 [.bp 1000000 0,.d (.v (.int .i64 (1:Int))),.d (.sl 1 (([(((a0.f1.getD v1.toNat (S_FontGlyph.mk 0 [] [])).f2).getD v9.toNat (S_FontPart.mk 0 0 0)).f0]).map (cI .i64)))] [.box [.slf 0 92,.own 5 1 (v8.map cU)]] (.tup []) [.box [.slf 0 92,.own 5 1 (y4.map cU)]])] 0 (by kernel_rfl) (⟨rfl,font_packer_put_ok hy6⟩) ?_
      obtain ⟨y5,hy7,h⟩:=call_ok h
      refine T_reg_end [(4,{ es:=some (([(((a0.f1.getD v1.toNat (S_FontGlyph.mk 0 [] [])).f2).getD v9.toNat (S_FontPart.mk 0 0 0)).f1,(((a0.f1.getD v1.toNat (S_FontGlyph.mk 0 [] [])).f2).getD v9.toNat (S_FontPart.mk 0 0 0)).f2]).map (cI .i64)) }),(5,{ res:=.tup [],frz:=[(86,0)],vout:=[.box [.slf 0 92,.own 5 1 (y5.map cU)]],xs:=[3] })] [1,3,4,5,6,23,24,25,72,73,74,1000000] [(3,.box [.slf 0 92,.own 5 1 (y5.map cU)])] [(4,(([(((a0.f1.getD v1.toNat (S_FontGlyph.mk 0 [] [])).f2).getD v9.toNat (S_FontPart.mk 0 0 0)).f1,(((a0.f1.getD v1.toNat (S_FontGlyph.mk 0 [] [])).f2).getD v9.toNat (S_FontPart.mk 0 0 0)).f2]).map (cI .i64))=(([(((a0.f1.getD v1.toNat (S_FontGlyph.mk 0 [] [])).f2).getD v9.toNat (S_FontPart.mk 0 0 0)).f1,(((a0.f1.getD v1.toNat (S_FontGlyph.mk 0 [] [])).f2).getD v9.toNat (S_FontPart.mk 0 0 0)).f2]).map (cI .i64))),(0,ACall Tryd.prog 39 [.bp 1000000 0,.d (.v (.int .i64 (2:Int))),.d (.sl 1 (([(((a0.f1.getD v1.toNat (S_FontGlyph.mk 0 [] [])).f2).getD v9.toNat (S_FontPart.mk 0 0 0)).f1,(((a0.f1.getD v1.toNat (S_FontGlyph.mk 0 [] [])).f2).getD v9.toNat (S_FontPart.mk 0 0 0)).f2]).map (cI .i64)))] [.box [.slf 0 92,.own 5 1 (y4.map cU)]] (.tup []) [.box [.slf 0 92,.own 5 1 (y5.map cU)]])] 0 (by kernel_rfl) (⟨rfl,font_packer_put_ok hy7⟩) fun a w hm=>inBlock_norm (then_norm (((?_:T Tryd.prog e 170 _ _ _) a w hm)))
      refine T_reg_end [] [1,3,4,5,6,23,24,25,72,73,74,1000000] [(74,.d (.v (.int .i64 (IntKind.i64.wrap (v9+(1:Int))))))] [] 2 (by kernel_rfl) (trivial) fun a w hm=>then_norm (⟨(y5,IntKind.i64.wrap (v9+(1:Int))),h,hm.co (cs:=[.keep [1,3,4,5,6,23,24,25,72,73,74,1000000]]) (by show _=_; kernel_rfl)⟩)
     ·have h:=cond_ff hc h
      obtain hs:=Option.some.inj h; subst hs
      refine T_exit fun a w hm=>then_exit (then_exit (inBlock_exit (then_norm (hm.co (cs:=[.keep [1,3,4,5,6,23,24,25,1000000]]) (by show _=_; kernel_rfl)))))
    ·skip
     refine fun a w hm=>inBlock_norm (then_norm (((?_:T Tryd.prog e 170 _ _ _) a w hm)))
     refine T_reg_end [] [1,3,4,5,6,23,24,25,1000000] [(25,.d (.v (.int .i64 (IntKind.i64.wrap (v1+(1:Int))))))] [] 2 (by kernel_rfl) (trivial) fun a w hm=>then_norm (⟨(v12,IntKind.i64.wrap (v1+(1:Int))),h,hm.co (cs:=[.keep [1,3,4,5,6,23,24,25,1000000]]) (by show _=_; kernel_rfl)⟩)
  ·have h:=cond_ff hc h
   obtain hs:=Option.some.inj h; subst hs
   refine T_exit fun a w hm=>then_exit (then_exit (inBlock_exit (then_norm (hm.co (cs:=[.keep [1,3,4,5,6,1000000]]) (by show _=_; kernel_rfl)))))
 ·skip
  refine fun a w hm=>then_norm (((?_:T Tryd.prog e 170 _ _ _) a w hm))
  refine T_seqk ?_
  refine T_reg [(2,{ rw:=some (.d (.v (.int .i64 (a0.f2.length:Int)))) })] [1,3,4,5,6,91,92,93,1000000] [(91,.d (.sl 3 (a0.f2.map cS_FontRange))),(92,.d (.v (.int .i64 (a0.f2.length:Int)))),(93,.d (.v (.int .i64 (0:Int))))] [(2,True∧AV.d (.v (.int .i64 ((a0.f2.map cS_FontRange).length:Int)))=.d (.v (.int .i64 (a0.f2.length:Int))))] 1 (by kernel_rfl) (len_ok cS_FontRange) ?_
  refine T_joinct h (fun (p:(List UInt8))=>[(1,.box [.d (.v (.int .i64 a0.f0)),.d (.sl 3 (a0.f1.map cS_FontGlyph)),.d (.sl 3 (a0.f2.map cS_FontRange)),.d (.sl 3 (a0.f3.map cS_FontPair))]),(3,.box [.slf 0 92,.own 5 1 (v17.map cU)]),(4,.box [.slf 0 92,.own 5 1 (p.map cU)]),(5,.box [.slf 0 92,.own 5 1 ([].map cU)]),(6,.box [.slf 0 92,.own 5 1 ([].map cU)]),(1000000,.glo 0 (glob_filter_steps.flatMap (cI .u32)))]) (fun s h=>?_) (fun v18 h=>?_)
  ·refine T_co [.keep [1,3,4,5,6,91,92,93,1000000]] ((fun (p:(List UInt8)×Int)=>[(1,.box [.d (.v (.int .i64 a0.f0)),.d (.sl 3 (a0.f1.map cS_FontGlyph)),.d (.sl 3 (a0.f2.map cS_FontRange)),.d (.sl 3 (a0.f3.map cS_FontPair))]),(3,.box [.slf 0 92,.own 5 1 (v17.map cU)]),(4,.box [.slf 0 92,.own 5 1 (p.1.map cU)]),(5,.box [.slf 0 92,.own 5 1 ([].map cU)]),(6,.box [.slf 0 92,.own 5 1 ([].map cU)]),(91,.d (.sl 3 (a0.f2.map cS_FontRange))),(92,.d (.v (.int .i64 (a0.f2.length:Int)))),(93,.d (.v (.int .i64 p.2))),(1000000,.glo 0 (glob_filter_steps.flatMap (cI .u32)))]) ([],(0:Int))) (by show _=_; kernel_rfl) ?_
   refine T_block ?_
   refine T_loopF (ι:=(List UInt8)×Int) (fun (p:(List UInt8)×Int)=>[(1,.box [.d (.v (.int .i64 a0.f0)),.d (.sl 3 (a0.f1.map cS_FontGlyph)),.d (.sl 3 (a0.f2.map cS_FontRange)),.d (.sl 3 (a0.f3.map cS_FontPair))]),(3,.box [.slf 0 92,.own 5 1 (v17.map cU)]),(4,.box [.slf 0 92,.own 5 1 (p.1.map cU)]),(5,.box [.slf 0 92,.own 5 1 ([].map cU)]),(6,.box [.slf 0 92,.own 5 1 ([].map cU)]),(91,.d (.sl 3 (a0.f2.map cS_FontRange))),(92,.d (.v (.int .i64 (a0.f2.length:Int)))),(93,.d (.v (.int .i64 p.2))),(1000000,.glo 0 (glob_filter_steps.flatMap (cI .u32)))]) (fun n p=>font_written_L8 F a0 n p.1 p.2=some s) (fun i hh=>by simp [font_written_L8] at hh) (fun n p h=>?_) F ([],(0:Int)) h
   obtain ⟨v13,v14⟩:=p
   have h:font_written_L8 F a0 (n+1) v13 v14=some s:=h
   rw [font_written_L8] at h
   refine T_reg [] [1,3,4,5,6,91,92,93,94,1000000] [(94,.d (.v (.bool (decide (v14 < (a0.f2.length:Int))))))] [] 1 (by kernel_rfl) (trivial) ?_
   refine T_seqk ?_
   refine T_cond (decide (v14 < (a0.f2.length:Int))) (by kernel_rfl) (fun hc=>?_) (fun hc=>?_)
   ·have h:=cond_tt hc h
    refine T_skip fun a w hm=>then_norm (((?_:T Tryd.prog e 170 _ _ _) a w hm))
    refine T_seqk ?_
    refine T_block ?_
    obtain ⟨hp5,h⟩:=chk_ok h
    refine T_reg [(0,{ cs:=cS_FontRange (a0.f2.getD v14.toNat (S_FontRange.mk 0 0 0)) })] [1,3,4,5,6,17,91,92,93,1000000] [(17,.box [.d (.v (.int .i64 ((a0.f2.getD v14.toNat (S_FontRange.mk 0 0 0)).f0))),.d (.v (.int .i64 ((a0.f2.getD v14.toNat (S_FontRange.mk 0 0 0)).f1))),.d (.v (.int .i64 ((a0.f2.getD v14.toNat (S_FontRange.mk 0 0 0)).f2)))])] [(0,0≤v14∧(a0.f2.map cS_FontRange)[v14.toNat]? = some (cS_FontRange (a0.f2.getD v14.toNat (S_FontRange.mk 0 0 0))))] 3 (by kernel_rfl) (idx_ok (d:=(S_FontRange.mk 0 0 0)) cS_FontRange hp5) ?_
    obtain ⟨y8,hy8,h⟩:=call_ok h
    refine T_reg [(4,{ es:=some (([(a0.f2.getD v14.toNat (S_FontRange.mk 0 0 0)).f0,(a0.f2.getD v14.toNat (S_FontRange.mk 0 0 0)).f1]).map (cI .i64)) }),(5,{ res:=.tup [],frz:=[(101,0)],vout:=[.box [.slf 0 92,.own 5 1 (y8.map cU)]],xs:=[4] })] [1,3,4,5,6,17,91,92,93,1000000] [(4,.box [.slf 0 92,.own 5 1 (y8.map cU)])] [(4,(([(a0.f2.getD v14.toNat (S_FontRange.mk 0 0 0)).f0,(a0.f2.getD v14.toNat (S_FontRange.mk 0 0 0)).f1]).map (cI .i64))=(([(a0.f2.getD v14.toNat (S_FontRange.mk 0 0 0)).f0,(a0.f2.getD v14.toNat (S_FontRange.mk 0 0 0)).f1]).map (cI .i64))),(0,ACall Tryd.prog 39 [.bp 1000000 0,.d (.v (.int .i64 (3:Int))),.d (.sl 1 (([(a0.f2.getD v14.toNat (S_FontRange.mk 0 0 0)).f0,(a0.f2.getD v14.toNat (S_FontRange.mk 0 0 0)).f1]).map (cI .i64)))] [.box [.slf 0 92,.own 5 1 (v13.map cU)]] (.tup []) [.box [.slf 0 92,.own 5 1 (y8.map cU)]])] 0 (by kernel_rfl) (⟨rfl,font_packer_put_ok hy8⟩) ?_
    obtain ⟨y9,hy9,h⟩:=call_ok h
    refine T_reg_end [(2,{ es:=some (([(a0.f2.getD v14.toNat (S_FontRange.mk 0 0 0)).f2]).map (cI .i64)) }),(3,{ res:=.tup [],frz:=[(105,0)],vout:=[.box [.slf 0 92,.own 5 1 (y9.map cU)]],xs:=[4] })] [1,3,4,5,6,91,92,93,1000000] [(4,.box [.slf 0 92,.own 5 1 (y9.map cU)])] [(2,(([(a0.f2.getD v14.toNat (S_FontRange.mk 0 0 0)).f2]).map (cI .i64))=(([(a0.f2.getD v14.toNat (S_FontRange.mk 0 0 0)).f2]).map (cI .i64))),(0,ACall Tryd.prog 39 [.bp 1000000 0,.d (.v (.int .i64 (1:Int))),.d (.sl 1 (([(a0.f2.getD v14.toNat (S_FontRange.mk 0 0 0)).f2]).map (cI .i64)))] [.box [.slf 0 92,.own 5 1 (y8.map cU)]] (.tup []) [.box [.slf 0 92,.own 5 1 (y9.map cU)]])] 0 (by kernel_rfl) (⟨rfl,font_packer_put_ok hy9⟩) fun a w hm=>inBlock_norm (then_norm (((?_:T Tryd.prog e 170 _ _ _) a w hm)))
    refine T_reg_end [] [1,3,4,5,6,91,92,93,1000000] [(93,.d (.v (.int .i64 (IntKind.i64.wrap (v14+(1:Int))))))] [] 2 (by kernel_rfl) (trivial) fun a w hm=>then_norm (⟨(y9,IntKind.i64.wrap (v14+(1:Int))),h,hm.co (cs:=[.keep [1,3,4,5,6,91,92,93,1000000]]) (by show _=_; kernel_rfl)⟩)
   ·have h:=cond_ff hc h
    obtain hs:=Option.some.inj h; subst hs
    refine T_exit fun a w hm=>then_exit (then_exit (inBlock_exit (then_norm (hm.co (cs:=[.keep [1,3,4,5,6,1000000]]) (by show _=_; kernel_rfl)))))
  ·skip
   refine fun a w hm=>then_norm (((?_:T Tryd.prog e 170 _ _ _) a w hm))
   refine T_seqk ?_
   refine T_reg [(2,{ rw:=some (.d (.v (.int .i64 (a0.f3.length:Int)))) })] [1,3,4,5,6,109,110,111,1000000] [(109,.d (.sl 3 (a0.f3.map cS_FontPair))),(110,.d (.v (.int .i64 (a0.f3.length:Int)))),(111,.d (.v (.int .i64 (0:Int))))] [(2,True∧AV.d (.v (.int .i64 ((a0.f3.map cS_FontPair).length:Int)))=.d (.v (.int .i64 (a0.f3.length:Int))))] 1 (by kernel_rfl) (len_ok cS_FontPair) ?_
   refine T_joinct h (fun (p:(List UInt8))=>[(1,.box [.d (.v (.int .i64 a0.f0)),.d (.sl 3 (a0.f1.map cS_FontGlyph)),.d (.sl 3 (a0.f2.map cS_FontRange)),.d (.sl 3 (a0.f3.map cS_FontPair))]),(3,.box [.slf 0 92,.own 5 1 (v17.map cU)]),(4,.box [.slf 0 92,.own 5 1 (v18.map cU)]),(5,.box [.slf 0 92,.own 5 1 (p.map cU)]),(6,.box [.slf 0 92,.own 5 1 ([].map cU)]),(1000000,.glo 0 (glob_filter_steps.flatMap (cI .u32)))]) (fun s h=>?_) (fun v19 h=>?_)
   ·refine T_co [.keep [1,3,4,5,6,109,110,111,1000000]] ((fun (p:(List UInt8)×Int)=>[(1,.box [.d (.v (.int .i64 a0.f0)),.d (.sl 3 (a0.f1.map cS_FontGlyph)),.d (.sl 3 (a0.f2.map cS_FontRange)),.d (.sl 3 (a0.f3.map cS_FontPair))]),(3,.box [.slf 0 92,.own 5 1 (v17.map cU)]),(4,.box [.slf 0 92,.own 5 1 (v18.map cU)]),(5,.box [.slf 0 92,.own 5 1 (p.1.map cU)]),(6,.box [.slf 0 92,.own 5 1 ([].map cU)]),(109,.d (.sl 3 (a0.f3.map cS_FontPair))),(110,.d (.v (.int .i64 (a0.f3.length:Int)))),(111,.d (.v (.int .i64 p.2))),(1000000,.glo 0 (glob_filter_steps.flatMap (cI .u32)))]) ([],(0:Int))) (by show _=_; kernel_rfl) ?_
    refine T_block ?_
    refine T_loopF (ι:=(List UInt8)×Int) (fun (p:(List UInt8)×Int)=>[(1,.box [.d (.v (.int .i64 a0.f0)),.d (.sl 3 (a0.f1.map cS_FontGlyph)),.d (.sl 3 (a0.f2.map cS_FontRange)),.d (.sl 3 (a0.f3.map cS_FontPair))]),(3,.box [.slf 0 92,.own 5 1 (v17.map cU)]),(4,.box [.slf 0 92,.own 5 1 (v18.map cU)]),(5,.box [.slf 0 92,.own 5 1 (p.1.map cU)]),(6,.box [.slf 0 92,.own 5 1 ([].map cU)]),(109,.d (.sl 3 (a0.f3.map cS_FontPair))),(110,.d (.v (.int .i64 (a0.f3.length:Int)))),(111,.d (.v (.int .i64 p.2))),(1000000,.glo 0 (glob_filter_steps.flatMap (cI .u32)))]) (fun n p=>font_written_L10 F a0 n p.1 p.2=some s) (fun i hh=>by simp [font_written_L10] at hh) (fun n p h=>?_) F ([],(0:Int)) h
    obtain ⟨v15,v16⟩:=p
    have h:font_written_L10 F a0 (n+1) v15 v16=some s:=h
    rw [font_written_L10] at h
    refine T_reg [] [1,3,4,5,6,109,110,111,112,1000000] [(112,.d (.v (.bool (decide (v16 < (a0.f3.length:Int))))))] [] 1 (by kernel_rfl) (trivial) ?_
    refine T_seqk ?_
    refine T_cond (decide (v16 < (a0.f3.length:Int))) (by kernel_rfl) (fun hc=>?_) (fun hc=>?_)
    ·have h:=cond_tt hc h
     refine T_skip fun a w hm=>then_norm (((?_:T Tryd.prog e 170 _ _ _) a w hm))
     refine T_seqk ?_
     refine T_block ?_
     obtain ⟨hp6,h⟩:=chk_ok h
     refine T_reg [(0,{ cs:=cS_FontPair (a0.f3.getD v16.toNat (S_FontPair.mk 0 0 0)) })] [1,3,4,5,6,19,109,110,111,1000000] [(19,.box [.d (.v (.int .i64 ((a0.f3.getD v16.toNat (S_FontPair.mk 0 0 0)).f0))),.d (.v (.int .i64 ((a0.f3.getD v16.toNat (S_FontPair.mk 0 0 0)).f1))),.d (.v (.int .i64 ((a0.f3.getD v16.toNat (S_FontPair.mk 0 0 0)).f2)))])] [(0,0≤v16∧(a0.f3.map cS_FontPair)[v16.toNat]? = some (cS_FontPair (a0.f3.getD v16.toNat (S_FontPair.mk 0 0 0))))] 3 (by kernel_rfl) (idx_ok (d:=(S_FontPair.mk 0 0 0)) cS_FontPair hp6) ?_
     obtain ⟨y10,hy10,h⟩:=call_ok h
     refine T_reg [(4,{ es:=some (([(a0.f3.getD v16.toNat (S_FontPair.mk 0 0 0)).f0,(a0.f3.getD v16.toNat (S_FontPair.mk 0 0 0)).f1]).map (cI .i64)) }),(5,{ res:=.tup [],frz:=[(119,0)],vout:=[.box [.slf 0 92,.own 5 1 (y10.map cU)]],xs:=[5] })] [1,3,4,5,6,19,109,110,111,1000000] [(5,.box [.slf 0 92,.own 5 1 (y10.map cU)])] [(4,(([(a0.f3.getD v16.toNat (S_FontPair.mk 0 0 0)).f0,(a0.f3.getD v16.toNat (S_FontPair.mk 0 0 0)).f1]).map (cI .i64))=(([(a0.f3.getD v16.toNat (S_FontPair.mk 0 0 0)).f0,(a0.f3.getD v16.toNat (S_FontPair.mk 0 0 0)).f1]).map (cI .i64))),(0,ACall Tryd.prog 39 [.bp 1000000 0,.d (.v (.int .i64 (1:Int))),.d (.sl 1 (([(a0.f3.getD v16.toNat (S_FontPair.mk 0 0 0)).f0,(a0.f3.getD v16.toNat (S_FontPair.mk 0 0 0)).f1]).map (cI .i64)))] [.box [.slf 0 92,.own 5 1 (v15.map cU)]] (.tup []) [.box [.slf 0 92,.own 5 1 (y10.map cU)]])] 0 (by kernel_rfl) (⟨rfl,font_packer_put_ok hy10⟩) ?_
     obtain ⟨y11,hy11,h⟩:=call_ok h
     refine T_reg_end [(2,{ es:=some (([(a0.f3.getD v16.toNat (S_FontPair.mk 0 0 0)).f2]).map (cI .i64)) }),(3,{ res:=.tup [],frz:=[(123,0)],vout:=[.box [.slf 0 92,.own 5 1 (y11.map cU)]],xs:=[5] })] [1,3,4,5,6,109,110,111,1000000] [(5,.box [.slf 0 92,.own 5 1 (y11.map cU)])] [(2,(([(a0.f3.getD v16.toNat (S_FontPair.mk 0 0 0)).f2]).map (cI .i64))=(([(a0.f3.getD v16.toNat (S_FontPair.mk 0 0 0)).f2]).map (cI .i64))),(0,ACall Tryd.prog 39 [.bp 1000000 0,.d (.v (.int .i64 (2:Int))),.d (.sl 1 (([(a0.f3.getD v16.toNat (S_FontPair.mk 0 0 0)).f2]).map (cI .i64)))] [.box [.slf 0 92,.own 5 1 (y10.map cU)]] (.tup []) [.box [.slf 0 92,.own 5 1 (y11.map cU)]])] 0 (by kernel_rfl) (⟨rfl,font_packer_put_ok hy11⟩) fun a w hm=>inBlock_norm (then_norm (((?_:T Tryd.prog e 170 _ _ _) a w hm)))
     refine T_reg_end [] [1,3,4,5,6,109,110,111,1000000] [(111,.d (.v (.int .i64 (IntKind.i64.wrap (v16+(1:Int))))))] [] 2 (by kernel_rfl) (trivial) fun a w hm=>then_norm (⟨(y11,IntKind.i64.wrap (v16+(1:Int))),h,hm.co (cs:=[.keep [1,3,4,5,6,109,110,111,1000000]]) (by show _=_; kernel_rfl)⟩)
    ·have h:=cond_ff hc h
     obtain hs:=Option.some.inj h; subst hs
     refine T_exit fun a w hm=>then_exit (then_exit (inBlock_exit (then_norm (hm.co (cs:=[.keep [1,3,4,5,6,1000000]]) (by show _=_; kernel_rfl)))))
   ·skip
    refine fun a w hm=>then_norm (((?_:T Tryd.prog e 170 _ _ _) a w hm))
    obtain ⟨y16,hy12,h⟩:=call_ok h
    refine T_reg [(1,{ res:=.tup [.d (.v (.int .i64 y16.1)),.d (.v .nilIface)],vout:=[.box [.slf 0 92,.own 5 1 (y16.2.2.map cU)]],xs:=[6] })] [1,3,4,5,6,1000000] [(6,.box [.slf 0 92,.own 5 1 (y16.2.2.map cU)])] [(1,ACall Tryd.prog 40 [.bp 1000000 0,.d (.str ([102,111,110,116]:List UInt8))] [.box [.slf 0 92,.own 5 1 ([].map cU)]] (.tup [.d (.v (.int .i64 y16.1)),.d (.v .nilIface)]) [.box [.slf 0 92,.own 5 1 (y16.2.2.map cU)]])] 0 (by kernel_rfl) (strings_Builder_WriteString_ok hy12) ?_
    obtain ⟨y17,hy13,h⟩:=call_ok h
    refine T_reg [(2,{ es:=some (([a0.f0]).map (cI .i64)) }),(3,{ res:=.tup [],frz:=[(130,0)],vout:=[.box [.slf 0 92,.own 5 1 (y17.map cU)]],xs:=[6] })] [1,3,4,5,6,1000000] [(6,.box [.slf 0 92,.own 5 1 (y17.map cU)])] [(2,(([a0.f0]).map (cI .i64))=(([a0.f0]).map (cI .i64))),(0,ACall Tryd.prog 39 [.bp 1000000 0,.d (.v (.int .i64 (2:Int))),.d (.sl 1 (([a0.f0]).map (cI .i64)))] [.box [.slf 0 92,.own 5 1 (y16.2.2.map cU)]] (.tup []) [.box [.slf 0 92,.own 5 1 (y17.map cU)]])] 0 (by kernel_rfl) (⟨rfl,font_packer_put_ok hy13⟩) ?_
    obtain ⟨y18,hy14,h⟩:=call_ok h
    refine T_reg [(2,{ rw:=some (.d (.v (.int .i64 (a0.f1.length:Int)))) }),(5,{ rw:=some (.d (.v (.int .i64 (a0.f2.length:Int)))) }),(8,{ rw:=some (.d (.v (.int .i64 (a0.f3.length:Int)))) }),(9,{ es:=some (([(a0.f1.length:Int),(a0.f2.length:Int),(a0.f3.length:Int)]).map (cI .i64)) }),(10,{ res:=.tup [],frz:=[(141,0)],vout:=[.box [.slf 0 92,.own 5 1 (y18.map cU)]],xs:=[6] })] [3,4,5,6,1000000] [(6,.box [.slf 0 92,.own 5 1 (y18.map cU)])] [(2,True∧AV.d (.v (.int .i64 ((a0.f1.map cS_FontGlyph).length:Int)))=.d (.v (.int .i64 (a0.f1.length:Int)))),(2,True∧AV.d (.v (.int .i64 ((a0.f2.map cS_FontRange).length:Int)))=.d (.v (.int .i64 (a0.f2.length:Int)))),(2,True∧AV.d (.v (.int .i64 ((a0.f3.map cS_FontPair).length:Int)))=.d (.v (.int .i64 (a0.f3.length:Int)))),(0,(([(a0.f1.length:Int),(a0.f2.length:Int),(a0.f3.length:Int)]).map (cI .i64))=(([(a0.f1.length:Int),(a0.f2.length:Int),(a0.f3.length:Int)]).map (cI .i64))),(0,ACall Tryd.prog 39 [.bp 1000000 0,.d (.v (.int .i64 (1:Int))),.d (.sl 1 (([(a0.f1.length:Int),(a0.f2.length:Int),(a0.f3.length:Int)]).map (cI .i64)))] [.box [.slf 0 92,.own 5 1 (y17.map cU)]] (.tup []) [.box [.slf 0 92,.own 5 1 (y18.map cU)]])] 0 (by kernel_rfl) (⟨len_ok cS_FontGlyph,len_ok cS_FontRange,len_ok cS_FontPair,rfl,font_packer_put_ok hy14⟩) ?_
    refine T_seqk ?_
    obtain ⟨hp7,h⟩:=chk_ok h
    obtain ⟨hp8,h⟩:=chk_ok h
    obtain ⟨hp9,h⟩:=chk_ok h
    refine T_reg [(1,{ xs:=[3],vout:=[.box [.slf 0 92,.junk]],res:=.d (.str v17) }),(3,{ xs:=[4],vout:=[.box [.slf 0 92,.junk]],res:=.d (.str v18) }),(5,{ xs:=[5],vout:=[.box [.slf 0 92,.junk]],res:=.d (.str v19) }),(6,{ es:=some (([v17,v18,v19]).map cS) }),(7,{ rw:=some (.d (.v (.int .i64 (([v17,v18,v19]).length:Int)))) })] [6,149,150,151,1000000] [(149,.own 9 1 (([v17,v18,v19]).map cS)),(150,.d (.v (.int .i64 (([v17,v18,v19]).length:Int)))),(151,.d (.v (.int .i64 (0:Int))))] [(1,ACall Tryd.prog 41 [.bp 1000000 0] [.box [.slf 0 92,.own 5 1 (v17.map cU)]] (.d (.str v17)) [.box [.slf 0 92,.junk]]),(1,ACall Tryd.prog 41 [.bp 1000000 0] [.box [.slf 0 92,.own 5 1 (v18.map cU)]] (.d (.str v18)) [.box [.slf 0 92,.junk]]),(1,ACall Tryd.prog 41 [.bp 1000000 0] [.box [.slf 0 92,.own 5 1 (v19.map cU)]] (.d (.str v19)) [.box [.slf 0 92,.junk]]),(0,(([v17,v18,v19]).map cS)=(([v17,v18,v19]).map cS)),(0,True∧AV.d (.v (.int .i64 ((([v17,v18,v19]).map cS).length:Int)))=.d (.v (.int .i64 (([v17,v18,v19]).length:Int))))] 1 (by kernel_rfl) (⟨b_String (l:=v17) hp7 (by kernel_rfl) (by kernel_rfl),b_String (l:=v18) hp8 (by kernel_rfl) (by kernel_rfl),b_String (l:=v19) hp9 (by kernel_rfl) (by kernel_rfl),rfl,len_ok cS⟩) ?_
    refine T_joinct h (fun (p:(List UInt8))=>[(6,.box [.slf 0 92,.own 5 1 (p.map cU)]),(1000000,.glo 0 (glob_filter_steps.flatMap (cI .u32)))]) (fun s h=>?_) (fun v22 h=>?_)
    ·refine T_co [.keep [6,149,150,151,1000000]] ((fun (p:(List UInt8)×Int)=>[(6,.box [.slf 0 92,.own 5 1 (p.1.map cU)]),(149,.own 9 1 (([v17,v18,v19]).map cS)),(150,.d (.v (.int .i64 (([v17,v18,v19]).length:Int)))),(151,.d (.v (.int .i64 p.2))),(1000000,.glo 0 (glob_filter_steps.flatMap (cI .u32)))]) (y18,(0:Int))) (by show _=_; kernel_rfl) ?_
     refine T_block ?_
     refine T_loopF (ι:=(List UInt8)×Int) (fun (p:(List UInt8)×Int)=>[(6,.box [.slf 0 92,.own 5 1 (p.1.map cU)]),(149,.own 9 1 (([v17,v18,v19]).map cS)),(150,.d (.v (.int .i64 (([v17,v18,v19]).length:Int)))),(151,.d (.v (.int .i64 p.2))),(1000000,.glo 0 (glob_filter_steps.flatMap (cI .u32)))]) (fun n p=>font_written_L12 F v17 v18 v19 n p.1 p.2=some s) (fun i hh=>by simp [font_written_L12] at hh) (fun n p h=>?_) F (y18,(0:Int)) h
     obtain ⟨v20,v21⟩:=p
     have h:font_written_L12 F v17 v18 v19 (n+1) v20 v21=some s:=h
     rw [font_written_L12] at h
     refine T_reg [] [6,149,150,151,152,1000000] [(152,.d (.v (.bool (decide (v21 < (([v17,v18,v19]).length:Int))))))] [] 1 (by kernel_rfl) (trivial) ?_
     refine T_seqk ?_
     refine T_cond (decide (v21 < (([v17,v18,v19]).length:Int))) (by kernel_rfl) (fun hc=>?_) (fun hc=>?_)
     ·have h:=cond_tt hc h
      refine T_skip fun a w hm=>then_norm (((?_:T Tryd.prog e 170 _ _ _) a w hm))
      refine T_seqk ?_
      refine T_block ?_
      obtain ⟨hp10,h⟩:=chk_ok h
      refine T_reg [(1,{ cs:=cS (([v17,v18,v19]).getD v21.toNat []) })] [6,21,149,150,151,1000000] [(21,.d (.str (([v17,v18,v19]).getD v21.toNat [])))] [(0,0≤v21∧v21 < (([v17,v18,v19]).map cS).length),(0,(([v17,v18,v19]).map cS)[v21.toNat]? = some (cS (([v17,v18,v19]).getD v21.toNat [])))] 1 (by kernel_rfl) (⟨own_idx cS hp10,(idx_ok (d:=[]) cS hp10).2⟩) ?_
      obtain ⟨y12,hy15,h⟩:=call_ok h
      refine T_reg [(2,{ es:=some (([((([v17,v18,v19]).getD v21.toNat []).length:Int)]).map (cI .i64)) }),(3,{ res:=.tup [],frz:=[(157,0)],vout:=[.box [.slf 0 92,.own 5 1 (y12.map cU)]],xs:=[6] })] [6,21,149,150,151,1000000] [(6,.box [.slf 0 92,.own 5 1 (y12.map cU)])] [(2,(([((([v17,v18,v19]).getD v21.toNat []).length:Int)]).map (cI .i64))=(([((([v17,v18,v19]).getD v21.toNat []).length:Int)]).map (cI .i64))),(0,ACall Tryd.prog 39 [.bp 1000000 0,.d (.v (.int .i64 (2:Int))),.d (.sl 1 (([((([v17,v18,v19]).getD v21.toNat []).length:Int)]).map (cI .i64)))] [.box [.slf 0 92,.own 5 1 (v20.map cU)]] (.tup []) [.box [.slf 0 92,.own 5 1 (y12.map cU)]])] 0 (by kernel_rfl) (⟨rfl,font_packer_put_ok hy15⟩) ?_
      obtain ⟨y13,hy16,h⟩:=call_ok h
      obtain ⟨y14,hy17,h⟩:=call_ok h
      refine T_reg [(1,{ res:=.d (.v (.int .u32 y13)),vout:=[.glo 0 (glob_filter_steps.flatMap (cI .u32))],xs:=[1000000] }),(3,{ es:=some (([IntKind.i64.wrap y13]).map (cI .i64)) }),(4,{ res:=.tup [],frz:=[(162,0)],vout:=[.box [.slf 0 92,.own 5 1 (y14.map cU)]],xs:=[6] })] [6,21,149,150,151,1000000] [(6,.box [.slf 0 92,.own 5 1 (y14.map cU)])] [(1,ACall Tryd.prog 42 [.d (.str (([v17,v18,v19]).getD v21.toNat []))] [.glo 0 (glob_filter_steps.flatMap (cI .u32))] (.d (.v (.int .u32 y13))) [.glo 0 (glob_filter_steps.flatMap (cI .u32))]),(1,(([IntKind.i64.wrap y13]).map (cI .i64))=(([IntKind.i64.wrap y13]).map (cI .i64))),(0,ACall Tryd.prog 39 [.bp 1000000 0,.d (.v (.int .i64 (4:Int))),.d (.sl 1 (([IntKind.i64.wrap y13]).map (cI .i64)))] [.box [.slf 0 92,.own 5 1 (y12.map cU)]] (.tup []) [.box [.slf 0 92,.own 5 1 (y14.map cU)]])] 0 (by kernel_rfl) (⟨filter_Sum_ok hy16,rfl,font_packer_put_ok hy17⟩) ?_
      obtain ⟨y15,hy18,h⟩:=call_ok h
      refine T_reg_end [(2,{ res:=.tup [.d (.v (.int .i64 y15.1)),.d (.v .nilIface)],vout:=[.box [.slf 0 92,.own 5 1 (y15.2.2.map cU)]],xs:=[6] })] [6,149,150,151,1000000] [(6,.box [.slf 0 92,.own 5 1 (y15.2.2.map cU)])] [(2,ACall Tryd.prog 40 [.bp 1000000 0,.d (.str (([v17,v18,v19]).getD v21.toNat []))] [.box [.slf 0 92,.own 5 1 (y14.map cU)]] (.tup [.d (.v (.int .i64 y15.1)),.d (.v .nilIface)]) [.box [.slf 0 92,.own 5 1 (y15.2.2.map cU)]])] 0 (by kernel_rfl) (strings_Builder_WriteString_ok hy18) fun a w hm=>inBlock_norm (then_norm (((?_:T Tryd.prog e 170 _ _ _) a w hm)))
      refine T_reg_end [] [6,149,150,151,1000000] [(151,.d (.v (.int .i64 (IntKind.i64.wrap (v21+(1:Int))))))] [] 2 (by kernel_rfl) (trivial) fun a w hm=>then_norm (⟨(y15.2.2,IntKind.i64.wrap (v21+(1:Int))),h,hm.co (cs:=[.keep [6,149,150,151,1000000]]) (by show _=_; kernel_rfl)⟩)
     ·have h:=cond_ff hc h
      obtain hs:=Option.some.inj h; subst hs
      refine T_exit fun a w hm=>then_exit (then_exit (inBlock_exit (then_norm (hm.co (cs:=[.keep [6,1000000]]) (by show _=_; kernel_rfl)))))
    ·skip
     refine fun a w hm=>then_norm (((?_:T Tryd.prog e 170 _ _ _) a w hm))
     obtain ⟨hp11,h⟩:=chk_ok h
     refine T_reg [(1,{ xs:=[6],vout:=[.box [.slf 0 92,.junk]],res:=.d (.str v22) })] [2,1000000] [(2,.d (.str v22))] [(1,ACall Tryd.prog 41 [.bp 1000000 0] [.box [.slf 0 92,.own 5 1 (v22.map cU)]] (.d (.str v22)) [.box [.slf 0 92,.junk]])] 1 (by kernel_rfl) (b_String (l:=v22) hp11 (by kernel_rfl) (by kernel_rfl)) ?_
     obtain hs:=Option.some.inj h; subst hs
     refine T_ret fun a w hm=>T_return (fr':=[(2,.d (.str v22)),(1000000,.glo 0 (glob_filter_steps.flatMap (cI .u32)))]) [2] (by kernel_rfl) [.keep [2,1000000]] (by kernel_rfl) (by kernel_rfl) (by kernel_rfl) (by show _=_; kernel_rfl) (by exact ⟨⟨by kernel_rfl,by kernel_rfl⟩,trivial⟩) a w hm
theorem font_Check_ok {F:Nat} {a0:S_Font} {r:Int} (h:font_Check F a0=some r):ACall Tryd.prog 13 [.agg (cS_Font a0)] [.glo 0 (glob_filter_steps.flatMap (cI .u32))] (.d (.v (.int .i64 r))) [.glo 0 (glob_filter_steps.flatMap (cI .u32))]:=by
 rw [font_Check] at h
 refine ACall.intro (N:=101) Tryd.func13 rfl rfl rfl rfl rfl fun e=>?_
 refine T_reg [] [1,1000000] [(1,.box [.d (.v (.int .i64 a0.f0)),.d (.sl 3 (a0.f1.map cS_FontGlyph)),.d (.sl 3 (a0.f2.map cS_FontRange)),.d (.sl 3 (a0.f3.map cS_FontPair))])] [] 2 (by kernel_rfl) (trivial) ?_
 refine T_seqk ?_
 refine T_block ?_
 refine T_reg [] [1,12,1000000] [(12,.d (.v (.bool (bif (decide (a0.f0 < (16:Int))) then true else (decide (a0.f0 > (1024:Int)))))))] [(4,((((decide (a0.f0 < (16:Int))) == false) && true)=true→True)),(0,((((decide (a0.f0 < (16:Int))) == false) && true)=true→True)),(0,((((decide (a0.f0 < (16:Int))) == false) && true)=true→True))] 2 (by kernel_rfl) (⟨(fun hg=>trivial),(fun hg=>trivial),(fun hg=>trivial)⟩) ?_
 refine T_cond (bif (decide (a0.f0 < (16:Int))) then true else (decide (a0.f0 > (1024:Int)))) (by kernel_rfl) (fun hc=>?_) (fun hc=>?_)
 ·have h:=cond_tt hc h
  refine T_reg [] [2,1000000] [(2,.d (.v (.int .i64 (3:Int))))] [] 1 (by kernel_rfl) (trivial) ?_
  obtain hs:=Option.some.inj h; subst hs
  refine T_ret fun a w hm=>inBlock_ret (then_ret (T_return (fr':=[(2,.d (.v (.int .i64 (3:Int)))),(1000000,.glo 0 (glob_filter_steps.flatMap (cI .u32)))]) [2] (by kernel_rfl) [.keep [2,1000000]] (by kernel_rfl) (by kernel_rfl) (by kernel_rfl) (by show _=_; kernel_rfl) (by exact ⟨⟨by kernel_rfl,by kernel_rfl⟩,trivial⟩) a w hm))
 ·have h:=cond_ff hc h
  refine T_reg [(2,{ rw:=some (.d (.v (.int .i64 (a0.f1.length:Int)))) })] [1,21,1000000] [(21,.d (.v (.bool ((a0.f1.length:Int) == (0:Int)))))] [(2,True∧AV.d (.v (.int .i64 ((a0.f1.map cS_FontGlyph).length:Int)))=.d (.v (.int .i64 (a0.f1.length:Int))))] 2 (by kernel_rfl) (len_ok cS_FontGlyph) ?_
  refine T_cond ((a0.f1.length:Int) == (0:Int)) (by kernel_rfl) (fun hc=>?_) (fun hc=>?_)
  ·have h:=cond_tt hc h
   refine T_reg [] [2,1000000] [(2,.d (.v (.int .i64 (8:Int))))] [] 1 (by kernel_rfl) (trivial) ?_
   obtain hs:=Option.some.inj h; subst hs
   refine T_ret fun a w hm=>inBlock_ret (then_ret (T_return (fr':=[(2,.d (.v (.int .i64 (8:Int)))),(1000000,.glo 0 (glob_filter_steps.flatMap (cI .u32)))]) [2] (by kernel_rfl) [.keep [2,1000000]] (by kernel_rfl) (by kernel_rfl) (by kernel_rfl) (by show _=_; kernel_rfl) (by exact ⟨⟨by kernel_rfl,by kernel_rfl⟩,trivial⟩) a w hm))
  ·have h:=cond_ff hc h
   obtain ⟨z1,hz1,h⟩:=lett_ok h
   refine T_reg [(2,{ rw:=some (.d (.v (.int .i64 (a0.f1.length:Int)))) }),(7,{ rw:=some (.d (.v (.int .i64 (a0.f2.length:Int)))) }),(9,{ rw:=some (.d (.v (.bool z1))) }),(13,{ rw:=some (.d (.v (.int .i64 (a0.f3.length:Int)))) })] [1,26,1000000] [(26,.d (.v (.bool (bif z1 then true else (decide ((a0.f3.length:Int) > (128:Int)))))))] [(2,True∧AV.d (.v (.int .i64 ((a0.f1.map cS_FontGlyph).length:Int)))=.d (.v (.int .i64 (a0.f1.length:Int)))),(2,((((decide ((a0.f1.length:Int) > (128:Int))) == false) && true)=true→True)),(0,((((decide ((a0.f1.length:Int) > (128:Int))) == false) && true)=true→True)),(0,((((decide ((a0.f1.length:Int) > (128:Int))) == false) && true)=true→True∧AV.d (.v (.int .i64 ((a0.f2.map cS_FontRange).length:Int)))=.d (.v (.int .i64 (a0.f2.length:Int))))),(0,((((decide ((a0.f1.length:Int) > (128:Int))) == false) && true)=true→True)),(0,(True)∧AV.d (.v (.bool (bif (decide ((a0.f1.length:Int) > (128:Int))) then true else (decide ((a0.f2.length:Int) > (64:Int))))))=.d (.v (.bool z1))),(1,(((z1 == false) && true)=true→True)),(0,(((z1 == false) && true)=true→True)),(0,(((z1 == false) && true)=true→True∧AV.d (.v (.int .i64 ((a0.f3.map cS_FontPair).length:Int)))=.d (.v (.int .i64 (a0.f3.length:Int))))),(0,(((z1 == false) && true)=true→True))] 2 (by kernel_rfl) (⟨len_ok cS_FontGlyph,(fun hg=>trivial),(fun hg=>trivial),(fun hg=>len_ok cS_FontRange),(fun hg=>trivial),⟨trivial,(by subst hz1; rfl)⟩,(fun hg=>trivial),(fun hg=>trivial),(fun hg=>len_ok cS_FontPair),(fun hg=>trivial)⟩) ?_
   refine T_cond (bif z1 then true else (decide ((a0.f3.length:Int) > (128:Int)))) (by kernel_rfl) (fun hc=>?_) (fun hc=>?_)
   ·have h:=cond_tt hc h
    refine T_reg [] [2,1000000] [(2,.d (.v (.int .i64 (2:Int))))] [] 1 (by kernel_rfl) (trivial) ?_
    obtain hs:=Option.some.inj h; subst hs
    refine T_ret fun a w hm=>inBlock_ret (then_ret (T_return (fr':=[(2,.d (.v (.int .i64 (2:Int)))),(1000000,.glo 0 (glob_filter_steps.flatMap (cI .u32)))]) [2] (by kernel_rfl) [.keep [2,1000000]] (by kernel_rfl) (by kernel_rfl) (by kernel_rfl) (by show _=_; kernel_rfl) (by exact ⟨⟨by kernel_rfl,by kernel_rfl⟩,trivial⟩) a w hm))
   ·have h:=cond_ff hc h
    refine T_skip fun a w hm=>inBlock_norm (then_norm (((?_:T Tryd.prog e 101 _ _ _) a w hm)))
    refine T_seqk ?_
    refine T_reg [(2,{ rw:=some (.d (.v (.int .i64 (a0.f1.length:Int)))) })] [1,44,45,46,1000000] [(44,.d (.sl 3 (a0.f1.map cS_FontGlyph))),(45,.d (.v (.int .i64 (a0.f1.length:Int)))),(46,.d (.v (.int .i64 (0:Int))))] [(2,True∧AV.d (.v (.int .i64 ((a0.f1.map cS_FontGlyph).length:Int)))=.d (.v (.int .i64 (a0.f1.length:Int))))] 1 (by kernel_rfl) (len_ok cS_FontGlyph) ?_
    refine T_joinEt h (fun (p:Unit)=>[(1,.box [.d (.v (.int .i64 a0.f0)),.d (.sl 3 (a0.f1.map cS_FontGlyph)),.d (.sl 3 (a0.f2.map cS_FontRange)),.d (.sl 3 (a0.f3.map cS_FontPair))]),(1000000,.glo 0 (glob_filter_steps.flatMap (cI .u32)))]) (fun s h hk1=>?_) (fun s h=>?_)
    ·refine T_co [.keep [1,44,45,46,1000000]] ((fun (p:Int)=>[(1,.box [.d (.v (.int .i64 a0.f0)),.d (.sl 3 (a0.f1.map cS_FontGlyph)),.d (.sl 3 (a0.f2.map cS_FontRange)),.d (.sl 3 (a0.f3.map cS_FontPair))]),(44,.d (.sl 3 (a0.f1.map cS_FontGlyph))),(45,.d (.v (.int .i64 (a0.f1.length:Int)))),(46,.d (.v (.int .i64 p))),(1000000,.glo 0 (glob_filter_steps.flatMap (cI .u32)))]) (0:Int)) (by show _=_; kernel_rfl) ?_
     refine T_block ?_
     refine T_loopF (ι:=Int) (fun (p:Int)=>[(1,.box [.d (.v (.int .i64 a0.f0)),.d (.sl 3 (a0.f1.map cS_FontGlyph)),.d (.sl 3 (a0.f2.map cS_FontRange)),.d (.sl 3 (a0.f3.map cS_FontPair))]),(44,.d (.sl 3 (a0.f1.map cS_FontGlyph))),(45,.d (.v (.int .i64 (a0.f1.length:Int)))),(46,.d (.v (.int .i64 p))),(1000000,.glo 0 (glob_filter_steps.flatMap (cI .u32)))]) (fun n p=>font_Check_L1 F a0 n p=some s) (fun i hh=>by simp [font_Check_L1] at hh) (fun n v1 h=>?_) F (0:Int) h
     have h:font_Check_L1 F a0 (n+1) v1=some s:=h
     rw [font_Check_L1] at h
     refine T_reg [] [1,44,45,46,47,1000000] [(47,.d (.v (.bool (decide (v1 < (a0.f1.length:Int))))))] [] 1 (by kernel_rfl) (trivial) ?_
     refine T_seqk ?_
     refine T_cond (decide (v1 < (a0.f1.length:Int))) (by kernel_rfl) (fun hc=>?_) (fun hc=>?_)
     ·have h:=cond_tt hc h
      refine T_skip fun a w hm=>then_norm (((?_:T Tryd.prog e 101 _ _ _) a w hm))
      refine T_seqk ?_
      refine T_block ?_
      obtain ⟨hp1,h⟩:=chk_ok h
      refine T_reg [(0,{ cs:=cS_FontGlyph (a0.f1.getD v1.toNat (S_FontGlyph.mk 0 [] [])) })] [1,4,44,45,46,1000000] [(4,.box [.d (.v (.int .i64 ((a0.f1.getD v1.toNat (S_FontGlyph.mk 0 [] [])).f0))),.d (.sl 1 (((a0.f1.getD v1.toNat (S_FontGlyph.mk 0 [] [])).f1).map (cL 3 cS_FontPoint))),.d (.sl 3 (((a0.f1.getD v1.toNat (S_FontGlyph.mk 0 [] [])).f2).map cS_FontPart))])] [(0,0≤v1∧(a0.f1.map cS_FontGlyph)[v1.toNat]? = some (cS_FontGlyph (a0.f1.getD v1.toNat (S_FontGlyph.mk 0 [] []))))] 3 (by kernel_rfl) (idx_ok (d:=(S_FontGlyph.mk 0 [] [])) cS_FontGlyph hp1) ?_
      obtain ⟨y1,hy1,h⟩:=call_ok h
      refine T_reg [(3,{ rw:=some (.d (.v (.int .i64 (a0.f1.length:Int)))) }),(4,{ res:=.d (.v (.int .i64 y1)) })] [1,5,44,45,46,1000000] [(5,.d (.v (.int .i64 y1)))] [(3,True∧AV.d (.v (.int .i64 ((a0.f1.map cS_FontGlyph).length:Int)))=.d (.v (.int .i64 (a0.f1.length:Int)))),(0,ACall Tryd.prog 29 [.agg (cS_FontGlyph (a0.f1.getD v1.toNat (S_FontGlyph.mk 0 [] []))),.d (.v (.int .i64 (a0.f1.length:Int)))] [] (.d (.v (.int .i64 y1))) [])] 1 (by kernel_rfl) (⟨len_ok cS_FontGlyph,font_glyph_ok hy1⟩) ?_
      refine T_reg [] [1,5,44,45,46,56,1000000] [(56,.d (.v (.bool (y1 != (0:Int)))))] [] 2 (by kernel_rfl) (trivial) ?_
      refine T_cond (y1 != (0:Int)) (by kernel_rfl) (fun hc=>?_) (fun hc=>?_)
      ·have h:=cond_tt hc h
       refine T_reg [] [2,1000000] [(2,.d (.v (.int .i64 y1)))] [] 2 (by kernel_rfl) (trivial) ?_
       obtain hs:=Option.some.inj h; subst hs
       have h:=callE_esc hk1
       obtain hs:=Option.some.inj h; subst hs
       refine T_ret fun a w hm=>inBlock_ret (then_ret (then_ret (inBlock_ret (then_ret (then_ret (T_return (fr':=[(2,.d (.v (.int .i64 y1))),(1000000,.glo 0 (glob_filter_steps.flatMap (cI .u32)))]) [2] (by kernel_rfl) [.keep [2,1000000]] (by kernel_rfl) (by kernel_rfl) (by kernel_rfl) (by show _=_; kernel_rfl) (by exact ⟨⟨by kernel_rfl,by kernel_rfl⟩,trivial⟩) a w hm))))))
      ·have h:=cond_ff hc h
       refine T_skip fun a w hm=>inBlock_norm (then_norm (((?_:T Tryd.prog e 101 _ _ _) a w hm)))
       refine T_reg_end [] [1,44,45,46,1000000] [(46,.d (.v (.int .i64 (IntKind.i64.wrap (v1+(1:Int))))))] [] 2 (by kernel_rfl) (trivial) fun a w hm=>then_norm (⟨IntKind.i64.wrap (v1+(1:Int)),h,hm.co (cs:=[.keep [1,44,45,46,1000000]]) (by show _=_; kernel_rfl)⟩)
     ·have h:=cond_ff hc h
      obtain hs:=Option.some.inj h; subst hs
      refine T_exit fun a w hm=>then_exit (then_exit (inBlock_exit (then_norm (⟨_,rfl,hm.co (cs:=[.keep [1,1000000]]) (by show _=_; kernel_rfl)⟩))))
    ·skip
     refine fun a w hm=>then_norm (((?_:T Tryd.prog e 101 _ _ _) a w hm))
     refine T_seqk ?_
     obtain ⟨y3,hy2,h⟩:=call_ok h
     refine T_reg [(1,{ res:=.d (.v (.int .i64 y3)) })] [1,6,1000000] [(6,.d (.v (.int .i64 y3)))] [(1,ACall Tryd.prog 30 [.agg (cS_Font a0)] [] (.d (.v (.int .i64 y3))) [])] 1 (by kernel_rfl) (font_tables_ok hy2) ?_
     refine T_reg [] [1,6,62,1000000] [(62,.d (.v (.bool (y3 != (0:Int)))))] [] 2 (by kernel_rfl) (trivial) ?_
     refine T_cond (y3 != (0:Int)) (by kernel_rfl) (fun hc=>?_) (fun hc=>?_)
     ·have h:=cond_tt hc h
      refine T_reg [] [2,1000000] [(2,.d (.v (.int .i64 y3)))] [] 2 (by kernel_rfl) (trivial) ?_
      obtain hs:=Option.some.inj h; subst hs
      refine T_ret fun a w hm=>then_ret (T_return (fr':=[(2,.d (.v (.int .i64 y3))),(1000000,.glo 0 (glob_filter_steps.flatMap (cI .u32)))]) [2] (by kernel_rfl) [.keep [2,1000000]] (by kernel_rfl) (by kernel_rfl) (by kernel_rfl) (by show _=_; kernel_rfl) (by exact ⟨⟨by kernel_rfl,by kernel_rfl⟩,trivial⟩) a w hm)
     ·have h:=cond_ff hc h
      refine T_skip fun a w hm=>then_norm (((?_:T Tryd.prog e 101 _ _ _) a w hm))
      obtain ⟨hp2,h⟩:=chk_ok h
      refine T_reg [(2,{ rw:=some (.d (.v (.int .i64 (a0.f1.length:Int)))) }),(3,{ es:=some ((List.replicate (a0.f1.length:Int).toNat (S_font_nest.mk 0 0 0)).map cS_font_nest) })] [1,7,1000000] [(7,.own 77 3 ((List.replicate (a0.f1.length:Int).toNat (S_font_nest.mk 0 0 0)).map cS_font_nest))] [(2,True∧AV.d (.v (.int .i64 ((a0.f1.map cS_FontGlyph).length:Int)))=.d (.v (.int .i64 (a0.f1.length:Int)))),(0,(0≤(a0.f1.length:Int)∧(a0.f1.length:Int)≤(a0.f1.length:Int)∧(a0.f1.length:Int)≤9223372036854775807∧((24:Nat):Int) * (a0.f1.length:Int)≤281474976710656)∧List.replicate (a0.f1.length:Int).toNat (cS_font_nest (S_font_nest.mk 0 0 0))=((List.replicate (a0.f1.length:Int).toNat (S_font_nest.mk 0 0 0)).map cS_font_nest))] 1 (by kernel_rfl) (⟨len_ok cS_FontGlyph,⟨hp2,repl_ok cS_font_nest rfl⟩⟩) ?_
      refine T_seqk ?_
      refine T_reg [(2,{ rw:=some (.d (.v (.int .i64 (a0.f1.length:Int)))) })] [1,7,70,71,1000000] [(70,.d (.v (.int .i64 (a0.f1.length:Int)))),(71,.d (.v (.int .i64 (0:Int))))] [(2,True∧AV.d (.v (.int .i64 ((a0.f1.map cS_FontGlyph).length:Int)))=.d (.v (.int .i64 (a0.f1.length:Int))))] 1 (by kernel_rfl) (len_ok cS_FontGlyph) ?_
      refine T_joinEt h (fun (p:(List S_font_nest))=>[(1,.box [.d (.v (.int .i64 a0.f0)),.d (.sl 3 (a0.f1.map cS_FontGlyph)),.d (.sl 3 (a0.f2.map cS_FontRange)),.d (.sl 3 (a0.f3.map cS_FontPair))]),(7,.own 77 3 (p.map cS_font_nest)),(1000000,.glo 0 (glob_filter_steps.flatMap (cI .u32)))]) (fun s h hk2=>?_) (fun v4 h=>?_)
      ·refine T_co [.keep [1,7,70,71,1000000]] ((fun (p:(List S_font_nest)×Int)=>[(1,.box [.d (.v (.int .i64 a0.f0)),.d (.sl 3 (a0.f1.map cS_FontGlyph)),.d (.sl 3 (a0.f2.map cS_FontRange)),.d (.sl 3 (a0.f3.map cS_FontPair))]),(7,.own 77 3 (p.1.map cS_font_nest)),(70,.d (.v (.int .i64 (a0.f1.length:Int)))),(71,.d (.v (.int .i64 p.2))),(1000000,.glo 0 (glob_filter_steps.flatMap (cI .u32)))]) ((List.replicate (a0.f1.length:Int).toNat (S_font_nest.mk 0 0 0)),(0:Int))) (by show _=_; kernel_rfl) ?_
       refine T_block ?_
       refine T_loopF (ι:=(List S_font_nest)×Int) (fun (p:(List S_font_nest)×Int)=>[(1,.box [.d (.v (.int .i64 a0.f0)),.d (.sl 3 (a0.f1.map cS_FontGlyph)),.d (.sl 3 (a0.f2.map cS_FontRange)),.d (.sl 3 (a0.f3.map cS_FontPair))]),(7,.own 77 3 (p.1.map cS_font_nest)),(70,.d (.v (.int .i64 (a0.f1.length:Int)))),(71,.d (.v (.int .i64 p.2))),(1000000,.glo 0 (glob_filter_steps.flatMap (cI .u32)))]) (fun n p=>font_Check_L3 F a0 n p.1 p.2=some s) (fun i hh=>by simp [font_Check_L3] at hh) (fun n p h=>?_) F ((List.replicate (a0.f1.length:Int).toNat (S_font_nest.mk 0 0 0)),(0:Int)) h
       obtain ⟨v2,v3⟩:=p
       have h:font_Check_L3 F a0 (n+1) v2 v3=some s:=h
       rw [font_Check_L3] at h
       refine T_reg [] [1,7,70,71,72,1000000] [(72,.d (.v (.bool (decide (v3 < (a0.f1.length:Int))))))] [] 1 (by kernel_rfl) (trivial) ?_
       refine T_seqk ?_
       refine T_cond (decide (v3 < (a0.f1.length:Int))) (by kernel_rfl) (fun hc=>?_) (fun hc=>?_)
       ·have h:=cond_tt hc h
        refine T_skip fun a w hm=>then_norm (((?_:T Tryd.prog e 101 _ _ _) a w hm))
        refine T_seqk ?_
        refine T_block ?_
        refine T_reg [] [1,7,8,70,71,1000000] [(8,.d (.v (.int .i64 v3)))] [] 2 (by kernel_rfl) (trivial) ?_
        obtain ⟨y2,hy3,h⟩:=call_ok h
        refine T_reg [(3,{ res:=.d (.v (.int .i64 y2.1)),vout:=[.own 77 3 (y2.2.map cS_font_nest)],xs:=[7] })] [1,7,9,70,71,1000000] [(7,.own 77 3 (y2.2.map cS_font_nest)),(9,.d (.v (.int .i64 y2.1)))] [(3,ACall Tryd.prog 31 [.agg (cS_Font a0),.d (.v (.int .i64 v3)),.vw (1000000,0)] [.own 77 3 (v2.map cS_font_nest)] (.d (.v (.int .i64 y2.1))) [.own 77 3 (y2.2.map cS_font_nest)])] 1 (by kernel_rfl) (font_visit_ok hy3) ?_
        refine T_reg [] [1,7,9,70,71,79,1000000] [(79,.d (.v (.bool (y2.1 != (0:Int)))))] [] 2 (by kernel_rfl) (trivial) ?_
        refine T_cond (y2.1 != (0:Int)) (by kernel_rfl) (fun hc=>?_) (fun hc=>?_)
        ·have h:=cond_tt hc h
         refine T_reg [] [2,1000000] [(2,.d (.v (.int .i64 y2.1)))] [] 2 (by kernel_rfl) (trivial) ?_
         obtain hs:=Option.some.inj h; subst hs
         have h:=callE_esc hk2
         obtain hs:=Option.some.inj h; subst hs
         refine T_ret fun a w hm=>inBlock_ret (then_ret (then_ret (inBlock_ret (then_ret (then_ret (T_return (fr':=[(2,.d (.v (.int .i64 y2.1))),(1000000,.glo 0 (glob_filter_steps.flatMap (cI .u32)))]) [2] (by kernel_rfl) [.keep [2,1000000]] (by kernel_rfl) (by kernel_rfl) (by kernel_rfl) (by show _=_; kernel_rfl) (by exact ⟨⟨by kernel_rfl,by kernel_rfl⟩,trivial⟩) a w hm))))))
        ·have h:=cond_ff hc h
         refine T_skip fun a w hm=>inBlock_norm (then_norm (((?_:T Tryd.prog e 101 _ _ _) a w hm)))
         refine T_reg_end [] [1,7,70,71,1000000] [(71,.d (.v (.int .i64 (IntKind.i64.wrap (v3+(1:Int))))))] [] 2 (by kernel_rfl) (trivial) fun a w hm=>then_norm (⟨(y2.2,IntKind.i64.wrap (v3+(1:Int))),h,hm.co (cs:=[.keep [1,7,70,71,1000000]]) (by show _=_; kernel_rfl)⟩)
       ·have h:=cond_ff hc h
        obtain hs:=Option.some.inj h; subst hs
        refine T_exit fun a w hm=>then_exit (then_exit (inBlock_exit (then_norm (⟨_,rfl,hm.co (cs:=[.keep [1,7,1000000]]) (by show _=_; kernel_rfl)⟩))))
      ·skip
       refine fun a w hm=>then_norm (((?_:T Tryd.prog e 101 _ _ _) a w hm))
       refine T_seqk ?_
       refine T_reg [(1,{ rw:=some (.d (.v (.int .i64 (v4.length:Int)))) })] [1,7,82,83,84,1000000] [(82,.vw (7,0)),(83,.d (.v (.int .i64 (v4.length:Int)))),(84,.d (.v (.int .i64 (0:Int))))] [(1,True∧AV.d (.v (.int .i64 ((v4.map cS_font_nest).length:Int)))=.d (.v (.int .i64 (v4.length:Int))))] 1 (by kernel_rfl) (len_ok cS_font_nest) ?_
       refine T_joinEt h (fun (p:Unit)=>[(1,.box [.d (.v (.int .i64 a0.f0)),.d (.sl 3 (a0.f1.map cS_FontGlyph)),.d (.sl 3 (a0.f2.map cS_FontRange)),.d (.sl 3 (a0.f3.map cS_FontPair))]),(1000000,.glo 0 (glob_filter_steps.flatMap (cI .u32)))]) (fun s h hk3=>?_) (fun s h=>?_)
       ·refine T_co [.keep [1,7,82,83,84,1000000]] ((fun (p:Int)=>[(1,.box [.d (.v (.int .i64 a0.f0)),.d (.sl 3 (a0.f1.map cS_FontGlyph)),.d (.sl 3 (a0.f2.map cS_FontRange)),.d (.sl 3 (a0.f3.map cS_FontPair))]),(7,.own 77 3 (v4.map cS_font_nest)),(82,.vw (7,0)),(83,.d (.v (.int .i64 (v4.length:Int)))),(84,.d (.v (.int .i64 p))),(1000000,.glo 0 (glob_filter_steps.flatMap (cI .u32)))]) (0:Int)) (by show _=_; kernel_rfl) ?_
        refine T_block ?_
        refine T_loopF (ι:=Int) (fun (p:Int)=>[(1,.box [.d (.v (.int .i64 a0.f0)),.d (.sl 3 (a0.f1.map cS_FontGlyph)),.d (.sl 3 (a0.f2.map cS_FontRange)),.d (.sl 3 (a0.f3.map cS_FontPair))]),(7,.own 77 3 (v4.map cS_font_nest)),(82,.vw (7,0)),(83,.d (.v (.int .i64 (v4.length:Int)))),(84,.d (.v (.int .i64 p))),(1000000,.glo 0 (glob_filter_steps.flatMap (cI .u32)))]) (fun n p=>font_Check_L5 F v4 n p=some s) (fun i hh=>by simp [font_Check_L5] at hh) (fun n v5 h=>?_) F (0:Int) h
        have h:font_Check_L5 F v4 (n+1) v5=some s:=h
        rw [font_Check_L5] at h
        refine T_reg [] [1,7,82,83,84,85,1000000] [(85,.d (.v (.bool (decide (v5 < (v4.length:Int))))))] [] 1 (by kernel_rfl) (trivial) ?_
        refine T_seqk ?_
        refine T_cond (decide (v5 < (v4.length:Int))) (by kernel_rfl) (fun hc=>?_) (fun hc=>?_)
        ·have h:=cond_tt hc h
         refine T_skip fun a w hm=>then_norm (((?_:T Tryd.prog e 101 _ _ _) a w hm))
         refine T_seqk ?_
         refine T_block ?_
         obtain ⟨hp3,h⟩:=chk_ok h
         refine T_reg [(1,{ cs:=cS_font_nest (v4.getD v5.toNat (S_font_nest.mk 0 0 0)) })] [1,7,11,82,83,84,1000000] [(11,.box [.d (.v (.int .i64 ((v4.getD v5.toNat (S_font_nest.mk 0 0 0)).f0))),.d (.v (.int .i64 ((v4.getD v5.toNat (S_font_nest.mk 0 0 0)).f1))),.d (.v (.int .i64 ((v4.getD v5.toNat (S_font_nest.mk 0 0 0)).f2)))])] [(0,0≤v5∧v5 < (v4.map cS_font_nest).length),(0,(v4.map cS_font_nest)[v5.toNat]? = some (cS_font_nest (v4.getD v5.toNat (S_font_nest.mk 0 0 0))))] 2 (by kernel_rfl) (⟨own_idx cS_font_nest hp3,(idx_ok (d:=(S_font_nest.mk 0 0 0)) cS_font_nest hp3).2⟩) ?_
         refine T_block ?_
         refine T_reg [] [1,7,11,82,83,84,88,1000000] [(88,.d (.v (.bool (decide (((v4.getD v5.toNat (S_font_nest.mk 0 0 0)).f1) > (4:Int))))))] [] 4 (by kernel_rfl) (trivial) ?_
         refine T_cond (decide (((v4.getD v5.toNat (S_font_nest.mk 0 0 0)).f1) > (4:Int))) (by kernel_rfl) (fun hc=>?_) (fun hc=>?_)
         ·have h:=cond_tt hc h
          refine T_reg [] [2,1000000] [(2,.d (.v (.int .i64 (15:Int))))] [] 1 (by kernel_rfl) (trivial) ?_
          obtain hs:=Option.some.inj h; subst hs
          have h:=callE_esc hk3
          obtain hs:=Option.some.inj h; subst hs
          refine T_ret fun a w hm=>inBlock_ret (inBlock_ret (then_ret (then_ret (inBlock_ret (then_ret (then_ret (T_return (fr':=[(2,.d (.v (.int .i64 (15:Int)))),(1000000,.glo 0 (glob_filter_steps.flatMap (cI .u32)))]) [2] (by kernel_rfl) [.keep [2,1000000]] (by kernel_rfl) (by kernel_rfl) (by kernel_rfl) (by show _=_; kernel_rfl) (by exact ⟨⟨by kernel_rfl,by kernel_rfl⟩,trivial⟩) a w hm)))))))
         ·have h:=cond_ff hc h
          refine T_reg [] [1,7,82,83,84,92,1000000] [(92,.d (.v (.bool (decide (((v4.getD v5.toNat (S_font_nest.mk 0 0 0)).f2) > (512:Int))))))] [] 4 (by kernel_rfl) (trivial) ?_
          refine T_cond (decide (((v4.getD v5.toNat (S_font_nest.mk 0 0 0)).f2) > (512:Int))) (by kernel_rfl) (fun hc=>?_) (fun hc=>?_)
          ·have h:=cond_tt hc h
           refine T_reg [] [2,1000000] [(2,.d (.v (.int .i64 (2:Int))))] [] 1 (by kernel_rfl) (trivial) ?_
           obtain hs:=Option.some.inj h; subst hs
           have h:=callE_esc hk3
           obtain hs:=Option.some.inj h; subst hs
           refine T_ret fun a w hm=>inBlock_ret (inBlock_ret (then_ret (then_ret (inBlock_ret (then_ret (then_ret (T_return (fr':=[(2,.d (.v (.int .i64 (2:Int)))),(1000000,.glo 0 (glob_filter_steps.flatMap (cI .u32)))]) [2] (by kernel_rfl) [.keep [2,1000000]] (by kernel_rfl) (by kernel_rfl) (by kernel_rfl) (by show _=_; kernel_rfl) (by exact ⟨⟨by kernel_rfl,by kernel_rfl⟩,trivial⟩) a w hm)))))))
          ·have h:=cond_ff hc h
           refine T_skip fun a w hm=>inBlock_norm (inBlock_norm (then_norm (((?_:T Tryd.prog e 101 _ _ _) a w hm))))
           refine T_reg_end [] [1,7,82,83,84,1000000] [(84,.d (.v (.int .i64 (IntKind.i64.wrap (v5+(1:Int))))))] [] 2 (by kernel_rfl) (trivial) fun a w hm=>then_norm (⟨IntKind.i64.wrap (v5+(1:Int)),h,hm.co (cs:=[.keep [1,7,82,83,84,1000000]]) (by show _=_; kernel_rfl)⟩)
        ·have h:=cond_ff hc h
         obtain hs:=Option.some.inj h; subst hs
         refine T_exit fun a w hm=>then_exit (then_exit (inBlock_exit (then_norm (⟨_,rfl,hm.co (cs:=[.keep [1,1000000]]) (by show _=_; kernel_rfl)⟩))))
       ·skip
        refine fun a w hm=>then_norm (((?_:T Tryd.prog e 101 _ _ _) a w hm))
        refine T_seqk ?_
        obtain ⟨y4,hy4,h⟩:=call_ok h
        refine T_reg [(1,{ res:=.d (.str y4),vout:=[.glo 0 (glob_filter_steps.flatMap (cI .u32))],xs:=[1000000] })] [100,1000000] [(100,.d (.v (.bool (decide ((y4.length:Int) > (4096:Int))))))] [(1,ACall Tryd.prog 25 [.agg (cS_Font a0)] [.glo 0 (glob_filter_steps.flatMap (cI .u32))] (.d (.str y4)) [.glo 0 (glob_filter_steps.flatMap (cI .u32))])] 2 (by kernel_rfl) (font_written_ok hy4) ?_
        refine T_cond (decide ((y4.length:Int) > (4096:Int))) (by kernel_rfl) (fun hc=>?_) (fun hc=>?_)
        ·have h:=cond_tt hc h
         refine T_reg [] [2,1000000] [(2,.d (.v (.int .i64 (2:Int))))] [] 1 (by kernel_rfl) (trivial) ?_
         obtain hs:=Option.some.inj h; subst hs
         refine T_ret fun a w hm=>then_ret (T_return (fr':=[(2,.d (.v (.int .i64 (2:Int)))),(1000000,.glo 0 (glob_filter_steps.flatMap (cI .u32)))]) [2] (by kernel_rfl) [.keep [2,1000000]] (by kernel_rfl) (by kernel_rfl) (by kernel_rfl) (by show _=_; kernel_rfl) (by exact ⟨⟨by kernel_rfl,by kernel_rfl⟩,trivial⟩) a w hm)
        ·have h:=cond_ff hc h
         refine T_skip fun a w hm=>then_norm (((?_:T Tryd.prog e 101 _ _ _) a w hm))
         refine T_reg [] [2,1000000] [(2,.d (.v (.int .i64 (0:Int))))] [] 1 (by kernel_rfl) (trivial) ?_
         obtain hs:=Option.some.inj h; subst hs
         refine T_ret fun a w hm=>T_return (fr':=[(2,.d (.v (.int .i64 (0:Int)))),(1000000,.glo 0 (glob_filter_steps.flatMap (cI .u32)))]) [2] (by kernel_rfl) [.keep [2,1000000]] (by kernel_rfl) (by kernel_rfl) (by kernel_rfl) (by show _=_; kernel_rfl) (by exact ⟨⟨by kernel_rfl,by kernel_rfl⟩,trivial⟩) a w hm
theorem font_find_c1_ok {F:Nat} {a0:S_FontRange} {a1:Int} {r:Int} (h:font_find_c1 F a0 a1=some r):ACall Tryd.prog 36 [.agg (cS_FontRange a0),.d (.v (.int .i64 a1))] [] (.d (.v (.int .i64 r))) []:=by
 rw [font_find_c1] at h
 refine ACall.intro (N:=9) Tryd.func36 rfl rfl rfl rfl rfl fun e=>?_
 refine T_reg [] [1,2] [(2,.box [.d (.v (.int .i64 a0.f0)),.d (.v (.int .i64 a0.f1)),.d (.v (.int .i64 a0.f2))])] [] 2 (by kernel_rfl) (trivial) ?_
 obtain ⟨y1,hy1,h⟩:=call_ok h
 refine T_reg [(3,{ res:=.d (.v (.int .i64 y1)) })] [4] [(4,.d (.v (.int .i64 y1)))] [(3,ACall Tryd.prog 37 [.d (.v (.int .i64 a0.f0)),.d (.v (.int .i64 a1))] [] (.d (.v (.int .i64 y1))) [])] 1 (by kernel_rfl) (cmp_Compare_int_ok hy1) ?_
 obtain hs:=Option.some.inj h; subst hs
 refine T_ret fun a w hm=>T_return (fr':=[(4,.d (.v (.int .i64 y1)))]) [4] (by kernel_rfl) [.keep [4]] (by kernel_rfl) (by kernel_rfl) (by kernel_rfl) (by show _=_; kernel_rfl) (by exact trivial) a w hm
theorem slices_BinarySearchFunc_int_ok {F:Nat} {a0:List S_FontRange} {a1:Int} {r:Int×Bool} (h:slices_BinarySearchFunc_int F a0 a1=some r):ACall Tryd.prog 35 [.d (.sl 3 (a0.map cS_FontRange)),.d (.v (.int .i64 a1)),.clo 36 []] [] (.tup [.d (.v (.int .i64 r.1)),.d (.v (.bool r.2))]) []:=by
 rw [slices_BinarySearchFunc_int] at h
 refine ACall.intro (N:=49) Tryd.func35 rfl rfl rfl rfl rfl fun e=>?_
 refine T_reg [] [0,1,2] [] [] 2 (by kernel_rfl) (trivial) ?_
 refine T_reg [(1,{ rw:=some (.d (.v (.int .i64 (a0.length:Int)))) })] [0,1,2,8] [(8,.d (.v (.int .i64 (a0.length:Int))))] [(1,True∧AV.d (.v (.int .i64 ((a0.map cS_FontRange).length:Int)))=.d (.v (.int .i64 (a0.length:Int))))] 1 (by kernel_rfl) (len_ok cS_FontRange) ?_
 refine T_reg [] [0,1,2,8,9,10] [(9,.d (.v (.int .i64 (0:Int)))),(10,.d (.v (.int .i64 (a0.length:Int))))] [] 3 (by kernel_rfl) (trivial) ?_
 refine T_joinc h (fun (p:Int)=>[(0,.d (.sl 3 (a0.map cS_FontRange))),(1,.d (.v (.int .i64 a1))),(2,.clo 36 []),(8,.d (.v (.int .i64 (a0.length:Int)))),(9,.d (.v (.int .i64 p)))]) (fun s h=>?_) (fun v3 h=>?_)
 ·refine T_co [.keep [0,1,2,8,9,10]] ((fun (p:Int×Int)=>[(0,.d (.sl 3 (a0.map cS_FontRange))),(1,.d (.v (.int .i64 a1))),(2,.clo 36 []),(8,.d (.v (.int .i64 (a0.length:Int)))),(9,.d (.v (.int .i64 p.1))),(10,.d (.v (.int .i64 p.2)))]) ((0:Int),(a0.length:Int))) (by show _=_; kernel_rfl) ?_
  refine T_block ?_
  refine T_loopF (ι:=Int×Int) (fun (p:Int×Int)=>[(0,.d (.sl 3 (a0.map cS_FontRange))),(1,.d (.v (.int .i64 a1))),(2,.clo 36 []),(8,.d (.v (.int .i64 (a0.length:Int)))),(9,.d (.v (.int .i64 p.1))),(10,.d (.v (.int .i64 p.2)))]) (fun n p=>slices_BinarySearchFunc_int_L0 F a0 a1 n p.1 p.2=some s) (fun i hh=>by simp [slices_BinarySearchFunc_int_L0] at hh) (fun n p h=>?_) F ((0:Int),(a0.length:Int)) h
  obtain ⟨v1,v2⟩:=p
  have h:slices_BinarySearchFunc_int_L0 F a0 a1 (n+1) v1 v2=some s:=h
  rw [slices_BinarySearchFunc_int_L0] at h
  refine T_seqk ?_
  refine T_reg [] [0,1,2,8,9,10,17] [(17,.d (.v (.bool (decide (v1 < v2)))))] [] 3 (by kernel_rfl) (trivial) ?_
  refine T_cond (decide (v1 < v2)) (by kernel_rfl) (fun hc=>?_) (fun hc=>?_)
  ·have h:=cond_tt hc h
   refine T_skip fun a w hm=>then_norm (((?_:T Tryd.prog e 49 _ _ _) a w hm))
   refine T_block ?_
   obtain ⟨z1,hz1,h⟩:=lett_ok h
   refine T_reg [(4,{ rw:=some (.d (.v (.int .u64 z1))) })] [0,1,2,8,9,10,11] [(11,.d (.v (.int .i64 (IntKind.i64.wrap z1))))] [(4,(0≤(1:Int))∧AV.d (.v (.int .u64 ((IntKind.u64.wrap (IntKind.i64.wrap (v1+v2))).fdiv (2 ^ (min (1:Int).toNat IntKind.u64.bits)))))=.d (.v (.int .u64 z1)))] 2 (by kernel_rfl) (⟨(show 0≤(1:Int) by decide),(by subst hz1; rfl)⟩) ?_
   obtain ⟨hp1,h⟩:=chk_ok h
   obtain ⟨y1,hy1,h⟩:=call_ok h
   refine T_reg [(3,{ cs:=cS_FontRange (a0.getD (IntKind.i64.wrap z1).toNat (S_FontRange.mk 0 0 0)) }),(6,{ res:=.d (.v (.int .i64 y1)) })] [0,1,2,8,9,10,11,31] [(31,.d (.v (.bool (decide (y1 < (0:Int))))))] [(3,0≤(IntKind.i64.wrap z1)∧(a0.map cS_FontRange)[(IntKind.i64.wrap z1).toNat]? = some (cS_FontRange (a0.getD (IntKind.i64.wrap z1).toNat (S_FontRange.mk 0 0 0)))),(2,ACall Tryd.prog 36 [.agg (cS_FontRange (a0.getD (IntKind.i64.wrap z1).toNat (S_FontRange.mk 0 0 0))),.d (.v (.int .i64 a1))] [] (.d (.v (.int .i64 y1))) [])] 1 (by kernel_rfl) (⟨idx_ok (d:=(S_FontRange.mk 0 0 0)) cS_FontRange hp1,font_find_c1_ok hy1⟩) ?_
   refine T_cond (decide (y1 < (0:Int))) (by kernel_rfl) (fun hc=>?_) (fun hc=>?_)
   ·have h:=cond_tt hc h
    refine T_reg_end [] [0,1,2,8,9,10] [(9,.d (.v (.int .i64 (IntKind.i64.wrap ((IntKind.i64.wrap z1)+(1:Int))))))] [] 3 (by kernel_rfl) (trivial) fun a w hm=>inBlock_norm (then_norm (⟨(IntKind.i64.wrap ((IntKind.i64.wrap z1)+(1:Int)),v2),h,hm.co (cs:=[.keep [0,1,2,8,9,10]]) (by show _=_; kernel_rfl)⟩))
   ·have h:=cond_ff hc h
    refine T_reg_end [] [0,1,2,8,9,10] [(10,.d (.v (.int .i64 (IntKind.i64.wrap z1))))] [] 2 (by kernel_rfl) (trivial) fun a w hm=>inBlock_norm (then_norm (⟨(v1,IntKind.i64.wrap z1),h,hm.co (cs:=[.keep [0,1,2,8,9,10]]) (by show _=_; kernel_rfl)⟩))
  ·have h:=cond_ff hc h
   obtain hs:=Option.some.inj h; subst hs
   refine T_exit fun a w hm=>then_exit (then_exit (inBlock_exit (then_norm (hm.co (cs:=[.keep [0,1,2,8,9]]) (by show _=_; kernel_rfl)))))
 ·skip
  obtain ⟨hp2,h⟩:=chk_ok h
  obtain ⟨y2,hy2,h⟩:=call_ok h
  refine T_reg [(8,{ cs:=cS_FontRange (a0.getD v3.toNat (S_FontRange.mk 0 0 0)) }),(11,{ res:=.d (.v (.int .i64 y2)) })] [6,7] [(6,.d (.v (.int .i64 v3))),(7,.d (.v (.bool (bif (decide (v3 < (a0.length:Int))) then (y2 == (0:Int)) else false))))] [(5,((((decide (v3 < (a0.length:Int))) == true) && true)=true→True)),(0,((((decide (v3 < (a0.length:Int))) == true) && true)=true→True)),(0,((((decide (v3 < (a0.length:Int))) == true) && true)=true→True)),(0,((((decide (v3 < (a0.length:Int))) == true) && true)=true→0≤v3∧(a0.map cS_FontRange)[v3.toNat]? = some (cS_FontRange (a0.getD v3.toNat (S_FontRange.mk 0 0 0))))),(0,((((decide (v3 < (a0.length:Int))) == true) && true)=true→True)),(0,((((decide (v3 < (a0.length:Int))) == true) && true)=true→True)),(0,((((decide (v3 < (a0.length:Int))) == true) && true)=true→ACall Tryd.prog 36 [.agg (cS_FontRange (a0.getD v3.toNat (S_FontRange.mk 0 0 0))),.d (.v (.int .i64 a1))] [] (.d (.v (.int .i64 y2))) [])),(0,((((decide (v3 < (a0.length:Int))) == true) && true)=true→True))] 3 (by kernel_rfl) (⟨(fun hg=>trivial),(fun hg=>trivial),(fun hg=>trivial),(fun hg=>idx_ok (d:=(S_FontRange.mk 0 0 0)) cS_FontRange (hp2 hg)),(fun hg=>trivial),(fun hg=>trivial),(fun hg=>font_find_c1_ok (gcall_ok hg hy2)),(fun hg=>trivial)⟩) ?_
  obtain hs:=Option.some.inj h; subst hs
  refine T_ret fun a w hm=>T_return (fr':=[(6,.d (.v (.int .i64 v3))),(7,.d (.v (.bool (bif (decide (v3 < (a0.length:Int))) then (y2 == (0:Int)) else false))))]) [6,7] (by kernel_rfl) [.keep [6,7]] (by kernel_rfl) (by kernel_rfl) (by kernel_rfl) (by show _=_; kernel_rfl) (by exact trivial) a w hm
theorem font_find_ok {F:Nat} {a0:S_Font} {a1:Int} {r:Int} (h:font_find F a0 a1=some r):ACall Tryd.prog 20 [.agg (cS_Font a0),.d (.v (.int .i64 a1))] [] (.d (.v (.int .i64 r))) []:=by
 rw [font_find] at h
 refine ACall.intro (N:=45) Tryd.func20 rfl rfl rfl rfl rfl fun e=>?_
 refine T_reg [] [1,2] [(2,.box [.d (.v (.int .i64 a0.f0)),.d (.sl 3 (a0.f1.map cS_FontGlyph)),.d (.sl 3 (a0.f2.map cS_FontRange)),.d (.sl 3 (a0.f3.map cS_FontPair))])] [] 2 (by kernel_rfl) (trivial) ?_
 obtain ⟨y1,hy1,h⟩:=call_ok h
 refine T_reg [(3,{ res:=.tup [.d (.v (.int .i64 y1.1)),.d (.v (.bool y1.2))] })] [1,2,5,6] [(5,.d (.v (.int .i64 y1.1))),(6,.d (.v (.bool y1.2)))] [(3,ACall Tryd.prog 35 [.d (.sl 3 (a0.f2.map cS_FontRange)),.d (.v (.int .i64 a1)),.clo 36 []] [] (.tup [.d (.v (.int .i64 y1.1)),.d (.v (.bool y1.2))]) [])] 5 (by kernel_rfl) (slices_BinarySearchFunc_int_ok hy1) ?_
 refine T_joinc h (fun (p:Int)=>[(1,.d (.v (.int .i64 a1))),(2,.box [.d (.v (.int .i64 a0.f0)),.d (.sl 3 (a0.f1.map cS_FontGlyph)),.d (.sl 3 (a0.f2.map cS_FontRange)),.d (.sl 3 (a0.f3.map cS_FontPair))]),(5,.d (.v (.int .i64 p)))]) (fun s h=>?_) (fun v1 h=>?_)
 ·refine T_reg [] [1,2,5,15] [(15,.d (.v (.bool (!y1.2))))] [] 2 (by kernel_rfl) (trivial) ?_
  refine T_cond (!y1.2) (by kernel_rfl) (fun hc=>?_) (fun hc=>?_)
  ·have h:=cond_tt hc h
   obtain hs:=Option.some.inj h; subst hs
   refine T_reg_end [] [1,2,5] [(5,.d (.v (.int .i64 (IntKind.i64.wrap (y1.1 - (1:Int))))))] [] 3 (by kernel_rfl) (trivial) fun a w hm=>then_norm (hm.co (cs:=[.keep [1,2,5]]) (by show _=_; kernel_rfl))
  ·have h:=cond_ff hc h
   obtain hs:=Option.some.inj h; subst hs
   refine T_skip fun a w hm=>then_norm (hm.co (cs:=[.keep [1,2,5]]) (by show _=_; kernel_rfl))
 ·skip
  refine T_seqk ?_
  obtain ⟨hp1,h⟩:=chk_ok h
  obtain ⟨z1,hz1,h⟩:=lett_ok h
  refine T_reg [(7,{ cs:=cS_FontRange (a0.f2.getD v1.toNat (S_FontRange.mk 0 0 0)) }),(11,{ rw:=some (.d (.v (.bool z1))) })] [1,2,5,29] [(29,.d (.v (.bool z1)))] [(3,((((decide (v1 < (0:Int))) == false) && true)=true→True)),(0,((((decide (v1 < (0:Int))) == false) && true)=true→True)),(0,((((decide (v1 < (0:Int))) == false) && true)=true→True)),(0,((((decide (v1 < (0:Int))) == false) && true)=true→True)),(0,((((decide (v1 < (0:Int))) == false) && true)=true→0≤v1∧(a0.f2.map cS_FontRange)[v1.toNat]? = some (cS_FontRange (a0.f2.getD v1.toNat (S_FontRange.mk 0 0 0))))),(0,((((decide (v1 < (0:Int))) == false) && true)=true→True)),(0,((((decide (v1 < (0:Int))) == false) && true)=true→True)),(0,((((decide (v1 < (0:Int))) == false) && true)=true→True)),(0,(True)∧AV.d (.v (.bool (bif (decide (v1 < (0:Int))) then true else (decide (a1 > ((a0.f2.getD v1.toNat (S_FontRange.mk 0 0 0)).f1))))))=.d (.v (.bool z1)))] 0 (by kernel_rfl) (⟨(fun hg=>trivial),(fun hg=>trivial),(fun hg=>trivial),(fun hg=>trivial),(fun hg=>idx_ok (d:=(S_FontRange.mk 0 0 0)) cS_FontRange (hp1 hg)),(fun hg=>trivial),(fun hg=>trivial),(fun hg=>trivial),⟨trivial,(by subst hz1; rfl)⟩⟩) ?_
  refine T_cond z1 (by kernel_rfl) (fun hc=>?_) (fun hc=>?_)
  ·have h:=cond_tt hc h
   refine T_reg [] [4] [(4,.d (.v (.int .i64 (0:Int))))] [] 1 (by kernel_rfl) (trivial) ?_
   obtain hs:=Option.some.inj h; subst hs
   refine T_ret fun a w hm=>then_ret (T_return (fr':=[(4,.d (.v (.int .i64 (0:Int))))]) [4] (by kernel_rfl) [.keep [4]] (by kernel_rfl) (by kernel_rfl) (by kernel_rfl) (by show _=_; kernel_rfl) (by exact trivial) a w hm)
  ·have h:=cond_ff hc h
   refine T_skip fun a w hm=>then_norm (((?_:T Tryd.prog e 45 _ _ _) a w hm))
   obtain ⟨hp2,h⟩:=chk_ok h
   obtain ⟨hp3,h⟩:=chk_ok h
   obtain ⟨z2,hz2,h⟩:=lett_ok h
   refine T_draw mixed [(3,{ cs:=cS_FontRange (a0.f2.getD v1.toNat (S_FontRange.mk 0 0 0)) }),(11,{ cs:=cS_FontRange (a0.f2.getD v1.toNat (S_FontRange.mk 0 0 0)) }),(14,{ rw:=some (.d (.v (.int .i64 z2))) })] [4] [] [(4,.d (.v (.int .i64 z2)))] [(3,0≤v1∧(a0.f2.map cS_FontRange)[v1.toNat]? = some (cS_FontRange (a0.f2.getD v1.toNat (S_FontRange.mk 0 0 0)))),(7,0≤v1∧(a0.f2.map cS_FontRange)[v1.toNat]? = some (cS_FontRange (a0.f2.getD v1.toNat (S_FontRange.mk 0 0 0)))),(2,(True)∧AV.d (.v (.int .i64 (IntKind.i64.wrap ((IntKind.i64.wrap (((a0.f2.getD v1.toNat (S_FontRange.mk 0 0 0)).f2)+a1)) - ((a0.f2.getD v1.toNat (S_FontRange.mk 0 0 0)).f0)))))=.d (.v (.int .i64 z2)))] 1 (by kernel_rfl) (⟨idx_ok (d:=(S_FontRange.mk 0 0 0)) cS_FontRange hp2,idx_ok (d:=(S_FontRange.mk 0 0 0)) cS_FontRange hp3,⟨trivial,(by subst hz2; rfl)⟩⟩) ?_
   obtain hs:=Option.some.inj h; subst hs
   refine T_ret fun a w hm=>T_return (fr':=[(4,.d (.v (.int .i64 z2)))]) [4] (by kernel_rfl) [.keep [4]] (by kernel_rfl) (by kernel_rfl) (by kernel_rfl) (by show _=_; kernel_rfl) (by exact trivial) a w hm
theorem slices_BinarySearchFunc_FontPair_ok {F:Nat} {a0:List S_FontPair} {a1:S_FontPair} {r:Int×Bool} (h:slices_BinarySearchFunc_FontPair F a0 a1=some r):ACall Tryd.prog 43 [.d (.sl 3 (a0.map cS_FontPair)),.agg (cS_FontPair a1),.clo 44 []] [] (.tup [.d (.v (.int .i64 r.1)),.d (.v (.bool r.2))]) []:=by
 rw [slices_BinarySearchFunc_FontPair] at h
 refine ACall.intro (N:=49) Tryd.func43 rfl rfl rfl rfl rfl fun e=>?_
 refine T_reg [] [0,2,4] [(4,.box [.d (.v (.int .i64 a1.f0)),.d (.v (.int .i64 a1.f1)),.d (.v (.int .i64 a1.f2))])] [] 3 (by kernel_rfl) (trivial) ?_
 refine T_reg [(1,{ rw:=some (.d (.v (.int .i64 (a0.length:Int)))) })] [0,2,4,8] [(8,.d (.v (.int .i64 (a0.length:Int))))] [(1,True∧AV.d (.v (.int .i64 ((a0.map cS_FontPair).length:Int)))=.d (.v (.int .i64 (a0.length:Int))))] 1 (by kernel_rfl) (len_ok cS_FontPair) ?_
 refine T_reg [] [0,2,4,8,9,10] [(9,.d (.v (.int .i64 (0:Int)))),(10,.d (.v (.int .i64 (a0.length:Int))))] [] 3 (by kernel_rfl) (trivial) ?_
 refine T_joinc h (fun (p:Int)=>[(0,.d (.sl 3 (a0.map cS_FontPair))),(2,.clo 44 []),(4,.box [.d (.v (.int .i64 a1.f0)),.d (.v (.int .i64 a1.f1)),.d (.v (.int .i64 a1.f2))]),(8,.d (.v (.int .i64 (a0.length:Int)))),(9,.d (.v (.int .i64 p)))]) (fun s h=>?_) (fun v3 h=>?_)
 ·refine T_co [.keep [0,2,4,8,9,10]] ((fun (p:Int×Int)=>[(0,.d (.sl 3 (a0.map cS_FontPair))),(2,.clo 44 []),(4,.box [.d (.v (.int .i64 a1.f0)),.d (.v (.int .i64 a1.f1)),.d (.v (.int .i64 a1.f2))]),(8,.d (.v (.int .i64 (a0.length:Int)))),(9,.d (.v (.int .i64 p.1))),(10,.d (.v (.int .i64 p.2)))]) ((0:Int),(a0.length:Int))) (by show _=_; kernel_rfl) ?_
  refine T_block ?_
  refine T_loopF (ι:=Int×Int) (fun (p:Int×Int)=>[(0,.d (.sl 3 (a0.map cS_FontPair))),(2,.clo 44 []),(4,.box [.d (.v (.int .i64 a1.f0)),.d (.v (.int .i64 a1.f1)),.d (.v (.int .i64 a1.f2))]),(8,.d (.v (.int .i64 (a0.length:Int)))),(9,.d (.v (.int .i64 p.1))),(10,.d (.v (.int .i64 p.2)))]) (fun n p=>slices_BinarySearchFunc_FontPair_L0 F a0 a1 n p.1 p.2=some s) (fun i hh=>by simp [slices_BinarySearchFunc_FontPair_L0] at hh) (fun n p h=>?_) F ((0:Int),(a0.length:Int)) h
  obtain ⟨v1,v2⟩:=p
  have h:slices_BinarySearchFunc_FontPair_L0 F a0 a1 (n+1) v1 v2=some s:=h
  rw [slices_BinarySearchFunc_FontPair_L0] at h
  refine T_seqk ?_
  refine T_reg [] [0,2,4,8,9,10,17] [(17,.d (.v (.bool (decide (v1 < v2)))))] [] 3 (by kernel_rfl) (trivial) ?_
  refine T_cond (decide (v1 < v2)) (by kernel_rfl) (fun hc=>?_) (fun hc=>?_)
  ·have h:=cond_tt hc h
   refine T_skip fun a w hm=>then_norm (((?_:T Tryd.prog e 49 _ _ _) a w hm))
   refine T_block ?_
   obtain ⟨z1,hz1,h⟩:=lett_ok h
   refine T_reg [(4,{ rw:=some (.d (.v (.int .u64 z1))) })] [0,2,4,8,9,10,11] [(11,.d (.v (.int .i64 (IntKind.i64.wrap z1))))] [(4,(0≤(1:Int))∧AV.d (.v (.int .u64 ((IntKind.u64.wrap (IntKind.i64.wrap (v1+v2))).fdiv (2 ^ (min (1:Int).toNat IntKind.u64.bits)))))=.d (.v (.int .u64 z1)))] 2 (by kernel_rfl) (⟨(show 0≤(1:Int) by decide),(by subst hz1; rfl)⟩) ?_
   obtain ⟨hp1,h⟩:=chk_ok h
   obtain ⟨y1,hy1,h⟩:=call_ok h
   refine T_drawX mixed 1 (.take 0 (.take 1 (.take 2 (.take 3 (.take 4 (.take 5 (.all (.alt 6 (.take 7 .done) .stop)))))))) ([0,0,0,6,8,0,49,64],[0,0,0,6,8,0,49,64]) 191 [(3,{ cs:=cS_FontPair (a0.getD (IntKind.i64.wrap z1).toNat (S_FontPair.mk 0 0 0)) }),(6,{ res:=.d (.v (.int .i64 y1)) })] [0,2,4,8,9,10,11,31] [] [(0,.d (.sl 3 (a0.map cS_FontPair))),(2,.clo 44 []),(4,.box [.d (.v (.int .i64 a1.f0)),.d (.v (.int .i64 a1.f1)),.d (.v (.int .i64 a1.f2))]),(8,.d (.v (.int .i64 (a0.length:Int)))),(9,.d (.v (.int .i64 v1))),(10,.d (.v (.int .i64 v2))),(11,.d (.v (.int .i64 (IntKind.i64.wrap z1)))),(31,.d (.v (.bool (decide (y1 < (0:Int))))))] ((fun (o3:Prop)=>fun (o6:Prop)=>[(3,o3),(2,o6)]) (0≤(IntKind.i64.wrap z1)∧(a0.map cS_FontPair)[(IntKind.i64.wrap z1).toNat]? = some (cS_FontPair (a0.getD (IntKind.i64.wrap z1).toNat (S_FontPair.mk 0 0 0)))) (ACall Tryd.prog 44 [.agg (cS_FontPair (a0.getD (IntKind.i64.wrap z1).toNat (S_FontPair.mk 0 0 0))),.agg (cS_FontPair a1)] [] (.d (.v (.int .i64 y1))) [])) 1 (by kernel_rfl) (by kernel_rfl) (by kernel_rfl) (have p3:=idx_ok (d:=(S_FontPair.mk 0 0 0)) cS_FontPair hp1; have p6:=font_pairs_ok hy1; ⟨p3,p6⟩) ?_
   refine T_cond (decide (y1 < (0:Int))) (by kernel_rfl) (fun hc=>?_) (fun hc=>?_)
   ·have h:=cond_tt hc h
    refine T_reg_end [] [0,2,4,8,9,10] [(9,.d (.v (.int .i64 (IntKind.i64.wrap ((IntKind.i64.wrap z1)+(1:Int))))))] [] 3 (by kernel_rfl) (trivial) fun a w hm=>inBlock_norm (then_norm (⟨(IntKind.i64.wrap ((IntKind.i64.wrap z1)+(1:Int)),v2),h,hm.co (cs:=[.keep [0,2,4,8,9,10]]) (by show _=_; kernel_rfl)⟩))
   ·have h:=cond_ff hc h
    refine T_reg_end [] [0,2,4,8,9,10] [(10,.d (.v (.int .i64 (IntKind.i64.wrap z1))))] [] 2 (by kernel_rfl) (trivial) fun a w hm=>inBlock_norm (then_norm (⟨(v1,IntKind.i64.wrap z1),h,hm.co (cs:=[.keep [0,2,4,8,9,10]]) (by show _=_; kernel_rfl)⟩))
  ·have h:=cond_ff hc h
   obtain hs:=Option.some.inj h; subst hs
   refine T_exit fun a w hm=>then_exit (then_exit (inBlock_exit (then_norm (hm.co (cs:=[.keep [0,2,4,8,9]]) (by show _=_; kernel_rfl)))))
 ·skip
  obtain ⟨hp2,h⟩:=chk_ok h
  obtain ⟨y2,hy2,h⟩:=call_ok h
  refine T_drawX mixed 1 (.take 0 (.take 1 (.take 2 (.take 3 (.take 4 (.take 5 (.take 6 (.take 7 (.take 8 (.take 9 (.take 10 (.all (.alt 11 (.take 12 (.take 13 (.take 14 (.take 15 .done)))) .stop))))))))))))) ([0,0,0,6,8,16,16,16,208,272,16,1584,2064,4112,2049,32767],[0,0,0,6,8,16,16,16,208,272,16,1584,2064,4112,1,8192]) 63487 [(8,{ cs:=cS_FontPair (a0.getD v3.toNat (S_FontPair.mk 0 0 0)) }),(11,{ res:=.d (.v (.int .i64 y2)) })] [6,7] [] [(6,.d (.v (.int .i64 v3))),(7,.d (.v (.bool (bif (decide (v3 < (a0.length:Int))) then (y2 == (0:Int)) else false))))] ((fun (o5:Prop)=>fun (o6:Prop)=>fun (o7:Prop)=>fun (o8:Prop)=>fun (o9:Prop)=>fun (o10:Prop)=>fun (o11:Prop)=>fun (o12:Prop)=>[(5,o5),(0,o6),(0,o7),(0,o8),(0,o9),(0,o10),(0,o11),(0,o12)]) (((((decide (v3 < (a0.length:Int))) == true) && true)=true→True)) (((((decide (v3 < (a0.length:Int))) == true) && true)=true→True)) (((((decide (v3 < (a0.length:Int))) == true) && true)=true→True)) (((((decide (v3 < (a0.length:Int))) == true) && true)=true→0≤v3∧(a0.map cS_FontPair)[v3.toNat]? = some (cS_FontPair (a0.getD v3.toNat (S_FontPair.mk 0 0 0))))) (((((decide (v3 < (a0.length:Int))) == true) && true)=true→True)) (((((decide (v3 < (a0.length:Int))) == true) && true)=true→True)) (((((decide (v3 < (a0.length:Int))) == true) && true)=true→ACall Tryd.prog 44 [.agg (cS_FontPair (a0.getD v3.toNat (S_FontPair.mk 0 0 0))),.agg (cS_FontPair a1)] [] (.d (.v (.int .i64 y2))) [])) (((((decide (v3 < (a0.length:Int))) == true) && true)=true→True))) 3 (by kernel_rfl) (by kernel_rfl) (by kernel_rfl) (have p5:=(fun hg=>trivial); have p6:=(fun hg=>trivial); have p7:=(fun hg=>trivial); have p8:=(fun hg=>idx_ok (d:=(S_FontPair.mk 0 0 0)) cS_FontPair (hp2 hg)); have p9:=(fun hg=>trivial); have p10:=(fun hg=>trivial); have p11:=(fun hg=>font_pairs_ok (gcall_ok hg hy2)); have p12:=(fun hg=>trivial); ⟨p5,p6,p7,p8,p9,p10,p11,p12⟩) ?_
  obtain hs:=Option.some.inj h; subst hs
  refine T_ret fun a w hm=>T_return (fr':=[(6,.d (.v (.int .i64 v3))),(7,.d (.v (.bool (bif (decide (v3 < (a0.length:Int))) then (y2 == (0:Int)) else false))))]) [6,7] (by kernel_rfl) [.keep [6,7]] (by kernel_rfl) (by kernel_rfl) (by kernel_rfl) (by show _=_; kernel_rfl) (by exact trivial) a w hm
theorem font_between_ok {F:Nat} {a0:S_Font} {a1:Int} {a2:Int} {r:Int} (h:font_between F a0 a1 a2=some r):ACall Tryd.prog 27 [.agg (cS_Font a0),.d (.v (.int .i64 a1)),.d (.v (.int .i64 a2))] [] (.d (.v (.int .i64 r))) []:=by
 rw [font_between] at h
 refine ACall.intro (N:=26) Tryd.func27 rfl rfl rfl rfl rfl fun e=>?_
 refine T_reg [] [1,2,3] [(3,.box [.d (.v (.int .i64 a0.f0)),.d (.sl 3 (a0.f1.map cS_FontGlyph)),.d (.sl 3 (a0.f2.map cS_FontRange)),.d (.sl 3 (a0.f3.map cS_FontPair))])] [] 2 (by kernel_rfl) (trivial) ?_
 obtain ⟨y1,hy1,h⟩:=call_ok h
 refine T_reg [(5,{ res:=.tup [.d (.v (.int .i64 y1.1)),.d (.v (.bool y1.2))] })] [3,7,8] [(7,.d (.v (.int .i64 y1.1))),(8,.d (.v (.bool y1.2)))] [(5,ACall Tryd.prog 43 [.d (.sl 3 (a0.f3.map cS_FontPair)),.agg (cS_FontPair (S_FontPair.mk a1 a2 0)),.clo 44 []] [] (.tup [.d (.v (.int .i64 y1.1)),.d (.v (.bool y1.2))]) [])] 5 (by kernel_rfl) (slices_BinarySearchFunc_FontPair_ok hy1) ?_
 refine T_seqk ?_
 refine T_reg [] [3,7,19] [(19,.d (.v (.bool (!y1.2))))] [] 2 (by kernel_rfl) (trivial) ?_
 refine T_cond (!y1.2) (by kernel_rfl) (fun hc=>?_) (fun hc=>?_)
 ·have h:=cond_tt hc h
  refine T_reg [] [6] [(6,.d (.v (.int .i64 (0:Int))))] [] 1 (by kernel_rfl) (trivial) ?_
  obtain hs:=Option.some.inj h; subst hs
  refine T_ret fun a w hm=>then_ret (T_return (fr':=[(6,.d (.v (.int .i64 (0:Int))))]) [6] (by kernel_rfl) [.keep [6]] (by kernel_rfl) (by kernel_rfl) (by kernel_rfl) (by show _=_; kernel_rfl) (by exact trivial) a w hm)
 ·have h:=cond_ff hc h
  refine T_skip fun a w hm=>then_norm (((?_:T Tryd.prog e 26 _ _ _) a w hm))
  obtain ⟨hp1,h⟩:=chk_ok h
  refine T_reg [(3,{ cs:=cS_FontPair (a0.f3.getD y1.1.toNat (S_FontPair.mk 0 0 0)) })] [6] [(6,.d (.v (.int .i64 ((a0.f3.getD y1.1.toNat (S_FontPair.mk 0 0 0)).f2))))] [(3,0≤y1.1∧(a0.f3.map cS_FontPair)[y1.1.toNat]? = some (cS_FontPair (a0.f3.getD y1.1.toNat (S_FontPair.mk 0 0 0))))] 3 (by kernel_rfl) (idx_ok (d:=(S_FontPair.mk 0 0 0)) cS_FontPair hp1) ?_
  obtain hs:=Option.some.inj h; subst hs
  refine T_ret fun a w hm=>T_return (fr':=[(6,.d (.v (.int .i64 ((a0.f3.getD y1.1.toNat (S_FontPair.mk 0 0 0)).f2))))]) [6] (by kernel_rfl) [.keep [6]] (by kernel_rfl) (by kernel_rfl) (by kernel_rfl) (by show _=_; kernel_rfl) (by exact trivial) a w hm
theorem font_Places_ok {F:Nat} {a0:S_Font} {a1:List Int} {r:(List S_ParaGlyph)×Int×Int} (h:font_Places F a0 a1=some r):ACall Tryd.prog 10 [.agg (cS_Font a0),.d (.sl 1 (a1.map (cI .i64)))] [.glo 0 (glob_filter_steps.flatMap (cI .u32))] (.tup [.own 47 3 (r.1.map cS_ParaGlyph),.d (.v (.int .i64 r.2.1)),.d (.v (.int .i64 r.2.2))]) [.glo 0 (glob_filter_steps.flatMap (cI .u32))]:=by
 rw [font_Places] at h
 refine ACall.intro (N:=61) Tryd.func10 rfl rfl rfl rfl rfl fun e=>?_
 refine T_reg [] [1,2,1000000] [(2,.box [.d (.v (.int .i64 a0.f0)),.d (.sl 3 (a0.f1.map cS_FontGlyph)),.d (.sl 3 (a0.f2.map cS_FontRange)),.d (.sl 3 (a0.f3.map cS_FontPair))])] [] 4 (by kernel_rfl) (trivial) ?_
 refine T_seqk ?_
 obtain ⟨y3,hy1,h⟩:=call_ok h
 refine T_reg [(1,{ res:=.d (.v (.int .i64 y3)),vout:=[.glo 0 (glob_filter_steps.flatMap (cI .u32))],xs:=[1000000] })] [1,2,7,1000000] [(7,.d (.v (.int .i64 y3)))] [(1,ACall Tryd.prog 13 [.agg (cS_Font a0)] [.glo 0 (glob_filter_steps.flatMap (cI .u32))] (.d (.v (.int .i64 y3))) [.glo 0 (glob_filter_steps.flatMap (cI .u32))])] 1 (by kernel_rfl) (font_Check_ok hy1) ?_
 refine T_reg [] [1,2,7,16,1000000] [(16,.d (.v (.bool (y3 != (0:Int)))))] [] 2 (by kernel_rfl) (trivial) ?_
 refine T_cond (y3 != (0:Int)) (by kernel_rfl) (fun hc=>?_) (fun hc=>?_)
 ·have h:=cond_tt hc h
  refine T_reg [] [4,5,6,1000000] [(4,.own 47 3 ([].map cS_ParaGlyph)),(5,.d (.v (.int .i64 (0:Int)))),(6,.d (.v (.int .i64 y3)))] [] 4 (by kernel_rfl) (trivial) ?_
  obtain hs:=Option.some.inj h; subst hs
  refine T_ret fun a w hm=>then_ret (T_return (fr':=[(4,.own 47 3 ([].map cS_ParaGlyph)),(5,.d (.v (.int .i64 (0:Int)))),(6,.d (.v (.int .i64 y3))),(1000000,.glo 0 (glob_filter_steps.flatMap (cI .u32)))]) [4,5,6] (by kernel_rfl) [.keep [4,5,6,1000000]] (by kernel_rfl) (by kernel_rfl) (by kernel_rfl) (by show _=_; kernel_rfl) (by exact ⟨⟨by kernel_rfl,by kernel_rfl⟩,trivial⟩) a w hm)
 ·have h:=cond_ff hc h
  refine T_skip fun a w hm=>then_norm (((?_:T Tryd.prog e 61 _ _ _) a w hm))
  refine T_seqk ?_
  refine T_reg [(1,{ rw:=some (.d (.v (.int .i64 (a1.length:Int)))) })] [1,2,20,1000000] [(20,.d (.v (.bool (decide ((a1.length:Int) > (1024:Int))))))] [(1,True∧AV.d (.v (.int .i64 ((a1.map (cI .i64)).length:Int)))=.d (.v (.int .i64 (a1.length:Int))))] 1 (by kernel_rfl) (len_ok (cI .i64)) ?_
  refine T_cond (decide ((a1.length:Int) > (1024:Int))) (by kernel_rfl) (fun hc=>?_) (fun hc=>?_)
  ·have h:=cond_tt hc h
   refine T_reg [] [4,5,6,1000000] [(4,.own 47 3 ([].map cS_ParaGlyph)),(5,.d (.v (.int .i64 (0:Int)))),(6,.d (.v (.int .i64 (2:Int))))] [] 3 (by kernel_rfl) (trivial) ?_
   obtain hs:=Option.some.inj h; subst hs
   refine T_ret fun a w hm=>then_ret (T_return (fr':=[(4,.own 47 3 ([].map cS_ParaGlyph)),(5,.d (.v (.int .i64 (0:Int)))),(6,.d (.v (.int .i64 (2:Int)))),(1000000,.glo 0 (glob_filter_steps.flatMap (cI .u32)))]) [4,5,6] (by kernel_rfl) [.keep [4,5,6,1000000]] (by kernel_rfl) (by kernel_rfl) (by kernel_rfl) (by show _=_; kernel_rfl) (by exact ⟨⟨by kernel_rfl,by kernel_rfl⟩,trivial⟩) a w hm)
  ·have h:=cond_ff hc h
   refine T_skip fun a w hm=>then_norm (((?_:T Tryd.prog e 61 _ _ _) a w hm))
   refine T_reg [] [1,2,8,1000000] [(8,.own 47 3 ([].map cS_ParaGlyph))] [] 1 (by kernel_rfl) (trivial) ?_
   refine T_reg [] [1,2,8,9,1000000] [(9,.d (.v (.int .i64 (0:Int))))] [] 1 (by kernel_rfl) (trivial) ?_
   refine T_seqk ?_
   refine T_reg [(1,{ rw:=some (.d (.v (.int .i64 (a1.length:Int)))) })] [2,8,9,21,22,23,1000000] [(21,.d (.sl 1 (a1.map (cI .i64)))),(22,.d (.v (.int .i64 (a1.length:Int)))),(23,.d (.v (.int .i64 (0:Int))))] [(1,True∧AV.d (.v (.int .i64 ((a1.map (cI .i64)).length:Int)))=.d (.v (.int .i64 (a1.length:Int))))] 1 (by kernel_rfl) (len_ok (cI .i64)) ?_
   refine T_joinct h (fun (p:(List S_ParaGlyph)×Int)=>[(8,.own 47 3 (p.1.map cS_ParaGlyph)),(9,.d (.v (.int .i64 p.2))),(1000000,.glo 0 (glob_filter_steps.flatMap (cI .u32)))]) (fun s h=>?_) (fun s h=>?_)
   ·refine T_co [.keep [2,8,9,21,22,23,1000000]] ((fun (p:(List S_ParaGlyph)×Int×Int)=>[(2,.box [.d (.v (.int .i64 a0.f0)),.d (.sl 3 (a0.f1.map cS_FontGlyph)),.d (.sl 3 (a0.f2.map cS_FontRange)),.d (.sl 3 (a0.f3.map cS_FontPair))]),(8,.own 47 3 (p.1.map cS_ParaGlyph)),(9,.d (.v (.int .i64 p.2.1))),(21,.d (.sl 1 (a1.map (cI .i64)))),(22,.d (.v (.int .i64 (a1.length:Int)))),(23,.d (.v (.int .i64 p.2.2))),(1000000,.glo 0 (glob_filter_steps.flatMap (cI .u32)))]) ([],(0:Int),(0:Int))) (by show _=_; kernel_rfl) ?_
    refine T_block ?_
    refine T_loopF (ι:=(List S_ParaGlyph)×Int×Int) (fun (p:(List S_ParaGlyph)×Int×Int)=>[(2,.box [.d (.v (.int .i64 a0.f0)),.d (.sl 3 (a0.f1.map cS_FontGlyph)),.d (.sl 3 (a0.f2.map cS_FontRange)),.d (.sl 3 (a0.f3.map cS_FontPair))]),(8,.own 47 3 (p.1.map cS_ParaGlyph)),(9,.d (.v (.int .i64 p.2.1))),(21,.d (.sl 1 (a1.map (cI .i64)))),(22,.d (.v (.int .i64 (a1.length:Int)))),(23,.d (.v (.int .i64 p.2.2))),(1000000,.glo 0 (glob_filter_steps.flatMap (cI .u32)))]) (fun n p=>font_Places_L0 F a0 a1 n p.1 p.2.1 p.2.2=some s) (fun i hh=>by simp [font_Places_L0] at hh) (fun n p h=>?_) F ([],(0:Int),(0:Int)) h
    obtain ⟨v1,v2,v3⟩:=p
    have h:font_Places_L0 F a0 a1 (n+1) v1 v2 v3=some s:=h
    rw [font_Places_L0] at h
    refine T_reg [] [2,8,9,21,22,23,24,1000000] [(24,.d (.v (.bool (decide (v3 < (a1.length:Int))))))] [] 1 (by kernel_rfl) (trivial) ?_
    refine T_seqk ?_
    refine T_cond (decide (v3 < (a1.length:Int))) (by kernel_rfl) (fun hc=>?_) (fun hc=>?_)
    ·have h:=cond_tt hc h
     refine T_skip fun a w hm=>then_norm (((?_:T Tryd.prog e 61 _ _ _) a w hm))
     refine T_seqk ?_
     refine T_block ?_
     obtain ⟨hp1,h⟩:=chk_ok h
     refine T_reg [(1,{ cs:=(cI .i64) (a1.getD v3.toNat 0) })] [2,8,9,10,11,21,22,23,1000000] [(10,.d (.v (.int .i64 v3))),(11,.d (.v (.int .i64 (a1.getD v3.toNat 0))))] [(1,0≤v3∧(a1.map (cI .i64))[v3.toNat]? = some ((cI .i64) (a1.getD v3.toNat 0)))] 3 (by kernel_rfl) (idx_ok (d:=0) (cI .i64) hp1) ?_
     obtain ⟨y1,hy2,h⟩:=call_ok h
     refine T_reg [(2,{ res:=.d (.v (.int .i64 y1)) })] [2,8,9,10,12,21,22,23,1000000] [(12,.d (.v (.int .i64 y1)))] [(2,ACall Tryd.prog 20 [.agg (cS_Font a0),.d (.v (.int .i64 (a1.getD v3.toNat 0)))] [] (.d (.v (.int .i64 y1))) [])] 1 (by kernel_rfl) (font_find_ok hy2) ?_
     refine T_joinc h (fun (p:Int)=>[(2,.box [.d (.v (.int .i64 a0.f0)),.d (.sl 3 (a0.f1.map cS_FontGlyph)),.d (.sl 3 (a0.f2.map cS_FontRange)),.d (.sl 3 (a0.f3.map cS_FontPair))]),(8,.own 47 3 (v1.map cS_ParaGlyph)),(9,.d (.v (.int .i64 p))),(12,.d (.v (.int .i64 y1))),(21,.d (.sl 1 (a1.map (cI .i64)))),(22,.d (.v (.int .i64 (a1.length:Int)))),(23,.d (.v (.int .i64 v3))),(1000000,.glo 0 (glob_filter_steps.flatMap (cI .u32)))]) (fun s h=>?_) (fun v4 h=>?_)
     ·refine T_reg [] [2,8,9,10,12,21,22,23,32,1000000] [(32,.d (.v (.bool (decide (v3 > (0:Int))))))] [] 2 (by kernel_rfl) (trivial) ?_
      refine T_cond (decide (v3 > (0:Int))) (by kernel_rfl) (fun hc=>?_) (fun hc=>?_)
      ·have h:=cond_tt hc h
       obtain ⟨hp2,h⟩:=chk_ok h
       obtain ⟨y2,hy3,h⟩:=call_ok h
       obtain hs:=Option.some.inj h; subst hs
       refine T_drawX_end mixed 1 (.take 0 (.take 1 (.take 2 (.take 3 (.take 4 (.take 5 (.take 6 (.take 7 (.take 8 (.all (.alt 9 (.take 10 (.take 11 .done)) .stop))))))))))) ([0,0,0,0,8,20,32,64,0,386,513,2047],[0,0,0,0,8,20,32,64,0,386,513,1025]) 3583 [(7,{ cs:=cS_ParaGlyph (v1.getD (IntKind.i64.wrap (v3 - (1:Int))).toNat (S_ParaGlyph.mk 0 0 0)) }),(9,{ res:=.d (.v (.int .i64 y2)) })] [2,8,9,12,21,22,23,1000000] [] [(2,.box [.d (.v (.int .i64 a0.f0)),.d (.sl 3 (a0.f1.map cS_FontGlyph)),.d (.sl 3 (a0.f2.map cS_FontRange)),.d (.sl 3 (a0.f3.map cS_FontPair))]),(8,.own 47 3 (v1.map cS_ParaGlyph)),(9,.d (.v (.int .i64 (IntKind.i64.wrap (v2+y2))))),(12,.d (.v (.int .i64 y1))),(21,.d (.sl 1 (a1.map (cI .i64)))),(22,.d (.v (.int .i64 (a1.length:Int)))),(23,.d (.v (.int .i64 v3))),(1000000,.glo 0 (glob_filter_steps.flatMap (cI .u32)))] ((fun (o5:Prop)=>fun (o7:Prop)=>fun (o9:Prop)=>[(5,o5),(1,o7),(1,o9)]) (0≤(IntKind.i64.wrap (v3 - (1:Int)))∧(IntKind.i64.wrap (v3 - (1:Int))) < (v1.map cS_ParaGlyph).length) ((v1.map cS_ParaGlyph)[(IntKind.i64.wrap (v3 - (1:Int))).toNat]? = some (cS_ParaGlyph (v1.getD (IntKind.i64.wrap (v3 - (1:Int))).toNat (S_ParaGlyph.mk 0 0 0)))) (ACall Tryd.prog 27 [.agg (cS_Font a0),.d (.v (.int .i64 ((v1.getD (IntKind.i64.wrap (v3 - (1:Int))).toNat (S_ParaGlyph.mk 0 0 0)).f0))),.d (.v (.int .i64 y1))] [] (.d (.v (.int .i64 y2))) [])) 2 (by kernel_rfl) (by kernel_rfl) (by kernel_rfl) (have p5:=own_idx cS_ParaGlyph hp2; have p7:=(idx_ok (d:=(S_ParaGlyph.mk 0 0 0)) cS_ParaGlyph hp2).2; have p9:=font_between_ok hy3; ⟨p5,p7,p9⟩) fun a w hm=>then_norm (hm.co (cs:=[.keep [2,8,9,12,21,22,23,1000000]]) (by show _=_; kernel_rfl))
      ·have h:=cond_ff hc h
       obtain hs:=Option.some.inj h; subst hs
       refine T_skip fun a w hm=>then_norm (hm.co (cs:=[.keep [2,8,9,12,21,22,23,1000000]]) (by show _=_; kernel_rfl))
     ·skip
      obtain ⟨hp3,h⟩:=chk_ok h
      refine T_reg [(4,{ es:=some (([(S_ParaGlyph.mk y1 v4 0)]).map cS_ParaGlyph) }),(5,{ es:=some ((v1++([(S_ParaGlyph.mk y1 v4 0)])).map cS_ParaGlyph) })] [2,8,9,12,21,22,23,1000000] [(8,.own 47 3 ((v1++([(S_ParaGlyph.mk y1 v4 0)])).map cS_ParaGlyph))] [(4,(([(S_ParaGlyph.mk y1 v4 0)]).map cS_ParaGlyph)=(([(S_ParaGlyph.mk y1 v4 0)]).map cS_ParaGlyph)),(0,(v1.map cS_ParaGlyph).length+(([(S_ParaGlyph.mk y1 v4 0)]).map cS_ParaGlyph).length≤4294967296∧(v1.map cS_ParaGlyph)++(([(S_ParaGlyph.mk y1 v4 0)]).map cS_ParaGlyph)=((v1++([(S_ParaGlyph.mk y1 v4 0)])).map cS_ParaGlyph))] 1 (by kernel_rfl) (⟨rfl,app_ok cS_ParaGlyph hp3⟩) ?_
      obtain ⟨hp4,h⟩:=chk_ok h
      refine T_reg_end [(4,{ cs:=cS_FontGlyph (a0.f1.getD y1.toNat (S_FontGlyph.mk 0 [] [])) })] [2,8,9,21,22,23,1000000] [(9,.d (.v (.int .i64 (IntKind.i64.wrap (v4+((a0.f1.getD y1.toNat (S_FontGlyph.mk 0 [] [])).f0))))))] [(4,0≤y1∧(a0.f1.map cS_FontGlyph)[y1.toNat]? = some (cS_FontGlyph (a0.f1.getD y1.toNat (S_FontGlyph.mk 0 [] []))))] 4 (by kernel_rfl) (idx_ok (d:=(S_FontGlyph.mk 0 [] [])) cS_FontGlyph hp4) fun a w hm=>inBlock_norm (then_norm (((?_:T Tryd.prog e 61 _ _ _) a w hm)))
      refine T_reg_end [] [2,8,9,21,22,23,1000000] [(23,.d (.v (.int .i64 (IntKind.i64.wrap (v3+(1:Int))))))] [] 2 (by kernel_rfl) (trivial) fun a w hm=>then_norm (⟨((v1++([(S_ParaGlyph.mk y1 v4 0)])),IntKind.i64.wrap (v4+((a0.f1.getD y1.toNat (S_FontGlyph.mk 0 [] [])).f0)),IntKind.i64.wrap (v3+(1:Int))),h,hm.co (cs:=[.keep [2,8,9,21,22,23,1000000]]) (by show _=_; kernel_rfl)⟩)
    ·have h:=cond_ff hc h
     obtain hs:=Option.some.inj h; subst hs
     refine T_exit fun a w hm=>then_exit (then_exit (inBlock_exit (then_norm (hm.co (cs:=[.keep [8,9,1000000]]) (by show _=_; kernel_rfl)))))
   ·obtain ⟨v5,v6⟩:=s
    try dsimp only at h
    refine fun a w hm=>then_norm (((?_:T Tryd.prog e 61 _ _ _) a w hm))
    refine T_reg [] [4,5,6,8,1000000] [(4,.vw (8,0)),(5,.d (.v (.int .i64 v6))),(6,.d (.v (.int .i64 (0:Int))))] [] 5 (by kernel_rfl) (trivial) ?_
    obtain hs:=Option.some.inj h; subst hs
    refine T_ret fun a w hm=>T_return (fr':=[(4,.own 47 3 (v5.map cS_ParaGlyph)),(5,.d (.v (.int .i64 v6))),(6,.d (.v (.int .i64 (0:Int)))),(1000000,.glo 0 (glob_filter_steps.flatMap (cI .u32)))]) [4,5,6] (by kernel_rfl) [.claim 4,.keep [4,5,6,1000000]] (by kernel_rfl) (by kernel_rfl) (by kernel_rfl) (by show _=_; kernel_rfl) (by exact ⟨⟨by kernel_rfl,by kernel_rfl⟩,trivial⟩) a w hm
end Go.Vm.SubG
