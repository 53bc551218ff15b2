import Derived.Test.YteidenpelbooeaaProg
import Derived.Test.YteidenpelbooeaaBinH
namespace Go.Vm.BinG
open Go.Proofs
abbrev dI (x:Int):AV:=.d (.v (.int .i64 x))
abbrev dB (x:Bool):AV:=.d (.v (.bool x))
abbrev bx_Plate (x:S_Plate):AV:=.box [.d (.v (.int .i64 x.f0)),.d (.v (.int .i64 x.f1)),.d (.sl 1 (x.f2.map cU))]
abbrev bx_FoldStep (x:S_FoldStep):AV:=.box [.d (.v (.int .i64 x.f0)),.d (.v (.int .i64 x.f1)),.d (.v (.bool x.f2))]
abbrev bx_FoldScheme (x:S_FoldScheme):AV:=.box [.d (.v (.int .i64 x.f0)),.d (.v (.int .i64 x.f1)),.d (.sl 3 (x.f2.map cS_FoldStep))]
abbrev bx_ImposeLayout (x:S_ImposeLayout):AV:=.box [.d (.v (.int .i64 x.f0.f0)),.d (.v (.int .i64 x.f0.f1)),.d (.sl 3 (x.f0.f2.map cS_FoldStep)),.d (.v (.int .i64 x.f1)),.d (.v (.int .i64 x.f2)),.d (.v (.int .i64 x.f3)),.d (.v (.int .i64 x.f4)),.d (.v (.int .i64 x.f5)),.d (.v (.int .i64 x.f6)),.d (.v (.int .i64 x.f7)),.d (.v (.int .i64 x.f8))]
abbrev bx_FoldPage (x:S_FoldPage):AV:=.box [.d (.v (.bool x.f0)),.d (.v (.int .i64 x.f1)),.d (.v (.int .i64 x.f2)),.d (.v (.int .i64 x.f3))]
abbrev bx_ImposeSheet (x:S_ImposeSheet):AV:=.box [.d (.v (.int .i64 x.f0)),.d (.v (.int .i64 x.f1)),.d (.sl 4 (x.f2.map cS_ImposePlace)),.d (.sl 4 (x.f3.map cS_ImposePlace))]
abbrev bx_impose_box (x:S_impose_box):AV:=.box [.d (.v (.int .i64 x.f0)),.d (.v (.int .i64 x.f1)),.d (.v (.int .i64 x.f2)),.d (.v (.int .i64 x.f3)),.d (.v (.int .i64 x.f4)),.d (.v (.int .i64 x.f5))]
abbrev bx_fold_sheet (x:S_fold_sheet):AV:=.box [.d (.v (.int .i64 x.f0)),.d (.v (.int .i64 x.f1)),.d (.sl 1 (x.f2.map (cL 4 cS_FoldLeaf)))]
abbrev z_FoldLeaf:S_FoldLeaf:=S_FoldLeaf.mk 0 0 false false
abbrev z_ImposeSheet:S_ImposeSheet:=S_ImposeSheet.mk 0 0 [] []
abbrev z_FoldPage:S_FoldPage:=S_FoldPage.mk false 0 0 0
abbrev z_ImposePlace:S_ImposePlace:=S_ImposePlace.mk 0 0 0 0
abbrev z_FoldStep:S_FoldStep:=S_FoldStep.mk 0 0 false
abbrev z_ImposeMark:S_ImposeMark:=S_ImposeMark.mk 0 0 0 0
abbrev z_fold_sheet:S_fold_sheet:=S_fold_sheet.mk 0 0 []
abbrev z_Plate:S_Plate:=S_Plate.mk 0 0 []
abbrev oW0 (x:List UInt8):AV:=.own 5 1 (x.map cU)
abbrev oW2 (x:List (List S_FoldLeaf)):AV:=.own 104 1 (x.map (cL 4 cS_FoldLeaf))
abbrev oW3 (x:List S_FoldLeaf):AV:=.own 108 4 (x.map cS_FoldLeaf)
abbrev oW4 (x:List S_FoldPage):AV:=.own 70 4 (x.map cS_FoldPage)
abbrev oW6 (x:List Int):AV:=.own 3 1 (x.map (cI .i64))
abbrev oW7 (x:List S_FoldStep):AV:=.own 115 3 (x.map cS_FoldStep)
abbrev oW8 (x:List S_ImposePlace):AV:=.own 79 4 (x.map cS_ImposePlace)
abbrev oW9 (x:List S_ImposeMark):AV:=.own 96 4 (x.map cS_ImposeMark)
abbrev oW10 (x:List S_Plate):AV:=.own 24 3 (x.map cS_Plate)
set_option maxRecDepth 20000
theorem mixed:Try.prog.follows .mixedOrders=true:=by kernel_rfl
theorem law3_dots_ok {F:Nat} {a0:Int} {a1:Int} {a2:Int} {r:S_Plate} (h:law3_dots F a0 a1 a2=some r):ACall Try.prog 7 [.d (.v (.int .i64 a0)),.d (.v (.int .i64 a1)),.d (.v (.int .i64 a2))] [] (.agg (cS_Plate r)) []:=by
  rw [law3_dots] at h
  refine ACall.intro (N:=34) Try.func7 rfl rfl rfl rfl rfl fun e=>?_
  refine T_reg [] [0,1,2,6] [(6,.box [dI 0,dI 0,oW0 []])] [] 1 (by kernel_rfl) (trivial) ?_
  refine T_region [(2,{ take:=[0] })] [0,1,2,6,7] [.nilc 7 2 5 1,.keep [0,1,2,6,7]] [(0,dI a0),(1,dI a1),(2,dI a2),(6,.box [dI 0,dI 0,oW0 []]),(7,.box [dI a0,dI a1,oW0 []])] [] 5 (by kernel_rfl) (trivial) ?_
  refine T_seqk ?_
  refine T_reg [] [2,6,7,14,15] [(14,dI (IntKind.i64.wrap (a0 * a1))),(15,dI (0:Int))] [] 4 (by kernel_rfl) (trivial) ?_
  refine T_joinct h (fun (p:(List UInt8))=>[(6,.box [dI 0,dI 0,oW0 []]),(7,.box [dI a0,dI a1,oW0 p])]) (fun s h=>?_) (fun v3 h=>?_)
  · refine T_co [.keep [2,6,7,14,15]] ((fun (p:(List UInt8)×Int)=>[(2,dI a2),(6,.box [dI 0,dI 0,oW0 []]),(7,.box [dI a0,dI a1,oW0 p.1]),(14,dI (IntKind.i64.wrap (a0 * a1))),(15,dI p.2)]) ([],(0:Int))) (by show _=_; kernel_rfl) ?_
    refine T_block ?_
    refine T_loopF (ι:=(List UInt8)×Int) (fun (p:(List UInt8)×Int)=>[(2,dI a2),(6,.box [dI 0,dI 0,oW0 []]),(7,.box [dI a0,dI a1,oW0 p.1]),(14,dI (IntKind.i64.wrap (a0 * a1))),(15,dI p.2)]) (fun n p=>law3_dots_L0 F a0 a1 a2 n p.1 p.2=some s) (fun i hh=>by simp [law3_dots_L0] at hh) (fun n p h=>?_) F ([],(0:Int)) h
    obtain ⟨v1,v2⟩:=p
    have h:law3_dots_L0 F a0 a1 a2 (n+1) v1 v2=some s:=h
    rw [law3_dots_L0] at h
    refine T_reg [] [2,6,7,14,15,16] [(16,dB (decide (v2 < (IntKind.i64.wrap (a0 * a1)))))] [] 1 (by kernel_rfl) (trivial) ?_
    refine T_seqk ?_
    refine T_cond (decide (v2 < (IntKind.i64.wrap (a0 * a1)))) (by kernel_rfl) (fun hc=>?_) (fun hc=>?_)
    · have h:=cond_tt hc h
      refine T_skip fun a w hm=>then_norm (((?_:T Try.prog e 34 _ _ _) a w hm))
      refine T_seqk ?_
      refine T_block ?_
      refine T_reg [] [2,6,7,8,14,15] [(8,dI v2)] [] 2 (by kernel_rfl) (trivial) ?_
      obtain ⟨z1,hz1,h⟩:=lett_ok h
      obtain ⟨hp1,h⟩:=chk_ok h
      obtain ⟨hp2,h⟩:=chk_ok h
      refine T_reg_end [(9,{ rw:=some (dI z1) }),(11,{ es:=some (([(UInt8.ofNat (IntKind.u8.wrap z1).toNat)]).map cU) }),(12,{ es:=some ((v1++([(UInt8.ofNat (IntKind.u8.wrap z1).toNat)])).map cU) })] [2,6,7,14,15] [(7,.box [dI a0,dI a1,.own 5 1 ((v1++([(UInt8.ofNat (IntKind.u8.wrap z1).toNat)])).map cU)])] [(9,(True)∧dI (IntKind.i64.wrap ((IntKind.i64.wrap (a2+(IntKind.i64.wrap (v2 * (7:Int)))))+(IntKind.i64.wrap (v2 * v2))))=dI z1),(1,[[Dat.v (.int .u8 (IntKind.u8.wrap z1))]]=(([(UInt8.ofNat (IntKind.u8.wrap z1).toNat)]).map cU)),(0,(v1.map cU).length+(([(UInt8.ofNat (IntKind.u8.wrap z1).toNat)]).map cU).length≤4294967296∧(v1.map cU)++(([(UInt8.ofNat (IntKind.u8.wrap z1).toNat)]).map cU)=((v1++([(UInt8.ofNat (IntKind.u8.wrap z1).toNat)])).map cU))] 2 (by kernel_rfl) (⟨⟨trivial,(by subst hz1; rfl)⟩,(lit_u hp1 (rfl:([]:List (List Dat))=([]:List UInt8).map cU)),app_ok cU hp2⟩) fun a w hm=>inBlock_norm (then_norm (((?_:T Try.prog e 34 _ _ _) a w hm)))
      refine T_reg_end [] [2,6,7,14,15] [(15,dI (IntKind.i64.wrap (v2+(1:Int))))] [] 2 (by kernel_rfl) (trivial) fun a w hm=>then_norm (⟨((v1++([(UInt8.ofNat (IntKind.u8.wrap z1).toNat)])),IntKind.i64.wrap (v2+(1:Int))),h,hm.co (cs:=[.keep [2,6,7,14,15]]) (by show _=_; kernel_rfl)⟩)
    · have h:=cond_ff hc h
      obtain hs:=Option.some.inj h; subst hs
      refine T_exit fun a w hm=>then_exit (then_exit (inBlock_exit (then_norm (hm.co (cs:=[.keep [6,7]]) (by show _=_; kernel_rfl)))))
  · skip
    refine fun a w hm=>then_norm (((?_:T Try.prog e 34 _ _ _) a w hm))
    refine T_reg [(0,{ frz:=[(7,3)] })] [6] [(6,.box [dI a0,dI a1,.d (.sl 1 (v3.map cU))])] [] 2 (by kernel_rfl) (trivial) ?_
    obtain hs:=Option.some.inj h; subst hs
    refine T_ret fun a w hm=>T_returnC (fr':=[(6,.box [dI a0,dI a1,.d (.sl 1 (v3.map cU))])]) (ts:=[34]) (N':=35) (fr2:=[(34,.agg (cS_Plate (S_Plate.mk a0 a1 v3)))]++[(6,.box [dI a0,dI a1,.d (.sl 1 (v3.map cU))])]) [.keep [6]] (by kernel_rfl) (by kernel_rfl) (by kernel_rfl) (by kernel_rfl) (by show _=_; kernel_rfl) (by exact trivial) a w hm
theorem slices_Clone_uint8_ok {F:Nat} {a0:List UInt8} {r:(List UInt8)} (h:slices_Clone_uint8 F a0=some r):ACall Try.prog 57 [.d (.sl 1 (a0.map cU))] [] (.own 5 1 (r.map cU)) []:=by
  rw [slices_Clone_uint8] at h
  refine ACall.intro (N:=8) Try.func57 rfl rfl rfl rfl rfl fun e=>?_
  refine T_reg [] [0] [] [] 1 (by kernel_rfl) (trivial) ?_
  refine T_seqk ?_
  refine T_nilTest (sz:=1) (es:=(a0.map cU)) 0 3 4 22 (by kernel_rfl) (by kernel_rfl) (by kernel_rfl) (by kernel_rfl) [0] [(0,.d (.sl 1 (a0.map cU)))] (fun _=>by kernel_rfl) (fun hnil=>?_) ?_
  · replace hnil:=List.map_eq_nil_iff.1 hnil
    have h:(some [])=some r:=by subst hnil; exact h
    refine T_reg [] [2] [(2,oW0 [])] [] 1 (by kernel_rfl) (trivial) ?_
    obtain hs:=Option.some.inj h; subst hs
    refine T_ret fun a w hm=>then_ret (T_return (fr':=[(2,oW0 [])]) [2] (by kernel_rfl) [.keep [2]] (by kernel_rfl) (by kernel_rfl) (by kernel_rfl) (by show _=_; kernel_rfl) (by exact trivial) a w hm)
  · skip
    refine T_skip fun a w hm=>then_norm (((?_:T Try.prog e 8 _ _ _) a w hm))
    obtain ⟨hp1,h⟩:=chk_ok h
    refine T_reg [(2,{ es:=some ((([]:List UInt8)++a0).map cU) })] [2] [(2,.own 5 1 ((([]:List UInt8)++a0).map cU))] [(0,([]:List (List Dat))=[]),(1,(([]:List UInt8).map cU).length+(a0.map cU).length≤4294967296∧(([]:List UInt8).map cU)++(a0.map cU)=((([]:List UInt8)++a0).map cU))] 1 (by kernel_rfl) (⟨rfl,app_ok cU hp1⟩) ?_
    obtain hs:=Option.some.inj h; subst hs
    refine T_ret fun a w hm=>T_return (fr':=[(2,.own 5 1 ((([]:List UInt8)++a0).map cU))]) [2] (by kernel_rfl) [.keep [2]] (by kernel_rfl) (by kernel_rfl) (by kernel_rfl) (by show _=_; kernel_rfl) (by exact trivial) a w hm
theorem raster_Of_ok {F:Nat} {a0:S_Plate} {r:S_Plate} (h:raster_Of F a0=some r):ACall Try.prog 37 [.agg (cS_Plate a0)] [] (.agg (cS_Plate r)) []:=by
  rw [raster_Of] at h
  refine ACall.intro (N:=11) Try.func37 rfl rfl rfl rfl rfl fun e=>?_
  refine T_reg [] [1,2] [(1,bx_Plate a0),(2,.box [dI 0,dI 0,oW0 []])] [] 2 (by kernel_rfl) (trivial) ?_
  obtain ⟨y1,hy1,h⟩:=call_ok h
  refine T_drawX mixed 12 (.take 0 (.take 2 (.take 4 (.all (.alt 1 (.all (.alt 3 (.all (.alt 5 (.all (.alt 6 (.all (.alt 7 (.all (.alt 8 .done .stop)) .stop)) .stop)) .stop)) (.alt 5 (.all (.alt 3 (.all (.alt 6 (.all (.alt 7 (.all (.alt 8 .done .stop)) .stop)) .stop)) (.alt 6 (.all (.alt 3 (.all (.alt 7 (.all (.alt 8 .done .stop)) .stop)) .stop)) .stop))) .stop))) (.alt 3 (.all (.alt 1 (.all (.alt 5 (.all (.alt 6 (.all (.alt 7 (.all (.alt 8 .done .stop)) .stop)) .stop)) .stop)) (.alt 5 (.all (.alt 1 (.all (.alt 6 (.all (.alt 7 (.all (.alt 8 .done .stop)) .stop)) .stop)) (.alt 6 (.all (.alt 1 (.all (.alt 7 (.all (.alt 8 .done .stop)) .stop)) .stop)) .stop))) .stop))) (.alt 5 (.all (.alt 1 (.all (.alt 3 (.all (.alt 6 (.all (.alt 7 (.all (.alt 8 .done .stop)) .stop)) .stop)) (.alt 6 (.all (.alt 3 (.all (.alt 7 (.all (.alt 8 .done .stop)) .stop)) .stop)) .stop))) (.alt 3 (.all (.alt 1 (.all (.alt 6 (.all (.alt 7 (.all (.alt 8 .done .stop)) .stop)) .stop)) (.alt 6 (.all (.alt 1 (.all (.alt 7 (.all (.alt 8 .done .stop)) .stop)) .stop)) .stop))) (.alt 6 (.all (.alt 1 (.all (.alt 3 (.all (.alt 7 (.all (.alt 8 .done .stop)) .stop)) .stop)) (.alt 3 (.all (.alt 1 (.all (.alt 7 (.all (.alt 8 .done .stop)) .stop)) .stop)) .stop))) .stop)))) .stop))))))) ([0,1,0,4,0,16,32,74,255],[0,1,0,4,0,16,32,74,128]) 21 [(6,{ res:=oW0 y1 }),(7,{ frz:=[(9,0)] })] [2] [] [(2,.box [dI a0.f0,dI a0.f1,.d (.sl 1 (y1.map cU))])] ((fun (o6:Prop)=>[(6,o6),(4,o6),(2,o6),(6,o6),(4,o6),(2,o6),(6,o6),(2,o6),(5,o6),(2,o6),(3,o6)]) (ACall Try.prog 57 [.d (.sl 1 (a0.f2.map cU))] [] (oW0 y1) [])) 8 (by kernel_rfl) (by kernel_rfl) (by kernel_rfl) (have p6:=slices_Clone_uint8_ok hy1; ⟨p6,p6,p6,p6,p6,p6,p6,p6,p6,p6,p6⟩) ?_
  obtain hs:=Option.some.inj h; subst hs
  refine T_ret fun a w hm=>T_returnC (fr':=[(2,.box [dI a0.f0,dI a0.f1,.d (.sl 1 (y1.map cU))])]) (ts:=[11]) (N':=12) (fr2:=[(11,.agg (cS_Plate (S_Plate.mk a0.f0 a0.f1 y1)))]++[(2,.box [dI a0.f0,dI a0.f1,.d (.sl 1 (y1.map cU))])]) [.keep [2]] (by kernel_rfl) (by kernel_rfl) (by kernel_rfl) (by kernel_rfl) (by show _=_; kernel_rfl) (by exact trivial) a w hm
theorem raster_sized_ok {F:Nat} {a0:Int} {a1:Int} {r:Bool} (h:raster_sized F a0 a1=some r):ACall Try.prog 52 [.d (.v (.int .i64 a0)),.d (.v (.int .i64 a1))] [] (.d (.v (.bool r))) []:=by
  rw [raster_sized] at h
  refine ACall.intro (N:=19) Try.func52 rfl rfl rfl rfl rfl fun e=>?_
  refine T_reg [] [0,1] [] [] 1 (by kernel_rfl) (trivial) ?_
  obtain ⟨z1,hz1,h⟩:=lett_ok h
  refine T_reg [(9,{ rw:=some (dB z1) })] [4] [(4,dB (bif z1 then (decide (a1≤(1024:Int))) else false))] [(3,((((decide (a0 ≥ (1:Int))) == true) && true)=true→True)),(0,((((decide (a0 ≥ (1:Int))) == true) && true)=true→True)),(2,((((bif (decide (a0 ≥ (1:Int))) then (decide (a0≤(1024:Int))) else false) == true) && true)=true→True)),(0,((((bif (decide (a0 ≥ (1:Int))) then (decide (a0≤(1024:Int))) else false) == true) && true)=true→True)),(0,(True)∧dB (bif (bif (decide (a0 ≥ (1:Int))) then (decide (a0≤(1024:Int))) else false) then (decide (a1 ≥ (1:Int))) else false)=dB z1),(1,(((z1 == true) && true)=true→True)),(0,(((z1 == true) && true)=true→True))] 2 (by kernel_rfl) (⟨(fun hg=>trivial),(fun hg=>trivial),(fun hg=>trivial),(fun hg=>trivial),⟨trivial,(by subst hz1; rfl)⟩,(fun hg=>trivial),(fun hg=>trivial)⟩) ?_
  obtain hs:=Option.some.inj h; subst hs
  refine T_ret fun a w hm=>T_return (fr':=[(4,dB (bif z1 then (decide (a1≤(1024:Int))) else false))]) [4] (by kernel_rfl) [.keep [4]] (by kernel_rfl) (by kernel_rfl) (by kernel_rfl) (by show _=_; kernel_rfl) (by exact trivial) a w hm
theorem raster_Grid_uint8_Check_ok {F:Nat} {a0:S_Plate} {r:Int} (h:raster_Grid_uint8_Check F a0=some r):ACall Try.prog 41 [.agg (cS_Plate a0)] [] (.d (.v (.int .i64 r))) []:=by
  rw [raster_Grid_uint8_Check] at h
  refine ACall.intro (N:=18) Try.func41 rfl rfl rfl rfl rfl fun e=>?_
  refine T_reg [] [1] [(1,bx_Plate a0)] [] 2 (by kernel_rfl) (trivial) ?_
  refine T_seqk ?_
  obtain ⟨y1,hy1,h⟩:=call_ok h
  refine T_reg [(4,{ res:=dB y1 })] [1,8] [(8,dB (!y1))] [(4,ACall Try.prog 52 [dI a0.f0,dI a0.f1] [] (dB y1) [])] 1 (by kernel_rfl) (raster_sized_ok hy1) ?_
  refine T_cond (!y1) (by kernel_rfl) (fun hc=>?_) (fun hc=>?_)
  · have h:=cond_tt hc h
    refine T_reg [] [2] [(2,dI (3:Int))] [] 1 (by kernel_rfl) (trivial) ?_
    obtain hs:=Option.some.inj h; subst hs
    refine T_ret fun a w hm=>then_ret (T_return (fr':=[(2,dI (3:Int))]) [2] (by kernel_rfl) [.keep [2]] (by kernel_rfl) (by kernel_rfl) (by kernel_rfl) (by show _=_; kernel_rfl) (by exact trivial) a w hm)
  · have h:=cond_ff hc h
    refine T_skip fun a w hm=>then_norm (((?_:T Try.prog e 18 _ _ _) a w hm))
    refine T_seqk ?_
    refine T_reg [(2,{ rw:=some (dI (a0.f2.length:Int)) })] [17] [(17,dB ((a0.f2.length:Int) != (IntKind.i64.wrap (a0.f0 * a0.f1))))] [(2,True∧dI ((a0.f2.map cU).length:Int)=dI (a0.f2.length:Int))] 6 (by kernel_rfl) (len_ok cU) ?_
    refine T_cond ((a0.f2.length:Int) != (IntKind.i64.wrap (a0.f0 * a0.f1))) (by kernel_rfl) (fun hc=>?_) (fun hc=>?_)
    · have h:=cond_tt hc h
      refine T_reg [] [2] [(2,dI (4:Int))] [] 1 (by kernel_rfl) (trivial) ?_
      obtain hs:=Option.some.inj h; subst hs
      refine T_ret fun a w hm=>then_ret (T_return (fr':=[(2,dI (4:Int))]) [2] (by kernel_rfl) [.keep [2]] (by kernel_rfl) (by kernel_rfl) (by kernel_rfl) (by show _=_; kernel_rfl) (by exact trivial) a w hm)
    · have h:=cond_ff hc h
      refine T_skip fun a w hm=>then_norm (((?_:T Try.prog e 18 _ _ _) a w hm))
      refine T_reg [] [2] [(2,dI (0:Int))] [] 1 (by kernel_rfl) (trivial) ?_
      obtain hs:=Option.some.inj h; subst hs
      refine T_ret fun a w hm=>T_return (fr':=[(2,dI (0:Int))]) [2] (by kernel_rfl) [.keep [2]] (by kernel_rfl) (by kernel_rfl) (by kernel_rfl) (by show _=_; kernel_rfl) (by exact trivial) a w hm
theorem raster_Grid_uint8_Turn_c1_ok {F:Nat} {a0:Int} {a1:Int} {c2:Int} {c3:Int} {c4:List UInt8} {c5:Int} {c6:Int} {r:Int×Int×Int×(List UInt8)×Int×Int} (h:raster_Grid_uint8_Turn_c1 F a0 a1 c2 c3 c4 c5 c6=some r):ACall Try.prog 58 [.d (.v (.int .i64 a0)),.d (.v (.int .i64 a1)),.bp 1000000 0,.bp 1000001 0,.bp 1000002 0] [.box [.d (.v (.int .i64 c2)),.d (.v (.int .i64 c3)),.d (.sl 1 (c4.map cU))],.box [.d (.v (.int .i64 c5))],.box [.d (.v (.int .i64 c6))]] (.d (.v (.int .u8 r.1))) [.box [.d (.v (.int .i64 r.2.1)),.d (.v (.int .i64 r.2.2.1)),.d (.sl 1 (r.2.2.2.1.map cU))],.box [.d (.v (.int .i64 r.2.2.2.2.1))],.box [.d (.v (.int .i64 r.2.2.2.2.2))]]:=by
  rw [raster_Grid_uint8_Turn_c1] at h
  refine ACall.intro (N:=20) Try.func58 rfl rfl rfl rfl rfl fun e=>?_
  refine T_reg [] [0,1,2,3,4,1000000,1000001,1000002] [] [] 1 (by kernel_rfl) (trivial) ?_
  obtain ⟨z1,hz1,h⟩:=lett_ok h
  obtain ⟨hp1,h⟩:=chk_ok h
  refine T_reg [(9,{ rw:=some (dI z1) }),(10,{ cs:=cU (c4.getD z1.toNat 0) })] [7,1000000,1000001,1000002] [(7,.d (.v (.int .u8 ((c4.getD z1.toNat 0).toNat:Int))))] [(9,(True)∧dI (IntKind.i64.wrap ((IntKind.i64.wrap ((IntKind.i64.wrap ((IntKind.i64.wrap (c5 - (1:Int))) - a0)) * c6))+a1))=dI z1),(0,0≤z1∧(c4.map cU)[z1.toNat]? = some (cU (c4.getD z1.toNat 0)))] 2 (by kernel_rfl) (⟨⟨trivial,(by subst hz1; rfl)⟩,idx_ok (d:=0) cU hp1⟩) ?_
  obtain hs:=Option.some.inj h; subst hs
  refine T_ret fun a w hm=>T_return (fr':=[(7,.d (.v (.int .u8 ((c4.getD z1.toNat 0).toNat:Int)))),(1000000,.box [dI c2,dI c3,.d (.sl 1 (c4.map cU))]),(1000001,.box [dI c5]),(1000002,.box [dI c6])]) [7] (by kernel_rfl) [.keep [7,1000000,1000001,1000002]] (by kernel_rfl) (by kernel_rfl) (by kernel_rfl) (by show _=_; kernel_rfl) (by exact ⟨⟨by kernel_rfl,by kernel_rfl⟩,⟨⟨by kernel_rfl,by kernel_rfl⟩,⟨⟨by kernel_rfl,by kernel_rfl⟩,trivial⟩⟩⟩) a w hm
theorem raster_build_uint8_v1_ok {F:Nat} {a0:Int} {a1:Int} {c2:Int} {c3:Int} {c4:List UInt8} {c5:Int} {c6:Int} {r:S_Plate×Int×Int×(List UInt8)×Int×Int} (h:raster_build_uint8_v1 F a0 a1 c2 c3 c4 c5 c6=some r):ACall Try.prog 53 [.d (.v (.int .i64 a0)),.d (.v (.int .i64 a1)),.clo 58 [.bp 1000000 0,.bp 1000001 0,.bp 1000002 0]] [.box [.d (.v (.int .i64 c2)),.d (.v (.int .i64 c3)),.d (.sl 1 (c4.map cU))],.box [.d (.v (.int .i64 c5))],.box [.d (.v (.int .i64 c6))]] (.agg (cS_Plate r.1)) [.box [.d (.v (.int .i64 r.2.1)),.d (.v (.int .i64 r.2.2.1)),.d (.sl 1 (r.2.2.2.1.map cU))],.box [.d (.v (.int .i64 r.2.2.2.2.1))],.box [.d (.v (.int .i64 r.2.2.2.2.2))]]:=by
  rw [raster_build_uint8_v1] at h
  refine ACall.intro (N:=37) Try.func53 rfl rfl rfl rfl rfl fun e=>?_
  refine T_reg [] [0,1,2,6,1000000,1000001,1000002] [(6,.box [dI 0,dI 0,oW0 []])] [] 1 (by kernel_rfl) (trivial) ?_
  obtain ⟨hp1,h⟩:=chk_ok h
  refine T_region [(5,{ es:=some ((List.replicate (0:Int).toNat 0).map cU) })] [0,1,2,6,7,15,1000000,1000001,1000002] [.claimc 7 2,.keep [0,1,2,6,7,1000000,1000001,1000002]] [(0,dI a0),(1,dI a1),(2,.clo 58 [.bp 1000000 0,.bp 1000001 0,.bp 1000002 0]),(6,.box [dI 0,dI 0,oW0 []]),(7,.box [dI a0,dI a1,.own 5 1 ((List.replicate (0:Int).toNat 0).map cU)]),(1000000,.box [dI c2,dI c3,.d (.sl 1 (c4.map cU))]),(1000001,.box [dI c5]),(1000002,.box [dI c6])] [(5,(0≤(0:Int)∧(0:Int)≤(IntKind.i64.wrap (a0 * a1))∧(IntKind.i64.wrap (a0 * a1))≤9223372036854775807∧((1:Nat):Int) * (IntKind.i64.wrap (a0 * a1))≤281474976710656)∧List.replicate (0:Int).toNat (cU 0)=((List.replicate (0:Int).toNat 0).map cU))] 3 (by kernel_rfl) (⟨hp1,repl_ok cU rfl⟩) ?_
  refine T_seqk ?_
  refine T_reg [] [0,2,6,7,17,18,1000000,1000001,1000002] [(17,dI a1),(18,dI (0:Int))] [] 2 (by kernel_rfl) (trivial) ?_
  refine T_joinct h (fun (p:(List UInt8)×Int×Int×(List UInt8)×Int×Int)=>[(6,.box [dI 0,dI 0,oW0 []]),(7,.box [dI a0,dI a1,oW0 p.1]),(1000000,.box [dI p.2.1,dI p.2.2.1,.d (.sl 1 (p.2.2.2.1.map cU))]),(1000001,.box [dI p.2.2.2.2.1]),(1000002,.box [dI p.2.2.2.2.2])]) (fun s h=>?_) (fun s h=>?_)
  · refine T_co [.keep [0,2,6,7,17,18,1000000,1000001,1000002]] ((fun (p:(List UInt8)×Int×Int×Int×(List UInt8)×Int×Int)=>[(0,dI a0),(2,.clo 58 [.bp 1000000 0,.bp 1000001 0,.bp 1000002 0]),(6,.box [dI 0,dI 0,oW0 []]),(7,.box [dI a0,dI a1,oW0 p.1]),(17,dI a1),(18,dI p.2.1),(1000000,.box [dI p.2.2.1,dI p.2.2.2.1,.d (.sl 1 (p.2.2.2.2.1.map cU))]),(1000001,.box [dI p.2.2.2.2.2.1]),(1000002,.box [dI p.2.2.2.2.2.2])]) ((List.replicate (0:Int).toNat 0),(0:Int),c2,c3,c4,c5,c6)) (by show _=_; kernel_rfl) ?_
    refine T_block ?_
    refine T_loopF (ι:=(List UInt8)×Int×Int×Int×(List UInt8)×Int×Int) (fun (p:(List UInt8)×Int×Int×Int×(List UInt8)×Int×Int)=>[(0,dI a0),(2,.clo 58 [.bp 1000000 0,.bp 1000001 0,.bp 1000002 0]),(6,.box [dI 0,dI 0,oW0 []]),(7,.box [dI a0,dI a1,oW0 p.1]),(17,dI a1),(18,dI p.2.1),(1000000,.box [dI p.2.2.1,dI p.2.2.2.1,.d (.sl 1 (p.2.2.2.2.1.map cU))]),(1000001,.box [dI p.2.2.2.2.2.1]),(1000002,.box [dI p.2.2.2.2.2.2])]) (fun n p=>raster_build_uint8_v1_L0 F a0 a1 n p.1 p.2.1 p.2.2.1 p.2.2.2.1 p.2.2.2.2.1 p.2.2.2.2.2.1 p.2.2.2.2.2.2=some s) (fun i hh=>by simp [raster_build_uint8_v1_L0] at hh) (fun n p h=>?_) F ((List.replicate (0:Int).toNat 0),(0:Int),c2,c3,c4,c5,c6) h
    obtain ⟨v9,v1,v10,v11,v12,v13,v14⟩:=p
    have h:raster_build_uint8_v1_L0 F a0 a1 (n+1) v9 v1 v10 v11 v12 v13 v14=some s:=h
    rw [raster_build_uint8_v1_L0] at h
    refine T_reg [] [0,2,6,7,17,18,19,1000000,1000001,1000002] [(19,dB (decide (v1 < a1)))] [] 1 (by kernel_rfl) (trivial) ?_
    refine T_seqk ?_
    refine T_cond (decide (v1 < a1)) (by kernel_rfl) (fun hc=>?_) (fun hc=>?_)
    · have h:=cond_tt hc h
      refine T_skip fun a w hm=>then_norm (((?_:T Try.prog e 37 _ _ _) a w hm))
      refine T_seqk ?_
      refine T_block ?_
      refine T_reg [] [0,2,6,7,8,17,18,1000000,1000001,1000002] [(8,dI v1)] [] 2 (by kernel_rfl) (trivial) ?_
      refine T_reg [] [0,2,6,7,8,17,18,21,22,1000000,1000001,1000002] [(21,dI a0),(22,dI (0:Int))] [] 2 (by kernel_rfl) (trivial) ?_
      refine T_joinct h (fun (p:(List UInt8)×Int×Int×(List UInt8)×Int×Int)=>[(0,dI a0),(2,.clo 58 [.bp 1000000 0,.bp 1000001 0,.bp 1000002 0]),(6,.box [dI 0,dI 0,oW0 []]),(7,.box [dI a0,dI a1,oW0 p.1]),(17,dI a1),(18,dI v1),(1000000,.box [dI p.2.1,dI p.2.2.1,.d (.sl 1 (p.2.2.2.1.map cU))]),(1000001,.box [dI p.2.2.2.2.1]),(1000002,.box [dI p.2.2.2.2.2])]) (fun s h=>?_) (fun s h=>?_)
      · refine T_co [.keep [0,2,6,7,8,17,18,21,22,1000000,1000001,1000002]] ((fun (p:(List UInt8)×Int×Int×Int×(List UInt8)×Int×Int)=>[(0,dI a0),(2,.clo 58 [.bp 1000000 0,.bp 1000001 0,.bp 1000002 0]),(6,.box [dI 0,dI 0,oW0 []]),(7,.box [dI a0,dI a1,oW0 p.1]),(8,dI v1),(17,dI a1),(18,dI v1),(21,dI a0),(22,dI p.2.1),(1000000,.box [dI p.2.2.1,dI p.2.2.2.1,.d (.sl 1 (p.2.2.2.2.1.map cU))]),(1000001,.box [dI p.2.2.2.2.2.1]),(1000002,.box [dI p.2.2.2.2.2.2])]) (v9,(0:Int),v10,v11,v12,v13,v14)) (by show _=_; kernel_rfl) ?_
        refine T_block ?_
        refine T_loopF (ι:=(List UInt8)×Int×Int×Int×(List UInt8)×Int×Int) (fun (p:(List UInt8)×Int×Int×Int×(List UInt8)×Int×Int)=>[(0,dI a0),(2,.clo 58 [.bp 1000000 0,.bp 1000001 0,.bp 1000002 0]),(6,.box [dI 0,dI 0,oW0 []]),(7,.box [dI a0,dI a1,oW0 p.1]),(8,dI v1),(17,dI a1),(18,dI v1),(21,dI a0),(22,dI p.2.1),(1000000,.box [dI p.2.2.1,dI p.2.2.2.1,.d (.sl 1 (p.2.2.2.2.1.map cU))]),(1000001,.box [dI p.2.2.2.2.2.1]),(1000002,.box [dI p.2.2.2.2.2.2])]) (fun n p=>raster_build_uint8_v1_L2 F a0 v1 n p.1 p.2.1 p.2.2.1 p.2.2.2.1 p.2.2.2.2.1 p.2.2.2.2.2.1 p.2.2.2.2.2.2=some s) (fun i hh=>by simp [raster_build_uint8_v1_L2] at hh) (fun n p h=>?_) F (v9,(0:Int),v10,v11,v12,v13,v14) h
        obtain ⟨v2,v3,v4,v5,v6,v7,v8⟩:=p
        have h:raster_build_uint8_v1_L2 F a0 v1 (n+1) v2 v3 v4 v5 v6 v7 v8=some s:=h
        rw [raster_build_uint8_v1_L2] at h
        refine T_reg [] [0,2,6,7,8,17,18,21,22,23,1000000,1000001,1000002] [(23,dB (decide (v3 < a0)))] [] 1 (by kernel_rfl) (trivial) ?_
        refine T_seqk ?_
        refine T_cond (decide (v3 < a0)) (by kernel_rfl) (fun hc=>?_) (fun hc=>?_)
        · have h:=cond_tt hc h
          refine T_skip fun a w hm=>then_norm (((?_:T Try.prog e 37 _ _ _) a w hm))
          refine T_seqk ?_
          refine T_block ?_
          refine T_reg [] [0,2,6,7,8,9,17,18,21,22,1000000,1000001,1000002] [(9,dI v3)] [] 2 (by kernel_rfl) (trivial) ?_
          obtain ⟨y1,hy1,h⟩:=call_ok h
          obtain ⟨hp2,h⟩:=chk_ok h
          obtain ⟨hp3,h⟩:=chk_ok h
          refine T_drawX_end mixed 3 (.take 0 (.take 2 (.take 3 (.take 4 (.all (.alt 1 (.all (.alt 5 (.all (.alt 6 (.all (.alt 7 (.take 8 (.all (.alt 9 .done .stop))) .stop)) .stop)) .stop)) (.alt 5 (.all (.alt 1 (.all (.alt 6 (.all (.alt 7 (.take 8 (.all (.alt 9 .done .stop))) .stop)) .stop)) (.alt 6 (.all (.alt 1 (.all (.alt 7 (.take 8 (.all (.alt 9 .done .stop))) .stop)) .stop)) .stop))) .stop))))))) ([0,1,0,0,0,28,32,98,255,511],[0,1,0,0,0,28,32,66,0,384]) 285 [(5,{ res:=.d (.v (.int .u8 y1.1)),vout:=[.box [dI y1.2.1,dI y1.2.2.1,.d (.sl 1 (y1.2.2.2.1.map cU))],.box [dI y1.2.2.2.2.1],.box [dI y1.2.2.2.2.2]],xs:=[1000000,1000001,1000002] }),(6,{ es:=some (([(UInt8.ofNat y1.1.toNat)]).map cU) }),(7,{ es:=some ((v2++([(UInt8.ofNat y1.1.toNat)])).map cU) })] [0,2,6,7,8,17,18,21,22,1000000,1000001,1000002] [] [(0,dI a0),(2,.clo 58 [.bp 1000000 0,.bp 1000001 0,.bp 1000002 0]),(6,.box [dI 0,dI 0,oW0 []]),(7,.box [dI a0,dI a1,.own 5 1 ((v2++([(UInt8.ofNat y1.1.toNat)])).map cU)]),(8,dI v1),(17,dI a1),(18,dI v1),(21,dI a0),(22,dI v3),(1000000,.box [dI y1.2.1,dI y1.2.2.1,.d (.sl 1 (y1.2.2.2.1.map cU))]),(1000001,.box [dI y1.2.2.2.2.1]),(1000002,.box [dI y1.2.2.2.2.2])] ((fun (o5:Prop)=>fun (o6:Prop)=>fun (o7:Prop)=>[(5,o5),(0,o6),(0,o7),(2,o5),(1,o6),(0,o7),(2,o6),(1,o7)]) (ACall Try.prog 58 [dI v3,dI v1,.bp 1000000 0,.bp 1000001 0,.bp 1000002 0] [.box [dI v4,dI v5,.d (.sl 1 (v6.map cU))],.box [dI v7],.box [dI v8]] (.d (.v (.int .u8 y1.1))) [.box [dI y1.2.1,dI y1.2.2.1,.d (.sl 1 (y1.2.2.2.1.map cU))],.box [dI y1.2.2.2.2.1],.box [dI y1.2.2.2.2.2]]) ([[Dat.v (.int .u8 y1.1)]]=(([(UInt8.ofNat y1.1.toNat)]).map cU)) ((v2.map cU).length+(([(UInt8.ofNat y1.1.toNat)]).map cU).length≤4294967296∧(v2.map cU)++(([(UInt8.ofNat y1.1.toNat)]).map cU)=((v2++([(UInt8.ofNat y1.1.toNat)])).map cU))) 2 (by kernel_rfl) (by kernel_rfl) (by kernel_rfl) (have p5:=raster_Grid_uint8_Turn_c1_ok hy1; have p6:=(lit_u hp2 (rfl:([]:List (List Dat))=([]:List UInt8).map cU)); have p7:=app_ok cU hp3; ⟨p5,p6,p7,p5,p6,p7,p6,p7⟩) fun a w hm=>inBlock_norm (then_norm (((?_:T Try.prog e 37 _ _ _) a w hm)))
          refine T_reg_end [] [0,2,6,7,8,17,18,21,22,1000000,1000001,1000002] [(22,dI (IntKind.i64.wrap (v3+(1:Int))))] [] 2 (by kernel_rfl) (trivial) fun a w hm=>then_norm (⟨((v2++([(UInt8.ofNat y1.1.toNat)])),IntKind.i64.wrap (v3+(1:Int)),y1.2.1,y1.2.2.1,y1.2.2.2.1,y1.2.2.2.2.1,y1.2.2.2.2.2),h,hm.co (cs:=[.keep [0,2,6,7,8,17,18,21,22,1000000,1000001,1000002]]) (by show _=_; kernel_rfl)⟩)
        · have h:=cond_ff hc h
          obtain hs:=Option.some.inj h; subst hs
          refine T_exit fun a w hm=>then_exit (then_exit (inBlock_exit (then_norm (hm.co (cs:=[.keep [0,2,6,7,17,18,1000000,1000001,1000002]]) (by show _=_; kernel_rfl)))))
      · obtain ⟨v15,v16,v17,v18,v19,v20⟩:=s
        try dsimp only at h
        refine fun a w hm=>inBlock_norm (then_norm (((?_:T Try.prog e 37 _ _ _) a w hm)))
        refine T_reg_end [] [0,2,6,7,17,18,1000000,1000001,1000002] [(18,dI (IntKind.i64.wrap (v1+(1:Int))))] [] 2 (by kernel_rfl) (trivial) fun a w hm=>then_norm (⟨(v15,IntKind.i64.wrap (v1+(1:Int)),v16,v17,v18,v19,v20),h,hm.co (cs:=[.keep [0,2,6,7,17,18,1000000,1000001,1000002]]) (by show _=_; kernel_rfl)⟩)
    · have h:=cond_ff hc h
      obtain hs:=Option.some.inj h; subst hs
      refine T_exit fun a w hm=>then_exit (then_exit (inBlock_exit (then_norm (hm.co (cs:=[.keep [6,7,1000000,1000001,1000002]]) (by show _=_; kernel_rfl)))))
  · obtain ⟨v21,v22,v23,v24,v25,v26⟩:=s
    try dsimp only at h
    refine fun a w hm=>then_norm (((?_:T Try.prog e 37 _ _ _) a w hm))
    refine T_reg [(0,{ frz:=[(7,3)] })] [6,1000000,1000001,1000002] [(6,.box [dI a0,dI a1,.d (.sl 1 (v21.map cU))])] [] 2 (by kernel_rfl) (trivial) ?_
    obtain hs:=Option.some.inj h; subst hs
    refine T_ret fun a w hm=>T_returnC (fr':=[(6,.box [dI a0,dI a1,.d (.sl 1 (v21.map cU))]),(1000000,.box [dI v22,dI v23,.d (.sl 1 (v24.map cU))]),(1000001,.box [dI v25]),(1000002,.box [dI v26])]) (ts:=[37]) (N':=38) (fr2:=[(37,.agg (cS_Plate (S_Plate.mk a0 a1 v21)))]++[(6,.box [dI a0,dI a1,.d (.sl 1 (v21.map cU))]),(1000000,.box [dI v22,dI v23,.d (.sl 1 (v24.map cU))]),(1000001,.box [dI v25]),(1000002,.box [dI v26])]) [.keep [6,1000000,1000001,1000002]] (by kernel_rfl) (by kernel_rfl) (by kernel_rfl) (by kernel_rfl) (by show _=_; kernel_rfl) (by exact ⟨⟨by kernel_rfl,by kernel_rfl⟩,⟨⟨by kernel_rfl,by kernel_rfl⟩,⟨⟨by kernel_rfl,by kernel_rfl⟩,trivial⟩⟩⟩) a w hm
theorem raster_Grid_uint8_Turn_c2_ok {F:Nat} {a0:Int} {a1:Int} {c2:Int} {c3:Int} {c4:List UInt8} {c5:Int} {c6:Int} {r:Int×Int×Int×(List UInt8)×Int×Int} (h:raster_Grid_uint8_Turn_c2 F a0 a1 c2 c3 c4 c5 c6=some r):ACall Try.prog 59 [.d (.v (.int .i64 a0)),.d (.v (.int .i64 a1)),.bp 1000000 0,.bp 1000001 0,.bp 1000002 0] [.box [.d (.v (.int .i64 c2)),.d (.v (.int .i64 c3)),.d (.sl 1 (c4.map cU))],.box [.d (.v (.int .i64 c5))],.box [.d (.v (.int .i64 c6))]] (.d (.v (.int .u8 r.1))) [.box [.d (.v (.int .i64 r.2.1)),.d (.v (.int .i64 r.2.2.1)),.d (.sl 1 (r.2.2.2.1.map cU))],.box [.d (.v (.int .i64 r.2.2.2.2.1))],.box [.d (.v (.int .i64 r.2.2.2.2.2))]]:=by
  rw [raster_Grid_uint8_Turn_c2] at h
  refine ACall.intro (N:=23) Try.func59 rfl rfl rfl rfl rfl fun e=>?_
  refine T_reg [] [0,1,2,3,4,1000000,1000001,1000002] [] [] 1 (by kernel_rfl) (trivial) ?_
  obtain ⟨z1,hz1,h⟩:=lett_ok h
  obtain ⟨hp1,h⟩:=chk_ok h
  refine T_reg [(9,{ rw:=some (dI z1) }),(13,{ cs:=cU (c4.getD (IntKind.i64.wrap ((IntKind.i64.wrap (z1 - (1:Int))) - a0)).toNat 0) })] [7,1000000,1000001,1000002] [(7,.d (.v (.int .u8 ((c4.getD (IntKind.i64.wrap ((IntKind.i64.wrap (z1 - (1:Int))) - a0)).toNat 0).toNat:Int))))] [(9,(True)∧dI (IntKind.i64.wrap ((IntKind.i64.wrap ((IntKind.i64.wrap ((IntKind.i64.wrap (c5 - (1:Int))) - a1)) * c6))+c6))=dI z1),(3,0≤(IntKind.i64.wrap ((IntKind.i64.wrap (z1 - (1:Int))) - a0))∧(c4.map cU)[(IntKind.i64.wrap ((IntKind.i64.wrap (z1 - (1:Int))) - a0)).toNat]? = some (cU (c4.getD (IntKind.i64.wrap ((IntKind.i64.wrap (z1 - (1:Int))) - a0)).toNat 0)))] 2 (by kernel_rfl) (⟨⟨trivial,(by subst hz1; rfl)⟩,idx_ok (d:=0) cU hp1⟩) ?_
  obtain hs:=Option.some.inj h; subst hs
  refine T_ret fun a w hm=>T_return (fr':=[(7,.d (.v (.int .u8 ((c4.getD (IntKind.i64.wrap ((IntKind.i64.wrap (z1 - (1:Int))) - a0)).toNat 0).toNat:Int)))),(1000000,.box [dI c2,dI c3,.d (.sl 1 (c4.map cU))]),(1000001,.box [dI c5]),(1000002,.box [dI c6])]) [7] (by kernel_rfl) [.keep [7,1000000,1000001,1000002]] (by kernel_rfl) (by kernel_rfl) (by kernel_rfl) (by show _=_; kernel_rfl) (by exact ⟨⟨by kernel_rfl,by kernel_rfl⟩,⟨⟨by kernel_rfl,by kernel_rfl⟩,⟨⟨by kernel_rfl,by kernel_rfl⟩,trivial⟩⟩⟩) a w hm
theorem raster_build_uint8_v2_ok {F:Nat} {a0:Int} {a1:Int} {c2:Int} {c3:Int} {c4:List UInt8} {c5:Int} {c6:Int} {r:S_Plate×Int×Int×(List UInt8)×Int×Int} (h:raster_build_uint8_v2 F a0 a1 c2 c3 c4 c5 c6=some r):ACall Try.prog 53 [.d (.v (.int .i64 a0)),.d (.v (.int .i64 a1)),.clo 59 [.bp 1000000 0,.bp 1000001 0,.bp 1000002 0]] [.box [.d (.v (.int .i64 c2)),.d (.v (.int .i64 c3)),.d (.sl 1 (c4.map cU))],.box [.d (.v (.int .i64 c5))],.box [.d (.v (.int .i64 c6))]] (.agg (cS_Plate r.1)) [.box [.d (.v (.int .i64 r.2.1)),.d (.v (.int .i64 r.2.2.1)),.d (.sl 1 (r.2.2.2.1.map cU))],.box [.d (.v (.int .i64 r.2.2.2.2.1))],.box [.d (.v (.int .i64 r.2.2.2.2.2))]]:=by
  rw [raster_build_uint8_v2] at h
  refine ACall.intro (N:=37) Try.func53 rfl rfl rfl rfl rfl fun e=>?_
  refine T_reg [] [0,1,2,6,1000000,1000001,1000002] [(6,.box [dI 0,dI 0,oW0 []])] [] 1 (by kernel_rfl) (trivial) ?_
  obtain ⟨hp1,h⟩:=chk_ok h
  refine T_region [(5,{ es:=some ((List.replicate (0:Int).toNat 0).map cU) })] [0,1,2,6,7,15,1000000,1000001,1000002] [.claimc 7 2,.keep [0,1,2,6,7,1000000,1000001,1000002]] [(0,dI a0),(1,dI a1),(2,.clo 59 [.bp 1000000 0,.bp 1000001 0,.bp 1000002 0]),(6,.box [dI 0,dI 0,oW0 []]),(7,.box [dI a0,dI a1,.own 5 1 ((List.replicate (0:Int).toNat 0).map cU)]),(1000000,.box [dI c2,dI c3,.d (.sl 1 (c4.map cU))]),(1000001,.box [dI c5]),(1000002,.box [dI c6])] [(5,(0≤(0:Int)∧(0:Int)≤(IntKind.i64.wrap (a0 * a1))∧(IntKind.i64.wrap (a0 * a1))≤9223372036854775807∧((1:Nat):Int) * (IntKind.i64.wrap (a0 * a1))≤281474976710656)∧List.replicate (0:Int).toNat (cU 0)=((List.replicate (0:Int).toNat 0).map cU))] 3 (by kernel_rfl) (⟨hp1,repl_ok cU rfl⟩) ?_
  refine T_seqk ?_
  refine T_reg [] [0,2,6,7,17,18,1000000,1000001,1000002] [(17,dI a1),(18,dI (0:Int))] [] 2 (by kernel_rfl) (trivial) ?_
  refine T_joinct h (fun (p:(List UInt8)×Int×Int×(List UInt8)×Int×Int)=>[(6,.box [dI 0,dI 0,oW0 []]),(7,.box [dI a0,dI a1,oW0 p.1]),(1000000,.box [dI p.2.1,dI p.2.2.1,.d (.sl 1 (p.2.2.2.1.map cU))]),(1000001,.box [dI p.2.2.2.2.1]),(1000002,.box [dI p.2.2.2.2.2])]) (fun s h=>?_) (fun s h=>?_)
  · refine T_co [.keep [0,2,6,7,17,18,1000000,1000001,1000002]] ((fun (p:(List UInt8)×Int×Int×Int×(List UInt8)×Int×Int)=>[(0,dI a0),(2,.clo 59 [.bp 1000000 0,.bp 1000001 0,.bp 1000002 0]),(6,.box [dI 0,dI 0,oW0 []]),(7,.box [dI a0,dI a1,oW0 p.1]),(17,dI a1),(18,dI p.2.1),(1000000,.box [dI p.2.2.1,dI p.2.2.2.1,.d (.sl 1 (p.2.2.2.2.1.map cU))]),(1000001,.box [dI p.2.2.2.2.2.1]),(1000002,.box [dI p.2.2.2.2.2.2])]) ((List.replicate (0:Int).toNat 0),(0:Int),c2,c3,c4,c5,c6)) (by show _=_; kernel_rfl) ?_
    refine T_block ?_
    refine T_loopF (ι:=(List UInt8)×Int×Int×Int×(List UInt8)×Int×Int) (fun (p:(List UInt8)×Int×Int×Int×(List UInt8)×Int×Int)=>[(0,dI a0),(2,.clo 59 [.bp 1000000 0,.bp 1000001 0,.bp 1000002 0]),(6,.box [dI 0,dI 0,oW0 []]),(7,.box [dI a0,dI a1,oW0 p.1]),(17,dI a1),(18,dI p.2.1),(1000000,.box [dI p.2.2.1,dI p.2.2.2.1,.d (.sl 1 (p.2.2.2.2.1.map cU))]),(1000001,.box [dI p.2.2.2.2.2.1]),(1000002,.box [dI p.2.2.2.2.2.2])]) (fun n p=>raster_build_uint8_v2_L0 F a0 a1 n p.1 p.2.1 p.2.2.1 p.2.2.2.1 p.2.2.2.2.1 p.2.2.2.2.2.1 p.2.2.2.2.2.2=some s) (fun i hh=>by simp [raster_build_uint8_v2_L0] at hh) (fun n p h=>?_) F ((List.replicate (0:Int).toNat 0),(0:Int),c2,c3,c4,c5,c6) h
    obtain ⟨v9,v1,v10,v11,v12,v13,v14⟩:=p
    have h:raster_build_uint8_v2_L0 F a0 a1 (n+1) v9 v1 v10 v11 v12 v13 v14=some s:=h
    rw [raster_build_uint8_v2_L0] at h
    refine T_reg [] [0,2,6,7,17,18,19,1000000,1000001,1000002] [(19,dB (decide (v1 < a1)))] [] 1 (by kernel_rfl) (trivial) ?_
    refine T_seqk ?_
    refine T_cond (decide (v1 < a1)) (by kernel_rfl) (fun hc=>?_) (fun hc=>?_)
    · have h:=cond_tt hc h
      refine T_skip fun a w hm=>then_norm (((?_:T Try.prog e 37 _ _ _) a w hm))
      refine T_seqk ?_
      refine T_block ?_
      refine T_reg [] [0,2,6,7,8,17,18,1000000,1000001,1000002] [(8,dI v1)] [] 2 (by kernel_rfl) (trivial) ?_
      refine T_reg [] [0,2,6,7,8,17,18,21,22,1000000,1000001,1000002] [(21,dI a0),(22,dI (0:Int))] [] 2 (by kernel_rfl) (trivial) ?_
      refine T_joinct h (fun (p:(List UInt8)×Int×Int×(List UInt8)×Int×Int)=>[(0,dI a0),(2,.clo 59 [.bp 1000000 0,.bp 1000001 0,.bp 1000002 0]),(6,.box [dI 0,dI 0,oW0 []]),(7,.box [dI a0,dI a1,oW0 p.1]),(17,dI a1),(18,dI v1),(1000000,.box [dI p.2.1,dI p.2.2.1,.d (.sl 1 (p.2.2.2.1.map cU))]),(1000001,.box [dI p.2.2.2.2.1]),(1000002,.box [dI p.2.2.2.2.2])]) (fun s h=>?_) (fun s h=>?_)
      · refine T_co [.keep [0,2,6,7,8,17,18,21,22,1000000,1000001,1000002]] ((fun (p:(List UInt8)×Int×Int×Int×(List UInt8)×Int×Int)=>[(0,dI a0),(2,.clo 59 [.bp 1000000 0,.bp 1000001 0,.bp 1000002 0]),(6,.box [dI 0,dI 0,oW0 []]),(7,.box [dI a0,dI a1,oW0 p.1]),(8,dI v1),(17,dI a1),(18,dI v1),(21,dI a0),(22,dI p.2.1),(1000000,.box [dI p.2.2.1,dI p.2.2.2.1,.d (.sl 1 (p.2.2.2.2.1.map cU))]),(1000001,.box [dI p.2.2.2.2.2.1]),(1000002,.box [dI p.2.2.2.2.2.2])]) (v9,(0:Int),v10,v11,v12,v13,v14)) (by show _=_; kernel_rfl) ?_
        refine T_block ?_
        refine T_loopF (ι:=(List UInt8)×Int×Int×Int×(List UInt8)×Int×Int) (fun (p:(List UInt8)×Int×Int×Int×(List UInt8)×Int×Int)=>[(0,dI a0),(2,.clo 59 [.bp 1000000 0,.bp 1000001 0,.bp 1000002 0]),(6,.box [dI 0,dI 0,oW0 []]),(7,.box [dI a0,dI a1,oW0 p.1]),(8,dI v1),(17,dI a1),(18,dI v1),(21,dI a0),(22,dI p.2.1),(1000000,.box [dI p.2.2.1,dI p.2.2.2.1,.d (.sl 1 (p.2.2.2.2.1.map cU))]),(1000001,.box [dI p.2.2.2.2.2.1]),(1000002,.box [dI p.2.2.2.2.2.2])]) (fun n p=>raster_build_uint8_v2_L2 F a0 v1 n p.1 p.2.1 p.2.2.1 p.2.2.2.1 p.2.2.2.2.1 p.2.2.2.2.2.1 p.2.2.2.2.2.2=some s) (fun i hh=>by simp [raster_build_uint8_v2_L2] at hh) (fun n p h=>?_) F (v9,(0:Int),v10,v11,v12,v13,v14) h
        obtain ⟨v2,v3,v4,v5,v6,v7,v8⟩:=p
        have h:raster_build_uint8_v2_L2 F a0 v1 (n+1) v2 v3 v4 v5 v6 v7 v8=some s:=h
        rw [raster_build_uint8_v2_L2] at h
        refine T_reg [] [0,2,6,7,8,17,18,21,22,23,1000000,1000001,1000002] [(23,dB (decide (v3 < a0)))] [] 1 (by kernel_rfl) (trivial) ?_
        refine T_seqk ?_
        refine T_cond (decide (v3 < a0)) (by kernel_rfl) (fun hc=>?_) (fun hc=>?_)
        · have h:=cond_tt hc h
          refine T_skip fun a w hm=>then_norm (((?_:T Try.prog e 37 _ _ _) a w hm))
          refine T_seqk ?_
          refine T_block ?_
          refine T_reg [] [0,2,6,7,8,9,17,18,21,22,1000000,1000001,1000002] [(9,dI v3)] [] 2 (by kernel_rfl) (trivial) ?_
          obtain ⟨y1,hy1,h⟩:=call_ok h
          obtain ⟨hp2,h⟩:=chk_ok h
          obtain ⟨hp3,h⟩:=chk_ok h
          refine T_drawX_end mixed 3 (.take 0 (.take 2 (.take 3 (.take 4 (.all (.alt 1 (.all (.alt 5 (.all (.alt 6 (.all (.alt 7 (.take 8 (.all (.alt 9 .done .stop))) .stop)) .stop)) .stop)) (.alt 5 (.all (.alt 1 (.all (.alt 6 (.all (.alt 7 (.take 8 (.all (.alt 9 .done .stop))) .stop)) .stop)) (.alt 6 (.all (.alt 1 (.all (.alt 7 (.take 8 (.all (.alt 9 .done .stop))) .stop)) .stop)) .stop))) .stop))))))) ([0,1,0,0,0,28,32,98,255,511],[0,1,0,0,0,28,32,66,0,384]) 285 [(5,{ res:=.d (.v (.int .u8 y1.1)),vout:=[.box [dI y1.2.1,dI y1.2.2.1,.d (.sl 1 (y1.2.2.2.1.map cU))],.box [dI y1.2.2.2.2.1],.box [dI y1.2.2.2.2.2]],xs:=[1000000,1000001,1000002] }),(6,{ es:=some (([(UInt8.ofNat y1.1.toNat)]).map cU) }),(7,{ es:=some ((v2++([(UInt8.ofNat y1.1.toNat)])).map cU) })] [0,2,6,7,8,17,18,21,22,1000000,1000001,1000002] [] [(0,dI a0),(2,.clo 59 [.bp 1000000 0,.bp 1000001 0,.bp 1000002 0]),(6,.box [dI 0,dI 0,oW0 []]),(7,.box [dI a0,dI a1,.own 5 1 ((v2++([(UInt8.ofNat y1.1.toNat)])).map cU)]),(8,dI v1),(17,dI a1),(18,dI v1),(21,dI a0),(22,dI v3),(1000000,.box [dI y1.2.1,dI y1.2.2.1,.d (.sl 1 (y1.2.2.2.1.map cU))]),(1000001,.box [dI y1.2.2.2.2.1]),(1000002,.box [dI y1.2.2.2.2.2])] ((fun (o5:Prop)=>fun (o6:Prop)=>fun (o7:Prop)=>[(5,o5),(0,o6),(0,o7),(2,o5),(1,o6),(0,o7),(2,o6),(1,o7)]) (ACall Try.prog 59 [dI v3,dI v1,.bp 1000000 0,.bp 1000001 0,.bp 1000002 0] [.box [dI v4,dI v5,.d (.sl 1 (v6.map cU))],.box [dI v7],.box [dI v8]] (.d (.v (.int .u8 y1.1))) [.box [dI y1.2.1,dI y1.2.2.1,.d (.sl 1 (y1.2.2.2.1.map cU))],.box [dI y1.2.2.2.2.1],.box [dI y1.2.2.2.2.2]]) ([[Dat.v (.int .u8 y1.1)]]=(([(UInt8.ofNat y1.1.toNat)]).map cU)) ((v2.map cU).length+(([(UInt8.ofNat y1.1.toNat)]).map cU).length≤4294967296∧(v2.map cU)++(([(UInt8.ofNat y1.1.toNat)]).map cU)=((v2++([(UInt8.ofNat y1.1.toNat)])).map cU))) 2 (by kernel_rfl) (by kernel_rfl) (by kernel_rfl) (have p5:=raster_Grid_uint8_Turn_c2_ok hy1; have p6:=(lit_u hp2 (rfl:([]:List (List Dat))=([]:List UInt8).map cU)); have p7:=app_ok cU hp3; ⟨p5,p6,p7,p5,p6,p7,p6,p7⟩) fun a w hm=>inBlock_norm (then_norm (((?_:T Try.prog e 37 _ _ _) a w hm)))
          refine T_reg_end [] [0,2,6,7,8,17,18,21,22,1000000,1000001,1000002] [(22,dI (IntKind.i64.wrap (v3+(1:Int))))] [] 2 (by kernel_rfl) (trivial) fun a w hm=>then_norm (⟨((v2++([(UInt8.ofNat y1.1.toNat)])),IntKind.i64.wrap (v3+(1:Int)),y1.2.1,y1.2.2.1,y1.2.2.2.1,y1.2.2.2.2.1,y1.2.2.2.2.2),h,hm.co (cs:=[.keep [0,2,6,7,8,17,18,21,22,1000000,1000001,1000002]]) (by show _=_; kernel_rfl)⟩)
        · have h:=cond_ff hc h
          obtain hs:=Option.some.inj h; subst hs
          refine T_exit fun a w hm=>then_exit (then_exit (inBlock_exit (then_norm (hm.co (cs:=[.keep [0,2,6,7,17,18,1000000,1000001,1000002]]) (by show _=_; kernel_rfl)))))
      · obtain ⟨v15,v16,v17,v18,v19,v20⟩:=s
        try dsimp only at h
        refine fun a w hm=>inBlock_norm (then_norm (((?_:T Try.prog e 37 _ _ _) a w hm)))
        refine T_reg_end [] [0,2,6,7,17,18,1000000,1000001,1000002] [(18,dI (IntKind.i64.wrap (v1+(1:Int))))] [] 2 (by kernel_rfl) (trivial) fun a w hm=>then_norm (⟨(v15,IntKind.i64.wrap (v1+(1:Int)),v16,v17,v18,v19,v20),h,hm.co (cs:=[.keep [0,2,6,7,17,18,1000000,1000001,1000002]]) (by show _=_; kernel_rfl)⟩)
    · have h:=cond_ff hc h
      obtain hs:=Option.some.inj h; subst hs
      refine T_exit fun a w hm=>then_exit (then_exit (inBlock_exit (then_norm (hm.co (cs:=[.keep [6,7,1000000,1000001,1000002]]) (by show _=_; kernel_rfl)))))
  · obtain ⟨v21,v22,v23,v24,v25,v26⟩:=s
    try dsimp only at h
    refine fun a w hm=>then_norm (((?_:T Try.prog e 37 _ _ _) a w hm))
    refine T_reg [(0,{ frz:=[(7,3)] })] [6,1000000,1000001,1000002] [(6,.box [dI a0,dI a1,.d (.sl 1 (v21.map cU))])] [] 2 (by kernel_rfl) (trivial) ?_
    obtain hs:=Option.some.inj h; subst hs
    refine T_ret fun a w hm=>T_returnC (fr':=[(6,.box [dI a0,dI a1,.d (.sl 1 (v21.map cU))]),(1000000,.box [dI v22,dI v23,.d (.sl 1 (v24.map cU))]),(1000001,.box [dI v25]),(1000002,.box [dI v26])]) (ts:=[37]) (N':=38) (fr2:=[(37,.agg (cS_Plate (S_Plate.mk a0 a1 v21)))]++[(6,.box [dI a0,dI a1,.d (.sl 1 (v21.map cU))]),(1000000,.box [dI v22,dI v23,.d (.sl 1 (v24.map cU))]),(1000001,.box [dI v25]),(1000002,.box [dI v26])]) [.keep [6,1000000,1000001,1000002]] (by kernel_rfl) (by kernel_rfl) (by kernel_rfl) (by kernel_rfl) (by show _=_; kernel_rfl) (by exact ⟨⟨by kernel_rfl,by kernel_rfl⟩,⟨⟨by kernel_rfl,by kernel_rfl⟩,⟨⟨by kernel_rfl,by kernel_rfl⟩,trivial⟩⟩⟩) a w hm
theorem raster_Grid_uint8_Turn_c3_ok {F:Nat} {a0:Int} {a1:Int} {c2:Int} {c3:Int} {c4:List UInt8} {c5:Int} {r:Int×Int×Int×(List UInt8)×Int} (h:raster_Grid_uint8_Turn_c3 F a0 a1 c2 c3 c4 c5=some r):ACall Try.prog 60 [.d (.v (.int .i64 a0)),.d (.v (.int .i64 a1)),.bp 1000000 0,.bp 1000001 0] [.box [.d (.v (.int .i64 c2)),.d (.v (.int .i64 c3)),.d (.sl 1 (c4.map cU))],.box [.d (.v (.int .i64 c5))]] (.d (.v (.int .u8 r.1))) [.box [.d (.v (.int .i64 r.2.1)),.d (.v (.int .i64 r.2.2.1)),.d (.sl 1 (r.2.2.2.1.map cU))],.box [.d (.v (.int .i64 r.2.2.2.2))]]:=by
  rw [raster_Grid_uint8_Turn_c3] at h
  refine ACall.intro (N:=19) Try.func60 rfl rfl rfl rfl rfl fun e=>?_
  refine T_reg [] [0,1,2,3,1000000,1000001] [] [] 1 (by kernel_rfl) (trivial) ?_
  obtain ⟨z1,hz1,h⟩:=lett_ok h
  obtain ⟨hp1,h⟩:=chk_ok h
  refine T_reg [(9,{ rw:=some (dI z1) }),(10,{ cs:=cU (c4.getD z1.toNat 0) })] [6,1000000,1000001] [(6,.d (.v (.int .u8 ((c4.getD z1.toNat 0).toNat:Int))))] [(9,(True)∧dI (IntKind.i64.wrap ((IntKind.i64.wrap ((IntKind.i64.wrap ((IntKind.i64.wrap (a0 * c5))+c5)) - (1:Int))) - a1))=dI z1),(0,0≤z1∧(c4.map cU)[z1.toNat]? = some (cU (c4.getD z1.toNat 0)))] 2 (by kernel_rfl) (⟨⟨trivial,(by subst hz1; rfl)⟩,idx_ok (d:=0) cU hp1⟩) ?_
  obtain hs:=Option.some.inj h; subst hs
  refine T_ret fun a w hm=>T_return (fr':=[(6,.d (.v (.int .u8 ((c4.getD z1.toNat 0).toNat:Int)))),(1000000,.box [dI c2,dI c3,.d (.sl 1 (c4.map cU))]),(1000001,.box [dI c5])]) [6] (by kernel_rfl) [.keep [6,1000000,1000001]] (by kernel_rfl) (by kernel_rfl) (by kernel_rfl) (by show _=_; kernel_rfl) (by exact ⟨⟨by kernel_rfl,by kernel_rfl⟩,⟨⟨by kernel_rfl,by kernel_rfl⟩,trivial⟩⟩) a w hm
theorem raster_build_uint8_v3_ok {F:Nat} {a0:Int} {a1:Int} {c2:Int} {c3:Int} {c4:List UInt8} {c5:Int} {r:S_Plate×Int×Int×(List UInt8)×Int} (h:raster_build_uint8_v3 F a0 a1 c2 c3 c4 c5=some r):ACall Try.prog 53 [.d (.v (.int .i64 a0)),.d (.v (.int .i64 a1)),.clo 60 [.bp 1000000 0,.bp 1000001 0]] [.box [.d (.v (.int .i64 c2)),.d (.v (.int .i64 c3)),.d (.sl 1 (c4.map cU))],.box [.d (.v (.int .i64 c5))]] (.agg (cS_Plate r.1)) [.box [.d (.v (.int .i64 r.2.1)),.d (.v (.int .i64 r.2.2.1)),.d (.sl 1 (r.2.2.2.1.map cU))],.box [.d (.v (.int .i64 r.2.2.2.2))]]:=by
  rw [raster_build_uint8_v3] at h
  refine ACall.intro (N:=37) Try.func53 rfl rfl rfl rfl rfl fun e=>?_
  refine T_reg [] [0,1,2,6,1000000,1000001] [(6,.box [dI 0,dI 0,oW0 []])] [] 1 (by kernel_rfl) (trivial) ?_
  obtain ⟨hp1,h⟩:=chk_ok h
  refine T_region [(5,{ es:=some ((List.replicate (0:Int).toNat 0).map cU) })] [0,1,2,6,7,15,1000000,1000001] [.claimc 7 2,.keep [0,1,2,6,7,1000000,1000001]] [(0,dI a0),(1,dI a1),(2,.clo 60 [.bp 1000000 0,.bp 1000001 0]),(6,.box [dI 0,dI 0,oW0 []]),(7,.box [dI a0,dI a1,.own 5 1 ((List.replicate (0:Int).toNat 0).map cU)]),(1000000,.box [dI c2,dI c3,.d (.sl 1 (c4.map cU))]),(1000001,.box [dI c5])] [(5,(0≤(0:Int)∧(0:Int)≤(IntKind.i64.wrap (a0 * a1))∧(IntKind.i64.wrap (a0 * a1))≤9223372036854775807∧((1:Nat):Int) * (IntKind.i64.wrap (a0 * a1))≤281474976710656)∧List.replicate (0:Int).toNat (cU 0)=((List.replicate (0:Int).toNat 0).map cU))] 3 (by kernel_rfl) (⟨hp1,repl_ok cU rfl⟩) ?_
  refine T_seqk ?_
  refine T_reg [] [0,2,6,7,17,18,1000000,1000001] [(17,dI a1),(18,dI (0:Int))] [] 2 (by kernel_rfl) (trivial) ?_
  refine T_joinct h (fun (p:(List UInt8)×Int×Int×(List UInt8)×Int)=>[(6,.box [dI 0,dI 0,oW0 []]),(7,.box [dI a0,dI a1,oW0 p.1]),(1000000,.box [dI p.2.1,dI p.2.2.1,.d (.sl 1 (p.2.2.2.1.map cU))]),(1000001,.box [dI p.2.2.2.2])]) (fun s h=>?_) (fun s h=>?_)
  · refine T_co [.keep [0,2,6,7,17,18,1000000,1000001]] ((fun (p:(List UInt8)×Int×Int×Int×(List UInt8)×Int)=>[(0,dI a0),(2,.clo 60 [.bp 1000000 0,.bp 1000001 0]),(6,.box [dI 0,dI 0,oW0 []]),(7,.box [dI a0,dI a1,oW0 p.1]),(17,dI a1),(18,dI p.2.1),(1000000,.box [dI p.2.2.1,dI p.2.2.2.1,.d (.sl 1 (p.2.2.2.2.1.map cU))]),(1000001,.box [dI p.2.2.2.2.2])]) ((List.replicate (0:Int).toNat 0),(0:Int),c2,c3,c4,c5)) (by show _=_; kernel_rfl) ?_
    refine T_block ?_
    refine T_loopF (ι:=(List UInt8)×Int×Int×Int×(List UInt8)×Int) (fun (p:(List UInt8)×Int×Int×Int×(List UInt8)×Int)=>[(0,dI a0),(2,.clo 60 [.bp 1000000 0,.bp 1000001 0]),(6,.box [dI 0,dI 0,oW0 []]),(7,.box [dI a0,dI a1,oW0 p.1]),(17,dI a1),(18,dI p.2.1),(1000000,.box [dI p.2.2.1,dI p.2.2.2.1,.d (.sl 1 (p.2.2.2.2.1.map cU))]),(1000001,.box [dI p.2.2.2.2.2])]) (fun n p=>raster_build_uint8_v3_L0 F a0 a1 n p.1 p.2.1 p.2.2.1 p.2.2.2.1 p.2.2.2.2.1 p.2.2.2.2.2=some s) (fun i hh=>by simp [raster_build_uint8_v3_L0] at hh) (fun n p h=>?_) F ((List.replicate (0:Int).toNat 0),(0:Int),c2,c3,c4,c5) h
    obtain ⟨v8,v1,v9,v10,v11,v12⟩:=p
    have h:raster_build_uint8_v3_L0 F a0 a1 (n+1) v8 v1 v9 v10 v11 v12=some s:=h
    rw [raster_build_uint8_v3_L0] at h
    refine T_reg [] [0,2,6,7,17,18,19,1000000,1000001] [(19,dB (decide (v1 < a1)))] [] 1 (by kernel_rfl) (trivial) ?_
    refine T_seqk ?_
    refine T_cond (decide (v1 < a1)) (by kernel_rfl) (fun hc=>?_) (fun hc=>?_)
    · have h:=cond_tt hc h
      refine T_skip fun a w hm=>then_norm (((?_:T Try.prog e 37 _ _ _) a w hm))
      refine T_seqk ?_
      refine T_block ?_
      refine T_reg [] [0,2,6,7,8,17,18,1000000,1000001] [(8,dI v1)] [] 2 (by kernel_rfl) (trivial) ?_
      refine T_reg [] [0,2,6,7,8,17,18,21,22,1000000,1000001] [(21,dI a0),(22,dI (0:Int))] [] 2 (by kernel_rfl) (trivial) ?_
      refine T_joinct h (fun (p:(List UInt8)×Int×Int×(List UInt8)×Int)=>[(0,dI a0),(2,.clo 60 [.bp 1000000 0,.bp 1000001 0]),(6,.box [dI 0,dI 0,oW0 []]),(7,.box [dI a0,dI a1,oW0 p.1]),(17,dI a1),(18,dI v1),(1000000,.box [dI p.2.1,dI p.2.2.1,.d (.sl 1 (p.2.2.2.1.map cU))]),(1000001,.box [dI p.2.2.2.2])]) (fun s h=>?_) (fun s h=>?_)
      · refine T_co [.keep [0,2,6,7,8,17,18,21,22,1000000,1000001]] ((fun (p:(List UInt8)×Int×Int×Int×(List UInt8)×Int)=>[(0,dI a0),(2,.clo 60 [.bp 1000000 0,.bp 1000001 0]),(6,.box [dI 0,dI 0,oW0 []]),(7,.box [dI a0,dI a1,oW0 p.1]),(8,dI v1),(17,dI a1),(18,dI v1),(21,dI a0),(22,dI p.2.1),(1000000,.box [dI p.2.2.1,dI p.2.2.2.1,.d (.sl 1 (p.2.2.2.2.1.map cU))]),(1000001,.box [dI p.2.2.2.2.2])]) (v8,(0:Int),v9,v10,v11,v12)) (by show _=_; kernel_rfl) ?_
        refine T_block ?_
        refine T_loopF (ι:=(List UInt8)×Int×Int×Int×(List UInt8)×Int) (fun (p:(List UInt8)×Int×Int×Int×(List UInt8)×Int)=>[(0,dI a0),(2,.clo 60 [.bp 1000000 0,.bp 1000001 0]),(6,.box [dI 0,dI 0,oW0 []]),(7,.box [dI a0,dI a1,oW0 p.1]),(8,dI v1),(17,dI a1),(18,dI v1),(21,dI a0),(22,dI p.2.1),(1000000,.box [dI p.2.2.1,dI p.2.2.2.1,.d (.sl 1 (p.2.2.2.2.1.map cU))]),(1000001,.box [dI p.2.2.2.2.2])]) (fun n p=>raster_build_uint8_v3_L2 F a0 v1 n p.1 p.2.1 p.2.2.1 p.2.2.2.1 p.2.2.2.2.1 p.2.2.2.2.2=some s) (fun i hh=>by simp [raster_build_uint8_v3_L2] at hh) (fun n p h=>?_) F (v8,(0:Int),v9,v10,v11,v12) h
        obtain ⟨v2,v3,v4,v5,v6,v7⟩:=p
        have h:raster_build_uint8_v3_L2 F a0 v1 (n+1) v2 v3 v4 v5 v6 v7=some s:=h
        rw [raster_build_uint8_v3_L2] at h
        refine T_reg [] [0,2,6,7,8,17,18,21,22,23,1000000,1000001] [(23,dB (decide (v3 < a0)))] [] 1 (by kernel_rfl) (trivial) ?_
        refine T_seqk ?_
        refine T_cond (decide (v3 < a0)) (by kernel_rfl) (fun hc=>?_) (fun hc=>?_)
        · have h:=cond_tt hc h
          refine T_skip fun a w hm=>then_norm (((?_:T Try.prog e 37 _ _ _) a w hm))
          refine T_seqk ?_
          refine T_block ?_
          refine T_reg [] [0,2,6,7,8,9,17,18,21,22,1000000,1000001] [(9,dI v3)] [] 2 (by kernel_rfl) (trivial) ?_
          obtain ⟨y1,hy1,h⟩:=call_ok h
          obtain ⟨hp2,h⟩:=chk_ok h
          obtain ⟨hp3,h⟩:=chk_ok h
          refine T_drawX_end mixed 3 (.take 0 (.take 2 (.take 3 (.take 4 (.all (.alt 1 (.all (.alt 5 (.all (.alt 6 (.all (.alt 7 (.take 8 (.all (.alt 9 .done .stop))) .stop)) .stop)) .stop)) (.alt 5 (.all (.alt 1 (.all (.alt 6 (.all (.alt 7 (.take 8 (.all (.alt 9 .done .stop))) .stop)) .stop)) (.alt 6 (.all (.alt 1 (.all (.alt 7 (.take 8 (.all (.alt 9 .done .stop))) .stop)) .stop)) .stop))) .stop))))))) ([0,1,0,0,0,28,32,98,255,511],[0,1,0,0,0,28,32,66,0,384]) 285 [(5,{ res:=.d (.v (.int .u8 y1.1)),vout:=[.box [dI y1.2.1,dI y1.2.2.1,.d (.sl 1 (y1.2.2.2.1.map cU))],.box [dI y1.2.2.2.2]],xs:=[1000000,1000001] }),(6,{ es:=some (([(UInt8.ofNat y1.1.toNat)]).map cU) }),(7,{ es:=some ((v2++([(UInt8.ofNat y1.1.toNat)])).map cU) })] [0,2,6,7,8,17,18,21,22,1000000,1000001] [] [(0,dI a0),(2,.clo 60 [.bp 1000000 0,.bp 1000001 0]),(6,.box [dI 0,dI 0,oW0 []]),(7,.box [dI a0,dI a1,.own 5 1 ((v2++([(UInt8.ofNat y1.1.toNat)])).map cU)]),(8,dI v1),(17,dI a1),(18,dI v1),(21,dI a0),(22,dI v3),(1000000,.box [dI y1.2.1,dI y1.2.2.1,.d (.sl 1 (y1.2.2.2.1.map cU))]),(1000001,.box [dI y1.2.2.2.2])] ((fun (o5:Prop)=>fun (o6:Prop)=>fun (o7:Prop)=>[(5,o5),(0,o6),(0,o7),(2,o5),(1,o6),(0,o7),(2,o6),(1,o7)]) (ACall Try.prog 60 [dI v3,dI v1,.bp 1000000 0,.bp 1000001 0] [.box [dI v4,dI v5,.d (.sl 1 (v6.map cU))],.box [dI v7]] (.d (.v (.int .u8 y1.1))) [.box [dI y1.2.1,dI y1.2.2.1,.d (.sl 1 (y1.2.2.2.1.map cU))],.box [dI y1.2.2.2.2]]) ([[Dat.v (.int .u8 y1.1)]]=(([(UInt8.ofNat y1.1.toNat)]).map cU)) ((v2.map cU).length+(([(UInt8.ofNat y1.1.toNat)]).map cU).length≤4294967296∧(v2.map cU)++(([(UInt8.ofNat y1.1.toNat)]).map cU)=((v2++([(UInt8.ofNat y1.1.toNat)])).map cU))) 2 (by kernel_rfl) (by kernel_rfl) (by kernel_rfl) (have p5:=raster_Grid_uint8_Turn_c3_ok hy1; have p6:=(lit_u hp2 (rfl:([]:List (List Dat))=([]:List UInt8).map cU)); have p7:=app_ok cU hp3; ⟨p5,p6,p7,p5,p6,p7,p6,p7⟩) fun a w hm=>inBlock_norm (then_norm (((?_:T Try.prog e 37 _ _ _) a w hm)))
          refine T_reg_end [] [0,2,6,7,8,17,18,21,22,1000000,1000001] [(22,dI (IntKind.i64.wrap (v3+(1:Int))))] [] 2 (by kernel_rfl) (trivial) fun a w hm=>then_norm (⟨((v2++([(UInt8.ofNat y1.1.toNat)])),IntKind.i64.wrap (v3+(1:Int)),y1.2.1,y1.2.2.1,y1.2.2.2.1,y1.2.2.2.2),h,hm.co (cs:=[.keep [0,2,6,7,8,17,18,21,22,1000000,1000001]]) (by show _=_; kernel_rfl)⟩)
        · have h:=cond_ff hc h
          obtain hs:=Option.some.inj h; subst hs
          refine T_exit fun a w hm=>then_exit (then_exit (inBlock_exit (then_norm (hm.co (cs:=[.keep [0,2,6,7,17,18,1000000,1000001]]) (by show _=_; kernel_rfl)))))
      · obtain ⟨v13,v14,v15,v16,v17⟩:=s
        try dsimp only at h
        refine fun a w hm=>inBlock_norm (then_norm (((?_:T Try.prog e 37 _ _ _) a w hm)))
        refine T_reg_end [] [0,2,6,7,17,18,1000000,1000001] [(18,dI (IntKind.i64.wrap (v1+(1:Int))))] [] 2 (by kernel_rfl) (trivial) fun a w hm=>then_norm (⟨(v13,IntKind.i64.wrap (v1+(1:Int)),v14,v15,v16,v17),h,hm.co (cs:=[.keep [0,2,6,7,17,18,1000000,1000001]]) (by show _=_; kernel_rfl)⟩)
    · have h:=cond_ff hc h
      obtain hs:=Option.some.inj h; subst hs
      refine T_exit fun a w hm=>then_exit (then_exit (inBlock_exit (then_norm (hm.co (cs:=[.keep [6,7,1000000,1000001]]) (by show _=_; kernel_rfl)))))
  · obtain ⟨v18,v19,v20,v21,v22⟩:=s
    try dsimp only at h
    refine fun a w hm=>then_norm (((?_:T Try.prog e 37 _ _ _) a w hm))
    refine T_reg [(0,{ frz:=[(7,3)] })] [6,1000000,1000001] [(6,.box [dI a0,dI a1,.d (.sl 1 (v18.map cU))])] [] 2 (by kernel_rfl) (trivial) ?_
    obtain hs:=Option.some.inj h; subst hs
    refine T_ret fun a w hm=>T_returnC (fr':=[(6,.box [dI a0,dI a1,.d (.sl 1 (v18.map cU))]),(1000000,.box [dI v19,dI v20,.d (.sl 1 (v21.map cU))]),(1000001,.box [dI v22])]) (ts:=[37]) (N':=38) (fr2:=[(37,.agg (cS_Plate (S_Plate.mk a0 a1 v18)))]++[(6,.box [dI a0,dI a1,.d (.sl 1 (v18.map cU))]),(1000000,.box [dI v19,dI v20,.d (.sl 1 (v21.map cU))]),(1000001,.box [dI v22])]) [.keep [6,1000000,1000001]] (by kernel_rfl) (by kernel_rfl) (by kernel_rfl) (by kernel_rfl) (by show _=_; kernel_rfl) (by exact ⟨⟨by kernel_rfl,by kernel_rfl⟩,⟨⟨by kernel_rfl,by kernel_rfl⟩,trivial⟩⟩) a w hm
theorem raster_Grid_uint8_Turn_ok {F:Nat} {a0:S_Plate} {a1:Int} {r:S_Plate×Int} (h:raster_Grid_uint8_Turn F a0 a1=some r):ACall Try.prog 38 [.agg (cS_Plate a0),.d (.v (.int .i64 a1))] [] (.tup [.agg (cS_Plate r.1),.d (.v (.int .i64 r.2))]) []:=by
  rw [raster_Grid_uint8_Turn] at h
  refine ACall.intro (N:=45) Try.func38 rfl rfl rfl rfl rfl fun e=>?_
  refine T_reg [] [1,2,4] [(2,bx_Plate a0),(4,.box [dI 0,dI 0,oW0 []])] [] 3 (by kernel_rfl) (trivial) ?_
  refine T_seqk ?_
  obtain ⟨y1,hy1,h⟩:=call_ok h
  refine T_reg [(1,{ res:=dI y1 })] [1,2,4,6] [(6,dI y1)] [(1,ACall Try.prog 41 [.agg (cS_Plate a0)] [] (dI y1) [])] 1 (by kernel_rfl) (raster_Grid_uint8_Check_ok hy1) ?_
  refine T_reg [] [1,2,4,6,12] [(12,dB (y1 != (0:Int)))] [] 2 (by kernel_rfl) (trivial) ?_
  refine T_cond (y1 != (0:Int)) (by kernel_rfl) (fun hc=>?_) (fun hc=>?_)
  · have h:=cond_tt hc h
    refine T_region [(0,{ take:=[0] })] [4,5] [.nilc 4 2 5 1,.keep [4,5]] [(4,.box [dI 0,dI 0,oW0 []]),(5,dI y1)] [] 4 (by kernel_rfl) (trivial) ?_
    obtain hs:=Option.some.inj h; subst hs
    refine T_ret fun a w hm=>then_ret (T_returnC (fr':=[(4,.box [dI 0,dI 0,.fz 1 ([].map cU)]),(5,dI y1)]) (ts:=[45,5]) (N':=46) (fr2:=[(45,.agg (cS_Plate z_Plate))]++[(4,.box [dI 0,dI 0,.fz 1 ([].map cU)]),(5,dI y1)]) [.frz (4,3),.keep [4,5]] (by kernel_rfl) (by kernel_rfl) (by kernel_rfl) (by kernel_rfl) (by show _=_; kernel_rfl) (by exact trivial) a w hm)
  · have h:=cond_ff hc h
    refine T_skip fun a w hm=>then_norm (((?_:T Try.prog e 45 _ _ _) a w hm))
    refine T_drawX mixed 30 (.take 0 (.take 2 (.all (.alt 1 (.all (.alt 3 (.all (.alt 4 (.all (.alt 5 (.all (.alt 6 (.all (.alt 7 .done .stop)) .stop)) .stop)) (.alt 5 (.all (.alt 4 (.all (.alt 6 (.all (.alt 7 .done .stop)) .stop)) .stop)) .stop))) (.alt 4 (.all (.alt 3 (.all (.alt 5 (.all (.alt 6 (.all (.alt 7 .done .stop)) .stop)) .stop)) (.alt 5 (.all (.alt 3 (.all (.alt 6 (.all (.alt 7 .done .stop)) .stop)) (.alt 6 (.all (.alt 3 (.all (.alt 7 .done .stop)) .stop)) .stop))) .stop))) (.alt 5 (.all (.alt 3 (.all (.alt 4 (.all (.alt 6 (.all (.alt 7 .done .stop)) .stop)) .stop)) (.alt 4 (.all (.alt 3 (.all (.alt 6 (.all (.alt 7 .done .stop)) .stop)) (.alt 6 (.all (.alt 3 (.all (.alt 7 .done .stop)) .stop)) .stop))) .stop))) .stop)))) (.alt 3 (.all (.alt 1 (.all (.alt 4 (.all (.alt 5 (.all (.alt 6 (.all (.alt 7 .done .stop)) .stop)) .stop)) (.alt 5 (.all (.alt 4 (.all (.alt 6 (.all (.alt 7 .done .stop)) .stop)) .stop)) .stop))) (.alt 4 (.all (.alt 1 (.all (.alt 5 (.all (.alt 6 (.all (.alt 7 .done .stop)) .stop)) .stop)) (.alt 5 (.all (.alt 1 (.all (.alt 6 (.all (.alt 7 .done .stop)) .stop)) .stop)) .stop))) (.alt 5 (.all (.alt 1 (.all (.alt 4 (.all (.alt 6 (.all (.alt 7 .done .stop)) .stop)) .stop)) (.alt 4 (.all (.alt 1 (.all (.alt 6 (.all (.alt 7 .done .stop)) .stop)) .stop)) .stop))) .stop)))) (.alt 4 (.all (.alt 1 (.all (.alt 3 (.all (.alt 5 (.all (.alt 6 (.all (.alt 7 .done .stop)) .stop)) .stop)) (.alt 5 (.all (.alt 3 (.all (.alt 6 (.all (.alt 7 .done .stop)) .stop)) (.alt 6 (.all (.alt 3 (.all (.alt 7 .done .stop)) .stop)) .stop))) .stop))) (.alt 3 (.all (.alt 1 (.all (.alt 5 (.all (.alt 6 (.all (.alt 7 .done .stop)) .stop)) .stop)) (.alt 5 (.all (.alt 1 (.all (.alt 6 (.all (.alt 7 .done .stop)) .stop)) .stop)) .stop))) (.alt 5 (.all (.alt 1 (.all (.alt 3 (.all (.alt 6 (.all (.alt 7 .done .stop)) .stop)) (.alt 6 (.all (.alt 3 (.all (.alt 7 .done .stop)) .stop)) .stop))) (.alt 3 (.all (.alt 1 (.all (.alt 6 (.all (.alt 7 .done .stop)) .stop)) .stop)) .stop))) .stop)))) (.alt 5 (.all (.alt 1 (.all (.alt 3 (.all (.alt 4 (.all (.alt 6 (.all (.alt 7 .done .stop)) .stop)) .stop)) (.alt 4 (.all (.alt 3 (.all (.alt 6 (.all (.alt 7 .done .stop)) .stop)) (.alt 6 (.all (.alt 3 (.all (.alt 7 .done .stop)) .stop)) .stop))) .stop))) (.alt 3 (.all (.alt 1 (.all (.alt 4 (.all (.alt 6 (.all (.alt 7 .done .stop)) .stop)) .stop)) (.alt 4 (.all (.alt 1 (.all (.alt 6 (.all (.alt 7 .done .stop)) .stop)) .stop)) .stop))) (.alt 4 (.all (.alt 1 (.all (.alt 3 (.all (.alt 6 (.all (.alt 7 .done .stop)) .stop)) (.alt 6 (.all (.alt 3 (.all (.alt 7 .done .stop)) .stop)) .stop))) (.alt 3 (.all (.alt 1 (.all (.alt 6 (.all (.alt 7 .done .stop)) .stop)) .stop)) .stop))) .stop)))) .stop))))))) ([0,1,0,4,0,0,51,127],[0,1,0,4,0,0,18,40]) 5 [] [1,2,4,7,8] [] [(1,dI a1),(2,bx_Plate a0),(4,.box [dI 0,dI 0,oW0 []]),(7,.box [dI a0.f0]),(8,.box [dI a0.f1])] [] 132 (by kernel_rfl) (by kernel_rfl) (by kernel_rfl) (trivial) ?_
    refine T_seqk ?_
    obtain ⟨z1,hz1,h⟩:=lett_ok h
    refine T_reg [(1,{ rw:=some (dI z1) })] [2,4,7,8,20] [(20,dI z1)] [(1,(True)∧dI (IntKind.i64.wrap ((BitVec.ofInt IntKind.i64.bits a1 &&& BitVec.ofInt IntKind.i64.bits (3:Int)).toNat:Int))=dI z1)] 0 (by kernel_rfl) (⟨trivial,(by subst hz1; rfl)⟩) ?_
    refine T_block ?_
    refine T_reg [] [2,4,7,8,20,21] [(21,dB (z1 == (1:Int)))] [] 2 (by kernel_rfl) (trivial) ?_
    refine T_cond (z1 == (1:Int)) (by kernel_rfl) (fun hc=>?_) (fun hc=>?_)
    · have h:=cond_tt hc h
      obtain ⟨y2,hy2,h⟩:=call_ok h
      refine T_reg [(3,{ res:=.agg (cS_Plate y2.1),vout:=[.box [dI y2.2.1,dI y2.2.2.1,.d (.sl 1 (y2.2.2.2.1.map cU))],.box [dI y2.2.2.2.2.1],.box [dI y2.2.2.2.2.2]],xs:=[2,8,7] })] [4,5] [(4,bx_Plate y2.1),(5,dI (0:Int))] [(3,ACall Try.prog 53 [dI a0.f1,dI a0.f0,.clo 58 [.bp 1000000 0,.bp 1000001 0,.bp 1000002 0]] [bx_Plate a0,.box [dI a0.f1],.box [dI a0.f0]] (.agg (cS_Plate y2.1)) [.box [dI y2.2.1,dI y2.2.2.1,.d (.sl 1 (y2.2.2.2.1.map cU))],.box [dI y2.2.2.2.2.1],.box [dI y2.2.2.2.2.2]])] 2 (by kernel_rfl) (raster_build_uint8_v1_ok hy2) ?_
      obtain hs:=Option.some.inj h; subst hs
      refine T_ret fun a w hm=>inBlock_ret (then_ret (T_returnC (fr':=[(4,bx_Plate y2.1),(5,dI (0:Int))]) (ts:=[45,5]) (N':=46) (fr2:=[(45,.agg (cS_Plate y2.1))]++[(4,bx_Plate y2.1),(5,dI (0:Int))]) [.keep [4,5]] (by kernel_rfl) (by kernel_rfl) (by kernel_rfl) (by kernel_rfl) (by show _=_; kernel_rfl) (by exact trivial) a w hm))
    · have h:=cond_ff hc h
      refine T_reg [] [2,4,7,8,20,27] [(27,dB (z1 == (2:Int)))] [] 2 (by kernel_rfl) (trivial) ?_
      refine T_cond (z1 == (2:Int)) (by kernel_rfl) (fun hc=>?_) (fun hc=>?_)
      · have h:=cond_tt hc h
        obtain ⟨y3,hy3,h⟩:=call_ok h
        refine T_reg [(3,{ res:=.agg (cS_Plate y3.1),vout:=[.box [dI y3.2.1,dI y3.2.2.1,.d (.sl 1 (y3.2.2.2.1.map cU))],.box [dI y3.2.2.2.2.1],.box [dI y3.2.2.2.2.2]],xs:=[2,8,7] })] [4,5] [(4,bx_Plate y3.1),(5,dI (0:Int))] [(3,ACall Try.prog 53 [dI a0.f0,dI a0.f1,.clo 59 [.bp 1000000 0,.bp 1000001 0,.bp 1000002 0]] [bx_Plate a0,.box [dI a0.f1],.box [dI a0.f0]] (.agg (cS_Plate y3.1)) [.box [dI y3.2.1,dI y3.2.2.1,.d (.sl 1 (y3.2.2.2.1.map cU))],.box [dI y3.2.2.2.2.1],.box [dI y3.2.2.2.2.2]])] 2 (by kernel_rfl) (raster_build_uint8_v2_ok hy3) ?_
        obtain hs:=Option.some.inj h; subst hs
        refine T_ret fun a w hm=>inBlock_ret (then_ret (T_returnC (fr':=[(4,bx_Plate y3.1),(5,dI (0:Int))]) (ts:=[45,5]) (N':=46) (fr2:=[(45,.agg (cS_Plate y3.1))]++[(4,bx_Plate y3.1),(5,dI (0:Int))]) [.keep [4,5]] (by kernel_rfl) (by kernel_rfl) (by kernel_rfl) (by kernel_rfl) (by show _=_; kernel_rfl) (by exact trivial) a w hm))
      · have h:=cond_ff hc h
        refine T_reg [] [2,4,7,8,33] [(33,dB (z1 == (3:Int)))] [] 2 (by kernel_rfl) (trivial) ?_
        refine T_cond (z1 == (3:Int)) (by kernel_rfl) (fun hc=>?_) (fun hc=>?_)
        · have h:=cond_tt hc h
          obtain ⟨y4,hy4,h⟩:=call_ok h
          refine T_reg [(3,{ res:=.agg (cS_Plate y4.1),vout:=[.box [dI y4.2.1,dI y4.2.2.1,.d (.sl 1 (y4.2.2.2.1.map cU))],.box [dI y4.2.2.2.2]],xs:=[2,7] })] [4,5] [(4,bx_Plate y4.1),(5,dI (0:Int))] [(3,ACall Try.prog 53 [dI a0.f1,dI a0.f0,.clo 60 [.bp 1000000 0,.bp 1000001 0]] [bx_Plate a0,.box [dI a0.f0]] (.agg (cS_Plate y4.1)) [.box [dI y4.2.1,dI y4.2.2.1,.d (.sl 1 (y4.2.2.2.1.map cU))],.box [dI y4.2.2.2.2]])] 2 (by kernel_rfl) (raster_build_uint8_v3_ok hy4) ?_
          obtain hs:=Option.some.inj h; subst hs
          refine T_ret fun a w hm=>inBlock_ret (then_ret (T_returnC (fr':=[(4,bx_Plate y4.1),(5,dI (0:Int))]) (ts:=[45,5]) (N':=46) (fr2:=[(45,.agg (cS_Plate y4.1))]++[(4,bx_Plate y4.1),(5,dI (0:Int))]) [.keep [4,5]] (by kernel_rfl) (by kernel_rfl) (by kernel_rfl) (by kernel_rfl) (by show _=_; kernel_rfl) (by exact trivial) a w hm))
        · have h:=cond_ff hc h
          refine T_skip fun a w hm=>inBlock_norm (then_norm (((?_:T Try.prog e 45 _ _ _) a w hm)))
          obtain ⟨y5,hy5,h⟩:=call_ok h
          refine T_drawX mixed 12 (.take 2 (.all (.alt 0 (.all (.alt 1 (.all (.alt 3 (.all (.alt 4 (.all (.alt 5 (.all (.alt 6 (.take 7 .done) .stop)) .stop)) .stop)) .stop)) (.alt 3 (.all (.alt 1 (.all (.alt 4 (.all (.alt 5 (.all (.alt 6 (.take 7 .done) .stop)) .stop)) .stop)) (.alt 4 (.all (.alt 1 (.all (.alt 5 (.all (.alt 6 (.take 7 .done) .stop)) .stop)) .stop)) .stop))) .stop))) (.alt 1 (.all (.alt 0 (.all (.alt 3 (.all (.alt 4 (.all (.alt 5 (.all (.alt 6 (.take 7 .done) .stop)) .stop)) .stop)) .stop)) (.alt 3 (.all (.alt 0 (.all (.alt 4 (.all (.alt 5 (.all (.alt 6 (.take 7 .done) .stop)) .stop)) .stop)) (.alt 4 (.all (.alt 0 (.all (.alt 5 (.all (.alt 6 (.take 7 .done) .stop)) .stop)) .stop)) .stop))) .stop))) (.alt 3 (.all (.alt 0 (.all (.alt 1 (.all (.alt 4 (.all (.alt 5 (.all (.alt 6 (.take 7 .done) .stop)) .stop)) .stop)) (.alt 4 (.all (.alt 1 (.all (.alt 5 (.all (.alt 6 (.take 7 .done) .stop)) .stop)) .stop)) .stop))) (.alt 1 (.all (.alt 0 (.all (.alt 4 (.all (.alt 5 (.all (.alt 6 (.take 7 .done) .stop)) .stop)) .stop)) (.alt 4 (.all (.alt 0 (.all (.alt 5 (.all (.alt 6 (.take 7 .done) .stop)) .stop)) .stop)) .stop))) (.alt 4 (.all (.alt 0 (.all (.alt 1 (.all (.alt 5 (.all (.alt 6 (.take 7 .done) .stop)) .stop)) .stop)) (.alt 1 (.all (.alt 0 (.all (.alt 5 (.all (.alt 6 (.take 7 .done) .stop)) .stop)) .stop)) .stop))) .stop)))) .stop))))) ([0,0,0,4,8,19,63,127],[0,0,0,4,8,19,32,0]) 132 [(4,{ res:=oW0 y5 }),(5,{ frz:=[(43,0)] })] [4,5] [] [(4,.box [dI a0.f0,dI a0.f1,.d (.sl 1 (y5.map cU))]),(5,dI (0:Int))] ((fun (o4:Prop)=>[(4,o4),(5,o4),(3,o4),(7,o4),(5,o4),(3,o4),(7,o4),(3,o4),(6,o4),(3,o4),(4,o4)]) (ACall Try.prog 57 [.d (.sl 1 (a0.f2.map cU))] [] (oW0 y5) [])) 10 (by kernel_rfl) (by kernel_rfl) (by kernel_rfl) (have p4:=slices_Clone_uint8_ok hy5; ⟨p4,p4,p4,p4,p4,p4,p4,p4,p4,p4,p4⟩) ?_
          obtain hs:=Option.some.inj h; subst hs
          refine T_ret fun a w hm=>T_returnC (fr':=[(4,.box [dI a0.f0,dI a0.f1,.d (.sl 1 (y5.map cU))]),(5,dI (0:Int))]) (ts:=[45,5]) (N':=46) (fr2:=[(45,.agg (cS_Plate (S_Plate.mk a0.f0 a0.f1 y5)))]++[(4,.box [dI a0.f0,dI a0.f1,.d (.sl 1 (y5.map cU))]),(5,dI (0:Int))]) [.keep [4,5]] (by kernel_rfl) (by kernel_rfl) (by kernel_rfl) (by kernel_rfl) (by show _=_; kernel_rfl) (by exact trivial) a w hm
theorem raster_Plate_ok {F:Nat} {a0:S_Plate} {r:S_Plate} (h:raster_Plate F a0=some r):ACall Try.prog 39 [.agg (cS_Plate a0)] [] (.agg (cS_Plate r)) []:=by
  rw [raster_Plate] at h
  refine ACall.intro (N:=11) Try.func39 rfl rfl rfl rfl rfl fun e=>?_
  refine T_reg [] [1,2] [(1,bx_Plate a0),(2,.box [dI 0,dI 0,oW0 []])] [] 2 (by kernel_rfl) (trivial) ?_
  obtain ⟨y1,hy1,h⟩:=call_ok h
  refine T_drawX mixed 12 (.take 0 (.take 2 (.take 4 (.all (.alt 1 (.all (.alt 3 (.all (.alt 5 (.all (.alt 6 (.all (.alt 7 (.all (.alt 8 .done .stop)) .stop)) .stop)) .stop)) (.alt 5 (.all (.alt 3 (.all (.alt 6 (.all (.alt 7 (.all (.alt 8 .done .stop)) .stop)) .stop)) (.alt 6 (.all (.alt 3 (.all (.alt 7 (.all (.alt 8 .done .stop)) .stop)) .stop)) .stop))) .stop))) (.alt 3 (.all (.alt 1 (.all (.alt 5 (.all (.alt 6 (.all (.alt 7 (.all (.alt 8 .done .stop)) .stop)) .stop)) .stop)) (.alt 5 (.all (.alt 1 (.all (.alt 6 (.all (.alt 7 (.all (.alt 8 .done .stop)) .stop)) .stop)) (.alt 6 (.all (.alt 1 (.all (.alt 7 (.all (.alt 8 .done .stop)) .stop)) .stop)) .stop))) .stop))) (.alt 5 (.all (.alt 1 (.all (.alt 3 (.all (.alt 6 (.all (.alt 7 (.all (.alt 8 .done .stop)) .stop)) .stop)) (.alt 6 (.all (.alt 3 (.all (.alt 7 (.all (.alt 8 .done .stop)) .stop)) .stop)) .stop))) (.alt 3 (.all (.alt 1 (.all (.alt 6 (.all (.alt 7 (.all (.alt 8 .done .stop)) .stop)) .stop)) (.alt 6 (.all (.alt 1 (.all (.alt 7 (.all (.alt 8 .done .stop)) .stop)) .stop)) .stop))) (.alt 6 (.all (.alt 1 (.all (.alt 3 (.all (.alt 7 (.all (.alt 8 .done .stop)) .stop)) .stop)) (.alt 3 (.all (.alt 1 (.all (.alt 7 (.all (.alt 8 .done .stop)) .stop)) .stop)) .stop))) .stop)))) .stop))))))) ([0,1,0,4,0,16,32,74,255],[0,1,0,4,0,16,32,74,128]) 21 [(6,{ res:=oW0 y1 }),(7,{ frz:=[(9,0)] })] [2] [] [(2,.box [dI a0.f0,dI a0.f1,.d (.sl 1 (y1.map cU))])] ((fun (o6:Prop)=>[(6,o6),(4,o6),(2,o6),(6,o6),(4,o6),(2,o6),(6,o6),(2,o6),(5,o6),(2,o6),(3,o6)]) (ACall Try.prog 57 [.d (.sl 1 (a0.f2.map cU))] [] (oW0 y1) [])) 8 (by kernel_rfl) (by kernel_rfl) (by kernel_rfl) (have p6:=slices_Clone_uint8_ok hy1; ⟨p6,p6,p6,p6,p6,p6,p6,p6,p6,p6,p6⟩) ?_
  obtain hs:=Option.some.inj h; subst hs
  refine T_ret fun a w hm=>T_returnC (fr':=[(2,.box [dI a0.f0,dI a0.f1,.d (.sl 1 (y1.map cU))])]) (ts:=[11]) (N':=12) (fr2:=[(11,.agg (cS_Plate (S_Plate.mk a0.f0 a0.f1 y1)))]++[(2,.box [dI a0.f0,dI a0.f1,.d (.sl 1 (y1.map cU))])]) [.keep [2]] (by kernel_rfl) (by kernel_rfl) (by kernel_rfl) (by kernel_rfl) (by show _=_; kernel_rfl) (by exact trivial) a w hm
theorem fold_flat_ok {F:Nat} {a0:S_FoldScheme} {r:S_fold_sheet} (h:fold_flat F a0=some r):ACall Try.prog 62 [.agg (cS_FoldScheme a0)] [] (.agg (cS_fold_sheet r)) []:=by
  rw [fold_flat] at h
  refine ACall.intro (N:=33) Try.func62 rfl rfl rfl rfl rfl fun e=>?_
  refine T_reg [] [1,2] [(1,bx_FoldScheme a0),(2,.box [dI 0,dI 0,oW2 []])] [] 2 (by kernel_rfl) (trivial) ?_
  refine T_region [(4,{ take:=[0] })] [1,2,3] [.nilc 3 2 104 1,.keep [1,2,3]] [(1,bx_FoldScheme a0),(2,.box [dI 0,dI 0,oW2 []]),(3,.box [dI a0.f0,dI a0.f1,oW2 []])] [] 7 (by kernel_rfl) (trivial) ?_
  refine T_seqk ?_
  refine T_reg [] [1,2,3,12,13] [(12,dI a0.f1),(13,dI (0:Int))] [] 3 (by kernel_rfl) (trivial) ?_
  refine T_joinct h (fun (p:(List (List S_FoldLeaf)))=>[(2,.box [dI 0,dI 0,oW2 []]),(3,.box [dI a0.f0,dI a0.f1,oW2 p])]) (fun s h=>?_) (fun v6 h=>?_)
  · refine T_co [.keep [1,2,3,12,13]] ((fun (p:(List (List S_FoldLeaf))×Int)=>[(1,bx_FoldScheme a0),(2,.box [dI 0,dI 0,oW2 []]),(3,.box [dI a0.f0,dI a0.f1,oW2 p.1]),(12,dI a0.f1),(13,dI p.2)]) ([],(0:Int))) (by show _=_; kernel_rfl) ?_
    refine T_block ?_
    refine T_loopF (ι:=(List (List S_FoldLeaf))×Int) (fun (p:(List (List S_FoldLeaf))×Int)=>[(1,bx_FoldScheme a0),(2,.box [dI 0,dI 0,oW2 []]),(3,.box [dI a0.f0,dI a0.f1,oW2 p.1]),(12,dI a0.f1),(13,dI p.2)]) (fun n p=>fold_flat_L0 F a0 n p.1 p.2=some s) (fun i hh=>by simp [fold_flat_L0] at hh) (fun n p h=>?_) F ([],(0:Int)) h
    obtain ⟨v4,v1⟩:=p
    have h:fold_flat_L0 F a0 (n+1) v4 v1=some s:=h
    rw [fold_flat_L0] at h
    refine T_reg [] [1,2,3,12,13,14] [(14,dB (decide (v1 < a0.f1)))] [] 1 (by kernel_rfl) (trivial) ?_
    refine T_seqk ?_
    refine T_cond (decide (v1 < a0.f1)) (by kernel_rfl) (fun hc=>?_) (fun hc=>?_)
    · have h:=cond_tt hc h
      refine T_skip fun a w hm=>then_norm (((?_:T Try.prog e 33 _ _ _) a w hm))
      refine T_seqk ?_
      refine T_block ?_
      refine T_reg [] [1,2,3,4,12,13] [(4,dI v1)] [] 2 (by kernel_rfl) (trivial) ?_
      refine T_reg [] [1,2,3,4,12,13,17,18] [(17,dI a0.f0),(18,dI (0:Int))] [] 3 (by kernel_rfl) (trivial) ?_
      refine T_joinct h (fun (p:(List (List S_FoldLeaf)))=>[(1,bx_FoldScheme a0),(2,.box [dI 0,dI 0,oW2 []]),(3,.box [dI a0.f0,dI a0.f1,oW2 p]),(12,dI a0.f1),(13,dI v1)]) (fun s h=>?_) (fun v5 h=>?_)
      · refine T_co [.keep [1,2,3,4,12,13,17,18]] ((fun (p:(List (List S_FoldLeaf))×Int)=>[(1,bx_FoldScheme a0),(2,.box [dI 0,dI 0,oW2 []]),(3,.box [dI a0.f0,dI a0.f1,oW2 p.1]),(4,dI v1),(12,dI a0.f1),(13,dI v1),(17,dI a0.f0),(18,dI p.2)]) (v4,(0:Int))) (by show _=_; kernel_rfl) ?_
        refine T_block ?_
        refine T_loopF (ι:=(List (List S_FoldLeaf))×Int) (fun (p:(List (List S_FoldLeaf))×Int)=>[(1,bx_FoldScheme a0),(2,.box [dI 0,dI 0,oW2 []]),(3,.box [dI a0.f0,dI a0.f1,oW2 p.1]),(4,dI v1),(12,dI a0.f1),(13,dI v1),(17,dI a0.f0),(18,dI p.2)]) (fun n p=>fold_flat_L2 F a0 v1 n p.1 p.2=some s) (fun i hh=>by simp [fold_flat_L2] at hh) (fun n p h=>?_) F (v4,(0:Int)) h
        obtain ⟨v2,v3⟩:=p
        have h:fold_flat_L2 F a0 v1 (n+1) v2 v3=some s:=h
        rw [fold_flat_L2] at h
        refine T_reg [] [1,2,3,4,12,13,17,18,19] [(19,dB (decide (v3 < a0.f0)))] [] 1 (by kernel_rfl) (trivial) ?_
        refine T_seqk ?_
        refine T_cond (decide (v3 < a0.f0)) (by kernel_rfl) (fun hc=>?_) (fun hc=>?_)
        · have h:=cond_tt hc h
          refine T_skip fun a w hm=>then_norm (((?_:T Try.prog e 33 _ _ _) a w hm))
          refine T_seqk ?_
          refine T_block ?_
          refine T_reg [] [1,2,3,4,5,12,13,17,18] [(5,dI v3)] [] 2 (by kernel_rfl) (trivial) ?_
          obtain ⟨hp1,h⟩:=chk_ok h
          refine T_reg_end [(5,{ es:=some (([(S_FoldLeaf.mk v3 v1 false false)]).map cS_FoldLeaf) }),(6,{ frz:=[(26,0)],es:=some (([[(S_FoldLeaf.mk v3 v1 false false)]]).map (cL 4 cS_FoldLeaf)) }),(7,{ es:=some ((v2++([[(S_FoldLeaf.mk v3 v1 false false)]])).map (cL 4 cS_FoldLeaf)) })] [1,2,3,4,12,13,17,18] [(3,.box [dI a0.f0,dI a0.f1,.own 104 1 ((v2++([[(S_FoldLeaf.mk v3 v1 false false)]])).map (cL 4 cS_FoldLeaf))])] [(5,(([(S_FoldLeaf.mk v3 v1 false false)]).map cS_FoldLeaf)=(([(S_FoldLeaf.mk v3 v1 false false)]).map cS_FoldLeaf)),(0,(([[(S_FoldLeaf.mk v3 v1 false false)]]).map (cL 4 cS_FoldLeaf))=(([[(S_FoldLeaf.mk v3 v1 false false)]]).map (cL 4 cS_FoldLeaf))),(0,(v2.map (cL 4 cS_FoldLeaf)).length+(([[(S_FoldLeaf.mk v3 v1 false false)]]).map (cL 4 cS_FoldLeaf)).length≤4294967296∧(v2.map (cL 4 cS_FoldLeaf))++(([[(S_FoldLeaf.mk v3 v1 false false)]]).map (cL 4 cS_FoldLeaf))=((v2++([[(S_FoldLeaf.mk v3 v1 false false)]])).map (cL 4 cS_FoldLeaf)))] 2 (by kernel_rfl) (⟨rfl,rfl,app_ok (cL 4 cS_FoldLeaf) hp1⟩) fun a w hm=>inBlock_norm (then_norm (((?_:T Try.prog e 33 _ _ _) a w hm)))
          refine T_reg_end [] [1,2,3,4,12,13,17,18] [(18,dI (IntKind.i64.wrap (v3+(1:Int))))] [] 2 (by kernel_rfl) (trivial) fun a w hm=>then_norm (⟨((v2++([[(S_FoldLeaf.mk v3 v1 false false)]])),IntKind.i64.wrap (v3+(1:Int))),h,hm.co (cs:=[.keep [1,2,3,4,12,13,17,18]]) (by show _=_; kernel_rfl)⟩)
        · have h:=cond_ff hc h
          obtain hs:=Option.some.inj h; subst hs
          refine T_exit fun a w hm=>then_exit (then_exit (inBlock_exit (then_norm (hm.co (cs:=[.keep [1,2,3,12,13]]) (by show _=_; kernel_rfl)))))
      · skip
        refine fun a w hm=>inBlock_norm (then_norm (((?_:T Try.prog e 33 _ _ _) a w hm)))
        refine T_reg_end [] [1,2,3,12,13] [(13,dI (IntKind.i64.wrap (v1+(1:Int))))] [] 2 (by kernel_rfl) (trivial) fun a w hm=>then_norm (⟨(v5,IntKind.i64.wrap (v1+(1:Int))),h,hm.co (cs:=[.keep [1,2,3,12,13]]) (by show _=_; kernel_rfl)⟩)
    · have h:=cond_ff hc h
      obtain hs:=Option.some.inj h; subst hs
      refine T_exit fun a w hm=>then_exit (then_exit (inBlock_exit (then_norm (hm.co (cs:=[.keep [2,3]]) (by show _=_; kernel_rfl)))))
  · skip
    refine fun a w hm=>then_norm (((?_:T Try.prog e 33 _ _ _) a w hm))
    refine T_reg [(0,{ frz:=[(3,3)] })] [2] [(2,.box [dI a0.f0,dI a0.f1,.d (.sl 1 (v6.map (cL 4 cS_FoldLeaf)))])] [] 2 (by kernel_rfl) (trivial) ?_
    obtain hs:=Option.some.inj h; subst hs
    refine T_ret fun a w hm=>T_returnC (fr':=[(2,.box [dI a0.f0,dI a0.f1,.d (.sl 1 (v6.map (cL 4 cS_FoldLeaf)))])]) (ts:=[33]) (N':=34) (fr2:=[(33,.agg (cS_fold_sheet (S_fold_sheet.mk a0.f0 a0.f1 v6)))]++[(2,.box [dI a0.f0,dI a0.f1,.d (.sl 1 (v6.map (cL 4 cS_FoldLeaf)))])]) [.keep [2]] (by kernel_rfl) (by kernel_rfl) (by kernel_rfl) (by kernel_rfl) (by show _=_; kernel_rfl) (by exact trivial) a w hm
theorem fold_across_ok {F:Nat} {a0:S_FoldStep} {r:Bool} (h:fold_across F a0=some r):ACall Try.prog 67 [.agg (cS_FoldStep a0)] [] (.d (.v (.bool r))) []:=by
  rw [fold_across] at h
  refine ACall.intro (N:=11) Try.func67 rfl rfl rfl rfl rfl fun e=>?_
  refine T_reg [] [1] [(1,bx_FoldStep a0)] [] 2 (by kernel_rfl) (trivial) ?_
  refine T_reg [] [2] [(2,dB (bif (a0.f0 == (0:Int)) then true else (a0.f0 == (1:Int))))] [(4,((((a0.f0 == (0:Int)) == false) && true)=true→True)),(0,((((a0.f0 == (0:Int)) == false) && true)=true→True)),(0,((((a0.f0 == (0:Int)) == false) && true)=true→True))] 2 (by kernel_rfl) (⟨(fun hg=>trivial),(fun hg=>trivial),(fun hg=>trivial)⟩) ?_
  obtain hs:=Option.some.inj h; subst hs
  refine T_ret fun a w hm=>T_return (fr':=[(2,dB (bif (a0.f0 == (0:Int)) then true else (a0.f0 == (1:Int))))]) [2] (by kernel_rfl) [.keep [2]] (by kernel_rfl) (by kernel_rfl) (by kernel_rfl) (by show _=_; kernel_rfl) (by exact trivial) a w hm
theorem fold_sheet_extent_ok {F:Nat} {a0:S_fold_sheet} {a1:S_FoldStep} {r:Int} (h:fold_sheet_extent F a0 a1=some r):ACall Try.prog 63 [.agg (cS_fold_sheet a0),.agg (cS_FoldStep a1)] [] (.d (.v (.int .i64 r))) []:=by
  rw [fold_sheet_extent] at h
  refine ACall.intro (N:=11) Try.func63 rfl rfl rfl rfl rfl fun e=>?_
  refine T_reg [] [2,3] [(2,bx_fold_sheet a0),(3,bx_FoldStep a1)] [] 3 (by kernel_rfl) (trivial) ?_
  refine T_seqk ?_
  obtain ⟨y1,hy1,h⟩:=call_ok h
  refine T_reg [(1,{ res:=dB y1 })] [2,6] [(6,dB y1)] [(1,ACall Try.prog 67 [.agg (cS_FoldStep a1)] [] (dB y1) [])] 0 (by kernel_rfl) (fold_across_ok hy1) ?_
  refine T_cond y1 (by kernel_rfl) (fun hc=>?_) (fun hc=>?_)
  · have h:=cond_tt hc h
    refine T_reg [] [4] [(4,dI a0.f0)] [] 3 (by kernel_rfl) (trivial) ?_
    obtain hs:=Option.some.inj h; subst hs
    refine T_ret fun a w hm=>then_ret (T_return (fr':=[(4,dI a0.f0)]) [4] (by kernel_rfl) [.keep [4]] (by kernel_rfl) (by kernel_rfl) (by kernel_rfl) (by show _=_; kernel_rfl) (by exact trivial) a w hm)
  · have h:=cond_ff hc h
    refine T_skip fun a w hm=>then_norm (((?_:T Try.prog e 11 _ _ _) a w hm))
    refine T_reg [] [4] [(4,dI a0.f1)] [] 3 (by kernel_rfl) (trivial) ?_
    obtain hs:=Option.some.inj h; subst hs
    refine T_ret fun a w hm=>T_return (fr':=[(4,dI a0.f1)]) [4] (by kernel_rfl) [.keep [4]] (by kernel_rfl) (by kernel_rfl) (by kernel_rfl) (by show _=_; kernel_rfl) (by exact trivial) a w hm
theorem fold_sheet_pile_ok {F:Nat} {a0:S_fold_sheet} {a1:Int} {a2:Int} {r:(List S_FoldLeaf)} (h:fold_sheet_pile F a0 a1 a2=some r):ACall Try.prog 68 [.agg (cS_fold_sheet a0),.d (.v (.int .i64 a1)),.d (.v (.int .i64 a2))] [] (.d (.sl 4 (r.map cS_FoldLeaf))) []:=by
  rw [fold_sheet_pile] at h
  refine ACall.intro (N:=35) Try.func68 rfl rfl rfl rfl rfl fun e=>?_
  refine T_reg [] [1,2,3] [(3,bx_fold_sheet a0)] [] 2 (by kernel_rfl) (trivial) ?_
  refine T_seqk ?_
  obtain ⟨z1,hz1,h⟩:=lett_ok h
  refine T_reg [(11,{ rw:=some (dB z1) })] [1,2,3,24] [(24,dB (bif z1 then true else (decide (a2 ≥ a0.f1))))] [(3,((((decide (a1 < (0:Int))) == false) && true)=true→True)),(0,((((decide (a1 < (0:Int))) == false) && true)=true→True)),(2,((((bif (decide (a1 < (0:Int))) then true else (decide (a2 < (0:Int)))) == false) && true)=true→True)),(0,((((bif (decide (a1 < (0:Int))) then true else (decide (a2 < (0:Int)))) == false) && true)=true→True)),(0,((((bif (decide (a1 < (0:Int))) then true else (decide (a2 < (0:Int)))) == false) && true)=true→True)),(0,((((bif (decide (a1 < (0:Int))) then true else (decide (a2 < (0:Int)))) == false) && true)=true→True)),(0,(True)∧dB (bif (bif (decide (a1 < (0:Int))) then true else (decide (a2 < (0:Int)))) then true else (decide (a1 ≥ a0.f0)))=dB z1),(1,(((z1 == false) && true)=true→True)),(0,(((z1 == false) && true)=true→True)),(0,(((z1 == false) && true)=true→True)),(0,(((z1 == false) && true)=true→True))] 1 (by kernel_rfl) (⟨(fun hg=>trivial),(fun hg=>trivial),(fun hg=>trivial),(fun hg=>trivial),(fun hg=>trivial),(fun hg=>trivial),⟨trivial,(by subst hz1; rfl)⟩,(fun hg=>trivial),(fun hg=>trivial),(fun hg=>trivial),(fun hg=>trivial)⟩) ?_
  refine T_cond (bif z1 then true else (decide (a2 ≥ a0.f1))) (by kernel_rfl) (fun hc=>?_) (fun hc=>?_)
  · have h:=cond_tt hc h
    refine T_reg [] [6] [(6,oW3 [])] [] 1 (by kernel_rfl) (trivial) ?_
    obtain hs:=Option.some.inj h; subst hs
    refine T_ret fun a w hm=>then_ret (T_return (fr':=[(6,.d (.sl 4 ([].map cS_FoldLeaf)))]) [6] (by kernel_rfl) [.thaw 6,.keep [6]] (by kernel_rfl) (by kernel_rfl) (by kernel_rfl) (by show _=_; kernel_rfl) (by exact trivial) a w hm)
  · have h:=cond_ff hc h
    refine T_skip fun a w hm=>then_norm (((?_:T Try.prog e 35 _ _ _) a w hm))
    obtain ⟨hp1,h⟩:=chk_ok h
    refine T_reg [(8,{ cs:=(cL 4 cS_FoldLeaf) (a0.f2.getD (IntKind.i64.wrap ((IntKind.i64.wrap (a2 * a0.f0))+a1)).toNat []) })] [6] [(6,.d (.sl 4 ((a0.f2.getD (IntKind.i64.wrap ((IntKind.i64.wrap (a2 * a0.f0))+a1)).toNat []).map cS_FoldLeaf)))] [(8,0≤(IntKind.i64.wrap ((IntKind.i64.wrap (a2 * a0.f0))+a1))∧(a0.f2.map (cL 4 cS_FoldLeaf))[(IntKind.i64.wrap ((IntKind.i64.wrap (a2 * a0.f0))+a1)).toNat]? = some ((cL 4 cS_FoldLeaf) (a0.f2.getD (IntKind.i64.wrap ((IntKind.i64.wrap (a2 * a0.f0))+a1)).toNat [])))] 2 (by kernel_rfl) (idx_ok (d:=[]) (cL 4 cS_FoldLeaf) hp1) ?_
    obtain hs:=Option.some.inj h; subst hs
    refine T_ret fun a w hm=>T_return (fr':=[(6,.d (.sl 4 ((a0.f2.getD (IntKind.i64.wrap ((IntKind.i64.wrap (a2 * a0.f0))+a1)).toNat []).map cS_FoldLeaf)))]) [6] (by kernel_rfl) [.keep [6]] (by kernel_rfl) (by kernel_rfl) (by kernel_rfl) (by show _=_; kernel_rfl) (by exact trivial) a w hm
theorem slices_Grow_FoldLeaf_ok {F:Nat} {a0:Int} {r:(List S_FoldLeaf)} (h:slices_Grow_FoldLeaf F a0=some r):ACall Try.prog 72 [.d (.v (.slice none 0 0)),.d (.v (.int .i64 a0))] [] (.own 108 4 (r.map cS_FoldLeaf)) []:=by
  rw [slices_Grow_FoldLeaf] at h
  refine ACall.intro (N:=27) Try.func72 rfl rfl rfl rfl rfl fun e=>?_
  refine T_reg [] [0,1] [] [] 1 (by kernel_rfl) (trivial) ?_
  refine T_seqk ?_
  refine T_reg [] [0,1,6] [(6,dB (decide (a0 < (0:Int))))] [] 2 (by kernel_rfl) (trivial) ?_
  refine T_cond (decide (a0 < (0:Int))) (by kernel_rfl) (fun hc=>?_) (fun hc=>?_)
  · have h:=cond_tt hc h
    cases h
  · have h:=cond_ff hc h
    refine T_skip fun a w hm=>then_norm (((?_:T Try.prog e 27 _ _ _) a w hm))
    refine T_joinc h (fun (p:(List S_FoldLeaf))=>[(0,oW3 p)]) (fun s h=>?_) (fun v1 h=>?_)
    · refine T_reg [] [0,1] [(1,dI (IntKind.i64.wrap (a0 - (IntKind.i64.wrap ((0:Int) - (([]:List Int).length:Int))))))] [] 8 (by kernel_rfl) (trivial) ?_
      obtain ⟨z1,hz1,h⟩:=lett_ok h
      refine T_reg [(1,{ rw:=some (dB z1) })] [0,1,16] [(16,dB z1)] [(1,(True)∧dB (decide ((IntKind.i64.wrap (a0 - (IntKind.i64.wrap ((0:Int) - (([]:List Int).length:Int))))) > (0:Int)))=dB z1)] 0 (by kernel_rfl) (⟨trivial,(by subst hz1; rfl)⟩) ?_
      refine T_cond z1 (by kernel_rfl) (fun hc=>?_) (fun hc=>?_)
      · have h:=cond_tt hc h
        obtain ⟨hp1,h⟩:=chk_ok h
        obtain ⟨hp2,h⟩:=chk_ok h
        obtain ⟨l1,hl1,h⟩:=lett_ok h
        obtain ⟨hp3,h⟩:=chk_ok h
        obtain hs:=Option.some.inj h; subst hs
        refine T_reg_end [(5,{ es:=some (l1.map cS_FoldLeaf) }),(8,{ take:=[0],es:=some ((l1.take (([]:List Int).length:Int).toNat).map cS_FoldLeaf) })] [0] [(0,.own 108 4 ((l1.take (([]:List Int).length:Int).toNat).map cS_FoldLeaf))] [(3,0≤(0:Int)∧(0:Int)≤(0:Int)∧(0:Int)≤0),(1,(0 < (IntKind.i64.wrap (a0 - (IntKind.i64.wrap ((0:Int) - (([]:List Int).length:Int)))))∧(IntKind.i64.wrap (a0 - (IntKind.i64.wrap ((0:Int) - (([]:List Int).length:Int)))))≤4294967296)∧List.replicate (IntKind.i64.wrap (a0 - (IntKind.i64.wrap ((0:Int) - (([]:List Int).length:Int))))).toNat (cS_FoldLeaf z_FoldLeaf)=(l1.map cS_FoldLeaf)),(2,(0≤(([]:List Int).length:Int)∧(([]:List Int).length:Int)≤((l1.map cS_FoldLeaf).length:Int))∧(l1.map cS_FoldLeaf).take (([]:List Int).length:Int).toNat=((l1.take (([]:List Int).length:Int).toNat).map cS_FoldLeaf))] 1 (by kernel_rfl) (⟨hp1,and_trans (⟨hp2,repl_ok cS_FoldLeaf rfl⟩) (by subst hl1; rfl),take_ok cS_FoldLeaf hp3⟩) fun a w hm=>then_norm (hm.co (cs:=[.keep [0]]) (by show _=_; kernel_rfl))
      · have h:=cond_ff hc h
        obtain hs:=Option.some.inj h; subst hs
        refine T_skip fun a w hm=>then_norm (hm.co (cs:=[.nil 0 108 4,.keep [0]]) (by show _=_; kernel_rfl))
    · skip
      refine T_reg [] [0,4] [(4,.vw (0,0))] [] 2 (by kernel_rfl) (trivial) ?_
      obtain hs:=Option.some.inj h; subst hs
      refine T_ret fun a w hm=>T_return (fr':=[(4,oW3 v1)]) [4] (by kernel_rfl) [.claim 4,.keep [4]] (by kernel_rfl) (by kernel_rfl) (by kernel_rfl) (by show _=_; kernel_rfl) (by exact trivial) a w hm
theorem slices_Concat_FoldLeaf_ok {F:Nat} {a0:List (List S_FoldLeaf)} {r:(List S_FoldLeaf)} (h:slices_Concat_FoldLeaf F a0=some r):ACall Try.prog 70 [.d (.sl 1 (a0.map (cL 4 cS_FoldLeaf)))] [] (.own 108 4 (r.map cS_FoldLeaf)) []:=by
  rw [slices_Concat_FoldLeaf] at h
  refine ACall.intro (N:=36) Try.func70 rfl rfl rfl rfl rfl fun e=>?_
  refine T_reg [] [0] [] [] 1 (by kernel_rfl) (trivial) ?_
  refine T_reg [] [0,3] [(3,dI (0:Int))] [] 1 (by kernel_rfl) (trivial) ?_
  refine T_seqk ?_
  refine T_reg [(1,{ rw:=some (dI (a0.length:Int)) })] [0,3,9,10,11] [(9,.d (.sl 1 (a0.map (cL 4 cS_FoldLeaf)))),(10,dI (a0.length:Int)),(11,dI (0:Int))] [(1,True∧dI ((a0.map (cL 4 cS_FoldLeaf)).length:Int)=dI (a0.length:Int))] 1 (by kernel_rfl) (len_ok (cL 4 cS_FoldLeaf)) ?_
  refine T_joinct h (fun (p:Int)=>[(0,.d (.sl 1 (a0.map (cL 4 cS_FoldLeaf)))),(3,dI p)]) (fun s h=>?_) (fun v5 h=>?_)
  · refine T_co [.keep [0,3,9,10,11]] ((fun (p:Int×Int)=>[(0,.d (.sl 1 (a0.map (cL 4 cS_FoldLeaf)))),(3,dI p.1),(9,.d (.sl 1 (a0.map (cL 4 cS_FoldLeaf)))),(10,dI (a0.length:Int)),(11,dI p.2)]) ((0:Int),(0:Int))) (by show _=_; kernel_rfl) ?_
    refine T_block ?_
    refine T_loopF (ι:=Int×Int) (fun (p:Int×Int)=>[(0,.d (.sl 1 (a0.map (cL 4 cS_FoldLeaf)))),(3,dI p.1),(9,.d (.sl 1 (a0.map (cL 4 cS_FoldLeaf)))),(10,dI (a0.length:Int)),(11,dI p.2)]) (fun n p=>slices_Concat_FoldLeaf_L0 F a0 n p.1 p.2=some s) (fun i hh=>by simp [slices_Concat_FoldLeaf_L0] at hh) (fun n p h=>?_) F ((0:Int),(0:Int)) h
    obtain ⟨v1,v2⟩:=p
    have h:slices_Concat_FoldLeaf_L0 F a0 (n+1) v1 v2=some s:=h
    rw [slices_Concat_FoldLeaf_L0] at h
    refine T_reg [] [0,3,9,10,11,12] [(12,dB (decide (v2 < (a0.length:Int))))] [] 1 (by kernel_rfl) (trivial) ?_
    refine T_seqk ?_
    refine T_cond (decide (v2 < (a0.length:Int))) (by kernel_rfl) (fun hc=>?_) (fun hc=>?_)
    · have h:=cond_tt hc h
      refine T_skip fun a w hm=>then_norm (((?_:T Try.prog e 36 _ _ _) a w hm))
      refine T_seqk ?_
      refine T_block ?_
      obtain ⟨hp1,h⟩:=chk_ok h
      refine T_reg [(0,{ cs:=(cL 4 cS_FoldLeaf) (a0.getD v2.toNat []) })] [0,3,5,9,10,11] [(5,.d (.sl 4 ((a0.getD v2.toNat []).map cS_FoldLeaf)))] [(0,0≤v2∧(a0.map (cL 4 cS_FoldLeaf))[v2.toNat]? = some ((cL 4 cS_FoldLeaf) (a0.getD v2.toNat [])))] 2 (by kernel_rfl) (idx_ok (d:=[]) (cL 4 cS_FoldLeaf) hp1) ?_
      refine T_reg [(2,{ rw:=some (dI ((a0.getD v2.toNat []).length:Int)) })] [0,3,9,10,11] [(3,dI (IntKind.i64.wrap (v1+((a0.getD v2.toNat []).length:Int))))] [(2,True∧dI (((a0.getD v2.toNat []).map cS_FoldLeaf).length:Int)=dI ((a0.getD v2.toNat []).length:Int))] 2 (by kernel_rfl) (len_ok cS_FoldLeaf) ?_
      refine T_reg [] [0,3,9,10,11,20] [(20,dB (decide ((IntKind.i64.wrap (v1+((a0.getD v2.toNat []).length:Int))) < (0:Int))))] [] 2 (by kernel_rfl) (trivial) ?_
      refine T_cond (decide ((IntKind.i64.wrap (v1+((a0.getD v2.toNat []).length:Int))) < (0:Int))) (by kernel_rfl) (fun hc=>?_) (fun hc=>?_)
      · have h:=cond_tt hc h
        cases h
      · have h:=cond_ff hc h
        refine T_skip fun a w hm=>inBlock_norm (then_norm (((?_:T Try.prog e 36 _ _ _) a w hm)))
        refine T_reg_end [] [0,3,9,10,11] [(11,dI (IntKind.i64.wrap (v2+(1:Int))))] [] 2 (by kernel_rfl) (trivial) fun a w hm=>then_norm (⟨(IntKind.i64.wrap (v1+((a0.getD v2.toNat []).length:Int)),IntKind.i64.wrap (v2+(1:Int))),h,hm.co (cs:=[.keep [0,3,9,10,11]]) (by show _=_; kernel_rfl)⟩)
    · have h:=cond_ff hc h
      obtain hs:=Option.some.inj h; subst hs
      refine T_exit fun a w hm=>then_exit (then_exit (inBlock_exit (then_norm (hm.co (cs:=[.keep [0,3]]) (by show _=_; kernel_rfl)))))
  · skip
    refine fun a w hm=>then_norm (((?_:T Try.prog e 36 _ _ _) a w hm))
    obtain ⟨y1,hy1,h⟩:=call_ok h
    refine T_reg [(1,{ res:=oW3 y1 })] [0,6] [(6,oW3 y1)] [(1,ACall Try.prog 72 [.d (.v (.slice none 0 0)),dI v5] [] (oW3 y1) [])] 1 (by kernel_rfl) (slices_Grow_FoldLeaf_ok hy1) ?_
    refine T_seqk ?_
    refine T_reg [(1,{ rw:=some (dI (a0.length:Int)) })] [6,25,26,27] [(25,.d (.sl 1 (a0.map (cL 4 cS_FoldLeaf)))),(26,dI (a0.length:Int)),(27,dI (0:Int))] [(1,True∧dI ((a0.map (cL 4 cS_FoldLeaf)).length:Int)=dI (a0.length:Int))] 1 (by kernel_rfl) (len_ok (cL 4 cS_FoldLeaf)) ?_
    refine T_joinct h (fun (p:(List S_FoldLeaf))=>[(6,oW3 p)]) (fun s h=>?_) (fun v6 h=>?_)
    · refine T_co [.keep [6,25,26,27]] ((fun (p:(List S_FoldLeaf)×Int)=>[(6,oW3 p.1),(25,.d (.sl 1 (a0.map (cL 4 cS_FoldLeaf)))),(26,dI (a0.length:Int)),(27,dI p.2)]) (y1,(0:Int))) (by show _=_; kernel_rfl) ?_
      refine T_block ?_
      refine T_loopF (ι:=(List S_FoldLeaf)×Int) (fun (p:(List S_FoldLeaf)×Int)=>[(6,oW3 p.1),(25,.d (.sl 1 (a0.map (cL 4 cS_FoldLeaf)))),(26,dI (a0.length:Int)),(27,dI p.2)]) (fun n p=>slices_Concat_FoldLeaf_L2 F a0 n p.1 p.2=some s) (fun i hh=>by simp [slices_Concat_FoldLeaf_L2] at hh) (fun n p h=>?_) F (y1,(0:Int)) h
      obtain ⟨v3,v4⟩:=p
      have h:slices_Concat_FoldLeaf_L2 F a0 (n+1) v3 v4=some s:=h
      rw [slices_Concat_FoldLeaf_L2] at h
      refine T_reg [] [6,25,26,27,28] [(28,dB (decide (v4 < (a0.length:Int))))] [] 1 (by kernel_rfl) (trivial) ?_
      refine T_seqk ?_
      refine T_cond (decide (v4 < (a0.length:Int))) (by kernel_rfl) (fun hc=>?_) (fun hc=>?_)
      · have h:=cond_tt hc h
        refine T_skip fun a w hm=>then_norm (((?_:T Try.prog e 36 _ _ _) a w hm))
        refine T_seqk ?_
        refine T_block ?_
        obtain ⟨hp2,h⟩:=chk_ok h
        refine T_reg [(0,{ cs:=(cL 4 cS_FoldLeaf) (a0.getD v4.toNat []) })] [6,8,25,26,27] [(8,.d (.sl 4 ((a0.getD v4.toNat []).map cS_FoldLeaf)))] [(0,0≤v4∧(a0.map (cL 4 cS_FoldLeaf))[v4.toNat]? = some ((cL 4 cS_FoldLeaf) (a0.getD v4.toNat [])))] 2 (by kernel_rfl) (idx_ok (d:=[]) (cL 4 cS_FoldLeaf) hp2) ?_
        obtain ⟨hp3,h⟩:=chk_ok h
        refine T_reg_end [(2,{ es:=some ((v3++(a0.getD v4.toNat [])).map cS_FoldLeaf) })] [6,25,26,27] [(6,.own 108 4 ((v3++(a0.getD v4.toNat [])).map cS_FoldLeaf))] [(2,(v3.map cS_FoldLeaf).length+((a0.getD v4.toNat []).map cS_FoldLeaf).length≤4294967296∧(v3.map cS_FoldLeaf)++((a0.getD v4.toNat []).map cS_FoldLeaf)=((v3++(a0.getD v4.toNat [])).map cS_FoldLeaf))] 1 (by kernel_rfl) (app_ok cS_FoldLeaf hp3) fun a w hm=>inBlock_norm (then_norm (((?_:T Try.prog e 36 _ _ _) a w hm)))
        refine T_reg_end [] [6,25,26,27] [(27,dI (IntKind.i64.wrap (v4+(1:Int))))] [] 2 (by kernel_rfl) (trivial) fun a w hm=>then_norm (⟨((v3++(a0.getD v4.toNat [])),IntKind.i64.wrap (v4+(1:Int))),h,hm.co (cs:=[.keep [6,25,26,27]]) (by show _=_; kernel_rfl)⟩)
      · have h:=cond_ff hc h
        obtain hs:=Option.some.inj h; subst hs
        refine T_exit fun a w hm=>then_exit (then_exit (inBlock_exit (then_norm (hm.co (cs:=[.keep [6]]) (by show _=_; kernel_rfl)))))
    · skip
      refine fun a w hm=>then_norm (((?_:T Try.prog e 36 _ _ _) a w hm))
      refine T_reg [] [2,6] [(2,.vw (6,0))] [] 2 (by kernel_rfl) (trivial) ?_
      obtain hs:=Option.some.inj h; subst hs
      refine T_ret fun a w hm=>T_return (fr':=[(2,oW3 v6)]) [2] (by kernel_rfl) [.claim 2,.keep [2]] (by kernel_rfl) (by kernel_rfl) (by kernel_rfl) (by show _=_; kernel_rfl) (by exact trivial) a w hm
theorem fold_sheet_fold_ok {F:Nat} {a0:S_fold_sheet} {a1:S_FoldStep} {r:S_fold_sheet} (h:fold_sheet_fold F a0 a1=some r):ACall Try.prog 64 [.agg (cS_fold_sheet a0),.agg (cS_FoldStep a1)] [] (.agg (cS_fold_sheet r)) []:=by
  rw [fold_sheet_fold] at h
  refine ACall.intro (N:=117) Try.func64 rfl rfl rfl rfl rfl fun e=>?_
  refine T_reg [] [2,3,4] [(2,bx_fold_sheet a0),(3,bx_FoldStep a1),(4,.box [dI 0,dI 0,oW2 []])] [] 3 (by kernel_rfl) (trivial) ?_
  obtain ⟨y1,hy1,h⟩:=call_ok h
  refine T_reg [(2,{ res:=dI y1 })] [2,3,4,5] [(5,dI y1)] [(2,ACall Try.prog 63 [.agg (cS_fold_sheet a0),.agg (cS_FoldStep a1)] [] (dI y1) [])] 1 (by kernel_rfl) (fold_sheet_extent_ok hy1) ?_
  refine T_reg [] [2,3,4,6] [(6,dI (if a1.f1 < (IntKind.i64.wrap (y1 - a1.f1)) then (IntKind.i64.wrap (y1 - a1.f1)) else a1.f1))] [] 8 (by kernel_rfl) (trivial) ?_
  refine T_region [(4,{ take:=[0] })] [2,3,4,6,7] [.nilc 7 2 104 1,.keep [2,3,4,6,7]] [(2,bx_fold_sheet a0),(3,bx_FoldStep a1),(4,.box [dI 0,dI 0,oW2 []]),(6,dI (if a1.f1 < (IntKind.i64.wrap (y1 - a1.f1)) then (IntKind.i64.wrap (y1 - a1.f1)) else a1.f1)),(7,.box [dI a0.f0,dI a0.f1,oW2 []])] [] 7 (by kernel_rfl) (trivial) ?_
  refine T_joinc h (fun (p:Int×Int)=>[(2,bx_fold_sheet a0),(3,bx_FoldStep a1),(4,.box [dI 0,dI 0,oW2 []]),(6,dI (if a1.f1 < (IntKind.i64.wrap (y1 - a1.f1)) then (IntKind.i64.wrap (y1 - a1.f1)) else a1.f1)),(7,.box [dI p.1,dI p.2,oW2 []])]) (fun s h=>?_) (fun s h=>?_)
  · obtain ⟨y11,hy2,h⟩:=call_ok h
    refine T_reg [(1,{ res:=dB y11 })] [2,3,4,6,7,32] [(32,dB y11)] [(1,ACall Try.prog 67 [.agg (cS_FoldStep a1)] [] (dB y11) [])] 0 (by kernel_rfl) (fold_across_ok hy2) ?_
    refine T_cond y11 (by kernel_rfl) (fun hc=>?_) (fun hc=>?_)
    · have h:=cond_tt hc h
      obtain hs:=Option.some.inj h; subst hs
      refine T_reg_end [] [2,3,4,6,7] [(7,.box [dI (if a1.f1 < (IntKind.i64.wrap (y1 - a1.f1)) then (IntKind.i64.wrap (y1 - a1.f1)) else a1.f1),dI a0.f1,oW2 []])] [] 3 (by kernel_rfl) (trivial) fun a w hm=>then_norm (hm.co (cs:=[.keep [2,3,4,6,7]]) (by show _=_; kernel_rfl))
    · have h:=cond_ff hc h
      obtain hs:=Option.some.inj h; subst hs
      refine T_reg_end [] [2,3,4,6,7] [(7,.box [dI a0.f0,dI (if a1.f1 < (IntKind.i64.wrap (y1 - a1.f1)) then (IntKind.i64.wrap (y1 - a1.f1)) else a1.f1),oW2 []])] [] 3 (by kernel_rfl) (trivial) fun a w hm=>then_norm (hm.co (cs:=[.keep [2,3,4,6,7]]) (by show _=_; kernel_rfl))
  · obtain ⟨v1,v13⟩:=s
    try dsimp only at h
    refine T_reg [] [2,3,4,6,7,8] [(8,dB (bif (a1.f0 == (0:Int)) then true else (a1.f0 == (2:Int))))] [(4,((((a1.f0 == (0:Int)) == false) && true)=true→True)),(0,((((a1.f0 == (0:Int)) == false) && true)=true→True)),(0,((((a1.f0 == (0:Int)) == false) && true)=true→True))] 2 (by kernel_rfl) (⟨(fun hg=>trivial),(fun hg=>trivial),(fun hg=>trivial)⟩) ?_
    refine T_seqk ?_
    refine T_reg [] [2,3,4,6,7,8,46,47] [(46,dI v13),(47,dI (0:Int))] [] 3 (by kernel_rfl) (trivial) ?_
    refine T_joinct h (fun (p:(List (List S_FoldLeaf)))=>[(4,.box [dI 0,dI 0,oW2 []]),(7,.box [dI v1,dI v13,oW2 p])]) (fun s h=>?_) (fun v16 h=>?_)
    · refine T_co [.keep [2,3,4,6,7,8,46,47]] ((fun (p:(List (List S_FoldLeaf))×Int)=>[(2,bx_fold_sheet a0),(3,bx_FoldStep a1),(4,.box [dI 0,dI 0,oW2 []]),(6,dI (if a1.f1 < (IntKind.i64.wrap (y1 - a1.f1)) then (IntKind.i64.wrap (y1 - a1.f1)) else a1.f1)),(7,.box [dI v1,dI v13,oW2 p.1]),(8,dB (bif (a1.f0 == (0:Int)) then true else (a1.f0 == (2:Int)))),(46,dI v13),(47,dI p.2)]) ([],(0:Int))) (by show _=_; kernel_rfl) ?_
      refine T_block ?_
      refine T_loopF (ι:=(List (List S_FoldLeaf))×Int) (fun (p:(List (List S_FoldLeaf))×Int)=>[(2,bx_fold_sheet a0),(3,bx_FoldStep a1),(4,.box [dI 0,dI 0,oW2 []]),(6,dI (if a1.f1 < (IntKind.i64.wrap (y1 - a1.f1)) then (IntKind.i64.wrap (y1 - a1.f1)) else a1.f1)),(7,.box [dI v1,dI v13,oW2 p.1]),(8,dB (bif (a1.f0 == (0:Int)) then true else (a1.f0 == (2:Int)))),(46,dI v13),(47,dI p.2)]) (fun n p=>fold_sheet_fold_L0 F a0 a1 y1 v1 v13 n p.1 p.2=some s) (fun i hh=>by simp [fold_sheet_fold_L0] at hh) (fun n p h=>?_) F ([],(0:Int)) h
      obtain ⟨v14,v2⟩:=p
      have h:fold_sheet_fold_L0 F a0 a1 y1 v1 v13 (n+1) v14 v2=some s:=h
      rw [fold_sheet_fold_L0] at h
      refine T_reg [] [2,3,4,6,7,8,46,47,48] [(48,dB (decide (v2 < v13)))] [] 1 (by kernel_rfl) (trivial) ?_
      refine T_seqk ?_
      refine T_cond (decide (v2 < v13)) (by kernel_rfl) (fun hc=>?_) (fun hc=>?_)
      · have h:=cond_tt hc h
        refine T_skip fun a w hm=>then_norm (((?_:T Try.prog e 117 _ _ _) a w hm))
        refine T_seqk ?_
        refine T_block ?_
        refine T_reg [] [2,3,4,6,7,8,9,46,47] [(9,dI v2)] [] 2 (by kernel_rfl) (trivial) ?_
        refine T_reg [] [2,3,4,6,7,8,9,46,47,51,52] [(51,dI v1),(52,dI (0:Int))] [] 3 (by kernel_rfl) (trivial) ?_
        refine T_joinct h (fun (p:(List (List S_FoldLeaf)))=>[(2,bx_fold_sheet a0),(3,bx_FoldStep a1),(4,.box [dI 0,dI 0,oW2 []]),(6,dI (if a1.f1 < (IntKind.i64.wrap (y1 - a1.f1)) then (IntKind.i64.wrap (y1 - a1.f1)) else a1.f1)),(7,.box [dI v1,dI v13,oW2 p]),(8,dB (bif (a1.f0 == (0:Int)) then true else (a1.f0 == (2:Int)))),(46,dI v13),(47,dI v2)]) (fun s h=>?_) (fun v15 h=>?_)
        · refine T_co [.keep [2,3,4,6,7,8,9,46,47,51,52]] ((fun (p:(List (List S_FoldLeaf))×Int)=>[(2,bx_fold_sheet a0),(3,bx_FoldStep a1),(4,.box [dI 0,dI 0,oW2 []]),(6,dI (if a1.f1 < (IntKind.i64.wrap (y1 - a1.f1)) then (IntKind.i64.wrap (y1 - a1.f1)) else a1.f1)),(7,.box [dI v1,dI v13,oW2 p.1]),(8,dB (bif (a1.f0 == (0:Int)) then true else (a1.f0 == (2:Int)))),(9,dI v2),(46,dI v13),(47,dI v2),(51,dI v1),(52,dI p.2)]) (v14,(0:Int))) (by show _=_; kernel_rfl) ?_
          refine T_block ?_
          refine T_loopF (ι:=(List (List S_FoldLeaf))×Int) (fun (p:(List (List S_FoldLeaf))×Int)=>[(2,bx_fold_sheet a0),(3,bx_FoldStep a1),(4,.box [dI 0,dI 0,oW2 []]),(6,dI (if a1.f1 < (IntKind.i64.wrap (y1 - a1.f1)) then (IntKind.i64.wrap (y1 - a1.f1)) else a1.f1)),(7,.box [dI v1,dI v13,oW2 p.1]),(8,dB (bif (a1.f0 == (0:Int)) then true else (a1.f0 == (2:Int)))),(9,dI v2),(46,dI v13),(47,dI v2),(51,dI v1),(52,dI p.2)]) (fun n p=>fold_sheet_fold_L2 F a0 a1 y1 v1 v2 n p.1 p.2=some s) (fun i hh=>by simp [fold_sheet_fold_L2] at hh) (fun n p h=>?_) F (v14,(0:Int)) h
          obtain ⟨v3,v4⟩:=p
          have h:fold_sheet_fold_L2 F a0 a1 y1 v1 v2 (n+1) v3 v4=some s:=h
          rw [fold_sheet_fold_L2] at h
          refine T_reg [] [2,3,4,6,7,8,9,46,47,51,52,53] [(53,dB (decide (v4 < v1)))] [] 1 (by kernel_rfl) (trivial) ?_
          refine T_seqk ?_
          refine T_cond (decide (v4 < v1)) (by kernel_rfl) (fun hc=>?_) (fun hc=>?_)
          · have h:=cond_tt hc h
            refine T_skip fun a w hm=>then_norm (((?_:T Try.prog e 117 _ _ _) a w hm))
            refine T_seqk ?_
            refine T_block ?_
            refine T_reg [] [2,3,4,6,7,8,9,10,46,47,51,52] [(10,dI v4)] [] 2 (by kernel_rfl) (trivial) ?_
            refine T_reg [] [2,3,4,6,7,8,9,10,11,46,47,51,52] [(11,dI v2)] [] 2 (by kernel_rfl) (trivial) ?_
            refine T_joinc h (fun (p:Int)=>[(2,bx_fold_sheet a0),(3,bx_FoldStep a1),(4,.box [dI 0,dI 0,oW2 []]),(6,dI (if a1.f1 < (IntKind.i64.wrap (y1 - a1.f1)) then (IntKind.i64.wrap (y1 - a1.f1)) else a1.f1)),(7,.box [dI v1,dI v13,oW2 v3]),(8,dB (bif (a1.f0 == (0:Int)) then true else (a1.f0 == (2:Int)))),(9,dI v2),(10,dI v4),(11,dI p),(46,dI v13),(47,dI v2),(51,dI v1),(52,dI v4)]) (fun s h=>?_) (fun v5 h=>?_)
            · obtain ⟨y2,hy3,h⟩:=call_ok h
              refine T_reg [(1,{ res:=dB y2 })] [2,3,4,6,7,8,9,10,11,46,47,51,52,57] [(57,dB y2)] [(1,ACall Try.prog 67 [.agg (cS_FoldStep a1)] [] (dB y2) [])] 0 (by kernel_rfl) (fold_across_ok hy3) ?_
              refine T_cond y2 (by kernel_rfl) (fun hc=>?_) (fun hc=>?_)
              · have h:=cond_tt hc h
                obtain hs:=Option.some.inj h; subst hs
                refine T_reg_end [] [2,3,4,6,7,8,9,10,11,46,47,51,52] [(11,dI v4)] [] 2 (by kernel_rfl) (trivial) fun a w hm=>then_norm (hm.co (cs:=[.keep [2,3,4,6,7,8,9,10,11,46,47,51,52]]) (by show _=_; kernel_rfl))
              · have h:=cond_ff hc h
                obtain hs:=Option.some.inj h; subst hs
                refine T_skip fun a w hm=>then_norm (hm.co (cs:=[.keep [2,3,4,6,7,8,9,10,11,46,47,51,52]]) (by show _=_; kernel_rfl))
            · skip
              refine T_joinc h (fun (p:Int)=>[(2,bx_fold_sheet a0),(3,bx_FoldStep a1),(4,.box [dI 0,dI 0,oW2 []]),(6,dI (if a1.f1 < (IntKind.i64.wrap (y1 - a1.f1)) then (IntKind.i64.wrap (y1 - a1.f1)) else a1.f1)),(7,.box [dI v1,dI v13,oW2 v3]),(8,dB (bif (a1.f0 == (0:Int)) then true else (a1.f0 == (2:Int)))),(9,dI v2),(10,dI v4),(11,dI p),(46,dI v13),(47,dI v2),(51,dI v1),(52,dI v4)]) (fun s h=>?_) (fun v6 h=>?_)
              · refine T_reg [] [2,3,4,6,7,8,9,10,11,46,47,51,52,60] [(60,dB (!(bif (a1.f0 == (0:Int)) then true else (a1.f0 == (2:Int)))))] [] 2 (by kernel_rfl) (trivial) ?_
                refine T_cond (!(bif (a1.f0 == (0:Int)) then true else (a1.f0 == (2:Int)))) (by kernel_rfl) (fun hc=>?_) (fun hc=>?_)
                · have h:=cond_tt hc h
                  obtain ⟨z1,hz1,h⟩:=lett_ok h
                  obtain hs:=Option.some.inj h; subst hs
                  refine T_reg_end [(1,{ rw:=some (dI z1) })] [2,3,4,6,7,8,9,10,11,46,47,51,52] [(11,dI (IntKind.i64.wrap (z1 - v5)))] [(1,(True)∧dI (IntKind.i64.wrap ((if a1.f1 < (IntKind.i64.wrap (y1 - a1.f1)) then (IntKind.i64.wrap (y1 - a1.f1)) else a1.f1) - (1:Int)))=dI z1)] 3 (by kernel_rfl) (⟨trivial,(by subst hz1; rfl)⟩) fun a w hm=>then_norm (hm.co (cs:=[.keep [2,3,4,6,7,8,9,10,11,46,47,51,52]]) (by show _=_; kernel_rfl))
                · have h:=cond_ff hc h
                  obtain hs:=Option.some.inj h; subst hs
                  refine T_skip fun a w hm=>then_norm (hm.co (cs:=[.keep [2,3,4,6,7,8,9,10,11,46,47,51,52]]) (by show _=_; kernel_rfl))
              · skip
                refine T_draw mixed [] [2,3,4,6,7,8,9,10,12,13,46,47,51,52] [] [(2,bx_fold_sheet a0),(3,bx_FoldStep a1),(4,.box [dI 0,dI 0,oW2 []]),(6,dI (if a1.f1 < (IntKind.i64.wrap (y1 - a1.f1)) then (IntKind.i64.wrap (y1 - a1.f1)) else a1.f1)),(7,.box [dI v1,dI v13,oW2 v3]),(8,dB (bif (a1.f0 == (0:Int)) then true else (a1.f0 == (2:Int)))),(9,dI v2),(10,dI v4),(12,dI (IntKind.i64.wrap ((IntKind.i64.wrap (a1.f1 - (1:Int))) - v6))),(13,dI (IntKind.i64.wrap (a1.f1+v6))),(46,dI v13),(47,dI v2),(51,dI v1),(52,dI v4)] [] 11 (by kernel_rfl) (trivial) ?_
                refine T_joinc h (fun (p:Int×Int)=>[(2,bx_fold_sheet a0),(3,bx_FoldStep a1),(4,.box [dI 0,dI 0,oW2 []]),(6,dI (if a1.f1 < (IntKind.i64.wrap (y1 - a1.f1)) then (IntKind.i64.wrap (y1 - a1.f1)) else a1.f1)),(7,.box [dI v1,dI v13,oW2 v3]),(8,dB (bif (a1.f0 == (0:Int)) then true else (a1.f0 == (2:Int)))),(9,dI v2),(10,dI v4),(12,dI p.1),(13,dI p.2),(46,dI v13),(47,dI v2),(51,dI v1),(52,dI v4)]) (fun s h=>?_) (fun s h=>?_)
                · refine T_reg [] [2,3,4,6,7,8,9,10,12,13,46,47,51,52,75] [(75,dB (!(bif (a1.f0 == (0:Int)) then true else (a1.f0 == (2:Int)))))] [] 2 (by kernel_rfl) (trivial) ?_
                  refine T_cond (!(bif (a1.f0 == (0:Int)) then true else (a1.f0 == (2:Int)))) (by kernel_rfl) (fun hc=>?_) (fun hc=>?_)
                  · have h:=cond_tt hc h
                    obtain hs:=Option.some.inj h; subst hs
                    refine T_reg_end [] [2,3,4,6,7,8,9,10,12,13,46,47,51,52] [(12,dI (IntKind.i64.wrap (a1.f1+v6))),(13,dI (IntKind.i64.wrap ((IntKind.i64.wrap (a1.f1 - (1:Int))) - v6)))] [] 4 (by kernel_rfl) (trivial) fun a w hm=>then_norm (hm.co (cs:=[.keep [2,3,4,6,7,8,9,10,12,13,46,47,51,52]]) (by show _=_; kernel_rfl))
                  · have h:=cond_ff hc h
                    obtain hs:=Option.some.inj h; subst hs
                    refine T_skip fun a w hm=>then_norm (hm.co (cs:=[.keep [2,3,4,6,7,8,9,10,12,13,46,47,51,52]]) (by show _=_; kernel_rfl))
                · obtain ⟨v7,v8⟩:=s
                  try dsimp only at h
                  obtain ⟨y3,hy4,h⟩:=call_ok h
                  obtain ⟨y4,hy5,h⟩:=call_ok h
                  refine T_drawX mixed 3 (.take 1 (.take 2 (.take 5 (.take 6 (.all (.alt 0 (.all (.alt 3 (.all (.alt 4 (.all (.alt 7 (.take 8 (.take 9 .done)) .stop)) .stop)) (.alt 4 (.all (.alt 3 (.all (.alt 7 (.take 8 (.take 9 .done)) .stop)) .stop)) .stop))) (.alt 4 (.all (.alt 0 (.all (.alt 3 (.all (.alt 7 (.take 8 (.take 9 .done)) .stop)) .stop)) .stop)) .stop))))))) ([0,0,0,7,0,0,0,120,143,511],[0,0,0,7,0,0,0,112,8,128]) 870 [(3,{ res:=.d (.sl 4 (y3.map cS_FoldLeaf)) }),(7,{ res:=.d (.sl 4 (y4.map cS_FoldLeaf)) })] [2,3,4,6,7,8,9,12,13,14,15,46,47,51,52] [] [(2,bx_fold_sheet a0),(3,bx_FoldStep a1),(4,.box [dI 0,dI 0,oW2 []]),(6,dI (if a1.f1 < (IntKind.i64.wrap (y1 - a1.f1)) then (IntKind.i64.wrap (y1 - a1.f1)) else a1.f1)),(7,.box [dI v1,dI v13,oW2 v3]),(8,dB (bif (a1.f0 == (0:Int)) then true else (a1.f0 == (2:Int)))),(9,dI v2),(12,dI v7),(13,dI v8),(14,.d (.sl 4 (y3.map cS_FoldLeaf))),(15,.d (.sl 4 (y4.map cS_FoldLeaf))),(46,dI v13),(47,dI v2),(51,dI v1),(52,dI v4)] ((fun (o3:Prop)=>fun (o7:Prop)=>[(5,o3),(1,o7),(3,o3),(0,o7),(4,o3),(0,o7)]) (ACall Try.prog 68 [.agg (cS_fold_sheet a0),dI v4,dI v7] [] (.d (.sl 4 (y3.map cS_FoldLeaf))) []) (ACall Try.prog 68 [.agg (cS_fold_sheet a0),dI v4,dI v8] [] (.d (.sl 4 (y4.map cS_FoldLeaf))) [])) 2 (by kernel_rfl) (by kernel_rfl) (by kernel_rfl) (have p3:=fold_sheet_pile_ok hy4; have p7:=fold_sheet_pile_ok hy5; ⟨p3,p7,p3,p7,p3,p7⟩) ?_
                  refine T_joinc h (fun (p:(List S_FoldLeaf)×(List S_FoldLeaf))=>[(2,bx_fold_sheet a0),(3,bx_FoldStep a1),(4,.box [dI 0,dI 0,oW2 []]),(6,dI (if a1.f1 < (IntKind.i64.wrap (y1 - a1.f1)) then (IntKind.i64.wrap (y1 - a1.f1)) else a1.f1)),(7,.box [dI v1,dI v13,oW2 v3]),(8,dB (bif (a1.f0 == (0:Int)) then true else (a1.f0 == (2:Int)))),(9,dI v2),(14,.d (.sl 4 (p.1.map cS_FoldLeaf))),(15,.d (.sl 4 (p.2.map cS_FoldLeaf))),(46,dI v13),(47,dI v2),(51,dI v1),(52,dI v4)]) (fun s h=>?_) (fun s h=>?_)
                  · obtain ⟨y5,hy6,h⟩:=call_ok h
                    refine T_reg [(1,{ res:=dB y5 })] [2,3,4,6,7,8,9,12,13,14,15,46,47,51,52,87] [(87,dB y5)] [(1,ACall Try.prog 67 [.agg (cS_FoldStep a1)] [] (dB y5) [])] 0 (by kernel_rfl) (fold_across_ok hy6) ?_
                    refine T_cond y5 (by kernel_rfl) (fun hc=>?_) (fun hc=>?_)
                    · have h:=cond_tt hc h
                      obtain ⟨y6,hy7,h⟩:=call_ok h
                      obtain ⟨y7,hy8,h⟩:=call_ok h
                      obtain hs:=Option.some.inj h; subst hs
                      refine T_drawX_end mixed 3 (.take 1 (.take 2 (.take 5 (.take 6 (.all (.alt 0 (.all (.alt 3 (.all (.alt 4 (.all (.alt 7 (.take 8 (.take 9 .done)) .stop)) .stop)) (.alt 4 (.all (.alt 3 (.all (.alt 7 (.take 8 (.take 9 .done)) .stop)) .stop)) .stop))) (.alt 4 (.all (.alt 0 (.all (.alt 3 (.all (.alt 7 (.take 8 (.take 9 .done)) .stop)) .stop)) .stop)) .stop))))))) ([0,0,0,7,0,0,0,120,143,511],[0,0,0,7,0,0,0,112,8,128]) 870 [(3,{ res:=.d (.sl 4 (y6.map cS_FoldLeaf)) }),(7,{ res:=.d (.sl 4 (y7.map cS_FoldLeaf)) })] [2,3,4,6,7,8,9,14,15,46,47,51,52] [] [(2,bx_fold_sheet a0),(3,bx_FoldStep a1),(4,.box [dI 0,dI 0,oW2 []]),(6,dI (if a1.f1 < (IntKind.i64.wrap (y1 - a1.f1)) then (IntKind.i64.wrap (y1 - a1.f1)) else a1.f1)),(7,.box [dI v1,dI v13,oW2 v3]),(8,dB (bif (a1.f0 == (0:Int)) then true else (a1.f0 == (2:Int)))),(9,dI v2),(14,.d (.sl 4 (y6.map cS_FoldLeaf))),(15,.d (.sl 4 (y7.map cS_FoldLeaf))),(46,dI v13),(47,dI v2),(51,dI v1),(52,dI v4)] ((fun (o3:Prop)=>fun (o7:Prop)=>[(5,o3),(1,o7),(3,o3),(0,o7),(4,o3),(0,o7)]) (ACall Try.prog 68 [.agg (cS_fold_sheet a0),dI v7,dI v2] [] (.d (.sl 4 (y6.map cS_FoldLeaf))) []) (ACall Try.prog 68 [.agg (cS_fold_sheet a0),dI v8,dI v2] [] (.d (.sl 4 (y7.map cS_FoldLeaf))) [])) 2 (by kernel_rfl) (by kernel_rfl) (by kernel_rfl) (have p3:=fold_sheet_pile_ok hy7; have p7:=fold_sheet_pile_ok hy8; ⟨p3,p7,p3,p7,p3,p7⟩) fun a w hm=>then_norm (hm.co (cs:=[.keep [2,3,4,6,7,8,9,14,15,46,47,51,52]]) (by show _=_; kernel_rfl))
                    · have h:=cond_ff hc h
                      obtain hs:=Option.some.inj h; subst hs
                      refine T_skip fun a w hm=>then_norm (hm.co (cs:=[.keep [2,3,4,6,7,8,9,14,15,46,47,51,52]]) (by show _=_; kernel_rfl))
                  · obtain ⟨v9,v10⟩:=s
                    try dsimp only at h
                    obtain ⟨y8,hy9,h⟩:=call_ok h
                    obtain ⟨y9,hy10,h⟩:=call_ok h
                    refine T_reg [(2,{ res:=dB y8 }),(3,{ res:=oW3 y9 })] [2,3,4,6,7,8,9,14,15,46,47,51,52] [(14,oW3 y9)] [(2,ACall Try.prog 67 [.agg (cS_FoldStep a1)] [] (dB y8) []),(0,ACall Try.prog 69 [.d (.sl 4 (v9.map cS_FoldLeaf)),dB y8] [] (oW3 y9) [])] 1 (by kernel_rfl) (⟨fold_across_ok hy9,fold_flipped_ok hy10⟩) ?_
                    refine T_joinc h (fun (p:(List S_FoldLeaf)×(List S_FoldLeaf))=>[(2,bx_fold_sheet a0),(3,bx_FoldStep a1),(4,.box [dI 0,dI 0,oW2 []]),(6,dI (if a1.f1 < (IntKind.i64.wrap (y1 - a1.f1)) then (IntKind.i64.wrap (y1 - a1.f1)) else a1.f1)),(7,.box [dI v1,dI v13,oW2 v3]),(8,dB (bif (a1.f0 == (0:Int)) then true else (a1.f0 == (2:Int)))),(9,dI v2),(14,.d (.sl 4 (p.1.map cS_FoldLeaf))),(15,.d (.sl 4 (p.2.map cS_FoldLeaf))),(46,dI v13),(47,dI v2),(51,dI v1),(52,dI v4)]) (fun s h=>?_) (fun s h=>?_)
                    · refine T_reg [] [2,3,4,6,7,8,9,14,15,46,47,51,52,102] [(102,dB (!a1.f2))] [] 3 (by kernel_rfl) (trivial) ?_
                      refine T_cond (!a1.f2) (by kernel_rfl) (fun hc=>?_) (fun hc=>?_)
                      · have h:=cond_tt hc h
                        obtain hs:=Option.some.inj h; subst hs
                        refine T_reg_end [(1,{ frz:=[(14,0)] })] [2,3,4,6,7,8,9,14,15,46,47,51,52] [(14,.d (.sl 4 (v10.map cS_FoldLeaf))),(15,.d (.sl 4 (y9.map cS_FoldLeaf)))] [] 4 (by kernel_rfl) (trivial) fun a w hm=>then_norm (hm.co (cs:=[.keep [2,3,4,6,7,8,9,14,15,46,47,51,52]]) (by show _=_; kernel_rfl))
                      · have h:=cond_ff hc h
                        obtain hs:=Option.some.inj h; subst hs
                        refine T_skip fun a w hm=>then_norm (hm.co (cs:=[.thaw 14,.keep [2,3,4,6,7,8,9,14,15,46,47,51,52]]) (by show _=_; kernel_rfl))
                    · obtain ⟨v11,v12⟩:=s
                      try dsimp only at h
                      obtain ⟨y10,hy11,h⟩:=call_ok h
                      obtain ⟨hp1,h⟩:=chk_ok h
                      refine T_drawX_end mixed 4 (.take 0 (.take 2 (.take 3 (.all (.alt 1 (.all (.alt 4 (.all (.alt 5 (.all (.alt 6 (.all (.alt 7 (.take 8 (.all (.alt 9 .done .stop))) .stop)) .stop)) .stop)) .stop)) (.alt 4 (.all (.alt 1 (.all (.alt 5 (.all (.alt 6 (.all (.alt 7 (.take 8 (.all (.alt 9 .done .stop))) .stop)) .stop)) .stop)) (.alt 5 (.all (.alt 1 (.all (.alt 6 (.all (.alt 7 (.take 8 (.all (.alt 9 .done .stop))) .stop)) .stop)) (.alt 6 (.all (.alt 1 (.all (.alt 7 (.take 8 (.all (.alt 9 .done .stop))) .stop)) .stop)) .stop))) .stop))) .stop)))))) ([0,1,0,0,12,16,32,98,255,511],[0,1,0,0,12,16,32,66,0,384]) 269 [(4,{ es:=some (([v11,v12]).map (cL 4 cS_FoldLeaf)) }),(5,{ frz:=[(109,0)],res:=oW3 y10 }),(6,{ frz:=[(110,0)],es:=some (([y10]).map (cL 4 cS_FoldLeaf)) }),(7,{ es:=some ((v3++([y10])).map (cL 4 cS_FoldLeaf)) })] [2,3,4,6,7,8,9,46,47,51,52] [] [(2,bx_fold_sheet a0),(3,bx_FoldStep a1),(4,.box [dI 0,dI 0,oW2 []]),(6,dI (if a1.f1 < (IntKind.i64.wrap (y1 - a1.f1)) then (IntKind.i64.wrap (y1 - a1.f1)) else a1.f1)),(7,.box [dI v1,dI v13,.own 104 1 ((v3++([y10])).map (cL 4 cS_FoldLeaf))]),(8,dB (bif (a1.f0 == (0:Int)) then true else (a1.f0 == (2:Int)))),(9,dI v2),(46,dI v13),(47,dI v2),(51,dI v1),(52,dI v4)] ((fun (o4:Prop)=>fun (o5:Prop)=>fun (o6:Prop)=>fun (o7:Prop)=>[(4,o4),(0,o5),(0,o6),(0,o7),(2,o4),(1,o5),(0,o6),(0,o7),(2,o5),(1,o6),(0,o7),(2,o6),(1,o7)]) ((([v11,v12]).map (cL 4 cS_FoldLeaf))=(([v11,v12]).map (cL 4 cS_FoldLeaf))) (ACall Try.prog 70 [.d (.sl 1 (([v11,v12]).map (cL 4 cS_FoldLeaf)))] [] (oW3 y10) []) ((([y10]).map (cL 4 cS_FoldLeaf))=(([y10]).map (cL 4 cS_FoldLeaf))) ((v3.map (cL 4 cS_FoldLeaf)).length+(([y10]).map (cL 4 cS_FoldLeaf)).length≤4294967296∧(v3.map (cL 4 cS_FoldLeaf))++(([y10]).map (cL 4 cS_FoldLeaf))=((v3++([y10])).map (cL 4 cS_FoldLeaf)))) 2 (by kernel_rfl) (by kernel_rfl) (by kernel_rfl) (have p4:=rfl; have p5:=slices_Concat_FoldLeaf_ok hy11; have p6:=rfl; have p7:=app_ok (cL 4 cS_FoldLeaf) hp1; ⟨p4,p5,p6,p7,p4,p5,p6,p7,p5,p6,p7,p6,p7⟩) fun a w hm=>inBlock_norm (then_norm (((?_:T Try.prog e 117 _ _ _) a w hm)))
                      refine T_reg_end [] [2,3,4,6,7,8,9,46,47,51,52] [(52,dI (IntKind.i64.wrap (v4+(1:Int))))] [] 2 (by kernel_rfl) (trivial) fun a w hm=>then_norm (⟨((v3++([y10])),IntKind.i64.wrap (v4+(1:Int))),h,hm.co (cs:=[.keep [2,3,4,6,7,8,9,46,47,51,52]]) (by show _=_; kernel_rfl)⟩)
          · have h:=cond_ff hc h
            obtain hs:=Option.some.inj h; subst hs
            refine T_exit fun a w hm=>then_exit (then_exit (inBlock_exit (then_norm (hm.co (cs:=[.keep [2,3,4,6,7,8,46,47]]) (by show _=_; kernel_rfl)))))
        · skip
          refine fun a w hm=>inBlock_norm (then_norm (((?_:T Try.prog e 117 _ _ _) a w hm)))
          refine T_reg_end [] [2,3,4,6,7,8,46,47] [(47,dI (IntKind.i64.wrap (v2+(1:Int))))] [] 2 (by kernel_rfl) (trivial) fun a w hm=>then_norm (⟨(v15,IntKind.i64.wrap (v2+(1:Int))),h,hm.co (cs:=[.keep [2,3,4,6,7,8,46,47]]) (by show _=_; kernel_rfl)⟩)
      · have h:=cond_ff hc h
        obtain hs:=Option.some.inj h; subst hs
        refine T_exit fun a w hm=>then_exit (then_exit (inBlock_exit (then_norm (hm.co (cs:=[.keep [4,7]]) (by show _=_; kernel_rfl)))))
    · skip
      refine fun a w hm=>then_norm (((?_:T Try.prog e 117 _ _ _) a w hm))
      refine T_reg [(0,{ frz:=[(7,3)] })] [4] [(4,.box [dI v1,dI v13,.d (.sl 1 (v16.map (cL 4 cS_FoldLeaf)))])] [] 2 (by kernel_rfl) (trivial) ?_
      obtain hs:=Option.some.inj h; subst hs
      refine T_ret fun a w hm=>T_returnC (fr':=[(4,.box [dI v1,dI v13,.d (.sl 1 (v16.map (cL 4 cS_FoldLeaf)))])]) (ts:=[117]) (N':=118) (fr2:=[(117,.agg (cS_fold_sheet (S_fold_sheet.mk v1 v13 v16)))]++[(4,.box [dI v1,dI v13,.d (.sl 1 (v16.map (cL 4 cS_FoldLeaf)))])]) [.keep [4]] (by kernel_rfl) (by kernel_rfl) (by kernel_rfl) (by kernel_rfl) (by show _=_; kernel_rfl) (by exact trivial) a w hm
theorem fold_Check_ok {F:Nat} {a0:S_FoldScheme} {r:Int} (h:fold_Check F a0=some r):ACall Try.prog 43 [.agg (cS_FoldScheme a0)] [] (.d (.v (.int .i64 r))) []:=by
  rw [fold_Check] at h
  refine ACall.intro (N:=68) Try.func43 rfl rfl rfl rfl rfl fun e=>?_
  refine T_reg [] [1] [(1,bx_FoldScheme a0)] [] 2 (by kernel_rfl) (trivial) ?_
  refine T_seqk ?_
  obtain ⟨z3,hz1,h⟩:=lett_ok h
  refine T_reg [(12,{ rw:=some (dB z3) })] [1,23] [(23,dB (bif z3 then true else (decide (a0.f1 > (8:Int)))))] [(4,((((decide (a0.f0 < (1:Int))) == false) && true)=true→True)),(0,((((decide (a0.f0 < (1:Int))) == false) && true)=true→True)),(0,((((decide (a0.f0 < (1:Int))) == false) && true)=true→True)),(2,((((bif (decide (a0.f0 < (1:Int))) then true else (decide (a0.f0 > (8:Int)))) == false) && true)=true→True)),(0,((((bif (decide (a0.f0 < (1:Int))) then true else (decide (a0.f0 > (8:Int)))) == false) && true)=true→True)),(0,((((bif (decide (a0.f0 < (1:Int))) then true else (decide (a0.f0 > (8:Int)))) == false) && true)=true→True)),(0,(True)∧dB (bif (bif (decide (a0.f0 < (1:Int))) then true else (decide (a0.f0 > (8:Int)))) then true else (decide (a0.f1 < (1:Int))))=dB z3),(1,(((z3 == false) && true)=true→True)),(0,(((z3 == false) && true)=true→True)),(0,(((z3 == false) && true)=true→True))] 1 (by kernel_rfl) (⟨(fun hg=>trivial),(fun hg=>trivial),(fun hg=>trivial),(fun hg=>trivial),(fun hg=>trivial),(fun hg=>trivial),⟨trivial,(by subst hz1; rfl)⟩,(fun hg=>trivial),(fun hg=>trivial),(fun hg=>trivial)⟩) ?_
  refine T_cond (bif z3 then true else (decide (a0.f1 > (8:Int)))) (by kernel_rfl) (fun hc=>?_) (fun hc=>?_)
  · have h:=cond_tt hc h
    refine T_reg [] [2] [(2,dI (3:Int))] [] 1 (by kernel_rfl) (trivial) ?_
    obtain hs:=Option.some.inj h; subst hs
    refine T_ret fun a w hm=>then_ret (T_return (fr':=[(2,dI (3:Int))]) [2] (by kernel_rfl) [.keep [2]] (by kernel_rfl) (by kernel_rfl) (by kernel_rfl) (by show _=_; kernel_rfl) (by exact trivial) a w hm)
  · have h:=cond_ff hc h
    refine T_skip fun a w hm=>then_norm (((?_:T Try.prog e 68 _ _ _) a w hm))
    refine T_seqk ?_
    obtain ⟨z4,hz2,h⟩:=lett_ok h
    refine T_reg [(9,{ rw:=some (dI (a0.f2.length:Int)) }),(11,{ rw:=some (dB z4) })] [1,35] [(35,dB z4)] [(7,((((decide ((IntKind.i64.wrap (a0.f0 * a0.f1)) > (32:Int))) == false) && true)=true→True)),(0,((((decide ((IntKind.i64.wrap (a0.f0 * a0.f1)) > (32:Int))) == false) && true)=true→True)),(0,((((decide ((IntKind.i64.wrap (a0.f0 * a0.f1)) > (32:Int))) == false) && true)=true→True∧dI ((a0.f2.map cS_FoldStep).length:Int)=dI (a0.f2.length:Int))),(0,((((decide ((IntKind.i64.wrap (a0.f0 * a0.f1)) > (32:Int))) == false) && true)=true→True)),(0,(True)∧dB (bif (decide ((IntKind.i64.wrap (a0.f0 * a0.f1)) > (32:Int))) then true else (decide ((a0.f2.length:Int) > (8:Int))))=dB z4)] 0 (by kernel_rfl) (⟨(fun hg=>trivial),(fun hg=>trivial),(fun hg=>len_ok cS_FoldStep),(fun hg=>trivial),⟨trivial,(by subst hz2; rfl)⟩⟩) ?_
    refine T_cond z4 (by kernel_rfl) (fun hc=>?_) (fun hc=>?_)
    · have h:=cond_tt hc h
      refine T_reg [] [2] [(2,dI (2:Int))] [] 1 (by kernel_rfl) (trivial) ?_
      obtain hs:=Option.some.inj h; subst hs
      refine T_ret fun a w hm=>then_ret (T_return (fr':=[(2,dI (2:Int))]) [2] (by kernel_rfl) [.keep [2]] (by kernel_rfl) (by kernel_rfl) (by kernel_rfl) (by show _=_; kernel_rfl) (by exact trivial) a w hm)
    · have h:=cond_ff hc h
      refine T_skip fun a w hm=>then_norm (((?_:T Try.prog e 68 _ _ _) a w hm))
      obtain ⟨y3,hy1,h⟩:=call_ok h
      refine T_reg [(1,{ res:=.agg (cS_fold_sheet y3) })] [1,3] [(3,bx_fold_sheet y3)] [(1,ACall Try.prog 62 [.agg (cS_FoldScheme a0)] [] (.agg (cS_fold_sheet y3)) [])] 2 (by kernel_rfl) (fold_flat_ok hy1) ?_
      refine T_seqk ?_
      refine T_reg [(2,{ rw:=some (dI (a0.f2.length:Int)) })] [3,39,40,41] [(39,.d (.sl 3 (a0.f2.map cS_FoldStep))),(40,dI (a0.f2.length:Int)),(41,dI (0:Int))] [(2,True∧dI ((a0.f2.map cS_FoldStep).length:Int)=dI (a0.f2.length:Int))] 1 (by kernel_rfl) (len_ok cS_FoldStep) ?_
      refine T_joinEt h (fun (p:Unit)=>[]) (fun s h hk1=>?_) (fun s h=>?_)
      · refine T_co [.keep [3,39,40,41]] ((fun (p:Int×Int×(List (List S_FoldLeaf))×Int)=>[(3,.box [dI p.1,dI p.2.1,.d (.sl 1 (p.2.2.1.map (cL 4 cS_FoldLeaf)))]),(39,.d (.sl 3 (a0.f2.map cS_FoldStep))),(40,dI (a0.f2.length:Int)),(41,dI p.2.2.2)]) (y3.f0,y3.f1,y3.f2,(0:Int))) (by show _=_; kernel_rfl) ?_
        refine T_block ?_
        refine T_loopF (ι:=Int×Int×(List (List S_FoldLeaf))×Int) (fun (p:Int×Int×(List (List S_FoldLeaf))×Int)=>[(3,.box [dI p.1,dI p.2.1,.d (.sl 1 (p.2.2.1.map (cL 4 cS_FoldLeaf)))]),(39,.d (.sl 3 (a0.f2.map cS_FoldStep))),(40,dI (a0.f2.length:Int)),(41,dI p.2.2.2)]) (fun n p=>fold_Check_L0 F a0 n p.1 p.2.1 p.2.2.1 p.2.2.2=some s) (fun i hh=>by simp [fold_Check_L0] at hh) (fun n p h=>?_) F (y3.f0,y3.f1,y3.f2,(0:Int)) h
        obtain ⟨v1,v2,v3,v4⟩:=p
        have h:fold_Check_L0 F a0 (n+1) v1 v2 v3 v4=some s:=h
        rw [fold_Check_L0] at h
        refine T_reg [] [3,39,40,41,42] [(42,dB (decide (v4 < (a0.f2.length:Int))))] [] 1 (by kernel_rfl) (trivial) ?_
        refine T_seqk ?_
        refine T_cond (decide (v4 < (a0.f2.length:Int))) (by kernel_rfl) (fun hc=>?_) (fun hc=>?_)
        · have h:=cond_tt hc h
          refine T_skip fun a w hm=>then_norm (((?_:T Try.prog e 68 _ _ _) a w hm))
          refine T_seqk ?_
          refine T_block ?_
          obtain ⟨hp1,h⟩:=chk_ok h
          refine T_reg [(0,{ cs:=cS_FoldStep (a0.f2.getD v4.toNat z_FoldStep) })] [3,5,39,40,41] [(5,.box [dI ((a0.f2.getD v4.toNat z_FoldStep).f0),dI ((a0.f2.getD v4.toNat z_FoldStep).f1),dB ((a0.f2.getD v4.toNat z_FoldStep).f2)])] [(0,0≤v4∧(a0.f2.map cS_FoldStep)[v4.toNat]? = some (cS_FoldStep (a0.f2.getD v4.toNat z_FoldStep)))] 3 (by kernel_rfl) (idx_ok (d:=z_FoldStep) cS_FoldStep hp1) ?_
          refine T_seqk ?_
          obtain ⟨z1,hz3,h⟩:=lett_ok h
          refine T_reg [(7,{ rw:=some (dB z1) })] [3,5,39,40,41,52] [(52,dB z1)] [(4,((((decide (((a0.f2.getD v4.toNat z_FoldStep).f0) < (0:Int))) == false) && true)=true→True)),(0,((((decide (((a0.f2.getD v4.toNat z_FoldStep).f0) < (0:Int))) == false) && true)=true→True)),(0,((((decide (((a0.f2.getD v4.toNat z_FoldStep).f0) < (0:Int))) == false) && true)=true→True)),(0,(True)∧dB (bif (decide (((a0.f2.getD v4.toNat z_FoldStep).f0) < (0:Int))) then true else (decide (((a0.f2.getD v4.toNat z_FoldStep).f0) > (3:Int))))=dB z1)] 0 (by kernel_rfl) (⟨(fun hg=>trivial),(fun hg=>trivial),(fun hg=>trivial),⟨trivial,(by subst hz3; rfl)⟩⟩) ?_
          refine T_cond z1 (by kernel_rfl) (fun hc=>?_) (fun hc=>?_)
          · have h:=cond_tt hc h
            refine T_reg [] [2] [(2,dI (14:Int))] [] 1 (by kernel_rfl) (trivial) ?_
            obtain hs:=Option.some.inj h; subst hs
            have h:=callE_esc hk1
            obtain hs:=Option.some.inj h; subst hs
            refine T_ret fun a w hm=>then_ret (inBlock_ret (then_ret (then_ret (inBlock_ret (then_ret (then_ret (T_return (fr':=[(2,dI (14:Int))]) [2] (by kernel_rfl) [.keep [2]] (by kernel_rfl) (by kernel_rfl) (by kernel_rfl) (by show _=_; kernel_rfl) (by exact trivial) a w hm)))))))
          · have h:=cond_ff hc h
            refine T_skip fun a w hm=>then_norm (((?_:T Try.prog e 68 _ _ _) a w hm))
            refine T_seqk ?_
            obtain ⟨y1,hy2,h⟩:=call_ok h
            obtain ⟨z2,hz4,h⟩:=lett_ok h
            refine T_drawX mixed 20 (.take 0 (.all (.alt 1 (.take 2 (.take 3 (.all (.alt 4 (.all (.alt 5 (.all (.alt 6 (.all (.alt 7 (.all (.alt 8 (.all (.alt 9 (.all (.alt 10 .done .stop)) .stop)) .stop)) .stop)) (.alt 7 (.all (.alt 6 (.all (.alt 8 (.all (.alt 9 (.all (.alt 10 .done .stop)) .stop)) .stop)) .stop)) .stop))) (.alt 6 (.all (.alt 5 (.all (.alt 7 (.all (.alt 8 (.all (.alt 9 (.all (.alt 10 .done .stop)) .stop)) .stop)) .stop)) (.alt 7 (.all (.alt 5 (.all (.alt 8 (.all (.alt 9 (.all (.alt 10 .done .stop)) .stop)) .stop)) (.alt 8 (.all (.alt 5 (.all (.alt 9 (.all (.alt 10 .done .stop)) .stop)) .stop)) .stop))) .stop))) (.alt 7 (.all (.alt 5 (.all (.alt 6 (.all (.alt 8 (.all (.alt 9 (.all (.alt 10 .done .stop)) .stop)) .stop)) .stop)) (.alt 6 (.all (.alt 5 (.all (.alt 8 (.all (.alt 9 (.all (.alt 10 .done .stop)) .stop)) .stop)) (.alt 8 (.all (.alt 5 (.all (.alt 9 (.all (.alt 10 .done .stop)) .stop)) .stop)) .stop))) .stop))) .stop)))) (.alt 6 (.all (.alt 4 (.all (.alt 5 (.all (.alt 7 (.all (.alt 8 (.all (.alt 9 (.all (.alt 10 .done .stop)) .stop)) .stop)) .stop)) (.alt 7 (.all (.alt 5 (.all (.alt 8 (.all (.alt 9 (.all (.alt 10 .done .stop)) .stop)) .stop)) (.alt 8 (.all (.alt 5 (.all (.alt 9 (.all (.alt 10 .done .stop)) .stop)) .stop)) .stop))) .stop))) (.alt 7 (.all (.alt 4 (.all (.alt 5 (.all (.alt 8 (.all (.alt 9 (.all (.alt 10 .done .stop)) .stop)) .stop)) (.alt 8 (.all (.alt 5 (.all (.alt 9 (.all (.alt 10 .done .stop)) .stop)) .stop)) .stop))) (.alt 8 (.all (.alt 4 (.all (.alt 5 (.all (.alt 9 (.all (.alt 10 .done .stop)) .stop)) .stop)) .stop)) .stop))) .stop))) (.alt 7 (.all (.alt 4 (.all (.alt 5 (.all (.alt 6 (.all (.alt 8 (.all (.alt 9 (.all (.alt 10 .done .stop)) .stop)) .stop)) .stop)) (.alt 6 (.all (.alt 5 (.all (.alt 8 (.all (.alt 9 (.all (.alt 10 .done .stop)) .stop)) .stop)) (.alt 8 (.all (.alt 5 (.all (.alt 9 (.all (.alt 10 .done .stop)) .stop)) .stop)) .stop))) .stop))) (.alt 6 (.all (.alt 4 (.all (.alt 5 (.all (.alt 8 (.all (.alt 9 (.all (.alt 10 .done .stop)) .stop)) .stop)) (.alt 8 (.all (.alt 5 (.all (.alt 9 (.all (.alt 10 .done .stop)) .stop)) .stop)) .stop))) (.alt 8 (.all (.alt 4 (.all (.alt 5 (.all (.alt 9 (.all (.alt 10 .done .stop)) .stop)) .stop)) .stop)) .stop))) .stop))) .stop)))))) .stop))) ([0,1,2,4,8,24,8,8,200,296,520],[0,1,2,4,8,24,8,8,200,296,520]) 13 [(8,{ res:=dI y1 }),(10,{ rw:=some (dB z2) })] [3,5,39,40,41,63] [] [(3,.box [dI v1,dI v2,.d (.sl 1 (v3.map (cL 4 cS_FoldLeaf)))]),(5,.box [dI ((a0.f2.getD v4.toNat z_FoldStep).f0),dI ((a0.f2.getD v4.toNat z_FoldStep).f1),dB ((a0.f2.getD v4.toNat z_FoldStep).f2)]),(39,.d (.sl 3 (a0.f2.map cS_FoldStep))),(40,dI (a0.f2.length:Int)),(41,dI v4),(63,dB z2)] ((fun (o4:Prop)=>fun (o5:Prop)=>fun (o6:Prop)=>fun (o7:Prop)=>fun (o8:Prop)=>fun (o9:Prop)=>fun (o10:Prop)=>[(4,o4),(0,o5),(0,o6),(0,o7),(0,o8),(0,o9),(0,o10),(0,o7),(0,o6),(0,o8),(0,o9),(0,o10),(0,o6),(0,o5),(0,o7),(0,o8),(0,o9),(0,o10),(0,o7),(0,o5),(0,o8),(0,o9),(0,o10),(0,o8),(0,o5),(0,o9),(0,o10),(0,o7),(0,o5),(0,o6),(0,o8),(0,o9),(0,o10),(0,o6),(0,o5),(0,o8),(0,o9),(0,o10),(0,o8),(0,o5),(0,o9),(0,o10),(0,o6),(0,o4),(0,o5),(0,o7),(0,o8),(0,o9),(0,o10),(0,o7),(0,o5),(0,o8),(0,o9),(0,o10),(0,o8),(0,o5),(0,o9),(0,o10),(0,o7),(0,o4),(0,o5),(0,o8),(0,o9),(0,o10),(0,o8),(0,o5),(0,o9),(0,o10),(0,o8),(0,o4),(0,o5),(0,o9),(0,o10),(0,o7),(0,o4),(0,o5),(0,o6),(0,o8),(0,o9),(0,o10),(0,o6),(0,o5),(0,o8),(0,o9),(0,o10),(0,o8),(0,o5),(0,o9),(0,o10),(0,o6),(0,o4),(0,o5),(0,o8),(0,o9),(0,o10),(0,o8),(0,o5),(0,o9),(0,o10),(0,o8),(0,o4),(0,o5),(0,o9),(0,o10)]) (((((decide (((a0.f2.getD v4.toNat z_FoldStep).f1) < (1:Int))) == false) && true)=true→True)) (((((decide (((a0.f2.getD v4.toNat z_FoldStep).f1) < (1:Int))) == false) && true)=true→True)) (((((decide (((a0.f2.getD v4.toNat z_FoldStep).f1) < (1:Int))) == false) && true)=true→True)) (((((decide (((a0.f2.getD v4.toNat z_FoldStep).f1) < (1:Int))) == false) && true)=true→True)) (((((decide (((a0.f2.getD v4.toNat z_FoldStep).f1) < (1:Int))) == false) && true)=true→ACall Try.prog 63 [.agg (cS_fold_sheet (S_fold_sheet.mk v1 v2 v3)),.agg (cS_FoldStep (a0.f2.getD v4.toNat z_FoldStep))] [] (dI y1) [])) (((((decide (((a0.f2.getD v4.toNat z_FoldStep).f1) < (1:Int))) == false) && true)=true→True)) ((True)∧dB (bif (decide (((a0.f2.getD v4.toNat z_FoldStep).f1) < (1:Int))) then true else (decide (((a0.f2.getD v4.toNat z_FoldStep).f1) ≥ y1)))=dB z2)) 0 (by kernel_rfl) (by kernel_rfl) (by kernel_rfl) (have p4:=(fun hg=>trivial); have p5:=(fun hg=>trivial); have p6:=(fun hg=>trivial); have p7:=(fun hg=>trivial); have p8:=(fun hg=>fold_sheet_extent_ok (gcall_ok hg hy2)); have p9:=(fun hg=>trivial); have p10:=⟨trivial,(by subst hz4; rfl)⟩; ⟨p4,p5,p6,p7,p8,p9,p10,p7,p6,p8,p9,p10,p6,p5,p7,p8,p9,p10,p7,p5,p8,p9,p10,p8,p5,p9,p10,p7,p5,p6,p8,p9,p10,p6,p5,p8,p9,p10,p8,p5,p9,p10,p6,p4,p5,p7,p8,p9,p10,p7,p5,p8,p9,p10,p8,p5,p9,p10,p7,p4,p5,p8,p9,p10,p8,p5,p9,p10,p8,p4,p5,p9,p10,p7,p4,p5,p6,p8,p9,p10,p6,p5,p8,p9,p10,p8,p5,p9,p10,p6,p4,p5,p8,p9,p10,p8,p5,p9,p10,p8,p4,p5,p9,p10⟩) ?_
            refine T_cond z2 (by kernel_rfl) (fun hc=>?_) (fun hc=>?_)
            · have h:=cond_tt hc h
              refine T_reg [] [2] [(2,dI (3:Int))] [] 1 (by kernel_rfl) (trivial) ?_
              obtain hs:=Option.some.inj h; subst hs
              have h:=callE_esc hk1
              obtain hs:=Option.some.inj h; subst hs
              refine T_ret fun a w hm=>then_ret (inBlock_ret (then_ret (then_ret (inBlock_ret (then_ret (then_ret (T_return (fr':=[(2,dI (3:Int))]) [2] (by kernel_rfl) [.keep [2]] (by kernel_rfl) (by kernel_rfl) (by kernel_rfl) (by show _=_; kernel_rfl) (by exact trivial) a w hm)))))))
            · have h:=cond_ff hc h
              refine T_skip fun a w hm=>then_norm (((?_:T Try.prog e 68 _ _ _) a w hm))
              obtain ⟨y2,hy3,h⟩:=call_ok h
              refine T_reg_end [(2,{ res:=.agg (cS_fold_sheet y2) })] [3,39,40,41] [(3,bx_fold_sheet y2)] [(2,ACall Try.prog 64 [.agg (cS_fold_sheet (S_fold_sheet.mk v1 v2 v3)),.agg (cS_FoldStep (a0.f2.getD v4.toNat z_FoldStep))] [] (.agg (cS_fold_sheet y2)) [])] 1 (by kernel_rfl) (fold_sheet_fold_ok hy3) fun a w hm=>inBlock_norm (then_norm (((?_:T Try.prog e 68 _ _ _) a w hm)))
              refine T_reg_end [] [3,39,40,41] [(41,dI (IntKind.i64.wrap (v4+(1:Int))))] [] 2 (by kernel_rfl) (trivial) fun a w hm=>then_norm (⟨(y2.f0,y2.f1,y2.f2,IntKind.i64.wrap (v4+(1:Int))),h,hm.co (cs:=[.keep [3,39,40,41]]) (by show _=_; kernel_rfl)⟩)
        · have h:=cond_ff hc h
          obtain hs:=Option.some.inj h; subst hs
          refine T_exit fun a w hm=>then_exit (then_exit (inBlock_exit (then_norm (⟨_,rfl,hm.co (cs:=[.keep []]) (by show _=_; kernel_rfl)⟩))))
      · skip
        refine fun a w hm=>then_norm (((?_:T Try.prog e 68 _ _ _) a w hm))
        refine T_reg [] [2] [(2,dI (0:Int))] [] 1 (by kernel_rfl) (trivial) ?_
        obtain hs:=Option.some.inj h; subst hs
        refine T_ret fun a w hm=>T_return (fr':=[(2,dI (0:Int))]) [2] (by kernel_rfl) [.keep [2]] (by kernel_rfl) (by kernel_rfl) (by kernel_rfl) (by show _=_; kernel_rfl) (by exact trivial) a w hm
theorem fold_after_ok {F:Nat} {a0:S_FoldScheme} {a1:Int} {r:S_fold_sheet×Int} (h:fold_after F a0 a1=some r):ACall Try.prog 65 [.agg (cS_FoldScheme a0),.d (.v (.int .i64 a1))] [] (.tup [.agg (cS_fold_sheet r.1),.d (.v (.int .i64 r.2))]) []:=by
  rw [fold_after] at h
  refine ACall.intro (N:=42) Try.func65 rfl rfl rfl rfl rfl fun e=>?_
  refine T_reg [] [1,2,4] [(2,bx_FoldScheme a0),(4,.box [dI 0,dI 0,oW2 []])] [] 3 (by kernel_rfl) (trivial) ?_
  refine T_seqk ?_
  obtain ⟨y2,hy1,h⟩:=call_ok h
  refine T_reg [(1,{ res:=dI y2 })] [1,2,4,6] [(6,dI y2)] [(1,ACall Try.prog 43 [.agg (cS_FoldScheme a0)] [] (dI y2) [])] 1 (by kernel_rfl) (fold_Check_ok hy1) ?_
  refine T_reg [] [1,2,4,6,13] [(13,dB (y2 != (0:Int)))] [] 2 (by kernel_rfl) (trivial) ?_
  refine T_cond (y2 != (0:Int)) (by kernel_rfl) (fun hc=>?_) (fun hc=>?_)
  · have h:=cond_tt hc h
    refine T_region [(0,{ take:=[0] })] [4,5] [.nilc 4 2 104 1,.keep [4,5]] [(4,.box [dI 0,dI 0,oW2 []]),(5,dI y2)] [] 4 (by kernel_rfl) (trivial) ?_
    obtain hs:=Option.some.inj h; subst hs
    refine T_ret fun a w hm=>then_ret (T_returnC (fr':=[(4,.box [dI 0,dI 0,.fz 1 ([].map (cL 4 cS_FoldLeaf))]),(5,dI y2)]) (ts:=[42,5]) (N':=43) (fr2:=[(42,.agg (cS_fold_sheet z_fold_sheet))]++[(4,.box [dI 0,dI 0,.fz 1 ([].map (cL 4 cS_FoldLeaf))]),(5,dI y2)]) [.frz (4,3),.keep [4,5]] (by kernel_rfl) (by kernel_rfl) (by kernel_rfl) (by kernel_rfl) (by show _=_; kernel_rfl) (by exact trivial) a w hm)
  · have h:=cond_ff hc h
    refine T_skip fun a w hm=>then_norm (((?_:T Try.prog e 42 _ _ _) a w hm))
    refine T_seqk ?_
    refine T_reg [(6,{ rw:=some (dI (a0.f2.length:Int)) })] [1,2,4,24] [(24,dB (bif (decide (a1 < (0:Int))) then true else (decide (a1 > (a0.f2.length:Int)))))] [(3,((((decide (a1 < (0:Int))) == false) && true)=true→True)),(0,((((decide (a1 < (0:Int))) == false) && true)=true→True)),(0,((((decide (a1 < (0:Int))) == false) && true)=true→True)),(0,((((decide (a1 < (0:Int))) == false) && true)=true→True∧dI ((a0.f2.map cS_FoldStep).length:Int)=dI (a0.f2.length:Int))),(0,((((decide (a1 < (0:Int))) == false) && true)=true→True))] 1 (by kernel_rfl) (⟨(fun hg=>trivial),(fun hg=>trivial),(fun hg=>trivial),(fun hg=>len_ok cS_FoldStep),(fun hg=>trivial)⟩) ?_
    refine T_cond (bif (decide (a1 < (0:Int))) then true else (decide (a1 > (a0.f2.length:Int)))) (by kernel_rfl) (fun hc=>?_) (fun hc=>?_)
    · have h:=cond_tt hc h
      refine T_region [(0,{ take:=[0] })] [4,5] [.nilc 4 2 104 1,.keep [4,5]] [(4,.box [dI 0,dI 0,oW2 []]),(5,dI (3:Int))] [] 3 (by kernel_rfl) (trivial) ?_
      obtain hs:=Option.some.inj h; subst hs
      refine T_ret fun a w hm=>then_ret (T_returnC (fr':=[(4,.box [dI 0,dI 0,.fz 1 ([].map (cL 4 cS_FoldLeaf))]),(5,dI (3:Int))]) (ts:=[42,5]) (N':=43) (fr2:=[(42,.agg (cS_fold_sheet z_fold_sheet))]++[(4,.box [dI 0,dI 0,.fz 1 ([].map (cL 4 cS_FoldLeaf))]),(5,dI (3:Int))]) [.frz (4,3),.keep [4,5]] (by kernel_rfl) (by kernel_rfl) (by kernel_rfl) (by kernel_rfl) (by show _=_; kernel_rfl) (by exact trivial) a w hm)
    · have h:=cond_ff hc h
      refine T_skip fun a w hm=>then_norm (((?_:T Try.prog e 42 _ _ _) a w hm))
      obtain ⟨y3,hy2,h⟩:=call_ok h
      refine T_reg [(1,{ res:=.agg (cS_fold_sheet y3) })] [1,2,4,7] [(7,bx_fold_sheet y3)] [(1,ACall Try.prog 62 [.agg (cS_FoldScheme a0)] [] (.agg (cS_fold_sheet y3)) [])] 2 (by kernel_rfl) (fold_flat_ok hy2) ?_
      refine T_seqk ?_
      obtain ⟨hp1,h⟩:=chk_ok h
      refine T_reg [(3,{ rw:=some (.d (.sl 3 (((a0.f2.drop (0:Int).toNat).take (a1.toNat - (0:Int).toNat)).map cS_FoldStep))) }),(4,{ rw:=some (dI (((a0.f2.drop (0:Int).toNat).take (a1.toNat - (0:Int).toNat)).length:Int)) })] [4,7,31,32,33] [(31,.d (.sl 3 (((a0.f2.drop (0:Int).toNat).take (a1.toNat - (0:Int).toNat)).map cS_FoldStep))),(32,dI (((a0.f2.drop (0:Int).toNat).take (a1.toNat - (0:Int).toNat)).length:Int)),(33,dI (0:Int))] [(3,(0≤(0:Int)∧(0:Int)≤a1∧a1≤((a0.f2.map cS_FoldStep).length:Int))∧AV.d (.sl 3 (((a0.f2.map cS_FoldStep).drop (0:Int).toNat).take (a1.toNat - (0:Int).toNat)))=.d (.sl 3 (((a0.f2.drop (0:Int).toNat).take (a1.toNat - (0:Int).toNat)).map cS_FoldStep))),(0,True∧dI ((((a0.f2.drop (0:Int).toNat).take (a1.toNat - (0:Int).toNat)).map cS_FoldStep).length:Int)=dI (((a0.f2.drop (0:Int).toNat).take (a1.toNat - (0:Int).toNat)).length:Int))] 1 (by kernel_rfl) (⟨cutH cS_FoldStep hp1,len_ok cS_FoldStep⟩) ?_
      refine T_joinct h (fun (p:Int×Int×(List (List S_FoldLeaf)))=>[(4,.box [dI 0,dI 0,oW2 []]),(7,.box [dI p.1,dI p.2.1,.d (.sl 1 (p.2.2.map (cL 4 cS_FoldLeaf)))])]) (fun s h=>?_) (fun s h=>?_)
      · refine T_co [.keep [4,7,31,32,33]] ((fun (p:Int×Int×(List (List S_FoldLeaf))×Int)=>[(4,.box [dI 0,dI 0,oW2 []]),(7,.box [dI p.1,dI p.2.1,.d (.sl 1 (p.2.2.1.map (cL 4 cS_FoldLeaf)))]),(31,.d (.sl 3 (((a0.f2.drop (0:Int).toNat).take (a1.toNat - (0:Int).toNat)).map cS_FoldStep))),(32,dI (((a0.f2.drop (0:Int).toNat).take (a1.toNat - (0:Int).toNat)).length:Int)),(33,dI p.2.2.2)]) (y3.f0,y3.f1,y3.f2,(0:Int))) (by show _=_; kernel_rfl) ?_
        refine T_block ?_
        refine T_loopF (ι:=Int×Int×(List (List S_FoldLeaf))×Int) (fun (p:Int×Int×(List (List S_FoldLeaf))×Int)=>[(4,.box [dI 0,dI 0,oW2 []]),(7,.box [dI p.1,dI p.2.1,.d (.sl 1 (p.2.2.1.map (cL 4 cS_FoldLeaf)))]),(31,.d (.sl 3 (((a0.f2.drop (0:Int).toNat).take (a1.toNat - (0:Int).toNat)).map cS_FoldStep))),(32,dI (((a0.f2.drop (0:Int).toNat).take (a1.toNat - (0:Int).toNat)).length:Int)),(33,dI p.2.2.2)]) (fun n p=>fold_after_L0 F a0 a1 n p.1 p.2.1 p.2.2.1 p.2.2.2=some s) (fun i hh=>by simp [fold_after_L0] at hh) (fun n p h=>?_) F (y3.f0,y3.f1,y3.f2,(0:Int)) h
        obtain ⟨v1,v2,v3,v4⟩:=p
        have h:fold_after_L0 F a0 a1 (n+1) v1 v2 v3 v4=some s:=h
        rw [fold_after_L0] at h
        refine T_reg [] [4,7,31,32,33,34] [(34,dB (decide (v4 < (((a0.f2.drop (0:Int).toNat).take (a1.toNat - (0:Int).toNat)).length:Int))))] [] 1 (by kernel_rfl) (trivial) ?_
        refine T_seqk ?_
        refine T_cond (decide (v4 < (((a0.f2.drop (0:Int).toNat).take (a1.toNat - (0:Int).toNat)).length:Int))) (by kernel_rfl) (fun hc=>?_) (fun hc=>?_)
        · have h:=cond_tt hc h
          refine T_skip fun a w hm=>then_norm (((?_:T Try.prog e 42 _ _ _) a w hm))
          refine T_seqk ?_
          refine T_block ?_
          obtain ⟨hp2,h⟩:=chk_ok h
          refine T_reg [(0,{ cs:=cS_FoldStep (((a0.f2.drop (0:Int).toNat).take (a1.toNat - (0:Int).toNat)).getD v4.toNat z_FoldStep) })] [4,7,9,31,32,33] [(9,.box [dI ((((a0.f2.drop (0:Int).toNat).take (a1.toNat - (0:Int).toNat)).getD v4.toNat z_FoldStep).f0),dI ((((a0.f2.drop (0:Int).toNat).take (a1.toNat - (0:Int).toNat)).getD v4.toNat z_FoldStep).f1),dB ((((a0.f2.drop (0:Int).toNat).take (a1.toNat - (0:Int).toNat)).getD v4.toNat z_FoldStep).f2)])] [(0,0≤v4∧(((a0.f2.drop (0:Int).toNat).take (a1.toNat - (0:Int).toNat)).map cS_FoldStep)[v4.toNat]? = some (cS_FoldStep (((a0.f2.drop (0:Int).toNat).take (a1.toNat - (0:Int).toNat)).getD v4.toNat z_FoldStep)))] 3 (by kernel_rfl) (idx_ok (d:=z_FoldStep) cS_FoldStep hp2) ?_
          obtain ⟨y1,hy3,h⟩:=call_ok h
          refine T_reg_end [(2,{ res:=.agg (cS_fold_sheet y1) })] [4,7,31,32,33] [(7,bx_fold_sheet y1)] [(2,ACall Try.prog 64 [.agg (cS_fold_sheet (S_fold_sheet.mk v1 v2 v3)),.agg (cS_FoldStep (((a0.f2.drop (0:Int).toNat).take (a1.toNat - (0:Int).toNat)).getD v4.toNat z_FoldStep))] [] (.agg (cS_fold_sheet y1)) [])] 1 (by kernel_rfl) (fold_sheet_fold_ok hy3) fun a w hm=>inBlock_norm (then_norm (((?_:T Try.prog e 42 _ _ _) a w hm)))
          refine T_reg_end [] [4,7,31,32,33] [(33,dI (IntKind.i64.wrap (v4+(1:Int))))] [] 2 (by kernel_rfl) (trivial) fun a w hm=>then_norm (⟨(y1.f0,y1.f1,y1.f2,IntKind.i64.wrap (v4+(1:Int))),h,hm.co (cs:=[.keep [4,7,31,32,33]]) (by show _=_; kernel_rfl)⟩)
        · have h:=cond_ff hc h
          obtain hs:=Option.some.inj h; subst hs
          refine T_exit fun a w hm=>then_exit (then_exit (inBlock_exit (then_norm (hm.co (cs:=[.keep [4,7]]) (by show _=_; kernel_rfl)))))
      · obtain ⟨v5,v6,v7⟩:=s
        try dsimp only at h
        refine fun a w hm=>then_norm (((?_:T Try.prog e 42 _ _ _) a w hm))
        refine T_reg [] [4,5] [(4,.box [dI v5,dI v6,.d (.sl 1 (v7.map (cL 4 cS_FoldLeaf)))]),(5,dI (0:Int))] [] 3 (by kernel_rfl) (trivial) ?_
        obtain hs:=Option.some.inj h; subst hs
        refine T_ret fun a w hm=>T_returnC (fr':=[(4,.box [dI v5,dI v6,.d (.sl 1 (v7.map (cL 4 cS_FoldLeaf)))]),(5,dI (0:Int))]) (ts:=[42,5]) (N':=43) (fr2:=[(42,.agg (cS_fold_sheet (S_fold_sheet.mk v5 v6 v7)))]++[(4,.box [dI v5,dI v6,.d (.sl 1 (v7.map (cL 4 cS_FoldLeaf)))]),(5,dI (0:Int))]) [.keep [4,5]] (by kernel_rfl) (by kernel_rfl) (by kernel_rfl) (by kernel_rfl) (by show _=_; kernel_rfl) (by exact trivial) a w hm
theorem fold_folded_ok {F:Nat} {a0:S_FoldScheme} {r:(List S_FoldLeaf)×Int×Int} (h:fold_folded F a0=some r):ACall Try.prog 45 [.agg (cS_FoldScheme a0)] [] (.tup [.d (.sl 4 (r.1.map cS_FoldLeaf)),.d (.v (.int .i64 r.2.1)),.d (.v (.int .i64 r.2.2))]) []:=by
  rw [fold_folded] at h
  refine ACall.intro (N:=45) Try.func45 rfl rfl rfl rfl rfl fun e=>?_
  refine T_reg [] [1] [(1,bx_FoldScheme a0)] [] 4 (by kernel_rfl) (trivial) ?_
  obtain ⟨y1,hy1,h⟩:=call_ok h
  refine T_reg [(3,{ rw:=some (dI (a0.f2.length:Int)) }),(4,{ res:=.tup [.agg (cS_fold_sheet y1.1),dI y1.2] })] [1,5,6] [(5,bx_fold_sheet y1.1),(6,dI y1.2)] [(3,True∧dI ((a0.f2.map cS_FoldStep).length:Int)=dI (a0.f2.length:Int)),(0,ACall Try.prog 65 [.agg (cS_FoldScheme a0),dI (a0.f2.length:Int)] [] (.tup [.agg (cS_fold_sheet y1.1),dI y1.2]) [])] 6 (by kernel_rfl) (⟨len_ok cS_FoldStep,fold_after_ok hy1⟩) ?_
  refine T_seqk ?_
  refine T_reg [] [1,5,6,17] [(17,dB (y1.2 != (0:Int)))] [] 2 (by kernel_rfl) (trivial) ?_
  refine T_cond (y1.2 != (0:Int)) (by kernel_rfl) (fun hc=>?_) (fun hc=>?_)
  · have h:=cond_tt hc h
    refine T_reg [] [2,3,4] [(2,oW3 []),(3,dI (0:Int)),(4,dI y1.2)] [] 4 (by kernel_rfl) (trivial) ?_
    obtain hs:=Option.some.inj h; subst hs
    refine T_ret fun a w hm=>then_ret (T_return (fr':=[(2,.d (.sl 4 ([].map cS_FoldLeaf))),(3,dI (0:Int)),(4,dI y1.2)]) [2,3,4] (by kernel_rfl) [.thaw 2,.keep [2,3,4]] (by kernel_rfl) (by kernel_rfl) (by kernel_rfl) (by show _=_; kernel_rfl) (by exact trivial) a w hm)
  · have h:=cond_ff hc h
    refine T_skip fun a w hm=>then_norm (((?_:T Try.prog e 45 _ _ _) a w hm))
    refine T_seqk ?_
    refine T_reg [] [1,5,26] [(26,dB (bif (y1.1.f0 != (1:Int)) then true else (y1.1.f1 != (1:Int))))] [(4,((((y1.1.f0 != (1:Int)) == false) && true)=true→True)),(0,((((y1.1.f0 != (1:Int)) == false) && true)=true→True)),(0,((((y1.1.f0 != (1:Int)) == false) && true)=true→True))] 1 (by kernel_rfl) (⟨(fun hg=>trivial),(fun hg=>trivial),(fun hg=>trivial)⟩) ?_
    refine T_cond (bif (y1.1.f0 != (1:Int)) then true else (y1.1.f1 != (1:Int))) (by kernel_rfl) (fun hc=>?_) (fun hc=>?_)
    · have h:=cond_tt hc h
      refine T_reg [] [2,3,4] [(2,oW3 []),(3,dI (0:Int)),(4,dI (9:Int))] [] 3 (by kernel_rfl) (trivial) ?_
      obtain hs:=Option.some.inj h; subst hs
      refine T_ret fun a w hm=>then_ret (T_return (fr':=[(2,.d (.sl 4 ([].map cS_FoldLeaf))),(3,dI (0:Int)),(4,dI (9:Int))]) [2,3,4] (by kernel_rfl) [.thaw 2,.keep [2,3,4]] (by kernel_rfl) (by kernel_rfl) (by kernel_rfl) (by show _=_; kernel_rfl) (by exact trivial) a w hm)
    · have h:=cond_ff hc h
      refine T_skip fun a w hm=>then_norm (((?_:T Try.prog e 45 _ _ _) a w hm))
      refine T_reg [] [1,5,7] [(7,dI (0:Int))] [] 1 (by kernel_rfl) (trivial) ?_
      refine T_joinc h (fun (p:Int)=>[(5,bx_fold_sheet y1.1),(7,dI p)]) (fun s h=>?_) (fun v1 h=>?_)
      · refine T_reg [(2,{ rw:=some (dI (a0.f2.length:Int)) })] [1,5,7,30] [(30,dB (decide ((a0.f2.length:Int) > (0:Int))))] [(2,True∧dI ((a0.f2.map cS_FoldStep).length:Int)=dI (a0.f2.length:Int))] 1 (by kernel_rfl) (len_ok cS_FoldStep) ?_
        refine T_cond (decide ((a0.f2.length:Int) > (0:Int))) (by kernel_rfl) (fun hc=>?_) (fun hc=>?_)
        · have h:=cond_tt hc h
          obtain ⟨hp1,h⟩:=chk_ok h
          obtain ⟨z1,hz1,h⟩:=lett_ok h
          obtain hs:=Option.some.inj h; subst hs
          refine T_reg_end [(4,{ rw:=some (dI (a0.f2.length:Int)) }),(6,{ cs:=cS_FoldStep (a0.f2.getD (IntKind.i64.wrap ((a0.f2.length:Int) - (1:Int))).toNat z_FoldStep) }),(8,{ rw:=some (dI z1) })] [5,7] [(7,dI z1)] [(4,True∧dI ((a0.f2.map cS_FoldStep).length:Int)=dI (a0.f2.length:Int)),(1,0≤(IntKind.i64.wrap ((a0.f2.length:Int) - (1:Int)))∧(a0.f2.map cS_FoldStep)[(IntKind.i64.wrap ((a0.f2.length:Int) - (1:Int))).toNat]? = some (cS_FoldStep (a0.f2.getD (IntKind.i64.wrap ((a0.f2.length:Int) - (1:Int))).toNat z_FoldStep))),(1,(True)∧dI ((a0.f2.getD (IntKind.i64.wrap ((a0.f2.length:Int) - (1:Int))).toNat z_FoldStep).f0)=dI z1)] 1 (by kernel_rfl) (⟨len_ok cS_FoldStep,idx_ok (d:=z_FoldStep) cS_FoldStep hp1,⟨trivial,(by subst hz1; rfl)⟩⟩) fun a w hm=>then_norm (hm.co (cs:=[.keep [5,7]]) (by show _=_; kernel_rfl))
        · have h:=cond_ff hc h
          obtain hs:=Option.some.inj h; subst hs
          refine T_skip fun a w hm=>then_norm (hm.co (cs:=[.keep [5,7]]) (by show _=_; kernel_rfl))
      · skip
        obtain ⟨hp2,h⟩:=chk_ok h
        refine T_reg [(2,{ cs:=(cL 4 cS_FoldLeaf) (y1.1.f2.getD (0:Int).toNat []) })] [2,3,4] [(2,.d (.sl 4 ((y1.1.f2.getD (0:Int).toNat []).map cS_FoldLeaf))),(3,dI v1),(4,dI (0:Int))] [(2,0≤(0:Int)∧(y1.1.f2.map (cL 4 cS_FoldLeaf))[(0:Int).toNat]? = some ((cL 4 cS_FoldLeaf) (y1.1.f2.getD (0:Int).toNat [])))] 5 (by kernel_rfl) (idx_ok (d:=[]) (cL 4 cS_FoldLeaf) hp2) ?_
        obtain hs:=Option.some.inj h; subst hs
        refine T_ret fun a w hm=>T_return (fr':=[(2,.d (.sl 4 ((y1.1.f2.getD (0:Int).toNat []).map cS_FoldLeaf))),(3,dI v1),(4,dI (0:Int))]) [2,3,4] (by kernel_rfl) [.keep [2,3,4]] (by kernel_rfl) (by kernel_rfl) (by kernel_rfl) (by show _=_; kernel_rfl) (by exact trivial) a w hm
theorem fold_Pages_c1_ok {F:Nat} {a0:Bool} {a1:Bool} {c2:Int} {c3:Int} {c4:Bool} {c5:Bool} {c6:Int} {c7:Int} {c8:Int} {c9:List S_FoldStep} {c10:List S_FoldPage} {r:Int×Int×Bool×Bool×Int×Int×Int×(List S_FoldStep)×(List S_FoldPage)} (h:fold_Pages_c1 F a0 a1 c2 c3 c4 c5 c6 c7 c8 c9 c10=some r):ACall Try.prog 46 [.d (.v (.bool a0)),.d (.v (.bool a1)),.bp 1000000 0,.bp 1000001 0,.bp 1000002 0,.bp 1000003 0] [.box [.d (.v (.int .i64 c2)),.d (.v (.int .i64 c3)),.d (.v (.bool c4)),.d (.v (.bool c5))],.box [.d (.v (.int .i64 c6))],.box [.d (.v (.int .i64 c7)),.d (.v (.int .i64 c8)),.d (.sl 3 (c9.map cS_FoldStep))],.box [.own 70 4 (c10.map cS_FoldPage)]] (.tup []) [.box [.d (.v (.int .i64 r.1)),.d (.v (.int .i64 r.2.1)),.d (.v (.bool r.2.2.1)),.d (.v (.bool r.2.2.2.1))],.box [.d (.v (.int .i64 r.2.2.2.2.1))],.box [.d (.v (.int .i64 r.2.2.2.2.2.1)),.d (.v (.int .i64 r.2.2.2.2.2.2.1)),.d (.sl 3 (r.2.2.2.2.2.2.2.1.map cS_FoldStep))],.box [.own 70 4 (r.2.2.2.2.2.2.2.2.map cS_FoldPage)]]:=by
  rw [fold_Pages_c1] at h
  refine ACall.intro (N:=33) Try.func46 rfl rfl rfl rfl rfl fun e=>?_
  refine T_reg [] [0,1,2,3,4,5,8,1000000,1000001,1000002,1000003] [(8,.box [dB a0,dI c2,dI c3,dI c6])] [] 9 (by kernel_rfl) (trivial) ?_
  refine T_joinc h (fun (p:Int)=>[(1,dB a1),(3,.bp 1000001 0),(5,.bp 1000003 0),(8,.box [dB a0,dI p,dI c3,dI c6]),(1000000,.box [dI c2,dI c3,dB c4,dB c5]),(1000001,.box [dI c6]),(1000002,.box [dI c7,dI c8,.d (.sl 3 (c9.map cS_FoldStep))]),(1000003,.box [oW4 c10])]) (fun s h=>?_) (fun v1 h=>?_)
  · refine T_reg [] [1,2,3,4,5,8,16,1000000,1000001,1000002,1000003] [(16,dB a0)] [] 1 (by kernel_rfl) (trivial) ?_
    refine T_cond a0 (by kernel_rfl) (fun hc=>?_) (fun hc=>?_)
    · have h:=cond_tt hc h
      obtain hs:=Option.some.inj h; subst hs
      refine T_reg_end [] [1,3,5,8,1000000,1000001,1000002,1000003] [(8,.box [dB a0,dI (IntKind.i64.wrap ((IntKind.i64.wrap (c7 - (1:Int))) - c2)),dI c3,dI c6])] [] 8 (by kernel_rfl) (trivial) fun a w hm=>then_norm (hm.co (cs:=[.keep [1,3,5,8,1000000,1000001,1000002,1000003]]) (by show _=_; kernel_rfl))
    · have h:=cond_ff hc h
      obtain hs:=Option.some.inj h; subst hs
      refine T_skip fun a w hm=>then_norm (hm.co (cs:=[.keep [1,3,5,8,1000000,1000001,1000002,1000003]]) (by show _=_; kernel_rfl))
  · skip
    refine T_joinc h (fun (p:Int)=>[(5,.bp 1000003 0),(8,.box [dB a0,dI v1,dI c3,dI p]),(1000000,.box [dI c2,dI c3,dB c4,dB c5]),(1000001,.box [dI c6]),(1000002,.box [dI c7,dI c8,.d (.sl 3 (c9.map cS_FoldStep))]),(1000003,.box [oW4 c10])]) (fun s h=>?_) (fun v2 h=>?_)
    · refine T_reg [] [3,5,8,24,1000000,1000001,1000002,1000003] [(24,dB a1)] [] 1 (by kernel_rfl) (trivial) ?_
      refine T_cond a1 (by kernel_rfl) (fun hc=>?_) (fun hc=>?_)
      · have h:=cond_tt hc h
        obtain hs:=Option.some.inj h; subst hs
        refine T_reg_end [] [5,8,1000000,1000001,1000002,1000003] [(8,.box [dB a0,dI v1,dI c3,dI ((IntKind.i64.wrap (c6+(2:Int))).tmod (4:Int))])] [(2,(4:Int)≠0)] 2 (by kernel_rfl) ((show (4:Int)≠0 by decide)) fun a w hm=>then_norm (hm.co (cs:=[.keep [5,8,1000000,1000001,1000002,1000003]]) (by show _=_; kernel_rfl))
      · have h:=cond_ff hc h
        obtain hs:=Option.some.inj h; subst hs
        refine T_skip fun a w hm=>then_norm (hm.co (cs:=[.keep [5,8,1000000,1000001,1000002,1000003]]) (by show _=_; kernel_rfl))
    · skip
      obtain ⟨hp1,h⟩:=chk_ok h
      obtain hs:=Option.some.inj h; subst hs
      refine T_reg_end [(2,{ es:=some (([(S_FoldPage.mk a0 v1 c3 v2)]).map cS_FoldPage) }),(3,{ es:=some ((c10++([(S_FoldPage.mk a0 v1 c3 v2)])).map cS_FoldPage) })] [1000000,1000001,1000002,1000003] [(1000003,.box [.own 70 4 ((c10++([(S_FoldPage.mk a0 v1 c3 v2)])).map cS_FoldPage)])] [(2,(([(S_FoldPage.mk a0 v1 c3 v2)]).map cS_FoldPage)=(([(S_FoldPage.mk a0 v1 c3 v2)]).map cS_FoldPage)),(0,(c10.map cS_FoldPage).length+(([(S_FoldPage.mk a0 v1 c3 v2)]).map cS_FoldPage).length≤4294967296∧(c10.map cS_FoldPage)++(([(S_FoldPage.mk a0 v1 c3 v2)]).map cS_FoldPage)=((c10++([(S_FoldPage.mk a0 v1 c3 v2)])).map cS_FoldPage))] 1 (by kernel_rfl) (⟨rfl,app_ok cS_FoldPage hp1⟩) fun a w hm=>T_return (fr':=[(1000000,.box [dI c2,dI c3,dB c4,dB c5]),(1000001,.box [dI c6]),(1000002,.box [dI c7,dI c8,.d (.sl 3 (c9.map cS_FoldStep))]),(1000003,.box [.own 70 4 ((c10++([(S_FoldPage.mk a0 v1 c3 v2)])).map cS_FoldPage)])]) [] (by kernel_rfl) [.keep [1000000,1000001,1000002,1000003]] (by kernel_rfl) (by kernel_rfl) (by kernel_rfl) (by show _=_; kernel_rfl) (by exact ⟨⟨by kernel_rfl,by kernel_rfl⟩,⟨⟨by kernel_rfl,by kernel_rfl⟩,⟨⟨by kernel_rfl,by kernel_rfl⟩,⟨⟨by kernel_rfl,by kernel_rfl⟩,trivial⟩⟩⟩⟩) a w hm
end Go.Vm.BinG
