import Derived.Test.YtbnneoaaeidenaaDoorProg
import Derived.Test.YtbnneoaaeidenaaDoorParA
import Derived.Test.YtbnneoaaeidenaaDoorParC
namespace Go.Vm.ParG
open Go.Proofs
set_option maxRecDepth 20000
theorem mixed:Tryd.prog.follows .mixedOrders=true:=by kernel_rfl
theorem para_letters_ok {F:Nat} {a0:List UInt8} {r:Bool} (h:para_letters F a0=some r):ACall Tryd.prog 15 [.d (.str a0)] [] (.d (.v (.bool r))) []:=by
  rw [para_letters] at h
  refine ACall.intro (N:=15) Tryd.func15 rfl rfl rfl rfl rfl fun e=>?_
  refine T_reg [] [0] [] [] 1 (by kernel_rfl) (trivial) ?_
  obtain ⟨hp1,h⟩:=chk_ok h
  obtain ⟨z1,hz1,h⟩:=lett_ok h
  obtain ⟨z2,hz2,h⟩:=lett_ok h
  refine T_reg [(9,{ res:=.d (.str (Lib.trimS a0 ([97,98,99,100,101,102,103,104,105,106,107,108,109,110,111,112,113,114,115,116,117,118,119,120,121,122]:List UInt8))) }),(10,{ rw:=some (.d (.v (.bool z1))) }),(11,{ rw:=some (.d (.v (.bool z2))) })] [2] [(2,.d (.v (.bool z2)))] [(3,((((!(a0 == [])) == true) && true)=true→True)),(0,((((!(a0 == [])) == true) && true)=true→True)),(0,((((!(a0 == [])) == true) && true)=true→True)),(2,((((bif (!(a0 == [])) then (decide ((a0.length:Int)≤(31:Int))) else false) == true) && true)=true→True)),(0,((((bif (!(a0 == [])) then (decide ((a0.length:Int)≤(31:Int))) else false) == true) && true)=true→ACall Tryd.prog 24 [.d (.str a0),.d (.str ([97,98,99,100,101,102,103,104,105,106,107,108,109,110,111,112,113,114,115,116,117,118,119,120,121,122]:List UInt8))] [] (.d (.str (Lib.trimS a0 ([97,98,99,100,101,102,103,104,105,106,107,108,109,110,111,112,113,114,115,116,117,118,119,120,121,122]:List UInt8)))) [])),(0,((((bif (!(a0 == [])) then (decide ((a0.length:Int)≤(31:Int))) else false) == true) && true)=true→(True)∧AV.d (.v (.bool ((Lib.trimS a0 ([97,98,99,100,101,102,103,104,105,106,107,108,109,110,111,112,113,114,115,116,117,118,119,120,121,122]:List UInt8)) == [])))=.d (.v (.bool z1)))),(0,(True)∧AV.d (.v (.bool (bif (bif (!(a0 == [])) then (decide ((a0.length:Int)≤(31:Int))) else false) then z1 else false)))=.d (.v (.bool z2)))] 1 (by kernel_rfl) (⟨(fun hg=>trivial),(fun hg=>trivial),(fun hg=>trivial),(fun hg=>trivial),(fun hg=>b_Trim (hp1 hg) (by decide)),(fun hg=>⟨trivial,(by subst hz1; rfl)⟩),⟨trivial,(by subst hz2; rfl)⟩⟩) ?_
  obtain hs:=Option.some.inj h; subst hs
  refine T_ret fun a w hm=>T_return (fr':=[(2,.d (.v (.bool z2)))]) [2] (by kernel_rfl) [.keep [2]] (by kernel_rfl) (by kernel_rfl) (by kernel_rfl) (by show _=_; kernel_rfl) (by exact trivial) a w hm
theorem strings_Builder_Len_ok {F:Nat} {c0:List UInt8} {r:Int×(List UInt8)} (h:strings_Builder_Len F c0=some r):ACall Tryd.prog 25 [.bp 1000000 0] [.box [.slf 0 67,.own 5 1 (c0.map cU)]] (.d (.v (.int .i64 r.1))) [.box [.slf 0 67,.own 5 1 (r.2.map cU)]]:=by
  rw [strings_Builder_Len] at h
  refine ACall.intro (N:=8) Tryd.func25 rfl rfl rfl rfl rfl fun e=>?_
  refine T_reg [] [0,1000000] [] [] 1 (by kernel_rfl) (trivial) ?_
  refine T_reg [(4,{ rw:=some (.d (.v (.int .i64 (c0.length:Int)))) })] [2,1000000] [(2,.d (.v (.int .i64 (c0.length:Int))))] [(4,True∧AV.d (.v (.int .i64 ((c0.map cU).length:Int)))=.d (.v (.int .i64 (c0.length:Int))))] 1 (by kernel_rfl) (len_ok cU) ?_
  obtain hs:=Option.some.inj h; subst hs
  refine T_ret fun a w hm=>T_return (fr':=[(2,.d (.v (.int .i64 (c0.length:Int)))),(1000000,.box [.slf 0 67,.own 5 1 (c0.map cU)])]) [2] (by kernel_rfl) [.keep [2,1000000]] (by kernel_rfl) (by kernel_rfl) (by kernel_rfl) (by show _=_; kernel_rfl) (by exact ⟨⟨by kernel_rfl,by kernel_rfl⟩,trivial⟩) a w hm
theorem strings_Builder_WriteByte_ok {F:Nat} {a0:Int} {c1:List UInt8} {r:Unit×(List UInt8)} (h:strings_Builder_WriteByte F a0 c1=some r):ACall Tryd.prog 26 [.bp 1000000 0,.d (.v (.int .u8 a0))] [.box [.slf 0 67,.own 5 1 (c1.map cU)]] (.d (.v .nilIface)) [.box [.slf 0 67,.own 5 1 (r.2.map cU)]]:=by
  rw [strings_Builder_WriteByte] at h
  refine ACall.intro (N:=17) Tryd.func26 rfl rfl rfl rfl rfl fun e=>?_
  refine T_reg [] [0,1,1000000] [] [] 1 (by kernel_rfl) (trivial) ?_
  refine T_reg [(1,{ xs:=[1000000],res:=.tup [],vout:=[.box [.slf 0 67,.own 5 1 (c1.map cU)]] })] [0,1,1000000] [] [(1,ACall Tryd.prog 37 [.bp 1000000 0] [.box [.slf 0 67,.own 5 1 (c1.map cU)]] (.tup []) [.box [.slf 0 67,.own 5 1 (c1.map cU)]])] 0 (by kernel_rfl) (b_copyCheck (E:=67) (by kernel_rfl) (by kernel_rfl) (by kernel_rfl)) ?_
  obtain ⟨hp1,h⟩:=chk_ok h
  obtain ⟨hp2,h⟩:=chk_ok h
  refine T_reg [(6,{ es:=some (([(UInt8.ofNat a0.toNat)]).map cU) }),(7,{ es:=some ((c1++([(UInt8.ofNat a0.toNat)])).map cU) })] [1000000] [(1000000,.box [.slf 0 67,.own 5 1 ((c1++([(UInt8.ofNat a0.toNat)])).map cU)])] [(6,[[Dat.v (.int .u8 a0)]]=(([(UInt8.ofNat a0.toNat)]).map cU)),(0,(c1.map cU).length+(([(UInt8.ofNat a0.toNat)]).map cU).length≤4294967296∧(c1.map cU)++(([(UInt8.ofNat a0.toNat)]).map cU)=((c1++([(UInt8.ofNat a0.toNat)])).map cU))] 3 (by kernel_rfl) (⟨(lit_u hp1 (rfl:([]:List (List Dat))=([]:List UInt8).map cU)),app_ok cU hp2⟩) ?_
  refine T_reg [] [4,1000000] [(4,.d (.v .nilIface))] [] 1 (by kernel_rfl) (trivial) ?_
  obtain hs:=Option.some.inj h; subst hs
  refine T_ret fun a w hm=>T_return (fr':=[(4,.d (.v .nilIface)),(1000000,.box [.slf 0 67,.own 5 1 ((c1++([(UInt8.ofNat a0.toNat)])).map cU)])]) [4] (by kernel_rfl) [.keep [4,1000000]] (by kernel_rfl) (by kernel_rfl) (by kernel_rfl) (by show _=_; kernel_rfl) (by exact ⟨⟨by kernel_rfl,by kernel_rfl⟩,trivial⟩) a w hm
theorem para_pattern_ok {F:Nat} {a0:List UInt8} {r:(List UInt8)×(List Int)×Bool} (h:para_pattern F a0=some r):ACall Tryd.prog 16 [.d (.str a0)] [] (.tup [.d (.str r.1),.own 3 1 (r.2.1.map (cI .i64)),.d (.v (.bool r.2.2))]) []:=by
  rw [para_pattern] at h
  refine ACall.intro (N:=80) Tryd.func16 rfl rfl rfl rfl rfl fun e=>?_
  refine T_reg [] [0] [] [] 3 (by kernel_rfl) (trivial) ?_
  refine T_reg [(0,{ slfs:=[(0,0)] })] [0,5] [(5,.box [.slf 0 67,.own 5 1 ([].map cU)])] [] 1 (by kernel_rfl) (trivial) ?_
  refine T_reg [(0,{ es:=some (([(0:Int)]).map (cI .i64)) })] [0,5,6] [(6,.own 3 1 (([(0:Int)]).map (cI .i64)))] [(0,(([(0:Int)]).map (cI .i64))=(([(0:Int)]).map (cI .i64)))] 1 (by kernel_rfl) (rfl) ?_
  refine T_reg [] [0,5,6,7] [(7,.d (.v (.bool false)))] [] 1 (by kernel_rfl) (trivial) ?_
  refine T_seqk ?_
  refine T_reg [] [0,5,6,7,13,14] [(13,.d (.v (.int .i64 (a0.length:Int)))),(14,.d (.v (.int .i64 (0:Int))))] [] 3 (by kernel_rfl) (trivial) ?_
  refine T_joinEt h (fun (p:(List UInt8)×(List Int))=>[(0,.d (.str a0)),(5,.box [.slf 0 67,.own 5 1 (p.1.map cU)]),(6,.own 3 1 (p.2.map (cI .i64)))]) (fun s h hk1=>?_) (fun s h=>?_)
  · refine T_co [.keep [0,5,6,7,13,14]] ((fun (p:(List UInt8)×(List Int)×Bool×Int)=>[(0,.d (.str a0)),(5,.box [.slf 0 67,.own 5 1 (p.1.map cU)]),(6,.own 3 1 (p.2.1.map (cI .i64))),(7,.d (.v (.bool p.2.2.1))),(13,.d (.v (.int .i64 (a0.length:Int)))),(14,.d (.v (.int .i64 p.2.2.2)))]) ([],[(0:Int)],false,(0:Int))) (by show _=_; kernel_rfl) ?_
    refine T_block ?_
    refine T_loopF (ι:=(List UInt8)×(List Int)×Bool×Int) (fun (p:(List UInt8)×(List Int)×Bool×Int)=>[(0,.d (.str a0)),(5,.box [.slf 0 67,.own 5 1 (p.1.map cU)]),(6,.own 3 1 (p.2.1.map (cI .i64))),(7,.d (.v (.bool p.2.2.1))),(13,.d (.v (.int .i64 (a0.length:Int)))),(14,.d (.v (.int .i64 p.2.2.2)))]) (fun n p=>para_pattern_L0 F a0 n p.1 p.2.1 p.2.2.1 p.2.2.2=some s) (fun i hh=>by simp [para_pattern_L0] at hh) (fun n p h=>?_) F ([],[(0:Int)],false,(0:Int)) h
    obtain ⟨v1,v2,v3,v4⟩:=p
    have h:para_pattern_L0 F a0 (n+1) v1 v2 v3 v4=some s:=h
    rw [para_pattern_L0] at h
    refine T_reg [] [0,5,6,7,13,14,15] [(15,.d (.v (.bool (decide (v4 < (a0.length:Int))))))] [] 1 (by kernel_rfl) (trivial) ?_
    refine T_seqk ?_
    refine T_cond (decide (v4 < (a0.length:Int))) (by kernel_rfl) (fun hc=>?_) (fun hc=>?_)
    · have h:=cond_tt hc h
      refine T_skip fun a w hm=>then_norm (((?_:T Tryd.prog e 80 _ _ _) a w hm))
      refine T_joinE h (fun (p:(List UInt8)×(List Int)×Bool)=>[(0,.d (.str a0)),(5,.box [.slf 0 67,.own 5 1 (p.1.map cU)]),(6,.own 3 1 (p.2.1.map (cI .i64))),(7,.d (.v (.bool p.2.2))),(13,.d (.v (.int .i64 (a0.length:Int)))),(14,.d (.v (.int .i64 v4)))]) (fun s h hk2=>?_) (fun s h=>?_)
      · refine T_block ?_
        refine T_reg [] [0,5,6,7,8,13,14] [(8,.d (.v (.int .i64 v4)))] [] 2 (by kernel_rfl) (trivial) ?_
        obtain ⟨hp1,h⟩:=chk_ok h
        refine T_reg [] [0,5,6,7,8,9,13,14] [(9,.d (.v (.int .u8 ((a0.getD v4.toNat 0).toNat:Int))))] [(2,0≤v4∧v4 < a0.length)] 1 (by kernel_rfl) (hp1) ?_
        refine T_seqk ?_
        refine T_block ?_
        obtain ⟨z1,hz1,h⟩:=lett_ok h
        refine T_reg [(5,{ rw:=some (.d (.v (.bool z1))) })] [0,5,6,8,9,13,14,20] [(20,.d (.v (.bool (bif z1 then (!v3) else false))))] [(3,((((decide ((49:Int)≤((a0.getD v4.toNat 0).toNat:Int))) == true) && true)=true→True)),(0,((((decide ((49:Int)≤((a0.getD v4.toNat 0).toNat:Int))) == true) && true)=true→True)),(0,(True)∧AV.d (.v (.bool (bif (decide ((49:Int)≤((a0.getD v4.toNat 0).toNat:Int))) then (decide (((a0.getD v4.toNat 0).toNat:Int)≤(57:Int))) else false)))=.d (.v (.bool z1))),(1,(((z1 == true) && true)=true→True)),(0,(((z1 == true) && true)=true→True))] 2 (by kernel_rfl) (⟨(fun hg=>trivial),(fun hg=>trivial),⟨trivial,(by subst hz1; rfl)⟩,(fun hg=>trivial),(fun hg=>trivial)⟩) ?_
        refine T_cond (bif z1 then (!v3) else false) (by kernel_rfl) (fun hc=>?_) (fun hc=>?_)
        · have h:=cond_tt hc h
          obtain ⟨hp2,h⟩:=chk_ok h
          refine T_reg [(2,{ rw:=some (.d (.v (.int .i64 (v2.length:Int)))) }),(8,{ cs:=(cI .i64) (v2.getD (IntKind.i64.wrap ((v2.length:Int) - (1:Int))).toNat 0),es:=some ((v2.set (IntKind.i64.wrap ((v2.length:Int) - (1:Int))).toNat (IntKind.i64.wrap (IntKind.u8.wrap (((a0.getD v4.toNat 0).toNat:Int) - (48:Int))))).map (cI .i64)) })] [0,5,6,7,13,14] [(6,.own 3 1 ((v2.set (IntKind.i64.wrap ((v2.length:Int) - (1:Int))).toNat (IntKind.i64.wrap (IntKind.u8.wrap (((a0.getD v4.toNat 0).toNat:Int) - (48:Int))))).map (cI .i64))),(7,.d (.v (.bool true)))] [(2,True∧AV.d (.v (.int .i64 ((v2.map (cI .i64)).length:Int)))=.d (.v (.int .i64 (v2.length:Int)))),(4,0≤(IntKind.i64.wrap ((v2.length:Int) - (1:Int)))∧(IntKind.i64.wrap ((v2.length:Int) - (1:Int))) < (v2.map (cI .i64)).length),(0,(v2.map (cI .i64))[(IntKind.i64.wrap ((v2.length:Int) - (1:Int))).toNat]? = some ((cI .i64) (v2.getD (IntKind.i64.wrap ((v2.length:Int) - (1:Int))).toNat 0))∧(v2.map (cI .i64)).set (IntKind.i64.wrap ((v2.length:Int) - (1:Int))).toNat ((cI .i64) (IntKind.i64.wrap (IntKind.u8.wrap (((a0.getD v4.toNat 0).toNat:Int) - (48:Int)))))=((v2.set (IntKind.i64.wrap ((v2.length:Int) - (1:Int))).toNat (IntKind.i64.wrap (IntKind.u8.wrap (((a0.getD v4.toNat 0).toNat:Int) - (48:Int))))).map (cI .i64)))] 1 (by kernel_rfl) (⟨len_ok (cI .i64),own_idx (cI .i64) hp2,⟨(idx_ok (d:=0) (cI .i64) hp2).2,set_ok (cI .i64) rfl⟩⟩) ?_
          obtain hs:=Option.some.inj h; subst hs
          refine T_exit fun a w hm=>inBlock_pass rfl (then_exit (inBlock_exit (then_norm (⟨_,rfl,hm.co (cs:=[.keep [0,5,6,7,13,14]]) (by show _=_; kernel_rfl)⟩))))
        · have h:=cond_ff hc h
          refine T_joinc h (fun (p:Bool)=>[(0,.d (.str a0)),(5,.box [.slf 0 67,.own 5 1 (v1.map cU)]),(6,.own 3 1 (v2.map (cI .i64))),(9,.d (.v (.int .u8 ((a0.getD v4.toNat 0).toNat:Int)))),(13,.d (.v (.int .i64 (a0.length:Int)))),(14,.d (.v (.int .i64 v4))),(39,.d (.v (.bool p)))]) (fun s h=>?_) (fun v5 h=>?_)
          · obtain ⟨z2,hz2,h⟩:=lett_ok h
            refine T_reg [(3,{ res:=.d (.v (.int .i64 (v1.length:Int))),vout:=[.box [.slf 0 67,.own 5 1 (v1.map cU)]],xs:=[5] }),(5,{ rw:=some (.d (.v (.bool z2))) })] [0,5,6,9,13,14,39] [(39,.d (.v (.bool (bif z2 then (decide (v4 < (IntKind.i64.wrap ((a0.length:Int) - (1:Int))))) else false))))] [(3,((((((a0.getD v4.toNat 0).toNat:Int) == (46:Int)) == true) && true)=true→ACall Tryd.prog 25 [.bp 1000000 0] [.box [.slf 0 67,.own 5 1 (v1.map cU)]] (.d (.v (.int .i64 (v1.length:Int)))) [.box [.slf 0 67,.own 5 1 (v1.map cU)]])),(0,((((((a0.getD v4.toNat 0).toNat:Int) == (46:Int)) == true) && true)=true→True)),(0,(True)∧AV.d (.v (.bool (bif (((a0.getD v4.toNat 0).toNat:Int) == (46:Int)) then (decide ((v1.length:Int) > (0:Int))) else false)))=.d (.v (.bool z2))),(1,(((z2 == true) && true)=true→True)),(0,(((z2 == true) && true)=true→True)),(0,(((z2 == true) && true)=true→True)),(0,(((z2 == true) && true)=true→True)),(0,(((z2 == true) && true)=true→True))] 2 (by kernel_rfl) (⟨(fun hg=>strings_Builder_Len_ok (F:=0) rfl),(fun hg=>trivial),⟨trivial,(by subst hz2; rfl)⟩,(fun hg=>trivial),(fun hg=>trivial),(fun hg=>trivial),(fun hg=>trivial),(fun hg=>trivial)⟩) ?_
            refine T_cond (bif z2 then (decide (v4 < (IntKind.i64.wrap ((a0.length:Int) - (1:Int))))) else false) (by kernel_rfl) (fun hc=>?_) (fun hc=>?_)
            · have h:=cond_tt hc h
              obtain hs:=Option.some.inj h; subst hs
              refine T_skip fun a w hm=>then_norm (hm.co (cs:=[.keep [0,5,6,9,13,14,39]]) (by show _=_; kernel_rfl))
            · have h:=cond_ff hc h
              obtain ⟨z3,hz3,h⟩:=lett_ok h
              obtain hs:=Option.some.inj h; subst hs
              refine T_reg_end [(8,{ rw:=some (.d (.v (.bool z3))) })] [0,5,6,9,13,14,39] [(39,.d (.v (.bool (bif (((a0.getD v4.toNat 0).toNat:Int) != (46:Int)) then z3 else false))))] [(3,((((((a0.getD v4.toNat 0).toNat:Int) != (46:Int)) == true) && true)=true→True)),(0,((((((a0.getD v4.toNat 0).toNat:Int) != (46:Int)) == true) && true)=true→True)),(0,((((((a0.getD v4.toNat 0).toNat:Int) != (46:Int)) == true) && true)=true→True)),(0,((((decide (((a0.getD v4.toNat 0).toNat:Int) < (97:Int))) == false) && (((((a0.getD v4.toNat 0).toNat:Int) != (46:Int)) == true) && true))=true→True)),(0,((((decide (((a0.getD v4.toNat 0).toNat:Int) < (97:Int))) == false) && (((((a0.getD v4.toNat 0).toNat:Int) != (46:Int)) == true) && true))=true→True)),(0,((((((a0.getD v4.toNat 0).toNat:Int) != (46:Int)) == true) && true)=true→(True)∧AV.d (.v (.bool (bif (decide (((a0.getD v4.toNat 0).toNat:Int) < (97:Int))) then true else (decide (((a0.getD v4.toNat 0).toNat:Int) > (122:Int))))))=.d (.v (.bool z3))))] 2 (by kernel_rfl) (⟨(fun hg=>trivial),(fun hg=>trivial),(fun hg=>trivial),(fun hg=>trivial),(fun hg=>trivial),(fun hg=>⟨trivial,(by subst hz3; rfl)⟩)⟩) fun a w hm=>then_norm (hm.co (cs:=[.keep [0,5,6,9,13,14,39]]) (by show _=_; kernel_rfl))
          · skip
            refine T_cond v5 (by kernel_rfl) (fun hc=>?_) (fun hc=>?_)
            · have h:=cond_tt hc h
              refine T_reg [] [2,3,4] [(2,.d (.str [])),(3,.own 3 1 ([].map (cI .i64))),(4,.d (.v (.bool false)))] [] 3 (by kernel_rfl) (trivial) ?_
              obtain hs:=Option.some.inj h; subst hs
              have h:=callE_esc hk2
              obtain hs:=Option.some.inj h; subst hs
              have h:=callE_esc hk1
              obtain hs:=Option.some.inj h; subst hs
              refine T_ret fun a w hm=>inBlock_ret (then_ret (inBlock_ret (then_ret (then_ret (inBlock_ret (then_ret (then_ret (T_return (fr':=[(2,.d (.str [])),(3,.own 3 1 ([].map (cI .i64))),(4,.d (.v (.bool false)))]) [2,3,4] (by kernel_rfl) [.keep [2,3,4]] (by kernel_rfl) (by kernel_rfl) (by kernel_rfl) (by show _=_; kernel_rfl) (by exact trivial) a w hm))))))))
            · have h:=cond_ff hc h
              refine T_skip fun a w hm=>inBlock_norm (then_norm (((?_:T Tryd.prog e 80 _ _ _) a w hm)))
              obtain ⟨y1,hy1,h⟩:=call_ok h
              refine T_reg [(1,{ res:=.d (.v .nilIface),vout:=[.box [.slf 0 67,.own 5 1 (y1.2.map cU)]],xs:=[5] })] [0,5,6,13,14] [(5,.box [.slf 0 67,.own 5 1 (y1.2.map cU)])] [(1,ACall Tryd.prog 26 [.bp 1000000 0,.d (.v (.int .u8 ((a0.getD v4.toNat 0).toNat:Int)))] [.box [.slf 0 67,.own 5 1 (v1.map cU)]] (.d (.v .nilIface)) [.box [.slf 0 67,.own 5 1 (y1.2.map cU)]])] 0 (by kernel_rfl) (strings_Builder_WriteByte_ok hy1) ?_
              obtain ⟨hp3,h⟩:=chk_ok h
              obtain hs:=Option.some.inj h; subst hs
              refine T_reg_end [(1,{ es:=some (([(0:Int)]).map (cI .i64)) }),(2,{ es:=some ((v2++([(0:Int)])).map (cI .i64)) })] [0,5,6,7,13,14] [(6,.own 3 1 ((v2++([(0:Int)])).map (cI .i64))),(7,.d (.v (.bool false)))] [(1,(([(0:Int)]).map (cI .i64))=(([(0:Int)]).map (cI .i64))),(0,(v2.map (cI .i64)).length+(([(0:Int)]).map (cI .i64)).length≤4294967296∧(v2.map (cI .i64))++(([(0:Int)]).map (cI .i64))=((v2++([(0:Int)])).map (cI .i64)))] 2 (by kernel_rfl) (⟨rfl,app_ok (cI .i64) hp3⟩) fun a w hm=>inBlock_norm (then_norm (⟨_,rfl,hm.co (cs:=[.keep [0,5,6,7,13,14]]) (by show _=_; kernel_rfl)⟩))
      · obtain ⟨v6,v7,v8⟩:=s
        try dsimp only at h
        refine T_reg_end [] [0,5,6,7,13,14] [(14,.d (.v (.int .i64 (IntKind.i64.wrap (v4+(1:Int))))))] [] 2 (by kernel_rfl) (trivial) fun a w hm=>then_norm (⟨(v6,v7,v8,IntKind.i64.wrap (v4+(1:Int))),h,hm.co (cs:=[.keep [0,5,6,7,13,14]]) (by show _=_; kernel_rfl)⟩)
    · have h:=cond_ff hc h
      obtain hs:=Option.some.inj h; subst hs
      refine T_exit fun a w hm=>then_exit (then_exit (inBlock_exit (then_norm (⟨_,rfl,hm.co (cs:=[.keep [0,5,6]]) (by show _=_; kernel_rfl)⟩))))
  · obtain ⟨v9,v10⟩:=s
    try dsimp only at h
    refine fun a w hm=>then_norm (((?_:T Tryd.prog e 80 _ _ _) a w hm))
    obtain ⟨hp4,h⟩:=chk_ok h
    refine T_reg [(0,{ xs:=[5],vout:=[.box [.slf 0 67,.junk]],res:=.d (.str v9) })] [0,6,10] [(10,.d (.str v9))] [(0,ACall Tryd.prog 27 [.bp 1000000 0] [.box [.slf 0 67,.own 5 1 (v9.map cU)]] (.d (.str v9)) [.box [.slf 0 67,.junk]])] 1 (by kernel_rfl) (b_String (l:=v9) hp4 (by kernel_rfl) (by kernel_rfl)) ?_
    obtain ⟨hp5,h⟩:=chk_ok h
    obtain ⟨z4,hz4,h⟩:=lett_ok h
    refine T_reg [(3,{ res:=.d (.str (Lib.trimS v9 ([46]:List UInt8))) }),(9,{ rw:=some (.d (.v (.bool z4))) })] [2,3,4,6] [(2,.d (.str v9)),(3,.vw (6,0)),(4,.d (.v (.bool z4)))] [(3,ACall Tryd.prog 24 [.d (.str v9),.d (.str ([46]:List UInt8))] [] (.d (.str (Lib.trimS v9 ([46]:List UInt8)))) []),(2,((((!((Lib.trimS v9 ([46]:List UInt8)) == [])) == true) && true)=true→True)),(0,((((!((Lib.trimS v9 ([46]:List UInt8)) == [])) == true) && true)=true→True)),(0,((((!((Lib.trimS v9 ([46]:List UInt8)) == [])) == true) && true)=true→True)),(0,(True)∧AV.d (.v (.bool (bif (!((Lib.trimS v9 ([46]:List UInt8)) == [])) then (decide ((a0.length:Int)≤(16:Int))) else false)))=.d (.v (.bool z4)))] 3 (by kernel_rfl) (⟨b_Trim hp5 (by decide),(fun hg=>trivial),(fun hg=>trivial),(fun hg=>trivial),⟨trivial,(by subst hz4; rfl)⟩⟩) ?_
    obtain hs:=Option.some.inj h; subst hs
    refine T_ret fun a w hm=>T_return (fr':=[(2,.d (.str v9)),(3,.own 3 1 (v10.map (cI .i64))),(4,.d (.v (.bool z4)))]) [2,3,4] (by kernel_rfl) [.claim 3,.keep [2,3,4]] (by kernel_rfl) (by kernel_rfl) (by kernel_rfl) (by show _=_; kernel_rfl) (by exact trivial) a w hm
end Go.Vm.ParG
