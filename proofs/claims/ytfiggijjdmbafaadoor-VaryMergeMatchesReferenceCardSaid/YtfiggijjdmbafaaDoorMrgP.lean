import Derived.Test.YtfiggijjdmbafaaDoorProg
import Derived.Test.YtfiggijjdmbafaaDoorMrgF
import Derived.Test.YtfiggijjdmbafaaDoorMrgB
namespace Go.Vm.MrgG
open Go.Proofs
set_option maxRecDepth 20000
variable {gm0:Int}
theorem mixed:Tryd.prog.follows .mixedOrders=true:=by kernel_rfl
theorem vary_plain_ok {F:Nat} {a0:List UInt8} {r:Bool} (h:vary_plain F a0=some r):ACall Tryd.prog 30 [.d (.str a0)] [] (.d (.v (.bool r))) []:=by
  rw [vary_plain] at h
  refine ACall.intro (N:=45) Tryd.func30 rfl rfl rfl rfl rfl fun e=>?_
  refine T_reg [] [0] [] [] 1 (by kernel_rfl) (trivial) ?_
  refine T_seqk ?_
  refine T_reg [] [0,6,7] [(6,.d (.v (.int .i64 (a0.length:Int)))),(7,.d (.v (.int .i64 (0:Int))))] [] 3 (by kernel_rfl) (trivial) ?_
  refine T_joinEt h (fun (p:Unit)=>[(0,.d (.str a0))]) (fun s h hk1=>?_) (fun s h=>?_)
  · refine T_co [.keep [0,6,7]] ((fun (p:Int)=>[(0,.d (.str a0)),(6,.d (.v (.int .i64 (a0.length:Int)))),(7,.d (.v (.int .i64 p)))]) (0:Int)) (by show _=_; kernel_rfl) ?_
    refine T_block ?_
    refine T_loopF (ι:=Int) (fun (p:Int)=>[(0,.d (.str a0)),(6,.d (.v (.int .i64 (a0.length:Int)))),(7,.d (.v (.int .i64 p)))]) (fun n p=>vary_plain_L0 F a0 n p=some s) (fun i hh=>by simp [vary_plain_L0] at hh) (fun n v1 h=>?_) F (0:Int) h
    have h:vary_plain_L0 F a0 (n+1) v1=some s:=h
    rw [vary_plain_L0] at h
    refine T_reg [] [0,6,7,8] [(8,.d (.v (.bool (decide (v1 < (a0.length:Int))))))] [] 1 (by kernel_rfl) (trivial) ?_
    refine T_seqk ?_
    refine T_cond (decide (v1 < (a0.length:Int))) (by kernel_rfl) (fun hc=>?_) (fun hc=>?_)
    · have h:=cond_tt hc h
      refine T_skip fun a w hm=>then_norm (((?_:T Tryd.prog e 45 _ _ _) a w hm))
      refine T_seqk ?_
      refine T_block ?_
      refine T_reg [] [0,3,6,7] [(3,.d (.v (.int .i64 v1)))] [] 2 (by kernel_rfl) (trivial) ?_
      obtain ⟨hp1,h⟩:=chk_ok h
      refine T_reg [] [0,3,4,6,7] [(4,.d (.v (.int .u8 ((a0.getD v1.toNat 0).toNat:Int))))] [(2,0≤v1∧v1 < a0.length)] 1 (by kernel_rfl) (hp1) ?_
      obtain ⟨z1,hz1,h⟩:=lett_ok h
      obtain ⟨z2,hz2,h⟩:=lett_ok h
      obtain ⟨z3,hz3,h⟩:=lett_ok h
      refine T_reg [(5,{ rw:=some (.d (.v (.bool z1))) }),(16,{ rw:=some (.d (.v (.bool z2))) }),(22,{ rw:=some (.d (.v (.bool z3))) })] [0,6,7,36] [(36,.d (.v (.bool (bif (!z1) then z3 else false))))] [(3,((((decide ((97:Int)≤((a0.getD v1.toNat 0).toNat:Int))) == true) && true)=true→True)),(0,((((decide ((97:Int)≤((a0.getD v1.toNat 0).toNat:Int))) == true) && true)=true→True)),(0,(True)∧AV.d (.v (.bool (bif (decide ((97:Int)≤((a0.getD v1.toNat 0).toNat:Int))) then (decide (((a0.getD v1.toNat 0).toNat:Int)≤(122:Int))) else false)))=.d (.v (.bool z1))),(2,((((!z1) == true) && true)=true→True)),(0,((((!z1) == true) && true)=true→True)),(0,((((!z1) == true) && true)=true→True)),(0,((((v1 == (0:Int)) == false) && (((!z1) == true) && true))=true→True)),(0,((((v1 == (0:Int)) == false) && (((!z1) == true) && true))=true→True)),(0,((((v1 == (0:Int)) == false) && (((!z1) == true) && true))=true→True)),(0,((((decide ((48:Int)≤((a0.getD v1.toNat 0).toNat:Int))) == true) && (((v1 == (0:Int)) == false) && (((!z1) == true) && true)))=true→True)),(0,((((decide ((48:Int)≤((a0.getD v1.toNat 0).toNat:Int))) == true) && (((v1 == (0:Int)) == false) && (((!z1) == true) && true)))=true→True)),(0,((((v1 == (0:Int)) == false) && (((!z1) == true) && true))=true→(True)∧AV.d (.v (.bool (bif (decide ((48:Int)≤((a0.getD v1.toNat 0).toNat:Int))) then (decide (((a0.getD v1.toNat 0).toNat:Int)≤(57:Int))) else false)))=.d (.v (.bool z2)))),(0,((((v1 == (0:Int)) == false) && (((!z1) == true) && true))=true→True)),(0,((((v1 == (0:Int)) == false) && (((!z1) == true) && true))=true→True)),(0,((((!z2) == true) && (((v1 == (0:Int)) == false) && (((!z1) == true) && true)))=true→True)),(0,((((!z2) == true) && (((v1 == (0:Int)) == false) && (((!z1) == true) && true)))=true→True)),(0,((((v1 == (0:Int)) == false) && (((!z1) == true) && true))=true→True)),(0,((((!z1) == true) && true)=true→(True)∧AV.d (.v (.bool (bif (v1 == (0:Int)) then true else (bif (!z2) then (((a0.getD v1.toNat 0).toNat:Int) != (45:Int)) else false))))=.d (.v (.bool z3))))] 1 (by kernel_rfl) (⟨(fun hg=>trivial),(fun hg=>trivial),⟨trivial,(by subst hz1; rfl)⟩,(fun hg=>trivial),(fun hg=>trivial),(fun hg=>trivial),(fun hg=>trivial),(fun hg=>trivial),(fun hg=>trivial),(fun hg=>trivial),(fun hg=>trivial),(fun hg=>⟨trivial,(by subst hz2; rfl)⟩),(fun hg=>trivial),(fun hg=>trivial),(fun hg=>trivial),(fun hg=>trivial),(fun hg=>trivial),(fun hg=>⟨trivial,(by subst hz3; rfl)⟩)⟩) ?_
      refine T_cond (bif (!z1) then z3 else false) (by kernel_rfl) (fun hc=>?_) (fun hc=>?_)
      · have h:=cond_tt hc h
        refine T_reg [] [2] [(2,.d (.v (.bool false)))] [] 1 (by kernel_rfl) (trivial) ?_
        obtain hs:=Option.some.inj h; subst hs
        have h:=callE_esc hk1
        obtain hs:=Option.some.inj h; subst hs
        refine T_ret fun a w hm=>inBlock_ret (then_ret (then_ret (inBlock_ret (then_ret (then_ret (T_return (fr':=[(2,.d (.v (.bool false)))]) [2] (by kernel_rfl) [.keep [2]] (by kernel_rfl) (by kernel_rfl) (by kernel_rfl) (by show _=_; kernel_rfl) (by exact trivial) a w hm))))))
      · have h:=cond_ff hc h
        refine T_skip fun a w hm=>inBlock_norm (then_norm (((?_:T Tryd.prog e 45 _ _ _) a w hm)))
        refine T_reg_end [] [0,6,7] [(7,.d (.v (.int .i64 (IntKind.i64.wrap (v1+(1:Int))))))] [] 2 (by kernel_rfl) (trivial) fun a w hm=>then_norm (⟨IntKind.i64.wrap (v1+(1:Int)),h,hm.co (cs:=[.keep [0,6,7]]) (by show _=_; kernel_rfl)⟩)
    · have h:=cond_ff hc h
      obtain hs:=Option.some.inj h; subst hs
      refine T_exit fun a w hm=>then_exit (then_exit (inBlock_exit (then_norm (⟨_,rfl,hm.co (cs:=[.keep [0]]) (by show _=_; kernel_rfl)⟩))))
  · skip
    refine fun a w hm=>then_norm (((?_:T Tryd.prog e 45 _ _ _) a w hm))
    refine T_reg [] [2] [(2,.d (.v (.bool (bif (!(a0 == [])) then (decide ((a0.length:Int)≤(16:Int))) else false))))] [(3,((((!(a0 == [])) == true) && true)=true→True)),(0,((((!(a0 == [])) == true) && true)=true→True)),(0,((((!(a0 == [])) == true) && true)=true→True))] 2 (by kernel_rfl) (⟨(fun hg=>trivial),(fun hg=>trivial),(fun hg=>trivial)⟩) ?_
    obtain hs:=Option.some.inj h; subst hs
    refine T_ret fun a w hm=>T_return (fr':=[(2,.d (.v (.bool (bif (!(a0 == [])) then (decide ((a0.length:Int)≤(16:Int))) else false))))]) [2] (by kernel_rfl) [.keep [2]] (by kernel_rfl) (by kernel_rfl) (by kernel_rfl) (by show _=_; kernel_rfl) (by exact trivial) a w hm
theorem slices_Index_string_ok {F:Nat} {a0:List (List UInt8)} {a1:List UInt8} {r:Int} (h:slices_Index_string F a0 a1=some r):ACall Tryd.prog 42 [.d (.sl 1 (a0.map cS)),.d (.str a1)] [] (.d (.v (.int .i64 r))) []:=by
  rw [slices_Index_string] at h
  refine ACall.intro (N:=19) Tryd.func42 rfl rfl rfl rfl rfl fun e=>?_
  refine T_reg [] [0,1] [] [] 1 (by kernel_rfl) (trivial) ?_
  refine T_seqk ?_
  refine T_reg [(1,{ rw:=some (.d (.v (.int .i64 (a0.length:Int)))) })] [0,1,7,8] [(7,.d (.v (.int .i64 (a0.length:Int)))),(8,.d (.v (.int .i64 (0:Int))))] [(1,True∧AV.d (.v (.int .i64 ((a0.map cS).length:Int)))=.d (.v (.int .i64 (a0.length:Int))))] 1 (by kernel_rfl) (len_ok cS) ?_
  refine T_joinEt h (fun (p:Unit)=>[]) (fun s h hk1=>?_) (fun s h=>?_)
  · refine T_co [.keep [0,1,7,8]] ((fun (p:Int)=>[(0,.d (.sl 1 (a0.map cS))),(1,.d (.str a1)),(7,.d (.v (.int .i64 (a0.length:Int)))),(8,.d (.v (.int .i64 p)))]) (0:Int)) (by show _=_; kernel_rfl) ?_
    refine T_block ?_
    refine T_loopF (ι:=Int) (fun (p:Int)=>[(0,.d (.sl 1 (a0.map cS))),(1,.d (.str a1)),(7,.d (.v (.int .i64 (a0.length:Int)))),(8,.d (.v (.int .i64 p)))]) (fun n p=>slices_Index_string_L0 F a0 a1 n p=some s) (fun i hh=>by simp [slices_Index_string_L0] at hh) (fun n v1 h=>?_) F (0:Int) h
    have h:slices_Index_string_L0 F a0 a1 (n+1) v1=some s:=h
    rw [slices_Index_string_L0] at h
    refine T_reg [] [0,1,7,8,9] [(9,.d (.v (.bool (decide (v1 < (a0.length:Int))))))] [] 1 (by kernel_rfl) (trivial) ?_
    refine T_seqk ?_
    refine T_cond (decide (v1 < (a0.length:Int))) (by kernel_rfl) (fun hc=>?_) (fun hc=>?_)
    · have h:=cond_tt hc h
      refine T_skip fun a w hm=>then_norm (((?_:T Tryd.prog e 19 _ _ _) a w hm))
      refine T_seqk ?_
      refine T_block ?_
      refine T_reg [] [0,1,5,7,8] [(5,.d (.v (.int .i64 v1)))] [] 2 (by kernel_rfl) (trivial) ?_
      obtain ⟨hp1,h⟩:=chk_ok h
      refine T_reg [(3,{ cs:=cS (a0.getD v1.toNat []) })] [0,1,5,7,8,16] [(16,.d (.v (.bool (a1 == (a0.getD v1.toNat [])))))] [(3,0≤v1∧(a0.map cS)[v1.toNat]? = some (cS (a0.getD v1.toNat [])))] 2 (by kernel_rfl) (idx_ok (d:=[]) cS hp1) ?_
      refine T_cond (a1 == (a0.getD v1.toNat [])) (by kernel_rfl) (fun hc=>?_) (fun hc=>?_)
      · have h:=cond_tt hc h
        refine T_reg [] [4] [(4,.d (.v (.int .i64 v1)))] [] 2 (by kernel_rfl) (trivial) ?_
        obtain hs:=Option.some.inj h; subst hs
        have h:=callE_esc hk1
        obtain hs:=Option.some.inj h; subst hs
        refine T_ret fun a w hm=>inBlock_ret (then_ret (then_ret (inBlock_ret (then_ret (then_ret (T_return (fr':=[(4,.d (.v (.int .i64 v1)))]) [4] (by kernel_rfl) [.keep [4]] (by kernel_rfl) (by kernel_rfl) (by kernel_rfl) (by show _=_; kernel_rfl) (by exact trivial) a w hm))))))
      · have h:=cond_ff hc h
        refine T_skip fun a w hm=>inBlock_norm (then_norm (((?_:T Tryd.prog e 19 _ _ _) a w hm)))
        refine T_reg_end [] [0,1,7,8] [(8,.d (.v (.int .i64 (IntKind.i64.wrap (v1+(1:Int))))))] [] 2 (by kernel_rfl) (trivial) fun a w hm=>then_norm (⟨IntKind.i64.wrap (v1+(1:Int)),h,hm.co (cs:=[.keep [0,1,7,8]]) (by show _=_; kernel_rfl)⟩)
    · have h:=cond_ff hc h
      obtain hs:=Option.some.inj h; subst hs
      refine T_exit fun a w hm=>then_exit (then_exit (inBlock_exit (then_norm (⟨_,rfl,hm.co (cs:=[.keep []]) (by show _=_; kernel_rfl)⟩))))
  · skip
    refine fun a w hm=>then_norm (((?_:T Tryd.prog e 19 _ _ _) a w hm))
    refine T_reg [] [4] [(4,.d (.v (.int .i64 (-1:Int))))] [] 1 (by kernel_rfl) (trivial) ?_
    obtain hs:=Option.some.inj h; subst hs
    refine T_ret fun a w hm=>T_return (fr':=[(4,.d (.v (.int .i64 (-1:Int))))]) [4] (by kernel_rfl) [.keep [4]] (by kernel_rfl) (by kernel_rfl) (by kernel_rfl) (by show _=_; kernel_rfl) (by exact trivial) a w hm
theorem slices_Contains_string_ok {F:Nat} {a0:List (List UInt8)} {a1:List UInt8} {r:Bool} (h:slices_Contains_string F a0 a1=some r):ACall Tryd.prog 31 [.d (.sl 1 (a0.map cS)),.d (.str a1)] [] (.d (.v (.bool r))) []:=by
  rw [slices_Contains_string] at h
  refine ACall.intro (N:=9) Tryd.func31 rfl rfl rfl rfl rfl fun e=>?_
  refine T_reg [] [0,1] [] [] 1 (by kernel_rfl) (trivial) ?_
  obtain ⟨y1,hy1,h⟩:=call_ok h
  refine T_reg [(2,{ res:=.d (.v (.int .i64 y1)) })] [4] [(4,.d (.v (.bool (decide (y1 ≥ (0:Int))))))] [(2,ACall Tryd.prog 42 [.d (.sl 1 (a0.map cS)),.d (.str a1)] [] (.d (.v (.int .i64 y1))) [])] 2 (by kernel_rfl) (slices_Index_string_ok hy1) ?_
  obtain hs:=Option.some.inj h; subst hs
  refine T_ret fun a w hm=>T_return (fr':=[(4,.d (.v (.bool (decide (y1 ≥ (0:Int))))))]) [4] (by kernel_rfl) [.keep [4]] (by kernel_rfl) (by kernel_rfl) (by kernel_rfl) (by show _=_; kernel_rfl) (by exact trivial) a w hm
theorem strings_Builder_WriteString_ok {F:Nat} {a0:List UInt8} {c1:List UInt8} {r:Int×Unit×(List UInt8)} (h:strings_Builder_WriteString F a0 c1=some r):ACall Tryd.prog 32 [.bp 1000000 0,.d (.str a0)] [.box [.slf 0 48,.own 5 1 (c1.map cU)]] (.tup [.d (.v (.int .i64 r.1)),.d (.v .nilIface)]) [.box [.slf 0 48,.own 5 1 (r.2.2.map cU)]]:=by
  rw [strings_Builder_WriteString] at h
  refine ACall.intro (N:=19) Tryd.func32 rfl rfl rfl rfl rfl fun e=>?_
  refine T_reg [] [0,1,1000000] [] [] 2 (by kernel_rfl) (trivial) ?_
  refine T_reg [(1,{ xs:=[1000000],res:=.tup [],vout:=[.box [.slf 0 48,.own 5 1 (c1.map cU)]] })] [0,1,1000000] [] [(1,ACall Tryd.prog 41 [.bp 1000000 0] [.box [.slf 0 48,.own 5 1 (c1.map cU)]] (.tup []) [.box [.slf 0 48,.own 5 1 (c1.map cU)]])] 0 (by kernel_rfl) (b_copyCheck (E:=48) (by kernel_rfl) (by kernel_rfl) (by kernel_rfl)) ?_
  obtain ⟨hp1,h⟩:=chk_ok h
  refine T_reg [(6,{ es:=some ((c1++a0).map cU) })] [1,1000000] [(1000000,.box [.slf 0 48,.own 5 1 ((c1++a0).map cU)])] [(6,(c1.map cU).length+(a0.map cU).length≤4294967296∧(c1.map cU)++(a0.map cU)=((c1++a0).map cU))] 3 (by kernel_rfl) (app_ok cU hp1) ?_
  refine T_reg [] [4,5,1000000] [(4,.d (.v (.int .i64 (a0.length:Int)))),(5,.d (.v .nilIface))] [] 4 (by kernel_rfl) (trivial) ?_
  obtain hs:=Option.some.inj h; subst hs
  refine T_ret fun a w hm=>T_return (fr':=[(4,.d (.v (.int .i64 (a0.length:Int)))),(5,.d (.v .nilIface)),(1000000,.box [.slf 0 48,.own 5 1 ((c1++a0).map cU)])]) [4,5] (by kernel_rfl) [.keep [4,5,1000000]] (by kernel_rfl) (by kernel_rfl) (by kernel_rfl) (by show _=_; kernel_rfl) (by exact ⟨⟨by kernel_rfl,by kernel_rfl⟩,trivial⟩) a w hm
theorem strings_Builder_WriteByte_ok {F:Nat} {a0:Int} {c1:List UInt8} {r:Unit×(List UInt8)} (h:strings_Builder_WriteByte F a0 c1=some r):ACall Tryd.prog 29 [.bp 1000000 0,.d (.v (.int .u8 a0))] [.box [.slf 0 48,.own 5 1 (c1.map cU)]] (.d (.v .nilIface)) [.box [.slf 0 48,.own 5 1 (r.2.map cU)]]:=by
  rw [strings_Builder_WriteByte] at h
  refine ACall.intro (N:=17) Tryd.func29 rfl rfl rfl rfl rfl fun e=>?_
  refine T_reg [] [0,1,1000000] [] [] 1 (by kernel_rfl) (trivial) ?_
  refine T_reg [(1,{ xs:=[1000000],res:=.tup [],vout:=[.box [.slf 0 48,.own 5 1 (c1.map cU)]] })] [0,1,1000000] [] [(1,ACall Tryd.prog 41 [.bp 1000000 0] [.box [.slf 0 48,.own 5 1 (c1.map cU)]] (.tup []) [.box [.slf 0 48,.own 5 1 (c1.map cU)]])] 0 (by kernel_rfl) (b_copyCheck (E:=48) (by kernel_rfl) (by kernel_rfl) (by kernel_rfl)) ?_
  obtain ⟨hp1,h⟩:=chk_ok h
  obtain ⟨hp2,h⟩:=chk_ok h
  refine T_reg [(6,{ es:=some (([(UInt8.ofNat a0.toNat)]).map cU) }),(7,{ es:=some ((c1++([(UInt8.ofNat a0.toNat)])).map cU) })] [1000000] [(1000000,.box [.slf 0 48,.own 5 1 ((c1++([(UInt8.ofNat a0.toNat)])).map cU)])] [(6,[[Dat.v (.int .u8 a0)]]=(([(UInt8.ofNat a0.toNat)]).map cU)),(0,(c1.map cU).length+(([(UInt8.ofNat a0.toNat)]).map cU).length≤4294967296∧(c1.map cU)++(([(UInt8.ofNat a0.toNat)]).map cU)=((c1++([(UInt8.ofNat a0.toNat)])).map cU))] 3 (by kernel_rfl) (⟨(lit_u hp1 (rfl:([]:List (List Dat))=([]:List UInt8).map cU)),app_ok cU hp2⟩) ?_
  refine T_reg [] [4,1000000] [(4,.d (.v .nilIface))] [] 1 (by kernel_rfl) (trivial) ?_
  obtain hs:=Option.some.inj h; subst hs
  refine T_ret fun a w hm=>T_return (fr':=[(4,.d (.v .nilIface)),(1000000,.box [.slf 0 48,.own 5 1 ((c1++([(UInt8.ofNat a0.toNat)])).map cU)])]) [4] (by kernel_rfl) [.keep [4,1000000]] (by kernel_rfl) (by kernel_rfl) (by kernel_rfl) (by show _=_; kernel_rfl) (by exact ⟨⟨by kernel_rfl,by kernel_rfl⟩,trivial⟩) a w hm
theorem vary_quoted_ok {F:Nat} {a0:List UInt8} {r:(List UInt8)} (h:vary_quoted F a0=some r):ACall Tryd.prog 34 [.d (.str a0)] [.glo 0 ([gm0].flatMap (cI .i64))] (.d (.str r)) [.glo 0 ([gm0].flatMap (cI .i64))]:=by
  rw [vary_quoted] at h
  refine ACall.intro (N:=15) Tryd.func34 rfl rfl rfl rfl rfl fun e=>?_
  refine T_reg [] [0,1000000] [] [] 1 (by kernel_rfl) (trivial) ?_
  refine T_seqk ?_
  obtain ⟨hp1,h⟩:=chk_ok h
  refine T_reg [(4,{ res:=.d (.v (.bool (Lib.containsAny a0 ([44,34,10]:List UInt8)))) })] [0,9,1000000] [(9,.d (.v (.bool (bif (!(a0 == [])) then (!(Lib.containsAny a0 ([44,34,10]:List UInt8))) else false))))] [(3,((((!(a0 == [])) == true) && true)=true→True)),(0,((((!(a0 == [])) == true) && true)=true→ACall Tryd.prog 44 [.d (.str a0),.d (.str ([44,34,10]:List UInt8))] [] (.d (.v (.bool (Lib.containsAny a0 ([44,34,10]:List UInt8))))) [])),(0,((((!(a0 == [])) == true) && true)=true→True))] 1 (by kernel_rfl) (⟨(fun hg=>trivial),(fun hg=>b_ContainsAny (hp1 hg) (by decide)),(fun hg=>trivial)⟩) ?_
  refine T_cond (bif (!(a0 == [])) then (!(Lib.containsAny a0 ([44,34,10]:List UInt8))) else false) (by kernel_rfl) (fun hc=>?_) (fun hc=>?_)
  · have h:=cond_tt hc h
    refine T_reg [] [2,1000000] [(2,.d (.str a0))] [] 2 (by kernel_rfl) (trivial) ?_
    obtain hs:=Option.some.inj h; subst hs
    refine T_ret fun a w hm=>then_ret (T_return (fr':=[(2,.d (.str a0)),(1000000,.glo 0 ([gm0].flatMap (cI .i64)))]) [2] (by kernel_rfl) [.keep [2,1000000]] (by kernel_rfl) (by kernel_rfl) (by kernel_rfl) (by show _=_; kernel_rfl) (by exact ⟨⟨by kernel_rfl,by kernel_rfl⟩,trivial⟩) a w hm)
  · have h:=cond_ff hc h
    refine T_skip fun a w hm=>then_norm (((?_:T Tryd.prog e 15 _ _ _) a w hm))
    obtain ⟨hp2,h⟩:=chk_ok h
    obtain ⟨hp3,h⟩:=chk_ok h
    obtain ⟨hp4,h⟩:=chk_ok h
    obtain ⟨z1,hz1,h⟩:=lett_ok h
    refine T_reg [(1,{ res:=.d (.str (Lib.replaceAll a0 ([34]:List UInt8) ([34,34]:List UInt8))),xs:=[1000000],vout:=[.glo 0 ([gm0].flatMap (cI .i64))] }),(3,{ rw:=some (.d (.str z1)) })] [2,1000000] [(2,.d (.str z1))] [(1,ACall Tryd.prog 45 [.d (.str a0),.d (.str ([34]:List UInt8)),.d (.str ([34,34]:List UInt8))] [.glo 0 ([gm0].flatMap (cI .i64))] (.d (.str (Lib.replaceAll a0 ([34]:List UInt8) ([34,34]:List UInt8)))) [.glo 0 ([gm0].flatMap (cI .i64))]),(0,([34]:List UInt8).length+(Lib.replaceAll a0 ([34]:List UInt8) ([34,34]:List UInt8)).length≤9223372036854775807),(0,((([34]:List UInt8)++(Lib.replaceAll a0 ([34]:List UInt8) ([34,34]:List UInt8))).length+([34]:List UInt8).length≤9223372036854775807)∧AV.d (.str ((([34]:List UInt8)++(Lib.replaceAll a0 ([34]:List UInt8) ([34,34]:List UInt8)))++([34]:List UInt8)))=.d (.str z1))] 1 (by kernel_rfl) (⟨b_ReplaceAll hp2,hp3,⟨hp4,(by subst hz1; rfl)⟩⟩) ?_
    obtain hs:=Option.some.inj h; subst hs
    refine T_ret fun a w hm=>T_return (fr':=[(2,.d (.str z1)),(1000000,.glo 0 ([gm0].flatMap (cI .i64)))]) [2] (by kernel_rfl) [.keep [2,1000000]] (by kernel_rfl) (by kernel_rfl) (by kernel_rfl) (by show _=_; kernel_rfl) (by exact ⟨⟨by kernel_rfl,by kernel_rfl⟩,trivial⟩) a w hm
theorem strings_Builder_Len_ok {F:Nat} {c0:List UInt8} {r:Int×(List UInt8)} (h:strings_Builder_Len F c0=some r):ACall Tryd.prog 20 [.bp 1000000 0] [.box [.slf 0 48,.own 5 1 (c0.map cU)]] (.d (.v (.int .i64 r.1))) [.box [.slf 0 48,.own 5 1 (r.2.map cU)]]:=by
  rw [strings_Builder_Len] at h
  refine ACall.intro (N:=8) Tryd.func20 rfl rfl rfl rfl rfl fun e=>?_
  refine T_reg [] [0,1000000] [] [] 1 (by kernel_rfl) (trivial) ?_
  refine T_reg [(4,{ rw:=some (.d (.v (.int .i64 (c0.length:Int)))) })] [2,1000000] [(2,.d (.v (.int .i64 (c0.length:Int))))] [(4,True∧AV.d (.v (.int .i64 ((c0.map cU).length:Int)))=.d (.v (.int .i64 (c0.length:Int))))] 1 (by kernel_rfl) (len_ok cU) ?_
  obtain hs:=Option.some.inj h; subst hs
  refine T_ret fun a w hm=>T_return (fr':=[(2,.d (.v (.int .i64 (c0.length:Int)))),(1000000,.box [.slf 0 48,.own 5 1 (c0.map cU)])]) [2] (by kernel_rfl) [.keep [2,1000000]] (by kernel_rfl) (by kernel_rfl) (by kernel_rfl) (by show _=_; kernel_rfl) (by exact ⟨⟨by kernel_rfl,by kernel_rfl⟩,trivial⟩) a w hm
theorem vary_Print_ok {F:Nat} {a0:S_VaryTable} {r:(List UInt8)×Int} (h:vary_Print F a0=some r):ACall Tryd.prog 24 [.agg (cS_VaryTable a0)] [.glo 0 ([gm0].flatMap (cI .i64))] (.tup [.d (.str r.1),.d (.v (.int .i64 r.2))]) [.glo 0 ([gm0].flatMap (cI .i64))]:=by
  rw [vary_Print] at h
  refine ACall.intro (N:=80) Tryd.func24 rfl rfl rfl rfl rfl fun e=>?_
  refine T_reg [] [1,1000000] [(1,.box [.d (.sl 1 (a0.f0.map cS)),.d (.sl 1 (a0.f1.map (cL 1 cS)))])] [] 3 (by kernel_rfl) (trivial) ?_
  refine T_seqk ?_
  obtain ⟨z1,hz1,h⟩:=lett_ok h
  refine T_reg [(2,{ rw:=some (.d (.v (.int .i64 (a0.f0.length:Int)))) }),(7,{ rw:=some (.d (.v (.int .i64 (a0.f1.length:Int)))) }),(9,{ rw:=some (.d (.v (.bool z1))) })] [1,20,1000000] [(20,.d (.v (.bool z1)))] [(2,True∧AV.d (.v (.int .i64 ((a0.f0.map cS).length:Int)))=.d (.v (.int .i64 (a0.f0.length:Int)))),(2,((((decide ((a0.f0.length:Int) > (16:Int))) == false) && true)=true→True)),(0,((((decide ((a0.f0.length:Int) > (16:Int))) == false) && true)=true→True)),(0,((((decide ((a0.f0.length:Int) > (16:Int))) == false) && true)=true→True∧AV.d (.v (.int .i64 ((a0.f1.map (cL 1 cS)).length:Int)))=.d (.v (.int .i64 (a0.f1.length:Int))))),(0,((((decide ((a0.f0.length:Int) > (16:Int))) == false) && true)=true→True)),(0,(True)∧AV.d (.v (.bool (bif (decide ((a0.f0.length:Int) > (16:Int))) then true else (decide ((a0.f1.length:Int) > (256:Int))))))=.d (.v (.bool z1)))] 0 (by kernel_rfl) (⟨len_ok cS,(fun hg=>trivial),(fun hg=>trivial),(fun hg=>len_ok (cL 1 cS)),(fun hg=>trivial),⟨trivial,(by subst hz1; rfl)⟩⟩) ?_
  refine T_cond z1 (by kernel_rfl) (fun hc=>?_) (fun hc=>?_)
  · have h:=cond_tt hc h
    refine T_reg [] [2,3,1000000] [(2,.d (.str [])),(3,.d (.v (.int .i64 (2:Int))))] [] 2 (by kernel_rfl) (trivial) ?_
    obtain hs:=Option.some.inj h; subst hs
    refine T_ret fun a w hm=>then_ret (T_return (fr':=[(2,.d (.str [])),(3,.d (.v (.int .i64 (2:Int)))),(1000000,.glo 0 ([gm0].flatMap (cI .i64)))]) [2,3] (by kernel_rfl) [.keep [2,3,1000000]] (by kernel_rfl) (by kernel_rfl) (by kernel_rfl) (by show _=_; kernel_rfl) (by exact ⟨⟨by kernel_rfl,by kernel_rfl⟩,trivial⟩) a w hm)
  · have h:=cond_ff hc h
    refine T_skip fun a w hm=>then_norm (((?_:T Tryd.prog e 80 _ _ _) a w hm))
    refine T_seqk ?_
    refine T_reg [(2,{ rw:=some (.d (.v (.int .i64 (a0.f0.length:Int)))) })] [1,24,1000000] [(24,.d (.v (.bool ((a0.f0.length:Int) == (0:Int)))))] [(2,True∧AV.d (.v (.int .i64 ((a0.f0.map cS).length:Int)))=.d (.v (.int .i64 (a0.f0.length:Int))))] 1 (by kernel_rfl) (len_ok cS) ?_
    refine T_cond ((a0.f0.length:Int) == (0:Int)) (by kernel_rfl) (fun hc=>?_) (fun hc=>?_)
    · have h:=cond_tt hc h
      refine T_reg [] [2,3,1000000] [(2,.d (.str [])),(3,.d (.v (.int .i64 (8:Int))))] [] 2 (by kernel_rfl) (trivial) ?_
      obtain hs:=Option.some.inj h; subst hs
      refine T_ret fun a w hm=>then_ret (T_return (fr':=[(2,.d (.str [])),(3,.d (.v (.int .i64 (8:Int)))),(1000000,.glo 0 ([gm0].flatMap (cI .i64)))]) [2,3] (by kernel_rfl) [.keep [2,3,1000000]] (by kernel_rfl) (by kernel_rfl) (by kernel_rfl) (by show _=_; kernel_rfl) (by exact ⟨⟨by kernel_rfl,by kernel_rfl⟩,trivial⟩) a w hm)
    · have h:=cond_ff hc h
      refine T_skip fun a w hm=>then_norm (((?_:T Tryd.prog e 80 _ _ _) a w hm))
      refine T_seqk ?_
      refine T_reg [(2,{ rw:=some (.d (.v (.int .i64 (a0.f0.length:Int)))) })] [1,26,27,28,1000000] [(26,.d (.sl 1 (a0.f0.map cS))),(27,.d (.v (.int .i64 (a0.f0.length:Int)))),(28,.d (.v (.int .i64 (0:Int))))] [(2,True∧AV.d (.v (.int .i64 ((a0.f0.map cS).length:Int)))=.d (.v (.int .i64 (a0.f0.length:Int))))] 1 (by kernel_rfl) (len_ok cS) ?_
      refine T_joinEt h (fun (p:Unit)=>[(1,.box [.d (.sl 1 (a0.f0.map cS)),.d (.sl 1 (a0.f1.map (cL 1 cS)))]),(1000000,.glo 0 ([gm0].flatMap (cI .i64)))]) (fun s h hk1=>?_) (fun s h=>?_)
      · refine T_co [.keep [1,26,27,28,1000000]] ((fun (p:Int)=>[(1,.box [.d (.sl 1 (a0.f0.map cS)),.d (.sl 1 (a0.f1.map (cL 1 cS)))]),(26,.d (.sl 1 (a0.f0.map cS))),(27,.d (.v (.int .i64 (a0.f0.length:Int)))),(28,.d (.v (.int .i64 p))),(1000000,.glo 0 ([gm0].flatMap (cI .i64)))]) (0:Int)) (by show _=_; kernel_rfl) ?_
        refine T_block ?_
        refine T_loopF (ι:=Int) (fun (p:Int)=>[(1,.box [.d (.sl 1 (a0.f0.map cS)),.d (.sl 1 (a0.f1.map (cL 1 cS)))]),(26,.d (.sl 1 (a0.f0.map cS))),(27,.d (.v (.int .i64 (a0.f0.length:Int)))),(28,.d (.v (.int .i64 p))),(1000000,.glo 0 ([gm0].flatMap (cI .i64)))]) (fun n p=>vary_Print_L0 F a0 n p=some s) (fun i hh=>by simp [vary_Print_L0] at hh) (fun n v1 h=>?_) F (0:Int) h
        have h:vary_Print_L0 F a0 (n+1) v1=some s:=h
        rw [vary_Print_L0] at h
        refine T_reg [] [1,26,27,28,29,1000000] [(29,.d (.v (.bool (decide (v1 < (a0.f0.length:Int))))))] [] 1 (by kernel_rfl) (trivial) ?_
        refine T_seqk ?_
        refine T_cond (decide (v1 < (a0.f0.length:Int))) (by kernel_rfl) (fun hc=>?_) (fun hc=>?_)
        · have h:=cond_tt hc h
          refine T_skip fun a w hm=>then_norm (((?_:T Tryd.prog e 80 _ _ _) a w hm))
          refine T_seqk ?_
          refine T_block ?_
          obtain ⟨hp1,h⟩:=chk_ok h
          refine T_reg [(1,{ cs:=cS (a0.f0.getD v1.toNat []) })] [1,4,5,26,27,28,1000000] [(4,.d (.v (.int .i64 v1))),(5,.d (.str (a0.f0.getD v1.toNat [])))] [(1,0≤v1∧(a0.f0.map cS)[v1.toNat]? = some (cS (a0.f0.getD v1.toNat [])))] 3 (by kernel_rfl) (idx_ok (d:=[]) cS hp1) ?_
          refine T_seqk ?_
          obtain ⟨y1,hy1,h⟩:=call_ok h
          refine T_reg [(1,{ res:=.d (.v (.bool y1)) })] [1,4,5,26,27,28,35,1000000] [(35,.d (.v (.bool (!y1))))] [(1,ACall Tryd.prog 30 [.d (.str (a0.f0.getD v1.toNat []))] [] (.d (.v (.bool y1))) [])] 1 (by kernel_rfl) (vary_plain_ok hy1) ?_
          refine T_cond (!y1) (by kernel_rfl) (fun hc=>?_) (fun hc=>?_)
          · have h:=cond_tt hc h
            refine T_reg [] [2,3,1000000] [(2,.d (.str [])),(3,.d (.v (.int .i64 (6:Int))))] [] 2 (by kernel_rfl) (trivial) ?_
            obtain hs:=Option.some.inj h; subst hs
            have h:=callE_esc hk1
            obtain hs:=Option.some.inj h; subst hs
            refine T_ret fun a w hm=>then_ret (inBlock_ret (then_ret (then_ret (inBlock_ret (then_ret (then_ret (T_return (fr':=[(2,.d (.str [])),(3,.d (.v (.int .i64 (6:Int)))),(1000000,.glo 0 ([gm0].flatMap (cI .i64)))]) [2,3] (by kernel_rfl) [.keep [2,3,1000000]] (by kernel_rfl) (by kernel_rfl) (by kernel_rfl) (by show _=_; kernel_rfl) (by exact ⟨⟨by kernel_rfl,by kernel_rfl⟩,trivial⟩) a w hm)))))))
          · have h:=cond_ff hc h
            refine T_skip fun a w hm=>then_norm (((?_:T Tryd.prog e 80 _ _ _) a w hm))
            obtain ⟨hp2,h⟩:=chk_ok h
            obtain ⟨y2,hy2,h⟩:=call_ok h
            refine T_reg [(3,{ rw:=some (.d (.sl 1 (((a0.f0.drop (0:Int).toNat).take (v1.toNat - (0:Int).toNat)).map cS))) }),(5,{ res:=.d (.v (.bool y2)) })] [1,26,27,28,41,1000000] [(41,.d (.v (.bool y2)))] [(3,(0≤(0:Int)∧(0:Int)≤v1∧v1≤((a0.f0.map cS).length:Int))∧AV.d (.sl 1 (((a0.f0.map cS).drop (0:Int).toNat).take (v1.toNat - (0:Int).toNat)))=.d (.sl 1 (((a0.f0.drop (0:Int).toNat).take (v1.toNat - (0:Int).toNat)).map cS))),(1,ACall Tryd.prog 31 [.d (.sl 1 (((a0.f0.drop (0:Int).toNat).take (v1.toNat - (0:Int).toNat)).map cS)),.d (.str (a0.f0.getD v1.toNat []))] [] (.d (.v (.bool y2))) [])] 0 (by kernel_rfl) (⟨cutH cS hp2,slices_Contains_string_ok hy2⟩) ?_
            refine T_cond y2 (by kernel_rfl) (fun hc=>?_) (fun hc=>?_)
            · have h:=cond_tt hc h
              refine T_reg [] [2,3,1000000] [(2,.d (.str [])),(3,.d (.v (.int .i64 (7:Int))))] [] 2 (by kernel_rfl) (trivial) ?_
              obtain hs:=Option.some.inj h; subst hs
              have h:=callE_esc hk1
              obtain hs:=Option.some.inj h; subst hs
              refine T_ret fun a w hm=>inBlock_ret (then_ret (then_ret (inBlock_ret (then_ret (then_ret (T_return (fr':=[(2,.d (.str [])),(3,.d (.v (.int .i64 (7:Int)))),(1000000,.glo 0 ([gm0].flatMap (cI .i64)))]) [2,3] (by kernel_rfl) [.keep [2,3,1000000]] (by kernel_rfl) (by kernel_rfl) (by kernel_rfl) (by show _=_; kernel_rfl) (by exact ⟨⟨by kernel_rfl,by kernel_rfl⟩,trivial⟩) a w hm))))))
            · have h:=cond_ff hc h
              refine T_skip fun a w hm=>inBlock_norm (then_norm (((?_:T Tryd.prog e 80 _ _ _) a w hm)))
              refine T_reg_end [] [1,26,27,28,1000000] [(28,.d (.v (.int .i64 (IntKind.i64.wrap (v1+(1:Int))))))] [] 2 (by kernel_rfl) (trivial) fun a w hm=>then_norm (⟨IntKind.i64.wrap (v1+(1:Int)),h,hm.co (cs:=[.keep [1,26,27,28,1000000]]) (by show _=_; kernel_rfl)⟩)
        · have h:=cond_ff hc h
          obtain hs:=Option.some.inj h; subst hs
          refine T_exit fun a w hm=>then_exit (then_exit (inBlock_exit (then_norm (⟨_,rfl,hm.co (cs:=[.keep [1,1000000]]) (by show _=_; kernel_rfl)⟩))))
      · skip
        refine fun a w hm=>then_norm (((?_:T Tryd.prog e 80 _ _ _) a w hm))
        refine T_reg [(0,{ slfs:=[(0,0)] })] [1,6,1000000] [(6,.box [.slf 0 48,.own 5 1 ([].map cU)])] [] 1 (by kernel_rfl) (trivial) ?_
        obtain ⟨hp3,h⟩:=chk_ok h
        obtain ⟨hp4,h⟩:=chk_ok h
        obtain ⟨y8,hy3,h⟩:=call_ok h
        refine T_reg [(2,{ res:=.d (.str (Lib.join a0.f0 ([44]:List UInt8))) }),(4,{ res:=.tup [.d (.v (.int .i64 y8.1)),.d (.v .nilIface)],vout:=[.box [.slf 0 48,.own 5 1 (y8.2.2.map cU)]],xs:=[6] })] [1,6,1000000] [(6,.box [.slf 0 48,.own 5 1 (y8.2.2.map cU)])] [(2,ACall Tryd.prog 33 [.d (.sl 1 (a0.f0.map cS)),.d (.str ([44]:List UInt8))] [] (.d (.str (Lib.join a0.f0 ([44]:List UInt8)))) []),(0,(Lib.join a0.f0 ([44]:List UInt8)).length+([10]:List UInt8).length≤9223372036854775807),(0,ACall Tryd.prog 32 [.bp 1000000 0,.d (.str ((Lib.join a0.f0 ([44]:List UInt8))++([10]:List UInt8)))] [.box [.slf 0 48,.own 5 1 ([].map cU)]] (.tup [.d (.v (.int .i64 y8.1)),.d (.v .nilIface)]) [.box [.slf 0 48,.own 5 1 (y8.2.2.map cU)]])] 0 (by kernel_rfl) (⟨b_Join hp3,hp4,strings_Builder_WriteString_ok hy3⟩) ?_
        refine T_seqk ?_
        refine T_reg [(2,{ rw:=some (.d (.v (.int .i64 (a0.f1.length:Int)))) })] [1,6,49,50,51,1000000] [(49,.d (.sl 1 (a0.f1.map (cL 1 cS)))),(50,.d (.v (.int .i64 (a0.f1.length:Int)))),(51,.d (.v (.int .i64 (0:Int))))] [(2,True∧AV.d (.v (.int .i64 ((a0.f1.map (cL 1 cS)).length:Int)))=.d (.v (.int .i64 (a0.f1.length:Int))))] 1 (by kernel_rfl) (len_ok (cL 1 cS)) ?_
        refine T_joinEt h (fun (p:(List UInt8))=>[(6,.box [.slf 0 48,.own 5 1 (p.map cU)]),(1000000,.glo 0 ([gm0].flatMap (cI .i64)))]) (fun s h hk2=>?_) (fun v8 h=>?_)
        · refine T_co [.keep [1,6,49,50,51,1000000]] ((fun (p:(List UInt8)×Int)=>[(1,.box [.d (.sl 1 (a0.f0.map cS)),.d (.sl 1 (a0.f1.map (cL 1 cS)))]),(6,.box [.slf 0 48,.own 5 1 (p.1.map cU)]),(49,.d (.sl 1 (a0.f1.map (cL 1 cS)))),(50,.d (.v (.int .i64 (a0.f1.length:Int)))),(51,.d (.v (.int .i64 p.2))),(1000000,.glo 0 ([gm0].flatMap (cI .i64)))]) (y8.2.2,(0:Int))) (by show _=_; kernel_rfl) ?_
          refine T_block ?_
          refine T_loopF (ι:=(List UInt8)×Int) (fun (p:(List UInt8)×Int)=>[(1,.box [.d (.sl 1 (a0.f0.map cS)),.d (.sl 1 (a0.f1.map (cL 1 cS)))]),(6,.box [.slf 0 48,.own 5 1 (p.1.map cU)]),(49,.d (.sl 1 (a0.f1.map (cL 1 cS)))),(50,.d (.v (.int .i64 (a0.f1.length:Int)))),(51,.d (.v (.int .i64 p.2))),(1000000,.glo 0 ([gm0].flatMap (cI .i64)))]) (fun n p=>vary_Print_L2 F a0 n p.1 p.2=some s) (fun i hh=>by simp [vary_Print_L2] at hh) (fun n p h=>?_) F (y8.2.2,(0:Int)) h
          obtain ⟨v6,v2⟩:=p
          have h:vary_Print_L2 F a0 (n+1) v6 v2=some s:=h
          rw [vary_Print_L2] at h
          refine T_reg [] [1,6,49,50,51,52,1000000] [(52,.d (.v (.bool (decide (v2 < (a0.f1.length:Int))))))] [] 1 (by kernel_rfl) (trivial) ?_
          refine T_seqk ?_
          refine T_cond (decide (v2 < (a0.f1.length:Int))) (by kernel_rfl) (fun hc=>?_) (fun hc=>?_)
          · have h:=cond_tt hc h
            refine T_skip fun a w hm=>then_norm (((?_:T Tryd.prog e 80 _ _ _) a w hm))
            refine T_seqk ?_
            refine T_block ?_
            obtain ⟨hp5,h⟩:=chk_ok h
            refine T_reg [(0,{ cs:=(cL 1 cS) (a0.f1.getD v2.toNat []) })] [1,6,8,49,50,51,1000000] [(8,.d (.sl 1 ((a0.f1.getD v2.toNat []).map cS)))] [(0,0≤v2∧(a0.f1.map (cL 1 cS))[v2.toNat]? = some ((cL 1 cS) (a0.f1.getD v2.toNat [])))] 2 (by kernel_rfl) (idx_ok (d:=[]) (cL 1 cS) hp5) ?_
            refine T_seqk ?_
            refine T_reg [(1,{ rw:=some (.d (.v (.int .i64 ((a0.f1.getD v2.toNat []).length:Int)))) }),(4,{ rw:=some (.d (.v (.int .i64 (a0.f0.length:Int)))) })] [1,6,8,49,50,51,60,1000000] [(60,.d (.v (.bool (((a0.f1.getD v2.toNat []).length:Int) != (a0.f0.length:Int)))))] [(1,True∧AV.d (.v (.int .i64 (((a0.f1.getD v2.toNat []).map cS).length:Int)))=.d (.v (.int .i64 ((a0.f1.getD v2.toNat []).length:Int)))),(2,True∧AV.d (.v (.int .i64 ((a0.f0.map cS).length:Int)))=.d (.v (.int .i64 (a0.f0.length:Int))))] 1 (by kernel_rfl) (⟨len_ok cS,len_ok cS⟩) ?_
            refine T_cond (((a0.f1.getD v2.toNat []).length:Int) != (a0.f0.length:Int)) (by kernel_rfl) (fun hc=>?_) (fun hc=>?_)
            · have h:=cond_tt hc h
              refine T_reg [] [2,3,1000000] [(2,.d (.str [])),(3,.d (.v (.int .i64 (4:Int))))] [] 2 (by kernel_rfl) (trivial) ?_
              obtain hs:=Option.some.inj h; subst hs
              have h:=callE_esc hk2
              obtain hs:=Option.some.inj h; subst hs
              refine T_ret fun a w hm=>then_ret (inBlock_ret (then_ret (then_ret (inBlock_ret (then_ret (then_ret (T_return (fr':=[(2,.d (.str [])),(3,.d (.v (.int .i64 (4:Int)))),(1000000,.glo 0 ([gm0].flatMap (cI .i64)))]) [2,3] (by kernel_rfl) [.keep [2,3,1000000]] (by kernel_rfl) (by kernel_rfl) (by kernel_rfl) (by show _=_; kernel_rfl) (by exact ⟨⟨by kernel_rfl,by kernel_rfl⟩,trivial⟩) a w hm)))))))
            · have h:=cond_ff hc h
              refine T_skip fun a w hm=>then_norm (((?_:T Tryd.prog e 80 _ _ _) a w hm))
              refine T_seqk ?_
              refine T_reg [(1,{ rw:=some (.d (.v (.int .i64 ((a0.f1.getD v2.toNat []).length:Int)))) })] [1,6,49,50,51,61,62,63,1000000] [(61,.d (.sl 1 ((a0.f1.getD v2.toNat []).map cS))),(62,.d (.v (.int .i64 ((a0.f1.getD v2.toNat []).length:Int)))),(63,.d (.v (.int .i64 (0:Int))))] [(1,True∧AV.d (.v (.int .i64 (((a0.f1.getD v2.toNat []).map cS).length:Int)))=.d (.v (.int .i64 ((a0.f1.getD v2.toNat []).length:Int))))] 1 (by kernel_rfl) (len_ok cS) ?_
              refine T_joinct h (fun (p:(List UInt8))=>[(1,.box [.d (.sl 1 (a0.f0.map cS)),.d (.sl 1 (a0.f1.map (cL 1 cS)))]),(6,.box [.slf 0 48,.own 5 1 (p.map cU)]),(49,.d (.sl 1 (a0.f1.map (cL 1 cS)))),(50,.d (.v (.int .i64 (a0.f1.length:Int)))),(51,.d (.v (.int .i64 v2))),(1000000,.glo 0 ([gm0].flatMap (cI .i64)))]) (fun s h=>?_) (fun v7 h=>?_)
              · refine T_co [.keep [1,6,49,50,51,61,62,63,1000000]] ((fun (p:(List UInt8)×Int)=>[(1,.box [.d (.sl 1 (a0.f0.map cS)),.d (.sl 1 (a0.f1.map (cL 1 cS)))]),(6,.box [.slf 0 48,.own 5 1 (p.1.map cU)]),(49,.d (.sl 1 (a0.f1.map (cL 1 cS)))),(50,.d (.v (.int .i64 (a0.f1.length:Int)))),(51,.d (.v (.int .i64 v2))),(61,.d (.sl 1 ((a0.f1.getD v2.toNat []).map cS))),(62,.d (.v (.int .i64 ((a0.f1.getD v2.toNat []).length:Int)))),(63,.d (.v (.int .i64 p.2))),(1000000,.glo 0 ([gm0].flatMap (cI .i64)))]) (v6,(0:Int))) (by show _=_; kernel_rfl) ?_
                refine T_block ?_
                refine T_loopF (ι:=(List UInt8)×Int) (fun (p:(List UInt8)×Int)=>[(1,.box [.d (.sl 1 (a0.f0.map cS)),.d (.sl 1 (a0.f1.map (cL 1 cS)))]),(6,.box [.slf 0 48,.own 5 1 (p.1.map cU)]),(49,.d (.sl 1 (a0.f1.map (cL 1 cS)))),(50,.d (.v (.int .i64 (a0.f1.length:Int)))),(51,.d (.v (.int .i64 v2))),(61,.d (.sl 1 ((a0.f1.getD v2.toNat []).map cS))),(62,.d (.v (.int .i64 ((a0.f1.getD v2.toNat []).length:Int)))),(63,.d (.v (.int .i64 p.2))),(1000000,.glo 0 ([gm0].flatMap (cI .i64)))]) (fun n p=>vary_Print_L4 F a0 v2 n p.1 p.2=some s) (fun i hh=>by simp [vary_Print_L4] at hh) (fun n p h=>?_) F (v6,(0:Int)) h
                obtain ⟨v3,v4⟩:=p
                have h:vary_Print_L4 F a0 v2 (n+1) v3 v4=some s:=h
                rw [vary_Print_L4] at h
                refine T_reg [] [1,6,49,50,51,61,62,63,64,1000000] [(64,.d (.v (.bool (decide (v4 < ((a0.f1.getD v2.toNat []).length:Int))))))] [] 1 (by kernel_rfl) (trivial) ?_
                refine T_seqk ?_
                refine T_cond (decide (v4 < ((a0.f1.getD v2.toNat []).length:Int))) (by kernel_rfl) (fun hc=>?_) (fun hc=>?_)
                · have h:=cond_tt hc h
                  refine T_skip fun a w hm=>then_norm (((?_:T Tryd.prog e 80 _ _ _) a w hm))
                  refine T_seqk ?_
                  refine T_block ?_
                  obtain ⟨hp6,h⟩:=chk_ok h
                  refine T_reg [(1,{ cs:=cS ((a0.f1.getD v2.toNat []).getD v4.toNat []) })] [1,6,9,10,49,50,51,61,62,63,1000000] [(9,.d (.v (.int .i64 v4))),(10,.d (.str ((a0.f1.getD v2.toNat []).getD v4.toNat [])))] [(1,0≤v4∧((a0.f1.getD v2.toNat []).map cS)[v4.toNat]? = some (cS ((a0.f1.getD v2.toNat []).getD v4.toNat [])))] 3 (by kernel_rfl) (idx_ok (d:=[]) cS hp6) ?_
                  refine T_joinc h (fun (p:(List UInt8))=>[(1,.box [.d (.sl 1 (a0.f0.map cS)),.d (.sl 1 (a0.f1.map (cL 1 cS)))]),(6,.box [.slf 0 48,.own 5 1 (p.map cU)]),(10,.d (.str ((a0.f1.getD v2.toNat []).getD v4.toNat []))),(49,.d (.sl 1 (a0.f1.map (cL 1 cS)))),(50,.d (.v (.int .i64 (a0.f1.length:Int)))),(51,.d (.v (.int .i64 v2))),(61,.d (.sl 1 ((a0.f1.getD v2.toNat []).map cS))),(62,.d (.v (.int .i64 ((a0.f1.getD v2.toNat []).length:Int)))),(63,.d (.v (.int .i64 v4))),(1000000,.glo 0 ([gm0].flatMap (cI .i64)))]) (fun s h=>?_) (fun v5 h=>?_)
                  · refine T_reg [] [1,6,10,49,50,51,61,62,63,69,1000000] [(69,.d (.v (.bool (decide (v4 > (0:Int))))))] [] 2 (by kernel_rfl) (trivial) ?_
                    refine T_cond (decide (v4 > (0:Int))) (by kernel_rfl) (fun hc=>?_) (fun hc=>?_)
                    · have h:=cond_tt hc h
                      obtain ⟨y3,hy4,h⟩:=call_ok h
                      obtain hs:=Option.some.inj h; subst hs
                      refine T_reg_end [(0,{ res:=.d (.v .nilIface),vout:=[.box [.slf 0 48,.own 5 1 (y3.2.map cU)]],xs:=[6] })] [1,6,10,49,50,51,61,62,63,1000000] [(6,.box [.slf 0 48,.own 5 1 (y3.2.map cU)])] [(0,ACall Tryd.prog 29 [.bp 1000000 0,.d (.v (.int .u8 (44:Int)))] [.box [.slf 0 48,.own 5 1 (v3.map cU)]] (.d (.v .nilIface)) [.box [.slf 0 48,.own 5 1 (y3.2.map cU)]])] 0 (by kernel_rfl) (strings_Builder_WriteByte_ok hy4) fun a w hm=>then_norm (hm.co (cs:=[.keep [1,6,10,49,50,51,61,62,63,1000000]]) (by show _=_; kernel_rfl))
                    · have h:=cond_ff hc h
                      obtain hs:=Option.some.inj h; subst hs
                      refine T_skip fun a w hm=>then_norm (hm.co (cs:=[.keep [1,6,10,49,50,51,61,62,63,1000000]]) (by show _=_; kernel_rfl))
                  · skip
                    obtain ⟨y4,hy5,h⟩:=call_ok h
                    obtain ⟨y5,hy6,h⟩:=call_ok h
                    refine T_reg_end [(1,{ res:=.d (.str y4),vout:=[.glo 0 ([gm0].flatMap (cI .i64))],xs:=[1000000] }),(2,{ res:=.tup [.d (.v (.int .i64 y5.1)),.d (.v .nilIface)],vout:=[.box [.slf 0 48,.own 5 1 (y5.2.2.map cU)]],xs:=[6] })] [1,6,49,50,51,61,62,63,1000000] [(6,.box [.slf 0 48,.own 5 1 (y5.2.2.map cU)])] [(1,ACall Tryd.prog 34 [.d (.str ((a0.f1.getD v2.toNat []).getD v4.toNat []))] [.glo 0 ([gm0].flatMap (cI .i64))] (.d (.str y4)) [.glo 0 ([gm0].flatMap (cI .i64))]),(0,ACall Tryd.prog 32 [.bp 1000000 0,.d (.str y4)] [.box [.slf 0 48,.own 5 1 (v5.map cU)]] (.tup [.d (.v (.int .i64 y5.1)),.d (.v .nilIface)]) [.box [.slf 0 48,.own 5 1 (y5.2.2.map cU)]])] 0 (by kernel_rfl) (⟨vary_quoted_ok hy5,strings_Builder_WriteString_ok hy6⟩) fun a w hm=>inBlock_norm (then_norm (((?_:T Tryd.prog e 80 _ _ _) a w hm)))
                    refine T_reg_end [] [1,6,49,50,51,61,62,63,1000000] [(63,.d (.v (.int .i64 (IntKind.i64.wrap (v4+(1:Int))))))] [] 2 (by kernel_rfl) (trivial) fun a w hm=>then_norm (⟨(y5.2.2,IntKind.i64.wrap (v4+(1:Int))),h,hm.co (cs:=[.keep [1,6,49,50,51,61,62,63,1000000]]) (by show _=_; kernel_rfl)⟩)
                · have h:=cond_ff hc h
                  obtain hs:=Option.some.inj h; subst hs
                  refine T_exit fun a w hm=>then_exit (then_exit (inBlock_exit (then_norm (hm.co (cs:=[.keep [1,6,49,50,51,1000000]]) (by show _=_; kernel_rfl)))))
              · skip
                refine fun a w hm=>then_norm (((?_:T Tryd.prog e 80 _ _ _) a w hm))
                obtain ⟨y6,hy7,h⟩:=call_ok h
                refine T_reg [(0,{ res:=.d (.v .nilIface),vout:=[.box [.slf 0 48,.own 5 1 (y6.2.map cU)]],xs:=[6] })] [1,6,49,50,51,1000000] [(6,.box [.slf 0 48,.own 5 1 (y6.2.map cU)])] [(0,ACall Tryd.prog 29 [.bp 1000000 0,.d (.v (.int .u8 (10:Int)))] [.box [.slf 0 48,.own 5 1 (v7.map cU)]] (.d (.v .nilIface)) [.box [.slf 0 48,.own 5 1 (y6.2.map cU)]])] 0 (by kernel_rfl) (strings_Builder_WriteByte_ok hy7) ?_
                obtain ⟨y7,hy8,h⟩:=call_ok h
                refine T_reg [(0,{ res:=.d (.v (.int .i64 y7.1)),vout:=[.box [.slf 0 48,.own 5 1 (y7.2.map cU)]],xs:=[6] })] [1,6,49,50,51,77,1000000] [(6,.box [.slf 0 48,.own 5 1 (y7.2.map cU)]),(77,.d (.v (.bool (decide (y7.1 > (8192:Int))))))] [(0,ACall Tryd.prog 20 [.bp 1000000 0] [.box [.slf 0 48,.own 5 1 (y6.2.map cU)]] (.d (.v (.int .i64 y7.1))) [.box [.slf 0 48,.own 5 1 (y7.2.map cU)]])] 1 (by kernel_rfl) (strings_Builder_Len_ok hy8) ?_
                refine T_cond (decide (y7.1 > (8192:Int))) (by kernel_rfl) (fun hc=>?_) (fun hc=>?_)
                · have h:=cond_tt hc h
                  refine T_reg [] [2,3,1000000] [(2,.d (.str [])),(3,.d (.v (.int .i64 (2:Int))))] [] 2 (by kernel_rfl) (trivial) ?_
                  obtain hs:=Option.some.inj h; subst hs
                  have h:=callE_esc hk2
                  obtain hs:=Option.some.inj h; subst hs
                  refine T_ret fun a w hm=>inBlock_ret (then_ret (then_ret (inBlock_ret (then_ret (then_ret (T_return (fr':=[(2,.d (.str [])),(3,.d (.v (.int .i64 (2:Int)))),(1000000,.glo 0 ([gm0].flatMap (cI .i64)))]) [2,3] (by kernel_rfl) [.keep [2,3,1000000]] (by kernel_rfl) (by kernel_rfl) (by kernel_rfl) (by show _=_; kernel_rfl) (by exact ⟨⟨by kernel_rfl,by kernel_rfl⟩,trivial⟩) a w hm))))))
                · have h:=cond_ff hc h
                  refine T_skip fun a w hm=>inBlock_norm (then_norm (((?_:T Tryd.prog e 80 _ _ _) a w hm)))
                  refine T_reg_end [] [1,6,49,50,51,1000000] [(51,.d (.v (.int .i64 (IntKind.i64.wrap (v2+(1:Int))))))] [] 2 (by kernel_rfl) (trivial) fun a w hm=>then_norm (⟨(y7.2,IntKind.i64.wrap (v2+(1:Int))),h,hm.co (cs:=[.keep [1,6,49,50,51,1000000]]) (by show _=_; kernel_rfl)⟩)
          · have h:=cond_ff hc h
            obtain hs:=Option.some.inj h; subst hs
            refine T_exit fun a w hm=>then_exit (then_exit (inBlock_exit (then_norm (⟨_,rfl,hm.co (cs:=[.keep [6,1000000]]) (by show _=_; kernel_rfl)⟩))))
        · skip
          refine fun a w hm=>then_norm (((?_:T Tryd.prog e 80 _ _ _) a w hm))
          obtain ⟨hp7,h⟩:=chk_ok h
          refine T_reg [(0,{ xs:=[6],vout:=[.box [.slf 0 48,.junk]],res:=.d (.str v8) })] [2,3,1000000] [(2,.d (.str v8)),(3,.d (.v (.int .i64 (0:Int))))] [(0,ACall Tryd.prog 21 [.bp 1000000 0] [.box [.slf 0 48,.own 5 1 (v8.map cU)]] (.d (.str v8)) [.box [.slf 0 48,.junk]])] 2 (by kernel_rfl) (b_String (l:=v8) hp7 (by kernel_rfl) (by kernel_rfl)) ?_
          obtain hs:=Option.some.inj h; subst hs
          refine T_ret fun a w hm=>T_return (fr':=[(2,.d (.str v8)),(3,.d (.v (.int .i64 (0:Int)))),(1000000,.glo 0 ([gm0].flatMap (cI .i64)))]) [2,3] (by kernel_rfl) [.keep [2,3,1000000]] (by kernel_rfl) (by kernel_rfl) (by kernel_rfl) (by show _=_; kernel_rfl) (by exact ⟨⟨by kernel_rfl,by kernel_rfl⟩,trivial⟩) a w hm
theorem vary_Check_ok {F:Nat} {a0:S_VaryTable} {r:Int} (h:vary_Check F a0=some r):ACall Tryd.prog 17 [.agg (cS_VaryTable a0)] [.glo 0 ([gm0].flatMap (cI .i64))] (.d (.v (.int .i64 r))) [.glo 0 ([gm0].flatMap (cI .i64))]:=by
  rw [vary_Check] at h
  refine ACall.intro (N:=11) Tryd.func17 rfl rfl rfl rfl rfl fun e=>?_
  refine T_reg [] [1,1000000] [(1,.box [.d (.sl 1 (a0.f0.map cS)),.d (.sl 1 (a0.f1.map (cL 1 cS)))])] [] 2 (by kernel_rfl) (trivial) ?_
  obtain ⟨y1,hy1,h⟩:=call_ok h
  refine T_reg [(1,{ res:=.tup [.d (.str y1.1),.d (.v (.int .i64 y1.2))],vout:=[.glo 0 ([gm0].flatMap (cI .i64))],xs:=[1000000] })] [4,1000000] [(4,.d (.v (.int .i64 y1.2)))] [(1,ACall Tryd.prog 24 [.agg (cS_VaryTable a0)] [.glo 0 ([gm0].flatMap (cI .i64))] (.tup [.d (.str y1.1),.d (.v (.int .i64 y1.2))]) [.glo 0 ([gm0].flatMap (cI .i64))])] 5 (by kernel_rfl) (vary_Print_ok hy1) ?_
  refine T_reg [] [2,1000000] [(2,.d (.v (.int .i64 y1.2)))] [] 2 (by kernel_rfl) (trivial) ?_
  obtain hs:=Option.some.inj h; subst hs
  refine T_ret fun a w hm=>T_return (fr':=[(2,.d (.v (.int .i64 y1.2))),(1000000,.glo 0 ([gm0].flatMap (cI .i64)))]) [2] (by kernel_rfl) [.keep [2,1000000]] (by kernel_rfl) (by kernel_rfl) (by kernel_rfl) (by show _=_; kernel_rfl) (by exact ⟨⟨by kernel_rfl,by kernel_rfl⟩,trivial⟩) a w hm
theorem strings_Builder_Len_v1_ok {F:Nat} {c0:List (List UInt8)} {c1:List (List (List UInt8))} {c2:List (List UInt8)} {c3:List UInt8} {c4:List UInt8} {r:Int×(List (List UInt8))×(List (List (List UInt8)))×(List (List UInt8))×(List UInt8)×(List UInt8)} (h:strings_Builder_Len_v1 F c0 c1 c2 c3 c4=some r):ACall Tryd.prog 20 [.bp 1000000 4] [.box [.d (.sl 1 (c0.map cS)),.d (.sl 1 (c1.map (cL 1 cS))),.d (.sl 1 (c2.map cS)),.d (.str c3),.slf 4 50,.own 5 1 (c4.map cU)]] (.d (.v (.int .i64 r.1))) [.box [.d (.sl 1 (r.2.1.map cS)),.d (.sl 1 (r.2.2.1.map (cL 1 cS))),.d (.sl 1 (r.2.2.2.1.map cS)),.d (.str r.2.2.2.2.1),.slf 4 50,.own 5 1 (r.2.2.2.2.2.map cU)]]:=by
  rw [strings_Builder_Len_v1] at h
  refine ACall.intro (N:=8) Tryd.func20 rfl rfl rfl rfl rfl fun e=>?_
  refine T_reg [] [0,1000000] [] [] 1 (by kernel_rfl) (trivial) ?_
  refine T_reg [(4,{ rw:=some (.d (.v (.int .i64 (c4.length:Int)))) })] [2,1000000] [(2,.d (.v (.int .i64 (c4.length:Int))))] [(4,True∧AV.d (.v (.int .i64 ((c4.map cU).length:Int)))=.d (.v (.int .i64 (c4.length:Int))))] 1 (by kernel_rfl) (len_ok cU) ?_
  obtain hs:=Option.some.inj h; subst hs
  refine T_ret fun a w hm=>T_return (fr':=[(2,.d (.v (.int .i64 (c4.length:Int)))),(1000000,.box [.d (.sl 1 (c0.map cS)),.d (.sl 1 (c1.map (cL 1 cS))),.d (.sl 1 (c2.map cS)),.d (.str c3),.slf 4 50,.own 5 1 (c4.map cU)])]) [2] (by kernel_rfl) [.keep [2,1000000]] (by kernel_rfl) (by kernel_rfl) (by kernel_rfl) (by show _=_; kernel_rfl) (by exact ⟨⟨by kernel_rfl,by kernel_rfl⟩,trivial⟩) a w hm
theorem strings_Builder_WriteString_v1_ok {F:Nat} {a0:List UInt8} {c1:List (List UInt8)} {c2:List (List (List UInt8))} {c3:List (List UInt8)} {c4:List UInt8} {c5:List UInt8} {r:Int×Unit×(List (List UInt8))×(List (List (List UInt8)))×(List (List UInt8))×(List UInt8)×(List UInt8)} (h:strings_Builder_WriteString_v1 F a0 c1 c2 c3 c4 c5=some r):ACall Tryd.prog 32 [.bp 1000000 4,.d (.str a0)] [.box [.d (.sl 1 (c1.map cS)),.d (.sl 1 (c2.map (cL 1 cS))),.d (.sl 1 (c3.map cS)),.d (.str c4),.slf 4 50,.own 5 1 (c5.map cU)]] (.tup [.d (.v (.int .i64 r.1)),.d (.v .nilIface)]) [.box [.d (.sl 1 (r.2.2.1.map cS)),.d (.sl 1 (r.2.2.2.1.map (cL 1 cS))),.d (.sl 1 (r.2.2.2.2.1.map cS)),.d (.str r.2.2.2.2.2.1),.slf 4 50,.own 5 1 (r.2.2.2.2.2.2.map cU)]]:=by
  rw [strings_Builder_WriteString_v1] at h
  refine ACall.intro (N:=19) Tryd.func32 rfl rfl rfl rfl rfl fun e=>?_
  refine T_reg [] [0,1,1000000] [] [] 2 (by kernel_rfl) (trivial) ?_
  refine T_reg [(1,{ xs:=[1000000],res:=.tup [],vout:=[.box [.d (.sl 1 (c1.map cS)),.d (.sl 1 (c2.map (cL 1 cS))),.d (.sl 1 (c3.map cS)),.d (.str c4),.slf 4 50,.own 5 1 (c5.map cU)]] })] [0,1,1000000] [] [(1,ACall Tryd.prog 41 [.bp 1000000 4] [.box [.d (.sl 1 (c1.map cS)),.d (.sl 1 (c2.map (cL 1 cS))),.d (.sl 1 (c3.map cS)),.d (.str c4),.slf 4 50,.own 5 1 (c5.map cU)]] (.tup []) [.box [.d (.sl 1 (c1.map cS)),.d (.sl 1 (c2.map (cL 1 cS))),.d (.sl 1 (c3.map cS)),.d (.str c4),.slf 4 50,.own 5 1 (c5.map cU)]])] 0 (by kernel_rfl) (b_copyCheck (E:=50) (by kernel_rfl) (by kernel_rfl) (by kernel_rfl)) ?_
  obtain ⟨hp1,h⟩:=chk_ok h
  refine T_reg [(6,{ es:=some ((c5++a0).map cU) })] [1,1000000] [(1000000,.box [.d (.sl 1 (c1.map cS)),.d (.sl 1 (c2.map (cL 1 cS))),.d (.sl 1 (c3.map cS)),.d (.str c4),.slf 4 50,.own 5 1 ((c5++a0).map cU)])] [(6,(c5.map cU).length+(a0.map cU).length≤4294967296∧(c5.map cU)++(a0.map cU)=((c5++a0).map cU))] 3 (by kernel_rfl) (app_ok cU hp1) ?_
  refine T_reg [] [4,5,1000000] [(4,.d (.v (.int .i64 (a0.length:Int)))),(5,.d (.v .nilIface))] [] 4 (by kernel_rfl) (trivial) ?_
  obtain hs:=Option.some.inj h; subst hs
  refine T_ret fun a w hm=>T_return (fr':=[(4,.d (.v (.int .i64 (a0.length:Int)))),(5,.d (.v .nilIface)),(1000000,.box [.d (.sl 1 (c1.map cS)),.d (.sl 1 (c2.map (cL 1 cS))),.d (.sl 1 (c3.map cS)),.d (.str c4),.slf 4 50,.own 5 1 ((c5++a0).map cU)])]) [4,5] (by kernel_rfl) [.keep [4,5,1000000]] (by kernel_rfl) (by kernel_rfl) (by kernel_rfl) (by show _=_; kernel_rfl) (by exact ⟨⟨by kernel_rfl,by kernel_rfl⟩,trivial⟩) a w hm
theorem vary_merger_put_ok {F:Nat} {a0:List UInt8} {a1:Bool} {c2:List (List UInt8)} {c3:List (List (List UInt8))} {c4:List (List UInt8)} {c5:List UInt8} {c6:List UInt8} {r:(List (List UInt8))×(List (List (List UInt8)))×(List (List UInt8))×(List UInt8)×(List UInt8)} (h:vary_merger_put F a0 a1 c2 c3 c4 c5 c6=some r):ACall Tryd.prog 26 [.bp 1000000 0,.d (.str a0),.d (.v (.bool a1))] [.box [.d (.sl 1 (c2.map cS)),.d (.sl 1 (c3.map (cL 1 cS))),.d (.sl 1 (c4.map cS)),.d (.str c5),.slf 4 50,.own 5 1 (c6.map cU)]] (.tup []) [.box [.d (.sl 1 (r.1.map cS)),.d (.sl 1 (r.2.1.map (cL 1 cS))),.d (.sl 1 (r.2.2.1.map cS)),.d (.str r.2.2.2.1),.slf 4 50,.own 5 1 (r.2.2.2.2.map cU)]]:=by
  rw [vary_merger_put] at h
  refine ACall.intro (N:=19) Tryd.func26 rfl rfl rfl rfl rfl fun e=>?_
  refine T_reg [(5,{ res:=.d (.v (.int .i64 (c6.length:Int))),vout:=[.box [.d (.sl 1 (c2.map cS)),.d (.sl 1 (c3.map (cL 1 cS))),.d (.sl 1 (c4.map cS)),.d (.str c5),.slf 4 50,.own 5 1 (c6.map cU)]],xs:=[1000000] })] [0,1,13,1000000] [(13,.d (.v (.bool (bif a1 then (decide ((c6.length:Int)≤(8192:Int))) else false))))] [(2,(((a1 == true) && true)=true→True)),(0,(((a1 == true) && true)=true→True)),(0,(((a1 == true) && true)=true→True)),(0,(((a1 == true) && true)=true→ACall Tryd.prog 20 [.bp 1000000 4] [.box [.d (.sl 1 (c2.map cS)),.d (.sl 1 (c3.map (cL 1 cS))),.d (.sl 1 (c4.map cS)),.d (.str c5),.slf 4 50,.own 5 1 (c6.map cU)]] (.d (.v (.int .i64 (c6.length:Int)))) [.box [.d (.sl 1 (c2.map cS)),.d (.sl 1 (c3.map (cL 1 cS))),.d (.sl 1 (c4.map cS)),.d (.str c5),.slf 4 50,.own 5 1 (c6.map cU)]])),(0,(((a1 == true) && true)=true→True))] 1 (by kernel_rfl) (⟨(fun hg=>trivial),(fun hg=>trivial),(fun hg=>trivial),(fun hg=>strings_Builder_Len_v1_ok (F:=0) rfl),(fun hg=>trivial)⟩) ?_
  refine T_cond (bif a1 then (decide ((c6.length:Int)≤(8192:Int))) else false) (by kernel_rfl) (fun hc=>?_) (fun hc=>?_)
  · have h:=cond_tt hc h
    obtain ⟨y1,hy1,h⟩:=call_ok h
    obtain hs:=Option.some.inj h; subst hs
    refine T_reg_end [(4,{ res:=.tup [.d (.v (.int .i64 y1.1)),.d (.v .nilIface)],vout:=[.box [.d (.sl 1 (y1.2.2.1.map cS)),.d (.sl 1 (y1.2.2.2.1.map (cL 1 cS))),.d (.sl 1 (y1.2.2.2.2.1.map cS)),.d (.str y1.2.2.2.2.2.1),.slf 4 50,.own 5 1 (y1.2.2.2.2.2.2.map cU)]],xs:=[1000000] })] [1000000] [(1000000,.box [.d (.sl 1 (y1.2.2.1.map cS)),.d (.sl 1 (y1.2.2.2.1.map (cL 1 cS))),.d (.sl 1 (y1.2.2.2.2.1.map cS)),.d (.str y1.2.2.2.2.2.1),.slf 4 50,.own 5 1 (y1.2.2.2.2.2.2.map cU)])] [(4,ACall Tryd.prog 32 [.bp 1000000 4,.d (.str a0)] [.box [.d (.sl 1 (c2.map cS)),.d (.sl 1 (c3.map (cL 1 cS))),.d (.sl 1 (c4.map cS)),.d (.str c5),.slf 4 50,.own 5 1 (c6.map cU)]] (.tup [.d (.v (.int .i64 y1.1)),.d (.v .nilIface)]) [.box [.d (.sl 1 (y1.2.2.1.map cS)),.d (.sl 1 (y1.2.2.2.1.map (cL 1 cS))),.d (.sl 1 (y1.2.2.2.2.1.map cS)),.d (.str y1.2.2.2.2.2.1),.slf 4 50,.own 5 1 (y1.2.2.2.2.2.2.map cU)]])] 0 (by kernel_rfl) (strings_Builder_WriteString_v1_ok hy1) fun a w hm=>T_return (fr':=[(1000000,.box [.d (.sl 1 (y1.2.2.1.map cS)),.d (.sl 1 (y1.2.2.2.1.map (cL 1 cS))),.d (.sl 1 (y1.2.2.2.2.1.map cS)),.d (.str y1.2.2.2.2.2.1),.slf 4 50,.own 5 1 (y1.2.2.2.2.2.2.map cU)])]) [] (by kernel_rfl) [.keep [1000000]] (by kernel_rfl) (by kernel_rfl) (by kernel_rfl) (by show _=_; kernel_rfl) (by exact ⟨⟨by kernel_rfl,by kernel_rfl⟩,trivial⟩) a w hm
  · have h:=cond_ff hc h
    obtain hs:=Option.some.inj h; subst hs
    refine T_skip fun a w hm=>T_return (fr':=[(1000000,.box [.d (.sl 1 (c2.map cS)),.d (.sl 1 (c3.map (cL 1 cS))),.d (.sl 1 (c4.map cS)),.d (.str c5),.slf 4 50,.own 5 1 (c6.map cU)])]) [] (by kernel_rfl) [.keep [1000000]] (by kernel_rfl) (by kernel_rfl) (by kernel_rfl) (by show _=_; kernel_rfl) (by exact ⟨⟨by kernel_rfl,by kernel_rfl⟩,trivial⟩) a w hm
theorem internal_stringslite_HasPrefix_ok {F:Nat} {a0:List UInt8} {a1:List UInt8} {r:Bool} (h:internal_stringslite_HasPrefix F a0 a1=some r):ACall Tryd.prog 39 [.d (.str a0),.d (.str a1)] [] (.d (.v (.bool r))) []:=by
  rw [internal_stringslite_HasPrefix] at h
  refine ACall.intro (N:=18) Tryd.func39 rfl rfl rfl rfl rfl fun e=>?_
  refine T_reg [] [0,1] [] [] 1 (by kernel_rfl) (trivial) ?_
  obtain ⟨hp1,h⟩:=chk_ok h
  obtain ⟨z1,hz1,h⟩:=lett_ok h
  refine T_reg [(12,{ rw:=some (.d (.v (.bool z1))) })] [4] [(4,.d (.v (.bool z1)))] [(6,((((decide ((a0.length:Int) ≥ (a1.length:Int))) == true) && true)=true→True)),(0,((((decide ((a0.length:Int) ≥ (a1.length:Int))) == true) && true)=true→True)),(0,((((decide ((a0.length:Int) ≥ (a1.length:Int))) == true) && true)=true→True)),(0,((((decide ((a0.length:Int) ≥ (a1.length:Int))) == true) && true)=true→0≤(0:Int)∧(0:Int)≤(a1.length:Int)∧(a1.length:Int)≤(a0.length:Int))),(0,((((decide ((a0.length:Int) ≥ (a1.length:Int))) == true) && true)=true→True)),(0,((((decide ((a0.length:Int) ≥ (a1.length:Int))) == true) && true)=true→True)),(0,(True)∧AV.d (.v (.bool (bif (decide ((a0.length:Int) ≥ (a1.length:Int))) then (((a0.drop (0:Int).toNat).take ((a1.length:Int).toNat - (0:Int).toNat)) == a1) else false)))=.d (.v (.bool z1)))] 1 (by kernel_rfl) (⟨(fun hg=>trivial),(fun hg=>trivial),(fun hg=>trivial),(fun hg=>(hp1 hg)),(fun hg=>trivial),(fun hg=>trivial),⟨trivial,(by subst hz1; rfl)⟩⟩) ?_
  obtain hs:=Option.some.inj h; subst hs
  refine T_ret fun a w hm=>T_return (fr':=[(4,.d (.v (.bool z1)))]) [4] (by kernel_rfl) [.keep [4]] (by kernel_rfl) (by kernel_rfl) (by kernel_rfl) (by show _=_; kernel_rfl) (by exact trivial) a w hm
theorem strings_HasPrefix_ok {F:Nat} {a0:List UInt8} {a1:List UInt8} {r:Bool} (h:strings_HasPrefix F a0 a1=some r):ACall Tryd.prog 27 [.d (.str a0),.d (.str a1)] [] (.d (.v (.bool r))) []:=by
  rw [strings_HasPrefix] at h
  refine ACall.intro (N:=8) Tryd.func27 rfl rfl rfl rfl rfl fun e=>?_
  refine T_reg [] [0,1] [] [] 1 (by kernel_rfl) (trivial) ?_
  obtain ⟨y1,hy1,h⟩:=call_ok h
  refine T_reg [(2,{ res:=.d (.v (.bool y1)) })] [4] [(4,.d (.v (.bool y1)))] [(2,ACall Tryd.prog 39 [.d (.str a0),.d (.str a1)] [] (.d (.v (.bool y1))) [])] 1 (by kernel_rfl) (internal_stringslite_HasPrefix_ok hy1) ?_
  obtain hs:=Option.some.inj h; subst hs
  refine T_ret fun a w hm=>T_return (fr':=[(4,.d (.v (.bool y1)))]) [4] (by kernel_rfl) [.keep [4]] (by kernel_rfl) (by kernel_rfl) (by kernel_rfl) (by show _=_; kernel_rfl) (by exact trivial) a w hm
theorem vary_merger_field_ok {F:Nat} {a0:List UInt8} {c1:List (List UInt8)} {c2:List (List (List UInt8))} {c3:List (List UInt8)} {c4:List UInt8} {c5:List UInt8} {r:(List UInt8)×Int×(List (List UInt8))×(List (List (List UInt8)))×(List (List UInt8))×(List UInt8)×(List UInt8)} (h:vary_merger_field F a0 c1 c2 c3 c4 c5=some r):ACall Tryd.prog 40 [.bp 1000000 0,.d (.str a0)] [.box [.d (.sl 1 (c1.map cS)),.d (.sl 1 (c2.map (cL 1 cS))),.d (.sl 1 (c3.map cS)),.d (.str c4),.slf 4 50,.own 5 1 (c5.map cU)]] (.tup [.d (.str r.1),.d (.v (.int .i64 r.2.1))]) [.box [.d (.sl 1 (r.2.2.1.map cS)),.d (.sl 1 (r.2.2.2.1.map (cL 1 cS))),.d (.sl 1 (r.2.2.2.2.1.map cS)),.d (.str r.2.2.2.2.2.1),.slf 4 50,.own 5 1 (r.2.2.2.2.2.2.map cU)]]:=by
  rw [vary_merger_field] at h
  refine ACall.intro (N:=23) Tryd.func40 rfl rfl rfl rfl rfl fun e=>?_
  refine T_reg [] [0,1,1000000] [] [] 2 (by kernel_rfl) (trivial) ?_
  obtain ⟨y1,hy1,h⟩:=call_ok h
  refine T_reg [(6,{ res:=.d (.v (.int .i64 y1)) })] [0,6,1000000] [(6,.d (.v (.int .i64 y1)))] [(6,ACall Tryd.prog 42 [.d (.sl 1 (c1.map cS)),.d (.str a0)] [] (.d (.v (.int .i64 y1))) [])] 1 (by kernel_rfl) (slices_Index_string_ok hy1) ?_
  refine T_seqk ?_
  refine T_reg [] [0,6,15,1000000] [(15,.d (.v (.bool (decide (y1 < (0:Int))))))] [] 2 (by kernel_rfl) (trivial) ?_
  refine T_cond (decide (y1 < (0:Int))) (by kernel_rfl) (fun hc=>?_) (fun hc=>?_)
  · have h:=cond_tt hc h
    refine T_reg [] [4,5,1000000] [(4,.d (.str [])),(5,.d (.v (.int .i64 (6:Int))))] [] 2 (by kernel_rfl) (trivial) ?_
    obtain hs:=Option.some.inj h; subst hs
    refine T_ret fun a w hm=>then_ret (T_return (fr':=[(4,.d (.str [])),(5,.d (.v (.int .i64 (6:Int)))),(1000000,.box [.d (.sl 1 (c1.map cS)),.d (.sl 1 (c2.map (cL 1 cS))),.d (.sl 1 (c3.map cS)),.d (.str c4),.slf 4 50,.own 5 1 (c5.map cU)])]) [4,5] (by kernel_rfl) [.keep [4,5,1000000]] (by kernel_rfl) (by kernel_rfl) (by kernel_rfl) (by show _=_; kernel_rfl) (by exact ⟨⟨by kernel_rfl,by kernel_rfl⟩,trivial⟩) a w hm)
  · have h:=cond_ff hc h
    refine T_skip fun a w hm=>then_norm (((?_:T Tryd.prog e 23 _ _ _) a w hm))
    obtain ⟨hp1,h⟩:=chk_ok h
    refine T_reg [(5,{ cs:=cS (c3.getD y1.toNat []) })] [4,5,1000000] [(4,.d (.str (c3.getD y1.toNat []))),(5,.d (.v (.int .i64 (0:Int))))] [(5,0≤y1∧(c3.map cS)[y1.toNat]? = some (cS (c3.getD y1.toNat [])))] 3 (by kernel_rfl) (idx_ok (d:=[]) cS hp1) ?_
    obtain hs:=Option.some.inj h; subst hs
    refine T_ret fun a w hm=>T_return (fr':=[(4,.d (.str (c3.getD y1.toNat []))),(5,.d (.v (.int .i64 (0:Int)))),(1000000,.box [.d (.sl 1 (c1.map cS)),.d (.sl 1 (c2.map (cL 1 cS))),.d (.sl 1 (c3.map cS)),.d (.str c4),.slf 4 50,.own 5 1 (c5.map cU)])]) [4,5] (by kernel_rfl) [.keep [4,5,1000000]] (by kernel_rfl) (by kernel_rfl) (by kernel_rfl) (by show _=_; kernel_rfl) (by exact ⟨⟨by kernel_rfl,by kernel_rfl⟩,trivial⟩) a w hm
theorem vary_merger_open_ok {F:Nat} {rec_vary_merger_run:Int→Bool→(List (List UInt8))→(List (List (List UInt8)))→(List (List UInt8))→(List UInt8)→(List UInt8)→Option (Int×(List (List UInt8))×(List (List (List UInt8)))×(List (List UInt8))×(List UInt8)×(List UInt8))} (hrec_vary_merger_run:∀ {a0:Int},∀ {a1:Bool},∀ {c2:List (List UInt8)},∀ {c3:List (List (List UInt8))},∀ {c4:List (List UInt8)},∀ {c5:List UInt8},∀ {c6:List UInt8},∀ {r:Int×(List (List UInt8))×(List (List (List UInt8)))×(List (List UInt8))×(List UInt8)×(List UInt8)},rec_vary_merger_run a0 a1 c2 c3 c4 c5 c6=some r→ACall Tryd.prog 19 [.bp 1000000 0,.d (.v (.int .i64 a0)),.d (.v (.bool a1))] [.box [.d (.sl 1 (c2.map cS)),.d (.sl 1 (c3.map (cL 1 cS))),.d (.sl 1 (c4.map cS)),.d (.str c5),.slf 4 50,.own 5 1 (c6.map cU)]] (.d (.v (.int .i64 r.1))) [.box [.d (.sl 1 (r.2.1.map cS)),.d (.sl 1 (r.2.2.1.map (cL 1 cS))),.d (.sl 1 (r.2.2.2.1.map cS)),.d (.str r.2.2.2.2.1),.slf 4 50,.own 5 1 (r.2.2.2.2.2.map cU)]]) {a0:Int} {a1:Bool} {c2:List (List UInt8)} {c3:List (List (List UInt8))} {c4:List (List UInt8)} {c5:List UInt8} {c6:List UInt8} {r:Int×(List (List UInt8))×(List (List (List UInt8)))×(List (List UInt8))×(List UInt8)×(List UInt8)} (h:vary_merger_open F rec_vary_merger_run a0 a1 c2 c3 c4 c5 c6=some r):ACall Tryd.prog 28 [.bp 1000000 0,.d (.v (.int .i64 a0)),.d (.v (.bool a1))] [.box [.d (.sl 1 (c2.map cS)),.d (.sl 1 (c3.map (cL 1 cS))),.d (.sl 1 (c4.map cS)),.d (.str c5),.slf 4 50,.own 5 1 (c6.map cU)]] (.d (.v (.int .i64 r.1))) [.box [.d (.sl 1 (r.2.1.map cS)),.d (.sl 1 (r.2.2.1.map (cL 1 cS))),.d (.sl 1 (r.2.2.2.1.map cS)),.d (.str r.2.2.2.2.1),.slf 4 50,.own 5 1 (r.2.2.2.2.2.map cU)]]:=by
  rw [vary_merger_open] at h
  refine ACall.intro (N:=138) Tryd.func28 rfl rfl rfl rfl rfl fun e=>?_
  refine T_reg [] [0,1,2,1000000] [] [] 1 (by kernel_rfl) (trivial) ?_
  refine T_reg [] [0,1,2,7,1000000] [(7,.d (.v (.int .i64 (1:Int))))] [] 1 (by kernel_rfl) (trivial) ?_
  refine T_joinc h (fun (p:Int)=>[(0,.bp 1000000 0),(1,.d (.v (.int .i64 a0))),(2,.d (.v (.bool a1))),(7,.d (.v (.int .i64 p))),(1000000,.box [.d (.sl 1 (c2.map cS)),.d (.sl 1 (c3.map (cL 1 cS))),.d (.sl 1 (c4.map cS)),.d (.str c5),.slf 4 50,.own 5 1 (c6.map cU)])]) (fun s h=>?_) (fun v2 h=>?_)
  · refine T_co [.keep [0,1,2,7,1000000]] ((fun (p:Int)=>[(0,.bp 1000000 0),(1,.d (.v (.int .i64 a0))),(2,.d (.v (.bool a1))),(7,.d (.v (.int .i64 p))),(1000000,.box [.d (.sl 1 (c2.map cS)),.d (.sl 1 (c3.map (cL 1 cS))),.d (.sl 1 (c4.map cS)),.d (.str c5),.slf 4 50,.own 5 1 (c6.map cU)])]) (1:Int)) (by show _=_; kernel_rfl) ?_
    refine T_block ?_
    refine T_loopF (ι:=Int) (fun (p:Int)=>[(0,.bp 1000000 0),(1,.d (.v (.int .i64 a0))),(2,.d (.v (.bool a1))),(7,.d (.v (.int .i64 p))),(1000000,.box [.d (.sl 1 (c2.map cS)),.d (.sl 1 (c3.map (cL 1 cS))),.d (.sl 1 (c4.map cS)),.d (.str c5),.slf 4 50,.own 5 1 (c6.map cU)])]) (fun n p=>vary_merger_open_L0 F c5 n p=some s) (fun i hh=>by simp [vary_merger_open_L0] at hh) (fun n v1 h=>?_) F (1:Int) h
    have h:vary_merger_open_L0 F c5 (n+1) v1=some s:=h
    rw [vary_merger_open_L0] at h
    refine T_seqk ?_
    obtain ⟨hp1,h⟩:=chk_ok h
    obtain ⟨hp2,h⟩:=chk_ok h
    obtain ⟨hp3,h⟩:=chk_ok h
    obtain ⟨z1,hz1,h⟩:=lett_ok h
    obtain ⟨hp4,h⟩:=chk_ok h
    obtain ⟨hp5,h⟩:=chk_ok h
    obtain ⟨z2,hz2,h⟩:=lett_ok h
    obtain ⟨z3,hz3,h⟩:=lett_ok h
    refine T_reg [(31,{ rw:=some (.d (.v (.bool z1))) }),(49,{ rw:=some (.d (.v (.bool z2))) }),(50,{ rw:=some (.d (.v (.bool z3))) })] [0,1,2,7,63,1000000] [(63,.d (.v (.bool (bif (decide (v1 < (c5.length:Int))) then z3 else false))))] [(8,((((decide (v1 < (c5.length:Int))) == true) && true)=true→True)),(0,((((decide (v1 < (c5.length:Int))) == true) && true)=true→True)),(0,((((decide (v1 < (c5.length:Int))) == true) && true)=true→True)),(0,((((decide (v1 < (c5.length:Int))) == true) && true)=true→True)),(0,((((decide (v1 < (c5.length:Int))) == true) && true)=true→True)),(0,((((decide (v1 < (c5.length:Int))) == true) && true)=true→0≤v1∧v1 < c5.length)),(0,((((decide (v1 < (c5.length:Int))) == true) && true)=true→True)),(0,((((decide (v1 < (c5.length:Int))) == true) && true)=true→True)),(0,((((((c5.getD v1.toNat 0).toNat:Int) == (45:Int)) == false) && (((decide (v1 < (c5.length:Int))) == true) && true))=true→True)),(0,((((((c5.getD v1.toNat 0).toNat:Int) == (45:Int)) == false) && (((decide (v1 < (c5.length:Int))) == true) && true))=true→True)),(0,((((((c5.getD v1.toNat 0).toNat:Int) == (45:Int)) == false) && (((decide (v1 < (c5.length:Int))) == true) && true))=true→True)),(0,((((((c5.getD v1.toNat 0).toNat:Int) == (45:Int)) == false) && (((decide (v1 < (c5.length:Int))) == true) && true))=true→True)),(0,((((((c5.getD v1.toNat 0).toNat:Int) == (45:Int)) == false) && (((decide (v1 < (c5.length:Int))) == true) && true))=true→True)),(0,((((((c5.getD v1.toNat 0).toNat:Int) == (45:Int)) == false) && (((decide (v1 < (c5.length:Int))) == true) && true))=true→0≤v1∧v1 < c5.length)),(0,((((((c5.getD v1.toNat 0).toNat:Int) == (45:Int)) == false) && (((decide (v1 < (c5.length:Int))) == true) && true))=true→True)),(0,((((((c5.getD v1.toNat 0).toNat:Int) == (45:Int)) == false) && (((decide (v1 < (c5.length:Int))) == true) && true))=true→True)),(0,((((decide ((48:Int)≤((c5.getD v1.toNat 0).toNat:Int))) == true) && (((((c5.getD v1.toNat 0).toNat:Int) == (45:Int)) == false) && (((decide (v1 < (c5.length:Int))) == true) && true)))=true→True)),(0,((((decide ((48:Int)≤((c5.getD v1.toNat 0).toNat:Int))) == true) && (((((c5.getD v1.toNat 0).toNat:Int) == (45:Int)) == false) && (((decide (v1 < (c5.length:Int))) == true) && true)))=true→True)),(0,((((decide ((48:Int)≤((c5.getD v1.toNat 0).toNat:Int))) == true) && (((((c5.getD v1.toNat 0).toNat:Int) == (45:Int)) == false) && (((decide (v1 < (c5.length:Int))) == true) && true)))=true→True)),(0,((((decide ((48:Int)≤((c5.getD v1.toNat 0).toNat:Int))) == true) && (((((c5.getD v1.toNat 0).toNat:Int) == (45:Int)) == false) && (((decide (v1 < (c5.length:Int))) == true) && true)))=true→True)),(0,((((decide ((48:Int)≤((c5.getD v1.toNat 0).toNat:Int))) == true) && (((((c5.getD v1.toNat 0).toNat:Int) == (45:Int)) == false) && (((decide (v1 < (c5.length:Int))) == true) && true)))=true→True)),(0,((((decide ((48:Int)≤((c5.getD v1.toNat 0).toNat:Int))) == true) && (((((c5.getD v1.toNat 0).toNat:Int) == (45:Int)) == false) && (((decide (v1 < (c5.length:Int))) == true) && true)))=true→0≤v1∧v1 < c5.length)),(0,((((decide ((48:Int)≤((c5.getD v1.toNat 0).toNat:Int))) == true) && (((((c5.getD v1.toNat 0).toNat:Int) == (45:Int)) == false) && (((decide (v1 < (c5.length:Int))) == true) && true)))=true→True)),(0,((((((c5.getD v1.toNat 0).toNat:Int) == (45:Int)) == false) && (((decide (v1 < (c5.length:Int))) == true) && true))=true→(True)∧AV.d (.v (.bool (bif (decide ((48:Int)≤((c5.getD v1.toNat 0).toNat:Int))) then (decide (((c5.getD v1.toNat 0).toNat:Int)≤(57:Int))) else false)))=.d (.v (.bool z1)))),(0,((((decide (v1 < (c5.length:Int))) == true) && true)=true→True)),(0,((((decide (v1 < (c5.length:Int))) == true) && true)=true→True)),(0,((((bif (((c5.getD v1.toNat 0).toNat:Int) == (45:Int)) then true else z1) == false) && (((decide (v1 < (c5.length:Int))) == true) && true))=true→True)),(0,((((bif (((c5.getD v1.toNat 0).toNat:Int) == (45:Int)) then true else z1) == false) && (((decide (v1 < (c5.length:Int))) == true) && true))=true→True)),(0,((((bif (((c5.getD v1.toNat 0).toNat:Int) == (45:Int)) then true else z1) == false) && (((decide (v1 < (c5.length:Int))) == true) && true))=true→True)),(0,((((bif (((c5.getD v1.toNat 0).toNat:Int) == (45:Int)) then true else z1) == false) && (((decide (v1 < (c5.length:Int))) == true) && true))=true→True)),(0,((((bif (((c5.getD v1.toNat 0).toNat:Int) == (45:Int)) then true else z1) == false) && (((decide (v1 < (c5.length:Int))) == true) && true))=true→True)),(0,((((bif (((c5.getD v1.toNat 0).toNat:Int) == (45:Int)) then true else z1) == false) && (((decide (v1 < (c5.length:Int))) == true) && true))=true→0≤v1∧v1 < c5.length)),(0,((((bif (((c5.getD v1.toNat 0).toNat:Int) == (45:Int)) then true else z1) == false) && (((decide (v1 < (c5.length:Int))) == true) && true))=true→True)),(0,((((bif (((c5.getD v1.toNat 0).toNat:Int) == (45:Int)) then true else z1) == false) && (((decide (v1 < (c5.length:Int))) == true) && true))=true→True)),(0,((((decide ((97:Int)≤((c5.getD v1.toNat 0).toNat:Int))) == true) && (((bif (((c5.getD v1.toNat 0).toNat:Int) == (45:Int)) then true else z1) == false) && (((decide (v1 < (c5.length:Int))) == true) && true)))=true→True)),(0,((((decide ((97:Int)≤((c5.getD v1.toNat 0).toNat:Int))) == true) && (((bif (((c5.getD v1.toNat 0).toNat:Int) == (45:Int)) then true else z1) == false) && (((decide (v1 < (c5.length:Int))) == true) && true)))=true→True)),(0,((((decide ((97:Int)≤((c5.getD v1.toNat 0).toNat:Int))) == true) && (((bif (((c5.getD v1.toNat 0).toNat:Int) == (45:Int)) then true else z1) == false) && (((decide (v1 < (c5.length:Int))) == true) && true)))=true→True)),(0,((((decide ((97:Int)≤((c5.getD v1.toNat 0).toNat:Int))) == true) && (((bif (((c5.getD v1.toNat 0).toNat:Int) == (45:Int)) then true else z1) == false) && (((decide (v1 < (c5.length:Int))) == true) && true)))=true→True)),(0,((((decide ((97:Int)≤((c5.getD v1.toNat 0).toNat:Int))) == true) && (((bif (((c5.getD v1.toNat 0).toNat:Int) == (45:Int)) then true else z1) == false) && (((decide (v1 < (c5.length:Int))) == true) && true)))=true→True)),(0,((((decide ((97:Int)≤((c5.getD v1.toNat 0).toNat:Int))) == true) && (((bif (((c5.getD v1.toNat 0).toNat:Int) == (45:Int)) then true else z1) == false) && (((decide (v1 < (c5.length:Int))) == true) && true)))=true→0≤v1∧v1 < c5.length)),(0,((((decide ((97:Int)≤((c5.getD v1.toNat 0).toNat:Int))) == true) && (((bif (((c5.getD v1.toNat 0).toNat:Int) == (45:Int)) then true else z1) == false) && (((decide (v1 < (c5.length:Int))) == true) && true)))=true→True)),(0,((((bif (((c5.getD v1.toNat 0).toNat:Int) == (45:Int)) then true else z1) == false) && (((decide (v1 < (c5.length:Int))) == true) && true))=true→(True)∧AV.d (.v (.bool (bif (decide ((97:Int)≤((c5.getD v1.toNat 0).toNat:Int))) then (decide (((c5.getD v1.toNat 0).toNat:Int)≤(122:Int))) else false)))=.d (.v (.bool z2)))),(0,((((decide (v1 < (c5.length:Int))) == true) && true)=true→(True)∧AV.d (.v (.bool (bif (bif (((c5.getD v1.toNat 0).toNat:Int) == (45:Int)) then true else z1) then true else z2)))=.d (.v (.bool z3))))] 1 (by kernel_rfl) (⟨(fun hg=>trivial),(fun hg=>trivial),(fun hg=>trivial),(fun hg=>trivial),(fun hg=>trivial),(fun hg=>(hp1 hg)),(fun hg=>trivial),(fun hg=>trivial),(fun hg=>trivial),(fun hg=>trivial),(fun hg=>trivial),(fun hg=>trivial),(fun hg=>trivial),(fun hg=>(hp2 hg)),(fun hg=>trivial),(fun hg=>trivial),(fun hg=>trivial),(fun hg=>trivial),(fun hg=>trivial),(fun hg=>trivial),(fun hg=>trivial),(fun hg=>(hp3 hg)),(fun hg=>trivial),(fun hg=>⟨trivial,(by subst hz1; rfl)⟩),(fun hg=>trivial),(fun hg=>trivial),(fun hg=>trivial),(fun hg=>trivial),(fun hg=>trivial),(fun hg=>trivial),(fun hg=>trivial),(fun hg=>(hp4 hg)),(fun hg=>trivial),(fun hg=>trivial),(fun hg=>trivial),(fun hg=>trivial),(fun hg=>trivial),(fun hg=>trivial),(fun hg=>trivial),(fun hg=>(hp5 hg)),(fun hg=>trivial),(fun hg=>⟨trivial,(by subst hz2; rfl)⟩),(fun hg=>⟨trivial,(by subst hz3; rfl)⟩)⟩) ?_
    refine T_cond (bif (decide (v1 < (c5.length:Int))) then z3 else false) (by kernel_rfl) (fun hc=>?_) (fun hc=>?_)
    · have h:=cond_tt hc h
      refine T_skip fun a w hm=>then_norm (((?_:T Tryd.prog e 138 _ _ _) a w hm))
      refine T_block ?_
      refine T_reg_end [] [0,1,2,7,1000000] [(7,.d (.v (.int .i64 (IntKind.i64.wrap (v1+(1:Int))))))] [] 3 (by kernel_rfl) (trivial) fun a w hm=>inBlock_norm (then_norm (⟨IntKind.i64.wrap (v1+(1:Int)),h,hm.co (cs:=[.keep [0,1,2,7,1000000]]) (by show _=_; kernel_rfl)⟩))
    · have h:=cond_ff hc h
      obtain hs:=Option.some.inj h; subst hs
      refine T_exit fun a w hm=>then_exit (then_exit (inBlock_exit (then_norm (hm.co (cs:=[.keep [0,1,2,7,1000000]]) (by show _=_; kernel_rfl)))))
  · skip
    refine T_seqk ?_
    refine T_reg [] [0,1,2,7,72,1000000] [(72,.d (.v (.bool (v2 == (c5.length:Int)))))] [] 7 (by kernel_rfl) (trivial) ?_
    refine T_cond (v2 == (c5.length:Int)) (by kernel_rfl) (fun hc=>?_) (fun hc=>?_)
    · have h:=cond_tt hc h
      refine T_reg [] [6,1000000] [(6,.d (.v (.int .i64 (12:Int))))] [] 1 (by kernel_rfl) (trivial) ?_
      obtain hs:=Option.some.inj h; subst hs
      refine T_ret fun a w hm=>then_ret (T_return (fr':=[(6,.d (.v (.int .i64 (12:Int)))),(1000000,.box [.d (.sl 1 (c2.map cS)),.d (.sl 1 (c3.map (cL 1 cS))),.d (.sl 1 (c4.map cS)),.d (.str c5),.slf 4 50,.own 5 1 (c6.map cU)])]) [6] (by kernel_rfl) [.keep [6,1000000]] (by kernel_rfl) (by kernel_rfl) (by kernel_rfl) (by show _=_; kernel_rfl) (by exact ⟨⟨by kernel_rfl,by kernel_rfl⟩,trivial⟩) a w hm)
    · have h:=cond_ff hc h
      refine T_skip fun a w hm=>then_norm (((?_:T Tryd.prog e 138 _ _ _) a w hm))
      obtain ⟨hp6,h⟩:=chk_ok h
      obtain ⟨hp7,h⟩:=chk_ok h
      refine T_draw mixed [] [0,1,2,7,8,9,1000000] [] [(0,.bp 1000000 0),(1,.d (.v (.int .i64 a0))),(2,.d (.v (.bool a1))),(7,.d (.v (.int .i64 v2))),(8,.d (.str ((c5.drop (1:Int).toNat).take (v2.toNat - (1:Int).toNat)))),(9,.d (.v (.int .u8 ((c5.getD v2.toNat 0).toNat:Int)))),(1000000,.box [.d (.sl 1 (c2.map cS)),.d (.sl 1 (c3.map (cL 1 cS))),.d (.sl 1 (c4.map cS)),.d (.str c5),.slf 4 50,.own 5 1 (c6.map cU)])] [(5,0≤(1:Int)∧(1:Int)≤v2∧v2≤(c5.length:Int)),(5,0≤v2∧v2 < c5.length)] 2 (by kernel_rfl) (⟨hp6,hp7⟩) ?_
      obtain ⟨hp8,h⟩:=chk_ok h
      obtain ⟨z4,hz4,h⟩:=lett_ok h
      refine T_reg [(7,{ rw:=some (.d (.str z4)) })] [0,1,2,8,9,1000000] [(1000000,.box [.d (.sl 1 (c2.map cS)),.d (.sl 1 (c3.map (cL 1 cS))),.d (.sl 1 (c4.map cS)),.d (.str z4),.slf 4 50,.own 5 1 (c6.map cU)])] [(7,(0≤(IntKind.i64.wrap (v2+(1:Int)))∧(IntKind.i64.wrap (v2+(1:Int)))≤(c5.length:Int)∧(c5.length:Int)≤(c5.length:Int))∧AV.d (.str ((c5.drop (IntKind.i64.wrap (v2+(1:Int))).toNat).take ((c5.length:Int).toNat - (IntKind.i64.wrap (v2+(1:Int))).toNat)))=.d (.str z4))] 3 (by kernel_rfl) (⟨hp8,(by subst hz4; rfl)⟩) ?_
      obtain ⟨y1,hy1,h⟩:=call_ok h
      refine T_reg [(2,{ res:=.tup [.d (.str y1.1),.d (.v (.int .i64 y1.2.1))],vout:=[.box [.d (.sl 1 (y1.2.2.1.map cS)),.d (.sl 1 (y1.2.2.2.1.map (cL 1 cS))),.d (.sl 1 (y1.2.2.2.2.1.map cS)),.d (.str y1.2.2.2.2.2.1),.slf 4 50,.own 5 1 (y1.2.2.2.2.2.2.map cU)]],xs:=[1000000] })] [0,1,2,9,10,11,1000000] [(10,.d (.str y1.1)),(11,.d (.v (.int .i64 y1.2.1))),(1000000,.box [.d (.sl 1 (y1.2.2.1.map cS)),.d (.sl 1 (y1.2.2.2.1.map (cL 1 cS))),.d (.sl 1 (y1.2.2.2.2.1.map cS)),.d (.str y1.2.2.2.2.2.1),.slf 4 50,.own 5 1 (y1.2.2.2.2.2.2.map cU)])] [(2,ACall Tryd.prog 40 [.bp 1000000 0,.d (.str ((c5.drop (1:Int).toNat).take (v2.toNat - (1:Int).toNat)))] [.box [.d (.sl 1 (c2.map cS)),.d (.sl 1 (c3.map (cL 1 cS))),.d (.sl 1 (c4.map cS)),.d (.str z4),.slf 4 50,.own 5 1 (c6.map cU)]] (.tup [.d (.str y1.1),.d (.v (.int .i64 y1.2.1))]) [.box [.d (.sl 1 (y1.2.2.1.map cS)),.d (.sl 1 (y1.2.2.2.1.map (cL 1 cS))),.d (.sl 1 (y1.2.2.2.2.1.map cS)),.d (.str y1.2.2.2.2.2.1),.slf 4 50,.own 5 1 (y1.2.2.2.2.2.2.map cU)]])] 5 (by kernel_rfl) (vary_merger_field_ok hy1) ?_
      refine T_seqk ?_
      refine T_block ?_
      obtain ⟨z5,hz5,h⟩:=lett_ok h
      refine T_reg [(5,{ rw:=some (.d (.v (.bool z5))) })] [0,1,2,9,10,11,101,1000000] [(101,.d (.v (.bool (bif z5 then (((c5.getD v2.toNat 0).toNat:Int) != (33:Int)) else false))))] [(3,((((((c5.getD v2.toNat 0).toNat:Int) != (125:Int)) == true) && true)=true→True)),(0,((((((c5.getD v2.toNat 0).toNat:Int) != (125:Int)) == true) && true)=true→True)),(0,(True)∧AV.d (.v (.bool (bif (((c5.getD v2.toNat 0).toNat:Int) != (125:Int)) then (((c5.getD v2.toNat 0).toNat:Int) != (63:Int)) else false)))=.d (.v (.bool z5))),(1,(((z5 == true) && true)=true→True)),(0,(((z5 == true) && true)=true→True))] 2 (by kernel_rfl) (⟨(fun hg=>trivial),(fun hg=>trivial),⟨trivial,(by subst hz5; rfl)⟩,(fun hg=>trivial),(fun hg=>trivial)⟩) ?_
      refine T_cond (bif z5 then (((c5.getD v2.toNat 0).toNat:Int) != (33:Int)) else false) (by kernel_rfl) (fun hc=>?_) (fun hc=>?_)
      · have h:=cond_tt hc h
        refine T_reg [] [6,1000000] [(6,.d (.v (.int .i64 (5:Int))))] [] 1 (by kernel_rfl) (trivial) ?_
        obtain hs:=Option.some.inj h; subst hs
        refine T_ret fun a w hm=>inBlock_ret (then_ret (T_return (fr':=[(6,.d (.v (.int .i64 (5:Int)))),(1000000,.box [.d (.sl 1 (y1.2.2.1.map cS)),.d (.sl 1 (y1.2.2.2.1.map (cL 1 cS))),.d (.sl 1 (y1.2.2.2.2.1.map cS)),.d (.str y1.2.2.2.2.2.1),.slf 4 50,.own 5 1 (y1.2.2.2.2.2.2.map cU)])]) [6] (by kernel_rfl) [.keep [6,1000000]] (by kernel_rfl) (by kernel_rfl) (by kernel_rfl) (by show _=_; kernel_rfl) (by exact ⟨⟨by kernel_rfl,by kernel_rfl⟩,trivial⟩) a w hm))
      · have h:=cond_ff hc h
        refine T_reg [] [0,1,2,9,10,11,112,1000000] [(112,.d (.v (.bool (y1.2.1 != (0:Int)))))] [] 3 (by kernel_rfl) (trivial) ?_
        refine T_cond (y1.2.1 != (0:Int)) (by kernel_rfl) (fun hc=>?_) (fun hc=>?_)
        · have h:=cond_tt hc h
          refine T_reg [] [6,1000000] [(6,.d (.v (.int .i64 y1.2.1)))] [] 2 (by kernel_rfl) (trivial) ?_
          obtain hs:=Option.some.inj h; subst hs
          refine T_ret fun a w hm=>inBlock_ret (then_ret (T_return (fr':=[(6,.d (.v (.int .i64 y1.2.1))),(1000000,.box [.d (.sl 1 (y1.2.2.1.map cS)),.d (.sl 1 (y1.2.2.2.1.map (cL 1 cS))),.d (.sl 1 (y1.2.2.2.2.1.map cS)),.d (.str y1.2.2.2.2.2.1),.slf 4 50,.own 5 1 (y1.2.2.2.2.2.2.map cU)])]) [6] (by kernel_rfl) [.keep [6,1000000]] (by kernel_rfl) (by kernel_rfl) (by kernel_rfl) (by show _=_; kernel_rfl) (by exact ⟨⟨by kernel_rfl,by kernel_rfl⟩,trivial⟩) a w hm))
        · have h:=cond_ff hc h
          refine T_reg [] [0,1,2,9,10,116,1000000] [(116,.d (.v (.bool (((c5.getD v2.toNat 0).toNat:Int) == (125:Int)))))] [] 3 (by kernel_rfl) (trivial) ?_
          refine T_cond (((c5.getD v2.toNat 0).toNat:Int) == (125:Int)) (by kernel_rfl) (fun hc=>?_) (fun hc=>?_)
          · have h:=cond_tt hc h
            obtain ⟨y2,hy2,h⟩:=call_ok h
            refine T_reg [(3,{ res:=.tup [],vout:=[.box [.d (.sl 1 (y2.1.map cS)),.d (.sl 1 (y2.2.1.map (cL 1 cS))),.d (.sl 1 (y2.2.2.1.map cS)),.d (.str y2.2.2.2.1),.slf 4 50,.own 5 1 (y2.2.2.2.2.map cU)]],xs:=[1000000] })] [1000000] [(1000000,.box [.d (.sl 1 (y2.1.map cS)),.d (.sl 1 (y2.2.1.map (cL 1 cS))),.d (.sl 1 (y2.2.2.1.map cS)),.d (.str y2.2.2.2.1),.slf 4 50,.own 5 1 (y2.2.2.2.2.map cU)])] [(3,ACall Tryd.prog 26 [.bp 1000000 0,.d (.str y1.1),.d (.v (.bool a1))] [.box [.d (.sl 1 (y1.2.2.1.map cS)),.d (.sl 1 (y1.2.2.2.1.map (cL 1 cS))),.d (.sl 1 (y1.2.2.2.2.1.map cS)),.d (.str y1.2.2.2.2.2.1),.slf 4 50,.own 5 1 (y1.2.2.2.2.2.2.map cU)]] (.tup []) [.box [.d (.sl 1 (y2.1.map cS)),.d (.sl 1 (y2.2.1.map (cL 1 cS))),.d (.sl 1 (y2.2.2.1.map cS)),.d (.str y2.2.2.2.1),.slf 4 50,.own 5 1 (y2.2.2.2.2.map cU)]])] 0 (by kernel_rfl) (vary_merger_put_ok hy2) ?_
            refine T_reg [] [6,1000000] [(6,.d (.v (.int .i64 (0:Int))))] [] 1 (by kernel_rfl) (trivial) ?_
            obtain hs:=Option.some.inj h; subst hs
            refine T_ret fun a w hm=>inBlock_ret (then_ret (T_return (fr':=[(6,.d (.v (.int .i64 (0:Int)))),(1000000,.box [.d (.sl 1 (y2.1.map cS)),.d (.sl 1 (y2.2.1.map (cL 1 cS))),.d (.sl 1 (y2.2.2.1.map cS)),.d (.str y2.2.2.2.1),.slf 4 50,.own 5 1 (y2.2.2.2.2.map cU)])]) [6] (by kernel_rfl) [.keep [6,1000000]] (by kernel_rfl) (by kernel_rfl) (by kernel_rfl) (by show _=_; kernel_rfl) (by exact ⟨⟨by kernel_rfl,by kernel_rfl⟩,trivial⟩) a w hm))
          · have h:=cond_ff hc h
            refine T_reg [] [0,1,2,9,10,123,1000000] [(123,.d (.v (.bool (a0 == (16:Int)))))] [] 3 (by kernel_rfl) (trivial) ?_
            refine T_cond (a0 == (16:Int)) (by kernel_rfl) (fun hc=>?_) (fun hc=>?_)
            · have h:=cond_tt hc h
              refine T_reg [] [6,1000000] [(6,.d (.v (.int .i64 (15:Int))))] [] 1 (by kernel_rfl) (trivial) ?_
              obtain hs:=Option.some.inj h; subst hs
              refine T_ret fun a w hm=>inBlock_ret (then_ret (T_return (fr':=[(6,.d (.v (.int .i64 (15:Int)))),(1000000,.box [.d (.sl 1 (y1.2.2.1.map cS)),.d (.sl 1 (y1.2.2.2.1.map (cL 1 cS))),.d (.sl 1 (y1.2.2.2.2.1.map cS)),.d (.str y1.2.2.2.2.2.1),.slf 4 50,.own 5 1 (y1.2.2.2.2.2.2.map cU)])]) [6] (by kernel_rfl) [.keep [6,1000000]] (by kernel_rfl) (by kernel_rfl) (by kernel_rfl) (by show _=_; kernel_rfl) (by exact ⟨⟨by kernel_rfl,by kernel_rfl⟩,trivial⟩) a w hm))
            · have h:=cond_ff hc h
              refine T_skip fun a w hm=>inBlock_norm (then_norm (((?_:T Tryd.prog e 138 _ _ _) a w hm)))
              obtain ⟨y3,hy3,h⟩:=call_ok h
              refine T_reg [(11,{ res:=.d (.v (.int .i64 y3.1)),vout:=[.box [.d (.sl 1 (y3.2.1.map cS)),.d (.sl 1 (y3.2.2.1.map (cL 1 cS))),.d (.sl 1 (y3.2.2.2.1.map cS)),.d (.str y3.2.2.2.2.1),.slf 4 50,.own 5 1 (y3.2.2.2.2.2.map cU)]],xs:=[1000000] })] [6,1000000] [(6,.d (.v (.int .i64 y3.1))),(1000000,.box [.d (.sl 1 (y3.2.1.map cS)),.d (.sl 1 (y3.2.2.1.map (cL 1 cS))),.d (.sl 1 (y3.2.2.2.1.map cS)),.d (.str y3.2.2.2.2.1),.slf 4 50,.own 5 1 (y3.2.2.2.2.2.map cU)])] [(5,(((a1 == true) && true)=true→True)),(0,(((a1 == true) && true)=true→True)),(0,(((a1 == true) && true)=true→True)),(0,(((a1 == true) && true)=true→True)),(0,(((a1 == true) && true)=true→True)),(1,ACall Tryd.prog 19 [.bp 1000000 0,.d (.v (.int .i64 (IntKind.i64.wrap (a0+(1:Int))))),.d (.v (.bool (bif a1 then ((!(y1.1 == [])) == (((c5.getD v2.toNat 0).toNat:Int) == (63:Int))) else false)))] [.box [.d (.sl 1 (y1.2.2.1.map cS)),.d (.sl 1 (y1.2.2.2.1.map (cL 1 cS))),.d (.sl 1 (y1.2.2.2.2.1.map cS)),.d (.str y1.2.2.2.2.2.1),.slf 4 50,.own 5 1 (y1.2.2.2.2.2.2.map cU)]] (.d (.v (.int .i64 y3.1))) [.box [.d (.sl 1 (y3.2.1.map cS)),.d (.sl 1 (y3.2.2.1.map (cL 1 cS))),.d (.sl 1 (y3.2.2.2.1.map cS)),.d (.str y3.2.2.2.2.1),.slf 4 50,.own 5 1 (y3.2.2.2.2.2.map cU)]])] 1 (by kernel_rfl) (⟨(fun hg=>trivial),(fun hg=>trivial),(fun hg=>trivial),(fun hg=>trivial),(fun hg=>trivial),hrec_vary_merger_run hy3⟩) ?_
              obtain hs:=Option.some.inj h; subst hs
              refine T_ret fun a w hm=>T_return (fr':=[(6,.d (.v (.int .i64 y3.1))),(1000000,.box [.d (.sl 1 (y3.2.1.map cS)),.d (.sl 1 (y3.2.2.1.map (cL 1 cS))),.d (.sl 1 (y3.2.2.2.1.map cS)),.d (.str y3.2.2.2.2.1),.slf 4 50,.own 5 1 (y3.2.2.2.2.2.map cU)])]) [6] (by kernel_rfl) [.keep [6,1000000]] (by kernel_rfl) (by kernel_rfl) (by kernel_rfl) (by show _=_; kernel_rfl) (by exact ⟨⟨by kernel_rfl,by kernel_rfl⟩,trivial⟩) a w hm
theorem vary_merger_run_body_ok {F:Nat} {rec_vary_merger_run:Int→Bool→(List (List UInt8))→(List (List (List UInt8)))→(List (List UInt8))→(List UInt8)→(List UInt8)→Option (Int×(List (List UInt8))×(List (List (List UInt8)))×(List (List UInt8))×(List UInt8)×(List UInt8))} (hrec_vary_merger_run:∀ {a0:Int},∀ {a1:Bool},∀ {c2:List (List UInt8)},∀ {c3:List (List (List UInt8))},∀ {c4:List (List UInt8)},∀ {c5:List UInt8},∀ {c6:List UInt8},∀ {r:Int×(List (List UInt8))×(List (List (List UInt8)))×(List (List UInt8))×(List UInt8)×(List UInt8)},rec_vary_merger_run a0 a1 c2 c3 c4 c5 c6=some r→ACall Tryd.prog 19 [.bp 1000000 0,.d (.v (.int .i64 a0)),.d (.v (.bool a1))] [.box [.d (.sl 1 (c2.map cS)),.d (.sl 1 (c3.map (cL 1 cS))),.d (.sl 1 (c4.map cS)),.d (.str c5),.slf 4 50,.own 5 1 (c6.map cU)]] (.d (.v (.int .i64 r.1))) [.box [.d (.sl 1 (r.2.1.map cS)),.d (.sl 1 (r.2.2.1.map (cL 1 cS))),.d (.sl 1 (r.2.2.2.1.map cS)),.d (.str r.2.2.2.2.1),.slf 4 50,.own 5 1 (r.2.2.2.2.2.map cU)]]) {a0:Int} {a1:Bool} {c2:List (List UInt8)} {c3:List (List (List UInt8))} {c4:List (List UInt8)} {c5:List UInt8} {c6:List UInt8} {r:Int×(List (List UInt8))×(List (List (List UInt8)))×(List (List UInt8))×(List UInt8)×(List UInt8)} (h:vary_merger_run_body F rec_vary_merger_run a0 a1 c2 c3 c4 c5 c6=some r):ACall Tryd.prog 19 [.bp 1000000 0,.d (.v (.int .i64 a0)),.d (.v (.bool a1))] [.box [.d (.sl 1 (c2.map cS)),.d (.sl 1 (c3.map (cL 1 cS))),.d (.sl 1 (c4.map cS)),.d (.str c5),.slf 4 50,.own 5 1 (c6.map cU)]] (.d (.v (.int .i64 r.1))) [.box [.d (.sl 1 (r.2.1.map cS)),.d (.sl 1 (r.2.2.1.map (cL 1 cS))),.d (.sl 1 (r.2.2.2.1.map cS)),.d (.str r.2.2.2.2.1),.slf 4 50,.own 5 1 (r.2.2.2.2.2.map cU)]]:=by
  rw [vary_merger_run_body] at h
  refine ACall.intro (N:=114) Tryd.func19 rfl rfl rfl rfl rfl fun e=>?_
  refine T_reg [] [0,1,2,1000000] [] [] 1 (by kernel_rfl) (trivial) ?_
  refine T_joinE h (fun (p:(List (List UInt8))×(List (List (List UInt8)))×(List (List UInt8))×(List UInt8)×(List UInt8))=>[(1,.d (.v (.int .i64 a0))),(1000000,.box [.d (.sl 1 (p.1.map cS)),.d (.sl 1 (p.2.1.map (cL 1 cS))),.d (.sl 1 (p.2.2.1.map cS)),.d (.str p.2.2.2.1),.slf 4 50,.own 5 1 (p.2.2.2.2.map cU)])]) (fun s h hk1=>?_) (fun s h=>?_)
  · refine T_co [.keep [0,1,2,1000000]] ((fun (p:(List (List UInt8))×(List (List (List UInt8)))×(List (List UInt8))×(List UInt8)×(List UInt8))=>[(0,.bp 1000000 0),(1,.d (.v (.int .i64 a0))),(2,.d (.v (.bool a1))),(1000000,.box [.d (.sl 1 (p.1.map cS)),.d (.sl 1 (p.2.1.map (cL 1 cS))),.d (.sl 1 (p.2.2.1.map cS)),.d (.str p.2.2.2.1),.slf 4 50,.own 5 1 (p.2.2.2.2.map cU)])]) (c2,c3,c4,c5,c6)) (by show _=_; kernel_rfl) ?_
    refine T_block ?_
    refine T_loopF (ι:=(List (List UInt8))×(List (List (List UInt8)))×(List (List UInt8))×(List UInt8)×(List UInt8)) (fun (p:(List (List UInt8))×(List (List (List UInt8)))×(List (List UInt8))×(List UInt8)×(List UInt8))=>[(0,.bp 1000000 0),(1,.d (.v (.int .i64 a0))),(2,.d (.v (.bool a1))),(1000000,.box [.d (.sl 1 (p.1.map cS)),.d (.sl 1 (p.2.1.map (cL 1 cS))),.d (.sl 1 (p.2.2.1.map cS)),.d (.str p.2.2.2.1),.slf 4 50,.own 5 1 (p.2.2.2.2.map cU)])]) (fun n p=>vary_merger_run_L0 F a0 a1 rec_vary_merger_run n p.1 p.2.1 p.2.2.1 p.2.2.2.1 p.2.2.2.2=some s) (fun i hh=>by simp [vary_merger_run_L0] at hh) (fun n p h=>?_) F (c2,c3,c4,c5,c6) h
    obtain ⟨v1,v2,v3,v4,v5⟩:=p
    have h:vary_merger_run_L0 F a0 a1 rec_vary_merger_run (n+1) v1 v2 v3 v4 v5=some s:=h
    rw [vary_merger_run_L0] at h
    refine T_seqk ?_
    refine T_reg [] [0,1,2,13,1000000] [(13,.d (.v (.bool (!(v4 == [])))))] [] 5 (by kernel_rfl) (trivial) ?_
    refine T_cond (!(v4 == [])) (by kernel_rfl) (fun hc=>?_) (fun hc=>?_)
    · have h:=cond_tt hc h
      refine T_skip fun a w hm=>then_norm (((?_:T Tryd.prog e 114 _ _ _) a w hm))
      refine T_block ?_
      obtain ⟨hp1,h⟩:=chk_ok h
      refine T_reg [(4,{ res:=.d (.v (.int .i64 (Lib.indexAny v4 ([123,125]:List UInt8)))) })] [0,1,2,7,1000000] [(7,.d (.v (.int .i64 (Lib.indexAny v4 ([123,125]:List UInt8)))))] [(4,ACall Tryd.prog 25 [.d (.str v4),.d (.str ([123,125]:List UInt8))] [] (.d (.v (.int .i64 (Lib.indexAny v4 ([123,125]:List UInt8))))) [])] 1 (by kernel_rfl) (b_IndexAny hp1 (by decide)) ?_
      refine T_joinc h (fun (p:Int)=>[(0,.bp 1000000 0),(1,.d (.v (.int .i64 a0))),(2,.d (.v (.bool a1))),(7,.d (.v (.int .i64 p))),(1000000,.box [.d (.sl 1 (v1.map cS)),.d (.sl 1 (v2.map (cL 1 cS))),.d (.sl 1 (v3.map cS)),.d (.str v4),.slf 4 50,.own 5 1 (v5.map cU)])]) (fun s h=>?_) (fun v6 h=>?_)
      · refine T_reg [] [0,1,2,7,20,1000000] [(20,.d (.v (.bool (decide ((Lib.indexAny v4 ([123,125]:List UInt8)) < (0:Int))))))] [] 2 (by kernel_rfl) (trivial) ?_
        refine T_cond (decide ((Lib.indexAny v4 ([123,125]:List UInt8)) < (0:Int))) (by kernel_rfl) (fun hc=>?_) (fun hc=>?_)
        · have h:=cond_tt hc h
          obtain hs:=Option.some.inj h; subst hs
          refine T_reg_end [] [0,1,2,7,1000000] [(7,.d (.v (.int .i64 (v4.length:Int))))] [] 6 (by kernel_rfl) (trivial) fun a w hm=>then_norm (hm.co (cs:=[.keep [0,1,2,7,1000000]]) (by show _=_; kernel_rfl))
        · have h:=cond_ff hc h
          obtain hs:=Option.some.inj h; subst hs
          refine T_skip fun a w hm=>then_norm (hm.co (cs:=[.keep [0,1,2,7,1000000]]) (by show _=_; kernel_rfl))
      · skip
        obtain ⟨hp2,h⟩:=chk_ok h
        obtain ⟨y1,hy1,h⟩:=call_ok h
        refine T_reg [(8,{ res:=.tup [],vout:=[.box [.d (.sl 1 (y1.1.map cS)),.d (.sl 1 (y1.2.1.map (cL 1 cS))),.d (.sl 1 (y1.2.2.1.map cS)),.d (.str y1.2.2.2.1),.slf 4 50,.own 5 1 (y1.2.2.2.2.map cU)]],xs:=[1000000] })] [0,1,2,7,1000000] [(1000000,.box [.d (.sl 1 (y1.1.map cS)),.d (.sl 1 (y1.2.1.map (cL 1 cS))),.d (.sl 1 (y1.2.2.1.map cS)),.d (.str y1.2.2.2.1),.slf 4 50,.own 5 1 (y1.2.2.2.2.map cU)])] [(6,0≤(0:Int)∧(0:Int)≤v6∧v6≤(v4.length:Int)),(1,ACall Tryd.prog 26 [.bp 1000000 0,.d (.str ((v4.drop (0:Int).toNat).take (v6.toNat - (0:Int).toNat))),.d (.v (.bool a1))] [.box [.d (.sl 1 (v1.map cS)),.d (.sl 1 (v2.map (cL 1 cS))),.d (.sl 1 (v3.map cS)),.d (.str v4),.slf 4 50,.own 5 1 (v5.map cU)]] (.tup []) [.box [.d (.sl 1 (y1.1.map cS)),.d (.sl 1 (y1.2.1.map (cL 1 cS))),.d (.sl 1 (y1.2.2.1.map cS)),.d (.str y1.2.2.2.1),.slf 4 50,.own 5 1 (y1.2.2.2.2.map cU)]])] 0 (by kernel_rfl) (⟨hp2,vary_merger_put_ok hy1⟩) ?_
        obtain ⟨hp3,h⟩:=chk_ok h
        refine T_reg [] [0,1,2,1000000] [(1000000,.box [.d (.sl 1 (y1.1.map cS)),.d (.sl 1 (y1.2.1.map (cL 1 cS))),.d (.sl 1 (y1.2.2.1.map cS)),.d (.str ((y1.2.2.2.1.drop v6.toNat).take ((y1.2.2.2.1.length:Int).toNat - v6.toNat))),.slf 4 50,.own 5 1 (y1.2.2.2.2.map cU)])] [(6,0≤v6∧v6≤(y1.2.2.2.1.length:Int)∧(y1.2.2.2.1.length:Int)≤(y1.2.2.2.1.length:Int))] 3 (by kernel_rfl) (hp3) ?_
        refine T_block ?_
        refine T_reg [] [0,1,2,51,1000000] [(51,.d (.v (.bool (((y1.2.2.2.1.drop v6.toNat).take ((y1.2.2.2.1.length:Int).toNat - v6.toNat)) == []))))] [] 6 (by kernel_rfl) (trivial) ?_
        refine T_cond (((y1.2.2.2.1.drop v6.toNat).take ((y1.2.2.2.1.length:Int).toNat - v6.toNat)) == []) (by kernel_rfl) (fun hc=>?_) (fun hc=>?_)
        · have h:=cond_tt hc h
          refine T_skip fun a w hm=>inBlock_norm (inBlock_norm (then_norm (⟨(y1.1,y1.2.1,y1.2.2.1,((y1.2.2.2.1.drop v6.toNat).take ((y1.2.2.2.1.length:Int).toNat - v6.toNat)),y1.2.2.2.2),h,hm.co (cs:=[.keep [0,1,2,1000000]]) (by show _=_; kernel_rfl)⟩)))
        · have h:=cond_ff hc h
          obtain ⟨y2,hy2,h⟩:=call_ok h
          obtain ⟨y3,hy3,h⟩:=call_ok h
          refine T_reg [(4,{ res:=.d (.v (.bool y2)) }),(10,{ res:=.d (.v (.bool y3)) })] [0,1,2,57,1000000] [(57,.d (.v (.bool (bif y2 then true else y3))))] [(4,ACall Tryd.prog 27 [.d (.str ((y1.2.2.2.1.drop v6.toNat).take ((y1.2.2.2.1.length:Int).toNat - v6.toNat))),.d (.str ([123,123]:List UInt8))] [] (.d (.v (.bool y2))) []),(1,(((y2 == false) && true)=true→True)),(0,(((y2 == false) && true)=true→True)),(0,(((y2 == false) && true)=true→True)),(0,(((y2 == false) && true)=true→True)),(0,(((y2 == false) && true)=true→ACall Tryd.prog 27 [.d (.str ((y1.2.2.2.1.drop v6.toNat).take ((y1.2.2.2.1.length:Int).toNat - v6.toNat))),.d (.str ([125,125]:List UInt8))] [] (.d (.v (.bool y3))) []))] 2 (by kernel_rfl) (⟨strings_HasPrefix_ok hy2,(fun hg=>trivial),(fun hg=>trivial),(fun hg=>trivial),(fun hg=>trivial),(fun hg=>strings_HasPrefix_ok (gcall_ok hg hy3))⟩) ?_
          refine T_cond (bif y2 then true else y3) (by kernel_rfl) (fun hc=>?_) (fun hc=>?_)
          · have h:=cond_tt hc h
            obtain ⟨hp4,h⟩:=chk_ok h
            obtain ⟨z1,hz1,h⟩:=lett_ok h
            obtain ⟨y4,hy4,h⟩:=call_ok h
            refine T_reg [(5,{ rw:=some (.d (.str z1)) }),(7,{ res:=.tup [],vout:=[.box [.d (.sl 1 (y4.1.map cS)),.d (.sl 1 (y4.2.1.map (cL 1 cS))),.d (.sl 1 (y4.2.2.1.map cS)),.d (.str y4.2.2.2.1),.slf 4 50,.own 5 1 (y4.2.2.2.2.map cU)]],xs:=[1000000] })] [0,1,2,1000000] [(1000000,.box [.d (.sl 1 (y4.1.map cS)),.d (.sl 1 (y4.2.1.map (cL 1 cS))),.d (.sl 1 (y4.2.2.1.map cS)),.d (.str y4.2.2.2.1),.slf 4 50,.own 5 1 (y4.2.2.2.2.map cU)])] [(5,(0≤(0:Int)∧(0:Int)≤(1:Int)∧(1:Int)≤(((y1.2.2.2.1.drop v6.toNat).take ((y1.2.2.2.1.length:Int).toNat - v6.toNat)).length:Int))∧AV.d (.str ((((y1.2.2.2.1.drop v6.toNat).take ((y1.2.2.2.1.length:Int).toNat - v6.toNat)).drop (0:Int).toNat).take ((1:Int).toNat - (0:Int).toNat)))=.d (.str z1)),(1,ACall Tryd.prog 26 [.bp 1000000 0,.d (.str z1),.d (.v (.bool a1))] [.box [.d (.sl 1 (y1.1.map cS)),.d (.sl 1 (y1.2.1.map (cL 1 cS))),.d (.sl 1 (y1.2.2.1.map cS)),.d (.str ((y1.2.2.2.1.drop v6.toNat).take ((y1.2.2.2.1.length:Int).toNat - v6.toNat))),.slf 4 50,.own 5 1 (y1.2.2.2.2.map cU)]] (.tup []) [.box [.d (.sl 1 (y4.1.map cS)),.d (.sl 1 (y4.2.1.map (cL 1 cS))),.d (.sl 1 (y4.2.2.1.map cS)),.d (.str y4.2.2.2.1),.slf 4 50,.own 5 1 (y4.2.2.2.2.map cU)]])] 0 (by kernel_rfl) (⟨⟨hp4,(by subst hz1; rfl)⟩,vary_merger_put_ok hy4⟩) ?_
            obtain ⟨hp5,h⟩:=chk_ok h
            refine T_reg_end [] [0,1,2,1000000] [(1000000,.box [.d (.sl 1 (y4.1.map cS)),.d (.sl 1 (y4.2.1.map (cL 1 cS))),.d (.sl 1 (y4.2.2.1.map cS)),.d (.str ((y4.2.2.2.1.drop (2:Int).toNat).take ((y4.2.2.2.1.length:Int).toNat - (2:Int).toNat))),.slf 4 50,.own 5 1 (y4.2.2.2.2.map cU)])] [(5,0≤(2:Int)∧(2:Int)≤(y4.2.2.2.1.length:Int)∧(y4.2.2.2.1.length:Int)≤(y4.2.2.2.1.length:Int))] 3 (by kernel_rfl) (hp5) fun a w hm=>inBlock_norm (inBlock_norm (then_norm (⟨(y4.1,y4.2.1,y4.2.2.1,((y4.2.2.2.1.drop (2:Int).toNat).take ((y4.2.2.2.1.length:Int).toNat - (2:Int).toNat)),y4.2.2.2.2),h,hm.co (cs:=[.keep [0,1,2,1000000]]) (by show _=_; kernel_rfl)⟩)))
          · have h:=cond_ff hc h
            obtain ⟨hp6,h⟩:=chk_ok h
            obtain ⟨z2,hz2,h⟩:=lett_ok h
            refine T_reg [(4,{ rw:=some (.d (.v (.int .u8 z2))) })] [0,1,2,86,1000000] [(86,.d (.v (.bool (bif (z2 == (125:Int)) then (decide (a0 > (0:Int))) else false))))] [(4,(0≤(0:Int)∧(0:Int) < ((y1.2.2.2.1.drop v6.toNat).take ((y1.2.2.2.1.length:Int).toNat - v6.toNat)).length)∧AV.d (.v (.int .u8 ((((y1.2.2.2.1.drop v6.toNat).take ((y1.2.2.2.1.length:Int).toNat - v6.toNat)).getD (0:Int).toNat 0).toNat:Int)))=.d (.v (.int .u8 z2))),(2,((((z2 == (125:Int)) == true) && true)=true→True)),(0,((((z2 == (125:Int)) == true) && true)=true→True))] 2 (by kernel_rfl) (⟨⟨hp6,(by subst hz2; rfl)⟩,(fun hg=>trivial),(fun hg=>trivial)⟩) ?_
            refine T_cond (bif (z2 == (125:Int)) then (decide (a0 > (0:Int))) else false) (by kernel_rfl) (fun hc=>?_) (fun hc=>?_)
            · have h:=cond_tt hc h
              obtain ⟨hp7,h⟩:=chk_ok h
              obtain ⟨z3,hz3,h⟩:=lett_ok h
              refine T_reg [(5,{ rw:=some (.d (.str z3)) })] [1000000] [(1000000,.box [.d (.sl 1 (y1.1.map cS)),.d (.sl 1 (y1.2.1.map (cL 1 cS))),.d (.sl 1 (y1.2.2.1.map cS)),.d (.str z3),.slf 4 50,.own 5 1 (y1.2.2.2.2.map cU)])] [(5,(0≤(1:Int)∧(1:Int)≤(((y1.2.2.2.1.drop v6.toNat).take ((y1.2.2.2.1.length:Int).toNat - v6.toNat)).length:Int)∧(((y1.2.2.2.1.drop v6.toNat).take ((y1.2.2.2.1.length:Int).toNat - v6.toNat)).length:Int)≤(((y1.2.2.2.1.drop v6.toNat).take ((y1.2.2.2.1.length:Int).toNat - v6.toNat)).length:Int))∧AV.d (.str ((((y1.2.2.2.1.drop v6.toNat).take ((y1.2.2.2.1.length:Int).toNat - v6.toNat)).drop (1:Int).toNat).take ((((y1.2.2.2.1.drop v6.toNat).take ((y1.2.2.2.1.length:Int).toNat - v6.toNat)).length:Int).toNat - (1:Int).toNat)))=.d (.str z3))] 3 (by kernel_rfl) (⟨hp7,(by subst hz3; rfl)⟩) ?_
              refine T_reg [] [6,1000000] [(6,.d (.v (.int .i64 (0:Int))))] [] 1 (by kernel_rfl) (trivial) ?_
              obtain hs:=Option.some.inj h; subst hs
              have h:=callE_esc hk1
              obtain hs:=Option.some.inj h; subst hs
              refine T_ret fun a w hm=>inBlock_ret (inBlock_ret (then_ret (inBlock_ret (then_ret (T_return (fr':=[(6,.d (.v (.int .i64 (0:Int)))),(1000000,.box [.d (.sl 1 (y1.1.map cS)),.d (.sl 1 (y1.2.1.map (cL 1 cS))),.d (.sl 1 (y1.2.2.1.map cS)),.d (.str z3),.slf 4 50,.own 5 1 (y1.2.2.2.2.map cU)])]) [6] (by kernel_rfl) [.keep [6,1000000]] (by kernel_rfl) (by kernel_rfl) (by kernel_rfl) (by show _=_; kernel_rfl) (by exact ⟨⟨by kernel_rfl,by kernel_rfl⟩,trivial⟩) a w hm)))))
            · have h:=cond_ff hc h
              obtain ⟨hp8,h⟩:=chk_ok h
              obtain ⟨z4,hz4,h⟩:=lett_ok h
              refine T_reg [(4,{ rw:=some (.d (.v (.int .u8 z4))) })] [0,1,2,105,1000000] [(105,.d (.v (.bool (z4 == (125:Int)))))] [(4,(0≤(0:Int)∧(0:Int) < ((y1.2.2.2.1.drop v6.toNat).take ((y1.2.2.2.1.length:Int).toNat - v6.toNat)).length)∧AV.d (.v (.int .u8 ((((y1.2.2.2.1.drop v6.toNat).take ((y1.2.2.2.1.length:Int).toNat - v6.toNat)).getD (0:Int).toNat 0).toNat:Int)))=.d (.v (.int .u8 z4)))] 2 (by kernel_rfl) (⟨hp8,(by subst hz4; rfl)⟩) ?_
              refine T_cond (z4 == (125:Int)) (by kernel_rfl) (fun hc=>?_) (fun hc=>?_)
              · have h:=cond_tt hc h
                refine T_reg [] [6,1000000] [(6,.d (.v (.int .i64 (5:Int))))] [] 1 (by kernel_rfl) (trivial) ?_
                obtain hs:=Option.some.inj h; subst hs
                have h:=callE_esc hk1
                obtain hs:=Option.some.inj h; subst hs
                refine T_ret fun a w hm=>inBlock_ret (inBlock_ret (then_ret (inBlock_ret (then_ret (T_return (fr':=[(6,.d (.v (.int .i64 (5:Int)))),(1000000,.box [.d (.sl 1 (y1.1.map cS)),.d (.sl 1 (y1.2.1.map (cL 1 cS))),.d (.sl 1 (y1.2.2.1.map cS)),.d (.str ((y1.2.2.2.1.drop v6.toNat).take ((y1.2.2.2.1.length:Int).toNat - v6.toNat))),.slf 4 50,.own 5 1 (y1.2.2.2.2.map cU)])]) [6] (by kernel_rfl) [.keep [6,1000000]] (by kernel_rfl) (by kernel_rfl) (by kernel_rfl) (by show _=_; kernel_rfl) (by exact ⟨⟨by kernel_rfl,by kernel_rfl⟩,trivial⟩) a w hm)))))
              · have h:=cond_ff hc h
                obtain ⟨y5,hy5,h⟩:=call_ok h
                refine T_reg [(3,{ res:=.d (.v (.int .i64 y5.1)),vout:=[.box [.d (.sl 1 (y5.2.1.map cS)),.d (.sl 1 (y5.2.2.1.map (cL 1 cS))),.d (.sl 1 (y5.2.2.2.1.map cS)),.d (.str y5.2.2.2.2.1),.slf 4 50,.own 5 1 (y5.2.2.2.2.2.map cU)]],xs:=[1000000] })] [0,1,2,8,1000000] [(8,.d (.v (.int .i64 y5.1))),(1000000,.box [.d (.sl 1 (y5.2.1.map cS)),.d (.sl 1 (y5.2.2.1.map (cL 1 cS))),.d (.sl 1 (y5.2.2.2.1.map cS)),.d (.str y5.2.2.2.2.1),.slf 4 50,.own 5 1 (y5.2.2.2.2.2.map cU)])] [(3,ACall Tryd.prog 28 [.bp 1000000 0,.d (.v (.int .i64 a0)),.d (.v (.bool a1))] [.box [.d (.sl 1 (y1.1.map cS)),.d (.sl 1 (y1.2.1.map (cL 1 cS))),.d (.sl 1 (y1.2.2.1.map cS)),.d (.str ((y1.2.2.2.1.drop v6.toNat).take ((y1.2.2.2.1.length:Int).toNat - v6.toNat))),.slf 4 50,.own 5 1 (y1.2.2.2.2.map cU)]] (.d (.v (.int .i64 y5.1))) [.box [.d (.sl 1 (y5.2.1.map cS)),.d (.sl 1 (y5.2.2.1.map (cL 1 cS))),.d (.sl 1 (y5.2.2.2.1.map cS)),.d (.str y5.2.2.2.2.1),.slf 4 50,.own 5 1 (y5.2.2.2.2.2.map cU)]])] 1 (by kernel_rfl) (vary_merger_open_ok hrec_vary_merger_run hy5) ?_
                refine T_reg [] [0,1,2,8,49,1000000] [(49,.d (.v (.bool (y5.1 != (0:Int)))))] [] 2 (by kernel_rfl) (trivial) ?_
                refine T_cond (y5.1 != (0:Int)) (by kernel_rfl) (fun hc=>?_) (fun hc=>?_)
                · have h:=cond_tt hc h
                  refine T_reg [] [6,1000000] [(6,.d (.v (.int .i64 y5.1)))] [] 2 (by kernel_rfl) (trivial) ?_
                  obtain hs:=Option.some.inj h; subst hs
                  have h:=callE_esc hk1
                  obtain hs:=Option.some.inj h; subst hs
                  refine T_ret fun a w hm=>inBlock_ret (inBlock_ret (then_ret (inBlock_ret (then_ret (T_return (fr':=[(6,.d (.v (.int .i64 y5.1))),(1000000,.box [.d (.sl 1 (y5.2.1.map cS)),.d (.sl 1 (y5.2.2.1.map (cL 1 cS))),.d (.sl 1 (y5.2.2.2.1.map cS)),.d (.str y5.2.2.2.2.1),.slf 4 50,.own 5 1 (y5.2.2.2.2.2.map cU)])]) [6] (by kernel_rfl) [.keep [6,1000000]] (by kernel_rfl) (by kernel_rfl) (by kernel_rfl) (by show _=_; kernel_rfl) (by exact ⟨⟨by kernel_rfl,by kernel_rfl⟩,trivial⟩) a w hm)))))
                · have h:=cond_ff hc h
                  refine T_skip fun a w hm=>inBlock_norm (inBlock_norm (then_norm (⟨(y5.2.1,y5.2.2.1,y5.2.2.2.1,y5.2.2.2.2.1,y5.2.2.2.2.2),h,hm.co (cs:=[.keep [0,1,2,1000000]]) (by show _=_; kernel_rfl)⟩)))
    · have h:=cond_ff hc h
      obtain hs:=Option.some.inj h; subst hs
      refine T_exit fun a w hm=>then_exit (then_exit (inBlock_exit (then_norm (⟨_,rfl,hm.co (cs:=[.keep [1,1000000]]) (by show _=_; kernel_rfl)⟩))))
  · obtain ⟨v7,v8,v9,v10,v11⟩:=s
    try dsimp only at h
    refine T_seqk ?_
    refine T_reg [] [113,1000000] [(113,.d (.v (.bool (decide (a0 > (0:Int))))))] [] 2 (by kernel_rfl) (trivial) ?_
    refine T_cond (decide (a0 > (0:Int))) (by kernel_rfl) (fun hc=>?_) (fun hc=>?_)
    · have h:=cond_tt hc h
      refine T_reg [] [6,1000000] [(6,.d (.v (.int .i64 (12:Int))))] [] 1 (by kernel_rfl) (trivial) ?_
      obtain hs:=Option.some.inj h; subst hs
      refine T_ret fun a w hm=>then_ret (T_return (fr':=[(6,.d (.v (.int .i64 (12:Int)))),(1000000,.box [.d (.sl 1 (v7.map cS)),.d (.sl 1 (v8.map (cL 1 cS))),.d (.sl 1 (v9.map cS)),.d (.str v10),.slf 4 50,.own 5 1 (v11.map cU)])]) [6] (by kernel_rfl) [.keep [6,1000000]] (by kernel_rfl) (by kernel_rfl) (by kernel_rfl) (by show _=_; kernel_rfl) (by exact ⟨⟨by kernel_rfl,by kernel_rfl⟩,trivial⟩) a w hm)
    · have h:=cond_ff hc h
      refine T_skip fun a w hm=>then_norm (((?_:T Tryd.prog e 114 _ _ _) a w hm))
      refine T_reg [] [6,1000000] [(6,.d (.v (.int .i64 (0:Int))))] [] 1 (by kernel_rfl) (trivial) ?_
      obtain hs:=Option.some.inj h; subst hs
      refine T_ret fun a w hm=>T_return (fr':=[(6,.d (.v (.int .i64 (0:Int)))),(1000000,.box [.d (.sl 1 (v7.map cS)),.d (.sl 1 (v8.map (cL 1 cS))),.d (.sl 1 (v9.map cS)),.d (.str v10),.slf 4 50,.own 5 1 (v11.map cU)])]) [6] (by kernel_rfl) [.keep [6,1000000]] (by kernel_rfl) (by kernel_rfl) (by kernel_rfl) (by show _=_; kernel_rfl) (by exact ⟨⟨by kernel_rfl,by kernel_rfl⟩,trivial⟩) a w hm
theorem vary_merger_run_fuel_ok {F:Nat} (n:Nat):∀ {a0:Int} {a1:Bool} {c2:List (List UInt8)} {c3:List (List (List UInt8))} {c4:List (List UInt8)} {c5:List UInt8} {c6:List UInt8} {r:Int×(List (List UInt8))×(List (List (List UInt8)))×(List (List UInt8))×(List UInt8)×(List UInt8)},vary_merger_run_fuel F n a0 a1 c2 c3 c4 c5 c6=some r→ACall Tryd.prog 19 [.bp 1000000 0,.d (.v (.int .i64 a0)),.d (.v (.bool a1))] [.box [.d (.sl 1 (c2.map cS)),.d (.sl 1 (c3.map (cL 1 cS))),.d (.sl 1 (c4.map cS)),.d (.str c5),.slf 4 50,.own 5 1 (c6.map cU)]] (.d (.v (.int .i64 r.1))) [.box [.d (.sl 1 (r.2.1.map cS)),.d (.sl 1 (r.2.2.1.map (cL 1 cS))),.d (.sl 1 (r.2.2.2.1.map cS)),.d (.str r.2.2.2.2.1),.slf 4 50,.own 5 1 (r.2.2.2.2.2.map cU)]]:=by
  induction n with
  | zero=>intro a0 a1 c2 c3 c4 c5 c6 r h; exact absurd (show (none:Option (Int×(List (List UInt8))×(List (List (List UInt8)))×(List (List UInt8))×(List UInt8)×(List UInt8)))=some r from h) (by simp)
  | succ n ih=>intro a0 a1 c2 c3 c4 c5 c6 r h; exact vary_merger_run_body_ok ih h
theorem vary_merger_run_ok {F:Nat} {a0:Int} {a1:Bool} {c2:List (List UInt8)} {c3:List (List (List UInt8))} {c4:List (List UInt8)} {c5:List UInt8} {c6:List UInt8} {r:Int×(List (List UInt8))×(List (List (List UInt8)))×(List (List UInt8))×(List UInt8)×(List UInt8)} (h:vary_merger_run F a0 a1 c2 c3 c4 c5 c6=some r):ACall Tryd.prog 19 [.bp 1000000 0,.d (.v (.int .i64 a0)),.d (.v (.bool a1))] [.box [.d (.sl 1 (c2.map cS)),.d (.sl 1 (c3.map (cL 1 cS))),.d (.sl 1 (c4.map cS)),.d (.str c5),.slf 4 50,.own 5 1 (c6.map cU)]] (.d (.v (.int .i64 r.1))) [.box [.d (.sl 1 (r.2.1.map cS)),.d (.sl 1 (r.2.2.1.map (cL 1 cS))),.d (.sl 1 (r.2.2.2.1.map cS)),.d (.str r.2.2.2.2.1),.slf 4 50,.own 5 1 (r.2.2.2.2.2.map cU)]]:=vary_merger_run_fuel_ok F h
theorem vary_Merge_ok {F:Nat} {a0:List UInt8} {a1:S_VaryTable} {a2:Int} {r:(List UInt8)×Int} (h:vary_Merge F a0 a1 a2=some r):ACall Tryd.prog 13 [.d (.str a0),.agg (cS_VaryTable a1),.d (.v (.int .i64 a2))] [.glo 0 ([gm0].flatMap (cI .i64))] (.tup [.d (.str r.1),.d (.v (.int .i64 r.2))]) [.glo 0 ([gm0].flatMap (cI .i64))]:=by
  rw [vary_Merge] at h
  refine ACall.intro (N:=45) Tryd.func13 rfl rfl rfl rfl rfl fun e=>?_
  refine T_reg [] [0,2,4,1000000] [(4,.box [.d (.sl 1 (a1.f0.map cS)),.d (.sl 1 (a1.f1.map (cL 1 cS)))])] [] 3 (by kernel_rfl) (trivial) ?_
  refine T_seqk ?_
  obtain ⟨y1,hy1,h⟩:=call_ok h
  refine T_reg [(1,{ res:=.d (.v (.int .i64 y1)),vout:=[.glo 0 ([gm0].flatMap (cI .i64))],xs:=[1000000] })] [0,2,4,8,1000000] [(8,.d (.v (.int .i64 y1)))] [(1,ACall Tryd.prog 17 [.agg (cS_VaryTable a1)] [.glo 0 ([gm0].flatMap (cI .i64))] (.d (.v (.int .i64 y1))) [.glo 0 ([gm0].flatMap (cI .i64))])] 1 (by kernel_rfl) (vary_Check_ok hy1) ?_
  refine T_reg [] [0,2,4,8,14,1000000] [(14,.d (.v (.bool (y1 != (0:Int)))))] [] 2 (by kernel_rfl) (trivial) ?_
  refine T_cond (y1 != (0:Int)) (by kernel_rfl) (fun hc=>?_) (fun hc=>?_)
  · have h:=cond_tt hc h
    refine T_reg [] [6,7,1000000] [(6,.d (.str [])),(7,.d (.v (.int .i64 y1)))] [] 3 (by kernel_rfl) (trivial) ?_
    obtain hs:=Option.some.inj h; subst hs
    refine T_ret fun a w hm=>then_ret (T_return (fr':=[(6,.d (.str [])),(7,.d (.v (.int .i64 y1))),(1000000,.glo 0 ([gm0].flatMap (cI .i64)))]) [6,7] (by kernel_rfl) [.keep [6,7,1000000]] (by kernel_rfl) (by kernel_rfl) (by kernel_rfl) (by show _=_; kernel_rfl) (by exact ⟨⟨by kernel_rfl,by kernel_rfl⟩,trivial⟩) a w hm)
  · have h:=cond_ff hc h
    refine T_skip fun a w hm=>then_norm (((?_:T Tryd.prog e 45 _ _ _) a w hm))
    refine T_seqk ?_
    refine T_reg [] [0,2,4,18,1000000] [(18,.d (.v (.bool (decide ((a0.length:Int) > (8192:Int))))))] [] 3 (by kernel_rfl) (trivial) ?_
    refine T_cond (decide ((a0.length:Int) > (8192:Int))) (by kernel_rfl) (fun hc=>?_) (fun hc=>?_)
    · have h:=cond_tt hc h
      refine T_reg [] [6,7,1000000] [(6,.d (.str [])),(7,.d (.v (.int .i64 (2:Int))))] [] 2 (by kernel_rfl) (trivial) ?_
      obtain hs:=Option.some.inj h; subst hs
      refine T_ret fun a w hm=>then_ret (T_return (fr':=[(6,.d (.str [])),(7,.d (.v (.int .i64 (2:Int)))),(1000000,.glo 0 ([gm0].flatMap (cI .i64)))]) [6,7] (by kernel_rfl) [.keep [6,7,1000000]] (by kernel_rfl) (by kernel_rfl) (by kernel_rfl) (by show _=_; kernel_rfl) (by exact ⟨⟨by kernel_rfl,by kernel_rfl⟩,trivial⟩) a w hm)
    · have h:=cond_ff hc h
      refine T_skip fun a w hm=>then_norm (((?_:T Tryd.prog e 45 _ _ _) a w hm))
      refine T_seqk ?_
      refine T_reg [(6,{ rw:=some (.d (.v (.int .i64 (a1.f1.length:Int)))) })] [0,2,4,27,1000000] [(27,.d (.v (.bool (bif (decide (a2 < (0:Int))) then true else (decide (a2 ≥ (a1.f1.length:Int)))))))] [(3,((((decide (a2 < (0:Int))) == false) && true)=true→True)),(0,((((decide (a2 < (0:Int))) == false) && true)=true→True)),(0,((((decide (a2 < (0:Int))) == false) && true)=true→True)),(0,((((decide (a2 < (0:Int))) == false) && true)=true→True∧AV.d (.v (.int .i64 ((a1.f1.map (cL 1 cS)).length:Int)))=.d (.v (.int .i64 (a1.f1.length:Int))))),(0,((((decide (a2 < (0:Int))) == false) && true)=true→True))] 1 (by kernel_rfl) (⟨(fun hg=>trivial),(fun hg=>trivial),(fun hg=>trivial),(fun hg=>len_ok (cL 1 cS)),(fun hg=>trivial)⟩) ?_
      refine T_cond (bif (decide (a2 < (0:Int))) then true else (decide (a2 ≥ (a1.f1.length:Int)))) (by kernel_rfl) (fun hc=>?_) (fun hc=>?_)
      · have h:=cond_tt hc h
        refine T_reg [] [6,7,1000000] [(6,.d (.str [])),(7,.d (.v (.int .i64 (3:Int))))] [] 2 (by kernel_rfl) (trivial) ?_
        obtain hs:=Option.some.inj h; subst hs
        refine T_ret fun a w hm=>then_ret (T_return (fr':=[(6,.d (.str [])),(7,.d (.v (.int .i64 (3:Int)))),(1000000,.glo 0 ([gm0].flatMap (cI .i64)))]) [6,7] (by kernel_rfl) [.keep [6,7,1000000]] (by kernel_rfl) (by kernel_rfl) (by kernel_rfl) (by show _=_; kernel_rfl) (by exact ⟨⟨by kernel_rfl,by kernel_rfl⟩,trivial⟩) a w hm)
      · have h:=cond_ff hc h
        refine T_skip fun a w hm=>then_norm (((?_:T Tryd.prog e 45 _ _ _) a w hm))
        obtain ⟨hp1,h⟩:=chk_ok h
        refine T_drawX mixed 18 (.take 1 (.take 3 (.take 6 (.all (.alt 0 (.all (.alt 2 (.all (.alt 4 (.all (.alt 5 (.all (.alt 7 (.all (.alt 8 (.all (.alt 9 .done .stop)) .stop)) (.alt 8 (.all (.alt 7 (.all (.alt 9 .done .stop)) .stop)) .stop))) (.alt 8 (.take 5 (.all (.alt 7 (.all (.alt 9 .done .stop)) .stop))) .stop))) (.alt 8 (.take 4 (.take 5 (.all (.alt 7 (.all (.alt 9 .done .stop)) .stop)))) .stop))) (.alt 8 (.take 2 (.take 4 (.take 5 (.all (.alt 7 (.all (.alt 9 .done .stop)) .stop))))) .stop))) (.alt 2 (.all (.alt 0 (.all (.alt 4 (.all (.alt 5 (.all (.alt 7 (.all (.alt 8 (.all (.alt 9 .done .stop)) .stop)) (.alt 8 (.all (.alt 7 (.all (.alt 9 .done .stop)) .stop)) .stop))) (.alt 8 (.take 5 (.all (.alt 7 (.all (.alt 9 .done .stop)) .stop))) .stop))) (.alt 8 (.take 4 (.take 5 (.all (.alt 7 (.all (.alt 9 .done .stop)) .stop)))) .stop))) (.alt 4 (.all (.alt 0 (.all (.alt 5 (.all (.alt 7 (.all (.alt 8 (.all (.alt 9 .done .stop)) .stop)) (.alt 8 (.all (.alt 7 (.all (.alt 9 .done .stop)) .stop)) .stop))) (.alt 8 (.take 5 (.all (.alt 7 (.all (.alt 9 .done .stop)) .stop))) .stop))) (.alt 5 (.all (.alt 0 (.all (.alt 7 (.all (.alt 8 (.all (.alt 9 .done .stop)) .stop)) (.alt 8 (.all (.alt 7 (.all (.alt 9 .done .stop)) .stop)) .stop))) (.alt 8 (.take 0 (.all (.alt 7 (.all (.alt 9 .done .stop)) .stop))) .stop))) (.alt 8 (.take 0 (.take 5 (.all (.alt 7 (.all (.alt 9 .done .stop)) .stop)))) .stop)))) (.alt 8 (.take 0 (.take 4 (.take 5 (.all (.alt 7 (.all (.alt 9 .done .stop)) .stop))))) .stop)))) (.alt 8 (.take 0 (.take 2 (.take 4 (.take 5 (.all (.alt 7 (.all (.alt 9 .done .stop)) .stop)))))) .stop))))))) ([0,0,2,0,12,16,0,97,0,511],[0,0,2,0,12,16,0,97,0,384]) 127 [(4,{ cs:=(cL 1 cS) (a1.f1.getD a2.toNat []) }),(7,{ take:=[0] }),(8,{ slfs:=[(4,4)] })] [9,1000000] [.nilc 9 5 5 1,.keep [9,1000000]] [(9,.box [.d (.sl 1 (a1.f0.map cS)),.d (.sl 1 (a1.f1.map (cL 1 cS))),.d (.sl 1 ((a1.f1.getD a2.toNat []).map cS)),.d (.str a0),.slf 4 50,.own 5 1 ([].map cU)]),(1000000,.glo 0 ([gm0].flatMap (cI .i64)))] ((fun (o4:Prop)=>[(5,o4),(12,o4),(5,o4),(5,o4),(12,o4),(3,o4),(31,o4),(6,o4)]) (0≤a2∧(a1.f1.map (cL 1 cS))[a2.toNat]? = some ((cL 1 cS) (a1.f1.getD a2.toNat [])))) 3 (by kernel_rfl) (by kernel_rfl) (by kernel_rfl) (have p4:=idx_ok (d:=[]) (cL 1 cS) hp1; ⟨p4,p4,p4,p4,p4,p4,p4,p4⟩) ?_
        refine T_seqk ?_
        obtain ⟨y2,hy2,h⟩:=call_ok h
        refine T_reg [(0,{ res:=.d (.v (.int .i64 y2.1)),vout:=[.box [.d (.sl 1 (y2.2.1.map cS)),.d (.sl 1 (y2.2.2.1.map (cL 1 cS))),.d (.sl 1 (y2.2.2.2.1.map cS)),.d (.str y2.2.2.2.2.1),.slf 4 50,.own 5 1 (y2.2.2.2.2.2.map cU)]],xs:=[9] })] [9,10,1000000] [(9,.box [.d (.sl 1 (y2.2.1.map cS)),.d (.sl 1 (y2.2.2.1.map (cL 1 cS))),.d (.sl 1 (y2.2.2.2.1.map cS)),.d (.str y2.2.2.2.2.1),.slf 4 50,.own 5 1 (y2.2.2.2.2.2.map cU)]),(10,.d (.v (.int .i64 y2.1)))] [(0,ACall Tryd.prog 19 [.bp 1000000 0,.d (.v (.int .i64 (0:Int))),.d (.v (.bool true))] [.box [.d (.sl 1 (a1.f0.map cS)),.d (.sl 1 (a1.f1.map (cL 1 cS))),.d (.sl 1 ((a1.f1.getD a2.toNat []).map cS)),.d (.str a0),.slf 4 50,.own 5 1 ([].map cU)]] (.d (.v (.int .i64 y2.1))) [.box [.d (.sl 1 (y2.2.1.map cS)),.d (.sl 1 (y2.2.2.1.map (cL 1 cS))),.d (.sl 1 (y2.2.2.2.1.map cS)),.d (.str y2.2.2.2.2.1),.slf 4 50,.own 5 1 (y2.2.2.2.2.2.map cU)]])] 1 (by kernel_rfl) (vary_merger_run_ok hy2) ?_
        refine T_reg [] [9,10,38,1000000] [(38,.d (.v (.bool (y2.1 != (0:Int)))))] [] 2 (by kernel_rfl) (trivial) ?_
        refine T_cond (y2.1 != (0:Int)) (by kernel_rfl) (fun hc=>?_) (fun hc=>?_)
        · have h:=cond_tt hc h
          refine T_reg [] [6,7,1000000] [(6,.d (.str [])),(7,.d (.v (.int .i64 y2.1)))] [] 3 (by kernel_rfl) (trivial) ?_
          obtain hs:=Option.some.inj h; subst hs
          refine T_ret fun a w hm=>then_ret (T_return (fr':=[(6,.d (.str [])),(7,.d (.v (.int .i64 y2.1))),(1000000,.glo 0 ([gm0].flatMap (cI .i64)))]) [6,7] (by kernel_rfl) [.keep [6,7,1000000]] (by kernel_rfl) (by kernel_rfl) (by kernel_rfl) (by show _=_; kernel_rfl) (by exact ⟨⟨by kernel_rfl,by kernel_rfl⟩,trivial⟩) a w hm)
        · have h:=cond_ff hc h
          refine T_skip fun a w hm=>then_norm (((?_:T Tryd.prog e 45 _ _ _) a w hm))
          refine T_seqk ?_
          obtain ⟨y3,hy3,h⟩:=call_ok h
          refine T_reg [(1,{ res:=.d (.v (.int .i64 y3.1)),vout:=[.box [.d (.sl 1 (y3.2.1.map cS)),.d (.sl 1 (y3.2.2.1.map (cL 1 cS))),.d (.sl 1 (y3.2.2.2.1.map cS)),.d (.str y3.2.2.2.2.1),.slf 4 50,.own 5 1 (y3.2.2.2.2.2.map cU)]],xs:=[9] })] [9,42,1000000] [(9,.box [.d (.sl 1 (y3.2.1.map cS)),.d (.sl 1 (y3.2.2.1.map (cL 1 cS))),.d (.sl 1 (y3.2.2.2.1.map cS)),.d (.str y3.2.2.2.2.1),.slf 4 50,.own 5 1 (y3.2.2.2.2.2.map cU)]),(42,.d (.v (.bool (decide (y3.1 > (8192:Int))))))] [(1,ACall Tryd.prog 20 [.bp 1000000 4] [.box [.d (.sl 1 (y2.2.1.map cS)),.d (.sl 1 (y2.2.2.1.map (cL 1 cS))),.d (.sl 1 (y2.2.2.2.1.map cS)),.d (.str y2.2.2.2.2.1),.slf 4 50,.own 5 1 (y2.2.2.2.2.2.map cU)]] (.d (.v (.int .i64 y3.1))) [.box [.d (.sl 1 (y3.2.1.map cS)),.d (.sl 1 (y3.2.2.1.map (cL 1 cS))),.d (.sl 1 (y3.2.2.2.1.map cS)),.d (.str y3.2.2.2.2.1),.slf 4 50,.own 5 1 (y3.2.2.2.2.2.map cU)]])] 1 (by kernel_rfl) (strings_Builder_Len_v1_ok hy3) ?_
          refine T_cond (decide (y3.1 > (8192:Int))) (by kernel_rfl) (fun hc=>?_) (fun hc=>?_)
          · have h:=cond_tt hc h
            refine T_reg [] [6,7,1000000] [(6,.d (.str [])),(7,.d (.v (.int .i64 (2:Int))))] [] 2 (by kernel_rfl) (trivial) ?_
            obtain hs:=Option.some.inj h; subst hs
            refine T_ret fun a w hm=>then_ret (T_return (fr':=[(6,.d (.str [])),(7,.d (.v (.int .i64 (2:Int)))),(1000000,.glo 0 ([gm0].flatMap (cI .i64)))]) [6,7] (by kernel_rfl) [.keep [6,7,1000000]] (by kernel_rfl) (by kernel_rfl) (by kernel_rfl) (by show _=_; kernel_rfl) (by exact ⟨⟨by kernel_rfl,by kernel_rfl⟩,trivial⟩) a w hm)
          · have h:=cond_ff hc h
            refine T_skip fun a w hm=>then_norm (((?_:T Tryd.prog e 45 _ _ _) a w hm))
            obtain ⟨hp2,h⟩:=chk_ok h
            refine T_reg [(1,{ xs:=[9],vout:=[.box [.d (.sl 1 (y3.2.1.map cS)),.d (.sl 1 (y3.2.2.1.map (cL 1 cS))),.d (.sl 1 (y3.2.2.2.1.map cS)),.d (.str y3.2.2.2.2.1),.slf 4 50,.junk]],res:=.d (.str y3.2.2.2.2.2) })] [6,7,1000000] [(6,.d (.str y3.2.2.2.2.2)),(7,.d (.v (.int .i64 (0:Int))))] [(1,ACall Tryd.prog 21 [.bp 1000000 4] [.box [.d (.sl 1 (y3.2.1.map cS)),.d (.sl 1 (y3.2.2.1.map (cL 1 cS))),.d (.sl 1 (y3.2.2.2.1.map cS)),.d (.str y3.2.2.2.2.1),.slf 4 50,.own 5 1 (y3.2.2.2.2.2.map cU)]] (.d (.str y3.2.2.2.2.2)) [.box [.d (.sl 1 (y3.2.1.map cS)),.d (.sl 1 (y3.2.2.1.map (cL 1 cS))),.d (.sl 1 (y3.2.2.2.1.map cS)),.d (.str y3.2.2.2.2.1),.slf 4 50,.junk]])] 2 (by kernel_rfl) (b_String (l:=y3.2.2.2.2.2) hp2 (by kernel_rfl) (by kernel_rfl)) ?_
            obtain hs:=Option.some.inj h; subst hs
            refine T_ret fun a w hm=>T_return (fr':=[(6,.d (.str y3.2.2.2.2.2)),(7,.d (.v (.int .i64 (0:Int)))),(1000000,.glo 0 ([gm0].flatMap (cI .i64)))]) [6,7] (by kernel_rfl) [.keep [6,7,1000000]] (by kernel_rfl) (by kernel_rfl) (by kernel_rfl) (by show _=_; kernel_rfl) (by exact ⟨⟨by kernel_rfl,by kernel_rfl⟩,trivial⟩) a w hm
theorem ref3_Merged_c1_ok {F:Nat} {a0:List UInt8} {c1:List Bool} {c2:List UInt8} {r:(List Bool)×(List UInt8)} (h:ref3_Merged_c1 F a0 c1 c2=some r):ACall Tryd.prog 22 [.d (.str a0),.bp 1000000 0,.bp 1000001 0] [.box [.own 4 1 (c1.map cB)],.box [.d (.str c2)]] (.tup []) [.box [.own 4 1 (r.1.map cB)],.box [.d (.str r.2)]]:=by
  rw [ref3_Merged_c1] at h
  refine ACall.intro (N:=18) Tryd.func22 rfl rfl rfl rfl rfl fun e=>?_
  obtain ⟨hp1,h⟩:=chk_ok h
  obtain ⟨z1,hz1,h⟩:=lett_ok h
  refine T_reg [(2,{ rw:=some (.d (.v (.int .i64 (c1.length:Int)))) }),(5,{ cs:=cB (c1.getD (IntKind.i64.wrap ((c1.length:Int) - (1:Int))).toNat false) }),(10,{ rw:=some (.d (.v (.bool z1))) })] [0,2,14,1000000,1000001] [(14,.d (.v (.bool z1)))] [(2,True∧AV.d (.v (.int .i64 ((c1.map cB).length:Int)))=.d (.v (.int .i64 (c1.length:Int)))),(1,0≤(IntKind.i64.wrap ((c1.length:Int) - (1:Int)))∧(IntKind.i64.wrap ((c1.length:Int) - (1:Int))) < (c1.map cB).length),(0,(c1.map cB)[(IntKind.i64.wrap ((c1.length:Int) - (1:Int))).toNat]? = some (cB (c1.getD (IntKind.i64.wrap ((c1.length:Int) - (1:Int))).toNat false))),(1,((((c1.getD (IntKind.i64.wrap ((c1.length:Int) - (1:Int))).toNat false) == true) && true)=true→True)),(0,((((c1.getD (IntKind.i64.wrap ((c1.length:Int) - (1:Int))).toNat false) == true) && true)=true→True)),(0,((((c1.getD (IntKind.i64.wrap ((c1.length:Int) - (1:Int))).toNat false) == true) && true)=true→True)),(0,(True)∧AV.d (.v (.bool (bif (c1.getD (IntKind.i64.wrap ((c1.length:Int) - (1:Int))).toNat false) then (decide ((c2.length:Int)≤(8192:Int))) else false)))=.d (.v (.bool z1)))] 0 (by kernel_rfl) (⟨len_ok cB,own_idx cB hp1,(idx_ok (d:=false) cB hp1).2,(fun hg=>trivial),(fun hg=>trivial),(fun hg=>trivial),⟨trivial,(by subst hz1; rfl)⟩⟩) ?_
  refine T_cond z1 (by kernel_rfl) (fun hc=>?_) (fun hc=>?_)
  · have h:=cond_tt hc h
    obtain ⟨hp2,h⟩:=chk_ok h
    obtain hs:=Option.some.inj h; subst hs
    refine T_reg_end [] [1000000,1000001] [(1000001,.box [.d (.str (c2++a0))])] [(2,c2.length+a0.length≤9223372036854775807)] 1 (by kernel_rfl) (hp2) fun a w hm=>T_return (fr':=[(1000000,.box [.own 4 1 (c1.map cB)]),(1000001,.box [.d (.str (c2++a0))])]) [] (by kernel_rfl) [.keep [1000000,1000001]] (by kernel_rfl) (by kernel_rfl) (by kernel_rfl) (by show _=_; kernel_rfl) (by exact ⟨⟨by kernel_rfl,by kernel_rfl⟩,⟨⟨by kernel_rfl,by kernel_rfl⟩,trivial⟩⟩) a w hm
  · have h:=cond_ff hc h
    obtain hs:=Option.some.inj h; subst hs
    refine T_skip fun a w hm=>T_return (fr':=[(1000000,.box [.own 4 1 (c1.map cB)]),(1000001,.box [.d (.str c2)])]) [] (by kernel_rfl) [.keep [1000000,1000001]] (by kernel_rfl) (by kernel_rfl) (by kernel_rfl) (by show _=_; kernel_rfl) (by exact ⟨⟨by kernel_rfl,by kernel_rfl⟩,⟨⟨by kernel_rfl,by kernel_rfl⟩,trivial⟩⟩) a w hm
theorem ref3_digit_ok {F:Nat} {a0:Int} {r:Bool} (h:ref3_digit F a0=some r):ACall Tryd.prog 18 [.d (.v (.int .u8 a0))] [] (.d (.v (.bool r))) []:=by
  rw [ref3_digit] at h
  refine ACall.intro (N:=9) Tryd.func18 rfl rfl rfl rfl rfl fun e=>?_
  refine T_reg [] [0] [] [] 1 (by kernel_rfl) (trivial) ?_
  refine T_reg [] [2] [(2,.d (.v (.bool (bif (decide (a0 ≥ (48:Int))) then (decide (a0≤(57:Int))) else false))))] [(3,((((decide (a0 ≥ (48:Int))) == true) && true)=true→True)),(0,((((decide (a0 ≥ (48:Int))) == true) && true)=true→True))] 2 (by kernel_rfl) (⟨(fun hg=>trivial),(fun hg=>trivial)⟩) ?_
  obtain hs:=Option.some.inj h; subst hs
  refine T_ret fun a w hm=>T_return (fr':=[(2,.d (.v (.bool (bif (decide (a0 ≥ (48:Int))) then (decide (a0≤(57:Int))) else false))))]) [2] (by kernel_rfl) [.keep [2]] (by kernel_rfl) (by kernel_rfl) (by kernel_rfl) (by show _=_; kernel_rfl) (by exact trivial) a w hm
theorem ref3_Merged_ok {F:Nat} {a0:List UInt8} {a1:List (List UInt8)} {a2:List (List UInt8)} {r:(List UInt8)×Int} (h:ref3_Merged F a0 a1 a2=some r):ACall Tryd.prog 14 [.d (.str a0),.d (.sl 1 (a1.map cS)),.d (.sl 1 (a2.map cS))] [] (.tup [.d (.str r.1),.d (.v (.int .i64 r.2))]) []:=by
  rw [ref3_Merged] at h
  refine ACall.intro (N:=209) Tryd.func14 rfl rfl rfl rfl rfl fun e=>?_
  refine T_reg [] [0,1,2] [] [] 2 (by kernel_rfl) (trivial) ?_
  refine T_reg [] [0,1,2,8] [(8,.box [.d (.str [])])] [] 2 (by kernel_rfl) (trivial) ?_
  refine T_reg [(0,{ es:=some (([true]).map cB) })] [0,1,2,8,9] [(9,.box [.own 4 1 (([true]).map cB)])] [(0,(([true]).map cB)=(([true]).map cB))] 2 (by kernel_rfl) (rfl) ?_
  refine T_reg [] [0,1,2,8,9,10] [(10,.clo 22 [.bp 9 0,.bp 8 0])] [] 2 (by kernel_rfl) (trivial) ?_
  refine T_seqk ?_
  refine T_reg [] [0,1,2,8,9,10,11] [(11,.d (.v (.int .i64 (0:Int))))] [] 1 (by kernel_rfl) (trivial) ?_
  refine T_joinEt h (fun (p:(List UInt8)×(List Bool))=>[(8,.box [.d (.str p.1)]),(9,.box [.own 4 1 (p.2.map cB)])]) (fun s h hk1=>?_) (fun s h=>?_)
  · refine T_co [.keep [0,1,2,8,9,10,11]] ((fun (p:(List UInt8)×(List Bool)×Int)=>[(0,.d (.str a0)),(1,.d (.sl 1 (a1.map cS))),(2,.d (.sl 1 (a2.map cS))),(8,.box [.d (.str p.1)]),(9,.box [.own 4 1 (p.2.1.map cB)]),(10,.clo 22 [.bp 9 0,.bp 8 0]),(11,.d (.v (.int .i64 p.2.2)))]) ([],[true],(0:Int))) (by show _=_; kernel_rfl) ?_
    refine T_block ?_
    refine T_loopF (ι:=(List UInt8)×(List Bool)×Int) (fun (p:(List UInt8)×(List Bool)×Int)=>[(0,.d (.str a0)),(1,.d (.sl 1 (a1.map cS))),(2,.d (.sl 1 (a2.map cS))),(8,.box [.d (.str p.1)]),(9,.box [.own 4 1 (p.2.1.map cB)]),(10,.clo 22 [.bp 9 0,.bp 8 0]),(11,.d (.v (.int .i64 p.2.2)))]) (fun n p=>ref3_Merged_L0 F a0 a1 a2 n p.1 p.2.1 p.2.2=some s) (fun i hh=>by simp [ref3_Merged_L0] at hh) (fun n p h=>?_) F ([],[true],(0:Int)) h
    obtain ⟨v7,v8,v2⟩:=p
    have h:ref3_Merged_L0 F a0 a1 a2 (n+1) v7 v8 v2=some s:=h
    rw [ref3_Merged_L0] at h
    refine T_seqk ?_
    refine T_reg [] [0,1,2,8,9,10,11,23] [(23,.d (.v (.bool (decide (v2 < (a0.length:Int))))))] [] 4 (by kernel_rfl) (trivial) ?_
    refine T_cond (decide (v2 < (a0.length:Int))) (by kernel_rfl) (fun hc=>?_) (fun hc=>?_)
    · have h:=cond_tt hc h
      refine T_skip fun a w hm=>then_norm (((?_:T Tryd.prog e 209 _ _ _) a w hm))
      refine T_block ?_
      obtain ⟨hp1,h⟩:=chk_ok h
      obtain ⟨hp2,h⟩:=chk_ok h
      obtain ⟨z4,hz1,h⟩:=lett_ok h
      refine T_draw mixed [(13,{ rw:=some (.d (.v (.bool z4))) })] [0,1,2,8,9,10,11,12] [] [(0,.d (.str a0)),(1,.d (.sl 1 (a1.map cS))),(2,.d (.sl 1 (a2.map cS))),(8,.box [.d (.str v7)]),(9,.box [.own 4 1 (v8.map cB)]),(10,.clo 22 [.bp 9 0,.bp 8 0]),(11,.d (.v (.int .i64 v2))),(12,.d (.v (.bool (bif (decide ((IntKind.i64.wrap (v2+(1:Int))) < (a0.length:Int))) then z4 else false))))] [(6,((((decide ((IntKind.i64.wrap (v2+(1:Int))) < (a0.length:Int))) == true) && true)=true→True)),(0,((((decide ((IntKind.i64.wrap (v2+(1:Int))) < (a0.length:Int))) == true) && true)=true→True)),(0,((((decide ((IntKind.i64.wrap (v2+(1:Int))) < (a0.length:Int))) == true) && true)=true→True)),(0,((((decide ((IntKind.i64.wrap (v2+(1:Int))) < (a0.length:Int))) == true) && true)=true→0≤(IntKind.i64.wrap (v2+(1:Int)))∧(IntKind.i64.wrap (v2+(1:Int))) < a0.length)),(0,((((decide ((IntKind.i64.wrap (v2+(1:Int))) < (a0.length:Int))) == true) && true)=true→True)),(0,((((decide ((IntKind.i64.wrap (v2+(1:Int))) < (a0.length:Int))) == true) && true)=true→True)),(0,((((decide ((IntKind.i64.wrap (v2+(1:Int))) < (a0.length:Int))) == true) && true)=true→0≤v2∧v2 < a0.length)),(0,((((decide ((IntKind.i64.wrap (v2+(1:Int))) < (a0.length:Int))) == true) && true)=true→(True)∧AV.d (.v (.bool (((a0.getD (IntKind.i64.wrap (v2+(1:Int))).toNat 0).toNat:Int) == ((a0.getD v2.toNat 0).toNat:Int))))=.d (.v (.bool z4))))] 2 (by kernel_rfl) (⟨(fun hg=>trivial),(fun hg=>trivial),(fun hg=>trivial),(fun hg=>(hp1 hg)),(fun hg=>trivial),(fun hg=>trivial),(fun hg=>(hp2 hg)),(fun hg=>⟨trivial,(by subst hz1; rfl)⟩)⟩) ?_
      refine T_block ?_
      obtain ⟨hp3,h⟩:=chk_ok h
      obtain ⟨hp4,h⟩:=chk_ok h
      obtain ⟨z5,hz2,h⟩:=lett_ok h
      obtain ⟨z6,hz3,h⟩:=lett_ok h
      refine T_reg [(9,{ rw:=some (.d (.v (.bool z5))) }),(12,{ rw:=some (.d (.v (.bool z6))) })] [0,1,2,8,9,10,11,143] [(143,.d (.v (.bool z6)))] [(2,0≤v2∧v2 < a0.length),(2,((((((a0.getD v2.toNat 0).toNat:Int) == (123:Int)) == false) && true)=true→True)),(0,((((((a0.getD v2.toNat 0).toNat:Int) == (123:Int)) == false) && true)=true→True)),(0,((((((a0.getD v2.toNat 0).toNat:Int) == (123:Int)) == false) && true)=true→0≤v2∧v2 < a0.length)),(0,((((((a0.getD v2.toNat 0).toNat:Int) == (123:Int)) == false) && true)=true→True)),(0,(True)∧AV.d (.v (.bool (bif (((a0.getD v2.toNat 0).toNat:Int) == (123:Int)) then true else (((a0.getD v2.toNat 0).toNat:Int) == (125:Int)))))=.d (.v (.bool z5))),(1,(((z5 == true) && true)=true→True)),(0,(True)∧AV.d (.v (.bool (bif z5 then (bif (decide ((IntKind.i64.wrap (v2+(1:Int))) < (a0.length:Int))) then z4 else false) else false)))=.d (.v (.bool z6)))] 1 (by kernel_rfl) (⟨hp3,(fun hg=>trivial),(fun hg=>trivial),(fun hg=>(hp4 hg)),(fun hg=>trivial),⟨trivial,(by subst hz2; rfl)⟩,(fun hg=>trivial),⟨trivial,(by subst hz3; rfl)⟩⟩) ?_
      refine T_cond z6 (by kernel_rfl) (fun hc=>?_) (fun hc=>?_)
      · have h:=cond_tt hc h
        obtain ⟨hp5,h⟩:=chk_ok h
        obtain ⟨y2,hy1,h⟩:=call_ok h
        refine T_reg [(6,{ res:=.tup [],vout:=[.box [.own 4 1 (y2.1.map cB)],.box [.d (.str y2.2)]],xs:=[9,8] })] [0,1,2,8,9,10,11] [(8,.box [.d (.str y2.2)]),(9,.box [.own 4 1 (y2.1.map cB)])] [(5,0≤v2∧v2≤(IntKind.i64.wrap (v2+(1:Int)))∧(IntKind.i64.wrap (v2+(1:Int)))≤(a0.length:Int)),(0,ACall Tryd.prog 22 [.d (.str ((a0.drop v2.toNat).take ((IntKind.i64.wrap (v2+(1:Int))).toNat - v2.toNat))),.bp 1000000 0,.bp 1000001 0] [.box [.own 4 1 (v8.map cB)],.box [.d (.str v7)]] (.tup []) [.box [.own 4 1 (y2.1.map cB)],.box [.d (.str y2.2)]])] 0 (by kernel_rfl) (⟨hp5,ref3_Merged_c1_ok hy1⟩) ?_
        refine T_reg_end [] [0,1,2,8,9,10,11] [(11,.d (.v (.int .i64 (IntKind.i64.wrap (v2+(2:Int))))))] [] 3 (by kernel_rfl) (trivial) fun a w hm=>inBlock_norm (inBlock_norm (then_norm (⟨(y2.2,y2.1,IntKind.i64.wrap (v2+(2:Int))),h,hm.co (cs:=[.keep [0,1,2,8,9,10,11]]) (by show _=_; kernel_rfl)⟩)))
      · have h:=cond_ff hc h
        obtain ⟨hp6,h⟩:=chk_ok h
        obtain ⟨z7,hz4,h⟩:=lett_ok h
        refine T_reg [(6,{ rw:=some (.d (.v (.int .i64 (v8.length:Int)))) }),(8,{ rw:=some (.d (.v (.bool z7))) })] [0,1,2,8,9,10,11,166] [(166,.d (.v (.bool z7)))] [(2,0≤v2∧v2 < a0.length),(2,((((((a0.getD v2.toNat 0).toNat:Int) == (125:Int)) == true) && true)=true→True)),(0,((((((a0.getD v2.toNat 0).toNat:Int) == (125:Int)) == true) && true)=true→True∧AV.d (.v (.int .i64 ((v8.map cB).length:Int)))=.d (.v (.int .i64 (v8.length:Int))))),(0,((((((a0.getD v2.toNat 0).toNat:Int) == (125:Int)) == true) && true)=true→True)),(0,(True)∧AV.d (.v (.bool (bif (((a0.getD v2.toNat 0).toNat:Int) == (125:Int)) then ((v8.length:Int) == (1:Int)) else false)))=.d (.v (.bool z7)))] 1 (by kernel_rfl) (⟨hp6,(fun hg=>trivial),(fun hg=>len_ok cB),(fun hg=>trivial),⟨trivial,(by subst hz4; rfl)⟩⟩) ?_
        refine T_cond z7 (by kernel_rfl) (fun hc=>?_) (fun hc=>?_)
        · have h:=cond_tt hc h
          refine T_reg [] [6,7] [(6,.d (.str [])),(7,.d (.v (.int .i64 (5:Int))))] [] 2 (by kernel_rfl) (trivial) ?_
          obtain hs:=Option.some.inj h; subst hs
          have h:=callE_esc hk1
          obtain hs:=Option.some.inj h; subst hs
          refine T_ret fun a w hm=>inBlock_ret (inBlock_ret (then_ret (inBlock_ret (then_ret (then_ret (T_return (fr':=[(6,.d (.str [])),(7,.d (.v (.int .i64 (5:Int))))]) [6,7] (by kernel_rfl) [.keep [6,7]] (by kernel_rfl) (by kernel_rfl) (by kernel_rfl) (by show _=_; kernel_rfl) (by exact trivial) a w hm))))))
        · have h:=cond_ff hc h
          obtain ⟨hp7,h⟩:=chk_ok h
          refine T_reg [] [0,1,2,8,9,10,11,176] [(176,.d (.v (.bool (((a0.getD v2.toNat 0).toNat:Int) == (125:Int)))))] [(2,0≤v2∧v2 < a0.length)] 2 (by kernel_rfl) (hp7) ?_
          refine T_cond (((a0.getD v2.toNat 0).toNat:Int) == (125:Int)) (by kernel_rfl) (fun hc=>?_) (fun hc=>?_)
          · have h:=cond_tt hc h
            obtain ⟨hp8,h⟩:=chk_ok h
            refine T_reg [(2,{ rw:=some (.d (.v (.int .i64 (v8.length:Int)))) }),(4,{ take:=[0],es:=some ((v8.take (IntKind.i64.wrap ((v8.length:Int) - (1:Int))).toNat).map cB) })] [0,1,2,8,9,10,11] [(9,.box [.own 4 1 ((v8.take (IntKind.i64.wrap ((v8.length:Int) - (1:Int))).toNat).map cB)])] [(2,True∧AV.d (.v (.int .i64 ((v8.map cB).length:Int)))=.d (.v (.int .i64 (v8.length:Int)))),(1,(0≤(IntKind.i64.wrap ((v8.length:Int) - (1:Int)))∧(IntKind.i64.wrap ((v8.length:Int) - (1:Int)))≤((v8.map cB).length:Int))∧(v8.map cB).take (IntKind.i64.wrap ((v8.length:Int) - (1:Int))).toNat=((v8.take (IntKind.i64.wrap ((v8.length:Int) - (1:Int))).toNat).map cB))] 1 (by kernel_rfl) (⟨len_ok cB,take_ok cB hp8⟩) ?_
            refine T_reg_end [] [0,1,2,8,9,10,11] [(11,.d (.v (.int .i64 (IntKind.i64.wrap (v2+(1:Int))))))] [] 3 (by kernel_rfl) (trivial) fun a w hm=>inBlock_norm (inBlock_norm (then_norm (⟨(v7,(v8.take (IntKind.i64.wrap ((v8.length:Int) - (1:Int))).toNat),IntKind.i64.wrap (v2+(1:Int))),h,hm.co (cs:=[.keep [0,1,2,8,9,10,11]]) (by show _=_; kernel_rfl)⟩)))
          · have h:=cond_ff hc h
            obtain ⟨hp9,h⟩:=chk_ok h
            refine T_reg [] [0,1,2,8,9,10,11,188] [(188,.d (.v (.bool (((a0.getD v2.toNat 0).toNat:Int) != (123:Int)))))] [(2,0≤v2∧v2 < a0.length)] 2 (by kernel_rfl) (hp9) ?_
            refine T_cond (((a0.getD v2.toNat 0).toNat:Int) != (123:Int)) (by kernel_rfl) (fun hc=>?_) (fun hc=>?_)
            · have h:=cond_tt hc h
              obtain ⟨hp10,h⟩:=chk_ok h
              obtain ⟨y3,hy2,h⟩:=call_ok h
              refine T_reg [(6,{ res:=.tup [],vout:=[.box [.own 4 1 (y3.1.map cB)],.box [.d (.str y3.2)]],xs:=[9,8] })] [0,1,2,8,9,10,11] [(8,.box [.d (.str y3.2)]),(9,.box [.own 4 1 (y3.1.map cB)])] [(5,0≤v2∧v2≤(IntKind.i64.wrap (v2+(1:Int)))∧(IntKind.i64.wrap (v2+(1:Int)))≤(a0.length:Int)),(0,ACall Tryd.prog 22 [.d (.str ((a0.drop v2.toNat).take ((IntKind.i64.wrap (v2+(1:Int))).toNat - v2.toNat))),.bp 1000000 0,.bp 1000001 0] [.box [.own 4 1 (v8.map cB)],.box [.d (.str v7)]] (.tup []) [.box [.own 4 1 (y3.1.map cB)],.box [.d (.str y3.2)]])] 0 (by kernel_rfl) (⟨hp10,ref3_Merged_c1_ok hy2⟩) ?_
              refine T_reg_end [] [0,1,2,8,9,10,11] [(11,.d (.v (.int .i64 (IntKind.i64.wrap (v2+(1:Int))))))] [] 3 (by kernel_rfl) (trivial) fun a w hm=>inBlock_norm (inBlock_norm (then_norm (⟨(y3.2,y3.1,IntKind.i64.wrap (v2+(1:Int))),h,hm.co (cs:=[.keep [0,1,2,8,9,10,11]]) (by show _=_; kernel_rfl)⟩)))
            · have h:=cond_ff hc h
              refine T_reg [] [0,1,2,8,9,10,11,13] [(13,.d (.v (.int .i64 (IntKind.i64.wrap (v2+(1:Int))))))] [] 3 (by kernel_rfl) (trivial) ?_
              refine T_joinc h (fun (p:Int)=>[(0,.d (.str a0)),(1,.d (.sl 1 (a1.map cS))),(2,.d (.sl 1 (a2.map cS))),(8,.box [.d (.str v7)]),(9,.box [.own 4 1 (v8.map cB)]),(10,.clo 22 [.bp 9 0,.bp 8 0]),(11,.d (.v (.int .i64 v2))),(13,.d (.v (.int .i64 p)))]) (fun s h=>?_) (fun v3 h=>?_)
              · refine T_co [.keep [0,1,2,8,9,10,11,13]] ((fun (p:Int)=>[(0,.d (.str a0)),(1,.d (.sl 1 (a1.map cS))),(2,.d (.sl 1 (a2.map cS))),(8,.box [.d (.str v7)]),(9,.box [.own 4 1 (v8.map cB)]),(10,.clo 22 [.bp 9 0,.bp 8 0]),(11,.d (.v (.int .i64 v2))),(13,.d (.v (.int .i64 p)))]) (IntKind.i64.wrap (v2+(1:Int)))) (by show _=_; kernel_rfl) ?_
                refine T_block ?_
                refine T_loopF (ι:=Int) (fun (p:Int)=>[(0,.d (.str a0)),(1,.d (.sl 1 (a1.map cS))),(2,.d (.sl 1 (a2.map cS))),(8,.box [.d (.str v7)]),(9,.box [.own 4 1 (v8.map cB)]),(10,.clo 22 [.bp 9 0,.bp 8 0]),(11,.d (.v (.int .i64 v2))),(13,.d (.v (.int .i64 p)))]) (fun n p=>ref3_Merged_L3 F a0 n p=some s) (fun i hh=>by simp [ref3_Merged_L3] at hh) (fun n v1 h=>?_) F (IntKind.i64.wrap (v2+(1:Int))) h
                have h:ref3_Merged_L3 F a0 (n+1) v1=some s:=h
                rw [ref3_Merged_L3] at h
                refine T_seqk ?_
                obtain ⟨hp11,h⟩:=chk_ok h
                obtain ⟨hp12,h⟩:=chk_ok h
                obtain ⟨z1,hz5,h⟩:=lett_ok h
                obtain ⟨hp13,h⟩:=chk_ok h
                obtain ⟨y1,hy3,h⟩:=call_ok h
                obtain ⟨hp14,h⟩:=chk_ok h
                obtain ⟨z2,hz6,h⟩:=lett_ok h
                refine T_reg [(14,{ rw:=some (.d (.v (.bool z1))) }),(19,{ res:=.d (.v (.bool y1)) }),(26,{ rw:=some (.d (.v (.bool z2))) })] [0,1,2,8,9,10,11,13,68] [(68,.d (.v (.bool (bif (decide (v1 < (a0.length:Int))) then z2 else false))))] [(5,((((decide (v1 < (a0.length:Int))) == true) && true)=true→True)),(0,((((decide (v1 < (a0.length:Int))) == true) && true)=true→True)),(0,((((decide (v1 < (a0.length:Int))) == true) && true)=true→0≤v1∧v1 < a0.length)),(0,((((decide (v1 < (a0.length:Int))) == true) && true)=true→True)),(0,((((decide (v1 < (a0.length:Int))) == true) && true)=true→True)),(0,((((decide (((a0.getD v1.toNat 0).toNat:Int) ≥ (97:Int))) == true) && (((decide (v1 < (a0.length:Int))) == true) && true))=true→True)),(0,((((decide (((a0.getD v1.toNat 0).toNat:Int) ≥ (97:Int))) == true) && (((decide (v1 < (a0.length:Int))) == true) && true))=true→True)),(0,((((decide (((a0.getD v1.toNat 0).toNat:Int) ≥ (97:Int))) == true) && (((decide (v1 < (a0.length:Int))) == true) && true))=true→0≤v1∧v1 < a0.length)),(0,((((decide (((a0.getD v1.toNat 0).toNat:Int) ≥ (97:Int))) == true) && (((decide (v1 < (a0.length:Int))) == true) && true))=true→True)),(0,((((decide (v1 < (a0.length:Int))) == true) && true)=true→(True)∧AV.d (.v (.bool (bif (decide (((a0.getD v1.toNat 0).toNat:Int) ≥ (97:Int))) then (decide (((a0.getD v1.toNat 0).toNat:Int)≤(122:Int))) else false)))=.d (.v (.bool z1)))),(0,((((decide (v1 < (a0.length:Int))) == true) && true)=true→True)),(0,(((z1 == false) && (((decide (v1 < (a0.length:Int))) == true) && true))=true→True)),(0,(((z1 == false) && (((decide (v1 < (a0.length:Int))) == true) && true))=true→True)),(0,(((z1 == false) && (((decide (v1 < (a0.length:Int))) == true) && true))=true→0≤v1∧v1 < a0.length)),(0,(((z1 == false) && (((decide (v1 < (a0.length:Int))) == true) && true))=true→ACall Tryd.prog 18 [.d (.v (.int .u8 ((a0.getD v1.toNat 0).toNat:Int)))] [] (.d (.v (.bool y1))) [])),(0,((((decide (v1 < (a0.length:Int))) == true) && true)=true→True)),(0,((((decide (v1 < (a0.length:Int))) == true) && true)=true→True)),(0,((((bif z1 then true else y1) == false) && (((decide (v1 < (a0.length:Int))) == true) && true))=true→True)),(0,((((bif z1 then true else y1) == false) && (((decide (v1 < (a0.length:Int))) == true) && true))=true→True)),(0,((((bif z1 then true else y1) == false) && (((decide (v1 < (a0.length:Int))) == true) && true))=true→0≤v1∧v1 < a0.length)),(0,((((bif z1 then true else y1) == false) && (((decide (v1 < (a0.length:Int))) == true) && true))=true→True)),(0,((((decide (v1 < (a0.length:Int))) == true) && true)=true→(True)∧AV.d (.v (.bool (bif (bif z1 then true else y1) then true else (((a0.getD v1.toNat 0).toNat:Int) == (45:Int)))))=.d (.v (.bool z2))))] 1 (by kernel_rfl) (⟨(fun hg=>trivial),(fun hg=>trivial),(fun hg=>(hp11 hg)),(fun hg=>trivial),(fun hg=>trivial),(fun hg=>trivial),(fun hg=>trivial),(fun hg=>(hp12 hg)),(fun hg=>trivial),(fun hg=>⟨trivial,(by subst hz5; rfl)⟩),(fun hg=>trivial),(fun hg=>trivial),(fun hg=>trivial),(fun hg=>(hp13 hg)),(fun hg=>ref3_digit_ok (gcall_ok hg hy3)),(fun hg=>trivial),(fun hg=>trivial),(fun hg=>trivial),(fun hg=>trivial),(fun hg=>(hp14 hg)),(fun hg=>trivial),(fun hg=>⟨trivial,(by subst hz6; rfl)⟩)⟩) ?_
                refine T_cond (bif (decide (v1 < (a0.length:Int))) then z2 else false) (by kernel_rfl) (fun hc=>?_) (fun hc=>?_)
                · have h:=cond_tt hc h
                  refine T_skip fun a w hm=>then_norm (((?_:T Tryd.prog e 209 _ _ _) a w hm))
                  refine T_block ?_
                  refine T_reg_end [] [0,1,2,8,9,10,11,13] [(13,.d (.v (.int .i64 (IntKind.i64.wrap (v1+(1:Int))))))] [] 3 (by kernel_rfl) (trivial) fun a w hm=>inBlock_norm (then_norm (⟨IntKind.i64.wrap (v1+(1:Int)),h,hm.co (cs:=[.keep [0,1,2,8,9,10,11,13]]) (by show _=_; kernel_rfl)⟩))
                · have h:=cond_ff hc h
                  obtain hs:=Option.some.inj h; subst hs
                  refine T_exit fun a w hm=>then_exit (then_exit (inBlock_exit (then_norm (hm.co (cs:=[.keep [0,1,2,8,9,10,11,13]]) (by show _=_; kernel_rfl)))))
              · skip
                refine T_seqk ?_
                refine T_reg [] [0,1,2,8,9,10,11,13,74] [(74,.d (.v (.bool (v3 == (a0.length:Int)))))] [] 4 (by kernel_rfl) (trivial) ?_
                refine T_cond (v3 == (a0.length:Int)) (by kernel_rfl) (fun hc=>?_) (fun hc=>?_)
                · have h:=cond_tt hc h
                  refine T_reg [] [6,7] [(6,.d (.str [])),(7,.d (.v (.int .i64 (12:Int))))] [] 2 (by kernel_rfl) (trivial) ?_
                  obtain hs:=Option.some.inj h; subst hs
                  have h:=callE_esc hk1
                  obtain hs:=Option.some.inj h; subst hs
                  refine T_ret fun a w hm=>then_ret (inBlock_ret (inBlock_ret (then_ret (inBlock_ret (then_ret (then_ret (T_return (fr':=[(6,.d (.str [])),(7,.d (.v (.int .i64 (12:Int))))]) [6,7] (by kernel_rfl) [.keep [6,7]] (by kernel_rfl) (by kernel_rfl) (by kernel_rfl) (by show _=_; kernel_rfl) (by exact trivial) a w hm)))))))
                · have h:=cond_ff hc h
                  refine T_skip fun a w hm=>then_norm (((?_:T Tryd.prog e 209 _ _ _) a w hm))
                  refine T_seqk ?_
                  obtain ⟨hp15,h⟩:=chk_ok h
                  obtain ⟨hp16,h⟩:=chk_ok h
                  obtain ⟨z8,hz7,h⟩:=lett_ok h
                  obtain ⟨hp17,h⟩:=chk_ok h
                  refine T_reg [(9,{ rw:=some (.d (.v (.bool z8))) })] [0,1,2,8,9,10,11,13,90] [(90,.d (.v (.bool (bif z8 then (((a0.getD v3.toNat 0).toNat:Int) != (33:Int)) else false))))] [(2,0≤v3∧v3 < a0.length),(2,((((((a0.getD v3.toNat 0).toNat:Int) != (125:Int)) == true) && true)=true→True)),(0,((((((a0.getD v3.toNat 0).toNat:Int) != (125:Int)) == true) && true)=true→True)),(0,((((((a0.getD v3.toNat 0).toNat:Int) != (125:Int)) == true) && true)=true→0≤v3∧v3 < a0.length)),(0,((((((a0.getD v3.toNat 0).toNat:Int) != (125:Int)) == true) && true)=true→True)),(0,(True)∧AV.d (.v (.bool (bif (((a0.getD v3.toNat 0).toNat:Int) != (125:Int)) then (((a0.getD v3.toNat 0).toNat:Int) != (63:Int)) else false)))=.d (.v (.bool z8))),(1,(((z8 == true) && true)=true→True)),(0,(((z8 == true) && true)=true→True)),(0,(((z8 == true) && true)=true→0≤v3∧v3 < a0.length)),(0,(((z8 == true) && true)=true→True))] 1 (by kernel_rfl) (⟨hp15,(fun hg=>trivial),(fun hg=>trivial),(fun hg=>(hp16 hg)),(fun hg=>trivial),⟨trivial,(by subst hz7; rfl)⟩,(fun hg=>trivial),(fun hg=>trivial),(fun hg=>(hp17 hg)),(fun hg=>trivial)⟩) ?_
                  refine T_cond (bif z8 then (((a0.getD v3.toNat 0).toNat:Int) != (33:Int)) else false) (by kernel_rfl) (fun hc=>?_) (fun hc=>?_)
                  · have h:=cond_tt hc h
                    refine T_reg [] [6,7] [(6,.d (.str [])),(7,.d (.v (.int .i64 (5:Int))))] [] 2 (by kernel_rfl) (trivial) ?_
                    obtain hs:=Option.some.inj h; subst hs
                    have h:=callE_esc hk1
                    obtain hs:=Option.some.inj h; subst hs
                    refine T_ret fun a w hm=>then_ret (inBlock_ret (inBlock_ret (then_ret (inBlock_ret (then_ret (then_ret (T_return (fr':=[(6,.d (.str [])),(7,.d (.v (.int .i64 (5:Int))))]) [6,7] (by kernel_rfl) [.keep [6,7]] (by kernel_rfl) (by kernel_rfl) (by kernel_rfl) (by show _=_; kernel_rfl) (by exact trivial) a w hm)))))))
                  · have h:=cond_ff hc h
                    refine T_skip fun a w hm=>then_norm (((?_:T Tryd.prog e 209 _ _ _) a w hm))
                    refine T_reg [] [0,1,2,8,9,10,11,13,14] [(14,.d (.v (.int .i64 (-1:Int))))] [] 1 (by kernel_rfl) (trivial) ?_
                    refine T_seqk ?_
                    refine T_reg [(1,{ rw:=some (.d (.v (.int .i64 (a1.length:Int)))) })] [0,1,2,8,9,10,11,13,14,91,92,93] [(91,.d (.sl 1 (a1.map cS))),(92,.d (.v (.int .i64 (a1.length:Int)))),(93,.d (.v (.int .i64 (0:Int))))] [(1,True∧AV.d (.v (.int .i64 ((a1.map cS).length:Int)))=.d (.v (.int .i64 (a1.length:Int))))] 1 (by kernel_rfl) (len_ok cS) ?_
                    refine T_joinct h (fun (p:Int)=>[(0,.d (.str a0)),(1,.d (.sl 1 (a1.map cS))),(2,.d (.sl 1 (a2.map cS))),(8,.box [.d (.str v7)]),(9,.box [.own 4 1 (v8.map cB)]),(10,.clo 22 [.bp 9 0,.bp 8 0]),(13,.d (.v (.int .i64 v3))),(14,.d (.v (.int .i64 p)))]) (fun s h=>?_) (fun v9 h=>?_)
                    · refine T_co [.keep [0,1,2,8,9,10,11,13,14,91,92,93]] ((fun (p:Int×Int)=>[(0,.d (.str a0)),(1,.d (.sl 1 (a1.map cS))),(2,.d (.sl 1 (a2.map cS))),(8,.box [.d (.str v7)]),(9,.box [.own 4 1 (v8.map cB)]),(10,.clo 22 [.bp 9 0,.bp 8 0]),(11,.d (.v (.int .i64 v2))),(13,.d (.v (.int .i64 v3))),(14,.d (.v (.int .i64 p.1))),(91,.d (.sl 1 (a1.map cS))),(92,.d (.v (.int .i64 (a1.length:Int)))),(93,.d (.v (.int .i64 p.2)))]) ((-1:Int),(0:Int))) (by show _=_; kernel_rfl) ?_
                      refine T_block ?_
                      refine T_loopF (ι:=Int×Int) (fun (p:Int×Int)=>[(0,.d (.str a0)),(1,.d (.sl 1 (a1.map cS))),(2,.d (.sl 1 (a2.map cS))),(8,.box [.d (.str v7)]),(9,.box [.own 4 1 (v8.map cB)]),(10,.clo 22 [.bp 9 0,.bp 8 0]),(11,.d (.v (.int .i64 v2))),(13,.d (.v (.int .i64 v3))),(14,.d (.v (.int .i64 p.1))),(91,.d (.sl 1 (a1.map cS))),(92,.d (.v (.int .i64 (a1.length:Int)))),(93,.d (.v (.int .i64 p.2)))]) (fun n p=>ref3_Merged_L5 F a0 a1 v2 v3 n p.1 p.2=some s) (fun i hh=>by simp [ref3_Merged_L5] at hh) (fun n p h=>?_) F ((-1:Int),(0:Int)) h
                      obtain ⟨v4,v5⟩:=p
                      have h:ref3_Merged_L5 F a0 a1 v2 v3 (n+1) v4 v5=some s:=h
                      rw [ref3_Merged_L5] at h
                      refine T_reg [] [0,1,2,8,9,10,11,13,14,91,92,93,94] [(94,.d (.v (.bool (decide (v5 < (a1.length:Int))))))] [] 1 (by kernel_rfl) (trivial) ?_
                      refine T_seqk ?_
                      refine T_cond (decide (v5 < (a1.length:Int))) (by kernel_rfl) (fun hc=>?_) (fun hc=>?_)
                      · have h:=cond_tt hc h
                        refine T_skip fun a w hm=>then_norm (((?_:T Tryd.prog e 209 _ _ _) a w hm))
                        refine T_joinc h (fun (p:Int)=>[(0,.d (.str a0)),(1,.d (.sl 1 (a1.map cS))),(2,.d (.sl 1 (a2.map cS))),(8,.box [.d (.str v7)]),(9,.box [.own 4 1 (v8.map cB)]),(10,.clo 22 [.bp 9 0,.bp 8 0]),(11,.d (.v (.int .i64 v2))),(13,.d (.v (.int .i64 v3))),(14,.d (.v (.int .i64 p))),(91,.d (.sl 1 (a1.map cS))),(92,.d (.v (.int .i64 (a1.length:Int)))),(93,.d (.v (.int .i64 v5)))]) (fun s h=>?_) (fun v6 h=>?_)
                        · refine T_block ?_
                          obtain ⟨hp18,h⟩:=chk_ok h
                          refine T_reg [(1,{ cs:=cS (a1.getD v5.toNat []) })] [0,1,2,8,9,10,11,13,14,15,16,91,92,93] [(15,.d (.v (.int .i64 v5))),(16,.d (.str (a1.getD v5.toNat [])))] [(1,0≤v5∧(a1.map cS)[v5.toNat]? = some (cS (a1.getD v5.toNat [])))] 3 (by kernel_rfl) (idx_ok (d:=[]) cS hp18) ?_
                          obtain ⟨hp19,h⟩:=chk_ok h
                          obtain ⟨z3,hz8,h⟩:=lett_ok h
                          refine T_reg [(5,{ rw:=some (.d (.str z3)) })] [0,1,2,8,9,10,11,13,14,15,91,92,93,104] [(104,.d (.v (.bool ((a1.getD v5.toNat []) == z3))))] [(5,(0≤(IntKind.i64.wrap (v2+(1:Int)))∧(IntKind.i64.wrap (v2+(1:Int)))≤v3∧v3≤(a0.length:Int))∧AV.d (.str ((a0.drop (IntKind.i64.wrap (v2+(1:Int))).toNat).take (v3.toNat - (IntKind.i64.wrap (v2+(1:Int))).toNat)))=.d (.str z3))] 1 (by kernel_rfl) (⟨hp19,(by subst hz8; rfl)⟩) ?_
                          refine T_cond ((a1.getD v5.toNat []) == z3) (by kernel_rfl) (fun hc=>?_) (fun hc=>?_)
                          · have h:=cond_tt hc h
                            obtain hs:=Option.some.inj h; subst hs
                            refine T_reg_end [] [0,1,2,8,9,10,11,13,14,91,92,93] [(14,.d (.v (.int .i64 v5)))] [] 2 (by kernel_rfl) (trivial) fun a w hm=>inBlock_norm (then_norm (hm.co (cs:=[.keep [0,1,2,8,9,10,11,13,14,91,92,93]]) (by show _=_; kernel_rfl)))
                          · have h:=cond_ff hc h
                            obtain hs:=Option.some.inj h; subst hs
                            refine T_skip fun a w hm=>inBlock_norm (then_norm (hm.co (cs:=[.keep [0,1,2,8,9,10,11,13,14,91,92,93]]) (by show _=_; kernel_rfl)))
                        · skip
                          refine T_reg_end [] [0,1,2,8,9,10,11,13,14,91,92,93] [(93,.d (.v (.int .i64 (IntKind.i64.wrap (v5+(1:Int))))))] [] 2 (by kernel_rfl) (trivial) fun a w hm=>then_norm (⟨(v6,IntKind.i64.wrap (v5+(1:Int))),h,hm.co (cs:=[.keep [0,1,2,8,9,10,11,13,14,91,92,93]]) (by show _=_; kernel_rfl)⟩)
                      · have h:=cond_ff hc h
                        obtain hs:=Option.some.inj h; subst hs
                        refine T_exit fun a w hm=>then_exit (then_exit (inBlock_exit (then_norm (hm.co (cs:=[.keep [0,1,2,8,9,10,13,14]]) (by show _=_; kernel_rfl)))))
                    · skip
                      refine fun a w hm=>then_norm (((?_:T Tryd.prog e 209 _ _ _) a w hm))
                      refine T_seqk ?_
                      refine T_reg [] [0,1,2,8,9,10,13,14,108] [(108,.d (.v (.bool (decide (v9 < (0:Int))))))] [] 2 (by kernel_rfl) (trivial) ?_
                      refine T_cond (decide (v9 < (0:Int))) (by kernel_rfl) (fun hc=>?_) (fun hc=>?_)
                      · have h:=cond_tt hc h
                        refine T_reg [] [6,7] [(6,.d (.str [])),(7,.d (.v (.int .i64 (6:Int))))] [] 2 (by kernel_rfl) (trivial) ?_
                        obtain hs:=Option.some.inj h; subst hs
                        have h:=callE_esc hk1
                        obtain hs:=Option.some.inj h; subst hs
                        refine T_ret fun a w hm=>then_ret (inBlock_ret (inBlock_ret (then_ret (inBlock_ret (then_ret (then_ret (T_return (fr':=[(6,.d (.str [])),(7,.d (.v (.int .i64 (6:Int))))]) [6,7] (by kernel_rfl) [.keep [6,7]] (by kernel_rfl) (by kernel_rfl) (by kernel_rfl) (by show _=_; kernel_rfl) (by exact trivial) a w hm)))))))
                      · have h:=cond_ff hc h
                        refine T_skip fun a w hm=>then_norm (((?_:T Tryd.prog e 209 _ _ _) a w hm))
                        obtain ⟨hp20,h⟩:=chk_ok h
                        refine T_reg [(2,{ cs:=cS (a2.getD v9.toNat []) })] [0,1,2,8,9,10,13,17] [(17,.d (.str (a2.getD v9.toNat [])))] [(2,0≤v9∧(a2.map cS)[v9.toNat]? = some (cS (a2.getD v9.toNat [])))] 2 (by kernel_rfl) (idx_ok (d:=[]) cS hp20) ?_
                        refine T_joinE h (fun (p:(List UInt8)×(List Bool))=>[(0,.d (.str a0)),(1,.d (.sl 1 (a1.map cS))),(2,.d (.sl 1 (a2.map cS))),(8,.box [.d (.str p.1)]),(9,.box [.own 4 1 (p.2.map cB)]),(10,.clo 22 [.bp 9 0,.bp 8 0]),(13,.d (.v (.int .i64 v3)))]) (fun s h hk2=>?_) (fun s h=>?_)
                        · obtain ⟨hp21,h⟩:=chk_ok h
                          refine T_reg [] [0,1,2,8,9,10,13,17,116] [(116,.d (.v (.bool (((a0.getD v3.toNat 0).toNat:Int) == (125:Int)))))] [(2,0≤v3∧v3 < a0.length)] 1 (by kernel_rfl) (hp21) ?_
                          refine T_cond (((a0.getD v3.toNat 0).toNat:Int) == (125:Int)) (by kernel_rfl) (fun hc=>?_) (fun hc=>?_)
                          · have h:=cond_tt hc h
                            obtain ⟨y4,hy4,h⟩:=call_ok h
                            obtain hs:=Option.some.inj h; subst hs
                            refine T_reg_end [(2,{ res:=.tup [],vout:=[.box [.own 4 1 (y4.1.map cB)],.box [.d (.str y4.2)]],xs:=[9,8] })] [0,1,2,8,9,10,13] [(8,.box [.d (.str y4.2)]),(9,.box [.own 4 1 (y4.1.map cB)])] [(2,ACall Tryd.prog 22 [.d (.str (a2.getD v9.toNat [])),.bp 1000000 0,.bp 1000001 0] [.box [.own 4 1 (v8.map cB)],.box [.d (.str v7)]] (.tup []) [.box [.own 4 1 (y4.1.map cB)],.box [.d (.str y4.2)]])] 0 (by kernel_rfl) (ref3_Merged_c1_ok hy4) fun a w hm=>then_norm (⟨_,rfl,hm.co (cs:=[.keep [0,1,2,8,9,10,13]]) (by show _=_; kernel_rfl)⟩)
                          · have h:=cond_ff hc h
                            refine T_seqk ?_
                            refine T_reg [(1,{ rw:=some (.d (.v (.int .i64 (v8.length:Int)))) })] [0,1,2,8,9,10,13,17,122] [(122,.d (.v (.bool (decide ((v8.length:Int) > (16:Int))))))] [(1,True∧AV.d (.v (.int .i64 ((v8.map cB).length:Int)))=.d (.v (.int .i64 (v8.length:Int))))] 1 (by kernel_rfl) (len_ok cB) ?_
                            refine T_cond (decide ((v8.length:Int) > (16:Int))) (by kernel_rfl) (fun hc=>?_) (fun hc=>?_)
                            · have h:=cond_tt hc h
                              refine T_reg [] [6,7] [(6,.d (.str [])),(7,.d (.v (.int .i64 (15:Int))))] [] 2 (by kernel_rfl) (trivial) ?_
                              obtain hs:=Option.some.inj h; subst hs
                              have h:=callE_esc hk2
                              obtain hs:=Option.some.inj h; subst hs
                              have h:=callE_esc hk1
                              obtain hs:=Option.some.inj h; subst hs
                              refine T_ret fun a w hm=>then_ret (then_ret (inBlock_ret (inBlock_ret (then_ret (inBlock_ret (then_ret (then_ret (T_return (fr':=[(6,.d (.str [])),(7,.d (.v (.int .i64 (15:Int))))]) [6,7] (by kernel_rfl) [.keep [6,7]] (by kernel_rfl) (by kernel_rfl) (by kernel_rfl) (by show _=_; kernel_rfl) (by exact trivial) a w hm))))))))
                            · have h:=cond_ff hc h
                              refine T_skip fun a w hm=>then_norm (((?_:T Tryd.prog e 209 _ _ _) a w hm))
                              obtain ⟨hp22,h⟩:=chk_ok h
                              obtain ⟨hp23,h⟩:=chk_ok h
                              obtain ⟨z9,hz9,h⟩:=lett_ok h
                              obtain ⟨hp24,h⟩:=chk_ok h
                              obtain hs:=Option.some.inj h; subst hs
                              refine T_drawX_end mixed 2 (.take 1 (.take 2 (.take 3 (.take 4 (.take 5 (.take 6 (.take 7 (.take 8 (.take 9 (.take 10 (.take 11 (.take 12 (.take 13 (.take 14 (.take 15 (.all (.alt 0 (.all (.alt 16 (.all (.alt 17 (.all (.alt 18 .done .stop)) .stop)) .stop)) (.alt 16 (.take 0 (.all (.alt 17 (.all (.alt 18 .done .stop)) .stop))) .stop)))))))))))))))))) ([0,0,0,4,8,18,32,64,128,384,128,128,3200,4224,8832,16512,32768,65665,262143],[0,0,0,4,8,18,32,64,128,384,128,128,3200,4224,8832,16512,32768,65537,131072]) 65535 [(3,{ rw:=some (.d (.v (.int .i64 (v8.length:Int)))) }),(6,{ cs:=cB (v8.getD (IntKind.i64.wrap ((v8.length:Int) - (1:Int))).toNat false) }),(15,{ rw:=some (.d (.v (.bool z9))) }),(16,{ es:=some (([z9]).map cB) }),(17,{ es:=some ((v8++([z9])).map cB) })] [0,1,2,8,9,10,13] [] [(0,.d (.str a0)),(1,.d (.sl 1 (a1.map cS))),(2,.d (.sl 1 (a2.map cS))),(8,.box [.d (.str v7)]),(9,.box [.own 4 1 ((v8++([z9])).map cB)]),(10,.clo 22 [.bp 9 0,.bp 8 0]),(13,.d (.v (.int .i64 v3)))] ((fun (o3:Prop)=>fun (o5:Prop)=>fun (o6:Prop)=>fun (o8:Prop)=>fun (o9:Prop)=>fun (o10:Prop)=>fun (o11:Prop)=>fun (o12:Prop)=>fun (o13:Prop)=>fun (o14:Prop)=>fun (o15:Prop)=>fun (o16:Prop)=>fun (o17:Prop)=>[(2,o3),(1,o5),(0,o6),(1,o8),(0,o9),(0,o10),(0,o11),(0,o12),(0,o13),(0,o14),(0,o15),(1,o16),(0,o17),(1,o16),(1,o17)]) (True∧AV.d (.v (.int .i64 ((v8.map cB).length:Int)))=.d (.v (.int .i64 (v8.length:Int)))) (0≤(IntKind.i64.wrap ((v8.length:Int) - (1:Int)))∧(IntKind.i64.wrap ((v8.length:Int) - (1:Int))) < (v8.map cB).length) ((v8.map cB)[(IntKind.i64.wrap ((v8.length:Int) - (1:Int))).toNat]? = some (cB (v8.getD (IntKind.i64.wrap ((v8.length:Int) - (1:Int))).toNat false))) (((((v8.getD (IntKind.i64.wrap ((v8.length:Int) - (1:Int))).toNat false) == true) && true)=true→True)) (((((v8.getD (IntKind.i64.wrap ((v8.length:Int) - (1:Int))).toNat false) == true) && true)=true→True)) (((((v8.getD (IntKind.i64.wrap ((v8.length:Int) - (1:Int))).toNat false) == true) && true)=true→True)) (((((v8.getD (IntKind.i64.wrap ((v8.length:Int) - (1:Int))).toNat false) == true) && true)=true→True)) (((((v8.getD (IntKind.i64.wrap ((v8.length:Int) - (1:Int))).toNat false) == true) && true)=true→0≤v3∧v3 < a0.length)) (((((v8.getD (IntKind.i64.wrap ((v8.length:Int) - (1:Int))).toNat false) == true) && true)=true→True)) (((((v8.getD (IntKind.i64.wrap ((v8.length:Int) - (1:Int))).toNat false) == true) && true)=true→True)) ((True)∧AV.d (.v (.bool (bif (v8.getD (IntKind.i64.wrap ((v8.length:Int) - (1:Int))).toNat false) then ((!((a2.getD v9.toNat []) == [])) == (((a0.getD v3.toNat 0).toNat:Int) == (63:Int))) else false)))=.d (.v (.bool z9))) ((([z9]).map cB)=(([z9]).map cB)) ((v8.map cB).length+(([z9]).map cB).length≤4294967296∧(v8.map cB)++(([z9]).map cB)=((v8++([z9])).map cB))) 1 (by kernel_rfl) (by kernel_rfl) (by kernel_rfl) (have p3:=len_ok cB; have p5:=own_idx cB hp22; have p6:=(idx_ok (d:=false) cB hp22).2; have p8:=(fun hg=>trivial); have p9:=(fun hg=>trivial); have p10:=(fun hg=>trivial); have p11:=(fun hg=>trivial); have p12:=(fun hg=>(hp23 hg)); have p13:=(fun hg=>trivial); have p14:=(fun hg=>trivial); have p15:=⟨trivial,(by subst hz9; rfl)⟩; have p16:=rfl; have p17:=app_ok cB hp24; ⟨p3,p5,p6,p8,p9,p10,p11,p12,p13,p14,p15,p16,p17,p16,p17⟩) fun a w hm=>then_norm (⟨_,rfl,hm.co (cs:=[.keep [0,1,2,8,9,10,13]]) (by show _=_; kernel_rfl)⟩)
                        · obtain ⟨v10,v11⟩:=s
                          try dsimp only at h
                          refine T_reg_end [] [0,1,2,8,9,10,11] [(11,.d (.v (.int .i64 (IntKind.i64.wrap (v3+(1:Int))))))] [] 3 (by kernel_rfl) (trivial) fun a w hm=>inBlock_norm (inBlock_norm (then_norm (⟨(v10,v11,IntKind.i64.wrap (v3+(1:Int))),h,hm.co (cs:=[.keep [0,1,2,8,9,10,11]]) (by show _=_; kernel_rfl)⟩)))
    · have h:=cond_ff hc h
      obtain hs:=Option.some.inj h; subst hs
      refine T_exit fun a w hm=>then_exit (then_exit (inBlock_exit (then_norm (⟨_,rfl,hm.co (cs:=[.keep [8,9]]) (by show _=_; kernel_rfl)⟩))))
  · obtain ⟨v12,v13⟩:=s
    try dsimp only at h
    refine fun a w hm=>then_norm (((?_:T Tryd.prog e 209 _ _ _) a w hm))
    refine T_seqk ?_
    refine T_reg [(1,{ rw:=some (.d (.v (.int .i64 (v13.length:Int)))) })] [8,204] [(204,.d (.v (.bool (decide ((v13.length:Int) > (1:Int))))))] [(1,True∧AV.d (.v (.int .i64 ((v13.map cB).length:Int)))=.d (.v (.int .i64 (v13.length:Int))))] 1 (by kernel_rfl) (len_ok cB) ?_
    refine T_cond (decide ((v13.length:Int) > (1:Int))) (by kernel_rfl) (fun hc=>?_) (fun hc=>?_)
    · have h:=cond_tt hc h
      refine T_reg [] [6,7] [(6,.d (.str [])),(7,.d (.v (.int .i64 (12:Int))))] [] 2 (by kernel_rfl) (trivial) ?_
      obtain hs:=Option.some.inj h; subst hs
      refine T_ret fun a w hm=>then_ret (T_return (fr':=[(6,.d (.str [])),(7,.d (.v (.int .i64 (12:Int))))]) [6,7] (by kernel_rfl) [.keep [6,7]] (by kernel_rfl) (by kernel_rfl) (by kernel_rfl) (by show _=_; kernel_rfl) (by exact trivial) a w hm)
    · have h:=cond_ff hc h
      refine T_skip fun a w hm=>then_norm (((?_:T Tryd.prog e 209 _ _ _) a w hm))
      refine T_seqk ?_
      refine T_reg [] [8,207] [(207,.d (.v (.bool (decide ((v12.length:Int) > (8192:Int))))))] [] 3 (by kernel_rfl) (trivial) ?_
      refine T_cond (decide ((v12.length:Int) > (8192:Int))) (by kernel_rfl) (fun hc=>?_) (fun hc=>?_)
      · have h:=cond_tt hc h
        refine T_reg [] [6,7] [(6,.d (.str [])),(7,.d (.v (.int .i64 (2:Int))))] [] 2 (by kernel_rfl) (trivial) ?_
        obtain hs:=Option.some.inj h; subst hs
        refine T_ret fun a w hm=>then_ret (T_return (fr':=[(6,.d (.str [])),(7,.d (.v (.int .i64 (2:Int))))]) [6,7] (by kernel_rfl) [.keep [6,7]] (by kernel_rfl) (by kernel_rfl) (by kernel_rfl) (by show _=_; kernel_rfl) (by exact trivial) a w hm)
      · have h:=cond_ff hc h
        refine T_skip fun a w hm=>then_norm (((?_:T Tryd.prog e 209 _ _ _) a w hm))
        refine T_reg [] [6,7] [(6,.d (.str v12)),(7,.d (.v (.int .i64 (0:Int))))] [] 3 (by kernel_rfl) (trivial) ?_
        obtain hs:=Option.some.inj h; subst hs
        refine T_ret fun a w hm=>T_return (fr':=[(6,.d (.str v12)),(7,.d (.v (.int .i64 (0:Int))))]) [6,7] (by kernel_rfl) [.keep [6,7]] (by kernel_rfl) (by kernel_rfl) (by kernel_rfl) (by show _=_; kernel_rfl) (by exact trivial) a w hm
end Go.Vm.MrgG
