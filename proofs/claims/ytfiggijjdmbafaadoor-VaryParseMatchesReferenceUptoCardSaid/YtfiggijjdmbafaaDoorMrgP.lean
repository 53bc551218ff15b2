import Derived.Test.YtfiggijjdmbafaaDoorProg
import Derived.Test.YtfiggijjdmbafaaDoorMrgF
import Derived.Test.YtfiggijjdmbafaaDoorMrgB
namespace Go.Vm.MrgG
open Go.Proofs
set_option maxRecDepth 20000
variable {gm0:Int}
theorem mixed:Tryd.prog.follows .mixedOrders=true:=by kernel_rfl
theorem vary_plain_ok {F:Nat} {a0:List UInt8} {r:Bool} (h:vary_plain F a0=some r):ACall Tryd.prog 30 [.d (.str a0)] [] (.d (.v (.bool r))) []:=by
  rw [vary_plain] at h
  refine ACall.intro (N:=45) Tryd.func30 rfl rfl rfl rfl rfl fun e=>?_
  refine T_reg [] [0] [] [] 1 (by kernel_rfl) (trivial) ?_
  refine T_seqk ?_
  refine T_reg [] [0,6,7] [(6,.d (.v (.int .i64 (a0.length:Int)))),(7,.d (.v (.int .i64 (0:Int))))] [] 3 (by kernel_rfl) (trivial) ?_
  refine T_joinEt h (fun (p:Unit)=>[(0,.d (.str a0))]) (fun s h hk1=>?_) (fun s h=>?_)
  · refine T_co [.keep [0,6,7]] ((fun (p:Int)=>[(0,.d (.str a0)),(6,.d (.v (.int .i64 (a0.length:Int)))),(7,.d (.v (.int .i64 p)))]) (0:Int)) (by show _=_; kernel_rfl) ?_
    refine T_block ?_
    refine T_loopF (ι:=Int) (fun (p:Int)=>[(0,.d (.str a0)),(6,.d (.v (.int .i64 (a0.length:Int)))),(7,.d (.v (.int .i64 p)))]) (fun n p=>vary_plain_L0 F a0 n p=some s) (fun i hh=>by simp [vary_plain_L0] at hh) (fun n v1 h=>?_) F (0:Int) h
    have h:vary_plain_L0 F a0 (n+1) v1=some s:=h
    rw [vary_plain_L0] at h
    refine T_reg [] [0,6,7,8] [(8,.d (.v (.bool (decide (v1 < (a0.length:Int))))))] [] 1 (by kernel_rfl) (trivial) ?_
    refine T_seqk ?_
    refine T_cond (decide (v1 < (a0.length:Int))) (by kernel_rfl) (fun hc=>?_) (fun hc=>?_)
    · have h:=cond_tt hc h
      refine T_skip fun a w hm=>then_norm (((?_:T Tryd.prog e 45 _ _ _) a w hm))
      refine T_seqk ?_
      refine T_block ?_
      refine T_reg [] [0,3,6,7] [(3,.d (.v (.int .i64 v1)))] [] 2 (by kernel_rfl) (trivial) ?_
      obtain ⟨hp1,h⟩:=chk_ok h
      refine T_reg [] [0,3,4,6,7] [(4,.d (.v (.int .u8 ((a0.getD v1.toNat 0).toNat:Int))))] [(2,0≤v1∧v1 < a0.length)] 1 (by kernel_rfl) (hp1) ?_
      obtain ⟨z1,hz1,h⟩:=lett_ok h
      obtain ⟨z2,hz2,h⟩:=lett_ok h
      obtain ⟨z3,hz3,h⟩:=lett_ok h
      refine T_reg [(5,{ rw:=some (.d (.v (.bool z1))) }),(16,{ rw:=some (.d (.v (.bool z2))) }),(22,{ rw:=some (.d (.v (.bool z3))) })] [0,6,7,36] [(36,.d (.v (.bool (bif (!z1) then z3 else false))))] [(3,((((decide ((97:Int)≤((a0.getD v1.toNat 0).toNat:Int))) == true) && true)=true→True)),(0,((((decide ((97:Int)≤((a0.getD v1.toNat 0).toNat:Int))) == true) && true)=true→True)),(0,(True)∧AV.d (.v (.bool (bif (decide ((97:Int)≤((a0.getD v1.toNat 0).toNat:Int))) then (decide (((a0.getD v1.toNat 0).toNat:Int)≤(122:Int))) else false)))=.d (.v (.bool z1))),(2,((((!z1) == true) && true)=true→True)),(0,((((!z1) == true) && true)=true→True)),(0,((((!z1) == true) && true)=true→True)),(0,((((v1 == (0:Int)) == false) && (((!z1) == true) && true))=true→True)),(0,((((v1 == (0:Int)) == false) && (((!z1) == true) && true))=true→True)),(0,((((v1 == (0:Int)) == false) && (((!z1) == true) && true))=true→True)),(0,((((decide ((48:Int)≤((a0.getD v1.toNat 0).toNat:Int))) == true) && (((v1 == (0:Int)) == false) && (((!z1) == true) && true)))=true→True)),(0,((((decide ((48:Int)≤((a0.getD v1.toNat 0).toNat:Int))) == true) && (((v1 == (0:Int)) == false) && (((!z1) == true) && true)))=true→True)),(0,((((v1 == (0:Int)) == false) && (((!z1) == true) && true))=true→(True)∧AV.d (.v (.bool (bif (decide ((48:Int)≤((a0.getD v1.toNat 0).toNat:Int))) then (decide (((a0.getD v1.toNat 0).toNat:Int)≤(57:Int))) else false)))=.d (.v (.bool z2)))),(0,((((v1 == (0:Int)) == false) && (((!z1) == true) && true))=true→True)),(0,((((v1 == (0:Int)) == false) && (((!z1) == true) && true))=true→True)),(0,((((!z2) == true) && (((v1 == (0:Int)) == false) && (((!z1) == true) && true)))=true→True)),(0,((((!z2) == true) && (((v1 == (0:Int)) == false) && (((!z1) == true) && true)))=true→True)),(0,((((v1 == (0:Int)) == false) && (((!z1) == true) && true))=true→True)),(0,((((!z1) == true) && true)=true→(True)∧AV.d (.v (.bool (bif (v1 == (0:Int)) then true else (bif (!z2) then (((a0.getD v1.toNat 0).toNat:Int) != (45:Int)) else false))))=.d (.v (.bool z3))))] 1 (by kernel_rfl) (⟨(fun hg=>trivial),(fun hg=>trivial),⟨trivial,(by subst hz1; rfl)⟩,(fun hg=>trivial),(fun hg=>trivial),(fun hg=>trivial),(fun hg=>trivial),(fun hg=>trivial),(fun hg=>trivial),(fun hg=>trivial),(fun hg=>trivial),(fun hg=>⟨trivial,(by subst hz2; rfl)⟩),(fun hg=>trivial),(fun hg=>trivial),(fun hg=>trivial),(fun hg=>trivial),(fun hg=>trivial),(fun hg=>⟨trivial,(by subst hz3; rfl)⟩)⟩) ?_
      refine T_cond (bif (!z1) then z3 else false) (by kernel_rfl) (fun hc=>?_) (fun hc=>?_)
      · have h:=cond_tt hc h
        refine T_reg [] [2] [(2,.d (.v (.bool false)))] [] 1 (by kernel_rfl) (trivial) ?_
        obtain hs:=Option.some.inj h; subst hs
        have h:=callE_esc hk1
        obtain hs:=Option.some.inj h; subst hs
        refine T_ret fun a w hm=>inBlock_ret (then_ret (then_ret (inBlock_ret (then_ret (then_ret (T_return (fr':=[(2,.d (.v (.bool false)))]) [2] (by kernel_rfl) [.keep [2]] (by kernel_rfl) (by kernel_rfl) (by kernel_rfl) (by show _=_; kernel_rfl) (by exact trivial) a w hm))))))
      · have h:=cond_ff hc h
        refine T_skip fun a w hm=>inBlock_norm (then_norm (((?_:T Tryd.prog e 45 _ _ _) a w hm)))
        refine T_reg_end [] [0,6,7] [(7,.d (.v (.int .i64 (IntKind.i64.wrap (v1+(1:Int))))))] [] 2 (by kernel_rfl) (trivial) fun a w hm=>then_norm (⟨IntKind.i64.wrap (v1+(1:Int)),h,hm.co (cs:=[.keep [0,6,7]]) (by show _=_; kernel_rfl)⟩)
    · have h:=cond_ff hc h
      obtain hs:=Option.some.inj h; subst hs
      refine T_exit fun a w hm=>then_exit (then_exit (inBlock_exit (then_norm (⟨_,rfl,hm.co (cs:=[.keep [0]]) (by show _=_; kernel_rfl)⟩))))
  · skip
    refine fun a w hm=>then_norm (((?_:T Tryd.prog e 45 _ _ _) a w hm))
    refine T_reg [] [2] [(2,.d (.v (.bool (bif (!(a0 == [])) then (decide ((a0.length:Int)≤(16:Int))) else false))))] [(3,((((!(a0 == [])) == true) && true)=true→True)),(0,((((!(a0 == [])) == true) && true)=true→True)),(0,((((!(a0 == [])) == true) && true)=true→True))] 2 (by kernel_rfl) (⟨(fun hg=>trivial),(fun hg=>trivial),(fun hg=>trivial)⟩) ?_
    obtain hs:=Option.some.inj h; subst hs
    refine T_ret fun a w hm=>T_return (fr':=[(2,.d (.v (.bool (bif (!(a0 == [])) then (decide ((a0.length:Int)≤(16:Int))) else false))))]) [2] (by kernel_rfl) [.keep [2]] (by kernel_rfl) (by kernel_rfl) (by kernel_rfl) (by show _=_; kernel_rfl) (by exact trivial) a w hm
theorem slices_Index_string_ok {F:Nat} {a0:List (List UInt8)} {a1:List UInt8} {r:Int} (h:slices_Index_string F a0 a1=some r):ACall Tryd.prog 42 [.d (.sl 1 (a0.map cS)),.d (.str a1)] [] (.d (.v (.int .i64 r))) []:=by
  rw [slices_Index_string] at h
  refine ACall.intro (N:=19) Tryd.func42 rfl rfl rfl rfl rfl fun e=>?_
  refine T_reg [] [0,1] [] [] 1 (by kernel_rfl) (trivial) ?_
  refine T_seqk ?_
  refine T_reg [(1,{ rw:=some (.d (.v (.int .i64 (a0.length:Int)))) })] [0,1,7,8] [(7,.d (.v (.int .i64 (a0.length:Int)))),(8,.d (.v (.int .i64 (0:Int))))] [(1,True∧AV.d (.v (.int .i64 ((a0.map cS).length:Int)))=.d (.v (.int .i64 (a0.length:Int))))] 1 (by kernel_rfl) (len_ok cS) ?_
  refine T_joinEt h (fun (p:Unit)=>[]) (fun s h hk1=>?_) (fun s h=>?_)
  · refine T_co [.keep [0,1,7,8]] ((fun (p:Int)=>[(0,.d (.sl 1 (a0.map cS))),(1,.d (.str a1)),(7,.d (.v (.int .i64 (a0.length:Int)))),(8,.d (.v (.int .i64 p)))]) (0:Int)) (by show _=_; kernel_rfl) ?_
    refine T_block ?_
    refine T_loopF (ι:=Int) (fun (p:Int)=>[(0,.d (.sl 1 (a0.map cS))),(1,.d (.str a1)),(7,.d (.v (.int .i64 (a0.length:Int)))),(8,.d (.v (.int .i64 p)))]) (fun n p=>slices_Index_string_L0 F a0 a1 n p=some s) (fun i hh=>by simp [slices_Index_string_L0] at hh) (fun n v1 h=>?_) F (0:Int) h
    have h:slices_Index_string_L0 F a0 a1 (n+1) v1=some s:=h
    rw [slices_Index_string_L0] at h
    refine T_reg [] [0,1,7,8,9] [(9,.d (.v (.bool (decide (v1 < (a0.length:Int))))))] [] 1 (by kernel_rfl) (trivial) ?_
    refine T_seqk ?_
    refine T_cond (decide (v1 < (a0.length:Int))) (by kernel_rfl) (fun hc=>?_) (fun hc=>?_)
    · have h:=cond_tt hc h
      refine T_skip fun a w hm=>then_norm (((?_:T Tryd.prog e 19 _ _ _) a w hm))
      refine T_seqk ?_
      refine T_block ?_
      refine T_reg [] [0,1,5,7,8] [(5,.d (.v (.int .i64 v1)))] [] 2 (by kernel_rfl) (trivial) ?_
      obtain ⟨hp1,h⟩:=chk_ok h
      refine T_reg [(3,{ cs:=cS (a0.getD v1.toNat []) })] [0,1,5,7,8,16] [(16,.d (.v (.bool (a1 == (a0.getD v1.toNat [])))))] [(3,0≤v1∧(a0.map cS)[v1.toNat]? = some (cS (a0.getD v1.toNat [])))] 2 (by kernel_rfl) (idx_ok (d:=[]) cS hp1) ?_
      refine T_cond (a1 == (a0.getD v1.toNat [])) (by kernel_rfl) (fun hc=>?_) (fun hc=>?_)
      · have h:=cond_tt hc h
        refine T_reg [] [4] [(4,.d (.v (.int .i64 v1)))] [] 2 (by kernel_rfl) (trivial) ?_
        obtain hs:=Option.some.inj h; subst hs
        have h:=callE_esc hk1
        obtain hs:=Option.some.inj h; subst hs
        refine T_ret fun a w hm=>inBlock_ret (then_ret (then_ret (inBlock_ret (then_ret (then_ret (T_return (fr':=[(4,.d (.v (.int .i64 v1)))]) [4] (by kernel_rfl) [.keep [4]] (by kernel_rfl) (by kernel_rfl) (by kernel_rfl) (by show _=_; kernel_rfl) (by exact trivial) a w hm))))))
      · have h:=cond_ff hc h
        refine T_skip fun a w hm=>inBlock_norm (then_norm (((?_:T Tryd.prog e 19 _ _ _) a w hm)))
        refine T_reg_end [] [0,1,7,8] [(8,.d (.v (.int .i64 (IntKind.i64.wrap (v1+(1:Int))))))] [] 2 (by kernel_rfl) (trivial) fun a w hm=>then_norm (⟨IntKind.i64.wrap (v1+(1:Int)),h,hm.co (cs:=[.keep [0,1,7,8]]) (by show _=_; kernel_rfl)⟩)
    · have h:=cond_ff hc h
      obtain hs:=Option.some.inj h; subst hs
      refine T_exit fun a w hm=>then_exit (then_exit (inBlock_exit (then_norm (⟨_,rfl,hm.co (cs:=[.keep []]) (by show _=_; kernel_rfl)⟩))))
  · skip
    refine fun a w hm=>then_norm (((?_:T Tryd.prog e 19 _ _ _) a w hm))
    refine T_reg [] [4] [(4,.d (.v (.int .i64 (-1:Int))))] [] 1 (by kernel_rfl) (trivial) ?_
    obtain hs:=Option.some.inj h; subst hs
    refine T_ret fun a w hm=>T_return (fr':=[(4,.d (.v (.int .i64 (-1:Int))))]) [4] (by kernel_rfl) [.keep [4]] (by kernel_rfl) (by kernel_rfl) (by kernel_rfl) (by show _=_; kernel_rfl) (by exact trivial) a w hm
theorem slices_Contains_string_ok {F:Nat} {a0:List (List UInt8)} {a1:List UInt8} {r:Bool} (h:slices_Contains_string F a0 a1=some r):ACall Tryd.prog 31 [.d (.sl 1 (a0.map cS)),.d (.str a1)] [] (.d (.v (.bool r))) []:=by
  rw [slices_Contains_string] at h
  refine ACall.intro (N:=9) Tryd.func31 rfl rfl rfl rfl rfl fun e=>?_
  refine T_reg [] [0,1] [] [] 1 (by kernel_rfl) (trivial) ?_
  obtain ⟨y1,hy1,h⟩:=call_ok h
  refine T_reg [(2,{ res:=.d (.v (.int .i64 y1)) })] [4] [(4,.d (.v (.bool (decide (y1 ≥ (0:Int))))))] [(2,ACall Tryd.prog 42 [.d (.sl 1 (a0.map cS)),.d (.str a1)] [] (.d (.v (.int .i64 y1))) [])] 2 (by kernel_rfl) (slices_Index_string_ok hy1) ?_
  obtain hs:=Option.some.inj h; subst hs
  refine T_ret fun a w hm=>T_return (fr':=[(4,.d (.v (.bool (decide (y1 ≥ (0:Int))))))]) [4] (by kernel_rfl) [.keep [4]] (by kernel_rfl) (by kernel_rfl) (by kernel_rfl) (by show _=_; kernel_rfl) (by exact trivial) a w hm
theorem strings_Builder_WriteString_ok {F:Nat} {a0:List UInt8} {c1:List UInt8} {r:Int×Unit×(List UInt8)} (h:strings_Builder_WriteString F a0 c1=some r):ACall Tryd.prog 32 [.bp 1000000 0,.d (.str a0)] [.box [.slf 0 48,.own 5 1 (c1.map cU)]] (.tup [.d (.v (.int .i64 r.1)),.d (.v .nilIface)]) [.box [.slf 0 48,.own 5 1 (r.2.2.map cU)]]:=by
  rw [strings_Builder_WriteString] at h
  refine ACall.intro (N:=19) Tryd.func32 rfl rfl rfl rfl rfl fun e=>?_
  refine T_reg [] [0,1,1000000] [] [] 2 (by kernel_rfl) (trivial) ?_
  refine T_reg [(1,{ xs:=[1000000],res:=.tup [],vout:=[.box [.slf 0 48,.own 5 1 (c1.map cU)]] })] [0,1,1000000] [] [(1,ACall Tryd.prog 41 [.bp 1000000 0] [.box [.slf 0 48,.own 5 1 (c1.map cU)]] (.tup []) [.box [.slf 0 48,.own 5 1 (c1.map cU)]])] 0 (by kernel_rfl) (b_copyCheck (E:=48) (by kernel_rfl) (by kernel_rfl) (by kernel_rfl)) ?_
  obtain ⟨hp1,h⟩:=chk_ok h
  refine T_reg [(6,{ es:=some ((c1++a0).map cU) })] [1,1000000] [(1000000,.box [.slf 0 48,.own 5 1 ((c1++a0).map cU)])] [(6,(c1.map cU).length+(a0.map cU).length≤4294967296∧(c1.map cU)++(a0.map cU)=((c1++a0).map cU))] 3 (by kernel_rfl) (app_ok cU hp1) ?_
  refine T_reg [] [4,5,1000000] [(4,.d (.v (.int .i64 (a0.length:Int)))),(5,.d (.v .nilIface))] [] 4 (by kernel_rfl) (trivial) ?_
  obtain hs:=Option.some.inj h; subst hs
  refine T_ret fun a w hm=>T_return (fr':=[(4,.d (.v (.int .i64 (a0.length:Int)))),(5,.d (.v .nilIface)),(1000000,.box [.slf 0 48,.own 5 1 ((c1++a0).map cU)])]) [4,5] (by kernel_rfl) [.keep [4,5,1000000]] (by kernel_rfl) (by kernel_rfl) (by kernel_rfl) (by show _=_; kernel_rfl) (by exact ⟨⟨by kernel_rfl,by kernel_rfl⟩,trivial⟩) a w hm
theorem strings_Builder_WriteByte_ok {F:Nat} {a0:Int} {c1:List UInt8} {r:Unit×(List UInt8)} (h:strings_Builder_WriteByte F a0 c1=some r):ACall Tryd.prog 29 [.bp 1000000 0,.d (.v (.int .u8 a0))] [.box [.slf 0 48,.own 5 1 (c1.map cU)]] (.d (.v .nilIface)) [.box [.slf 0 48,.own 5 1 (r.2.map cU)]]:=by
  rw [strings_Builder_WriteByte] at h
  refine ACall.intro (N:=17) Tryd.func29 rfl rfl rfl rfl rfl fun e=>?_
  refine T_reg [] [0,1,1000000] [] [] 1 (by kernel_rfl) (trivial) ?_
  refine T_reg [(1,{ xs:=[1000000],res:=.tup [],vout:=[.box [.slf 0 48,.own 5 1 (c1.map cU)]] })] [0,1,1000000] [] [(1,ACall Tryd.prog 41 [.bp 1000000 0] [.box [.slf 0 48,.own 5 1 (c1.map cU)]] (.tup []) [.box [.slf 0 48,.own 5 1 (c1.map cU)]])] 0 (by kernel_rfl) (b_copyCheck (E:=48) (by kernel_rfl) (by kernel_rfl) (by kernel_rfl)) ?_
  obtain ⟨hp1,h⟩:=chk_ok h
  obtain ⟨hp2,h⟩:=chk_ok h
  refine T_reg [(6,{ es:=some (([(UInt8.ofNat a0.toNat)]).map cU) }),(7,{ es:=some ((c1++([(UInt8.ofNat a0.toNat)])).map cU) })] [1000000] [(1000000,.box [.slf 0 48,.own 5 1 ((c1++([(UInt8.ofNat a0.toNat)])).map cU)])] [(6,[[Dat.v (.int .u8 a0)]]=(([(UInt8.ofNat a0.toNat)]).map cU)),(0,(c1.map cU).length+(([(UInt8.ofNat a0.toNat)]).map cU).length≤4294967296∧(c1.map cU)++(([(UInt8.ofNat a0.toNat)]).map cU)=((c1++([(UInt8.ofNat a0.toNat)])).map cU))] 3 (by kernel_rfl) (⟨(lit_u hp1 (rfl:([]:List (List Dat))=([]:List UInt8).map cU)),app_ok cU hp2⟩) ?_
  refine T_reg [] [4,1000000] [(4,.d (.v .nilIface))] [] 1 (by kernel_rfl) (trivial) ?_
  obtain hs:=Option.some.inj h; subst hs
  refine T_ret fun a w hm=>T_return (fr':=[(4,.d (.v .nilIface)),(1000000,.box [.slf 0 48,.own 5 1 ((c1++([(UInt8.ofNat a0.toNat)])).map cU)])]) [4] (by kernel_rfl) [.keep [4,1000000]] (by kernel_rfl) (by kernel_rfl) (by kernel_rfl) (by show _=_; kernel_rfl) (by exact ⟨⟨by kernel_rfl,by kernel_rfl⟩,trivial⟩) a w hm
theorem vary_quoted_ok {F:Nat} {a0:List UInt8} {r:(List UInt8)} (h:vary_quoted F a0=some r):ACall Tryd.prog 34 [.d (.str a0)] [.glo 0 ([gm0].flatMap (cI .i64))] (.d (.str r)) [.glo 0 ([gm0].flatMap (cI .i64))]:=by
  rw [vary_quoted] at h
  refine ACall.intro (N:=15) Tryd.func34 rfl rfl rfl rfl rfl fun e=>?_
  refine T_reg [] [0,1000000] [] [] 1 (by kernel_rfl) (trivial) ?_
  refine T_seqk ?_
  obtain ⟨hp1,h⟩:=chk_ok h
  refine T_reg [(4,{ res:=.d (.v (.bool (Lib.containsAny a0 ([44,34,10]:List UInt8)))) })] [0,9,1000000] [(9,.d (.v (.bool (bif (!(a0 == [])) then (!(Lib.containsAny a0 ([44,34,10]:List UInt8))) else false))))] [(3,((((!(a0 == [])) == true) && true)=true→True)),(0,((((!(a0 == [])) == true) && true)=true→ACall Tryd.prog 44 [.d (.str a0),.d (.str ([44,34,10]:List UInt8))] [] (.d (.v (.bool (Lib.containsAny a0 ([44,34,10]:List UInt8))))) [])),(0,((((!(a0 == [])) == true) && true)=true→True))] 1 (by kernel_rfl) (⟨(fun hg=>trivial),(fun hg=>b_ContainsAny (hp1 hg) (by decide)),(fun hg=>trivial)⟩) ?_
  refine T_cond (bif (!(a0 == [])) then (!(Lib.containsAny a0 ([44,34,10]:List UInt8))) else false) (by kernel_rfl) (fun hc=>?_) (fun hc=>?_)
  · have h:=cond_tt hc h
    refine T_reg [] [2,1000000] [(2,.d (.str a0))] [] 2 (by kernel_rfl) (trivial) ?_
    obtain hs:=Option.some.inj h; subst hs
    refine T_ret fun a w hm=>then_ret (T_return (fr':=[(2,.d (.str a0)),(1000000,.glo 0 ([gm0].flatMap (cI .i64)))]) [2] (by kernel_rfl) [.keep [2,1000000]] (by kernel_rfl) (by kernel_rfl) (by kernel_rfl) (by show _=_; kernel_rfl) (by exact ⟨⟨by kernel_rfl,by kernel_rfl⟩,trivial⟩) a w hm)
  · have h:=cond_ff hc h
    refine T_skip fun a w hm=>then_norm (((?_:T Tryd.prog e 15 _ _ _) a w hm))
    obtain ⟨hp2,h⟩:=chk_ok h
    obtain ⟨hp3,h⟩:=chk_ok h
    obtain ⟨hp4,h⟩:=chk_ok h
    obtain ⟨z1,hz1,h⟩:=lett_ok h
    refine T_reg [(1,{ res:=.d (.str (Lib.replaceAll a0 ([34]:List UInt8) ([34,34]:List UInt8))),xs:=[1000000],vout:=[.glo 0 ([gm0].flatMap (cI .i64))] }),(3,{ rw:=some (.d (.str z1)) })] [2,1000000] [(2,.d (.str z1))] [(1,ACall Tryd.prog 45 [.d (.str a0),.d (.str ([34]:List UInt8)),.d (.str ([34,34]:List UInt8))] [.glo 0 ([gm0].flatMap (cI .i64))] (.d (.str (Lib.replaceAll a0 ([34]:List UInt8) ([34,34]:List UInt8)))) [.glo 0 ([gm0].flatMap (cI .i64))]),(0,([34]:List UInt8).length+(Lib.replaceAll a0 ([34]:List UInt8) ([34,34]:List UInt8)).length≤9223372036854775807),(0,((([34]:List UInt8)++(Lib.replaceAll a0 ([34]:List UInt8) ([34,34]:List UInt8))).length+([34]:List UInt8).length≤9223372036854775807)∧AV.d (.str ((([34]:List UInt8)++(Lib.replaceAll a0 ([34]:List UInt8) ([34,34]:List UInt8)))++([34]:List UInt8)))=.d (.str z1))] 1 (by kernel_rfl) (⟨b_ReplaceAll hp2,hp3,⟨hp4,(by subst hz1; rfl)⟩⟩) ?_
    obtain hs:=Option.some.inj h; subst hs
    refine T_ret fun a w hm=>T_return (fr':=[(2,.d (.str z1)),(1000000,.glo 0 ([gm0].flatMap (cI .i64)))]) [2] (by kernel_rfl) [.keep [2,1000000]] (by kernel_rfl) (by kernel_rfl) (by kernel_rfl) (by show _=_; kernel_rfl) (by exact ⟨⟨by kernel_rfl,by kernel_rfl⟩,trivial⟩) a w hm
theorem strings_Builder_Len_ok {F:Nat} {c0:List UInt8} {r:Int×(List UInt8)} (h:strings_Builder_Len F c0=some r):ACall Tryd.prog 20 [.bp 1000000 0] [.box [.slf 0 48,.own 5 1 (c0.map cU)]] (.d (.v (.int .i64 r.1))) [.box [.slf 0 48,.own 5 1 (r.2.map cU)]]:=by
  rw [strings_Builder_Len] at h
  refine ACall.intro (N:=8) Tryd.func20 rfl rfl rfl rfl rfl fun e=>?_
  refine T_reg [] [0,1000000] [] [] 1 (by kernel_rfl) (trivial) ?_
  refine T_reg [(4,{ rw:=some (.d (.v (.int .i64 (c0.length:Int)))) })] [2,1000000] [(2,.d (.v (.int .i64 (c0.length:Int))))] [(4,True∧AV.d (.v (.int .i64 ((c0.map cU).length:Int)))=.d (.v (.int .i64 (c0.length:Int))))] 1 (by kernel_rfl) (len_ok cU) ?_
  obtain hs:=Option.some.inj h; subst hs
  refine T_ret fun a w hm=>T_return (fr':=[(2,.d (.v (.int .i64 (c0.length:Int)))),(1000000,.box [.slf 0 48,.own 5 1 (c0.map cU)])]) [2] (by kernel_rfl) [.keep [2,1000000]] (by kernel_rfl) (by kernel_rfl) (by kernel_rfl) (by show _=_; kernel_rfl) (by exact ⟨⟨by kernel_rfl,by kernel_rfl⟩,trivial⟩) a w hm
theorem vary_Print_ok {F:Nat} {a0:S_VaryTable} {r:(List UInt8)×Int} (h:vary_Print F a0=some r):ACall Tryd.prog 24 [.agg (cS_VaryTable a0)] [.glo 0 ([gm0].flatMap (cI .i64))] (.tup [.d (.str r.1),.d (.v (.int .i64 r.2))]) [.glo 0 ([gm0].flatMap (cI .i64))]:=by
  rw [vary_Print] at h
  refine ACall.intro (N:=80) Tryd.func24 rfl rfl rfl rfl rfl fun e=>?_
  refine T_reg [] [1,1000000] [(1,.box [.d (.sl 1 (a0.f0.map cS)),.d (.sl 1 (a0.f1.map (cL 1 cS)))])] [] 3 (by kernel_rfl) (trivial) ?_
  refine T_seqk ?_
  obtain ⟨z1,hz1,h⟩:=lett_ok h
  refine T_reg [(2,{ rw:=some (.d (.v (.int .i64 (a0.f0.length:Int)))) }),(7,{ rw:=some (.d (.v (.int .i64 (a0.f1.length:Int)))) }),(9,{ rw:=some (.d (.v (.bool z1))) })] [1,20,1000000] [(20,.d (.v (.bool z1)))] [(2,True∧AV.d (.v (.int .i64 ((a0.f0.map cS).length:Int)))=.d (.v (.int .i64 (a0.f0.length:Int)))),(2,((((decide ((a0.f0.length:Int) > (16:Int))) == false) && true)=true→True)),(0,((((decide ((a0.f0.length:Int) > (16:Int))) == false) && true)=true→True)),(0,((((decide ((a0.f0.length:Int) > (16:Int))) == false) && true)=true→True∧AV.d (.v (.int .i64 ((a0.f1.map (cL 1 cS)).length:Int)))=.d (.v (.int .i64 (a0.f1.length:Int))))),(0,((((decide ((a0.f0.length:Int) > (16:Int))) == false) && true)=true→True)),(0,(True)∧AV.d (.v (.bool (bif (decide ((a0.f0.length:Int) > (16:Int))) then true else (decide ((a0.f1.length:Int) > (256:Int))))))=.d (.v (.bool z1)))] 0 (by kernel_rfl) (⟨len_ok cS,(fun hg=>trivial),(fun hg=>trivial),(fun hg=>len_ok (cL 1 cS)),(fun hg=>trivial),⟨trivial,(by subst hz1; rfl)⟩⟩) ?_
  refine T_cond z1 (by kernel_rfl) (fun hc=>?_) (fun hc=>?_)
  · have h:=cond_tt hc h
    refine T_reg [] [2,3,1000000] [(2,.d (.str [])),(3,.d (.v (.int .i64 (2:Int))))] [] 2 (by kernel_rfl) (trivial) ?_
    obtain hs:=Option.some.inj h; subst hs
    refine T_ret fun a w hm=>then_ret (T_return (fr':=[(2,.d (.str [])),(3,.d (.v (.int .i64 (2:Int)))),(1000000,.glo 0 ([gm0].flatMap (cI .i64)))]) [2,3] (by kernel_rfl) [.keep [2,3,1000000]] (by kernel_rfl) (by kernel_rfl) (by kernel_rfl) (by show _=_; kernel_rfl) (by exact ⟨⟨by kernel_rfl,by kernel_rfl⟩,trivial⟩) a w hm)
  · have h:=cond_ff hc h
    refine T_skip fun a w hm=>then_norm (((?_:T Tryd.prog e 80 _ _ _) a w hm))
    refine T_seqk ?_
    refine T_reg [(2,{ rw:=some (.d (.v (.int .i64 (a0.f0.length:Int)))) })] [1,24,1000000] [(24,.d (.v (.bool ((a0.f0.length:Int) == (0:Int)))))] [(2,True∧AV.d (.v (.int .i64 ((a0.f0.map cS).length:Int)))=.d (.v (.int .i64 (a0.f0.length:Int))))] 1 (by kernel_rfl) (len_ok cS) ?_
    refine T_cond ((a0.f0.length:Int) == (0:Int)) (by kernel_rfl) (fun hc=>?_) (fun hc=>?_)
    · have h:=cond_tt hc h
      refine T_reg [] [2,3,1000000] [(2,.d (.str [])),(3,.d (.v (.int .i64 (8:Int))))] [] 2 (by kernel_rfl) (trivial) ?_
      obtain hs:=Option.some.inj h; subst hs
      refine T_ret fun a w hm=>then_ret (T_return (fr':=[(2,.d (.str [])),(3,.d (.v (.int .i64 (8:Int)))),(1000000,.glo 0 ([gm0].flatMap (cI .i64)))]) [2,3] (by kernel_rfl) [.keep [2,3,1000000]] (by kernel_rfl) (by kernel_rfl) (by kernel_rfl) (by show _=_; kernel_rfl) (by exact ⟨⟨by kernel_rfl,by kernel_rfl⟩,trivial⟩) a w hm)
    · have h:=cond_ff hc h
      refine T_skip fun a w hm=>then_norm (((?_:T Tryd.prog e 80 _ _ _) a w hm))
      refine T_seqk ?_
      refine T_reg [(2,{ rw:=some (.d (.v (.int .i64 (a0.f0.length:Int)))) })] [1,26,27,28,1000000] [(26,.d (.sl 1 (a0.f0.map cS))),(27,.d (.v (.int .i64 (a0.f0.length:Int)))),(28,.d (.v (.int .i64 (0:Int))))] [(2,True∧AV.d (.v (.int .i64 ((a0.f0.map cS).length:Int)))=.d (.v (.int .i64 (a0.f0.length:Int))))] 1 (by kernel_rfl) (len_ok cS) ?_
      refine T_joinEt h (fun (p:Unit)=>[(1,.box [.d (.sl 1 (a0.f0.map cS)),.d (.sl 1 (a0.f1.map (cL 1 cS)))]),(1000000,.glo 0 ([gm0].flatMap (cI .i64)))]) (fun s h hk1=>?_) (fun s h=>?_)
      · refine T_co [.keep [1,26,27,28,1000000]] ((fun (p:Int)=>[(1,.box [.d (.sl 1 (a0.f0.map cS)),.d (.sl 1 (a0.f1.map (cL 1 cS)))]),(26,.d (.sl 1 (a0.f0.map cS))),(27,.d (.v (.int .i64 (a0.f0.length:Int)))),(28,.d (.v (.int .i64 p))),(1000000,.glo 0 ([gm0].flatMap (cI .i64)))]) (0:Int)) (by show _=_; kernel_rfl) ?_
        refine T_block ?_
        refine T_loopF (ι:=Int) (fun (p:Int)=>[(1,.box [.d (.sl 1 (a0.f0.map cS)),.d (.sl 1 (a0.f1.map (cL 1 cS)))]),(26,.d (.sl 1 (a0.f0.map cS))),(27,.d (.v (.int .i64 (a0.f0.length:Int)))),(28,.d (.v (.int .i64 p))),(1000000,.glo 0 ([gm0].flatMap (cI .i64)))]) (fun n p=>vary_Print_L0 F a0 n p=some s) (fun i hh=>by simp [vary_Print_L0] at hh) (fun n v1 h=>?_) F (0:Int) h
        have h:vary_Print_L0 F a0 (n+1) v1=some s:=h
        rw [vary_Print_L0] at h
        refine T_reg [] [1,26,27,28,29,1000000] [(29,.d (.v (.bool (decide (v1 < (a0.f0.length:Int))))))] [] 1 (by kernel_rfl) (trivial) ?_
        refine T_seqk ?_
        refine T_cond (decide (v1 < (a0.f0.length:Int))) (by kernel_rfl) (fun hc=>?_) (fun hc=>?_)
        · have h:=cond_tt hc h
          refine T_skip fun a w hm=>then_norm (((?_:T Tryd.prog e 80 _ _ _) a w hm))
          refine T_seqk ?_
          refine T_block ?_
          obtain ⟨hp1,h⟩:=chk_ok h
          refine T_reg [(1,{ cs:=cS (a0.f0.getD v1.toNat []) })] [1,4,5,26,27,28,1000000] [(4,.d (.v (.int .i64 v1))),(5,.d (.str (a0.f0.getD v1.toNat [])))] [(1,0≤v1∧(a0.f0.map cS)[v1.toNat]? = some (cS (a0.f0.getD v1.toNat [])))] 3 (by kernel_rfl) (idx_ok (d:=[]) cS hp1) ?_
          refine T_seqk ?_
          obtain ⟨y1,hy1,h⟩:=call_ok h
          refine T_reg [(1,{ res:=.d (.v (.bool y1)) })] [1,4,5,26,27,28,35,1000000] [(35,.d (.v (.bool (!y1))))] [(1,ACall Tryd.prog 30 [.d (.str (a0.f0.getD v1.toNat []))] [] (.d (.v (.bool y1))) [])] 1 (by kernel_rfl) (vary_plain_ok hy1) ?_
          refine T_cond (!y1) (by kernel_rfl) (fun hc=>?_) (fun hc=>?_)
          · have h:=cond_tt hc h
            refine T_reg [] [2,3,1000000] [(2,.d (.str [])),(3,.d (.v (.int .i64 (6:Int))))] [] 2 (by kernel_rfl) (trivial) ?_
            obtain hs:=Option.some.inj h; subst hs
            have h:=callE_esc hk1
            obtain hs:=Option.some.inj h; subst hs
            refine T_ret fun a w hm=>then_ret (inBlock_ret (then_ret (then_ret (inBlock_ret (then_ret (then_ret (T_return (fr':=[(2,.d (.str [])),(3,.d (.v (.int .i64 (6:Int)))),(1000000,.glo 0 ([gm0].flatMap (cI .i64)))]) [2,3] (by kernel_rfl) [.keep [2,3,1000000]] (by kernel_rfl) (by kernel_rfl) (by kernel_rfl) (by show _=_; kernel_rfl) (by exact ⟨⟨by kernel_rfl,by kernel_rfl⟩,trivial⟩) a w hm)))))))
          · have h:=cond_ff hc h
            refine T_skip fun a w hm=>then_norm (((?_:T Tryd.prog e 80 _ _ _) a w hm))
            obtain ⟨hp2,h⟩:=chk_ok h
            obtain ⟨y2,hy2,h⟩:=call_ok h
            refine T_reg [(3,{ rw:=some (.d (.sl 1 (((a0.f0.drop (0:Int).toNat).take (v1.toNat - (0:Int).toNat)).map cS))) }),(5,{ res:=.d (.v (.bool y2)) })] [1,26,27,28,41,1000000] [(41,.d (.v (.bool y2)))] [(3,(0≤(0:Int)∧(0:Int)≤v1∧v1≤((a0.f0.map cS).length:Int))∧AV.d (.sl 1 (((a0.f0.map cS).drop (0:Int).toNat).take (v1.toNat - (0:Int).toNat)))=.d (.sl 1 (((a0.f0.drop (0:Int).toNat).take (v1.toNat - (0:Int).toNat)).map cS))),(1,ACall Tryd.prog 31 [.d (.sl 1 (((a0.f0.drop (0:Int).toNat).take (v1.toNat - (0:Int).toNat)).map cS)),.d (.str (a0.f0.getD v1.toNat []))] [] (.d (.v (.bool y2))) [])] 0 (by kernel_rfl) (⟨cutH cS hp2,slices_Contains_string_ok hy2⟩) ?_
            refine T_cond y2 (by kernel_rfl) (fun hc=>?_) (fun hc=>?_)
            · have h:=cond_tt hc h
              refine T_reg [] [2,3,1000000] [(2,.d (.str [])),(3,.d (.v (.int .i64 (7:Int))))] [] 2 (by kernel_rfl) (trivial) ?_
              obtain hs:=Option.some.inj h; subst hs
              have h:=callE_esc hk1
              obtain hs:=Option.some.inj h; subst hs
              refine T_ret fun a w hm=>inBlock_ret (then_ret (then_ret (inBlock_ret (then_ret (then_ret (T_return (fr':=[(2,.d (.str [])),(3,.d (.v (.int .i64 (7:Int)))),(1000000,.glo 0 ([gm0].flatMap (cI .i64)))]) [2,3] (by kernel_rfl) [.keep [2,3,1000000]] (by kernel_rfl) (by kernel_rfl) (by kernel_rfl) (by show _=_; kernel_rfl) (by exact ⟨⟨by kernel_rfl,by kernel_rfl⟩,trivial⟩) a w hm))))))
            · have h:=cond_ff hc h
              refine T_skip fun a w hm=>inBlock_norm (then_norm (((?_:T Tryd.prog e 80 _ _ _) a w hm)))
              refine T_reg_end [] [1,26,27,28,1000000] [(28,.d (.v (.int .i64 (IntKind.i64.wrap (v1+(1:Int))))))] [] 2 (by kernel_rfl) (trivial) fun a w hm=>then_norm (⟨IntKind.i64.wrap (v1+(1:Int)),h,hm.co (cs:=[.keep [1,26,27,28,1000000]]) (by show _=_; kernel_rfl)⟩)
        · have h:=cond_ff hc h
          obtain hs:=Option.some.inj h; subst hs
          refine T_exit fun a w hm=>then_exit (then_exit (inBlock_exit (then_norm (⟨_,rfl,hm.co (cs:=[.keep [1,1000000]]) (by show _=_; kernel_rfl)⟩))))
      · skip
        refine fun a w hm=>then_norm (((?_:T Tryd.prog e 80 _ _ _) a w hm))
        refine T_reg [(0,{ slfs:=[(0,0)] })] [1,6,1000000] [(6,.box [.slf 0 48,.own 5 1 ([].map cU)])] [] 1 (by kernel_rfl) (trivial) ?_
        obtain ⟨hp3,h⟩:=chk_ok h
        obtain ⟨hp4,h⟩:=chk_ok h
        obtain ⟨y8,hy3,h⟩:=call_ok h
        refine T_reg [(2,{ res:=.d (.str (Lib.join a0.f0 ([44]:List UInt8))) }),(4,{ res:=.tup [.d (.v (.int .i64 y8.1)),.d (.v .nilIface)],vout:=[.box [.slf 0 48,.own 5 1 (y8.2.2.map cU)]],xs:=[6] })] [1,6,1000000] [(6,.box [.slf 0 48,.own 5 1 (y8.2.2.map cU)])] [(2,ACall Tryd.prog 33 [.d (.sl 1 (a0.f0.map cS)),.d (.str ([44]:List UInt8))] [] (.d (.str (Lib.join a0.f0 ([44]:List UInt8)))) []),(0,(Lib.join a0.f0 ([44]:List UInt8)).length+([10]:List UInt8).length≤9223372036854775807),(0,ACall Tryd.prog 32 [.bp 1000000 0,.d (.str ((Lib.join a0.f0 ([44]:List UInt8))++([10]:List UInt8)))] [.box [.slf 0 48,.own 5 1 ([].map cU)]] (.tup [.d (.v (.int .i64 y8.1)),.d (.v .nilIface)]) [.box [.slf 0 48,.own 5 1 (y8.2.2.map cU)]])] 0 (by kernel_rfl) (⟨b_Join hp3,hp4,strings_Builder_WriteString_ok hy3⟩) ?_
        refine T_seqk ?_
        refine T_reg [(2,{ rw:=some (.d (.v (.int .i64 (a0.f1.length:Int)))) })] [1,6,49,50,51,1000000] [(49,.d (.sl 1 (a0.f1.map (cL 1 cS)))),(50,.d (.v (.int .i64 (a0.f1.length:Int)))),(51,.d (.v (.int .i64 (0:Int))))] [(2,True∧AV.d (.v (.int .i64 ((a0.f1.map (cL 1 cS)).length:Int)))=.d (.v (.int .i64 (a0.f1.length:Int))))] 1 (by kernel_rfl) (len_ok (cL 1 cS)) ?_
        refine T_joinEt h (fun (p:(List UInt8))=>[(6,.box [.slf 0 48,.own 5 1 (p.map cU)]),(1000000,.glo 0 ([gm0].flatMap (cI .i64)))]) (fun s h hk2=>?_) (fun v8 h=>?_)
        · refine T_co [.keep [1,6,49,50,51,1000000]] ((fun (p:(List UInt8)×Int)=>[(1,.box [.d (.sl 1 (a0.f0.map cS)),.d (.sl 1 (a0.f1.map (cL 1 cS)))]),(6,.box [.slf 0 48,.own 5 1 (p.1.map cU)]),(49,.d (.sl 1 (a0.f1.map (cL 1 cS)))),(50,.d (.v (.int .i64 (a0.f1.length:Int)))),(51,.d (.v (.int .i64 p.2))),(1000000,.glo 0 ([gm0].flatMap (cI .i64)))]) (y8.2.2,(0:Int))) (by show _=_; kernel_rfl) ?_
          refine T_block ?_
          refine T_loopF (ι:=(List UInt8)×Int) (fun (p:(List UInt8)×Int)=>[(1,.box [.d (.sl 1 (a0.f0.map cS)),.d (.sl 1 (a0.f1.map (cL 1 cS)))]),(6,.box [.slf 0 48,.own 5 1 (p.1.map cU)]),(49,.d (.sl 1 (a0.f1.map (cL 1 cS)))),(50,.d (.v (.int .i64 (a0.f1.length:Int)))),(51,.d (.v (.int .i64 p.2))),(1000000,.glo 0 ([gm0].flatMap (cI .i64)))]) (fun n p=>vary_Print_L2 F a0 n p.1 p.2=some s) (fun i hh=>by simp [vary_Print_L2] at hh) (fun n p h=>?_) F (y8.2.2,(0:Int)) h
          obtain ⟨v6,v2⟩:=p
          have h:vary_Print_L2 F a0 (n+1) v6 v2=some s:=h
          rw [vary_Print_L2] at h
          refine T_reg [] [1,6,49,50,51,52,1000000] [(52,.d (.v (.bool (decide (v2 < (a0.f1.length:Int))))))] [] 1 (by kernel_rfl) (trivial) ?_
          refine T_seqk ?_
          refine T_cond (decide (v2 < (a0.f1.length:Int))) (by kernel_rfl) (fun hc=>?_) (fun hc=>?_)
          · have h:=cond_tt hc h
            refine T_skip fun a w hm=>then_norm (((?_:T Tryd.prog e 80 _ _ _) a w hm))
            refine T_seqk ?_
            refine T_block ?_
            obtain ⟨hp5,h⟩:=chk_ok h
            refine T_reg [(0,{ cs:=(cL 1 cS) (a0.f1.getD v2.toNat []) })] [1,6,8,49,50,51,1000000] [(8,.d (.sl 1 ((a0.f1.getD v2.toNat []).map cS)))] [(0,0≤v2∧(a0.f1.map (cL 1 cS))[v2.toNat]? = some ((cL 1 cS) (a0.f1.getD v2.toNat [])))] 2 (by kernel_rfl) (idx_ok (d:=[]) (cL 1 cS) hp5) ?_
            refine T_seqk ?_
            refine T_reg [(1,{ rw:=some (.d (.v (.int .i64 ((a0.f1.getD v2.toNat []).length:Int)))) }),(4,{ rw:=some (.d (.v (.int .i64 (a0.f0.length:Int)))) })] [1,6,8,49,50,51,60,1000000] [(60,.d (.v (.bool (((a0.f1.getD v2.toNat []).length:Int) != (a0.f0.length:Int)))))] [(1,True∧AV.d (.v (.int .i64 (((a0.f1.getD v2.toNat []).map cS).length:Int)))=.d (.v (.int .i64 ((a0.f1.getD v2.toNat []).length:Int)))),(2,True∧AV.d (.v (.int .i64 ((a0.f0.map cS).length:Int)))=.d (.v (.int .i64 (a0.f0.length:Int))))] 1 (by kernel_rfl) (⟨len_ok cS,len_ok cS⟩) ?_
            refine T_cond (((a0.f1.getD v2.toNat []).length:Int) != (a0.f0.length:Int)) (by kernel_rfl) (fun hc=>?_) (fun hc=>?_)
            · have h:=cond_tt hc h
              refine T_reg [] [2,3,1000000] [(2,.d (.str [])),(3,.d (.v (.int .i64 (4:Int))))] [] 2 (by kernel_rfl) (trivial) ?_
              obtain hs:=Option.some.inj h; subst hs
              have h:=callE_esc hk2
              obtain hs:=Option.some.inj h; subst hs
              refine T_ret fun a w hm=>then_ret (inBlock_ret (then_ret (then_ret (inBlock_ret (then_ret (then_ret (T_return (fr':=[(2,.d (.str [])),(3,.d (.v (.int .i64 (4:Int)))),(1000000,.glo 0 ([gm0].flatMap (cI .i64)))]) [2,3] (by kernel_rfl) [.keep [2,3,1000000]] (by kernel_rfl) (by kernel_rfl) (by kernel_rfl) (by show _=_; kernel_rfl) (by exact ⟨⟨by kernel_rfl,by kernel_rfl⟩,trivial⟩) a w hm)))))))
            · have h:=cond_ff hc h
              refine T_skip fun a w hm=>then_norm (((?_:T Tryd.prog e 80 _ _ _) a w hm))
              refine T_seqk ?_
              refine T_reg [(1,{ rw:=some (.d (.v (.int .i64 ((a0.f1.getD v2.toNat []).length:Int)))) })] [1,6,49,50,51,61,62,63,1000000] [(61,.d (.sl 1 ((a0.f1.getD v2.toNat []).map cS))),(62,.d (.v (.int .i64 ((a0.f1.getD v2.toNat []).length:Int)))),(63,.d (.v (.int .i64 (0:Int))))] [(1,True∧AV.d (.v (.int .i64 (((a0.f1.getD v2.toNat []).map cS).length:Int)))=.d (.v (.int .i64 ((a0.f1.getD v2.toNat []).length:Int))))] 1 (by kernel_rfl) (len_ok cS) ?_
              refine T_joinct h (fun (p:(List UInt8))=>[(1,.box [.d (.sl 1 (a0.f0.map cS)),.d (.sl 1 (a0.f1.map (cL 1 cS)))]),(6,.box [.slf 0 48,.own 5 1 (p.map cU)]),(49,.d (.sl 1 (a0.f1.map (cL 1 cS)))),(50,.d (.v (.int .i64 (a0.f1.length:Int)))),(51,.d (.v (.int .i64 v2))),(1000000,.glo 0 ([gm0].flatMap (cI .i64)))]) (fun s h=>?_) (fun v7 h=>?_)
              · refine T_co [.keep [1,6,49,50,51,61,62,63,1000000]] ((fun (p:(List UInt8)×Int)=>[(1,.box [.d (.sl 1 (a0.f0.map cS)),.d (.sl 1 (a0.f1.map (cL 1 cS)))]),(6,.box [.slf 0 48,.own 5 1 (p.1.map cU)]),(49,.d (.sl 1 (a0.f1.map (cL 1 cS)))),(50,.d (.v (.int .i64 (a0.f1.length:Int)))),(51,.d (.v (.int .i64 v2))),(61,.d (.sl 1 ((a0.f1.getD v2.toNat []).map cS))),(62,.d (.v (.int .i64 ((a0.f1.getD v2.toNat []).length:Int)))),(63,.d (.v (.int .i64 p.2))),(1000000,.glo 0 ([gm0].flatMap (cI .i64)))]) (v6,(0:Int))) (by show _=_; kernel_rfl) ?_
                refine T_block ?_
                refine T_loopF (ι:=(List UInt8)×Int) (fun (p:(List UInt8)×Int)=>[(1,.box [.d (.sl 1 (a0.f0.map cS)),.d (.sl 1 (a0.f1.map (cL 1 cS)))]),(6,.box [.slf 0 48,.own 5 1 (p.1.map cU)]),(49,.d (.sl 1 (a0.f1.map (cL 1 cS)))),(50,.d (.v (.int .i64 (a0.f1.length:Int)))),(51,.d (.v (.int .i64 v2))),(61,.d (.sl 1 ((a0.f1.getD v2.toNat []).map cS))),(62,.d (.v (.int .i64 ((a0.f1.getD v2.toNat []).length:Int)))),(63,.d (.v (.int .i64 p.2))),(1000000,.glo 0 ([gm0].flatMap (cI .i64)))]) (fun n p=>vary_Print_L4 F a0 v2 n p.1 p.2=some s) (fun i hh=>by simp [vary_Print_L4] at hh) (fun n p h=>?_) F (v6,(0:Int)) h
                obtain ⟨v3,v4⟩:=p
                have h:vary_Print_L4 F a0 v2 (n+1) v3 v4=some s:=h
                rw [vary_Print_L4] at h
                refine T_reg [] [1,6,49,50,51,61,62,63,64,1000000] [(64,.d (.v (.bool (decide (v4 < ((a0.f1.getD v2.toNat []).length:Int))))))] [] 1 (by kernel_rfl) (trivial) ?_
                refine T_seqk ?_
                refine T_cond (decide (v4 < ((a0.f1.getD v2.toNat []).length:Int))) (by kernel_rfl) (fun hc=>?_) (fun hc=>?_)
                · have h:=cond_tt hc h
                  refine T_skip fun a w hm=>then_norm (((?_:T Tryd.prog e 80 _ _ _) a w hm))
                  refine T_seqk ?_
                  refine T_block ?_
                  obtain ⟨hp6,h⟩:=chk_ok h
                  refine T_reg [(1,{ cs:=cS ((a0.f1.getD v2.toNat []).getD v4.toNat []) })] [1,6,9,10,49,50,51,61,62,63,1000000] [(9,.d (.v (.int .i64 v4))),(10,.d (.str ((a0.f1.getD v2.toNat []).getD v4.toNat [])))] [(1,0≤v4∧((a0.f1.getD v2.toNat []).map cS)[v4.toNat]? = some (cS ((a0.f1.getD v2.toNat []).getD v4.toNat [])))] 3 (by kernel_rfl) (idx_ok (d:=[]) cS hp6) ?_
                  refine T_joinc h (fun (p:(List UInt8))=>[(1,.box [.d (.sl 1 (a0.f0.map cS)),.d (.sl 1 (a0.f1.map (cL 1 cS)))]),(6,.box [.slf 0 48,.own 5 1 (p.map cU)]),(10,.d (.str ((a0.f1.getD v2.toNat []).getD v4.toNat []))),(49,.d (.sl 1 (a0.f1.map (cL 1 cS)))),(50,.d (.v (.int .i64 (a0.f1.length:Int)))),(51,.d (.v (.int .i64 v2))),(61,.d (.sl 1 ((a0.f1.getD v2.toNat []).map cS))),(62,.d (.v (.int .i64 ((a0.f1.getD v2.toNat []).length:Int)))),(63,.d (.v (.int .i64 v4))),(1000000,.glo 0 ([gm0].flatMap (cI .i64)))]) (fun s h=>?_) (fun v5 h=>?_)
                  · refine T_reg [] [1,6,10,49,50,51,61,62,63,69,1000000] [(69,.d (.v (.bool (decide (v4 > (0:Int))))))] [] 2 (by kernel_rfl) (trivial) ?_
                    refine T_cond (decide (v4 > (0:Int))) (by kernel_rfl) (fun hc=>?_) (fun hc=>?_)
                    · have h:=cond_tt hc h
                      obtain ⟨y3,hy4,h⟩:=call_ok h
                      obtain hs:=Option.some.inj h; subst hs
                      refine T_reg_end [(0,{ res:=.d (.v .nilIface),vout:=[.box [.slf 0 48,.own 5 1 (y3.2.map cU)]],xs:=[6] })] [1,6,10,49,50,51,61,62,63,1000000] [(6,.box [.slf 0 48,.own 5 1 (y3.2.map cU)])] [(0,ACall Tryd.prog 29 [.bp 1000000 0,.d (.v (.int .u8 (44:Int)))] [.box [.slf 0 48,.own 5 1 (v3.map cU)]] (.d (.v .nilIface)) [.box [.slf 0 48,.own 5 1 (y3.2.map cU)]])] 0 (by kernel_rfl) (strings_Builder_WriteByte_ok hy4) fun a w hm=>then_norm (hm.co (cs:=[.keep [1,6,10,49,50,51,61,62,63,1000000]]) (by show _=_; kernel_rfl))
                    · have h:=cond_ff hc h
                      obtain hs:=Option.some.inj h; subst hs
                      refine T_skip fun a w hm=>then_norm (hm.co (cs:=[.keep [1,6,10,49,50,51,61,62,63,1000000]]) (by show _=_; kernel_rfl))
                  · skip
                    obtain ⟨y4,hy5,h⟩:=call_ok h
                    obtain ⟨y5,hy6,h⟩:=call_ok h
                    refine T_reg_end [(1,{ res:=.d (.str y4),vout:=[.glo 0 ([gm0].flatMap (cI .i64))],xs:=[1000000] }),(2,{ res:=.tup [.d (.v (.int .i64 y5.1)),.d (.v .nilIface)],vout:=[.box [.slf 0 48,.own 5 1 (y5.2.2.map cU)]],xs:=[6] })] [1,6,49,50,51,61,62,63,1000000] [(6,.box [.slf 0 48,.own 5 1 (y5.2.2.map cU)])] [(1,ACall Tryd.prog 34 [.d (.str ((a0.f1.getD v2.toNat []).getD v4.toNat []))] [.glo 0 ([gm0].flatMap (cI .i64))] (.d (.str y4)) [.glo 0 ([gm0].flatMap (cI .i64))]),(0,ACall Tryd.prog 32 [.bp 1000000 0,.d (.str y4)] [.box [.slf 0 48,.own 5 1 (v5.map cU)]] (.tup [.d (.v (.int .i64 y5.1)),.d (.v .nilIface)]) [.box [.slf 0 48,.own 5 1 (y5.2.2.map cU)]])] 0 (by kernel_rfl) (⟨vary_quoted_ok hy5,strings_Builder_WriteString_ok hy6⟩) fun a w hm=>inBlock_norm (then_norm (((?_:T Tryd.prog e 80 _ _ _) a w hm)))
                    refine T_reg_end [] [1,6,49,50,51,61,62,63,1000000] [(63,.d (.v (.int .i64 (IntKind.i64.wrap (v4+(1:Int))))))] [] 2 (by kernel_rfl) (trivial) fun a w hm=>then_norm (⟨(y5.2.2,IntKind.i64.wrap (v4+(1:Int))),h,hm.co (cs:=[.keep [1,6,49,50,51,61,62,63,1000000]]) (by show _=_; kernel_rfl)⟩)
                · have h:=cond_ff hc h
                  obtain hs:=Option.some.inj h; subst hs
                  refine T_exit fun a w hm=>then_exit (then_exit (inBlock_exit (then_norm (hm.co (cs:=[.keep [1,6,49,50,51,1000000]]) (by show _=_; kernel_rfl)))))
              · skip
                refine fun a w hm=>then_norm (((?_:T Tryd.prog e 80 _ _ _) a w hm))
                obtain ⟨y6,hy7,h⟩:=call_ok h
                refine T_reg [(0,{ res:=.d (.v .nilIface),vout:=[.box [.slf 0 48,.own 5 1 (y6.2.map cU)]],xs:=[6] })] [1,6,49,50,51,1000000] [(6,.box [.slf 0 48,.own 5 1 (y6.2.map cU)])] [(0,ACall Tryd.prog 29 [.bp 1000000 0,.d (.v (.int .u8 (10:Int)))] [.box [.slf 0 48,.own 5 1 (v7.map cU)]] (.d (.v .nilIface)) [.box [.slf 0 48,.own 5 1 (y6.2.map cU)]])] 0 (by kernel_rfl) (strings_Builder_WriteByte_ok hy7) ?_
                obtain ⟨y7,hy8,h⟩:=call_ok h
                refine T_reg [(0,{ res:=.d (.v (.int .i64 y7.1)),vout:=[.box [.slf 0 48,.own 5 1 (y7.2.map cU)]],xs:=[6] })] [1,6,49,50,51,77,1000000] [(6,.box [.slf 0 48,.own 5 1 (y7.2.map cU)]),(77,.d (.v (.bool (decide (y7.1 > (8192:Int))))))] [(0,ACall Tryd.prog 20 [.bp 1000000 0] [.box [.slf 0 48,.own 5 1 (y6.2.map cU)]] (.d (.v (.int .i64 y7.1))) [.box [.slf 0 48,.own 5 1 (y7.2.map cU)]])] 1 (by kernel_rfl) (strings_Builder_Len_ok hy8) ?_
                refine T_cond (decide (y7.1 > (8192:Int))) (by kernel_rfl) (fun hc=>?_) (fun hc=>?_)
                · have h:=cond_tt hc h
                  refine T_reg [] [2,3,1000000] [(2,.d (.str [])),(3,.d (.v (.int .i64 (2:Int))))] [] 2 (by kernel_rfl) (trivial) ?_
                  obtain hs:=Option.some.inj h; subst hs
                  have h:=callE_esc hk2
                  obtain hs:=Option.some.inj h; subst hs
                  refine T_ret fun a w hm=>inBlock_ret (then_ret (then_ret (inBlock_ret (then_ret (then_ret (T_return (fr':=[(2,.d (.str [])),(3,.d (.v (.int .i64 (2:Int)))),(1000000,.glo 0 ([gm0].flatMap (cI .i64)))]) [2,3] (by kernel_rfl) [.keep [2,3,1000000]] (by kernel_rfl) (by kernel_rfl) (by kernel_rfl) (by show _=_; kernel_rfl) (by exact ⟨⟨by kernel_rfl,by kernel_rfl⟩,trivial⟩) a w hm))))))
                · have h:=cond_ff hc h
                  refine T_skip fun a w hm=>inBlock_norm (then_norm (((?_:T Tryd.prog e 80 _ _ _) a w hm)))
                  refine T_reg_end [] [1,6,49,50,51,1000000] [(51,.d (.v (.int .i64 (IntKind.i64.wrap (v2+(1:Int))))))] [] 2 (by kernel_rfl) (trivial) fun a w hm=>then_norm (⟨(y7.2,IntKind.i64.wrap (v2+(1:Int))),h,hm.co (cs:=[.keep [1,6,49,50,51,1000000]]) (by show _=_; kernel_rfl)⟩)
          · have h:=cond_ff hc h
            obtain hs:=Option.some.inj h; subst hs
            refine T_exit fun a w hm=>then_exit (then_exit (inBlock_exit (then_norm (⟨_,rfl,hm.co (cs:=[.keep [6,1000000]]) (by show _=_; kernel_rfl)⟩))))
        · skip
          refine fun a w hm=>then_norm (((?_:T Tryd.prog e 80 _ _ _) a w hm))
          obtain ⟨hp7,h⟩:=chk_ok h
          refine T_reg [(0,{ xs:=[6],vout:=[.box [.slf 0 48,.junk]],res:=.d (.str v8) })] [2,3,1000000] [(2,.d (.str v8)),(3,.d (.v (.int .i64 (0:Int))))] [(0,ACall Tryd.prog 21 [.bp 1000000 0] [.box [.slf 0 48,.own 5 1 (v8.map cU)]] (.d (.str v8)) [.box [.slf 0 48,.junk]])] 2 (by kernel_rfl) (b_String (l:=v8) hp7 (by kernel_rfl) (by kernel_rfl)) ?_
          obtain hs:=Option.some.inj h; subst hs
          refine T_ret fun a w hm=>T_return (fr':=[(2,.d (.str v8)),(3,.d (.v (.int .i64 (0:Int)))),(1000000,.glo 0 ([gm0].flatMap (cI .i64)))]) [2,3] (by kernel_rfl) [.keep [2,3,1000000]] (by kernel_rfl) (by kernel_rfl) (by kernel_rfl) (by show _=_; kernel_rfl) (by exact ⟨⟨by kernel_rfl,by kernel_rfl⟩,trivial⟩) a w hm
theorem vary_Check_ok {F:Nat} {a0:S_VaryTable} {r:Int} (h:vary_Check F a0=some r):ACall Tryd.prog 17 [.agg (cS_VaryTable a0)] [.glo 0 ([gm0].flatMap (cI .i64))] (.d (.v (.int .i64 r))) [.glo 0 ([gm0].flatMap (cI .i64))]:=by
  rw [vary_Check] at h
  refine ACall.intro (N:=11) Tryd.func17 rfl rfl rfl rfl rfl fun e=>?_
  refine T_reg [] [1,1000000] [(1,.box [.d (.sl 1 (a0.f0.map cS)),.d (.sl 1 (a0.f1.map (cL 1 cS)))])] [] 2 (by kernel_rfl) (trivial) ?_
  obtain ⟨y1,hy1,h⟩:=call_ok h
  refine T_reg [(1,{ res:=.tup [.d (.str y1.1),.d (.v (.int .i64 y1.2))],vout:=[.glo 0 ([gm0].flatMap (cI .i64))],xs:=[1000000] })] [4,1000000] [(4,.d (.v (.int .i64 y1.2)))] [(1,ACall Tryd.prog 24 [.agg (cS_VaryTable a0)] [.glo 0 ([gm0].flatMap (cI .i64))] (.tup [.d (.str y1.1),.d (.v (.int .i64 y1.2))]) [.glo 0 ([gm0].flatMap (cI .i64))])] 5 (by kernel_rfl) (vary_Print_ok hy1) ?_
  refine T_reg [] [2,1000000] [(2,.d (.v (.int .i64 y1.2)))] [] 2 (by kernel_rfl) (trivial) ?_
  obtain hs:=Option.some.inj h; subst hs
  refine T_ret fun a w hm=>T_return (fr':=[(2,.d (.v (.int .i64 y1.2))),(1000000,.glo 0 ([gm0].flatMap (cI .i64)))]) [2] (by kernel_rfl) [.keep [2,1000000]] (by kernel_rfl) (by kernel_rfl) (by kernel_rfl) (by show _=_; kernel_rfl) (by exact ⟨⟨by kernel_rfl,by kernel_rfl⟩,trivial⟩) a w hm
theorem internal_stringslite_HasPrefix_ok {F:Nat} {a0:List UInt8} {a1:List UInt8} {r:Bool} (h:internal_stringslite_HasPrefix F a0 a1=some r):ACall Tryd.prog 39 [.d (.str a0),.d (.str a1)] [] (.d (.v (.bool r))) []:=by
  rw [internal_stringslite_HasPrefix] at h
  refine ACall.intro (N:=18) Tryd.func39 rfl rfl rfl rfl rfl fun e=>?_
  refine T_reg [] [0,1] [] [] 1 (by kernel_rfl) (trivial) ?_
  obtain ⟨hp1,h⟩:=chk_ok h
  obtain ⟨z1,hz1,h⟩:=lett_ok h
  refine T_reg [(12,{ rw:=some (.d (.v (.bool z1))) })] [4] [(4,.d (.v (.bool z1)))] [(6,((((decide ((a0.length:Int) ≥ (a1.length:Int))) == true) && true)=true→True)),(0,((((decide ((a0.length:Int) ≥ (a1.length:Int))) == true) && true)=true→True)),(0,((((decide ((a0.length:Int) ≥ (a1.length:Int))) == true) && true)=true→True)),(0,((((decide ((a0.length:Int) ≥ (a1.length:Int))) == true) && true)=true→0≤(0:Int)∧(0:Int)≤(a1.length:Int)∧(a1.length:Int)≤(a0.length:Int))),(0,((((decide ((a0.length:Int) ≥ (a1.length:Int))) == true) && true)=true→True)),(0,((((decide ((a0.length:Int) ≥ (a1.length:Int))) == true) && true)=true→True)),(0,(True)∧AV.d (.v (.bool (bif (decide ((a0.length:Int) ≥ (a1.length:Int))) then (((a0.drop (0:Int).toNat).take ((a1.length:Int).toNat - (0:Int).toNat)) == a1) else false)))=.d (.v (.bool z1)))] 1 (by kernel_rfl) (⟨(fun hg=>trivial),(fun hg=>trivial),(fun hg=>trivial),(fun hg=>(hp1 hg)),(fun hg=>trivial),(fun hg=>trivial),⟨trivial,(by subst hz1; rfl)⟩⟩) ?_
  obtain hs:=Option.some.inj h; subst hs
  refine T_ret fun a w hm=>T_return (fr':=[(4,.d (.v (.bool z1)))]) [4] (by kernel_rfl) [.keep [4]] (by kernel_rfl) (by kernel_rfl) (by kernel_rfl) (by show _=_; kernel_rfl) (by exact trivial) a w hm
theorem strings_HasPrefix_ok {F:Nat} {a0:List UInt8} {a1:List UInt8} {r:Bool} (h:strings_HasPrefix F a0 a1=some r):ACall Tryd.prog 27 [.d (.str a0),.d (.str a1)] [] (.d (.v (.bool r))) []:=by
  rw [strings_HasPrefix] at h
  refine ACall.intro (N:=8) Tryd.func27 rfl rfl rfl rfl rfl fun e=>?_
  refine T_reg [] [0,1] [] [] 1 (by kernel_rfl) (trivial) ?_
  obtain ⟨y1,hy1,h⟩:=call_ok h
  refine T_reg [(2,{ res:=.d (.v (.bool y1)) })] [4] [(4,.d (.v (.bool y1)))] [(2,ACall Tryd.prog 39 [.d (.str a0),.d (.str a1)] [] (.d (.v (.bool y1))) [])] 1 (by kernel_rfl) (internal_stringslite_HasPrefix_ok hy1) ?_
  obtain hs:=Option.some.inj h; subst hs
  refine T_ret fun a w hm=>T_return (fr':=[(4,.d (.v (.bool y1)))]) [4] (by kernel_rfl) [.keep [4]] (by kernel_rfl) (by kernel_rfl) (by kernel_rfl) (by show _=_; kernel_rfl) (by exact trivial) a w hm
theorem ref3_digit_ok {F:Nat} {a0:Int} {r:Bool} (h:ref3_digit F a0=some r):ACall Tryd.prog 18 [.d (.v (.int .u8 a0))] [] (.d (.v (.bool r))) []:=by
  rw [ref3_digit] at h
  refine ACall.intro (N:=9) Tryd.func18 rfl rfl rfl rfl rfl fun e=>?_
  refine T_reg [] [0] [] [] 1 (by kernel_rfl) (trivial) ?_
  refine T_reg [] [2] [(2,.d (.v (.bool (bif (decide (a0 ≥ (48:Int))) then (decide (a0≤(57:Int))) else false))))] [(3,((((decide (a0 ≥ (48:Int))) == true) && true)=true→True)),(0,((((decide (a0 ≥ (48:Int))) == true) && true)=true→True))] 2 (by kernel_rfl) (⟨(fun hg=>trivial),(fun hg=>trivial)⟩) ?_
  obtain hs:=Option.some.inj h; subst hs
  refine T_ret fun a w hm=>T_return (fr':=[(2,.d (.v (.bool (bif (decide (a0 ≥ (48:Int))) then (decide (a0≤(57:Int))) else false))))]) [2] (by kernel_rfl) [.keep [2]] (by kernel_rfl) (by kernel_rfl) (by kernel_rfl) (by show _=_; kernel_rfl) (by exact trivial) a w hm
theorem vary_value_ok {F:Nat} {a0:List UInt8} {r:(List UInt8)×Int×(List UInt8)×Bool} (h:vary_value F a0=some r):ACall Tryd.prog 23 [.d (.str a0)] [] (.tup [.d (.str r.1),.d (.v (.int .u8 r.2.1)),.d (.str r.2.2.1),.d (.v (.bool r.2.2.2))]) []:=by
  rw [vary_value] at h
  refine ACall.intro (N:=79) Tryd.func23 rfl rfl rfl rfl rfl fun e=>?_
  refine T_reg [] [0] [] [] 4 (by kernel_rfl) (trivial) ?_
  refine T_seqk ?_
  obtain ⟨y3,hy1,h⟩:=call_ok h
  refine T_reg [(1,{ res:=.d (.v (.bool y3)) })] [0,11] [(11,.d (.v (.bool (!y3))))] [(1,ACall Tryd.prog 27 [.d (.str a0),.d (.str ([34]:List UInt8))] [] (.d (.v (.bool y3))) [])] 1 (by kernel_rfl) (strings_HasPrefix_ok hy1) ?_
  refine T_cond (!y3) (by kernel_rfl) (fun hc=>?_) (fun hc=>?_)
  · have h:=cond_tt hc h
    obtain ⟨hp1,h⟩:=chk_ok h
    refine T_reg [(1,{ res:=.d (.v (.int .i64 (Lib.indexAny a0 ([44,34,10]:List UInt8)))) })] [0,6] [(6,.d (.v (.int .i64 (Lib.indexAny a0 ([44,34,10]:List UInt8)))))] [(1,ACall Tryd.prog 25 [.d (.str a0),.d (.str ([44,34,10]:List UInt8))] [] (.d (.v (.int .i64 (Lib.indexAny a0 ([44,34,10]:List UInt8))))) [])] 1 (by kernel_rfl) (b_IndexAny hp1 (by decide)) ?_
    refine T_seqk ?_
    obtain ⟨hp2,h⟩:=chk_ok h
    obtain ⟨z3,hz1,h⟩:=lett_ok h
    refine T_reg [(7,{ rw:=some (.d (.v (.bool z3))) })] [0,6,21] [(21,.d (.v (.bool z3)))] [(3,((((decide ((Lib.indexAny a0 ([44,34,10]:List UInt8)) < (1:Int))) == false) && true)=true→True)),(0,((((decide ((Lib.indexAny a0 ([44,34,10]:List UInt8)) < (1:Int))) == false) && true)=true→True)),(0,((((decide ((Lib.indexAny a0 ([44,34,10]:List UInt8)) < (1:Int))) == false) && true)=true→0≤(Lib.indexAny a0 ([44,34,10]:List UInt8))∧(Lib.indexAny a0 ([44,34,10]:List UInt8)) < a0.length)),(0,((((decide ((Lib.indexAny a0 ([44,34,10]:List UInt8)) < (1:Int))) == false) && true)=true→True)),(0,(True)∧AV.d (.v (.bool (bif (decide ((Lib.indexAny a0 ([44,34,10]:List UInt8)) < (1:Int))) then true else (((a0.getD (Lib.indexAny a0 ([44,34,10]:List UInt8)).toNat 0).toNat:Int) == (34:Int)))))=.d (.v (.bool z3)))] 0 (by kernel_rfl) (⟨(fun hg=>trivial),(fun hg=>trivial),(fun hg=>(hp2 hg)),(fun hg=>trivial),⟨trivial,(by subst hz1; rfl)⟩⟩) ?_
    refine T_cond z3 (by kernel_rfl) (fun hc=>?_) (fun hc=>?_)
    · have h:=cond_tt hc h
      refine T_reg [] [2,3,4,5] [(2,.d (.str [])),(3,.d (.v (.int .u8 (0:Int)))),(4,.d (.str [])),(5,.d (.v (.bool false)))] [] 4 (by kernel_rfl) (trivial) ?_
      obtain hs:=Option.some.inj h; subst hs
      refine T_ret fun a w hm=>then_ret (then_ret (T_return (fr':=[(2,.d (.str [])),(3,.d (.v (.int .u8 (0:Int)))),(4,.d (.str [])),(5,.d (.v (.bool false)))]) [2,3,4,5] (by kernel_rfl) [.keep [2,3,4,5]] (by kernel_rfl) (by kernel_rfl) (by kernel_rfl) (by show _=_; kernel_rfl) (by exact trivial) a w hm))
    · have h:=cond_ff hc h
      refine T_skip fun a w hm=>then_norm (((?_:T Tryd.prog e 79 _ _ _) a w hm))
      obtain ⟨hp3,h⟩:=chk_ok h
      obtain ⟨z4,hz2,h⟩:=lett_ok h
      obtain ⟨hp4,h⟩:=chk_ok h
      obtain ⟨hp5,h⟩:=chk_ok h
      obtain ⟨z5,hz3,h⟩:=lett_ok h
      refine T_draw mixed [(2,{ rw:=some (.d (.str z4)) }),(9,{ rw:=some (.d (.str z5)) })] [2,3,4,5] [] [(2,.d (.str z4)),(3,.d (.v (.int .u8 ((a0.getD (Lib.indexAny a0 ([44,34,10]:List UInt8)).toNat 0).toNat:Int)))),(4,.d (.str z5)),(5,.d (.v (.bool true)))] [(2,(0≤(0:Int)∧(0:Int)≤(Lib.indexAny a0 ([44,34,10]:List UInt8))∧(Lib.indexAny a0 ([44,34,10]:List UInt8))≤(a0.length:Int))∧AV.d (.str ((a0.drop (0:Int).toNat).take ((Lib.indexAny a0 ([44,34,10]:List UInt8)).toNat - (0:Int).toNat)))=.d (.str z4)),(2,0≤(Lib.indexAny a0 ([44,34,10]:List UInt8))∧(Lib.indexAny a0 ([44,34,10]:List UInt8)) < a0.length),(3,(0≤(IntKind.i64.wrap ((Lib.indexAny a0 ([44,34,10]:List UInt8))+(1:Int)))∧(IntKind.i64.wrap ((Lib.indexAny a0 ([44,34,10]:List UInt8))+(1:Int)))≤(a0.length:Int)∧(a0.length:Int)≤(a0.length:Int))∧AV.d (.str ((a0.drop (IntKind.i64.wrap ((Lib.indexAny a0 ([44,34,10]:List UInt8))+(1:Int))).toNat).take ((a0.length:Int).toNat - (IntKind.i64.wrap ((Lib.indexAny a0 ([44,34,10]:List UInt8))+(1:Int))).toNat)))=.d (.str z5))] 4 (by kernel_rfl) (⟨⟨hp3,(by subst hz2; rfl)⟩,hp4,⟨hp5,(by subst hz3; rfl)⟩⟩) ?_
      obtain hs:=Option.some.inj h; subst hs
      refine T_ret fun a w hm=>then_ret (T_return (fr':=[(2,.d (.str z4)),(3,.d (.v (.int .u8 ((a0.getD (Lib.indexAny a0 ([44,34,10]:List UInt8)).toNat 0).toNat:Int)))),(4,.d (.str z5)),(5,.d (.v (.bool true)))]) [2,3,4,5] (by kernel_rfl) [.keep [2,3,4,5]] (by kernel_rfl) (by kernel_rfl) (by kernel_rfl) (by show _=_; kernel_rfl) (by exact trivial) a w hm)
  · have h:=cond_ff hc h
    refine T_skip fun a w hm=>then_norm (((?_:T Tryd.prog e 79 _ _ _) a w hm))
    refine T_reg [(0,{ slfs:=[(0,0)] })] [0,7] [(7,.box [.slf 0 48,.own 5 1 ([].map cU)])] [] 1 (by kernel_rfl) (trivial) ?_
    refine T_seqk ?_
    refine T_reg [] [0,7,8] [(8,.d (.v (.int .i64 (1:Int))))] [] 1 (by kernel_rfl) (trivial) ?_
    refine T_joinEt h (fun (p:Unit)=>[]) (fun s h hk1=>?_) (fun s h=>?_)
    · refine T_co [.keep [0,7,8]] ((fun (p:(List UInt8)×Int)=>[(0,.d (.str a0)),(7,.box [.slf 0 48,.own 5 1 (p.1.map cU)]),(8,.d (.v (.int .i64 p.2)))]) ([],(1:Int))) (by show _=_; kernel_rfl) ?_
      refine T_block ?_
      refine T_loopF (ι:=(List UInt8)×Int) (fun (p:(List UInt8)×Int)=>[(0,.d (.str a0)),(7,.box [.slf 0 48,.own 5 1 (p.1.map cU)]),(8,.d (.v (.int .i64 p.2)))]) (fun n p=>vary_value_L0 F a0 n p.1 p.2=some s) (fun i hh=>by simp [vary_value_L0] at hh) (fun n p h=>?_) F ([],(1:Int)) h
      obtain ⟨v1,v2⟩:=p
      have h:vary_value_L0 F a0 (n+1) v1 v2=some s:=h
      rw [vary_value_L0] at h
      refine T_seqk ?_
      refine T_reg [] [0,7,8,36] [(36,.d (.v (.bool (decide ((IntKind.i64.wrap (v2+(1:Int))) < (a0.length:Int))))))] [] 5 (by kernel_rfl) (trivial) ?_
      refine T_cond (decide ((IntKind.i64.wrap (v2+(1:Int))) < (a0.length:Int))) (by kernel_rfl) (fun hc=>?_) (fun hc=>?_)
      · have h:=cond_tt hc h
        refine T_skip fun a w hm=>then_norm (((?_:T Tryd.prog e 79 _ _ _) a w hm))
        refine T_joinE h (fun (p:(List UInt8)×Int)=>[(0,.d (.str a0)),(7,.box [.slf 0 48,.own 5 1 (p.1.map cU)]),(8,.d (.v (.int .i64 p.2)))]) (fun s h hk2=>?_) (fun s h=>?_)
        · refine T_block ?_
          refine T_block ?_
          obtain ⟨hp6,h⟩:=chk_ok h
          refine T_reg [] [0,7,8,39] [(39,.d (.v (.bool (((a0.getD v2.toNat 0).toNat:Int) != (34:Int)))))] [(2,0≤v2∧v2 < a0.length)] 2 (by kernel_rfl) (hp6) ?_
          refine T_cond (((a0.getD v2.toNat 0).toNat:Int) != (34:Int)) (by kernel_rfl) (fun hc=>?_) (fun hc=>?_)
          · have h:=cond_tt hc h
            obtain ⟨hp7,h⟩:=chk_ok h
            obtain ⟨y1,hy2,h⟩:=call_ok h
            obtain hs:=Option.some.inj h; subst hs
            refine T_reg_end [(3,{ res:=.d (.v .nilIface),vout:=[.box [.slf 0 48,.own 5 1 (y1.2.map cU)]],xs:=[7] })] [0,7,8] [(7,.box [.slf 0 48,.own 5 1 (y1.2.map cU)])] [(2,0≤v2∧v2 < a0.length),(0,ACall Tryd.prog 29 [.bp 1000000 0,.d (.v (.int .u8 ((a0.getD v2.toNat 0).toNat:Int)))] [.box [.slf 0 48,.own 5 1 (v1.map cU)]] (.d (.v .nilIface)) [.box [.slf 0 48,.own 5 1 (y1.2.map cU)]])] 0 (by kernel_rfl) (⟨hp7,strings_Builder_WriteByte_ok hy2⟩) fun a w hm=>inBlock_norm (inBlock_norm (then_norm (⟨_,rfl,hm.co (cs:=[.keep [0,7,8]]) (by show _=_; kernel_rfl)⟩)))
          · have h:=cond_ff hc h
            obtain ⟨hp8,h⟩:=chk_ok h
            refine T_reg [] [0,7,8,48] [(48,.d (.v (.bool (((a0.getD (IntKind.i64.wrap (v2+(1:Int))).toNat 0).toNat:Int) == (34:Int)))))] [(3,0≤(IntKind.i64.wrap (v2+(1:Int)))∧(IntKind.i64.wrap (v2+(1:Int))) < a0.length)] 2 (by kernel_rfl) (hp8) ?_
            refine T_cond (((a0.getD (IntKind.i64.wrap (v2+(1:Int))).toNat 0).toNat:Int) == (34:Int)) (by kernel_rfl) (fun hc=>?_) (fun hc=>?_)
            · have h:=cond_tt hc h
              obtain ⟨y2,hy3,h⟩:=call_ok h
              refine T_reg [(0,{ res:=.d (.v .nilIface),vout:=[.box [.slf 0 48,.own 5 1 (y2.2.map cU)]],xs:=[7] })] [0,7,8] [(7,.box [.slf 0 48,.own 5 1 (y2.2.map cU)])] [(0,ACall Tryd.prog 29 [.bp 1000000 0,.d (.v (.int .u8 (34:Int)))] [.box [.slf 0 48,.own 5 1 (v1.map cU)]] (.d (.v .nilIface)) [.box [.slf 0 48,.own 5 1 (y2.2.map cU)]])] 0 (by kernel_rfl) (strings_Builder_WriteByte_ok hy3) ?_
              obtain hs:=Option.some.inj h; subst hs
              refine T_reg_end [] [0,7,8] [(8,.d (.v (.int .i64 (IntKind.i64.wrap (v2+(1:Int))))))] [] 3 (by kernel_rfl) (trivial) fun a w hm=>inBlock_norm (inBlock_norm (then_norm (⟨_,rfl,hm.co (cs:=[.keep [0,7,8]]) (by show _=_; kernel_rfl)⟩)))
            · have h:=cond_ff hc h
              obtain ⟨hp9,h⟩:=chk_ok h
              obtain ⟨hp10,h⟩:=chk_ok h
              obtain ⟨z1,hz4,h⟩:=lett_ok h
              refine T_reg [(11,{ rw:=some (.d (.v (.bool z1))) })] [0,7,8,57] [(57,.d (.v (.bool z1)))] [(3,0≤(IntKind.i64.wrap (v2+(1:Int)))∧(IntKind.i64.wrap (v2+(1:Int))) < a0.length),(2,((((((a0.getD (IntKind.i64.wrap (v2+(1:Int))).toNat 0).toNat:Int) == (44:Int)) == false) && true)=true→True)),(0,((((((a0.getD (IntKind.i64.wrap (v2+(1:Int))).toNat 0).toNat:Int) == (44:Int)) == false) && true)=true→True)),(0,((((((a0.getD (IntKind.i64.wrap (v2+(1:Int))).toNat 0).toNat:Int) == (44:Int)) == false) && true)=true→True)),(0,((((((a0.getD (IntKind.i64.wrap (v2+(1:Int))).toNat 0).toNat:Int) == (44:Int)) == false) && true)=true→0≤(IntKind.i64.wrap (v2+(1:Int)))∧(IntKind.i64.wrap (v2+(1:Int))) < a0.length)),(0,((((((a0.getD (IntKind.i64.wrap (v2+(1:Int))).toNat 0).toNat:Int) == (44:Int)) == false) && true)=true→True)),(0,(True)∧AV.d (.v (.bool (bif (((a0.getD (IntKind.i64.wrap (v2+(1:Int))).toNat 0).toNat:Int) == (44:Int)) then true else (((a0.getD (IntKind.i64.wrap (v2+(1:Int))).toNat 0).toNat:Int) == (10:Int)))))=.d (.v (.bool z1)))] 1 (by kernel_rfl) (⟨hp9,(fun hg=>trivial),(fun hg=>trivial),(fun hg=>trivial),(fun hg=>(hp10 hg)),(fun hg=>trivial),⟨trivial,(by subst hz4; rfl)⟩⟩) ?_
              refine T_cond z1 (by kernel_rfl) (fun hc=>?_) (fun hc=>?_)
              · have h:=cond_tt hc h
                obtain ⟨hp11,h⟩:=chk_ok h
                obtain ⟨hp12,h⟩:=chk_ok h
                obtain ⟨hp13,h⟩:=chk_ok h
                obtain ⟨z2,hz5,h⟩:=lett_ok h
                refine T_drawX mixed 5 (.take 1 (.take 2 (.take 3 (.take 5 (.take 6 (.take 7 (.all (.alt 0 (.take 4 (.take 8 (.take 9 (.take 10 (.take 11 (.take 12 .done)))))) (.alt 4 (.all (.alt 0 (.take 8 (.take 9 (.take 10 (.take 11 (.take 12 .done))))) (.alt 8 (.all (.alt 0 (.take 9 (.take 10 (.take 11 (.take 12 .done)))) .stop)) .stop))) (.alt 8 (.all (.alt 0 (.take 4 (.take 9 (.take 10 (.take 11 (.take 12 .done))))) (.alt 4 (.all (.alt 0 (.take 9 (.take 10 (.take 11 (.take 12 .done)))) .stop)) .stop))) .stop)))))))))) ([0,0,0,4,10,0,0,64,160,1,543,2047,4095],[0,0,0,4,10,0,0,64,160,1,16,256,0]) 8190 [(0,{ xs:=[7],vout:=[.box [.slf 0 48,.junk]],res:=.d (.str v1) }),(8,{ rw:=some (.d (.str z2)) })] [2,3,4,5] [] [(2,.d (.str v1)),(3,.d (.v (.int .u8 ((a0.getD (IntKind.i64.wrap (v2+(1:Int))).toNat 0).toNat:Int)))),(4,.d (.str z2)),(5,.d (.v (.bool true)))] ((fun (o0:Prop)=>fun (o4:Prop)=>fun (o8:Prop)=>[(6,o0),(0,o4),(0,o8),(4,o4),(0,o0),(0,o8),(4,o8),(0,o0),(4,o8),(0,o0),(0,o4),(4,o4),(0,o0)]) (ACall Tryd.prog 21 [.bp 1000000 0] [.box [.slf 0 48,.own 5 1 (v1.map cU)]] (.d (.str v1)) [.box [.slf 0 48,.junk]]) (0≤(IntKind.i64.wrap (v2+(1:Int)))∧(IntKind.i64.wrap (v2+(1:Int))) < a0.length) ((0≤(IntKind.i64.wrap (v2+(2:Int)))∧(IntKind.i64.wrap (v2+(2:Int)))≤(a0.length:Int)∧(a0.length:Int)≤(a0.length:Int))∧AV.d (.str ((a0.drop (IntKind.i64.wrap (v2+(2:Int))).toNat).take ((a0.length:Int).toNat - (IntKind.i64.wrap (v2+(2:Int))).toNat)))=.d (.str z2))) 4 (by kernel_rfl) (by kernel_rfl) (by kernel_rfl) (have p0:=b_String (l:=v1) hp11 (by kernel_rfl) (by kernel_rfl); have p4:=hp12; have p8:=⟨hp13,(by subst hz5; rfl)⟩; ⟨p0,p4,p8,p4,p0,p8,p8,p0,p8,p0,p4,p4,p0⟩) ?_
                obtain hs:=Option.some.inj h; subst hs
                have h:=callE_esc hk2
                obtain hs:=Option.some.inj h; subst hs
                have h:=callE_esc hk1
                obtain hs:=Option.some.inj h; subst hs
                refine T_ret fun a w hm=>inBlock_ret (inBlock_ret (then_ret (then_ret (inBlock_ret (then_ret (then_ret (T_return (fr':=[(2,.d (.str v1)),(3,.d (.v (.int .u8 ((a0.getD (IntKind.i64.wrap (v2+(1:Int))).toNat 0).toNat:Int)))),(4,.d (.str z2)),(5,.d (.v (.bool true)))]) [2,3,4,5] (by kernel_rfl) [.keep [2,3,4,5]] (by kernel_rfl) (by kernel_rfl) (by kernel_rfl) (by show _=_; kernel_rfl) (by exact trivial) a w hm)))))))
              · have h:=cond_ff hc h
                refine T_reg [] [2,3,4,5] [(2,.d (.str [])),(3,.d (.v (.int .u8 (0:Int)))),(4,.d (.str [])),(5,.d (.v (.bool false)))] [] 4 (by kernel_rfl) (trivial) ?_
                obtain hs:=Option.some.inj h; subst hs
                have h:=callE_esc hk2
                obtain hs:=Option.some.inj h; subst hs
                have h:=callE_esc hk1
                obtain hs:=Option.some.inj h; subst hs
                refine T_ret fun a w hm=>inBlock_ret (inBlock_ret (then_ret (then_ret (inBlock_ret (then_ret (then_ret (T_return (fr':=[(2,.d (.str [])),(3,.d (.v (.int .u8 (0:Int)))),(4,.d (.str [])),(5,.d (.v (.bool false)))]) [2,3,4,5] (by kernel_rfl) [.keep [2,3,4,5]] (by kernel_rfl) (by kernel_rfl) (by kernel_rfl) (by show _=_; kernel_rfl) (by exact trivial) a w hm)))))))
        · obtain ⟨v3,v4⟩:=s
          try dsimp only at h
          refine T_reg_end [] [0,7,8] [(8,.d (.v (.int .i64 (IntKind.i64.wrap (v4+(1:Int))))))] [] 3 (by kernel_rfl) (trivial) fun a w hm=>then_norm (⟨(v3,IntKind.i64.wrap (v4+(1:Int))),h,hm.co (cs:=[.keep [0,7,8]]) (by show _=_; kernel_rfl)⟩)
      · have h:=cond_ff hc h
        obtain hs:=Option.some.inj h; subst hs
        refine T_exit fun a w hm=>then_exit (then_exit (inBlock_exit (then_norm (⟨_,rfl,hm.co (cs:=[.keep []]) (by show _=_; kernel_rfl)⟩))))
    · skip
      refine fun a w hm=>then_norm (((?_:T Tryd.prog e 79 _ _ _) a w hm))
      refine T_reg [] [2,3,4,5] [(2,.d (.str [])),(3,.d (.v (.int .u8 (0:Int)))),(4,.d (.str [])),(5,.d (.v (.bool false)))] [] 4 (by kernel_rfl) (trivial) ?_
      obtain hs:=Option.some.inj h; subst hs
      refine T_ret fun a w hm=>T_return (fr':=[(2,.d (.str [])),(3,.d (.v (.int .u8 (0:Int)))),(4,.d (.str [])),(5,.d (.v (.bool false)))]) [2,3,4,5] (by kernel_rfl) [.keep [2,3,4,5]] (by kernel_rfl) (by kernel_rfl) (by kernel_rfl) (by show _=_; kernel_rfl) (by exact trivial) a w hm
theorem vary_line_ok {F:Nat} {a0:List UInt8} {r:(List (List UInt8))×(List UInt8)×Bool} (h:vary_line F a0=some r):ACall Tryd.prog 16 [.d (.str a0)] [] (.tup [.own 9 1 (r.1.map cS),.d (.str r.2.1),.d (.v (.bool r.2.2))]) []:=by
  rw [vary_line] at h
  refine ACall.intro (N:=28) Tryd.func16 rfl rfl rfl rfl rfl fun e=>?_
  refine T_reg [] [0] [] [] 3 (by kernel_rfl) (trivial) ?_
  refine T_reg [] [0,5] [(5,.own 9 1 ([].map cS))] [] 1 (by kernel_rfl) (trivial) ?_
  refine T_joinEt h (fun (_:Empty)=>([]:Fr)) (fun s h hk1=>?_) (fun s h=>?_)
  · refine T_co [.keep [0,5]] ((fun (p:(List UInt8)×(List (List UInt8)))=>[(0,.d (.str p.1)),(5,.own 9 1 (p.2.map cS))]) (a0,[])) (by show _=_; kernel_rfl) ?_
    refine T_block ?_
    refine T_loopF (ι:=(List UInt8)×(List (List UInt8))) (fun (p:(List UInt8)×(List (List UInt8)))=>[(0,.d (.str p.1)),(5,.own 9 1 (p.2.map cS))]) (fun n p=>vary_line_L0 F n p.1 p.2=some s) (fun i hh=>by simp [vary_line_L0] at hh) (fun n p h=>?_) F (a0,[]) h
    obtain ⟨v1,v2⟩:=p
    have h:vary_line_L0 F (n+1) v1 v2=some s:=h
    rw [vary_line_L0] at h
    refine T_block ?_
    obtain ⟨y1,hy1,h⟩:=call_ok h
    refine T_reg [(1,{ res:=.tup [.d (.str y1.1),.d (.v (.int .u8 y1.2.1)),.d (.str y1.2.2.1),.d (.v (.bool y1.2.2.2))] })] [5,6,7,8,9] [(6,.d (.str y1.1)),(7,.d (.v (.int .u8 y1.2.1))),(8,.d (.str y1.2.2.1)),(9,.d (.v (.bool y1.2.2.2)))] [(1,ACall Tryd.prog 23 [.d (.str v1)] [] (.tup [.d (.str y1.1),.d (.v (.int .u8 y1.2.1)),.d (.str y1.2.2.1),.d (.v (.bool y1.2.2.2))]) [])] 9 (by kernel_rfl) (vary_value_ok hy1) ?_
    refine T_seqk ?_
    refine T_reg [] [5,6,7,8,18] [(18,.d (.v (.bool (!y1.2.2.2))))] [] 2 (by kernel_rfl) (trivial) ?_
    refine T_cond (!y1.2.2.2) (by kernel_rfl) (fun hc=>?_) (fun hc=>?_)
    · have h:=cond_tt hc h
      refine T_reg [] [2,3,4] [(2,.own 9 1 ([].map cS)),(3,.d (.str [])),(4,.d (.v (.bool false)))] [] 3 (by kernel_rfl) (trivial) ?_
      obtain hs:=Option.some.inj h; subst hs
      have h:=callE_esc hk1
      obtain hs:=Option.some.inj h; subst hs
      refine T_ret fun a w hm=>then_ret (inBlock_ret (then_ret (inBlock_ret (then_ret (T_return (fr':=[(2,.own 9 1 ([].map cS)),(3,.d (.str [])),(4,.d (.v (.bool false)))]) [2,3,4] (by kernel_rfl) [.keep [2,3,4]] (by kernel_rfl) (by kernel_rfl) (by kernel_rfl) (by show _=_; kernel_rfl) (by exact trivial) a w hm)))))
    · have h:=cond_ff hc h
      refine T_skip fun a w hm=>then_norm (((?_:T Tryd.prog e 28 _ _ _) a w hm))
      obtain ⟨hp1,h⟩:=chk_ok h
      refine T_reg [(2,{ es:=some (([y1.1]).map cS) }),(3,{ es:=some ((v2++([y1.1])).map cS) })] [0,5,7] [(0,.d (.str y1.2.2.1)),(5,.own 9 1 ((v2++([y1.1])).map cS))] [(2,(([y1.1]).map cS)=(([y1.1]).map cS)),(0,(v2.map cS).length+(([y1.1]).map cS).length≤4294967296∧(v2.map cS)++(([y1.1]).map cS)=((v2++([y1.1])).map cS))] 3 (by kernel_rfl) (⟨rfl,app_ok cS hp1⟩) ?_
      refine T_reg [] [0,5,25] [(25,.d (.v (.bool (y1.2.1 == (10:Int)))))] [] 2 (by kernel_rfl) (trivial) ?_
      refine T_cond (y1.2.1 == (10:Int)) (by kernel_rfl) (fun hc=>?_) (fun hc=>?_)
      · have h:=cond_tt hc h
        refine T_reg [] [2,3,4,5] [(2,.vw (5,0)),(3,.d (.str y1.2.2.1)),(4,.d (.v (.bool true)))] [] 5 (by kernel_rfl) (trivial) ?_
        obtain hs:=Option.some.inj h; subst hs
        have h:=callE_esc hk1
        obtain hs:=Option.some.inj h; subst hs
        refine T_ret fun a w hm=>inBlock_ret (then_ret (inBlock_ret (then_ret (T_return (fr':=[(2,.own 9 1 ((v2++([y1.1])).map cS)),(3,.d (.str y1.2.2.1)),(4,.d (.v (.bool true)))]) [2,3,4] (by kernel_rfl) [.claim 2,.keep [2,3,4]] (by kernel_rfl) (by kernel_rfl) (by kernel_rfl) (by show _=_; kernel_rfl) (by exact trivial) a w hm))))
      · have h:=cond_ff hc h
        refine T_skip fun a w hm=>inBlock_norm (then_norm (⟨(y1.2.2.1,(v2++([y1.1]))),h,hm.co (cs:=[.keep [0,5]]) (by show _=_; kernel_rfl)⟩))
  · skip
    exact s.elim
theorem vary_Parse_ok {F:Nat} {a0:List UInt8} {r:S_VaryTable×Int} (h:vary_Parse F a0=some r):ACall Tryd.prog 6 [.d (.str a0)] [.glo 0 ([gm0].flatMap (cI .i64))] (.tup [.agg (cS_VaryTable r.1),.d (.v (.int .i64 r.2))]) [.glo 0 ([gm0].flatMap (cI .i64))]:=by
  rw [vary_Parse] at h
  refine ACall.intro (N:=45) Tryd.func6 rfl rfl rfl rfl rfl fun e=>?_
  refine T_reg [] [0,2,1000000] [(2,.box [.own 9 1 ([].map cS),.own 23 1 ([].map (cL 1 cS))])] [] 2 (by kernel_rfl) (trivial) ?_
  refine T_seqk ?_
  refine T_reg [] [0,2,12,1000000] [(12,.d (.v (.bool (decide ((a0.length:Int) > (8192:Int))))))] [] 3 (by kernel_rfl) (trivial) ?_
  refine T_cond (decide ((a0.length:Int) > (8192:Int))) (by kernel_rfl) (fun hc=>?_) (fun hc=>?_)
  · have h:=cond_tt hc h
    refine T_region [(0,{ take:=[0] })] [2,3,1000000] [.nilc 2 0 9 1,.nilc 2 1 23 1,.keep [2,3,1000000]] [(2,.box [.own 9 1 ([].map cS),.own 23 1 ([].map (cL 1 cS))]),(3,.d (.v (.int .i64 (2:Int)))),(1000000,.glo 0 ([gm0].flatMap (cI .i64)))] [] 3 (by kernel_rfl) (trivial) ?_
    obtain hs:=Option.some.inj h; subst hs
    refine T_ret fun a w hm=>then_ret (T_returnC (fr':=[(2,.box [.fz 1 ([].map cS),.fz 1 ([].map (cL 1 cS))]),(3,.d (.v (.int .i64 (2:Int)))),(1000000,.glo 0 ([gm0].flatMap (cI .i64)))]) (ts:=[45,3]) (N':=46) (fr2:=[(45,.agg (cS_VaryTable (S_VaryTable.mk [] [])))]++[(2,.box [.fz 1 ([].map cS),.fz 1 ([].map (cL 1 cS))]),(3,.d (.v (.int .i64 (2:Int)))),(1000000,.glo 0 ([gm0].flatMap (cI .i64)))]) [.frz (2,1),.frz (2,2),.keep [2,3,1000000]] (by kernel_rfl) (by kernel_rfl) (by kernel_rfl) (by kernel_rfl) (by show _=_; kernel_rfl) (by exact ⟨⟨by kernel_rfl,by kernel_rfl⟩,trivial⟩) a w hm)
  · have h:=cond_ff hc h
    refine T_skip fun a w hm=>then_norm (((?_:T Tryd.prog e 45 _ _ _) a w hm))
    refine T_reg [] [0,2,4,1000000] [(4,.box [.own 9 1 ([].map cS),.own 23 1 ([].map (cL 1 cS))])] [] 1 (by kernel_rfl) (trivial) ?_
    refine T_seqk ?_
    refine T_reg [] [0,2,4,5,1000000] [(5,.d (.v (.bool true)))] [] 1 (by kernel_rfl) (trivial) ?_
    refine T_joinEt h (fun (p:(List (List UInt8))×(List (List (List UInt8))))=>[(2,.box [.own 9 1 ([].map cS),.own 23 1 ([].map (cL 1 cS))]),(4,.box [.own 9 1 (p.1.map cS),.own 23 1 (p.2.map (cL 1 cS))]),(1000000,.glo 0 ([gm0].flatMap (cI .i64)))]) (fun s h hk1=>?_) (fun s h=>?_)
    · refine T_co [.keep [0,2,4,5,1000000]] ((fun (p:(List UInt8)×(List (List UInt8))×(List (List (List UInt8)))×Bool)=>[(0,.d (.str p.1)),(2,.box [.own 9 1 ([].map cS),.own 23 1 ([].map (cL 1 cS))]),(4,.box [.own 9 1 (p.2.1.map cS),.own 23 1 (p.2.2.1.map (cL 1 cS))]),(5,.d (.v (.bool p.2.2.2))),(1000000,.glo 0 ([gm0].flatMap (cI .i64)))]) (a0,[],[],true)) (by show _=_; kernel_rfl) ?_
      refine T_block ?_
      refine T_loopF (ι:=(List UInt8)×(List (List UInt8))×(List (List (List UInt8)))×Bool) (fun (p:(List UInt8)×(List (List UInt8))×(List (List (List UInt8)))×Bool)=>[(0,.d (.str p.1)),(2,.box [.own 9 1 ([].map cS),.own 23 1 ([].map (cL 1 cS))]),(4,.box [.own 9 1 (p.2.1.map cS),.own 23 1 (p.2.2.1.map (cL 1 cS))]),(5,.d (.v (.bool p.2.2.2))),(1000000,.glo 0 ([gm0].flatMap (cI .i64)))]) (fun n p=>vary_Parse_L0 F n p.1 p.2.1 p.2.2.1 p.2.2.2=some s) (fun i hh=>by simp [vary_Parse_L0] at hh) (fun n p h=>?_) F (a0,[],[],true) h
      obtain ⟨v1,v2,v3,v4⟩:=p
      have h:vary_Parse_L0 F (n+1) v1 v2 v3 v4=some s:=h
      rw [vary_Parse_L0] at h
      refine T_seqk ?_
      refine T_reg [] [0,2,4,5,18,1000000] [(18,.d (.v (.bool (bif (!(v1 == [])) then true else v4))))] [(3,((((!(v1 == [])) == false) && true)=true→True))] 1 (by kernel_rfl) ((fun hg=>trivial)) ?_
      refine T_cond (bif (!(v1 == [])) then true else v4) (by kernel_rfl) (fun hc=>?_) (fun hc=>?_)
      · have h:=cond_tt hc h
        refine T_skip fun a w hm=>then_norm (((?_:T Tryd.prog e 45 _ _ _) a w hm))
        refine T_joinE h (fun (p:(List (List UInt8))×(List (List (List UInt8)))×(List UInt8))=>[(0,.d (.str p.2.2)),(2,.box [.own 9 1 ([].map cS),.own 23 1 ([].map (cL 1 cS))]),(4,.box [.own 9 1 (p.1.map cS),.own 23 1 (p.2.1.map (cL 1 cS))]),(1000000,.glo 0 ([gm0].flatMap (cI .i64)))]) (fun s h hk2=>?_) (fun s h=>?_)
        · refine T_block ?_
          obtain ⟨y1,hy1,h⟩:=call_ok h
          refine T_reg [(1,{ res:=.tup [.own 9 1 (y1.1.map cS),.d (.str y1.2.1),.d (.v (.bool y1.2.2))] })] [2,4,5,6,7,8,1000000] [(6,.own 9 1 (y1.1.map cS)),(7,.d (.str y1.2.1)),(8,.d (.v (.bool y1.2.2)))] [(1,ACall Tryd.prog 16 [.d (.str v1)] [] (.tup [.own 9 1 (y1.1.map cS),.d (.str y1.2.1),.d (.v (.bool y1.2.2))]) [])] 7 (by kernel_rfl) (vary_line_ok hy1) ?_
          refine T_seqk ?_
          refine T_reg [] [2,4,5,6,7,26,1000000] [(26,.d (.v (.bool (!y1.2.2))))] [] 2 (by kernel_rfl) (trivial) ?_
          refine T_cond (!y1.2.2) (by kernel_rfl) (fun hc=>?_) (fun hc=>?_)
          · have h:=cond_tt hc h
            refine T_region [(0,{ take:=[0] })] [2,3,1000000] [.nilc 2 0 9 1,.nilc 2 1 23 1,.keep [2,3,1000000]] [(2,.box [.own 9 1 ([].map cS),.own 23 1 ([].map (cL 1 cS))]),(3,.d (.v (.int .i64 (5:Int)))),(1000000,.glo 0 ([gm0].flatMap (cI .i64)))] [] 3 (by kernel_rfl) (trivial) ?_
            obtain hs:=Option.some.inj h; subst hs
            have h:=callE_esc hk2
            obtain hs:=Option.some.inj h; subst hs
            have h:=callE_esc hk1
            obtain hs:=Option.some.inj h; subst hs
            refine T_ret fun a w hm=>then_ret (inBlock_ret (then_ret (then_ret (inBlock_ret (then_ret (then_ret (T_returnC (fr':=[(2,.box [.fz 1 ([].map cS),.fz 1 ([].map (cL 1 cS))]),(3,.d (.v (.int .i64 (5:Int)))),(1000000,.glo 0 ([gm0].flatMap (cI .i64)))]) (ts:=[45,3]) (N':=46) (fr2:=[(45,.agg (cS_VaryTable (S_VaryTable.mk [] [])))]++[(2,.box [.fz 1 ([].map cS),.fz 1 ([].map (cL 1 cS))]),(3,.d (.v (.int .i64 (5:Int)))),(1000000,.glo 0 ([gm0].flatMap (cI .i64)))]) [.frz (2,1),.frz (2,2),.keep [2,3,1000000]] (by kernel_rfl) (by kernel_rfl) (by kernel_rfl) (by kernel_rfl) (by show _=_; kernel_rfl) (by exact ⟨⟨by kernel_rfl,by kernel_rfl⟩,trivial⟩) a w hm)))))))
          · have h:=cond_ff hc h
            refine T_skip fun a w hm=>then_norm (((?_:T Tryd.prog e 45 _ _ _) a w hm))
            refine T_reg [] [0,2,4,5,6,1000000] [(0,.d (.str y1.2.1))] [] 2 (by kernel_rfl) (trivial) ?_
            refine T_reg [] [0,2,4,6,29,1000000] [(29,.d (.v (.bool v4)))] [] 1 (by kernel_rfl) (trivial) ?_
            refine T_cond v4 (by kernel_rfl) (fun hc=>?_) (fun hc=>?_)
            · have h:=cond_tt hc h
              obtain hs:=Option.some.inj h; subst hs
              refine T_region_end [] [0,2,4,6,1000000] [.claimc 4 0,.keep [0,2,4,1000000]] [(0,.d (.str y1.2.1)),(2,.box [.own 9 1 ([].map cS),.own 23 1 ([].map (cL 1 cS))]),(4,.box [.own 9 1 (y1.1.map cS),.own 23 1 (v3.map (cL 1 cS))]),(1000000,.glo 0 ([gm0].flatMap (cI .i64)))] [] 3 (by kernel_rfl) (trivial) fun a w hm=>inBlock_norm (then_norm (⟨_,rfl,hm.co (cs:=[.keep [0,2,4,1000000]]) (by show _=_; kernel_rfl)⟩))
            · have h:=cond_ff hc h
              obtain ⟨hp1,h⟩:=chk_ok h
              obtain hs:=Option.some.inj h; subst hs
              refine T_reg_end [(3,{ frz:=[(6,0)],es:=some (([y1.1]).map (cL 1 cS)) }),(4,{ es:=some ((v3++([y1.1])).map (cL 1 cS)) })] [0,2,4,1000000] [(4,.box [.own 9 1 (v2.map cS),.own 23 1 ((v3++([y1.1])).map (cL 1 cS))])] [(3,(([y1.1]).map (cL 1 cS))=(([y1.1]).map (cL 1 cS))),(0,(v3.map (cL 1 cS)).length+(([y1.1]).map (cL 1 cS)).length≤4294967296∧(v3.map (cL 1 cS))++(([y1.1]).map (cL 1 cS))=((v3++([y1.1])).map (cL 1 cS)))] 2 (by kernel_rfl) (⟨rfl,app_ok (cL 1 cS) hp1⟩) fun a w hm=>inBlock_norm (then_norm (⟨_,rfl,hm.co (cs:=[.keep [0,2,4,1000000]]) (by show _=_; kernel_rfl)⟩))
        · obtain ⟨v5,v6,v7⟩:=s
          try dsimp only at h
          refine T_reg_end [] [0,2,4,5,1000000] [(5,.d (.v (.bool false)))] [] 1 (by kernel_rfl) (trivial) fun a w hm=>then_norm (⟨(v7,v5,v6,false),h,hm.co (cs:=[.keep [0,2,4,5,1000000]]) (by show _=_; kernel_rfl)⟩)
      · have h:=cond_ff hc h
        obtain hs:=Option.some.inj h; subst hs
        refine T_exit fun a w hm=>then_exit (then_exit (inBlock_exit (then_norm (⟨_,rfl,hm.co (cs:=[.keep [2,4,1000000]]) (by show _=_; kernel_rfl)⟩))))
    · obtain ⟨v8,v9⟩:=s
      try dsimp only at h
      refine fun a w hm=>then_norm (((?_:T Tryd.prog e 45 _ _ _) a w hm))
      refine T_seqk ?_
      obtain ⟨y2,hy2,h⟩:=call_ok h
      refine T_reg [(0,{ frz:=[(4,1),(4,2)] }),(1,{ res:=.d (.v (.int .i64 y2)),vout:=[.glo 0 ([gm0].flatMap (cI .i64))],xs:=[1000000] })] [2,4,9,1000000] [(4,.box [.fz 1 (v8.map cS),.fz 1 (v9.map (cL 1 cS))]),(9,.d (.v (.int .i64 y2)))] [(1,ACall Tryd.prog 17 [.agg (cS_VaryTable (S_VaryTable.mk v8 v9))] [.glo 0 ([gm0].flatMap (cI .i64))] (.d (.v (.int .i64 y2))) [.glo 0 ([gm0].flatMap (cI .i64))])] 1 (by kernel_rfl) (vary_Check_ok hy2) ?_
      refine T_reg [] [2,4,9,41,1000000] [(41,.d (.v (.bool (y2 != (0:Int)))))] [] 2 (by kernel_rfl) (trivial) ?_
      refine T_cond (y2 != (0:Int)) (by kernel_rfl) (fun hc=>?_) (fun hc=>?_)
      · have h:=cond_tt hc h
        refine T_region [(0,{ take:=[0] })] [2,3,1000000] [.nilc 2 0 9 1,.nilc 2 1 23 1,.keep [2,3,1000000]] [(2,.box [.own 9 1 ([].map cS),.own 23 1 ([].map (cL 1 cS))]),(3,.d (.v (.int .i64 y2))),(1000000,.glo 0 ([gm0].flatMap (cI .i64)))] [] 4 (by kernel_rfl) (trivial) ?_
        obtain hs:=Option.some.inj h; subst hs
        refine T_ret fun a w hm=>then_ret (T_returnC (fr':=[(2,.box [.fz 1 ([].map cS),.fz 1 ([].map (cL 1 cS))]),(3,.d (.v (.int .i64 y2))),(1000000,.glo 0 ([gm0].flatMap (cI .i64)))]) (ts:=[45,3]) (N':=46) (fr2:=[(45,.agg (cS_VaryTable (S_VaryTable.mk [] [])))]++[(2,.box [.fz 1 ([].map cS),.fz 1 ([].map (cL 1 cS))]),(3,.d (.v (.int .i64 y2))),(1000000,.glo 0 ([gm0].flatMap (cI .i64)))]) [.frz (2,1),.frz (2,2),.keep [2,3,1000000]] (by kernel_rfl) (by kernel_rfl) (by kernel_rfl) (by kernel_rfl) (by show _=_; kernel_rfl) (by exact ⟨⟨by kernel_rfl,by kernel_rfl⟩,trivial⟩) a w hm)
      · have h:=cond_ff hc h
        refine T_skip fun a w hm=>then_norm (((?_:T Tryd.prog e 45 _ _ _) a w hm))
        refine T_reg [] [2,3,1000000] [(2,.box [.d (.sl 1 (v8.map cS)),.d (.sl 1 (v9.map (cL 1 cS)))]),(3,.d (.v (.int .i64 (0:Int))))] [] 3 (by kernel_rfl) (trivial) ?_
        obtain hs:=Option.some.inj h; subst hs
        refine T_ret fun a w hm=>T_returnC (fr':=[(2,.box [.d (.sl 1 (v8.map cS)),.d (.sl 1 (v9.map (cL 1 cS)))]),(3,.d (.v (.int .i64 (0:Int)))),(1000000,.glo 0 ([gm0].flatMap (cI .i64)))]) (ts:=[45,3]) (N':=46) (fr2:=[(45,.agg (cS_VaryTable (S_VaryTable.mk v8 v9)))]++[(2,.box [.d (.sl 1 (v8.map cS)),.d (.sl 1 (v9.map (cL 1 cS)))]),(3,.d (.v (.int .i64 (0:Int)))),(1000000,.glo 0 ([gm0].flatMap (cI .i64)))]) [.keep [2,3,1000000]] (by kernel_rfl) (by kernel_rfl) (by kernel_rfl) (by kernel_rfl) (by show _=_; kernel_rfl) (by exact ⟨⟨by kernel_rfl,by kernel_rfl⟩,trivial⟩) a w hm
theorem slices_Equal_string_ok {F:Nat} {a0:List (List UInt8)} {a1:List (List UInt8)} {r:Bool} (h:slices_Equal_string F a0 a1=some r):ACall Tryd.prog 15 [.d (.sl 1 (a0.map cS)),.d (.sl 1 (a1.map cS))] [] (.d (.v (.bool r))) []:=by
  rw [slices_Equal_string] at h
  refine ACall.intro (N:=26) Tryd.func15 rfl rfl rfl rfl rfl fun e=>?_
  refine T_reg [] [0,1] [] [] 1 (by kernel_rfl) (trivial) ?_
  refine T_seqk ?_
  refine T_reg [(1,{ rw:=some (.d (.v (.int .i64 (a0.length:Int)))) }),(3,{ rw:=some (.d (.v (.int .i64 (a1.length:Int)))) })] [0,1,10] [(10,.d (.v (.bool ((a0.length:Int) != (a1.length:Int)))))] [(1,True∧AV.d (.v (.int .i64 ((a0.map cS).length:Int)))=.d (.v (.int .i64 (a0.length:Int)))),(1,True∧AV.d (.v (.int .i64 ((a1.map cS).length:Int)))=.d (.v (.int .i64 (a1.length:Int))))] 1 (by kernel_rfl) (⟨len_ok cS,len_ok cS⟩) ?_
  refine T_cond ((a0.length:Int) != (a1.length:Int)) (by kernel_rfl) (fun hc=>?_) (fun hc=>?_)
  · have h:=cond_tt hc h
    refine T_reg [] [4] [(4,.d (.v (.bool false)))] [] 1 (by kernel_rfl) (trivial) ?_
    obtain hs:=Option.some.inj h; subst hs
    refine T_ret fun a w hm=>then_ret (T_return (fr':=[(4,.d (.v (.bool false)))]) [4] (by kernel_rfl) [.keep [4]] (by kernel_rfl) (by kernel_rfl) (by kernel_rfl) (by show _=_; kernel_rfl) (by exact trivial) a w hm)
  · have h:=cond_ff hc h
    refine T_skip fun a w hm=>then_norm (((?_:T Tryd.prog e 26 _ _ _) a w hm))
    refine T_seqk ?_
    refine T_reg [(1,{ rw:=some (.d (.v (.int .i64 (a0.length:Int)))) })] [0,1,12,13] [(12,.d (.v (.int .i64 (a0.length:Int)))),(13,.d (.v (.int .i64 (0:Int))))] [(1,True∧AV.d (.v (.int .i64 ((a0.map cS).length:Int)))=.d (.v (.int .i64 (a0.length:Int))))] 1 (by kernel_rfl) (len_ok cS) ?_
    refine T_joinEt h (fun (p:Unit)=>[]) (fun s h hk1=>?_) (fun s h=>?_)
    · refine T_co [.keep [0,1,12,13]] ((fun (p:Int)=>[(0,.d (.sl 1 (a0.map cS))),(1,.d (.sl 1 (a1.map cS))),(12,.d (.v (.int .i64 (a0.length:Int)))),(13,.d (.v (.int .i64 p)))]) (0:Int)) (by show _=_; kernel_rfl) ?_
      refine T_block ?_
      refine T_loopF (ι:=Int) (fun (p:Int)=>[(0,.d (.sl 1 (a0.map cS))),(1,.d (.sl 1 (a1.map cS))),(12,.d (.v (.int .i64 (a0.length:Int)))),(13,.d (.v (.int .i64 p)))]) (fun n p=>slices_Equal_string_L0 F a0 a1 n p=some s) (fun i hh=>by simp [slices_Equal_string_L0] at hh) (fun n v1 h=>?_) F (0:Int) h
      have h:slices_Equal_string_L0 F a0 a1 (n+1) v1=some s:=h
      rw [slices_Equal_string_L0] at h
      refine T_reg [] [0,1,12,13,14] [(14,.d (.v (.bool (decide (v1 < (a0.length:Int))))))] [] 1 (by kernel_rfl) (trivial) ?_
      refine T_seqk ?_
      refine T_cond (decide (v1 < (a0.length:Int))) (by kernel_rfl) (fun hc=>?_) (fun hc=>?_)
      · have h:=cond_tt hc h
        refine T_skip fun a w hm=>then_norm (((?_:T Tryd.prog e 26 _ _ _) a w hm))
        refine T_seqk ?_
        refine T_block ?_
        refine T_reg [] [0,1,5,12,13] [(5,.d (.v (.int .i64 v1)))] [] 2 (by kernel_rfl) (trivial) ?_
        obtain ⟨hp1,h⟩:=chk_ok h
        obtain ⟨hp2,h⟩:=chk_ok h
        refine T_draw mixed [(2,{ cs:=cS (a0.getD v1.toNat []) }),(6,{ cs:=cS (a1.getD v1.toNat []) })] [0,1,12,13,24] [] [(0,.d (.sl 1 (a0.map cS))),(1,.d (.sl 1 (a1.map cS))),(12,.d (.v (.int .i64 (a0.length:Int)))),(13,.d (.v (.int .i64 v1))),(24,.d (.v (.bool (!((a0.getD v1.toNat []) == (a1.getD v1.toNat []))))))] [(2,0≤v1∧(a0.map cS)[v1.toNat]? = some (cS (a0.getD v1.toNat []))),(3,0≤v1∧(a1.map cS)[v1.toNat]? = some (cS (a1.getD v1.toNat [])))] 2 (by kernel_rfl) (⟨idx_ok (d:=[]) cS hp1,idx_ok (d:=[]) cS hp2⟩) ?_
        refine T_cond (!((a0.getD v1.toNat []) == (a1.getD v1.toNat []))) (by kernel_rfl) (fun hc=>?_) (fun hc=>?_)
        · have h:=cond_tt hc h
          refine T_reg [] [4] [(4,.d (.v (.bool false)))] [] 1 (by kernel_rfl) (trivial) ?_
          obtain hs:=Option.some.inj h; subst hs
          have h:=callE_esc hk1
          obtain hs:=Option.some.inj h; subst hs
          refine T_ret fun a w hm=>inBlock_ret (then_ret (then_ret (inBlock_ret (then_ret (then_ret (T_return (fr':=[(4,.d (.v (.bool false)))]) [4] (by kernel_rfl) [.keep [4]] (by kernel_rfl) (by kernel_rfl) (by kernel_rfl) (by show _=_; kernel_rfl) (by exact trivial) a w hm))))))
        · have h:=cond_ff hc h
          refine T_skip fun a w hm=>inBlock_norm (then_norm (((?_:T Tryd.prog e 26 _ _ _) a w hm)))
          refine T_reg_end [] [0,1,12,13] [(13,.d (.v (.int .i64 (IntKind.i64.wrap (v1+(1:Int))))))] [] 2 (by kernel_rfl) (trivial) fun a w hm=>then_norm (⟨IntKind.i64.wrap (v1+(1:Int)),h,hm.co (cs:=[.keep [0,1,12,13]]) (by show _=_; kernel_rfl)⟩)
      · have h:=cond_ff hc h
        obtain hs:=Option.some.inj h; subst hs
        refine T_exit fun a w hm=>then_exit (then_exit (inBlock_exit (then_norm (⟨_,rfl,hm.co (cs:=[.keep []]) (by show _=_; kernel_rfl)⟩))))
    · skip
      refine fun a w hm=>then_norm (((?_:T Tryd.prog e 26 _ _ _) a w hm))
      refine T_reg [] [4] [(4,.d (.v (.bool true)))] [] 1 (by kernel_rfl) (trivial) ?_
      obtain hs:=Option.some.inj h; subst hs
      refine T_ret fun a w hm=>T_return (fr':=[(4,.d (.v (.bool true)))]) [4] (by kernel_rfl) [.keep [4]] (by kernel_rfl) (by kernel_rfl) (by kernel_rfl) (by show _=_; kernel_rfl) (by exact trivial) a w hm
theorem law3_tableFact_ok {F:Nat}  {r:Bool} (h:law3_tableFact F  = some r):ACall Tryd.prog 5 [] [.glo 0 ([gm0].flatMap (cI .i64))] (.d (.v (.bool r))) [.glo 0 ([gm0].flatMap (cI .i64))]:=by
  rw [law3_tableFact] at h
  refine ACall.intro (N:=29) Tryd.func5 rfl rfl rfl rfl rfl fun e=>?_
  refine T_reg [] [1000000] [] [] 1 (by kernel_rfl) (trivial) ?_
  obtain ⟨y1,hy1,h⟩:=call_ok h
  refine T_reg [(0,{ res:=.tup [.agg (cS_VaryTable y1.1),.d (.v (.int .i64 y1.2))],vout:=[.glo 0 ([gm0].flatMap (cI .i64))],xs:=[1000000] })] [1,2,1000000] [(1,.box [.d (.sl 1 (y1.1.f0.map cS)),.d (.sl 1 (y1.1.f1.map (cL 1 cS)))]),(2,.d (.v (.int .i64 y1.2)))] [(0,ACall Tryd.prog 6 [.d (.str ([97,44,98,10,49,44,34,120,34,34,121,34,10]:List UInt8))] [.glo 0 ([gm0].flatMap (cI .i64))] (.tup [.agg (cS_VaryTable y1.1),.d (.v (.int .i64 y1.2))]) [.glo 0 ([gm0].flatMap (cI .i64))])] 6 (by kernel_rfl) (vary_Parse_ok hy1) ?_
  obtain ⟨y2,hy2,h⟩:=call_ok h
  obtain ⟨z1,hz1,h⟩:=lett_ok h
  obtain ⟨hp1,h⟩:=chk_ok h
  obtain ⟨y3,hy3,h⟩:=call_ok h
  refine T_reg [(5,{ es:=some (([([97]:List UInt8),([98]:List UInt8)]).map cS) }),(6,{ res:=.d (.v (.bool y2)) }),(11,{ rw:=some (.d (.v (.int .i64 (y1.1.f1.length:Int)))) }),(13,{ rw:=some (.d (.v (.bool z1))) }),(17,{ cs:=(cL 1 cS) (y1.1.f1.getD (0:Int).toNat []) }),(19,{ es:=some (([([49]:List UInt8),([120,34,121]:List UInt8)]).map cS) }),(20,{ res:=.d (.v (.bool y3)) })] [0,1000000] [(0,.d (.v (.bool (bif z1 then y3 else false))))] [(3,((((y1.2 == (0:Int)) == true) && true)=true→True)),(0,((((y1.2 == (0:Int)) == true) && true)=true→True)),(0,((((y1.2 == (0:Int)) == true) && true)=true→(([([97]:List UInt8),([98]:List UInt8)]).map cS)=(([([97]:List UInt8),([98]:List UInt8)]).map cS))),(0,((((y1.2 == (0:Int)) == true) && true)=true→ACall Tryd.prog 15 [.d (.sl 1 (y1.1.f0.map cS)),.d (.sl 1 (([([97]:List UInt8),([98]:List UInt8)]).map cS))] [] (.d (.v (.bool y2))) [])),(2,((((bif (y1.2 == (0:Int)) then y2 else false) == true) && true)=true→True)),(0,((((bif (y1.2 == (0:Int)) then y2 else false) == true) && true)=true→True)),(0,((((bif (y1.2 == (0:Int)) then y2 else false) == true) && true)=true→True∧AV.d (.v (.int .i64 ((y1.1.f1.map (cL 1 cS)).length:Int)))=.d (.v (.int .i64 (y1.1.f1.length:Int))))),(0,((((bif (y1.2 == (0:Int)) then y2 else false) == true) && true)=true→True)),(0,(True)∧AV.d (.v (.bool (bif (bif (y1.2 == (0:Int)) then y2 else false) then ((y1.1.f1.length:Int) == (1:Int)) else false)))=.d (.v (.bool z1))),(1,(((z1 == true) && true)=true→True)),(0,(((z1 == true) && true)=true→True)),(0,(((z1 == true) && true)=true→0≤(0:Int)∧(y1.1.f1.map (cL 1 cS))[(0:Int).toNat]? = some ((cL 1 cS) (y1.1.f1.getD (0:Int).toNat [])))),(0,(((z1 == true) && true)=true→True)),(0,(((z1 == true) && true)=true→(([([49]:List UInt8),([120,34,121]:List UInt8)]).map cS)=(([([49]:List UInt8),([120,34,121]:List UInt8)]).map cS))),(0,(((z1 == true) && true)=true→ACall Tryd.prog 15 [.d (.sl 1 ((y1.1.f1.getD (0:Int).toNat []).map cS)),.d (.sl 1 (([([49]:List UInt8),([120,34,121]:List UInt8)]).map cS))] [] (.d (.v (.bool y3))) []))] 2 (by kernel_rfl) (⟨(fun hg=>trivial),(fun hg=>trivial),(fun hg=>rfl),(fun hg=>slices_Equal_string_ok (gcall_ok hg hy2)),(fun hg=>trivial),(fun hg=>trivial),(fun hg=>len_ok (cL 1 cS)),(fun hg=>trivial),⟨trivial,(by subst hz1; rfl)⟩,(fun hg=>trivial),(fun hg=>trivial),(fun hg=>idx_ok (d:=[]) (cL 1 cS) (hp1 hg)),(fun hg=>trivial),(fun hg=>rfl),(fun hg=>slices_Equal_string_ok (gcall_ok hg hy3))⟩) ?_
  obtain hs:=Option.some.inj h; subst hs
  refine T_ret fun a w hm=>T_return (fr':=[(0,.d (.v (.bool (bif z1 then y3 else false)))),(1000000,.glo 0 ([gm0].flatMap (cI .i64)))]) [0] (by kernel_rfl) [.keep [0,1000000]] (by kernel_rfl) (by kernel_rfl) (by kernel_rfl) (by show _=_; kernel_rfl) (by exact ⟨⟨by kernel_rfl,by kernel_rfl⟩,trivial⟩) a w hm
theorem ref3_Table_ok {F:Nat} {a0:List UInt8} {r:(List (List (List UInt8)))×Bool} (h:ref3_Table F a0=some r):ACall Tryd.prog 7 [.d (.str a0)] [] (.tup [.own 23 1 (r.1.map (cL 1 cS)),.d (.v (.bool r.2))]) []:=by
  rw [ref3_Table] at h
  refine ACall.intro (N:=97) Tryd.func7 rfl rfl rfl rfl rfl fun e=>?_
  refine T_reg [] [0] [] [] 2 (by kernel_rfl) (trivial) ?_
  refine T_reg [] [0,4] [(4,.own 23 1 ([].map (cL 1 cS)))] [] 1 (by kernel_rfl) (trivial) ?_
  refine T_reg [(0,{ take:=[0] })] [0,4,5] [(5,.own 2199023255561 1 ([].map cS))] [] 1 (by kernel_rfl) (trivial) ?_
  refine T_reg [] [0,4,5,6,7] [(6,.d (.str [])),(7,.d (.v (.int .i64 (0:Int))))] [] 2 (by kernel_rfl) (trivial) ?_
  refine T_seqk ?_
  refine T_reg [] [0,4,5,6,7,11,12] [(11,.d (.v (.int .i64 (a0.length:Int)))),(12,.d (.v (.int .i64 (0:Int))))] [] 3 (by kernel_rfl) (trivial) ?_
  refine T_joinEt h (fun (p:(List (List (List UInt8)))×(List (List UInt8))×Int)=>[(4,.own 23 1 (p.1.map (cL 1 cS))),(5,.own 2199023255561 1 (p.2.1.map cS)),(7,.d (.v (.int .i64 p.2.2)))]) (fun s h hk1=>?_) (fun s h=>?_)
  · refine T_co [.keep [0,4,5,6,7,11,12]] ((fun (p:(List (List (List UInt8)))×(List (List UInt8))×(List UInt8)×Int×Int)=>[(0,.d (.str a0)),(4,.own 23 1 (p.1.map (cL 1 cS))),(5,.own 2199023255561 1 (p.2.1.map cS)),(6,.d (.str p.2.2.1)),(7,.d (.v (.int .i64 p.2.2.2.1))),(11,.d (.v (.int .i64 (a0.length:Int)))),(12,.d (.v (.int .i64 p.2.2.2.2)))]) ([],[],[],(0:Int),(0:Int))) (by show _=_; kernel_rfl) ?_
    refine T_block ?_
    refine T_loopF (ι:=(List (List (List UInt8)))×(List (List UInt8))×(List UInt8)×Int×Int) (fun (p:(List (List (List UInt8)))×(List (List UInt8))×(List UInt8)×Int×Int)=>[(0,.d (.str a0)),(4,.own 23 1 (p.1.map (cL 1 cS))),(5,.own 2199023255561 1 (p.2.1.map cS)),(6,.d (.str p.2.2.1)),(7,.d (.v (.int .i64 p.2.2.2.1))),(11,.d (.v (.int .i64 (a0.length:Int)))),(12,.d (.v (.int .i64 p.2.2.2.2)))]) (fun n p=>ref3_Table_L0 F a0 n p.1 p.2.1 p.2.2.1 p.2.2.2.1 p.2.2.2.2=some s) (fun i hh=>by simp [ref3_Table_L0] at hh) (fun n p h=>?_) F ([],[],[],(0:Int),(0:Int)) h
    obtain ⟨v1,v2,v3,v4,v5⟩:=p
    have h:ref3_Table_L0 F a0 (n+1) v1 v2 v3 v4 v5=some s:=h
    rw [ref3_Table_L0] at h
    refine T_reg [] [0,4,5,6,7,11,12,13] [(13,.d (.v (.bool (decide (v5 < (a0.length:Int))))))] [] 1 (by kernel_rfl) (trivial) ?_
    refine T_seqk ?_
    refine T_cond (decide (v5 < (a0.length:Int))) (by kernel_rfl) (fun hc=>?_) (fun hc=>?_)
    · have h:=cond_tt hc h
      refine T_skip fun a w hm=>then_norm (((?_:T Tryd.prog e 97 _ _ _) a w hm))
      refine T_joinE h (fun (p:(List UInt8)×Int×(List (List (List UInt8)))×(List (List UInt8)))=>[(0,.d (.str a0)),(4,.own 23 1 (p.2.2.1.map (cL 1 cS))),(5,.own 2199023255561 1 (p.2.2.2.map cS)),(6,.d (.str p.1)),(7,.d (.v (.int .i64 p.2.1))),(11,.d (.v (.int .i64 (a0.length:Int)))),(12,.d (.v (.int .i64 v5)))]) (fun s h hk2=>?_) (fun s h=>?_)
      · refine T_block ?_
        refine T_reg [] [0,4,5,6,7,8,11,12] [(8,.d (.v (.int .i64 v5)))] [] 2 (by kernel_rfl) (trivial) ?_
        obtain ⟨hp1,h⟩:=chk_ok h
        refine T_reg [] [0,4,5,6,7,8,9,11,12] [(9,.d (.v (.int .u8 ((a0.getD v5.toNat 0).toNat:Int))))] [(2,0≤v5∧v5 < a0.length)] 1 (by kernel_rfl) (hp1) ?_
        refine T_block ?_
        refine T_reg [] [0,4,5,6,7,8,9,11,12,25] [(25,.d (.v (.bool (bif (v4 == (2:Int)) then (((a0.getD v5.toNat 0).toNat:Int) == (34:Int)) else false))))] [(3,((((v4 == (2:Int)) == true) && true)=true→True)),(0,((((v4 == (2:Int)) == true) && true)=true→True))] 2 (by kernel_rfl) (⟨(fun hg=>trivial),(fun hg=>trivial)⟩) ?_
        refine T_cond (bif (v4 == (2:Int)) then (((a0.getD v5.toNat 0).toNat:Int) == (34:Int)) else false) (by kernel_rfl) (fun hc=>?_) (fun hc=>?_)
        · have h:=cond_tt hc h
          obtain hs:=Option.some.inj h; subst hs
          refine T_reg_end [] [0,4,5,6,7,11,12] [(7,.d (.v (.int .i64 (3:Int))))] [] 1 (by kernel_rfl) (trivial) fun a w hm=>inBlock_norm (inBlock_norm (then_norm (⟨_,rfl,hm.co (cs:=[.keep [0,4,5,6,7,11,12]]) (by show _=_; kernel_rfl)⟩)))
        · have h:=cond_ff hc h
          refine T_reg [] [0,4,5,6,7,8,9,11,12,32] [(32,.d (.v (.bool (v4 == (2:Int)))))] [] 3 (by kernel_rfl) (trivial) ?_
          refine T_cond (v4 == (2:Int)) (by kernel_rfl) (fun hc=>?_) (fun hc=>?_)
          · have h:=cond_tt hc h
            obtain ⟨hp2,h⟩:=chk_ok h
            obtain ⟨hp3,h⟩:=chk_ok h
            obtain hs:=Option.some.inj h; subst hs
            refine T_reg_end [] [0,4,5,6,7,11,12] [(6,.d (.str (v3++((a0.drop v5.toNat).take ((IntKind.i64.wrap (v5+(1:Int))).toNat - v5.toNat)))))] [(5,0≤v5∧v5≤(IntKind.i64.wrap (v5+(1:Int)))∧(IntKind.i64.wrap (v5+(1:Int)))≤(a0.length:Int)),(0,v3.length+((a0.drop v5.toNat).take ((IntKind.i64.wrap (v5+(1:Int))).toNat - v5.toNat)).length≤9223372036854775807)] 1 (by kernel_rfl) (⟨hp2,hp3⟩) fun a w hm=>inBlock_norm (inBlock_norm (then_norm (⟨_,rfl,hm.co (cs:=[.keep [0,4,5,6,7,11,12]]) (by show _=_; kernel_rfl)⟩)))
          · have h:=cond_ff hc h
            refine T_reg [] [0,4,5,6,7,8,9,11,12,42] [(42,.d (.v (.bool (bif (v4 == (3:Int)) then (((a0.getD v5.toNat 0).toNat:Int) == (34:Int)) else false))))] [(3,((((v4 == (3:Int)) == true) && true)=true→True)),(0,((((v4 == (3:Int)) == true) && true)=true→True))] 2 (by kernel_rfl) (⟨(fun hg=>trivial),(fun hg=>trivial)⟩) ?_
            refine T_cond (bif (v4 == (3:Int)) then (((a0.getD v5.toNat 0).toNat:Int) == (34:Int)) else false) (by kernel_rfl) (fun hc=>?_) (fun hc=>?_)
            · have h:=cond_tt hc h
              obtain ⟨hp4,h⟩:=chk_ok h
              obtain hs:=Option.some.inj h; subst hs
              refine T_reg_end [] [0,4,5,6,7,11,12] [(6,.d (.str (v3++([34]:List UInt8)))),(7,.d (.v (.int .i64 (2:Int))))] [(1,v3.length+([34]:List UInt8).length≤9223372036854775807)] 2 (by kernel_rfl) (hp4) fun a w hm=>inBlock_norm (inBlock_norm (then_norm (⟨_,rfl,hm.co (cs:=[.keep [0,4,5,6,7,11,12]]) (by show _=_; kernel_rfl)⟩)))
            · have h:=cond_ff hc h
              refine T_reg [] [0,4,5,6,7,8,9,11,12,51] [(51,.d (.v (.bool (bif (v4 == (0:Int)) then (((a0.getD v5.toNat 0).toNat:Int) == (34:Int)) else false))))] [(3,((((v4 == (0:Int)) == true) && true)=true→True)),(0,((((v4 == (0:Int)) == true) && true)=true→True))] 2 (by kernel_rfl) (⟨(fun hg=>trivial),(fun hg=>trivial)⟩) ?_
              refine T_cond (bif (v4 == (0:Int)) then (((a0.getD v5.toNat 0).toNat:Int) == (34:Int)) else false) (by kernel_rfl) (fun hc=>?_) (fun hc=>?_)
              · have h:=cond_tt hc h
                obtain hs:=Option.some.inj h; subst hs
                refine T_reg_end [] [0,4,5,6,7,11,12] [(7,.d (.v (.int .i64 (2:Int))))] [] 1 (by kernel_rfl) (trivial) fun a w hm=>inBlock_norm (inBlock_norm (then_norm (⟨_,rfl,hm.co (cs:=[.keep [0,4,5,6,7,11,12]]) (by show _=_; kernel_rfl)⟩)))
              · have h:=cond_ff hc h
                obtain ⟨z1,hz1,h⟩:=lett_ok h
                refine T_reg [(5,{ rw:=some (.d (.v (.bool z1))) })] [0,4,5,6,7,8,9,11,12,58] [(58,.d (.v (.bool z1)))] [(3,((((((a0.getD v5.toNat 0).toNat:Int) == (44:Int)) == false) && true)=true→True)),(0,((((((a0.getD v5.toNat 0).toNat:Int) == (44:Int)) == false) && true)=true→True)),(0,(True)∧AV.d (.v (.bool (bif (((a0.getD v5.toNat 0).toNat:Int) == (44:Int)) then true else (((a0.getD v5.toNat 0).toNat:Int) == (10:Int)))))=.d (.v (.bool z1)))] 1 (by kernel_rfl) (⟨(fun hg=>trivial),(fun hg=>trivial),⟨trivial,(by subst hz1; rfl)⟩⟩) ?_
                refine T_cond z1 (by kernel_rfl) (fun hc=>?_) (fun hc=>?_)
                · have h:=cond_tt hc h
                  refine T_seqk ?_
                  refine T_reg [] [0,4,5,6,9,11,12,66] [(66,.d (.v (.bool (v4 == (0:Int)))))] [] 2 (by kernel_rfl) (trivial) ?_
                  refine T_cond (v4 == (0:Int)) (by kernel_rfl) (fun hc=>?_) (fun hc=>?_)
                  · have h:=cond_tt hc h
                    refine T_reg [] [2,3] [(2,.own 23 1 ([].map (cL 1 cS))),(3,.d (.v (.bool false)))] [] 2 (by kernel_rfl) (trivial) ?_
                    obtain hs:=Option.some.inj h; subst hs
                    have h:=callE_esc hk2
                    obtain hs:=Option.some.inj h; subst hs
                    have h:=callE_esc hk1
                    obtain hs:=Option.some.inj h; subst hs
                    refine T_ret fun a w hm=>then_ret (inBlock_ret (inBlock_ret (then_ret (then_ret (inBlock_ret (then_ret (then_ret (T_return (fr':=[(2,.own 23 1 ([].map (cL 1 cS))),(3,.d (.v (.bool false)))]) [2,3] (by kernel_rfl) [.keep [2,3]] (by kernel_rfl) (by kernel_rfl) (by kernel_rfl) (by show _=_; kernel_rfl) (by exact trivial) a w hm))))))))
                  · have h:=cond_ff hc h
                    refine T_skip fun a w hm=>then_norm (((?_:T Tryd.prog e 97 _ _ _) a w hm))
                    obtain ⟨hp5,h⟩:=chk_ok h
                    refine T_reg [(2,{ es:=some (([v3]).map cS) }),(3,{ es:=some ((v2++([v3])).map cS) })] [0,4,5,6,7,9,11,12] [(5,.own 2199023255561 1 ((v2++([v3])).map cS)),(6,.d (.str [])),(7,.d (.v (.int .i64 (0:Int))))] [(2,(([v3]).map cS)=(([v3]).map cS)),(0,(v2.map cS).length+(([v3]).map cS).length≤4294967296∧(v2.map cS)++(([v3]).map cS)=((v2++([v3])).map cS))] 3 (by kernel_rfl) (⟨rfl,app_ok cS hp5⟩) ?_
                    refine T_reg [] [0,4,5,6,7,11,12,72] [(72,.d (.v (.bool (((a0.getD v5.toNat 0).toNat:Int) == (10:Int)))))] [] 2 (by kernel_rfl) (trivial) ?_
                    refine T_cond (((a0.getD v5.toNat 0).toNat:Int) == (10:Int)) (by kernel_rfl) (fun hc=>?_) (fun hc=>?_)
                    · have h:=cond_tt hc h
                      obtain ⟨hp6,h⟩:=chk_ok h
                      obtain hs:=Option.some.inj h; subst hs
                      refine T_reg_end [(2,{ frz:=[(5,0)],es:=some (([(v2++([v3]))]).map (cL 1 cS)) }),(3,{ es:=some ((v1++([(v2++([v3]))])).map (cL 1 cS)) }),(5,{ take:=[0] })] [0,4,5,6,7,11,12] [(4,.own 23 1 ((v1++([(v2++([v3]))])).map (cL 1 cS))),(5,.own 2199023255561 1 ([].map cS))] [(2,(([(v2++([v3]))]).map (cL 1 cS))=(([(v2++([v3]))]).map (cL 1 cS))),(0,(v1.map (cL 1 cS)).length+(([(v2++([v3]))]).map (cL 1 cS)).length≤4294967296∧(v1.map (cL 1 cS))++(([(v2++([v3]))]).map (cL 1 cS))=((v1++([(v2++([v3]))])).map (cL 1 cS)))] 2 (by kernel_rfl) (⟨rfl,app_ok (cL 1 cS) hp6⟩) fun a w hm=>inBlock_norm (inBlock_norm (then_norm (⟨_,rfl,hm.co (cs:=[.keep [0,4,5,6,7,11,12]]) (by show _=_; kernel_rfl)⟩)))
                    · have h:=cond_ff hc h
                      obtain hs:=Option.some.inj h; subst hs
                      refine T_skip fun a w hm=>inBlock_norm (inBlock_norm (then_norm (⟨_,rfl,hm.co (cs:=[.keep [0,4,5,6,7,11,12]]) (by show _=_; kernel_rfl)⟩)))
                · have h:=cond_ff hc h
                  refine T_reg [] [0,4,5,6,8,11,12,77] [(77,.d (.v (.bool (bif (((a0.getD v5.toNat 0).toNat:Int) == (34:Int)) then true else (v4 == (3:Int))))))] [(3,((((((a0.getD v5.toNat 0).toNat:Int) == (34:Int)) == false) && true)=true→True)),(0,((((((a0.getD v5.toNat 0).toNat:Int) == (34:Int)) == false) && true)=true→True))] 2 (by kernel_rfl) (⟨(fun hg=>trivial),(fun hg=>trivial)⟩) ?_
                  refine T_cond (bif (((a0.getD v5.toNat 0).toNat:Int) == (34:Int)) then true else (v4 == (3:Int))) (by kernel_rfl) (fun hc=>?_) (fun hc=>?_)
                  · have h:=cond_tt hc h
                    refine T_reg [] [2,3] [(2,.own 23 1 ([].map (cL 1 cS))),(3,.d (.v (.bool false)))] [] 2 (by kernel_rfl) (trivial) ?_
                    obtain hs:=Option.some.inj h; subst hs
                    have h:=callE_esc hk2
                    obtain hs:=Option.some.inj h; subst hs
                    have h:=callE_esc hk1
                    obtain hs:=Option.some.inj h; subst hs
                    refine T_ret fun a w hm=>inBlock_ret (inBlock_ret (then_ret (then_ret (inBlock_ret (then_ret (then_ret (T_return (fr':=[(2,.own 23 1 ([].map (cL 1 cS))),(3,.d (.v (.bool false)))]) [2,3] (by kernel_rfl) [.keep [2,3]] (by kernel_rfl) (by kernel_rfl) (by kernel_rfl) (by show _=_; kernel_rfl) (by exact trivial) a w hm)))))))
                  · have h:=cond_ff hc h
                    obtain ⟨hp7,h⟩:=chk_ok h
                    obtain ⟨hp8,h⟩:=chk_ok h
                    obtain hs:=Option.some.inj h; subst hs
                    refine T_reg_end [] [0,4,5,6,7,11,12] [(6,.d (.str (v3++((a0.drop v5.toNat).take ((IntKind.i64.wrap (v5+(1:Int))).toNat - v5.toNat))))),(7,.d (.v (.int .i64 (1:Int))))] [(5,0≤v5∧v5≤(IntKind.i64.wrap (v5+(1:Int)))∧(IntKind.i64.wrap (v5+(1:Int)))≤(a0.length:Int)),(0,v3.length+((a0.drop v5.toNat).take ((IntKind.i64.wrap (v5+(1:Int))).toNat - v5.toNat)).length≤9223372036854775807)] 2 (by kernel_rfl) (⟨hp7,hp8⟩) fun a w hm=>inBlock_norm (inBlock_norm (then_norm (⟨_,rfl,hm.co (cs:=[.keep [0,4,5,6,7,11,12]]) (by show _=_; kernel_rfl)⟩)))
      · obtain ⟨v6,v7,v8,v9⟩:=s
        try dsimp only at h
        refine T_reg_end [] [0,4,5,6,7,11,12] [(12,.d (.v (.int .i64 (IntKind.i64.wrap (v5+(1:Int))))))] [] 2 (by kernel_rfl) (trivial) fun a w hm=>then_norm (⟨(v8,v9,v6,v7,IntKind.i64.wrap (v5+(1:Int))),h,hm.co (cs:=[.keep [0,4,5,6,7,11,12]]) (by show _=_; kernel_rfl)⟩)
    · have h:=cond_ff hc h
      obtain hs:=Option.some.inj h; subst hs
      refine T_exit fun a w hm=>then_exit (then_exit (inBlock_exit (then_norm (⟨_,rfl,hm.co (cs:=[.keep [4,5,7]]) (by show _=_; kernel_rfl)⟩))))
  · obtain ⟨v10,v11,v12⟩:=s
    try dsimp only at h
    refine fun a w hm=>then_norm (((?_:T Tryd.prog e 97 _ _ _) a w hm))
    obtain ⟨z2,hz2,h⟩:=lett_ok h
    refine T_reg [(5,{ rw:=some (.d (.v (.bool (v11.isEmpty)))) }),(9,{ rw:=some (.d (.v (.int .i64 (v10.length:Int)))) }),(11,{ rw:=some (.d (.v (.bool z2))) })] [2,3,4] [(2,.vw (4,0)),(3,.d (.v (.bool z2)))] [(4,((((v12 == (0:Int)) == true) && true)=true→True)),(0,((((v12 == (0:Int)) == true) && true)=true→True∧AV.d (.v (.bool (v11.map cS).isEmpty))=.d (.v (.bool (v11.isEmpty))))),(2,((((bif (v12 == (0:Int)) then (v11.isEmpty) else false) == true) && true)=true→True)),(0,((((bif (v12 == (0:Int)) then (v11.isEmpty) else false) == true) && true)=true→True∧AV.d (.v (.int .i64 ((v10.map (cL 1 cS)).length:Int)))=.d (.v (.int .i64 (v10.length:Int))))),(0,((((bif (v12 == (0:Int)) then (v11.isEmpty) else false) == true) && true)=true→True)),(0,(True)∧AV.d (.v (.bool (bif (bif (v12 == (0:Int)) then (v11.isEmpty) else false) then (decide ((v10.length:Int) > (0:Int))) else false)))=.d (.v (.bool z2)))] 2 (by kernel_rfl) (⟨(fun hg=>trivial),(fun hg=>nil_ok cS),(fun hg=>trivial),(fun hg=>len_ok (cL 1 cS)),(fun hg=>trivial),⟨trivial,(by subst hz2; rfl)⟩⟩) ?_
    obtain hs:=Option.some.inj h; subst hs
    refine T_ret fun a w hm=>T_return (fr':=[(2,.own 23 1 (v10.map (cL 1 cS))),(3,.d (.v (.bool z2)))]) [2,3] (by kernel_rfl) [.claim 2,.keep [2,3]] (by kernel_rfl) (by kernel_rfl) (by kernel_rfl) (by show _=_; kernel_rfl) (by exact trivial) a w hm
theorem ref3_IsName_ok {F:Nat} {a0:List UInt8} {r:Bool} (h:ref3_IsName F a0=some r):ACall Tryd.prog 8 [.d (.str a0)] [] (.d (.v (.bool r))) []:=by
  rw [ref3_IsName] at h
  refine ACall.intro (N:=51) Tryd.func8 rfl rfl rfl rfl rfl fun e=>?_
  refine T_reg [] [0] [] [] 1 (by kernel_rfl) (trivial) ?_
  refine T_seqk ?_
  obtain ⟨hp1,h⟩:=chk_ok h
  obtain ⟨z3,hz1,h⟩:=lett_ok h
  obtain ⟨hp2,h⟩:=chk_ok h
  refine T_reg [(11,{ rw:=some (.d (.v (.bool z3))) })] [0,20] [(20,.d (.v (.bool (bif z3 then true else (decide (((a0.getD (0:Int).toNat 0).toNat:Int) > (122:Int)))))))] [(3,((((a0 == []) == false) && true)=true→True)),(0,((((a0 == []) == false) && true)=true→True)),(0,((((a0 == []) == false) && true)=true→True)),(2,((((bif (a0 == []) then true else (decide ((a0.length:Int) > (16:Int)))) == false) && true)=true→True)),(0,((((bif (a0 == []) then true else (decide ((a0.length:Int) > (16:Int)))) == false) && true)=true→0≤(0:Int)∧(0:Int) < a0.length)),(0,((((bif (a0 == []) then true else (decide ((a0.length:Int) > (16:Int)))) == false) && true)=true→True)),(0,(True)∧AV.d (.v (.bool (bif (bif (a0 == []) then true else (decide ((a0.length:Int) > (16:Int)))) then true else (decide (((a0.getD (0:Int).toNat 0).toNat:Int) < (97:Int))))))=.d (.v (.bool z3))),(1,(((z3 == false) && true)=true→True)),(0,(((z3 == false) && true)=true→0≤(0:Int)∧(0:Int) < a0.length)),(0,(((z3 == false) && true)=true→True))] 1 (by kernel_rfl) (⟨(fun hg=>trivial),(fun hg=>trivial),(fun hg=>trivial),(fun hg=>trivial),(fun hg=>(hp1 hg)),(fun hg=>trivial),⟨trivial,(by subst hz1; rfl)⟩,(fun hg=>trivial),(fun hg=>(hp2 hg)),(fun hg=>trivial)⟩) ?_
  refine T_cond (bif z3 then true else (decide (((a0.getD (0:Int).toNat 0).toNat:Int) > (122:Int)))) (by kernel_rfl) (fun hc=>?_) (fun hc=>?_)
  · have h:=cond_tt hc h
    refine T_reg [] [2] [(2,.d (.v (.bool false)))] [] 1 (by kernel_rfl) (trivial) ?_
    obtain hs:=Option.some.inj h; subst hs
    refine T_ret fun a w hm=>then_ret (T_return (fr':=[(2,.d (.v (.bool false)))]) [2] (by kernel_rfl) [.keep [2]] (by kernel_rfl) (by kernel_rfl) (by kernel_rfl) (by show _=_; kernel_rfl) (by exact trivial) a w hm)
  · have h:=cond_ff hc h
    refine T_skip fun a w hm=>then_norm (((?_:T Tryd.prog e 51 _ _ _) a w hm))
    refine T_seqk ?_
    refine T_reg [] [0,22,23] [(22,.d (.v (.int .i64 (a0.length:Int)))),(23,.d (.v (.int .i64 (0:Int))))] [] 3 (by kernel_rfl) (trivial) ?_
    refine T_joinEt h (fun (p:Unit)=>[]) (fun s h hk1=>?_) (fun s h=>?_)
    · refine T_co [.keep [0,22,23]] ((fun (p:Int)=>[(0,.d (.str a0)),(22,.d (.v (.int .i64 (a0.length:Int)))),(23,.d (.v (.int .i64 p)))]) (0:Int)) (by show _=_; kernel_rfl) ?_
      refine T_block ?_
      refine T_loopF (ι:=Int) (fun (p:Int)=>[(0,.d (.str a0)),(22,.d (.v (.int .i64 (a0.length:Int)))),(23,.d (.v (.int .i64 p)))]) (fun n p=>ref3_IsName_L0 F a0 n p=some s) (fun i hh=>by simp [ref3_IsName_L0] at hh) (fun n v1 h=>?_) F (0:Int) h
      have h:ref3_IsName_L0 F a0 (n+1) v1=some s:=h
      rw [ref3_IsName_L0] at h
      refine T_reg [] [0,22,23,24] [(24,.d (.v (.bool (decide (v1 < (a0.length:Int))))))] [] 1 (by kernel_rfl) (trivial) ?_
      refine T_seqk ?_
      refine T_cond (decide (v1 < (a0.length:Int))) (by kernel_rfl) (fun hc=>?_) (fun hc=>?_)
      · have h:=cond_tt hc h
        refine T_skip fun a w hm=>then_norm (((?_:T Tryd.prog e 51 _ _ _) a w hm))
        refine T_seqk ?_
        refine T_block ?_
        refine T_reg [] [0,3,22,23] [(3,.d (.v (.int .i64 v1)))] [] 2 (by kernel_rfl) (trivial) ?_
        obtain ⟨hp3,h⟩:=chk_ok h
        obtain ⟨hp4,h⟩:=chk_ok h
        obtain ⟨z1,hz2,h⟩:=lett_ok h
        obtain ⟨hp5,h⟩:=chk_ok h
        obtain ⟨y1,hy1,h⟩:=call_ok h
        obtain ⟨hp6,h⟩:=chk_ok h
        obtain ⟨z2,hz3,h⟩:=lett_ok h
        refine T_reg [(9,{ rw:=some (.d (.v (.bool z1))) }),(15,{ res:=.d (.v (.bool y1)) }),(23,{ rw:=some (.d (.v (.bool z2))) })] [0,22,23,49] [(49,.d (.v (.bool z2)))] [(2,0≤v1∧v1 < a0.length),(2,((((decide (((a0.getD v1.toNat 0).toNat:Int) ≥ (97:Int))) == true) && true)=true→True)),(0,((((decide (((a0.getD v1.toNat 0).toNat:Int) ≥ (97:Int))) == true) && true)=true→True)),(0,((((decide (((a0.getD v1.toNat 0).toNat:Int) ≥ (97:Int))) == true) && true)=true→0≤v1∧v1 < a0.length)),(0,((((decide (((a0.getD v1.toNat 0).toNat:Int) ≥ (97:Int))) == true) && true)=true→True)),(0,(True)∧AV.d (.v (.bool (bif (decide (((a0.getD v1.toNat 0).toNat:Int) ≥ (97:Int))) then (decide (((a0.getD v1.toNat 0).toNat:Int)≤(122:Int))) else false)))=.d (.v (.bool z1))),(2,((((!z1) == true) && true)=true→True)),(0,((((!z1) == true) && true)=true→True)),(0,((((!z1) == true) && true)=true→0≤v1∧v1 < a0.length)),(0,((((!z1) == true) && true)=true→ACall Tryd.prog 18 [.d (.v (.int .u8 ((a0.getD v1.toNat 0).toNat:Int)))] [] (.d (.v (.bool y1))) [])),(0,((((!z1) == true) && true)=true→True)),(2,((((bif (!z1) then (!y1) else false) == true) && true)=true→True)),(0,((((bif (!z1) then (!y1) else false) == true) && true)=true→True)),(0,((((bif (!z1) then (!y1) else false) == true) && true)=true→0≤v1∧v1 < a0.length)),(0,((((bif (!z1) then (!y1) else false) == true) && true)=true→True)),(0,(True)∧AV.d (.v (.bool (bif (bif (!z1) then (!y1) else false) then (((a0.getD v1.toNat 0).toNat:Int) != (45:Int)) else false)))=.d (.v (.bool z2)))] 0 (by kernel_rfl) (⟨hp3,(fun hg=>trivial),(fun hg=>trivial),(fun hg=>(hp4 hg)),(fun hg=>trivial),⟨trivial,(by subst hz2; rfl)⟩,(fun hg=>trivial),(fun hg=>trivial),(fun hg=>(hp5 hg)),(fun hg=>ref3_digit_ok (gcall_ok hg hy1)),(fun hg=>trivial),(fun hg=>trivial),(fun hg=>trivial),(fun hg=>(hp6 hg)),(fun hg=>trivial),⟨trivial,(by subst hz3; rfl)⟩⟩) ?_
        refine T_cond z2 (by kernel_rfl) (fun hc=>?_) (fun hc=>?_)
        · have h:=cond_tt hc h
          refine T_reg [] [2] [(2,.d (.v (.bool false)))] [] 1 (by kernel_rfl) (trivial) ?_
          obtain hs:=Option.some.inj h; subst hs
          have h:=callE_esc hk1
          obtain hs:=Option.some.inj h; subst hs
          refine T_ret fun a w hm=>inBlock_ret (then_ret (then_ret (inBlock_ret (then_ret (then_ret (T_return (fr':=[(2,.d (.v (.bool false)))]) [2] (by kernel_rfl) [.keep [2]] (by kernel_rfl) (by kernel_rfl) (by kernel_rfl) (by show _=_; kernel_rfl) (by exact trivial) a w hm))))))
        · have h:=cond_ff hc h
          refine T_skip fun a w hm=>inBlock_norm (then_norm (((?_:T Tryd.prog e 51 _ _ _) a w hm)))
          refine T_reg_end [] [0,22,23] [(23,.d (.v (.int .i64 (IntKind.i64.wrap (v1+(1:Int))))))] [] 2 (by kernel_rfl) (trivial) fun a w hm=>then_norm (⟨IntKind.i64.wrap (v1+(1:Int)),h,hm.co (cs:=[.keep [0,22,23]]) (by show _=_; kernel_rfl)⟩)
      · have h:=cond_ff hc h
        obtain hs:=Option.some.inj h; subst hs
        refine T_exit fun a w hm=>then_exit (then_exit (inBlock_exit (then_norm (⟨_,rfl,hm.co (cs:=[.keep []]) (by show _=_; kernel_rfl)⟩))))
    · skip
      refine fun a w hm=>then_norm (((?_:T Tryd.prog e 51 _ _ _) a w hm))
      refine T_reg [] [2] [(2,.d (.v (.bool true)))] [] 1 (by kernel_rfl) (trivial) ?_
      obtain hs:=Option.some.inj h; subst hs
      refine T_ret fun a w hm=>T_return (fr':=[(2,.d (.v (.bool true)))]) [2] (by kernel_rfl) [.keep [2]] (by kernel_rfl) (by kernel_rfl) (by kernel_rfl) (by show _=_; kernel_rfl) (by exact trivial) a w hm
theorem ref3_HasText_ok {F:Nat} {a0:List (List UInt8)} {a1:List UInt8} {r:Bool} (h:ref3_HasText F a0 a1=some r):ACall Tryd.prog 9 [.d (.sl 1 (a0.map cS)),.d (.str a1)] [] (.d (.v (.bool r))) []:=by
  rw [ref3_HasText] at h
  refine ACall.intro (N:=17) Tryd.func9 rfl rfl rfl rfl rfl fun e=>?_
  refine T_reg [] [0,1] [] [] 1 (by kernel_rfl) (trivial) ?_
  refine T_seqk ?_
  refine T_reg [(1,{ rw:=some (.d (.v (.int .i64 (a0.length:Int)))) })] [1,7,8,9] [(7,.d (.sl 1 (a0.map cS))),(8,.d (.v (.int .i64 (a0.length:Int)))),(9,.d (.v (.int .i64 (0:Int))))] [(1,True∧AV.d (.v (.int .i64 ((a0.map cS).length:Int)))=.d (.v (.int .i64 (a0.length:Int))))] 1 (by kernel_rfl) (len_ok cS) ?_
  refine T_joinEt h (fun (p:Unit)=>[]) (fun s h hk1=>?_) (fun s h=>?_)
  · refine T_co [.keep [1,7,8,9]] ((fun (p:Int)=>[(1,.d (.str a1)),(7,.d (.sl 1 (a0.map cS))),(8,.d (.v (.int .i64 (a0.length:Int)))),(9,.d (.v (.int .i64 p)))]) (0:Int)) (by show _=_; kernel_rfl) ?_
    refine T_block ?_
    refine T_loopF (ι:=Int) (fun (p:Int)=>[(1,.d (.str a1)),(7,.d (.sl 1 (a0.map cS))),(8,.d (.v (.int .i64 (a0.length:Int)))),(9,.d (.v (.int .i64 p)))]) (fun n p=>ref3_HasText_L0 F a0 a1 n p=some s) (fun i hh=>by simp [ref3_HasText_L0] at hh) (fun n v1 h=>?_) F (0:Int) h
    have h:ref3_HasText_L0 F a0 a1 (n+1) v1=some s:=h
    rw [ref3_HasText_L0] at h
    refine T_reg [] [1,7,8,9,10] [(10,.d (.v (.bool (decide (v1 < (a0.length:Int))))))] [] 1 (by kernel_rfl) (trivial) ?_
    refine T_seqk ?_
    refine T_cond (decide (v1 < (a0.length:Int))) (by kernel_rfl) (fun hc=>?_) (fun hc=>?_)
    · have h:=cond_tt hc h
      refine T_skip fun a w hm=>then_norm (((?_:T Tryd.prog e 17 _ _ _) a w hm))
      refine T_seqk ?_
      refine T_block ?_
      obtain ⟨hp1,h⟩:=chk_ok h
      refine T_reg [(0,{ cs:=cS (a0.getD v1.toNat []) })] [1,6,7,8,9] [(6,.d (.str (a0.getD v1.toNat [])))] [(0,0≤v1∧(a0.map cS)[v1.toNat]? = some (cS (a0.getD v1.toNat [])))] 2 (by kernel_rfl) (idx_ok (d:=[]) cS hp1) ?_
      refine T_reg [] [1,7,8,9,15] [(15,.d (.v (.bool ((a0.getD v1.toNat []) == a1))))] [] 3 (by kernel_rfl) (trivial) ?_
      refine T_cond ((a0.getD v1.toNat []) == a1) (by kernel_rfl) (fun hc=>?_) (fun hc=>?_)
      · have h:=cond_tt hc h
        refine T_reg [] [4] [(4,.d (.v (.bool true)))] [] 1 (by kernel_rfl) (trivial) ?_
        obtain hs:=Option.some.inj h; subst hs
        have h:=callE_esc hk1
        obtain hs:=Option.some.inj h; subst hs
        refine T_ret fun a w hm=>inBlock_ret (then_ret (then_ret (inBlock_ret (then_ret (then_ret (T_return (fr':=[(4,.d (.v (.bool true)))]) [4] (by kernel_rfl) [.keep [4]] (by kernel_rfl) (by kernel_rfl) (by kernel_rfl) (by show _=_; kernel_rfl) (by exact trivial) a w hm))))))
      · have h:=cond_ff hc h
        refine T_skip fun a w hm=>inBlock_norm (then_norm (((?_:T Tryd.prog e 17 _ _ _) a w hm)))
        refine T_reg_end [] [1,7,8,9] [(9,.d (.v (.int .i64 (IntKind.i64.wrap (v1+(1:Int))))))] [] 2 (by kernel_rfl) (trivial) fun a w hm=>then_norm (⟨IntKind.i64.wrap (v1+(1:Int)),h,hm.co (cs:=[.keep [1,7,8,9]]) (by show _=_; kernel_rfl)⟩)
    · have h:=cond_ff hc h
      obtain hs:=Option.some.inj h; subst hs
      refine T_exit fun a w hm=>then_exit (then_exit (inBlock_exit (then_norm (⟨_,rfl,hm.co (cs:=[.keep []]) (by show _=_; kernel_rfl)⟩))))
  · skip
    refine fun a w hm=>then_norm (((?_:T Tryd.prog e 17 _ _ _) a w hm))
    refine T_reg [] [4] [(4,.d (.v (.bool false)))] [] 1 (by kernel_rfl) (trivial) ?_
    obtain hs:=Option.some.inj h; subst hs
    refine T_ret fun a w hm=>T_return (fr':=[(4,.d (.v (.bool false)))]) [4] (by kernel_rfl) [.keep [4]] (by kernel_rfl) (by kernel_rfl) (by kernel_rfl) (by show _=_; kernel_rfl) (by exact trivial) a w hm
theorem ref3_Quoted_ok {F:Nat} {a0:List UInt8} {r:Int} (h:ref3_Quoted F a0=some r):ACall Tryd.prog 10 [.d (.str a0)] [] (.d (.v (.int .i64 r))) []:=by
  rw [ref3_Quoted] at h
  refine ACall.intro (N:=45) Tryd.func10 rfl rfl rfl rfl rfl fun e=>?_
  refine T_reg [] [0] [] [] 1 (by kernel_rfl) (trivial) ?_
  refine T_reg [] [0,3,4] [(3,.d (.v (.int .i64 (a0.length:Int)))),(4,.d (.v (.bool (a0 == []))))] [] 6 (by kernel_rfl) (trivial) ?_
  refine T_seqk ?_
  refine T_reg [] [0,3,4,11,12] [(11,.d (.v (.int .i64 (a0.length:Int)))),(12,.d (.v (.int .i64 (0:Int))))] [] 3 (by kernel_rfl) (trivial) ?_
  refine T_joinct h (fun (p:Int×Bool)=>[(3,.d (.v (.int .i64 p.1))),(4,.d (.v (.bool p.2)))]) (fun s h=>?_) (fun s h=>?_)
  · refine T_co [.keep [0,3,4,11,12]] ((fun (p:Int×Bool×Int)=>[(0,.d (.str a0)),(3,.d (.v (.int .i64 p.1))),(4,.d (.v (.bool p.2.1))),(11,.d (.v (.int .i64 (a0.length:Int)))),(12,.d (.v (.int .i64 p.2.2)))]) ((a0.length:Int),(a0 == []),(0:Int))) (by show _=_; kernel_rfl) ?_
    refine T_block ?_
    refine T_loopF (ι:=Int×Bool×Int) (fun (p:Int×Bool×Int)=>[(0,.d (.str a0)),(3,.d (.v (.int .i64 p.1))),(4,.d (.v (.bool p.2.1))),(11,.d (.v (.int .i64 (a0.length:Int)))),(12,.d (.v (.int .i64 p.2.2)))]) (fun n p=>ref3_Quoted_L0 F a0 n p.1 p.2.1 p.2.2=some s) (fun i hh=>by simp [ref3_Quoted_L0] at hh) (fun n p h=>?_) F ((a0.length:Int),(a0 == []),(0:Int)) h
    obtain ⟨v1,v2,v3⟩:=p
    have h:ref3_Quoted_L0 F a0 (n+1) v1 v2 v3=some s:=h
    rw [ref3_Quoted_L0] at h
    refine T_reg [] [0,3,4,11,12,13] [(13,.d (.v (.bool (decide (v3 < (a0.length:Int))))))] [] 1 (by kernel_rfl) (trivial) ?_
    refine T_seqk ?_
    refine T_cond (decide (v3 < (a0.length:Int))) (by kernel_rfl) (fun hc=>?_) (fun hc=>?_)
    · have h:=cond_tt hc h
      refine T_skip fun a w hm=>then_norm (((?_:T Tryd.prog e 45 _ _ _) a w hm))
      refine T_seqk ?_
      refine T_block ?_
      refine T_reg [] [0,3,4,5,11,12] [(5,.d (.v (.int .i64 v3)))] [] 2 (by kernel_rfl) (trivial) ?_
      refine T_joinc h (fun (p:Int)=>[(0,.d (.str a0)),(3,.d (.v (.int .i64 p))),(4,.d (.v (.bool v2))),(5,.d (.v (.int .i64 v3))),(11,.d (.v (.int .i64 (a0.length:Int)))),(12,.d (.v (.int .i64 v3)))]) (fun s h=>?_) (fun v4 h=>?_)
      · obtain ⟨hp1,h⟩:=chk_ok h
        refine T_reg [] [0,3,4,5,11,12,18] [(18,.d (.v (.bool (((a0.getD v3.toNat 0).toNat:Int) == (34:Int)))))] [(2,0≤v3∧v3 < a0.length)] 1 (by kernel_rfl) (hp1) ?_
        refine T_cond (((a0.getD v3.toNat 0).toNat:Int) == (34:Int)) (by kernel_rfl) (fun hc=>?_) (fun hc=>?_)
        · have h:=cond_tt hc h
          obtain hs:=Option.some.inj h; subst hs
          refine T_reg_end [] [0,3,4,5,11,12] [(3,.d (.v (.int .i64 (IntKind.i64.wrap (v1+(1:Int))))))] [] 3 (by kernel_rfl) (trivial) fun a w hm=>then_norm (hm.co (cs:=[.keep [0,3,4,5,11,12]]) (by show _=_; kernel_rfl))
        · have h:=cond_ff hc h
          obtain hs:=Option.some.inj h; subst hs
          refine T_skip fun a w hm=>then_norm (hm.co (cs:=[.keep [0,3,4,5,11,12]]) (by show _=_; kernel_rfl))
      · skip
        obtain ⟨hp2,h⟩:=chk_ok h
        obtain ⟨hp3,h⟩:=chk_ok h
        obtain ⟨z1,hz1,h⟩:=lett_ok h
        obtain ⟨hp4,h⟩:=chk_ok h
        refine T_reg_end [(12,{ rw:=some (.d (.v (.bool z1))) })] [0,3,4,11,12] [(4,.d (.v (.bool (bif z1 then true else (((a0.getD v3.toNat 0).toNat:Int) == (10:Int))))))] [(2,(((v2 == false) && true)=true→True)),(0,(((v2 == false) && true)=true→True)),(0,(((v2 == false) && true)=true→0≤v3∧v3 < a0.length)),(0,(((v2 == false) && true)=true→True)),(2,((((bif v2 then true else (((a0.getD v3.toNat 0).toNat:Int) == (34:Int))) == false) && true)=true→True)),(0,((((bif v2 then true else (((a0.getD v3.toNat 0).toNat:Int) == (34:Int))) == false) && true)=true→True)),(0,((((bif v2 then true else (((a0.getD v3.toNat 0).toNat:Int) == (34:Int))) == false) && true)=true→0≤v3∧v3 < a0.length)),(0,((((bif v2 then true else (((a0.getD v3.toNat 0).toNat:Int) == (34:Int))) == false) && true)=true→True)),(0,(True)∧AV.d (.v (.bool (bif (bif v2 then true else (((a0.getD v3.toNat 0).toNat:Int) == (34:Int))) then true else (((a0.getD v3.toNat 0).toNat:Int) == (44:Int)))))=.d (.v (.bool z1))),(1,(((z1 == false) && true)=true→True)),(0,(((z1 == false) && true)=true→True)),(0,(((z1 == false) && true)=true→0≤v3∧v3 < a0.length)),(0,(((z1 == false) && true)=true→True))] 2 (by kernel_rfl) (⟨(fun hg=>trivial),(fun hg=>trivial),(fun hg=>(hp2 hg)),(fun hg=>trivial),(fun hg=>trivial),(fun hg=>trivial),(fun hg=>(hp3 hg)),(fun hg=>trivial),⟨trivial,(by subst hz1; rfl)⟩,(fun hg=>trivial),(fun hg=>trivial),(fun hg=>(hp4 hg)),(fun hg=>trivial)⟩) fun a w hm=>inBlock_norm (then_norm (((?_:T Tryd.prog e 45 _ _ _) a w hm)))
        refine T_reg_end [] [0,3,4,11,12] [(12,.d (.v (.int .i64 (IntKind.i64.wrap (v3+(1:Int))))))] [] 2 (by kernel_rfl) (trivial) fun a w hm=>then_norm (⟨(v4,(bif z1 then true else (((a0.getD v3.toNat 0).toNat:Int) == (10:Int))),IntKind.i64.wrap (v3+(1:Int))),h,hm.co (cs:=[.keep [0,3,4,11,12]]) (by show _=_; kernel_rfl)⟩)
    · have h:=cond_ff hc h
      obtain hs:=Option.some.inj h; subst hs
      refine T_exit fun a w hm=>then_exit (then_exit (inBlock_exit (then_norm (hm.co (cs:=[.keep [3,4]]) (by show _=_; kernel_rfl)))))
  · obtain ⟨v5,v6⟩:=s
    try dsimp only at h
    refine fun a w hm=>then_norm (((?_:T Tryd.prog e 45 _ _ _) a w hm))
    refine T_seqk ?_
    refine T_reg [] [3,41] [(41,.d (.v (.bool v6)))] [] 1 (by kernel_rfl) (trivial) ?_
    refine T_cond v6 (by kernel_rfl) (fun hc=>?_) (fun hc=>?_)
    · have h:=cond_tt hc h
      refine T_reg [] [2] [(2,.d (.v (.int .i64 (IntKind.i64.wrap (v5+(2:Int))))))] [] 3 (by kernel_rfl) (trivial) ?_
      obtain hs:=Option.some.inj h; subst hs
      refine T_ret fun a w hm=>then_ret (T_return (fr':=[(2,.d (.v (.int .i64 (IntKind.i64.wrap (v5+(2:Int))))))]) [2] (by kernel_rfl) [.keep [2]] (by kernel_rfl) (by kernel_rfl) (by kernel_rfl) (by show _=_; kernel_rfl) (by exact trivial) a w hm)
    · have h:=cond_ff hc h
      refine T_skip fun a w hm=>then_norm (((?_:T Tryd.prog e 45 _ _ _) a w hm))
      refine T_reg [] [2] [(2,.d (.v (.int .i64 v5)))] [] 2 (by kernel_rfl) (trivial) ?_
      obtain hs:=Option.some.inj h; subst hs
      refine T_ret fun a w hm=>T_return (fr':=[(2,.d (.v (.int .i64 v5)))]) [2] (by kernel_rfl) [.keep [2]] (by kernel_rfl) (by kernel_rfl) (by kernel_rfl) (by show _=_; kernel_rfl) (by exact trivial) a w hm
end Go.Vm.MrgG
