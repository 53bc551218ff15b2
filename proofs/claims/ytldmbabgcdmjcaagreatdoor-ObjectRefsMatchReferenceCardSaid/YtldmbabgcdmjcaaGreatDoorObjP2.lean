import Derived.Test.YtldmbabgcdmjcaaGreatDoorObjP
namespace Go.Vm.ObjG
open Go.Proofs
set_option maxRecDepth 20000
theorem object_parser_leaf_ok {F:Nat} {c0:List UInt8} {c1:Int} {c2:Int} {c3:List UInt8} {c4:Int} {c5:Int} {r:S_Object×(List UInt8)×Int×Int×(List UInt8)×Int×Int} (h:object_parser_leaf F c0 c1 c2 c3 c4 c5=some r):ACall Tryz.prog 34 [.bp 1000000 0] [.box [.d (.str c0),.d (.v (.int .i64 c1)),.d (.v (.int .i64 c2)),.d (.str c3),.d (.v (.int .i64 c4)),.d (.v (.int .i64 c5))]] (.agg (cS_Object r.1)) [.box [.d (.str r.2.1),.d (.v (.int .i64 r.2.2.1)),.d (.v (.int .i64 r.2.2.2.1)),.d (.str r.2.2.2.2.1),.d (.v (.int .i64 r.2.2.2.2.2.1)),.d (.v (.int .i64 r.2.2.2.2.2.2))]]:=by
  rw [object_parser_leaf] at h
  refine ACall.intro (N:=45) Tryz.func34 rfl rfl rfl rfl rfl fun e=>?_
  refine T_reg [] [0,2,1000000] [(2,.box [.d (.v (.int .i64 0)),.d (.v (.int .i64 0)),.d (.str []),.own 9 1 ([].map cS),.own 26 5 ([].map rS_Object)])] [] 1 (by kernel_rfl) (trivial) ?_
  refine T_reg [] [2,3,1000000] [(3,.box [.d (.v (.int .i64 c1)),.d (.v (.int .i64 c2)),.d (.str c3),.d (.v (.int .i64 c4)),.d (.v (.int .i64 c5))])] [] 6 (by kernel_rfl) (trivial) ?_
  refine T_seqk ?_
  refine T_reg [] [2,3,9,1000000] [(9,.d (.v (.int .i64 c1)))] [] 2 (by kernel_rfl) (trivial) ?_
  refine T_block ?_
  refine T_reg [] [2,3,9,10,1000000] [(10,.d (.v (.bool (c1 == (1:Int)))))] [] 2 (by kernel_rfl) (trivial) ?_
  refine T_cond (c1 == (1:Int)) (by kernel_rfl) (fun hc=>?_) (fun hc=>?_)
  · have h:=cond_tt hc h
    refine T_region [(2,{ take:=[0] })] [2,1000000] [.nilc 2 3 9 1,.nilc 2 4 26 5,.keep [2,1000000]] [(2,.box [.d (.v (.int .i64 (2:Int))),.d (.v (.int .i64 c2)),.d (.str []),.own 9 1 ([].map cS),.own 26 5 ([].map rS_Object)]),(1000000,.box [.d (.str c0),.d (.v (.int .i64 c1)),.d (.v (.int .i64 c2)),.d (.str c3),.d (.v (.int .i64 c4)),.d (.v (.int .i64 c5))])] [] 4 (by kernel_rfl) (trivial) ?_
    obtain hs:=Option.some.inj h; subst hs
    refine T_ret fun a w hm=>inBlock_ret (then_ret (T_returnC (fr':=[(2,.box [.d (.v (.int .i64 (2:Int))),.d (.v (.int .i64 c2)),.d (.str []),.fz 1 ([].map cS),.fz 5 ([].map rS_Object)]),(1000000,.box [.d (.str c0),.d (.v (.int .i64 c1)),.d (.v (.int .i64 c2)),.d (.str c3),.d (.v (.int .i64 c4)),.d (.v (.int .i64 c5))])]) (ts:=[45]) (N':=46) (fr2:=[(45,.agg (cS_Object (S_Object.mk (2:Int) c2 [] [] [])))]++[(2,.box [.d (.v (.int .i64 (2:Int))),.d (.v (.int .i64 c2)),.d (.str []),.fz 1 ([].map cS),.fz 5 ([].map rS_Object)]),(1000000,.box [.d (.str c0),.d (.v (.int .i64 c1)),.d (.v (.int .i64 c2)),.d (.str c3),.d (.v (.int .i64 c4)),.d (.v (.int .i64 c5))])]) [.frz (2,4),.frz (2,5),.keep [2,1000000]] (by kernel_rfl) (by kernel_rfl) (by kernel_rfl) (by kernel_rfl) (by show _=_; kernel_rfl) (by exact ⟨⟨by kernel_rfl,by kernel_rfl⟩,trivial⟩) a w hm))
  · have h:=cond_ff hc h
    refine T_reg [] [2,3,9,15,1000000] [(15,.d (.v (.bool (c1 == (2:Int)))))] [] 2 (by kernel_rfl) (trivial) ?_
    refine T_cond (c1 == (2:Int)) (by kernel_rfl) (fun hc=>?_) (fun hc=>?_)
    · have h:=cond_tt hc h
      refine T_region [(2,{ take:=[0] })] [2,1000000] [.nilc 2 3 9 1,.nilc 2 4 26 5,.keep [2,1000000]] [(2,.box [.d (.v (.int .i64 (3:Int))),.d (.v (.int .i64 0)),.d (.str c3),.own 9 1 ([].map cS),.own 26 5 ([].map rS_Object)]),(1000000,.box [.d (.str c0),.d (.v (.int .i64 c1)),.d (.v (.int .i64 c2)),.d (.str c3),.d (.v (.int .i64 c4)),.d (.v (.int .i64 c5))])] [] 4 (by kernel_rfl) (trivial) ?_
      obtain hs:=Option.some.inj h; subst hs
      refine T_ret fun a w hm=>inBlock_ret (then_ret (T_returnC (fr':=[(2,.box [.d (.v (.int .i64 (3:Int))),.d (.v (.int .i64 0)),.d (.str c3),.fz 1 ([].map cS),.fz 5 ([].map rS_Object)]),(1000000,.box [.d (.str c0),.d (.v (.int .i64 c1)),.d (.v (.int .i64 c2)),.d (.str c3),.d (.v (.int .i64 c4)),.d (.v (.int .i64 c5))])]) (ts:=[45]) (N':=46) (fr2:=[(45,.agg (cS_Object (S_Object.mk (3:Int) 0 c3 [] [])))]++[(2,.box [.d (.v (.int .i64 (3:Int))),.d (.v (.int .i64 0)),.d (.str c3),.fz 1 ([].map cS),.fz 5 ([].map rS_Object)]),(1000000,.box [.d (.str c0),.d (.v (.int .i64 c1)),.d (.v (.int .i64 c2)),.d (.str c3),.d (.v (.int .i64 c4)),.d (.v (.int .i64 c5))])]) [.frz (2,4),.frz (2,5),.keep [2,1000000]] (by kernel_rfl) (by kernel_rfl) (by kernel_rfl) (by kernel_rfl) (by show _=_; kernel_rfl) (by exact ⟨⟨by kernel_rfl,by kernel_rfl⟩,trivial⟩) a w hm))
    · have h:=cond_ff hc h
      refine T_reg [] [2,3,9,20,1000000] [(20,.d (.v (.bool (c1 == (3:Int)))))] [] 2 (by kernel_rfl) (trivial) ?_
      refine T_cond (c1 == (3:Int)) (by kernel_rfl) (fun hc=>?_) (fun hc=>?_)
      · have h:=cond_tt hc h
        refine T_region [(2,{ take:=[0] })] [2,1000000] [.nilc 2 3 9 1,.nilc 2 4 26 5,.keep [2,1000000]] [(2,.box [.d (.v (.int .i64 (4:Int))),.d (.v (.int .i64 0)),.d (.str c3),.own 9 1 ([].map cS),.own 26 5 ([].map rS_Object)]),(1000000,.box [.d (.str c0),.d (.v (.int .i64 c1)),.d (.v (.int .i64 c2)),.d (.str c3),.d (.v (.int .i64 c4)),.d (.v (.int .i64 c5))])] [] 4 (by kernel_rfl) (trivial) ?_
        obtain hs:=Option.some.inj h; subst hs
        refine T_ret fun a w hm=>inBlock_ret (then_ret (T_returnC (fr':=[(2,.box [.d (.v (.int .i64 (4:Int))),.d (.v (.int .i64 0)),.d (.str c3),.fz 1 ([].map cS),.fz 5 ([].map rS_Object)]),(1000000,.box [.d (.str c0),.d (.v (.int .i64 c1)),.d (.v (.int .i64 c2)),.d (.str c3),.d (.v (.int .i64 c4)),.d (.v (.int .i64 c5))])]) (ts:=[45]) (N':=46) (fr2:=[(45,.agg (cS_Object (S_Object.mk (4:Int) 0 c3 [] [])))]++[(2,.box [.d (.v (.int .i64 (4:Int))),.d (.v (.int .i64 0)),.d (.str c3),.fz 1 ([].map cS),.fz 5 ([].map rS_Object)]),(1000000,.box [.d (.str c0),.d (.v (.int .i64 c1)),.d (.v (.int .i64 c2)),.d (.str c3),.d (.v (.int .i64 c4)),.d (.v (.int .i64 c5))])]) [.frz (2,4),.frz (2,5),.keep [2,1000000]] (by kernel_rfl) (by kernel_rfl) (by kernel_rfl) (by kernel_rfl) (by show _=_; kernel_rfl) (by exact ⟨⟨by kernel_rfl,by kernel_rfl⟩,trivial⟩) a w hm))
      · have h:=cond_ff hc h
        refine T_reg [] [2,3,25,1000000] [(25,.d (.v (.bool (c1 == (4:Int)))))] [] 2 (by kernel_rfl) (trivial) ?_
        refine T_cond (c1 == (4:Int)) (by kernel_rfl) (fun hc=>?_) (fun hc=>?_)
        · have h:=cond_tt hc h
          refine T_region [(2,{ take:=[0] })] [2,1000000] [.nilc 2 3 9 1,.nilc 2 4 26 5,.keep [2,1000000]] [(2,.box [.d (.v (.int .i64 (5:Int))),.d (.v (.int .i64 c2)),.d (.str []),.own 9 1 ([].map cS),.own 26 5 ([].map rS_Object)]),(1000000,.box [.d (.str c0),.d (.v (.int .i64 c1)),.d (.v (.int .i64 c2)),.d (.str c3),.d (.v (.int .i64 c4)),.d (.v (.int .i64 c5))])] [] 4 (by kernel_rfl) (trivial) ?_
          obtain hs:=Option.some.inj h; subst hs
          refine T_ret fun a w hm=>inBlock_ret (then_ret (T_returnC (fr':=[(2,.box [.d (.v (.int .i64 (5:Int))),.d (.v (.int .i64 c2)),.d (.str []),.fz 1 ([].map cS),.fz 5 ([].map rS_Object)]),(1000000,.box [.d (.str c0),.d (.v (.int .i64 c1)),.d (.v (.int .i64 c2)),.d (.str c3),.d (.v (.int .i64 c4)),.d (.v (.int .i64 c5))])]) (ts:=[45]) (N':=46) (fr2:=[(45,.agg (cS_Object (S_Object.mk (5:Int) c2 [] [] [])))]++[(2,.box [.d (.v (.int .i64 (5:Int))),.d (.v (.int .i64 c2)),.d (.str []),.fz 1 ([].map cS),.fz 5 ([].map rS_Object)]),(1000000,.box [.d (.str c0),.d (.v (.int .i64 c1)),.d (.v (.int .i64 c2)),.d (.str c3),.d (.v (.int .i64 c4)),.d (.v (.int .i64 c5))])]) [.frz (2,4),.frz (2,5),.keep [2,1000000]] (by kernel_rfl) (by kernel_rfl) (by kernel_rfl) (by kernel_rfl) (by show _=_; kernel_rfl) (by exact ⟨⟨by kernel_rfl,by kernel_rfl⟩,trivial⟩) a w hm))
        · have h:=cond_ff hc h
          refine T_skip fun a w hm=>inBlock_norm (then_norm (((?_:T Tryz.prog e 45 _ _ _) a w hm)))
          refine T_seqk ?_
          refine T_reg [] [2,3,31,1000000] [(31,.d (.str c3))] [] 2 (by kernel_rfl) (trivial) ?_
          refine T_block ?_
          refine T_reg [] [2,3,31,32,1000000] [(32,.d (.v (.bool (c3 == ([110,117,108,108]:List UInt8)))))] [] 2 (by kernel_rfl) (trivial) ?_
          refine T_cond (c3 == ([110,117,108,108]:List UInt8)) (by kernel_rfl) (fun hc=>?_) (fun hc=>?_)
          · have h:=cond_tt hc h
            refine T_region [(0,{ take:=[0] })] [2,1000000] [.nilc 2 3 9 1,.nilc 2 4 26 5,.keep [2,1000000]] [(2,.box [.d (.v (.int .i64 0)),.d (.v (.int .i64 0)),.d (.str []),.own 9 1 ([].map cS),.own 26 5 ([].map rS_Object)]),(1000000,.box [.d (.str c0),.d (.v (.int .i64 c1)),.d (.v (.int .i64 c2)),.d (.str c3),.d (.v (.int .i64 c4)),.d (.v (.int .i64 c5))])] [] 2 (by kernel_rfl) (trivial) ?_
            obtain hs:=Option.some.inj h; subst hs
            refine T_ret fun a w hm=>inBlock_ret (then_ret (T_returnC (fr':=[(2,.box [.d (.v (.int .i64 0)),.d (.v (.int .i64 0)),.d (.str []),.fz 1 ([].map cS),.fz 5 ([].map rS_Object)]),(1000000,.box [.d (.str c0),.d (.v (.int .i64 c1)),.d (.v (.int .i64 c2)),.d (.str c3),.d (.v (.int .i64 c4)),.d (.v (.int .i64 c5))])]) (ts:=[45]) (N':=46) (fr2:=[(45,.agg (cS_Object (S_Object.mk 0 0 [] [] [])))]++[(2,.box [.d (.v (.int .i64 0)),.d (.v (.int .i64 0)),.d (.str []),.fz 1 ([].map cS),.fz 5 ([].map rS_Object)]),(1000000,.box [.d (.str c0),.d (.v (.int .i64 c1)),.d (.v (.int .i64 c2)),.d (.str c3),.d (.v (.int .i64 c4)),.d (.v (.int .i64 c5))])]) [.frz (2,4),.frz (2,5),.keep [2,1000000]] (by kernel_rfl) (by kernel_rfl) (by kernel_rfl) (by kernel_rfl) (by show _=_; kernel_rfl) (by exact ⟨⟨by kernel_rfl,by kernel_rfl⟩,trivial⟩) a w hm))
          · have h:=cond_ff hc h
            refine T_reg [] [2,3,31,35,1000000] [(35,.d (.v (.bool (c3 == ([116,114,117,101]:List UInt8)))))] [] 2 (by kernel_rfl) (trivial) ?_
            refine T_cond (c3 == ([116,114,117,101]:List UInt8)) (by kernel_rfl) (fun hc=>?_) (fun hc=>?_)
            · have h:=cond_tt hc h
              refine T_region [(0,{ take:=[0] })] [2,1000000] [.nilc 2 3 9 1,.nilc 2 4 26 5,.keep [2,1000000]] [(2,.box [.d (.v (.int .i64 (1:Int))),.d (.v (.int .i64 (1:Int))),.d (.str []),.own 9 1 ([].map cS),.own 26 5 ([].map rS_Object)]),(1000000,.box [.d (.str c0),.d (.v (.int .i64 c1)),.d (.v (.int .i64 c2)),.d (.str c3),.d (.v (.int .i64 c4)),.d (.v (.int .i64 c5))])] [] 2 (by kernel_rfl) (trivial) ?_
              obtain hs:=Option.some.inj h; subst hs
              refine T_ret fun a w hm=>inBlock_ret (then_ret (T_returnC (fr':=[(2,.box [.d (.v (.int .i64 (1:Int))),.d (.v (.int .i64 (1:Int))),.d (.str []),.fz 1 ([].map cS),.fz 5 ([].map rS_Object)]),(1000000,.box [.d (.str c0),.d (.v (.int .i64 c1)),.d (.v (.int .i64 c2)),.d (.str c3),.d (.v (.int .i64 c4)),.d (.v (.int .i64 c5))])]) (ts:=[45]) (N':=46) (fr2:=[(45,.agg (cS_Object (S_Object.mk (1:Int) (1:Int) [] [] [])))]++[(2,.box [.d (.v (.int .i64 (1:Int))),.d (.v (.int .i64 (1:Int))),.d (.str []),.fz 1 ([].map cS),.fz 5 ([].map rS_Object)]),(1000000,.box [.d (.str c0),.d (.v (.int .i64 c1)),.d (.v (.int .i64 c2)),.d (.str c3),.d (.v (.int .i64 c4)),.d (.v (.int .i64 c5))])]) [.frz (2,4),.frz (2,5),.keep [2,1000000]] (by kernel_rfl) (by kernel_rfl) (by kernel_rfl) (by kernel_rfl) (by show _=_; kernel_rfl) (by exact ⟨⟨by kernel_rfl,by kernel_rfl⟩,trivial⟩) a w hm))
            · have h:=cond_ff hc h
              refine T_reg [] [2,3,38,1000000] [(38,.d (.v (.bool (c3 == ([102,97,108,115,101]:List UInt8)))))] [] 2 (by kernel_rfl) (trivial) ?_
              refine T_cond (c3 == ([102,97,108,115,101]:List UInt8)) (by kernel_rfl) (fun hc=>?_) (fun hc=>?_)
              · have h:=cond_tt hc h
                refine T_region [(0,{ take:=[0] })] [2,1000000] [.nilc 2 3 9 1,.nilc 2 4 26 5,.keep [2,1000000]] [(2,.box [.d (.v (.int .i64 (1:Int))),.d (.v (.int .i64 0)),.d (.str []),.own 9 1 ([].map cS),.own 26 5 ([].map rS_Object)]),(1000000,.box [.d (.str c0),.d (.v (.int .i64 c1)),.d (.v (.int .i64 c2)),.d (.str c3),.d (.v (.int .i64 c4)),.d (.v (.int .i64 c5))])] [] 2 (by kernel_rfl) (trivial) ?_
                obtain hs:=Option.some.inj h; subst hs
                refine T_ret fun a w hm=>inBlock_ret (then_ret (T_returnC (fr':=[(2,.box [.d (.v (.int .i64 (1:Int))),.d (.v (.int .i64 0)),.d (.str []),.fz 1 ([].map cS),.fz 5 ([].map rS_Object)]),(1000000,.box [.d (.str c0),.d (.v (.int .i64 c1)),.d (.v (.int .i64 c2)),.d (.str c3),.d (.v (.int .i64 c4)),.d (.v (.int .i64 c5))])]) (ts:=[45]) (N':=46) (fr2:=[(45,.agg (cS_Object (S_Object.mk (1:Int) 0 [] [] [])))]++[(2,.box [.d (.v (.int .i64 (1:Int))),.d (.v (.int .i64 0)),.d (.str []),.fz 1 ([].map cS),.fz 5 ([].map rS_Object)]),(1000000,.box [.d (.str c0),.d (.v (.int .i64 c1)),.d (.v (.int .i64 c2)),.d (.str c3),.d (.v (.int .i64 c4)),.d (.v (.int .i64 c5))])]) [.frz (2,4),.frz (2,5),.keep [2,1000000]] (by kernel_rfl) (by kernel_rfl) (by kernel_rfl) (by kernel_rfl) (by show _=_; kernel_rfl) (by exact ⟨⟨by kernel_rfl,by kernel_rfl⟩,trivial⟩) a w hm))
              · have h:=cond_ff hc h
                refine T_skip fun a w hm=>inBlock_norm (then_norm (((?_:T Tryz.prog e 45 _ _ _) a w hm)))
                obtain ⟨y1,hy1,h⟩:=call_ok h
                refine T_reg [(2,{ res:=.tup [] })] [2,1000000] [] [(2,ACall Tryz.prog 19 [.d (.v (.int .i64 c4)),.d (.v (.int .i64 (6:Int)))] [] (.tup []) [])] 0 (by kernel_rfl) (object_fail_ok hy1) ?_
                refine T_region [(0,{ take:=[0] })] [2,1000000] [.nilc 2 3 9 1,.nilc 2 4 26 5,.keep [2,1000000]] [(2,.box [.d (.v (.int .i64 0)),.d (.v (.int .i64 0)),.d (.str []),.own 9 1 ([].map cS),.own 26 5 ([].map rS_Object)]),(1000000,.box [.d (.str c0),.d (.v (.int .i64 c1)),.d (.v (.int .i64 c2)),.d (.str c3),.d (.v (.int .i64 c4)),.d (.v (.int .i64 c5))])] [] 2 (by kernel_rfl) (trivial) ?_
                obtain hs:=Option.some.inj h; subst hs
                refine T_ret fun a w hm=>T_returnC (fr':=[(2,.box [.d (.v (.int .i64 0)),.d (.v (.int .i64 0)),.d (.str []),.fz 1 ([].map cS),.fz 5 ([].map rS_Object)]),(1000000,.box [.d (.str c0),.d (.v (.int .i64 c1)),.d (.v (.int .i64 c2)),.d (.str c3),.d (.v (.int .i64 c4)),.d (.v (.int .i64 c5))])]) (ts:=[45]) (N':=46) (fr2:=[(45,.agg (cS_Object (S_Object.mk 0 0 [] [] [])))]++[(2,.box [.d (.v (.int .i64 0)),.d (.v (.int .i64 0)),.d (.str []),.fz 1 ([].map cS),.fz 5 ([].map rS_Object)]),(1000000,.box [.d (.str c0),.d (.v (.int .i64 c1)),.d (.v (.int .i64 c2)),.d (.str c3),.d (.v (.int .i64 c4)),.d (.v (.int .i64 c5))])]) [.frz (2,4),.frz (2,5),.keep [2,1000000]] (by kernel_rfl) (by kernel_rfl) (by kernel_rfl) (by kernel_rfl) (by show _=_; kernel_rfl) (by exact ⟨⟨by kernel_rfl,by kernel_rfl⟩,trivial⟩) a w hm
theorem object_parser_object_body_ok {F:Nat} {rec_object_parser_object:Int→(List UInt8)→Int→Int→(List UInt8)→Int→Int→Option (S_Object×(List UInt8)×Int×Int×(List UInt8)×Int×Int)} (hrec_object_parser_object:∀ {a0:Int},∀ {c1:List UInt8},∀ {c2:Int},∀ {c3:Int},∀ {c4:List UInt8},∀ {c5:Int},∀ {c6:Int},∀ {r:S_Object×(List UInt8)×Int×Int×(List UInt8)×Int×Int},rec_object_parser_object a0 c1 c2 c3 c4 c5 c6=some r→ACall Tryz.prog 18 [.bp 1000000 0,.d (.v (.int .i64 a0))] [.box [.d (.str c1),.d (.v (.int .i64 c2)),.d (.v (.int .i64 c3)),.d (.str c4),.d (.v (.int .i64 c5)),.d (.v (.int .i64 c6))]] (.agg (cS_Object r.1)) [.box [.d (.str r.2.1),.d (.v (.int .i64 r.2.2.1)),.d (.v (.int .i64 r.2.2.2.1)),.d (.str r.2.2.2.2.1),.d (.v (.int .i64 r.2.2.2.2.2.1)),.d (.v (.int .i64 r.2.2.2.2.2.2))]]) {a0:Int} {c1:List UInt8} {c2:Int} {c3:Int} {c4:List UInt8} {c5:Int} {c6:Int} {r:S_Object×(List UInt8)×Int×Int×(List UInt8)×Int×Int} (h:object_parser_object_body F rec_object_parser_object a0 c1 c2 c3 c4 c5 c6=some r):ACall Tryz.prog 18 [.bp 1000000 0,.d (.v (.int .i64 a0))] [.box [.d (.str c1),.d (.v (.int .i64 c2)),.d (.v (.int .i64 c3)),.d (.str c4),.d (.v (.int .i64 c5)),.d (.v (.int .i64 c6))]] (.agg (cS_Object r.1)) [.box [.d (.str r.2.1),.d (.v (.int .i64 r.2.2.1)),.d (.v (.int .i64 r.2.2.2.1)),.d (.str r.2.2.2.2.1),.d (.v (.int .i64 r.2.2.2.2.2.1)),.d (.v (.int .i64 r.2.2.2.2.2.2))]]:=by
  rw [object_parser_object_body] at h
  refine ACall.intro (N:=51) Tryz.func18 rfl rfl rfl rfl rfl fun e=>?_
  refine T_reg [] [0,1,4,1000000] [(4,.box [.d (.v (.int .i64 0)),.d (.v (.int .i64 0)),.d (.str []),.own 9 1 ([].map cS),.own 26 5 ([].map rS_Object)])] [] 1 (by kernel_rfl) (trivial) ?_
  refine T_reg [] [0,1,4,5,1000000] [(5,.box [.d (.v (.int .i64 c2)),.d (.v (.int .i64 c3)),.d (.str c4),.d (.v (.int .i64 c5)),.d (.v (.int .i64 c6))])] [] 6 (by kernel_rfl) (trivial) ?_
  refine T_joinE h (fun (p:Unit)=>[(0,.bp 1000000 0),(4,.box [.d (.v (.int .i64 0)),.d (.v (.int .i64 0)),.d (.str []),.own 9 1 ([].map cS),.own 26 5 ([].map rS_Object)]),(1000000,.box [.d (.str c1),.d (.v (.int .i64 c2)),.d (.v (.int .i64 c3)),.d (.str c4),.d (.v (.int .i64 c5)),.d (.v (.int .i64 c6))])]) (fun s h hk1=>?_) (fun s h=>?_)
  · refine T_block ?_
    refine T_reg [] [0,1,4,5,10,1000000] [(10,.d (.v (.bool (c2 == (0:Int)))))] [] 4 (by kernel_rfl) (trivial) ?_
    refine T_cond (c2 == (0:Int)) (by kernel_rfl) (fun hc=>?_) (fun hc=>?_)
    · have h:=cond_tt hc h
      obtain ⟨y1,hy1,h⟩:=call_ok h
      obtain hs:=Option.some.inj h; subst hs
      refine T_reg_end [(2,{ res:=.tup [] })] [0,4,1000000] [] [(2,ACall Tryz.prog 19 [.d (.v (.int .i64 c5)),.d (.v (.int .i64 (12:Int)))] [] (.tup []) [])] 0 (by kernel_rfl) (object_fail_ok hy1) fun a w hm=>inBlock_norm (then_norm (⟨_,rfl,hm.co (cs:=[.keep [0,4,1000000]]) (by show _=_; kernel_rfl)⟩))
    · have h:=cond_ff hc h
      refine T_reg [] [0,1,4,5,17,1000000] [(17,.d (.v (.bool (bif (c2 == (7:Int)) then true else (c2 == (9:Int))))))] [(4,((((c2 == (7:Int)) == false) && true)=true→True)),(0,((((c2 == (7:Int)) == false) && true)=true→True)),(0,((((c2 == (7:Int)) == false) && true)=true→True))] 2 (by kernel_rfl) (⟨(fun hg=>trivial),(fun hg=>trivial),(fun hg=>trivial)⟩) ?_
      refine T_cond (bif (c2 == (7:Int)) then true else (c2 == (9:Int))) (by kernel_rfl) (fun hc=>?_) (fun hc=>?_)
      · have h:=cond_tt hc h
        obtain ⟨y2,hy2,h⟩:=call_ok h
        obtain hs:=Option.some.inj h; subst hs
        refine T_reg_end [(2,{ res:=.tup [] })] [0,4,1000000] [] [(2,ACall Tryz.prog 19 [.d (.v (.int .i64 c5)),.d (.v (.int .i64 (5:Int)))] [] (.tup []) [])] 0 (by kernel_rfl) (object_fail_ok hy2) fun a w hm=>inBlock_norm (then_norm (⟨_,rfl,hm.co (cs:=[.keep [0,4,1000000]]) (by show _=_; kernel_rfl)⟩))
      · have h:=cond_ff hc h
        refine T_reg [] [0,1,4,5,29,1000000] [(29,.d (.v (.bool (decide (a0 > (12:Int))))))] [] 3 (by kernel_rfl) (trivial) ?_
        refine T_cond (decide (a0 > (12:Int))) (by kernel_rfl) (fun hc=>?_) (fun hc=>?_)
        · have h:=cond_tt hc h
          obtain ⟨y3,hy3,h⟩:=call_ok h
          obtain hs:=Option.some.inj h; subst hs
          refine T_reg_end [(2,{ res:=.tup [] })] [0,4,1000000] [] [(2,ACall Tryz.prog 19 [.d (.v (.int .i64 c5)),.d (.v (.int .i64 (15:Int)))] [] (.tup []) [])] 0 (by kernel_rfl) (object_fail_ok hy3) fun a w hm=>inBlock_norm (then_norm (⟨_,rfl,hm.co (cs:=[.keep [0,4,1000000]]) (by show _=_; kernel_rfl)⟩))
        · have h:=cond_ff hc h
          refine T_reg [] [0,1,4,5,35,1000000] [(35,.d (.v (.bool (c2 == (6:Int)))))] [] 4 (by kernel_rfl) (trivial) ?_
          refine T_cond (c2 == (6:Int)) (by kernel_rfl) (fun hc=>?_) (fun hc=>?_)
          · have h:=cond_tt hc h
            obtain ⟨y4,hy4,h⟩:=call_ok h
            refine T_reg [(2,{ res:=.agg (cS_Object y4.1),vout:=[.box [.d (.str y4.2.1),.d (.v (.int .i64 y4.2.2.1)),.d (.v (.int .i64 y4.2.2.2.1)),.d (.str y4.2.2.2.2.1),.d (.v (.int .i64 y4.2.2.2.2.2.1)),.d (.v (.int .i64 y4.2.2.2.2.2.2))]],xs:=[1000000] })] [4,1000000] [(4,.box [.d (.v (.int .i64 y4.1.f0)),.d (.v (.int .i64 y4.1.f1)),.d (.str y4.1.f2),.d (.sl 1 (y4.1.f3.map cS)),.d (.sl 5 (y4.1.f4.map rS_Object))]),(1000000,.box [.d (.str y4.2.1),.d (.v (.int .i64 y4.2.2.1)),.d (.v (.int .i64 y4.2.2.2.1)),.d (.str y4.2.2.2.2.1),.d (.v (.int .i64 y4.2.2.2.2.2.1)),.d (.v (.int .i64 y4.2.2.2.2.2.2))])] [(2,ACall Tryz.prog 32 [.bp 1000000 0,.d (.v (.int .i64 a0))] [.box [.d (.str c1),.d (.v (.int .i64 c2)),.d (.v (.int .i64 c3)),.d (.str c4),.d (.v (.int .i64 c5)),.d (.v (.int .i64 c6))]] (.agg (cS_Object y4.1)) [.box [.d (.str y4.2.1),.d (.v (.int .i64 y4.2.2.1)),.d (.v (.int .i64 y4.2.2.2.1)),.d (.str y4.2.2.2.2.1),.d (.v (.int .i64 y4.2.2.2.2.2.1)),.d (.v (.int .i64 y4.2.2.2.2.2.2))]])] 1 (by kernel_rfl) (object_parser_list_ok hrec_object_parser_object hy4) ?_
            obtain hs:=Option.some.inj h; subst hs
            have h:=callE_esc hk1
            obtain hs:=Option.some.inj h; subst hs
            refine T_ret fun a w hm=>inBlock_ret (then_ret (T_returnC (fr':=[(4,.box [.d (.v (.int .i64 y4.1.f0)),.d (.v (.int .i64 y4.1.f1)),.d (.str y4.1.f2),.d (.sl 1 (y4.1.f3.map cS)),.d (.sl 5 (y4.1.f4.map rS_Object))]),(1000000,.box [.d (.str y4.2.1),.d (.v (.int .i64 y4.2.2.1)),.d (.v (.int .i64 y4.2.2.2.1)),.d (.str y4.2.2.2.2.1),.d (.v (.int .i64 y4.2.2.2.2.2.1)),.d (.v (.int .i64 y4.2.2.2.2.2.2))])]) (ts:=[51]) (N':=52) (fr2:=[(51,.agg (cS_Object y4.1))]++[(4,.box [.d (.v (.int .i64 y4.1.f0)),.d (.v (.int .i64 y4.1.f1)),.d (.str y4.1.f2),.d (.sl 1 (y4.1.f3.map cS)),.d (.sl 5 (y4.1.f4.map rS_Object))]),(1000000,.box [.d (.str y4.2.1),.d (.v (.int .i64 y4.2.2.1)),.d (.v (.int .i64 y4.2.2.2.1)),.d (.str y4.2.2.2.2.1),.d (.v (.int .i64 y4.2.2.2.2.2.1)),.d (.v (.int .i64 y4.2.2.2.2.2.2))])]) [.keep [4,1000000]] (by kernel_rfl) (by kernel_rfl) (by kernel_rfl) (by kernel_rfl) (by show _=_; kernel_rfl) (by exact ⟨⟨by kernel_rfl,by kernel_rfl⟩,trivial⟩) a w hm))
          · have h:=cond_ff hc h
            refine T_reg [] [0,1,4,42,1000000] [(42,.d (.v (.bool (c2 == (8:Int)))))] [] 4 (by kernel_rfl) (trivial) ?_
            refine T_cond (c2 == (8:Int)) (by kernel_rfl) (fun hc=>?_) (fun hc=>?_)
            · have h:=cond_tt hc h
              obtain ⟨y5,hy5,h⟩:=call_ok h
              refine T_reg [(2,{ res:=.agg (cS_Object y5.1),vout:=[.box [.d (.str y5.2.1),.d (.v (.int .i64 y5.2.2.1)),.d (.v (.int .i64 y5.2.2.2.1)),.d (.str y5.2.2.2.2.1),.d (.v (.int .i64 y5.2.2.2.2.2.1)),.d (.v (.int .i64 y5.2.2.2.2.2.2))]],xs:=[1000000] })] [4,1000000] [(4,.box [.d (.v (.int .i64 y5.1.f0)),.d (.v (.int .i64 y5.1.f1)),.d (.str y5.1.f2),.d (.sl 1 (y5.1.f3.map cS)),.d (.sl 5 (y5.1.f4.map rS_Object))]),(1000000,.box [.d (.str y5.2.1),.d (.v (.int .i64 y5.2.2.1)),.d (.v (.int .i64 y5.2.2.2.1)),.d (.str y5.2.2.2.2.1),.d (.v (.int .i64 y5.2.2.2.2.2.1)),.d (.v (.int .i64 y5.2.2.2.2.2.2))])] [(2,ACall Tryz.prog 33 [.bp 1000000 0,.d (.v (.int .i64 a0))] [.box [.d (.str c1),.d (.v (.int .i64 c2)),.d (.v (.int .i64 c3)),.d (.str c4),.d (.v (.int .i64 c5)),.d (.v (.int .i64 c6))]] (.agg (cS_Object y5.1)) [.box [.d (.str y5.2.1),.d (.v (.int .i64 y5.2.2.1)),.d (.v (.int .i64 y5.2.2.2.1)),.d (.str y5.2.2.2.2.1),.d (.v (.int .i64 y5.2.2.2.2.2.1)),.d (.v (.int .i64 y5.2.2.2.2.2.2))]])] 1 (by kernel_rfl) (object_parser_dict_ok hrec_object_parser_object hy5) ?_
              obtain hs:=Option.some.inj h; subst hs
              have h:=callE_esc hk1
              obtain hs:=Option.some.inj h; subst hs
              refine T_ret fun a w hm=>inBlock_ret (then_ret (T_returnC (fr':=[(4,.box [.d (.v (.int .i64 y5.1.f0)),.d (.v (.int .i64 y5.1.f1)),.d (.str y5.1.f2),.d (.sl 1 (y5.1.f3.map cS)),.d (.sl 5 (y5.1.f4.map rS_Object))]),(1000000,.box [.d (.str y5.2.1),.d (.v (.int .i64 y5.2.2.1)),.d (.v (.int .i64 y5.2.2.2.1)),.d (.str y5.2.2.2.2.1),.d (.v (.int .i64 y5.2.2.2.2.2.1)),.d (.v (.int .i64 y5.2.2.2.2.2.2))])]) (ts:=[51]) (N':=52) (fr2:=[(51,.agg (cS_Object y5.1))]++[(4,.box [.d (.v (.int .i64 y5.1.f0)),.d (.v (.int .i64 y5.1.f1)),.d (.str y5.1.f2),.d (.sl 1 (y5.1.f3.map cS)),.d (.sl 5 (y5.1.f4.map rS_Object))]),(1000000,.box [.d (.str y5.2.1),.d (.v (.int .i64 y5.2.2.1)),.d (.v (.int .i64 y5.2.2.2.1)),.d (.str y5.2.2.2.2.1),.d (.v (.int .i64 y5.2.2.2.2.2.1)),.d (.v (.int .i64 y5.2.2.2.2.2.2))])]) [.keep [4,1000000]] (by kernel_rfl) (by kernel_rfl) (by kernel_rfl) (by kernel_rfl) (by show _=_; kernel_rfl) (by exact ⟨⟨by kernel_rfl,by kernel_rfl⟩,trivial⟩) a w hm))
            · have h:=cond_ff hc h
              obtain hs:=Option.some.inj h; subst hs
              refine T_skip fun a w hm=>inBlock_norm (then_norm (⟨_,rfl,hm.co (cs:=[.keep [0,4,1000000]]) (by show _=_; kernel_rfl)⟩))
  · skip
    obtain ⟨y6,hy6,h⟩:=call_ok h
    refine T_reg [(1,{ res:=.agg (cS_Object y6.1),vout:=[.box [.d (.str y6.2.1),.d (.v (.int .i64 y6.2.2.1)),.d (.v (.int .i64 y6.2.2.2.1)),.d (.str y6.2.2.2.2.1),.d (.v (.int .i64 y6.2.2.2.2.2.1)),.d (.v (.int .i64 y6.2.2.2.2.2.2))]],xs:=[1000000] })] [4,1000000] [(4,.box [.d (.v (.int .i64 y6.1.f0)),.d (.v (.int .i64 y6.1.f1)),.d (.str y6.1.f2),.d (.sl 1 (y6.1.f3.map cS)),.d (.sl 5 (y6.1.f4.map rS_Object))]),(1000000,.box [.d (.str y6.2.1),.d (.v (.int .i64 y6.2.2.1)),.d (.v (.int .i64 y6.2.2.2.1)),.d (.str y6.2.2.2.2.1),.d (.v (.int .i64 y6.2.2.2.2.2.1)),.d (.v (.int .i64 y6.2.2.2.2.2.2))])] [(1,ACall Tryz.prog 34 [.bp 1000000 0] [.box [.d (.str c1),.d (.v (.int .i64 c2)),.d (.v (.int .i64 c3)),.d (.str c4),.d (.v (.int .i64 c5)),.d (.v (.int .i64 c6))]] (.agg (cS_Object y6.1)) [.box [.d (.str y6.2.1),.d (.v (.int .i64 y6.2.2.1)),.d (.v (.int .i64 y6.2.2.2.1)),.d (.str y6.2.2.2.2.1),.d (.v (.int .i64 y6.2.2.2.2.2.1)),.d (.v (.int .i64 y6.2.2.2.2.2.2))]])] 1 (by kernel_rfl) (object_parser_leaf_ok hy6) ?_
    obtain hs:=Option.some.inj h; subst hs
    refine T_ret fun a w hm=>T_returnC (fr':=[(4,.box [.d (.v (.int .i64 y6.1.f0)),.d (.v (.int .i64 y6.1.f1)),.d (.str y6.1.f2),.d (.sl 1 (y6.1.f3.map cS)),.d (.sl 5 (y6.1.f4.map rS_Object))]),(1000000,.box [.d (.str y6.2.1),.d (.v (.int .i64 y6.2.2.1)),.d (.v (.int .i64 y6.2.2.2.1)),.d (.str y6.2.2.2.2.1),.d (.v (.int .i64 y6.2.2.2.2.2.1)),.d (.v (.int .i64 y6.2.2.2.2.2.2))])]) (ts:=[51]) (N':=52) (fr2:=[(51,.agg (cS_Object y6.1))]++[(4,.box [.d (.v (.int .i64 y6.1.f0)),.d (.v (.int .i64 y6.1.f1)),.d (.str y6.1.f2),.d (.sl 1 (y6.1.f3.map cS)),.d (.sl 5 (y6.1.f4.map rS_Object))]),(1000000,.box [.d (.str y6.2.1),.d (.v (.int .i64 y6.2.2.1)),.d (.v (.int .i64 y6.2.2.2.1)),.d (.str y6.2.2.2.2.1),.d (.v (.int .i64 y6.2.2.2.2.2.1)),.d (.v (.int .i64 y6.2.2.2.2.2.2))])]) [.keep [4,1000000]] (by kernel_rfl) (by kernel_rfl) (by kernel_rfl) (by kernel_rfl) (by show _=_; kernel_rfl) (by exact ⟨⟨by kernel_rfl,by kernel_rfl⟩,trivial⟩) a w hm
theorem object_parser_object_fuel_ok {F:Nat} (n:Nat):∀ {a0:Int} {c1:List UInt8} {c2:Int} {c3:Int} {c4:List UInt8} {c5:Int} {c6:Int} {r:S_Object×(List UInt8)×Int×Int×(List UInt8)×Int×Int},object_parser_object_fuel F n a0 c1 c2 c3 c4 c5 c6=some r→ACall Tryz.prog 18 [.bp 1000000 0,.d (.v (.int .i64 a0))] [.box [.d (.str c1),.d (.v (.int .i64 c2)),.d (.v (.int .i64 c3)),.d (.str c4),.d (.v (.int .i64 c5)),.d (.v (.int .i64 c6))]] (.agg (cS_Object r.1)) [.box [.d (.str r.2.1),.d (.v (.int .i64 r.2.2.1)),.d (.v (.int .i64 r.2.2.2.1)),.d (.str r.2.2.2.2.1),.d (.v (.int .i64 r.2.2.2.2.2.1)),.d (.v (.int .i64 r.2.2.2.2.2.2))]]:=by
  induction n with
  | zero=>intro a0 c1 c2 c3 c4 c5 c6 r h; exact absurd (show (none:Option (S_Object×(List UInt8)×Int×Int×(List UInt8)×Int×Int))=some r from h) (by simp)
  | succ n ih=>intro a0 c1 c2 c3 c4 c5 c6 r h; exact object_parser_object_body_ok ih h
theorem object_parser_object_ok {F:Nat} {a0:Int} {c1:List UInt8} {c2:Int} {c3:Int} {c4:List UInt8} {c5:Int} {c6:Int} {r:S_Object×(List UInt8)×Int×Int×(List UInt8)×Int×Int} (h:object_parser_object F a0 c1 c2 c3 c4 c5 c6=some r):ACall Tryz.prog 18 [.bp 1000000 0,.d (.v (.int .i64 a0))] [.box [.d (.str c1),.d (.v (.int .i64 c2)),.d (.v (.int .i64 c3)),.d (.str c4),.d (.v (.int .i64 c5)),.d (.v (.int .i64 c6))]] (.agg (cS_Object r.1)) [.box [.d (.str r.2.1),.d (.v (.int .i64 r.2.2.1)),.d (.v (.int .i64 r.2.2.2.1)),.d (.str r.2.2.2.2.1),.d (.v (.int .i64 r.2.2.2.2.2.1)),.d (.v (.int .i64 r.2.2.2.2.2.2))]]:=object_parser_object_fuel_ok F h
theorem token_bad_ok {F:Nat} {a0:Int} {r:Int} (h:token_bad F a0=some r):ACall Tryz.prog 97 [.d (.v (.int .i64 a0))] [] (.d (.v (.int .i64 r))) []:=by
  rw [token_bad] at h
  refine ACall.intro (N:=6) Tryz.func97 rfl rfl rfl rfl rfl fun e=>?_
  refine T_reg [] [0] [] [] 1 (by kernel_rfl) (trivial) ?_
  refine T_seqk ?_
  refine T_reg [] [0,4] [(4,.d (.v (.bool (a0 == (5:Int)))))] [] 2 (by kernel_rfl) (trivial) ?_
  refine T_cond (a0 == (5:Int)) (by kernel_rfl) (fun hc=>?_) (fun hc=>?_)
  · have h:=cond_tt hc h
    refine T_reg [] [2] [(2,.d (.v (.int .i64 (4:Int))))] [] 1 (by kernel_rfl) (trivial) ?_
    obtain hs:=Option.some.inj h; subst hs
    refine T_ret fun a w hm=>then_ret (T_return (fr':=[(2,.d (.v (.int .i64 (4:Int))))]) [2] (by kernel_rfl) [.keep [2]] (by kernel_rfl) (by kernel_rfl) (by kernel_rfl) (by show _=_; kernel_rfl) (by exact trivial) a w hm)
  · have h:=cond_ff hc h
    refine T_skip fun a w hm=>then_norm (((?_:T Tryz.prog e 6 _ _ _) a w hm))
    refine T_reg [] [2] [(2,.d (.v (.int .i64 a0)))] [] 2 (by kernel_rfl) (trivial) ?_
    obtain hs:=Option.some.inj h; subst hs
    refine T_ret fun a w hm=>T_return (fr':=[(2,.d (.v (.int .i64 a0)))]) [2] (by kernel_rfl) [.keep [2]] (by kernel_rfl) (by kernel_rfl) (by kernel_rfl) (by show _=_; kernel_rfl) (by exact trivial) a w hm
theorem token_check_ok {F:Nat} {a0:S_Token} {r:Int} (h:token_check F a0=some r):ACall Tryz.prog 69 [.agg (cS_Token a0)] [] (.d (.v (.int .i64 r))) []:=by
  rw [token_check] at h
  refine ACall.intro (N:=128) Tryz.func69 rfl rfl rfl rfl rfl fun e=>?_
  refine T_reg [] [1] [(1,.box [.d (.v (.int .i64 a0.f0)),.d (.v (.int .i64 a0.f1)),.d (.str a0.f2),.d (.v (.int .i64 a0.f3)),.d (.v (.int .i64 a0.f4))])] [] 2 (by kernel_rfl) (trivial) ?_
  refine T_reg [] [1,3] [(3,.d (.v (.bool (bif (a0.f0 == (1:Int)) then true else (a0.f0 == (4:Int))))))] [(4,((((a0.f0 == (1:Int)) == false) && true)=true→True)),(0,((((a0.f0 == (1:Int)) == false) && true)=true→True)),(0,((((a0.f0 == (1:Int)) == false) && true)=true→True))] 2 (by kernel_rfl) (⟨(fun hg=>trivial),(fun hg=>trivial),(fun hg=>trivial)⟩) ?_
  obtain ⟨z1,hz1,h⟩:=lett_ok h
  refine T_reg [(12,{ rw:=some (.d (.v (.bool z1))) })] [1,3,4] [(4,.d (.v (.bool z1)))] [(4,((((a0.f0 == (2:Int)) == false) && true)=true→True)),(0,((((a0.f0 == (2:Int)) == false) && true)=true→True)),(0,((((a0.f0 == (2:Int)) == false) && true)=true→True)),(2,((((bif (a0.f0 == (2:Int)) then true else (a0.f0 == (3:Int))) == false) && true)=true→True)),(0,((((bif (a0.f0 == (2:Int)) then true else (a0.f0 == (3:Int))) == false) && true)=true→True)),(0,((((bif (a0.f0 == (2:Int)) then true else (a0.f0 == (3:Int))) == false) && true)=true→True)),(0,(True)∧AV.d (.v (.bool (bif (bif (a0.f0 == (2:Int)) then true else (a0.f0 == (3:Int))) then true else (a0.f0 == (5:Int)))))=.d (.v (.bool z1)))] 1 (by kernel_rfl) (⟨(fun hg=>trivial),(fun hg=>trivial),(fun hg=>trivial),(fun hg=>trivial),(fun hg=>trivial),(fun hg=>trivial),⟨trivial,(by subst hz1; rfl)⟩⟩) ?_
  refine T_joinE h (fun (p:Unit)=>[]) (fun s h hk1=>?_) (fun s h=>?_)
  · refine T_block ?_
    refine T_reg [] [1,3,4,28] [(28,.d (.v (.bool (bif (decide (a0.f0 < (1:Int))) then true else (decide (a0.f0 > (9:Int)))))))] [(4,((((decide (a0.f0 < (1:Int))) == false) && true)=true→True)),(0,((((decide (a0.f0 < (1:Int))) == false) && true)=true→True)),(0,((((decide (a0.f0 < (1:Int))) == false) && true)=true→True))] 2 (by kernel_rfl) (⟨(fun hg=>trivial),(fun hg=>trivial),(fun hg=>trivial)⟩) ?_
    refine T_cond (bif (decide (a0.f0 < (1:Int))) then true else (decide (a0.f0 > (9:Int)))) (by kernel_rfl) (fun hc=>?_) (fun hc=>?_)
    · have h:=cond_tt hc h
      refine T_reg [] [2] [(2,.d (.v (.int .i64 (14:Int))))] [] 1 (by kernel_rfl) (trivial) ?_
      obtain hs:=Option.some.inj h; subst hs
      have h:=callE_esc hk1
      obtain hs:=Option.some.inj h; subst hs
      refine T_ret fun a w hm=>inBlock_ret (then_ret (T_return (fr':=[(2,.d (.v (.int .i64 (14:Int))))]) [2] (by kernel_rfl) [.keep [2]] (by kernel_rfl) (by kernel_rfl) (by kernel_rfl) (by show _=_; kernel_rfl) (by exact trivial) a w hm))
    · have h:=cond_ff hc h
      refine T_joinc h (fun (p:Bool)=>[(1,.box [.d (.v (.int .i64 a0.f0)),.d (.v (.int .i64 a0.f1)),.d (.str a0.f2),.d (.v (.int .i64 a0.f3)),.d (.v (.int .i64 a0.f4))]),(37,.d (.v (.bool p)))]) (fun s h=>?_) (fun v1 h=>?_)
      · obtain ⟨z2,hz2,h⟩:=lett_ok h
        refine T_reg [(6,{ rw:=some (.d (.v (.bool z2))) })] [1,4,37] [(37,.d (.v (.bool z2)))] [(4,((((a0.f1 != (0:Int)) == true) && true)=true→True)),(0,((((a0.f1 != (0:Int)) == true) && true)=true→True)),(0,(True)∧AV.d (.v (.bool (bif (a0.f1 != (0:Int)) then (!(bif (a0.f0 == (1:Int)) then true else (a0.f0 == (4:Int)))) else false)))=.d (.v (.bool z2)))] 1 (by kernel_rfl) (⟨(fun hg=>trivial),(fun hg=>trivial),⟨trivial,(by subst hz2; rfl)⟩⟩) ?_
        refine T_cond z2 (by kernel_rfl) (fun hc=>?_) (fun hc=>?_)
        · have h:=cond_tt hc h
          obtain hs:=Option.some.inj h; subst hs
          refine T_skip fun a w hm=>then_norm (hm.co (cs:=[.keep [1,37]]) (by show _=_; kernel_rfl))
        · have h:=cond_ff hc h
          obtain hs:=Option.some.inj h; subst hs
          refine T_reg_end [] [1,37] [(37,.d (.v (.bool (bif (!(a0.f2 == [])) then (!z1) else false))))] [(4,((((!(a0.f2 == [])) == true) && true)=true→True)),(0,((((!(a0.f2 == [])) == true) && true)=true→True))] 2 (by kernel_rfl) (⟨(fun hg=>trivial),(fun hg=>trivial)⟩) fun a w hm=>then_norm (hm.co (cs:=[.keep [1,37]]) (by show _=_; kernel_rfl))
      · skip
        refine T_cond v1 (by kernel_rfl) (fun hc=>?_) (fun hc=>?_)
        · have h:=cond_tt hc h
          refine T_reg [] [2] [(2,.d (.v (.int .i64 (4:Int))))] [] 1 (by kernel_rfl) (trivial) ?_
          obtain hs:=Option.some.inj h; subst hs
          have h:=callE_esc hk1
          obtain hs:=Option.some.inj h; subst hs
          refine T_ret fun a w hm=>inBlock_ret (then_ret (T_return (fr':=[(2,.d (.v (.int .i64 (4:Int))))]) [2] (by kernel_rfl) [.keep [2]] (by kernel_rfl) (by kernel_rfl) (by kernel_rfl) (by show _=_; kernel_rfl) (by exact trivial) a w hm))
        · have h:=cond_ff hc h
          obtain ⟨z3,hz3,h⟩:=lett_ok h
          refine T_reg [(10,{ res:=.d (.v (.int .i64 (Lib.indexByte a0.f2 (0:Int).toNat.toUInt8))) }),(12,{ rw:=some (.d (.v (.bool z3))) })] [1,52] [(52,.d (.v (.bool (bif (a0.f0 == (2:Int)) then z3 else false))))] [(4,((((a0.f0 == (2:Int)) == true) && true)=true→True)),(0,((((a0.f0 == (2:Int)) == true) && true)=true→True)),(0,((((a0.f0 == (2:Int)) == true) && true)=true→True)),(0,((((a0.f0 == (2:Int)) == true) && true)=true→True)),(0,((((a0.f2 == []) == false) && (((a0.f0 == (2:Int)) == true) && true))=true→True)),(0,((((a0.f2 == []) == false) && (((a0.f0 == (2:Int)) == true) && true))=true→True)),(0,((((a0.f2 == []) == false) && (((a0.f0 == (2:Int)) == true) && true))=true→ACall Tryz.prog 95 [.d (.str a0.f2),.d (.v (.int .u8 (0:Int)))] [] (.d (.v (.int .i64 (Lib.indexByte a0.f2 (0:Int).toNat.toUInt8)))) [])),(0,((((a0.f2 == []) == false) && (((a0.f0 == (2:Int)) == true) && true))=true→True)),(0,((((a0.f0 == (2:Int)) == true) && true)=true→(True)∧AV.d (.v (.bool (bif (a0.f2 == []) then true else (decide ((Lib.indexByte a0.f2 (0:Int).toNat.toUInt8) ≥ (0:Int))))))=.d (.v (.bool z3))))] 2 (by kernel_rfl) (⟨(fun hg=>trivial),(fun hg=>trivial),(fun hg=>trivial),(fun hg=>trivial),(fun hg=>trivial),(fun hg=>trivial),(fun hg=>b_IndexByte_95),(fun hg=>trivial),(fun hg=>⟨trivial,(by subst hz3; rfl)⟩)⟩) ?_
          refine T_cond (bif (a0.f0 == (2:Int)) then z3 else false) (by kernel_rfl) (fun hc=>?_) (fun hc=>?_)
          · have h:=cond_tt hc h
            refine T_reg [] [2] [(2,.d (.v (.int .i64 (4:Int))))] [] 1 (by kernel_rfl) (trivial) ?_
            obtain hs:=Option.some.inj h; subst hs
            have h:=callE_esc hk1
            obtain hs:=Option.some.inj h; subst hs
            refine T_ret fun a w hm=>inBlock_ret (then_ret (T_return (fr':=[(2,.d (.v (.int .i64 (4:Int))))]) [2] (by kernel_rfl) [.keep [2]] (by kernel_rfl) (by kernel_rfl) (by kernel_rfl) (by show _=_; kernel_rfl) (by exact trivial) a w hm))
          · have h:=cond_ff hc h
            obtain ⟨z4,hz4,h⟩:=lett_ok h
            refine T_reg [(12,{ rw:=some (.d (.v (.bool z4))) })] [1,67] [(67,.d (.v (.bool z4)))] [(4,((((a0.f0 == (1:Int)) == true) && true)=true→True)),(0,((((a0.f0 == (1:Int)) == true) && true)=true→True)),(0,((((a0.f0 == (1:Int)) == true) && true)=true→True)),(0,((((a0.f0 == (1:Int)) == true) && true)=true→True)),(0,((((decide (a0.f1 < (-2147483647:Int))) == false) && (((a0.f0 == (1:Int)) == true) && true))=true→True)),(0,((((decide (a0.f1 < (-2147483647:Int))) == false) && (((a0.f0 == (1:Int)) == true) && true))=true→True)),(0,((((decide (a0.f1 < (-2147483647:Int))) == false) && (((a0.f0 == (1:Int)) == true) && true))=true→True)),(0,((((a0.f0 == (1:Int)) == true) && true)=true→True)),(0,(True)∧AV.d (.v (.bool (bif (a0.f0 == (1:Int)) then (bif (decide (a0.f1 < (-2147483647:Int))) then true else (decide (a0.f1 > (2147483647:Int)))) else false)))=.d (.v (.bool z4)))] 1 (by kernel_rfl) (⟨(fun hg=>trivial),(fun hg=>trivial),(fun hg=>trivial),(fun hg=>trivial),(fun hg=>trivial),(fun hg=>trivial),(fun hg=>trivial),(fun hg=>trivial),⟨trivial,(by subst hz4; rfl)⟩⟩) ?_
            refine T_cond z4 (by kernel_rfl) (fun hc=>?_) (fun hc=>?_)
            · have h:=cond_tt hc h
              refine T_reg [] [2] [(2,.d (.v (.int .i64 (3:Int))))] [] 1 (by kernel_rfl) (trivial) ?_
              obtain hs:=Option.some.inj h; subst hs
              have h:=callE_esc hk1
              obtain hs:=Option.some.inj h; subst hs
              refine T_ret fun a w hm=>inBlock_ret (then_ret (T_return (fr':=[(2,.d (.v (.int .i64 (3:Int))))]) [2] (by kernel_rfl) [.keep [2]] (by kernel_rfl) (by kernel_rfl) (by kernel_rfl) (by show _=_; kernel_rfl) (by exact trivial) a w hm))
            · have h:=cond_ff hc h
              obtain ⟨z5,hz5,h⟩:=lett_ok h
              refine T_reg [(12,{ rw:=some (.d (.v (.bool z5))) })] [1,81] [(81,.d (.v (.bool z5)))] [(4,((((a0.f0 == (4:Int)) == true) && true)=true→True)),(0,((((a0.f0 == (4:Int)) == true) && true)=true→True)),(0,((((a0.f0 == (4:Int)) == true) && true)=true→True)),(0,((((a0.f0 == (4:Int)) == true) && true)=true→True)),(0,((((decide (a0.f1 < (1:Int))) == false) && (((a0.f0 == (4:Int)) == true) && true))=true→True)),(0,((((decide (a0.f1 < (1:Int))) == false) && (((a0.f0 == (4:Int)) == true) && true))=true→True)),(0,((((decide (a0.f1 < (1:Int))) == false) && (((a0.f0 == (4:Int)) == true) && true))=true→True)),(0,((((a0.f0 == (4:Int)) == true) && true)=true→True)),(0,(True)∧AV.d (.v (.bool (bif (a0.f0 == (4:Int)) then (bif (decide (a0.f1 < (1:Int))) then true else (decide (a0.f1 > (255:Int)))) else false)))=.d (.v (.bool z5)))] 1 (by kernel_rfl) (⟨(fun hg=>trivial),(fun hg=>trivial),(fun hg=>trivial),(fun hg=>trivial),(fun hg=>trivial),(fun hg=>trivial),(fun hg=>trivial),(fun hg=>trivial),⟨trivial,(by subst hz5; rfl)⟩⟩) ?_
              refine T_cond z5 (by kernel_rfl) (fun hc=>?_) (fun hc=>?_)
              · have h:=cond_tt hc h
                refine T_reg [] [2] [(2,.d (.v (.int .i64 (3:Int))))] [] 1 (by kernel_rfl) (trivial) ?_
                obtain hs:=Option.some.inj h; subst hs
                have h:=callE_esc hk1
                obtain hs:=Option.some.inj h; subst hs
                refine T_ret fun a w hm=>inBlock_ret (then_ret (T_return (fr':=[(2,.d (.v (.int .i64 (3:Int))))]) [2] (by kernel_rfl) [.keep [2]] (by kernel_rfl) (by kernel_rfl) (by kernel_rfl) (by show _=_; kernel_rfl) (by exact trivial) a w hm))
              · have h:=cond_ff hc h
                refine T_joinc h (fun (p:Bool)=>[(1,.box [.d (.v (.int .i64 a0.f0)),.d (.v (.int .i64 a0.f1)),.d (.str a0.f2),.d (.v (.int .i64 a0.f3)),.d (.v (.int .i64 a0.f4))]),(95,.d (.v (.bool p)))]) (fun s h=>?_) (fun v2 h=>?_)
                · refine T_reg [] [1,95] [(95,.d (.v (.bool (bif (a0.f0 == (2:Int)) then (decide ((a0.f2.length:Int) > (31:Int))) else false))))] [(4,((((a0.f0 == (2:Int)) == true) && true)=true→True)),(0,((((a0.f0 == (2:Int)) == true) && true)=true→True)),(0,((((a0.f0 == (2:Int)) == true) && true)=true→True)),(0,((((a0.f0 == (2:Int)) == true) && true)=true→True))] 2 (by kernel_rfl) (⟨(fun hg=>trivial),(fun hg=>trivial),(fun hg=>trivial),(fun hg=>trivial)⟩) ?_
                  refine T_cond (bif (a0.f0 == (2:Int)) then (decide ((a0.f2.length:Int) > (31:Int))) else false) (by kernel_rfl) (fun hc=>?_) (fun hc=>?_)
                  · have h:=cond_tt hc h
                    obtain hs:=Option.some.inj h; subst hs
                    refine T_skip fun a w hm=>then_norm (hm.co (cs:=[.keep [1,95]]) (by show _=_; kernel_rfl))
                  · have h:=cond_ff hc h
                    obtain hs:=Option.some.inj h; subst hs
                    refine T_reg_end [] [1,95] [(95,.d (.v (.bool (bif (decide ((a0.f2.length:Int) > (1024:Int))) then (a0.f0 == (3:Int)) else false))))] [(5,((((decide ((a0.f2.length:Int) > (1024:Int))) == true) && true)=true→True)),(0,((((decide ((a0.f2.length:Int) > (1024:Int))) == true) && true)=true→True)),(0,((((decide ((a0.f2.length:Int) > (1024:Int))) == true) && true)=true→True))] 2 (by kernel_rfl) (⟨(fun hg=>trivial),(fun hg=>trivial),(fun hg=>trivial)⟩) fun a w hm=>then_norm (hm.co (cs:=[.keep [1,95]]) (by show _=_; kernel_rfl))
                · skip
                  refine T_cond v2 (by kernel_rfl) (fun hc=>?_) (fun hc=>?_)
                  · have h:=cond_tt hc h
                    refine T_reg [] [2] [(2,.d (.v (.int .i64 (2:Int))))] [] 1 (by kernel_rfl) (trivial) ?_
                    obtain hs:=Option.some.inj h; subst hs
                    have h:=callE_esc hk1
                    obtain hs:=Option.some.inj h; subst hs
                    refine T_ret fun a w hm=>inBlock_ret (then_ret (T_return (fr':=[(2,.d (.v (.int .i64 (2:Int))))]) [2] (by kernel_rfl) [.keep [2]] (by kernel_rfl) (by kernel_rfl) (by kernel_rfl) (by show _=_; kernel_rfl) (by exact trivial) a w hm))
                  · have h:=cond_ff hc h
                    refine T_reg [] [1,114] [(114,.d (.v (.bool (a0.f0 == (5:Int)))))] [] 4 (by kernel_rfl) (trivial) ?_
                    refine T_cond (a0.f0 == (5:Int)) (by kernel_rfl) (fun hc=>?_) (fun hc=>?_)
                    · have h:=cond_tt hc h
                      obtain ⟨y1,hy1,h⟩:=call_ok h
                      refine T_reg [(2,{ res:=.tup [.d (.str y1.1),.d (.v (.int .i64 y1.2))] })] [6] [(6,.d (.v (.int .i64 y1.2)))] [(2,ACall Tryz.prog 96 [.d (.str a0.f2)] [] (.tup [.d (.str y1.1),.d (.v (.int .i64 y1.2))]) [])] 5 (by kernel_rfl) (token_word_ok hy1) ?_
                      refine T_reg [] [6,125] [(125,.d (.v (.bool (y1.2 != (0:Int)))))] [] 2 (by kernel_rfl) (trivial) ?_
                      refine T_cond (y1.2 != (0:Int)) (by kernel_rfl) (fun hc=>?_) (fun hc=>?_)
                      · have h:=cond_tt hc h
                        obtain ⟨y2,hy2,h⟩:=call_ok h
                        refine T_reg [(1,{ res:=.d (.v (.int .i64 y2)) })] [2] [(2,.d (.v (.int .i64 y2)))] [(1,ACall Tryz.prog 97 [.d (.v (.int .i64 y1.2))] [] (.d (.v (.int .i64 y2))) [])] 1 (by kernel_rfl) (token_bad_ok hy2) ?_
                        obtain hs:=Option.some.inj h; subst hs
                        have h:=callE_esc hk1
                        obtain hs:=Option.some.inj h; subst hs
                        refine T_ret fun a w hm=>inBlock_ret (then_ret (T_return (fr':=[(2,.d (.v (.int .i64 y2)))]) [2] (by kernel_rfl) [.keep [2]] (by kernel_rfl) (by kernel_rfl) (by kernel_rfl) (by show _=_; kernel_rfl) (by exact trivial) a w hm))
                      · have h:=cond_ff hc h
                        obtain hs:=Option.some.inj h; subst hs
                        refine T_skip fun a w hm=>inBlock_norm (then_norm (⟨_,rfl,hm.co (cs:=[.keep []]) (by show _=_; kernel_rfl)⟩))
                    · have h:=cond_ff hc h
                      obtain hs:=Option.some.inj h; subst hs
                      refine T_skip fun a w hm=>inBlock_norm (then_norm (⟨_,rfl,hm.co (cs:=[.keep []]) (by show _=_; kernel_rfl)⟩))
  · skip
    refine T_reg [] [2] [(2,.d (.v (.int .i64 (0:Int))))] [] 1 (by kernel_rfl) (trivial) ?_
    obtain hs:=Option.some.inj h; subst hs
    refine T_ret fun a w hm=>T_return (fr':=[(2,.d (.v (.int .i64 (0:Int))))]) [2] (by kernel_rfl) [.keep [2]] (by kernel_rfl) (by kernel_rfl) (by kernel_rfl) (by show _=_; kernel_rfl) (by exact trivial) a w hm
theorem token_printedName_ok {F:Nat} {a0:List UInt8} {r:(List UInt8)} (h:token_printedName F a0=some r):ACall Tryz.prog 71 [.d (.str a0)] [] (.d (.str r)) []:=by
  rw [token_printedName] at h
  refine ACall.intro (N:=45) Tryz.func71 rfl rfl rfl rfl rfl fun e=>?_
  refine T_reg [] [0] [] [] 1 (by kernel_rfl) (trivial) ?_
  refine T_reg [(0,{ slfs:=[(0,0)] })] [0,3] [(3,.box [.slf 0 87,.own 5 1 ([].map cU)])] [] 1 (by kernel_rfl) (trivial) ?_
  refine T_seqk ?_
  refine T_reg [] [0,3,7,8] [(7,.d (.v (.int .i64 (a0.length:Int)))),(8,.d (.v (.int .i64 (0:Int))))] [] 3 (by kernel_rfl) (trivial) ?_
  refine T_joinct h (fun (p:(List UInt8))=>[(3,.box [.slf 0 87,.own 5 1 (p.map cU)])]) (fun s h=>?_) (fun v4 h=>?_)
  · refine T_co [.keep [0,3,7,8]] ((fun (p:(List UInt8)×Int)=>[(0,.d (.str a0)),(3,.box [.slf 0 87,.own 5 1 (p.1.map cU)]),(7,.d (.v (.int .i64 (a0.length:Int)))),(8,.d (.v (.int .i64 p.2)))]) ([],(0:Int))) (by show _=_; kernel_rfl) ?_
    refine T_block ?_
    refine T_loopF (ι:=(List UInt8)×Int) (fun (p:(List UInt8)×Int)=>[(0,.d (.str a0)),(3,.box [.slf 0 87,.own 5 1 (p.1.map cU)]),(7,.d (.v (.int .i64 (a0.length:Int)))),(8,.d (.v (.int .i64 p.2)))]) (fun n p=>token_printedName_L0 F a0 n p.1 p.2=some s) (fun i hh=>by simp [token_printedName_L0] at hh) (fun n p h=>?_) F ([],(0:Int)) h
    obtain ⟨v1,v2⟩:=p
    have h:token_printedName_L0 F a0 (n+1) v1 v2=some s:=h
    rw [token_printedName_L0] at h
    refine T_reg [] [0,3,7,8,9] [(9,.d (.v (.bool (decide (v2 < (a0.length:Int))))))] [] 1 (by kernel_rfl) (trivial) ?_
    refine T_seqk ?_
    refine T_cond (decide (v2 < (a0.length:Int))) (by kernel_rfl) (fun hc=>?_) (fun hc=>?_)
    · have h:=cond_tt hc h
      refine T_skip fun a w hm=>then_norm (((?_:T Tryz.prog e 45 _ _ _) a w hm))
      refine T_joinc h (fun (p:(List UInt8))=>[(0,.d (.str a0)),(3,.box [.slf 0 87,.own 5 1 (p.map cU)]),(7,.d (.v (.int .i64 (a0.length:Int)))),(8,.d (.v (.int .i64 v2)))]) (fun s h=>?_) (fun v3 h=>?_)
      · refine T_block ?_
        refine T_reg [] [0,3,4,7,8] [(4,.d (.v (.int .i64 v2)))] [] 2 (by kernel_rfl) (trivial) ?_
        obtain ⟨hp1,h⟩:=chk_ok h
        refine T_reg [] [0,3,5,7,8] [(5,.d (.v (.int .u8 ((a0.getD v2.toNat 0).toNat:Int))))] [(2,0≤v2∧v2 < a0.length)] 1 (by kernel_rfl) (hp1) ?_
        refine T_seqk ?_
        obtain ⟨y1,hy1,h⟩:=call_ok h
        obtain ⟨y2,hy2,h⟩:=call_ok h
        obtain ⟨z1,hz1,h⟩:=lett_ok h
        obtain ⟨z2,hz2,h⟩:=lett_ok h
        refine T_reg [(1,{ res:=.d (.v (.bool y1)) }),(4,{ res:=.d (.v (.bool y2)) }),(9,{ rw:=some (.d (.v (.bool z1))) }),(17,{ rw:=some (.d (.v (.bool z2))) })] [0,3,5,7,8,31] [(31,.d (.v (.bool z2)))] [(1,ACall Tryz.prog 99 [.d (.v (.int .u8 ((a0.getD v2.toNat 0).toNat:Int)))] [] (.d (.v (.bool y1))) []),(1,(((y1 == false) && true)=true→True)),(0,(((y1 == false) && true)=true→ACall Tryz.prog 100 [.d (.v (.int .u8 ((a0.getD v2.toNat 0).toNat:Int)))] [] (.d (.v (.bool y2))) [])),(2,((((bif y1 then true else y2) == false) && true)=true→True)),(0,((((bif y1 then true else y2) == false) && true)=true→True)),(0,(True)∧AV.d (.v (.bool (bif (bif y1 then true else y2) then true else (((a0.getD v2.toNat 0).toNat:Int) == (95:Int)))))=.d (.v (.bool z1))),(1,(((z1 == false) && true)=true→True)),(0,(((z1 == false) && true)=true→True)),(2,((((bif z1 then true else (((a0.getD v2.toNat 0).toNat:Int) == (45:Int))) == false) && true)=true→True)),(0,((((bif z1 then true else (((a0.getD v2.toNat 0).toNat:Int) == (45:Int))) == false) && true)=true→True)),(0,(True)∧AV.d (.v (.bool (bif (bif z1 then true else (((a0.getD v2.toNat 0).toNat:Int) == (45:Int))) then true else (((a0.getD v2.toNat 0).toNat:Int) == (46:Int)))))=.d (.v (.bool z2)))] 0 (by kernel_rfl) (⟨token_letter_ok hy1,(fun hg=>trivial),(fun hg=>token_digit_ok (gcall_ok hg hy2)),(fun hg=>trivial),(fun hg=>trivial),⟨trivial,(by subst hz1; rfl)⟩,(fun hg=>trivial),(fun hg=>trivial),(fun hg=>trivial),(fun hg=>trivial),⟨trivial,(by subst hz2; rfl)⟩⟩) ?_
        refine T_cond z2 (by kernel_rfl) (fun hc=>?_) (fun hc=>?_)
        · have h:=cond_tt hc h
          obtain ⟨y3,hy3,h⟩:=call_ok h
          refine T_reg [(1,{ res:=.d (.v .nilIface),vout:=[.box [.slf 0 87,.own 5 1 (y3.2.map cU)]],xs:=[3] })] [0,3,7,8] [(3,.box [.slf 0 87,.own 5 1 (y3.2.map cU)])] [(1,ACall Tryz.prog 50 [.bp 1000000 0,.d (.v (.int .u8 ((a0.getD v2.toNat 0).toNat:Int)))] [.box [.slf 0 87,.own 5 1 (v1.map cU)]] (.d (.v .nilIface)) [.box [.slf 0 87,.own 5 1 (y3.2.map cU)]])] 0 (by kernel_rfl) (strings_Builder_WriteByte_ok hy3) ?_
          obtain hs:=Option.some.inj h; subst hs
          refine T_exit fun a w hm=>then_exit (inBlock_exit (then_norm (hm.co (cs:=[.keep [0,3,7,8]]) (by show _=_; kernel_rfl))))
        · have h:=cond_ff hc h
          refine T_skip fun a w hm=>then_norm (((?_:T Tryz.prog e 45 _ _ _) a w hm))
          obtain ⟨y4,hy4,h⟩:=call_ok h
          refine T_reg [(0,{ res:=.d (.v .nilIface),vout:=[.box [.slf 0 87,.own 5 1 (y4.2.map cU)]],xs:=[3] })] [0,3,5,7,8] [(3,.box [.slf 0 87,.own 5 1 (y4.2.map cU)])] [(0,ACall Tryz.prog 50 [.bp 1000000 0,.d (.v (.int .u8 (35:Int)))] [.box [.slf 0 87,.own 5 1 (v1.map cU)]] (.d (.v .nilIface)) [.box [.slf 0 87,.own 5 1 (y4.2.map cU)]])] 0 (by kernel_rfl) (strings_Builder_WriteByte_ok hy4) ?_
          obtain ⟨hp2,h⟩:=chk_ok h
          obtain ⟨z3,hz3,h⟩:=lett_ok h
          obtain ⟨y5,hy5,h⟩:=call_ok h
          refine T_reg [(2,{ rw:=some (.d (.v (.int .u8 z3))) }),(3,{ res:=.d (.v .nilIface),vout:=[.box [.slf 0 87,.own 5 1 (y5.2.map cU)]],xs:=[3] })] [0,3,5,7,8] [(3,.box [.slf 0 87,.own 5 1 (y5.2.map cU)])] [(1,0≤(4:Int)),(0,(0≤(((a0.getD v2.toNat 0).toNat:Int).fdiv (2 ^ (min (4:Int).toNat IntKind.u8.bits)))∧(((a0.getD v2.toNat 0).toNat:Int).fdiv (2 ^ (min (4:Int).toNat IntKind.u8.bits))) < ([48,49,50,51,52,53,54,55,56,57,97,98,99,100,101,102]:List UInt8).length)∧AV.d (.v (.int .u8 ((([48,49,50,51,52,53,54,55,56,57,97,98,99,100,101,102]:List UInt8).getD (((a0.getD v2.toNat 0).toNat:Int).fdiv (2 ^ (min (4:Int).toNat IntKind.u8.bits))).toNat 0).toNat:Int)))=.d (.v (.int .u8 z3))),(0,ACall Tryz.prog 50 [.bp 1000000 0,.d (.v (.int .u8 z3))] [.box [.slf 0 87,.own 5 1 (y4.2.map cU)]] (.d (.v .nilIface)) [.box [.slf 0 87,.own 5 1 (y5.2.map cU)]])] 0 (by kernel_rfl) (⟨(show 0≤(4:Int) by decide),⟨hp2,(by subst hz3; rfl)⟩,strings_Builder_WriteByte_ok hy5⟩) ?_
          obtain ⟨z4,hz4,h⟩:=lett_ok h
          obtain ⟨hp3,h⟩:=chk_ok h
          obtain ⟨z5,hz5,h⟩:=lett_ok h
          obtain ⟨y6,hy6,h⟩:=call_ok h
          obtain hs:=Option.some.inj h; subst hs
          refine T_reg_end [(1,{ rw:=some (.d (.v (.int .u8 z4))) }),(2,{ rw:=some (.d (.v (.int .u8 z5))) }),(3,{ res:=.d (.v .nilIface),vout:=[.box [.slf 0 87,.own 5 1 (y6.2.map cU)]],xs:=[3] })] [0,3,7,8] [(3,.box [.slf 0 87,.own 5 1 (y6.2.map cU)])] [(1,(True)∧AV.d (.v (.int .u8 (IntKind.u8.wrap ((BitVec.ofInt IntKind.u8.bits ((a0.getD v2.toNat 0).toNat:Int) &&& BitVec.ofInt IntKind.u8.bits (15:Int)).toNat:Int))))=.d (.v (.int .u8 z4))),(0,(0≤z4∧z4 < ([48,49,50,51,52,53,54,55,56,57,97,98,99,100,101,102]:List UInt8).length)∧AV.d (.v (.int .u8 ((([48,49,50,51,52,53,54,55,56,57,97,98,99,100,101,102]:List UInt8).getD z4.toNat 0).toNat:Int)))=.d (.v (.int .u8 z5))),(0,ACall Tryz.prog 50 [.bp 1000000 0,.d (.v (.int .u8 z5))] [.box [.slf 0 87,.own 5 1 (y5.2.map cU)]] (.d (.v .nilIface)) [.box [.slf 0 87,.own 5 1 (y6.2.map cU)]])] 0 (by kernel_rfl) (⟨⟨trivial,(by subst hz4; rfl)⟩,⟨hp3,(by subst hz5; rfl)⟩,strings_Builder_WriteByte_ok hy6⟩) fun a w hm=>inBlock_norm (then_norm (hm.co (cs:=[.keep [0,3,7,8]]) (by show _=_; kernel_rfl)))
      · skip
        refine T_reg_end [] [0,3,7,8] [(8,.d (.v (.int .i64 (IntKind.i64.wrap (v2+(1:Int))))))] [] 2 (by kernel_rfl) (trivial) fun a w hm=>then_norm (⟨(v3,IntKind.i64.wrap (v2+(1:Int))),h,hm.co (cs:=[.keep [0,3,7,8]]) (by show _=_; kernel_rfl)⟩)
    · have h:=cond_ff hc h
      obtain hs:=Option.some.inj h; subst hs
      refine T_exit fun a w hm=>then_exit (then_exit (inBlock_exit (then_norm (hm.co (cs:=[.keep [3]]) (by show _=_; kernel_rfl)))))
  · skip
    refine fun a w hm=>then_norm (((?_:T Tryz.prog e 45 _ _ _) a w hm))
    obtain ⟨hp4,h⟩:=chk_ok h
    refine T_reg [(0,{ xs:=[3],vout:=[.box [.slf 0 87,.junk]],res:=.d (.str v4) })] [2] [(2,.d (.str v4))] [(0,ACall Tryz.prog 53 [.bp 1000000 0] [.box [.slf 0 87,.own 5 1 (v4.map cU)]] (.d (.str v4)) [.box [.slf 0 87,.junk]])] 1 (by kernel_rfl) (b_String (l:=v4) hp4 (by kernel_rfl) (by kernel_rfl)) ?_
    obtain hs:=Option.some.inj h; subst hs
    refine T_ret fun a w hm=>T_return (fr':=[(2,.d (.str v4))]) [2] (by kernel_rfl) [.keep [2]] (by kernel_rfl) (by kernel_rfl) (by kernel_rfl) (by show _=_; kernel_rfl) (by exact trivial) a w hm
theorem strings_Builder_WriteString_ok {F:Nat} {a0:List UInt8} {c1:List UInt8} {r:Int×Unit×(List UInt8)} (h:strings_Builder_WriteString F a0 c1=some r):ACall Tryz.prog 51 [.bp 1000000 0,.d (.str a0)] [.box [.slf 0 87,.own 5 1 (c1.map cU)]] (.tup [.d (.v (.int .i64 r.1)),.d (.v .nilIface)]) [.box [.slf 0 87,.own 5 1 (r.2.2.map cU)]]:=by
  rw [strings_Builder_WriteString] at h
  refine ACall.intro (N:=19) Tryz.func51 rfl rfl rfl rfl rfl fun e=>?_
  refine T_reg [] [0,1,1000000] [] [] 2 (by kernel_rfl) (trivial) ?_
  refine T_reg [(1,{ xs:=[1000000],res:=.tup [],vout:=[.box [.slf 0 87,.own 5 1 (c1.map cU)]] })] [0,1,1000000] [] [(1,ACall Tryz.prog 75 [.bp 1000000 0] [.box [.slf 0 87,.own 5 1 (c1.map cU)]] (.tup []) [.box [.slf 0 87,.own 5 1 (c1.map cU)]])] 0 (by kernel_rfl) (b_copyCheck (E:=87) (by kernel_rfl) (by kernel_rfl) (by kernel_rfl)) ?_
  obtain ⟨hp1,h⟩:=chk_ok h
  refine T_reg [(6,{ es:=some ((c1++a0).map cU) })] [1,1000000] [(1000000,.box [.slf 0 87,.own 5 1 ((c1++a0).map cU)])] [(6,(c1.map cU).length+(a0.map cU).length≤4294967296∧(c1.map cU)++(a0.map cU)=((c1++a0).map cU))] 3 (by kernel_rfl) (app_ok cU hp1) ?_
  refine T_reg [] [4,5,1000000] [(4,.d (.v (.int .i64 (a0.length:Int)))),(5,.d (.v .nilIface))] [] 4 (by kernel_rfl) (trivial) ?_
  obtain hs:=Option.some.inj h; subst hs
  refine T_ret fun a w hm=>T_return (fr':=[(4,.d (.v (.int .i64 (a0.length:Int)))),(5,.d (.v .nilIface)),(1000000,.box [.slf 0 87,.own 5 1 ((c1++a0).map cU)])]) [4,5] (by kernel_rfl) [.keep [4,5,1000000]] (by kernel_rfl) (by kernel_rfl) (by kernel_rfl) (by show _=_; kernel_rfl) (by exact ⟨⟨by kernel_rfl,by kernel_rfl⟩,trivial⟩) a w hm
theorem token_printedText_ok {F:Nat} {a0:List UInt8} {r:(List UInt8)} (h:token_printedText F a0=some r):ACall Tryz.prog 72 [.d (.str a0)] [] (.d (.str r)) []:=by
  rw [token_printedText] at h
  refine ACall.intro (N:=58) Tryz.func72 rfl rfl rfl rfl rfl fun e=>?_
  refine T_reg [] [0] [] [] 1 (by kernel_rfl) (trivial) ?_
  refine T_reg [(0,{ slfs:=[(0,0)] })] [0,3] [(3,.box [.slf 0 87,.own 5 1 ([].map cU)])] [] 1 (by kernel_rfl) (trivial) ?_
  obtain ⟨y9,hy1,h⟩:=call_ok h
  refine T_reg [(0,{ res:=.d (.v .nilIface),vout:=[.box [.slf 0 87,.own 5 1 (y9.2.map cU)]],xs:=[3] })] [0,3] [(3,.box [.slf 0 87,.own 5 1 (y9.2.map cU)])] [(0,ACall Tryz.prog 50 [.bp 1000000 0,.d (.v (.int .u8 (40:Int)))] [.box [.slf 0 87,.own 5 1 ([].map cU)]] (.d (.v .nilIface)) [.box [.slf 0 87,.own 5 1 (y9.2.map cU)]])] 0 (by kernel_rfl) (strings_Builder_WriteByte_ok hy1) ?_
  refine T_seqk ?_
  refine T_reg [] [0,3,8,9] [(8,.d (.v (.int .i64 (a0.length:Int)))),(9,.d (.v (.int .i64 (0:Int))))] [] 3 (by kernel_rfl) (trivial) ?_
  refine T_joinct h (fun (p:(List UInt8))=>[(3,.box [.slf 0 87,.own 5 1 (p.map cU)])]) (fun s h=>?_) (fun v4 h=>?_)
  · refine T_co [.keep [0,3,8,9]] ((fun (p:(List UInt8)×Int)=>[(0,.d (.str a0)),(3,.box [.slf 0 87,.own 5 1 (p.1.map cU)]),(8,.d (.v (.int .i64 (a0.length:Int)))),(9,.d (.v (.int .i64 p.2)))]) (y9.2,(0:Int))) (by show _=_; kernel_rfl) ?_
    refine T_block ?_
    refine T_loopF (ι:=(List UInt8)×Int) (fun (p:(List UInt8)×Int)=>[(0,.d (.str a0)),(3,.box [.slf 0 87,.own 5 1 (p.1.map cU)]),(8,.d (.v (.int .i64 (a0.length:Int)))),(9,.d (.v (.int .i64 p.2)))]) (fun n p=>token_printedText_L0 F a0 n p.1 p.2=some s) (fun i hh=>by simp [token_printedText_L0] at hh) (fun n p h=>?_) F (y9.2,(0:Int)) h
    obtain ⟨v1,v2⟩:=p
    have h:token_printedText_L0 F a0 (n+1) v1 v2=some s:=h
    rw [token_printedText_L0] at h
    refine T_reg [] [0,3,8,9,10] [(10,.d (.v (.bool (decide (v2 < (a0.length:Int))))))] [] 1 (by kernel_rfl) (trivial) ?_
    refine T_seqk ?_
    refine T_cond (decide (v2 < (a0.length:Int))) (by kernel_rfl) (fun hc=>?_) (fun hc=>?_)
    · have h:=cond_tt hc h
      refine T_skip fun a w hm=>then_norm (((?_:T Tryz.prog e 58 _ _ _) a w hm))
      refine T_joinc h (fun (p:(List UInt8))=>[(0,.d (.str a0)),(3,.box [.slf 0 87,.own 5 1 (p.map cU)]),(8,.d (.v (.int .i64 (a0.length:Int)))),(9,.d (.v (.int .i64 v2)))]) (fun s h=>?_) (fun v3 h=>?_)
      · refine T_block ?_
        refine T_reg [] [0,3,4,8,9] [(4,.d (.v (.int .i64 v2)))] [] 2 (by kernel_rfl) (trivial) ?_
        obtain ⟨hp1,h⟩:=chk_ok h
        refine T_reg [] [0,3,5,8,9] [(5,.d (.v (.int .u8 ((a0.getD v2.toNat 0).toNat:Int))))] [(2,0≤v2∧v2 < a0.length)] 1 (by kernel_rfl) (hp1) ?_
        refine T_block ?_
        refine T_reg [] [0,3,5,8,9,17] [(17,.d (.v (.bool (((a0.getD v2.toNat 0).toNat:Int) == (10:Int)))))] [] 3 (by kernel_rfl) (trivial) ?_
        refine T_cond (((a0.getD v2.toNat 0).toNat:Int) == (10:Int)) (by kernel_rfl) (fun hc=>?_) (fun hc=>?_)
        · have h:=cond_tt hc h
          obtain ⟨y1,hy2,h⟩:=call_ok h
          obtain hs:=Option.some.inj h; subst hs
          refine T_reg_end [(0,{ res:=.tup [.d (.v (.int .i64 y1.1)),.d (.v .nilIface)],vout:=[.box [.slf 0 87,.own 5 1 (y1.2.2.map cU)]],xs:=[3] })] [0,3,8,9] [(3,.box [.slf 0 87,.own 5 1 (y1.2.2.map cU)])] [(0,ACall Tryz.prog 51 [.bp 1000000 0,.d (.str ([92,110]:List UInt8))] [.box [.slf 0 87,.own 5 1 (v1.map cU)]] (.tup [.d (.v (.int .i64 y1.1)),.d (.v .nilIface)]) [.box [.slf 0 87,.own 5 1 (y1.2.2.map cU)]])] 0 (by kernel_rfl) (strings_Builder_WriteString_ok hy2) fun a w hm=>inBlock_norm (inBlock_norm (then_norm (hm.co (cs:=[.keep [0,3,8,9]]) (by show _=_; kernel_rfl))))
        · have h:=cond_ff hc h
          refine T_reg [] [0,3,5,8,9,21] [(21,.d (.v (.bool (((a0.getD v2.toNat 0).toNat:Int) == (9:Int)))))] [] 3 (by kernel_rfl) (trivial) ?_
          refine T_cond (((a0.getD v2.toNat 0).toNat:Int) == (9:Int)) (by kernel_rfl) (fun hc=>?_) (fun hc=>?_)
          · have h:=cond_tt hc h
            obtain ⟨y2,hy3,h⟩:=call_ok h
            obtain hs:=Option.some.inj h; subst hs
            refine T_reg_end [(0,{ res:=.tup [.d (.v (.int .i64 y2.1)),.d (.v .nilIface)],vout:=[.box [.slf 0 87,.own 5 1 (y2.2.2.map cU)]],xs:=[3] })] [0,3,8,9] [(3,.box [.slf 0 87,.own 5 1 (y2.2.2.map cU)])] [(0,ACall Tryz.prog 51 [.bp 1000000 0,.d (.str ([92,116]:List UInt8))] [.box [.slf 0 87,.own 5 1 (v1.map cU)]] (.tup [.d (.v (.int .i64 y2.1)),.d (.v .nilIface)]) [.box [.slf 0 87,.own 5 1 (y2.2.2.map cU)]])] 0 (by kernel_rfl) (strings_Builder_WriteString_ok hy3) fun a w hm=>inBlock_norm (inBlock_norm (then_norm (hm.co (cs:=[.keep [0,3,8,9]]) (by show _=_; kernel_rfl))))
          · have h:=cond_ff hc h
            obtain ⟨z1,hz1,h⟩:=lett_ok h
            refine T_reg [(5,{ rw:=some (.d (.v (.bool z1))) })] [0,3,5,8,9,25] [(25,.d (.v (.bool (bif z1 then true else (((a0.getD v2.toNat 0).toNat:Int) == (92:Int))))))] [(3,((((((a0.getD v2.toNat 0).toNat:Int) == (40:Int)) == false) && true)=true→True)),(0,((((((a0.getD v2.toNat 0).toNat:Int) == (40:Int)) == false) && true)=true→True)),(0,(True)∧AV.d (.v (.bool (bif (((a0.getD v2.toNat 0).toNat:Int) == (40:Int)) then true else (((a0.getD v2.toNat 0).toNat:Int) == (41:Int)))))=.d (.v (.bool z1))),(1,(((z1 == false) && true)=true→True)),(0,(((z1 == false) && true)=true→True))] 2 (by kernel_rfl) (⟨(fun hg=>trivial),(fun hg=>trivial),⟨trivial,(by subst hz1; rfl)⟩,(fun hg=>trivial),(fun hg=>trivial)⟩) ?_
            refine T_cond (bif z1 then true else (((a0.getD v2.toNat 0).toNat:Int) == (92:Int))) (by kernel_rfl) (fun hc=>?_) (fun hc=>?_)
            · have h:=cond_tt hc h
              obtain ⟨y3,hy4,h⟩:=call_ok h
              refine T_reg [(0,{ res:=.d (.v .nilIface),vout:=[.box [.slf 0 87,.own 5 1 (y3.2.map cU)]],xs:=[3] })] [0,3,5,8,9] [(3,.box [.slf 0 87,.own 5 1 (y3.2.map cU)])] [(0,ACall Tryz.prog 50 [.bp 1000000 0,.d (.v (.int .u8 (92:Int)))] [.box [.slf 0 87,.own 5 1 (v1.map cU)]] (.d (.v .nilIface)) [.box [.slf 0 87,.own 5 1 (y3.2.map cU)]])] 0 (by kernel_rfl) (strings_Builder_WriteByte_ok hy4) ?_
              obtain ⟨y4,hy5,h⟩:=call_ok h
              obtain hs:=Option.some.inj h; subst hs
              refine T_reg_end [(1,{ res:=.d (.v .nilIface),vout:=[.box [.slf 0 87,.own 5 1 (y4.2.map cU)]],xs:=[3] })] [0,3,8,9] [(3,.box [.slf 0 87,.own 5 1 (y4.2.map cU)])] [(1,ACall Tryz.prog 50 [.bp 1000000 0,.d (.v (.int .u8 ((a0.getD v2.toNat 0).toNat:Int)))] [.box [.slf 0 87,.own 5 1 (y3.2.map cU)]] (.d (.v .nilIface)) [.box [.slf 0 87,.own 5 1 (y4.2.map cU)]])] 0 (by kernel_rfl) (strings_Builder_WriteByte_ok hy5) fun a w hm=>inBlock_norm (inBlock_norm (then_norm (hm.co (cs:=[.keep [0,3,8,9]]) (by show _=_; kernel_rfl))))
            · have h:=cond_ff hc h
              obtain ⟨z2,hz2,h⟩:=lett_ok h
              refine T_reg [(5,{ rw:=some (.d (.v (.bool z2))) })] [0,3,5,8,9,39] [(39,.d (.v (.bool z2)))] [(3,((((decide (((a0.getD v2.toNat 0).toNat:Int) < (32:Int))) == false) && true)=true→True)),(0,((((decide (((a0.getD v2.toNat 0).toNat:Int) < (32:Int))) == false) && true)=true→True)),(0,(True)∧AV.d (.v (.bool (bif (decide (((a0.getD v2.toNat 0).toNat:Int) < (32:Int))) then true else (decide (((a0.getD v2.toNat 0).toNat:Int) > (125:Int))))))=.d (.v (.bool z2)))] 1 (by kernel_rfl) (⟨(fun hg=>trivial),(fun hg=>trivial),⟨trivial,(by subst hz2; rfl)⟩⟩) ?_
              refine T_cond z2 (by kernel_rfl) (fun hc=>?_) (fun hc=>?_)
              · have h:=cond_tt hc h
                obtain ⟨y5,hy6,h⟩:=call_ok h
                refine T_reg [(0,{ res:=.tup [.d (.v (.int .i64 y5.1)),.d (.v .nilIface)],vout:=[.box [.slf 0 87,.own 5 1 (y5.2.2.map cU)]],xs:=[3] })] [0,3,5,8,9] [(3,.box [.slf 0 87,.own 5 1 (y5.2.2.map cU)])] [(0,ACall Tryz.prog 51 [.bp 1000000 0,.d (.str ([92,120]:List UInt8))] [.box [.slf 0 87,.own 5 1 (v1.map cU)]] (.tup [.d (.v (.int .i64 y5.1)),.d (.v .nilIface)]) [.box [.slf 0 87,.own 5 1 (y5.2.2.map cU)]])] 0 (by kernel_rfl) (strings_Builder_WriteString_ok hy6) ?_
                obtain ⟨hp2,h⟩:=chk_ok h
                obtain ⟨z3,hz3,h⟩:=lett_ok h
                obtain ⟨y6,hy7,h⟩:=call_ok h
                refine T_reg [(2,{ rw:=some (.d (.v (.int .u8 z3))) }),(3,{ res:=.d (.v .nilIface),vout:=[.box [.slf 0 87,.own 5 1 (y6.2.map cU)]],xs:=[3] })] [0,3,5,8,9] [(3,.box [.slf 0 87,.own 5 1 (y6.2.map cU)])] [(1,0≤(4:Int)),(0,(0≤(((a0.getD v2.toNat 0).toNat:Int).fdiv (2 ^ (min (4:Int).toNat IntKind.u8.bits)))∧(((a0.getD v2.toNat 0).toNat:Int).fdiv (2 ^ (min (4:Int).toNat IntKind.u8.bits))) < ([48,49,50,51,52,53,54,55,56,57,97,98,99,100,101,102]:List UInt8).length)∧AV.d (.v (.int .u8 ((([48,49,50,51,52,53,54,55,56,57,97,98,99,100,101,102]:List UInt8).getD (((a0.getD v2.toNat 0).toNat:Int).fdiv (2 ^ (min (4:Int).toNat IntKind.u8.bits))).toNat 0).toNat:Int)))=.d (.v (.int .u8 z3))),(0,ACall Tryz.prog 50 [.bp 1000000 0,.d (.v (.int .u8 z3))] [.box [.slf 0 87,.own 5 1 (y5.2.2.map cU)]] (.d (.v .nilIface)) [.box [.slf 0 87,.own 5 1 (y6.2.map cU)]])] 0 (by kernel_rfl) (⟨(show 0≤(4:Int) by decide),⟨hp2,(by subst hz3; rfl)⟩,strings_Builder_WriteByte_ok hy7⟩) ?_
                obtain ⟨z4,hz4,h⟩:=lett_ok h
                obtain ⟨hp3,h⟩:=chk_ok h
                obtain ⟨z5,hz5,h⟩:=lett_ok h
                obtain ⟨y7,hy8,h⟩:=call_ok h
                obtain hs:=Option.some.inj h; subst hs
                refine T_reg_end [(1,{ rw:=some (.d (.v (.int .u8 z4))) }),(2,{ rw:=some (.d (.v (.int .u8 z5))) }),(3,{ res:=.d (.v .nilIface),vout:=[.box [.slf 0 87,.own 5 1 (y7.2.map cU)]],xs:=[3] })] [0,3,8,9] [(3,.box [.slf 0 87,.own 5 1 (y7.2.map cU)])] [(1,(True)∧AV.d (.v (.int .u8 (IntKind.u8.wrap ((BitVec.ofInt IntKind.u8.bits ((a0.getD v2.toNat 0).toNat:Int) &&& BitVec.ofInt IntKind.u8.bits (15:Int)).toNat:Int))))=.d (.v (.int .u8 z4))),(0,(0≤z4∧z4 < ([48,49,50,51,52,53,54,55,56,57,97,98,99,100,101,102]:List UInt8).length)∧AV.d (.v (.int .u8 ((([48,49,50,51,52,53,54,55,56,57,97,98,99,100,101,102]:List UInt8).getD z4.toNat 0).toNat:Int)))=.d (.v (.int .u8 z5))),(0,ACall Tryz.prog 50 [.bp 1000000 0,.d (.v (.int .u8 z5))] [.box [.slf 0 87,.own 5 1 (y6.2.map cU)]] (.d (.v .nilIface)) [.box [.slf 0 87,.own 5 1 (y7.2.map cU)]])] 0 (by kernel_rfl) (⟨⟨trivial,(by subst hz4; rfl)⟩,⟨hp3,(by subst hz5; rfl)⟩,strings_Builder_WriteByte_ok hy8⟩) fun a w hm=>inBlock_norm (inBlock_norm (then_norm (hm.co (cs:=[.keep [0,3,8,9]]) (by show _=_; kernel_rfl))))
              · have h:=cond_ff hc h
                obtain ⟨y8,hy9,h⟩:=call_ok h
                obtain hs:=Option.some.inj h; subst hs
                refine T_reg_end [(1,{ res:=.d (.v .nilIface),vout:=[.box [.slf 0 87,.own 5 1 (y8.2.map cU)]],xs:=[3] })] [0,3,8,9] [(3,.box [.slf 0 87,.own 5 1 (y8.2.map cU)])] [(1,ACall Tryz.prog 50 [.bp 1000000 0,.d (.v (.int .u8 ((a0.getD v2.toNat 0).toNat:Int)))] [.box [.slf 0 87,.own 5 1 (v1.map cU)]] (.d (.v .nilIface)) [.box [.slf 0 87,.own 5 1 (y8.2.map cU)]])] 0 (by kernel_rfl) (strings_Builder_WriteByte_ok hy9) fun a w hm=>inBlock_norm (inBlock_norm (then_norm (hm.co (cs:=[.keep [0,3,8,9]]) (by show _=_; kernel_rfl))))
      · skip
        refine T_reg_end [] [0,3,8,9] [(9,.d (.v (.int .i64 (IntKind.i64.wrap (v2+(1:Int))))))] [] 2 (by kernel_rfl) (trivial) fun a w hm=>then_norm (⟨(v3,IntKind.i64.wrap (v2+(1:Int))),h,hm.co (cs:=[.keep [0,3,8,9]]) (by show _=_; kernel_rfl)⟩)
    · have h:=cond_ff hc h
      obtain hs:=Option.some.inj h; subst hs
      refine T_exit fun a w hm=>then_exit (then_exit (inBlock_exit (then_norm (hm.co (cs:=[.keep [3]]) (by show _=_; kernel_rfl)))))
  · skip
    refine fun a w hm=>then_norm (((?_:T Tryz.prog e 58 _ _ _) a w hm))
    obtain ⟨y10,hy10,h⟩:=call_ok h
    refine T_reg [(0,{ res:=.d (.v .nilIface),vout:=[.box [.slf 0 87,.own 5 1 (y10.2.map cU)]],xs:=[3] })] [3] [(3,.box [.slf 0 87,.own 5 1 (y10.2.map cU)])] [(0,ACall Tryz.prog 50 [.bp 1000000 0,.d (.v (.int .u8 (41:Int)))] [.box [.slf 0 87,.own 5 1 (v4.map cU)]] (.d (.v .nilIface)) [.box [.slf 0 87,.own 5 1 (y10.2.map cU)]])] 0 (by kernel_rfl) (strings_Builder_WriteByte_ok hy10) ?_
    obtain ⟨hp4,h⟩:=chk_ok h
    refine T_reg [(0,{ xs:=[3],vout:=[.box [.slf 0 87,.junk]],res:=.d (.str y10.2) })] [2] [(2,.d (.str y10.2))] [(0,ACall Tryz.prog 53 [.bp 1000000 0] [.box [.slf 0 87,.own 5 1 (y10.2.map cU)]] (.d (.str y10.2)) [.box [.slf 0 87,.junk]])] 1 (by kernel_rfl) (b_String (l:=y10.2) hp4 (by kernel_rfl) (by kernel_rfl)) ?_
    obtain hs:=Option.some.inj h; subst hs
    refine T_ret fun a w hm=>T_return (fr':=[(2,.d (.str y10.2))]) [2] (by kernel_rfl) [.keep [2]] (by kernel_rfl) (by kernel_rfl) (by kernel_rfl) (by show _=_; kernel_rfl) (by exact trivial) a w hm
theorem token_Print_ok {F:Nat} {a0:S_Token} {r:(List UInt8)×Int} (h:token_Print F a0=some r):ACall Tryz.prog 48 [.agg (cS_Token a0)] [.glo 1 (glob_internal_strconv_uint64pow10.flatMap (cI .u64))] (.tup [.d (.str r.1),.d (.v (.int .i64 r.2))]) [.glo 1 (glob_internal_strconv_uint64pow10.flatMap (cI .u64))]:=by
  rw [token_Print] at h
  refine ACall.intro (N:=44) Tryz.func48 rfl rfl rfl rfl rfl fun e=>?_
  refine T_reg [] [1,1000000] [(1,.box [.d (.v (.int .i64 a0.f0)),.d (.v (.int .i64 a0.f1)),.d (.str a0.f2),.d (.v (.int .i64 a0.f3)),.d (.v (.int .i64 a0.f4))])] [] 3 (by kernel_rfl) (trivial) ?_
  refine T_seqk ?_
  obtain ⟨y1,hy1,h⟩:=call_ok h
  refine T_reg [(1,{ res:=.d (.v (.int .i64 y1)) })] [1,4,1000000] [(4,.d (.v (.int .i64 y1)))] [(1,ACall Tryz.prog 69 [.agg (cS_Token a0)] [] (.d (.v (.int .i64 y1))) [])] 1 (by kernel_rfl) (token_check_ok hy1) ?_
  refine T_reg [] [1,4,8,1000000] [(8,.d (.v (.bool (y1 != (0:Int)))))] [] 2 (by kernel_rfl) (trivial) ?_
  refine T_cond (y1 != (0:Int)) (by kernel_rfl) (fun hc=>?_) (fun hc=>?_)
  · have h:=cond_tt hc h
    refine T_reg [] [2,3,1000000] [(2,.d (.str [])),(3,.d (.v (.int .i64 y1)))] [] 3 (by kernel_rfl) (trivial) ?_
    obtain hs:=Option.some.inj h; subst hs
    refine T_ret fun a w hm=>then_ret (T_return (fr':=[(2,.d (.str [])),(3,.d (.v (.int .i64 y1))),(1000000,.glo 1 (glob_internal_strconv_uint64pow10.flatMap (cI .u64)))]) [2,3] (by kernel_rfl) [.keep [2,3,1000000]] (by kernel_rfl) (by kernel_rfl) (by kernel_rfl) (by show _=_; kernel_rfl) (by exact ⟨⟨by kernel_rfl,by kernel_rfl⟩,trivial⟩) a w hm)
  · have h:=cond_ff hc h
    refine T_skip fun a w hm=>then_norm (((?_:T Tryz.prog e 44 _ _ _) a w hm))
    refine T_seqk ?_
    refine T_reg [] [1,11,1000000] [(11,.d (.v (.int .i64 a0.f0)))] [] 2 (by kernel_rfl) (trivial) ?_
    refine T_block ?_
    refine T_reg [] [1,11,12,1000000] [(12,.d (.v (.bool (a0.f0 == (1:Int)))))] [] 2 (by kernel_rfl) (trivial) ?_
    refine T_cond (a0.f0 == (1:Int)) (by kernel_rfl) (fun hc=>?_) (fun hc=>?_)
    · have h:=cond_tt hc h
      obtain ⟨hp1,h⟩:=chk_ok h
      refine T_reg [(2,{ res:=.d (.str (Lib.itoa a0.f1)),xs:=[1000000],vout:=[.glo 1 (glob_internal_strconv_uint64pow10.flatMap (cI .u64))] })] [2,3,1000000] [(2,.d (.str (Lib.itoa a0.f1))),(3,.d (.v (.int .i64 (0:Int))))] [(2,ACall Tryz.prog 70 [.d (.v (.int .i64 a0.f1))] [.glo 1 (glob_internal_strconv_uint64pow10.flatMap (cI .u64))] (.d (.str (Lib.itoa a0.f1))) [.glo 1 (glob_internal_strconv_uint64pow10.flatMap (cI .u64))])] 2 (by kernel_rfl) (b_Itoa hp1) ?_
      obtain hs:=Option.some.inj h; subst hs
      refine T_ret fun a w hm=>inBlock_ret (then_ret (T_return (fr':=[(2,.d (.str (Lib.itoa a0.f1))),(3,.d (.v (.int .i64 (0:Int)))),(1000000,.glo 1 (glob_internal_strconv_uint64pow10.flatMap (cI .u64)))]) [2,3] (by kernel_rfl) [.keep [2,3,1000000]] (by kernel_rfl) (by kernel_rfl) (by kernel_rfl) (by show _=_; kernel_rfl) (by exact ⟨⟨by kernel_rfl,by kernel_rfl⟩,trivial⟩) a w hm))
    · have h:=cond_ff hc h
      refine T_reg [] [1,11,17,1000000] [(17,.d (.v (.bool (a0.f0 == (2:Int)))))] [] 2 (by kernel_rfl) (trivial) ?_
      refine T_cond (a0.f0 == (2:Int)) (by kernel_rfl) (fun hc=>?_) (fun hc=>?_)
      · have h:=cond_tt hc h
        obtain ⟨y2,hy2,h⟩:=call_ok h
        obtain ⟨hp2,h⟩:=chk_ok h
        refine T_reg [(2,{ res:=.d (.str y2) })] [2,3,1000000] [(2,.d (.str (([47]:List UInt8)++y2))),(3,.d (.v (.int .i64 (0:Int))))] [(2,ACall Tryz.prog 71 [.d (.str a0.f2)] [] (.d (.str y2)) []),(0,([47]:List UInt8).length+y2.length≤9223372036854775807)] 2 (by kernel_rfl) (⟨token_printedName_ok hy2,hp2⟩) ?_
        obtain hs:=Option.some.inj h; subst hs
        refine T_ret fun a w hm=>inBlock_ret (then_ret (T_return (fr':=[(2,.d (.str (([47]:List UInt8)++y2))),(3,.d (.v (.int .i64 (0:Int)))),(1000000,.glo 1 (glob_internal_strconv_uint64pow10.flatMap (cI .u64)))]) [2,3] (by kernel_rfl) [.keep [2,3,1000000]] (by kernel_rfl) (by kernel_rfl) (by kernel_rfl) (by show _=_; kernel_rfl) (by exact ⟨⟨by kernel_rfl,by kernel_rfl⟩,trivial⟩) a w hm))
      · have h:=cond_ff hc h
        refine T_reg [] [1,11,23,1000000] [(23,.d (.v (.bool (a0.f0 == (3:Int)))))] [] 2 (by kernel_rfl) (trivial) ?_
        refine T_cond (a0.f0 == (3:Int)) (by kernel_rfl) (fun hc=>?_) (fun hc=>?_)
        · have h:=cond_tt hc h
          obtain ⟨y3,hy3,h⟩:=call_ok h
          refine T_reg [(2,{ res:=.d (.str y3) })] [2,3,1000000] [(2,.d (.str y3)),(3,.d (.v (.int .i64 (0:Int))))] [(2,ACall Tryz.prog 72 [.d (.str a0.f2)] [] (.d (.str y3)) [])] 2 (by kernel_rfl) (token_printedText_ok hy3) ?_
          obtain hs:=Option.some.inj h; subst hs
          refine T_ret fun a w hm=>inBlock_ret (then_ret (T_return (fr':=[(2,.d (.str y3)),(3,.d (.v (.int .i64 (0:Int)))),(1000000,.glo 1 (glob_internal_strconv_uint64pow10.flatMap (cI .u64)))]) [2,3] (by kernel_rfl) [.keep [2,3,1000000]] (by kernel_rfl) (by kernel_rfl) (by kernel_rfl) (by show _=_; kernel_rfl) (by exact ⟨⟨by kernel_rfl,by kernel_rfl⟩,trivial⟩) a w hm))
        · have h:=cond_ff hc h
          refine T_reg [] [1,11,28,1000000] [(28,.d (.v (.bool (a0.f0 == (4:Int)))))] [] 2 (by kernel_rfl) (trivial) ?_
          refine T_cond (a0.f0 == (4:Int)) (by kernel_rfl) (fun hc=>?_) (fun hc=>?_)
          · have h:=cond_tt hc h
            obtain ⟨hp3,h⟩:=chk_ok h
            obtain ⟨hp4,h⟩:=chk_ok h
            refine T_reg [(2,{ res:=.d (.str (Lib.itoa a0.f1)),xs:=[1000000],vout:=[.glo 1 (glob_internal_strconv_uint64pow10.flatMap (cI .u64))] })] [2,3,1000000] [(2,.d (.str (([64]:List UInt8)++(Lib.itoa a0.f1)))),(3,.d (.v (.int .i64 (0:Int))))] [(2,ACall Tryz.prog 70 [.d (.v (.int .i64 a0.f1))] [.glo 1 (glob_internal_strconv_uint64pow10.flatMap (cI .u64))] (.d (.str (Lib.itoa a0.f1))) [.glo 1 (glob_internal_strconv_uint64pow10.flatMap (cI .u64))]),(0,([64]:List UInt8).length+(Lib.itoa a0.f1).length≤9223372036854775807)] 2 (by kernel_rfl) (⟨b_Itoa hp3,hp4⟩) ?_
            obtain hs:=Option.some.inj h; subst hs
            refine T_ret fun a w hm=>inBlock_ret (then_ret (T_return (fr':=[(2,.d (.str (([64]:List UInt8)++(Lib.itoa a0.f1)))),(3,.d (.v (.int .i64 (0:Int)))),(1000000,.glo 1 (glob_internal_strconv_uint64pow10.flatMap (cI .u64)))]) [2,3] (by kernel_rfl) [.keep [2,3,1000000]] (by kernel_rfl) (by kernel_rfl) (by kernel_rfl) (by show _=_; kernel_rfl) (by exact ⟨⟨by kernel_rfl,by kernel_rfl⟩,trivial⟩) a w hm))
          · have h:=cond_ff hc h
            refine T_reg [] [1,34,1000000] [(34,.d (.v (.bool (a0.f0 == (5:Int)))))] [] 2 (by kernel_rfl) (trivial) ?_
            refine T_cond (a0.f0 == (5:Int)) (by kernel_rfl) (fun hc=>?_) (fun hc=>?_)
            · have h:=cond_tt hc h
              refine T_reg [] [2,3,1000000] [(2,.d (.str a0.f2)),(3,.d (.v (.int .i64 (0:Int))))] [] 4 (by kernel_rfl) (trivial) ?_
              obtain hs:=Option.some.inj h; subst hs
              refine T_ret fun a w hm=>inBlock_ret (then_ret (T_return (fr':=[(2,.d (.str a0.f2)),(3,.d (.v (.int .i64 (0:Int)))),(1000000,.glo 1 (glob_internal_strconv_uint64pow10.flatMap (cI .u64)))]) [2,3] (by kernel_rfl) [.keep [2,3,1000000]] (by kernel_rfl) (by kernel_rfl) (by kernel_rfl) (by show _=_; kernel_rfl) (by exact ⟨⟨by kernel_rfl,by kernel_rfl⟩,trivial⟩) a w hm))
            · have h:=cond_ff hc h
              refine T_skip fun a w hm=>inBlock_norm (then_norm (((?_:T Tryz.prog e 44 _ _ _) a w hm)))
              obtain ⟨hp5,h⟩:=chk_ok h
              obtain ⟨z1,hz1,h⟩:=lett_ok h
              refine T_reg [(0,{ es:=some (([([91]:List UInt8),([93]:List UInt8),([60,60]:List UInt8),([62,62]:List UInt8)]).map cS) }),(5,{ cs:=cS (([([91]:List UInt8),([93]:List UInt8),([60,60]:List UInt8),([62,62]:List UInt8)]).getD (IntKind.i64.wrap (a0.f0 - (6:Int))).toNat []),rw:=some (.d (.str z1)) })] [2,3,1000000] [(2,.d (.str z1)),(3,.d (.v (.int .i64 (0:Int))))] [(0,(([([91]:List UInt8),([93]:List UInt8),([60,60]:List UInt8),([62,62]:List UInt8)]).map cS)=(([([91]:List UInt8),([93]:List UInt8),([60,60]:List UInt8),([62,62]:List UInt8)]).map cS)),(3,0≤(IntKind.i64.wrap (a0.f0 - (6:Int)))∧(IntKind.i64.wrap (a0.f0 - (6:Int))) < (([([91]:List UInt8),([93]:List UInt8),([60,60]:List UInt8),([62,62]:List UInt8)]).map cS).length),(0,((([([91]:List UInt8),([93]:List UInt8),([60,60]:List UInt8),([62,62]:List UInt8)]).map cS)[(IntKind.i64.wrap (a0.f0 - (6:Int))).toNat]? = some (cS (([([91]:List UInt8),([93]:List UInt8),([60,60]:List UInt8),([62,62]:List UInt8)]).getD (IntKind.i64.wrap (a0.f0 - (6:Int))).toNat [])))∧AV.d (.str (([([91]:List UInt8),([93]:List UInt8),([60,60]:List UInt8),([62,62]:List UInt8)]).getD (IntKind.i64.wrap (a0.f0 - (6:Int))).toNat []))=.d (.str z1))] 2 (by kernel_rfl) (⟨rfl,own_idx cS hp5,⟨(idx_ok (d:=[]) cS hp5).2,(by subst hz1; rfl)⟩⟩) ?_
              obtain hs:=Option.some.inj h; subst hs
              refine T_ret fun a w hm=>T_return (fr':=[(2,.d (.str z1)),(3,.d (.v (.int .i64 (0:Int)))),(1000000,.glo 1 (glob_internal_strconv_uint64pow10.flatMap (cI .u64)))]) [2,3] (by kernel_rfl) [.keep [2,3,1000000]] (by kernel_rfl) (by kernel_rfl) (by kernel_rfl) (by show _=_; kernel_rfl) (by exact ⟨⟨by kernel_rfl,by kernel_rfl⟩,trivial⟩) a w hm
theorem object_node_ok {F:Nat} {a0:S_Object} {a1:Int} {r:Int} (h:object_node F a0 a1=some r):ACall Tryz.prog 45 [.agg (cS_Object a0),.d (.v (.int .i64 a1))] [.glo 1 (glob_internal_strconv_uint64pow10.flatMap (cI .u64))] (.d (.v (.int .i64 r))) [.glo 1 (glob_internal_strconv_uint64pow10.flatMap (cI .u64))]:=by
  rw [object_node] at h
  refine ACall.intro (N:=147) Tryz.func45 rfl rfl rfl rfl rfl fun e=>?_
  refine T_reg [] [1,2,1000000] [(2,.box [.d (.v (.int .i64 a0.f0)),.d (.v (.int .i64 a0.f1)),.d (.str a0.f2),.d (.sl 1 (a0.f3.map cS)),.d (.sl 5 (a0.f4.map rS_Object))])] [] 2 (by kernel_rfl) (trivial) ?_
  obtain ⟨z2,hz1,h⟩:=lett_ok h
  refine T_reg [(12,{ rw:=some (.d (.v (.bool z2))) })] [1,2,5,1000000] [(5,.d (.v (.bool z2)))] [(4,((((a0.f0 == (1:Int)) == false) && true)=true→True)),(0,((((a0.f0 == (1:Int)) == false) && true)=true→True)),(0,((((a0.f0 == (1:Int)) == false) && true)=true→True)),(2,((((bif (a0.f0 == (1:Int)) then true else (a0.f0 == (2:Int))) == false) && true)=true→True)),(0,((((bif (a0.f0 == (1:Int)) then true else (a0.f0 == (2:Int))) == false) && true)=true→True)),(0,((((bif (a0.f0 == (1:Int)) then true else (a0.f0 == (2:Int))) == false) && true)=true→True)),(0,(True)∧AV.d (.v (.bool (bif (bif (a0.f0 == (1:Int)) then true else (a0.f0 == (2:Int))) then true else (a0.f0 == (5:Int)))))=.d (.v (.bool z2)))] 1 (by kernel_rfl) (⟨(fun hg=>trivial),(fun hg=>trivial),(fun hg=>trivial),(fun hg=>trivial),(fun hg=>trivial),(fun hg=>trivial),⟨trivial,(by subst hz1; rfl)⟩⟩) ?_
  refine T_reg [] [1,2,5,6,1000000] [(6,.d (.v (.bool (bif (a0.f0 == (3:Int)) then true else (a0.f0 == (4:Int))))))] [(4,((((a0.f0 == (3:Int)) == false) && true)=true→True)),(0,((((a0.f0 == (3:Int)) == false) && true)=true→True)),(0,((((a0.f0 == (3:Int)) == false) && true)=true→True))] 2 (by kernel_rfl) (⟨(fun hg=>trivial),(fun hg=>trivial),(fun hg=>trivial)⟩) ?_
  refine T_reg [] [1,2,5,6,7,1000000] [(7,.d (.v (.bool (bif (a0.f0 == (6:Int)) then true else (a0.f0 == (7:Int))))))] [(4,((((a0.f0 == (6:Int)) == false) && true)=true→True)),(0,((((a0.f0 == (6:Int)) == false) && true)=true→True)),(0,((((a0.f0 == (6:Int)) == false) && true)=true→True))] 2 (by kernel_rfl) (⟨(fun hg=>trivial),(fun hg=>trivial),(fun hg=>trivial)⟩) ?_
  refine T_seqk ?_
  refine T_block ?_
  refine T_reg [] [1,2,5,6,7,41,1000000] [(41,.d (.v (.bool (bif (decide (a0.f0 < (0:Int))) then true else (decide (a0.f0 > (7:Int)))))))] [(4,((((decide (a0.f0 < (0:Int))) == false) && true)=true→True)),(0,((((decide (a0.f0 < (0:Int))) == false) && true)=true→True)),(0,((((decide (a0.f0 < (0:Int))) == false) && true)=true→True))] 2 (by kernel_rfl) (⟨(fun hg=>trivial),(fun hg=>trivial),(fun hg=>trivial)⟩) ?_
  refine T_cond (bif (decide (a0.f0 < (0:Int))) then true else (decide (a0.f0 > (7:Int)))) (by kernel_rfl) (fun hc=>?_) (fun hc=>?_)
  · have h:=cond_tt hc h
    refine T_reg [] [4,1000000] [(4,.d (.v (.int .i64 (14:Int))))] [] 1 (by kernel_rfl) (trivial) ?_
    obtain hs:=Option.some.inj h; subst hs
    refine T_ret fun a w hm=>inBlock_ret (then_ret (T_return (fr':=[(4,.d (.v (.int .i64 (14:Int)))),(1000000,.glo 1 (glob_internal_strconv_uint64pow10.flatMap (cI .u64)))]) [4] (by kernel_rfl) [.keep [4,1000000]] (by kernel_rfl) (by kernel_rfl) (by kernel_rfl) (by show _=_; kernel_rfl) (by exact ⟨⟨by kernel_rfl,by kernel_rfl⟩,trivial⟩) a w hm))
  · have h:=cond_ff hc h
    refine T_reg [] [2,5,6,7,50,1000000] [(50,.d (.v (.bool (decide (a1 > (12:Int))))))] [] 3 (by kernel_rfl) (trivial) ?_
    refine T_cond (decide (a1 > (12:Int))) (by kernel_rfl) (fun hc=>?_) (fun hc=>?_)
    · have h:=cond_tt hc h
      refine T_reg [] [4,1000000] [(4,.d (.v (.int .i64 (15:Int))))] [] 1 (by kernel_rfl) (trivial) ?_
      obtain hs:=Option.some.inj h; subst hs
      refine T_ret fun a w hm=>inBlock_ret (then_ret (T_return (fr':=[(4,.d (.v (.int .i64 (15:Int)))),(1000000,.glo 1 (glob_internal_strconv_uint64pow10.flatMap (cI .u64)))]) [4] (by kernel_rfl) [.keep [4,1000000]] (by kernel_rfl) (by kernel_rfl) (by kernel_rfl) (by show _=_; kernel_rfl) (by exact ⟨⟨by kernel_rfl,by kernel_rfl⟩,trivial⟩) a w hm))
    · have h:=cond_ff hc h
      refine T_joinc h (fun (p:Bool)=>[(2,.box [.d (.v (.int .i64 a0.f0)),.d (.v (.int .i64 a0.f1)),.d (.str a0.f2),.d (.sl 1 (a0.f3.map cS)),.d (.sl 5 (a0.f4.map rS_Object))]),(53,.d (.v (.bool p))),(1000000,.glo 1 (glob_internal_strconv_uint64pow10.flatMap (cI .u64)))]) (fun s h=>?_) (fun v2 h=>?_)
      · refine T_reg [] [2,6,7,53,1000000] [(53,.d (.v (.bool (bif (a0.f1 != (0:Int)) then (!z2) else false))))] [(4,((((a0.f1 != (0:Int)) == true) && true)=true→True)),(0,((((a0.f1 != (0:Int)) == true) && true)=true→True))] 2 (by kernel_rfl) (⟨(fun hg=>trivial),(fun hg=>trivial)⟩) ?_
        refine T_cond (bif (a0.f1 != (0:Int)) then (!z2) else false) (by kernel_rfl) (fun hc=>?_) (fun hc=>?_)
        · have h:=cond_tt hc h
          obtain hs:=Option.some.inj h; subst hs
          refine T_skip fun a w hm=>then_norm (hm.co (cs:=[.keep [2,53,1000000]]) (by show _=_; kernel_rfl))
        · have h:=cond_ff hc h
          obtain ⟨z3,hz2,h⟩:=lett_ok h
          refine T_reg [(6,{ rw:=some (.d (.v (.bool z3))) })] [2,7,53,1000000] [(53,.d (.v (.bool z3)))] [(4,((((!(a0.f2 == [])) == true) && true)=true→True)),(0,((((!(a0.f2 == [])) == true) && true)=true→True)),(0,(True)∧AV.d (.v (.bool (bif (!(a0.f2 == [])) then (!(bif (a0.f0 == (3:Int)) then true else (a0.f0 == (4:Int)))) else false)))=.d (.v (.bool z3)))] 1 (by kernel_rfl) (⟨(fun hg=>trivial),(fun hg=>trivial),⟨trivial,(by subst hz2; rfl)⟩⟩) ?_
          refine T_cond z3 (by kernel_rfl) (fun hc=>?_) (fun hc=>?_)
          · have h:=cond_tt hc h
            obtain hs:=Option.some.inj h; subst hs
            refine T_skip fun a w hm=>then_norm (hm.co (cs:=[.keep [2,53,1000000]]) (by show _=_; kernel_rfl))
          · have h:=cond_ff hc h
            obtain ⟨z4,hz3,h⟩:=lett_ok h
            obtain hs:=Option.some.inj h; subst hs
            refine T_reg_end [(2,{ rw:=some (.d (.v (.int .i64 (a0.f4.length:Int)))) }),(7,{ rw:=some (.d (.v (.bool z4))) })] [2,53,1000000] [(53,.d (.v (.bool z4)))] [(2,True∧AV.d (.v (.int .i64 ((a0.f4.map rS_Object).length:Int)))=.d (.v (.int .i64 (a0.f4.length:Int)))),(2,((((decide ((a0.f4.length:Int) > (0:Int))) == true) && true)=true→True)),(0,((((decide ((a0.f4.length:Int) > (0:Int))) == true) && true)=true→True)),(0,(True)∧AV.d (.v (.bool (bif (decide ((a0.f4.length:Int) > (0:Int))) then (!(bif (a0.f0 == (6:Int)) then true else (a0.f0 == (7:Int)))) else false)))=.d (.v (.bool z4)))] 1 (by kernel_rfl) (⟨len_ok rS_Object,(fun hg=>trivial),(fun hg=>trivial),⟨trivial,(by subst hz3; rfl)⟩⟩) fun a w hm=>then_norm (hm.co (cs:=[.keep [2,53,1000000]]) (by show _=_; kernel_rfl))
      · skip
        refine T_cond v2 (by kernel_rfl) (fun hc=>?_) (fun hc=>?_)
        · have h:=cond_tt hc h
          refine T_reg [] [4,1000000] [(4,.d (.v (.int .i64 (4:Int))))] [] 1 (by kernel_rfl) (trivial) ?_
          obtain hs:=Option.some.inj h; subst hs
          refine T_ret fun a w hm=>inBlock_ret (then_ret (T_return (fr':=[(4,.d (.v (.int .i64 (4:Int)))),(1000000,.glo 1 (glob_internal_strconv_uint64pow10.flatMap (cI .u64)))]) [4] (by kernel_rfl) [.keep [4,1000000]] (by kernel_rfl) (by kernel_rfl) (by kernel_rfl) (by show _=_; kernel_rfl) (by exact ⟨⟨by kernel_rfl,by kernel_rfl⟩,trivial⟩) a w hm))
        · have h:=cond_ff hc h
          refine T_joinc h (fun (p:Bool)=>[(2,.box [.d (.v (.int .i64 a0.f0)),.d (.v (.int .i64 a0.f1)),.d (.str a0.f2),.d (.sl 1 (a0.f3.map cS)),.d (.sl 5 (a0.f4.map rS_Object))]),(76,.d (.v (.bool p))),(1000000,.glo 1 (glob_internal_strconv_uint64pow10.flatMap (cI .u64)))]) (fun s h=>?_) (fun v3 h=>?_)
          · refine T_reg [(6,{ rw:=some (.d (.v (.int .i64 (a0.f3.length:Int)))) }),(9,{ rw:=some (.d (.v (.int .i64 (a0.f4.length:Int)))) })] [2,76,1000000] [(76,.d (.v (.bool (bif (a0.f0 == (7:Int)) then ((a0.f3.length:Int) != (a0.f4.length:Int)) else false))))] [(4,((((a0.f0 == (7:Int)) == true) && true)=true→True)),(0,((((a0.f0 == (7:Int)) == true) && true)=true→True)),(0,((((a0.f0 == (7:Int)) == true) && true)=true→True∧AV.d (.v (.int .i64 ((a0.f3.map cS).length:Int)))=.d (.v (.int .i64 (a0.f3.length:Int))))),(0,((((a0.f0 == (7:Int)) == true) && true)=true→True)),(0,((((a0.f0 == (7:Int)) == true) && true)=true→True)),(0,((((a0.f0 == (7:Int)) == true) && true)=true→True∧AV.d (.v (.int .i64 ((a0.f4.map rS_Object).length:Int)))=.d (.v (.int .i64 (a0.f4.length:Int))))),(0,((((a0.f0 == (7:Int)) == true) && true)=true→True))] 2 (by kernel_rfl) (⟨(fun hg=>trivial),(fun hg=>trivial),(fun hg=>len_ok cS),(fun hg=>trivial),(fun hg=>trivial),(fun hg=>len_ok rS_Object),(fun hg=>trivial)⟩) ?_
            refine T_cond (bif (a0.f0 == (7:Int)) then ((a0.f3.length:Int) != (a0.f4.length:Int)) else false) (by kernel_rfl) (fun hc=>?_) (fun hc=>?_)
            · have h:=cond_tt hc h
              obtain hs:=Option.some.inj h; subst hs
              refine T_skip fun a w hm=>then_norm (hm.co (cs:=[.keep [2,76,1000000]]) (by show _=_; kernel_rfl))
            · have h:=cond_ff hc h
              obtain hs:=Option.some.inj h; subst hs
              refine T_reg_end [(6,{ rw:=some (.d (.v (.int .i64 (a0.f3.length:Int)))) })] [2,76,1000000] [(76,.d (.v (.bool (bif (a0.f0 != (7:Int)) then (decide ((a0.f3.length:Int) > (0:Int))) else false))))] [(4,((((a0.f0 != (7:Int)) == true) && true)=true→True)),(0,((((a0.f0 != (7:Int)) == true) && true)=true→True)),(0,((((a0.f0 != (7:Int)) == true) && true)=true→True∧AV.d (.v (.int .i64 ((a0.f3.map cS).length:Int)))=.d (.v (.int .i64 (a0.f3.length:Int))))),(0,((((a0.f0 != (7:Int)) == true) && true)=true→True))] 2 (by kernel_rfl) (⟨(fun hg=>trivial),(fun hg=>trivial),(fun hg=>len_ok cS),(fun hg=>trivial)⟩) fun a w hm=>then_norm (hm.co (cs:=[.keep [2,76,1000000]]) (by show _=_; kernel_rfl))
          · skip
            refine T_cond v3 (by kernel_rfl) (fun hc=>?_) (fun hc=>?_)
            · have h:=cond_tt hc h
              refine T_reg [] [4,1000000] [(4,.d (.v (.int .i64 (4:Int))))] [] 1 (by kernel_rfl) (trivial) ?_
              obtain hs:=Option.some.inj h; subst hs
              refine T_ret fun a w hm=>inBlock_ret (then_ret (T_return (fr':=[(4,.d (.v (.int .i64 (4:Int)))),(1000000,.glo 1 (glob_internal_strconv_uint64pow10.flatMap (cI .u64)))]) [4] (by kernel_rfl) [.keep [4,1000000]] (by kernel_rfl) (by kernel_rfl) (by kernel_rfl) (by show _=_; kernel_rfl) (by exact ⟨⟨by kernel_rfl,by kernel_rfl⟩,trivial⟩) a w hm))
            · have h:=cond_ff hc h
              obtain ⟨z5,hz4,h⟩:=lett_ok h
              refine T_reg [(12,{ rw:=some (.d (.v (.bool z5))) })] [2,98,1000000] [(98,.d (.v (.bool z5)))] [(4,((((a0.f0 == (1:Int)) == true) && true)=true→True)),(0,((((a0.f0 == (1:Int)) == true) && true)=true→True)),(0,((((a0.f0 == (1:Int)) == true) && true)=true→True)),(2,((((bif (a0.f0 == (1:Int)) then (a0.f1 != (0:Int)) else false) == true) && true)=true→True)),(0,((((bif (a0.f0 == (1:Int)) then (a0.f1 != (0:Int)) else false) == true) && true)=true→True)),(0,((((bif (a0.f0 == (1:Int)) then (a0.f1 != (0:Int)) else false) == true) && true)=true→True)),(0,(True)∧AV.d (.v (.bool (bif (bif (a0.f0 == (1:Int)) then (a0.f1 != (0:Int)) else false) then (a0.f1 != (1:Int)) else false)))=.d (.v (.bool z5)))] 1 (by kernel_rfl) (⟨(fun hg=>trivial),(fun hg=>trivial),(fun hg=>trivial),(fun hg=>trivial),(fun hg=>trivial),(fun hg=>trivial),⟨trivial,(by subst hz4; rfl)⟩⟩) ?_
              refine T_cond z5 (by kernel_rfl) (fun hc=>?_) (fun hc=>?_)
              · have h:=cond_tt hc h
                refine T_reg [] [4,1000000] [(4,.d (.v (.int .i64 (3:Int))))] [] 1 (by kernel_rfl) (trivial) ?_
                obtain hs:=Option.some.inj h; subst hs
                refine T_ret fun a w hm=>inBlock_ret (then_ret (T_return (fr':=[(4,.d (.v (.int .i64 (3:Int)))),(1000000,.glo 1 (glob_internal_strconv_uint64pow10.flatMap (cI .u64)))]) [4] (by kernel_rfl) [.keep [4,1000000]] (by kernel_rfl) (by kernel_rfl) (by kernel_rfl) (by show _=_; kernel_rfl) (by exact ⟨⟨by kernel_rfl,by kernel_rfl⟩,trivial⟩) a w hm))
              · have h:=cond_ff hc h
                refine T_reg [(2,{ rw:=some (.d (.v (.int .i64 (a0.f4.length:Int)))) })] [2,112,1000000] [(112,.d (.v (.bool (decide ((a0.f4.length:Int) > (256:Int))))))] [(2,True∧AV.d (.v (.int .i64 ((a0.f4.map rS_Object).length:Int)))=.d (.v (.int .i64 (a0.f4.length:Int))))] 2 (by kernel_rfl) (len_ok rS_Object) ?_
                refine T_cond (decide ((a0.f4.length:Int) > (256:Int))) (by kernel_rfl) (fun hc=>?_) (fun hc=>?_)
                · have h:=cond_tt hc h
                  refine T_reg [] [4,1000000] [(4,.d (.v (.int .i64 (2:Int))))] [] 1 (by kernel_rfl) (trivial) ?_
                  obtain hs:=Option.some.inj h; subst hs
                  refine T_ret fun a w hm=>inBlock_ret (then_ret (T_return (fr':=[(4,.d (.v (.int .i64 (2:Int)))),(1000000,.glo 1 (glob_internal_strconv_uint64pow10.flatMap (cI .u64)))]) [4] (by kernel_rfl) [.keep [4,1000000]] (by kernel_rfl) (by kernel_rfl) (by kernel_rfl) (by show _=_; kernel_rfl) (by exact ⟨⟨by kernel_rfl,by kernel_rfl⟩,trivial⟩) a w hm))
                · have h:=cond_ff hc h
                  refine T_skip fun a w hm=>inBlock_norm (then_norm (((?_:T Tryz.prog e 147 _ _ _) a w hm)))
                  refine T_seqk ?_
                  refine T_reg [(2,{ rw:=some (.d (.v (.int .i64 (a0.f3.length:Int)))) })] [2,118,119,120,1000000] [(118,.d (.sl 1 (a0.f3.map cS))),(119,.d (.v (.int .i64 (a0.f3.length:Int)))),(120,.d (.v (.int .i64 (0:Int))))] [(2,True∧AV.d (.v (.int .i64 ((a0.f3.map cS).length:Int)))=.d (.v (.int .i64 (a0.f3.length:Int))))] 1 (by kernel_rfl) (len_ok cS) ?_
                  refine T_joinEt h (fun (p:Unit)=>[(1000000,.glo 1 (glob_internal_strconv_uint64pow10.flatMap (cI .u64)))]) (fun s h hk1=>?_) (fun s h=>?_)
                  · refine T_co [.keep [2,118,119,120,1000000]] ((fun (p:Int)=>[(2,.box [.d (.v (.int .i64 a0.f0)),.d (.v (.int .i64 a0.f1)),.d (.str a0.f2),.d (.sl 1 (a0.f3.map cS)),.d (.sl 5 (a0.f4.map rS_Object))]),(118,.d (.sl 1 (a0.f3.map cS))),(119,.d (.v (.int .i64 (a0.f3.length:Int)))),(120,.d (.v (.int .i64 p))),(1000000,.glo 1 (glob_internal_strconv_uint64pow10.flatMap (cI .u64)))]) (0:Int)) (by show _=_; kernel_rfl) ?_
                    refine T_block ?_
                    refine T_loopF (ι:=Int) (fun (p:Int)=>[(2,.box [.d (.v (.int .i64 a0.f0)),.d (.v (.int .i64 a0.f1)),.d (.str a0.f2),.d (.sl 1 (a0.f3.map cS)),.d (.sl 5 (a0.f4.map rS_Object))]),(118,.d (.sl 1 (a0.f3.map cS))),(119,.d (.v (.int .i64 (a0.f3.length:Int)))),(120,.d (.v (.int .i64 p))),(1000000,.glo 1 (glob_internal_strconv_uint64pow10.flatMap (cI .u64)))]) (fun n p=>object_node_L1 F a0 n p=some s) (fun i hh=>by simp [object_node_L1] at hh) (fun n v1 h=>?_) F (0:Int) h
                    have h:object_node_L1 F a0 (n+1) v1=some s:=h
                    rw [object_node_L1] at h
                    refine T_reg [] [2,118,119,120,121,1000000] [(121,.d (.v (.bool (decide (v1 < (a0.f3.length:Int))))))] [] 1 (by kernel_rfl) (trivial) ?_
                    refine T_seqk ?_
                    refine T_cond (decide (v1 < (a0.f3.length:Int))) (by kernel_rfl) (fun hc=>?_) (fun hc=>?_)
                    · have h:=cond_tt hc h
                      refine T_skip fun a w hm=>then_norm (((?_:T Tryz.prog e 147 _ _ _) a w hm))
                      refine T_seqk ?_
                      refine T_block ?_
                      obtain ⟨hp1,h⟩:=chk_ok h
                      refine T_reg [(1,{ cs:=cS (a0.f3.getD v1.toNat []) })] [2,8,9,118,119,120,1000000] [(8,.d (.v (.int .i64 v1))),(9,.d (.str (a0.f3.getD v1.toNat [])))] [(1,0≤v1∧(a0.f3.map cS)[v1.toNat]? = some (cS (a0.f3.getD v1.toNat [])))] 3 (by kernel_rfl) (idx_ok (d:=[]) cS hp1) ?_
                      refine T_seqk ?_
                      obtain ⟨y1,hy1,h⟩:=call_ok h
                      refine T_reg [(2,{ res:=.tup [.d (.str y1.1),.d (.v (.int .i64 y1.2))],vout:=[.glo 1 (glob_internal_strconv_uint64pow10.flatMap (cI .u64))],xs:=[1000000] })] [2,8,9,11,118,119,120,1000000] [(11,.d (.v (.int .i64 y1.2)))] [(2,ACall Tryz.prog 48 [.agg (cS_Token (S_Token.mk (2:Int) 0 (a0.f3.getD v1.toNat []) 0 0))] [.glo 1 (glob_internal_strconv_uint64pow10.flatMap (cI .u64))] (.tup [.d (.str y1.1),.d (.v (.int .i64 y1.2))]) [.glo 1 (glob_internal_strconv_uint64pow10.flatMap (cI .u64))])] 5 (by kernel_rfl) (token_Print_ok hy1) ?_
                      refine T_reg [] [2,8,9,11,118,119,120,132,1000000] [(132,.d (.v (.bool (y1.2 != (0:Int)))))] [] 2 (by kernel_rfl) (trivial) ?_
                      refine T_cond (y1.2 != (0:Int)) (by kernel_rfl) (fun hc=>?_) (fun hc=>?_)
                      · have h:=cond_tt hc h
                        refine T_reg [] [4,1000000] [(4,.d (.v (.int .i64 y1.2)))] [] 2 (by kernel_rfl) (trivial) ?_
                        obtain hs:=Option.some.inj h; subst hs
                        have h:=callE_esc hk1
                        obtain hs:=Option.some.inj h; subst hs
                        refine T_ret fun a w hm=>then_ret (inBlock_ret (then_ret (then_ret (inBlock_ret (then_ret (then_ret (T_return (fr':=[(4,.d (.v (.int .i64 y1.2))),(1000000,.glo 1 (glob_internal_strconv_uint64pow10.flatMap (cI .u64)))]) [4] (by kernel_rfl) [.keep [4,1000000]] (by kernel_rfl) (by kernel_rfl) (by kernel_rfl) (by show _=_; kernel_rfl) (by exact ⟨⟨by kernel_rfl,by kernel_rfl⟩,trivial⟩) a w hm)))))))
                      · have h:=cond_ff hc h
                        refine T_skip fun a w hm=>then_norm (((?_:T Tryz.prog e 147 _ _ _) a w hm))
                        obtain ⟨hp2,h⟩:=chk_ok h
                        obtain ⟨z1,hz5,h⟩:=lett_ok h
                        refine T_reg [(7,{ cs:=cS (a0.f3.getD (IntKind.i64.wrap (v1 - (1:Int))).toNat []) }),(10,{ rw:=some (.d (.v (.bool z1))) })] [2,118,119,120,145,1000000] [(145,.d (.v (.bool (bif (decide (v1 > (0:Int))) then z1 else false))))] [(3,((((decide (v1 > (0:Int))) == true) && true)=true→True)),(0,((((decide (v1 > (0:Int))) == true) && true)=true→True)),(0,((((decide (v1 > (0:Int))) == true) && true)=true→True)),(0,((((decide (v1 > (0:Int))) == true) && true)=true→True)),(0,((((decide (v1 > (0:Int))) == true) && true)=true→0≤(IntKind.i64.wrap (v1 - (1:Int)))∧(a0.f3.map cS)[(IntKind.i64.wrap (v1 - (1:Int))).toNat]? = some (cS (a0.f3.getD (IntKind.i64.wrap (v1 - (1:Int))).toNat [])))),(0,((((decide (v1 > (0:Int))) == true) && true)=true→True)),(0,((((decide (v1 > (0:Int))) == true) && true)=true→True)),(0,((((decide (v1 > (0:Int))) == true) && true)=true→(True)∧AV.d (.v (.bool (!(Op.bytesLess (a0.f3.getD (IntKind.i64.wrap (v1 - (1:Int))).toNat []) (a0.f3.getD v1.toNat [])))))=.d (.v (.bool z1))))] 1 (by kernel_rfl) (⟨(fun hg=>trivial),(fun hg=>trivial),(fun hg=>trivial),(fun hg=>trivial),(fun hg=>idx_ok (d:=[]) cS (hp2 hg)),(fun hg=>trivial),(fun hg=>trivial),(fun hg=>⟨trivial,(by subst hz5; rfl)⟩)⟩) ?_
                        refine T_cond (bif (decide (v1 > (0:Int))) then z1 else false) (by kernel_rfl) (fun hc=>?_) (fun hc=>?_)
                        · have h:=cond_tt hc h
                          refine T_reg [] [4,1000000] [(4,.d (.v (.int .i64 (4:Int))))] [] 1 (by kernel_rfl) (trivial) ?_
                          obtain hs:=Option.some.inj h; subst hs
                          have h:=callE_esc hk1
                          obtain hs:=Option.some.inj h; subst hs
                          refine T_ret fun a w hm=>inBlock_ret (then_ret (then_ret (inBlock_ret (then_ret (then_ret (T_return (fr':=[(4,.d (.v (.int .i64 (4:Int)))),(1000000,.glo 1 (glob_internal_strconv_uint64pow10.flatMap (cI .u64)))]) [4] (by kernel_rfl) [.keep [4,1000000]] (by kernel_rfl) (by kernel_rfl) (by kernel_rfl) (by show _=_; kernel_rfl) (by exact ⟨⟨by kernel_rfl,by kernel_rfl⟩,trivial⟩) a w hm))))))
                        · have h:=cond_ff hc h
                          refine T_skip fun a w hm=>inBlock_norm (then_norm (((?_:T Tryz.prog e 147 _ _ _) a w hm)))
                          refine T_reg_end [] [2,118,119,120,1000000] [(120,.d (.v (.int .i64 (IntKind.i64.wrap (v1+(1:Int))))))] [] 2 (by kernel_rfl) (trivial) fun a w hm=>then_norm (⟨IntKind.i64.wrap (v1+(1:Int)),h,hm.co (cs:=[.keep [2,118,119,120,1000000]]) (by show _=_; kernel_rfl)⟩)
                    · have h:=cond_ff hc h
                      obtain hs:=Option.some.inj h; subst hs
                      refine T_exit fun a w hm=>then_exit (then_exit (inBlock_exit (then_norm (⟨_,rfl,hm.co (cs:=[.keep [1000000]]) (by show _=_; kernel_rfl)⟩))))
                  · skip
                    refine fun a w hm=>then_norm (((?_:T Tryz.prog e 147 _ _ _) a w hm))
                    refine T_reg [] [4,1000000] [(4,.d (.v (.int .i64 (0:Int))))] [] 1 (by kernel_rfl) (trivial) ?_
                    obtain hs:=Option.some.inj h; subst hs
                    refine T_ret fun a w hm=>T_return (fr':=[(4,.d (.v (.int .i64 (0:Int)))),(1000000,.glo 1 (glob_internal_strconv_uint64pow10.flatMap (cI .u64)))]) [4] (by kernel_rfl) [.keep [4,1000000]] (by kernel_rfl) (by kernel_rfl) (by kernel_rfl) (by show _=_; kernel_rfl) (by exact ⟨⟨by kernel_rfl,by kernel_rfl⟩,trivial⟩) a w hm
theorem internal_strconv_FormatBool_ok {F:Nat} {a0:Bool} {r:(List UInt8)} (h:internal_strconv_FormatBool F a0=some r):ACall Tryz.prog 68 [.d (.v (.bool a0))] [] (.d (.str r)) []:=by
  rw [internal_strconv_FormatBool] at h
  refine ACall.intro (N:=4) Tryz.func68 rfl rfl rfl rfl rfl fun e=>?_
  refine T_reg [] [0] [] [] 1 (by kernel_rfl) (trivial) ?_
  refine T_seqk ?_
  refine T_reg [] [3] [(3,.d (.v (.bool a0)))] [] 1 (by kernel_rfl) (trivial) ?_
  refine T_cond a0 (by kernel_rfl) (fun hc=>?_) (fun hc=>?_)
  · have h:=cond_tt hc h
    refine T_reg [] [2] [(2,.d (.str ([116,114,117,101]:List UInt8)))] [] 1 (by kernel_rfl) (trivial) ?_
    obtain hs:=Option.some.inj h; subst hs
    refine T_ret fun a w hm=>then_ret (T_return (fr':=[(2,.d (.str ([116,114,117,101]:List UInt8)))]) [2] (by kernel_rfl) [.keep [2]] (by kernel_rfl) (by kernel_rfl) (by kernel_rfl) (by show _=_; kernel_rfl) (by exact trivial) a w hm)
  · have h:=cond_ff hc h
    refine T_skip fun a w hm=>then_norm (((?_:T Tryz.prog e 4 _ _ _) a w hm))
    refine T_reg [] [2] [(2,.d (.str ([102,97,108,115,101]:List UInt8)))] [] 1 (by kernel_rfl) (trivial) ?_
    obtain hs:=Option.some.inj h; subst hs
    refine T_ret fun a w hm=>T_return (fr':=[(2,.d (.str ([102,97,108,115,101]:List UInt8)))]) [2] (by kernel_rfl) [.keep [2]] (by kernel_rfl) (by kernel_rfl) (by kernel_rfl) (by show _=_; kernel_rfl) (by exact trivial) a w hm
theorem strconv_FormatBool_ok {F:Nat} {a0:Bool} {r:(List UInt8)} (h:strconv_FormatBool F a0=some r):ACall Tryz.prog 46 [.d (.v (.bool a0))] [] (.d (.str r)) []:=by
  rw [strconv_FormatBool] at h
  refine ACall.intro (N:=5) Tryz.func46 rfl rfl rfl rfl rfl fun e=>?_
  refine T_reg [] [0] [] [] 1 (by kernel_rfl) (trivial) ?_
  obtain ⟨y1,hy1,h⟩:=call_ok h
  refine T_reg [(1,{ res:=.d (.str y1) })] [2] [(2,.d (.str y1))] [(1,ACall Tryz.prog 68 [.d (.v (.bool a0))] [] (.d (.str y1)) [])] 1 (by kernel_rfl) (internal_strconv_FormatBool_ok hy1) ?_
  obtain hs:=Option.some.inj h; subst hs
  refine T_ret fun a w hm=>T_return (fr':=[(2,.d (.str y1))]) [2] (by kernel_rfl) [.keep [2]] (by kernel_rfl) (by kernel_rfl) (by kernel_rfl) (by show _=_; kernel_rfl) (by exact trivial) a w hm
theorem object_printer_nested_ok {F:Nat} {rec_object_printer_add:S_Object→Int→(List S_Token)→Int→Option (Int×(List S_Token)×Int)} (hrec_object_printer_add:∀ {a0:S_Object},∀ {a1:Int},∀ {c2:List S_Token},∀ {c3:Int},∀ {r:Int×(List S_Token)×Int},rec_object_printer_add a0 a1 c2 c3=some r→ACall Tryz.prog 24 [.bp 1000000 0,.agg (cS_Object a0),.d (.v (.int .i64 a1))] [.box [.own 46 5 (c2.map cS_Token),.d (.v (.int .i64 c3))],.glo 1 (glob_internal_strconv_uint64pow10.flatMap (cI .u64))] (.d (.v (.int .i64 r.1))) [.box [.own 46 5 (r.2.1.map cS_Token),.d (.v (.int .i64 r.2.2))],.glo 1 (glob_internal_strconv_uint64pow10.flatMap (cI .u64))]) {a0:S_Object} {a1:Int} {c2:List S_Token} {c3:Int} {r:Int×(List S_Token)×Int} (h:object_printer_nested F rec_object_printer_add a0 a1 c2 c3=some r):ACall Tryz.prog 47 [.bp 1000000 0,.agg (cS_Object a0),.d (.v (.int .i64 a1))] [.box [.own 46 5 (c2.map cS_Token),.d (.v (.int .i64 c3))],.glo 1 (glob_internal_strconv_uint64pow10.flatMap (cI .u64))] (.d (.v (.int .i64 r.1))) [.box [.own 46 5 (r.2.1.map cS_Token),.d (.v (.int .i64 r.2.2))],.glo 1 (glob_internal_strconv_uint64pow10.flatMap (cI .u64))]:=by
  rw [object_printer_nested] at h
  refine ACall.intro (N:=72) Tryz.func47 rfl rfl rfl rfl rfl fun e=>?_
  refine T_reg [] [0,2,4,1000000,1000001] [(4,.box [.d (.v (.int .i64 a0.f0)),.d (.v (.int .i64 a0.f1)),.d (.str a0.f2),.d (.sl 1 (a0.f3.map cS)),.d (.sl 5 (a0.f4.map rS_Object))])] [] 2 (by kernel_rfl) (trivial) ?_
  refine T_reg [] [0,2,4,7,8,1000000,1000001] [(7,.d (.v (.int .i64 (6:Int)))),(8,.d (.v (.int .i64 (7:Int))))] [] 2 (by kernel_rfl) (trivial) ?_
  refine T_joinc h (fun (p:Int×Int)=>[(0,.bp 1000000 0),(2,.d (.v (.int .i64 a1))),(4,.box [.d (.v (.int .i64 a0.f0)),.d (.v (.int .i64 a0.f1)),.d (.str a0.f2),.d (.sl 1 (a0.f3.map cS)),.d (.sl 5 (a0.f4.map rS_Object))]),(7,.d (.v (.int .i64 p.1))),(8,.d (.v (.int .i64 p.2))),(1000000,.box [.own 46 5 (c2.map cS_Token),.d (.v (.int .i64 c3))]),(1000001,.glo 1 (glob_internal_strconv_uint64pow10.flatMap (cI .u64)))]) (fun s h=>?_) (fun s h=>?_)
  · refine T_reg [] [0,2,4,7,8,14,1000000,1000001] [(14,.d (.v (.bool (a0.f0 == (7:Int)))))] [] 3 (by kernel_rfl) (trivial) ?_
    refine T_cond (a0.f0 == (7:Int)) (by kernel_rfl) (fun hc=>?_) (fun hc=>?_)
    · have h:=cond_tt hc h
      obtain hs:=Option.some.inj h; subst hs
      refine T_reg_end [] [0,2,4,7,8,1000000,1000001] [(7,.d (.v (.int .i64 (8:Int)))),(8,.d (.v (.int .i64 (9:Int))))] [] 2 (by kernel_rfl) (trivial) fun a w hm=>then_norm (hm.co (cs:=[.keep [0,2,4,7,8,1000000,1000001]]) (by show _=_; kernel_rfl))
    · have h:=cond_ff hc h
      obtain hs:=Option.some.inj h; subst hs
      refine T_skip fun a w hm=>then_norm (hm.co (cs:=[.keep [0,2,4,7,8,1000000,1000001]]) (by show _=_; kernel_rfl))
  · obtain ⟨v5,v6⟩:=s
    try dsimp only at h
    obtain ⟨hp1,h⟩:=chk_ok h
    refine T_reg [(7,{ es:=some (([(S_Token.mk v5 0 [] 0 0)]).map cS_Token) }),(8,{ es:=some ((c2++([(S_Token.mk v5 0 [] 0 0)])).map cS_Token) })] [0,2,4,8,1000000,1000001] [(1000000,.box [.own 46 5 ((c2++([(S_Token.mk v5 0 [] 0 0)])).map cS_Token),.d (.v (.int .i64 c3))])] [(7,(([(S_Token.mk v5 0 [] 0 0)]).map cS_Token)=(([(S_Token.mk v5 0 [] 0 0)]).map cS_Token)),(0,(c2.map cS_Token).length+(([(S_Token.mk v5 0 [] 0 0)]).map cS_Token).length≤4294967296∧(c2.map cS_Token)++(([(S_Token.mk v5 0 [] 0 0)]).map cS_Token)=((c2++([(S_Token.mk v5 0 [] 0 0)])).map cS_Token))] 3 (by kernel_rfl) (⟨rfl,app_ok cS_Token hp1⟩) ?_
    refine T_seqk ?_
    refine T_reg [(2,{ rw:=some (.d (.v (.int .i64 (a0.f4.length:Int)))) })] [0,2,4,8,27,28,29,1000000,1000001] [(27,.d (.sl 5 (a0.f4.map rS_Object))),(28,.d (.v (.int .i64 (a0.f4.length:Int)))),(29,.d (.v (.int .i64 (0:Int))))] [(2,True∧AV.d (.v (.int .i64 ((a0.f4.map rS_Object).length:Int)))=.d (.v (.int .i64 (a0.f4.length:Int))))] 1 (by kernel_rfl) (len_ok rS_Object) ?_
    refine T_joinEt h (fun (p:(List S_Token)×Int)=>[(0,.bp 1000000 0),(8,.d (.v (.int .i64 v6))),(1000000,.box [.own 46 5 (p.1.map cS_Token),.d (.v (.int .i64 p.2))]),(1000001,.glo 1 (glob_internal_strconv_uint64pow10.flatMap (cI .u64)))]) (fun s h hk1=>?_) (fun s h=>?_)
    · refine T_co [.keep [0,2,4,8,27,28,29,1000000,1000001]] ((fun (p:Int×(List S_Token)×Int)=>[(0,.bp 1000000 0),(2,.d (.v (.int .i64 a1))),(4,.box [.d (.v (.int .i64 a0.f0)),.d (.v (.int .i64 a0.f1)),.d (.str a0.f2),.d (.sl 1 (a0.f3.map cS)),.d (.sl 5 (a0.f4.map rS_Object))]),(8,.d (.v (.int .i64 v6))),(27,.d (.sl 5 (a0.f4.map rS_Object))),(28,.d (.v (.int .i64 (a0.f4.length:Int)))),(29,.d (.v (.int .i64 p.1))),(1000000,.box [.own 46 5 (p.2.1.map cS_Token),.d (.v (.int .i64 p.2.2))]),(1000001,.glo 1 (glob_internal_strconv_uint64pow10.flatMap (cI .u64)))]) ((0:Int),(c2++([(S_Token.mk v5 0 [] 0 0)])),c3)) (by show _=_; kernel_rfl) ?_
      refine T_block ?_
      refine T_loopF (ι:=Int×(List S_Token)×Int) (fun (p:Int×(List S_Token)×Int)=>[(0,.bp 1000000 0),(2,.d (.v (.int .i64 a1))),(4,.box [.d (.v (.int .i64 a0.f0)),.d (.v (.int .i64 a0.f1)),.d (.str a0.f2),.d (.sl 1 (a0.f3.map cS)),.d (.sl 5 (a0.f4.map rS_Object))]),(8,.d (.v (.int .i64 v6))),(27,.d (.sl 5 (a0.f4.map rS_Object))),(28,.d (.v (.int .i64 (a0.f4.length:Int)))),(29,.d (.v (.int .i64 p.1))),(1000000,.box [.own 46 5 (p.2.1.map cS_Token),.d (.v (.int .i64 p.2.2))]),(1000001,.glo 1 (glob_internal_strconv_uint64pow10.flatMap (cI .u64)))]) (fun n p=>object_printer_nested_L0 F a0 a1 rec_object_printer_add n p.1 p.2.1 p.2.2=some s) (fun i hh=>by simp [object_printer_nested_L0] at hh) (fun n p h=>?_) F ((0:Int),(c2++([(S_Token.mk v5 0 [] 0 0)])),c3) h
      obtain ⟨v1,v2,v3⟩:=p
      have h:object_printer_nested_L0 F a0 a1 rec_object_printer_add (n+1) v1 v2 v3=some s:=h
      rw [object_printer_nested_L0] at h
      refine T_reg [] [0,2,4,8,27,28,29,30,1000000,1000001] [(30,.d (.v (.bool (decide (v1 < (a0.f4.length:Int))))))] [] 1 (by kernel_rfl) (trivial) ?_
      refine T_seqk ?_
      refine T_cond (decide (v1 < (a0.f4.length:Int))) (by kernel_rfl) (fun hc=>?_) (fun hc=>?_)
      · have h:=cond_tt hc h
        refine T_skip fun a w hm=>then_norm (((?_:T Tryz.prog e 72 _ _ _) a w hm))
        refine T_seqk ?_
        refine T_block ?_
        obtain ⟨hp2,h⟩:=chk_ok h
        refine T_reg [(1,{ cs:=cS_Object (a0.f4.getD v1.toNat (S_Object.mk 0 0 [] [] [])) })] [0,2,4,8,9,10,27,28,29,1000000,1000001] [(9,.d (.v (.int .i64 v1))),(10,.box [.d (.v (.int .i64 ((a0.f4.getD v1.toNat (S_Object.mk 0 0 [] [] [])).f0))),.d (.v (.int .i64 ((a0.f4.getD v1.toNat (S_Object.mk 0 0 [] [] [])).f1))),.d (.str ((a0.f4.getD v1.toNat (S_Object.mk 0 0 [] [] [])).f2)),.d (.sl 1 (((a0.f4.getD v1.toNat (S_Object.mk 0 0 [] [] [])).f3).map cS)),.d (.sl 5 (((a0.f4.getD v1.toNat (S_Object.mk 0 0 [] [] [])).f4).map rS_Object))])] [(1,0≤v1∧(a0.f4.map rS_Object)[v1.toNat]? = some (cS_Object (a0.f4.getD v1.toNat (S_Object.mk 0 0 [] [] []))))] 4 (by kernel_rfl) (idx_okR (d:=(S_Object.mk 0 0 [] [] [])) rS_Object_eq hp2) ?_
        refine T_joinc h (fun (p:(List S_Token))=>[(0,.bp 1000000 0),(2,.d (.v (.int .i64 a1))),(4,.box [.d (.v (.int .i64 a0.f0)),.d (.v (.int .i64 a0.f1)),.d (.str a0.f2),.d (.sl 1 (a0.f3.map cS)),.d (.sl 5 (a0.f4.map rS_Object))]),(8,.d (.v (.int .i64 v6))),(10,.box [.d (.v (.int .i64 ((a0.f4.getD v1.toNat (S_Object.mk 0 0 [] [] [])).f0))),.d (.v (.int .i64 ((a0.f4.getD v1.toNat (S_Object.mk 0 0 [] [] [])).f1))),.d (.str ((a0.f4.getD v1.toNat (S_Object.mk 0 0 [] [] [])).f2)),.d (.sl 1 (((a0.f4.getD v1.toNat (S_Object.mk 0 0 [] [] [])).f3).map cS)),.d (.sl 5 (((a0.f4.getD v1.toNat (S_Object.mk 0 0 [] [] [])).f4).map rS_Object))]),(27,.d (.sl 5 (a0.f4.map rS_Object))),(28,.d (.v (.int .i64 (a0.f4.length:Int)))),(29,.d (.v (.int .i64 v1))),(1000000,.box [.own 46 5 (p.map cS_Token),.d (.v (.int .i64 v3))]),(1000001,.glo 1 (glob_internal_strconv_uint64pow10.flatMap (cI .u64)))]) (fun s h=>?_) (fun v4 h=>?_)
        · refine T_reg [] [0,2,4,8,9,10,27,28,29,36,1000000,1000001] [(36,.d (.v (.bool (a0.f0 == (7:Int)))))] [] 3 (by kernel_rfl) (trivial) ?_
          refine T_cond (a0.f0 == (7:Int)) (by kernel_rfl) (fun hc=>?_) (fun hc=>?_)
          · have h:=cond_tt hc h
            obtain ⟨hp3,h⟩:=chk_ok h
            obtain ⟨hp4,h⟩:=chk_ok h
            obtain hs:=Option.some.inj h; subst hs
            refine T_drawX_end mixed 6 (.take 0 (.take 1 (.take 2 (.take 3 (.take 5 (.take 7 (.all (.alt 4 (.all (.alt 6 (.all (.alt 8 (.all (.alt 9 (.all (.alt 10 (.all (.alt 11 (.all (.alt 12 (.take 13 (.take 14 (.all (.alt 15 .done .stop)))) .stop)) .stop)) .stop)) .stop)) .stop)) .stop)) (.alt 6 (.all (.alt 4 (.all (.alt 8 (.all (.alt 9 (.all (.alt 10 (.all (.alt 11 (.all (.alt 12 (.take 13 (.take 14 (.all (.alt 15 .done .stop)))) .stop)) .stop)) .stop)) .stop)) .stop)) (.alt 8 (.all (.alt 4 (.all (.alt 9 (.all (.alt 10 (.all (.alt 11 (.all (.alt 12 (.take 13 (.take 14 (.all (.alt 15 .done .stop)))) .stop)) .stop)) .stop)) .stop)) (.alt 9 (.all (.alt 4 (.all (.alt 10 (.all (.alt 11 (.all (.alt 12 (.take 13 (.take 14 (.all (.alt 15 .done .stop)))) .stop)) .stop)) .stop)) (.alt 10 (.all (.alt 4 (.all (.alt 11 (.all (.alt 12 (.take 13 (.take 14 (.all (.alt 15 .done .stop)))) .stop)) .stop)) (.alt 11 (.all (.alt 4 (.all (.alt 12 (.take 13 (.take 14 (.all (.alt 15 .done .stop)))) .stop)) .stop)) .stop))) .stop))) .stop))) .stop))) .stop))))))))) ([0,0,2,4,8,0,32,0,192,256,512,1024,2064,8191,16383,24575],[0,0,2,4,8,0,32,0,192,256,512,1024,2064,1,8192,20480]) 24751 [(8,{ cs:=cS (a0.f3.getD v1.toNat []) }),(11,{ es:=some (([(S_Token.mk (2:Int) 0 (a0.f3.getD v1.toNat []) 0 0)]).map cS_Token) }),(12,{ es:=some ((v2++([(S_Token.mk (2:Int) 0 (a0.f3.getD v1.toNat []) 0 0)])).map cS_Token) })] [0,2,4,8,10,27,28,29,1000000,1000001] [] [(0,.bp 1000000 0),(2,.d (.v (.int .i64 a1))),(4,.box [.d (.v (.int .i64 a0.f0)),.d (.v (.int .i64 a0.f1)),.d (.str a0.f2),.d (.sl 1 (a0.f3.map cS)),.d (.sl 5 (a0.f4.map rS_Object))]),(8,.d (.v (.int .i64 v6))),(10,.box [.d (.v (.int .i64 ((a0.f4.getD v1.toNat (S_Object.mk 0 0 [] [] [])).f0))),.d (.v (.int .i64 ((a0.f4.getD v1.toNat (S_Object.mk 0 0 [] [] [])).f1))),.d (.str ((a0.f4.getD v1.toNat (S_Object.mk 0 0 [] [] [])).f2)),.d (.sl 1 (((a0.f4.getD v1.toNat (S_Object.mk 0 0 [] [] [])).f3).map cS)),.d (.sl 5 (((a0.f4.getD v1.toNat (S_Object.mk 0 0 [] [] [])).f4).map rS_Object))]),(27,.d (.sl 5 (a0.f4.map rS_Object))),(28,.d (.v (.int .i64 (a0.f4.length:Int)))),(29,.d (.v (.int .i64 v1))),(1000000,.box [.own 46 5 ((v2++([(S_Token.mk (2:Int) 0 (a0.f3.getD v1.toNat []) 0 0)])).map cS_Token),.d (.v (.int .i64 v3))]),(1000001,.glo 1 (glob_internal_strconv_uint64pow10.flatMap (cI .u64)))] ((fun (o8:Prop)=>fun (o11:Prop)=>fun (o12:Prop)=>[(8,o8),(2,o11),(0,o12),(5,o8),(2,o11),(0,o12),(3,o8),(3,o11),(0,o12),(6,o11),(0,o12),(5,o11),(0,o12),(3,o11),(1,o12)]) (0≤v1∧(a0.f3.map cS)[v1.toNat]? = some (cS (a0.f3.getD v1.toNat []))) ((([(S_Token.mk (2:Int) 0 (a0.f3.getD v1.toNat []) 0 0)]).map cS_Token)=(([(S_Token.mk (2:Int) 0 (a0.f3.getD v1.toNat []) 0 0)]).map cS_Token)) ((v2.map cS_Token).length+(([(S_Token.mk (2:Int) 0 (a0.f3.getD v1.toNat []) 0 0)]).map cS_Token).length≤4294967296∧(v2.map cS_Token)++(([(S_Token.mk (2:Int) 0 (a0.f3.getD v1.toNat []) 0 0)]).map cS_Token)=((v2++([(S_Token.mk (2:Int) 0 (a0.f3.getD v1.toNat []) 0 0)])).map cS_Token))) 3 (by kernel_rfl) (by kernel_rfl) (by kernel_rfl) (have p8:=idx_ok (d:=[]) cS hp3; have p11:=rfl; have p12:=app_ok cS_Token hp4; ⟨p8,p11,p12,p8,p11,p12,p8,p11,p12,p11,p12,p11,p12,p11,p12⟩) fun a w hm=>then_norm (hm.co (cs:=[.keep [0,2,4,8,10,27,28,29,1000000,1000001]]) (by show _=_; kernel_rfl))
          · have h:=cond_ff hc h
            obtain hs:=Option.some.inj h; subst hs
            refine T_skip fun a w hm=>then_norm (hm.co (cs:=[.keep [0,2,4,8,10,27,28,29,1000000,1000001]]) (by show _=_; kernel_rfl))
        · skip
          obtain ⟨y1,hy1,h⟩:=call_ok h
          refine T_reg [(4,{ res:=.d (.v (.int .i64 y1.1)),vout:=[.box [.own 46 5 (y1.2.1.map cS_Token),.d (.v (.int .i64 y1.2.2))],.glo 1 (glob_internal_strconv_uint64pow10.flatMap (cI .u64))],xs:=[1000000,1000001] })] [0,2,4,8,11,27,28,29,1000000,1000001] [(11,.d (.v (.int .i64 y1.1))),(1000000,.box [.own 46 5 (y1.2.1.map cS_Token),.d (.v (.int .i64 y1.2.2))])] [(4,ACall Tryz.prog 24 [.bp 1000000 0,.agg (cS_Object (a0.f4.getD v1.toNat (S_Object.mk 0 0 [] [] []))),.d (.v (.int .i64 (IntKind.i64.wrap (a1+(1:Int)))))] [.box [.own 46 5 (v4.map cS_Token),.d (.v (.int .i64 v3))],.glo 1 (glob_internal_strconv_uint64pow10.flatMap (cI .u64))] (.d (.v (.int .i64 y1.1))) [.box [.own 46 5 (y1.2.1.map cS_Token),.d (.v (.int .i64 y1.2.2))],.glo 1 (glob_internal_strconv_uint64pow10.flatMap (cI .u64))])] 1 (by kernel_rfl) (hrec_object_printer_add hy1) ?_
          refine T_reg [] [0,2,4,8,11,27,28,29,58,1000000,1000001] [(58,.d (.v (.bool (y1.1 != (0:Int)))))] [] 2 (by kernel_rfl) (trivial) ?_
          refine T_cond (y1.1 != (0:Int)) (by kernel_rfl) (fun hc=>?_) (fun hc=>?_)
          · have h:=cond_tt hc h
            refine T_reg [] [6,1000000,1000001] [(6,.d (.v (.int .i64 y1.1)))] [] 2 (by kernel_rfl) (trivial) ?_
            obtain hs:=Option.some.inj h; subst hs
            have h:=callE_esc hk1
            obtain hs:=Option.some.inj h; subst hs
            refine T_ret fun a w hm=>inBlock_ret (then_ret (then_ret (inBlock_ret (then_ret (then_ret (T_return (fr':=[(6,.d (.v (.int .i64 y1.1))),(1000000,.box [.own 46 5 (y1.2.1.map cS_Token),.d (.v (.int .i64 y1.2.2))]),(1000001,.glo 1 (glob_internal_strconv_uint64pow10.flatMap (cI .u64)))]) [6] (by kernel_rfl) [.keep [6,1000000,1000001]] (by kernel_rfl) (by kernel_rfl) (by kernel_rfl) (by show _=_; kernel_rfl) (by exact ⟨⟨by kernel_rfl,by kernel_rfl⟩,⟨⟨by kernel_rfl,by kernel_rfl⟩,trivial⟩⟩) a w hm))))))
          · have h:=cond_ff hc h
            refine T_skip fun a w hm=>inBlock_norm (then_norm (((?_:T Tryz.prog e 72 _ _ _) a w hm)))
            refine T_reg_end [] [0,2,4,8,27,28,29,1000000,1000001] [(29,.d (.v (.int .i64 (IntKind.i64.wrap (v1+(1:Int))))))] [] 2 (by kernel_rfl) (trivial) fun a w hm=>then_norm (⟨(IntKind.i64.wrap (v1+(1:Int)),y1.2.1,y1.2.2),h,hm.co (cs:=[.keep [0,2,4,8,27,28,29,1000000,1000001]]) (by show _=_; kernel_rfl)⟩)
      · have h:=cond_ff hc h
        obtain hs:=Option.some.inj h; subst hs
        refine T_exit fun a w hm=>then_exit (then_exit (inBlock_exit (then_norm (⟨_,rfl,hm.co (cs:=[.keep [0,8,1000000,1000001]]) (by show _=_; kernel_rfl)⟩))))
    · obtain ⟨v7,v8⟩:=s
      try dsimp only at h
      refine fun a w hm=>then_norm (((?_:T Tryz.prog e 72 _ _ _) a w hm))
      obtain ⟨hp5,h⟩:=chk_ok h
      refine T_reg [(7,{ es:=some (([(S_Token.mk v6 0 [] 0 0)]).map cS_Token) }),(8,{ es:=some ((v7++([(S_Token.mk v6 0 [] 0 0)])).map cS_Token) })] [1000000,1000001] [(1000000,.box [.own 46 5 ((v7++([(S_Token.mk v6 0 [] 0 0)])).map cS_Token),.d (.v (.int .i64 v8))])] [(7,(([(S_Token.mk v6 0 [] 0 0)]).map cS_Token)=(([(S_Token.mk v6 0 [] 0 0)]).map cS_Token)),(0,(v7.map cS_Token).length+(([(S_Token.mk v6 0 [] 0 0)]).map cS_Token).length≤4294967296∧(v7.map cS_Token)++(([(S_Token.mk v6 0 [] 0 0)]).map cS_Token)=((v7++([(S_Token.mk v6 0 [] 0 0)])).map cS_Token))] 3 (by kernel_rfl) (⟨rfl,app_ok cS_Token hp5⟩) ?_
      refine T_reg [] [6,1000000,1000001] [(6,.d (.v (.int .i64 (0:Int))))] [] 1 (by kernel_rfl) (trivial) ?_
      obtain hs:=Option.some.inj h; subst hs
      refine T_ret fun a w hm=>T_return (fr':=[(6,.d (.v (.int .i64 (0:Int)))),(1000000,.box [.own 46 5 ((v7++([(S_Token.mk v6 0 [] 0 0)])).map cS_Token),.d (.v (.int .i64 v8))]),(1000001,.glo 1 (glob_internal_strconv_uint64pow10.flatMap (cI .u64)))]) [6] (by kernel_rfl) [.keep [6,1000000,1000001]] (by kernel_rfl) (by kernel_rfl) (by kernel_rfl) (by show _=_; kernel_rfl) (by exact ⟨⟨by kernel_rfl,by kernel_rfl⟩,⟨⟨by kernel_rfl,by kernel_rfl⟩,trivial⟩⟩) a w hm
theorem object_printer_add_body_ok {F:Nat} {rec_object_printer_add:S_Object→Int→(List S_Token)→Int→Option (Int×(List S_Token)×Int)} (hrec_object_printer_add:∀ {a0:S_Object},∀ {a1:Int},∀ {c2:List S_Token},∀ {c3:Int},∀ {r:Int×(List S_Token)×Int},rec_object_printer_add a0 a1 c2 c3=some r→ACall Tryz.prog 24 [.bp 1000000 0,.agg (cS_Object a0),.d (.v (.int .i64 a1))] [.box [.own 46 5 (c2.map cS_Token),.d (.v (.int .i64 c3))],.glo 1 (glob_internal_strconv_uint64pow10.flatMap (cI .u64))] (.d (.v (.int .i64 r.1))) [.box [.own 46 5 (r.2.1.map cS_Token),.d (.v (.int .i64 r.2.2))],.glo 1 (glob_internal_strconv_uint64pow10.flatMap (cI .u64))]) {a0:S_Object} {a1:Int} {c2:List S_Token} {c3:Int} {r:Int×(List S_Token)×Int} (h:object_printer_add_body F rec_object_printer_add a0 a1 c2 c3=some r):ACall Tryz.prog 24 [.bp 1000000 0,.agg (cS_Object a0),.d (.v (.int .i64 a1))] [.box [.own 46 5 (c2.map cS_Token),.d (.v (.int .i64 c3))],.glo 1 (glob_internal_strconv_uint64pow10.flatMap (cI .u64))] (.d (.v (.int .i64 r.1))) [.box [.own 46 5 (r.2.1.map cS_Token),.d (.v (.int .i64 r.2.2))],.glo 1 (glob_internal_strconv_uint64pow10.flatMap (cI .u64))]:=by
  rw [object_printer_add_body] at h
  refine ACall.intro (N:=81) Tryz.func24 rfl rfl rfl rfl rfl fun e=>?_
  refine T_reg [] [0,2,4,1000000,1000001] [(4,.box [.d (.v (.int .i64 a0.f0)),.d (.v (.int .i64 a0.f1)),.d (.str a0.f2),.d (.sl 1 (a0.f3.map cS)),.d (.sl 5 (a0.f4.map rS_Object))])] [] 2 (by kernel_rfl) (trivial) ?_
  refine T_seqk ?_
  refine T_reg [] [0,2,4,1000000,1000001] [(1000000,.box [.own 46 5 (c2.map cS_Token),.d (.v (.int .i64 (IntKind.i64.wrap (c3+(1:Int)))))])] [] 8 (by kernel_rfl) (trivial) ?_
  refine T_reg [] [0,2,4,22,1000000,1000001] [(22,.d (.v (.bool (decide ((IntKind.i64.wrap (c3+(1:Int))) > (4096:Int))))))] [] 5 (by kernel_rfl) (trivial) ?_
  refine T_cond (decide ((IntKind.i64.wrap (c3+(1:Int))) > (4096:Int))) (by kernel_rfl) (fun hc=>?_) (fun hc=>?_)
  · have h:=cond_tt hc h
    refine T_reg [] [6,1000000,1000001] [(6,.d (.v (.int .i64 (2:Int))))] [] 1 (by kernel_rfl) (trivial) ?_
    obtain hs:=Option.some.inj h; subst hs
    refine T_ret fun a w hm=>then_ret (T_return (fr':=[(6,.d (.v (.int .i64 (2:Int)))),(1000000,.box [.own 46 5 (c2.map cS_Token),.d (.v (.int .i64 (IntKind.i64.wrap (c3+(1:Int)))))]),(1000001,.glo 1 (glob_internal_strconv_uint64pow10.flatMap (cI .u64)))]) [6] (by kernel_rfl) [.keep [6,1000000,1000001]] (by kernel_rfl) (by kernel_rfl) (by kernel_rfl) (by show _=_; kernel_rfl) (by exact ⟨⟨by kernel_rfl,by kernel_rfl⟩,⟨⟨by kernel_rfl,by kernel_rfl⟩,trivial⟩⟩) a w hm)
  · have h:=cond_ff hc h
    refine T_skip fun a w hm=>then_norm (((?_:T Tryz.prog e 81 _ _ _) a w hm))
    refine T_seqk ?_
    obtain ⟨y1,hy1,h⟩:=call_ok h
    refine T_reg [(2,{ res:=.d (.v (.int .i64 y1)),vout:=[.glo 1 (glob_internal_strconv_uint64pow10.flatMap (cI .u64))],xs:=[1000001] })] [0,2,4,7,1000000,1000001] [(7,.d (.v (.int .i64 y1)))] [(2,ACall Tryz.prog 45 [.agg (cS_Object a0),.d (.v (.int .i64 a1))] [.glo 1 (glob_internal_strconv_uint64pow10.flatMap (cI .u64))] (.d (.v (.int .i64 y1))) [.glo 1 (glob_internal_strconv_uint64pow10.flatMap (cI .u64))])] 1 (by kernel_rfl) (object_node_ok hy1) ?_
    refine T_reg [] [0,2,4,7,27,1000000,1000001] [(27,.d (.v (.bool (y1 != (0:Int)))))] [] 2 (by kernel_rfl) (trivial) ?_
    refine T_cond (y1 != (0:Int)) (by kernel_rfl) (fun hc=>?_) (fun hc=>?_)
    · have h:=cond_tt hc h
      refine T_reg [] [6,1000000,1000001] [(6,.d (.v (.int .i64 y1)))] [] 2 (by kernel_rfl) (trivial) ?_
      obtain hs:=Option.some.inj h; subst hs
      refine T_ret fun a w hm=>then_ret (T_return (fr':=[(6,.d (.v (.int .i64 y1))),(1000000,.box [.own 46 5 (c2.map cS_Token),.d (.v (.int .i64 (IntKind.i64.wrap (c3+(1:Int)))))]),(1000001,.glo 1 (glob_internal_strconv_uint64pow10.flatMap (cI .u64)))]) [6] (by kernel_rfl) [.keep [6,1000000,1000001]] (by kernel_rfl) (by kernel_rfl) (by kernel_rfl) (by show _=_; kernel_rfl) (by exact ⟨⟨by kernel_rfl,by kernel_rfl⟩,⟨⟨by kernel_rfl,by kernel_rfl⟩,trivial⟩⟩) a w hm)
    · have h:=cond_ff hc h
      refine T_skip fun a w hm=>then_norm (((?_:T Tryz.prog e 81 _ _ _) a w hm))
      refine T_reg [] [0,2,4,8,1000000,1000001] [(8,.box [.d (.v (.int .i64 0)),.d (.v (.int .i64 0)),.d (.str []),.d (.v (.int .i64 0)),.d (.v (.int .i64 0))])] [] 1 (by kernel_rfl) (trivial) ?_
      refine T_joinE h (fun (p:(List UInt8)×Int×Int)=>[(0,.bp 1000000 0),(8,.box [.d (.v (.int .i64 p.2.1)),.d (.v (.int .i64 p.2.2)),.d (.str p.1),.d (.v (.int .i64 0)),.d (.v (.int .i64 0))]),(1000000,.box [.own 46 5 (c2.map cS_Token),.d (.v (.int .i64 (IntKind.i64.wrap (c3+(1:Int)))))]),(1000001,.glo 1 (glob_internal_strconv_uint64pow10.flatMap (cI .u64)))]) (fun s h hk1=>?_) (fun s h=>?_)
      · refine T_reg [] [0,2,4,8,30,1000000,1000001] [(30,.d (.v (.int .i64 a0.f0)))] [] 2 (by kernel_rfl) (trivial) ?_
        refine T_block ?_
        refine T_reg [] [0,2,4,8,30,35,1000000,1000001] [(35,.d (.v (.bool (a0.f0 == (0:Int)))))] [] 2 (by kernel_rfl) (trivial) ?_
        refine T_cond (a0.f0 == (0:Int)) (by kernel_rfl) (fun hc=>?_) (fun hc=>?_)
        · have h:=cond_tt hc h
          obtain hs:=Option.some.inj h; subst hs
          refine T_reg_end [] [0,8,1000000,1000001] [(8,.box [.d (.v (.int .i64 (5:Int))),.d (.v (.int .i64 0)),.d (.str ([110,117,108,108]:List UInt8)),.d (.v (.int .i64 0)),.d (.v (.int .i64 0))])] [] 2 (by kernel_rfl) (trivial) fun a w hm=>inBlock_norm (then_norm (⟨_,rfl,hm.co (cs:=[.keep [0,8,1000000,1000001]]) (by show _=_; kernel_rfl)⟩))
        · have h:=cond_ff hc h
          refine T_reg [] [0,2,4,8,30,38,1000000,1000001] [(38,.d (.v (.bool (a0.f0 == (1:Int)))))] [] 2 (by kernel_rfl) (trivial) ?_
          refine T_cond (a0.f0 == (1:Int)) (by kernel_rfl) (fun hc=>?_) (fun hc=>?_)
          · have h:=cond_tt hc h
            obtain ⟨y2,hy2,h⟩:=call_ok h
            obtain hs:=Option.some.inj h; subst hs
            refine T_reg_end [(3,{ res:=.d (.str y2) })] [0,8,1000000,1000001] [(8,.box [.d (.v (.int .i64 (5:Int))),.d (.v (.int .i64 0)),.d (.str y2),.d (.v (.int .i64 0)),.d (.v (.int .i64 0))])] [(3,ACall Tryz.prog 46 [.d (.v (.bool (a0.f1 == (1:Int))))] [] (.d (.str y2)) [])] 2 (by kernel_rfl) (strconv_FormatBool_ok hy2) fun a w hm=>inBlock_norm (then_norm (⟨_,rfl,hm.co (cs:=[.keep [0,8,1000000,1000001]]) (by show _=_; kernel_rfl)⟩))
          · have h:=cond_ff hc h
            refine T_reg [] [0,2,4,8,30,45,1000000,1000001] [(45,.d (.v (.bool (a0.f0 == (2:Int)))))] [] 2 (by kernel_rfl) (trivial) ?_
            refine T_cond (a0.f0 == (2:Int)) (by kernel_rfl) (fun hc=>?_) (fun hc=>?_)
            · have h:=cond_tt hc h
              obtain hs:=Option.some.inj h; subst hs
              refine T_reg_end [] [0,8,1000000,1000001] [(8,.box [.d (.v (.int .i64 (1:Int))),.d (.v (.int .i64 a0.f1)),.d (.str []),.d (.v (.int .i64 0)),.d (.v (.int .i64 0))])] [] 4 (by kernel_rfl) (trivial) fun a w hm=>inBlock_norm (then_norm (⟨_,rfl,hm.co (cs:=[.keep [0,8,1000000,1000001]]) (by show _=_; kernel_rfl)⟩))
            · have h:=cond_ff hc h
              refine T_reg [] [0,2,4,8,30,50,1000000,1000001] [(50,.d (.v (.bool (a0.f0 == (3:Int)))))] [] 2 (by kernel_rfl) (trivial) ?_
              refine T_cond (a0.f0 == (3:Int)) (by kernel_rfl) (fun hc=>?_) (fun hc=>?_)
              · have h:=cond_tt hc h
                obtain hs:=Option.some.inj h; subst hs
                refine T_reg_end [] [0,8,1000000,1000001] [(8,.box [.d (.v (.int .i64 (2:Int))),.d (.v (.int .i64 0)),.d (.str a0.f2),.d (.v (.int .i64 0)),.d (.v (.int .i64 0))])] [] 4 (by kernel_rfl) (trivial) fun a w hm=>inBlock_norm (then_norm (⟨_,rfl,hm.co (cs:=[.keep [0,8,1000000,1000001]]) (by show _=_; kernel_rfl)⟩))
              · have h:=cond_ff hc h
                refine T_reg [] [0,2,4,8,30,55,1000000,1000001] [(55,.d (.v (.bool (a0.f0 == (4:Int)))))] [] 2 (by kernel_rfl) (trivial) ?_
                refine T_cond (a0.f0 == (4:Int)) (by kernel_rfl) (fun hc=>?_) (fun hc=>?_)
                · have h:=cond_tt hc h
                  obtain hs:=Option.some.inj h; subst hs
                  refine T_reg_end [] [0,8,1000000,1000001] [(8,.box [.d (.v (.int .i64 (3:Int))),.d (.v (.int .i64 0)),.d (.str a0.f2),.d (.v (.int .i64 0)),.d (.v (.int .i64 0))])] [] 4 (by kernel_rfl) (trivial) fun a w hm=>inBlock_norm (then_norm (⟨_,rfl,hm.co (cs:=[.keep [0,8,1000000,1000001]]) (by show _=_; kernel_rfl)⟩))
                · have h:=cond_ff hc h
                  refine T_reg [] [0,2,4,8,60,1000000,1000001] [(60,.d (.v (.bool (a0.f0 == (5:Int)))))] [] 2 (by kernel_rfl) (trivial) ?_
                  refine T_cond (a0.f0 == (5:Int)) (by kernel_rfl) (fun hc=>?_) (fun hc=>?_)
                  · have h:=cond_tt hc h
                    obtain hs:=Option.some.inj h; subst hs
                    refine T_reg_end [] [0,8,1000000,1000001] [(8,.box [.d (.v (.int .i64 (4:Int))),.d (.v (.int .i64 a0.f1)),.d (.str []),.d (.v (.int .i64 0)),.d (.v (.int .i64 0))])] [] 4 (by kernel_rfl) (trivial) fun a w hm=>inBlock_norm (then_norm (⟨_,rfl,hm.co (cs:=[.keep [0,8,1000000,1000001]]) (by show _=_; kernel_rfl)⟩))
                  · have h:=cond_ff hc h
                    obtain ⟨y3,hy3,h⟩:=call_ok h
                    refine T_reg [(3,{ res:=.d (.v (.int .i64 y3.1)),vout:=[.box [.own 46 5 (y3.2.1.map cS_Token),.d (.v (.int .i64 y3.2.2))],.glo 1 (glob_internal_strconv_uint64pow10.flatMap (cI .u64))],xs:=[1000000,1000001] })] [6,1000000,1000001] [(6,.d (.v (.int .i64 y3.1))),(1000000,.box [.own 46 5 (y3.2.1.map cS_Token),.d (.v (.int .i64 y3.2.2))])] [(3,ACall Tryz.prog 47 [.bp 1000000 0,.agg (cS_Object a0),.d (.v (.int .i64 a1))] [.box [.own 46 5 (c2.map cS_Token),.d (.v (.int .i64 (IntKind.i64.wrap (c3+(1:Int)))))],.glo 1 (glob_internal_strconv_uint64pow10.flatMap (cI .u64))] (.d (.v (.int .i64 y3.1))) [.box [.own 46 5 (y3.2.1.map cS_Token),.d (.v (.int .i64 y3.2.2))],.glo 1 (glob_internal_strconv_uint64pow10.flatMap (cI .u64))])] 1 (by kernel_rfl) (object_printer_nested_ok hrec_object_printer_add hy3) ?_
                    obtain hs:=Option.some.inj h; subst hs
                    have h:=callE_esc hk1
                    obtain hs:=Option.some.inj h; subst hs
                    refine T_ret fun a w hm=>inBlock_ret (then_ret (T_return (fr':=[(6,.d (.v (.int .i64 y3.1))),(1000000,.box [.own 46 5 (y3.2.1.map cS_Token),.d (.v (.int .i64 y3.2.2))]),(1000001,.glo 1 (glob_internal_strconv_uint64pow10.flatMap (cI .u64)))]) [6] (by kernel_rfl) [.keep [6,1000000,1000001]] (by kernel_rfl) (by kernel_rfl) (by kernel_rfl) (by show _=_; kernel_rfl) (by exact ⟨⟨by kernel_rfl,by kernel_rfl⟩,⟨⟨by kernel_rfl,by kernel_rfl⟩,trivial⟩⟩) a w hm))
      · obtain ⟨v1,v2,v3⟩:=s
        try dsimp only at h
        obtain ⟨hp1,h⟩:=chk_ok h
        refine T_drawX mixed 3 (.take 0 (.take 1 (.take 2 (.take 3 (.all (.alt 4 (.all (.alt 5 (.all (.alt 6 (.all (.alt 7 (.take 8 (.take 9 (.all (.alt 10 .done .stop)))) .stop)) .stop)) .stop)) (.alt 5 (.all (.alt 4 (.all (.alt 6 (.all (.alt 7 (.take 8 (.take 9 (.all (.alt 10 .done .stop)))) .stop)) .stop)) (.alt 6 (.all (.alt 4 (.all (.alt 7 (.take 8 (.take 9 (.all (.alt 10 .done .stop)))) .stop)) .stop)) .stop))) .stop))))))) ([0,0,2,4,8,0,32,80,255,511,767],[0,0,2,4,8,0,32,80,1,256,640]) 783 [(6,{ es:=some (([(S_Token.mk v2 v3 v1 0 0)]).map cS_Token) }),(7,{ es:=some ((c2++([(S_Token.mk v2 v3 v1 0 0)])).map cS_Token) })] [8,1000000,1000001] [] [(8,.box [.d (.v (.int .i64 v2)),.d (.v (.int .i64 v3)),.d (.str v1),.d (.v (.int .i64 0)),.d (.v (.int .i64 0))]),(1000000,.box [.own 46 5 ((c2++([(S_Token.mk v2 v3 v1 0 0)])).map cS_Token),.d (.v (.int .i64 (IntKind.i64.wrap (c3+(1:Int)))))]),(1000001,.glo 1 (glob_internal_strconv_uint64pow10.flatMap (cI .u64)))] ((fun (o6:Prop)=>fun (o7:Prop)=>[(6,o6),(0,o7),(5,o6),(0,o7),(3,o6),(1,o7)]) ((([(S_Token.mk v2 v3 v1 0 0)]).map cS_Token)=(([(S_Token.mk v2 v3 v1 0 0)]).map cS_Token)) ((c2.map cS_Token).length+(([(S_Token.mk v2 v3 v1 0 0)]).map cS_Token).length≤4294967296∧(c2.map cS_Token)++(([(S_Token.mk v2 v3 v1 0 0)]).map cS_Token)=((c2++([(S_Token.mk v2 v3 v1 0 0)])).map cS_Token))) 3 (by kernel_rfl) (by kernel_rfl) (by kernel_rfl) (have p6:=rfl; have p7:=app_ok cS_Token hp1; ⟨p6,p7,p6,p7,p6,p7⟩) ?_
        obtain ⟨y4,hy4,h⟩:=call_ok h
        refine T_reg [(1,{ res:=.tup [.d (.str y4.1),.d (.v (.int .i64 y4.2))],vout:=[.glo 1 (glob_internal_strconv_uint64pow10.flatMap (cI .u64))],xs:=[1000001] })] [10,1000000,1000001] [(10,.d (.v (.int .i64 y4.2)))] [(1,ACall Tryz.prog 48 [.agg (cS_Token (S_Token.mk v2 v3 v1 0 0))] [.glo 1 (glob_internal_strconv_uint64pow10.flatMap (cI .u64))] (.tup [.d (.str y4.1),.d (.v (.int .i64 y4.2))]) [.glo 1 (glob_internal_strconv_uint64pow10.flatMap (cI .u64))])] 5 (by kernel_rfl) (token_Print_ok hy4) ?_
        refine T_reg [] [6,1000000,1000001] [(6,.d (.v (.int .i64 y4.2)))] [] 2 (by kernel_rfl) (trivial) ?_
        obtain hs:=Option.some.inj h; subst hs
        refine T_ret fun a w hm=>T_return (fr':=[(6,.d (.v (.int .i64 y4.2))),(1000000,.box [.own 46 5 ((c2++([(S_Token.mk v2 v3 v1 0 0)])).map cS_Token),.d (.v (.int .i64 (IntKind.i64.wrap (c3+(1:Int)))))]),(1000001,.glo 1 (glob_internal_strconv_uint64pow10.flatMap (cI .u64)))]) [6] (by kernel_rfl) [.keep [6,1000000,1000001]] (by kernel_rfl) (by kernel_rfl) (by kernel_rfl) (by show _=_; kernel_rfl) (by exact ⟨⟨by kernel_rfl,by kernel_rfl⟩,⟨⟨by kernel_rfl,by kernel_rfl⟩,trivial⟩⟩) a w hm
theorem object_printer_add_fuel_ok {F:Nat} (n:Nat):∀ {a0:S_Object} {a1:Int} {c2:List S_Token} {c3:Int} {r:Int×(List S_Token)×Int},object_printer_add_fuel F n a0 a1 c2 c3=some r→ACall Tryz.prog 24 [.bp 1000000 0,.agg (cS_Object a0),.d (.v (.int .i64 a1))] [.box [.own 46 5 (c2.map cS_Token),.d (.v (.int .i64 c3))],.glo 1 (glob_internal_strconv_uint64pow10.flatMap (cI .u64))] (.d (.v (.int .i64 r.1))) [.box [.own 46 5 (r.2.1.map cS_Token),.d (.v (.int .i64 r.2.2))],.glo 1 (glob_internal_strconv_uint64pow10.flatMap (cI .u64))]:=by
  induction n with
  | zero=>intro a0 a1 c2 c3 r h; exact absurd (show (none:Option (Int×(List S_Token)×Int))=some r from h) (by simp)
  | succ n ih=>intro a0 a1 c2 c3 r h; exact object_printer_add_body_ok ih h
theorem object_printer_add_ok {F:Nat} {a0:S_Object} {a1:Int} {c2:List S_Token} {c3:Int} {r:Int×(List S_Token)×Int} (h:object_printer_add F a0 a1 c2 c3=some r):ACall Tryz.prog 24 [.bp 1000000 0,.agg (cS_Object a0),.d (.v (.int .i64 a1))] [.box [.own 46 5 (c2.map cS_Token),.d (.v (.int .i64 c3))],.glo 1 (glob_internal_strconv_uint64pow10.flatMap (cI .u64))] (.d (.v (.int .i64 r.1))) [.box [.own 46 5 (r.2.1.map cS_Token),.d (.v (.int .i64 r.2.2))],.glo 1 (glob_internal_strconv_uint64pow10.flatMap (cI .u64))]:=object_printer_add_fuel_ok F h
theorem token_Join_ok {F:Nat} {a0:List S_Token} {r:(List UInt8)×Int} (h:token_Join F a0=some r):ACall Tryz.prog 25 [.d (.sl 5 (a0.map cS_Token))] [.glo 1 (glob_internal_strconv_uint64pow10.flatMap (cI .u64))] (.tup [.d (.str r.1),.d (.v (.int .i64 r.2))]) [.glo 1 (glob_internal_strconv_uint64pow10.flatMap (cI .u64))]:=by
  rw [token_Join] at h
  refine ACall.intro (N:=43) Tryz.func25 rfl rfl rfl rfl rfl fun e=>?_
  refine T_reg [] [0,1000000] [] [] 2 (by kernel_rfl) (trivial) ?_
  refine T_reg [(0,{ slfs:=[(0,0)] })] [0,4,1000000] [(4,.box [.slf 0 87,.own 5 1 ([].map cU)])] [] 1 (by kernel_rfl) (trivial) ?_
  refine T_reg [] [0,4,5,1000000] [(5,.d (.v (.bool false)))] [] 1 (by kernel_rfl) (trivial) ?_
  refine T_seqk ?_
  refine T_reg [(1,{ rw:=some (.d (.v (.int .i64 (a0.length:Int)))) })] [4,5,10,11,12,1000000] [(10,.d (.sl 5 (a0.map cS_Token))),(11,.d (.v (.int .i64 (a0.length:Int)))),(12,.d (.v (.int .i64 (0:Int))))] [(1,True∧AV.d (.v (.int .i64 ((a0.map cS_Token).length:Int)))=.d (.v (.int .i64 (a0.length:Int))))] 1 (by kernel_rfl) (len_ok cS_Token) ?_
  refine T_joinEt h (fun (p:(List UInt8))=>[(4,.box [.slf 0 87,.own 5 1 (p.map cU)]),(1000000,.glo 1 (glob_internal_strconv_uint64pow10.flatMap (cI .u64)))]) (fun s h hk1=>?_) (fun v5 h=>?_)
  · refine T_co [.keep [4,5,10,11,12,1000000]] ((fun (p:(List UInt8)×Bool×Int)=>[(4,.box [.slf 0 87,.own 5 1 (p.1.map cU)]),(5,.d (.v (.bool p.2.1))),(10,.d (.sl 5 (a0.map cS_Token))),(11,.d (.v (.int .i64 (a0.length:Int)))),(12,.d (.v (.int .i64 p.2.2))),(1000000,.glo 1 (glob_internal_strconv_uint64pow10.flatMap (cI .u64)))]) ([],false,(0:Int))) (by show _=_; kernel_rfl) ?_
    refine T_block ?_
    refine T_loopF (ι:=(List UInt8)×Bool×Int) (fun (p:(List UInt8)×Bool×Int)=>[(4,.box [.slf 0 87,.own 5 1 (p.1.map cU)]),(5,.d (.v (.bool p.2.1))),(10,.d (.sl 5 (a0.map cS_Token))),(11,.d (.v (.int .i64 (a0.length:Int)))),(12,.d (.v (.int .i64 p.2.2))),(1000000,.glo 1 (glob_internal_strconv_uint64pow10.flatMap (cI .u64)))]) (fun n p=>token_Join_L0 F a0 n p.1 p.2.1 p.2.2=some s) (fun i hh=>by simp [token_Join_L0] at hh) (fun n p h=>?_) F ([],false,(0:Int)) h
    obtain ⟨v1,v2,v3⟩:=p
    have h:token_Join_L0 F a0 (n+1) v1 v2 v3=some s:=h
    rw [token_Join_L0] at h
    refine T_reg [] [4,5,10,11,12,13,1000000] [(13,.d (.v (.bool (decide (v3 < (a0.length:Int))))))] [] 1 (by kernel_rfl) (trivial) ?_
    refine T_seqk ?_
    refine T_cond (decide (v3 < (a0.length:Int))) (by kernel_rfl) (fun hc=>?_) (fun hc=>?_)
    · have h:=cond_tt hc h
      refine T_skip fun a w hm=>then_norm (((?_:T Tryz.prog e 43 _ _ _) a w hm))
      refine T_seqk ?_
      refine T_block ?_
      obtain ⟨hp1,h⟩:=chk_ok h
      refine T_reg [(0,{ cs:=cS_Token (a0.getD v3.toNat (S_Token.mk 0 0 [] 0 0)) })] [4,5,7,10,11,12,1000000] [(7,.box [.d (.v (.int .i64 ((a0.getD v3.toNat (S_Token.mk 0 0 [] 0 0)).f0))),.d (.v (.int .i64 ((a0.getD v3.toNat (S_Token.mk 0 0 [] 0 0)).f1))),.d (.str ((a0.getD v3.toNat (S_Token.mk 0 0 [] 0 0)).f2)),.d (.v (.int .i64 ((a0.getD v3.toNat (S_Token.mk 0 0 [] 0 0)).f3))),.d (.v (.int .i64 ((a0.getD v3.toNat (S_Token.mk 0 0 [] 0 0)).f4)))])] [(0,0≤v3∧(a0.map cS_Token)[v3.toNat]? = some (cS_Token (a0.getD v3.toNat (S_Token.mk 0 0 [] 0 0))))] 3 (by kernel_rfl) (idx_ok (d:=(S_Token.mk 0 0 [] 0 0)) cS_Token hp1) ?_
      obtain ⟨y1,hy1,h⟩:=call_ok h
      refine T_reg [(1,{ res:=.tup [.d (.str y1.1),.d (.v (.int .i64 y1.2))],vout:=[.glo 1 (glob_internal_strconv_uint64pow10.flatMap (cI .u64))],xs:=[1000000] })] [4,5,8,9,10,11,12,1000000] [(8,.d (.str y1.1)),(9,.d (.v (.int .i64 y1.2)))] [(1,ACall Tryz.prog 48 [.agg (cS_Token (a0.getD v3.toNat (S_Token.mk 0 0 [] 0 0)))] [.glo 1 (glob_internal_strconv_uint64pow10.flatMap (cI .u64))] (.tup [.d (.str y1.1),.d (.v (.int .i64 y1.2))]) [.glo 1 (glob_internal_strconv_uint64pow10.flatMap (cI .u64))])] 5 (by kernel_rfl) (token_Print_ok hy1) ?_
      refine T_seqk ?_
      refine T_reg [] [4,5,8,9,10,11,12,22,1000000] [(22,.d (.v (.bool (y1.2 != (0:Int)))))] [] 2 (by kernel_rfl) (trivial) ?_
      refine T_cond (y1.2 != (0:Int)) (by kernel_rfl) (fun hc=>?_) (fun hc=>?_)
      · have h:=cond_tt hc h
        refine T_reg [] [2,3,1000000] [(2,.d (.str [])),(3,.d (.v (.int .i64 y1.2)))] [] 3 (by kernel_rfl) (trivial) ?_
        obtain hs:=Option.some.inj h; subst hs
        have h:=callE_esc hk1
        obtain hs:=Option.some.inj h; subst hs
        refine T_ret fun a w hm=>then_ret (inBlock_ret (then_ret (then_ret (inBlock_ret (then_ret (then_ret (T_return (fr':=[(2,.d (.str [])),(3,.d (.v (.int .i64 y1.2))),(1000000,.glo 1 (glob_internal_strconv_uint64pow10.flatMap (cI .u64)))]) [2,3] (by kernel_rfl) [.keep [2,3,1000000]] (by kernel_rfl) (by kernel_rfl) (by kernel_rfl) (by show _=_; kernel_rfl) (by exact ⟨⟨by kernel_rfl,by kernel_rfl⟩,trivial⟩) a w hm)))))))
      · have h:=cond_ff hc h
        refine T_skip fun a w hm=>then_norm (((?_:T Tryz.prog e 43 _ _ _) a w hm))
        refine T_joinc h (fun (p:(List UInt8))=>[(4,.box [.slf 0 87,.own 5 1 (p.map cU)]),(8,.d (.str y1.1)),(10,.d (.sl 5 (a0.map cS_Token))),(11,.d (.v (.int .i64 (a0.length:Int)))),(12,.d (.v (.int .i64 v3))),(1000000,.glo 1 (glob_internal_strconv_uint64pow10.flatMap (cI .u64)))]) (fun s h=>?_) (fun v4 h=>?_)
        · obtain ⟨hp2,h⟩:=chk_ok h
          obtain ⟨y2,hy2,h⟩:=call_ok h
          refine T_reg [(4,{ res:=.d (.v (.bool y2)) })] [4,8,10,11,12,29,1000000] [(29,.d (.v (.bool (bif v2 then y2 else false))))] [(2,(((v2 == true) && true)=true→True)),(0,(((v2 == true) && true)=true→0≤(0:Int)∧(0:Int) < y1.1.length)),(0,(((v2 == true) && true)=true→ACall Tryz.prog 49 [.d (.v (.int .u8 ((y1.1.getD (0:Int).toNat 0).toNat:Int)))] [] (.d (.v (.bool y2))) []))] 1 (by kernel_rfl) (⟨(fun hg=>trivial),(fun hg=>(hp2 hg)),(fun hg=>token_regular_ok (gcall_ok hg hy2))⟩) ?_
          refine T_cond (bif v2 then y2 else false) (by kernel_rfl) (fun hc=>?_) (fun hc=>?_)
          · have h:=cond_tt hc h
            obtain ⟨y3,hy3,h⟩:=call_ok h
            obtain hs:=Option.some.inj h; subst hs
            refine T_reg_end [(0,{ res:=.d (.v .nilIface),vout:=[.box [.slf 0 87,.own 5 1 (y3.2.map cU)]],xs:=[4] })] [4,8,10,11,12,1000000] [(4,.box [.slf 0 87,.own 5 1 (y3.2.map cU)])] [(0,ACall Tryz.prog 50 [.bp 1000000 0,.d (.v (.int .u8 (32:Int)))] [.box [.slf 0 87,.own 5 1 (v1.map cU)]] (.d (.v .nilIface)) [.box [.slf 0 87,.own 5 1 (y3.2.map cU)]])] 0 (by kernel_rfl) (strings_Builder_WriteByte_ok hy3) fun a w hm=>then_norm (hm.co (cs:=[.keep [4,8,10,11,12,1000000]]) (by show _=_; kernel_rfl))
          · have h:=cond_ff hc h
            obtain hs:=Option.some.inj h; subst hs
            refine T_skip fun a w hm=>then_norm (hm.co (cs:=[.keep [4,8,10,11,12,1000000]]) (by show _=_; kernel_rfl))
        · skip
          obtain ⟨y4,hy4,h⟩:=call_ok h
          refine T_reg [(1,{ res:=.tup [.d (.v (.int .i64 y4.1)),.d (.v .nilIface)],vout:=[.box [.slf 0 87,.own 5 1 (y4.2.2.map cU)]],xs:=[4] })] [4,8,10,11,12,1000000] [(4,.box [.slf 0 87,.own 5 1 (y4.2.2.map cU)])] [(1,ACall Tryz.prog 51 [.bp 1000000 0,.d (.str y1.1)] [.box [.slf 0 87,.own 5 1 (v4.map cU)]] (.tup [.d (.v (.int .i64 y4.1)),.d (.v .nilIface)]) [.box [.slf 0 87,.own 5 1 (y4.2.2.map cU)]])] 0 (by kernel_rfl) (strings_Builder_WriteString_ok hy4) ?_
          refine T_seqk ?_
          obtain ⟨y5,hy5,h⟩:=call_ok h
          refine T_reg [(0,{ res:=.d (.v (.int .i64 y5.1)),vout:=[.box [.slf 0 87,.own 5 1 (y5.2.map cU)]],xs:=[4] })] [4,8,10,11,12,34,1000000] [(4,.box [.slf 0 87,.own 5 1 (y5.2.map cU)]),(34,.d (.v (.bool (decide (y5.1 > (8192:Int))))))] [(0,ACall Tryz.prog 52 [.bp 1000000 0] [.box [.slf 0 87,.own 5 1 (y4.2.2.map cU)]] (.d (.v (.int .i64 y5.1))) [.box [.slf 0 87,.own 5 1 (y5.2.map cU)]])] 1 (by kernel_rfl) (strings_Builder_Len_ok hy5) ?_
          refine T_cond (decide (y5.1 > (8192:Int))) (by kernel_rfl) (fun hc=>?_) (fun hc=>?_)
          · have h:=cond_tt hc h
            refine T_reg [] [2,3,1000000] [(2,.d (.str [])),(3,.d (.v (.int .i64 (2:Int))))] [] 2 (by kernel_rfl) (trivial) ?_
            obtain hs:=Option.some.inj h; subst hs
            have h:=callE_esc hk1
            obtain hs:=Option.some.inj h; subst hs
            refine T_ret fun a w hm=>then_ret (inBlock_ret (then_ret (then_ret (inBlock_ret (then_ret (then_ret (T_return (fr':=[(2,.d (.str [])),(3,.d (.v (.int .i64 (2:Int)))),(1000000,.glo 1 (glob_internal_strconv_uint64pow10.flatMap (cI .u64)))]) [2,3] (by kernel_rfl) [.keep [2,3,1000000]] (by kernel_rfl) (by kernel_rfl) (by kernel_rfl) (by show _=_; kernel_rfl) (by exact ⟨⟨by kernel_rfl,by kernel_rfl⟩,trivial⟩) a w hm)))))))
          · have h:=cond_ff hc h
            refine T_skip fun a w hm=>then_norm (((?_:T Tryz.prog e 43 _ _ _) a w hm))
            obtain ⟨hp3,h⟩:=chk_ok h
            obtain ⟨y6,hy6,h⟩:=call_ok h
            refine T_reg_end [(5,{ res:=.d (.v (.bool y6)) })] [4,5,10,11,12,1000000] [(5,.d (.v (.bool y6)))] [(4,0≤(IntKind.i64.wrap ((y1.1.length:Int) - (1:Int)))∧(IntKind.i64.wrap ((y1.1.length:Int) - (1:Int))) < y1.1.length),(0,ACall Tryz.prog 49 [.d (.v (.int .u8 ((y1.1.getD (IntKind.i64.wrap ((y1.1.length:Int) - (1:Int))).toNat 0).toNat:Int)))] [] (.d (.v (.bool y6))) [])] 1 (by kernel_rfl) (⟨hp3,token_regular_ok hy6⟩) fun a w hm=>inBlock_norm (then_norm (((?_:T Tryz.prog e 43 _ _ _) a w hm)))
            refine T_reg_end [] [4,5,10,11,12,1000000] [(12,.d (.v (.int .i64 (IntKind.i64.wrap (v3+(1:Int))))))] [] 2 (by kernel_rfl) (trivial) fun a w hm=>then_norm (⟨(y5.2,y6,IntKind.i64.wrap (v3+(1:Int))),h,hm.co (cs:=[.keep [4,5,10,11,12,1000000]]) (by show _=_; kernel_rfl)⟩)
    · have h:=cond_ff hc h
      obtain hs:=Option.some.inj h; subst hs
      refine T_exit fun a w hm=>then_exit (then_exit (inBlock_exit (then_norm (⟨_,rfl,hm.co (cs:=[.keep [4,1000000]]) (by show _=_; kernel_rfl)⟩))))
  · skip
    refine fun a w hm=>then_norm (((?_:T Tryz.prog e 43 _ _ _) a w hm))
    obtain ⟨hp4,h⟩:=chk_ok h
    refine T_reg [(0,{ xs:=[4],vout:=[.box [.slf 0 87,.junk]],res:=.d (.str v5) })] [2,3,1000000] [(2,.d (.str v5)),(3,.d (.v (.int .i64 (0:Int))))] [(0,ACall Tryz.prog 53 [.bp 1000000 0] [.box [.slf 0 87,.own 5 1 (v5.map cU)]] (.d (.str v5)) [.box [.slf 0 87,.junk]])] 2 (by kernel_rfl) (b_String (l:=v5) hp4 (by kernel_rfl) (by kernel_rfl)) ?_
    obtain hs:=Option.some.inj h; subst hs
    refine T_ret fun a w hm=>T_return (fr':=[(2,.d (.str v5)),(3,.d (.v (.int .i64 (0:Int)))),(1000000,.glo 1 (glob_internal_strconv_uint64pow10.flatMap (cI .u64)))]) [2,3] (by kernel_rfl) [.keep [2,3,1000000]] (by kernel_rfl) (by kernel_rfl) (by kernel_rfl) (by show _=_; kernel_rfl) (by exact ⟨⟨by kernel_rfl,by kernel_rfl⟩,trivial⟩) a w hm
theorem object_Print_ok {F:Nat} {a0:S_Object} {r:(List UInt8)×Int} (h:object_Print F a0=some r):ACall Tryz.prog 10 [.agg (cS_Object a0)] [.glo 1 (glob_internal_strconv_uint64pow10.flatMap (cI .u64))] (.tup [.d (.str r.1),.d (.v (.int .i64 r.2))]) [.glo 1 (glob_internal_strconv_uint64pow10.flatMap (cI .u64))]:=by
  rw [object_Print] at h
  refine ACall.intro (N:=16) Tryz.func10 rfl rfl rfl rfl rfl fun e=>?_
  refine T_reg [] [1,1000000] [(1,.box [.d (.v (.int .i64 a0.f0)),.d (.v (.int .i64 a0.f1)),.d (.str a0.f2),.d (.sl 1 (a0.f3.map cS)),.d (.sl 5 (a0.f4.map rS_Object))])] [] 3 (by kernel_rfl) (trivial) ?_
  refine T_reg [] [1,4,1000000] [(4,.box [.own 46 5 ([].map cS_Token),.d (.v (.int .i64 0))])] [] 1 (by kernel_rfl) (trivial) ?_
  refine T_seqk ?_
  obtain ⟨y1,hy1,h⟩:=call_ok h
  refine T_reg [(1,{ res:=.d (.v (.int .i64 y1.1)),vout:=[.box [.own 46 5 (y1.2.1.map cS_Token),.d (.v (.int .i64 y1.2.2))],.glo 1 (glob_internal_strconv_uint64pow10.flatMap (cI .u64))],xs:=[4,1000000] })] [4,5,1000000] [(4,.box [.own 46 5 (y1.2.1.map cS_Token),.d (.v (.int .i64 y1.2.2))]),(5,.d (.v (.int .i64 y1.1)))] [(1,ACall Tryz.prog 24 [.bp 1000000 0,.agg (cS_Object a0),.d (.v (.int .i64 (1:Int)))] [.box [.own 46 5 ([].map cS_Token),.d (.v (.int .i64 0))],.glo 1 (glob_internal_strconv_uint64pow10.flatMap (cI .u64))] (.d (.v (.int .i64 y1.1))) [.box [.own 46 5 (y1.2.1.map cS_Token),.d (.v (.int .i64 y1.2.2))],.glo 1 (glob_internal_strconv_uint64pow10.flatMap (cI .u64))])] 1 (by kernel_rfl) (object_printer_add_ok hy1) ?_
  refine T_reg [] [4,5,9,1000000] [(9,.d (.v (.bool (y1.1 != (0:Int)))))] [] 2 (by kernel_rfl) (trivial) ?_
  refine T_cond (y1.1 != (0:Int)) (by kernel_rfl) (fun hc=>?_) (fun hc=>?_)
  · have h:=cond_tt hc h
    refine T_reg [] [2,3,1000000] [(2,.d (.str [])),(3,.d (.v (.int .i64 y1.1)))] [] 3 (by kernel_rfl) (trivial) ?_
    obtain hs:=Option.some.inj h; subst hs
    refine T_ret fun a w hm=>then_ret (T_return (fr':=[(2,.d (.str [])),(3,.d (.v (.int .i64 y1.1))),(1000000,.glo 1 (glob_internal_strconv_uint64pow10.flatMap (cI .u64)))]) [2,3] (by kernel_rfl) [.keep [2,3,1000000]] (by kernel_rfl) (by kernel_rfl) (by kernel_rfl) (by show _=_; kernel_rfl) (by exact ⟨⟨by kernel_rfl,by kernel_rfl⟩,trivial⟩) a w hm)
  · have h:=cond_ff hc h
    refine T_skip fun a w hm=>then_norm (((?_:T Tryz.prog e 16 _ _ _) a w hm))
    obtain ⟨y2,hy2,h⟩:=call_ok h
    refine T_reg [(2,{ frz:=[(4,1)],res:=.tup [.d (.str y2.1),.d (.v (.int .i64 y2.2))],vout:=[.glo 1 (glob_internal_strconv_uint64pow10.flatMap (cI .u64))],xs:=[1000000] })] [2,3,1000000] [(2,.d (.str y2.1)),(3,.d (.v (.int .i64 y2.2)))] [(2,ACall Tryz.prog 25 [.d (.sl 5 (y1.2.1.map cS_Token))] [.glo 1 (glob_internal_strconv_uint64pow10.flatMap (cI .u64))] (.tup [.d (.str y2.1),.d (.v (.int .i64 y2.2))]) [.glo 1 (glob_internal_strconv_uint64pow10.flatMap (cI .u64))])] 4 (by kernel_rfl) (token_Join_ok hy2) ?_
    obtain hs:=Option.some.inj h; subst hs
    refine T_ret fun a w hm=>T_return (fr':=[(2,.d (.str y2.1)),(3,.d (.v (.int .i64 y2.2))),(1000000,.glo 1 (glob_internal_strconv_uint64pow10.flatMap (cI .u64)))]) [2,3] (by kernel_rfl) [.keep [2,3,1000000]] (by kernel_rfl) (by kernel_rfl) (by kernel_rfl) (by show _=_; kernel_rfl) (by exact ⟨⟨by kernel_rfl,by kernel_rfl⟩,trivial⟩) a w hm
theorem object_Parse_ok {F:Nat} {a0:List UInt8} {r:S_Object×Int×Int} (h:object_Parse F a0=some r):ACall Tryz.prog 7 [.d (.str a0)] [.glo 1 (glob_internal_strconv_uint64pow10.flatMap (cI .u64))] (.tup [.agg (cS_Object r.1),.d (.v (.int .i64 r.2.1)),.d (.v (.int .i64 r.2.2))]) [.glo 1 (glob_internal_strconv_uint64pow10.flatMap (cI .u64))]:=by
  rw [object_Parse] at h
  refine ACall.introD (N:=32) Tryz.func7 rfl rfl rfl rfl rfl (enters_of Tryz.func16 (by kernel_rfl) rfl) dfr_16 fun e he=>?_
  refine T_reg [] [0,2,3,4,1000000] [(2,.box [.d (.v (.int .i64 0)),.d (.v (.int .i64 0)),.d (.str []),.own 9 1 ([].map cS),.own 26 5 ([].map rS_Object)]),(3,.box [.d (.v (.int .i64 0))]),(4,.box [.d (.v (.int .i64 0))])] [] 3 (by kernel_rfl) (trivial) ?_
  refine T_regD 1 8 16 3 [] [0,2,3,4,1000000] [] [] 1 (by kernel_rfl) (trivial) rfl rfl rfl rfl rfl rfl rfl (by decide) he (fun e=>?_)
  refine T_reg [] [2,3,4,5,1000000] [(5,.box [.d (.str a0),.d (.v (.int .i64 0)),.d (.v (.int .i64 0)),.d (.str []),.d (.v (.int .i64 0)),.d (.v (.int .i64 0))])] [] 4 (by kernel_rfl) (trivial) ?_
  obtain ⟨y1,hy1,h⟩:=call_ok h
  refine T_reg [(0,{ res:=.tup [],vout:=[.box [.d (.str y1.1),.d (.v (.int .i64 y1.2.1)),.d (.v (.int .i64 y1.2.2.1)),.d (.str y1.2.2.2.1),.d (.v (.int .i64 y1.2.2.2.2.1)),.d (.v (.int .i64 y1.2.2.2.2.2))]],xs:=[5] })] [2,3,4,5,1000000] [(5,.box [.d (.str y1.1),.d (.v (.int .i64 y1.2.1)),.d (.v (.int .i64 y1.2.2.1)),.d (.str y1.2.2.2.1),.d (.v (.int .i64 y1.2.2.2.2.1)),.d (.v (.int .i64 y1.2.2.2.2.2))])] [(0,ACall Tryz.prog 17 [.bp 1000000 0] [.box [.d (.str a0),.d (.v (.int .i64 0)),.d (.v (.int .i64 0)),.d (.str []),.d (.v (.int .i64 0)),.d (.v (.int .i64 0))]] (.tup []) [.box [.d (.str y1.1),.d (.v (.int .i64 y1.2.1)),.d (.v (.int .i64 y1.2.2.1)),.d (.str y1.2.2.2.1),.d (.v (.int .i64 y1.2.2.2.2.1)),.d (.v (.int .i64 y1.2.2.2.2.2))]])] 0 (by kernel_rfl) (object_parser_advance_ok hy1) ?_
  obtain ⟨y2,hy2,h⟩:=call_ok h
  refine T_reg [(0,{ res:=.agg (cS_Object y2.1),vout:=[.box [.d (.str y2.2.1),.d (.v (.int .i64 y2.2.2.1)),.d (.v (.int .i64 y2.2.2.2.1)),.d (.str y2.2.2.2.2.1),.d (.v (.int .i64 y2.2.2.2.2.2.1)),.d (.v (.int .i64 y2.2.2.2.2.2.2))]],xs:=[5] })] [2,3,4,5,1000000] [(2,.box [.d (.v (.int .i64 y2.1.f0)),.d (.v (.int .i64 y2.1.f1)),.d (.str y2.1.f2),.d (.sl 1 (y2.1.f3.map cS)),.d (.sl 5 (y2.1.f4.map rS_Object))]),(5,.box [.d (.str y2.2.1),.d (.v (.int .i64 y2.2.2.1)),.d (.v (.int .i64 y2.2.2.2.1)),.d (.str y2.2.2.2.2.1),.d (.v (.int .i64 y2.2.2.2.2.2.1)),.d (.v (.int .i64 y2.2.2.2.2.2.2))])] [(0,ACall Tryz.prog 18 [.bp 1000000 0,.d (.v (.int .i64 (1:Int)))] [.box [.d (.str y1.1),.d (.v (.int .i64 y1.2.1)),.d (.v (.int .i64 y1.2.2.1)),.d (.str y1.2.2.2.1),.d (.v (.int .i64 y1.2.2.2.2.1)),.d (.v (.int .i64 y1.2.2.2.2.2))]] (.agg (cS_Object y2.1)) [.box [.d (.str y2.2.1),.d (.v (.int .i64 y2.2.2.1)),.d (.v (.int .i64 y2.2.2.2.1)),.d (.str y2.2.2.2.2.1),.d (.v (.int .i64 y2.2.2.2.2.2.1)),.d (.v (.int .i64 y2.2.2.2.2.2.2))]])] 1 (by kernel_rfl) (object_parser_object_ok hy2) ?_
  obtain ⟨y3,hy3,h⟩:=call_ok h
  refine T_reg [(0,{ res:=.tup [],vout:=[.box [.d (.str y3.1),.d (.v (.int .i64 y3.2.1)),.d (.v (.int .i64 y3.2.2.1)),.d (.str y3.2.2.2.1),.d (.v (.int .i64 y3.2.2.2.2.1)),.d (.v (.int .i64 y3.2.2.2.2.2))]],xs:=[5] })] [2,3,4,5,1000000] [(5,.box [.d (.str y3.1),.d (.v (.int .i64 y3.2.1)),.d (.v (.int .i64 y3.2.2.1)),.d (.str y3.2.2.2.1),.d (.v (.int .i64 y3.2.2.2.2.1)),.d (.v (.int .i64 y3.2.2.2.2.2))])] [(0,ACall Tryz.prog 17 [.bp 1000000 0] [.box [.d (.str y2.2.1),.d (.v (.int .i64 y2.2.2.1)),.d (.v (.int .i64 y2.2.2.2.1)),.d (.str y2.2.2.2.2.1),.d (.v (.int .i64 y2.2.2.2.2.2.1)),.d (.v (.int .i64 y2.2.2.2.2.2.2))]] (.tup []) [.box [.d (.str y3.1),.d (.v (.int .i64 y3.2.1)),.d (.v (.int .i64 y3.2.2.1)),.d (.str y3.2.2.2.1),.d (.v (.int .i64 y3.2.2.2.2.1)),.d (.v (.int .i64 y3.2.2.2.2.2))]])] 0 (by kernel_rfl) (object_parser_advance_ok hy3) ?_
  refine T_joinc h (fun (p:Unit)=>[(2,.box [.d (.v (.int .i64 y2.1.f0)),.d (.v (.int .i64 y2.1.f1)),.d (.str y2.1.f2),.d (.sl 1 (y2.1.f3.map cS)),.d (.sl 5 (y2.1.f4.map rS_Object))]),(3,.box [.d (.v (.int .i64 0))]),(4,.box [.d (.v (.int .i64 0))]),(1000000,.glo 1 (glob_internal_strconv_uint64pow10.flatMap (cI .u64)))]) (fun s h=>?_) (fun s h=>?_)
  · refine T_reg [] [2,3,4,5,17,1000000] [(17,.d (.v (.bool (y3.2.1 != (0:Int)))))] [] 4 (by kernel_rfl) (trivial) ?_
    refine T_cond (y3.2.1 != (0:Int)) (by kernel_rfl) (fun hc=>?_) (fun hc=>?_)
    · have h:=cond_tt hc h
      obtain ⟨y4,hy4,h⟩:=call_ok h
      obtain hs:=Option.some.inj h; subst hs
      refine T_reg_end [(3,{ res:=.tup [] })] [2,3,4,1000000] [] [(3,ACall Tryz.prog 19 [.d (.v (.int .i64 y3.2.2.2.2.1)),.d (.v (.int .i64 (5:Int)))] [] (.tup []) [])] 0 (by kernel_rfl) (object_fail_ok hy4) fun a w hm=>then_norm (hm.co (cs:=[.keep [2,3,4,1000000]]) (by show _=_; kernel_rfl))
    · have h:=cond_ff hc h
      obtain hs:=Option.some.inj h; subst hs
      refine T_skip fun a w hm=>then_norm (hm.co (cs:=[.keep [2,3,4,1000000]]) (by show _=_; kernel_rfl))
  · skip
    refine T_joinc h (fun (p:Unit)=>[(2,.box [.d (.v (.int .i64 y2.1.f0)),.d (.v (.int .i64 y2.1.f1)),.d (.str y2.1.f2),.d (.sl 1 (y2.1.f3.map cS)),.d (.sl 5 (y2.1.f4.map rS_Object))]),(3,.box [.d (.v (.int .i64 0))]),(4,.box [.d (.v (.int .i64 0))]),(1000000,.glo 1 (glob_internal_strconv_uint64pow10.flatMap (cI .u64)))]) (fun s h=>?_) (fun s h=>?_)
    · obtain ⟨y5,hy5,h⟩:=call_ok h
      refine T_reg [(1,{ res:=.tup [.d (.str y5.1),.d (.v (.int .i64 y5.2))],vout:=[.glo 1 (glob_internal_strconv_uint64pow10.flatMap (cI .u64))],xs:=[1000000] })] [2,3,4,7,1000000] [(7,.d (.v (.int .i64 y5.2)))] [(1,ACall Tryz.prog 10 [.agg (cS_Object y2.1)] [.glo 1 (glob_internal_strconv_uint64pow10.flatMap (cI .u64))] (.tup [.d (.str y5.1),.d (.v (.int .i64 y5.2))]) [.glo 1 (glob_internal_strconv_uint64pow10.flatMap (cI .u64))])] 5 (by kernel_rfl) (object_Print_ok hy5) ?_
      refine T_reg [] [2,3,4,7,28,1000000] [(28,.d (.v (.bool (y5.2 != (0:Int)))))] [] 2 (by kernel_rfl) (trivial) ?_
      refine T_cond (y5.2 != (0:Int)) (by kernel_rfl) (fun hc=>?_) (fun hc=>?_)
      · have h:=cond_tt hc h
        obtain ⟨y6,hy6,h⟩:=call_ok h
        obtain hs:=Option.some.inj h; subst hs
        refine T_reg_end [(1,{ res:=.tup [] })] [2,3,4,1000000] [] [(1,ACall Tryz.prog 19 [.d (.v (.int .i64 (0:Int))),.d (.v (.int .i64 y5.2))] [] (.tup []) [])] 0 (by kernel_rfl) (object_fail_ok hy6) fun a w hm=>then_norm (hm.co (cs:=[.keep [2,3,4,1000000]]) (by show _=_; kernel_rfl))
      · have h:=cond_ff hc h
        obtain hs:=Option.some.inj h; subst hs
        refine T_skip fun a w hm=>then_norm (hm.co (cs:=[.keep [2,3,4,1000000]]) (by show _=_; kernel_rfl))
    · skip
      refine T_reg [] [2,3,4,1000000] [(3,.box [.d (.v (.int .i64 (0:Int)))]),(4,.box [.d (.v (.int .i64 (0:Int)))])] [] 4 (by kernel_rfl) (trivial) ?_
      obtain hs:=Option.some.inj h; subst hs
      refine T_ret fun a w hm=>T_returnC (fr':=[(2,.box [.d (.v (.int .i64 y2.1.f0)),.d (.v (.int .i64 y2.1.f1)),.d (.str y2.1.f2),.d (.sl 1 (y2.1.f3.map cS)),.d (.sl 5 (y2.1.f4.map rS_Object))]),(3,.box [.d (.v (.int .i64 (0:Int)))]),(4,.box [.d (.v (.int .i64 (0:Int)))]),(1000000,.glo 1 (glob_internal_strconv_uint64pow10.flatMap (cI .u64)))]) (ts:=[32,33,34]) (N':=35) (fr2:=[(34,.d (.v (.int .i64 (0:Int)))),(33,.d (.v (.int .i64 (0:Int)))),(32,.agg (cS_Object y2.1))]++[(2,.box [.d (.v (.int .i64 y2.1.f0)),.d (.v (.int .i64 y2.1.f1)),.d (.str y2.1.f2),.d (.sl 1 (y2.1.f3.map cS)),.d (.sl 5 (y2.1.f4.map rS_Object))]),(3,.box [.d (.v (.int .i64 (0:Int)))]),(4,.box [.d (.v (.int .i64 (0:Int)))]),(1000000,.glo 1 (glob_internal_strconv_uint64pow10.flatMap (cI .u64)))]) [.keep [2,3,4,1000000]] (by kernel_rfl) (by kernel_rfl) (by kernel_rfl) (by kernel_rfl) (by show _=_; kernel_rfl) (by exact ⟨⟨by kernel_rfl,by kernel_rfl⟩,trivial⟩) a w hm
theorem law3_objectFact_ok {F:Nat}  {r:Bool} (h:law3_objectFact F  = some r):ACall Tryz.prog 6 [] [.glo 1 (glob_internal_strconv_uint64pow10.flatMap (cI .u64))] (.d (.v (.bool r))) [.glo 1 (glob_internal_strconv_uint64pow10.flatMap (cI .u64))]:=by
  rw [law3_objectFact] at h
  refine ACall.intro (N:=30) Tryz.func6 rfl rfl rfl rfl rfl fun e=>?_
  refine T_reg [] [1000000] [] [] 1 (by kernel_rfl) (trivial) ?_
  obtain ⟨y1,hy1,h⟩:=call_ok h
  refine T_reg [(0,{ res:=.tup [.agg (cS_Object y1.1),.d (.v (.int .i64 y1.2.1)),.d (.v (.int .i64 y1.2.2))],vout:=[.glo 1 (glob_internal_strconv_uint64pow10.flatMap (cI .u64))],xs:=[1000000] })] [1,2,3,1000000] [(1,.box [.d (.v (.int .i64 y1.1.f0)),.d (.v (.int .i64 y1.1.f1)),.d (.str y1.1.f2),.d (.sl 1 (y1.1.f3.map cS)),.d (.sl 5 (y1.1.f4.map rS_Object))]),(2,.d (.v (.int .i64 y1.2.1))),(3,.d (.v (.int .i64 y1.2.2)))] [(0,ACall Tryz.prog 7 [.d (.str ([60,60,47,66,32,50,32,47,65,32,91,116,114,117,101,93,62,62]:List UInt8))] [.glo 1 (glob_internal_strconv_uint64pow10.flatMap (cI .u64))] (.tup [.agg (cS_Object y1.1),.d (.v (.int .i64 y1.2.1)),.d (.v (.int .i64 y1.2.2))]) [.glo 1 (glob_internal_strconv_uint64pow10.flatMap (cI .u64))])] 8 (by kernel_rfl) (object_Parse_ok hy1) ?_
  obtain ⟨y2,hy2,h⟩:=call_ok h
  refine T_reg [(1,{ res:=.tup [.d (.str y2.1),.d (.v (.int .i64 y2.2))],vout:=[.glo 1 (glob_internal_strconv_uint64pow10.flatMap (cI .u64))],xs:=[1000000] })] [2,3,4,5,1000000] [(4,.d (.str y2.1)),(5,.d (.v (.int .i64 y2.2)))] [(1,ACall Tryz.prog 10 [.agg (cS_Object y1.1)] [.glo 1 (glob_internal_strconv_uint64pow10.flatMap (cI .u64))] (.tup [.d (.str y2.1),.d (.v (.int .i64 y2.2))]) [.glo 1 (glob_internal_strconv_uint64pow10.flatMap (cI .u64))])] 5 (by kernel_rfl) (object_Print_ok hy2) ?_
  obtain ⟨z1,hz1,h⟩:=lett_ok h
  obtain ⟨z2,hz2,h⟩:=lett_ok h
  refine T_reg [(9,{ rw:=some (.d (.v (.bool z1))) }),(13,{ rw:=some (.d (.v (.bool z2))) })] [0,1000000] [(0,.d (.v (.bool z2)))] [(3,((((y1.2.2 == (0:Int)) == true) && true)=true→True)),(0,((((y1.2.2 == (0:Int)) == true) && true)=true→True)),(2,((((bif (y1.2.2 == (0:Int)) then (y1.2.1 == (0:Int)) else false) == true) && true)=true→True)),(0,((((bif (y1.2.2 == (0:Int)) then (y1.2.1 == (0:Int)) else false) == true) && true)=true→True)),(0,(True)∧AV.d (.v (.bool (bif (bif (y1.2.2 == (0:Int)) then (y1.2.1 == (0:Int)) else false) then (y2.2 == (0:Int)) else false)))=.d (.v (.bool z1))),(1,(((z1 == true) && true)=true→True)),(0,(((z1 == true) && true)=true→True)),(0,(True)∧AV.d (.v (.bool (bif z1 then (y2.1 == ([60,60,47,65,91,116,114,117,101,93,47,66,32,50,62,62]:List UInt8)) else false)))=.d (.v (.bool z2)))] 1 (by kernel_rfl) (⟨(fun hg=>trivial),(fun hg=>trivial),(fun hg=>trivial),(fun hg=>trivial),⟨trivial,(by subst hz1; rfl)⟩,(fun hg=>trivial),(fun hg=>trivial),⟨trivial,(by subst hz2; rfl)⟩⟩) ?_
  obtain hs:=Option.some.inj h; subst hs
  refine T_ret fun a w hm=>T_return (fr':=[(0,.d (.v (.bool z2))),(1000000,.glo 1 (glob_internal_strconv_uint64pow10.flatMap (cI .u64)))]) [0] (by kernel_rfl) [.keep [0,1000000]] (by kernel_rfl) (by kernel_rfl) (by kernel_rfl) (by show _=_; kernel_rfl) (by exact ⟨⟨by kernel_rfl,by kernel_rfl⟩,trivial⟩) a w hm
theorem object_Check_ok {F:Nat} {a0:S_Object} {r:Int} (h:object_Check F a0=some r):ACall Tryz.prog 12 [.agg (cS_Object a0)] [.glo 1 (glob_internal_strconv_uint64pow10.flatMap (cI .u64))] (.d (.v (.int .i64 r))) [.glo 1 (glob_internal_strconv_uint64pow10.flatMap (cI .u64))]:=by
  rw [object_Check] at h
  refine ACall.intro (N:=11) Tryz.func12 rfl rfl rfl rfl rfl fun e=>?_
  refine T_reg [] [1,1000000] [(1,.box [.d (.v (.int .i64 a0.f0)),.d (.v (.int .i64 a0.f1)),.d (.str a0.f2),.d (.sl 1 (a0.f3.map cS)),.d (.sl 5 (a0.f4.map rS_Object))])] [] 2 (by kernel_rfl) (trivial) ?_
  obtain ⟨y1,hy1,h⟩:=call_ok h
  refine T_reg [(1,{ res:=.tup [.d (.str y1.1),.d (.v (.int .i64 y1.2))],vout:=[.glo 1 (glob_internal_strconv_uint64pow10.flatMap (cI .u64))],xs:=[1000000] })] [4,1000000] [(4,.d (.v (.int .i64 y1.2)))] [(1,ACall Tryz.prog 10 [.agg (cS_Object a0)] [.glo 1 (glob_internal_strconv_uint64pow10.flatMap (cI .u64))] (.tup [.d (.str y1.1),.d (.v (.int .i64 y1.2))]) [.glo 1 (glob_internal_strconv_uint64pow10.flatMap (cI .u64))])] 5 (by kernel_rfl) (object_Print_ok hy1) ?_
  refine T_reg [] [2,1000000] [(2,.d (.v (.int .i64 y1.2)))] [] 2 (by kernel_rfl) (trivial) ?_
  obtain hs:=Option.some.inj h; subst hs
  refine T_ret fun a w hm=>T_return (fr':=[(2,.d (.v (.int .i64 y1.2))),(1000000,.glo 1 (glob_internal_strconv_uint64pow10.flatMap (cI .u64)))]) [2] (by kernel_rfl) [.keep [2,1000000]] (by kernel_rfl) (by kernel_rfl) (by kernel_rfl) (by show _=_; kernel_rfl) (by exact ⟨⟨by kernel_rfl,by kernel_rfl⟩,trivial⟩) a w hm
theorem object_Refs_c1_body_ok {F:Nat} {rec_object_Refs_c1:S_Object→(List Int)→Option ((List Int))} (hrec_object_Refs_c1:∀ {a0:S_Object},∀ {c1:List Int},∀ {r:(List Int)},rec_object_Refs_c1 a0 c1=some r→ACall Tryz.prog 28 [.agg (cS_Object a0),.bp 1000000 0,.bp 1000001 0] [.box [.own 3 1 (c1.map (cI .i64))],.box [.clo 28 [.bp 1000000 0,.bp 1000001 0]]] (.tup []) [.box [.own 3 1 (r.map (cI .i64))],.box [.clo 28 [.bp 1000000 0,.bp 1000001 0]]]) {a0:S_Object} {c1:List Int} {r:(List Int)} (h:object_Refs_c1_body F rec_object_Refs_c1 a0 c1=some r):ACall Tryz.prog 28 [.agg (cS_Object a0),.bp 1000000 0,.bp 1000001 0] [.box [.own 3 1 (c1.map (cI .i64))],.box [.clo 28 [.bp 1000000 0,.bp 1000001 0]]] (.tup []) [.box [.own 3 1 (r.map (cI .i64))],.box [.clo 28 [.bp 1000000 0,.bp 1000001 0]]]:=by
  rw [object_Refs_c1_body] at h
  refine ACall.intro (N:=25) Tryz.func28 rfl rfl rfl rfl rfl fun e=>?_
  refine T_reg [] [1,2,3,1000000,1000001] [(3,.box [.d (.v (.int .i64 a0.f0)),.d (.v (.int .i64 a0.f1)),.d (.str a0.f2),.d (.sl 1 (a0.f3.map cS)),.d (.sl 5 (a0.f4.map rS_Object))])] [] 1 (by kernel_rfl) (trivial) ?_
  refine T_joinc h (fun (p:(List Int))=>[(2,.bp 1000001 0),(3,.box [.d (.v (.int .i64 a0.f0)),.d (.v (.int .i64 a0.f1)),.d (.str a0.f2),.d (.sl 1 (a0.f3.map cS)),.d (.sl 5 (a0.f4.map rS_Object))]),(1000000,.box [.own 3 1 (p.map (cI .i64))]),(1000001,.box [.clo 28 [.bp 1000000 0,.bp 1000001 0]])]) (fun s h=>?_) (fun v3 h=>?_)
  · refine T_reg [] [1,2,3,8,1000000,1000001] [(8,.d (.v (.bool (a0.f0 == (5:Int)))))] [] 3 (by kernel_rfl) (trivial) ?_
    refine T_cond (a0.f0 == (5:Int)) (by kernel_rfl) (fun hc=>?_) (fun hc=>?_)
    · have h:=cond_tt hc h
      obtain ⟨hp1,h⟩:=chk_ok h
      obtain hs:=Option.some.inj h; subst hs
      refine T_reg_end [(3,{ es:=some (([a0.f1]).map (cI .i64)) }),(4,{ es:=some ((c1++([a0.f1])).map (cI .i64)) })] [2,3,1000000,1000001] [(1000000,.box [.own 3 1 ((c1++([a0.f1])).map (cI .i64))])] [(3,(([a0.f1]).map (cI .i64))=(([a0.f1]).map (cI .i64))),(0,(c1.map (cI .i64)).length+(([a0.f1]).map (cI .i64)).length≤4294967296∧(c1.map (cI .i64))++(([a0.f1]).map (cI .i64))=((c1++([a0.f1])).map (cI .i64)))] 1 (by kernel_rfl) (⟨rfl,app_ok (cI .i64) hp1⟩) fun a w hm=>then_norm (hm.co (cs:=[.keep [2,3,1000000,1000001]]) (by show _=_; kernel_rfl))
    · have h:=cond_ff hc h
      obtain hs:=Option.some.inj h; subst hs
      refine T_skip fun a w hm=>then_norm (hm.co (cs:=[.keep [2,3,1000000,1000001]]) (by show _=_; kernel_rfl))
  · skip
    refine T_reg [(2,{ rw:=some (.d (.v (.int .i64 (a0.f4.length:Int)))) })] [2,15,16,17,1000000,1000001] [(15,.d (.sl 5 (a0.f4.map rS_Object))),(16,.d (.v (.int .i64 (a0.f4.length:Int)))),(17,.d (.v (.int .i64 (0:Int))))] [(2,True∧AV.d (.v (.int .i64 ((a0.f4.map rS_Object).length:Int)))=.d (.v (.int .i64 (a0.f4.length:Int))))] 1 (by kernel_rfl) (len_ok rS_Object) ?_
    refine T_joinct h (fun (p:(List Int))=>[(1000000,.box [.own 3 1 (p.map (cI .i64))]),(1000001,.box [.clo 28 [.bp 1000000 0,.bp 1000001 0]])]) (fun s h=>?_) (fun v4 h=>?_)
    · refine T_co [.keep [2,15,16,17,1000000,1000001]] ((fun (p:Int×(List Int))=>[(2,.bp 1000001 0),(15,.d (.sl 5 (a0.f4.map rS_Object))),(16,.d (.v (.int .i64 (a0.f4.length:Int)))),(17,.d (.v (.int .i64 p.1))),(1000000,.box [.own 3 1 (p.2.map (cI .i64))]),(1000001,.box [.clo 28 [.bp 1000000 0,.bp 1000001 0]])]) ((0:Int),v3)) (by show _=_; kernel_rfl) ?_
      refine T_block ?_
      refine T_loopF (ι:=Int×(List Int)) (fun (p:Int×(List Int))=>[(2,.bp 1000001 0),(15,.d (.sl 5 (a0.f4.map rS_Object))),(16,.d (.v (.int .i64 (a0.f4.length:Int)))),(17,.d (.v (.int .i64 p.1))),(1000000,.box [.own 3 1 (p.2.map (cI .i64))]),(1000001,.box [.clo 28 [.bp 1000000 0,.bp 1000001 0]])]) (fun n p=>object_Refs_c1_L0 F a0 rec_object_Refs_c1 n p.1 p.2=some s) (fun i hh=>by simp [object_Refs_c1_L0] at hh) (fun n p h=>?_) F ((0:Int),v3) h
      obtain ⟨v1,v2⟩:=p
      have h:object_Refs_c1_L0 F a0 rec_object_Refs_c1 (n+1) v1 v2=some s:=h
      rw [object_Refs_c1_L0] at h
      refine T_reg [] [2,15,16,17,18,1000000,1000001] [(18,.d (.v (.bool (decide (v1 < (a0.f4.length:Int))))))] [] 1 (by kernel_rfl) (trivial) ?_
      refine T_seqk ?_
      refine T_cond (decide (v1 < (a0.f4.length:Int))) (by kernel_rfl) (fun hc=>?_) (fun hc=>?_)
      · have h:=cond_tt hc h
        refine T_skip fun a w hm=>then_norm (((?_:T Tryz.prog e 25 _ _ _) a w hm))
        refine T_seqk ?_
        refine T_block ?_
        obtain ⟨hp2,h⟩:=chk_ok h
        refine T_reg [(0,{ cs:=cS_Object (a0.f4.getD v1.toNat (S_Object.mk 0 0 [] [] [])) })] [2,5,15,16,17,1000000,1000001] [(5,.box [.d (.v (.int .i64 ((a0.f4.getD v1.toNat (S_Object.mk 0 0 [] [] [])).f0))),.d (.v (.int .i64 ((a0.f4.getD v1.toNat (S_Object.mk 0 0 [] [] [])).f1))),.d (.str ((a0.f4.getD v1.toNat (S_Object.mk 0 0 [] [] [])).f2)),.d (.sl 1 (((a0.f4.getD v1.toNat (S_Object.mk 0 0 [] [] [])).f3).map cS)),.d (.sl 5 (((a0.f4.getD v1.toNat (S_Object.mk 0 0 [] [] [])).f4).map rS_Object))])] [(0,0≤v1∧(a0.f4.map rS_Object)[v1.toNat]? = some (cS_Object (a0.f4.getD v1.toNat (S_Object.mk 0 0 [] [] []))))] 3 (by kernel_rfl) (idx_okR (d:=(S_Object.mk 0 0 [] [] [])) rS_Object_eq hp2) ?_
        obtain ⟨y1,hy1,h⟩:=call_ok h
        refine T_reg_end [(2,{ res:=.tup [],vout:=[.box [.own 3 1 (y1.map (cI .i64))],.box [.clo 28 [.bp 1000000 0,.bp 1000001 0]]],xs:=[1000000,1000001] })] [2,15,16,17,1000000,1000001] [(1000000,.box [.own 3 1 (y1.map (cI .i64))])] [(2,ACall Tryz.prog 28 [.agg (cS_Object (a0.f4.getD v1.toNat (S_Object.mk 0 0 [] [] []))),.bp 1000000 0,.bp 1000001 0] [.box [.own 3 1 (v2.map (cI .i64))],.box [.clo 28 [.bp 1000000 0,.bp 1000001 0]]] (.tup []) [.box [.own 3 1 (y1.map (cI .i64))],.box [.clo 28 [.bp 1000000 0,.bp 1000001 0]]])] 0 (by kernel_rfl) (hrec_object_Refs_c1 hy1) fun a w hm=>inBlock_norm (then_norm (((?_:T Tryz.prog e 25 _ _ _) a w hm)))
        refine T_reg_end [] [2,15,16,17,1000000,1000001] [(17,.d (.v (.int .i64 (IntKind.i64.wrap (v1+(1:Int))))))] [] 2 (by kernel_rfl) (trivial) fun a w hm=>then_norm (⟨(IntKind.i64.wrap (v1+(1:Int)),y1),h,hm.co (cs:=[.keep [2,15,16,17,1000000,1000001]]) (by show _=_; kernel_rfl)⟩)
      · have h:=cond_ff hc h
        obtain hs:=Option.some.inj h; subst hs
        refine T_exit fun a w hm=>then_exit (then_exit (inBlock_exit (then_norm (hm.co (cs:=[.keep [1000000,1000001]]) (by show _=_; kernel_rfl)))))
    · skip
      obtain hs:=Option.some.inj h; subst hs
      refine fun a w hm=>T_return (fr':=[(1000000,.box [.own 3 1 (v4.map (cI .i64))]),(1000001,.box [.clo 28 [.bp 1000000 0,.bp 1000001 0]])]) [] (by kernel_rfl) [.keep [1000000,1000001]] (by kernel_rfl) (by kernel_rfl) (by kernel_rfl) (by show _=_; kernel_rfl) (by exact ⟨⟨by kernel_rfl,by kernel_rfl⟩,⟨⟨by kernel_rfl,by kernel_rfl⟩,trivial⟩⟩) a w hm
theorem object_Refs_c1_fuel_ok {F:Nat} (n:Nat):∀ {a0:S_Object} {c1:List Int} {r:(List Int)},object_Refs_c1_fuel F n a0 c1=some r→ACall Tryz.prog 28 [.agg (cS_Object a0),.bp 1000000 0,.bp 1000001 0] [.box [.own 3 1 (c1.map (cI .i64))],.box [.clo 28 [.bp 1000000 0,.bp 1000001 0]]] (.tup []) [.box [.own 3 1 (r.map (cI .i64))],.box [.clo 28 [.bp 1000000 0,.bp 1000001 0]]]:=by
  induction n with
  | zero=>intro a0 c1 r h; exact absurd (show (none:Option ((List Int)))=some r from h) (by simp)
  | succ n ih=>intro a0 c1 r h; exact object_Refs_c1_body_ok ih h
theorem object_Refs_c1_ok {F:Nat} {a0:S_Object} {c1:List Int} {r:(List Int)} (h:object_Refs_c1 F a0 c1=some r):ACall Tryz.prog 28 [.agg (cS_Object a0),.bp 1000000 0,.bp 1000001 0] [.box [.own 3 1 (c1.map (cI .i64))],.box [.clo 28 [.bp 1000000 0,.bp 1000001 0]]] (.tup []) [.box [.own 3 1 (r.map (cI .i64))],.box [.clo 28 [.bp 1000000 0,.bp 1000001 0]]]:=object_Refs_c1_fuel_ok F h
theorem object_Refs_ok {F:Nat} {a0:S_Object} {r:(List Int)×Int} (h:object_Refs F a0=some r):ACall Tryz.prog 13 [.agg (cS_Object a0)] [.glo 1 (glob_internal_strconv_uint64pow10.flatMap (cI .u64))] (.tup [.own 3 1 (r.1.map (cI .i64)),.d (.v (.int .i64 r.2))]) [.glo 1 (glob_internal_strconv_uint64pow10.flatMap (cI .u64))]:=by
  rw [object_Refs] at h
  refine ACall.intro (N:=20) Tryz.func13 rfl rfl rfl rfl rfl fun e=>?_
  refine T_reg [] [1,1000000] [(1,.box [.d (.v (.int .i64 a0.f0)),.d (.v (.int .i64 a0.f1)),.d (.str a0.f2),.d (.sl 1 (a0.f3.map cS)),.d (.sl 5 (a0.f4.map rS_Object))])] [] 3 (by kernel_rfl) (trivial) ?_
  refine T_seqk ?_
  obtain ⟨y1,hy1,h⟩:=call_ok h
  refine T_reg [(1,{ res:=.d (.v (.int .i64 y1)),vout:=[.glo 1 (glob_internal_strconv_uint64pow10.flatMap (cI .u64))],xs:=[1000000] })] [1,4,1000000] [(4,.d (.v (.int .i64 y1)))] [(1,ACall Tryz.prog 12 [.agg (cS_Object a0)] [.glo 1 (glob_internal_strconv_uint64pow10.flatMap (cI .u64))] (.d (.v (.int .i64 y1))) [.glo 1 (glob_internal_strconv_uint64pow10.flatMap (cI .u64))])] 1 (by kernel_rfl) (object_Check_ok hy1) ?_
  refine T_reg [] [1,4,10,1000000] [(10,.d (.v (.bool (y1 != (0:Int)))))] [] 2 (by kernel_rfl) (trivial) ?_
  refine T_cond (y1 != (0:Int)) (by kernel_rfl) (fun hc=>?_) (fun hc=>?_)
  · have h:=cond_tt hc h
    refine T_reg [] [2,3,1000000] [(2,.own 3 1 ([].map (cI .i64))),(3,.d (.v (.int .i64 y1)))] [] 3 (by kernel_rfl) (trivial) ?_
    obtain hs:=Option.some.inj h; subst hs
    refine T_ret fun a w hm=>then_ret (T_return (fr':=[(2,.own 3 1 ([].map (cI .i64))),(3,.d (.v (.int .i64 y1))),(1000000,.glo 1 (glob_internal_strconv_uint64pow10.flatMap (cI .u64)))]) [2,3] (by kernel_rfl) [.keep [2,3,1000000]] (by kernel_rfl) (by kernel_rfl) (by kernel_rfl) (by show _=_; kernel_rfl) (by exact ⟨⟨by kernel_rfl,by kernel_rfl⟩,trivial⟩) a w hm)
  · have h:=cond_ff hc h
    refine T_skip fun a w hm=>then_norm (((?_:T Tryz.prog e 20 _ _ _) a w hm))
    refine T_reg [] [1,5,1000000] [(5,.box [.own 3 1 ([].map (cI .i64))])] [] 1 (by kernel_rfl) (trivial) ?_
    refine T_reg [] [1,5,6,1000000] [(6,.box [.d (.v .nilFunc)])] [] 1 (by kernel_rfl) (trivial) ?_
    refine T_reg [] [1,5,6,1000000] [(6,.box [.clo 28 [.bp 5 0,.bp 6 0]])] [] 2 (by kernel_rfl) (trivial) ?_
    obtain ⟨y2,hy2,h⟩:=call_ok h
    refine T_reg [(2,{ res:=.tup [],vout:=[.box [.own 3 1 (y2.map (cI .i64))],.box [.clo 28 [.bp 1000000 0,.bp 1000001 0]]],xs:=[5,6] })] [5,1000000] [(5,.box [.own 3 1 (y2.map (cI .i64))])] [(2,ACall Tryz.prog 28 [.agg (cS_Object a0),.bp 1000000 0,.bp 1000001 0] [.box [.own 3 1 ([].map (cI .i64))],.box [.clo 28 [.bp 1000000 0,.bp 1000001 0]]] (.tup []) [.box [.own 3 1 (y2.map (cI .i64))],.box [.clo 28 [.bp 1000000 0,.bp 1000001 0]]])] 0 (by kernel_rfl) (object_Refs_c1_ok hy2) ?_
    obtain ⟨hp1,h⟩:=chk_ok h
    refine T_reg [(1,{ xs:=[5],vout:=[.box [.own 3 1 ((sortI y2).map (cI .i64))]],res:=.tup [] })] [5,1000000] [(5,.box [.own 3 1 ((sortI y2).map (cI .i64))])] [(1,ACall Tryz.prog 29 [.vw (1000000,1)] [.box [.own 3 1 (y2.map (cI .i64))]] (.tup []) [.box [.own 3 1 ((sortI y2).map (cI .i64))]])] 0 (by kernel_rfl) (b_Sort_29 (κ:=3) hp1 (by kernel_rfl) (by kernel_rfl)) ?_
    obtain ⟨hp2,h⟩:=chk_ok h
    refine T_reg [(1,{ xs:=[5],vout:=[.box [.junk]],res:=.own 3 1 ((Lib.compact (sortI y2)).map (cI .i64)) })] [2,3,1000000] [(2,.own 3 1 ((Lib.compact (sortI y2)).map (cI .i64))),(3,.d (.v (.int .i64 (0:Int))))] [(1,ACall Tryz.prog 30 [.vw (1000000,1)] [.box [.own 3 1 ((sortI y2).map (cI .i64))]] (.own 3 1 ((Lib.compact (sortI y2)).map (cI .i64))) [.box [.junk]])] 2 (by kernel_rfl) (b_Compact_30 (κ:=3) hp2 (by kernel_rfl) (by kernel_rfl)) ?_
    obtain hs:=Option.some.inj h; subst hs
    refine T_ret fun a w hm=>T_return (fr':=[(2,.own 3 1 ((Lib.compact (sortI y2)).map (cI .i64))),(3,.d (.v (.int .i64 (0:Int)))),(1000000,.glo 1 (glob_internal_strconv_uint64pow10.flatMap (cI .u64)))]) [2,3] (by kernel_rfl) [.keep [2,3,1000000]] (by kernel_rfl) (by kernel_rfl) (by kernel_rfl) (by show _=_; kernel_rfl) (by exact ⟨⟨by kernel_rfl,by kernel_rfl⟩,trivial⟩) a w hm
theorem ref3_digit_ok {F:Nat} {a0:Int} {r:Bool} (h:ref3_digit F a0=some r):ACall Tryz.prog 37 [.d (.v (.int .u8 a0))] [] (.d (.v (.bool r))) []:=by
  rw [ref3_digit] at h
  refine ACall.intro (N:=9) Tryz.func37 rfl rfl rfl rfl rfl fun e=>?_
  refine T_reg [] [0] [] [] 1 (by kernel_rfl) (trivial) ?_
  refine T_reg [] [2] [(2,.d (.v (.bool (bif (decide (a0 ≥ (48:Int))) then (decide (a0≤(57:Int))) else false))))] [(3,((((decide (a0 ≥ (48:Int))) == true) && true)=true→True)),(0,((((decide (a0 ≥ (48:Int))) == true) && true)=true→True))] 2 (by kernel_rfl) (⟨(fun hg=>trivial),(fun hg=>trivial)⟩) ?_
  obtain hs:=Option.some.inj h; subst hs
  refine T_ret fun a w hm=>T_return (fr':=[(2,.d (.v (.bool (bif (decide (a0 ≥ (48:Int))) then (decide (a0≤(57:Int))) else false))))]) [2] (by kernel_rfl) [.keep [2]] (by kernel_rfl) (by kernel_rfl) (by kernel_rfl) (by show _=_; kernel_rfl) (by exact trivial) a w hm
theorem ref3_letter_ok {F:Nat} {a0:Int} {r:Bool} (h:ref3_letter F a0=some r):ACall Tryz.prog 56 [.d (.v (.int .u8 a0))] [] (.d (.v (.bool r))) []:=by
  rw [ref3_letter] at h
  refine ACall.intro (N:=17) Tryz.func56 rfl rfl rfl rfl rfl fun e=>?_
  refine T_reg [] [0] [] [] 1 (by kernel_rfl) (trivial) ?_
  obtain ⟨z1,hz1,h⟩:=lett_ok h
  refine T_reg [(13,{ rw:=some (.d (.v (.bool z1))) })] [2] [(2,.d (.v (.bool z1)))] [(3,((((decide (a0 ≥ (65:Int))) == true) && true)=true→True)),(0,((((decide (a0 ≥ (65:Int))) == true) && true)=true→True)),(2,((((bif (decide (a0 ≥ (65:Int))) then (decide (a0≤(90:Int))) else false) == false) && true)=true→True)),(0,((((bif (decide (a0 ≥ (65:Int))) then (decide (a0≤(90:Int))) else false) == false) && true)=true→True)),(0,((((bif (decide (a0 ≥ (65:Int))) then (decide (a0≤(90:Int))) else false) == false) && true)=true→True)),(0,((((decide (a0 ≥ (97:Int))) == true) && (((bif (decide (a0 ≥ (65:Int))) then (decide (a0≤(90:Int))) else false) == false) && true))=true→True)),(0,((((decide (a0 ≥ (97:Int))) == true) && (((bif (decide (a0 ≥ (65:Int))) then (decide (a0≤(90:Int))) else false) == false) && true))=true→True)),(0,((((bif (decide (a0 ≥ (65:Int))) then (decide (a0≤(90:Int))) else false) == false) && true)=true→True)),(0,(True)∧AV.d (.v (.bool (bif (bif (decide (a0 ≥ (65:Int))) then (decide (a0≤(90:Int))) else false) then true else (bif (decide (a0 ≥ (97:Int))) then (decide (a0≤(122:Int))) else false))))=.d (.v (.bool z1)))] 1 (by kernel_rfl) (⟨(fun hg=>trivial),(fun hg=>trivial),(fun hg=>trivial),(fun hg=>trivial),(fun hg=>trivial),(fun hg=>trivial),(fun hg=>trivial),(fun hg=>trivial),⟨trivial,(by subst hz1; rfl)⟩⟩) ?_
  obtain hs:=Option.some.inj h; subst hs
  refine T_ret fun a w hm=>T_return (fr':=[(2,.d (.v (.bool z1)))]) [2] (by kernel_rfl) [.keep [2]] (by kernel_rfl) (by kernel_rfl) (by kernel_rfl) (by show _=_; kernel_rfl) (by exact trivial) a w hm
theorem ref3_wordError_ok {F:Nat} {a0:List UInt8} {r:Int} (h:ref3_wordError F a0=some r):ACall Tryz.prog 39 [.d (.str a0)] [] (.d (.v (.int .i64 r))) []:=by
  rw [ref3_wordError] at h
  refine ACall.intro (N:=43) Tryz.func39 rfl rfl rfl rfl rfl fun e=>?_
  refine T_reg [] [0] [] [] 1 (by kernel_rfl) (trivial) ?_
  refine T_seqk ?_
  refine T_reg [] [0,5,6] [(5,.d (.v (.int .i64 (a0.length:Int)))),(6,.d (.v (.int .i64 (0:Int))))] [] 3 (by kernel_rfl) (trivial) ?_
  refine T_joinEt h (fun (p:Unit)=>[(0,.d (.str a0))]) (fun s h hk1=>?_) (fun s h=>?_)
  · refine T_co [.keep [0,5,6]] ((fun (p:Int)=>[(0,.d (.str a0)),(5,.d (.v (.int .i64 (a0.length:Int)))),(6,.d (.v (.int .i64 p)))]) (0:Int)) (by show _=_; kernel_rfl) ?_
    refine T_block ?_
    refine T_loopF (ι:=Int) (fun (p:Int)=>[(0,.d (.str a0)),(5,.d (.v (.int .i64 (a0.length:Int)))),(6,.d (.v (.int .i64 p)))]) (fun n p=>ref3_wordError_L0 F a0 n p=some s) (fun i hh=>by simp [ref3_wordError_L0] at hh) (fun n v1 h=>?_) F (0:Int) h
    have h:ref3_wordError_L0 F a0 (n+1) v1=some s:=h
    rw [ref3_wordError_L0] at h
    refine T_reg [] [0,5,6,7] [(7,.d (.v (.bool (decide (v1 < (a0.length:Int))))))] [] 1 (by kernel_rfl) (trivial) ?_
    refine T_seqk ?_
    refine T_cond (decide (v1 < (a0.length:Int))) (by kernel_rfl) (fun hc=>?_) (fun hc=>?_)
    · have h:=cond_tt hc h
      refine T_skip fun a w hm=>then_norm (((?_:T Tryz.prog e 43 _ _ _) a w hm))
      refine T_seqk ?_
      refine T_block ?_
      refine T_reg [] [0,3,5,6] [(3,.d (.v (.int .i64 v1)))] [] 2 (by kernel_rfl) (trivial) ?_
      obtain ⟨hp1,h⟩:=chk_ok h
      obtain ⟨y1,hy1,h⟩:=call_ok h
      obtain ⟨hp2,h⟩:=chk_ok h
      obtain ⟨y2,hy2,h⟩:=call_ok h
      obtain ⟨hp3,h⟩:=chk_ok h
      obtain ⟨z1,hz1,h⟩:=lett_ok h
      obtain ⟨hp4,h⟩:=chk_ok h
      obtain ⟨hp5,h⟩:=chk_ok h
      obtain ⟨z2,hz2,h⟩:=lett_ok h
      refine T_reg [(3,{ res:=.d (.v (.bool y1)) }),(9,{ res:=.d (.v (.bool y2)) }),(17,{ rw:=some (.d (.v (.bool z1))) }),(29,{ rw:=some (.d (.v (.bool z2))) })] [0,5,6,38] [(38,.d (.v (.bool z2)))] [(2,0≤v1∧v1 < a0.length),(0,ACall Tryz.prog 56 [.d (.v (.int .u8 ((a0.getD v1.toNat 0).toNat:Int)))] [] (.d (.v (.bool y1))) []),(2,((((!y1) == true) && true)=true→True)),(0,((((!y1) == true) && true)=true→True)),(0,((((!y1) == true) && true)=true→0≤v1∧v1 < a0.length)),(0,((((!y1) == true) && true)=true→ACall Tryz.prog 37 [.d (.v (.int .u8 ((a0.getD v1.toNat 0).toNat:Int)))] [] (.d (.v (.bool y2))) [])),(0,((((!y1) == true) && true)=true→True)),(2,((((bif (!y1) then (!y2) else false) == true) && true)=true→True)),(0,((((bif (!y1) then (!y2) else false) == true) && true)=true→True)),(0,((((bif (!y1) then (!y2) else false) == true) && true)=true→0≤v1∧v1 < a0.length)),(0,((((bif (!y1) then (!y2) else false) == true) && true)=true→True)),(0,(True)∧AV.d (.v (.bool (bif (bif (!y1) then (!y2) else false) then (((a0.getD v1.toNat 0).toNat:Int) != (42:Int)) else false)))=.d (.v (.bool z1))),(1,(((z1 == true) && true)=true→True)),(0,(((z1 == true) && true)=true→True)),(0,(((z1 == true) && true)=true→0≤v1∧v1 < a0.length)),(0,(((z1 == true) && true)=true→True)),(2,((((bif z1 then (((a0.getD v1.toNat 0).toNat:Int) != (95:Int)) else false) == true) && true)=true→True)),(0,((((bif z1 then (((a0.getD v1.toNat 0).toNat:Int) != (95:Int)) else false) == true) && true)=true→True)),(0,((((bif z1 then (((a0.getD v1.toNat 0).toNat:Int) != (95:Int)) else false) == true) && true)=true→0≤v1∧v1 < a0.length)),(0,((((bif z1 then (((a0.getD v1.toNat 0).toNat:Int) != (95:Int)) else false) == true) && true)=true→True)),(0,(True)∧AV.d (.v (.bool (bif (bif z1 then (((a0.getD v1.toNat 0).toNat:Int) != (95:Int)) else false) then (((a0.getD v1.toNat 0).toNat:Int) != (46:Int)) else false)))=.d (.v (.bool z2)))] 0 (by kernel_rfl) (⟨hp1,ref3_letter_ok hy1,(fun hg=>trivial),(fun hg=>trivial),(fun hg=>(hp2 hg)),(fun hg=>ref3_digit_ok (gcall_ok hg hy2)),(fun hg=>trivial),(fun hg=>trivial),(fun hg=>trivial),(fun hg=>(hp3 hg)),(fun hg=>trivial),⟨trivial,(by subst hz1; rfl)⟩,(fun hg=>trivial),(fun hg=>trivial),(fun hg=>(hp4 hg)),(fun hg=>trivial),(fun hg=>trivial),(fun hg=>trivial),(fun hg=>(hp5 hg)),(fun hg=>trivial),⟨trivial,(by subst hz2; rfl)⟩⟩) ?_
      refine T_cond z2 (by kernel_rfl) (fun hc=>?_) (fun hc=>?_)
      · have h:=cond_tt hc h
        refine T_reg [] [2] [(2,.d (.v (.int .i64 (5:Int))))] [] 1 (by kernel_rfl) (trivial) ?_
        obtain hs:=Option.some.inj h; subst hs
        have h:=callE_esc hk1
        obtain hs:=Option.some.inj h; subst hs
        refine T_ret fun a w hm=>inBlock_ret (then_ret (then_ret (inBlock_ret (then_ret (then_ret (T_return (fr':=[(2,.d (.v (.int .i64 (5:Int))))]) [2] (by kernel_rfl) [.keep [2]] (by kernel_rfl) (by kernel_rfl) (by kernel_rfl) (by show _=_; kernel_rfl) (by exact trivial) a w hm))))))
      · have h:=cond_ff hc h
        refine T_skip fun a w hm=>inBlock_norm (then_norm (((?_:T Tryz.prog e 43 _ _ _) a w hm)))
        refine T_reg_end [] [0,5,6] [(6,.d (.v (.int .i64 (IntKind.i64.wrap (v1+(1:Int))))))] [] 2 (by kernel_rfl) (trivial) fun a w hm=>then_norm (⟨IntKind.i64.wrap (v1+(1:Int)),h,hm.co (cs:=[.keep [0,5,6]]) (by show _=_; kernel_rfl)⟩)
    · have h:=cond_ff hc h
      obtain hs:=Option.some.inj h; subst hs
      refine T_exit fun a w hm=>then_exit (then_exit (inBlock_exit (then_norm (⟨_,rfl,hm.co (cs:=[.keep [0]]) (by show _=_; kernel_rfl)⟩))))
  · skip
    refine fun a w hm=>then_norm (((?_:T Tryz.prog e 43 _ _ _) a w hm))
    refine T_seqk ?_
    refine T_reg [] [42] [(42,.d (.v (.bool (decide ((a0.length:Int) > (31:Int))))))] [] 3 (by kernel_rfl) (trivial) ?_
    refine T_cond (decide ((a0.length:Int) > (31:Int))) (by kernel_rfl) (fun hc=>?_) (fun hc=>?_)
    · have h:=cond_tt hc h
      refine T_reg [] [2] [(2,.d (.v (.int .i64 (2:Int))))] [] 1 (by kernel_rfl) (trivial) ?_
      obtain hs:=Option.some.inj h; subst hs
      refine T_ret fun a w hm=>then_ret (T_return (fr':=[(2,.d (.v (.int .i64 (2:Int))))]) [2] (by kernel_rfl) [.keep [2]] (by kernel_rfl) (by kernel_rfl) (by kernel_rfl) (by show _=_; kernel_rfl) (by exact trivial) a w hm)
    · have h:=cond_ff hc h
      refine T_skip fun a w hm=>then_norm (((?_:T Tryz.prog e 43 _ _ _) a w hm))
      refine T_reg [] [2] [(2,.d (.v (.int .i64 (0:Int))))] [] 1 (by kernel_rfl) (trivial) ?_
      obtain hs:=Option.some.inj h; subst hs
      refine T_ret fun a w hm=>T_return (fr':=[(2,.d (.v (.int .i64 (0:Int))))]) [2] (by kernel_rfl) [.keep [2]] (by kernel_rfl) (by kernel_rfl) (by kernel_rfl) (by show _=_; kernel_rfl) (by exact trivial) a w hm
theorem ref3_Decimal_ok {F:Nat} {a0:Int} {r:(List UInt8)} (h:ref3_Decimal F a0=some r):ACall Tryz.prog 55 [.d (.v (.int .i64 a0))] [] (.d (.str r)) []:=by
  rw [ref3_Decimal] at h
  refine ACall.intro (N:=31) Tryz.func55 rfl rfl rfl rfl rfl fun e=>?_
  refine T_reg [] [0] [] [] 1 (by kernel_rfl) (trivial) ?_
  refine T_seqk ?_
  refine T_reg [] [0,7] [(7,.d (.v (.bool (a0 == (0:Int)))))] [] 2 (by kernel_rfl) (trivial) ?_
  refine T_cond (a0 == (0:Int)) (by kernel_rfl) (fun hc=>?_) (fun hc=>?_)
  · have h:=cond_tt hc h
    refine T_reg [] [2] [(2,.d (.str ([48]:List UInt8)))] [] 1 (by kernel_rfl) (trivial) ?_
    obtain hs:=Option.some.inj h; subst hs
    refine T_ret fun a w hm=>then_ret (T_return (fr':=[(2,.d (.str ([48]:List UInt8)))]) [2] (by kernel_rfl) [.keep [2]] (by kernel_rfl) (by kernel_rfl) (by kernel_rfl) (by show _=_; kernel_rfl) (by exact trivial) a w hm)
  · have h:=cond_ff hc h
    refine T_skip fun a w hm=>then_norm (((?_:T Tryz.prog e 31 _ _ _) a w hm))
    refine T_reg [] [0,3,4] [(3,.d (.str [])),(4,.d (.v (.bool (decide (a0 < (0:Int))))))] [] 4 (by kernel_rfl) (trivial) ?_
    refine T_joinc h (fun (p:(List UInt8))=>[(3,.d (.str p)),(4,.d (.v (.bool (decide (a0 < (0:Int))))))]) (fun s h=>?_) (fun v4 h=>?_)
    · refine T_co [.keep [0,3,4]] ((fun (p:Int×(List UInt8))=>[(0,.d (.v (.int .i64 p.1))),(3,.d (.str p.2)),(4,.d (.v (.bool (decide (a0 < (0:Int))))))]) (a0,[])) (by show _=_; kernel_rfl) ?_
      refine T_block ?_
      refine T_loopF (ι:=Int×(List UInt8)) (fun (p:Int×(List UInt8))=>[(0,.d (.v (.int .i64 p.1))),(3,.d (.str p.2)),(4,.d (.v (.bool (decide (a0 < (0:Int))))))]) (fun n p=>ref3_Decimal_L0 F n p.1 p.2=some s) (fun i hh=>by simp [ref3_Decimal_L0] at hh) (fun n p h=>?_) F (a0,[]) h
      obtain ⟨v1,v2⟩:=p
      have h:ref3_Decimal_L0 F (n+1) v1 v2=some s:=h
      rw [ref3_Decimal_L0] at h
      refine T_seqk ?_
      refine T_reg [] [0,3,4,11] [(11,.d (.v (.bool (v1 != (0:Int)))))] [] 2 (by kernel_rfl) (trivial) ?_
      refine T_cond (v1 != (0:Int)) (by kernel_rfl) (fun hc=>?_) (fun hc=>?_)
      · have h:=cond_tt hc h
        refine T_skip fun a w hm=>then_norm (((?_:T Tryz.prog e 31 _ _ _) a w hm))
        refine T_block ?_
        refine T_reg [] [0,3,4,5] [(5,.d (.v (.int .i64 (v1.tmod (10:Int)))))] [(1,(10:Int)≠0)] 1 (by kernel_rfl) ((show (10:Int)≠0 by decide)) ?_
        refine T_joinc h (fun (p:Int)=>[(0,.d (.v (.int .i64 v1))),(3,.d (.str v2)),(4,.d (.v (.bool (decide (a0 < (0:Int)))))),(5,.d (.v (.int .i64 p)))]) (fun s h=>?_) (fun v3 h=>?_)
        · refine T_reg [] [0,3,4,5,15] [(15,.d (.v (.bool (decide ((v1.tmod (10:Int)) < (0:Int))))))] [] 2 (by kernel_rfl) (trivial) ?_
          refine T_cond (decide ((v1.tmod (10:Int)) < (0:Int))) (by kernel_rfl) (fun hc=>?_) (fun hc=>?_)
          · have h:=cond_tt hc h
            obtain hs:=Option.some.inj h; subst hs
            refine T_reg_end [] [0,3,4,5] [(5,.d (.v (.int .i64 (IntKind.i64.wrap (0 - (v1.tmod (10:Int)))))))] [] 3 (by kernel_rfl) (trivial) fun a w hm=>then_norm (hm.co (cs:=[.keep [0,3,4,5]]) (by show _=_; kernel_rfl))
          · have h:=cond_ff hc h
            obtain hs:=Option.some.inj h; subst hs
            refine T_skip fun a w hm=>then_norm (hm.co (cs:=[.keep [0,3,4,5]]) (by show _=_; kernel_rfl))
        · skip
          obtain ⟨hp1,h⟩:=chk_ok h
          obtain ⟨hp2,h⟩:=chk_ok h
          refine T_reg [(3,{ es:=some (([(UInt8.ofNat (IntKind.u8.wrap (IntKind.i64.wrap ((48:Int)+v3))).toNat)]).map cU) }),(4,{ cs:=[.str ([(UInt8.ofNat (IntKind.u8.wrap (IntKind.i64.wrap ((48:Int)+v3))).toNat)])] })] [0,3,4] [(3,.d (.str (([(UInt8.ofNat (IntKind.u8.wrap (IntKind.i64.wrap ((48:Int)+v3))).toNat)])++v2)))] [(3,[[Dat.v (.int .u8 (IntKind.u8.wrap (IntKind.i64.wrap ((48:Int)+v3))))]]=(([(UInt8.ofNat (IntKind.u8.wrap (IntKind.i64.wrap ((48:Int)+v3))).toNat)]).map cU)),(0,(([(UInt8.ofNat (IntKind.u8.wrap (IntKind.i64.wrap ((48:Int)+v3))).toNat)]).map cU)=byteCells ([(UInt8.ofNat (IntKind.u8.wrap (IntKind.i64.wrap ((48:Int)+v3))).toNat)])),(1,([(UInt8.ofNat (IntKind.u8.wrap (IntKind.i64.wrap ((48:Int)+v3))).toNat)]).length+v2.length≤9223372036854775807)] 1 (by kernel_rfl) (⟨(lit_u hp1 (rfl:([]:List (List Dat))=([]:List UInt8).map cU)),rfl,hp2⟩) ?_
          refine T_reg_end [] [0,3,4] [(0,.d (.v (.int .i64 (IntKind.i64.wrap (v1.tdiv (10:Int))))))] [(1,(10:Int)≠0)] 1 (by kernel_rfl) ((show (10:Int)≠0 by decide)) fun a w hm=>inBlock_norm (then_norm (⟨(IntKind.i64.wrap (v1.tdiv (10:Int)),(([(UInt8.ofNat (IntKind.u8.wrap (IntKind.i64.wrap ((48:Int)+v3))).toNat)])++v2)),h,hm.co (cs:=[.keep [0,3,4]]) (by show _=_; kernel_rfl)⟩))
      · have h:=cond_ff hc h
        obtain hs:=Option.some.inj h; subst hs
        refine T_exit fun a w hm=>then_exit (then_exit (inBlock_exit (then_norm (hm.co (cs:=[.keep [3,4]]) (by show _=_; kernel_rfl)))))
    · skip
      refine T_seqk ?_
      refine T_reg [] [3,27] [(27,.d (.v (.bool (decide (a0 < (0:Int))))))] [] 1 (by kernel_rfl) (trivial) ?_
      refine T_cond (decide (a0 < (0:Int))) (by kernel_rfl) (fun hc=>?_) (fun hc=>?_)
      · have h:=cond_tt hc h
        obtain ⟨hp3,h⟩:=chk_ok h
        refine T_reg [] [2] [(2,.d (.str (([45]:List UInt8)++v4)))] [(1,([45]:List UInt8).length+v4.length≤9223372036854775807)] 1 (by kernel_rfl) (hp3) ?_
        obtain hs:=Option.some.inj h; subst hs
        refine T_ret fun a w hm=>then_ret (T_return (fr':=[(2,.d (.str (([45]:List UInt8)++v4)))]) [2] (by kernel_rfl) [.keep [2]] (by kernel_rfl) (by kernel_rfl) (by kernel_rfl) (by show _=_; kernel_rfl) (by exact trivial) a w hm)
      · have h:=cond_ff hc h
        refine T_skip fun a w hm=>then_norm (((?_:T Tryz.prog e 31 _ _ _) a w hm))
        refine T_reg [] [2] [(2,.d (.str v4))] [] 2 (by kernel_rfl) (trivial) ?_
        obtain hs:=Option.some.inj h; subst hs
        refine T_ret fun a w hm=>T_return (fr':=[(2,.d (.str v4))]) [2] (by kernel_rfl) [.keep [2]] (by kernel_rfl) (by kernel_rfl) (by kernel_rfl) (by show _=_; kernel_rfl) (by exact trivial) a w hm
end Go.Vm.ObjG
