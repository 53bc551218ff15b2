import Derived.Test.YtldmbabgcdmjcaaGreatDoorProg
import Derived.Test.YtldmbabgcdmjcaaGreatDoorObjF
import Derived.Test.YtldmbabgcdmjcaaGreatDoorObjB
import Derived.Test.YtldmbabgcdmjcaaGreatDoorObjH
namespace Go.Vm.ObjG
open Go.Proofs
set_option maxRecDepth 20000
theorem mixed:Tryz.prog.follows .mixedOrders=true:=by kernel_rfl
theorem token_white_ok {F:Nat} {a0:Int} {r:Bool} (h:token_white F a0=some r):ACall Tryz.prog 73 [.d (.v (.int .u8 a0))] [] (.d (.v (.bool r))) []:=by
  rw [token_white] at h
  refine ACall.intro (N:=13) Tryz.func73 rfl rfl rfl rfl rfl fun e=>?_
  refine T_reg [] [0] [] [] 1 (by kernel_rfl) (trivial) ?_
  refine T_reg [] [2] [(2,.d (.v (.bool (bif (bif (a0 == (32:Int)) then true else (a0 == (9:Int))) then true else (a0 == (10:Int))))))] [(3,((((a0 == (32:Int)) == false) && true)=true→True)),(0,((((a0 == (32:Int)) == false) && true)=true→True)),(2,((((bif (a0 == (32:Int)) then true else (a0 == (9:Int))) == false) && true)=true→True)),(0,((((bif (a0 == (32:Int)) then true else (a0 == (9:Int))) == false) && true)=true→True))] 2 (by kernel_rfl) (⟨(fun hg=>trivial),(fun hg=>trivial),(fun hg=>trivial),(fun hg=>trivial)⟩) ?_
  obtain hs:=Option.some.inj h; subst hs
  refine T_ret fun a w hm=>T_return (fr':=[(2,.d (.v (.bool (bif (bif (a0 == (32:Int)) then true else (a0 == (9:Int))) then true else (a0 == (10:Int))))))]) [2] (by kernel_rfl) [.keep [2]] (by kernel_rfl) (by kernel_rfl) (by kernel_rfl) (by show _=_; kernel_rfl) (by exact trivial) a w hm
theorem token_cursor_skip_ok {F:Nat} {c0:List UInt8} {c1:Int} {r:(List UInt8)×Int} (h:token_cursor_skip F c0 c1=some r):ACall Tryz.prog 87 [.bp 1000000 0] [.box [.d (.str c0),.d (.v (.int .i64 c1))]] (.tup []) [.box [.d (.str r.1),.d (.v (.int .i64 r.2))]]:=by
  rw [token_cursor_skip] at h
  refine ACall.intro (N:=41) Tryz.func87 rfl rfl rfl rfl rfl fun e=>?_
  refine T_reg [] [0,2,1000000] [(2,.d (.v (.bool false)))] [] 1 (by kernel_rfl) (trivial) ?_
  refine T_joinEt h (fun (p:Int)=>[(1000000,.box [.d (.str c0),.d (.v (.int .i64 p))])]) (fun s h hk1=>?_) (fun v4 h=>?_)
  · refine T_co [.keep [0,2,1000000]] ((fun (p:Bool×Int)=>[(0,.bp 1000000 0),(2,.d (.v (.bool p.1))),(1000000,.box [.d (.str c0),.d (.v (.int .i64 p.2))])]) (false,c1)) (by show _=_; kernel_rfl) ?_
    refine T_block ?_
    refine T_loopF (ι:=Bool×Int) (fun (p:Bool×Int)=>[(0,.bp 1000000 0),(2,.d (.v (.bool p.1))),(1000000,.box [.d (.str c0),.d (.v (.int .i64 p.2))])]) (fun n p=>token_cursor_skip_L0 F c0 n p.1 p.2=some s) (fun i hh=>by simp [token_cursor_skip_L0] at hh) (fun n p h=>?_) F (false,c1) h
    obtain ⟨v1,v2⟩:=p
    have h:token_cursor_skip_L0 F c0 (n+1) v1 v2=some s:=h
    rw [token_cursor_skip_L0] at h
    refine T_seqk ?_
    refine T_draw mixed [] [0,2,13,1000000] [] [(0,.bp 1000000 0),(2,.d (.v (.bool v1))),(13,.d (.v (.bool (decide (v2 < (c0.length:Int)))))),(1000000,.box [.d (.str c0),.d (.v (.int .i64 v2))])] [] 10 (by kernel_rfl) (trivial) ?_
    refine T_cond (decide (v2 < (c0.length:Int))) (by kernel_rfl) (fun hc=>?_) (fun hc=>?_)
    · have h:=cond_tt hc h
      refine T_skip fun a w hm=>then_norm (((?_:T Tryz.prog e 41 _ _ _) a w hm))
      refine T_joinE h (fun (p:Bool)=>[(0,.bp 1000000 0),(2,.d (.v (.bool p))),(1000000,.box [.d (.str c0),.d (.v (.int .i64 v2))])]) (fun s h hk2=>?_) (fun v3 h=>?_)
      · refine T_block ?_
        obtain ⟨hp1,h⟩:=chk_ok h
        refine T_draw mixed [] [0,2,3,1000000] [] [(0,.bp 1000000 0),(2,.d (.v (.bool v1))),(3,.d (.v (.int .u8 ((c0.getD v2.toNat 0).toNat:Int)))),(1000000,.box [.d (.str c0),.d (.v (.int .i64 v2))])] [(8,0≤v2∧v2 < c0.length)] 1 (by kernel_rfl) (hp1) ?_
        refine T_block ?_
        refine T_reg [] [0,2,3,30,1000000] [(30,.d (.v (.bool v1)))] [] 2 (by kernel_rfl) (trivial) ?_
        refine T_cond v1 (by kernel_rfl) (fun hc=>?_) (fun hc=>?_)
        · have h:=cond_tt hc h
          obtain hs:=Option.some.inj h; subst hs
          refine T_reg_end [] [0,2,1000000] [(2,.d (.v (.bool (((c0.getD v2.toNat 0).toNat:Int) != (10:Int)))))] [] 3 (by kernel_rfl) (trivial) fun a w hm=>inBlock_norm (inBlock_norm (then_norm (⟨_,rfl,hm.co (cs:=[.keep [0,2,1000000]]) (by show _=_; kernel_rfl)⟩)))
        · have h:=cond_ff hc h
          refine T_reg [] [0,2,3,34,1000000] [(34,.d (.v (.bool (((c0.getD v2.toNat 0).toNat:Int) == (37:Int)))))] [] 3 (by kernel_rfl) (trivial) ?_
          refine T_cond (((c0.getD v2.toNat 0).toNat:Int) == (37:Int)) (by kernel_rfl) (fun hc=>?_) (fun hc=>?_)
          · have h:=cond_tt hc h
            obtain hs:=Option.some.inj h; subst hs
            refine T_reg_end [] [0,2,1000000] [(2,.d (.v (.bool true)))] [] 1 (by kernel_rfl) (trivial) fun a w hm=>inBlock_norm (inBlock_norm (then_norm (⟨_,rfl,hm.co (cs:=[.keep [0,2,1000000]]) (by show _=_; kernel_rfl)⟩)))
          · have h:=cond_ff hc h
            obtain ⟨y1,hy1,h⟩:=call_ok h
            refine T_reg [(1,{ res:=.d (.v (.bool y1)) })] [0,2,37,1000000] [(37,.d (.v (.bool (!y1))))] [(1,ACall Tryz.prog 73 [.d (.v (.int .u8 ((c0.getD v2.toNat 0).toNat:Int)))] [] (.d (.v (.bool y1))) [])] 2 (by kernel_rfl) (token_white_ok hy1) ?_
            refine T_cond (!y1) (by kernel_rfl) (fun hc=>?_) (fun hc=>?_)
            · have h:=cond_tt hc h
              obtain hs:=Option.some.inj h; subst hs
              have h:=callE_esc hk2
              obtain hs:=Option.some.inj h; subst hs
              have h:=callE_esc hk1
              obtain hs:=Option.some.inj h; subst hs
              refine T_ret fun a w hm=>inBlock_ret (inBlock_ret (then_ret (then_ret (inBlock_ret (then_ret (T_return (fr':=[(1000000,.box [.d (.str c0),.d (.v (.int .i64 v2))])]) [] (by kernel_rfl) [.keep [1000000]] (by kernel_rfl) (by kernel_rfl) (by kernel_rfl) (by show _=_; kernel_rfl) (by exact ⟨⟨by kernel_rfl,by kernel_rfl⟩,trivial⟩) a w hm))))))
            · have h:=cond_ff hc h
              obtain hs:=Option.some.inj h; subst hs
              refine T_skip fun a w hm=>inBlock_norm (inBlock_norm (then_norm (⟨_,rfl,hm.co (cs:=[.keep [0,2,1000000]]) (by show _=_; kernel_rfl)⟩)))
      · skip
        refine T_reg_end [] [0,2,1000000] [(1000000,.box [.d (.str c0),.d (.v (.int .i64 (IntKind.i64.wrap (v2+(1:Int)))))])] [] 8 (by kernel_rfl) (trivial) fun a w hm=>then_norm (⟨(v3,IntKind.i64.wrap (v2+(1:Int))),h,hm.co (cs:=[.keep [0,2,1000000]]) (by show _=_; kernel_rfl)⟩)
    · have h:=cond_ff hc h
      obtain hs:=Option.some.inj h; subst hs
      refine T_exit fun a w hm=>then_exit (then_exit (inBlock_exit (then_norm (⟨_,rfl,hm.co (cs:=[.keep [1000000]]) (by show _=_; kernel_rfl)⟩))))
  · skip
    obtain hs:=Option.some.inj h; subst hs
    refine fun a w hm=>T_return (fr':=[(1000000,.box [.d (.str c0),.d (.v (.int .i64 v4))])]) [] (by kernel_rfl) [.keep [1000000]] (by kernel_rfl) (by kernel_rfl) (by kernel_rfl) (by show _=_; kernel_rfl) (by exact ⟨⟨by kernel_rfl,by kernel_rfl⟩,trivial⟩) a w hm
theorem token_digit_ok {F:Nat} {a0:Int} {r:Bool} (h:token_digit F a0=some r):ACall Tryz.prog 100 [.d (.v (.int .u8 a0))] [] (.d (.v (.bool r))) []:=by
  rw [token_digit] at h
  refine ACall.intro (N:=9) Tryz.func100 rfl rfl rfl rfl rfl fun e=>?_
  refine T_reg [] [0] [] [] 1 (by kernel_rfl) (trivial) ?_
  refine T_reg [] [2] [(2,.d (.v (.bool (bif (decide ((48:Int)≤a0)) then (decide (a0≤(57:Int))) else false))))] [(3,((((decide ((48:Int)≤a0)) == true) && true)=true→True)),(0,((((decide ((48:Int)≤a0)) == true) && true)=true→True))] 2 (by kernel_rfl) (⟨(fun hg=>trivial),(fun hg=>trivial)⟩) ?_
  obtain hs:=Option.some.inj h; subst hs
  refine T_ret fun a w hm=>T_return (fr':=[(2,.d (.v (.bool (bif (decide ((48:Int)≤a0)) then (decide (a0≤(57:Int))) else false))))]) [2] (by kernel_rfl) [.keep [2]] (by kernel_rfl) (by kernel_rfl) (by kernel_rfl) (by show _=_; kernel_rfl) (by exact trivial) a w hm
theorem token_delimiter_ok {F:Nat} {a0:Int} {r:Bool} (h:token_delimiter F a0=some r):ACall Tryz.prog 74 [.d (.v (.int .u8 a0))] [] (.d (.v (.bool r))) []:=by
  rw [token_delimiter] at h
  refine ACall.intro (N:=6) Tryz.func74 rfl rfl rfl rfl rfl fun e=>?_
  refine T_reg [] [0] [] [] 1 (by kernel_rfl) (trivial) ?_
  obtain ⟨z1,hz1,h⟩:=lett_ok h
  refine T_reg [(1,{ res:=.d (.v (.int .i64 (Lib.indexByte ([40,41,60,62,91,93,47,64,37]:List UInt8) a0.toNat.toUInt8))) }),(2,{ rw:=some (.d (.v (.bool z1))) })] [2] [(2,.d (.v (.bool z1)))] [(1,ACall Tryz.prog 95 [.d (.str ([40,41,60,62,91,93,47,64,37]:List UInt8)),.d (.v (.int .u8 a0))] [] (.d (.v (.int .i64 (Lib.indexByte ([40,41,60,62,91,93,47,64,37]:List UInt8) a0.toNat.toUInt8)))) []),(0,(True)∧AV.d (.v (.bool (decide ((Lib.indexByte ([40,41,60,62,91,93,47,64,37]:List UInt8) a0.toNat.toUInt8) ≥ (0:Int)))))=.d (.v (.bool z1)))] 1 (by kernel_rfl) (⟨b_IndexByte_95,⟨trivial,(by subst hz1; rfl)⟩⟩) ?_
  obtain hs:=Option.some.inj h; subst hs
  refine T_ret fun a w hm=>T_return (fr':=[(2,.d (.v (.bool z1)))]) [2] (by kernel_rfl) [.keep [2]] (by kernel_rfl) (by kernel_rfl) (by kernel_rfl) (by show _=_; kernel_rfl) (by exact trivial) a w hm
theorem token_regular_ok {F:Nat} {a0:Int} {r:Bool} (h:token_regular F a0=some r):ACall Tryz.prog 49 [.d (.v (.int .u8 a0))] [] (.d (.v (.bool r))) []:=by
  rw [token_regular] at h
  refine ACall.intro (N:=11) Tryz.func49 rfl rfl rfl rfl rfl fun e=>?_
  refine T_reg [] [0] [] [] 1 (by kernel_rfl) (trivial) ?_
  obtain ⟨y1,hy1,h⟩:=call_ok h
  obtain ⟨y2,hy2,h⟩:=call_ok h
  refine T_reg [(1,{ res:=.d (.v (.bool y1)) }),(5,{ res:=.d (.v (.bool y2)) })] [2] [(2,.d (.v (.bool (bif (!y1) then (!y2) else false))))] [(1,ACall Tryz.prog 73 [.d (.v (.int .u8 a0))] [] (.d (.v (.bool y1))) []),(2,((((!y1) == true) && true)=true→True)),(0,((((!y1) == true) && true)=true→ACall Tryz.prog 74 [.d (.v (.int .u8 a0))] [] (.d (.v (.bool y2))) [])),(0,((((!y1) == true) && true)=true→True))] 2 (by kernel_rfl) (⟨token_white_ok hy1,(fun hg=>trivial),(fun hg=>token_delimiter_ok (gcall_ok hg hy2)),(fun hg=>trivial)⟩) ?_
  obtain hs:=Option.some.inj h; subst hs
  refine T_ret fun a w hm=>T_return (fr':=[(2,.d (.v (.bool (bif (!y1) then (!y2) else false))))]) [2] (by kernel_rfl) [.keep [2]] (by kernel_rfl) (by kernel_rfl) (by kernel_rfl) (by show _=_; kernel_rfl) (by exact trivial) a w hm
set_option maxHeartbeats 8000000 in
set_option maxRecDepth 100000 in
theorem token_cursor_run_ok {F:Nat} {c0:List UInt8} {c1:Int} {r:(List UInt8)×(List UInt8)×Int} (h:token_cursor_run F c0 c1=some r):ACall Tryz.prog 109 [.bp 1000000 0] [.box [.d (.str c0),.d (.v (.int .i64 c1))]] (.d (.str r.1)) [.box [.d (.str r.2.1),.d (.v (.int .i64 r.2.2))]]:=by
  rw [token_cursor_run] at h
  refine ACall.intro (N:=47) Tryz.func109 rfl rfl rfl rfl rfl fun e=>?_
  refine T_reg [] [0,1000000] [] [] 1 (by kernel_rfl) (trivial) ?_
  refine T_reg [] [0,3,1000000] [(3,.d (.v (.int .i64 c1)))] [] 5 (by kernel_rfl) (trivial) ?_
  refine T_joinc h (fun (p:Int)=>[(0,.bp 1000000 0),(3,.d (.v (.int .i64 c1))),(1000000,.box [.d (.str c0),.d (.v (.int .i64 p))])]) (fun s h=>?_) (fun v2 h=>?_)
  · refine T_co [.keep [0,3,1000000]] ((fun (p:Int)=>[(0,.bp 1000000 0),(3,.d (.v (.int .i64 c1))),(1000000,.box [.d (.str c0),.d (.v (.int .i64 p))])]) c1) (by show _=_; kernel_rfl) ?_
    refine T_block ?_
    refine T_loopF (ι:=Int) (fun (p:Int)=>[(0,.bp 1000000 0),(3,.d (.v (.int .i64 c1))),(1000000,.box [.d (.str c0),.d (.v (.int .i64 p))])]) (fun n p=>token_cursor_run_L0 F c0 n p=some s) (fun i hh=>by simp [token_cursor_run_L0] at hh) (fun n v1 h=>?_) F c1 h
    have h:token_cursor_run_L0 F c0 (n+1) v1=some s:=h
    rw [token_cursor_run_L0] at h
    refine T_seqk ?_
    obtain ⟨hp1,h⟩:=chk_ok h
    obtain ⟨y1,hy1,h⟩:=call_ok h
    refine T_drawX mixed 210 (.take 0 (.take 1 (.take 2 (.take 4 (.take 5 (.take 6 (.all (.alt 3 (.all (.alt 7 (.all (.alt 8 (.take 9 (.take 10 (.all (.alt 11 (.all (.alt 12 (.all (.alt 13 (.all (.alt 14 (.all (.alt 15 (.all (.alt 16 (.all (.alt 17 (.all (.alt 18 (.take 19 (.all (.alt 20 (.take 21 .done) .stop))) .stop)) .stop)) .stop)) .stop)) (.alt 15 (.all (.alt 14 (.all (.alt 16 (.all (.alt 17 (.all (.alt 18 (.take 19 (.all (.alt 20 (.take 21 .done) .stop))) .stop)) .stop)) .stop)) (.alt 16 (.all (.alt 14 (.all (.alt 17 (.all (.alt 18 (.take 19 (.all (.alt 20 (.take 21 .done) .stop))) .stop)) .stop)) (.alt 17 (.all (.alt 14 (.all (.alt 18 (.take 19 (.all (.alt 20 (.take 21 .done) .stop))) .stop)) (.alt 18 (.all (.alt 14 (.take 19 (.all (.alt 20 (.take 21 .done) .stop))) .stop)) .stop))) .stop))) .stop))) .stop))) (.alt 15 (.all (.alt 13 (.all (.alt 14 (.all (.alt 16 (.all (.alt 17 (.all (.alt 18 (.take 19 (.all (.alt 20 (.take 21 .done) .stop))) .stop)) .stop)) .stop)) (.alt 16 (.all (.alt 14 (.all (.alt 17 (.all (.alt 18 (.take 19 (.all (.alt 20 (.take 21 .done) .stop))) .stop)) .stop)) (.alt 17 (.all (.alt 14 (.all (.alt 18 (.take 19 (.all (.alt 20 (.take 21 .done) .stop))) .stop)) (.alt 18 (.all (.alt 14 (.take 19 (.all (.alt 20 (.take 21 .done) .stop))) .stop)) .stop))) .stop))) .stop))) (.alt 16 (.all (.alt 13 (.all (.alt 14 (.all (.alt 17 (.all (.alt 18 (.take 19 (.all (.alt 20 (.take 21 .done) .stop))) .stop)) .stop)) (.alt 17 (.all (.alt 14 (.all (.alt 18 (.take 19 (.all (.alt 20 (.take 21 .done) .stop))) .stop)) (.alt 18 (.all (.alt 14 (.take 19 (.all (.alt 20 (.take 21 .done) .stop))) .stop)) .stop))) .stop))) (.alt 17 (.all (.alt 13 (.all (.alt 14 (.all (.alt 18 (.take 19 (.all (.alt 20 (.take 21 .done) .stop))) .stop)) (.alt 18 (.all (.alt 14 (.take 19 (.all (.alt 20 (.take 21 .done) .stop))) .stop)) .stop))) (.alt 18 (.all (.alt 13 (.all (.alt 14 (.take 19 (.all (.alt 20 (.take 21 .done) .stop))) .stop)) .stop)) .stop))) .stop))) .stop))) .stop))) (.alt 15 (.all (.alt 12 (.all (.alt 13 (.all (.alt 14 (.all (.alt 16 (.all (.alt 17 (.all (.alt 18 (.take 19 (.all (.alt 20 (.take 21 .done) .stop))) .stop)) .stop)) .stop)) (.alt 16 (.all (.alt 14 (.all (.alt 17 (.all (.alt 18 (.take 19 (.all (.alt 20 (.take 21 .done) .stop))) .stop)) .stop)) (.alt 17 (.all (.alt 14 (.all (.alt 18 (.take 19 (.all (.alt 20 (.take 21 .done) .stop))) .stop)) (.alt 18 (.all (.alt 14 (.take 19 (.all (.alt 20 (.take 21 .done) .stop))) .stop)) .stop))) .stop))) .stop))) (.alt 16 (.all (.alt 13 (.all (.alt 14 (.all (.alt 17 (.all (.alt 18 (.take 19 (.all (.alt 20 (.take 21 .done) .stop))) .stop)) .stop)) (.alt 17 (.all (.alt 14 (.all (.alt 18 (.take 19 (.all (.alt 20 (.take 21 .done) .stop))) .stop)) (.alt 18 (.all (.alt 14 (.take 19 (.all (.alt 20 (.take 21 .done) .stop))) .stop)) .stop))) .stop))) (.alt 17 (.all (.alt 13 (.all (.alt 14 (.all (.alt 18 (.take 19 (.all (.alt 20 (.take 21 .done) .stop))) .stop)) (.alt 18 (.all (.alt 14 (.take 19 (.all (.alt 20 (.take 21 .done) .stop))) .stop)) .stop))) (.alt 18 (.all (.alt 13 (.all (.alt 14 (.take 19 (.all (.alt 20 (.take 21 .done) .stop))) .stop)) .stop)) .stop))) .stop))) .stop))) (.alt 16 (.all (.alt 12 (.all (.alt 13 (.all (.alt 14 (.all (.alt 17 (.all (.alt 18 (.take 19 (.all (.alt 20 (.take 21 .done) .stop))) .stop)) .stop)) (.alt 17 (.all (.alt 14 (.all (.alt 18 (.take 19 (.all (.alt 20 (.take 21 .done) .stop))) .stop)) (.alt 18 (.all (.alt 14 (.take 19 (.all (.alt 20 (.take 21 .done) .stop))) .stop)) .stop))) .stop))) (.alt 17 (.all (.alt 13 (.all (.alt 14 (.all (.alt 18 (.take 19 (.all (.alt 20 (.take 21 .done) .stop))) .stop)) (.alt 18 (.all (.alt 14 (.take 19 (.all (.alt 20 (.take 21 .done) .stop))) .stop)) .stop))) (.alt 18 (.all (.alt 13 (.all (.alt 14 (.take 19 (.all (.alt 20 (.take 21 .done) .stop))) .stop)) .stop)) .stop))) .stop))) (.alt 17 (.all (.alt 12 (.all (.alt 13 (.all (.alt 14 (.all (.alt 18 (.take 19 (.all (.alt 20 (.take 21 .done) .stop))) .stop)) (.alt 18 (.all (.alt 14 (.take 19 (.all (.alt 20 (.take 21 .done) .stop))) .stop)) .stop))) (.alt 18 (.all (.alt 13 (.all (.alt 14 (.take 19 (.all (.alt 20 (.take 21 .done) .stop))) .stop)) .stop)) .stop))) (.alt 18 (.all (.alt 12 (.all (.alt 13 (.all (.alt 14 (.take 19 (.all (.alt 20 (.take 21 .done) .stop))) .stop)) .stop)) .stop)) .stop))) .stop))) .stop))) .stop))) (.alt 15 (.all (.alt 11 (.all (.alt 12 (.all (.alt 13 (.all (.alt 14 (.all (.alt 16 (.all (.alt 17 (.all (.alt 18 (.take 19 (.all (.alt 20 (.take 21 .done) .stop))) .stop)) .stop)) .stop)) (.alt 16 (.all (.alt 14 (.all (.alt 17 (.all (.alt 18 (.take 19 (.all (.alt 20 (.take 21 .done) .stop))) .stop)) .stop)) (.alt 17 (.all (.alt 14 (.all (.alt 18 (.take 19 (.all (.alt 20 (.take 21 .done) .stop))) .stop)) (.alt 18 (.all (.alt 14 (.take 19 (.all (.alt 20 (.take 21 .done) .stop))) .stop)) .stop))) .stop))) .stop))) (.alt 16 (.all (.alt 13 (.all (.alt 14 (.all (.alt 17 (.all (.alt 18 (.take 19 (.all (.alt 20 (.take 21 .done) .stop))) .stop)) .stop)) (.alt 17 (.all (.alt 14 (.all (.alt 18 (.take 19 (.all (.alt 20 (.take 21 .done) .stop))) .stop)) (.alt 18 (.all (.alt 14 (.take 19 (.all (.alt 20 (.take 21 .done) .stop))) .stop)) .stop))) .stop))) (.alt 17 (.all (.alt 13 (.all (.alt 14 (.all (.alt 18 (.take 19 (.all (.alt 20 (.take 21 .done) .stop))) .stop)) (.alt 18 (.all (.alt 14 (.take 19 (.all (.alt 20 (.take 21 .done) .stop))) .stop)) .stop))) (.alt 18 (.all (.alt 13 (.all (.alt 14 (.take 19 (.all (.alt 20 (.take 21 .done) .stop))) .stop)) .stop)) .stop))) .stop))) .stop))) (.alt 16 (.all (.alt 12 (.all (.alt 13 (.all (.alt 14 (.all (.alt 17 (.all (.alt 18 (.take 19 (.all (.alt 20 (.take 21 .done) .stop))) .stop)) .stop)) (.alt 17 (.all (.alt 14 (.all (.alt 18 (.take 19 (.all (.alt 20 (.take 21 .done) .stop))) .stop)) (.alt 18 (.all (.alt 14 (.take 19 (.all (.alt 20 (.take 21 .done) .stop))) .stop)) .stop))) .stop))) (.alt 17 (.all (.alt 13 (.all (.alt 14 (.all (.alt 18 (.take 19 (.all (.alt 20 (.take 21 .done) .stop))) .stop)) (.alt 18 (.all (.alt 14 (.take 19 (.all (.alt 20 (.take 21 .done) .stop))) .stop)) .stop))) (.alt 18 (.all (.alt 13 (.all (.alt 14 (.take 19 (.all (.alt 20 (.take 21 .done) .stop))) .stop)) .stop)) .stop))) .stop))) (.alt 17 (.all (.alt 12 (.all (.alt 13 (.all (.alt 14 (.all (.alt 18 (.take 19 (.all (.alt 20 (.take 21 .done) .stop))) .stop)) (.alt 18 (.all (.alt 14 (.take 19 (.all (.alt 20 (.take 21 .done) .stop))) .stop)) .stop))) (.alt 18 (.all (.alt 13 (.all (.alt 14 (.take 19 (.all (.alt 20 (.take 21 .done) .stop))) .stop)) .stop)) .stop))) (.alt 18 (.all (.alt 12 (.all (.alt 13 (.all (.alt 14 (.take 19 (.all (.alt 20 (.take 21 .done) .stop))) .stop)) .stop)) .stop)) .stop))) .stop))) .stop))) (.alt 16 (.all (.alt 11 (.all (.alt 12 (.all (.alt 13 (.all (.alt 14 (.all (.alt 17 (.all (.alt 18 (.take 19 (.all (.alt 20 (.take 21 .done) .stop))) .stop)) .stop)) (.alt 17 (.all (.alt 14 (.all (.alt 18 (.take 19 (.all (.alt 20 (.take 21 .done) .stop))) .stop)) (.alt 18 (.all (.alt 14 (.take 19 (.all (.alt 20 (.take 21 .done) .stop))) .stop)) .stop))) .stop))) (.alt 17 (.all (.alt 13 (.all (.alt 14 (.all (.alt 18 (.take 19 (.all (.alt 20 (.take 21 .done) .stop))) .stop)) (.alt 18 (.all (.alt 14 (.take 19 (.all (.alt 20 (.take 21 .done) .stop))) .stop)) .stop))) (.alt 18 (.all (.alt 13 (.all (.alt 14 (.take 19 (.all (.alt 20 (.take 21 .done) .stop))) .stop)) .stop)) .stop))) .stop))) (.alt 17 (.all (.alt 12 (.all (.alt 13 (.all (.alt 14 (.all (.alt 18 (.take 19 (.all (.alt 20 (.take 21 .done) .stop))) .stop)) (.alt 18 (.all (.alt 14 (.take 19 (.all (.alt 20 (.take 21 .done) .stop))) .stop)) .stop))) (.alt 18 (.all (.alt 13 (.all (.alt 14 (.take 19 (.all (.alt 20 (.take 21 .done) .stop))) .stop)) .stop)) .stop))) (.alt 18 (.all (.alt 12 (.all (.alt 13 (.all (.alt 14 (.take 19 (.all (.alt 20 (.take 21 .done) .stop))) .stop)) .stop)) .stop)) .stop))) .stop))) (.alt 17 (.all (.alt 11 (.all (.alt 12 (.all (.alt 13 (.all (.alt 14 (.all (.alt 18 (.take 19 (.all (.alt 20 (.take 21 .done) .stop))) .stop)) (.alt 18 (.all (.alt 14 (.take 19 (.all (.alt 20 (.take 21 .done) .stop))) .stop)) .stop))) (.alt 18 (.all (.alt 13 (.all (.alt 14 (.take 19 (.all (.alt 20 (.take 21 .done) .stop))) .stop)) .stop)) .stop))) (.alt 18 (.all (.alt 12 (.all (.alt 13 (.all (.alt 14 (.take 19 (.all (.alt 20 (.take 21 .done) .stop))) .stop)) .stop)) .stop)) .stop))) (.alt 18 (.all (.alt 11 (.all (.alt 12 (.all (.alt 13 (.all (.alt 14 (.take 19 (.all (.alt 20 (.take 21 .done) .stop))) .stop)) .stop)) .stop)) .stop)) .stop))) .stop))) .stop))) .stop))))) .stop)) .stop)) (.alt 7 (.all (.alt 3 (.all (.alt 8 (.take 9 (.take 10 (.all (.alt 11 (.all (.alt 12 (.all (.alt 13 (.all (.alt 14 (.all (.alt 15 (.all (.alt 16 (.all (.alt 17 (.all (.alt 18 (.take 19 (.all (.alt 20 (.take 21 .done) .stop))) .stop)) .stop)) .stop)) .stop)) (.alt 15 (.all (.alt 14 (.all (.alt 16 (.all (.alt 17 (.all (.alt 18 (.take 19 (.all (.alt 20 (.take 21 .done) .stop))) .stop)) .stop)) .stop)) (.alt 16 (.all (.alt 14 (.all (.alt 17 (.all (.alt 18 (.take 19 (.all (.alt 20 (.take 21 .done) .stop))) .stop)) .stop)) (.alt 17 (.all (.alt 14 (.all (.alt 18 (.take 19 (.all (.alt 20 (.take 21 .done) .stop))) .stop)) (.alt 18 (.all (.alt 14 (.take 19 (.all (.alt 20 (.take 21 .done) .stop))) .stop)) .stop))) .stop))) .stop))) .stop))) (.alt 15 (.all (.alt 13 (.all (.alt 14 (.all (.alt 16 (.all (.alt 17 (.all (.alt 18 (.take 19 (.all (.alt 20 (.take 21 .done) .stop))) .stop)) .stop)) .stop)) (.alt 16 (.all (.alt 14 (.all (.alt 17 (.all (.alt 18 (.take 19 (.all (.alt 20 (.take 21 .done) .stop))) .stop)) .stop)) (.alt 17 (.all (.alt 14 (.all (.alt 18 (.take 19 (.all (.alt 20 (.take 21 .done) .stop))) .stop)) (.alt 18 (.all (.alt 14 (.take 19 (.all (.alt 20 (.take 21 .done) .stop))) .stop)) .stop))) .stop))) .stop))) (.alt 16 (.all (.alt 13 (.all (.alt 14 (.all (.alt 17 (.all (.alt 18 (.take 19 (.all (.alt 20 (.take 21 .done) .stop))) .stop)) .stop)) (.alt 17 (.all (.alt 14 (.all (.alt 18 (.take 19 (.all (.alt 20 (.take 21 .done) .stop))) .stop)) (.alt 18 (.all (.alt 14 (.take 19 (.all (.alt 20 (.take 21 .done) .stop))) .stop)) .stop))) .stop))) (.alt 17 (.all (.alt 13 (.all (.alt 14 (.all (.alt 18 (.take 19 (.all (.alt 20 (.take 21 .done) .stop))) .stop)) (.alt 18 (.all (.alt 14 (.take 19 (.all (.alt 20 (.take 21 .done) .stop))) .stop)) .stop))) (.alt 18 (.all (.alt 13 (.all (.alt 14 (.take 19 (.all (.alt 20 (.take 21 .done) .stop))) .stop)) .stop)) .stop))) .stop))) .stop))) .stop))) (.alt 15 (.all (.alt 12 (.all (.alt 13 (.all (.alt 14 (.all (.alt 16 (.all (.alt 17 (.all (.alt 18 (.take 19 (.all (.alt 20 (.take 21 .done) .stop))) .stop)) .stop)) .stop)) (.alt 16 (.all (.alt 14 (.all (.alt 17 (.all (.alt 18 (.take 19 (.all (.alt 20 (.take 21 .done) .stop))) .stop)) .stop)) (.alt 17 (.all (.alt 14 (.all (.alt 18 (.take 19 (.all (.alt 20 (.take 21 .done) .stop))) .stop)) (.alt 18 (.all (.alt 14 (.take 19 (.all (.alt 20 (.take 21 .done) .stop))) .stop)) .stop))) .stop))) .stop))) (.alt 16 (.all (.alt 13 (.all (.alt 14 (.all (.alt 17 (.all (.alt 18 (.take 19 (.all (.alt 20 (.take 21 .done) .stop))) .stop)) .stop)) (.alt 17 (.all (.alt 14 (.all (.alt 18 (.take 19 (.all (.alt 20 (.take 21 .done) .stop))) .stop)) (.alt 18 (.all (.alt 14 (.take 19 (.all (.alt 20 (.take 21 .done) .stop))) .stop)) .stop))) .stop))) (.alt 17 (.all (.alt 13 (.all (.alt 14 (.all (.alt 18 (.take 19 (.all (.alt 20 (.take 21 .done) .stop))) .stop)) (.alt 18 (.all (.alt 14 (.take 19 (.all (.alt 20 (.take 21 .done) .stop))) .stop)) .stop))) (.alt 18 (.all (.alt 13 (.all (.alt 14 (.take 19 (.all (.alt 20 (.take 21 .done) .stop))) .stop)) .stop)) .stop))) .stop))) .stop))) (.alt 16 (.all (.alt 12 (.all (.alt 13 (.all (.alt 14 (.all (.alt 17 (.all (.alt 18 (.take 19 (.all (.alt 20 (.take 21 .done) .stop))) .stop)) .stop)) (.alt 17 (.all (.alt 14 (.all (.alt 18 (.take 19 (.all (.alt 20 (.take 21 .done) .stop))) .stop)) (.alt 18 (.all (.alt 14 (.take 19 (.all (.alt 20 (.take 21 .done) .stop))) .stop)) .stop))) .stop))) (.alt 17 (.all (.alt 13 (.all (.alt 14 (.all (.alt 18 (.take 19 (.all (.alt 20 (.take 21 .done) .stop))) .stop)) (.alt 18 (.all (.alt 14 (.take 19 (.all (.alt 20 (.take 21 .done) .stop))) .stop)) .stop))) (.alt 18 (.all (.alt 13 (.all (.alt 14 (.take 19 (.all (.alt 20 (.take 21 .done) .stop))) .stop)) .stop)) .stop))) .stop))) (.alt 17 (.all (.alt 12 (.all (.alt 13 (.all (.alt 14 (.all (.alt 18 (.take 19 (.all (.alt 20 (.take 21 .done) .stop))) .stop)) (.alt 18 (.all (.alt 14 (.take 19 (.all (.alt 20 (.take 21 .done) .stop))) .stop)) .stop))) (.alt 18 (.all (.alt 13 (.all (.alt 14 (.take 19 (.all (.alt 20 (.take 21 .done) .stop))) .stop)) .stop)) .stop))) (.alt 18 (.all (.alt 12 (.all (.alt 13 (.all (.alt 14 (.take 19 (.all (.alt 20 (.take 21 .done) .stop))) .stop)) .stop)) .stop)) .stop))) .stop))) .stop))) .stop))) (.alt 15 (.all (.alt 11 (.all (.alt 12 (.all (.alt 13 (.all (.alt 14 (.all (.alt 16 (.all (.alt 17 (.all (.alt 18 (.take 19 (.all (.alt 20 (.take 21 .done) .stop))) .stop)) .stop)) .stop)) (.alt 16 (.all (.alt 14 (.all (.alt 17 (.all (.alt 18 (.take 19 (.all (.alt 20 (.take 21 .done) .stop))) .stop)) .stop)) (.alt 17 (.all (.alt 14 (.all (.alt 18 (.take 19 (.all (.alt 20 (.take 21 .done) .stop))) .stop)) (.alt 18 (.all (.alt 14 (.take 19 (.all (.alt 20 (.take 21 .done) .stop))) .stop)) .stop))) .stop))) .stop))) (.alt 16 (.all (.alt 13 (.all (.alt 14 (.all (.alt 17 (.all (.alt 18 (.take 19 (.all (.alt 20 (.take 21 .done) .stop))) .stop)) .stop)) (.alt 17 (.all (.alt 14 (.all (.alt 18 (.take 19 (.all (.alt 20 (.take 21 .done) .stop))) .stop)) (.alt 18 (.all (.alt 14 (.take 19 (.all (.alt 20 (.take 21 .done) .stop))) .stop)) .stop))) .stop))) (.alt 17 (.all (.alt 13 (.all (.alt 14 (.all (.alt 18 (.take 19 (.all (.alt 20 (.take 21 .done) .stop))) .stop)) (.alt 18 (.all (.alt 14 (.take 19 (.all (.alt 20 (.take 21 .done) .stop))) .stop)) .stop))) (.alt 18 (.all (.alt 13 (.all (.alt 14 (.take 19 (.all (.alt 20 (.take 21 .done) .stop))) .stop)) .stop)) .stop))) .stop))) .stop))) (.alt 16 (.all (.alt 12 (.all (.alt 13 (.all (.alt 14 (.all (.alt 17 (.all (.alt 18 (.take 19 (.all (.alt 20 (.take 21 .done) .stop))) .stop)) .stop)) (.alt 17 (.all (.alt 14 (.all (.alt 18 (.take 19 (.all (.alt 20 (.take 21 .done) .stop))) .stop)) (.alt 18 (.all (.alt 14 (.take 19 (.all (.alt 20 (.take 21 .done) .stop))) .stop)) .stop))) .stop))) (.alt 17 (.all (.alt 13 (.all (.alt 14 (.all (.alt 18 (.take 19 (.all (.alt 20 (.take 21 .done) .stop))) .stop)) (.alt 18 (.all (.alt 14 (.take 19 (.all (.alt 20 (.take 21 .done) .stop))) .stop)) .stop))) (.alt 18 (.all (.alt 13 (.all (.alt 14 (.take 19 (.all (.alt 20 (.take 21 .done) .stop))) .stop)) .stop)) .stop))) .stop))) (.alt 17 (.all (.alt 12 (.all (.alt 13 (.all (.alt 14 (.all (.alt 18 (.take 19 (.all (.alt 20 (.take 21 .done) .stop))) .stop)) (.alt 18 (.all (.alt 14 (.take 19 (.all (.alt 20 (.take 21 .done) .stop))) .stop)) .stop))) (.alt 18 (.all (.alt 13 (.all (.alt 14 (.take 19 (.all (.alt 20 (.take 21 .done) .stop))) .stop)) .stop)) .stop))) (.alt 18 (.all (.alt 12 (.all (.alt 13 (.all (.alt 14 (.take 19 (.all (.alt 20 (.take 21 .done) .stop))) .stop)) .stop)) .stop)) .stop))) .stop))) .stop))) (.alt 16 (.all (.alt 11 (.all (.alt 12 (.all (.alt 13 (.all (.alt 14 (.all (.alt 17 (.all (.alt 18 (.take 19 (.all (.alt 20 (.take 21 .done) .stop))) .stop)) .stop)) (.alt 17 (.all (.alt 14 (.all (.alt 18 (.take 19 (.all (.alt 20 (.take 21 .done) .stop))) .stop)) (.alt 18 (.all (.alt 14 (.take 19 (.all (.alt 20 (.take 21 .done) .stop))) .stop)) .stop))) .stop))) (.alt 17 (.all (.alt 13 (.all (.alt 14 (.all (.alt 18 (.take 19 (.all (.alt 20 (.take 21 .done) .stop))) .stop)) (.alt 18 (.all (.alt 14 (.take 19 (.all (.alt 20 (.take 21 .done) .stop))) .stop)) .stop))) (.alt 18 (.all (.alt 13 (.all (.alt 14 (.take 19 (.all (.alt 20 (.take 21 .done) .stop))) .stop)) .stop)) .stop))) .stop))) (.alt 17 (.all (.alt 12 (.all (.alt 13 (.all (.alt 14 (.all (.alt 18 (.take 19 (.all (.alt 20 (.take 21 .done) .stop))) .stop)) (.alt 18 (.all (.alt 14 (.take 19 (.all (.alt 20 (.take 21 .done) .stop))) .stop)) .stop))) (.alt 18 (.all (.alt 13 (.all (.alt 14 (.take 19 (.all (.alt 20 (.take 21 .done) .stop))) .stop)) .stop)) .stop))) (.alt 18 (.all (.alt 12 (.all (.alt 13 (.all (.alt 14 (.take 19 (.all (.alt 20 (.take 21 .done) .stop))) .stop)) .stop)) .stop)) .stop))) .stop))) (.alt 17 (.all (.alt 11 (.all (.alt 12 (.all (.alt 13 (.all (.alt 14 (.all (.alt 18 (.take 19 (.all (.alt 20 (.take 21 .done) .stop))) .stop)) (.alt 18 (.all (.alt 14 (.take 19 (.all (.alt 20 (.take 21 .done) .stop))) .stop)) .stop))) (.alt 18 (.all (.alt 13 (.all (.alt 14 (.take 19 (.all (.alt 20 (.take 21 .done) .stop))) .stop)) .stop)) .stop))) (.alt 18 (.all (.alt 12 (.all (.alt 13 (.all (.alt 14 (.take 19 (.all (.alt 20 (.take 21 .done) .stop))) .stop)) .stop)) .stop)) .stop))) (.alt 18 (.all (.alt 11 (.all (.alt 12 (.all (.alt 13 (.all (.alt 14 (.take 19 (.all (.alt 20 (.take 21 .done) .stop))) .stop)) .stop)) .stop)) .stop)) .stop))) .stop))) .stop))) .stop))))) .stop)) (.alt 8 (.all (.alt 3 (.take 9 (.take 10 (.all (.alt 11 (.all (.alt 12 (.all (.alt 13 (.all (.alt 14 (.all (.alt 15 (.all (.alt 16 (.all (.alt 17 (.all (.alt 18 (.take 19 (.all (.alt 20 (.take 21 .done) .stop))) .stop)) .stop)) .stop)) .stop)) (.alt 15 (.all (.alt 14 (.all (.alt 16 (.all (.alt 17 (.all (.alt 18 (.take 19 (.all (.alt 20 (.take 21 .done) .stop))) .stop)) .stop)) .stop)) (.alt 16 (.all (.alt 14 (.all (.alt 17 (.all (.alt 18 (.take 19 (.all (.alt 20 (.take 21 .done) .stop))) .stop)) .stop)) (.alt 17 (.all (.alt 14 (.all (.alt 18 (.take 19 (.all (.alt 20 (.take 21 .done) .stop))) .stop)) (.alt 18 (.all (.alt 14 (.take 19 (.all (.alt 20 (.take 21 .done) .stop))) .stop)) .stop))) .stop))) .stop))) .stop))) (.alt 15 (.all (.alt 13 (.all (.alt 14 (.all (.alt 16 (.all (.alt 17 (.all (.alt 18 (.take 19 (.all (.alt 20 (.take 21 .done) .stop))) .stop)) .stop)) .stop)) (.alt 16 (.all (.alt 14 (.all (.alt 17 (.all (.alt 18 (.take 19 (.all (.alt 20 (.take 21 .done) .stop))) .stop)) .stop)) (.alt 17 (.all (.alt 14 (.all (.alt 18 (.take 19 (.all (.alt 20 (.take 21 .done) .stop))) .stop)) (.alt 18 (.all (.alt 14 (.take 19 (.all (.alt 20 (.take 21 .done) .stop))) .stop)) .stop))) .stop))) .stop))) (.alt 16 (.all (.alt 13 (.all (.alt 14 (.all (.alt 17 (.all (.alt 18 (.take 19 (.all (.alt 20 (.take 21 .done) .stop))) .stop)) .stop)) (.alt 17 (.all (.alt 14 (.all (.alt 18 (.take 19 (.all (.alt 20 (.take 21 .done) .stop))) .stop)) (.alt 18 (.all (.alt 14 (.take 19 (.all (.alt 20 (.take 21 .done) .stop))) .stop)) .stop))) .stop))) (.alt 17 (.all (.alt 13 (.all (.alt 14 (.all (.alt 18 (.take 19 (.all (.alt 20 (.take 21 .done) .stop))) .stop)) (.alt 18 (.all (.alt 14 (.take 19 (.all (.alt 20 (.take 21 .done) .stop))) .stop)) .stop))) (.alt 18 (.all (.alt 13 (.all (.alt 14 (.take 19 (.all (.alt 20 (.take 21 .done) .stop))) .stop)) .stop)) .stop))) .stop))) .stop))) .stop))) (.alt 15 (.all (.alt 12 (.all (.alt 13 (.all (.alt 14 (.all (.alt 16 (.all (.alt 17 (.all (.alt 18 (.take 19 (.all (.alt 20 (.take 21 .done) .stop))) .stop)) .stop)) .stop)) (.alt 16 (.all (.alt 14 (.all (.alt 17 (.all (.alt 18 (.take 19 (.all (.alt 20 (.take 21 .done) .stop))) .stop)) .stop)) (.alt 17 (.all (.alt 14 (.all (.alt 18 (.take 19 (.all (.alt 20 (.take 21 .done) .stop))) .stop)) (.alt 18 (.all (.alt 14 (.take 19 (.all (.alt 20 (.take 21 .done) .stop))) .stop)) .stop))) .stop))) .stop))) (.alt 16 (.all (.alt 13 (.all (.alt 14 (.all (.alt 17 (.all (.alt 18 (.take 19 (.all (.alt 20 (.take 21 .done) .stop))) .stop)) .stop)) (.alt 17 (.all (.alt 14 (.all (.alt 18 (.take 19 (.all (.alt 20 (.take 21 .done) .stop))) .stop)) (.alt 18 (.all (.alt 14 (.take 19 (.all (.alt 20 (.take 21 .done) .stop))) .stop)) .stop))) .stop))) (.alt 17 (.all (.alt 13 (.all (.alt 14 (.all (.alt 18 (.take 19 (.all (.alt 20 (.take 21 .done) .stop))) .stop)) (.alt 18 (.all (.alt 14 (.take 19 (.all (.alt 20 (.take 21 .done) .stop))) .stop)) .stop))) (.alt 18 (.all (.alt 13 (.all (.alt 14 (.take 19 (.all (.alt 20 (.take 21 .done) .stop))) .stop)) .stop)) .stop))) .stop))) .stop))) (.alt 16 (.all (.alt 12 (.all (.alt 13 (.all (.alt 14 (.all (.alt 17 (.all (.alt 18 (.take 19 (.all (.alt 20 (.take 21 .done) .stop))) .stop)) .stop)) (.alt 17 (.all (.alt 14 (.all (.alt 18 (.take 19 (.all (.alt 20 (.take 21 .done) .stop))) .stop)) (.alt 18 (.all (.alt 14 (.take 19 (.all (.alt 20 (.take 21 .done) .stop))) .stop)) .stop))) .stop))) (.alt 17 (.all (.alt 13 (.all (.alt 14 (.all (.alt 18 (.take 19 (.all (.alt 20 (.take 21 .done) .stop))) .stop)) (.alt 18 (.all (.alt 14 (.take 19 (.all (.alt 20 (.take 21 .done) .stop))) .stop)) .stop))) (.alt 18 (.all (.alt 13 (.all (.alt 14 (.take 19 (.all (.alt 20 (.take 21 .done) .stop))) .stop)) .stop)) .stop))) .stop))) (.alt 17 (.all (.alt 12 (.all (.alt 13 (.all (.alt 14 (.all (.alt 18 (.take 19 (.all (.alt 20 (.take 21 .done) .stop))) .stop)) (.alt 18 (.all (.alt 14 (.take 19 (.all (.alt 20 (.take 21 .done) .stop))) .stop)) .stop))) (.alt 18 (.all (.alt 13 (.all (.alt 14 (.take 19 (.all (.alt 20 (.take 21 .done) .stop))) .stop)) .stop)) .stop))) (.alt 18 (.all (.alt 12 (.all (.alt 13 (.all (.alt 14 (.take 19 (.all (.alt 20 (.take 21 .done) .stop))) .stop)) .stop)) .stop)) .stop))) .stop))) .stop))) .stop))) (.alt 15 (.all (.alt 11 (.all (.alt 12 (.all (.alt 13 (.all (.alt 14 (.all (.alt 16 (.all (.alt 17 (.all (.alt 18 (.take 19 (.all (.alt 20 (.take 21 .done) .stop))) .stop)) .stop)) .stop)) (.alt 16 (.all (.alt 14 (.all (.alt 17 (.all (.alt 18 (.take 19 (.all (.alt 20 (.take 21 .done) .stop))) .stop)) .stop)) (.alt 17 (.all (.alt 14 (.all (.alt 18 (.take 19 (.all (.alt 20 (.take 21 .done) .stop))) .stop)) (.alt 18 (.all (.alt 14 (.take 19 (.all (.alt 20 (.take 21 .done) .stop))) .stop)) .stop))) .stop))) .stop))) (.alt 16 (.all (.alt 13 (.all (.alt 14 (.all (.alt 17 (.all (.alt 18 (.take 19 (.all (.alt 20 (.take 21 .done) .stop))) .stop)) .stop)) (.alt 17 (.all (.alt 14 (.all (.alt 18 (.take 19 (.all (.alt 20 (.take 21 .done) .stop))) .stop)) (.alt 18 (.all (.alt 14 (.take 19 (.all (.alt 20 (.take 21 .done) .stop))) .stop)) .stop))) .stop))) (.alt 17 (.all (.alt 13 (.all (.alt 14 (.all (.alt 18 (.take 19 (.all (.alt 20 (.take 21 .done) .stop))) .stop)) (.alt 18 (.all (.alt 14 (.take 19 (.all (.alt 20 (.take 21 .done) .stop))) .stop)) .stop))) (.alt 18 (.all (.alt 13 (.all (.alt 14 (.take 19 (.all (.alt 20 (.take 21 .done) .stop))) .stop)) .stop)) .stop))) .stop))) .stop))) (.alt 16 (.all (.alt 12 (.all (.alt 13 (.all (.alt 14 (.all (.alt 17 (.all (.alt 18 (.take 19 (.all (.alt 20 (.take 21 .done) .stop))) .stop)) .stop)) (.alt 17 (.all (.alt 14 (.all (.alt 18 (.take 19 (.all (.alt 20 (.take 21 .done) .stop))) .stop)) (.alt 18 (.all (.alt 14 (.take 19 (.all (.alt 20 (.take 21 .done) .stop))) .stop)) .stop))) .stop))) (.alt 17 (.all (.alt 13 (.all (.alt 14 (.all (.alt 18 (.take 19 (.all (.alt 20 (.take 21 .done) .stop))) .stop)) (.alt 18 (.all (.alt 14 (.take 19 (.all (.alt 20 (.take 21 .done) .stop))) .stop)) .stop))) (.alt 18 (.all (.alt 13 (.all (.alt 14 (.take 19 (.all (.alt 20 (.take 21 .done) .stop))) .stop)) .stop)) .stop))) .stop))) (.alt 17 (.all (.alt 12 (.all (.alt 13 (.all (.alt 14 (.all (.alt 18 (.take 19 (.all (.alt 20 (.take 21 .done) .stop))) .stop)) (.alt 18 (.all (.alt 14 (.take 19 (.all (.alt 20 (.take 21 .done) .stop))) .stop)) .stop))) (.alt 18 (.all (.alt 13 (.all (.alt 14 (.take 19 (.all (.alt 20 (.take 21 .done) .stop))) .stop)) .stop)) .stop))) (.alt 18 (.all (.alt 12 (.all (.alt 13 (.all (.alt 14 (.take 19 (.all (.alt 20 (.take 21 .done) .stop))) .stop)) .stop)) .stop)) .stop))) .stop))) .stop))) (.alt 16 (.all (.alt 11 (.all (.alt 12 (.all (.alt 13 (.all (.alt 14 (.all (.alt 17 (.all (.alt 18 (.take 19 (.all (.alt 20 (.take 21 .done) .stop))) .stop)) .stop)) (.alt 17 (.all (.alt 14 (.all (.alt 18 (.take 19 (.all (.alt 20 (.take 21 .done) .stop))) .stop)) (.alt 18 (.all (.alt 14 (.take 19 (.all (.alt 20 (.take 21 .done) .stop))) .stop)) .stop))) .stop))) (.alt 17 (.all (.alt 13 (.all (.alt 14 (.all (.alt 18 (.take 19 (.all (.alt 20 (.take 21 .done) .stop))) .stop)) (.alt 18 (.all (.alt 14 (.take 19 (.all (.alt 20 (.take 21 .done) .stop))) .stop)) .stop))) (.alt 18 (.all (.alt 13 (.all (.alt 14 (.take 19 (.all (.alt 20 (.take 21 .done) .stop))) .stop)) .stop)) .stop))) .stop))) (.alt 17 (.all (.alt 12 (.all (.alt 13 (.all (.alt 14 (.all (.alt 18 (.take 19 (.all (.alt 20 (.take 21 .done) .stop))) .stop)) (.alt 18 (.all (.alt 14 (.take 19 (.all (.alt 20 (.take 21 .done) .stop))) .stop)) .stop))) (.alt 18 (.all (.alt 13 (.all (.alt 14 (.take 19 (.all (.alt 20 (.take 21 .done) .stop))) .stop)) .stop)) .stop))) (.alt 18 (.all (.alt 12 (.all (.alt 13 (.all (.alt 14 (.take 19 (.all (.alt 20 (.take 21 .done) .stop))) .stop)) .stop)) .stop)) .stop))) .stop))) (.alt 17 (.all (.alt 11 (.all (.alt 12 (.all (.alt 13 (.all (.alt 14 (.all (.alt 18 (.take 19 (.all (.alt 20 (.take 21 .done) .stop))) .stop)) (.alt 18 (.all (.alt 14 (.take 19 (.all (.alt 20 (.take 21 .done) .stop))) .stop)) .stop))) (.alt 18 (.all (.alt 13 (.all (.alt 14 (.take 19 (.all (.alt 20 (.take 21 .done) .stop))) .stop)) .stop)) .stop))) (.alt 18 (.all (.alt 12 (.all (.alt 13 (.all (.alt 14 (.take 19 (.all (.alt 20 (.take 21 .done) .stop))) .stop)) .stop)) .stop)) .stop))) (.alt 18 (.all (.alt 11 (.all (.alt 12 (.all (.alt 13 (.all (.alt 14 (.take 19 (.all (.alt 20 (.take 21 .done) .stop))) .stop)) .stop)) .stop)) .stop)) .stop))) .stop))) .stop))) .stop))))) .stop)) .stop))) .stop))))))))) ([0,1,2,4,0,16,32,64,128,264,512,1024,3072,5120,9216,1024,33792,66560,132096,279552,525312,1049600],[0,1,2,4,0,16,32,64,128,264,512,1024,3072,5120,9216,1024,33792,66560,132096,279552,525312,1049600]) 2623095 [(20,{ res:=.d (.v (.bool y1)) })] [0,3,29,1000000] [] [(0,.bp 1000000 0),(3,.d (.v (.int .i64 c1))),(29,.d (.v (.bool (bif (decide (v1 < (c0.length:Int))) then y1 else false)))),(1000000,.box [.d (.str c0),.d (.v (.int .i64 v1))])] ((fun (o11:Prop)=>fun (o12:Prop)=>fun (o13:Prop)=>fun (o14:Prop)=>fun (o15:Prop)=>fun (o16:Prop)=>fun (o17:Prop)=>fun (o18:Prop)=>fun (o19:Prop)=>fun (o20:Prop)=>[(11,o11),(0,o12),(0,o13),(0,o14),(0,o15),(0,o16),(0,o17),(0,o18),(0,o19),(0,o20),(1,o15),(0,o14),(0,o16),(0,o17),(0,o18),(0,o19),(0,o20),(1,o16),(0,o14),(0,o17),(0,o18),(0,o19),(0,o20),(1,o17),(0,o14),(0,o18),(0,o19),(0,o20),(1,o18),(0,o14),(0,o19),(0,o20),(1,o15),(0,o13),(0,o14),(0,o16),(0,o17),(0,o18),(0,o19),(0,o20),(1,o16),(0,o14),(0,o17),(0,o18),(0,o19),(0,o20),(1,o17),(0,o14),(0,o18),(0,o19),(0,o20),(1,o18),(0,o14),(0,o19),(0,o20),(1,o16),(0,o13),(0,o14),(0,o17),(0,o18),(0,o19),(0,o20),(1,o17),(0,o14),(0,o18),(0,o19),(0,o20),(1,o18),(0,o14),(0,o19),(0,o20),(1,o17),(0,o13),(0,o14),(0,o18),(0,o19),(0,o20),(1,o18),(0,o14),(0,o19),(0,o20),(1,o18),(0,o13),(0,o14),(0,o19),(0,o20),(1,o15),(0,o12),(0,o13),(0,o14),(0,o16),(0,o17),(0,o18),(0,o19),(0,o20),(1,o16),(0,o14),(0,o17),(0,o18),(0,o19),(0,o20),(1,o17),(0,o14),(0,o18),(0,o19),(0,o20),(1,o18),(0,o14),(0,o19),(0,o20),(1,o16),(0,o13),(0,o14),(0,o17),(0,o18),(0,o19),(0,o20),(1,o17),(0,o14),(0,o18),(0,o19),(0,o20),(1,o18),(0,o14),(0,o19),(0,o20),(1,o17),(0,o13),(0,o14),(0,o18),(0,o19),(0,o20),(1,o18),(0,o14),(0,o19),(0,o20),(1,o18),(0,o13),(0,o14),(0,o19),(0,o20),(1,o16),(0,o12),(0,o13),(0,o14),(0,o17),(0,o18),(0,o19),(0,o20),(1,o17),(0,o14),(0,o18),(0,o19),(0,o20),(1,o18),(0,o14),(0,o19),(0,o20),(1,o17),(0,o13),(0,o14),(0,o18),(0,o19),(0,o20),(1,o18),(0,o14),(0,o19),(0,o20),(1,o18),(0,o13),(0,o14),(0,o19),(0,o20),(1,o17),(0,o12),(0,o13),(0,o14),(0,o18),(0,o19),(0,o20),(1,o18),(0,o14),(0,o19),(0,o20),(1,o18),(0,o13),(0,o14),(0,o19),(0,o20),(1,o18),(0,o12),(0,o13),(0,o14),(0,o19),(0,o20),(1,o15),(0,o11),(0,o12),(0,o13),(0,o14),(0,o16),(0,o17),(0,o18),(0,o19),(0,o20),(1,o16),(0,o14),(0,o17),(0,o18),(0,o19),(0,o20),(1,o17),(0,o14),(0,o18),(0,o19),(0,o20),(1,o18),(0,o14),(0,o19),(0,o20),(1,o16),(0,o13),(0,o14),(0,o17),(0,o18),(0,o19),(0,o20),(1,o17),(0,o14),(0,o18),(0,o19),(0,o20),(1,o18),(0,o14),(0,o19),(0,o20),(1,o17),(0,o13),(0,o14),(0,o18),(0,o19),(0,o20),(1,o18),(0,o14),(0,o19),(0,o20),(1,o18),(0,o13),(0,o14),(0,o19),(0,o20),(1,o16),(0,o12),(0,o13),(0,o14),(0,o17),(0,o18),(0,o19),(0,o20),(1,o17),(0,o14),(0,o18),(0,o19),(0,o20),(1,o18),(0,o14),(0,o19),(0,o20),(1,o17),(0,o13),(0,o14),(0,o18),(0,o19),(0,o20),(1,o18),(0,o14),(0,o19),(0,o20),(1,o18),(0,o13),(0,o14),(0,o19),(0,o20),(1,o17),(0,o12),(0,o13),(0,o14),(0,o18),(0,o19),(0,o20),(1,o18),(0,o14),(0,o19),(0,o20),(1,o18),(0,o13),(0,o14),(0,o19),(0,o20),(1,o18),(0,o12),(0,o13),(0,o14),(0,o19),(0,o20),(1,o16),(0,o11),(0,o12),(0,o13),(0,o14),(0,o17),(0,o18),(0,o19),(0,o20),(1,o17),(0,o14),(0,o18),(0,o19),(0,o20),(1,o18),(0,o14),(0,o19),(0,o20),(1,o17),(0,o13),(0,o14),(0,o18),(0,o19),(0,o20),(1,o18),(0,o14),(0,o19),(0,o20),(1,o18),(0,o13),(0,o14),(0,o19),(0,o20),(1,o17),(0,o12),(0,o13),(0,o14),(0,o18),(0,o19),(0,o20),(1,o18),(0,o14),(0,o19),(0,o20),(1,o18),(0,o13),(0,o14),(0,o19),(0,o20),(1,o18),(0,o12),(0,o13),(0,o14),(0,o19),(0,o20),(1,o17),(0,o11),(0,o12),(0,o13),(0,o14),(0,o18),(0,o19),(0,o20),(1,o18),(0,o14),(0,o19),(0,o20),(1,o18),(0,o13),(0,o14),(0,o19),(0,o20),(1,o18),(0,o12),(0,o13),(0,o14),(0,o19),(0,o20),(1,o18),(0,o11),(0,o12),(0,o13),(0,o14),(0,o19),(0,o20),(6,o11),(0,o12),(0,o13),(0,o14),(0,o15),(0,o16),(0,o17),(0,o18),(0,o19),(0,o20),(1,o15),(0,o14),(0,o16),(0,o17),(0,o18),(0,o19),(0,o20),(1,o16),(0,o14),(0,o17),(0,o18),(0,o19),(0,o20),(1,o17),(0,o14),(0,o18),(0,o19),(0,o20),(1,o18),(0,o14),(0,o19),(0,o20),(1,o15),(0,o13),(0,o14),(0,o16),(0,o17),(0,o18),(0,o19),(0,o20),(1,o16),(0,o14),(0,o17),(0,o18),(0,o19),(0,o20),(1,o17),(0,o14),(0,o18),(0,o19),(0,o20),(1,o18),(0,o14),(0,o19),(0,o20),(1,o16),(0,o13),(0,o14),(0,o17),(0,o18),(0,o19),(0,o20),(1,o17),(0,o14),(0,o18),(0,o19),(0,o20),(1,o18),(0,o14),(0,o19),(0,o20),(1,o17),(0,o13),(0,o14),(0,o18),(0,o19),(0,o20),(1,o18),(0,o14),(0,o19),(0,o20),(1,o18),(0,o13),(0,o14),(0,o19),(0,o20),(1,o15),(0,o12),(0,o13),(0,o14),(0,o16),(0,o17),(0,o18),(0,o19),(0,o20),(1,o16),(0,o14),(0,o17),(0,o18),(0,o19),(0,o20),(1,o17),(0,o14),(0,o18),(0,o19),(0,o20),(1,o18),(0,o14),(0,o19),(0,o20),(1,o16),(0,o13),(0,o14),(0,o17),(0,o18),(0,o19),(0,o20),(1,o17),(0,o14),(0,o18),(0,o19),(0,o20),(1,o18),(0,o14),(0,o19),(0,o20),(1,o17),(0,o13),(0,o14),(0,o18),(0,o19),(0,o20),(1,o18),(0,o14),(0,o19),(0,o20),(1,o18),(0,o13),(0,o14),(0,o19),(0,o20),(1,o16),(0,o12),(0,o13),(0,o14),(0,o17),(0,o18),(0,o19),(0,o20),(1,o17),(0,o14),(0,o18),(0,o19),(0,o20),(1,o18),(0,o14),(0,o19),(0,o20),(1,o17),(0,o13),(0,o14),(0,o18),(0,o19),(0,o20),(1,o18),(0,o14),(0,o19),(0,o20),(1,o18),(0,o13),(0,o14),(0,o19),(0,o20),(1,o17),(0,o12),(0,o13),(0,o14),(0,o18),(0,o19),(0,o20),(1,o18),(0,o14),(0,o19),(0,o20),(1,o18),(0,o13),(0,o14),(0,o19),(0,o20),(1,o18),(0,o12),(0,o13),(0,o14),(0,o19),(0,o20),(1,o15),(0,o11),(0,o12),(0,o13),(0,o14),(0,o16),(0,o17),(0,o18),(0,o19),(0,o20),(1,o16),(0,o14),(0,o17),(0,o18),(0,o19),(0,o20),(1,o17),(0,o14),(0,o18),(0,o19),(0,o20),(1,o18),(0,o14),(0,o19),(0,o20),(1,o16),(0,o13),(0,o14),(0,o17),(0,o18),(0,o19),(0,o20),(1,o17),(0,o14),(0,o18),(0,o19),(0,o20),(1,o18),(0,o14),(0,o19),(0,o20),(1,o17),(0,o13),(0,o14),(0,o18),(0,o19),(0,o20),(1,o18),(0,o14),(0,o19),(0,o20),(1,o18),(0,o13),(0,o14),(0,o19),(0,o20),(1,o16),(0,o12),(0,o13),(0,o14),(0,o17),(0,o18),(0,o19),(0,o20),(1,o17),(0,o14),(0,o18),(0,o19),(0,o20),(1,o18),(0,o14),(0,o19),(0,o20),(1,o17),(0,o13),(0,o14),(0,o18),(0,o19),(0,o20),(1,o18),(0,o14),(0,o19),(0,o20),(1,o18),(0,o13),(0,o14),(0,o19),(0,o20),(1,o17),(0,o12),(0,o13),(0,o14),(0,o18),(0,o19),(0,o20),(1,o18),(0,o14),(0,o19),(0,o20),(1,o18),(0,o13),(0,o14),(0,o19),(0,o20),(1,o18),(0,o12),(0,o13),(0,o14),(0,o19),(0,o20),(1,o16),(0,o11),(0,o12),(0,o13),(0,o14),(0,o17),(0,o18),(0,o19),(0,o20),(1,o17),(0,o14),(0,o18),(0,o19),(0,o20),(1,o18),(0,o14),(0,o19),(0,o20),(1,o17),(0,o13),(0,o14),(0,o18),(0,o19),(0,o20),(1,o18),(0,o14),(0,o19),(0,o20),(1,o18),(0,o13),(0,o14),(0,o19),(0,o20),(1,o17),(0,o12),(0,o13),(0,o14),(0,o18),(0,o19),(0,o20),(1,o18),(0,o14),(0,o19),(0,o20),(1,o18),(0,o13),(0,o14),(0,o19),(0,o20),(1,o18),(0,o12),(0,o13),(0,o14),(0,o19),(0,o20),(1,o17),(0,o11),(0,o12),(0,o13),(0,o14),(0,o18),(0,o19),(0,o20),(1,o18),(0,o14),(0,o19),(0,o20),(1,o18),(0,o13),(0,o14),(0,o19),(0,o20),(1,o18),(0,o12),(0,o13),(0,o14),(0,o19),(0,o20),(1,o18),(0,o11),(0,o12),(0,o13),(0,o14),(0,o19),(0,o20),(5,o11),(0,o12),(0,o13),(0,o14),(0,o15),(0,o16),(0,o17),(0,o18),(0,o19),(0,o20),(1,o15),(0,o14),(0,o16),(0,o17),(0,o18),(0,o19),(0,o20),(1,o16),(0,o14),(0,o17),(0,o18),(0,o19),(0,o20),(1,o17),(0,o14),(0,o18),(0,o19),(0,o20),(1,o18),(0,o14),(0,o19),(0,o20),(1,o15),(0,o13),(0,o14),(0,o16),(0,o17),(0,o18),(0,o19),(0,o20),(1,o16),(0,o14),(0,o17),(0,o18),(0,o19),(0,o20),(1,o17),(0,o14),(0,o18),(0,o19),(0,o20),(1,o18),(0,o14),(0,o19),(0,o20),(1,o16),(0,o13),(0,o14),(0,o17),(0,o18),(0,o19),(0,o20),(1,o17),(0,o14),(0,o18),(0,o19),(0,o20),(1,o18),(0,o14),(0,o19),(0,o20),(1,o17),(0,o13),(0,o14),(0,o18),(0,o19),(0,o20),(1,o18),(0,o14),(0,o19),(0,o20),(1,o18),(0,o13),(0,o14),(0,o19),(0,o20),(1,o15),(0,o12),(0,o13),(0,o14),(0,o16),(0,o17),(0,o18),(0,o19),(0,o20),(1,o16),(0,o14),(0,o17),(0,o18),(0,o19),(0,o20),(1,o17),(0,o14),(0,o18),(0,o19),(0,o20),(1,o18),(0,o14),(0,o19),(0,o20),(1,o16),(0,o13),(0,o14),(0,o17),(0,o18),(0,o19),(0,o20),(1,o17),(0,o14),(0,o18),(0,o19),(0,o20),(1,o18),(0,o14),(0,o19),(0,o20),(1,o17),(0,o13),(0,o14),(0,o18),(0,o19),(0,o20),(1,o18),(0,o14),(0,o19),(0,o20),(1,o18),(0,o13),(0,o14),(0,o19),(0,o20),(1,o16),(0,o12),(0,o13),(0,o14),(0,o17),(0,o18),(0,o19),(0,o20),(1,o17),(0,o14),(0,o18),(0,o19),(0,o20),(1,o18),(0,o14),(0,o19),(0,o20),(1,o17),(0,o13),(0,o14),(0,o18),(0,o19),(0,o20),(1,o18),(0,o14),(0,o19),(0,o20),(1,o18),(0,o13),(0,o14),(0,o19),(0,o20),(1,o17),(0,o12),(0,o13),(0,o14),(0,o18),(0,o19),(0,o20),(1,o18),(0,o14),(0,o19),(0,o20),(1,o18),(0,o13),(0,o14),(0,o19),(0,o20),(1,o18),(0,o12),(0,o13),(0,o14),(0,o19),(0,o20),(1,o15),(0,o11),(0,o12),(0,o13),(0,o14),(0,o16),(0,o17),(0,o18),(0,o19),(0,o20),(1,o16),(0,o14),(0,o17),(0,o18),(0,o19),(0,o20),(1,o17),(0,o14),(0,o18),(0,o19),(0,o20),(1,o18),(0,o14),(0,o19),(0,o20),(1,o16),(0,o13),(0,o14),(0,o17),(0,o18),(0,o19),(0,o20),(1,o17),(0,o14),(0,o18),(0,o19),(0,o20),(1,o18),(0,o14),(0,o19),(0,o20),(1,o17),(0,o13),(0,o14),(0,o18),(0,o19),(0,o20),(1,o18),(0,o14),(0,o19),(0,o20),(1,o18),(0,o13),(0,o14),(0,o19),(0,o20),(1,o16),(0,o12),(0,o13),(0,o14),(0,o17),(0,o18),(0,o19),(0,o20),(1,o17),(0,o14),(0,o18),(0,o19),(0,o20),(1,o18),(0,o14),(0,o19),(0,o20),(1,o17),(0,o13),(0,o14),(0,o18),(0,o19),(0,o20),(1,o18),(0,o14),(0,o19),(0,o20),(1,o18),(0,o13),(0,o14),(0,o19),(0,o20),(1,o17),(0,o12),(0,o13),(0,o14),(0,o18),(0,o19),(0,o20),(1,o18),(0,o14),(0,o19),(0,o20),(1,o18),(0,o13),(0,o14),(0,o19),(0,o20),(1,o18),(0,o12),(0,o13),(0,o14),(0,o19),(0,o20),(1,o16),(0,o11),(0,o12),(0,o13),(0,o14),(0,o17),(0,o18),(0,o19),(0,o20),(1,o17),(0,o14),(0,o18),(0,o19),(0,o20),(1,o18),(0,o14),(0,o19),(0,o20),(1,o17),(0,o13),(0,o14),(0,o18),(0,o19),(0,o20),(1,o18),(0,o14),(0,o19),(0,o20),(1,o18),(0,o13),(0,o14),(0,o19),(0,o20),(1,o17),(0,o12),(0,o13),(0,o14),(0,o18),(0,o19),(0,o20),(1,o18),(0,o14),(0,o19),(0,o20),(1,o18),(0,o13),(0,o14),(0,o19),(0,o20),(1,o18),(0,o12),(0,o13),(0,o14),(0,o19),(0,o20),(1,o17),(0,o11),(0,o12),(0,o13),(0,o14),(0,o18),(0,o19),(0,o20),(1,o18),(0,o14),(0,o19),(0,o20),(1,o18),(0,o13),(0,o14),(0,o19),(0,o20),(1,o18),(0,o12),(0,o13),(0,o14),(0,o19),(0,o20),(1,o18),(0,o11),(0,o12),(0,o13),(0,o14),(0,o19),(0,o20)]) (((((decide (v1 < (c0.length:Int))) == true) && true)=true→True)) (((((decide (v1 < (c0.length:Int))) == true) && true)=true→True)) (((((decide (v1 < (c0.length:Int))) == true) && true)=true→True)) (((((decide (v1 < (c0.length:Int))) == true) && true)=true→True)) (((((decide (v1 < (c0.length:Int))) == true) && true)=true→True)) (((((decide (v1 < (c0.length:Int))) == true) && true)=true→True)) (((((decide (v1 < (c0.length:Int))) == true) && true)=true→True)) (((((decide (v1 < (c0.length:Int))) == true) && true)=true→True)) (((((decide (v1 < (c0.length:Int))) == true) && true)=true→0≤v1∧v1 < c0.length)) (((((decide (v1 < (c0.length:Int))) == true) && true)=true→ACall Tryz.prog 49 [.d (.v (.int .u8 ((c0.getD v1.toNat 0).toNat:Int)))] [] (.d (.v (.bool y1))) []))) 1 (by kernel_rfl) (by kernel_rfl) (by kernel_rfl) (have p11:=(fun hg=>trivial); have p12:=(fun hg=>trivial); have p13:=(fun hg=>trivial); have p14:=(fun hg=>trivial); have p15:=(fun hg=>trivial); have p16:=(fun hg=>trivial); have p17:=(fun hg=>trivial); have p18:=(fun hg=>trivial); have p19:=(fun hg=>(hp1 hg)); have p20:=(fun hg=>token_regular_ok (gcall_ok hg hy1)); ⟨p11,p12,p13,p14,p15,p16,p17,p18,p19,p20,p15,p14,p16,p17,p18,p19,p20,p16,p14,p17,p18,p19,p20,p17,p14,p18,p19,p20,p18,p14,p19,p20,p15,p13,p14,p16,p17,p18,p19,p20,p16,p14,p17,p18,p19,p20,p17,p14,p18,p19,p20,p18,p14,p19,p20,p16,p13,p14,p17,p18,p19,p20,p17,p14,p18,p19,p20,p18,p14,p19,p20,p17,p13,p14,p18,p19,p20,p18,p14,p19,p20,p18,p13,p14,p19,p20,p15,p12,p13,p14,p16,p17,p18,p19,p20,p16,p14,p17,p18,p19,p20,p17,p14,p18,p19,p20,p18,p14,p19,p20,p16,p13,p14,p17,p18,p19,p20,p17,p14,p18,p19,p20,p18,p14,p19,p20,p17,p13,p14,p18,p19,p20,p18,p14,p19,p20,p18,p13,p14,p19,p20,p16,p12,p13,p14,p17,p18,p19,p20,p17,p14,p18,p19,p20,p18,p14,p19,p20,p17,p13,p14,p18,p19,p20,p18,p14,p19,p20,p18,p13,p14,p19,p20,p17,p12,p13,p14,p18,p19,p20,p18,p14,p19,p20,p18,p13,p14,p19,p20,p18,p12,p13,p14,p19,p20,p15,p11,p12,p13,p14,p16,p17,p18,p19,p20,p16,p14,p17,p18,p19,p20,p17,p14,p18,p19,p20,p18,p14,p19,p20,p16,p13,p14,p17,p18,p19,p20,p17,p14,p18,p19,p20,p18,p14,p19,p20,p17,p13,p14,p18,p19,p20,p18,p14,p19,p20,p18,p13,p14,p19,p20,p16,p12,p13,p14,p17,p18,p19,p20,p17,p14,p18,p19,p20,p18,p14,p19,p20,p17,p13,p14,p18,p19,p20,p18,p14,p19,p20,p18,p13,p14,p19,p20,p17,p12,p13,p14,p18,p19,p20,p18,p14,p19,p20,p18,p13,p14,p19,p20,p18,p12,p13,p14,p19,p20,p16,p11,p12,p13,p14,p17,p18,p19,p20,p17,p14,p18,p19,p20,p18,p14,p19,p20,p17,p13,p14,p18,p19,p20,p18,p14,p19,p20,p18,p13,p14,p19,p20,p17,p12,p13,p14,p18,p19,p20,p18,p14,p19,p20,p18,p13,p14,p19,p20,p18,p12,p13,p14,p19,p20,p17,p11,p12,p13,p14,p18,p19,p20,p18,p14,p19,p20,p18,p13,p14,p19,p20,p18,p12,p13,p14,p19,p20,p18,p11,p12,p13,p14,p19,p20,p11,p12,p13,p14,p15,p16,p17,p18,p19,p20,p15,p14,p16,p17,p18,p19,p20,p16,p14,p17,p18,p19,p20,p17,p14,p18,p19,p20,p18,p14,p19,p20,p15,p13,p14,p16,p17,p18,p19,p20,p16,p14,p17,p18,p19,p20,p17,p14,p18,p19,p20,p18,p14,p19,p20,p16,p13,p14,p17,p18,p19,p20,p17,p14,p18,p19,p20,p18,p14,p19,p20,p17,p13,p14,p18,p19,p20,p18,p14,p19,p20,p18,p13,p14,p19,p20,p15,p12,p13,p14,p16,p17,p18,p19,p20,p16,p14,p17,p18,p19,p20,p17,p14,p18,p19,p20,p18,p14,p19,p20,p16,p13,p14,p17,p18,p19,p20,p17,p14,p18,p19,p20,p18,p14,p19,p20,p17,p13,p14,p18,p19,p20,p18,p14,p19,p20,p18,p13,p14,p19,p20,p16,p12,p13,p14,p17,p18,p19,p20,p17,p14,p18,p19,p20,p18,p14,p19,p20,p17,p13,p14,p18,p19,p20,p18,p14,p19,p20,p18,p13,p14,p19,p20,p17,p12,p13,p14,p18,p19,p20,p18,p14,p19,p20,p18,p13,p14,p19,p20,p18,p12,p13,p14,p19,p20,p15,p11,p12,p13,p14,p16,p17,p18,p19,p20,p16,p14,p17,p18,p19,p20,p17,p14,p18,p19,p20,p18,p14,p19,p20,p16,p13,p14,p17,p18,p19,p20,p17,p14,p18,p19,p20,p18,p14,p19,p20,p17,p13,p14,p18,p19,p20,p18,p14,p19,p20,p18,p13,p14,p19,p20,p16,p12,p13,p14,p17,p18,p19,p20,p17,p14,p18,p19,p20,p18,p14,p19,p20,p17,p13,p14,p18,p19,p20,p18,p14,p19,p20,p18,p13,p14,p19,p20,p17,p12,p13,p14,p18,p19,p20,p18,p14,p19,p20,p18,p13,p14,p19,p20,p18,p12,p13,p14,p19,p20,p16,p11,p12,p13,p14,p17,p18,p19,p20,p17,p14,p18,p19,p20,p18,p14,p19,p20,p17,p13,p14,p18,p19,p20,p18,p14,p19,p20,p18,p13,p14,p19,p20,p17,p12,p13,p14,p18,p19,p20,p18,p14,p19,p20,p18,p13,p14,p19,p20,p18,p12,p13,p14,p19,p20,p17,p11,p12,p13,p14,p18,p19,p20,p18,p14,p19,p20,p18,p13,p14,p19,p20,p18,p12,p13,p14,p19,p20,p18,p11,p12,p13,p14,p19,p20,p11,p12,p13,p14,p15,p16,p17,p18,p19,p20,p15,p14,p16,p17,p18,p19,p20,p16,p14,p17,p18,p19,p20,p17,p14,p18,p19,p20,p18,p14,p19,p20,p15,p13,p14,p16,p17,p18,p19,p20,p16,p14,p17,p18,p19,p20,p17,p14,p18,p19,p20,p18,p14,p19,p20,p16,p13,p14,p17,p18,p19,p20,p17,p14,p18,p19,p20,p18,p14,p19,p20,p17,p13,p14,p18,p19,p20,p18,p14,p19,p20,p18,p13,p14,p19,p20,p15,p12,p13,p14,p16,p17,p18,p19,p20,p16,p14,p17,p18,p19,p20,p17,p14,p18,p19,p20,p18,p14,p19,p20,p16,p13,p14,p17,p18,p19,p20,p17,p14,p18,p19,p20,p18,p14,p19,p20,p17,p13,p14,p18,p19,p20,p18,p14,p19,p20,p18,p13,p14,p19,p20,p16,p12,p13,p14,p17,p18,p19,p20,p17,p14,p18,p19,p20,p18,p14,p19,p20,p17,p13,p14,p18,p19,p20,p18,p14,p19,p20,p18,p13,p14,p19,p20,p17,p12,p13,p14,p18,p19,p20,p18,p14,p19,p20,p18,p13,p14,p19,p20,p18,p12,p13,p14,p19,p20,p15,p11,p12,p13,p14,p16,p17,p18,p19,p20,p16,p14,p17,p18,p19,p20,p17,p14,p18,p19,p20,p18,p14,p19,p20,p16,p13,p14,p17,p18,p19,p20,p17,p14,p18,p19,p20,p18,p14,p19,p20,p17,p13,p14,p18,p19,p20,p18,p14,p19,p20,p18,p13,p14,p19,p20,p16,p12,p13,p14,p17,p18,p19,p20,p17,p14,p18,p19,p20,p18,p14,p19,p20,p17,p13,p14,p18,p19,p20,p18,p14,p19,p20,p18,p13,p14,p19,p20,p17,p12,p13,p14,p18,p19,p20,p18,p14,p19,p20,p18,p13,p14,p19,p20,p18,p12,p13,p14,p19,p20,p16,p11,p12,p13,p14,p17,p18,p19,p20,p17,p14,p18,p19,p20,p18,p14,p19,p20,p17,p13,p14,p18,p19,p20,p18,p14,p19,p20,p18,p13,p14,p19,p20,p17,p12,p13,p14,p18,p19,p20,p18,p14,p19,p20,p18,p13,p14,p19,p20,p18,p12,p13,p14,p19,p20,p17,p11,p12,p13,p14,p18,p19,p20,p18,p14,p19,p20,p18,p13,p14,p19,p20,p18,p12,p13,p14,p19,p20,p18,p11,p12,p13,p14,p19,p20⟩) ?_
    refine T_cond (bif (decide (v1 < (c0.length:Int))) then y1 else false) (by kernel_rfl) (fun hc=>?_) (fun hc=>?_)
    · have h:=cond_tt hc h
      refine T_skip fun a w hm=>then_norm (((?_:T Tryz.prog e 47 _ _ _) a w hm))
      refine T_block ?_
      refine T_reg_end [] [0,3,1000000] [(1000000,.box [.d (.str c0),.d (.v (.int .i64 (IntKind.i64.wrap (v1+(1:Int)))))])] [] 8 (by kernel_rfl) (trivial) fun a w hm=>inBlock_norm (then_norm (⟨IntKind.i64.wrap (v1+(1:Int)),h,hm.co (cs:=[.keep [0,3,1000000]]) (by show _=_; kernel_rfl)⟩))
    · have h:=cond_ff hc h
      obtain hs:=Option.some.inj h; subst hs
      refine T_exit fun a w hm=>then_exit (then_exit (inBlock_exit (then_norm (hm.co (cs:=[.keep [0,3,1000000]]) (by show _=_; kernel_rfl)))))
  · skip
    obtain ⟨hp2,h⟩:=chk_ok h
    refine T_draw mixed [] [2,1000000] [] [(2,.d (.str ((c0.drop c1.toNat).take (v2.toNat - c1.toNat)))),(1000000,.box [.d (.str c0),.d (.v (.int .i64 v2))])] [(9,0≤c1∧c1≤v2∧v2≤(c0.length:Int))] 1 (by kernel_rfl) (hp2) ?_
    obtain hs:=Option.some.inj h; subst hs
    refine T_ret fun a w hm=>T_return (fr':=[(2,.d (.str ((c0.drop c1.toNat).take (v2.toNat - c1.toNat)))),(1000000,.box [.d (.str c0),.d (.v (.int .i64 v2))])]) [2] (by kernel_rfl) [.keep [2,1000000]] (by kernel_rfl) (by kernel_rfl) (by kernel_rfl) (by show _=_; kernel_rfl) (by exact ⟨⟨by kernel_rfl,by kernel_rfl⟩,trivial⟩) a w hm
theorem token_integer_c1_ok {F:Nat} {a0:Int} {r:Bool} (h:token_integer_c1 F a0=some r):ACall Tryz.prog 122 [.d (.v (.int .i32 a0))] [] (.d (.v (.bool r))) []:=by
  rw [token_integer_c1] at h
  refine ACall.intro (N:=9) Tryz.func122 rfl rfl rfl rfl rfl fun e=>?_
  refine T_reg [] [0] [] [] 1 (by kernel_rfl) (trivial) ?_
  refine T_reg [] [2] [(2,.d (.v (.bool (bif (decide (a0 < (48:Int))) then true else (decide (a0 > (57:Int)))))))] [(3,((((decide (a0 < (48:Int))) == false) && true)=true→True)),(0,((((decide (a0 < (48:Int))) == false) && true)=true→True))] 2 (by kernel_rfl) (⟨(fun hg=>trivial),(fun hg=>trivial)⟩) ?_
  obtain hs:=Option.some.inj h; subst hs
  refine T_ret fun a w hm=>T_return (fr':=[(2,.d (.v (.bool (bif (decide (a0 < (48:Int))) then true else (decide (a0 > (57:Int)))))))]) [2] (by kernel_rfl) [.keep [2]] (by kernel_rfl) (by kernel_rfl) (by kernel_rfl) (by show _=_; kernel_rfl) (by exact trivial) a w hm
theorem token_integer_ok {F:Nat} {a0:List UInt8} {r:Int×Int} (h:token_integer F a0=some r):ACall Tryz.prog 108 [.d (.str a0)] [] (.tup [.d (.v (.int .i64 r.1)),.d (.v (.int .i64 r.2))]) []:=by
  rw [token_integer] at h
  refine ACall.intro (N:=41) Tryz.func108 rfl rfl rfl rfl rfl fun e=>?_
  refine T_reg [] [0] [] [] 2 (by kernel_rfl) (trivial) ?_
  refine T_reg [] [0,4] [(4,.d (.str a0))] [] 2 (by kernel_rfl) (trivial) ?_
  refine T_joinc h (fun (p:(List UInt8))=>[(0,.d (.str a0)),(4,.d (.str p))]) (fun s h=>?_) (fun v1 h=>?_)
  · obtain ⟨hp1,h⟩:=chk_ok h
    obtain ⟨hp2,h⟩:=chk_ok h
    obtain ⟨z1,hz1,h⟩:=lett_ok h
    refine T_reg [(7,{ rw:=some (.d (.v (.bool z1))) })] [0,4,15] [(15,.d (.v (.bool z1)))] [(1,0≤(0:Int)∧(0:Int) < a0.length),(2,((((((a0.getD (0:Int).toNat 0).toNat:Int) == (43:Int)) == false) && true)=true→True)),(0,((((((a0.getD (0:Int).toNat 0).toNat:Int) == (43:Int)) == false) && true)=true→0≤(0:Int)∧(0:Int) < a0.length)),(0,((((((a0.getD (0:Int).toNat 0).toNat:Int) == (43:Int)) == false) && true)=true→True)),(0,(True)∧AV.d (.v (.bool (bif (((a0.getD (0:Int).toNat 0).toNat:Int) == (43:Int)) then true else (((a0.getD (0:Int).toNat 0).toNat:Int) == (45:Int)))))=.d (.v (.bool z1)))] 0 (by kernel_rfl) (⟨hp1,(fun hg=>trivial),(fun hg=>(hp2 hg)),(fun hg=>trivial),⟨trivial,(by subst hz1; rfl)⟩⟩) ?_
    refine T_cond z1 (by kernel_rfl) (fun hc=>?_) (fun hc=>?_)
    · have h:=cond_tt hc h
      obtain ⟨hp3,h⟩:=chk_ok h
      obtain hs:=Option.some.inj h; subst hs
      refine T_reg_end [] [0,4] [(4,.d (.str ((a0.drop (1:Int).toNat).take ((a0.length:Int).toNat - (1:Int).toNat))))] [(1,0≤(1:Int)∧(1:Int)≤(a0.length:Int)∧(a0.length:Int)≤(a0.length:Int))] 1 (by kernel_rfl) (hp3) fun a w hm=>then_norm (hm.co (cs:=[.keep [0,4]]) (by show _=_; kernel_rfl))
    · have h:=cond_ff hc h
      obtain hs:=Option.some.inj h; subst hs
      refine T_skip fun a w hm=>then_norm (hm.co (cs:=[.keep [0,4]]) (by show _=_; kernel_rfl))
  · skip
    refine T_seqk ?_
    obtain ⟨y1,hy1,h⟩:=call_ok h
    refine T_reg [(9,{ res:=.d (.v (.bool y1)) })] [0,28] [(28,.d (.v (.bool (bif (bif (v1 == []) then true else (decide ((v1.length:Int) > (10:Int)))) then true else y1))))] [(3,((((v1 == []) == false) && true)=true→True)),(0,((((v1 == []) == false) && true)=true→True)),(0,((((v1 == []) == false) && true)=true→True)),(2,((((bif (v1 == []) then true else (decide ((v1.length:Int) > (10:Int)))) == false) && true)=true→True)),(0,((((bif (v1 == []) then true else (decide ((v1.length:Int) > (10:Int)))) == false) && true)=true→ACall Tryz.prog 121 [.d (.str v1),.clo 122 []] [] (.d (.v (.bool y1))) []))] 1 (by kernel_rfl) (⟨(fun hg=>trivial),(fun hg=>trivial),(fun hg=>trivial),(fun hg=>trivial),(fun hg=>b_ContainsFunc 122 (by kernel_rfl) (by kernel_rfl) (fun _ _ h=>token_integer_c1_ok h) (sContains_of (fun _ _=>rfl) (gcall_ok hg hy1)))⟩) ?_
    refine T_cond (bif (bif (v1 == []) then true else (decide ((v1.length:Int) > (10:Int)))) then true else y1) (by kernel_rfl) (fun hc=>?_) (fun hc=>?_)
    · have h:=cond_tt hc h
      refine T_reg [] [2,3] [(2,.d (.v (.int .i64 (0:Int)))),(3,.d (.v (.int .i64 (5:Int))))] [] 2 (by kernel_rfl) (trivial) ?_
      obtain hs:=Option.some.inj h; subst hs
      refine T_ret fun a w hm=>then_ret (T_return (fr':=[(2,.d (.v (.int .i64 (0:Int)))),(3,.d (.v (.int .i64 (5:Int))))]) [2,3] (by kernel_rfl) [.keep [2,3]] (by kernel_rfl) (by kernel_rfl) (by kernel_rfl) (by show _=_; kernel_rfl) (by exact trivial) a w hm)
    · have h:=cond_ff hc h
      refine T_skip fun a w hm=>then_norm (((?_:T Tryz.prog e 41 _ _ _) a w hm))
      obtain ⟨hp4,h⟩:=chk_ok h
      obtain ⟨y2,hy2,h⟩:=call_ok h
      refine T_reg [(1,{ res:=.tup [.d (.v (.int .i64 y2)),.d (.v .nilIface)] })] [5] [(5,.d (.v (.int .i64 y2)))] [(1,ACall Tryz.prog 123 [.d (.str a0)] [] (.tup [.d (.v (.int .i64 y2)),.d (.v .nilIface)]) [])] 5 (by kernel_rfl) (b_Atoi hp4 hy2) ?_
      refine T_seqk ?_
      refine T_reg [] [5,39] [(39,.d (.v (.bool (bif (decide (y2 < (-2147483647:Int))) then true else (decide (y2 > (2147483647:Int)))))))] [(3,((((decide (y2 < (-2147483647:Int))) == false) && true)=true→True)),(0,((((decide (y2 < (-2147483647:Int))) == false) && true)=true→True))] 1 (by kernel_rfl) (⟨(fun hg=>trivial),(fun hg=>trivial)⟩) ?_
      refine T_cond (bif (decide (y2 < (-2147483647:Int))) then true else (decide (y2 > (2147483647:Int)))) (by kernel_rfl) (fun hc=>?_) (fun hc=>?_)
      · have h:=cond_tt hc h
        refine T_reg [] [2,3] [(2,.d (.v (.int .i64 (0:Int)))),(3,.d (.v (.int .i64 (3:Int))))] [] 2 (by kernel_rfl) (trivial) ?_
        obtain hs:=Option.some.inj h; subst hs
        refine T_ret fun a w hm=>then_ret (T_return (fr':=[(2,.d (.v (.int .i64 (0:Int)))),(3,.d (.v (.int .i64 (3:Int))))]) [2,3] (by kernel_rfl) [.keep [2,3]] (by kernel_rfl) (by kernel_rfl) (by kernel_rfl) (by show _=_; kernel_rfl) (by exact trivial) a w hm)
      · have h:=cond_ff hc h
        refine T_skip fun a w hm=>then_norm (((?_:T Tryz.prog e 41 _ _ _) a w hm))
        refine T_reg [] [2,3] [(2,.d (.v (.int .i64 y2))),(3,.d (.v (.int .i64 (0:Int))))] [] 3 (by kernel_rfl) (trivial) ?_
        obtain hs:=Option.some.inj h; subst hs
        refine T_ret fun a w hm=>T_return (fr':=[(2,.d (.v (.int .i64 y2))),(3,.d (.v (.int .i64 (0:Int))))]) [2,3] (by kernel_rfl) [.keep [2,3]] (by kernel_rfl) (by kernel_rfl) (by kernel_rfl) (by show _=_; kernel_rfl) (by exact trivial) a w hm
theorem token_letter_ok {F:Nat} {a0:Int} {r:Bool} (h:token_letter F a0=some r):ACall Tryz.prog 99 [.d (.v (.int .u8 a0))] [] (.d (.v (.bool r))) []:=by
  rw [token_letter] at h
  refine ACall.intro (N:=17) Tryz.func99 rfl rfl rfl rfl rfl fun e=>?_
  refine T_reg [] [0] [] [] 1 (by kernel_rfl) (trivial) ?_
  obtain ⟨z1,hz1,h⟩:=lett_ok h
  refine T_reg [(13,{ rw:=some (.d (.v (.bool z1))) })] [2] [(2,.d (.v (.bool z1)))] [(3,((((decide ((97:Int)≤a0)) == true) && true)=true→True)),(0,((((decide ((97:Int)≤a0)) == true) && true)=true→True)),(2,((((bif (decide ((97:Int)≤a0)) then (decide (a0≤(122:Int))) else false) == false) && true)=true→True)),(0,((((bif (decide ((97:Int)≤a0)) then (decide (a0≤(122:Int))) else false) == false) && true)=true→True)),(0,((((bif (decide ((97:Int)≤a0)) then (decide (a0≤(122:Int))) else false) == false) && true)=true→True)),(0,((((decide ((65:Int)≤a0)) == true) && (((bif (decide ((97:Int)≤a0)) then (decide (a0≤(122:Int))) else false) == false) && true))=true→True)),(0,((((decide ((65:Int)≤a0)) == true) && (((bif (decide ((97:Int)≤a0)) then (decide (a0≤(122:Int))) else false) == false) && true))=true→True)),(0,((((bif (decide ((97:Int)≤a0)) then (decide (a0≤(122:Int))) else false) == false) && true)=true→True)),(0,(True)∧AV.d (.v (.bool (bif (bif (decide ((97:Int)≤a0)) then (decide (a0≤(122:Int))) else false) then true else (bif (decide ((65:Int)≤a0)) then (decide (a0≤(90:Int))) else false))))=.d (.v (.bool z1)))] 1 (by kernel_rfl) (⟨(fun hg=>trivial),(fun hg=>trivial),(fun hg=>trivial),(fun hg=>trivial),(fun hg=>trivial),(fun hg=>trivial),(fun hg=>trivial),(fun hg=>trivial),⟨trivial,(by subst hz1; rfl)⟩⟩) ?_
  obtain hs:=Option.some.inj h; subst hs
  refine T_ret fun a w hm=>T_return (fr':=[(2,.d (.v (.bool z1)))]) [2] (by kernel_rfl) [.keep [2]] (by kernel_rfl) (by kernel_rfl) (by kernel_rfl) (by show _=_; kernel_rfl) (by exact trivial) a w hm
theorem token_limited_ok {F:Nat} {a0:List UInt8} {a1:Int} {r:(List UInt8)×Int} (h:token_limited F a0 a1=some r):ACall Tryz.prog 118 [.d (.str a0),.d (.v (.int .i64 a1))] [] (.tup [.d (.str r.1),.d (.v (.int .i64 r.2))]) []:=by
  rw [token_limited] at h
  refine ACall.intro (N:=11) Tryz.func118 rfl rfl rfl rfl rfl fun e=>?_
  refine T_reg [] [0,1] [] [] 2 (by kernel_rfl) (trivial) ?_
  refine T_seqk ?_
  refine T_reg [] [0,9] [(9,.d (.v (.bool (decide ((a0.length:Int) > a1)))))] [] 4 (by kernel_rfl) (trivial) ?_
  refine T_cond (decide ((a0.length:Int) > a1)) (by kernel_rfl) (fun hc=>?_) (fun hc=>?_)
  · have h:=cond_tt hc h
    refine T_reg [] [4,5] [(4,.d (.str [])),(5,.d (.v (.int .i64 (2:Int))))] [] 2 (by kernel_rfl) (trivial) ?_
    obtain hs:=Option.some.inj h; subst hs
    refine T_ret fun a w hm=>then_ret (T_return (fr':=[(4,.d (.str [])),(5,.d (.v (.int .i64 (2:Int))))]) [4,5] (by kernel_rfl) [.keep [4,5]] (by kernel_rfl) (by kernel_rfl) (by kernel_rfl) (by show _=_; kernel_rfl) (by exact trivial) a w hm)
  · have h:=cond_ff hc h
    refine T_skip fun a w hm=>then_norm (((?_:T Tryz.prog e 11 _ _ _) a w hm))
    refine T_reg [] [4,5] [(4,.d (.str a0)),(5,.d (.v (.int .i64 (0:Int))))] [] 3 (by kernel_rfl) (trivial) ?_
    obtain hs:=Option.some.inj h; subst hs
    refine T_ret fun a w hm=>T_return (fr':=[(4,.d (.str a0)),(5,.d (.v (.int .i64 (0:Int))))]) [4,5] (by kernel_rfl) [.keep [4,5]] (by kernel_rfl) (by kernel_rfl) (by kernel_rfl) (by show _=_; kernel_rfl) (by exact trivial) a w hm
theorem token_word_ok {F:Nat} {a0:List UInt8} {r:(List UInt8)×Int} (h:token_word F a0=some r):ACall Tryz.prog 96 [.d (.str a0)] [] (.tup [.d (.str r.1),.d (.v (.int .i64 r.2))]) []:=by
  rw [token_word] at h
  refine ACall.intro (N:=45) Tryz.func96 rfl rfl rfl rfl rfl fun e=>?_
  refine T_reg [] [0] [] [] 2 (by kernel_rfl) (trivial) ?_
  refine T_seqk ?_
  refine T_reg [] [0,7,8] [(7,.d (.v (.int .i64 (a0.length:Int)))),(8,.d (.v (.int .i64 (0:Int))))] [] 3 (by kernel_rfl) (trivial) ?_
  refine T_joinEt h (fun (p:Unit)=>[(0,.d (.str a0))]) (fun s h hk1=>?_) (fun s h=>?_)
  · refine T_co [.keep [0,7,8]] ((fun (p:Int)=>[(0,.d (.str a0)),(7,.d (.v (.int .i64 (a0.length:Int)))),(8,.d (.v (.int .i64 p)))]) (0:Int)) (by show _=_; kernel_rfl) ?_
    refine T_block ?_
    refine T_loopF (ι:=Int) (fun (p:Int)=>[(0,.d (.str a0)),(7,.d (.v (.int .i64 (a0.length:Int)))),(8,.d (.v (.int .i64 p)))]) (fun n p=>token_word_L0 F a0 n p=some s) (fun i hh=>by simp [token_word_L0] at hh) (fun n v1 h=>?_) F (0:Int) h
    have h:token_word_L0 F a0 (n+1) v1=some s:=h
    rw [token_word_L0] at h
    refine T_reg [] [0,7,8,9] [(9,.d (.v (.bool (decide (v1 < (a0.length:Int))))))] [] 1 (by kernel_rfl) (trivial) ?_
    refine T_seqk ?_
    refine T_cond (decide (v1 < (a0.length:Int))) (by kernel_rfl) (fun hc=>?_) (fun hc=>?_)
    · have h:=cond_tt hc h
      refine T_skip fun a w hm=>then_norm (((?_:T Tryz.prog e 45 _ _ _) a w hm))
      refine T_seqk ?_
      refine T_block ?_
      refine T_reg [] [0,4,7,8] [(4,.d (.v (.int .i64 v1)))] [] 2 (by kernel_rfl) (trivial) ?_
      obtain ⟨hp1,h⟩:=chk_ok h
      refine T_reg [] [0,4,5,7,8] [(5,.d (.v (.int .u8 ((a0.getD v1.toNat 0).toNat:Int))))] [(2,0≤v1∧v1 < a0.length)] 1 (by kernel_rfl) (hp1) ?_
      obtain ⟨y1,hy1,h⟩:=call_ok h
      obtain ⟨y2,hy2,h⟩:=call_ok h
      obtain ⟨z1,hz1,h⟩:=lett_ok h
      obtain ⟨z2,hz2,h⟩:=lett_ok h
      refine T_reg [(1,{ res:=.d (.v (.bool y1)) }),(8,{ res:=.d (.v (.bool y2)) }),(15,{ rw:=some (.d (.v (.bool z1))) }),(23,{ rw:=some (.d (.v (.bool z2))) })] [0,7,8,37] [(37,.d (.v (.bool z2)))] [(1,ACall Tryz.prog 99 [.d (.v (.int .u8 ((a0.getD v1.toNat 0).toNat:Int)))] [] (.d (.v (.bool y1))) []),(2,((((!y1) == true) && true)=true→True)),(0,((((!y1) == true) && true)=true→True)),(0,((((!y1) == true) && true)=true→True)),(0,((((v1 == (0:Int)) == false) && (((!y1) == true) && true))=true→True)),(0,((((v1 == (0:Int)) == false) && (((!y1) == true) && true))=true→ACall Tryz.prog 100 [.d (.v (.int .u8 ((a0.getD v1.toNat 0).toNat:Int)))] [] (.d (.v (.bool y2))) [])),(0,((((v1 == (0:Int)) == false) && (((!y1) == true) && true))=true→True)),(0,((((!y1) == true) && true)=true→True)),(2,((((bif (!y1) then (bif (v1 == (0:Int)) then true else (!y2)) else false) == true) && true)=true→True)),(0,((((bif (!y1) then (bif (v1 == (0:Int)) then true else (!y2)) else false) == true) && true)=true→True)),(0,(True)∧AV.d (.v (.bool (bif (bif (!y1) then (bif (v1 == (0:Int)) then true else (!y2)) else false) then (((a0.getD v1.toNat 0).toNat:Int) != (42:Int)) else false)))=.d (.v (.bool z1))),(1,(((z1 == true) && true)=true→True)),(0,(((z1 == true) && true)=true→True)),(2,((((bif z1 then (((a0.getD v1.toNat 0).toNat:Int) != (95:Int)) else false) == true) && true)=true→True)),(0,((((bif z1 then (((a0.getD v1.toNat 0).toNat:Int) != (95:Int)) else false) == true) && true)=true→True)),(0,(True)∧AV.d (.v (.bool (bif (bif z1 then (((a0.getD v1.toNat 0).toNat:Int) != (95:Int)) else false) then (((a0.getD v1.toNat 0).toNat:Int) != (46:Int)) else false)))=.d (.v (.bool z2)))] 0 (by kernel_rfl) (⟨token_letter_ok hy1,(fun hg=>trivial),(fun hg=>trivial),(fun hg=>trivial),(fun hg=>trivial),(fun hg=>token_digit_ok (gcall_ok hg hy2)),(fun hg=>trivial),(fun hg=>trivial),(fun hg=>trivial),(fun hg=>trivial),⟨trivial,(by subst hz1; rfl)⟩,(fun hg=>trivial),(fun hg=>trivial),(fun hg=>trivial),(fun hg=>trivial),⟨trivial,(by subst hz2; rfl)⟩⟩) ?_
      refine T_cond z2 (by kernel_rfl) (fun hc=>?_) (fun hc=>?_)
      · have h:=cond_tt hc h
        refine T_reg [] [2,3] [(2,.d (.str [])),(3,.d (.v (.int .i64 (5:Int))))] [] 2 (by kernel_rfl) (trivial) ?_
        obtain hs:=Option.some.inj h; subst hs
        have h:=callE_esc hk1
        obtain hs:=Option.some.inj h; subst hs
        refine T_ret fun a w hm=>inBlock_ret (then_ret (then_ret (inBlock_ret (then_ret (then_ret (T_return (fr':=[(2,.d (.str [])),(3,.d (.v (.int .i64 (5:Int))))]) [2,3] (by kernel_rfl) [.keep [2,3]] (by kernel_rfl) (by kernel_rfl) (by kernel_rfl) (by show _=_; kernel_rfl) (by exact trivial) a w hm))))))
      · have h:=cond_ff hc h
        refine T_skip fun a w hm=>inBlock_norm (then_norm (((?_:T Tryz.prog e 45 _ _ _) a w hm)))
        refine T_reg_end [] [0,7,8] [(8,.d (.v (.int .i64 (IntKind.i64.wrap (v1+(1:Int))))))] [] 2 (by kernel_rfl) (trivial) fun a w hm=>then_norm (⟨IntKind.i64.wrap (v1+(1:Int)),h,hm.co (cs:=[.keep [0,7,8]]) (by show _=_; kernel_rfl)⟩)
    · have h:=cond_ff hc h
      obtain hs:=Option.some.inj h; subst hs
      refine T_exit fun a w hm=>then_exit (then_exit (inBlock_exit (then_norm (⟨_,rfl,hm.co (cs:=[.keep [0]]) (by show _=_; kernel_rfl)⟩))))
  · skip
    refine fun a w hm=>then_norm (((?_:T Tryz.prog e 45 _ _ _) a w hm))
    refine T_seqk ?_
    refine T_reg [] [0,40] [(40,.d (.v (.bool (a0 == []))))] [] 2 (by kernel_rfl) (trivial) ?_
    refine T_cond (a0 == []) (by kernel_rfl) (fun hc=>?_) (fun hc=>?_)
    · have h:=cond_tt hc h
      refine T_reg [] [2,3] [(2,.d (.str [])),(3,.d (.v (.int .i64 (5:Int))))] [] 2 (by kernel_rfl) (trivial) ?_
      obtain hs:=Option.some.inj h; subst hs
      refine T_ret fun a w hm=>then_ret (T_return (fr':=[(2,.d (.str [])),(3,.d (.v (.int .i64 (5:Int))))]) [2,3] (by kernel_rfl) [.keep [2,3]] (by kernel_rfl) (by kernel_rfl) (by kernel_rfl) (by show _=_; kernel_rfl) (by exact trivial) a w hm)
    · have h:=cond_ff hc h
      refine T_skip fun a w hm=>then_norm (((?_:T Tryz.prog e 45 _ _ _) a w hm))
      obtain ⟨y3,hy3,h⟩:=call_ok h
      refine T_reg [(1,{ res:=.tup [.d (.str y3.1),.d (.v (.int .i64 y3.2))] })] [2,3] [(2,.d (.str y3.1)),(3,.d (.v (.int .i64 y3.2)))] [(1,ACall Tryz.prog 118 [.d (.str a0),.d (.v (.int .i64 (31:Int)))] [] (.tup [.d (.str y3.1),.d (.v (.int .i64 y3.2))]) [])] 4 (by kernel_rfl) (token_limited_ok hy3) ?_
      obtain hs:=Option.some.inj h; subst hs
      refine T_ret fun a w hm=>T_return (fr':=[(2,.d (.str y3.1)),(3,.d (.v (.int .i64 y3.2)))]) [2,3] (by kernel_rfl) [.keep [2,3]] (by kernel_rfl) (by kernel_rfl) (by kernel_rfl) (by show _=_; kernel_rfl) (by exact trivial) a w hm
theorem token_hexDigit_ok {F:Nat} {a0:Int} {r:Int×Bool} (h:token_hexDigit F a0=some r):ACall Tryz.prog 127 [.d (.v (.int .u8 a0))] [] (.tup [.d (.v (.int .u8 r.1)),.d (.v (.bool r.2))]) []:=by
  rw [token_hexDigit] at h
  refine ACall.intro (N:=29) Tryz.func127 rfl rfl rfl rfl rfl fun e=>?_
  refine T_reg [] [0] [] [] 2 (by kernel_rfl) (trivial) ?_
  refine T_seqk ?_
  refine T_block ?_
  obtain ⟨y1,hy1,h⟩:=call_ok h
  refine T_reg [(1,{ res:=.d (.v (.bool y1)) })] [0,4] [(4,.d (.v (.bool y1)))] [(1,ACall Tryz.prog 100 [.d (.v (.int .u8 a0))] [] (.d (.v (.bool y1))) [])] 1 (by kernel_rfl) (token_digit_ok hy1) ?_
  refine T_cond y1 (by kernel_rfl) (fun hc=>?_) (fun hc=>?_)
  · have h:=cond_tt hc h
    refine T_reg [] [2,3] [(2,.d (.v (.int .u8 (IntKind.u8.wrap (a0 - (48:Int)))))),(3,.d (.v (.bool true)))] [] 4 (by kernel_rfl) (trivial) ?_
    obtain hs:=Option.some.inj h; subst hs
    refine T_ret fun a w hm=>inBlock_ret (then_ret (T_return (fr':=[(2,.d (.v (.int .u8 (IntKind.u8.wrap (a0 - (48:Int)))))),(3,.d (.v (.bool true)))]) [2,3] (by kernel_rfl) [.keep [2,3]] (by kernel_rfl) (by kernel_rfl) (by kernel_rfl) (by show _=_; kernel_rfl) (by exact trivial) a w hm))
  · have h:=cond_ff hc h
    refine T_reg [] [0,9] [(9,.d (.v (.bool (bif (decide ((97:Int)≤a0)) then (decide (a0≤(102:Int))) else false))))] [(3,((((decide ((97:Int)≤a0)) == true) && true)=true→True)),(0,((((decide ((97:Int)≤a0)) == true) && true)=true→True))] 2 (by kernel_rfl) (⟨(fun hg=>trivial),(fun hg=>trivial)⟩) ?_
    refine T_cond (bif (decide ((97:Int)≤a0)) then (decide (a0≤(102:Int))) else false) (by kernel_rfl) (fun hc=>?_) (fun hc=>?_)
    · have h:=cond_tt hc h
      refine T_reg [] [2,3] [(2,.d (.v (.int .u8 (IntKind.u8.wrap ((IntKind.u8.wrap (a0 - (97:Int)))+(10:Int)))))),(3,.d (.v (.bool true)))] [] 5 (by kernel_rfl) (trivial) ?_
      obtain hs:=Option.some.inj h; subst hs
      refine T_ret fun a w hm=>inBlock_ret (then_ret (T_return (fr':=[(2,.d (.v (.int .u8 (IntKind.u8.wrap ((IntKind.u8.wrap (a0 - (97:Int)))+(10:Int)))))),(3,.d (.v (.bool true)))]) [2,3] (by kernel_rfl) [.keep [2,3]] (by kernel_rfl) (by kernel_rfl) (by kernel_rfl) (by show _=_; kernel_rfl) (by exact trivial) a w hm))
    · have h:=cond_ff hc h
      refine T_reg [] [0,19] [(19,.d (.v (.bool (bif (decide ((65:Int)≤a0)) then (decide (a0≤(70:Int))) else false))))] [(3,((((decide ((65:Int)≤a0)) == true) && true)=true→True)),(0,((((decide ((65:Int)≤a0)) == true) && true)=true→True))] 2 (by kernel_rfl) (⟨(fun hg=>trivial),(fun hg=>trivial)⟩) ?_
      refine T_cond (bif (decide ((65:Int)≤a0)) then (decide (a0≤(70:Int))) else false) (by kernel_rfl) (fun hc=>?_) (fun hc=>?_)
      · have h:=cond_tt hc h
        refine T_reg [] [2,3] [(2,.d (.v (.int .u8 (IntKind.u8.wrap ((IntKind.u8.wrap (a0 - (65:Int)))+(10:Int)))))),(3,.d (.v (.bool true)))] [] 5 (by kernel_rfl) (trivial) ?_
        obtain hs:=Option.some.inj h; subst hs
        refine T_ret fun a w hm=>inBlock_ret (then_ret (T_return (fr':=[(2,.d (.v (.int .u8 (IntKind.u8.wrap ((IntKind.u8.wrap (a0 - (65:Int)))+(10:Int)))))),(3,.d (.v (.bool true)))]) [2,3] (by kernel_rfl) [.keep [2,3]] (by kernel_rfl) (by kernel_rfl) (by kernel_rfl) (by show _=_; kernel_rfl) (by exact trivial) a w hm))
      · have h:=cond_ff hc h
        refine T_skip fun a w hm=>inBlock_norm (then_norm (((?_:T Tryz.prog e 29 _ _ _) a w hm)))
        refine T_reg [] [2,3] [(2,.d (.v (.int .u8 (0:Int)))),(3,.d (.v (.bool false)))] [] 2 (by kernel_rfl) (trivial) ?_
        obtain hs:=Option.some.inj h; subst hs
        refine T_ret fun a w hm=>T_return (fr':=[(2,.d (.v (.int .u8 (0:Int)))),(3,.d (.v (.bool false)))]) [2,3] (by kernel_rfl) [.keep [2,3]] (by kernel_rfl) (by kernel_rfl) (by kernel_rfl) (by show _=_; kernel_rfl) (by exact trivial) a w hm
theorem token_cursor_pair_ok {F:Nat} {c0:List UInt8} {c1:Int} {r:Int×Bool×(List UInt8)×Int} (h:token_cursor_pair F c0 c1=some r):ACall Tryz.prog 124 [.bp 1000000 0] [.box [.d (.str c0),.d (.v (.int .i64 c1))]] (.tup [.d (.v (.int .u8 r.1)),.d (.v (.bool r.2.1))]) [.box [.d (.str r.2.2.1),.d (.v (.int .i64 r.2.2.2))]]:=by
  rw [token_cursor_pair] at h
  refine ACall.intro (N:=61) Tryz.func124 rfl rfl rfl rfl rfl fun e=>?_
  refine T_reg [] [0,1000000] [] [] 2 (by kernel_rfl) (trivial) ?_
  refine T_seqk ?_
  refine T_draw mixed [] [0,18,1000000] [] [(0,.bp 1000000 0),(18,.d (.v (.bool (decide ((IntKind.i64.wrap (c1+(2:Int))) > (c0.length:Int)))))),(1000000,.box [.d (.str c0),.d (.v (.int .i64 c1))])] [] 11 (by kernel_rfl) (trivial) ?_
  refine T_cond (decide ((IntKind.i64.wrap (c1+(2:Int))) > (c0.length:Int))) (by kernel_rfl) (fun hc=>?_) (fun hc=>?_)
  · have h:=cond_tt hc h
    refine T_reg [] [2,3,1000000] [(2,.d (.v (.int .u8 (0:Int)))),(3,.d (.v (.bool false)))] [] 2 (by kernel_rfl) (trivial) ?_
    obtain hs:=Option.some.inj h; subst hs
    refine T_ret fun a w hm=>then_ret (T_return (fr':=[(2,.d (.v (.int .u8 (0:Int)))),(3,.d (.v (.bool false))),(1000000,.box [.d (.str c0),.d (.v (.int .i64 c1))])]) [2,3] (by kernel_rfl) [.keep [2,3,1000000]] (by kernel_rfl) (by kernel_rfl) (by kernel_rfl) (by show _=_; kernel_rfl) (by exact ⟨⟨by kernel_rfl,by kernel_rfl⟩,trivial⟩) a w hm)
  · have h:=cond_ff hc h
    refine T_skip fun a w hm=>then_norm (((?_:T Tryz.prog e 61 _ _ _) a w hm))
    obtain ⟨hp1,h⟩:=chk_ok h
    obtain ⟨y1,hy1,h⟩:=call_ok h
    refine T_drawX mixed 2 (.take 0 (.take 1 (.take 2 (.take 4 (.take 5 (.take 6 (.all (.alt 3 (.all (.alt 7 (.take 8 (.all (.alt 9 (.take 10 (.take 11 (.take 12 (.take 13 (.take 14 .done))))) .stop))) .stop)) (.alt 7 (.all (.alt 3 (.take 8 (.all (.alt 9 (.take 10 (.take 11 (.take 12 (.take 13 (.take 14 .done))))) .stop))) .stop)) .stop))))))))) ([0,1,2,4,0,16,32,64,136,256,512,1024,1024,4095,16383],[0,1,2,4,0,16,32,64,136,256,512,1024,1024,2048,4096]) 32119 [(9,{ res:=.tup [.d (.v (.int .u8 y1.1)),.d (.v (.bool y1.2))] })] [0,4,5,1000000] [] [(0,.bp 1000000 0),(4,.d (.v (.int .u8 y1.1))),(5,.d (.v (.bool y1.2))),(1000000,.box [.d (.str c0),.d (.v (.int .i64 c1))])] ((fun (o8:Prop)=>fun (o9:Prop)=>[(8,o8),(0,o9),(7,o8),(0,o9)]) (0≤c1∧c1 < c0.length) (ACall Tryz.prog 127 [.d (.v (.int .u8 ((c0.getD c1.toNat 0).toNat:Int)))] [] (.tup [.d (.v (.int .u8 y1.1)),.d (.v (.bool y1.2))]) [])) 5 (by kernel_rfl) (by kernel_rfl) (by kernel_rfl) (have p8:=hp1; have p9:=token_hexDigit_ok hy1; ⟨p8,p9,p8,p9⟩) ?_
    obtain ⟨hp2,h⟩:=chk_ok h
    obtain ⟨y2,hy2,h⟩:=call_ok h
    refine T_drawX mixed 2 (.take 0 (.take 1 (.take 2 (.take 4 (.take 5 (.take 6 (.all (.alt 3 (.all (.alt 7 (.take 8 (.take 9 (.all (.alt 10 (.take 11 (.take 12 (.take 13 (.take 14 (.take 15 .done))))) .stop)))) .stop)) (.alt 7 (.take 8 (.all (.alt 3 (.take 9 (.all (.alt 10 (.take 11 (.take 12 (.take 13 (.take 14 (.take 15 .done))))) .stop))) .stop))) .stop))))))))) ([0,1,2,4,0,16,32,64,128,264,512,1024,2048,2048,8191,32767],[0,1,2,4,0,16,32,64,128,264,512,1024,2048,2048,4096,8192]) 64375 [(10,{ res:=.tup [.d (.v (.int .u8 y2.1)),.d (.v (.bool y2.2))] })] [0,4,5,6,7,1000000] [] [(0,.bp 1000000 0),(4,.d (.v (.int .u8 y1.1))),(5,.d (.v (.bool y1.2))),(6,.d (.v (.int .u8 y2.1))),(7,.d (.v (.bool y2.2))),(1000000,.box [.d (.str c0),.d (.v (.int .i64 c1))])] ((fun (o9:Prop)=>fun (o10:Prop)=>[(9,o9),(0,o10),(8,o9),(0,o10)]) (0≤(IntKind.i64.wrap (c1+(1:Int)))∧(IntKind.i64.wrap (c1+(1:Int))) < c0.length) (ACall Tryz.prog 127 [.d (.v (.int .u8 ((c0.getD (IntKind.i64.wrap (c1+(1:Int))).toNat 0).toNat:Int)))] [] (.tup [.d (.v (.int .u8 y2.1)),.d (.v (.bool y2.2))]) [])) 5 (by kernel_rfl) (by kernel_rfl) (by kernel_rfl) (have p9:=hp2; have p10:=token_hexDigit_ok hy2; ⟨p9,p10,p9,p10⟩) ?_
    refine T_reg [] [4,5,6,7,1000000] [(1000000,.box [.d (.str c0),.d (.v (.int .i64 (IntKind.i64.wrap (c1+(2:Int)))))])] [] 8 (by kernel_rfl) (trivial) ?_
    obtain ⟨z1,hz1,h⟩:=lett_ok h
    refine T_reg [(3,{ rw:=some (.d (.v (.int .u8 z1))) })] [2,3,1000000] [(2,.d (.v (.int .u8 z1))),(3,.d (.v (.bool (bif y1.2 then y2.2 else false))))] [(1,0≤(4:Int)),(1,(True)∧AV.d (.v (.int .u8 (IntKind.u8.wrap ((BitVec.ofInt IntKind.u8.bits (IntKind.u8.wrap (y1.1 * 2 ^ (min (4:Int).toNat IntKind.u8.bits))) ||| BitVec.ofInt IntKind.u8.bits y2.1).toNat:Int))))=.d (.v (.int .u8 z1))),(2,(((y1.2 == true) && true)=true→True))] 3 (by kernel_rfl) (⟨(show 0≤(4:Int) by decide),⟨trivial,(by subst hz1; rfl)⟩,(fun hg=>trivial)⟩) ?_
    obtain hs:=Option.some.inj h; subst hs
    refine T_ret fun a w hm=>T_return (fr':=[(2,.d (.v (.int .u8 z1))),(3,.d (.v (.bool (bif y1.2 then y2.2 else false)))),(1000000,.box [.d (.str c0),.d (.v (.int .i64 (IntKind.i64.wrap (c1+(2:Int)))))])]) [2,3] (by kernel_rfl) [.keep [2,3,1000000]] (by kernel_rfl) (by kernel_rfl) (by kernel_rfl) (by show _=_; kernel_rfl) (by exact ⟨⟨by kernel_rfl,by kernel_rfl⟩,trivial⟩) a w hm
theorem strings_Builder_WriteByte_ok {F:Nat} {a0:Int} {c1:List UInt8} {r:Unit×(List UInt8)} (h:strings_Builder_WriteByte F a0 c1=some r):ACall Tryz.prog 50 [.bp 1000000 0,.d (.v (.int .u8 a0))] [.box [.slf 0 87,.own 5 1 (c1.map cU)]] (.d (.v .nilIface)) [.box [.slf 0 87,.own 5 1 (r.2.map cU)]]:=by
  rw [strings_Builder_WriteByte] at h
  refine ACall.intro (N:=17) Tryz.func50 rfl rfl rfl rfl rfl fun e=>?_
  refine T_reg [] [0,1,1000000] [] [] 1 (by kernel_rfl) (trivial) ?_
  refine T_reg [(1,{ xs:=[1000000],res:=.tup [],vout:=[.box [.slf 0 87,.own 5 1 (c1.map cU)]] })] [0,1,1000000] [] [(1,ACall Tryz.prog 75 [.bp 1000000 0] [.box [.slf 0 87,.own 5 1 (c1.map cU)]] (.tup []) [.box [.slf 0 87,.own 5 1 (c1.map cU)]])] 0 (by kernel_rfl) (b_copyCheck (E:=87) (by kernel_rfl) (by kernel_rfl) (by kernel_rfl)) ?_
  obtain ⟨hp1,h⟩:=chk_ok h
  obtain ⟨hp2,h⟩:=chk_ok h
  refine T_reg [(6,{ es:=some (([(UInt8.ofNat a0.toNat)]).map cU) }),(7,{ es:=some ((c1++([(UInt8.ofNat a0.toNat)])).map cU) })] [1000000] [(1000000,.box [.slf 0 87,.own 5 1 ((c1++([(UInt8.ofNat a0.toNat)])).map cU)])] [(6,[[Dat.v (.int .u8 a0)]]=(([(UInt8.ofNat a0.toNat)]).map cU)),(0,(c1.map cU).length+(([(UInt8.ofNat a0.toNat)]).map cU).length≤4294967296∧(c1.map cU)++(([(UInt8.ofNat a0.toNat)]).map cU)=((c1++([(UInt8.ofNat a0.toNat)])).map cU))] 3 (by kernel_rfl) (⟨(lit_u hp1 (rfl:([]:List (List Dat))=([]:List UInt8).map cU)),app_ok cU hp2⟩) ?_
  refine T_reg [] [4,1000000] [(4,.d (.v .nilIface))] [] 1 (by kernel_rfl) (trivial) ?_
  obtain hs:=Option.some.inj h; subst hs
  refine T_ret fun a w hm=>T_return (fr':=[(4,.d (.v .nilIface)),(1000000,.box [.slf 0 87,.own 5 1 ((c1++([(UInt8.ofNat a0.toNat)])).map cU)])]) [4] (by kernel_rfl) [.keep [4,1000000]] (by kernel_rfl) (by kernel_rfl) (by kernel_rfl) (by show _=_; kernel_rfl) (by exact ⟨⟨by kernel_rfl,by kernel_rfl⟩,trivial⟩) a w hm
theorem strings_Builder_Len_ok {F:Nat} {c0:List UInt8} {r:Int×(List UInt8)} (h:strings_Builder_Len F c0=some r):ACall Tryz.prog 52 [.bp 1000000 0] [.box [.slf 0 87,.own 5 1 (c0.map cU)]] (.d (.v (.int .i64 r.1))) [.box [.slf 0 87,.own 5 1 (r.2.map cU)]]:=by
  rw [strings_Builder_Len] at h
  refine ACall.intro (N:=8) Tryz.func52 rfl rfl rfl rfl rfl fun e=>?_
  refine T_reg [] [0,1000000] [] [] 1 (by kernel_rfl) (trivial) ?_
  refine T_reg [(4,{ rw:=some (.d (.v (.int .i64 (c0.length:Int)))) })] [2,1000000] [(2,.d (.v (.int .i64 (c0.length:Int))))] [(4,True∧AV.d (.v (.int .i64 ((c0.map cU).length:Int)))=.d (.v (.int .i64 (c0.length:Int))))] 1 (by kernel_rfl) (len_ok cU) ?_
  obtain hs:=Option.some.inj h; subst hs
  refine T_ret fun a w hm=>T_return (fr':=[(2,.d (.v (.int .i64 (c0.length:Int)))),(1000000,.box [.slf 0 87,.own 5 1 (c0.map cU)])]) [2] (by kernel_rfl) [.keep [2,1000000]] (by kernel_rfl) (by kernel_rfl) (by kernel_rfl) (by show _=_; kernel_rfl) (by exact ⟨⟨by kernel_rfl,by kernel_rfl⟩,trivial⟩) a w hm
theorem token_cursor_name_ok {F:Nat} {c0:List UInt8} {c1:Int} {r:(List UInt8)×Int×(List UInt8)×Int} (h:token_cursor_name F c0 c1=some r):ACall Tryz.prog 110 [.bp 1000000 0] [.box [.d (.str c0),.d (.v (.int .i64 c1))]] (.tup [.d (.str r.1),.d (.v (.int .i64 r.2.1))]) [.box [.d (.str r.2.2.1),.d (.v (.int .i64 r.2.2.2))]]:=by
  rw [token_cursor_name] at h
  refine ACall.intro (N:=55) Tryz.func110 rfl rfl rfl rfl rfl fun e=>?_
  refine T_reg [] [0,1000000] [] [] 2 (by kernel_rfl) (trivial) ?_
  obtain ⟨y1,hy1,h⟩:=call_ok h
  refine T_reg [(1,{ res:=.d (.str y1.1),vout:=[.box [.d (.str y1.2.1),.d (.v (.int .i64 y1.2.2))]],xs:=[1000000] })] [4,1000000] [(4,.box [.d (.str y1.1),.d (.v (.int .i64 0))]),(1000000,.box [.d (.str y1.2.1),.d (.v (.int .i64 y1.2.2))])] [(1,ACall Tryz.prog 109 [.bp 1000000 0] [.box [.d (.str c0),.d (.v (.int .i64 c1))]] (.d (.str y1.1)) [.box [.d (.str y1.2.1),.d (.v (.int .i64 y1.2.2))]])] 3 (by kernel_rfl) (token_cursor_run_ok hy1) ?_
  refine T_reg [(0,{ slfs:=[(0,0)] })] [4,5,1000000] [(5,.box [.slf 0 87,.own 5 1 ([].map cU)])] [] 1 (by kernel_rfl) (trivial) ?_
  refine T_joinE h (fun (p:(List UInt8))=>[(5,.box [.slf 0 87,.own 5 1 (p.map cU)]),(1000000,.box [.d (.str y1.2.1),.d (.v (.int .i64 y1.2.2))])]) (fun s h hk1=>?_) (fun v4 h=>?_)
  · refine T_co [.keep [4,5,1000000]] ((fun (p:(List UInt8)×Int×(List UInt8))=>[(4,.box [.d (.str p.1),.d (.v (.int .i64 p.2.1))]),(5,.box [.slf 0 87,.own 5 1 (p.2.2.map cU)]),(1000000,.box [.d (.str y1.2.1),.d (.v (.int .i64 y1.2.2))])]) (y1.1,0,[])) (by show _=_; kernel_rfl) ?_
    refine T_block ?_
    refine T_loopF (ι:=(List UInt8)×Int×(List UInt8)) (fun (p:(List UInt8)×Int×(List UInt8))=>[(4,.box [.d (.str p.1),.d (.v (.int .i64 p.2.1))]),(5,.box [.slf 0 87,.own 5 1 (p.2.2.map cU)]),(1000000,.box [.d (.str y1.2.1),.d (.v (.int .i64 y1.2.2))])]) (fun n p=>token_cursor_name_L0 F y1 n p.1 p.2.1 p.2.2=some s) (fun i hh=>by simp [token_cursor_name_L0] at hh) (fun n p h=>?_) F (y1.1,0,[]) h
    obtain ⟨v1,v2,v3⟩:=p
    have h:token_cursor_name_L0 F y1 (n+1) v1 v2 v3=some s:=h
    rw [token_cursor_name_L0] at h
    refine T_seqk ?_
    refine T_reg [] [4,5,17,1000000] [(17,.d (.v (.bool (decide (v2 < (v1.length:Int))))))] [] 6 (by kernel_rfl) (trivial) ?_
    refine T_cond (decide (v2 < (v1.length:Int))) (by kernel_rfl) (fun hc=>?_) (fun hc=>?_)
    · have h:=cond_tt hc h
      refine T_skip fun a w hm=>then_norm (((?_:T Tryz.prog e 55 _ _ _) a w hm))
      refine T_block ?_
      obtain ⟨hp1,h⟩:=chk_ok h
      refine T_reg [] [4,5,6,1000000] [(6,.d (.v (.int .u8 ((v1.getD v2.toNat 0).toNat:Int))))] [(4,0≤v2∧v2 < v1.length)] 1 (by kernel_rfl) (hp1) ?_
      refine T_reg [] [4,5,6,1000000] [(4,.box [.d (.str v1),.d (.v (.int .i64 (IntKind.i64.wrap (v2+(1:Int)))))])] [] 5 (by kernel_rfl) (trivial) ?_
      refine T_seqk ?_
      refine T_reg [] [4,5,6,28,1000000] [(28,.d (.v (.bool (((v1.getD v2.toNat 0).toNat:Int) == (35:Int)))))] [] 2 (by kernel_rfl) (trivial) ?_
      refine T_cond (((v1.getD v2.toNat 0).toNat:Int) == (35:Int)) (by kernel_rfl) (fun hc=>?_) (fun hc=>?_)
      · have h:=cond_tt hc h
        obtain ⟨y2,hy2,h⟩:=call_ok h
        refine T_reg [(0,{ res:=.tup [.d (.v (.int .u8 y2.1)),.d (.v (.bool y2.2.1))],vout:=[.box [.d (.str y2.2.2.1),.d (.v (.int .i64 y2.2.2.2))]],xs:=[4] })] [4,5,7,8,1000000] [(4,.box [.d (.str y2.2.2.1),.d (.v (.int .i64 y2.2.2.2))]),(7,.d (.v (.int .u8 y2.1))),(8,.d (.v (.bool y2.2.1)))] [(0,ACall Tryz.prog 124 [.bp 1000000 0] [.box [.d (.str v1),.d (.v (.int .i64 (IntKind.i64.wrap (v2+(1:Int)))))]] (.tup [.d (.v (.int .u8 y2.1)),.d (.v (.bool y2.2.1))]) [.box [.d (.str y2.2.2.1),.d (.v (.int .i64 y2.2.2.2))]])] 5 (by kernel_rfl) (token_cursor_pair_ok hy2) ?_
        refine T_seqk ?_
        refine T_reg [] [4,5,7,38,1000000] [(38,.d (.v (.bool (bif (!y2.2.1) then true else (y2.1 == (0:Int))))))] [(3,((((!y2.2.1) == false) && true)=true→True)),(0,((((!y2.2.1) == false) && true)=true→True))] 1 (by kernel_rfl) (⟨(fun hg=>trivial),(fun hg=>trivial)⟩) ?_
        refine T_cond (bif (!y2.2.1) then true else (y2.1 == (0:Int))) (by kernel_rfl) (fun hc=>?_) (fun hc=>?_)
        · have h:=cond_tt hc h
          refine T_reg [] [2,3,1000000] [(2,.d (.str [])),(3,.d (.v (.int .i64 (5:Int))))] [] 2 (by kernel_rfl) (trivial) ?_
          obtain hs:=Option.some.inj h; subst hs
          have h:=callE_esc hk1
          obtain hs:=Option.some.inj h; subst hs
          refine T_ret fun a w hm=>then_ret (then_ret (inBlock_ret (then_ret (inBlock_ret (then_ret (T_return (fr':=[(2,.d (.str [])),(3,.d (.v (.int .i64 (5:Int)))),(1000000,.box [.d (.str y1.2.1),.d (.v (.int .i64 y1.2.2))])]) [2,3] (by kernel_rfl) [.keep [2,3,1000000]] (by kernel_rfl) (by kernel_rfl) (by kernel_rfl) (by show _=_; kernel_rfl) (by exact ⟨⟨by kernel_rfl,by kernel_rfl⟩,trivial⟩) a w hm))))))
        · have h:=cond_ff hc h
          refine T_skip fun a w hm=>then_norm (((?_:T Tryz.prog e 55 _ _ _) a w hm))
          obtain ⟨y3,hy3,h⟩:=call_ok h
          refine T_reg [(1,{ res:=.d (.v .nilIface),vout:=[.box [.slf 0 87,.own 5 1 (y3.2.map cU)]],xs:=[5] })] [4,5,1000000] [(5,.box [.slf 0 87,.own 5 1 (y3.2.map cU)])] [(1,ACall Tryz.prog 50 [.bp 1000000 0,.d (.v (.int .u8 y2.1))] [.box [.slf 0 87,.own 5 1 (v3.map cU)]] (.d (.v .nilIface)) [.box [.slf 0 87,.own 5 1 (y3.2.map cU)]])] 0 (by kernel_rfl) (strings_Builder_WriteByte_ok hy3) ?_
          refine T_exit fun a w hm=>then_exit (inBlock_exit (then_norm (⟨(y2.2.2.1,y2.2.2.2,y3.2),h,hm.co (cs:=[.keep [4,5,1000000]]) (by show _=_; kernel_rfl)⟩)))
      · have h:=cond_ff hc h
        refine T_skip fun a w hm=>then_norm (((?_:T Tryz.prog e 55 _ _ _) a w hm))
        refine T_seqk ?_
        obtain ⟨z1,hz1,h⟩:=lett_ok h
        refine T_reg [(5,{ rw:=some (.d (.v (.bool z1))) })] [4,5,6,46,1000000] [(46,.d (.v (.bool z1)))] [(3,((((decide (((v1.getD v2.toNat 0).toNat:Int) < (33:Int))) == false) && true)=true→True)),(0,((((decide (((v1.getD v2.toNat 0).toNat:Int) < (33:Int))) == false) && true)=true→True)),(0,(True)∧AV.d (.v (.bool (bif (decide (((v1.getD v2.toNat 0).toNat:Int) < (33:Int))) then true else (decide (((v1.getD v2.toNat 0).toNat:Int) > (126:Int))))))=.d (.v (.bool z1)))] 0 (by kernel_rfl) (⟨(fun hg=>trivial),(fun hg=>trivial),⟨trivial,(by subst hz1; rfl)⟩⟩) ?_
        refine T_cond z1 (by kernel_rfl) (fun hc=>?_) (fun hc=>?_)
        · have h:=cond_tt hc h
          refine T_reg [] [2,3,1000000] [(2,.d (.str [])),(3,.d (.v (.int .i64 (5:Int))))] [] 2 (by kernel_rfl) (trivial) ?_
          obtain hs:=Option.some.inj h; subst hs
          have h:=callE_esc hk1
          obtain hs:=Option.some.inj h; subst hs
          refine T_ret fun a w hm=>then_ret (inBlock_ret (then_ret (inBlock_ret (then_ret (T_return (fr':=[(2,.d (.str [])),(3,.d (.v (.int .i64 (5:Int)))),(1000000,.box [.d (.str y1.2.1),.d (.v (.int .i64 y1.2.2))])]) [2,3] (by kernel_rfl) [.keep [2,3,1000000]] (by kernel_rfl) (by kernel_rfl) (by kernel_rfl) (by show _=_; kernel_rfl) (by exact ⟨⟨by kernel_rfl,by kernel_rfl⟩,trivial⟩) a w hm)))))
        · have h:=cond_ff hc h
          refine T_skip fun a w hm=>then_norm (((?_:T Tryz.prog e 55 _ _ _) a w hm))
          obtain ⟨y4,hy4,h⟩:=call_ok h
          refine T_reg_end [(1,{ res:=.d (.v .nilIface),vout:=[.box [.slf 0 87,.own 5 1 (y4.2.map cU)]],xs:=[5] })] [4,5,1000000] [(5,.box [.slf 0 87,.own 5 1 (y4.2.map cU)])] [(1,ACall Tryz.prog 50 [.bp 1000000 0,.d (.v (.int .u8 ((v1.getD v2.toNat 0).toNat:Int)))] [.box [.slf 0 87,.own 5 1 (v3.map cU)]] (.d (.v .nilIface)) [.box [.slf 0 87,.own 5 1 (y4.2.map cU)]])] 0 (by kernel_rfl) (strings_Builder_WriteByte_ok hy4) fun a w hm=>inBlock_norm (then_norm (⟨(v1,IntKind.i64.wrap (v2+(1:Int)),y4.2),h,hm.co (cs:=[.keep [4,5,1000000]]) (by show _=_; kernel_rfl)⟩))
    · have h:=cond_ff hc h
      obtain hs:=Option.some.inj h; subst hs
      refine T_exit fun a w hm=>then_exit (then_exit (inBlock_exit (then_norm (⟨_,rfl,hm.co (cs:=[.keep [5,1000000]]) (by show _=_; kernel_rfl)⟩))))
  · skip
    refine T_seqk ?_
    obtain ⟨y5,hy5,h⟩:=call_ok h
    refine T_reg [(0,{ res:=.d (.v (.int .i64 y5.1)),vout:=[.box [.slf 0 87,.own 5 1 (y5.2.map cU)]],xs:=[5] })] [5,50,1000000] [(5,.box [.slf 0 87,.own 5 1 (y5.2.map cU)]),(50,.d (.v (.bool (y5.1 == (0:Int)))))] [(0,ACall Tryz.prog 52 [.bp 1000000 0] [.box [.slf 0 87,.own 5 1 (v4.map cU)]] (.d (.v (.int .i64 y5.1))) [.box [.slf 0 87,.own 5 1 (y5.2.map cU)]])] 1 (by kernel_rfl) (strings_Builder_Len_ok hy5) ?_
    refine T_cond (y5.1 == (0:Int)) (by kernel_rfl) (fun hc=>?_) (fun hc=>?_)
    · have h:=cond_tt hc h
      refine T_reg [] [2,3,1000000] [(2,.d (.str [])),(3,.d (.v (.int .i64 (5:Int))))] [] 2 (by kernel_rfl) (trivial) ?_
      obtain hs:=Option.some.inj h; subst hs
      refine T_ret fun a w hm=>then_ret (T_return (fr':=[(2,.d (.str [])),(3,.d (.v (.int .i64 (5:Int)))),(1000000,.box [.d (.str y1.2.1),.d (.v (.int .i64 y1.2.2))])]) [2,3] (by kernel_rfl) [.keep [2,3,1000000]] (by kernel_rfl) (by kernel_rfl) (by kernel_rfl) (by show _=_; kernel_rfl) (by exact ⟨⟨by kernel_rfl,by kernel_rfl⟩,trivial⟩) a w hm)
    · have h:=cond_ff hc h
      refine T_skip fun a w hm=>then_norm (((?_:T Tryz.prog e 55 _ _ _) a w hm))
      obtain ⟨hp2,h⟩:=chk_ok h
      obtain ⟨y6,hy6,h⟩:=call_ok h
      refine T_reg [(0,{ xs:=[5],vout:=[.box [.slf 0 87,.junk]],res:=.d (.str y5.2) }),(1,{ res:=.tup [.d (.str y6.1),.d (.v (.int .i64 y6.2))] })] [2,3,1000000] [(2,.d (.str y6.1)),(3,.d (.v (.int .i64 y6.2)))] [(0,ACall Tryz.prog 53 [.bp 1000000 0] [.box [.slf 0 87,.own 5 1 (y5.2.map cU)]] (.d (.str y5.2)) [.box [.slf 0 87,.junk]]),(0,ACall Tryz.prog 118 [.d (.str y5.2),.d (.v (.int .i64 (31:Int)))] [] (.tup [.d (.str y6.1),.d (.v (.int .i64 y6.2))]) [])] 4 (by kernel_rfl) (⟨b_String (l:=y5.2) hp2 (by kernel_rfl) (by kernel_rfl),token_limited_ok hy6⟩) ?_
      obtain hs:=Option.some.inj h; subst hs
      refine T_ret fun a w hm=>T_return (fr':=[(2,.d (.str y6.1)),(3,.d (.v (.int .i64 y6.2))),(1000000,.box [.d (.str y1.2.1),.d (.v (.int .i64 y1.2.2))])]) [2,3] (by kernel_rfl) [.keep [2,3,1000000]] (by kernel_rfl) (by kernel_rfl) (by kernel_rfl) (by show _=_; kernel_rfl) (by exact ⟨⟨by kernel_rfl,by kernel_rfl⟩,trivial⟩) a w hm
theorem token_reference_c1_ok {F:Nat} {a0:Int} {r:Bool} (h:token_reference_c1 F a0=some r):ACall Tryz.prog 125 [.d (.v (.int .i32 a0))] [] (.d (.v (.bool r))) []:=by
  rw [token_reference_c1] at h
  refine ACall.intro (N:=9) Tryz.func125 rfl rfl rfl rfl rfl fun e=>?_
  refine T_reg [] [0] [] [] 1 (by kernel_rfl) (trivial) ?_
  refine T_reg [] [2] [(2,.d (.v (.bool (bif (decide (a0 < (48:Int))) then true else (decide (a0 > (57:Int)))))))] [(3,((((decide (a0 < (48:Int))) == false) && true)=true→True)),(0,((((decide (a0 < (48:Int))) == false) && true)=true→True))] 2 (by kernel_rfl) (⟨(fun hg=>trivial),(fun hg=>trivial)⟩) ?_
  obtain hs:=Option.some.inj h; subst hs
  refine T_ret fun a w hm=>T_return (fr':=[(2,.d (.v (.bool (bif (decide (a0 < (48:Int))) then true else (decide (a0 > (57:Int)))))))]) [2] (by kernel_rfl) [.keep [2]] (by kernel_rfl) (by kernel_rfl) (by kernel_rfl) (by show _=_; kernel_rfl) (by exact trivial) a w hm
theorem token_reference_ok {F:Nat} {a0:List UInt8} {r:Int×Int} (h:token_reference F a0=some r):ACall Tryz.prog 111 [.d (.str a0)] [] (.tup [.d (.v (.int .i64 r.1)),.d (.v (.int .i64 r.2))]) []:=by
  rw [token_reference] at h
  refine ACall.intro (N:=39) Tryz.func111 rfl rfl rfl rfl rfl fun e=>?_
  refine T_reg [] [0] [] [] 2 (by kernel_rfl) (trivial) ?_
  refine T_seqk ?_
  obtain ⟨hp1,h⟩:=chk_ok h
  obtain ⟨z1,hz1,h⟩:=lett_ok h
  obtain ⟨y1,hy1,h⟩:=call_ok h
  obtain ⟨z2,hz2,h⟩:=lett_ok h
  refine T_reg [(15,{ rw:=some (.d (.v (.bool z1))) }),(19,{ res:=.d (.v (.bool y1)) }),(20,{ rw:=some (.d (.v (.bool z2))) })] [0,26] [(26,.d (.v (.bool z2)))] [(3,((((a0 == []) == false) && true)=true→True)),(0,((((a0 == []) == false) && true)=true→True)),(0,((((a0 == []) == false) && true)=true→True)),(2,((((bif (a0 == []) then true else (decide ((a0.length:Int) > (3:Int)))) == false) && true)=true→True)),(0,((((bif (a0 == []) then true else (decide ((a0.length:Int) > (3:Int)))) == false) && true)=true→0≤(0:Int)∧(0:Int) < a0.length)),(0,((((bif (a0 == []) then true else (decide ((a0.length:Int) > (3:Int)))) == false) && true)=true→True)),(0,((((bif (a0 == []) then true else (decide ((a0.length:Int) > (3:Int)))) == false) && true)=true→True)),(0,((((((a0.getD (0:Int).toNat 0).toNat:Int) == (48:Int)) == true) && (((bif (a0 == []) then true else (decide ((a0.length:Int) > (3:Int)))) == false) && true))=true→True)),(0,((((((a0.getD (0:Int).toNat 0).toNat:Int) == (48:Int)) == true) && (((bif (a0 == []) then true else (decide ((a0.length:Int) > (3:Int)))) == false) && true))=true→True)),(0,((((((a0.getD (0:Int).toNat 0).toNat:Int) == (48:Int)) == true) && (((bif (a0 == []) then true else (decide ((a0.length:Int) > (3:Int)))) == false) && true))=true→True)),(0,((((bif (a0 == []) then true else (decide ((a0.length:Int) > (3:Int)))) == false) && true)=true→(True)∧AV.d (.v (.bool (bif (((a0.getD (0:Int).toNat 0).toNat:Int) == (48:Int)) then (decide ((a0.length:Int) > (1:Int))) else false)))=.d (.v (.bool z1)))),(2,((((bif (bif (a0 == []) then true else (decide ((a0.length:Int) > (3:Int)))) then true else z1) == false) && true)=true→True)),(0,((((bif (bif (a0 == []) then true else (decide ((a0.length:Int) > (3:Int)))) then true else z1) == false) && true)=true→ACall Tryz.prog 121 [.d (.str a0),.clo 125 []] [] (.d (.v (.bool y1))) [])),(0,(True)∧AV.d (.v (.bool (bif (bif (bif (a0 == []) then true else (decide ((a0.length:Int) > (3:Int)))) then true else z1) then true else y1)))=.d (.v (.bool z2)))] 0 (by kernel_rfl) (⟨(fun hg=>trivial),(fun hg=>trivial),(fun hg=>trivial),(fun hg=>trivial),(fun hg=>(hp1 hg)),(fun hg=>trivial),(fun hg=>trivial),(fun hg=>trivial),(fun hg=>trivial),(fun hg=>trivial),(fun hg=>⟨trivial,(by subst hz1; rfl)⟩),(fun hg=>trivial),(fun hg=>b_ContainsFunc 125 (by kernel_rfl) (by kernel_rfl) (fun _ _ h=>token_reference_c1_ok h) (sContains_of (fun _ _=>rfl) (gcall_ok hg hy1))),⟨trivial,(by subst hz2; rfl)⟩⟩) ?_
  refine T_cond z2 (by kernel_rfl) (fun hc=>?_) (fun hc=>?_)
  · have h:=cond_tt hc h
    refine T_reg [] [2,3] [(2,.d (.v (.int .i64 (0:Int)))),(3,.d (.v (.int .i64 (5:Int))))] [] 2 (by kernel_rfl) (trivial) ?_
    obtain hs:=Option.some.inj h; subst hs
    refine T_ret fun a w hm=>then_ret (T_return (fr':=[(2,.d (.v (.int .i64 (0:Int)))),(3,.d (.v (.int .i64 (5:Int))))]) [2,3] (by kernel_rfl) [.keep [2,3]] (by kernel_rfl) (by kernel_rfl) (by kernel_rfl) (by show _=_; kernel_rfl) (by exact trivial) a w hm)
  · have h:=cond_ff hc h
    refine T_skip fun a w hm=>then_norm (((?_:T Tryz.prog e 39 _ _ _) a w hm))
    obtain ⟨hp2,h⟩:=chk_ok h
    obtain ⟨y2,hy2,h⟩:=call_ok h
    refine T_reg [(1,{ res:=.tup [.d (.v (.int .i64 y2)),.d (.v .nilIface)] })] [4] [(4,.d (.v (.int .i64 y2)))] [(1,ACall Tryz.prog 123 [.d (.str a0)] [] (.tup [.d (.v (.int .i64 y2)),.d (.v .nilIface)]) [])] 5 (by kernel_rfl) (b_Atoi hp2 hy2) ?_
    refine T_seqk ?_
    refine T_reg [] [4,37] [(37,.d (.v (.bool (bif (decide (y2 < (1:Int))) then true else (decide (y2 > (255:Int)))))))] [(3,((((decide (y2 < (1:Int))) == false) && true)=true→True)),(0,((((decide (y2 < (1:Int))) == false) && true)=true→True))] 1 (by kernel_rfl) (⟨(fun hg=>trivial),(fun hg=>trivial)⟩) ?_
    refine T_cond (bif (decide (y2 < (1:Int))) then true else (decide (y2 > (255:Int)))) (by kernel_rfl) (fun hc=>?_) (fun hc=>?_)
    · have h:=cond_tt hc h
      refine T_reg [] [2,3] [(2,.d (.v (.int .i64 (0:Int)))),(3,.d (.v (.int .i64 (3:Int))))] [] 2 (by kernel_rfl) (trivial) ?_
      obtain hs:=Option.some.inj h; subst hs
      refine T_ret fun a w hm=>then_ret (T_return (fr':=[(2,.d (.v (.int .i64 (0:Int)))),(3,.d (.v (.int .i64 (3:Int))))]) [2,3] (by kernel_rfl) [.keep [2,3]] (by kernel_rfl) (by kernel_rfl) (by kernel_rfl) (by show _=_; kernel_rfl) (by exact trivial) a w hm)
    · have h:=cond_ff hc h
      refine T_skip fun a w hm=>then_norm (((?_:T Tryz.prog e 39 _ _ _) a w hm))
      refine T_reg [] [2,3] [(2,.d (.v (.int .i64 y2))),(3,.d (.v (.int .i64 (0:Int))))] [] 3 (by kernel_rfl) (trivial) ?_
      obtain hs:=Option.some.inj h; subst hs
      refine T_ret fun a w hm=>T_return (fr':=[(2,.d (.v (.int .i64 y2))),(3,.d (.v (.int .i64 (0:Int))))]) [2,3] (by kernel_rfl) [.keep [2,3]] (by kernel_rfl) (by kernel_rfl) (by kernel_rfl) (by show _=_; kernel_rfl) (by exact trivial) a w hm
theorem token_cursor_escape_ok {F:Nat} {c0:List UInt8} {c1:Int} {c2:List UInt8} {r:Int×(List UInt8)×Int×(List UInt8)} (h:token_cursor_escape F c0 c1 c2=some r):ACall Tryz.prog 126 [.bp 1000000 0,.bp 1000001 0] [.box [.d (.str c0),.d (.v (.int .i64 c1))],.box [.slf 0 87,.own 5 1 (c2.map cU)]] (.d (.v (.int .i64 r.1))) [.box [.d (.str r.2.1),.d (.v (.int .i64 r.2.2.1))],.box [.slf 0 87,.own 5 1 (r.2.2.2.map cU)]]:=by
  rw [token_cursor_escape] at h
  refine ACall.intro (N:=58) Tryz.func126 rfl rfl rfl rfl rfl fun e=>?_
  refine T_reg [] [0,1,1000000,1000001] [] [] 1 (by kernel_rfl) (trivial) ?_
  refine T_seqk ?_
  refine T_draw mixed [] [0,1,17,1000000,1000001] [] [(0,.bp 1000000 0),(1,.bp 1000001 0),(17,.d (.v (.bool (c1 == (c0.length:Int))))),(1000000,.box [.d (.str c0),.d (.v (.int .i64 c1))]),(1000001,.box [.slf 0 87,.own 5 1 (c2.map cU)])] [] 10 (by kernel_rfl) (trivial) ?_
  refine T_cond (c1 == (c0.length:Int)) (by kernel_rfl) (fun hc=>?_) (fun hc=>?_)
  · have h:=cond_tt hc h
    refine T_reg [] [4,1000000,1000001] [(4,.d (.v (.int .i64 (12:Int))))] [] 1 (by kernel_rfl) (trivial) ?_
    obtain hs:=Option.some.inj h; subst hs
    refine T_ret fun a w hm=>then_ret (T_return (fr':=[(4,.d (.v (.int .i64 (12:Int)))),(1000000,.box [.d (.str c0),.d (.v (.int .i64 c1))]),(1000001,.box [.slf 0 87,.own 5 1 (c2.map cU)])]) [4] (by kernel_rfl) [.keep [4,1000000,1000001]] (by kernel_rfl) (by kernel_rfl) (by kernel_rfl) (by show _=_; kernel_rfl) (by exact ⟨⟨by kernel_rfl,by kernel_rfl⟩,⟨⟨by kernel_rfl,by kernel_rfl⟩,trivial⟩⟩) a w hm)
  · have h:=cond_ff hc h
    refine T_skip fun a w hm=>then_norm (((?_:T Tryz.prog e 58 _ _ _) a w hm))
    obtain ⟨hp1,h⟩:=chk_ok h
    refine T_draw mixed [] [0,1,5,1000000,1000001] [] [(0,.bp 1000000 0),(1,.bp 1000001 0),(5,.d (.v (.int .u8 ((c0.getD c1.toNat 0).toNat:Int)))),(1000000,.box [.d (.str c0),.d (.v (.int .i64 c1))]),(1000001,.box [.slf 0 87,.own 5 1 (c2.map cU)])] [(8,0≤c1∧c1 < c0.length)] 1 (by kernel_rfl) (hp1) ?_
    refine T_reg [] [0,1,5,1000000,1000001] [(1000000,.box [.d (.str c0),.d (.v (.int .i64 (IntKind.i64.wrap (c1+(1:Int)))))])] [] 8 (by kernel_rfl) (trivial) ?_
    refine T_joinE h (fun (p:Int×(List UInt8)×Int)=>[(1,.bp 1000001 0),(5,.d (.v (.int .u8 p.1))),(1000000,.box [.d (.str p.2.1),.d (.v (.int .i64 p.2.2))]),(1000001,.box [.slf 0 87,.own 5 1 (c2.map cU)])]) (fun s h hk1=>?_) (fun s h=>?_)
    · refine T_reg [] [0,1,5,34,1000000,1000001] [(34,.d (.v (.int .u8 ((c0.getD c1.toNat 0).toNat:Int))))] [] 1 (by kernel_rfl) (trivial) ?_
      refine T_block ?_
      refine T_reg [] [0,1,5,34,35,1000000,1000001] [(35,.d (.v (.bool (((c0.getD c1.toNat 0).toNat:Int) == (10:Int)))))] [] 2 (by kernel_rfl) (trivial) ?_
      refine T_cond (((c0.getD c1.toNat 0).toNat:Int) == (10:Int)) (by kernel_rfl) (fun hc=>?_) (fun hc=>?_)
      · have h:=cond_tt hc h
        refine T_reg [] [4,1000000,1000001] [(4,.d (.v (.int .i64 (0:Int))))] [] 1 (by kernel_rfl) (trivial) ?_
        obtain hs:=Option.some.inj h; subst hs
        have h:=callE_esc hk1
        obtain hs:=Option.some.inj h; subst hs
        refine T_ret fun a w hm=>inBlock_ret (then_ret (T_return (fr':=[(4,.d (.v (.int .i64 (0:Int)))),(1000000,.box [.d (.str c0),.d (.v (.int .i64 (IntKind.i64.wrap (c1+(1:Int)))))]),(1000001,.box [.slf 0 87,.own 5 1 (c2.map cU)])]) [4] (by kernel_rfl) [.keep [4,1000000,1000001]] (by kernel_rfl) (by kernel_rfl) (by kernel_rfl) (by show _=_; kernel_rfl) (by exact ⟨⟨by kernel_rfl,by kernel_rfl⟩,⟨⟨by kernel_rfl,by kernel_rfl⟩,trivial⟩⟩) a w hm))
      · have h:=cond_ff hc h
        refine T_reg [] [0,1,5,34,37,1000000,1000001] [(37,.d (.v (.bool (((c0.getD c1.toNat 0).toNat:Int) == (110:Int)))))] [] 2 (by kernel_rfl) (trivial) ?_
        refine T_cond (((c0.getD c1.toNat 0).toNat:Int) == (110:Int)) (by kernel_rfl) (fun hc=>?_) (fun hc=>?_)
        · have h:=cond_tt hc h
          obtain hs:=Option.some.inj h; subst hs
          refine T_reg_end [] [1,5,1000000,1000001] [(5,.d (.v (.int .u8 (10:Int))))] [] 1 (by kernel_rfl) (trivial) fun a w hm=>inBlock_norm (then_norm (⟨_,rfl,hm.co (cs:=[.keep [1,5,1000000,1000001]]) (by show _=_; kernel_rfl)⟩))
        · have h:=cond_ff hc h
          refine T_reg [] [0,1,5,34,39,1000000,1000001] [(39,.d (.v (.bool (((c0.getD c1.toNat 0).toNat:Int) == (116:Int)))))] [] 2 (by kernel_rfl) (trivial) ?_
          refine T_cond (((c0.getD c1.toNat 0).toNat:Int) == (116:Int)) (by kernel_rfl) (fun hc=>?_) (fun hc=>?_)
          · have h:=cond_tt hc h
            obtain hs:=Option.some.inj h; subst hs
            refine T_reg_end [] [1,5,1000000,1000001] [(5,.d (.v (.int .u8 (9:Int))))] [] 1 (by kernel_rfl) (trivial) fun a w hm=>inBlock_norm (then_norm (⟨_,rfl,hm.co (cs:=[.keep [1,5,1000000,1000001]]) (by show _=_; kernel_rfl)⟩))
          · have h:=cond_ff hc h
            refine T_joinc h (fun (p:Bool)=>[(0,.bp 1000000 0),(1,.bp 1000001 0),(5,.d (.v (.int .u8 ((c0.getD c1.toNat 0).toNat:Int)))),(34,.d (.v (.int .u8 ((c0.getD c1.toNat 0).toNat:Int)))),(41,.d (.v (.bool p))),(1000000,.box [.d (.str c0),.d (.v (.int .i64 (IntKind.i64.wrap (c1+(1:Int)))))]),(1000001,.box [.slf 0 87,.own 5 1 (c2.map cU)])]) (fun s h=>?_) (fun v1 h=>?_)
            · refine T_reg [] [0,1,5,34,41,1000000,1000001] [(41,.d (.v (.bool (((c0.getD c1.toNat 0).toNat:Int) == (92:Int)))))] [] 2 (by kernel_rfl) (trivial) ?_
              refine T_cond (((c0.getD c1.toNat 0).toNat:Int) == (92:Int)) (by kernel_rfl) (fun hc=>?_) (fun hc=>?_)
              · have h:=cond_tt hc h
                obtain hs:=Option.some.inj h; subst hs
                refine T_skip fun a w hm=>then_norm (hm.co (cs:=[.keep [0,1,5,34,41,1000000,1000001]]) (by show _=_; kernel_rfl))
              · have h:=cond_ff hc h
                refine T_reg [] [0,1,5,34,41,1000000,1000001] [(41,.d (.v (.bool (((c0.getD c1.toNat 0).toNat:Int) == (40:Int)))))] [] 2 (by kernel_rfl) (trivial) ?_
                refine T_cond (((c0.getD c1.toNat 0).toNat:Int) == (40:Int)) (by kernel_rfl) (fun hc=>?_) (fun hc=>?_)
                · have h:=cond_tt hc h
                  obtain hs:=Option.some.inj h; subst hs
                  refine T_skip fun a w hm=>then_norm (hm.co (cs:=[.keep [0,1,5,34,41,1000000,1000001]]) (by show _=_; kernel_rfl))
                · have h:=cond_ff hc h
                  obtain hs:=Option.some.inj h; subst hs
                  refine T_reg_end [] [0,1,5,34,41,1000000,1000001] [(41,.d (.v (.bool (((c0.getD c1.toNat 0).toNat:Int) == (41:Int)))))] [] 2 (by kernel_rfl) (trivial) fun a w hm=>then_norm (hm.co (cs:=[.keep [0,1,5,34,41,1000000,1000001]]) (by show _=_; kernel_rfl))
            · skip
              refine T_cond v1 (by kernel_rfl) (fun hc=>?_) (fun hc=>?_)
              · have h:=cond_tt hc h
                obtain hs:=Option.some.inj h; subst hs
                refine T_skip fun a w hm=>inBlock_norm (then_norm (⟨_,rfl,hm.co (cs:=[.keep [1,5,1000000,1000001]]) (by show _=_; kernel_rfl)⟩))
              · have h:=cond_ff hc h
                refine T_reg [] [0,1,45,1000000,1000001] [(45,.d (.v (.bool (((c0.getD c1.toNat 0).toNat:Int) == (120:Int)))))] [] 2 (by kernel_rfl) (trivial) ?_
                refine T_cond (((c0.getD c1.toNat 0).toNat:Int) == (120:Int)) (by kernel_rfl) (fun hc=>?_) (fun hc=>?_)
                · have h:=cond_tt hc h
                  obtain ⟨y1,hy1,h⟩:=call_ok h
                  refine T_reg [(1,{ res:=.tup [.d (.v (.int .u8 y1.1)),.d (.v (.bool y1.2.1))],vout:=[.box [.d (.str y1.2.2.1),.d (.v (.int .i64 y1.2.2.2))]],xs:=[1000000] })] [1,6,7,1000000,1000001] [(6,.d (.v (.int .u8 y1.1))),(7,.d (.v (.bool y1.2.1))),(1000000,.box [.d (.str y1.2.2.1),.d (.v (.int .i64 y1.2.2.2))])] [(1,ACall Tryz.prog 124 [.bp 1000000 0] [.box [.d (.str c0),.d (.v (.int .i64 (IntKind.i64.wrap (c1+(1:Int)))))]] (.tup [.d (.v (.int .u8 y1.1)),.d (.v (.bool y1.2.1))]) [.box [.d (.str y1.2.2.1),.d (.v (.int .i64 y1.2.2.2))]])] 5 (by kernel_rfl) (token_cursor_pair_ok hy1) ?_
                  refine T_seqk ?_
                  refine T_reg [] [1,6,53,1000000,1000001] [(53,.d (.v (.bool (!y1.2.1))))] [] 2 (by kernel_rfl) (trivial) ?_
                  refine T_cond (!y1.2.1) (by kernel_rfl) (fun hc=>?_) (fun hc=>?_)
                  · have h:=cond_tt hc h
                    refine T_reg [] [4,1000000,1000001] [(4,.d (.v (.int .i64 (5:Int))))] [] 1 (by kernel_rfl) (trivial) ?_
                    obtain hs:=Option.some.inj h; subst hs
                    have h:=callE_esc hk1
                    obtain hs:=Option.some.inj h; subst hs
                    refine T_ret fun a w hm=>then_ret (inBlock_ret (then_ret (T_return (fr':=[(4,.d (.v (.int .i64 (5:Int)))),(1000000,.box [.d (.str y1.2.2.1),.d (.v (.int .i64 y1.2.2.2))]),(1000001,.box [.slf 0 87,.own 5 1 (c2.map cU)])]) [4] (by kernel_rfl) [.keep [4,1000000,1000001]] (by kernel_rfl) (by kernel_rfl) (by kernel_rfl) (by show _=_; kernel_rfl) (by exact ⟨⟨by kernel_rfl,by kernel_rfl⟩,⟨⟨by kernel_rfl,by kernel_rfl⟩,trivial⟩⟩) a w hm)))
                  · have h:=cond_ff hc h
                    refine T_skip fun a w hm=>then_norm (((?_:T Tryz.prog e 58 _ _ _) a w hm))
                    obtain hs:=Option.some.inj h; subst hs
                    refine T_reg_end [] [1,5,1000000,1000001] [(5,.d (.v (.int .u8 y1.1)))] [] 2 (by kernel_rfl) (trivial) fun a w hm=>inBlock_norm (then_norm (⟨_,rfl,hm.co (cs:=[.keep [1,5,1000000,1000001]]) (by show _=_; kernel_rfl)⟩))
                · have h:=cond_ff hc h
                  refine T_reg [] [4,1000000,1000001] [(4,.d (.v (.int .i64 (5:Int))))] [] 1 (by kernel_rfl) (trivial) ?_
                  obtain hs:=Option.some.inj h; subst hs
                  have h:=callE_esc hk1
                  obtain hs:=Option.some.inj h; subst hs
                  refine T_ret fun a w hm=>inBlock_ret (then_ret (T_return (fr':=[(4,.d (.v (.int .i64 (5:Int)))),(1000000,.box [.d (.str c0),.d (.v (.int .i64 (IntKind.i64.wrap (c1+(1:Int)))))]),(1000001,.box [.slf 0 87,.own 5 1 (c2.map cU)])]) [4] (by kernel_rfl) [.keep [4,1000000,1000001]] (by kernel_rfl) (by kernel_rfl) (by kernel_rfl) (by show _=_; kernel_rfl) (by exact ⟨⟨by kernel_rfl,by kernel_rfl⟩,⟨⟨by kernel_rfl,by kernel_rfl⟩,trivial⟩⟩) a w hm))
    · obtain ⟨v2,v3,v4⟩:=s
      try dsimp only at h
      obtain ⟨y2,hy2,h⟩:=call_ok h
      refine T_reg [(2,{ res:=.d (.v .nilIface),vout:=[.box [.slf 0 87,.own 5 1 (y2.2.map cU)]],xs:=[1000001] })] [1000000,1000001] [(1000001,.box [.slf 0 87,.own 5 1 (y2.2.map cU)])] [(2,ACall Tryz.prog 50 [.bp 1000000 0,.d (.v (.int .u8 v2))] [.box [.slf 0 87,.own 5 1 (c2.map cU)]] (.d (.v .nilIface)) [.box [.slf 0 87,.own 5 1 (y2.2.map cU)]])] 0 (by kernel_rfl) (strings_Builder_WriteByte_ok hy2) ?_
      refine T_reg [] [4,1000000,1000001] [(4,.d (.v (.int .i64 (0:Int))))] [] 1 (by kernel_rfl) (trivial) ?_
      obtain hs:=Option.some.inj h; subst hs
      refine T_ret fun a w hm=>T_return (fr':=[(4,.d (.v (.int .i64 (0:Int)))),(1000000,.box [.d (.str v3),.d (.v (.int .i64 v4))]),(1000001,.box [.slf 0 87,.own 5 1 (y2.2.map cU)])]) [4] (by kernel_rfl) [.keep [4,1000000,1000001]] (by kernel_rfl) (by kernel_rfl) (by kernel_rfl) (by show _=_; kernel_rfl) (by exact ⟨⟨by kernel_rfl,by kernel_rfl⟩,⟨⟨by kernel_rfl,by kernel_rfl⟩,trivial⟩⟩) a w hm
theorem token_cursor_text_ok {F:Nat} {c0:List UInt8} {c1:Int} {r:(List UInt8)×Int×(List UInt8)×Int} (h:token_cursor_text F c0 c1=some r):ACall Tryz.prog 112 [.bp 1000000 0] [.box [.d (.str c0),.d (.v (.int .i64 c1))]] (.tup [.d (.str r.1),.d (.v (.int .i64 r.2.1))]) [.box [.d (.str r.2.2.1),.d (.v (.int .i64 r.2.2.2))]]:=by
  rw [token_cursor_text] at h
  refine ACall.intro (N:=60) Tryz.func112 rfl rfl rfl rfl rfl fun e=>?_
  refine T_reg [] [0,1000000] [] [] 2 (by kernel_rfl) (trivial) ?_
  refine T_reg [(0,{ slfs:=[(0,0)] })] [0,4,1000000] [(4,.box [.slf 0 87,.own 5 1 ([].map cU)])] [] 1 (by kernel_rfl) (trivial) ?_
  refine T_reg [] [0,4,5,1000000] [(5,.d (.v (.int .i64 (1:Int))))] [] 1 (by kernel_rfl) (trivial) ?_
  refine T_joinE h (fun (p:(List UInt8)×Int)=>[(1000000,.box [.d (.str p.1),.d (.v (.int .i64 p.2))])]) (fun s h hk1=>?_) (fun s h=>?_)
  · refine T_co [.keep [0,4,5,1000000]] ((fun (p:(List UInt8)×(List UInt8)×Int×Int)=>[(0,.bp 1000000 0),(4,.box [.slf 0 87,.own 5 1 (p.1.map cU)]),(5,.d (.v (.int .i64 p.2.2.2))),(1000000,.box [.d (.str p.2.1),.d (.v (.int .i64 p.2.2.1))])]) ([],c0,c1,(1:Int))) (by show _=_; kernel_rfl) ?_
    refine T_block ?_
    refine T_loopF (ι:=(List UInt8)×(List UInt8)×Int×Int) (fun (p:(List UInt8)×(List UInt8)×Int×Int)=>[(0,.bp 1000000 0),(4,.box [.slf 0 87,.own 5 1 (p.1.map cU)]),(5,.d (.v (.int .i64 p.2.2.2))),(1000000,.box [.d (.str p.2.1),.d (.v (.int .i64 p.2.2.1))])]) (fun n p=>token_cursor_text_L0 F n p.1 p.2.1 p.2.2.1 p.2.2.2=some s) (fun i hh=>by simp [token_cursor_text_L0] at hh) (fun n p h=>?_) F ([],c0,c1,(1:Int)) h
    obtain ⟨v1,v2,v3,v4⟩:=p
    have h:token_cursor_text_L0 F (n+1) v1 v2 v3 v4=some s:=h
    rw [token_cursor_text_L0] at h
    refine T_seqk ?_
    refine T_draw mixed [] [0,4,5,17,1000000] [] [(0,.bp 1000000 0),(4,.box [.slf 0 87,.own 5 1 (v1.map cU)]),(5,.d (.v (.int .i64 v4))),(17,.d (.v (.bool (decide (v3 < (v2.length:Int)))))),(1000000,.box [.d (.str v2),.d (.v (.int .i64 v3))])] [] 10 (by kernel_rfl) (trivial) ?_
    refine T_cond (decide (v3 < (v2.length:Int))) (by kernel_rfl) (fun hc=>?_) (fun hc=>?_)
    · have h:=cond_tt hc h
      refine T_skip fun a w hm=>then_norm (((?_:T Tryz.prog e 60 _ _ _) a w hm))
      refine T_block ?_
      obtain ⟨hp1,h⟩:=chk_ok h
      refine T_draw mixed [] [0,4,5,6,1000000] [] [(0,.bp 1000000 0),(4,.box [.slf 0 87,.own 5 1 (v1.map cU)]),(5,.d (.v (.int .i64 v4))),(6,.d (.v (.int .u8 ((v2.getD v3.toNat 0).toNat:Int)))),(1000000,.box [.d (.str v2),.d (.v (.int .i64 v3))])] [(8,0≤v3∧v3 < v2.length)] 1 (by kernel_rfl) (hp1) ?_
      refine T_reg [] [0,4,5,6,1000000] [(1000000,.box [.d (.str v2),.d (.v (.int .i64 (IntKind.i64.wrap (v3+(1:Int)))))])] [] 8 (by kernel_rfl) (trivial) ?_
      refine T_joinE h (fun (p:Int)=>[(0,.bp 1000000 0),(4,.box [.slf 0 87,.own 5 1 (v1.map cU)]),(5,.d (.v (.int .i64 p))),(6,.d (.v (.int .u8 ((v2.getD v3.toNat 0).toNat:Int)))),(1000000,.box [.d (.str v2),.d (.v (.int .i64 (IntKind.i64.wrap (v3+(1:Int)))))])]) (fun s h hk2=>?_) (fun v5 h=>?_)
      · refine T_reg [] [0,4,5,6,34,1000000] [(34,.d (.v (.int .u8 ((v2.getD v3.toNat 0).toNat:Int))))] [] 1 (by kernel_rfl) (trivial) ?_
        refine T_block ?_
        refine T_reg [] [0,4,5,6,34,35,1000000] [(35,.d (.v (.bool (((v2.getD v3.toNat 0).toNat:Int) == (92:Int)))))] [] 2 (by kernel_rfl) (trivial) ?_
        refine T_cond (((v2.getD v3.toNat 0).toNat:Int) == (92:Int)) (by kernel_rfl) (fun hc=>?_) (fun hc=>?_)
        · have h:=cond_tt hc h
          refine T_seqk ?_
          obtain ⟨y1,hy1,h⟩:=call_ok h
          refine T_reg [(1,{ res:=.d (.v (.int .i64 y1.1)),vout:=[.box [.d (.str y1.2.1),.d (.v (.int .i64 y1.2.2.1))],.box [.slf 0 87,.own 5 1 (y1.2.2.2.map cU)]],xs:=[1000000,4] })] [0,4,5,7,1000000] [(4,.box [.slf 0 87,.own 5 1 (y1.2.2.2.map cU)]),(7,.d (.v (.int .i64 y1.1))),(1000000,.box [.d (.str y1.2.1),.d (.v (.int .i64 y1.2.2.1))])] [(1,ACall Tryz.prog 126 [.bp 1000000 0,.bp 1000001 0] [.box [.d (.str v2),.d (.v (.int .i64 (IntKind.i64.wrap (v3+(1:Int)))))],.box [.slf 0 87,.own 5 1 (v1.map cU)]] (.d (.v (.int .i64 y1.1))) [.box [.d (.str y1.2.1),.d (.v (.int .i64 y1.2.2.1))],.box [.slf 0 87,.own 5 1 (y1.2.2.2.map cU)]])] 1 (by kernel_rfl) (token_cursor_escape_ok hy1) ?_
          refine T_reg [] [0,4,5,7,40,1000000] [(40,.d (.v (.bool (y1.1 != (0:Int)))))] [] 2 (by kernel_rfl) (trivial) ?_
          refine T_cond (y1.1 != (0:Int)) (by kernel_rfl) (fun hc=>?_) (fun hc=>?_)
          · have h:=cond_tt hc h
            refine T_reg [] [2,3,1000000] [(2,.d (.str [])),(3,.d (.v (.int .i64 y1.1)))] [] 3 (by kernel_rfl) (trivial) ?_
            obtain hs:=Option.some.inj h; subst hs
            have h:=callE_escr hk2
            obtain hs:=Option.some.inj h; subst hs
            have h:=callE_esc hk1
            obtain hs:=Option.some.inj h; subst hs
            refine T_ret fun a w hm=>then_ret (inBlock_ret (then_ret (inBlock_ret (then_ret (inBlock_ret (then_ret (T_return (fr':=[(2,.d (.str [])),(3,.d (.v (.int .i64 y1.1))),(1000000,.box [.d (.str y1.2.1),.d (.v (.int .i64 y1.2.2.1))])]) [2,3] (by kernel_rfl) [.keep [2,3,1000000]] (by kernel_rfl) (by kernel_rfl) (by kernel_rfl) (by show _=_; kernel_rfl) (by exact ⟨⟨by kernel_rfl,by kernel_rfl⟩,trivial⟩) a w hm)))))))
          · have h:=cond_ff hc h
            refine T_skip fun a w hm=>then_norm (((?_:T Tryz.prog e 60 _ _ _) a w hm))
            obtain hs:=Option.some.inj h; subst hs
            have h:=callE_escl hk2
            refine T_exit fun a w hm=>inBlock_pass rfl (then_exit (inBlock_exit (then_norm (⟨(y1.2.2.2,y1.2.1,y1.2.2.1,v4),h,hm.co (cs:=[.keep [0,4,5,1000000]]) (by show _=_; kernel_rfl)⟩))))
        · have h:=cond_ff hc h
          refine T_reg [] [0,4,5,6,34,42,1000000] [(42,.d (.v (.bool (((v2.getD v3.toNat 0).toNat:Int) == (40:Int)))))] [] 2 (by kernel_rfl) (trivial) ?_
          refine T_cond (((v2.getD v3.toNat 0).toNat:Int) == (40:Int)) (by kernel_rfl) (fun hc=>?_) (fun hc=>?_)
          · have h:=cond_tt hc h
            refine T_reg [] [0,4,5,6,1000000] [(5,.d (.v (.int .i64 (IntKind.i64.wrap (v4+(1:Int))))))] [] 3 (by kernel_rfl) (trivial) ?_
            refine T_reg [] [0,4,5,6,47,1000000] [(47,.d (.v (.bool (decide ((IntKind.i64.wrap (v4+(1:Int))) > (16:Int))))))] [] 2 (by kernel_rfl) (trivial) ?_
            refine T_cond (decide ((IntKind.i64.wrap (v4+(1:Int))) > (16:Int))) (by kernel_rfl) (fun hc=>?_) (fun hc=>?_)
            · have h:=cond_tt hc h
              refine T_reg [] [2,3,1000000] [(2,.d (.str [])),(3,.d (.v (.int .i64 (15:Int))))] [] 2 (by kernel_rfl) (trivial) ?_
              obtain hs:=Option.some.inj h; subst hs
              have h:=callE_escr hk2
              obtain hs:=Option.some.inj h; subst hs
              have h:=callE_esc hk1
              obtain hs:=Option.some.inj h; subst hs
              refine T_ret fun a w hm=>inBlock_ret (then_ret (inBlock_ret (then_ret (inBlock_ret (then_ret (T_return (fr':=[(2,.d (.str [])),(3,.d (.v (.int .i64 (15:Int)))),(1000000,.box [.d (.str v2),.d (.v (.int .i64 (IntKind.i64.wrap (v3+(1:Int)))))])]) [2,3] (by kernel_rfl) [.keep [2,3,1000000]] (by kernel_rfl) (by kernel_rfl) (by kernel_rfl) (by show _=_; kernel_rfl) (by exact ⟨⟨by kernel_rfl,by kernel_rfl⟩,trivial⟩) a w hm))))))
            · have h:=cond_ff hc h
              obtain hs:=Option.some.inj h; subst hs
              refine T_skip fun a w hm=>inBlock_norm (then_norm (⟨_,rfl,hm.co (cs:=[.keep [0,4,5,6,1000000]]) (by show _=_; kernel_rfl)⟩))
          · have h:=cond_ff hc h
            refine T_reg [] [0,4,5,6,48,1000000] [(48,.d (.v (.bool (((v2.getD v3.toNat 0).toNat:Int) == (41:Int)))))] [] 2 (by kernel_rfl) (trivial) ?_
            refine T_cond (((v2.getD v3.toNat 0).toNat:Int) == (41:Int)) (by kernel_rfl) (fun hc=>?_) (fun hc=>?_)
            · have h:=cond_tt hc h
              obtain hs:=Option.some.inj h; subst hs
              refine T_reg_end [] [0,4,5,6,1000000] [(5,.d (.v (.int .i64 (IntKind.i64.wrap (v4 - (1:Int))))))] [] 3 (by kernel_rfl) (trivial) fun a w hm=>inBlock_norm (then_norm (⟨_,rfl,hm.co (cs:=[.keep [0,4,5,6,1000000]]) (by show _=_; kernel_rfl)⟩))
            · have h:=cond_ff hc h
              obtain hs:=Option.some.inj h; subst hs
              refine T_skip fun a w hm=>inBlock_norm (then_norm (⟨_,rfl,hm.co (cs:=[.keep [0,4,5,6,1000000]]) (by show _=_; kernel_rfl)⟩))
      · skip
        refine T_seqk ?_
        refine T_reg [] [0,4,5,6,53,1000000] [(53,.d (.v (.bool (v5 == (0:Int)))))] [] 2 (by kernel_rfl) (trivial) ?_
        refine T_cond (v5 == (0:Int)) (by kernel_rfl) (fun hc=>?_) (fun hc=>?_)
        · have h:=cond_tt hc h
          obtain ⟨hp2,h⟩:=chk_ok h
          obtain ⟨y2,hy2,h⟩:=call_ok h
          refine T_reg [(0,{ xs:=[4],vout:=[.box [.slf 0 87,.junk]],res:=.d (.str v1) }),(1,{ res:=.tup [.d (.str y2.1),.d (.v (.int .i64 y2.2))] })] [2,3,1000000] [(2,.d (.str y2.1)),(3,.d (.v (.int .i64 y2.2)))] [(0,ACall Tryz.prog 53 [.bp 1000000 0] [.box [.slf 0 87,.own 5 1 (v1.map cU)]] (.d (.str v1)) [.box [.slf 0 87,.junk]]),(0,ACall Tryz.prog 118 [.d (.str v1),.d (.v (.int .i64 (1024:Int)))] [] (.tup [.d (.str y2.1),.d (.v (.int .i64 y2.2))]) [])] 4 (by kernel_rfl) (⟨b_String (l:=v1) hp2 (by kernel_rfl) (by kernel_rfl),token_limited_ok hy2⟩) ?_
          obtain hs:=Option.some.inj h; subst hs
          have h:=callE_esc hk1
          obtain hs:=Option.some.inj h; subst hs
          refine T_ret fun a w hm=>then_ret (inBlock_ret (then_ret (inBlock_ret (then_ret (T_return (fr':=[(2,.d (.str y2.1)),(3,.d (.v (.int .i64 y2.2))),(1000000,.box [.d (.str v2),.d (.v (.int .i64 (IntKind.i64.wrap (v3+(1:Int)))))])]) [2,3] (by kernel_rfl) [.keep [2,3,1000000]] (by kernel_rfl) (by kernel_rfl) (by kernel_rfl) (by show _=_; kernel_rfl) (by exact ⟨⟨by kernel_rfl,by kernel_rfl⟩,trivial⟩) a w hm)))))
        · have h:=cond_ff hc h
          refine T_skip fun a w hm=>then_norm (((?_:T Tryz.prog e 60 _ _ _) a w hm))
          obtain ⟨y3,hy3,h⟩:=call_ok h
          refine T_reg_end [(1,{ res:=.d (.v .nilIface),vout:=[.box [.slf 0 87,.own 5 1 (y3.2.map cU)]],xs:=[4] })] [0,4,5,1000000] [(4,.box [.slf 0 87,.own 5 1 (y3.2.map cU)])] [(1,ACall Tryz.prog 50 [.bp 1000000 0,.d (.v (.int .u8 ((v2.getD v3.toNat 0).toNat:Int)))] [.box [.slf 0 87,.own 5 1 (v1.map cU)]] (.d (.v .nilIface)) [.box [.slf 0 87,.own 5 1 (y3.2.map cU)]])] 0 (by kernel_rfl) (strings_Builder_WriteByte_ok hy3) fun a w hm=>inBlock_norm (then_norm (⟨(y3.2,v2,IntKind.i64.wrap (v3+(1:Int)),v5),h,hm.co (cs:=[.keep [0,4,5,1000000]]) (by show _=_; kernel_rfl)⟩))
    · have h:=cond_ff hc h
      obtain hs:=Option.some.inj h; subst hs
      refine T_exit fun a w hm=>then_exit (then_exit (inBlock_exit (then_norm (⟨_,rfl,hm.co (cs:=[.keep [1000000]]) (by show _=_; kernel_rfl)⟩))))
  · obtain ⟨v6,v7⟩:=s
    try dsimp only at h
    refine T_reg [] [2,3,1000000] [(2,.d (.str [])),(3,.d (.v (.int .i64 (12:Int))))] [] 2 (by kernel_rfl) (trivial) ?_
    obtain hs:=Option.some.inj h; subst hs
    refine T_ret fun a w hm=>T_return (fr':=[(2,.d (.str [])),(3,.d (.v (.int .i64 (12:Int)))),(1000000,.box [.d (.str v6),.d (.v (.int .i64 v7))])]) [2,3] (by kernel_rfl) [.keep [2,3,1000000]] (by kernel_rfl) (by kernel_rfl) (by kernel_rfl) (by show _=_; kernel_rfl) (by exact ⟨⟨by kernel_rfl,by kernel_rfl⟩,trivial⟩) a w hm
theorem token_cursor_hex_ok {F:Nat} {c0:List UInt8} {c1:Int} {r:(List UInt8)×Int×(List UInt8)×Int} (h:token_cursor_hex F c0 c1=some r):ACall Tryz.prog 113 [.bp 1000000 0] [.box [.d (.str c0),.d (.v (.int .i64 c1))]] (.tup [.d (.str r.1),.d (.v (.int .i64 r.2.1))]) [.box [.d (.str r.2.2.1),.d (.v (.int .i64 r.2.2.2))]]:=by
  rw [token_cursor_hex] at h
  refine ACall.intro (N:=67) Tryz.func113 rfl rfl rfl rfl rfl fun e=>?_
  refine T_reg [] [0,1000000] [] [] 2 (by kernel_rfl) (trivial) ?_
  refine T_reg [(0,{ slfs:=[(0,0)] })] [0,4,1000000] [(4,.box [.slf 0 87,.own 5 1 ([].map cU)])] [] 1 (by kernel_rfl) (trivial) ?_
  refine T_reg [] [0,4,5,6,1000000] [(5,.d (.v (.int .u8 (0:Int)))),(6,.d (.v (.int .i64 (0:Int))))] [] 2 (by kernel_rfl) (trivial) ?_
  refine T_joinE h (fun (p:Int)=>[(1000000,.box [.d (.str c0),.d (.v (.int .i64 p))])]) (fun s h hk1=>?_) (fun v6 h=>?_)
  · refine T_co [.keep [0,4,5,6,1000000]] ((fun (p:Int×(List UInt8)×Int×Int)=>[(0,.bp 1000000 0),(4,.box [.slf 0 87,.own 5 1 (p.2.1.map cU)]),(5,.d (.v (.int .u8 p.2.2.1))),(6,.d (.v (.int .i64 p.2.2.2))),(1000000,.box [.d (.str c0),.d (.v (.int .i64 p.1))])]) (c1,[],(0:Int),(0:Int))) (by show _=_; kernel_rfl) ?_
    refine T_block ?_
    refine T_loopF (ι:=Int×(List UInt8)×Int×Int) (fun (p:Int×(List UInt8)×Int×Int)=>[(0,.bp 1000000 0),(4,.box [.slf 0 87,.own 5 1 (p.2.1.map cU)]),(5,.d (.v (.int .u8 p.2.2.1))),(6,.d (.v (.int .i64 p.2.2.2))),(1000000,.box [.d (.str c0),.d (.v (.int .i64 p.1))])]) (fun n p=>token_cursor_hex_L0 F c0 n p.1 p.2.1 p.2.2.1 p.2.2.2=some s) (fun i hh=>by simp [token_cursor_hex_L0] at hh) (fun n p h=>?_) F (c1,[],(0:Int),(0:Int)) h
    obtain ⟨v1,v2,v3,v4⟩:=p
    have h:token_cursor_hex_L0 F c0 (n+1) v1 v2 v3 v4=some s:=h
    rw [token_cursor_hex_L0] at h
    refine T_seqk ?_
    refine T_draw mixed [] [0,4,5,6,19,1000000] [] [(0,.bp 1000000 0),(4,.box [.slf 0 87,.own 5 1 (v2.map cU)]),(5,.d (.v (.int .u8 v3))),(6,.d (.v (.int .i64 v4))),(19,.d (.v (.bool (decide (v1 < (c0.length:Int)))))),(1000000,.box [.d (.str c0),.d (.v (.int .i64 v1))])] [] 10 (by kernel_rfl) (trivial) ?_
    refine T_cond (decide (v1 < (c0.length:Int))) (by kernel_rfl) (fun hc=>?_) (fun hc=>?_)
    · have h:=cond_tt hc h
      refine T_skip fun a w hm=>then_norm (((?_:T Tryz.prog e 67 _ _ _) a w hm))
      refine T_block ?_
      obtain ⟨hp1,h⟩:=chk_ok h
      refine T_draw mixed [] [0,4,5,6,7,1000000] [] [(0,.bp 1000000 0),(4,.box [.slf 0 87,.own 5 1 (v2.map cU)]),(5,.d (.v (.int .u8 v3))),(6,.d (.v (.int .i64 v4))),(7,.d (.v (.int .u8 ((c0.getD v1.toNat 0).toNat:Int)))),(1000000,.box [.d (.str c0),.d (.v (.int .i64 v1))])] [(8,0≤v1∧v1 < c0.length)] 1 (by kernel_rfl) (hp1) ?_
      refine T_reg [] [0,4,5,6,7,1000000] [(1000000,.box [.d (.str c0),.d (.v (.int .i64 (IntKind.i64.wrap (v1+(1:Int)))))])] [] 8 (by kernel_rfl) (trivial) ?_
      refine T_seqk ?_
      obtain ⟨y1,hy1,h⟩:=call_ok h
      refine T_reg [(1,{ res:=.d (.v (.bool y1)) })] [0,4,5,6,7,37,1000000] [(37,.d (.v (.bool y1)))] [(1,ACall Tryz.prog 73 [.d (.v (.int .u8 ((c0.getD v1.toNat 0).toNat:Int)))] [] (.d (.v (.bool y1))) [])] 0 (by kernel_rfl) (token_white_ok hy1) ?_
      refine T_cond y1 (by kernel_rfl) (fun hc=>?_) (fun hc=>?_)
      · have h:=cond_tt hc h
        refine T_exit fun a w hm=>then_exit (inBlock_exit (then_norm (⟨(IntKind.i64.wrap (v1+(1:Int)),v2,v3,v4),h,hm.co (cs:=[.keep [0,4,5,6,1000000]]) (by show _=_; kernel_rfl)⟩)))
      · have h:=cond_ff hc h
        refine T_skip fun a w hm=>then_norm (((?_:T Tryz.prog e 67 _ _ _) a w hm))
        refine T_seqk ?_
        obtain ⟨z1,hz1,h⟩:=lett_ok h
        refine T_reg [(6,{ rw:=some (.d (.v (.bool z1))) })] [0,4,5,6,7,44,1000000] [(44,.d (.v (.bool z1)))] [(3,((((((c0.getD v1.toNat 0).toNat:Int) == (62:Int)) == true) && true)=true→True)),(0,((((((c0.getD v1.toNat 0).toNat:Int) == (62:Int)) == true) && true)=true→(2:Int)≠0)),(0,((((((c0.getD v1.toNat 0).toNat:Int) == (62:Int)) == true) && true)=true→True)),(0,(True)∧AV.d (.v (.bool (bif (((c0.getD v1.toNat 0).toNat:Int) == (62:Int)) then ((v4.tmod (2:Int)) == (0:Int)) else false)))=.d (.v (.bool z1)))] 0 (by kernel_rfl) (⟨(fun hg=>trivial),(fun hg=>(show (2:Int)≠0 by decide)),(fun hg=>trivial),⟨trivial,(by subst hz1; rfl)⟩⟩) ?_
        refine T_cond z1 (by kernel_rfl) (fun hc=>?_) (fun hc=>?_)
        · have h:=cond_tt hc h
          obtain ⟨hp2,h⟩:=chk_ok h
          obtain ⟨y2,hy2,h⟩:=call_ok h
          refine T_reg [(0,{ xs:=[4],vout:=[.box [.slf 0 87,.junk]],res:=.d (.str v2) }),(1,{ res:=.tup [.d (.str y2.1),.d (.v (.int .i64 y2.2))] })] [2,3,1000000] [(2,.d (.str y2.1)),(3,.d (.v (.int .i64 y2.2)))] [(0,ACall Tryz.prog 53 [.bp 1000000 0] [.box [.slf 0 87,.own 5 1 (v2.map cU)]] (.d (.str v2)) [.box [.slf 0 87,.junk]]),(0,ACall Tryz.prog 118 [.d (.str v2),.d (.v (.int .i64 (1024:Int)))] [] (.tup [.d (.str y2.1),.d (.v (.int .i64 y2.2))]) [])] 4 (by kernel_rfl) (⟨b_String (l:=v2) hp2 (by kernel_rfl) (by kernel_rfl),token_limited_ok hy2⟩) ?_
          obtain hs:=Option.some.inj h; subst hs
          have h:=callE_esc hk1
          obtain hs:=Option.some.inj h; subst hs
          refine T_ret fun a w hm=>then_ret (inBlock_ret (then_ret (inBlock_ret (then_ret (T_return (fr':=[(2,.d (.str y2.1)),(3,.d (.v (.int .i64 y2.2))),(1000000,.box [.d (.str c0),.d (.v (.int .i64 (IntKind.i64.wrap (v1+(1:Int)))))])]) [2,3] (by kernel_rfl) [.keep [2,3,1000000]] (by kernel_rfl) (by kernel_rfl) (by kernel_rfl) (by show _=_; kernel_rfl) (by exact ⟨⟨by kernel_rfl,by kernel_rfl⟩,trivial⟩) a w hm)))))
        · have h:=cond_ff hc h
          refine T_skip fun a w hm=>then_norm (((?_:T Tryz.prog e 67 _ _ _) a w hm))
          obtain ⟨y3,hy3,h⟩:=call_ok h
          refine T_reg [(1,{ res:=.tup [.d (.v (.int .u8 y3.1)),.d (.v (.bool y3.2))] })] [0,4,5,6,8,9,1000000] [(8,.d (.v (.int .u8 y3.1))),(9,.d (.v (.bool y3.2)))] [(1,ACall Tryz.prog 127 [.d (.v (.int .u8 ((c0.getD v1.toNat 0).toNat:Int)))] [] (.tup [.d (.v (.int .u8 y3.1)),.d (.v (.bool y3.2))]) [])] 5 (by kernel_rfl) (token_hexDigit_ok hy3) ?_
          refine T_seqk ?_
          refine T_reg [] [0,4,5,6,8,55,1000000] [(55,.d (.v (.bool (!y3.2))))] [] 2 (by kernel_rfl) (trivial) ?_
          refine T_cond (!y3.2) (by kernel_rfl) (fun hc=>?_) (fun hc=>?_)
          · have h:=cond_tt hc h
            refine T_reg [] [2,3,1000000] [(2,.d (.str [])),(3,.d (.v (.int .i64 (5:Int))))] [] 2 (by kernel_rfl) (trivial) ?_
            obtain hs:=Option.some.inj h; subst hs
            have h:=callE_esc hk1
            obtain hs:=Option.some.inj h; subst hs
            refine T_ret fun a w hm=>then_ret (inBlock_ret (then_ret (inBlock_ret (then_ret (T_return (fr':=[(2,.d (.str [])),(3,.d (.v (.int .i64 (5:Int)))),(1000000,.box [.d (.str c0),.d (.v (.int .i64 (IntKind.i64.wrap (v1+(1:Int)))))])]) [2,3] (by kernel_rfl) [.keep [2,3,1000000]] (by kernel_rfl) (by kernel_rfl) (by kernel_rfl) (by show _=_; kernel_rfl) (by exact ⟨⟨by kernel_rfl,by kernel_rfl⟩,trivial⟩) a w hm)))))
          · have h:=cond_ff hc h
            refine T_skip fun a w hm=>then_norm (((?_:T Tryz.prog e 67 _ _ _) a w hm))
            refine T_joinc h (fun (p:(List UInt8))=>[(0,.bp 1000000 0),(4,.box [.slf 0 87,.own 5 1 (p.map cU)]),(6,.d (.v (.int .i64 (IntKind.i64.wrap (v4+(1:Int)))))),(8,.d (.v (.int .u8 y3.1))),(1000000,.box [.d (.str c0),.d (.v (.int .i64 (IntKind.i64.wrap (v1+(1:Int)))))])]) (fun s h=>?_) (fun v5 h=>?_)
            · refine T_reg [] [0,4,5,6,8,1000000] [(6,.d (.v (.int .i64 (IntKind.i64.wrap (v4+(1:Int))))))] [] 3 (by kernel_rfl) (trivial) ?_
              refine T_reg [] [0,4,5,6,8,60,1000000] [(60,.d (.v (.bool (((IntKind.i64.wrap (v4+(1:Int))).tmod (2:Int)) == (0:Int)))))] [(1,(2:Int)≠0)] 1 (by kernel_rfl) ((show (2:Int)≠0 by decide)) ?_
              refine T_cond (((IntKind.i64.wrap (v4+(1:Int))).tmod (2:Int)) == (0:Int)) (by kernel_rfl) (fun hc=>?_) (fun hc=>?_)
              · have h:=cond_tt hc h
                obtain ⟨z2,hz2,h⟩:=lett_ok h
                obtain ⟨y4,hy4,h⟩:=call_ok h
                obtain hs:=Option.some.inj h; subst hs
                refine T_reg_end [(3,{ rw:=some (.d (.v (.int .u8 z2))) }),(4,{ res:=.d (.v .nilIface),vout:=[.box [.slf 0 87,.own 5 1 (y4.2.map cU)]],xs:=[4] })] [0,4,6,8,1000000] [(4,.box [.slf 0 87,.own 5 1 (y4.2.map cU)])] [(1,0≤(4:Int)),(1,(True)∧AV.d (.v (.int .u8 (IntKind.u8.wrap ((BitVec.ofInt IntKind.u8.bits (IntKind.u8.wrap (v3 * 2 ^ (min (4:Int).toNat IntKind.u8.bits))) ||| BitVec.ofInt IntKind.u8.bits y3.1).toNat:Int))))=.d (.v (.int .u8 z2))),(0,ACall Tryz.prog 50 [.bp 1000000 0,.d (.v (.int .u8 z2))] [.box [.slf 0 87,.own 5 1 (v2.map cU)]] (.d (.v .nilIface)) [.box [.slf 0 87,.own 5 1 (y4.2.map cU)]])] 0 (by kernel_rfl) (⟨(show 0≤(4:Int) by decide),⟨trivial,(by subst hz2; rfl)⟩,strings_Builder_WriteByte_ok hy4⟩) fun a w hm=>then_norm (hm.co (cs:=[.keep [0,4,6,8,1000000]]) (by show _=_; kernel_rfl))
              · have h:=cond_ff hc h
                obtain hs:=Option.some.inj h; subst hs
                refine T_skip fun a w hm=>then_norm (hm.co (cs:=[.keep [0,4,6,8,1000000]]) (by show _=_; kernel_rfl))
            · skip
              refine T_reg_end [] [0,4,5,6,1000000] [(5,.d (.v (.int .u8 y3.1)))] [] 2 (by kernel_rfl) (trivial) fun a w hm=>inBlock_norm (then_norm (⟨(IntKind.i64.wrap (v1+(1:Int)),v5,y3.1,IntKind.i64.wrap (v4+(1:Int))),h,hm.co (cs:=[.keep [0,4,5,6,1000000]]) (by show _=_; kernel_rfl)⟩))
    · have h:=cond_ff hc h
      obtain hs:=Option.some.inj h; subst hs
      refine T_exit fun a w hm=>then_exit (then_exit (inBlock_exit (then_norm (⟨_,rfl,hm.co (cs:=[.keep [1000000]]) (by show _=_; kernel_rfl)⟩))))
  · skip
    refine T_reg [] [2,3,1000000] [(2,.d (.str [])),(3,.d (.v (.int .i64 (12:Int))))] [] 2 (by kernel_rfl) (trivial) ?_
    obtain hs:=Option.some.inj h; subst hs
    refine T_ret fun a w hm=>T_return (fr':=[(2,.d (.str [])),(3,.d (.v (.int .i64 (12:Int)))),(1000000,.box [.d (.str c0),.d (.v (.int .i64 v6))])]) [2,3] (by kernel_rfl) [.keep [2,3,1000000]] (by kernel_rfl) (by kernel_rfl) (by kernel_rfl) (by show _=_; kernel_rfl) (by exact ⟨⟨by kernel_rfl,by kernel_rfl⟩,trivial⟩) a w hm
theorem token_cursor_one_ok {F:Nat} {c0:List UInt8} {c1:Int} {r:S_Token×Int×(List UInt8)×Int} (h:token_cursor_one F c0 c1=some r):ACall Tryz.prog 88 [.bp 1000000 0] [.box [.d (.str c0),.d (.v (.int .i64 c1))]] (.tup [.agg (cS_Token r.1),.d (.v (.int .i64 r.2.1))]) [.box [.d (.str r.2.2.1),.d (.v (.int .i64 r.2.2.2))]]:=by
  rw [token_cursor_one] at h
  refine ACall.intro (N:=146) Tryz.func88 rfl rfl rfl rfl rfl fun e=>?_
  refine T_reg [] [0,2,3,1000000] [(2,.box [.d (.v (.int .i64 0)),.d (.v (.int .i64 0)),.d (.str []),.d (.v (.int .i64 0)),.d (.v (.int .i64 0))]),(3,.d (.v (.int .i64 (0:Int))))] [] 2 (by kernel_rfl) (trivial) ?_
  obtain ⟨hp1,h⟩:=chk_ok h
  refine T_draw mixed [] [0,2,3,4,1000000] [] [(0,.bp 1000000 0),(2,.box [.d (.v (.int .i64 0)),.d (.v (.int .i64 0)),.d (.str []),.d (.v (.int .i64 0)),.d (.v (.int .i64 0))]),(3,.d (.v (.int .i64 (0:Int)))),(4,.d (.v (.int .u8 ((c0.getD c1.toNat 0).toNat:Int)))),(1000000,.box [.d (.str c0),.d (.v (.int .i64 c1))])] [(8,0≤c1∧c1 < c0.length)] 1 (by kernel_rfl) (hp1) ?_
  refine T_seqk ?_
  obtain ⟨z1,hz1,h⟩:=lett_ok h
  obtain ⟨y1,hy1,h⟩:=call_ok h
  refine T_reg [(5,{ rw:=some (.d (.v (.bool z1))) }),(8,{ res:=.d (.v (.bool y1)) })] [0,2,3,4,24,1000000] [(24,.d (.v (.bool (bif z1 then true else y1))))] [(3,((((((c0.getD c1.toNat 0).toNat:Int) == (43:Int)) == false) && true)=true→True)),(0,((((((c0.getD c1.toNat 0).toNat:Int) == (43:Int)) == false) && true)=true→True)),(0,(True)∧AV.d (.v (.bool (bif (((c0.getD c1.toNat 0).toNat:Int) == (43:Int)) then true else (((c0.getD c1.toNat 0).toNat:Int) == (45:Int)))))=.d (.v (.bool z1))),(1,(((z1 == false) && true)=true→True)),(0,(((z1 == false) && true)=true→ACall Tryz.prog 100 [.d (.v (.int .u8 ((c0.getD c1.toNat 0).toNat:Int)))] [] (.d (.v (.bool y1))) []))] 1 (by kernel_rfl) (⟨(fun hg=>trivial),(fun hg=>trivial),⟨trivial,(by subst hz1; rfl)⟩,(fun hg=>trivial),(fun hg=>token_digit_ok (gcall_ok hg hy1))⟩) ?_
  refine T_cond (bif z1 then true else y1) (by kernel_rfl) (fun hc=>?_) (fun hc=>?_)
  · have h:=cond_tt hc h
    refine T_reg [] [0,2,1000000] [(2,.box [.d (.v (.int .i64 (1:Int))),.d (.v (.int .i64 0)),.d (.str []),.d (.v (.int .i64 0)),.d (.v (.int .i64 0))])] [] 2 (by kernel_rfl) (trivial) ?_
    obtain ⟨y2,hy2,h⟩:=call_ok h
    obtain ⟨y3,hy3,h⟩:=call_ok h
    refine T_reg [(1,{ res:=.d (.str y2.1),vout:=[.box [.d (.str y2.2.1),.d (.v (.int .i64 y2.2.2))]],xs:=[1000000] }),(2,{ res:=.tup [.d (.v (.int .i64 y3.1)),.d (.v (.int .i64 y3.2))] })] [2,3,1000000] [(2,.box [.d (.v (.int .i64 (1:Int))),.d (.v (.int .i64 y3.1)),.d (.str []),.d (.v (.int .i64 0)),.d (.v (.int .i64 0))]),(3,.d (.v (.int .i64 y3.2))),(1000000,.box [.d (.str y2.2.1),.d (.v (.int .i64 y2.2.2))])] [(1,ACall Tryz.prog 109 [.bp 1000000 0] [.box [.d (.str c0),.d (.v (.int .i64 c1))]] (.d (.str y2.1)) [.box [.d (.str y2.2.1),.d (.v (.int .i64 y2.2.2))]]),(0,ACall Tryz.prog 108 [.d (.str y2.1)] [] (.tup [.d (.v (.int .i64 y3.1)),.d (.v (.int .i64 y3.2))]) [])] 6 (by kernel_rfl) (⟨token_cursor_run_ok hy2,token_integer_ok hy3⟩) ?_
    refine T_reg [] [2,3,1000000] [(2,.box [.d (.v (.int .i64 (1:Int))),.d (.v (.int .i64 y3.1)),.d (.str []),.d (.v (.int .i64 0)),.d (.v (.int .i64 0))])] [] 4 (by kernel_rfl) (trivial) ?_
    obtain hs:=Option.some.inj h; subst hs
    refine T_ret fun a w hm=>then_ret (T_returnC (fr':=[(2,.box [.d (.v (.int .i64 (1:Int))),.d (.v (.int .i64 y3.1)),.d (.str []),.d (.v (.int .i64 0)),.d (.v (.int .i64 0))]),(3,.d (.v (.int .i64 y3.2))),(1000000,.box [.d (.str y2.2.1),.d (.v (.int .i64 y2.2.2))])]) (ts:=[146,3]) (N':=147) (fr2:=[(146,.agg (cS_Token (S_Token.mk (1:Int) y3.1 [] 0 0)))]++[(2,.box [.d (.v (.int .i64 (1:Int))),.d (.v (.int .i64 y3.1)),.d (.str []),.d (.v (.int .i64 0)),.d (.v (.int .i64 0))]),(3,.d (.v (.int .i64 y3.2))),(1000000,.box [.d (.str y2.2.1),.d (.v (.int .i64 y2.2.2))])]) [.keep [2,3,1000000]] (by kernel_rfl) (by kernel_rfl) (by kernel_rfl) (by kernel_rfl) (by show _=_; kernel_rfl) (by exact ⟨⟨by kernel_rfl,by kernel_rfl⟩,trivial⟩) a w hm)
  · have h:=cond_ff hc h
    refine T_skip fun a w hm=>then_norm (((?_:T Tryz.prog e 146 _ _ _) a w hm))
    refine T_seqk ?_
    obtain ⟨y4,hy4,h⟩:=call_ok h
    refine T_reg [(1,{ res:=.d (.v (.bool y4)) })] [0,2,3,4,36,1000000] [(36,.d (.v (.bool y4)))] [(1,ACall Tryz.prog 49 [.d (.v (.int .u8 ((c0.getD c1.toNat 0).toNat:Int)))] [] (.d (.v (.bool y4))) [])] 0 (by kernel_rfl) (token_regular_ok hy4) ?_
    refine T_cond y4 (by kernel_rfl) (fun hc=>?_) (fun hc=>?_)
    · have h:=cond_tt hc h
      refine T_reg [] [0,2,1000000] [(2,.box [.d (.v (.int .i64 (5:Int))),.d (.v (.int .i64 0)),.d (.str []),.d (.v (.int .i64 0)),.d (.v (.int .i64 0))])] [] 2 (by kernel_rfl) (trivial) ?_
      obtain ⟨y5,hy5,h⟩:=call_ok h
      obtain ⟨y6,hy6,h⟩:=call_ok h
      refine T_reg [(1,{ res:=.d (.str y5.1),vout:=[.box [.d (.str y5.2.1),.d (.v (.int .i64 y5.2.2))]],xs:=[1000000] }),(2,{ res:=.tup [.d (.str y6.1),.d (.v (.int .i64 y6.2))] })] [2,3,1000000] [(2,.box [.d (.v (.int .i64 (5:Int))),.d (.v (.int .i64 0)),.d (.str y6.1),.d (.v (.int .i64 0)),.d (.v (.int .i64 0))]),(3,.d (.v (.int .i64 y6.2))),(1000000,.box [.d (.str y5.2.1),.d (.v (.int .i64 y5.2.2))])] [(1,ACall Tryz.prog 109 [.bp 1000000 0] [.box [.d (.str c0),.d (.v (.int .i64 c1))]] (.d (.str y5.1)) [.box [.d (.str y5.2.1),.d (.v (.int .i64 y5.2.2))]]),(0,ACall Tryz.prog 96 [.d (.str y5.1)] [] (.tup [.d (.str y6.1),.d (.v (.int .i64 y6.2))]) [])] 6 (by kernel_rfl) (⟨token_cursor_run_ok hy5,token_word_ok hy6⟩) ?_
      refine T_reg [] [2,3,1000000] [(2,.box [.d (.v (.int .i64 (5:Int))),.d (.v (.int .i64 0)),.d (.str y6.1),.d (.v (.int .i64 0)),.d (.v (.int .i64 0))])] [] 4 (by kernel_rfl) (trivial) ?_
      obtain hs:=Option.some.inj h; subst hs
      refine T_ret fun a w hm=>then_ret (T_returnC (fr':=[(2,.box [.d (.v (.int .i64 (5:Int))),.d (.v (.int .i64 0)),.d (.str y6.1),.d (.v (.int .i64 0)),.d (.v (.int .i64 0))]),(3,.d (.v (.int .i64 y6.2))),(1000000,.box [.d (.str y5.2.1),.d (.v (.int .i64 y5.2.2))])]) (ts:=[146,3]) (N':=147) (fr2:=[(146,.agg (cS_Token (S_Token.mk (5:Int) 0 y6.1 0 0)))]++[(2,.box [.d (.v (.int .i64 (5:Int))),.d (.v (.int .i64 0)),.d (.str y6.1),.d (.v (.int .i64 0)),.d (.v (.int .i64 0))]),(3,.d (.v (.int .i64 y6.2))),(1000000,.box [.d (.str y5.2.1),.d (.v (.int .i64 y5.2.2))])]) [.keep [2,3,1000000]] (by kernel_rfl) (by kernel_rfl) (by kernel_rfl) (by kernel_rfl) (by show _=_; kernel_rfl) (by exact ⟨⟨by kernel_rfl,by kernel_rfl⟩,trivial⟩) a w hm)
    · have h:=cond_ff hc h
      refine T_skip fun a w hm=>then_norm (((?_:T Tryz.prog e 146 _ _ _) a w hm))
      refine T_reg [] [0,2,3,4,1000000] [(1000000,.box [.d (.str c0),.d (.v (.int .i64 (IntKind.i64.wrap (c1+(1:Int)))))])] [] 8 (by kernel_rfl) (trivial) ?_
      obtain ⟨hp2,h⟩:=chk_ok h
      obtain ⟨z2,hz2,h⟩:=lett_ok h
      refine T_draw mixed [(21,{ rw:=some (.d (.v (.bool z2))) })] [0,2,3,4,5,1000000] [] [(0,.bp 1000000 0),(2,.box [.d (.v (.int .i64 0)),.d (.v (.int .i64 0)),.d (.str []),.d (.v (.int .i64 0)),.d (.v (.int .i64 0))]),(3,.d (.v (.int .i64 (0:Int)))),(4,.d (.v (.int .u8 ((c0.getD c1.toNat 0).toNat:Int)))),(5,.d (.v (.bool (bif (decide ((IntKind.i64.wrap (c1+(1:Int))) < (c0.length:Int))) then z2 else false)))),(1000000,.box [.d (.str c0),.d (.v (.int .i64 (IntKind.i64.wrap (c1+(1:Int)))))])] [(11,((((decide ((IntKind.i64.wrap (c1+(1:Int))) < (c0.length:Int))) == true) && true)=true→True)),(0,((((decide ((IntKind.i64.wrap (c1+(1:Int))) < (c0.length:Int))) == true) && true)=true→True)),(0,((((decide ((IntKind.i64.wrap (c1+(1:Int))) < (c0.length:Int))) == true) && true)=true→True)),(0,((((decide ((IntKind.i64.wrap (c1+(1:Int))) < (c0.length:Int))) == true) && true)=true→True)),(0,((((decide ((IntKind.i64.wrap (c1+(1:Int))) < (c0.length:Int))) == true) && true)=true→True)),(0,((((decide ((IntKind.i64.wrap (c1+(1:Int))) < (c0.length:Int))) == true) && true)=true→True)),(0,((((decide ((IntKind.i64.wrap (c1+(1:Int))) < (c0.length:Int))) == true) && true)=true→True)),(0,((((decide ((IntKind.i64.wrap (c1+(1:Int))) < (c0.length:Int))) == true) && true)=true→True)),(0,((((decide ((IntKind.i64.wrap (c1+(1:Int))) < (c0.length:Int))) == true) && true)=true→0≤(IntKind.i64.wrap (c1+(1:Int)))∧(IntKind.i64.wrap (c1+(1:Int))) < c0.length)),(0,((((decide ((IntKind.i64.wrap (c1+(1:Int))) < (c0.length:Int))) == true) && true)=true→True)),(0,((((decide ((IntKind.i64.wrap (c1+(1:Int))) < (c0.length:Int))) == true) && true)=true→(True)∧AV.d (.v (.bool (((c0.getD (IntKind.i64.wrap (c1+(1:Int))).toNat 0).toNat:Int) == ((c0.getD c1.toNat 0).toNat:Int))))=.d (.v (.bool z2))))] 2 (by kernel_rfl) (⟨(fun hg=>trivial),(fun hg=>trivial),(fun hg=>trivial),(fun hg=>trivial),(fun hg=>trivial),(fun hg=>trivial),(fun hg=>trivial),(fun hg=>trivial),(fun hg=>(hp2 hg)),(fun hg=>trivial),(fun hg=>⟨trivial,(by subst hz2; rfl)⟩)⟩) ?_
      refine T_joinE h (fun (p:Int×Int×(List UInt8)×Int×(List UInt8)×Int)=>[(2,.box [.d (.v (.int .i64 p.1)),.d (.v (.int .i64 p.2.1)),.d (.str p.2.2.1),.d (.v (.int .i64 0)),.d (.v (.int .i64 0))]),(3,.d (.v (.int .i64 p.2.2.2.1))),(1000000,.box [.d (.str p.2.2.2.2.1),.d (.v (.int .i64 p.2.2.2.2.2))])]) (fun s h hk1=>?_) (fun s h=>?_)
      · refine T_reg [] [0,2,3,5,77,1000000] [(77,.d (.v (.int .u8 ((c0.getD c1.toNat 0).toNat:Int))))] [] 1 (by kernel_rfl) (trivial) ?_
        refine T_block ?_
        refine T_reg [] [0,2,3,5,77,79,1000000] [(79,.d (.v (.bool (((c0.getD c1.toNat 0).toNat:Int) == (47:Int)))))] [] 2 (by kernel_rfl) (trivial) ?_
        refine T_cond (((c0.getD c1.toNat 0).toNat:Int) == (47:Int)) (by kernel_rfl) (fun hc=>?_) (fun hc=>?_)
        · have h:=cond_tt hc h
          refine T_reg [] [0,2,1000000] [(2,.box [.d (.v (.int .i64 (2:Int))),.d (.v (.int .i64 0)),.d (.str []),.d (.v (.int .i64 0)),.d (.v (.int .i64 0))])] [] 2 (by kernel_rfl) (trivial) ?_
          obtain ⟨y7,hy7,h⟩:=call_ok h
          obtain hs:=Option.some.inj h; subst hs
          refine T_reg_end [(1,{ res:=.tup [.d (.str y7.1),.d (.v (.int .i64 y7.2.1))],vout:=[.box [.d (.str y7.2.2.1),.d (.v (.int .i64 y7.2.2.2))]],xs:=[1000000] })] [2,3,1000000] [(2,.box [.d (.v (.int .i64 (2:Int))),.d (.v (.int .i64 0)),.d (.str y7.1),.d (.v (.int .i64 0)),.d (.v (.int .i64 0))]),(3,.d (.v (.int .i64 y7.2.1))),(1000000,.box [.d (.str y7.2.2.1),.d (.v (.int .i64 y7.2.2.2))])] [(1,ACall Tryz.prog 110 [.bp 1000000 0] [.box [.d (.str c0),.d (.v (.int .i64 (IntKind.i64.wrap (c1+(1:Int)))))]] (.tup [.d (.str y7.1),.d (.v (.int .i64 y7.2.1))]) [.box [.d (.str y7.2.2.1),.d (.v (.int .i64 y7.2.2.2))]])] 6 (by kernel_rfl) (token_cursor_name_ok hy7) fun a w hm=>inBlock_norm (then_norm (⟨_,rfl,hm.co (cs:=[.keep [2,3,1000000]]) (by show _=_; kernel_rfl)⟩))
        · have h:=cond_ff hc h
          refine T_reg [] [0,2,3,5,77,88,1000000] [(88,.d (.v (.bool (((c0.getD c1.toNat 0).toNat:Int) == (64:Int)))))] [] 2 (by kernel_rfl) (trivial) ?_
          refine T_cond (((c0.getD c1.toNat 0).toNat:Int) == (64:Int)) (by kernel_rfl) (fun hc=>?_) (fun hc=>?_)
          · have h:=cond_tt hc h
            refine T_reg [] [0,2,1000000] [(2,.box [.d (.v (.int .i64 (4:Int))),.d (.v (.int .i64 0)),.d (.str []),.d (.v (.int .i64 0)),.d (.v (.int .i64 0))])] [] 2 (by kernel_rfl) (trivial) ?_
            obtain ⟨y8,hy8,h⟩:=call_ok h
            obtain ⟨y9,hy9,h⟩:=call_ok h
            obtain hs:=Option.some.inj h; subst hs
            refine T_reg_end [(1,{ res:=.d (.str y8.1),vout:=[.box [.d (.str y8.2.1),.d (.v (.int .i64 y8.2.2))]],xs:=[1000000] }),(2,{ res:=.tup [.d (.v (.int .i64 y9.1)),.d (.v (.int .i64 y9.2))] })] [2,3,1000000] [(2,.box [.d (.v (.int .i64 (4:Int))),.d (.v (.int .i64 y9.1)),.d (.str []),.d (.v (.int .i64 0)),.d (.v (.int .i64 0))]),(3,.d (.v (.int .i64 y9.2))),(1000000,.box [.d (.str y8.2.1),.d (.v (.int .i64 y8.2.2))])] [(1,ACall Tryz.prog 109 [.bp 1000000 0] [.box [.d (.str c0),.d (.v (.int .i64 (IntKind.i64.wrap (c1+(1:Int)))))]] (.d (.str y8.1)) [.box [.d (.str y8.2.1),.d (.v (.int .i64 y8.2.2))]]),(0,ACall Tryz.prog 111 [.d (.str y8.1)] [] (.tup [.d (.v (.int .i64 y9.1)),.d (.v (.int .i64 y9.2))]) [])] 6 (by kernel_rfl) (⟨token_cursor_run_ok hy8,token_reference_ok hy9⟩) fun a w hm=>inBlock_norm (then_norm (⟨_,rfl,hm.co (cs:=[.keep [2,3,1000000]]) (by show _=_; kernel_rfl)⟩))
          · have h:=cond_ff hc h
            refine T_reg [] [0,2,3,5,77,98,1000000] [(98,.d (.v (.bool (((c0.getD c1.toNat 0).toNat:Int) == (40:Int)))))] [] 2 (by kernel_rfl) (trivial) ?_
            refine T_cond (((c0.getD c1.toNat 0).toNat:Int) == (40:Int)) (by kernel_rfl) (fun hc=>?_) (fun hc=>?_)
            · have h:=cond_tt hc h
              refine T_reg [] [0,2,1000000] [(2,.box [.d (.v (.int .i64 (3:Int))),.d (.v (.int .i64 0)),.d (.str []),.d (.v (.int .i64 0)),.d (.v (.int .i64 0))])] [] 2 (by kernel_rfl) (trivial) ?_
              obtain ⟨y10,hy10,h⟩:=call_ok h
              obtain hs:=Option.some.inj h; subst hs
              refine T_reg_end [(1,{ res:=.tup [.d (.str y10.1),.d (.v (.int .i64 y10.2.1))],vout:=[.box [.d (.str y10.2.2.1),.d (.v (.int .i64 y10.2.2.2))]],xs:=[1000000] })] [2,3,1000000] [(2,.box [.d (.v (.int .i64 (3:Int))),.d (.v (.int .i64 0)),.d (.str y10.1),.d (.v (.int .i64 0)),.d (.v (.int .i64 0))]),(3,.d (.v (.int .i64 y10.2.1))),(1000000,.box [.d (.str y10.2.2.1),.d (.v (.int .i64 y10.2.2.2))])] [(1,ACall Tryz.prog 112 [.bp 1000000 0] [.box [.d (.str c0),.d (.v (.int .i64 (IntKind.i64.wrap (c1+(1:Int)))))]] (.tup [.d (.str y10.1),.d (.v (.int .i64 y10.2.1))]) [.box [.d (.str y10.2.2.1),.d (.v (.int .i64 y10.2.2.2))]])] 6 (by kernel_rfl) (token_cursor_text_ok hy10) fun a w hm=>inBlock_norm (then_norm (⟨_,rfl,hm.co (cs:=[.keep [2,3,1000000]]) (by show _=_; kernel_rfl)⟩))
            · have h:=cond_ff hc h
              refine T_reg [] [0,2,3,5,77,107,1000000] [(107,.d (.v (.bool (((c0.getD c1.toNat 0).toNat:Int) == (91:Int)))))] [] 2 (by kernel_rfl) (trivial) ?_
              refine T_cond (((c0.getD c1.toNat 0).toNat:Int) == (91:Int)) (by kernel_rfl) (fun hc=>?_) (fun hc=>?_)
              · have h:=cond_tt hc h
                obtain hs:=Option.some.inj h; subst hs
                refine T_reg_end [] [2,3,1000000] [(2,.box [.d (.v (.int .i64 (6:Int))),.d (.v (.int .i64 0)),.d (.str []),.d (.v (.int .i64 0)),.d (.v (.int .i64 0))])] [] 2 (by kernel_rfl) (trivial) fun a w hm=>inBlock_norm (then_norm (⟨_,rfl,hm.co (cs:=[.keep [2,3,1000000]]) (by show _=_; kernel_rfl)⟩))
              · have h:=cond_ff hc h
                refine T_reg [] [0,2,3,5,77,110,1000000] [(110,.d (.v (.bool (((c0.getD c1.toNat 0).toNat:Int) == (93:Int)))))] [] 2 (by kernel_rfl) (trivial) ?_
                refine T_cond (((c0.getD c1.toNat 0).toNat:Int) == (93:Int)) (by kernel_rfl) (fun hc=>?_) (fun hc=>?_)
                · have h:=cond_tt hc h
                  obtain hs:=Option.some.inj h; subst hs
                  refine T_reg_end [] [2,3,1000000] [(2,.box [.d (.v (.int .i64 (7:Int))),.d (.v (.int .i64 0)),.d (.str []),.d (.v (.int .i64 0)),.d (.v (.int .i64 0))])] [] 2 (by kernel_rfl) (trivial) fun a w hm=>inBlock_norm (then_norm (⟨_,rfl,hm.co (cs:=[.keep [2,3,1000000]]) (by show _=_; kernel_rfl)⟩))
                · have h:=cond_ff hc h
                  refine T_reg [] [0,2,3,5,77,113,1000000] [(113,.d (.v (.bool (((c0.getD c1.toNat 0).toNat:Int) == (60:Int)))))] [] 2 (by kernel_rfl) (trivial) ?_
                  refine T_cond (((c0.getD c1.toNat 0).toNat:Int) == (60:Int)) (by kernel_rfl) (fun hc=>?_) (fun hc=>?_)
                  · have h:=cond_tt hc h
                    refine T_seqk ?_
                    refine T_reg [] [0,2,3,115,1000000] [(115,.d (.v (.bool (bif (decide ((IntKind.i64.wrap (c1+(1:Int))) < (c0.length:Int))) then z2 else false))))] [] 1 (by kernel_rfl) (trivial) ?_
                    refine T_cond (bif (decide ((IntKind.i64.wrap (c1+(1:Int))) < (c0.length:Int))) then z2 else false) (by kernel_rfl) (fun hc=>?_) (fun hc=>?_)
                    · have h:=cond_tt hc h
                      refine T_reg [] [2,3,1000000] [(1000000,.box [.d (.str c0),.d (.v (.int .i64 (IntKind.i64.wrap ((IntKind.i64.wrap (c1+(1:Int)))+(1:Int)))))])] [] 8 (by kernel_rfl) (trivial) ?_
                      refine T_reg [] [2,3,1000000] [(2,.box [.d (.v (.int .i64 (8:Int))),.d (.v (.int .i64 0)),.d (.str []),.d (.v (.int .i64 0)),.d (.v (.int .i64 0))])] [] 2 (by kernel_rfl) (trivial) ?_
                      obtain hs:=Option.some.inj h; subst hs
                      refine T_exit fun a w hm=>then_exit (inBlock_exit (then_norm (⟨_,rfl,hm.co (cs:=[.keep [2,3,1000000]]) (by show _=_; kernel_rfl)⟩)))
                    · have h:=cond_ff hc h
                      refine T_skip fun a w hm=>then_norm (((?_:T Tryz.prog e 146 _ _ _) a w hm))
                      refine T_reg [] [0,2,1000000] [(2,.box [.d (.v (.int .i64 (3:Int))),.d (.v (.int .i64 0)),.d (.str []),.d (.v (.int .i64 0)),.d (.v (.int .i64 0))])] [] 2 (by kernel_rfl) (trivial) ?_
                      obtain ⟨y11,hy11,h⟩:=call_ok h
                      obtain hs:=Option.some.inj h; subst hs
                      refine T_reg_end [(1,{ res:=.tup [.d (.str y11.1),.d (.v (.int .i64 y11.2.1))],vout:=[.box [.d (.str y11.2.2.1),.d (.v (.int .i64 y11.2.2.2))]],xs:=[1000000] })] [2,3,1000000] [(2,.box [.d (.v (.int .i64 (3:Int))),.d (.v (.int .i64 0)),.d (.str y11.1),.d (.v (.int .i64 0)),.d (.v (.int .i64 0))]),(3,.d (.v (.int .i64 y11.2.1))),(1000000,.box [.d (.str y11.2.2.1),.d (.v (.int .i64 y11.2.2.2))])] [(1,ACall Tryz.prog 113 [.bp 1000000 0] [.box [.d (.str c0),.d (.v (.int .i64 (IntKind.i64.wrap (c1+(1:Int)))))]] (.tup [.d (.str y11.1),.d (.v (.int .i64 y11.2.1))]) [.box [.d (.str y11.2.2.1),.d (.v (.int .i64 y11.2.2.2))]])] 6 (by kernel_rfl) (token_cursor_hex_ok hy11) fun a w hm=>inBlock_norm (then_norm (⟨_,rfl,hm.co (cs:=[.keep [2,3,1000000]]) (by show _=_; kernel_rfl)⟩))
                  · have h:=cond_ff hc h
                    refine T_reg [] [0,2,3,5,131,1000000] [(131,.d (.v (.bool (((c0.getD c1.toNat 0).toNat:Int) == (62:Int)))))] [] 2 (by kernel_rfl) (trivial) ?_
                    refine T_cond (((c0.getD c1.toNat 0).toNat:Int) == (62:Int)) (by kernel_rfl) (fun hc=>?_) (fun hc=>?_)
                    · have h:=cond_tt hc h
                      refine T_seqk ?_
                      refine T_reg [] [0,2,3,134,1000000] [(134,.d (.v (.bool (!(bif (decide ((IntKind.i64.wrap (c1+(1:Int))) < (c0.length:Int))) then z2 else false)))))] [] 2 (by kernel_rfl) (trivial) ?_
                      refine T_cond (!(bif (decide ((IntKind.i64.wrap (c1+(1:Int))) < (c0.length:Int))) then z2 else false)) (by kernel_rfl) (fun hc=>?_) (fun hc=>?_)
                      · have h:=cond_tt hc h
                        refine T_reg [] [2,3,1000000] [(3,.d (.v (.int .i64 (5:Int))))] [] 3 (by kernel_rfl) (trivial) ?_
                        obtain hs:=Option.some.inj h; subst hs
                        have h:=callE_esc hk1
                        obtain hs:=Option.some.inj h; subst hs
                        refine T_ret fun a w hm=>then_ret (inBlock_ret (then_ret (T_returnC (fr':=[(2,.box [.d (.v (.int .i64 0)),.d (.v (.int .i64 0)),.d (.str []),.d (.v (.int .i64 0)),.d (.v (.int .i64 0))]),(3,.d (.v (.int .i64 (5:Int)))),(1000000,.box [.d (.str c0),.d (.v (.int .i64 (IntKind.i64.wrap (c1+(1:Int)))))])]) (ts:=[146,3]) (N':=147) (fr2:=[(146,.agg (cS_Token (S_Token.mk 0 0 [] 0 0)))]++[(2,.box [.d (.v (.int .i64 0)),.d (.v (.int .i64 0)),.d (.str []),.d (.v (.int .i64 0)),.d (.v (.int .i64 0))]),(3,.d (.v (.int .i64 (5:Int)))),(1000000,.box [.d (.str c0),.d (.v (.int .i64 (IntKind.i64.wrap (c1+(1:Int)))))])]) [.keep [2,3,1000000]] (by kernel_rfl) (by kernel_rfl) (by kernel_rfl) (by kernel_rfl) (by show _=_; kernel_rfl) (by exact ⟨⟨by kernel_rfl,by kernel_rfl⟩,trivial⟩) a w hm)))
                      · have h:=cond_ff hc h
                        refine T_skip fun a w hm=>then_norm (((?_:T Tryz.prog e 146 _ _ _) a w hm))
                        refine T_reg [] [2,3,1000000] [(1000000,.box [.d (.str c0),.d (.v (.int .i64 (IntKind.i64.wrap ((IntKind.i64.wrap (c1+(1:Int)))+(1:Int)))))])] [] 8 (by kernel_rfl) (trivial) ?_
                        obtain hs:=Option.some.inj h; subst hs
                        refine T_reg_end [] [2,3,1000000] [(2,.box [.d (.v (.int .i64 (9:Int))),.d (.v (.int .i64 0)),.d (.str []),.d (.v (.int .i64 0)),.d (.v (.int .i64 0))])] [] 2 (by kernel_rfl) (trivial) fun a w hm=>inBlock_norm (then_norm (⟨_,rfl,hm.co (cs:=[.keep [2,3,1000000]]) (by show _=_; kernel_rfl)⟩))
                    · have h:=cond_ff hc h
                      refine T_reg [] [2,3,1000000] [(3,.d (.v (.int .i64 (5:Int))))] [] 3 (by kernel_rfl) (trivial) ?_
                      obtain hs:=Option.some.inj h; subst hs
                      have h:=callE_esc hk1
                      obtain hs:=Option.some.inj h; subst hs
                      refine T_ret fun a w hm=>inBlock_ret (then_ret (T_returnC (fr':=[(2,.box [.d (.v (.int .i64 0)),.d (.v (.int .i64 0)),.d (.str []),.d (.v (.int .i64 0)),.d (.v (.int .i64 0))]),(3,.d (.v (.int .i64 (5:Int)))),(1000000,.box [.d (.str c0),.d (.v (.int .i64 (IntKind.i64.wrap (c1+(1:Int)))))])]) (ts:=[146,3]) (N':=147) (fr2:=[(146,.agg (cS_Token (S_Token.mk 0 0 [] 0 0)))]++[(2,.box [.d (.v (.int .i64 0)),.d (.v (.int .i64 0)),.d (.str []),.d (.v (.int .i64 0)),.d (.v (.int .i64 0))]),(3,.d (.v (.int .i64 (5:Int)))),(1000000,.box [.d (.str c0),.d (.v (.int .i64 (IntKind.i64.wrap (c1+(1:Int)))))])]) [.keep [2,3,1000000]] (by kernel_rfl) (by kernel_rfl) (by kernel_rfl) (by kernel_rfl) (by show _=_; kernel_rfl) (by exact ⟨⟨by kernel_rfl,by kernel_rfl⟩,trivial⟩) a w hm))
      · obtain ⟨v1,v2,v3,v4,v5,v6⟩:=s
        try dsimp only at h
        refine T_reg [] [2,3,1000000] [(2,.box [.d (.v (.int .i64 v1)),.d (.v (.int .i64 v2)),.d (.str v3),.d (.v (.int .i64 0)),.d (.v (.int .i64 0))])] [] 4 (by kernel_rfl) (trivial) ?_
        obtain hs:=Option.some.inj h; subst hs
        refine T_ret fun a w hm=>T_returnC (fr':=[(2,.box [.d (.v (.int .i64 v1)),.d (.v (.int .i64 v2)),.d (.str v3),.d (.v (.int .i64 0)),.d (.v (.int .i64 0))]),(3,.d (.v (.int .i64 v4))),(1000000,.box [.d (.str v5),.d (.v (.int .i64 v6))])]) (ts:=[146,3]) (N':=147) (fr2:=[(146,.agg (cS_Token (S_Token.mk v1 v2 v3 0 0)))]++[(2,.box [.d (.v (.int .i64 v1)),.d (.v (.int .i64 v2)),.d (.str v3),.d (.v (.int .i64 0)),.d (.v (.int .i64 0))]),(3,.d (.v (.int .i64 v4))),(1000000,.box [.d (.str v5),.d (.v (.int .i64 v6))])]) [.keep [2,3,1000000]] (by kernel_rfl) (by kernel_rfl) (by kernel_rfl) (by kernel_rfl) (by show _=_; kernel_rfl) (by exact ⟨⟨by kernel_rfl,by kernel_rfl⟩,trivial⟩) a w hm
theorem token_next_ok {F:Nat} {a0:List UInt8} {a1:Int} {r:S_Token×Int×Int} (h:token_next F a0 a1=some r):ACall Tryz.prog 59 [.d (.str a0),.d (.v (.int .i64 a1))] [] (.tup [.agg (cS_Token r.1),.d (.v (.int .i64 r.2.1)),.d (.v (.int .i64 r.2.2))]) []:=by
  rw [token_next] at h
  refine ACall.intro (N:=41) Tryz.func59 rfl rfl rfl rfl rfl fun e=>?_
  refine T_reg [] [0,1,4] [(4,.box [.d (.v (.int .i64 0)),.d (.v (.int .i64 0)),.d (.str []),.d (.v (.int .i64 0)),.d (.v (.int .i64 0))])] [] 3 (by kernel_rfl) (trivial) ?_
  refine T_reg [] [0,4,7] [(7,.box [.d (.str a0),.d (.v (.int .i64 a1))])] [] 5 (by kernel_rfl) (trivial) ?_
  obtain ⟨y1,hy1,h⟩:=call_ok h
  refine T_reg [(0,{ res:=.tup [],vout:=[.box [.d (.str y1.1),.d (.v (.int .i64 y1.2))]],xs:=[7] })] [0,4,7] [(7,.box [.d (.str y1.1),.d (.v (.int .i64 y1.2))])] [(0,ACall Tryz.prog 87 [.bp 1000000 0] [.box [.d (.str a0),.d (.v (.int .i64 a1))]] (.tup []) [.box [.d (.str y1.1),.d (.v (.int .i64 y1.2))]])] 0 (by kernel_rfl) (token_cursor_skip_ok hy1) ?_
  refine T_reg [] [0,4,7,8] [(8,.d (.v (.int .i64 y1.2)))] [] 3 (by kernel_rfl) (trivial) ?_
  refine T_seqk ?_
  refine T_reg [] [4,7,8,20] [(20,.d (.v (.bool (y1.2 == (a0.length:Int)))))] [] 4 (by kernel_rfl) (trivial) ?_
  refine T_cond (y1.2 == (a0.length:Int)) (by kernel_rfl) (fun hc=>?_) (fun hc=>?_)
  · have h:=cond_tt hc h
    refine T_reg [] [4,5,6] [(4,.box [.d (.v (.int .i64 0)),.d (.v (.int .i64 0)),.d (.str []),.d (.v (.int .i64 y1.2)),.d (.v (.int .i64 y1.2))]),(5,.d (.v (.int .i64 y1.2))),(6,.d (.v (.int .i64 (0:Int))))] [] 7 (by kernel_rfl) (trivial) ?_
    obtain hs:=Option.some.inj h; subst hs
    refine T_ret fun a w hm=>then_ret (T_returnC (fr':=[(4,.box [.d (.v (.int .i64 0)),.d (.v (.int .i64 0)),.d (.str []),.d (.v (.int .i64 y1.2)),.d (.v (.int .i64 y1.2))]),(5,.d (.v (.int .i64 y1.2))),(6,.d (.v (.int .i64 (0:Int))))]) (ts:=[41,5,6]) (N':=42) (fr2:=[(41,.agg (cS_Token (S_Token.mk 0 0 [] y1.2 y1.2)))]++[(4,.box [.d (.v (.int .i64 0)),.d (.v (.int .i64 0)),.d (.str []),.d (.v (.int .i64 y1.2)),.d (.v (.int .i64 y1.2))]),(5,.d (.v (.int .i64 y1.2))),(6,.d (.v (.int .i64 (0:Int))))]) [.keep [4,5,6]] (by kernel_rfl) (by kernel_rfl) (by kernel_rfl) (by kernel_rfl) (by show _=_; kernel_rfl) (by exact trivial) a w hm)
  · have h:=cond_ff hc h
    refine T_skip fun a w hm=>then_norm (((?_:T Tryz.prog e 41 _ _ _) a w hm))
    obtain ⟨y2,hy2,h⟩:=call_ok h
    refine T_reg [(0,{ res:=.tup [.agg (cS_Token y2.1),.d (.v (.int .i64 y2.2.1))],vout:=[.box [.d (.str y2.2.2.1),.d (.v (.int .i64 y2.2.2.2))]],xs:=[7] })] [4,7,8,9,10] [(7,.box [.d (.str y2.2.2.1),.d (.v (.int .i64 y2.2.2.2))]),(9,.box [.d (.v (.int .i64 y2.1.f0)),.d (.v (.int .i64 y2.1.f1)),.d (.str y2.1.f2),.d (.v (.int .i64 y2.1.f3)),.d (.v (.int .i64 y2.1.f4))]),(10,.d (.v (.int .i64 y2.2.1)))] [(0,ACall Tryz.prog 88 [.bp 1000000 0] [.box [.d (.str y1.1),.d (.v (.int .i64 y1.2))]] (.tup [.agg (cS_Token y2.1),.d (.v (.int .i64 y2.2.1))]) [.box [.d (.str y2.2.2.1),.d (.v (.int .i64 y2.2.2.2))]])] 6 (by kernel_rfl) (token_cursor_one_ok hy2) ?_
    refine T_seqk ?_
    refine T_reg [] [4,7,8,9,10,30] [(30,.d (.v (.bool (y2.2.1 != (0:Int)))))] [] 2 (by kernel_rfl) (trivial) ?_
    refine T_cond (y2.2.1 != (0:Int)) (by kernel_rfl) (fun hc=>?_) (fun hc=>?_)
    · have h:=cond_tt hc h
      refine T_reg [] [4,5,6] [(5,.d (.v (.int .i64 y1.2))),(6,.d (.v (.int .i64 y2.2.1)))] [] 6 (by kernel_rfl) (trivial) ?_
      obtain hs:=Option.some.inj h; subst hs
      refine T_ret fun a w hm=>then_ret (T_returnC (fr':=[(4,.box [.d (.v (.int .i64 0)),.d (.v (.int .i64 0)),.d (.str []),.d (.v (.int .i64 0)),.d (.v (.int .i64 0))]),(5,.d (.v (.int .i64 y1.2))),(6,.d (.v (.int .i64 y2.2.1)))]) (ts:=[41,5,6]) (N':=42) (fr2:=[(41,.agg (cS_Token (S_Token.mk 0 0 [] 0 0)))]++[(4,.box [.d (.v (.int .i64 0)),.d (.v (.int .i64 0)),.d (.str []),.d (.v (.int .i64 0)),.d (.v (.int .i64 0))]),(5,.d (.v (.int .i64 y1.2))),(6,.d (.v (.int .i64 y2.2.1)))]) [.keep [4,5,6]] (by kernel_rfl) (by kernel_rfl) (by kernel_rfl) (by kernel_rfl) (by show _=_; kernel_rfl) (by exact trivial) a w hm)
    · have h:=cond_ff hc h
      refine T_skip fun a w hm=>then_norm (((?_:T Tryz.prog e 41 _ _ _) a w hm))
      refine T_drawX mixed 2 (.take 0 (.take 1 (.take 3 (.all (.alt 2 (.all (.alt 4 (.take 5 (.all (.alt 6 .done .stop))) .stop)) (.alt 4 (.all (.alt 2 (.take 5 (.all (.alt 6 .done .stop))) .stop)) .stop)))))) ([0,0,2,1,9,31,63],[0,0,2,0,9,0,36]) 43 [] [4,8,9] [] [(4,.box [.d (.v (.int .i64 0)),.d (.v (.int .i64 0)),.d (.str []),.d (.v (.int .i64 0)),.d (.v (.int .i64 0))]),(8,.d (.v (.int .i64 y1.2))),(9,.box [.d (.v (.int .i64 y2.1.f0)),.d (.v (.int .i64 y2.1.f1)),.d (.str y2.1.f2),.d (.v (.int .i64 y1.2)),.d (.v (.int .i64 y2.2.2.2))])] [] 11 (by kernel_rfl) (by kernel_rfl) (by kernel_rfl) (trivial) ?_
      refine T_reg [] [4,5,6] [(4,.box [.d (.v (.int .i64 y2.1.f0)),.d (.v (.int .i64 y2.1.f1)),.d (.str y2.1.f2),.d (.v (.int .i64 y1.2)),.d (.v (.int .i64 y2.2.2.2))]),(5,.d (.v (.int .i64 y1.2))),(6,.d (.v (.int .i64 (0:Int))))] [] 5 (by kernel_rfl) (trivial) ?_
      obtain hs:=Option.some.inj h; subst hs
      refine T_ret fun a w hm=>T_returnC (fr':=[(4,.box [.d (.v (.int .i64 y2.1.f0)),.d (.v (.int .i64 y2.1.f1)),.d (.str y2.1.f2),.d (.v (.int .i64 y1.2)),.d (.v (.int .i64 y2.2.2.2))]),(5,.d (.v (.int .i64 y1.2))),(6,.d (.v (.int .i64 (0:Int))))]) (ts:=[41,5,6]) (N':=42) (fr2:=[(41,.agg (cS_Token (S_Token.mk y2.1.f0 y2.1.f1 y2.1.f2 y1.2 y2.2.2.2)))]++[(4,.box [.d (.v (.int .i64 y2.1.f0)),.d (.v (.int .i64 y2.1.f1)),.d (.str y2.1.f2),.d (.v (.int .i64 y1.2)),.d (.v (.int .i64 y2.2.2.2))]),(5,.d (.v (.int .i64 y1.2))),(6,.d (.v (.int .i64 (0:Int))))]) [.keep [4,5,6]] (by kernel_rfl) (by kernel_rfl) (by kernel_rfl) (by kernel_rfl) (by show _=_; kernel_rfl) (by exact trivial) a w hm
theorem token_Next_ok {F:Nat} {a0:List UInt8} {a1:Int} {r:S_Token×Int×Int} (h:token_Next F a0 a1=some r):ACall Tryz.prog 31 [.d (.str a0),.d (.v (.int .i64 a1))] [] (.tup [.agg (cS_Token r.1),.d (.v (.int .i64 r.2.1)),.d (.v (.int .i64 r.2.2))]) []:=by
  rw [token_Next] at h
  refine ACall.intro (N:=35) Tryz.func31 rfl rfl rfl rfl rfl fun e=>?_
  refine T_reg [] [0,1,4] [(4,.box [.d (.v (.int .i64 0)),.d (.v (.int .i64 0)),.d (.str []),.d (.v (.int .i64 0)),.d (.v (.int .i64 0))])] [] 3 (by kernel_rfl) (trivial) ?_
  refine T_seqk ?_
  refine T_reg [] [0,1,4,12] [(12,.d (.v (.bool (decide ((a0.length:Int) > (8192:Int))))))] [] 3 (by kernel_rfl) (trivial) ?_
  refine T_cond (decide ((a0.length:Int) > (8192:Int))) (by kernel_rfl) (fun hc=>?_) (fun hc=>?_)
  · have h:=cond_tt hc h
    refine T_reg [] [4,5,6] [(5,.d (.v (.int .i64 (0:Int)))),(6,.d (.v (.int .i64 (2:Int))))] [] 4 (by kernel_rfl) (trivial) ?_
    obtain hs:=Option.some.inj h; subst hs
    refine T_ret fun a w hm=>then_ret (T_returnC (fr':=[(4,.box [.d (.v (.int .i64 0)),.d (.v (.int .i64 0)),.d (.str []),.d (.v (.int .i64 0)),.d (.v (.int .i64 0))]),(5,.d (.v (.int .i64 (0:Int)))),(6,.d (.v (.int .i64 (2:Int))))]) (ts:=[35,5,6]) (N':=36) (fr2:=[(35,.agg (cS_Token (S_Token.mk 0 0 [] 0 0)))]++[(4,.box [.d (.v (.int .i64 0)),.d (.v (.int .i64 0)),.d (.str []),.d (.v (.int .i64 0)),.d (.v (.int .i64 0))]),(5,.d (.v (.int .i64 (0:Int)))),(6,.d (.v (.int .i64 (2:Int))))]) [.keep [4,5,6]] (by kernel_rfl) (by kernel_rfl) (by kernel_rfl) (by kernel_rfl) (by show _=_; kernel_rfl) (by exact trivial) a w hm)
  · have h:=cond_ff hc h
    refine T_skip fun a w hm=>then_norm (((?_:T Tryz.prog e 35 _ _ _) a w hm))
    refine T_seqk ?_
    refine T_reg [] [0,1,4,21] [(21,.d (.v (.bool (bif (decide (a1 < (0:Int))) then true else (decide (a1 > (a0.length:Int)))))))] [(3,((((decide (a1 < (0:Int))) == false) && true)=true→True)),(0,((((decide (a1 < (0:Int))) == false) && true)=true→True)),(0,((((decide (a1 < (0:Int))) == false) && true)=true→True)),(0,((((decide (a1 < (0:Int))) == false) && true)=true→True))] 1 (by kernel_rfl) (⟨(fun hg=>trivial),(fun hg=>trivial),(fun hg=>trivial),(fun hg=>trivial)⟩) ?_
    refine T_cond (bif (decide (a1 < (0:Int))) then true else (decide (a1 > (a0.length:Int)))) (by kernel_rfl) (fun hc=>?_) (fun hc=>?_)
    · have h:=cond_tt hc h
      refine T_reg [] [4,5,6] [(5,.d (.v (.int .i64 (0:Int)))),(6,.d (.v (.int .i64 (3:Int))))] [] 4 (by kernel_rfl) (trivial) ?_
      obtain hs:=Option.some.inj h; subst hs
      refine T_ret fun a w hm=>then_ret (T_returnC (fr':=[(4,.box [.d (.v (.int .i64 0)),.d (.v (.int .i64 0)),.d (.str []),.d (.v (.int .i64 0)),.d (.v (.int .i64 0))]),(5,.d (.v (.int .i64 (0:Int)))),(6,.d (.v (.int .i64 (3:Int))))]) (ts:=[35,5,6]) (N':=36) (fr2:=[(35,.agg (cS_Token (S_Token.mk 0 0 [] 0 0)))]++[(4,.box [.d (.v (.int .i64 0)),.d (.v (.int .i64 0)),.d (.str []),.d (.v (.int .i64 0)),.d (.v (.int .i64 0))]),(5,.d (.v (.int .i64 (0:Int)))),(6,.d (.v (.int .i64 (3:Int))))]) [.keep [4,5,6]] (by kernel_rfl) (by kernel_rfl) (by kernel_rfl) (by kernel_rfl) (by show _=_; kernel_rfl) (by exact trivial) a w hm)
    · have h:=cond_ff hc h
      refine T_skip fun a w hm=>then_norm (((?_:T Tryz.prog e 35 _ _ _) a w hm))
      obtain ⟨y1,hy1,h⟩:=call_ok h
      refine T_reg [(2,{ res:=.tup [.agg (cS_Token y1.1),.d (.v (.int .i64 y1.2.1)),.d (.v (.int .i64 y1.2.2))] })] [4,7,8,9] [(7,.box [.d (.v (.int .i64 y1.1.f0)),.d (.v (.int .i64 y1.1.f1)),.d (.str y1.1.f2),.d (.v (.int .i64 y1.1.f3)),.d (.v (.int .i64 y1.1.f4))]),(8,.d (.v (.int .i64 y1.2.1))),(9,.d (.v (.int .i64 y1.2.2)))] [(2,ACall Tryz.prog 59 [.d (.str a0),.d (.v (.int .i64 a1))] [] (.tup [.agg (cS_Token y1.1),.d (.v (.int .i64 y1.2.1)),.d (.v (.int .i64 y1.2.2))]) [])] 8 (by kernel_rfl) (token_next_ok hy1) ?_
      refine T_joinc h (fun (p:Int)=>[(4,.box [.d (.v (.int .i64 0)),.d (.v (.int .i64 0)),.d (.str []),.d (.v (.int .i64 0)),.d (.v (.int .i64 0))]),(7,.box [.d (.v (.int .i64 y1.1.f0)),.d (.v (.int .i64 y1.1.f1)),.d (.str y1.1.f2),.d (.v (.int .i64 y1.1.f3)),.d (.v (.int .i64 y1.1.f4))]),(8,.d (.v (.int .i64 p))),(9,.d (.v (.int .i64 y1.2.2)))]) (fun s h=>?_) (fun v1 h=>?_)
      · refine T_reg [] [4,7,8,9,31] [(31,.d (.v (.bool (y1.2.2 == (0:Int)))))] [] 2 (by kernel_rfl) (trivial) ?_
        refine T_cond (y1.2.2 == (0:Int)) (by kernel_rfl) (fun hc=>?_) (fun hc=>?_)
        · have h:=cond_tt hc h
          obtain hs:=Option.some.inj h; subst hs
          refine T_reg_end [] [4,7,8,9] [(8,.d (.v (.int .i64 (0:Int))))] [] 1 (by kernel_rfl) (trivial) fun a w hm=>then_norm (hm.co (cs:=[.keep [4,7,8,9]]) (by show _=_; kernel_rfl))
        · have h:=cond_ff hc h
          obtain hs:=Option.some.inj h; subst hs
          refine T_skip fun a w hm=>then_norm (hm.co (cs:=[.keep [4,7,8,9]]) (by show _=_; kernel_rfl))
      · skip
        refine T_reg [] [4,5,6] [(4,.box [.d (.v (.int .i64 y1.1.f0)),.d (.v (.int .i64 y1.1.f1)),.d (.str y1.1.f2),.d (.v (.int .i64 y1.1.f3)),.d (.v (.int .i64 y1.1.f4))]),(5,.d (.v (.int .i64 v1))),(6,.d (.v (.int .i64 y1.2.2)))] [] 6 (by kernel_rfl) (trivial) ?_
        obtain hs:=Option.some.inj h; subst hs
        refine T_ret fun a w hm=>T_returnC (fr':=[(4,.box [.d (.v (.int .i64 y1.1.f0)),.d (.v (.int .i64 y1.1.f1)),.d (.str y1.1.f2),.d (.v (.int .i64 y1.1.f3)),.d (.v (.int .i64 y1.1.f4))]),(5,.d (.v (.int .i64 v1))),(6,.d (.v (.int .i64 y1.2.2)))]) (ts:=[35,5,6]) (N':=36) (fr2:=[(35,.agg (cS_Token y1.1))]++[(4,.box [.d (.v (.int .i64 y1.1.f0)),.d (.v (.int .i64 y1.1.f1)),.d (.str y1.1.f2),.d (.v (.int .i64 y1.1.f3)),.d (.v (.int .i64 y1.1.f4))]),(5,.d (.v (.int .i64 v1))),(6,.d (.v (.int .i64 y1.2.2)))]) [.keep [4,5,6]] (by kernel_rfl) (by kernel_rfl) (by kernel_rfl) (by kernel_rfl) (by show _=_; kernel_rfl) (by exact trivial) a w hm
theorem object_fail_ok {F:Nat} {a0:Int} {a1:Int} {r:Unit} (h:object_fail F a0 a1=some r):ACall Tryz.prog 19 [.d (.v (.int .i64 a0)),.d (.v (.int .i64 a1))] [] (.tup []) []:=by
  rw [object_fail] at h
  refine ACall.intro (N:=8) Tryz.func19 rfl rfl rfl rfl rfl fun e=>?_
  cases h
set_option maxHeartbeats 8000000 in
set_option maxRecDepth 100000 in
theorem object_parser_advance_ok {F:Nat} {c0:List UInt8} {c1:Int} {c2:Int} {c3:List UInt8} {c4:Int} {c5:Int} {r:(List UInt8)×Int×Int×(List UInt8)×Int×Int} (h:object_parser_advance F c0 c1 c2 c3 c4 c5=some r):ACall Tryz.prog 17 [.bp 1000000 0] [.box [.d (.str c0),.d (.v (.int .i64 c1)),.d (.v (.int .i64 c2)),.d (.str c3),.d (.v (.int .i64 c4)),.d (.v (.int .i64 c5))]] (.tup []) [.box [.d (.str r.1),.d (.v (.int .i64 r.2.1)),.d (.v (.int .i64 r.2.2.1)),.d (.str r.2.2.2.1),.d (.v (.int .i64 r.2.2.2.2.1)),.d (.v (.int .i64 r.2.2.2.2.2))]]:=by
  rw [object_parser_advance] at h
  refine ACall.intro (N:=28) Tryz.func17 rfl rfl rfl rfl rfl fun e=>?_
  obtain ⟨y1,hy1,h⟩:=call_ok h
  refine T_drawG mixed [(18,0,some 0),(17,1,some 1),(16,3,some 2),(15,7,some 4),(14,23,some 5),(13,55,some 6),(12,119,some 7),(11,247,none),(10,255,none),(10,503,none),(10,16631,none),(9,511,none),(9,16639,none),(9,16887,none),(8,1023,some 10),(8,16895,none),(7,2047,none),(7,17407,some 10),(6,4095,none),(6,6143,none),(6,10239,none),(6,18431,none),(5,8191,none),(5,12287,none),(5,14335,none),(5,20479,none),(5,22527,none),(5,26623,none),(4,16383,none),(4,24575,none),(4,28671,none),(4,30719,none),(4,53247,none),(3,32767,none),(3,57343,some 16),(3,61439,none),(2,65535,some 16),(2,122879,none),(1,131071,some 17),(0,262143,none)] [(18,4,.d (.v (.int .i64 y1.2.2))),(17,3,.d (.v (.int .i64 y1.2.1))),(16,2,.box [.d (.v (.int .i64 y1.1.f0)),.d (.v (.int .i64 y1.1.f1)),.d (.str y1.1.f2),.d (.v (.int .i64 y1.1.f3)),.d (.v (.int .i64 y1.1.f4))]),(15,2,.box [.d (.v (.int .i64 0)),.d (.v (.int .i64 0)),.d (.str []),.d (.v (.int .i64 0)),.d (.v (.int .i64 0))]),(14,18,.d (.v (.int .i64 y1.2.2))),(13,17,.d (.v (.int .i64 y1.2.1))),(12,16,.agg (cS_Token y1.1)),(11,5,.tup [.agg (cS_Token y1.1),.d (.v (.int .i64 y1.2.1)),.d (.v (.int .i64 y1.2.2))]),(11,15,.junk),(10,15,.tup [.agg (cS_Token y1.1),.d (.v (.int .i64 y1.2.1)),.d (.v (.int .i64 y1.2.2))]),(9,14,.d (.v (.int .i64 c5))),(8,13,.bp 1000000 5),(7,12,.bp 1000000 1),(6,11,.bp 1000000 0),(5,10,.bp 1000000 0),(4,9,.d (.str c0)),(3,8,.bp 1000000 0),(2,7,.bp 1000000 0),(1,6,.bp 1000000 0),(0,0,.bp 1000000 0),(0,1000000,.box [.d (.str c0),.d (.v (.int .i64 c1)),.d (.v (.int .i64 c2)),.d (.str c3),.d (.v (.int .i64 c4)),.d (.v (.int .i64 c5))])] [0,2,3,4,5,6,7,8,9,10,11,12,13,14,15,16,17,18,1000000] ([0,1,2,4,0,16,32,64,128,264,512,1024,1024,1024,0,20479,57343,131071],[0,1,2,4,0,16,32,64,128,264,512,1024,1024,1024,0,18432,4096,8192]) 197879 [(9,{ res:=.tup [.agg (cS_Token y1.1),.d (.v (.int .i64 y1.2.1)),.d (.v (.int .i64 y1.2.2))] })] [0,2,3,4,1000000] [] [(0,.bp 1000000 0),(2,.box [.d (.v (.int .i64 y1.1.f0)),.d (.v (.int .i64 y1.1.f1)),.d (.str y1.1.f2),.d (.v (.int .i64 y1.1.f3)),.d (.v (.int .i64 y1.1.f4))]),(3,.d (.v (.int .i64 y1.2.1))),(4,.d (.v (.int .i64 y1.2.2))),(1000000,.box [.d (.str c0),.d (.v (.int .i64 c1)),.d (.v (.int .i64 c2)),.d (.str c3),.d (.v (.int .i64 c4)),.d (.v (.int .i64 c5))])] ((fun (o9:Prop)=>[(16,o9),(4,o9)]) (ACall Tryz.prog 31 [.d (.str c0),.d (.v (.int .i64 c5))] [] (.tup [.agg (cS_Token y1.1),.d (.v (.int .i64 y1.2.1)),.d (.v (.int .i64 y1.2.2))]) [])) 44 (by kernel_rfl) (by kernel_rfl) (by kernel_rfl) (by kernel_rfl) (by kernel_rfl) (by kernel_rfl) (have p9:=token_Next_ok hy1; ⟨p9,p9⟩) ?_
  refine T_joinc h (fun (p:Unit)=>[(0,.bp 1000000 0),(2,.box [.d (.v (.int .i64 y1.1.f0)),.d (.v (.int .i64 y1.1.f1)),.d (.str y1.1.f2),.d (.v (.int .i64 y1.1.f3)),.d (.v (.int .i64 y1.1.f4))]),(1000000,.box [.d (.str c0),.d (.v (.int .i64 c1)),.d (.v (.int .i64 c2)),.d (.str c3),.d (.v (.int .i64 c4)),.d (.v (.int .i64 c5))])]) (fun s h=>?_) (fun s h=>?_)
  · refine T_reg [] [0,2,3,4,20,1000000] [(20,.d (.v (.bool (y1.2.2 != (0:Int)))))] [] 2 (by kernel_rfl) (trivial) ?_
    refine T_cond (y1.2.2 != (0:Int)) (by kernel_rfl) (fun hc=>?_) (fun hc=>?_)
    · have h:=cond_tt hc h
      obtain ⟨y2,hy2,h⟩:=call_ok h
      obtain hs:=Option.some.inj h; subst hs
      refine T_reg_end [(2,{ res:=.tup [] })] [0,2,1000000] [] [(2,ACall Tryz.prog 19 [.d (.v (.int .i64 y1.2.1)),.d (.v (.int .i64 y1.2.2))] [] (.tup []) [])] 0 (by kernel_rfl) (object_fail_ok hy2) fun a w hm=>then_norm (hm.co (cs:=[.keep [0,2,1000000]]) (by show _=_; kernel_rfl))
    · have h:=cond_ff hc h
      obtain hs:=Option.some.inj h; subst hs
      refine T_skip fun a w hm=>then_norm (hm.co (cs:=[.keep [0,2,1000000]]) (by show _=_; kernel_rfl))
  · skip
    obtain hs:=Option.some.inj h; subst hs
    refine T_reg_end [] [1000000] [(1000000,.box [.d (.str c0),.d (.v (.int .i64 y1.1.f0)),.d (.v (.int .i64 y1.1.f1)),.d (.str y1.1.f2),.d (.v (.int .i64 y1.1.f3)),.d (.v (.int .i64 y1.1.f4))])] [] 5 (by kernel_rfl) (trivial) fun a w hm=>T_return (fr':=[(1000000,.box [.d (.str c0),.d (.v (.int .i64 y1.1.f0)),.d (.v (.int .i64 y1.1.f1)),.d (.str y1.1.f2),.d (.v (.int .i64 y1.1.f3)),.d (.v (.int .i64 y1.1.f4))])]) [] (by kernel_rfl) [.keep [1000000]] (by kernel_rfl) (by kernel_rfl) (by kernel_rfl) (by show _=_; kernel_rfl) (by exact ⟨⟨by kernel_rfl,by kernel_rfl⟩,trivial⟩) a w hm
theorem object_parser_more_ok {F:Nat} {a0:Int} {a1:Int} {c2:List UInt8} {c3:Int} {c4:Int} {c5:List UInt8} {c6:Int} {c7:Int} {r:Bool×(List UInt8)×Int×Int×(List UInt8)×Int×Int} (h:object_parser_more F a0 a1 c2 c3 c4 c5 c6 c7=some r):ACall Tryz.prog 60 [.bp 1000000 0,.d (.v (.int .i64 a0)),.d (.v (.int .i64 a1))] [.box [.d (.str c2),.d (.v (.int .i64 c3)),.d (.v (.int .i64 c4)),.d (.str c5),.d (.v (.int .i64 c6)),.d (.v (.int .i64 c7))]] (.d (.v (.bool r.1))) [.box [.d (.str r.2.1),.d (.v (.int .i64 r.2.2.1)),.d (.v (.int .i64 r.2.2.2.1)),.d (.str r.2.2.2.2.1),.d (.v (.int .i64 r.2.2.2.2.2.1)),.d (.v (.int .i64 r.2.2.2.2.2.2))]]:=by
  rw [object_parser_more] at h
  refine ACall.intro (N:=39) Tryz.func60 rfl rfl rfl rfl rfl fun e=>?_
  refine T_reg [] [0,1,2,1000000] [] [] 1 (by kernel_rfl) (trivial) ?_
  obtain ⟨y1,hy1,h⟩:=call_ok h
  refine T_reg [(1,{ res:=.tup [],vout:=[.box [.d (.str y1.1),.d (.v (.int .i64 y1.2.1)),.d (.v (.int .i64 y1.2.2.1)),.d (.str y1.2.2.2.1),.d (.v (.int .i64 y1.2.2.2.2.1)),.d (.v (.int .i64 y1.2.2.2.2.2))]],xs:=[1000000] })] [0,1,2,1000000] [(1000000,.box [.d (.str y1.1),.d (.v (.int .i64 y1.2.1)),.d (.v (.int .i64 y1.2.2.1)),.d (.str y1.2.2.2.1),.d (.v (.int .i64 y1.2.2.2.2.1)),.d (.v (.int .i64 y1.2.2.2.2.2))])] [(1,ACall Tryz.prog 17 [.bp 1000000 0] [.box [.d (.str c2),.d (.v (.int .i64 c3)),.d (.v (.int .i64 c4)),.d (.str c5),.d (.v (.int .i64 c6)),.d (.v (.int .i64 c7))]] (.tup []) [.box [.d (.str y1.1),.d (.v (.int .i64 y1.2.1)),.d (.v (.int .i64 y1.2.2.1)),.d (.str y1.2.2.2.1),.d (.v (.int .i64 y1.2.2.2.2.1)),.d (.v (.int .i64 y1.2.2.2.2.2))]])] 0 (by kernel_rfl) (object_parser_advance_ok hy1) ?_
  refine T_joinE h (fun (p:Unit)=>[(1000000,.box [.d (.str y1.1),.d (.v (.int .i64 y1.2.1)),.d (.v (.int .i64 y1.2.2.1)),.d (.str y1.2.2.2.1),.d (.v (.int .i64 y1.2.2.2.2.1)),.d (.v (.int .i64 y1.2.2.2.2.2))])]) (fun s h hk1=>?_) (fun s h=>?_)
  · refine T_block ?_
    refine T_reg [] [0,2,9,1000000] [(9,.d (.v (.bool (y1.2.1 == a0))))] [] 8 (by kernel_rfl) (trivial) ?_
    refine T_cond (y1.2.1 == a0) (by kernel_rfl) (fun hc=>?_) (fun hc=>?_)
    · have h:=cond_tt hc h
      refine T_reg [] [6,1000000] [(6,.d (.v (.bool false)))] [] 1 (by kernel_rfl) (trivial) ?_
      obtain hs:=Option.some.inj h; subst hs
      have h:=callE_esc hk1
      obtain hs:=Option.some.inj h; subst hs
      refine T_ret fun a w hm=>inBlock_ret (then_ret (T_return (fr':=[(6,.d (.v (.bool false))),(1000000,.box [.d (.str y1.1),.d (.v (.int .i64 y1.2.1)),.d (.v (.int .i64 y1.2.2.1)),.d (.str y1.2.2.2.1),.d (.v (.int .i64 y1.2.2.2.2.1)),.d (.v (.int .i64 y1.2.2.2.2.2))])]) [6] (by kernel_rfl) [.keep [6,1000000]] (by kernel_rfl) (by kernel_rfl) (by kernel_rfl) (by show _=_; kernel_rfl) (by exact ⟨⟨by kernel_rfl,by kernel_rfl⟩,trivial⟩) a w hm))
    · have h:=cond_ff hc h
      refine T_reg [] [0,2,17,1000000] [(17,.d (.v (.bool (y1.2.1 == (0:Int)))))] [] 7 (by kernel_rfl) (trivial) ?_
      refine T_cond (y1.2.1 == (0:Int)) (by kernel_rfl) (fun hc=>?_) (fun hc=>?_)
      · have h:=cond_tt hc h
        obtain ⟨y2,hy2,h⟩:=call_ok h
        obtain hs:=Option.some.inj h; subst hs
        refine T_reg_end [(5,{ res:=.tup [] })] [1000000] [] [(5,ACall Tryz.prog 19 [.d (.v (.int .i64 y1.2.2.2.2.1)),.d (.v (.int .i64 (12:Int)))] [] (.tup []) [])] 0 (by kernel_rfl) (object_fail_ok hy2) fun a w hm=>inBlock_norm (then_norm (⟨_,rfl,hm.co (cs:=[.keep [1000000]]) (by show _=_; kernel_rfl)⟩))
      · have h:=cond_ff hc h
        refine T_reg [] [0,30,1000000] [(30,.d (.v (.bool (a1 == (256:Int)))))] [] 3 (by kernel_rfl) (trivial) ?_
        refine T_cond (a1 == (256:Int)) (by kernel_rfl) (fun hc=>?_) (fun hc=>?_)
        · have h:=cond_tt hc h
          obtain ⟨y3,hy3,h⟩:=call_ok h
          obtain hs:=Option.some.inj h; subst hs
          refine T_reg_end [(5,{ res:=.tup [] })] [1000000] [] [(5,ACall Tryz.prog 19 [.d (.v (.int .i64 y1.2.2.2.2.1)),.d (.v (.int .i64 (2:Int)))] [] (.tup []) [])] 0 (by kernel_rfl) (object_fail_ok hy3) fun a w hm=>inBlock_norm (then_norm (⟨_,rfl,hm.co (cs:=[.keep [1000000]]) (by show _=_; kernel_rfl)⟩))
        · have h:=cond_ff hc h
          obtain hs:=Option.some.inj h; subst hs
          refine T_skip fun a w hm=>inBlock_norm (then_norm (⟨_,rfl,hm.co (cs:=[.keep [1000000]]) (by show _=_; kernel_rfl)⟩))
  · skip
    refine T_reg [] [6,1000000] [(6,.d (.v (.bool true)))] [] 1 (by kernel_rfl) (trivial) ?_
    obtain hs:=Option.some.inj h; subst hs
    refine T_ret fun a w hm=>T_return (fr':=[(6,.d (.v (.bool true))),(1000000,.box [.d (.str y1.1),.d (.v (.int .i64 y1.2.1)),.d (.v (.int .i64 y1.2.2.1)),.d (.str y1.2.2.2.1),.d (.v (.int .i64 y1.2.2.2.2.1)),.d (.v (.int .i64 y1.2.2.2.2.2))])]) [6] (by kernel_rfl) [.keep [6,1000000]] (by kernel_rfl) (by kernel_rfl) (by kernel_rfl) (by show _=_; kernel_rfl) (by exact ⟨⟨by kernel_rfl,by kernel_rfl⟩,trivial⟩) a w hm
theorem object_parser_list_ok {F:Nat} {rec_object_parser_object:Int→(List UInt8)→Int→Int→(List UInt8)→Int→Int→Option (S_Object×(List UInt8)×Int×Int×(List UInt8)×Int×Int)} (hrec_object_parser_object:∀ {a0:Int},∀ {c1:List UInt8},∀ {c2:Int},∀ {c3:Int},∀ {c4:List UInt8},∀ {c5:Int},∀ {c6:Int},∀ {r:S_Object×(List UInt8)×Int×Int×(List UInt8)×Int×Int},rec_object_parser_object a0 c1 c2 c3 c4 c5 c6=some r→ACall Tryz.prog 18 [.bp 1000000 0,.d (.v (.int .i64 a0))] [.box [.d (.str c1),.d (.v (.int .i64 c2)),.d (.v (.int .i64 c3)),.d (.str c4),.d (.v (.int .i64 c5)),.d (.v (.int .i64 c6))]] (.agg (cS_Object r.1)) [.box [.d (.str r.2.1),.d (.v (.int .i64 r.2.2.1)),.d (.v (.int .i64 r.2.2.2.1)),.d (.str r.2.2.2.2.1),.d (.v (.int .i64 r.2.2.2.2.2.1)),.d (.v (.int .i64 r.2.2.2.2.2.2))]]) {a0:Int} {c1:List UInt8} {c2:Int} {c3:Int} {c4:List UInt8} {c5:Int} {c6:Int} {r:S_Object×(List UInt8)×Int×Int×(List UInt8)×Int×Int} (h:object_parser_list F rec_object_parser_object a0 c1 c2 c3 c4 c5 c6=some r):ACall Tryz.prog 32 [.bp 1000000 0,.d (.v (.int .i64 a0))] [.box [.d (.str c1),.d (.v (.int .i64 c2)),.d (.v (.int .i64 c3)),.d (.str c4),.d (.v (.int .i64 c5)),.d (.v (.int .i64 c6))]] (.agg (cS_Object r.1)) [.box [.d (.str r.2.1),.d (.v (.int .i64 r.2.2.1)),.d (.v (.int .i64 r.2.2.2.1)),.d (.str r.2.2.2.2.1),.d (.v (.int .i64 r.2.2.2.2.2.1)),.d (.v (.int .i64 r.2.2.2.2.2.2))]]:=by
  rw [object_parser_list] at h
  refine ACall.intro (N:=22) Tryz.func32 rfl rfl rfl rfl rfl fun e=>?_
  refine T_reg [] [0,1,4,1000000] [(4,.box [.d (.v (.int .i64 0)),.d (.v (.int .i64 0)),.d (.str []),.own 9 1 ([].map cS),.own 26 5 ([].map rS_Object)])] [] 1 (by kernel_rfl) (trivial) ?_
  refine T_region [(0,{ take:=[0] })] [0,1,4,5,1000000] [.nilc 5 3 9 1,.nilc 5 4 26 5,.keep [0,1,4,5,1000000]] [(0,.bp 1000000 0),(1,.d (.v (.int .i64 a0))),(4,.box [.d (.v (.int .i64 0)),.d (.v (.int .i64 0)),.d (.str []),.own 9 1 ([].map cS),.own 26 5 ([].map rS_Object)]),(5,.box [.d (.v (.int .i64 (6:Int))),.d (.v (.int .i64 0)),.d (.str []),.own 9 1 ([].map cS),.own 26 5 ([].map rS_Object)]),(1000000,.box [.d (.str c1),.d (.v (.int .i64 c2)),.d (.v (.int .i64 c3)),.d (.str c4),.d (.v (.int .i64 c5)),.d (.v (.int .i64 c6))])] [] 3 (by kernel_rfl) (trivial) ?_
  refine T_joinc h (fun (p:(List S_Object)×(List UInt8)×Int×Int×(List UInt8)×Int×Int)=>[(4,.box [.d (.v (.int .i64 0)),.d (.v (.int .i64 0)),.d (.str []),.own 9 1 ([].map cS),.own 26 5 ([].map rS_Object)]),(5,.box [.d (.v (.int .i64 (6:Int))),.d (.v (.int .i64 0)),.d (.str []),.own 9 1 ([].map cS),.own 26 5 (p.1.map rS_Object)]),(1000000,.box [.d (.str p.2.1),.d (.v (.int .i64 p.2.2.1)),.d (.v (.int .i64 p.2.2.2.1)),.d (.str p.2.2.2.2.1),.d (.v (.int .i64 p.2.2.2.2.2.1)),.d (.v (.int .i64 p.2.2.2.2.2.2))])]) (fun s h=>?_) (fun s h=>?_)
  · refine T_co [.keep [0,1,4,5,1000000]] ((fun (p:(List S_Object)×(List UInt8)×Int×Int×(List UInt8)×Int×Int)=>[(0,.bp 1000000 0),(1,.d (.v (.int .i64 a0))),(4,.box [.d (.v (.int .i64 0)),.d (.v (.int .i64 0)),.d (.str []),.own 9 1 ([].map cS),.own 26 5 ([].map rS_Object)]),(5,.box [.d (.v (.int .i64 (6:Int))),.d (.v (.int .i64 0)),.d (.str []),.own 9 1 ([].map cS),.own 26 5 (p.1.map rS_Object)]),(1000000,.box [.d (.str p.2.1),.d (.v (.int .i64 p.2.2.1)),.d (.v (.int .i64 p.2.2.2.1)),.d (.str p.2.2.2.2.1),.d (.v (.int .i64 p.2.2.2.2.2.1)),.d (.v (.int .i64 p.2.2.2.2.2.2))])]) ([],c1,c2,c3,c4,c5,c6)) (by show _=_; kernel_rfl) ?_
    refine T_block ?_
    refine T_loopF (ι:=(List S_Object)×(List UInt8)×Int×Int×(List UInt8)×Int×Int) (fun (p:(List S_Object)×(List UInt8)×Int×Int×(List UInt8)×Int×Int)=>[(0,.bp 1000000 0),(1,.d (.v (.int .i64 a0))),(4,.box [.d (.v (.int .i64 0)),.d (.v (.int .i64 0)),.d (.str []),.own 9 1 ([].map cS),.own 26 5 ([].map rS_Object)]),(5,.box [.d (.v (.int .i64 (6:Int))),.d (.v (.int .i64 0)),.d (.str []),.own 9 1 ([].map cS),.own 26 5 (p.1.map rS_Object)]),(1000000,.box [.d (.str p.2.1),.d (.v (.int .i64 p.2.2.1)),.d (.v (.int .i64 p.2.2.2.1)),.d (.str p.2.2.2.2.1),.d (.v (.int .i64 p.2.2.2.2.2.1)),.d (.v (.int .i64 p.2.2.2.2.2.2))])]) (fun n p=>object_parser_list_L0 F a0 rec_object_parser_object n p.1 p.2.1 p.2.2.1 p.2.2.2.1 p.2.2.2.2.1 p.2.2.2.2.2.1 p.2.2.2.2.2.2=some s) (fun i hh=>by simp [object_parser_list_L0] at hh) (fun n p h=>?_) F ([],c1,c2,c3,c4,c5,c6) h
    obtain ⟨v1,v2,v3,v4,v5,v6,v7⟩:=p
    have h:object_parser_list_L0 F a0 rec_object_parser_object (n+1) v1 v2 v3 v4 v5 v6 v7=some s:=h
    rw [object_parser_list_L0] at h
    refine T_seqk ?_
    obtain ⟨y1,hy1,h⟩:=call_ok h
    refine T_reg [(3,{ rw:=some (.d (.v (.int .i64 (v1.length:Int)))) }),(4,{ res:=.d (.v (.bool y1.1)),vout:=[.box [.d (.str y1.2.1),.d (.v (.int .i64 y1.2.2.1)),.d (.v (.int .i64 y1.2.2.2.1)),.d (.str y1.2.2.2.2.1),.d (.v (.int .i64 y1.2.2.2.2.2.1)),.d (.v (.int .i64 y1.2.2.2.2.2.2))]],xs:=[1000000] })] [0,1,4,5,11,1000000] [(11,.d (.v (.bool y1.1))),(1000000,.box [.d (.str y1.2.1),.d (.v (.int .i64 y1.2.2.1)),.d (.v (.int .i64 y1.2.2.2.1)),.d (.str y1.2.2.2.2.1),.d (.v (.int .i64 y1.2.2.2.2.2.1)),.d (.v (.int .i64 y1.2.2.2.2.2.2))])] [(3,True∧AV.d (.v (.int .i64 ((v1.map rS_Object).length:Int)))=.d (.v (.int .i64 (v1.length:Int)))),(0,ACall Tryz.prog 60 [.bp 1000000 0,.d (.v (.int .i64 (7:Int))),.d (.v (.int .i64 (v1.length:Int)))] [.box [.d (.str v2),.d (.v (.int .i64 v3)),.d (.v (.int .i64 v4)),.d (.str v5),.d (.v (.int .i64 v6)),.d (.v (.int .i64 v7))]] (.d (.v (.bool y1.1))) [.box [.d (.str y1.2.1),.d (.v (.int .i64 y1.2.2.1)),.d (.v (.int .i64 y1.2.2.2.1)),.d (.str y1.2.2.2.2.1),.d (.v (.int .i64 y1.2.2.2.2.2.1)),.d (.v (.int .i64 y1.2.2.2.2.2.2))]])] 0 (by kernel_rfl) (⟨len_ok rS_Object,object_parser_more_ok hy1⟩) ?_
    refine T_cond y1.1 (by kernel_rfl) (fun hc=>?_) (fun hc=>?_)
    · have h:=cond_tt hc h
      refine T_skip fun a w hm=>then_norm (((?_:T Tryz.prog e 22 _ _ _) a w hm))
      refine T_block ?_
      obtain ⟨y2,hy2,h⟩:=call_ok h
      obtain ⟨hp1,h⟩:=chk_ok h
      refine T_drawX_end mixed 3 (.take 0 (.take 2 (.take 3 (.take 4 (.all (.alt 1 (.all (.alt 5 (.all (.alt 6 (.all (.alt 7 (.take 8 (.all (.alt 9 .done .stop))) .stop)) .stop)) .stop)) (.alt 5 (.all (.alt 1 (.all (.alt 6 (.all (.alt 7 (.take 8 (.all (.alt 9 .done .stop))) .stop)) .stop)) (.alt 6 (.all (.alt 1 (.all (.alt 7 (.take 8 (.all (.alt 9 .done .stop))) .stop)) .stop)) .stop))) .stop))))))) ([0,1,0,0,8,20,32,98,255,511],[0,1,0,0,8,20,32,66,0,384]) 285 [(5,{ res:=.agg (cS_Object y2.1),vout:=[.box [.d (.str y2.2.1),.d (.v (.int .i64 y2.2.2.1)),.d (.v (.int .i64 y2.2.2.2.1)),.d (.str y2.2.2.2.2.1),.d (.v (.int .i64 y2.2.2.2.2.2.1)),.d (.v (.int .i64 y2.2.2.2.2.2.2))]],xs:=[1000000] }),(6,{ es:=some (([y2.1]).map rS_Object) }),(7,{ es:=some ((v1++([y2.1])).map rS_Object) })] [0,1,4,5,1000000] [] [(0,.bp 1000000 0),(1,.d (.v (.int .i64 a0))),(4,.box [.d (.v (.int .i64 0)),.d (.v (.int .i64 0)),.d (.str []),.own 9 1 ([].map cS),.own 26 5 ([].map rS_Object)]),(5,.box [.d (.v (.int .i64 (6:Int))),.d (.v (.int .i64 0)),.d (.str []),.own 9 1 ([].map cS),.own 26 5 ((v1++([y2.1])).map rS_Object)]),(1000000,.box [.d (.str y2.2.1),.d (.v (.int .i64 y2.2.2.1)),.d (.v (.int .i64 y2.2.2.2.1)),.d (.str y2.2.2.2.2.1),.d (.v (.int .i64 y2.2.2.2.2.2.1)),.d (.v (.int .i64 y2.2.2.2.2.2.2))])] ((fun (o5:Prop)=>fun (o6:Prop)=>fun (o7:Prop)=>[(5,o5),(0,o6),(0,o7),(2,o5),(1,o6),(0,o7),(2,o6),(1,o7)]) (ACall Tryz.prog 18 [.bp 1000000 0,.d (.v (.int .i64 (IntKind.i64.wrap (a0+(1:Int)))))] [.box [.d (.str y1.2.1),.d (.v (.int .i64 y1.2.2.1)),.d (.v (.int .i64 y1.2.2.2.1)),.d (.str y1.2.2.2.2.1),.d (.v (.int .i64 y1.2.2.2.2.2.1)),.d (.v (.int .i64 y1.2.2.2.2.2.2))]] (.agg (cS_Object y2.1)) [.box [.d (.str y2.2.1),.d (.v (.int .i64 y2.2.2.1)),.d (.v (.int .i64 y2.2.2.2.1)),.d (.str y2.2.2.2.2.1),.d (.v (.int .i64 y2.2.2.2.2.2.1)),.d (.v (.int .i64 y2.2.2.2.2.2.2))]]) ([cS_Object y2.1]=(([y2.1]).map rS_Object)) ((v1.map rS_Object).length+(([y2.1]).map rS_Object).length≤4294967296∧(v1.map rS_Object)++(([y2.1]).map rS_Object)=((v1++([y2.1])).map rS_Object))) 2 (by kernel_rfl) (by kernel_rfl) (by kernel_rfl) (have p5:=hrec_object_parser_object hy2; have p6:=(lit_r rS_Object_eq y2.1 (rfl:([]:List (List Dat))=([]:List S_Object).map rS_Object)); have p7:=app_ok rS_Object hp1; ⟨p5,p6,p7,p5,p6,p7,p6,p7⟩) fun a w hm=>inBlock_norm (then_norm (⟨((v1++([y2.1])),y2.2.1,y2.2.2.1,y2.2.2.2.1,y2.2.2.2.2.1,y2.2.2.2.2.2.1,y2.2.2.2.2.2.2),h,hm.co (cs:=[.keep [0,1,4,5,1000000]]) (by show _=_; kernel_rfl)⟩))
    · have h:=cond_ff hc h
      obtain hs:=Option.some.inj h; subst hs
      refine T_exit fun a w hm=>then_exit (then_exit (inBlock_exit (then_norm (hm.co (cs:=[.keep [4,5,1000000]]) (by show _=_; kernel_rfl)))))
  · obtain ⟨v8,v9,v10,v11,v12,v13,v14⟩:=s
    try dsimp only at h
    refine T_reg [(0,{ frz:=[(5,4),(5,5)] })] [4,1000000] [(4,.box [.d (.v (.int .i64 (6:Int))),.d (.v (.int .i64 0)),.d (.str []),.d (.sl 1 ([].map cS)),.d (.sl 5 (v8.map rS_Object))])] [] 2 (by kernel_rfl) (trivial) ?_
    obtain hs:=Option.some.inj h; subst hs
    refine T_ret fun a w hm=>T_returnC (fr':=[(4,.box [.d (.v (.int .i64 (6:Int))),.d (.v (.int .i64 0)),.d (.str []),.d (.sl 1 ([].map cS)),.d (.sl 5 (v8.map rS_Object))]),(1000000,.box [.d (.str v9),.d (.v (.int .i64 v10)),.d (.v (.int .i64 v11)),.d (.str v12),.d (.v (.int .i64 v13)),.d (.v (.int .i64 v14))])]) (ts:=[22]) (N':=23) (fr2:=[(22,.agg (cS_Object (S_Object.mk (6:Int) 0 [] [] v8)))]++[(4,.box [.d (.v (.int .i64 (6:Int))),.d (.v (.int .i64 0)),.d (.str []),.d (.sl 1 ([].map cS)),.d (.sl 5 (v8.map rS_Object))]),(1000000,.box [.d (.str v9),.d (.v (.int .i64 v10)),.d (.v (.int .i64 v11)),.d (.str v12),.d (.v (.int .i64 v13)),.d (.v (.int .i64 v14))])]) [.keep [4,1000000]] (by kernel_rfl) (by kernel_rfl) (by kernel_rfl) (by kernel_rfl) (by show _=_; kernel_rfl) (by exact ⟨⟨by kernel_rfl,by kernel_rfl⟩,trivial⟩) a w hm
theorem cmp_isNaN_string_ok {F:Nat} {a0:List UInt8} {r:Bool} (h:cmp_isNaN_string F a0=some r):ACall Tryz.prog 114 [.d (.str a0)] [] (.d (.v (.bool r))) []:=by
  rw [cmp_isNaN_string] at h
  refine ACall.intro (N:=6) Tryz.func114 rfl rfl rfl rfl rfl fun e=>?_
  refine T_reg [] [0] [] [] 1 (by kernel_rfl) (trivial) ?_
  refine T_reg [] [2] [(2,.d (.v (.bool (!(a0 == a0)))))] [] 4 (by kernel_rfl) (trivial) ?_
  obtain hs:=Option.some.inj h; subst hs
  refine T_ret fun a w hm=>T_return (fr':=[(2,.d (.v (.bool (!(a0 == a0)))))]) [2] (by kernel_rfl) [.keep [2]] (by kernel_rfl) (by kernel_rfl) (by kernel_rfl) (by show _=_; kernel_rfl) (by exact trivial) a w hm
theorem cmp_Less_string_ok {F:Nat} {a0:List UInt8} {a1:List UInt8} {r:Bool} (h:cmp_Less_string F a0 a1=some r):ACall Tryz.prog 89 [.d (.str a0),.d (.str a1)] [] (.d (.v (.bool r))) []:=by
  rw [cmp_Less_string] at h
  refine ACall.intro (N:=17) Tryz.func89 rfl rfl rfl rfl rfl fun e=>?_
  refine T_reg [] [0,1] [] [] 1 (by kernel_rfl) (trivial) ?_
  obtain ⟨y1,hy1,h⟩:=call_ok h
  obtain ⟨y2,hy2,h⟩:=call_ok h
  refine T_reg [(1,{ res:=.d (.v (.bool y1)) }),(4,{ res:=.d (.v (.bool y2)) })] [4] [(4,.d (.v (.bool (bif (bif y1 then (!y2) else false) then true else (Op.bytesLess a0 a1)))))] [(1,ACall Tryz.prog 114 [.d (.str a0)] [] (.d (.v (.bool y1))) []),(1,(((y1 == true) && true)=true→True)),(0,(((y1 == true) && true)=true→ACall Tryz.prog 114 [.d (.str a1)] [] (.d (.v (.bool y2))) [])),(0,(((y1 == true) && true)=true→True)),(2,((((bif y1 then (!y2) else false) == false) && true)=true→True)),(0,((((bif y1 then (!y2) else false) == false) && true)=true→True)),(0,((((bif y1 then (!y2) else false) == false) && true)=true→True))] 2 (by kernel_rfl) (⟨cmp_isNaN_string_ok hy1,(fun hg=>trivial),(fun hg=>cmp_isNaN_string_ok (gcall_ok hg hy2)),(fun hg=>trivial),(fun hg=>trivial),(fun hg=>trivial),(fun hg=>trivial)⟩) ?_
  obtain hs:=Option.some.inj h; subst hs
  refine T_ret fun a w hm=>T_return (fr':=[(4,.d (.v (.bool (bif (bif y1 then (!y2) else false) then true else (Op.bytesLess a0 a1)))))]) [4] (by kernel_rfl) [.keep [4]] (by kernel_rfl) (by kernel_rfl) (by kernel_rfl) (by show _=_; kernel_rfl) (by exact trivial) a w hm
theorem slices_isNaN_string_ok {F:Nat} {a0:List UInt8} {r:Bool} (h:slices_isNaN_string F a0=some r):ACall Tryz.prog 90 [.d (.str a0)] [] (.d (.v (.bool r))) []:=by
  rw [slices_isNaN_string] at h
  refine ACall.intro (N:=6) Tryz.func90 rfl rfl rfl rfl rfl fun e=>?_
  refine T_reg [] [0] [] [] 1 (by kernel_rfl) (trivial) ?_
  refine T_reg [] [2] [(2,.d (.v (.bool (!(a0 == a0)))))] [] 4 (by kernel_rfl) (trivial) ?_
  obtain hs:=Option.some.inj h; subst hs
  refine T_ret fun a w hm=>T_return (fr':=[(2,.d (.v (.bool (!(a0 == a0)))))]) [2] (by kernel_rfl) [.keep [2]] (by kernel_rfl) (by kernel_rfl) (by kernel_rfl) (by show _=_; kernel_rfl) (by exact trivial) a w hm
theorem slices_BinarySearch_string_ok {F:Nat} {a0:List (List UInt8)} {a1:List UInt8} {r:Int×Bool} (h:slices_BinarySearch_string F a0 a1=some r):ACall Tryz.prog 61 [.d (.sl 1 (a0.map cS)),.d (.str a1)] [] (.tup [.d (.v (.int .i64 r.1)),.d (.v (.bool r.2))]) []:=by
  rw [slices_BinarySearch_string] at h
  refine ACall.intro (N:=54) Tryz.func61 rfl rfl rfl rfl rfl fun e=>?_
  refine T_reg [] [0,1] [] [] 2 (by kernel_rfl) (trivial) ?_
  refine T_reg [(1,{ rw:=some (.d (.v (.int .i64 (a0.length:Int)))) })] [0,1,6] [(6,.d (.v (.int .i64 (a0.length:Int))))] [(1,True∧AV.d (.v (.int .i64 ((a0.map cS).length:Int)))=.d (.v (.int .i64 (a0.length:Int))))] 1 (by kernel_rfl) (len_ok cS) ?_
  refine T_reg [] [0,1,6,7,8] [(7,.d (.v (.int .i64 (0:Int)))),(8,.d (.v (.int .i64 (a0.length:Int))))] [] 3 (by kernel_rfl) (trivial) ?_
  refine T_joinc h (fun (p:Int)=>[(0,.d (.sl 1 (a0.map cS))),(1,.d (.str a1)),(6,.d (.v (.int .i64 (a0.length:Int)))),(7,.d (.v (.int .i64 p)))]) (fun s h=>?_) (fun v3 h=>?_)
  · refine T_co [.keep [0,1,6,7,8]] ((fun (p:Int×Int)=>[(0,.d (.sl 1 (a0.map cS))),(1,.d (.str a1)),(6,.d (.v (.int .i64 (a0.length:Int)))),(7,.d (.v (.int .i64 p.1))),(8,.d (.v (.int .i64 p.2)))]) ((0:Int),(a0.length:Int))) (by show _=_; kernel_rfl) ?_
    refine T_block ?_
    refine T_loopF (ι:=Int×Int) (fun (p:Int×Int)=>[(0,.d (.sl 1 (a0.map cS))),(1,.d (.str a1)),(6,.d (.v (.int .i64 (a0.length:Int)))),(7,.d (.v (.int .i64 p.1))),(8,.d (.v (.int .i64 p.2)))]) (fun n p=>slices_BinarySearch_string_L0 F a0 a1 n p.1 p.2=some s) (fun i hh=>by simp [slices_BinarySearch_string_L0] at hh) (fun n p h=>?_) F ((0:Int),(a0.length:Int)) h
    obtain ⟨v1,v2⟩:=p
    have h:slices_BinarySearch_string_L0 F a0 a1 (n+1) v1 v2=some s:=h
    rw [slices_BinarySearch_string_L0] at h
    refine T_seqk ?_
    refine T_reg [] [0,1,6,7,8,15] [(15,.d (.v (.bool (decide (v1 < v2)))))] [] 3 (by kernel_rfl) (trivial) ?_
    refine T_cond (decide (v1 < v2)) (by kernel_rfl) (fun hc=>?_) (fun hc=>?_)
    · have h:=cond_tt hc h
      refine T_skip fun a w hm=>then_norm (((?_:T Tryz.prog e 54 _ _ _) a w hm))
      refine T_block ?_
      obtain ⟨z1,hz1,h⟩:=lett_ok h
      refine T_reg [(4,{ rw:=some (.d (.v (.int .u64 z1))) })] [0,1,6,7,8,9] [(9,.d (.v (.int .i64 (IntKind.i64.wrap z1))))] [(4,(0≤(1:Int))∧AV.d (.v (.int .u64 ((IntKind.u64.wrap (IntKind.i64.wrap (v1+v2))).fdiv (2 ^ (min (1:Int).toNat IntKind.u64.bits)))))=.d (.v (.int .u64 z1)))] 2 (by kernel_rfl) (⟨(show 0≤(1:Int) by decide),(by subst hz1; rfl)⟩) ?_
      obtain ⟨hp1,h⟩:=chk_ok h
      obtain ⟨y1,hy1,h⟩:=call_ok h
      refine T_reg [(2,{ cs:=cS (a0.getD (IntKind.i64.wrap z1).toNat []) }),(5,{ res:=.d (.v (.bool y1)) })] [0,1,6,7,8,9,27] [(27,.d (.v (.bool y1)))] [(2,0≤(IntKind.i64.wrap z1)∧(a0.map cS)[(IntKind.i64.wrap z1).toNat]? = some (cS (a0.getD (IntKind.i64.wrap z1).toNat []))),(2,ACall Tryz.prog 89 [.d (.str (a0.getD (IntKind.i64.wrap z1).toNat [])),.d (.str a1)] [] (.d (.v (.bool y1))) [])] 0 (by kernel_rfl) (⟨idx_ok (d:=[]) cS hp1,cmp_Less_string_ok hy1⟩) ?_
      refine T_cond y1 (by kernel_rfl) (fun hc=>?_) (fun hc=>?_)
      · have h:=cond_tt hc h
        refine T_reg_end [] [0,1,6,7,8] [(7,.d (.v (.int .i64 (IntKind.i64.wrap ((IntKind.i64.wrap z1)+(1:Int))))))] [] 3 (by kernel_rfl) (trivial) fun a w hm=>inBlock_norm (then_norm (⟨(IntKind.i64.wrap ((IntKind.i64.wrap z1)+(1:Int)),v2),h,hm.co (cs:=[.keep [0,1,6,7,8]]) (by show _=_; kernel_rfl)⟩))
      · have h:=cond_ff hc h
        refine T_reg_end [] [0,1,6,7,8] [(8,.d (.v (.int .i64 (IntKind.i64.wrap z1))))] [] 2 (by kernel_rfl) (trivial) fun a w hm=>inBlock_norm (then_norm (⟨(v1,IntKind.i64.wrap z1),h,hm.co (cs:=[.keep [0,1,6,7,8]]) (by show _=_; kernel_rfl)⟩))
    · have h:=cond_ff hc h
      obtain hs:=Option.some.inj h; subst hs
      refine T_exit fun a w hm=>then_exit (then_exit (inBlock_exit (then_norm (hm.co (cs:=[.keep [0,1,6,7]]) (by show _=_; kernel_rfl)))))
  · skip
    obtain ⟨hp2,h⟩:=chk_ok h
    obtain ⟨hp3,h⟩:=chk_ok h
    obtain ⟨y2,hy2,h⟩:=call_ok h
    obtain ⟨y3,hy3,h⟩:=call_ok h
    obtain ⟨z2,hz2,h⟩:=lett_ok h
    refine T_reg [(7,{ cs:=cS (a0.getD v3.toNat []) }),(14,{ cs:=cS (a0.getD v3.toNat []) }),(16,{ res:=.d (.v (.bool y2)) }),(19,{ res:=.d (.v (.bool y3)) }),(22,{ rw:=some (.d (.v (.bool z2))) })] [4,5] [(4,.d (.v (.int .i64 v3))),(5,.d (.v (.bool z2)))] [(5,((((decide (v3 < (a0.length:Int))) == true) && true)=true→True)),(0,((((decide (v3 < (a0.length:Int))) == true) && true)=true→True)),(0,((((decide (v3 < (a0.length:Int))) == true) && true)=true→0≤v3∧(a0.map cS)[v3.toNat]? = some (cS (a0.getD v3.toNat [])))),(0,((((decide (v3 < (a0.length:Int))) == true) && true)=true→True)),(0,((((decide (v3 < (a0.length:Int))) == true) && true)=true→True)),(0,((((decide (v3 < (a0.length:Int))) == true) && true)=true→True)),(0,((((decide (v3 < (a0.length:Int))) == true) && true)=true→True)),(0,(((((a0.getD v3.toNat []) == a1) == false) && (((decide (v3 < (a0.length:Int))) == true) && true))=true→True)),(0,(((((a0.getD v3.toNat []) == a1) == false) && (((decide (v3 < (a0.length:Int))) == true) && true))=true→True)),(0,(((((a0.getD v3.toNat []) == a1) == false) && (((decide (v3 < (a0.length:Int))) == true) && true))=true→0≤v3∧(a0.map cS)[v3.toNat]? = some (cS (a0.getD v3.toNat [])))),(0,(((((a0.getD v3.toNat []) == a1) == false) && (((decide (v3 < (a0.length:Int))) == true) && true))=true→True)),(0,(((((a0.getD v3.toNat []) == a1) == false) && (((decide (v3 < (a0.length:Int))) == true) && true))=true→ACall Tryz.prog 90 [.d (.str (a0.getD v3.toNat []))] [] (.d (.v (.bool y2))) [])),(0,(((((a0.getD v3.toNat []) == a1) == false) && (((decide (v3 < (a0.length:Int))) == true) && true))=true→True)),(0,(((y2 == true) && ((((a0.getD v3.toNat []) == a1) == false) && (((decide (v3 < (a0.length:Int))) == true) && true)))=true→True)),(0,(((y2 == true) && ((((a0.getD v3.toNat []) == a1) == false) && (((decide (v3 < (a0.length:Int))) == true) && true)))=true→ACall Tryz.prog 90 [.d (.str a1)] [] (.d (.v (.bool y3))) [])),(0,(((((a0.getD v3.toNat []) == a1) == false) && (((decide (v3 < (a0.length:Int))) == true) && true))=true→True)),(0,((((decide (v3 < (a0.length:Int))) == true) && true)=true→True)),(0,(True)∧AV.d (.v (.bool (bif (decide (v3 < (a0.length:Int))) then (bif ((a0.getD v3.toNat []) == a1) then true else (bif y2 then y3 else false)) else false)))=.d (.v (.bool z2)))] 2 (by kernel_rfl) (⟨(fun hg=>trivial),(fun hg=>trivial),(fun hg=>idx_ok (d:=[]) cS (hp2 hg)),(fun hg=>trivial),(fun hg=>trivial),(fun hg=>trivial),(fun hg=>trivial),(fun hg=>trivial),(fun hg=>trivial),(fun hg=>idx_ok (d:=[]) cS (hp3 hg)),(fun hg=>trivial),(fun hg=>slices_isNaN_string_ok (gcall_ok hg hy2)),(fun hg=>trivial),(fun hg=>trivial),(fun hg=>slices_isNaN_string_ok (gcall_ok hg hy3)),(fun hg=>trivial),(fun hg=>trivial),⟨trivial,(by subst hz2; rfl)⟩⟩) ?_
    obtain hs:=Option.some.inj h; subst hs
    refine T_ret fun a w hm=>T_return (fr':=[(4,.d (.v (.int .i64 v3))),(5,.d (.v (.bool z2)))]) [4,5] (by kernel_rfl) [.keep [4,5]] (by kernel_rfl) (by kernel_rfl) (by kernel_rfl) (by show _=_; kernel_rfl) (by exact trivial) a w hm
theorem object_parser_dict_ok {F:Nat} {rec_object_parser_object:Int→(List UInt8)→Int→Int→(List UInt8)→Int→Int→Option (S_Object×(List UInt8)×Int×Int×(List UInt8)×Int×Int)} (hrec_object_parser_object:∀ {a0:Int},∀ {c1:List UInt8},∀ {c2:Int},∀ {c3:Int},∀ {c4:List UInt8},∀ {c5:Int},∀ {c6:Int},∀ {r:S_Object×(List UInt8)×Int×Int×(List UInt8)×Int×Int},rec_object_parser_object a0 c1 c2 c3 c4 c5 c6=some r→ACall Tryz.prog 18 [.bp 1000000 0,.d (.v (.int .i64 a0))] [.box [.d (.str c1),.d (.v (.int .i64 c2)),.d (.v (.int .i64 c3)),.d (.str c4),.d (.v (.int .i64 c5)),.d (.v (.int .i64 c6))]] (.agg (cS_Object r.1)) [.box [.d (.str r.2.1),.d (.v (.int .i64 r.2.2.1)),.d (.v (.int .i64 r.2.2.2.1)),.d (.str r.2.2.2.2.1),.d (.v (.int .i64 r.2.2.2.2.2.1)),.d (.v (.int .i64 r.2.2.2.2.2.2))]]) {a0:Int} {c1:List UInt8} {c2:Int} {c3:Int} {c4:List UInt8} {c5:Int} {c6:Int} {r:S_Object×(List UInt8)×Int×Int×(List UInt8)×Int×Int} (h:object_parser_dict F rec_object_parser_object a0 c1 c2 c3 c4 c5 c6=some r):ACall Tryz.prog 33 [.bp 1000000 0,.d (.v (.int .i64 a0))] [.box [.d (.str c1),.d (.v (.int .i64 c2)),.d (.v (.int .i64 c3)),.d (.str c4),.d (.v (.int .i64 c5)),.d (.v (.int .i64 c6))]] (.agg (cS_Object r.1)) [.box [.d (.str r.2.1),.d (.v (.int .i64 r.2.2.1)),.d (.v (.int .i64 r.2.2.2.1)),.d (.str r.2.2.2.2.1),.d (.v (.int .i64 r.2.2.2.2.2.1)),.d (.v (.int .i64 r.2.2.2.2.2.2))]]:=by
  rw [object_parser_dict] at h
  refine ACall.intro (N:=60) Tryz.func33 rfl rfl rfl rfl rfl fun e=>?_
  refine T_reg [] [0,1,4,1000000] [(4,.box [.d (.v (.int .i64 0)),.d (.v (.int .i64 0)),.d (.str []),.own 9 1 ([].map cS),.own 26 5 ([].map rS_Object)])] [] 1 (by kernel_rfl) (trivial) ?_
  refine T_region [(0,{ take:=[0] })] [0,1,4,5,1000000] [.nilc 5 3 9 1,.nilc 5 4 26 5,.keep [0,1,4,5,1000000]] [(0,.bp 1000000 0),(1,.d (.v (.int .i64 a0))),(4,.box [.d (.v (.int .i64 0)),.d (.v (.int .i64 0)),.d (.str []),.own 9 1 ([].map cS),.own 26 5 ([].map rS_Object)]),(5,.box [.d (.v (.int .i64 (7:Int))),.d (.v (.int .i64 0)),.d (.str []),.own 9 1 ([].map cS),.own 26 5 ([].map rS_Object)]),(1000000,.box [.d (.str c1),.d (.v (.int .i64 c2)),.d (.v (.int .i64 c3)),.d (.str c4),.d (.v (.int .i64 c5)),.d (.v (.int .i64 c6))])] [] 3 (by kernel_rfl) (trivial) ?_
  refine T_joinc h (fun (p:(List (List UInt8))×(List S_Object)×(List UInt8)×Int×Int×(List UInt8)×Int×Int)=>[(4,.box [.d (.v (.int .i64 0)),.d (.v (.int .i64 0)),.d (.str []),.own 9 1 ([].map cS),.own 26 5 ([].map rS_Object)]),(5,.box [.d (.v (.int .i64 (7:Int))),.d (.v (.int .i64 0)),.d (.str []),.own 9 1 (p.1.map cS),.own 26 5 (p.2.1.map rS_Object)]),(1000000,.box [.d (.str p.2.2.1),.d (.v (.int .i64 p.2.2.2.1)),.d (.v (.int .i64 p.2.2.2.2.1)),.d (.str p.2.2.2.2.2.1),.d (.v (.int .i64 p.2.2.2.2.2.2.1)),.d (.v (.int .i64 p.2.2.2.2.2.2.2))])]) (fun s h=>?_) (fun s h=>?_)
  · refine T_co [.keep [0,1,4,5,1000000]] ((fun (p:(List (List UInt8))×(List S_Object)×(List UInt8)×Int×Int×(List UInt8)×Int×Int)=>[(0,.bp 1000000 0),(1,.d (.v (.int .i64 a0))),(4,.box [.d (.v (.int .i64 0)),.d (.v (.int .i64 0)),.d (.str []),.own 9 1 ([].map cS),.own 26 5 ([].map rS_Object)]),(5,.box [.d (.v (.int .i64 (7:Int))),.d (.v (.int .i64 0)),.d (.str []),.own 9 1 (p.1.map cS),.own 26 5 (p.2.1.map rS_Object)]),(1000000,.box [.d (.str p.2.2.1),.d (.v (.int .i64 p.2.2.2.1)),.d (.v (.int .i64 p.2.2.2.2.1)),.d (.str p.2.2.2.2.2.1),.d (.v (.int .i64 p.2.2.2.2.2.2.1)),.d (.v (.int .i64 p.2.2.2.2.2.2.2))])]) ([],[],c1,c2,c3,c4,c5,c6)) (by show _=_; kernel_rfl) ?_
    refine T_block ?_
    refine T_loopF (ι:=(List (List UInt8))×(List S_Object)×(List UInt8)×Int×Int×(List UInt8)×Int×Int) (fun (p:(List (List UInt8))×(List S_Object)×(List UInt8)×Int×Int×(List UInt8)×Int×Int)=>[(0,.bp 1000000 0),(1,.d (.v (.int .i64 a0))),(4,.box [.d (.v (.int .i64 0)),.d (.v (.int .i64 0)),.d (.str []),.own 9 1 ([].map cS),.own 26 5 ([].map rS_Object)]),(5,.box [.d (.v (.int .i64 (7:Int))),.d (.v (.int .i64 0)),.d (.str []),.own 9 1 (p.1.map cS),.own 26 5 (p.2.1.map rS_Object)]),(1000000,.box [.d (.str p.2.2.1),.d (.v (.int .i64 p.2.2.2.1)),.d (.v (.int .i64 p.2.2.2.2.1)),.d (.str p.2.2.2.2.2.1),.d (.v (.int .i64 p.2.2.2.2.2.2.1)),.d (.v (.int .i64 p.2.2.2.2.2.2.2))])]) (fun n p=>object_parser_dict_L0 F a0 rec_object_parser_object n p.1 p.2.1 p.2.2.1 p.2.2.2.1 p.2.2.2.2.1 p.2.2.2.2.2.1 p.2.2.2.2.2.2.1 p.2.2.2.2.2.2.2=some s) (fun i hh=>by simp [object_parser_dict_L0] at hh) (fun n p h=>?_) F ([],[],c1,c2,c3,c4,c5,c6) h
    obtain ⟨v1,v2,v3,v4,v5,v6,v7,v8⟩:=p
    have h:object_parser_dict_L0 F a0 rec_object_parser_object (n+1) v1 v2 v3 v4 v5 v6 v7 v8=some s:=h
    rw [object_parser_dict_L0] at h
    refine T_seqk ?_
    obtain ⟨y1,hy1,h⟩:=call_ok h
    refine T_reg [(3,{ rw:=some (.d (.v (.int .i64 (v2.length:Int)))) }),(4,{ res:=.d (.v (.bool y1.1)),vout:=[.box [.d (.str y1.2.1),.d (.v (.int .i64 y1.2.2.1)),.d (.v (.int .i64 y1.2.2.2.1)),.d (.str y1.2.2.2.2.1),.d (.v (.int .i64 y1.2.2.2.2.2.1)),.d (.v (.int .i64 y1.2.2.2.2.2.2))]],xs:=[1000000] })] [0,1,4,5,15,1000000] [(15,.d (.v (.bool y1.1))),(1000000,.box [.d (.str y1.2.1),.d (.v (.int .i64 y1.2.2.1)),.d (.v (.int .i64 y1.2.2.2.1)),.d (.str y1.2.2.2.2.1),.d (.v (.int .i64 y1.2.2.2.2.2.1)),.d (.v (.int .i64 y1.2.2.2.2.2.2))])] [(3,True∧AV.d (.v (.int .i64 ((v2.map rS_Object).length:Int)))=.d (.v (.int .i64 (v2.length:Int)))),(0,ACall Tryz.prog 60 [.bp 1000000 0,.d (.v (.int .i64 (9:Int))),.d (.v (.int .i64 (v2.length:Int)))] [.box [.d (.str v3),.d (.v (.int .i64 v4)),.d (.v (.int .i64 v5)),.d (.str v6),.d (.v (.int .i64 v7)),.d (.v (.int .i64 v8))]] (.d (.v (.bool y1.1))) [.box [.d (.str y1.2.1),.d (.v (.int .i64 y1.2.2.1)),.d (.v (.int .i64 y1.2.2.2.1)),.d (.str y1.2.2.2.2.1),.d (.v (.int .i64 y1.2.2.2.2.2.1)),.d (.v (.int .i64 y1.2.2.2.2.2.2))]])] 0 (by kernel_rfl) (⟨len_ok rS_Object,object_parser_more_ok hy1⟩) ?_
    refine T_cond y1.1 (by kernel_rfl) (fun hc=>?_) (fun hc=>?_)
    · have h:=cond_tt hc h
      refine T_skip fun a w hm=>then_norm (((?_:T Tryz.prog e 60 _ _ _) a w hm))
      refine T_block ?_
      refine T_reg [] [0,1,4,5,6,1000000] [(6,.box [.d (.v (.int .i64 y1.2.2.1)),.d (.v (.int .i64 y1.2.2.2.1)),.d (.str y1.2.2.2.2.1),.d (.v (.int .i64 y1.2.2.2.2.2.1)),.d (.v (.int .i64 y1.2.2.2.2.2.2))])] [] 6 (by kernel_rfl) (trivial) ?_
      obtain ⟨y2,hy2,h⟩:=call_ok h
      refine T_reg [(4,{ res:=.tup [.d (.v (.int .i64 y2.1)),.d (.v (.bool y2.2))] })] [0,1,4,5,6,7,8,1000000] [(7,.d (.v (.int .i64 y2.1))),(8,.d (.v (.bool y2.2)))] [(4,ACall Tryz.prog 61 [.d (.sl 1 (v1.map cS)),.d (.str y1.2.2.2.2.1)] [] (.tup [.d (.v (.int .i64 y2.1)),.d (.v (.bool y2.2))]) [])] 5 (by kernel_rfl) (slices_BinarySearch_string_ok hy2) ?_
      refine T_joinc h (fun (p:Unit)=>[(0,.bp 1000000 0),(1,.d (.v (.int .i64 a0))),(4,.box [.d (.v (.int .i64 0)),.d (.v (.int .i64 0)),.d (.str []),.own 9 1 ([].map cS),.own 26 5 ([].map rS_Object)]),(5,.box [.d (.v (.int .i64 (7:Int))),.d (.v (.int .i64 0)),.d (.str []),.own 9 1 (v1.map cS),.own 26 5 (v2.map rS_Object)]),(6,.box [.d (.v (.int .i64 y1.2.2.1)),.d (.v (.int .i64 y1.2.2.2.1)),.d (.str y1.2.2.2.2.1),.d (.v (.int .i64 y1.2.2.2.2.2.1)),.d (.v (.int .i64 y1.2.2.2.2.2.2))]),(7,.d (.v (.int .i64 y2.1))),(8,.d (.v (.bool y2.2))),(1000000,.box [.d (.str y1.2.1),.d (.v (.int .i64 y1.2.2.1)),.d (.v (.int .i64 y1.2.2.2.1)),.d (.str y1.2.2.2.2.1),.d (.v (.int .i64 y1.2.2.2.2.2.1)),.d (.v (.int .i64 y1.2.2.2.2.2.2))])]) (fun s h=>?_) (fun s h=>?_)
      · refine T_reg [] [0,1,4,5,6,7,8,30,1000000] [(30,.d (.v (.bool (y1.2.2.1 != (2:Int)))))] [] 3 (by kernel_rfl) (trivial) ?_
        refine T_cond (y1.2.2.1 != (2:Int)) (by kernel_rfl) (fun hc=>?_) (fun hc=>?_)
        · have h:=cond_tt hc h
          obtain ⟨y3,hy3,h⟩:=call_ok h
          obtain hs:=Option.some.inj h; subst hs
          refine T_reg_end [(2,{ res:=.tup [] })] [0,1,4,5,6,7,8,1000000] [] [(2,ACall Tryz.prog 19 [.d (.v (.int .i64 y1.2.2.2.2.2.1)),.d (.v (.int .i64 (5:Int)))] [] (.tup []) [])] 0 (by kernel_rfl) (object_fail_ok hy3) fun a w hm=>then_norm (hm.co (cs:=[.keep [0,1,4,5,6,7,8,1000000]]) (by show _=_; kernel_rfl))
        · have h:=cond_ff hc h
          obtain hs:=Option.some.inj h; subst hs
          refine T_skip fun a w hm=>then_norm (hm.co (cs:=[.keep [0,1,4,5,6,7,8,1000000]]) (by show _=_; kernel_rfl))
      · skip
        refine T_joinc h (fun (p:Unit)=>[(0,.bp 1000000 0),(1,.d (.v (.int .i64 a0))),(4,.box [.d (.v (.int .i64 0)),.d (.v (.int .i64 0)),.d (.str []),.own 9 1 ([].map cS),.own 26 5 ([].map rS_Object)]),(5,.box [.d (.v (.int .i64 (7:Int))),.d (.v (.int .i64 0)),.d (.str []),.own 9 1 (v1.map cS),.own 26 5 (v2.map rS_Object)]),(6,.box [.d (.v (.int .i64 y1.2.2.1)),.d (.v (.int .i64 y1.2.2.2.1)),.d (.str y1.2.2.2.2.1),.d (.v (.int .i64 y1.2.2.2.2.2.1)),.d (.v (.int .i64 y1.2.2.2.2.2.2))]),(7,.d (.v (.int .i64 y2.1))),(1000000,.box [.d (.str y1.2.1),.d (.v (.int .i64 y1.2.2.1)),.d (.v (.int .i64 y1.2.2.2.1)),.d (.str y1.2.2.2.2.1),.d (.v (.int .i64 y1.2.2.2.2.2.1)),.d (.v (.int .i64 y1.2.2.2.2.2.2))])]) (fun s h=>?_) (fun s h=>?_)
        · refine T_reg [] [0,1,4,5,6,7,34,1000000] [(34,.d (.v (.bool y2.2)))] [] 1 (by kernel_rfl) (trivial) ?_
          refine T_cond y2.2 (by kernel_rfl) (fun hc=>?_) (fun hc=>?_)
          · have h:=cond_tt hc h
            obtain ⟨y4,hy4,h⟩:=call_ok h
            obtain hs:=Option.some.inj h; subst hs
            refine T_reg_end [(2,{ res:=.tup [] })] [0,1,4,5,6,7,1000000] [] [(2,ACall Tryz.prog 19 [.d (.v (.int .i64 y1.2.2.2.2.2.1)),.d (.v (.int .i64 (7:Int)))] [] (.tup []) [])] 0 (by kernel_rfl) (object_fail_ok hy4) fun a w hm=>then_norm (hm.co (cs:=[.keep [0,1,4,5,6,7,1000000]]) (by show _=_; kernel_rfl))
          · have h:=cond_ff hc h
            obtain hs:=Option.some.inj h; subst hs
            refine T_skip fun a w hm=>then_norm (hm.co (cs:=[.keep [0,1,4,5,6,7,1000000]]) (by show _=_; kernel_rfl))
        · skip
          obtain ⟨y5,hy5,h⟩:=call_ok h
          refine T_reg [(1,{ res:=.tup [],vout:=[.box [.d (.str y5.1),.d (.v (.int .i64 y5.2.1)),.d (.v (.int .i64 y5.2.2.1)),.d (.str y5.2.2.2.1),.d (.v (.int .i64 y5.2.2.2.2.1)),.d (.v (.int .i64 y5.2.2.2.2.2))]],xs:=[1000000] })] [0,1,4,5,6,7,1000000] [(1000000,.box [.d (.str y5.1),.d (.v (.int .i64 y5.2.1)),.d (.v (.int .i64 y5.2.2.1)),.d (.str y5.2.2.2.1),.d (.v (.int .i64 y5.2.2.2.2.1)),.d (.v (.int .i64 y5.2.2.2.2.2))])] [(1,ACall Tryz.prog 17 [.bp 1000000 0] [.box [.d (.str y1.2.1),.d (.v (.int .i64 y1.2.2.1)),.d (.v (.int .i64 y1.2.2.2.1)),.d (.str y1.2.2.2.2.1),.d (.v (.int .i64 y1.2.2.2.2.2.1)),.d (.v (.int .i64 y1.2.2.2.2.2.2))]] (.tup []) [.box [.d (.str y5.1),.d (.v (.int .i64 y5.2.1)),.d (.v (.int .i64 y5.2.2.1)),.d (.str y5.2.2.2.1),.d (.v (.int .i64 y5.2.2.2.2.1)),.d (.v (.int .i64 y5.2.2.2.2.2))]])] 0 (by kernel_rfl) (object_parser_advance_ok hy5) ?_
          obtain ⟨y6,hy6,h⟩:=call_ok h
          refine T_reg [(3,{ res:=.agg (cS_Object y6.1),vout:=[.box [.d (.str y6.2.1),.d (.v (.int .i64 y6.2.2.1)),.d (.v (.int .i64 y6.2.2.2.1)),.d (.str y6.2.2.2.2.1),.d (.v (.int .i64 y6.2.2.2.2.2.1)),.d (.v (.int .i64 y6.2.2.2.2.2.2))]],xs:=[1000000] })] [0,1,4,5,6,7,9,1000000] [(9,.box [.d (.v (.int .i64 y6.1.f0)),.d (.v (.int .i64 y6.1.f1)),.d (.str y6.1.f2),.d (.sl 1 (y6.1.f3.map cS)),.d (.sl 5 (y6.1.f4.map rS_Object))]),(1000000,.box [.d (.str y6.2.1),.d (.v (.int .i64 y6.2.2.1)),.d (.v (.int .i64 y6.2.2.2.1)),.d (.str y6.2.2.2.2.1),.d (.v (.int .i64 y6.2.2.2.2.2.1)),.d (.v (.int .i64 y6.2.2.2.2.2.2))])] [(3,ACall Tryz.prog 18 [.bp 1000000 0,.d (.v (.int .i64 (IntKind.i64.wrap (a0+(1:Int)))))] [.box [.d (.str y5.1),.d (.v (.int .i64 y5.2.1)),.d (.v (.int .i64 y5.2.2.1)),.d (.str y5.2.2.2.1),.d (.v (.int .i64 y5.2.2.2.2.1)),.d (.v (.int .i64 y5.2.2.2.2.2))]] (.agg (cS_Object y6.1)) [.box [.d (.str y6.2.1),.d (.v (.int .i64 y6.2.2.1)),.d (.v (.int .i64 y6.2.2.2.1)),.d (.str y6.2.2.2.2.1),.d (.v (.int .i64 y6.2.2.2.2.2.1)),.d (.v (.int .i64 y6.2.2.2.2.2.2))]])] 2 (by kernel_rfl) (hrec_object_parser_object hy6) ?_
          obtain ⟨hp1,h⟩:=chk_ok h
          refine T_reg [(5,{ es:=some (([y1.2.2.2.2.1]).map cS),take:=[0] }),(6,{ xs:=[5],vout:=[.box [.d (.v (.int .i64 (7:Int))),.d (.v (.int .i64 0)),.d (.str []),.junk,.own 26 5 (v2.map rS_Object)]],res:=.own 9 1 ((v1.take y2.1.toNat++([y1.2.2.2.2.1])++v1.drop y2.1.toNat).map cS),take:=[2] })] [0,1,4,5,7,9,1000000] [(5,.box [.d (.v (.int .i64 (7:Int))),.d (.v (.int .i64 0)),.d (.str []),.own 9 1 ((v1.take y2.1.toNat++([y1.2.2.2.2.1])++v1.drop y2.1.toNat).map cS),.own 26 5 (v2.map rS_Object)])] [(5,(([y1.2.2.2.2.1]).map cS)=(([y1.2.2.2.2.1]).map cS)),(0,ACall Tryz.prog 62 [.vw (1000000,4),.d (.v (.int .i64 y2.1)),.own 1099511627785 1 (([y1.2.2.2.2.1]).map cS)] [.box [.d (.v (.int .i64 (7:Int))),.d (.v (.int .i64 0)),.d (.str []),.own 9 1 (v1.map cS),.own 26 5 (v2.map rS_Object)]] (.own 9 1 ((v1.take y2.1.toNat++([y1.2.2.2.2.1])++v1.drop y2.1.toNat).map cS)) [.box [.d (.v (.int .i64 (7:Int))),.d (.v (.int .i64 0)),.d (.str []),.junk,.own 26 5 (v2.map rS_Object)]])] 2 (by kernel_rfl) (⟨rfl,b_Insert_62 hp1 (by decide) (by kernel_rfl) (by kernel_rfl)⟩) ?_
          obtain ⟨hp2,h⟩:=chk_ok h
          refine T_reg_end [(4,{ es:=some (([y6.1]).map rS_Object),take:=[0] }),(5,{ xs:=[5],vout:=[.box [.d (.v (.int .i64 (7:Int))),.d (.v (.int .i64 0)),.d (.str []),.own 9 1 ((v1.take y2.1.toNat++([y1.2.2.2.2.1])++v1.drop y2.1.toNat).map cS),.junk]],res:=.own 26 5 ((v2.take y2.1.toNat++([y6.1])++v2.drop y2.1.toNat).map rS_Object),take:=[2] })] [0,1,4,5,1000000] [(5,.box [.d (.v (.int .i64 (7:Int))),.d (.v (.int .i64 0)),.d (.str []),.own 9 1 ((v1.take y2.1.toNat++([y1.2.2.2.2.1])++v1.drop y2.1.toNat).map cS),.own 26 5 ((v2.take y2.1.toNat++([y6.1])++v2.drop y2.1.toNat).map rS_Object)])] [(4,[cS_Object y6.1]=(([y6.1]).map rS_Object)),(0,ACall Tryz.prog 63 [.vw (1000000,5),.d (.v (.int .i64 y2.1)),.own 1099511627802 5 (([y6.1]).map rS_Object)] [.box [.d (.v (.int .i64 (7:Int))),.d (.v (.int .i64 0)),.d (.str []),.own 9 1 ((v1.take y2.1.toNat++([y1.2.2.2.2.1])++v1.drop y2.1.toNat).map cS),.own 26 5 (v2.map rS_Object)]] (.own 26 5 ((v2.take y2.1.toNat++([y6.1])++v2.drop y2.1.toNat).map rS_Object)) [.box [.d (.v (.int .i64 (7:Int))),.d (.v (.int .i64 0)),.d (.str []),.own 9 1 ((v1.take y2.1.toNat++([y1.2.2.2.2.1])++v1.drop y2.1.toNat).map cS),.junk]])] 2 (by kernel_rfl) (⟨(lit_r rS_Object_eq y6.1 (rfl:([]:List (List Dat))=([]:List S_Object).map rS_Object)),b_Insert_63 hp2 (by decide) (by kernel_rfl) (by kernel_rfl)⟩) fun a w hm=>inBlock_norm (then_norm (⟨((v1.take y2.1.toNat++([y1.2.2.2.2.1])++v1.drop y2.1.toNat),(v2.take y2.1.toNat++([y6.1])++v2.drop y2.1.toNat),y6.2.1,y6.2.2.1,y6.2.2.2.1,y6.2.2.2.2.1,y6.2.2.2.2.2.1,y6.2.2.2.2.2.2),h,hm.co (cs:=[.keep [0,1,4,5,1000000]]) (by show _=_; kernel_rfl)⟩))
    · have h:=cond_ff hc h
      obtain hs:=Option.some.inj h; subst hs
      refine T_exit fun a w hm=>then_exit (then_exit (inBlock_exit (then_norm (hm.co (cs:=[.keep [4,5,1000000]]) (by show _=_; kernel_rfl)))))
  · obtain ⟨v9,v10,v11,v12,v13,v14,v15,v16⟩:=s
    try dsimp only at h
    refine T_reg [(0,{ frz:=[(5,4),(5,5)] })] [4,1000000] [(4,.box [.d (.v (.int .i64 (7:Int))),.d (.v (.int .i64 0)),.d (.str []),.d (.sl 1 (v9.map cS)),.d (.sl 5 (v10.map rS_Object))])] [] 2 (by kernel_rfl) (trivial) ?_
    obtain hs:=Option.some.inj h; subst hs
    refine T_ret fun a w hm=>T_returnC (fr':=[(4,.box [.d (.v (.int .i64 (7:Int))),.d (.v (.int .i64 0)),.d (.str []),.d (.sl 1 (v9.map cS)),.d (.sl 5 (v10.map rS_Object))]),(1000000,.box [.d (.str v11),.d (.v (.int .i64 v12)),.d (.v (.int .i64 v13)),.d (.str v14),.d (.v (.int .i64 v15)),.d (.v (.int .i64 v16))])]) (ts:=[60]) (N':=61) (fr2:=[(60,.agg (cS_Object (S_Object.mk (7:Int) 0 [] v9 v10)))]++[(4,.box [.d (.v (.int .i64 (7:Int))),.d (.v (.int .i64 0)),.d (.str []),.d (.sl 1 (v9.map cS)),.d (.sl 5 (v10.map rS_Object))]),(1000000,.box [.d (.str v11),.d (.v (.int .i64 v12)),.d (.v (.int .i64 v13)),.d (.str v14),.d (.v (.int .i64 v15)),.d (.v (.int .i64 v16))])]) [.keep [4,1000000]] (by kernel_rfl) (by kernel_rfl) (by kernel_rfl) (by kernel_rfl) (by show _=_; kernel_rfl) (by exact ⟨⟨by kernel_rfl,by kernel_rfl⟩,trivial⟩) a w hm
end Go.Vm.ObjG
