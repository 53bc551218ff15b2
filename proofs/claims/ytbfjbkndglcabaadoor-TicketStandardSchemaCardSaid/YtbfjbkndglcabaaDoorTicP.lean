import Derived.Test.YtbfjbkndglcabaaDoorProg
import Derived.Test.YtbfjbkndglcabaaDoorTicF
import Derived.Test.YtbfjbkndglcabaaDoorTicB
namespace Go.Vm.TicG
open Go.Proofs
abbrev dI (x:Int):AV:=.d (.v (.int .i64 x))
abbrev dB (x:Bool):AV:=.d (.v (.bool x))
abbrev bx_Object (x:S_Object):AV:=.box [.d (.v (.int .i64 x.f0)),.d (.v (.int .i64 x.f1)),.d (.str x.f2),.d (.sl 1 (x.f3.map cS)),.d (.sl 5 (x.f4.map rS_Object))]
abbrev bx_TicketField (x:S_TicketField):AV:=.box [.d (.str x.f0),.d (.v (.int .i64 x.f1)),.d (.v (.int .i64 x.f2)),.d (.v (.int .i64 x.f3)),.d (.sl 1 (x.f4.map cS)),.d (.sl 12 (x.f5.map rS_TicketField)),.d (.v (.bool x.f6)),.d (.v (.int .i64 x.f7.f0)),.d (.v (.int .i64 x.f7.f1)),.d (.str x.f7.f2),.d (.sl 1 (x.f7.f3.map cS)),.d (.sl 5 (x.f7.f4.map rS_Object))]
abbrev bx_Token (x:S_Token):AV:=.box [.d (.v (.int .i64 x.f0)),.d (.v (.int .i64 x.f1)),.d (.str x.f2),.d (.v (.int .i64 x.f3)),.d (.v (.int .i64 x.f4))]
abbrev z_TicketField:S_TicketField:=S_TicketField.mk [] 0 0 0 [] [] false (S_Object.mk 0 0 [] [] [])
abbrev z_Object:S_Object:=S_Object.mk 0 0 [] [] []
abbrev z_TicketFinding:S_TicketFinding:=S_TicketFinding.mk [] 0
abbrev z_Token:S_Token:=S_Token.mk 0 0 [] 0 0
abbrev oW0 (x:List (List UInt8)):AV:=.own 9 1 (x.map cS)
abbrev oW1 (x:List S_TicketField):AV:=.own 28 12 (x.map rS_TicketField)
abbrev oW2 (x:List S_Object):AV:=.own 26 5 (x.map rS_Object)
abbrev oW3 (x:List UInt8):AV:=.own 5 1 (x.map cU)
abbrev oW4 (x:List S_Token):AV:=.own 59 5 (x.map cS_Token)
abbrev oW5 (x:List S_TicketFinding):AV:=.own 45 2 (x.map cS_TicketFinding)
set_option maxRecDepth 20000
theorem mixed:Tryd.prog.follows .mixedOrders=true:=by kernel_rfl
theorem law3_whole_ok {F:Nat} {a0:Int} {a1:Int} {r:S_TicketField} (h:law3_whole F a0 a1=some r):ACall Tryd.prog 14 [.d (.v (.int .i64 a0)),.d (.v (.int .i64 a1))] [] (.agg (cS_TicketField r)) []:=by
  rw [law3_whole] at h
  refine ACall.intro (N:=10) Tryd.func14 rfl rfl rfl rfl rfl fun e=>?_
  refine T_reg [] [0,1,4] [(4,.box [.d (.str []),dI 0,dI 0,dI 0,oW0 [],oW1 [],dB false,dI 0,dI 0,.d (.str []),oW0 [],oW2 []])] [] 1 (by kernel_rfl) (trivial) ?_
  refine T_region [(3,{ es:=some (([(S_TicketField.mk ([78]:List UInt8) (0:Int) a0 a1 [] [] true z_Object)]).map rS_TicketField) }),(4,{ frz:=[(8,0)],take:=[0] })] [4] [.nilc 4 4 9 1,.nilc 4 10 9 1,.nilc 4 11 26 5,.keep [4]] [(4,.box [.d (.str []),dI (4:Int),dI 0,dI 0,oW0 [],.d (.sl 12 (([(S_TicketField.mk ([78]:List UInt8) (0:Int) a0 a1 [] [] true z_Object)]).map rS_TicketField)),dB false,dI 0,dI 0,.d (.str []),oW0 [],oW2 []])] [(3,[cS_TicketField (S_TicketField.mk ([78]:List UInt8) (0:Int) a0 a1 [] [] true z_Object)]=(([(S_TicketField.mk ([78]:List UInt8) (0:Int) a0 a1 [] [] true z_Object)]).map rS_TicketField))] 2 (by kernel_rfl) ((lit_r rS_TicketField_eq (S_TicketField.mk ([78]:List UInt8) (0:Int) a0 a1 [] [] true z_Object) (rfl:([]:List (List Dat))=([]:List S_TicketField).map rS_TicketField))) ?_
  obtain hs:=Option.some.inj h; subst hs
  refine T_ret fun a w hm=>T_returnC (fr':=[(4,.box [.d (.str []),dI (4:Int),dI 0,dI 0,.fz 1 ([].map cS),.d (.sl 12 (([(S_TicketField.mk ([78]:List UInt8) (0:Int) a0 a1 [] [] true z_Object)]).map rS_TicketField)),dB false,dI 0,dI 0,.d (.str []),.fz 1 ([].map cS),.fz 5 ([].map rS_Object)])]) (ts:=[10]) (N':=11) (fr2:=[(10,.agg (cS_TicketField (S_TicketField.mk [] (4:Int) 0 0 [] ([(S_TicketField.mk ([78]:List UInt8) (0:Int) a0 a1 [] [] true z_Object)]) false z_Object)))]++[(4,.box [.d (.str []),dI (4:Int),dI 0,dI 0,.fz 1 ([].map cS),.d (.sl 12 (([(S_TicketField.mk ([78]:List UInt8) (0:Int) a0 a1 [] [] true z_Object)]).map rS_TicketField)),dB false,dI 0,dI 0,.d (.str []),.fz 1 ([].map cS),.fz 5 ([].map rS_Object)])]) [.frz (4,5),.frz (4,11),.frz (4,12),.keep [4]] (by kernel_rfl) (by kernel_rfl) (by kernel_rfl) (by kernel_rfl) (by show _=_; kernel_rfl) (by exact trivial) a w hm
theorem token_letter_ok {F:Nat} {a0:Int} {r:Bool} (h:token_letter F a0=some r):ACall Tryd.prog 67 [.d (.v (.int .u8 a0))] [] (.d (.v (.bool r))) []:=by
  rw [token_letter] at h
  refine ACall.intro (N:=17) Tryd.func67 rfl rfl rfl rfl rfl fun e=>?_
  refine T_reg [] [0] [] [] 1 (by kernel_rfl) (trivial) ?_
  obtain ⟨z1,hz1,h⟩:=lett_ok h
  refine T_reg [(13,{ rw:=some (dB z1) })] [2] [(2,dB z1)] [(3,((((decide ((97:Int)≤a0)) == true) && true)=true→True)),(0,((((decide ((97:Int)≤a0)) == true) && true)=true→True)),(2,((((bif (decide ((97:Int)≤a0)) then (decide (a0≤(122:Int))) else false) == false) && true)=true→True)),(0,((((bif (decide ((97:Int)≤a0)) then (decide (a0≤(122:Int))) else false) == false) && true)=true→True)),(0,((((bif (decide ((97:Int)≤a0)) then (decide (a0≤(122:Int))) else false) == false) && true)=true→True)),(0,((((decide ((65:Int)≤a0)) == true) && (((bif (decide ((97:Int)≤a0)) then (decide (a0≤(122:Int))) else false) == false) && true))=true→True)),(0,((((decide ((65:Int)≤a0)) == true) && (((bif (decide ((97:Int)≤a0)) then (decide (a0≤(122:Int))) else false) == false) && true))=true→True)),(0,((((bif (decide ((97:Int)≤a0)) then (decide (a0≤(122:Int))) else false) == false) && true)=true→True)),(0,(True)∧dB (bif (bif (decide ((97:Int)≤a0)) then (decide (a0≤(122:Int))) else false) then true else (bif (decide ((65:Int)≤a0)) then (decide (a0≤(90:Int))) else false))=dB z1)] 1 (by kernel_rfl) (⟨(fun hg=>trivial),(fun hg=>trivial),(fun hg=>trivial),(fun hg=>trivial),(fun hg=>trivial),(fun hg=>trivial),(fun hg=>trivial),(fun hg=>trivial),⟨trivial,(by subst hz1; rfl)⟩⟩) ?_
  obtain hs:=Option.some.inj h; subst hs
  refine T_ret fun a w hm=>T_return (fr':=[(2,dB z1)]) [2] (by kernel_rfl) [.keep [2]] (by kernel_rfl) (by kernel_rfl) (by kernel_rfl) (by show _=_; kernel_rfl) (by exact trivial) a w hm
theorem token_digit_ok {F:Nat} {a0:Int} {r:Bool} (h:token_digit F a0=some r):ACall Tryd.prog 68 [.d (.v (.int .u8 a0))] [] (.d (.v (.bool r))) []:=by
  rw [token_digit] at h
  refine ACall.intro (N:=9) Tryd.func68 rfl rfl rfl rfl rfl fun e=>?_
  refine T_reg [] [0] [] [] 1 (by kernel_rfl) (trivial) ?_
  refine T_reg [] [2] [(2,dB (bif (decide ((48:Int)≤a0)) then (decide (a0≤(57:Int))) else false))] [(3,((((decide ((48:Int)≤a0)) == true) && true)=true→True)),(0,((((decide ((48:Int)≤a0)) == true) && true)=true→True))] 2 (by kernel_rfl) (⟨(fun hg=>trivial),(fun hg=>trivial)⟩) ?_
  obtain hs:=Option.some.inj h; subst hs
  refine T_ret fun a w hm=>T_return (fr':=[(2,dB (bif (decide ((48:Int)≤a0)) then (decide (a0≤(57:Int))) else false))]) [2] (by kernel_rfl) [.keep [2]] (by kernel_rfl) (by kernel_rfl) (by kernel_rfl) (by show _=_; kernel_rfl) (by exact trivial) a w hm
theorem token_limited_ok {F:Nat} {a0:List UInt8} {a1:Int} {r:(List UInt8)×Int} (h:token_limited F a0 a1=some r):ACall Tryd.prog 78 [.d (.str a0),.d (.v (.int .i64 a1))] [] (.tup [.d (.str r.1),.d (.v (.int .i64 r.2))]) []:=by
  rw [token_limited] at h
  refine ACall.intro (N:=11) Tryd.func78 rfl rfl rfl rfl rfl fun e=>?_
  refine T_reg [] [0,1] [] [] 2 (by kernel_rfl) (trivial) ?_
  refine T_seqk ?_
  refine T_reg [] [0,9] [(9,dB (decide ((a0.length:Int) > a1)))] [] 4 (by kernel_rfl) (trivial) ?_
  refine T_cond (decide ((a0.length:Int) > a1)) (by kernel_rfl) (fun hc=>?_) (fun hc=>?_)
  · have h:=cond_tt hc h
    refine T_reg [] [4,5] [(4,.d (.str [])),(5,dI (2:Int))] [] 2 (by kernel_rfl) (trivial) ?_
    obtain hs:=Option.some.inj h; subst hs
    refine T_ret fun a w hm=>then_ret (T_return (fr':=[(4,.d (.str [])),(5,dI (2:Int))]) [4,5] (by kernel_rfl) [.keep [4,5]] (by kernel_rfl) (by kernel_rfl) (by kernel_rfl) (by show _=_; kernel_rfl) (by exact trivial) a w hm)
  · have h:=cond_ff hc h
    refine T_skip fun a w hm=>then_norm (((?_:T Tryd.prog e 11 _ _ _) a w hm))
    refine T_reg [] [4,5] [(4,.d (.str a0)),(5,dI (0:Int))] [] 3 (by kernel_rfl) (trivial) ?_
    obtain hs:=Option.some.inj h; subst hs
    refine T_ret fun a w hm=>T_return (fr':=[(4,.d (.str a0)),(5,dI (0:Int))]) [4,5] (by kernel_rfl) [.keep [4,5]] (by kernel_rfl) (by kernel_rfl) (by kernel_rfl) (by show _=_; kernel_rfl) (by exact trivial) a w hm
theorem token_word_ok {F:Nat} {a0:List UInt8} {r:(List UInt8)×Int} (h:token_word F a0=some r):ACall Tryd.prog 65 [.d (.str a0)] [] (.tup [.d (.str r.1),.d (.v (.int .i64 r.2))]) []:=by
  rw [token_word] at h
  refine ACall.intro (N:=45) Tryd.func65 rfl rfl rfl rfl rfl fun e=>?_
  refine T_reg [] [0] [] [] 2 (by kernel_rfl) (trivial) ?_
  refine T_seqk ?_
  refine T_reg [] [0,7,8] [(7,dI (a0.length:Int)),(8,dI (0:Int))] [] 3 (by kernel_rfl) (trivial) ?_
  refine T_joinEt h (fun (p:Unit)=>[(0,.d (.str a0))]) (fun s h hk1=>?_) (fun s h=>?_)
  · refine T_co [.keep [0,7,8]] ((fun (p:Int)=>[(0,.d (.str a0)),(7,dI (a0.length:Int)),(8,dI p)]) (0:Int)) (by show _=_; kernel_rfl) ?_
    refine T_block ?_
    refine T_loopF (ι:=Int) (fun (p:Int)=>[(0,.d (.str a0)),(7,dI (a0.length:Int)),(8,dI p)]) (fun n p=>token_word_L0 F a0 n p=some s) (fun i hh=>by simp [token_word_L0] at hh) (fun n v1 h=>?_) F (0:Int) h
    have h:token_word_L0 F a0 (n+1) v1=some s:=h
    rw [token_word_L0] at h
    refine T_reg [] [0,7,8,9] [(9,dB (decide (v1 < (a0.length:Int))))] [] 1 (by kernel_rfl) (trivial) ?_
    refine T_seqk ?_
    refine T_cond (decide (v1 < (a0.length:Int))) (by kernel_rfl) (fun hc=>?_) (fun hc=>?_)
    · have h:=cond_tt hc h
      refine T_skip fun a w hm=>then_norm (((?_:T Tryd.prog e 45 _ _ _) a w hm))
      refine T_seqk ?_
      refine T_block ?_
      refine T_reg [] [0,4,7,8] [(4,dI v1)] [] 2 (by kernel_rfl) (trivial) ?_
      obtain ⟨hp1,h⟩:=chk_ok h
      refine T_reg [] [0,4,5,7,8] [(5,.d (.v (.int .u8 ((a0.getD v1.toNat 0).toNat:Int))))] [(2,0≤v1∧v1 < a0.length)] 1 (by kernel_rfl) (hp1) ?_
      obtain ⟨y1,hy1,h⟩:=call_ok h
      obtain ⟨y2,hy2,h⟩:=call_ok h
      obtain ⟨z1,hz1,h⟩:=lett_ok h
      obtain ⟨z2,hz2,h⟩:=lett_ok h
      refine T_reg [(1,{ res:=dB y1 }),(8,{ res:=dB y2 }),(15,{ rw:=some (dB z1) }),(23,{ rw:=some (dB z2) })] [0,7,8,37] [(37,dB z2)] [(1,ACall Tryd.prog 67 [.d (.v (.int .u8 ((a0.getD v1.toNat 0).toNat:Int)))] [] (dB y1) []),(2,((((!y1) == true) && true)=true→True)),(0,((((!y1) == true) && true)=true→True)),(0,((((!y1) == true) && true)=true→True)),(0,((((v1 == (0:Int)) == false) && (((!y1) == true) && true))=true→True)),(0,((((v1 == (0:Int)) == false) && (((!y1) == true) && true))=true→ACall Tryd.prog 68 [.d (.v (.int .u8 ((a0.getD v1.toNat 0).toNat:Int)))] [] (dB y2) [])),(0,((((v1 == (0:Int)) == false) && (((!y1) == true) && true))=true→True)),(0,((((!y1) == true) && true)=true→True)),(2,((((bif (!y1) then (bif (v1 == (0:Int)) then true else (!y2)) else false) == true) && true)=true→True)),(0,((((bif (!y1) then (bif (v1 == (0:Int)) then true else (!y2)) else false) == true) && true)=true→True)),(0,(True)∧dB (bif (bif (!y1) then (bif (v1 == (0:Int)) then true else (!y2)) else false) then (((a0.getD v1.toNat 0).toNat:Int) != (42:Int)) else false)=dB z1),(1,(((z1 == true) && true)=true→True)),(0,(((z1 == true) && true)=true→True)),(2,((((bif z1 then (((a0.getD v1.toNat 0).toNat:Int) != (95:Int)) else false) == true) && true)=true→True)),(0,((((bif z1 then (((a0.getD v1.toNat 0).toNat:Int) != (95:Int)) else false) == true) && true)=true→True)),(0,(True)∧dB (bif (bif z1 then (((a0.getD v1.toNat 0).toNat:Int) != (95:Int)) else false) then (((a0.getD v1.toNat 0).toNat:Int) != (46:Int)) else false)=dB z2)] 0 (by kernel_rfl) (⟨token_letter_ok hy1,(fun hg=>trivial),(fun hg=>trivial),(fun hg=>trivial),(fun hg=>trivial),(fun hg=>token_digit_ok (gcall_ok hg hy2)),(fun hg=>trivial),(fun hg=>trivial),(fun hg=>trivial),(fun hg=>trivial),⟨trivial,(by subst hz1; rfl)⟩,(fun hg=>trivial),(fun hg=>trivial),(fun hg=>trivial),(fun hg=>trivial),⟨trivial,(by subst hz2; rfl)⟩⟩) ?_
      refine T_cond z2 (by kernel_rfl) (fun hc=>?_) (fun hc=>?_)
      · have h:=cond_tt hc h
        refine T_reg [] [2,3] [(2,.d (.str [])),(3,dI (5:Int))] [] 2 (by kernel_rfl) (trivial) ?_
        obtain hs:=Option.some.inj h; subst hs
        have h:=callE_esc hk1
        obtain hs:=Option.some.inj h; subst hs
        refine T_ret fun a w hm=>inBlock_ret (then_ret (then_ret (inBlock_ret (then_ret (then_ret (T_return (fr':=[(2,.d (.str [])),(3,dI (5:Int))]) [2,3] (by kernel_rfl) [.keep [2,3]] (by kernel_rfl) (by kernel_rfl) (by kernel_rfl) (by show _=_; kernel_rfl) (by exact trivial) a w hm))))))
      · have h:=cond_ff hc h
        refine T_skip fun a w hm=>inBlock_norm (then_norm (((?_:T Tryd.prog e 45 _ _ _) a w hm)))
        refine T_reg_end [] [0,7,8] [(8,dI (IntKind.i64.wrap (v1+(1:Int))))] [] 2 (by kernel_rfl) (trivial) fun a w hm=>then_norm (⟨IntKind.i64.wrap (v1+(1:Int)),h,hm.co (cs:=[.keep [0,7,8]]) (by show _=_; kernel_rfl)⟩)
    · have h:=cond_ff hc h
      obtain hs:=Option.some.inj h; subst hs
      refine T_exit fun a w hm=>then_exit (then_exit (inBlock_exit (then_norm (⟨_,rfl,hm.co (cs:=[.keep [0]]) (by show _=_; kernel_rfl)⟩))))
  · skip
    refine fun a w hm=>then_norm (((?_:T Tryd.prog e 45 _ _ _) a w hm))
    refine T_seqk ?_
    refine T_reg [] [0,40] [(40,dB (a0 == []))] [] 2 (by kernel_rfl) (trivial) ?_
    refine T_cond (a0 == []) (by kernel_rfl) (fun hc=>?_) (fun hc=>?_)
    · have h:=cond_tt hc h
      refine T_reg [] [2,3] [(2,.d (.str [])),(3,dI (5:Int))] [] 2 (by kernel_rfl) (trivial) ?_
      obtain hs:=Option.some.inj h; subst hs
      refine T_ret fun a w hm=>then_ret (T_return (fr':=[(2,.d (.str [])),(3,dI (5:Int))]) [2,3] (by kernel_rfl) [.keep [2,3]] (by kernel_rfl) (by kernel_rfl) (by kernel_rfl) (by show _=_; kernel_rfl) (by exact trivial) a w hm)
    · have h:=cond_ff hc h
      refine T_skip fun a w hm=>then_norm (((?_:T Tryd.prog e 45 _ _ _) a w hm))
      obtain ⟨y3,hy3,h⟩:=call_ok h
      refine T_reg [(1,{ res:=.tup [.d (.str y3.1),dI y3.2] })] [2,3] [(2,.d (.str y3.1)),(3,dI y3.2)] [(1,ACall Tryd.prog 78 [.d (.str a0),dI (31:Int)] [] (.tup [.d (.str y3.1),dI y3.2]) [])] 4 (by kernel_rfl) (token_limited_ok hy3) ?_
      obtain hs:=Option.some.inj h; subst hs
      refine T_ret fun a w hm=>T_return (fr':=[(2,.d (.str y3.1)),(3,dI y3.2)]) [2,3] (by kernel_rfl) [.keep [2,3]] (by kernel_rfl) (by kernel_rfl) (by kernel_rfl) (by show _=_; kernel_rfl) (by exact trivial) a w hm
theorem token_bad_ok {F:Nat} {a0:Int} {r:Int} (h:token_bad F a0=some r):ACall Tryd.prog 66 [.d (.v (.int .i64 a0))] [] (.d (.v (.int .i64 r))) []:=by
  rw [token_bad] at h
  refine ACall.intro (N:=6) Tryd.func66 rfl rfl rfl rfl rfl fun e=>?_
  refine T_reg [] [0] [] [] 1 (by kernel_rfl) (trivial) ?_
  refine T_seqk ?_
  refine T_reg [] [0,4] [(4,dB (a0 == (5:Int)))] [] 2 (by kernel_rfl) (trivial) ?_
  refine T_cond (a0 == (5:Int)) (by kernel_rfl) (fun hc=>?_) (fun hc=>?_)
  · have h:=cond_tt hc h
    refine T_reg [] [2] [(2,dI (4:Int))] [] 1 (by kernel_rfl) (trivial) ?_
    obtain hs:=Option.some.inj h; subst hs
    refine T_ret fun a w hm=>then_ret (T_return (fr':=[(2,dI (4:Int))]) [2] (by kernel_rfl) [.keep [2]] (by kernel_rfl) (by kernel_rfl) (by kernel_rfl) (by show _=_; kernel_rfl) (by exact trivial) a w hm)
  · have h:=cond_ff hc h
    refine T_skip fun a w hm=>then_norm (((?_:T Tryd.prog e 6 _ _ _) a w hm))
    refine T_reg [] [2] [(2,dI a0)] [] 2 (by kernel_rfl) (trivial) ?_
    obtain hs:=Option.some.inj h; subst hs
    refine T_ret fun a w hm=>T_return (fr':=[(2,dI a0)]) [2] (by kernel_rfl) [.keep [2]] (by kernel_rfl) (by kernel_rfl) (by kernel_rfl) (by show _=_; kernel_rfl) (by exact trivial) a w hm
theorem token_check_ok {F:Nat} {a0:S_Token} {r:Int} (h:token_check F a0=some r):ACall Tryd.prog 52 [.agg (cS_Token a0)] [] (.d (.v (.int .i64 r))) []:=by
  rw [token_check] at h
  refine ACall.intro (N:=128) Tryd.func52 rfl rfl rfl rfl rfl fun e=>?_
  refine T_reg [] [1] [(1,bx_Token a0)] [] 2 (by kernel_rfl) (trivial) ?_
  refine T_reg [] [1,3] [(3,dB (bif (a0.f0 == (1:Int)) then true else (a0.f0 == (4:Int))))] [(4,((((a0.f0 == (1:Int)) == false) && true)=true→True)),(0,((((a0.f0 == (1:Int)) == false) && true)=true→True)),(0,((((a0.f0 == (1:Int)) == false) && true)=true→True))] 2 (by kernel_rfl) (⟨(fun hg=>trivial),(fun hg=>trivial),(fun hg=>trivial)⟩) ?_
  obtain ⟨z1,hz1,h⟩:=lett_ok h
  refine T_reg [(12,{ rw:=some (dB z1) })] [1,3,4] [(4,dB z1)] [(4,((((a0.f0 == (2:Int)) == false) && true)=true→True)),(0,((((a0.f0 == (2:Int)) == false) && true)=true→True)),(0,((((a0.f0 == (2:Int)) == false) && true)=true→True)),(2,((((bif (a0.f0 == (2:Int)) then true else (a0.f0 == (3:Int))) == false) && true)=true→True)),(0,((((bif (a0.f0 == (2:Int)) then true else (a0.f0 == (3:Int))) == false) && true)=true→True)),(0,((((bif (a0.f0 == (2:Int)) then true else (a0.f0 == (3:Int))) == false) && true)=true→True)),(0,(True)∧dB (bif (bif (a0.f0 == (2:Int)) then true else (a0.f0 == (3:Int))) then true else (a0.f0 == (5:Int)))=dB z1)] 1 (by kernel_rfl) (⟨(fun hg=>trivial),(fun hg=>trivial),(fun hg=>trivial),(fun hg=>trivial),(fun hg=>trivial),(fun hg=>trivial),⟨trivial,(by subst hz1; rfl)⟩⟩) ?_
  refine T_joinE h (fun (p:Unit)=>[]) (fun s h hk1=>?_) (fun s h=>?_)
  · refine T_block ?_
    refine T_reg [] [1,3,4,28] [(28,dB (bif (decide (a0.f0 < (1:Int))) then true else (decide (a0.f0 > (9:Int)))))] [(4,((((decide (a0.f0 < (1:Int))) == false) && true)=true→True)),(0,((((decide (a0.f0 < (1:Int))) == false) && true)=true→True)),(0,((((decide (a0.f0 < (1:Int))) == false) && true)=true→True))] 2 (by kernel_rfl) (⟨(fun hg=>trivial),(fun hg=>trivial),(fun hg=>trivial)⟩) ?_
    refine T_cond (bif (decide (a0.f0 < (1:Int))) then true else (decide (a0.f0 > (9:Int)))) (by kernel_rfl) (fun hc=>?_) (fun hc=>?_)
    · have h:=cond_tt hc h
      refine T_reg [] [2] [(2,dI (14:Int))] [] 1 (by kernel_rfl) (trivial) ?_
      obtain hs:=Option.some.inj h; subst hs
      have h:=callE_esc hk1
      obtain hs:=Option.some.inj h; subst hs
      refine T_ret fun a w hm=>inBlock_ret (then_ret (T_return (fr':=[(2,dI (14:Int))]) [2] (by kernel_rfl) [.keep [2]] (by kernel_rfl) (by kernel_rfl) (by kernel_rfl) (by show _=_; kernel_rfl) (by exact trivial) a w hm))
    · have h:=cond_ff hc h
      refine T_joinc h (fun (p:Bool)=>[(1,bx_Token a0),(37,dB p)]) (fun s h=>?_) (fun v1 h=>?_)
      · obtain ⟨z2,hz2,h⟩:=lett_ok h
        refine T_reg [(6,{ rw:=some (dB z2) })] [1,4,37] [(37,dB z2)] [(4,((((a0.f1 != (0:Int)) == true) && true)=true→True)),(0,((((a0.f1 != (0:Int)) == true) && true)=true→True)),(0,(True)∧dB (bif (a0.f1 != (0:Int)) then (!(bif (a0.f0 == (1:Int)) then true else (a0.f0 == (4:Int)))) else false)=dB z2)] 1 (by kernel_rfl) (⟨(fun hg=>trivial),(fun hg=>trivial),⟨trivial,(by subst hz2; rfl)⟩⟩) ?_
        refine T_cond z2 (by kernel_rfl) (fun hc=>?_) (fun hc=>?_)
        · have h:=cond_tt hc h
          obtain hs:=Option.some.inj h; subst hs
          refine T_skip fun a w hm=>then_norm (hm.co (cs:=[.keep [1,37]]) (by show _=_; kernel_rfl))
        · have h:=cond_ff hc h
          obtain hs:=Option.some.inj h; subst hs
          refine T_reg_end [] [1,37] [(37,dB (bif (!(a0.f2 == [])) then (!z1) else false))] [(4,((((!(a0.f2 == [])) == true) && true)=true→True)),(0,((((!(a0.f2 == [])) == true) && true)=true→True))] 2 (by kernel_rfl) (⟨(fun hg=>trivial),(fun hg=>trivial)⟩) fun a w hm=>then_norm (hm.co (cs:=[.keep [1,37]]) (by show _=_; kernel_rfl))
      · skip
        refine T_cond v1 (by kernel_rfl) (fun hc=>?_) (fun hc=>?_)
        · have h:=cond_tt hc h
          refine T_reg [] [2] [(2,dI (4:Int))] [] 1 (by kernel_rfl) (trivial) ?_
          obtain hs:=Option.some.inj h; subst hs
          have h:=callE_esc hk1
          obtain hs:=Option.some.inj h; subst hs
          refine T_ret fun a w hm=>inBlock_ret (then_ret (T_return (fr':=[(2,dI (4:Int))]) [2] (by kernel_rfl) [.keep [2]] (by kernel_rfl) (by kernel_rfl) (by kernel_rfl) (by show _=_; kernel_rfl) (by exact trivial) a w hm))
        · have h:=cond_ff hc h
          obtain ⟨z3,hz3,h⟩:=lett_ok h
          refine T_reg [(10,{ res:=dI (Lib.indexByte a0.f2 (0:Int).toNat.toUInt8) }),(12,{ rw:=some (dB z3) })] [1,52] [(52,dB (bif (a0.f0 == (2:Int)) then z3 else false))] [(4,((((a0.f0 == (2:Int)) == true) && true)=true→True)),(0,((((a0.f0 == (2:Int)) == true) && true)=true→True)),(0,((((a0.f0 == (2:Int)) == true) && true)=true→True)),(0,((((a0.f0 == (2:Int)) == true) && true)=true→True)),(0,((((a0.f2 == []) == false) && (((a0.f0 == (2:Int)) == true) && true))=true→True)),(0,((((a0.f2 == []) == false) && (((a0.f0 == (2:Int)) == true) && true))=true→True)),(0,((((a0.f2 == []) == false) && (((a0.f0 == (2:Int)) == true) && true))=true→ACall Tryd.prog 64 [.d (.str a0.f2),.d (.v (.int .u8 (0:Int)))] [] (dI (Lib.indexByte a0.f2 (0:Int).toNat.toUInt8)) [])),(0,((((a0.f2 == []) == false) && (((a0.f0 == (2:Int)) == true) && true))=true→True)),(0,((((a0.f0 == (2:Int)) == true) && true)=true→(True)∧dB (bif (a0.f2 == []) then true else (decide ((Lib.indexByte a0.f2 (0:Int).toNat.toUInt8) ≥ (0:Int))))=dB z3))] 2 (by kernel_rfl) (⟨(fun hg=>trivial),(fun hg=>trivial),(fun hg=>trivial),(fun hg=>trivial),(fun hg=>trivial),(fun hg=>trivial),(fun hg=>b_IndexByte_64),(fun hg=>trivial),(fun hg=>⟨trivial,(by subst hz3; rfl)⟩)⟩) ?_
          refine T_cond (bif (a0.f0 == (2:Int)) then z3 else false) (by kernel_rfl) (fun hc=>?_) (fun hc=>?_)
          · have h:=cond_tt hc h
            refine T_reg [] [2] [(2,dI (4:Int))] [] 1 (by kernel_rfl) (trivial) ?_
            obtain hs:=Option.some.inj h; subst hs
            have h:=callE_esc hk1
            obtain hs:=Option.some.inj h; subst hs
            refine T_ret fun a w hm=>inBlock_ret (then_ret (T_return (fr':=[(2,dI (4:Int))]) [2] (by kernel_rfl) [.keep [2]] (by kernel_rfl) (by kernel_rfl) (by kernel_rfl) (by show _=_; kernel_rfl) (by exact trivial) a w hm))
          · have h:=cond_ff hc h
            obtain ⟨z4,hz4,h⟩:=lett_ok h
            refine T_reg [(12,{ rw:=some (dB z4) })] [1,67] [(67,dB z4)] [(4,((((a0.f0 == (1:Int)) == true) && true)=true→True)),(0,((((a0.f0 == (1:Int)) == true) && true)=true→True)),(0,((((a0.f0 == (1:Int)) == true) && true)=true→True)),(0,((((a0.f0 == (1:Int)) == true) && true)=true→True)),(0,((((decide (a0.f1 < (-2147483647:Int))) == false) && (((a0.f0 == (1:Int)) == true) && true))=true→True)),(0,((((decide (a0.f1 < (-2147483647:Int))) == false) && (((a0.f0 == (1:Int)) == true) && true))=true→True)),(0,((((decide (a0.f1 < (-2147483647:Int))) == false) && (((a0.f0 == (1:Int)) == true) && true))=true→True)),(0,((((a0.f0 == (1:Int)) == true) && true)=true→True)),(0,(True)∧dB (bif (a0.f0 == (1:Int)) then (bif (decide (a0.f1 < (-2147483647:Int))) then true else (decide (a0.f1 > (2147483647:Int)))) else false)=dB z4)] 1 (by kernel_rfl) (⟨(fun hg=>trivial),(fun hg=>trivial),(fun hg=>trivial),(fun hg=>trivial),(fun hg=>trivial),(fun hg=>trivial),(fun hg=>trivial),(fun hg=>trivial),⟨trivial,(by subst hz4; rfl)⟩⟩) ?_
            refine T_cond z4 (by kernel_rfl) (fun hc=>?_) (fun hc=>?_)
            · have h:=cond_tt hc h
              refine T_reg [] [2] [(2,dI (3:Int))] [] 1 (by kernel_rfl) (trivial) ?_
              obtain hs:=Option.some.inj h; subst hs
              have h:=callE_esc hk1
              obtain hs:=Option.some.inj h; subst hs
              refine T_ret fun a w hm=>inBlock_ret (then_ret (T_return (fr':=[(2,dI (3:Int))]) [2] (by kernel_rfl) [.keep [2]] (by kernel_rfl) (by kernel_rfl) (by kernel_rfl) (by show _=_; kernel_rfl) (by exact trivial) a w hm))
            · have h:=cond_ff hc h
              obtain ⟨z5,hz5,h⟩:=lett_ok h
              refine T_reg [(12,{ rw:=some (dB z5) })] [1,81] [(81,dB z5)] [(4,((((a0.f0 == (4:Int)) == true) && true)=true→True)),(0,((((a0.f0 == (4:Int)) == true) && true)=true→True)),(0,((((a0.f0 == (4:Int)) == true) && true)=true→True)),(0,((((a0.f0 == (4:Int)) == true) && true)=true→True)),(0,((((decide (a0.f1 < (1:Int))) == false) && (((a0.f0 == (4:Int)) == true) && true))=true→True)),(0,((((decide (a0.f1 < (1:Int))) == false) && (((a0.f0 == (4:Int)) == true) && true))=true→True)),(0,((((decide (a0.f1 < (1:Int))) == false) && (((a0.f0 == (4:Int)) == true) && true))=true→True)),(0,((((a0.f0 == (4:Int)) == true) && true)=true→True)),(0,(True)∧dB (bif (a0.f0 == (4:Int)) then (bif (decide (a0.f1 < (1:Int))) then true else (decide (a0.f1 > (255:Int)))) else false)=dB z5)] 1 (by kernel_rfl) (⟨(fun hg=>trivial),(fun hg=>trivial),(fun hg=>trivial),(fun hg=>trivial),(fun hg=>trivial),(fun hg=>trivial),(fun hg=>trivial),(fun hg=>trivial),⟨trivial,(by subst hz5; rfl)⟩⟩) ?_
              refine T_cond z5 (by kernel_rfl) (fun hc=>?_) (fun hc=>?_)
              · have h:=cond_tt hc h
                refine T_reg [] [2] [(2,dI (3:Int))] [] 1 (by kernel_rfl) (trivial) ?_
                obtain hs:=Option.some.inj h; subst hs
                have h:=callE_esc hk1
                obtain hs:=Option.some.inj h; subst hs
                refine T_ret fun a w hm=>inBlock_ret (then_ret (T_return (fr':=[(2,dI (3:Int))]) [2] (by kernel_rfl) [.keep [2]] (by kernel_rfl) (by kernel_rfl) (by kernel_rfl) (by show _=_; kernel_rfl) (by exact trivial) a w hm))
              · have h:=cond_ff hc h
                refine T_joinc h (fun (p:Bool)=>[(1,bx_Token a0),(95,dB p)]) (fun s h=>?_) (fun v2 h=>?_)
                · refine T_reg [] [1,95] [(95,dB (bif (a0.f0 == (2:Int)) then (decide ((a0.f2.length:Int) > (31:Int))) else false))] [(4,((((a0.f0 == (2:Int)) == true) && true)=true→True)),(0,((((a0.f0 == (2:Int)) == true) && true)=true→True)),(0,((((a0.f0 == (2:Int)) == true) && true)=true→True)),(0,((((a0.f0 == (2:Int)) == true) && true)=true→True))] 2 (by kernel_rfl) (⟨(fun hg=>trivial),(fun hg=>trivial),(fun hg=>trivial),(fun hg=>trivial)⟩) ?_
                  refine T_cond (bif (a0.f0 == (2:Int)) then (decide ((a0.f2.length:Int) > (31:Int))) else false) (by kernel_rfl) (fun hc=>?_) (fun hc=>?_)
                  · have h:=cond_tt hc h
                    obtain hs:=Option.some.inj h; subst hs
                    refine T_skip fun a w hm=>then_norm (hm.co (cs:=[.keep [1,95]]) (by show _=_; kernel_rfl))
                  · have h:=cond_ff hc h
                    obtain hs:=Option.some.inj h; subst hs
                    refine T_reg_end [] [1,95] [(95,dB (bif (decide ((a0.f2.length:Int) > (1024:Int))) then (a0.f0 == (3:Int)) else false))] [(5,((((decide ((a0.f2.length:Int) > (1024:Int))) == true) && true)=true→True)),(0,((((decide ((a0.f2.length:Int) > (1024:Int))) == true) && true)=true→True)),(0,((((decide ((a0.f2.length:Int) > (1024:Int))) == true) && true)=true→True))] 2 (by kernel_rfl) (⟨(fun hg=>trivial),(fun hg=>trivial),(fun hg=>trivial)⟩) fun a w hm=>then_norm (hm.co (cs:=[.keep [1,95]]) (by show _=_; kernel_rfl))
                · skip
                  refine T_cond v2 (by kernel_rfl) (fun hc=>?_) (fun hc=>?_)
                  · have h:=cond_tt hc h
                    refine T_reg [] [2] [(2,dI (2:Int))] [] 1 (by kernel_rfl) (trivial) ?_
                    obtain hs:=Option.some.inj h; subst hs
                    have h:=callE_esc hk1
                    obtain hs:=Option.some.inj h; subst hs
                    refine T_ret fun a w hm=>inBlock_ret (then_ret (T_return (fr':=[(2,dI (2:Int))]) [2] (by kernel_rfl) [.keep [2]] (by kernel_rfl) (by kernel_rfl) (by kernel_rfl) (by show _=_; kernel_rfl) (by exact trivial) a w hm))
                  · have h:=cond_ff hc h
                    refine T_reg [] [1,114] [(114,dB (a0.f0 == (5:Int)))] [] 4 (by kernel_rfl) (trivial) ?_
                    refine T_cond (a0.f0 == (5:Int)) (by kernel_rfl) (fun hc=>?_) (fun hc=>?_)
                    · have h:=cond_tt hc h
                      obtain ⟨y1,hy1,h⟩:=call_ok h
                      refine T_reg [(2,{ res:=.tup [.d (.str y1.1),dI y1.2] })] [6] [(6,dI y1.2)] [(2,ACall Tryd.prog 65 [.d (.str a0.f2)] [] (.tup [.d (.str y1.1),dI y1.2]) [])] 5 (by kernel_rfl) (token_word_ok hy1) ?_
                      refine T_reg [] [6,125] [(125,dB (y1.2 != (0:Int)))] [] 2 (by kernel_rfl) (trivial) ?_
                      refine T_cond (y1.2 != (0:Int)) (by kernel_rfl) (fun hc=>?_) (fun hc=>?_)
                      · have h:=cond_tt hc h
                        obtain ⟨y2,hy2,h⟩:=call_ok h
                        refine T_reg [(1,{ res:=dI y2 })] [2] [(2,dI y2)] [(1,ACall Tryd.prog 66 [dI y1.2] [] (dI y2) [])] 1 (by kernel_rfl) (token_bad_ok hy2) ?_
                        obtain hs:=Option.some.inj h; subst hs
                        have h:=callE_esc hk1
                        obtain hs:=Option.some.inj h; subst hs
                        refine T_ret fun a w hm=>inBlock_ret (then_ret (T_return (fr':=[(2,dI y2)]) [2] (by kernel_rfl) [.keep [2]] (by kernel_rfl) (by kernel_rfl) (by kernel_rfl) (by show _=_; kernel_rfl) (by exact trivial) a w hm))
                      · have h:=cond_ff hc h
                        obtain hs:=Option.some.inj h; subst hs
                        refine T_skip fun a w hm=>inBlock_norm (then_norm (⟨_,rfl,hm.co (cs:=[.keep []]) (by show _=_; kernel_rfl)⟩))
                    · have h:=cond_ff hc h
                      obtain hs:=Option.some.inj h; subst hs
                      refine T_skip fun a w hm=>inBlock_norm (then_norm (⟨_,rfl,hm.co (cs:=[.keep []]) (by show _=_; kernel_rfl)⟩))
  · skip
    refine T_reg [] [2] [(2,dI (0:Int))] [] 1 (by kernel_rfl) (trivial) ?_
    obtain hs:=Option.some.inj h; subst hs
    refine T_ret fun a w hm=>T_return (fr':=[(2,dI (0:Int))]) [2] (by kernel_rfl) [.keep [2]] (by kernel_rfl) (by kernel_rfl) (by kernel_rfl) (by show _=_; kernel_rfl) (by exact trivial) a w hm
theorem strings_Builder_WriteByte_ok {F:Nat} {a0:Int} {c1:List UInt8} {r:Unit×(List UInt8)} (h:strings_Builder_WriteByte F a0 c1=some r):ACall Tryd.prog 59 [.bp 1000000 0,.d (.v (.int .u8 a0))] [.box [.slf 0 89,.own 5 1 (c1.map cU)]] (.d (.v .nilIface)) [.box [.slf 0 89,.own 5 1 (r.2.map cU)]]:=by
  rw [strings_Builder_WriteByte] at h
  refine ACall.intro (N:=17) Tryd.func59 rfl rfl rfl rfl rfl fun e=>?_
  refine T_reg [] [0,1,1000000] [] [] 1 (by kernel_rfl) (trivial) ?_
  refine T_reg [(1,{ xs:=[1000000],res:=.tup [],vout:=[.box [.slf 0 89,oW3 c1]] })] [0,1,1000000] [] [(1,ACall Tryd.prog 72 [.bp 1000000 0] [.box [.slf 0 89,oW3 c1]] (.tup []) [.box [.slf 0 89,oW3 c1]])] 0 (by kernel_rfl) (b_copyCheck (E:=89) (by kernel_rfl) (by kernel_rfl) (by kernel_rfl)) ?_
  obtain ⟨hp1,h⟩:=chk_ok h
  obtain ⟨hp2,h⟩:=chk_ok h
  refine T_reg [(6,{ es:=some (([(UInt8.ofNat a0.toNat)]).map cU) }),(7,{ es:=some ((c1++([(UInt8.ofNat a0.toNat)])).map cU) })] [1000000] [(1000000,.box [.slf 0 89,.own 5 1 ((c1++([(UInt8.ofNat a0.toNat)])).map cU)])] [(6,[[Dat.v (.int .u8 a0)]]=(([(UInt8.ofNat a0.toNat)]).map cU)),(0,(c1.map cU).length+(([(UInt8.ofNat a0.toNat)]).map cU).length≤4294967296∧(c1.map cU)++(([(UInt8.ofNat a0.toNat)]).map cU)=((c1++([(UInt8.ofNat a0.toNat)])).map cU))] 3 (by kernel_rfl) (⟨(lit_u hp1 (rfl:([]:List (List Dat))=([]:List UInt8).map cU)),app_ok cU hp2⟩) ?_
  refine T_reg [] [4,1000000] [(4,.d (.v .nilIface))] [] 1 (by kernel_rfl) (trivial) ?_
  obtain hs:=Option.some.inj h; subst hs
  refine T_ret fun a w hm=>T_return (fr':=[(4,.d (.v .nilIface)),(1000000,.box [.slf 0 89,.own 5 1 ((c1++([(UInt8.ofNat a0.toNat)])).map cU)])]) [4] (by kernel_rfl) [.keep [4,1000000]] (by kernel_rfl) (by kernel_rfl) (by kernel_rfl) (by show _=_; kernel_rfl) (by exact ⟨⟨by kernel_rfl,by kernel_rfl⟩,trivial⟩) a w hm
theorem token_printedName_ok {F:Nat} {a0:List UInt8} {r:(List UInt8)} (h:token_printedName F a0=some r):ACall Tryd.prog 53 [.d (.str a0)] [] (.d (.str r)) []:=by
  rw [token_printedName] at h
  refine ACall.intro (N:=45) Tryd.func53 rfl rfl rfl rfl rfl fun e=>?_
  refine T_reg [] [0] [] [] 1 (by kernel_rfl) (trivial) ?_
  refine T_reg [(0,{ slfs:=[(0,0)] })] [0,3] [(3,.box [.slf 0 89,oW3 []])] [] 1 (by kernel_rfl) (trivial) ?_
  refine T_seqk ?_
  refine T_reg [] [0,3,7,8] [(7,dI (a0.length:Int)),(8,dI (0:Int))] [] 3 (by kernel_rfl) (trivial) ?_
  refine T_joinct h (fun (p:(List UInt8))=>[(3,.box [.slf 0 89,oW3 p])]) (fun s h=>?_) (fun v4 h=>?_)
  · refine T_co [.keep [0,3,7,8]] ((fun (p:(List UInt8)×Int)=>[(0,.d (.str a0)),(3,.box [.slf 0 89,oW3 p.1]),(7,dI (a0.length:Int)),(8,dI p.2)]) ([],(0:Int))) (by show _=_; kernel_rfl) ?_
    refine T_block ?_
    refine T_loopF (ι:=(List UInt8)×Int) (fun (p:(List UInt8)×Int)=>[(0,.d (.str a0)),(3,.box [.slf 0 89,oW3 p.1]),(7,dI (a0.length:Int)),(8,dI p.2)]) (fun n p=>token_printedName_L0 F a0 n p.1 p.2=some s) (fun i hh=>by simp [token_printedName_L0] at hh) (fun n p h=>?_) F ([],(0:Int)) h
    obtain ⟨v1,v2⟩:=p
    have h:token_printedName_L0 F a0 (n+1) v1 v2=some s:=h
    rw [token_printedName_L0] at h
    refine T_reg [] [0,3,7,8,9] [(9,dB (decide (v2 < (a0.length:Int))))] [] 1 (by kernel_rfl) (trivial) ?_
    refine T_seqk ?_
    refine T_cond (decide (v2 < (a0.length:Int))) (by kernel_rfl) (fun hc=>?_) (fun hc=>?_)
    · have h:=cond_tt hc h
      refine T_skip fun a w hm=>then_norm (((?_:T Tryd.prog e 45 _ _ _) a w hm))
      refine T_joinc h (fun (p:(List UInt8))=>[(0,.d (.str a0)),(3,.box [.slf 0 89,oW3 p]),(7,dI (a0.length:Int)),(8,dI v2)]) (fun s h=>?_) (fun v3 h=>?_)
      · refine T_block ?_
        refine T_reg [] [0,3,4,7,8] [(4,dI v2)] [] 2 (by kernel_rfl) (trivial) ?_
        obtain ⟨hp1,h⟩:=chk_ok h
        refine T_reg [] [0,3,5,7,8] [(5,.d (.v (.int .u8 ((a0.getD v2.toNat 0).toNat:Int))))] [(2,0≤v2∧v2 < a0.length)] 1 (by kernel_rfl) (hp1) ?_
        refine T_seqk ?_
        obtain ⟨y1,hy1,h⟩:=call_ok h
        obtain ⟨y2,hy2,h⟩:=call_ok h
        obtain ⟨z1,hz1,h⟩:=lett_ok h
        obtain ⟨z2,hz2,h⟩:=lett_ok h
        refine T_reg [(1,{ res:=dB y1 }),(4,{ res:=dB y2 }),(9,{ rw:=some (dB z1) }),(17,{ rw:=some (dB z2) })] [0,3,5,7,8,31] [(31,dB z2)] [(1,ACall Tryd.prog 67 [.d (.v (.int .u8 ((a0.getD v2.toNat 0).toNat:Int)))] [] (dB y1) []),(1,(((y1 == false) && true)=true→True)),(0,(((y1 == false) && true)=true→ACall Tryd.prog 68 [.d (.v (.int .u8 ((a0.getD v2.toNat 0).toNat:Int)))] [] (dB y2) [])),(2,((((bif y1 then true else y2) == false) && true)=true→True)),(0,((((bif y1 then true else y2) == false) && true)=true→True)),(0,(True)∧dB (bif (bif y1 then true else y2) then true else (((a0.getD v2.toNat 0).toNat:Int) == (95:Int)))=dB z1),(1,(((z1 == false) && true)=true→True)),(0,(((z1 == false) && true)=true→True)),(2,((((bif z1 then true else (((a0.getD v2.toNat 0).toNat:Int) == (45:Int))) == false) && true)=true→True)),(0,((((bif z1 then true else (((a0.getD v2.toNat 0).toNat:Int) == (45:Int))) == false) && true)=true→True)),(0,(True)∧dB (bif (bif z1 then true else (((a0.getD v2.toNat 0).toNat:Int) == (45:Int))) then true else (((a0.getD v2.toNat 0).toNat:Int) == (46:Int)))=dB z2)] 0 (by kernel_rfl) (⟨token_letter_ok hy1,(fun hg=>trivial),(fun hg=>token_digit_ok (gcall_ok hg hy2)),(fun hg=>trivial),(fun hg=>trivial),⟨trivial,(by subst hz1; rfl)⟩,(fun hg=>trivial),(fun hg=>trivial),(fun hg=>trivial),(fun hg=>trivial),⟨trivial,(by subst hz2; rfl)⟩⟩) ?_
        refine T_cond z2 (by kernel_rfl) (fun hc=>?_) (fun hc=>?_)
        · have h:=cond_tt hc h
          obtain ⟨y3,hy3,h⟩:=call_ok h
          refine T_reg [(1,{ res:=.d (.v .nilIface),vout:=[.box [.slf 0 89,oW3 y3.2]],xs:=[3] })] [0,3,7,8] [(3,.box [.slf 0 89,oW3 y3.2])] [(1,ACall Tryd.prog 59 [.bp 1000000 0,.d (.v (.int .u8 ((a0.getD v2.toNat 0).toNat:Int)))] [.box [.slf 0 89,oW3 v1]] (.d (.v .nilIface)) [.box [.slf 0 89,oW3 y3.2]])] 0 (by kernel_rfl) (strings_Builder_WriteByte_ok hy3) ?_
          obtain hs:=Option.some.inj h; subst hs
          refine T_exit fun a w hm=>then_exit (inBlock_exit (then_norm (hm.co (cs:=[.keep [0,3,7,8]]) (by show _=_; kernel_rfl))))
        · have h:=cond_ff hc h
          refine T_skip fun a w hm=>then_norm (((?_:T Tryd.prog e 45 _ _ _) a w hm))
          obtain ⟨y4,hy4,h⟩:=call_ok h
          refine T_reg [(0,{ res:=.d (.v .nilIface),vout:=[.box [.slf 0 89,oW3 y4.2]],xs:=[3] })] [0,3,5,7,8] [(3,.box [.slf 0 89,oW3 y4.2])] [(0,ACall Tryd.prog 59 [.bp 1000000 0,.d (.v (.int .u8 (35:Int)))] [.box [.slf 0 89,oW3 v1]] (.d (.v .nilIface)) [.box [.slf 0 89,oW3 y4.2]])] 0 (by kernel_rfl) (strings_Builder_WriteByte_ok hy4) ?_
          obtain ⟨hp2,h⟩:=chk_ok h
          obtain ⟨z3,hz3,h⟩:=lett_ok h
          obtain ⟨y5,hy5,h⟩:=call_ok h
          refine T_reg [(2,{ rw:=some (.d (.v (.int .u8 z3))) }),(3,{ res:=.d (.v .nilIface),vout:=[.box [.slf 0 89,oW3 y5.2]],xs:=[3] })] [0,3,5,7,8] [(3,.box [.slf 0 89,oW3 y5.2])] [(1,0≤(4:Int)),(0,(0≤(((a0.getD v2.toNat 0).toNat:Int).fdiv (2 ^ (min (4:Int).toNat IntKind.u8.bits)))∧(((a0.getD v2.toNat 0).toNat:Int).fdiv (2 ^ (min (4:Int).toNat IntKind.u8.bits))) < ([48,49,50,51,52,53,54,55,56,57,97,98,99,100,101,102]:List UInt8).length)∧AV.d (.v (.int .u8 ((([48,49,50,51,52,53,54,55,56,57,97,98,99,100,101,102]:List UInt8).getD (((a0.getD v2.toNat 0).toNat:Int).fdiv (2 ^ (min (4:Int).toNat IntKind.u8.bits))).toNat 0).toNat:Int)))=.d (.v (.int .u8 z3))),(0,ACall Tryd.prog 59 [.bp 1000000 0,.d (.v (.int .u8 z3))] [.box [.slf 0 89,oW3 y4.2]] (.d (.v .nilIface)) [.box [.slf 0 89,oW3 y5.2]])] 0 (by kernel_rfl) (⟨(show 0≤(4:Int) by decide),⟨hp2,(by subst hz3; rfl)⟩,strings_Builder_WriteByte_ok hy5⟩) ?_
          obtain ⟨z4,hz4,h⟩:=lett_ok h
          obtain ⟨hp3,h⟩:=chk_ok h
          obtain ⟨z5,hz5,h⟩:=lett_ok h
          obtain ⟨y6,hy6,h⟩:=call_ok h
          obtain hs:=Option.some.inj h; subst hs
          refine T_reg_end [(1,{ rw:=some (.d (.v (.int .u8 z4))) }),(2,{ rw:=some (.d (.v (.int .u8 z5))) }),(3,{ res:=.d (.v .nilIface),vout:=[.box [.slf 0 89,oW3 y6.2]],xs:=[3] })] [0,3,7,8] [(3,.box [.slf 0 89,oW3 y6.2])] [(1,(True)∧AV.d (.v (.int .u8 (IntKind.u8.wrap ((BitVec.ofInt IntKind.u8.bits ((a0.getD v2.toNat 0).toNat:Int) &&& BitVec.ofInt IntKind.u8.bits (15:Int)).toNat:Int))))=.d (.v (.int .u8 z4))),(0,(0≤z4∧z4 < ([48,49,50,51,52,53,54,55,56,57,97,98,99,100,101,102]:List UInt8).length)∧AV.d (.v (.int .u8 ((([48,49,50,51,52,53,54,55,56,57,97,98,99,100,101,102]:List UInt8).getD z4.toNat 0).toNat:Int)))=.d (.v (.int .u8 z5))),(0,ACall Tryd.prog 59 [.bp 1000000 0,.d (.v (.int .u8 z5))] [.box [.slf 0 89,oW3 y5.2]] (.d (.v .nilIface)) [.box [.slf 0 89,oW3 y6.2]])] 0 (by kernel_rfl) (⟨⟨trivial,(by subst hz4; rfl)⟩,⟨hp3,(by subst hz5; rfl)⟩,strings_Builder_WriteByte_ok hy6⟩) fun a w hm=>inBlock_norm (then_norm (hm.co (cs:=[.keep [0,3,7,8]]) (by show _=_; kernel_rfl)))
      · skip
        refine T_reg_end [] [0,3,7,8] [(8,dI (IntKind.i64.wrap (v2+(1:Int))))] [] 2 (by kernel_rfl) (trivial) fun a w hm=>then_norm (⟨(v3,IntKind.i64.wrap (v2+(1:Int))),h,hm.co (cs:=[.keep [0,3,7,8]]) (by show _=_; kernel_rfl)⟩)
    · have h:=cond_ff hc h
      obtain hs:=Option.some.inj h; subst hs
      refine T_exit fun a w hm=>then_exit (then_exit (inBlock_exit (then_norm (hm.co (cs:=[.keep [3]]) (by show _=_; kernel_rfl)))))
  · skip
    refine fun a w hm=>then_norm (((?_:T Tryd.prog e 45 _ _ _) a w hm))
    obtain ⟨hp4,h⟩:=chk_ok h
    refine T_reg [(0,{ xs:=[3],vout:=[.box [.slf 0 89,.junk]],res:=.d (.str v4) })] [2] [(2,.d (.str v4))] [(0,ACall Tryd.prog 62 [.bp 1000000 0] [.box [.slf 0 89,oW3 v4]] (.d (.str v4)) [.box [.slf 0 89,.junk]])] 1 (by kernel_rfl) (b_String (l:=v4) hp4 (by kernel_rfl) (by kernel_rfl)) ?_
    obtain hs:=Option.some.inj h; subst hs
    refine T_ret fun a w hm=>T_return (fr':=[(2,.d (.str v4))]) [2] (by kernel_rfl) [.keep [2]] (by kernel_rfl) (by kernel_rfl) (by kernel_rfl) (by show _=_; kernel_rfl) (by exact trivial) a w hm
theorem strings_Builder_WriteString_ok {F:Nat} {a0:List UInt8} {c1:List UInt8} {r:Int×Unit×(List UInt8)} (h:strings_Builder_WriteString F a0 c1=some r):ACall Tryd.prog 60 [.bp 1000000 0,.d (.str a0)] [.box [.slf 0 89,.own 5 1 (c1.map cU)]] (.tup [.d (.v (.int .i64 r.1)),.d (.v .nilIface)]) [.box [.slf 0 89,.own 5 1 (r.2.2.map cU)]]:=by
  rw [strings_Builder_WriteString] at h
  refine ACall.intro (N:=19) Tryd.func60 rfl rfl rfl rfl rfl fun e=>?_
  refine T_reg [] [0,1,1000000] [] [] 2 (by kernel_rfl) (trivial) ?_
  refine T_reg [(1,{ xs:=[1000000],res:=.tup [],vout:=[.box [.slf 0 89,oW3 c1]] })] [0,1,1000000] [] [(1,ACall Tryd.prog 72 [.bp 1000000 0] [.box [.slf 0 89,oW3 c1]] (.tup []) [.box [.slf 0 89,oW3 c1]])] 0 (by kernel_rfl) (b_copyCheck (E:=89) (by kernel_rfl) (by kernel_rfl) (by kernel_rfl)) ?_
  obtain ⟨hp1,h⟩:=chk_ok h
  refine T_reg [(6,{ es:=some ((c1++a0).map cU) })] [1,1000000] [(1000000,.box [.slf 0 89,.own 5 1 ((c1++a0).map cU)])] [(6,(c1.map cU).length+(a0.map cU).length≤4294967296∧(c1.map cU)++(a0.map cU)=((c1++a0).map cU))] 3 (by kernel_rfl) (app_ok cU hp1) ?_
  refine T_reg [] [4,5,1000000] [(4,dI (a0.length:Int)),(5,.d (.v .nilIface))] [] 4 (by kernel_rfl) (trivial) ?_
  obtain hs:=Option.some.inj h; subst hs
  refine T_ret fun a w hm=>T_return (fr':=[(4,dI (a0.length:Int)),(5,.d (.v .nilIface)),(1000000,.box [.slf 0 89,.own 5 1 ((c1++a0).map cU)])]) [4,5] (by kernel_rfl) [.keep [4,5,1000000]] (by kernel_rfl) (by kernel_rfl) (by kernel_rfl) (by show _=_; kernel_rfl) (by exact ⟨⟨by kernel_rfl,by kernel_rfl⟩,trivial⟩) a w hm
theorem token_printedText_ok {F:Nat} {a0:List UInt8} {r:(List UInt8)} (h:token_printedText F a0=some r):ACall Tryd.prog 54 [.d (.str a0)] [] (.d (.str r)) []:=by
  rw [token_printedText] at h
  refine ACall.intro (N:=58) Tryd.func54 rfl rfl rfl rfl rfl fun e=>?_
  refine T_reg [] [0] [] [] 1 (by kernel_rfl) (trivial) ?_
  refine T_reg [(0,{ slfs:=[(0,0)] })] [0,3] [(3,.box [.slf 0 89,oW3 []])] [] 1 (by kernel_rfl) (trivial) ?_
  obtain ⟨y9,hy1,h⟩:=call_ok h
  refine T_reg [(0,{ res:=.d (.v .nilIface),vout:=[.box [.slf 0 89,oW3 y9.2]],xs:=[3] })] [0,3] [(3,.box [.slf 0 89,oW3 y9.2])] [(0,ACall Tryd.prog 59 [.bp 1000000 0,.d (.v (.int .u8 (40:Int)))] [.box [.slf 0 89,oW3 []]] (.d (.v .nilIface)) [.box [.slf 0 89,oW3 y9.2]])] 0 (by kernel_rfl) (strings_Builder_WriteByte_ok hy1) ?_
  refine T_seqk ?_
  refine T_reg [] [0,3,8,9] [(8,dI (a0.length:Int)),(9,dI (0:Int))] [] 3 (by kernel_rfl) (trivial) ?_
  refine T_joinct h (fun (p:(List UInt8))=>[(3,.box [.slf 0 89,oW3 p])]) (fun s h=>?_) (fun v4 h=>?_)
  · refine T_co [.keep [0,3,8,9]] ((fun (p:(List UInt8)×Int)=>[(0,.d (.str a0)),(3,.box [.slf 0 89,oW3 p.1]),(8,dI (a0.length:Int)),(9,dI p.2)]) (y9.2,(0:Int))) (by show _=_; kernel_rfl) ?_
    refine T_block ?_
    refine T_loopF (ι:=(List UInt8)×Int) (fun (p:(List UInt8)×Int)=>[(0,.d (.str a0)),(3,.box [.slf 0 89,oW3 p.1]),(8,dI (a0.length:Int)),(9,dI p.2)]) (fun n p=>token_printedText_L0 F a0 n p.1 p.2=some s) (fun i hh=>by simp [token_printedText_L0] at hh) (fun n p h=>?_) F (y9.2,(0:Int)) h
    obtain ⟨v1,v2⟩:=p
    have h:token_printedText_L0 F a0 (n+1) v1 v2=some s:=h
    rw [token_printedText_L0] at h
    refine T_reg [] [0,3,8,9,10] [(10,dB (decide (v2 < (a0.length:Int))))] [] 1 (by kernel_rfl) (trivial) ?_
    refine T_seqk ?_
    refine T_cond (decide (v2 < (a0.length:Int))) (by kernel_rfl) (fun hc=>?_) (fun hc=>?_)
    · have h:=cond_tt hc h
      refine T_skip fun a w hm=>then_norm (((?_:T Tryd.prog e 58 _ _ _) a w hm))
      refine T_joinc h (fun (p:(List UInt8))=>[(0,.d (.str a0)),(3,.box [.slf 0 89,oW3 p]),(8,dI (a0.length:Int)),(9,dI v2)]) (fun s h=>?_) (fun v3 h=>?_)
      · refine T_block ?_
        refine T_reg [] [0,3,4,8,9] [(4,dI v2)] [] 2 (by kernel_rfl) (trivial) ?_
        obtain ⟨hp1,h⟩:=chk_ok h
        refine T_reg [] [0,3,5,8,9] [(5,.d (.v (.int .u8 ((a0.getD v2.toNat 0).toNat:Int))))] [(2,0≤v2∧v2 < a0.length)] 1 (by kernel_rfl) (hp1) ?_
        refine T_block ?_
        refine T_reg [] [0,3,5,8,9,17] [(17,dB (((a0.getD v2.toNat 0).toNat:Int) == (10:Int)))] [] 3 (by kernel_rfl) (trivial) ?_
        refine T_cond (((a0.getD v2.toNat 0).toNat:Int) == (10:Int)) (by kernel_rfl) (fun hc=>?_) (fun hc=>?_)
        · have h:=cond_tt hc h
          obtain ⟨y1,hy2,h⟩:=call_ok h
          obtain hs:=Option.some.inj h; subst hs
          refine T_reg_end [(0,{ res:=.tup [dI y1.1,.d (.v .nilIface)],vout:=[.box [.slf 0 89,oW3 y1.2.2]],xs:=[3] })] [0,3,8,9] [(3,.box [.slf 0 89,oW3 y1.2.2])] [(0,ACall Tryd.prog 60 [.bp 1000000 0,.d (.str ([92,110]:List UInt8))] [.box [.slf 0 89,oW3 v1]] (.tup [dI y1.1,.d (.v .nilIface)]) [.box [.slf 0 89,oW3 y1.2.2]])] 0 (by kernel_rfl) (strings_Builder_WriteString_ok hy2) fun a w hm=>inBlock_norm (inBlock_norm (then_norm (hm.co (cs:=[.keep [0,3,8,9]]) (by show _=_; kernel_rfl))))
        · have h:=cond_ff hc h
          refine T_reg [] [0,3,5,8,9,21] [(21,dB (((a0.getD v2.toNat 0).toNat:Int) == (9:Int)))] [] 3 (by kernel_rfl) (trivial) ?_
          refine T_cond (((a0.getD v2.toNat 0).toNat:Int) == (9:Int)) (by kernel_rfl) (fun hc=>?_) (fun hc=>?_)
          · have h:=cond_tt hc h
            obtain ⟨y2,hy3,h⟩:=call_ok h
            obtain hs:=Option.some.inj h; subst hs
            refine T_reg_end [(0,{ res:=.tup [dI y2.1,.d (.v .nilIface)],vout:=[.box [.slf 0 89,oW3 y2.2.2]],xs:=[3] })] [0,3,8,9] [(3,.box [.slf 0 89,oW3 y2.2.2])] [(0,ACall Tryd.prog 60 [.bp 1000000 0,.d (.str ([92,116]:List UInt8))] [.box [.slf 0 89,oW3 v1]] (.tup [dI y2.1,.d (.v .nilIface)]) [.box [.slf 0 89,oW3 y2.2.2]])] 0 (by kernel_rfl) (strings_Builder_WriteString_ok hy3) fun a w hm=>inBlock_norm (inBlock_norm (then_norm (hm.co (cs:=[.keep [0,3,8,9]]) (by show _=_; kernel_rfl))))
          · have h:=cond_ff hc h
            obtain ⟨z1,hz1,h⟩:=lett_ok h
            refine T_reg [(5,{ rw:=some (dB z1) })] [0,3,5,8,9,25] [(25,dB (bif z1 then true else (((a0.getD v2.toNat 0).toNat:Int) == (92:Int))))] [(3,((((((a0.getD v2.toNat 0).toNat:Int) == (40:Int)) == false) && true)=true→True)),(0,((((((a0.getD v2.toNat 0).toNat:Int) == (40:Int)) == false) && true)=true→True)),(0,(True)∧dB (bif (((a0.getD v2.toNat 0).toNat:Int) == (40:Int)) then true else (((a0.getD v2.toNat 0).toNat:Int) == (41:Int)))=dB z1),(1,(((z1 == false) && true)=true→True)),(0,(((z1 == false) && true)=true→True))] 2 (by kernel_rfl) (⟨(fun hg=>trivial),(fun hg=>trivial),⟨trivial,(by subst hz1; rfl)⟩,(fun hg=>trivial),(fun hg=>trivial)⟩) ?_
            refine T_cond (bif z1 then true else (((a0.getD v2.toNat 0).toNat:Int) == (92:Int))) (by kernel_rfl) (fun hc=>?_) (fun hc=>?_)
            · have h:=cond_tt hc h
              obtain ⟨y3,hy4,h⟩:=call_ok h
              refine T_reg [(0,{ res:=.d (.v .nilIface),vout:=[.box [.slf 0 89,oW3 y3.2]],xs:=[3] })] [0,3,5,8,9] [(3,.box [.slf 0 89,oW3 y3.2])] [(0,ACall Tryd.prog 59 [.bp 1000000 0,.d (.v (.int .u8 (92:Int)))] [.box [.slf 0 89,oW3 v1]] (.d (.v .nilIface)) [.box [.slf 0 89,oW3 y3.2]])] 0 (by kernel_rfl) (strings_Builder_WriteByte_ok hy4) ?_
              obtain ⟨y4,hy5,h⟩:=call_ok h
              obtain hs:=Option.some.inj h; subst hs
              refine T_reg_end [(1,{ res:=.d (.v .nilIface),vout:=[.box [.slf 0 89,oW3 y4.2]],xs:=[3] })] [0,3,8,9] [(3,.box [.slf 0 89,oW3 y4.2])] [(1,ACall Tryd.prog 59 [.bp 1000000 0,.d (.v (.int .u8 ((a0.getD v2.toNat 0).toNat:Int)))] [.box [.slf 0 89,oW3 y3.2]] (.d (.v .nilIface)) [.box [.slf 0 89,oW3 y4.2]])] 0 (by kernel_rfl) (strings_Builder_WriteByte_ok hy5) fun a w hm=>inBlock_norm (inBlock_norm (then_norm (hm.co (cs:=[.keep [0,3,8,9]]) (by show _=_; kernel_rfl))))
            · have h:=cond_ff hc h
              obtain ⟨z2,hz2,h⟩:=lett_ok h
              refine T_reg [(5,{ rw:=some (dB z2) })] [0,3,5,8,9,39] [(39,dB z2)] [(3,((((decide (((a0.getD v2.toNat 0).toNat:Int) < (32:Int))) == false) && true)=true→True)),(0,((((decide (((a0.getD v2.toNat 0).toNat:Int) < (32:Int))) == false) && true)=true→True)),(0,(True)∧dB (bif (decide (((a0.getD v2.toNat 0).toNat:Int) < (32:Int))) then true else (decide (((a0.getD v2.toNat 0).toNat:Int) > (125:Int))))=dB z2)] 1 (by kernel_rfl) (⟨(fun hg=>trivial),(fun hg=>trivial),⟨trivial,(by subst hz2; rfl)⟩⟩) ?_
              refine T_cond z2 (by kernel_rfl) (fun hc=>?_) (fun hc=>?_)
              · have h:=cond_tt hc h
                obtain ⟨y5,hy6,h⟩:=call_ok h
                refine T_reg [(0,{ res:=.tup [dI y5.1,.d (.v .nilIface)],vout:=[.box [.slf 0 89,oW3 y5.2.2]],xs:=[3] })] [0,3,5,8,9] [(3,.box [.slf 0 89,oW3 y5.2.2])] [(0,ACall Tryd.prog 60 [.bp 1000000 0,.d (.str ([92,120]:List UInt8))] [.box [.slf 0 89,oW3 v1]] (.tup [dI y5.1,.d (.v .nilIface)]) [.box [.slf 0 89,oW3 y5.2.2]])] 0 (by kernel_rfl) (strings_Builder_WriteString_ok hy6) ?_
                obtain ⟨hp2,h⟩:=chk_ok h
                obtain ⟨z3,hz3,h⟩:=lett_ok h
                obtain ⟨y6,hy7,h⟩:=call_ok h
                refine T_reg [(2,{ rw:=some (.d (.v (.int .u8 z3))) }),(3,{ res:=.d (.v .nilIface),vout:=[.box [.slf 0 89,oW3 y6.2]],xs:=[3] })] [0,3,5,8,9] [(3,.box [.slf 0 89,oW3 y6.2])] [(1,0≤(4:Int)),(0,(0≤(((a0.getD v2.toNat 0).toNat:Int).fdiv (2 ^ (min (4:Int).toNat IntKind.u8.bits)))∧(((a0.getD v2.toNat 0).toNat:Int).fdiv (2 ^ (min (4:Int).toNat IntKind.u8.bits))) < ([48,49,50,51,52,53,54,55,56,57,97,98,99,100,101,102]:List UInt8).length)∧AV.d (.v (.int .u8 ((([48,49,50,51,52,53,54,55,56,57,97,98,99,100,101,102]:List UInt8).getD (((a0.getD v2.toNat 0).toNat:Int).fdiv (2 ^ (min (4:Int).toNat IntKind.u8.bits))).toNat 0).toNat:Int)))=.d (.v (.int .u8 z3))),(0,ACall Tryd.prog 59 [.bp 1000000 0,.d (.v (.int .u8 z3))] [.box [.slf 0 89,oW3 y5.2.2]] (.d (.v .nilIface)) [.box [.slf 0 89,oW3 y6.2]])] 0 (by kernel_rfl) (⟨(show 0≤(4:Int) by decide),⟨hp2,(by subst hz3; rfl)⟩,strings_Builder_WriteByte_ok hy7⟩) ?_
                obtain ⟨z4,hz4,h⟩:=lett_ok h
                obtain ⟨hp3,h⟩:=chk_ok h
                obtain ⟨z5,hz5,h⟩:=lett_ok h
                obtain ⟨y7,hy8,h⟩:=call_ok h
                obtain hs:=Option.some.inj h; subst hs
                refine T_reg_end [(1,{ rw:=some (.d (.v (.int .u8 z4))) }),(2,{ rw:=some (.d (.v (.int .u8 z5))) }),(3,{ res:=.d (.v .nilIface),vout:=[.box [.slf 0 89,oW3 y7.2]],xs:=[3] })] [0,3,8,9] [(3,.box [.slf 0 89,oW3 y7.2])] [(1,(True)∧AV.d (.v (.int .u8 (IntKind.u8.wrap ((BitVec.ofInt IntKind.u8.bits ((a0.getD v2.toNat 0).toNat:Int) &&& BitVec.ofInt IntKind.u8.bits (15:Int)).toNat:Int))))=.d (.v (.int .u8 z4))),(0,(0≤z4∧z4 < ([48,49,50,51,52,53,54,55,56,57,97,98,99,100,101,102]:List UInt8).length)∧AV.d (.v (.int .u8 ((([48,49,50,51,52,53,54,55,56,57,97,98,99,100,101,102]:List UInt8).getD z4.toNat 0).toNat:Int)))=.d (.v (.int .u8 z5))),(0,ACall Tryd.prog 59 [.bp 1000000 0,.d (.v (.int .u8 z5))] [.box [.slf 0 89,oW3 y6.2]] (.d (.v .nilIface)) [.box [.slf 0 89,oW3 y7.2]])] 0 (by kernel_rfl) (⟨⟨trivial,(by subst hz4; rfl)⟩,⟨hp3,(by subst hz5; rfl)⟩,strings_Builder_WriteByte_ok hy8⟩) fun a w hm=>inBlock_norm (inBlock_norm (then_norm (hm.co (cs:=[.keep [0,3,8,9]]) (by show _=_; kernel_rfl))))
              · have h:=cond_ff hc h
                obtain ⟨y8,hy9,h⟩:=call_ok h
                obtain hs:=Option.some.inj h; subst hs
                refine T_reg_end [(1,{ res:=.d (.v .nilIface),vout:=[.box [.slf 0 89,oW3 y8.2]],xs:=[3] })] [0,3,8,9] [(3,.box [.slf 0 89,oW3 y8.2])] [(1,ACall Tryd.prog 59 [.bp 1000000 0,.d (.v (.int .u8 ((a0.getD v2.toNat 0).toNat:Int)))] [.box [.slf 0 89,oW3 v1]] (.d (.v .nilIface)) [.box [.slf 0 89,oW3 y8.2]])] 0 (by kernel_rfl) (strings_Builder_WriteByte_ok hy9) fun a w hm=>inBlock_norm (inBlock_norm (then_norm (hm.co (cs:=[.keep [0,3,8,9]]) (by show _=_; kernel_rfl))))
      · skip
        refine T_reg_end [] [0,3,8,9] [(9,dI (IntKind.i64.wrap (v2+(1:Int))))] [] 2 (by kernel_rfl) (trivial) fun a w hm=>then_norm (⟨(v3,IntKind.i64.wrap (v2+(1:Int))),h,hm.co (cs:=[.keep [0,3,8,9]]) (by show _=_; kernel_rfl)⟩)
    · have h:=cond_ff hc h
      obtain hs:=Option.some.inj h; subst hs
      refine T_exit fun a w hm=>then_exit (then_exit (inBlock_exit (then_norm (hm.co (cs:=[.keep [3]]) (by show _=_; kernel_rfl)))))
  · skip
    refine fun a w hm=>then_norm (((?_:T Tryd.prog e 58 _ _ _) a w hm))
    obtain ⟨y10,hy10,h⟩:=call_ok h
    refine T_reg [(0,{ res:=.d (.v .nilIface),vout:=[.box [.slf 0 89,oW3 y10.2]],xs:=[3] })] [3] [(3,.box [.slf 0 89,oW3 y10.2])] [(0,ACall Tryd.prog 59 [.bp 1000000 0,.d (.v (.int .u8 (41:Int)))] [.box [.slf 0 89,oW3 v4]] (.d (.v .nilIface)) [.box [.slf 0 89,oW3 y10.2]])] 0 (by kernel_rfl) (strings_Builder_WriteByte_ok hy10) ?_
    obtain ⟨hp4,h⟩:=chk_ok h
    refine T_reg [(0,{ xs:=[3],vout:=[.box [.slf 0 89,.junk]],res:=.d (.str y10.2) })] [2] [(2,.d (.str y10.2))] [(0,ACall Tryd.prog 62 [.bp 1000000 0] [.box [.slf 0 89,oW3 y10.2]] (.d (.str y10.2)) [.box [.slf 0 89,.junk]])] 1 (by kernel_rfl) (b_String (l:=y10.2) hp4 (by kernel_rfl) (by kernel_rfl)) ?_
    obtain hs:=Option.some.inj h; subst hs
    refine T_ret fun a w hm=>T_return (fr':=[(2,.d (.str y10.2))]) [2] (by kernel_rfl) [.keep [2]] (by kernel_rfl) (by kernel_rfl) (by kernel_rfl) (by show _=_; kernel_rfl) (by exact trivial) a w hm
theorem token_Print_ok {F:Nat} {a0:S_Token} {r:(List UInt8)×Int} (h:token_Print F a0=some r):ACall Tryd.prog 45 [.agg (cS_Token a0)] [.glo 0 (glob_internal_strconv_uint64pow10.flatMap (cI .u64))] (.tup [.d (.str r.1),.d (.v (.int .i64 r.2))]) [.glo 0 (glob_internal_strconv_uint64pow10.flatMap (cI .u64))]:=by
  rw [token_Print] at h
  refine ACall.intro (N:=44) Tryd.func45 rfl rfl rfl rfl rfl fun e=>?_
  refine T_reg [] [1,1000000] [(1,bx_Token a0)] [] 3 (by kernel_rfl) (trivial) ?_
  refine T_seqk ?_
  obtain ⟨y1,hy1,h⟩:=call_ok h
  refine T_reg [(1,{ res:=dI y1 })] [1,4,1000000] [(4,dI y1)] [(1,ACall Tryd.prog 52 [.agg (cS_Token a0)] [] (dI y1) [])] 1 (by kernel_rfl) (token_check_ok hy1) ?_
  refine T_reg [] [1,4,8,1000000] [(8,dB (y1 != (0:Int)))] [] 2 (by kernel_rfl) (trivial) ?_
  refine T_cond (y1 != (0:Int)) (by kernel_rfl) (fun hc=>?_) (fun hc=>?_)
  · have h:=cond_tt hc h
    refine T_reg [] [2,3,1000000] [(2,.d (.str [])),(3,dI y1)] [] 3 (by kernel_rfl) (trivial) ?_
    obtain hs:=Option.some.inj h; subst hs
    refine T_ret fun a w hm=>then_ret (T_return (fr':=[(2,.d (.str [])),(3,dI y1),(1000000,.glo 0 (glob_internal_strconv_uint64pow10.flatMap (cI .u64)))]) [2,3] (by kernel_rfl) [.keep [2,3,1000000]] (by kernel_rfl) (by kernel_rfl) (by kernel_rfl) (by show _=_; kernel_rfl) (by exact ⟨⟨by kernel_rfl,by kernel_rfl⟩,trivial⟩) a w hm)
  · have h:=cond_ff hc h
    refine T_skip fun a w hm=>then_norm (((?_:T Tryd.prog e 44 _ _ _) a w hm))
    refine T_seqk ?_
    refine T_reg [] [1,11,1000000] [(11,dI a0.f0)] [] 2 (by kernel_rfl) (trivial) ?_
    refine T_block ?_
    refine T_reg [] [1,11,12,1000000] [(12,dB (a0.f0 == (1:Int)))] [] 2 (by kernel_rfl) (trivial) ?_
    refine T_cond (a0.f0 == (1:Int)) (by kernel_rfl) (fun hc=>?_) (fun hc=>?_)
    · have h:=cond_tt hc h
      obtain ⟨hp1,h⟩:=chk_ok h
      refine T_reg [(2,{ res:=.d (.str (Lib.itoa a0.f1)),xs:=[1000000],vout:=[.glo 0 (glob_internal_strconv_uint64pow10.flatMap (cI .u64))] })] [2,3,1000000] [(2,.d (.str (Lib.itoa a0.f1))),(3,dI (0:Int))] [(2,ACall Tryd.prog 40 [dI a0.f1] [.glo 0 (glob_internal_strconv_uint64pow10.flatMap (cI .u64))] (.d (.str (Lib.itoa a0.f1))) [.glo 0 (glob_internal_strconv_uint64pow10.flatMap (cI .u64))])] 2 (by kernel_rfl) (b_Itoa hp1) ?_
      obtain hs:=Option.some.inj h; subst hs
      refine T_ret fun a w hm=>inBlock_ret (then_ret (T_return (fr':=[(2,.d (.str (Lib.itoa a0.f1))),(3,dI (0:Int)),(1000000,.glo 0 (glob_internal_strconv_uint64pow10.flatMap (cI .u64)))]) [2,3] (by kernel_rfl) [.keep [2,3,1000000]] (by kernel_rfl) (by kernel_rfl) (by kernel_rfl) (by show _=_; kernel_rfl) (by exact ⟨⟨by kernel_rfl,by kernel_rfl⟩,trivial⟩) a w hm))
    · have h:=cond_ff hc h
      refine T_reg [] [1,11,17,1000000] [(17,dB (a0.f0 == (2:Int)))] [] 2 (by kernel_rfl) (trivial) ?_
      refine T_cond (a0.f0 == (2:Int)) (by kernel_rfl) (fun hc=>?_) (fun hc=>?_)
      · have h:=cond_tt hc h
        obtain ⟨y2,hy2,h⟩:=call_ok h
        obtain ⟨hp2,h⟩:=chk_ok h
        refine T_reg [(2,{ res:=.d (.str y2) })] [2,3,1000000] [(2,.d (.str (([47]:List UInt8)++y2))),(3,dI (0:Int))] [(2,ACall Tryd.prog 53 [.d (.str a0.f2)] [] (.d (.str y2)) []),(0,([47]:List UInt8).length+y2.length≤9223372036854775807)] 2 (by kernel_rfl) (⟨token_printedName_ok hy2,hp2⟩) ?_
        obtain hs:=Option.some.inj h; subst hs
        refine T_ret fun a w hm=>inBlock_ret (then_ret (T_return (fr':=[(2,.d (.str (([47]:List UInt8)++y2))),(3,dI (0:Int)),(1000000,.glo 0 (glob_internal_strconv_uint64pow10.flatMap (cI .u64)))]) [2,3] (by kernel_rfl) [.keep [2,3,1000000]] (by kernel_rfl) (by kernel_rfl) (by kernel_rfl) (by show _=_; kernel_rfl) (by exact ⟨⟨by kernel_rfl,by kernel_rfl⟩,trivial⟩) a w hm))
      · have h:=cond_ff hc h
        refine T_reg [] [1,11,23,1000000] [(23,dB (a0.f0 == (3:Int)))] [] 2 (by kernel_rfl) (trivial) ?_
        refine T_cond (a0.f0 == (3:Int)) (by kernel_rfl) (fun hc=>?_) (fun hc=>?_)
        · have h:=cond_tt hc h
          obtain ⟨y3,hy3,h⟩:=call_ok h
          refine T_reg [(2,{ res:=.d (.str y3) })] [2,3,1000000] [(2,.d (.str y3)),(3,dI (0:Int))] [(2,ACall Tryd.prog 54 [.d (.str a0.f2)] [] (.d (.str y3)) [])] 2 (by kernel_rfl) (token_printedText_ok hy3) ?_
          obtain hs:=Option.some.inj h; subst hs
          refine T_ret fun a w hm=>inBlock_ret (then_ret (T_return (fr':=[(2,.d (.str y3)),(3,dI (0:Int)),(1000000,.glo 0 (glob_internal_strconv_uint64pow10.flatMap (cI .u64)))]) [2,3] (by kernel_rfl) [.keep [2,3,1000000]] (by kernel_rfl) (by kernel_rfl) (by kernel_rfl) (by show _=_; kernel_rfl) (by exact ⟨⟨by kernel_rfl,by kernel_rfl⟩,trivial⟩) a w hm))
        · have h:=cond_ff hc h
          refine T_reg [] [1,11,28,1000000] [(28,dB (a0.f0 == (4:Int)))] [] 2 (by kernel_rfl) (trivial) ?_
          refine T_cond (a0.f0 == (4:Int)) (by kernel_rfl) (fun hc=>?_) (fun hc=>?_)
          · have h:=cond_tt hc h
            obtain ⟨hp3,h⟩:=chk_ok h
            obtain ⟨hp4,h⟩:=chk_ok h
            refine T_reg [(2,{ res:=.d (.str (Lib.itoa a0.f1)),xs:=[1000000],vout:=[.glo 0 (glob_internal_strconv_uint64pow10.flatMap (cI .u64))] })] [2,3,1000000] [(2,.d (.str (([64]:List UInt8)++(Lib.itoa a0.f1)))),(3,dI (0:Int))] [(2,ACall Tryd.prog 40 [dI a0.f1] [.glo 0 (glob_internal_strconv_uint64pow10.flatMap (cI .u64))] (.d (.str (Lib.itoa a0.f1))) [.glo 0 (glob_internal_strconv_uint64pow10.flatMap (cI .u64))]),(0,([64]:List UInt8).length+(Lib.itoa a0.f1).length≤9223372036854775807)] 2 (by kernel_rfl) (⟨b_Itoa hp3,hp4⟩) ?_
            obtain hs:=Option.some.inj h; subst hs
            refine T_ret fun a w hm=>inBlock_ret (then_ret (T_return (fr':=[(2,.d (.str (([64]:List UInt8)++(Lib.itoa a0.f1)))),(3,dI (0:Int)),(1000000,.glo 0 (glob_internal_strconv_uint64pow10.flatMap (cI .u64)))]) [2,3] (by kernel_rfl) [.keep [2,3,1000000]] (by kernel_rfl) (by kernel_rfl) (by kernel_rfl) (by show _=_; kernel_rfl) (by exact ⟨⟨by kernel_rfl,by kernel_rfl⟩,trivial⟩) a w hm))
          · have h:=cond_ff hc h
            refine T_reg [] [1,34,1000000] [(34,dB (a0.f0 == (5:Int)))] [] 2 (by kernel_rfl) (trivial) ?_
            refine T_cond (a0.f0 == (5:Int)) (by kernel_rfl) (fun hc=>?_) (fun hc=>?_)
            · have h:=cond_tt hc h
              refine T_reg [] [2,3,1000000] [(2,.d (.str a0.f2)),(3,dI (0:Int))] [] 4 (by kernel_rfl) (trivial) ?_
              obtain hs:=Option.some.inj h; subst hs
              refine T_ret fun a w hm=>inBlock_ret (then_ret (T_return (fr':=[(2,.d (.str a0.f2)),(3,dI (0:Int)),(1000000,.glo 0 (glob_internal_strconv_uint64pow10.flatMap (cI .u64)))]) [2,3] (by kernel_rfl) [.keep [2,3,1000000]] (by kernel_rfl) (by kernel_rfl) (by kernel_rfl) (by show _=_; kernel_rfl) (by exact ⟨⟨by kernel_rfl,by kernel_rfl⟩,trivial⟩) a w hm))
            · have h:=cond_ff hc h
              refine T_skip fun a w hm=>inBlock_norm (then_norm (((?_:T Tryd.prog e 44 _ _ _) a w hm)))
              obtain ⟨hp5,h⟩:=chk_ok h
              obtain ⟨z1,hz1,h⟩:=lett_ok h
              refine T_reg [(0,{ es:=some (([([91]:List UInt8),([93]:List UInt8),([60,60]:List UInt8),([62,62]:List UInt8)]).map cS) }),(5,{ cs:=cS (([([91]:List UInt8),([93]:List UInt8),([60,60]:List UInt8),([62,62]:List UInt8)]).getD (IntKind.i64.wrap (a0.f0 - (6:Int))).toNat []),rw:=some (.d (.str z1)) })] [2,3,1000000] [(2,.d (.str z1)),(3,dI (0:Int))] [(0,(([([91]:List UInt8),([93]:List UInt8),([60,60]:List UInt8),([62,62]:List UInt8)]).map cS)=(([([91]:List UInt8),([93]:List UInt8),([60,60]:List UInt8),([62,62]:List UInt8)]).map cS)),(3,0≤(IntKind.i64.wrap (a0.f0 - (6:Int)))∧(IntKind.i64.wrap (a0.f0 - (6:Int))) < (([([91]:List UInt8),([93]:List UInt8),([60,60]:List UInt8),([62,62]:List UInt8)]).map cS).length),(0,((([([91]:List UInt8),([93]:List UInt8),([60,60]:List UInt8),([62,62]:List UInt8)]).map cS)[(IntKind.i64.wrap (a0.f0 - (6:Int))).toNat]? = some (cS (([([91]:List UInt8),([93]:List UInt8),([60,60]:List UInt8),([62,62]:List UInt8)]).getD (IntKind.i64.wrap (a0.f0 - (6:Int))).toNat [])))∧AV.d (.str (([([91]:List UInt8),([93]:List UInt8),([60,60]:List UInt8),([62,62]:List UInt8)]).getD (IntKind.i64.wrap (a0.f0 - (6:Int))).toNat []))=.d (.str z1))] 2 (by kernel_rfl) (⟨rfl,own_idx cS hp5,⟨(idx_ok (d:=[]) cS hp5).2,(by subst hz1; rfl)⟩⟩) ?_
              obtain hs:=Option.some.inj h; subst hs
              refine T_ret fun a w hm=>T_return (fr':=[(2,.d (.str z1)),(3,dI (0:Int)),(1000000,.glo 0 (glob_internal_strconv_uint64pow10.flatMap (cI .u64)))]) [2,3] (by kernel_rfl) [.keep [2,3,1000000]] (by kernel_rfl) (by kernel_rfl) (by kernel_rfl) (by show _=_; kernel_rfl) (by exact ⟨⟨by kernel_rfl,by kernel_rfl⟩,trivial⟩) a w hm
theorem object_node_ok {F:Nat} {a0:S_Object} {a1:Int} {r:Int} (h:object_node F a0 a1=some r):ACall Tryd.prog 55 [.agg (cS_Object a0),.d (.v (.int .i64 a1))] [.glo 0 (glob_internal_strconv_uint64pow10.flatMap (cI .u64))] (.d (.v (.int .i64 r))) [.glo 0 (glob_internal_strconv_uint64pow10.flatMap (cI .u64))]:=by
  rw [object_node] at h
  refine ACall.intro (N:=147) Tryd.func55 rfl rfl rfl rfl rfl fun e=>?_
  refine T_reg [] [1,2,1000000] [(2,bx_Object a0)] [] 2 (by kernel_rfl) (trivial) ?_
  obtain ⟨z2,hz1,h⟩:=lett_ok h
  refine T_reg [(12,{ rw:=some (dB z2) })] [1,2,5,1000000] [(5,dB z2)] [(4,((((a0.f0 == (1:Int)) == false) && true)=true→True)),(0,((((a0.f0 == (1:Int)) == false) && true)=true→True)),(0,((((a0.f0 == (1:Int)) == false) && true)=true→True)),(2,((((bif (a0.f0 == (1:Int)) then true else (a0.f0 == (2:Int))) == false) && true)=true→True)),(0,((((bif (a0.f0 == (1:Int)) then true else (a0.f0 == (2:Int))) == false) && true)=true→True)),(0,((((bif (a0.f0 == (1:Int)) then true else (a0.f0 == (2:Int))) == false) && true)=true→True)),(0,(True)∧dB (bif (bif (a0.f0 == (1:Int)) then true else (a0.f0 == (2:Int))) then true else (a0.f0 == (5:Int)))=dB z2)] 1 (by kernel_rfl) (⟨(fun hg=>trivial),(fun hg=>trivial),(fun hg=>trivial),(fun hg=>trivial),(fun hg=>trivial),(fun hg=>trivial),⟨trivial,(by subst hz1; rfl)⟩⟩) ?_
  refine T_reg [] [1,2,5,6,1000000] [(6,dB (bif (a0.f0 == (3:Int)) then true else (a0.f0 == (4:Int))))] [(4,((((a0.f0 == (3:Int)) == false) && true)=true→True)),(0,((((a0.f0 == (3:Int)) == false) && true)=true→True)),(0,((((a0.f0 == (3:Int)) == false) && true)=true→True))] 2 (by kernel_rfl) (⟨(fun hg=>trivial),(fun hg=>trivial),(fun hg=>trivial)⟩) ?_
  refine T_reg [] [1,2,5,6,7,1000000] [(7,dB (bif (a0.f0 == (6:Int)) then true else (a0.f0 == (7:Int))))] [(4,((((a0.f0 == (6:Int)) == false) && true)=true→True)),(0,((((a0.f0 == (6:Int)) == false) && true)=true→True)),(0,((((a0.f0 == (6:Int)) == false) && true)=true→True))] 2 (by kernel_rfl) (⟨(fun hg=>trivial),(fun hg=>trivial),(fun hg=>trivial)⟩) ?_
  refine T_seqk ?_
  refine T_block ?_
  refine T_reg [] [1,2,5,6,7,41,1000000] [(41,dB (bif (decide (a0.f0 < (0:Int))) then true else (decide (a0.f0 > (7:Int)))))] [(4,((((decide (a0.f0 < (0:Int))) == false) && true)=true→True)),(0,((((decide (a0.f0 < (0:Int))) == false) && true)=true→True)),(0,((((decide (a0.f0 < (0:Int))) == false) && true)=true→True))] 2 (by kernel_rfl) (⟨(fun hg=>trivial),(fun hg=>trivial),(fun hg=>trivial)⟩) ?_
  refine T_cond (bif (decide (a0.f0 < (0:Int))) then true else (decide (a0.f0 > (7:Int)))) (by kernel_rfl) (fun hc=>?_) (fun hc=>?_)
  · have h:=cond_tt hc h
    refine T_reg [] [4,1000000] [(4,dI (14:Int))] [] 1 (by kernel_rfl) (trivial) ?_
    obtain hs:=Option.some.inj h; subst hs
    refine T_ret fun a w hm=>inBlock_ret (then_ret (T_return (fr':=[(4,dI (14:Int)),(1000000,.glo 0 (glob_internal_strconv_uint64pow10.flatMap (cI .u64)))]) [4] (by kernel_rfl) [.keep [4,1000000]] (by kernel_rfl) (by kernel_rfl) (by kernel_rfl) (by show _=_; kernel_rfl) (by exact ⟨⟨by kernel_rfl,by kernel_rfl⟩,trivial⟩) a w hm))
  · have h:=cond_ff hc h
    refine T_reg [] [2,5,6,7,50,1000000] [(50,dB (decide (a1 > (12:Int))))] [] 3 (by kernel_rfl) (trivial) ?_
    refine T_cond (decide (a1 > (12:Int))) (by kernel_rfl) (fun hc=>?_) (fun hc=>?_)
    · have h:=cond_tt hc h
      refine T_reg [] [4,1000000] [(4,dI (15:Int))] [] 1 (by kernel_rfl) (trivial) ?_
      obtain hs:=Option.some.inj h; subst hs
      refine T_ret fun a w hm=>inBlock_ret (then_ret (T_return (fr':=[(4,dI (15:Int)),(1000000,.glo 0 (glob_internal_strconv_uint64pow10.flatMap (cI .u64)))]) [4] (by kernel_rfl) [.keep [4,1000000]] (by kernel_rfl) (by kernel_rfl) (by kernel_rfl) (by show _=_; kernel_rfl) (by exact ⟨⟨by kernel_rfl,by kernel_rfl⟩,trivial⟩) a w hm))
    · have h:=cond_ff hc h
      refine T_joinc h (fun (p:Bool)=>[(2,bx_Object a0),(53,dB p),(1000000,.glo 0 (glob_internal_strconv_uint64pow10.flatMap (cI .u64)))]) (fun s h=>?_) (fun v2 h=>?_)
      · refine T_reg [] [2,6,7,53,1000000] [(53,dB (bif (a0.f1 != (0:Int)) then (!z2) else false))] [(4,((((a0.f1 != (0:Int)) == true) && true)=true→True)),(0,((((a0.f1 != (0:Int)) == true) && true)=true→True))] 2 (by kernel_rfl) (⟨(fun hg=>trivial),(fun hg=>trivial)⟩) ?_
        refine T_cond (bif (a0.f1 != (0:Int)) then (!z2) else false) (by kernel_rfl) (fun hc=>?_) (fun hc=>?_)
        · have h:=cond_tt hc h
          obtain hs:=Option.some.inj h; subst hs
          refine T_skip fun a w hm=>then_norm (hm.co (cs:=[.keep [2,53,1000000]]) (by show _=_; kernel_rfl))
        · have h:=cond_ff hc h
          obtain ⟨z3,hz2,h⟩:=lett_ok h
          refine T_reg [(6,{ rw:=some (dB z3) })] [2,7,53,1000000] [(53,dB z3)] [(4,((((!(a0.f2 == [])) == true) && true)=true→True)),(0,((((!(a0.f2 == [])) == true) && true)=true→True)),(0,(True)∧dB (bif (!(a0.f2 == [])) then (!(bif (a0.f0 == (3:Int)) then true else (a0.f0 == (4:Int)))) else false)=dB z3)] 1 (by kernel_rfl) (⟨(fun hg=>trivial),(fun hg=>trivial),⟨trivial,(by subst hz2; rfl)⟩⟩) ?_
          refine T_cond z3 (by kernel_rfl) (fun hc=>?_) (fun hc=>?_)
          · have h:=cond_tt hc h
            obtain hs:=Option.some.inj h; subst hs
            refine T_skip fun a w hm=>then_norm (hm.co (cs:=[.keep [2,53,1000000]]) (by show _=_; kernel_rfl))
          · have h:=cond_ff hc h
            obtain ⟨z4,hz3,h⟩:=lett_ok h
            obtain hs:=Option.some.inj h; subst hs
            refine T_reg_end [(2,{ rw:=some (dI (a0.f4.length:Int)) }),(7,{ rw:=some (dB z4) })] [2,53,1000000] [(53,dB z4)] [(2,True∧dI ((a0.f4.map rS_Object).length:Int)=dI (a0.f4.length:Int)),(2,((((decide ((a0.f4.length:Int) > (0:Int))) == true) && true)=true→True)),(0,((((decide ((a0.f4.length:Int) > (0:Int))) == true) && true)=true→True)),(0,(True)∧dB (bif (decide ((a0.f4.length:Int) > (0:Int))) then (!(bif (a0.f0 == (6:Int)) then true else (a0.f0 == (7:Int)))) else false)=dB z4)] 1 (by kernel_rfl) (⟨len_ok rS_Object,(fun hg=>trivial),(fun hg=>trivial),⟨trivial,(by subst hz3; rfl)⟩⟩) fun a w hm=>then_norm (hm.co (cs:=[.keep [2,53,1000000]]) (by show _=_; kernel_rfl))
      · skip
        refine T_cond v2 (by kernel_rfl) (fun hc=>?_) (fun hc=>?_)
        · have h:=cond_tt hc h
          refine T_reg [] [4,1000000] [(4,dI (4:Int))] [] 1 (by kernel_rfl) (trivial) ?_
          obtain hs:=Option.some.inj h; subst hs
          refine T_ret fun a w hm=>inBlock_ret (then_ret (T_return (fr':=[(4,dI (4:Int)),(1000000,.glo 0 (glob_internal_strconv_uint64pow10.flatMap (cI .u64)))]) [4] (by kernel_rfl) [.keep [4,1000000]] (by kernel_rfl) (by kernel_rfl) (by kernel_rfl) (by show _=_; kernel_rfl) (by exact ⟨⟨by kernel_rfl,by kernel_rfl⟩,trivial⟩) a w hm))
        · have h:=cond_ff hc h
          refine T_joinc h (fun (p:Bool)=>[(2,bx_Object a0),(76,dB p),(1000000,.glo 0 (glob_internal_strconv_uint64pow10.flatMap (cI .u64)))]) (fun s h=>?_) (fun v3 h=>?_)
          · refine T_reg [(6,{ rw:=some (dI (a0.f3.length:Int)) }),(9,{ rw:=some (dI (a0.f4.length:Int)) })] [2,76,1000000] [(76,dB (bif (a0.f0 == (7:Int)) then ((a0.f3.length:Int) != (a0.f4.length:Int)) else false))] [(4,((((a0.f0 == (7:Int)) == true) && true)=true→True)),(0,((((a0.f0 == (7:Int)) == true) && true)=true→True)),(0,((((a0.f0 == (7:Int)) == true) && true)=true→True∧dI ((a0.f3.map cS).length:Int)=dI (a0.f3.length:Int))),(0,((((a0.f0 == (7:Int)) == true) && true)=true→True)),(0,((((a0.f0 == (7:Int)) == true) && true)=true→True)),(0,((((a0.f0 == (7:Int)) == true) && true)=true→True∧dI ((a0.f4.map rS_Object).length:Int)=dI (a0.f4.length:Int))),(0,((((a0.f0 == (7:Int)) == true) && true)=true→True))] 2 (by kernel_rfl) (⟨(fun hg=>trivial),(fun hg=>trivial),(fun hg=>len_ok cS),(fun hg=>trivial),(fun hg=>trivial),(fun hg=>len_ok rS_Object),(fun hg=>trivial)⟩) ?_
            refine T_cond (bif (a0.f0 == (7:Int)) then ((a0.f3.length:Int) != (a0.f4.length:Int)) else false) (by kernel_rfl) (fun hc=>?_) (fun hc=>?_)
            · have h:=cond_tt hc h
              obtain hs:=Option.some.inj h; subst hs
              refine T_skip fun a w hm=>then_norm (hm.co (cs:=[.keep [2,76,1000000]]) (by show _=_; kernel_rfl))
            · have h:=cond_ff hc h
              obtain hs:=Option.some.inj h; subst hs
              refine T_reg_end [(6,{ rw:=some (dI (a0.f3.length:Int)) })] [2,76,1000000] [(76,dB (bif (a0.f0 != (7:Int)) then (decide ((a0.f3.length:Int) > (0:Int))) else false))] [(4,((((a0.f0 != (7:Int)) == true) && true)=true→True)),(0,((((a0.f0 != (7:Int)) == true) && true)=true→True)),(0,((((a0.f0 != (7:Int)) == true) && true)=true→True∧dI ((a0.f3.map cS).length:Int)=dI (a0.f3.length:Int))),(0,((((a0.f0 != (7:Int)) == true) && true)=true→True))] 2 (by kernel_rfl) (⟨(fun hg=>trivial),(fun hg=>trivial),(fun hg=>len_ok cS),(fun hg=>trivial)⟩) fun a w hm=>then_norm (hm.co (cs:=[.keep [2,76,1000000]]) (by show _=_; kernel_rfl))
          · skip
            refine T_cond v3 (by kernel_rfl) (fun hc=>?_) (fun hc=>?_)
            · have h:=cond_tt hc h
              refine T_reg [] [4,1000000] [(4,dI (4:Int))] [] 1 (by kernel_rfl) (trivial) ?_
              obtain hs:=Option.some.inj h; subst hs
              refine T_ret fun a w hm=>inBlock_ret (then_ret (T_return (fr':=[(4,dI (4:Int)),(1000000,.glo 0 (glob_internal_strconv_uint64pow10.flatMap (cI .u64)))]) [4] (by kernel_rfl) [.keep [4,1000000]] (by kernel_rfl) (by kernel_rfl) (by kernel_rfl) (by show _=_; kernel_rfl) (by exact ⟨⟨by kernel_rfl,by kernel_rfl⟩,trivial⟩) a w hm))
            · have h:=cond_ff hc h
              obtain ⟨z5,hz4,h⟩:=lett_ok h
              refine T_reg [(12,{ rw:=some (dB z5) })] [2,98,1000000] [(98,dB z5)] [(4,((((a0.f0 == (1:Int)) == true) && true)=true→True)),(0,((((a0.f0 == (1:Int)) == true) && true)=true→True)),(0,((((a0.f0 == (1:Int)) == true) && true)=true→True)),(2,((((bif (a0.f0 == (1:Int)) then (a0.f1 != (0:Int)) else false) == true) && true)=true→True)),(0,((((bif (a0.f0 == (1:Int)) then (a0.f1 != (0:Int)) else false) == true) && true)=true→True)),(0,((((bif (a0.f0 == (1:Int)) then (a0.f1 != (0:Int)) else false) == true) && true)=true→True)),(0,(True)∧dB (bif (bif (a0.f0 == (1:Int)) then (a0.f1 != (0:Int)) else false) then (a0.f1 != (1:Int)) else false)=dB z5)] 1 (by kernel_rfl) (⟨(fun hg=>trivial),(fun hg=>trivial),(fun hg=>trivial),(fun hg=>trivial),(fun hg=>trivial),(fun hg=>trivial),⟨trivial,(by subst hz4; rfl)⟩⟩) ?_
              refine T_cond z5 (by kernel_rfl) (fun hc=>?_) (fun hc=>?_)
              · have h:=cond_tt hc h
                refine T_reg [] [4,1000000] [(4,dI (3:Int))] [] 1 (by kernel_rfl) (trivial) ?_
                obtain hs:=Option.some.inj h; subst hs
                refine T_ret fun a w hm=>inBlock_ret (then_ret (T_return (fr':=[(4,dI (3:Int)),(1000000,.glo 0 (glob_internal_strconv_uint64pow10.flatMap (cI .u64)))]) [4] (by kernel_rfl) [.keep [4,1000000]] (by kernel_rfl) (by kernel_rfl) (by kernel_rfl) (by show _=_; kernel_rfl) (by exact ⟨⟨by kernel_rfl,by kernel_rfl⟩,trivial⟩) a w hm))
              · have h:=cond_ff hc h
                refine T_reg [(2,{ rw:=some (dI (a0.f4.length:Int)) })] [2,112,1000000] [(112,dB (decide ((a0.f4.length:Int) > (256:Int))))] [(2,True∧dI ((a0.f4.map rS_Object).length:Int)=dI (a0.f4.length:Int))] 2 (by kernel_rfl) (len_ok rS_Object) ?_
                refine T_cond (decide ((a0.f4.length:Int) > (256:Int))) (by kernel_rfl) (fun hc=>?_) (fun hc=>?_)
                · have h:=cond_tt hc h
                  refine T_reg [] [4,1000000] [(4,dI (2:Int))] [] 1 (by kernel_rfl) (trivial) ?_
                  obtain hs:=Option.some.inj h; subst hs
                  refine T_ret fun a w hm=>inBlock_ret (then_ret (T_return (fr':=[(4,dI (2:Int)),(1000000,.glo 0 (glob_internal_strconv_uint64pow10.flatMap (cI .u64)))]) [4] (by kernel_rfl) [.keep [4,1000000]] (by kernel_rfl) (by kernel_rfl) (by kernel_rfl) (by show _=_; kernel_rfl) (by exact ⟨⟨by kernel_rfl,by kernel_rfl⟩,trivial⟩) a w hm))
                · have h:=cond_ff hc h
                  refine T_skip fun a w hm=>inBlock_norm (then_norm (((?_:T Tryd.prog e 147 _ _ _) a w hm)))
                  refine T_seqk ?_
                  refine T_reg [(2,{ rw:=some (dI (a0.f3.length:Int)) })] [2,118,119,120,1000000] [(118,.d (.sl 1 (a0.f3.map cS))),(119,dI (a0.f3.length:Int)),(120,dI (0:Int))] [(2,True∧dI ((a0.f3.map cS).length:Int)=dI (a0.f3.length:Int))] 1 (by kernel_rfl) (len_ok cS) ?_
                  refine T_joinEt h (fun (p:Unit)=>[(1000000,.glo 0 (glob_internal_strconv_uint64pow10.flatMap (cI .u64)))]) (fun s h hk1=>?_) (fun s h=>?_)
                  · refine T_co [.keep [2,118,119,120,1000000]] ((fun (p:Int)=>[(2,bx_Object a0),(118,.d (.sl 1 (a0.f3.map cS))),(119,dI (a0.f3.length:Int)),(120,dI p),(1000000,.glo 0 (glob_internal_strconv_uint64pow10.flatMap (cI .u64)))]) (0:Int)) (by show _=_; kernel_rfl) ?_
                    refine T_block ?_
                    refine T_loopF (ι:=Int) (fun (p:Int)=>[(2,bx_Object a0),(118,.d (.sl 1 (a0.f3.map cS))),(119,dI (a0.f3.length:Int)),(120,dI p),(1000000,.glo 0 (glob_internal_strconv_uint64pow10.flatMap (cI .u64)))]) (fun n p=>object_node_L1 F a0 n p=some s) (fun i hh=>by simp [object_node_L1] at hh) (fun n v1 h=>?_) F (0:Int) h
                    have h:object_node_L1 F a0 (n+1) v1=some s:=h
                    rw [object_node_L1] at h
                    refine T_reg [] [2,118,119,120,121,1000000] [(121,dB (decide (v1 < (a0.f3.length:Int))))] [] 1 (by kernel_rfl) (trivial) ?_
                    refine T_seqk ?_
                    refine T_cond (decide (v1 < (a0.f3.length:Int))) (by kernel_rfl) (fun hc=>?_) (fun hc=>?_)
                    · have h:=cond_tt hc h
                      refine T_skip fun a w hm=>then_norm (((?_:T Tryd.prog e 147 _ _ _) a w hm))
                      refine T_seqk ?_
                      refine T_block ?_
                      obtain ⟨hp1,h⟩:=chk_ok h
                      refine T_reg [(1,{ cs:=cS (a0.f3.getD v1.toNat []) })] [2,8,9,118,119,120,1000000] [(8,dI v1),(9,.d (.str (a0.f3.getD v1.toNat [])))] [(1,0≤v1∧(a0.f3.map cS)[v1.toNat]? = some (cS (a0.f3.getD v1.toNat [])))] 3 (by kernel_rfl) (idx_ok (d:=[]) cS hp1) ?_
                      refine T_seqk ?_
                      obtain ⟨y1,hy1,h⟩:=call_ok h
                      refine T_reg [(2,{ res:=.tup [.d (.str y1.1),dI y1.2],vout:=[.glo 0 (glob_internal_strconv_uint64pow10.flatMap (cI .u64))],xs:=[1000000] })] [2,8,9,11,118,119,120,1000000] [(11,dI y1.2)] [(2,ACall Tryd.prog 45 [.agg (cS_Token (S_Token.mk (2:Int) 0 (a0.f3.getD v1.toNat []) 0 0))] [.glo 0 (glob_internal_strconv_uint64pow10.flatMap (cI .u64))] (.tup [.d (.str y1.1),dI y1.2]) [.glo 0 (glob_internal_strconv_uint64pow10.flatMap (cI .u64))])] 5 (by kernel_rfl) (token_Print_ok hy1) ?_
                      refine T_reg [] [2,8,9,11,118,119,120,132,1000000] [(132,dB (y1.2 != (0:Int)))] [] 2 (by kernel_rfl) (trivial) ?_
                      refine T_cond (y1.2 != (0:Int)) (by kernel_rfl) (fun hc=>?_) (fun hc=>?_)
                      · have h:=cond_tt hc h
                        refine T_reg [] [4,1000000] [(4,dI y1.2)] [] 2 (by kernel_rfl) (trivial) ?_
                        obtain hs:=Option.some.inj h; subst hs
                        have h:=callE_esc hk1
                        obtain hs:=Option.some.inj h; subst hs
                        refine T_ret fun a w hm=>then_ret (inBlock_ret (then_ret (then_ret (inBlock_ret (then_ret (then_ret (T_return (fr':=[(4,dI y1.2),(1000000,.glo 0 (glob_internal_strconv_uint64pow10.flatMap (cI .u64)))]) [4] (by kernel_rfl) [.keep [4,1000000]] (by kernel_rfl) (by kernel_rfl) (by kernel_rfl) (by show _=_; kernel_rfl) (by exact ⟨⟨by kernel_rfl,by kernel_rfl⟩,trivial⟩) a w hm)))))))
                      · have h:=cond_ff hc h
                        refine T_skip fun a w hm=>then_norm (((?_:T Tryd.prog e 147 _ _ _) a w hm))
                        obtain ⟨hp2,h⟩:=chk_ok h
                        obtain ⟨z1,hz5,h⟩:=lett_ok h
                        refine T_reg [(7,{ cs:=cS (a0.f3.getD (IntKind.i64.wrap (v1 - (1:Int))).toNat []) }),(10,{ rw:=some (dB z1) })] [2,118,119,120,145,1000000] [(145,dB (bif (decide (v1 > (0:Int))) then z1 else false))] [(3,((((decide (v1 > (0:Int))) == true) && true)=true→True)),(0,((((decide (v1 > (0:Int))) == true) && true)=true→True)),(0,((((decide (v1 > (0:Int))) == true) && true)=true→True)),(0,((((decide (v1 > (0:Int))) == true) && true)=true→True)),(0,((((decide (v1 > (0:Int))) == true) && true)=true→0≤(IntKind.i64.wrap (v1 - (1:Int)))∧(a0.f3.map cS)[(IntKind.i64.wrap (v1 - (1:Int))).toNat]? = some (cS (a0.f3.getD (IntKind.i64.wrap (v1 - (1:Int))).toNat [])))),(0,((((decide (v1 > (0:Int))) == true) && true)=true→True)),(0,((((decide (v1 > (0:Int))) == true) && true)=true→True)),(0,((((decide (v1 > (0:Int))) == true) && true)=true→(True)∧dB (!(Op.bytesLess (a0.f3.getD (IntKind.i64.wrap (v1 - (1:Int))).toNat []) (a0.f3.getD v1.toNat [])))=dB z1))] 1 (by kernel_rfl) (⟨(fun hg=>trivial),(fun hg=>trivial),(fun hg=>trivial),(fun hg=>trivial),(fun hg=>idx_ok (d:=[]) cS (hp2 hg)),(fun hg=>trivial),(fun hg=>trivial),(fun hg=>⟨trivial,(by subst hz5; rfl)⟩)⟩) ?_
                        refine T_cond (bif (decide (v1 > (0:Int))) then z1 else false) (by kernel_rfl) (fun hc=>?_) (fun hc=>?_)
                        · have h:=cond_tt hc h
                          refine T_reg [] [4,1000000] [(4,dI (4:Int))] [] 1 (by kernel_rfl) (trivial) ?_
                          obtain hs:=Option.some.inj h; subst hs
                          have h:=callE_esc hk1
                          obtain hs:=Option.some.inj h; subst hs
                          refine T_ret fun a w hm=>inBlock_ret (then_ret (then_ret (inBlock_ret (then_ret (then_ret (T_return (fr':=[(4,dI (4:Int)),(1000000,.glo 0 (glob_internal_strconv_uint64pow10.flatMap (cI .u64)))]) [4] (by kernel_rfl) [.keep [4,1000000]] (by kernel_rfl) (by kernel_rfl) (by kernel_rfl) (by show _=_; kernel_rfl) (by exact ⟨⟨by kernel_rfl,by kernel_rfl⟩,trivial⟩) a w hm))))))
                        · have h:=cond_ff hc h
                          refine T_skip fun a w hm=>inBlock_norm (then_norm (((?_:T Tryd.prog e 147 _ _ _) a w hm)))
                          refine T_reg_end [] [2,118,119,120,1000000] [(120,dI (IntKind.i64.wrap (v1+(1:Int))))] [] 2 (by kernel_rfl) (trivial) fun a w hm=>then_norm (⟨IntKind.i64.wrap (v1+(1:Int)),h,hm.co (cs:=[.keep [2,118,119,120,1000000]]) (by show _=_; kernel_rfl)⟩)
                    · have h:=cond_ff hc h
                      obtain hs:=Option.some.inj h; subst hs
                      refine T_exit fun a w hm=>then_exit (then_exit (inBlock_exit (then_norm (⟨_,rfl,hm.co (cs:=[.keep [1000000]]) (by show _=_; kernel_rfl)⟩))))
                  · skip
                    refine fun a w hm=>then_norm (((?_:T Tryd.prog e 147 _ _ _) a w hm))
                    refine T_reg [] [4,1000000] [(4,dI (0:Int))] [] 1 (by kernel_rfl) (trivial) ?_
                    obtain hs:=Option.some.inj h; subst hs
                    refine T_ret fun a w hm=>T_return (fr':=[(4,dI (0:Int)),(1000000,.glo 0 (glob_internal_strconv_uint64pow10.flatMap (cI .u64)))]) [4] (by kernel_rfl) [.keep [4,1000000]] (by kernel_rfl) (by kernel_rfl) (by kernel_rfl) (by show _=_; kernel_rfl) (by exact ⟨⟨by kernel_rfl,by kernel_rfl⟩,trivial⟩) a w hm
theorem internal_strconv_FormatBool_ok {F:Nat} {a0:Bool} {r:(List UInt8)} (h:internal_strconv_FormatBool F a0=some r):ACall Tryd.prog 69 [.d (.v (.bool a0))] [] (.d (.str r)) []:=by
  rw [internal_strconv_FormatBool] at h
  refine ACall.intro (N:=4) Tryd.func69 rfl rfl rfl rfl rfl fun e=>?_
  refine T_reg [] [0] [] [] 1 (by kernel_rfl) (trivial) ?_
  refine T_seqk ?_
  refine T_reg [] [3] [(3,dB a0)] [] 1 (by kernel_rfl) (trivial) ?_
  refine T_cond a0 (by kernel_rfl) (fun hc=>?_) (fun hc=>?_)
  · have h:=cond_tt hc h
    refine T_reg [] [2] [(2,.d (.str ([116,114,117,101]:List UInt8)))] [] 1 (by kernel_rfl) (trivial) ?_
    obtain hs:=Option.some.inj h; subst hs
    refine T_ret fun a w hm=>then_ret (T_return (fr':=[(2,.d (.str ([116,114,117,101]:List UInt8)))]) [2] (by kernel_rfl) [.keep [2]] (by kernel_rfl) (by kernel_rfl) (by kernel_rfl) (by show _=_; kernel_rfl) (by exact trivial) a w hm)
  · have h:=cond_ff hc h
    refine T_skip fun a w hm=>then_norm (((?_:T Tryd.prog e 4 _ _ _) a w hm))
    refine T_reg [] [2] [(2,.d (.str ([102,97,108,115,101]:List UInt8)))] [] 1 (by kernel_rfl) (trivial) ?_
    obtain hs:=Option.some.inj h; subst hs
    refine T_ret fun a w hm=>T_return (fr':=[(2,.d (.str ([102,97,108,115,101]:List UInt8)))]) [2] (by kernel_rfl) [.keep [2]] (by kernel_rfl) (by kernel_rfl) (by kernel_rfl) (by show _=_; kernel_rfl) (by exact trivial) a w hm
theorem strconv_FormatBool_ok {F:Nat} {a0:Bool} {r:(List UInt8)} (h:strconv_FormatBool F a0=some r):ACall Tryd.prog 56 [.d (.v (.bool a0))] [] (.d (.str r)) []:=by
  rw [strconv_FormatBool] at h
  refine ACall.intro (N:=5) Tryd.func56 rfl rfl rfl rfl rfl fun e=>?_
  refine T_reg [] [0] [] [] 1 (by kernel_rfl) (trivial) ?_
  obtain ⟨y1,hy1,h⟩:=call_ok h
  refine T_reg [(1,{ res:=.d (.str y1) })] [2] [(2,.d (.str y1))] [(1,ACall Tryd.prog 69 [dB a0] [] (.d (.str y1)) [])] 1 (by kernel_rfl) (internal_strconv_FormatBool_ok hy1) ?_
  obtain hs:=Option.some.inj h; subst hs
  refine T_ret fun a w hm=>T_return (fr':=[(2,.d (.str y1))]) [2] (by kernel_rfl) [.keep [2]] (by kernel_rfl) (by kernel_rfl) (by kernel_rfl) (by show _=_; kernel_rfl) (by exact trivial) a w hm
theorem object_printer_nested_ok {F:Nat} {rec_object_printer_add:S_Object→Int→(List S_Token)→Int→Option (Int×(List S_Token)×Int)} (hrec_object_printer_add:∀ {a0:S_Object},∀ {a1:Int},∀ {c2:List S_Token},∀ {c3:Int},∀ {r:Int×(List S_Token)×Int},rec_object_printer_add a0 a1 c2 c3=some r→ACall Tryd.prog 47 [.bp 1000000 0,.agg (cS_Object a0),.d (.v (.int .i64 a1))] [.box [.own 59 5 (c2.map cS_Token),.d (.v (.int .i64 c3))],.glo 0 (glob_internal_strconv_uint64pow10.flatMap (cI .u64))] (.d (.v (.int .i64 r.1))) [.box [.own 59 5 (r.2.1.map cS_Token),.d (.v (.int .i64 r.2.2))],.glo 0 (glob_internal_strconv_uint64pow10.flatMap (cI .u64))]) {a0:S_Object} {a1:Int} {c2:List S_Token} {c3:Int} {r:Int×(List S_Token)×Int} (h:object_printer_nested F rec_object_printer_add a0 a1 c2 c3=some r):ACall Tryd.prog 57 [.bp 1000000 0,.agg (cS_Object a0),.d (.v (.int .i64 a1))] [.box [.own 59 5 (c2.map cS_Token),.d (.v (.int .i64 c3))],.glo 0 (glob_internal_strconv_uint64pow10.flatMap (cI .u64))] (.d (.v (.int .i64 r.1))) [.box [.own 59 5 (r.2.1.map cS_Token),.d (.v (.int .i64 r.2.2))],.glo 0 (glob_internal_strconv_uint64pow10.flatMap (cI .u64))]:=by
  rw [object_printer_nested] at h
  refine ACall.intro (N:=72) Tryd.func57 rfl rfl rfl rfl rfl fun e=>?_
  refine T_reg [] [0,2,4,1000000,1000001] [(4,bx_Object a0)] [] 2 (by kernel_rfl) (trivial) ?_
  refine T_reg [] [0,2,4,7,8,1000000,1000001] [(7,dI (6:Int)),(8,dI (7:Int))] [] 2 (by kernel_rfl) (trivial) ?_
  refine T_joinc h (fun (p:Int×Int)=>[(0,.bp 1000000 0),(2,dI a1),(4,bx_Object a0),(7,dI p.1),(8,dI p.2),(1000000,.box [oW4 c2,dI c3]),(1000001,.glo 0 (glob_internal_strconv_uint64pow10.flatMap (cI .u64)))]) (fun s h=>?_) (fun s h=>?_)
  · refine T_reg [] [0,2,4,7,8,14,1000000,1000001] [(14,dB (a0.f0 == (7:Int)))] [] 3 (by kernel_rfl) (trivial) ?_
    refine T_cond (a0.f0 == (7:Int)) (by kernel_rfl) (fun hc=>?_) (fun hc=>?_)
    · have h:=cond_tt hc h
      obtain hs:=Option.some.inj h; subst hs
      refine T_reg_end [] [0,2,4,7,8,1000000,1000001] [(7,dI (8:Int)),(8,dI (9:Int))] [] 2 (by kernel_rfl) (trivial) fun a w hm=>then_norm (hm.co (cs:=[.keep [0,2,4,7,8,1000000,1000001]]) (by show _=_; kernel_rfl))
    · have h:=cond_ff hc h
      obtain hs:=Option.some.inj h; subst hs
      refine T_skip fun a w hm=>then_norm (hm.co (cs:=[.keep [0,2,4,7,8,1000000,1000001]]) (by show _=_; kernel_rfl))
  · obtain ⟨v5,v6⟩:=s
    try dsimp only at h
    obtain ⟨hp1,h⟩:=chk_ok h
    refine T_reg [(7,{ es:=some (([(S_Token.mk v5 0 [] 0 0)]).map cS_Token) }),(8,{ es:=some ((c2++([(S_Token.mk v5 0 [] 0 0)])).map cS_Token) })] [0,2,4,8,1000000,1000001] [(1000000,.box [.own 59 5 ((c2++([(S_Token.mk v5 0 [] 0 0)])).map cS_Token),dI c3])] [(7,(([(S_Token.mk v5 0 [] 0 0)]).map cS_Token)=(([(S_Token.mk v5 0 [] 0 0)]).map cS_Token)),(0,(c2.map cS_Token).length+(([(S_Token.mk v5 0 [] 0 0)]).map cS_Token).length≤4294967296∧(c2.map cS_Token)++(([(S_Token.mk v5 0 [] 0 0)]).map cS_Token)=((c2++([(S_Token.mk v5 0 [] 0 0)])).map cS_Token))] 3 (by kernel_rfl) (⟨rfl,app_ok cS_Token hp1⟩) ?_
    refine T_seqk ?_
    refine T_reg [(2,{ rw:=some (dI (a0.f4.length:Int)) })] [0,2,4,8,27,28,29,1000000,1000001] [(27,.d (.sl 5 (a0.f4.map rS_Object))),(28,dI (a0.f4.length:Int)),(29,dI (0:Int))] [(2,True∧dI ((a0.f4.map rS_Object).length:Int)=dI (a0.f4.length:Int))] 1 (by kernel_rfl) (len_ok rS_Object) ?_
    refine T_joinEt h (fun (p:(List S_Token)×Int)=>[(0,.bp 1000000 0),(8,dI v6),(1000000,.box [oW4 p.1,dI p.2]),(1000001,.glo 0 (glob_internal_strconv_uint64pow10.flatMap (cI .u64)))]) (fun s h hk1=>?_) (fun s h=>?_)
    · refine T_co [.keep [0,2,4,8,27,28,29,1000000,1000001]] ((fun (p:Int×(List S_Token)×Int)=>[(0,.bp 1000000 0),(2,dI a1),(4,bx_Object a0),(8,dI v6),(27,.d (.sl 5 (a0.f4.map rS_Object))),(28,dI (a0.f4.length:Int)),(29,dI p.1),(1000000,.box [oW4 p.2.1,dI p.2.2]),(1000001,.glo 0 (glob_internal_strconv_uint64pow10.flatMap (cI .u64)))]) ((0:Int),(c2++([(S_Token.mk v5 0 [] 0 0)])),c3)) (by show _=_; kernel_rfl) ?_
      refine T_block ?_
      refine T_loopF (ι:=Int×(List S_Token)×Int) (fun (p:Int×(List S_Token)×Int)=>[(0,.bp 1000000 0),(2,dI a1),(4,bx_Object a0),(8,dI v6),(27,.d (.sl 5 (a0.f4.map rS_Object))),(28,dI (a0.f4.length:Int)),(29,dI p.1),(1000000,.box [oW4 p.2.1,dI p.2.2]),(1000001,.glo 0 (glob_internal_strconv_uint64pow10.flatMap (cI .u64)))]) (fun n p=>object_printer_nested_L0 F a0 a1 rec_object_printer_add n p.1 p.2.1 p.2.2=some s) (fun i hh=>by simp [object_printer_nested_L0] at hh) (fun n p h=>?_) F ((0:Int),(c2++([(S_Token.mk v5 0 [] 0 0)])),c3) h
      obtain ⟨v1,v2,v3⟩:=p
      have h:object_printer_nested_L0 F a0 a1 rec_object_printer_add (n+1) v1 v2 v3=some s:=h
      rw [object_printer_nested_L0] at h
      refine T_reg [] [0,2,4,8,27,28,29,30,1000000,1000001] [(30,dB (decide (v1 < (a0.f4.length:Int))))] [] 1 (by kernel_rfl) (trivial) ?_
      refine T_seqk ?_
      refine T_cond (decide (v1 < (a0.f4.length:Int))) (by kernel_rfl) (fun hc=>?_) (fun hc=>?_)
      · have h:=cond_tt hc h
        refine T_skip fun a w hm=>then_norm (((?_:T Tryd.prog e 72 _ _ _) a w hm))
        refine T_seqk ?_
        refine T_block ?_
        obtain ⟨hp2,h⟩:=chk_ok h
        refine T_reg [(1,{ cs:=cS_Object (a0.f4.getD v1.toNat z_Object) })] [0,2,4,8,9,10,27,28,29,1000000,1000001] [(9,dI v1),(10,.box [dI ((a0.f4.getD v1.toNat z_Object).f0),dI ((a0.f4.getD v1.toNat z_Object).f1),.d (.str ((a0.f4.getD v1.toNat z_Object).f2)),.d (.sl 1 (((a0.f4.getD v1.toNat z_Object).f3).map cS)),.d (.sl 5 (((a0.f4.getD v1.toNat z_Object).f4).map rS_Object))])] [(1,0≤v1∧(a0.f4.map rS_Object)[v1.toNat]? = some (cS_Object (a0.f4.getD v1.toNat z_Object)))] 4 (by kernel_rfl) (idx_okR (d:=z_Object) rS_Object_eq hp2) ?_
        refine T_joinc h (fun (p:(List S_Token))=>[(0,.bp 1000000 0),(2,dI a1),(4,bx_Object a0),(8,dI v6),(10,.box [dI ((a0.f4.getD v1.toNat z_Object).f0),dI ((a0.f4.getD v1.toNat z_Object).f1),.d (.str ((a0.f4.getD v1.toNat z_Object).f2)),.d (.sl 1 (((a0.f4.getD v1.toNat z_Object).f3).map cS)),.d (.sl 5 (((a0.f4.getD v1.toNat z_Object).f4).map rS_Object))]),(27,.d (.sl 5 (a0.f4.map rS_Object))),(28,dI (a0.f4.length:Int)),(29,dI v1),(1000000,.box [oW4 p,dI v3]),(1000001,.glo 0 (glob_internal_strconv_uint64pow10.flatMap (cI .u64)))]) (fun s h=>?_) (fun v4 h=>?_)
        · refine T_reg [] [0,2,4,8,9,10,27,28,29,36,1000000,1000001] [(36,dB (a0.f0 == (7:Int)))] [] 3 (by kernel_rfl) (trivial) ?_
          refine T_cond (a0.f0 == (7:Int)) (by kernel_rfl) (fun hc=>?_) (fun hc=>?_)
          · have h:=cond_tt hc h
            obtain ⟨hp3,h⟩:=chk_ok h
            obtain ⟨hp4,h⟩:=chk_ok h
            obtain hs:=Option.some.inj h; subst hs
            refine T_drawX_end mixed 6 (.take 0 (.take 1 (.take 2 (.take 3 (.take 5 (.take 7 (.all (.alt 4 (.all (.alt 6 (.all (.alt 8 (.all (.alt 9 (.all (.alt 10 (.all (.alt 11 (.all (.alt 12 (.take 13 (.take 14 (.all (.alt 15 .done .stop)))) .stop)) .stop)) .stop)) .stop)) .stop)) .stop)) (.alt 6 (.all (.alt 4 (.all (.alt 8 (.all (.alt 9 (.all (.alt 10 (.all (.alt 11 (.all (.alt 12 (.take 13 (.take 14 (.all (.alt 15 .done .stop)))) .stop)) .stop)) .stop)) .stop)) .stop)) (.alt 8 (.all (.alt 4 (.all (.alt 9 (.all (.alt 10 (.all (.alt 11 (.all (.alt 12 (.take 13 (.take 14 (.all (.alt 15 .done .stop)))) .stop)) .stop)) .stop)) .stop)) (.alt 9 (.all (.alt 4 (.all (.alt 10 (.all (.alt 11 (.all (.alt 12 (.take 13 (.take 14 (.all (.alt 15 .done .stop)))) .stop)) .stop)) .stop)) (.alt 10 (.all (.alt 4 (.all (.alt 11 (.all (.alt 12 (.take 13 (.take 14 (.all (.alt 15 .done .stop)))) .stop)) .stop)) (.alt 11 (.all (.alt 4 (.all (.alt 12 (.take 13 (.take 14 (.all (.alt 15 .done .stop)))) .stop)) .stop)) .stop))) .stop))) .stop))) .stop))) .stop))))))))) ([0,0,2,4,8,0,32,0,192,256,512,1024,2064,8191,16383,24575],[0,0,2,4,8,0,32,0,192,256,512,1024,2064,1,8192,20480]) 24751 [(8,{ cs:=cS (a0.f3.getD v1.toNat []) }),(11,{ es:=some (([(S_Token.mk (2:Int) 0 (a0.f3.getD v1.toNat []) 0 0)]).map cS_Token) }),(12,{ es:=some ((v2++([(S_Token.mk (2:Int) 0 (a0.f3.getD v1.toNat []) 0 0)])).map cS_Token) })] [0,2,4,8,10,27,28,29,1000000,1000001] [] [(0,.bp 1000000 0),(2,dI a1),(4,bx_Object a0),(8,dI v6),(10,.box [dI ((a0.f4.getD v1.toNat z_Object).f0),dI ((a0.f4.getD v1.toNat z_Object).f1),.d (.str ((a0.f4.getD v1.toNat z_Object).f2)),.d (.sl 1 (((a0.f4.getD v1.toNat z_Object).f3).map cS)),.d (.sl 5 (((a0.f4.getD v1.toNat z_Object).f4).map rS_Object))]),(27,.d (.sl 5 (a0.f4.map rS_Object))),(28,dI (a0.f4.length:Int)),(29,dI v1),(1000000,.box [.own 59 5 ((v2++([(S_Token.mk (2:Int) 0 (a0.f3.getD v1.toNat []) 0 0)])).map cS_Token),dI v3]),(1000001,.glo 0 (glob_internal_strconv_uint64pow10.flatMap (cI .u64)))] ((fun (o8:Prop)=>fun (o11:Prop)=>fun (o12:Prop)=>[(8,o8),(2,o11),(0,o12),(5,o8),(2,o11),(0,o12),(3,o8),(3,o11),(0,o12),(6,o11),(0,o12),(5,o11),(0,o12),(3,o11),(1,o12)]) (0≤v1∧(a0.f3.map cS)[v1.toNat]? = some (cS (a0.f3.getD v1.toNat []))) ((([(S_Token.mk (2:Int) 0 (a0.f3.getD v1.toNat []) 0 0)]).map cS_Token)=(([(S_Token.mk (2:Int) 0 (a0.f3.getD v1.toNat []) 0 0)]).map cS_Token)) ((v2.map cS_Token).length+(([(S_Token.mk (2:Int) 0 (a0.f3.getD v1.toNat []) 0 0)]).map cS_Token).length≤4294967296∧(v2.map cS_Token)++(([(S_Token.mk (2:Int) 0 (a0.f3.getD v1.toNat []) 0 0)]).map cS_Token)=((v2++([(S_Token.mk (2:Int) 0 (a0.f3.getD v1.toNat []) 0 0)])).map cS_Token))) 3 (by kernel_rfl) (by kernel_rfl) (by kernel_rfl) (have p8:=idx_ok (d:=[]) cS hp3; have p11:=rfl; have p12:=app_ok cS_Token hp4; ⟨p8,p11,p12,p8,p11,p12,p8,p11,p12,p11,p12,p11,p12,p11,p12⟩) fun a w hm=>then_norm (hm.co (cs:=[.keep [0,2,4,8,10,27,28,29,1000000,1000001]]) (by show _=_; kernel_rfl))
          · have h:=cond_ff hc h
            obtain hs:=Option.some.inj h; subst hs
            refine T_skip fun a w hm=>then_norm (hm.co (cs:=[.keep [0,2,4,8,10,27,28,29,1000000,1000001]]) (by show _=_; kernel_rfl))
        · skip
          obtain ⟨y1,hy1,h⟩:=call_ok h
          refine T_reg [(4,{ res:=dI y1.1,vout:=[.box [oW4 y1.2.1,dI y1.2.2],.glo 0 (glob_internal_strconv_uint64pow10.flatMap (cI .u64))],xs:=[1000000,1000001] })] [0,2,4,8,11,27,28,29,1000000,1000001] [(11,dI y1.1),(1000000,.box [oW4 y1.2.1,dI y1.2.2])] [(4,ACall Tryd.prog 47 [.bp 1000000 0,.agg (cS_Object (a0.f4.getD v1.toNat z_Object)),dI (IntKind.i64.wrap (a1+(1:Int)))] [.box [oW4 v4,dI v3],.glo 0 (glob_internal_strconv_uint64pow10.flatMap (cI .u64))] (dI y1.1) [.box [oW4 y1.2.1,dI y1.2.2],.glo 0 (glob_internal_strconv_uint64pow10.flatMap (cI .u64))])] 1 (by kernel_rfl) (hrec_object_printer_add hy1) ?_
          refine T_reg [] [0,2,4,8,11,27,28,29,58,1000000,1000001] [(58,dB (y1.1 != (0:Int)))] [] 2 (by kernel_rfl) (trivial) ?_
          refine T_cond (y1.1 != (0:Int)) (by kernel_rfl) (fun hc=>?_) (fun hc=>?_)
          · have h:=cond_tt hc h
            refine T_reg [] [6,1000000,1000001] [(6,dI y1.1)] [] 2 (by kernel_rfl) (trivial) ?_
            obtain hs:=Option.some.inj h; subst hs
            have h:=callE_esc hk1
            obtain hs:=Option.some.inj h; subst hs
            refine T_ret fun a w hm=>inBlock_ret (then_ret (then_ret (inBlock_ret (then_ret (then_ret (T_return (fr':=[(6,dI y1.1),(1000000,.box [oW4 y1.2.1,dI y1.2.2]),(1000001,.glo 0 (glob_internal_strconv_uint64pow10.flatMap (cI .u64)))]) [6] (by kernel_rfl) [.keep [6,1000000,1000001]] (by kernel_rfl) (by kernel_rfl) (by kernel_rfl) (by show _=_; kernel_rfl) (by exact ⟨⟨by kernel_rfl,by kernel_rfl⟩,⟨⟨by kernel_rfl,by kernel_rfl⟩,trivial⟩⟩) a w hm))))))
          · have h:=cond_ff hc h
            refine T_skip fun a w hm=>inBlock_norm (then_norm (((?_:T Tryd.prog e 72 _ _ _) a w hm)))
            refine T_reg_end [] [0,2,4,8,27,28,29,1000000,1000001] [(29,dI (IntKind.i64.wrap (v1+(1:Int))))] [] 2 (by kernel_rfl) (trivial) fun a w hm=>then_norm (⟨(IntKind.i64.wrap (v1+(1:Int)),y1.2.1,y1.2.2),h,hm.co (cs:=[.keep [0,2,4,8,27,28,29,1000000,1000001]]) (by show _=_; kernel_rfl)⟩)
      · have h:=cond_ff hc h
        obtain hs:=Option.some.inj h; subst hs
        refine T_exit fun a w hm=>then_exit (then_exit (inBlock_exit (then_norm (⟨_,rfl,hm.co (cs:=[.keep [0,8,1000000,1000001]]) (by show _=_; kernel_rfl)⟩))))
    · obtain ⟨v7,v8⟩:=s
      try dsimp only at h
      refine fun a w hm=>then_norm (((?_:T Tryd.prog e 72 _ _ _) a w hm))
      obtain ⟨hp5,h⟩:=chk_ok h
      refine T_reg [(7,{ es:=some (([(S_Token.mk v6 0 [] 0 0)]).map cS_Token) }),(8,{ es:=some ((v7++([(S_Token.mk v6 0 [] 0 0)])).map cS_Token) })] [1000000,1000001] [(1000000,.box [.own 59 5 ((v7++([(S_Token.mk v6 0 [] 0 0)])).map cS_Token),dI v8])] [(7,(([(S_Token.mk v6 0 [] 0 0)]).map cS_Token)=(([(S_Token.mk v6 0 [] 0 0)]).map cS_Token)),(0,(v7.map cS_Token).length+(([(S_Token.mk v6 0 [] 0 0)]).map cS_Token).length≤4294967296∧(v7.map cS_Token)++(([(S_Token.mk v6 0 [] 0 0)]).map cS_Token)=((v7++([(S_Token.mk v6 0 [] 0 0)])).map cS_Token))] 3 (by kernel_rfl) (⟨rfl,app_ok cS_Token hp5⟩) ?_
      refine T_reg [] [6,1000000,1000001] [(6,dI (0:Int))] [] 1 (by kernel_rfl) (trivial) ?_
      obtain hs:=Option.some.inj h; subst hs
      refine T_ret fun a w hm=>T_return (fr':=[(6,dI (0:Int)),(1000000,.box [.own 59 5 ((v7++([(S_Token.mk v6 0 [] 0 0)])).map cS_Token),dI v8]),(1000001,.glo 0 (glob_internal_strconv_uint64pow10.flatMap (cI .u64)))]) [6] (by kernel_rfl) [.keep [6,1000000,1000001]] (by kernel_rfl) (by kernel_rfl) (by kernel_rfl) (by show _=_; kernel_rfl) (by exact ⟨⟨by kernel_rfl,by kernel_rfl⟩,⟨⟨by kernel_rfl,by kernel_rfl⟩,trivial⟩⟩) a w hm
theorem object_printer_add_body_ok {F:Nat} {rec_object_printer_add:S_Object→Int→(List S_Token)→Int→Option (Int×(List S_Token)×Int)} (hrec_object_printer_add:∀ {a0:S_Object},∀ {a1:Int},∀ {c2:List S_Token},∀ {c3:Int},∀ {r:Int×(List S_Token)×Int},rec_object_printer_add a0 a1 c2 c3=some r→ACall Tryd.prog 47 [.bp 1000000 0,.agg (cS_Object a0),.d (.v (.int .i64 a1))] [.box [.own 59 5 (c2.map cS_Token),.d (.v (.int .i64 c3))],.glo 0 (glob_internal_strconv_uint64pow10.flatMap (cI .u64))] (.d (.v (.int .i64 r.1))) [.box [.own 59 5 (r.2.1.map cS_Token),.d (.v (.int .i64 r.2.2))],.glo 0 (glob_internal_strconv_uint64pow10.flatMap (cI .u64))]) {a0:S_Object} {a1:Int} {c2:List S_Token} {c3:Int} {r:Int×(List S_Token)×Int} (h:object_printer_add_body F rec_object_printer_add a0 a1 c2 c3=some r):ACall Tryd.prog 47 [.bp 1000000 0,.agg (cS_Object a0),.d (.v (.int .i64 a1))] [.box [.own 59 5 (c2.map cS_Token),.d (.v (.int .i64 c3))],.glo 0 (glob_internal_strconv_uint64pow10.flatMap (cI .u64))] (.d (.v (.int .i64 r.1))) [.box [.own 59 5 (r.2.1.map cS_Token),.d (.v (.int .i64 r.2.2))],.glo 0 (glob_internal_strconv_uint64pow10.flatMap (cI .u64))]:=by
  rw [object_printer_add_body] at h
  refine ACall.intro (N:=81) Tryd.func47 rfl rfl rfl rfl rfl fun e=>?_
  refine T_reg [] [0,2,4,1000000,1000001] [(4,bx_Object a0)] [] 2 (by kernel_rfl) (trivial) ?_
  refine T_seqk ?_
  refine T_reg [] [0,2,4,1000000,1000001] [(1000000,.box [oW4 c2,dI (IntKind.i64.wrap (c3+(1:Int)))])] [] 8 (by kernel_rfl) (trivial) ?_
  refine T_reg [] [0,2,4,22,1000000,1000001] [(22,dB (decide ((IntKind.i64.wrap (c3+(1:Int))) > (4096:Int))))] [] 5 (by kernel_rfl) (trivial) ?_
  refine T_cond (decide ((IntKind.i64.wrap (c3+(1:Int))) > (4096:Int))) (by kernel_rfl) (fun hc=>?_) (fun hc=>?_)
  · have h:=cond_tt hc h
    refine T_reg [] [6,1000000,1000001] [(6,dI (2:Int))] [] 1 (by kernel_rfl) (trivial) ?_
    obtain hs:=Option.some.inj h; subst hs
    refine T_ret fun a w hm=>then_ret (T_return (fr':=[(6,dI (2:Int)),(1000000,.box [oW4 c2,dI (IntKind.i64.wrap (c3+(1:Int)))]),(1000001,.glo 0 (glob_internal_strconv_uint64pow10.flatMap (cI .u64)))]) [6] (by kernel_rfl) [.keep [6,1000000,1000001]] (by kernel_rfl) (by kernel_rfl) (by kernel_rfl) (by show _=_; kernel_rfl) (by exact ⟨⟨by kernel_rfl,by kernel_rfl⟩,⟨⟨by kernel_rfl,by kernel_rfl⟩,trivial⟩⟩) a w hm)
  · have h:=cond_ff hc h
    refine T_skip fun a w hm=>then_norm (((?_:T Tryd.prog e 81 _ _ _) a w hm))
    refine T_seqk ?_
    obtain ⟨y1,hy1,h⟩:=call_ok h
    refine T_reg [(2,{ res:=dI y1,vout:=[.glo 0 (glob_internal_strconv_uint64pow10.flatMap (cI .u64))],xs:=[1000001] })] [0,2,4,7,1000000,1000001] [(7,dI y1)] [(2,ACall Tryd.prog 55 [.agg (cS_Object a0),dI a1] [.glo 0 (glob_internal_strconv_uint64pow10.flatMap (cI .u64))] (dI y1) [.glo 0 (glob_internal_strconv_uint64pow10.flatMap (cI .u64))])] 1 (by kernel_rfl) (object_node_ok hy1) ?_
    refine T_reg [] [0,2,4,7,27,1000000,1000001] [(27,dB (y1 != (0:Int)))] [] 2 (by kernel_rfl) (trivial) ?_
    refine T_cond (y1 != (0:Int)) (by kernel_rfl) (fun hc=>?_) (fun hc=>?_)
    · have h:=cond_tt hc h
      refine T_reg [] [6,1000000,1000001] [(6,dI y1)] [] 2 (by kernel_rfl) (trivial) ?_
      obtain hs:=Option.some.inj h; subst hs
      refine T_ret fun a w hm=>then_ret (T_return (fr':=[(6,dI y1),(1000000,.box [oW4 c2,dI (IntKind.i64.wrap (c3+(1:Int)))]),(1000001,.glo 0 (glob_internal_strconv_uint64pow10.flatMap (cI .u64)))]) [6] (by kernel_rfl) [.keep [6,1000000,1000001]] (by kernel_rfl) (by kernel_rfl) (by kernel_rfl) (by show _=_; kernel_rfl) (by exact ⟨⟨by kernel_rfl,by kernel_rfl⟩,⟨⟨by kernel_rfl,by kernel_rfl⟩,trivial⟩⟩) a w hm)
    · have h:=cond_ff hc h
      refine T_skip fun a w hm=>then_norm (((?_:T Tryd.prog e 81 _ _ _) a w hm))
      refine T_reg [] [0,2,4,8,1000000,1000001] [(8,.box [dI 0,dI 0,.d (.str []),dI 0,dI 0])] [] 1 (by kernel_rfl) (trivial) ?_
      refine T_joinE h (fun (p:(List UInt8)×Int×Int)=>[(0,.bp 1000000 0),(8,.box [dI p.2.1,dI p.2.2,.d (.str p.1),dI 0,dI 0]),(1000000,.box [oW4 c2,dI (IntKind.i64.wrap (c3+(1:Int)))]),(1000001,.glo 0 (glob_internal_strconv_uint64pow10.flatMap (cI .u64)))]) (fun s h hk1=>?_) (fun s h=>?_)
      · refine T_reg [] [0,2,4,8,30,1000000,1000001] [(30,dI a0.f0)] [] 2 (by kernel_rfl) (trivial) ?_
        refine T_block ?_
        refine T_reg [] [0,2,4,8,30,35,1000000,1000001] [(35,dB (a0.f0 == (0:Int)))] [] 2 (by kernel_rfl) (trivial) ?_
        refine T_cond (a0.f0 == (0:Int)) (by kernel_rfl) (fun hc=>?_) (fun hc=>?_)
        · have h:=cond_tt hc h
          obtain hs:=Option.some.inj h; subst hs
          refine T_reg_end [] [0,8,1000000,1000001] [(8,.box [dI (5:Int),dI 0,.d (.str ([110,117,108,108]:List UInt8)),dI 0,dI 0])] [] 2 (by kernel_rfl) (trivial) fun a w hm=>inBlock_norm (then_norm (⟨_,rfl,hm.co (cs:=[.keep [0,8,1000000,1000001]]) (by show _=_; kernel_rfl)⟩))
        · have h:=cond_ff hc h
          refine T_reg [] [0,2,4,8,30,38,1000000,1000001] [(38,dB (a0.f0 == (1:Int)))] [] 2 (by kernel_rfl) (trivial) ?_
          refine T_cond (a0.f0 == (1:Int)) (by kernel_rfl) (fun hc=>?_) (fun hc=>?_)
          · have h:=cond_tt hc h
            obtain ⟨y2,hy2,h⟩:=call_ok h
            obtain hs:=Option.some.inj h; subst hs
            refine T_reg_end [(3,{ res:=.d (.str y2) })] [0,8,1000000,1000001] [(8,.box [dI (5:Int),dI 0,.d (.str y2),dI 0,dI 0])] [(3,ACall Tryd.prog 56 [dB (a0.f1 == (1:Int))] [] (.d (.str y2)) [])] 2 (by kernel_rfl) (strconv_FormatBool_ok hy2) fun a w hm=>inBlock_norm (then_norm (⟨_,rfl,hm.co (cs:=[.keep [0,8,1000000,1000001]]) (by show _=_; kernel_rfl)⟩))
          · have h:=cond_ff hc h
            refine T_reg [] [0,2,4,8,30,45,1000000,1000001] [(45,dB (a0.f0 == (2:Int)))] [] 2 (by kernel_rfl) (trivial) ?_
            refine T_cond (a0.f0 == (2:Int)) (by kernel_rfl) (fun hc=>?_) (fun hc=>?_)
            · have h:=cond_tt hc h
              obtain hs:=Option.some.inj h; subst hs
              refine T_reg_end [] [0,8,1000000,1000001] [(8,.box [dI (1:Int),dI a0.f1,.d (.str []),dI 0,dI 0])] [] 4 (by kernel_rfl) (trivial) fun a w hm=>inBlock_norm (then_norm (⟨_,rfl,hm.co (cs:=[.keep [0,8,1000000,1000001]]) (by show _=_; kernel_rfl)⟩))
            · have h:=cond_ff hc h
              refine T_reg [] [0,2,4,8,30,50,1000000,1000001] [(50,dB (a0.f0 == (3:Int)))] [] 2 (by kernel_rfl) (trivial) ?_
              refine T_cond (a0.f0 == (3:Int)) (by kernel_rfl) (fun hc=>?_) (fun hc=>?_)
              · have h:=cond_tt hc h
                obtain hs:=Option.some.inj h; subst hs
                refine T_reg_end [] [0,8,1000000,1000001] [(8,.box [dI (2:Int),dI 0,.d (.str a0.f2),dI 0,dI 0])] [] 4 (by kernel_rfl) (trivial) fun a w hm=>inBlock_norm (then_norm (⟨_,rfl,hm.co (cs:=[.keep [0,8,1000000,1000001]]) (by show _=_; kernel_rfl)⟩))
              · have h:=cond_ff hc h
                refine T_reg [] [0,2,4,8,30,55,1000000,1000001] [(55,dB (a0.f0 == (4:Int)))] [] 2 (by kernel_rfl) (trivial) ?_
                refine T_cond (a0.f0 == (4:Int)) (by kernel_rfl) (fun hc=>?_) (fun hc=>?_)
                · have h:=cond_tt hc h
                  obtain hs:=Option.some.inj h; subst hs
                  refine T_reg_end [] [0,8,1000000,1000001] [(8,.box [dI (3:Int),dI 0,.d (.str a0.f2),dI 0,dI 0])] [] 4 (by kernel_rfl) (trivial) fun a w hm=>inBlock_norm (then_norm (⟨_,rfl,hm.co (cs:=[.keep [0,8,1000000,1000001]]) (by show _=_; kernel_rfl)⟩))
                · have h:=cond_ff hc h
                  refine T_reg [] [0,2,4,8,60,1000000,1000001] [(60,dB (a0.f0 == (5:Int)))] [] 2 (by kernel_rfl) (trivial) ?_
                  refine T_cond (a0.f0 == (5:Int)) (by kernel_rfl) (fun hc=>?_) (fun hc=>?_)
                  · have h:=cond_tt hc h
                    obtain hs:=Option.some.inj h; subst hs
                    refine T_reg_end [] [0,8,1000000,1000001] [(8,.box [dI (4:Int),dI a0.f1,.d (.str []),dI 0,dI 0])] [] 4 (by kernel_rfl) (trivial) fun a w hm=>inBlock_norm (then_norm (⟨_,rfl,hm.co (cs:=[.keep [0,8,1000000,1000001]]) (by show _=_; kernel_rfl)⟩))
                  · have h:=cond_ff hc h
                    obtain ⟨y3,hy3,h⟩:=call_ok h
                    refine T_reg [(3,{ res:=dI y3.1,vout:=[.box [oW4 y3.2.1,dI y3.2.2],.glo 0 (glob_internal_strconv_uint64pow10.flatMap (cI .u64))],xs:=[1000000,1000001] })] [6,1000000,1000001] [(6,dI y3.1),(1000000,.box [oW4 y3.2.1,dI y3.2.2])] [(3,ACall Tryd.prog 57 [.bp 1000000 0,.agg (cS_Object a0),dI a1] [.box [oW4 c2,dI (IntKind.i64.wrap (c3+(1:Int)))],.glo 0 (glob_internal_strconv_uint64pow10.flatMap (cI .u64))] (dI y3.1) [.box [oW4 y3.2.1,dI y3.2.2],.glo 0 (glob_internal_strconv_uint64pow10.flatMap (cI .u64))])] 1 (by kernel_rfl) (object_printer_nested_ok hrec_object_printer_add hy3) ?_
                    obtain hs:=Option.some.inj h; subst hs
                    have h:=callE_esc hk1
                    obtain hs:=Option.some.inj h; subst hs
                    refine T_ret fun a w hm=>inBlock_ret (then_ret (T_return (fr':=[(6,dI y3.1),(1000000,.box [oW4 y3.2.1,dI y3.2.2]),(1000001,.glo 0 (glob_internal_strconv_uint64pow10.flatMap (cI .u64)))]) [6] (by kernel_rfl) [.keep [6,1000000,1000001]] (by kernel_rfl) (by kernel_rfl) (by kernel_rfl) (by show _=_; kernel_rfl) (by exact ⟨⟨by kernel_rfl,by kernel_rfl⟩,⟨⟨by kernel_rfl,by kernel_rfl⟩,trivial⟩⟩) a w hm))
      · obtain ⟨v1,v2,v3⟩:=s
        try dsimp only at h
        obtain ⟨hp1,h⟩:=chk_ok h
        refine T_drawX mixed 3 (.take 0 (.take 1 (.take 2 (.take 3 (.all (.alt 4 (.all (.alt 5 (.all (.alt 6 (.all (.alt 7 (.take 8 (.take 9 (.all (.alt 10 .done .stop)))) .stop)) .stop)) .stop)) (.alt 5 (.all (.alt 4 (.all (.alt 6 (.all (.alt 7 (.take 8 (.take 9 (.all (.alt 10 .done .stop)))) .stop)) .stop)) (.alt 6 (.all (.alt 4 (.all (.alt 7 (.take 8 (.take 9 (.all (.alt 10 .done .stop)))) .stop)) .stop)) .stop))) .stop))))))) ([0,0,2,4,8,0,32,80,255,511,767],[0,0,2,4,8,0,32,80,1,256,640]) 783 [(6,{ es:=some (([(S_Token.mk v2 v3 v1 0 0)]).map cS_Token) }),(7,{ es:=some ((c2++([(S_Token.mk v2 v3 v1 0 0)])).map cS_Token) })] [8,1000000,1000001] [] [(8,.box [dI v2,dI v3,.d (.str v1),dI 0,dI 0]),(1000000,.box [.own 59 5 ((c2++([(S_Token.mk v2 v3 v1 0 0)])).map cS_Token),dI (IntKind.i64.wrap (c3+(1:Int)))]),(1000001,.glo 0 (glob_internal_strconv_uint64pow10.flatMap (cI .u64)))] ((fun (o6:Prop)=>fun (o7:Prop)=>[(6,o6),(0,o7),(5,o6),(0,o7),(3,o6),(1,o7)]) ((([(S_Token.mk v2 v3 v1 0 0)]).map cS_Token)=(([(S_Token.mk v2 v3 v1 0 0)]).map cS_Token)) ((c2.map cS_Token).length+(([(S_Token.mk v2 v3 v1 0 0)]).map cS_Token).length≤4294967296∧(c2.map cS_Token)++(([(S_Token.mk v2 v3 v1 0 0)]).map cS_Token)=((c2++([(S_Token.mk v2 v3 v1 0 0)])).map cS_Token))) 3 (by kernel_rfl) (by kernel_rfl) (by kernel_rfl) (have p6:=rfl; have p7:=app_ok cS_Token hp1; ⟨p6,p7,p6,p7,p6,p7⟩) ?_
        obtain ⟨y4,hy4,h⟩:=call_ok h
        refine T_reg [(1,{ res:=.tup [.d (.str y4.1),dI y4.2],vout:=[.glo 0 (glob_internal_strconv_uint64pow10.flatMap (cI .u64))],xs:=[1000001] })] [10,1000000,1000001] [(10,dI y4.2)] [(1,ACall Tryd.prog 45 [.agg (cS_Token (S_Token.mk v2 v3 v1 0 0))] [.glo 0 (glob_internal_strconv_uint64pow10.flatMap (cI .u64))] (.tup [.d (.str y4.1),dI y4.2]) [.glo 0 (glob_internal_strconv_uint64pow10.flatMap (cI .u64))])] 5 (by kernel_rfl) (token_Print_ok hy4) ?_
        refine T_reg [] [6,1000000,1000001] [(6,dI y4.2)] [] 2 (by kernel_rfl) (trivial) ?_
        obtain hs:=Option.some.inj h; subst hs
        refine T_ret fun a w hm=>T_return (fr':=[(6,dI y4.2),(1000000,.box [.own 59 5 ((c2++([(S_Token.mk v2 v3 v1 0 0)])).map cS_Token),dI (IntKind.i64.wrap (c3+(1:Int)))]),(1000001,.glo 0 (glob_internal_strconv_uint64pow10.flatMap (cI .u64)))]) [6] (by kernel_rfl) [.keep [6,1000000,1000001]] (by kernel_rfl) (by kernel_rfl) (by kernel_rfl) (by show _=_; kernel_rfl) (by exact ⟨⟨by kernel_rfl,by kernel_rfl⟩,⟨⟨by kernel_rfl,by kernel_rfl⟩,trivial⟩⟩) a w hm
theorem object_printer_add_fuel_ok {F:Nat} (n:Nat):∀ {a0:S_Object} {a1:Int} {c2:List S_Token} {c3:Int} {r:Int×(List S_Token)×Int},object_printer_add_fuel F n a0 a1 c2 c3=some r→ACall Tryd.prog 47 [.bp 1000000 0,.agg (cS_Object a0),.d (.v (.int .i64 a1))] [.box [.own 59 5 (c2.map cS_Token),.d (.v (.int .i64 c3))],.glo 0 (glob_internal_strconv_uint64pow10.flatMap (cI .u64))] (.d (.v (.int .i64 r.1))) [.box [.own 59 5 (r.2.1.map cS_Token),.d (.v (.int .i64 r.2.2))],.glo 0 (glob_internal_strconv_uint64pow10.flatMap (cI .u64))]:=by
  induction n with
  | zero=>intro a0 a1 c2 c3 r h; exact absurd (show (none:Option (Int×(List S_Token)×Int))=some r from h) (by simp)
  | succ n ih=>intro a0 a1 c2 c3 r h; exact object_printer_add_body_ok ih h
theorem object_printer_add_ok {F:Nat} {a0:S_Object} {a1:Int} {c2:List S_Token} {c3:Int} {r:Int×(List S_Token)×Int} (h:object_printer_add F a0 a1 c2 c3=some r):ACall Tryd.prog 47 [.bp 1000000 0,.agg (cS_Object a0),.d (.v (.int .i64 a1))] [.box [.own 59 5 (c2.map cS_Token),.d (.v (.int .i64 c3))],.glo 0 (glob_internal_strconv_uint64pow10.flatMap (cI .u64))] (.d (.v (.int .i64 r.1))) [.box [.own 59 5 (r.2.1.map cS_Token),.d (.v (.int .i64 r.2.2))],.glo 0 (glob_internal_strconv_uint64pow10.flatMap (cI .u64))]:=object_printer_add_fuel_ok F h
theorem token_white_ok {F:Nat} {a0:Int} {r:Bool} (h:token_white F a0=some r):ACall Tryd.prog 70 [.d (.v (.int .u8 a0))] [] (.d (.v (.bool r))) []:=by
  rw [token_white] at h
  refine ACall.intro (N:=13) Tryd.func70 rfl rfl rfl rfl rfl fun e=>?_
  refine T_reg [] [0] [] [] 1 (by kernel_rfl) (trivial) ?_
  refine T_reg [] [2] [(2,dB (bif (bif (a0 == (32:Int)) then true else (a0 == (9:Int))) then true else (a0 == (10:Int))))] [(3,((((a0 == (32:Int)) == false) && true)=true→True)),(0,((((a0 == (32:Int)) == false) && true)=true→True)),(2,((((bif (a0 == (32:Int)) then true else (a0 == (9:Int))) == false) && true)=true→True)),(0,((((bif (a0 == (32:Int)) then true else (a0 == (9:Int))) == false) && true)=true→True))] 2 (by kernel_rfl) (⟨(fun hg=>trivial),(fun hg=>trivial),(fun hg=>trivial),(fun hg=>trivial)⟩) ?_
  obtain hs:=Option.some.inj h; subst hs
  refine T_ret fun a w hm=>T_return (fr':=[(2,dB (bif (bif (a0 == (32:Int)) then true else (a0 == (9:Int))) then true else (a0 == (10:Int))))]) [2] (by kernel_rfl) [.keep [2]] (by kernel_rfl) (by kernel_rfl) (by kernel_rfl) (by show _=_; kernel_rfl) (by exact trivial) a w hm
theorem token_delimiter_ok {F:Nat} {a0:Int} {r:Bool} (h:token_delimiter F a0=some r):ACall Tryd.prog 71 [.d (.v (.int .u8 a0))] [] (.d (.v (.bool r))) []:=by
  rw [token_delimiter] at h
  refine ACall.intro (N:=6) Tryd.func71 rfl rfl rfl rfl rfl fun e=>?_
  refine T_reg [] [0] [] [] 1 (by kernel_rfl) (trivial) ?_
  obtain ⟨z1,hz1,h⟩:=lett_ok h
  refine T_reg [(1,{ res:=dI (Lib.indexByte ([40,41,60,62,91,93,47,64,37]:List UInt8) a0.toNat.toUInt8) }),(2,{ rw:=some (dB z1) })] [2] [(2,dB z1)] [(1,ACall Tryd.prog 64 [.d (.str ([40,41,60,62,91,93,47,64,37]:List UInt8)),.d (.v (.int .u8 a0))] [] (dI (Lib.indexByte ([40,41,60,62,91,93,47,64,37]:List UInt8) a0.toNat.toUInt8)) []),(0,(True)∧dB (decide ((Lib.indexByte ([40,41,60,62,91,93,47,64,37]:List UInt8) a0.toNat.toUInt8) ≥ (0:Int)))=dB z1)] 1 (by kernel_rfl) (⟨b_IndexByte_64,⟨trivial,(by subst hz1; rfl)⟩⟩) ?_
  obtain hs:=Option.some.inj h; subst hs
  refine T_ret fun a w hm=>T_return (fr':=[(2,dB z1)]) [2] (by kernel_rfl) [.keep [2]] (by kernel_rfl) (by kernel_rfl) (by kernel_rfl) (by show _=_; kernel_rfl) (by exact trivial) a w hm
theorem token_regular_ok {F:Nat} {a0:Int} {r:Bool} (h:token_regular F a0=some r):ACall Tryd.prog 58 [.d (.v (.int .u8 a0))] [] (.d (.v (.bool r))) []:=by
  rw [token_regular] at h
  refine ACall.intro (N:=11) Tryd.func58 rfl rfl rfl rfl rfl fun e=>?_
  refine T_reg [] [0] [] [] 1 (by kernel_rfl) (trivial) ?_
  obtain ⟨y1,hy1,h⟩:=call_ok h
  obtain ⟨y2,hy2,h⟩:=call_ok h
  refine T_reg [(1,{ res:=dB y1 }),(5,{ res:=dB y2 })] [2] [(2,dB (bif (!y1) then (!y2) else false))] [(1,ACall Tryd.prog 70 [.d (.v (.int .u8 a0))] [] (dB y1) []),(2,((((!y1) == true) && true)=true→True)),(0,((((!y1) == true) && true)=true→ACall Tryd.prog 71 [.d (.v (.int .u8 a0))] [] (dB y2) [])),(0,((((!y1) == true) && true)=true→True))] 2 (by kernel_rfl) (⟨token_white_ok hy1,(fun hg=>trivial),(fun hg=>token_delimiter_ok (gcall_ok hg hy2)),(fun hg=>trivial)⟩) ?_
  obtain hs:=Option.some.inj h; subst hs
  refine T_ret fun a w hm=>T_return (fr':=[(2,dB (bif (!y1) then (!y2) else false))]) [2] (by kernel_rfl) [.keep [2]] (by kernel_rfl) (by kernel_rfl) (by kernel_rfl) (by show _=_; kernel_rfl) (by exact trivial) a w hm
theorem strings_Builder_Len_ok {F:Nat} {c0:List UInt8} {r:Int×(List UInt8)} (h:strings_Builder_Len F c0=some r):ACall Tryd.prog 61 [.bp 1000000 0] [.box [.slf 0 89,.own 5 1 (c0.map cU)]] (.d (.v (.int .i64 r.1))) [.box [.slf 0 89,.own 5 1 (r.2.map cU)]]:=by
  rw [strings_Builder_Len] at h
  refine ACall.intro (N:=8) Tryd.func61 rfl rfl rfl rfl rfl fun e=>?_
  refine T_reg [] [0,1000000] [] [] 1 (by kernel_rfl) (trivial) ?_
  refine T_reg [(4,{ rw:=some (dI (c0.length:Int)) })] [2,1000000] [(2,dI (c0.length:Int))] [(4,True∧dI ((c0.map cU).length:Int)=dI (c0.length:Int))] 1 (by kernel_rfl) (len_ok cU) ?_
  obtain hs:=Option.some.inj h; subst hs
  refine T_ret fun a w hm=>T_return (fr':=[(2,dI (c0.length:Int)),(1000000,.box [.slf 0 89,oW3 c0])]) [2] (by kernel_rfl) [.keep [2,1000000]] (by kernel_rfl) (by kernel_rfl) (by kernel_rfl) (by show _=_; kernel_rfl) (by exact ⟨⟨by kernel_rfl,by kernel_rfl⟩,trivial⟩) a w hm
theorem token_Join_ok {F:Nat} {a0:List S_Token} {r:(List UInt8)×Int} (h:token_Join F a0=some r):ACall Tryd.prog 48 [.d (.sl 5 (a0.map cS_Token))] [.glo 0 (glob_internal_strconv_uint64pow10.flatMap (cI .u64))] (.tup [.d (.str r.1),.d (.v (.int .i64 r.2))]) [.glo 0 (glob_internal_strconv_uint64pow10.flatMap (cI .u64))]:=by
  rw [token_Join] at h
  refine ACall.intro (N:=43) Tryd.func48 rfl rfl rfl rfl rfl fun e=>?_
  refine T_reg [] [0,1000000] [] [] 2 (by kernel_rfl) (trivial) ?_
  refine T_reg [(0,{ slfs:=[(0,0)] })] [0,4,1000000] [(4,.box [.slf 0 89,oW3 []])] [] 1 (by kernel_rfl) (trivial) ?_
  refine T_reg [] [0,4,5,1000000] [(5,dB false)] [] 1 (by kernel_rfl) (trivial) ?_
  refine T_seqk ?_
  refine T_reg [(1,{ rw:=some (dI (a0.length:Int)) })] [4,5,10,11,12,1000000] [(10,.d (.sl 5 (a0.map cS_Token))),(11,dI (a0.length:Int)),(12,dI (0:Int))] [(1,True∧dI ((a0.map cS_Token).length:Int)=dI (a0.length:Int))] 1 (by kernel_rfl) (len_ok cS_Token) ?_
  refine T_joinEt h (fun (p:(List UInt8))=>[(4,.box [.slf 0 89,oW3 p]),(1000000,.glo 0 (glob_internal_strconv_uint64pow10.flatMap (cI .u64)))]) (fun s h hk1=>?_) (fun v5 h=>?_)
  · refine T_co [.keep [4,5,10,11,12,1000000]] ((fun (p:(List UInt8)×Bool×Int)=>[(4,.box [.slf 0 89,oW3 p.1]),(5,dB p.2.1),(10,.d (.sl 5 (a0.map cS_Token))),(11,dI (a0.length:Int)),(12,dI p.2.2),(1000000,.glo 0 (glob_internal_strconv_uint64pow10.flatMap (cI .u64)))]) ([],false,(0:Int))) (by show _=_; kernel_rfl) ?_
    refine T_block ?_
    refine T_loopF (ι:=(List UInt8)×Bool×Int) (fun (p:(List UInt8)×Bool×Int)=>[(4,.box [.slf 0 89,oW3 p.1]),(5,dB p.2.1),(10,.d (.sl 5 (a0.map cS_Token))),(11,dI (a0.length:Int)),(12,dI p.2.2),(1000000,.glo 0 (glob_internal_strconv_uint64pow10.flatMap (cI .u64)))]) (fun n p=>token_Join_L0 F a0 n p.1 p.2.1 p.2.2=some s) (fun i hh=>by simp [token_Join_L0] at hh) (fun n p h=>?_) F ([],false,(0:Int)) h
    obtain ⟨v1,v2,v3⟩:=p
    have h:token_Join_L0 F a0 (n+1) v1 v2 v3=some s:=h
    rw [token_Join_L0] at h
    refine T_reg [] [4,5,10,11,12,13,1000000] [(13,dB (decide (v3 < (a0.length:Int))))] [] 1 (by kernel_rfl) (trivial) ?_
    refine T_seqk ?_
    refine T_cond (decide (v3 < (a0.length:Int))) (by kernel_rfl) (fun hc=>?_) (fun hc=>?_)
    · have h:=cond_tt hc h
      refine T_skip fun a w hm=>then_norm (((?_:T Tryd.prog e 43 _ _ _) a w hm))
      refine T_seqk ?_
      refine T_block ?_
      obtain ⟨hp1,h⟩:=chk_ok h
      refine T_reg [(0,{ cs:=cS_Token (a0.getD v3.toNat z_Token) })] [4,5,7,10,11,12,1000000] [(7,.box [dI ((a0.getD v3.toNat z_Token).f0),dI ((a0.getD v3.toNat z_Token).f1),.d (.str ((a0.getD v3.toNat z_Token).f2)),dI ((a0.getD v3.toNat z_Token).f3),dI ((a0.getD v3.toNat z_Token).f4)])] [(0,0≤v3∧(a0.map cS_Token)[v3.toNat]? = some (cS_Token (a0.getD v3.toNat z_Token)))] 3 (by kernel_rfl) (idx_ok (d:=z_Token) cS_Token hp1) ?_
      obtain ⟨y1,hy1,h⟩:=call_ok h
      refine T_reg [(1,{ res:=.tup [.d (.str y1.1),dI y1.2],vout:=[.glo 0 (glob_internal_strconv_uint64pow10.flatMap (cI .u64))],xs:=[1000000] })] [4,5,8,9,10,11,12,1000000] [(8,.d (.str y1.1)),(9,dI y1.2)] [(1,ACall Tryd.prog 45 [.agg (cS_Token (a0.getD v3.toNat z_Token))] [.glo 0 (glob_internal_strconv_uint64pow10.flatMap (cI .u64))] (.tup [.d (.str y1.1),dI y1.2]) [.glo 0 (glob_internal_strconv_uint64pow10.flatMap (cI .u64))])] 5 (by kernel_rfl) (token_Print_ok hy1) ?_
      refine T_seqk ?_
      refine T_reg [] [4,5,8,9,10,11,12,22,1000000] [(22,dB (y1.2 != (0:Int)))] [] 2 (by kernel_rfl) (trivial) ?_
      refine T_cond (y1.2 != (0:Int)) (by kernel_rfl) (fun hc=>?_) (fun hc=>?_)
      · have h:=cond_tt hc h
        refine T_reg [] [2,3,1000000] [(2,.d (.str [])),(3,dI y1.2)] [] 3 (by kernel_rfl) (trivial) ?_
        obtain hs:=Option.some.inj h; subst hs
        have h:=callE_esc hk1
        obtain hs:=Option.some.inj h; subst hs
        refine T_ret fun a w hm=>then_ret (inBlock_ret (then_ret (then_ret (inBlock_ret (then_ret (then_ret (T_return (fr':=[(2,.d (.str [])),(3,dI y1.2),(1000000,.glo 0 (glob_internal_strconv_uint64pow10.flatMap (cI .u64)))]) [2,3] (by kernel_rfl) [.keep [2,3,1000000]] (by kernel_rfl) (by kernel_rfl) (by kernel_rfl) (by show _=_; kernel_rfl) (by exact ⟨⟨by kernel_rfl,by kernel_rfl⟩,trivial⟩) a w hm)))))))
      · have h:=cond_ff hc h
        refine T_skip fun a w hm=>then_norm (((?_:T Tryd.prog e 43 _ _ _) a w hm))
        refine T_joinc h (fun (p:(List UInt8))=>[(4,.box [.slf 0 89,oW3 p]),(8,.d (.str y1.1)),(10,.d (.sl 5 (a0.map cS_Token))),(11,dI (a0.length:Int)),(12,dI v3),(1000000,.glo 0 (glob_internal_strconv_uint64pow10.flatMap (cI .u64)))]) (fun s h=>?_) (fun v4 h=>?_)
        · obtain ⟨hp2,h⟩:=chk_ok h
          obtain ⟨y2,hy2,h⟩:=call_ok h
          refine T_reg [(4,{ res:=dB y2 })] [4,8,10,11,12,29,1000000] [(29,dB (bif v2 then y2 else false))] [(2,(((v2 == true) && true)=true→True)),(0,(((v2 == true) && true)=true→0≤(0:Int)∧(0:Int) < y1.1.length)),(0,(((v2 == true) && true)=true→ACall Tryd.prog 58 [.d (.v (.int .u8 ((y1.1.getD (0:Int).toNat 0).toNat:Int)))] [] (dB y2) []))] 1 (by kernel_rfl) (⟨(fun hg=>trivial),(fun hg=>(hp2 hg)),(fun hg=>token_regular_ok (gcall_ok hg hy2))⟩) ?_
          refine T_cond (bif v2 then y2 else false) (by kernel_rfl) (fun hc=>?_) (fun hc=>?_)
          · have h:=cond_tt hc h
            obtain ⟨y3,hy3,h⟩:=call_ok h
            obtain hs:=Option.some.inj h; subst hs
            refine T_reg_end [(0,{ res:=.d (.v .nilIface),vout:=[.box [.slf 0 89,oW3 y3.2]],xs:=[4] })] [4,8,10,11,12,1000000] [(4,.box [.slf 0 89,oW3 y3.2])] [(0,ACall Tryd.prog 59 [.bp 1000000 0,.d (.v (.int .u8 (32:Int)))] [.box [.slf 0 89,oW3 v1]] (.d (.v .nilIface)) [.box [.slf 0 89,oW3 y3.2]])] 0 (by kernel_rfl) (strings_Builder_WriteByte_ok hy3) fun a w hm=>then_norm (hm.co (cs:=[.keep [4,8,10,11,12,1000000]]) (by show _=_; kernel_rfl))
          · have h:=cond_ff hc h
            obtain hs:=Option.some.inj h; subst hs
            refine T_skip fun a w hm=>then_norm (hm.co (cs:=[.keep [4,8,10,11,12,1000000]]) (by show _=_; kernel_rfl))
        · skip
          obtain ⟨y4,hy4,h⟩:=call_ok h
          refine T_reg [(1,{ res:=.tup [dI y4.1,.d (.v .nilIface)],vout:=[.box [.slf 0 89,oW3 y4.2.2]],xs:=[4] })] [4,8,10,11,12,1000000] [(4,.box [.slf 0 89,oW3 y4.2.2])] [(1,ACall Tryd.prog 60 [.bp 1000000 0,.d (.str y1.1)] [.box [.slf 0 89,oW3 v4]] (.tup [dI y4.1,.d (.v .nilIface)]) [.box [.slf 0 89,oW3 y4.2.2]])] 0 (by kernel_rfl) (strings_Builder_WriteString_ok hy4) ?_
          refine T_seqk ?_
          obtain ⟨y5,hy5,h⟩:=call_ok h
          refine T_reg [(0,{ res:=dI y5.1,vout:=[.box [.slf 0 89,oW3 y5.2]],xs:=[4] })] [4,8,10,11,12,34,1000000] [(4,.box [.slf 0 89,oW3 y5.2]),(34,dB (decide (y5.1 > (8192:Int))))] [(0,ACall Tryd.prog 61 [.bp 1000000 0] [.box [.slf 0 89,oW3 y4.2.2]] (dI y5.1) [.box [.slf 0 89,oW3 y5.2]])] 1 (by kernel_rfl) (strings_Builder_Len_ok hy5) ?_
          refine T_cond (decide (y5.1 > (8192:Int))) (by kernel_rfl) (fun hc=>?_) (fun hc=>?_)
          · have h:=cond_tt hc h
            refine T_reg [] [2,3,1000000] [(2,.d (.str [])),(3,dI (2:Int))] [] 2 (by kernel_rfl) (trivial) ?_
            obtain hs:=Option.some.inj h; subst hs
            have h:=callE_esc hk1
            obtain hs:=Option.some.inj h; subst hs
            refine T_ret fun a w hm=>then_ret (inBlock_ret (then_ret (then_ret (inBlock_ret (then_ret (then_ret (T_return (fr':=[(2,.d (.str [])),(3,dI (2:Int)),(1000000,.glo 0 (glob_internal_strconv_uint64pow10.flatMap (cI .u64)))]) [2,3] (by kernel_rfl) [.keep [2,3,1000000]] (by kernel_rfl) (by kernel_rfl) (by kernel_rfl) (by show _=_; kernel_rfl) (by exact ⟨⟨by kernel_rfl,by kernel_rfl⟩,trivial⟩) a w hm)))))))
          · have h:=cond_ff hc h
            refine T_skip fun a w hm=>then_norm (((?_:T Tryd.prog e 43 _ _ _) a w hm))
            obtain ⟨hp3,h⟩:=chk_ok h
            obtain ⟨y6,hy6,h⟩:=call_ok h
            refine T_reg_end [(5,{ res:=dB y6 })] [4,5,10,11,12,1000000] [(5,dB y6)] [(4,0≤(IntKind.i64.wrap ((y1.1.length:Int) - (1:Int)))∧(IntKind.i64.wrap ((y1.1.length:Int) - (1:Int))) < y1.1.length),(0,ACall Tryd.prog 58 [.d (.v (.int .u8 ((y1.1.getD (IntKind.i64.wrap ((y1.1.length:Int) - (1:Int))).toNat 0).toNat:Int)))] [] (dB y6) [])] 1 (by kernel_rfl) (⟨hp3,token_regular_ok hy6⟩) fun a w hm=>inBlock_norm (then_norm (((?_:T Tryd.prog e 43 _ _ _) a w hm)))
            refine T_reg_end [] [4,5,10,11,12,1000000] [(12,dI (IntKind.i64.wrap (v3+(1:Int))))] [] 2 (by kernel_rfl) (trivial) fun a w hm=>then_norm (⟨(y5.2,y6,IntKind.i64.wrap (v3+(1:Int))),h,hm.co (cs:=[.keep [4,5,10,11,12,1000000]]) (by show _=_; kernel_rfl)⟩)
    · have h:=cond_ff hc h
      obtain hs:=Option.some.inj h; subst hs
      refine T_exit fun a w hm=>then_exit (then_exit (inBlock_exit (then_norm (⟨_,rfl,hm.co (cs:=[.keep [4,1000000]]) (by show _=_; kernel_rfl)⟩))))
  · skip
    refine fun a w hm=>then_norm (((?_:T Tryd.prog e 43 _ _ _) a w hm))
    obtain ⟨hp4,h⟩:=chk_ok h
    refine T_reg [(0,{ xs:=[4],vout:=[.box [.slf 0 89,.junk]],res:=.d (.str v5) })] [2,3,1000000] [(2,.d (.str v5)),(3,dI (0:Int))] [(0,ACall Tryd.prog 62 [.bp 1000000 0] [.box [.slf 0 89,oW3 v5]] (.d (.str v5)) [.box [.slf 0 89,.junk]])] 2 (by kernel_rfl) (b_String (l:=v5) hp4 (by kernel_rfl) (by kernel_rfl)) ?_
    obtain hs:=Option.some.inj h; subst hs
    refine T_ret fun a w hm=>T_return (fr':=[(2,.d (.str v5)),(3,dI (0:Int)),(1000000,.glo 0 (glob_internal_strconv_uint64pow10.flatMap (cI .u64)))]) [2,3] (by kernel_rfl) [.keep [2,3,1000000]] (by kernel_rfl) (by kernel_rfl) (by kernel_rfl) (by show _=_; kernel_rfl) (by exact ⟨⟨by kernel_rfl,by kernel_rfl⟩,trivial⟩) a w hm
theorem object_Print_ok {F:Nat} {a0:S_Object} {r:(List UInt8)×Int} (h:object_Print F a0=some r):ACall Tryd.prog 35 [.agg (cS_Object a0)] [.glo 0 (glob_internal_strconv_uint64pow10.flatMap (cI .u64))] (.tup [.d (.str r.1),.d (.v (.int .i64 r.2))]) [.glo 0 (glob_internal_strconv_uint64pow10.flatMap (cI .u64))]:=by
  rw [object_Print] at h
  refine ACall.intro (N:=16) Tryd.func35 rfl rfl rfl rfl rfl fun e=>?_
  refine T_reg [] [1,1000000] [(1,bx_Object a0)] [] 3 (by kernel_rfl) (trivial) ?_
  refine T_reg [] [1,4,1000000] [(4,.box [oW4 [],dI 0])] [] 1 (by kernel_rfl) (trivial) ?_
  refine T_seqk ?_
  obtain ⟨y1,hy1,h⟩:=call_ok h
  refine T_reg [(1,{ res:=dI y1.1,vout:=[.box [oW4 y1.2.1,dI y1.2.2],.glo 0 (glob_internal_strconv_uint64pow10.flatMap (cI .u64))],xs:=[4,1000000] })] [4,5,1000000] [(4,.box [oW4 y1.2.1,dI y1.2.2]),(5,dI y1.1)] [(1,ACall Tryd.prog 47 [.bp 1000000 0,.agg (cS_Object a0),dI (1:Int)] [.box [oW4 [],dI 0],.glo 0 (glob_internal_strconv_uint64pow10.flatMap (cI .u64))] (dI y1.1) [.box [oW4 y1.2.1,dI y1.2.2],.glo 0 (glob_internal_strconv_uint64pow10.flatMap (cI .u64))])] 1 (by kernel_rfl) (object_printer_add_ok hy1) ?_
  refine T_reg [] [4,5,9,1000000] [(9,dB (y1.1 != (0:Int)))] [] 2 (by kernel_rfl) (trivial) ?_
  refine T_cond (y1.1 != (0:Int)) (by kernel_rfl) (fun hc=>?_) (fun hc=>?_)
  · have h:=cond_tt hc h
    refine T_reg [] [2,3,1000000] [(2,.d (.str [])),(3,dI y1.1)] [] 3 (by kernel_rfl) (trivial) ?_
    obtain hs:=Option.some.inj h; subst hs
    refine T_ret fun a w hm=>then_ret (T_return (fr':=[(2,.d (.str [])),(3,dI y1.1),(1000000,.glo 0 (glob_internal_strconv_uint64pow10.flatMap (cI .u64)))]) [2,3] (by kernel_rfl) [.keep [2,3,1000000]] (by kernel_rfl) (by kernel_rfl) (by kernel_rfl) (by show _=_; kernel_rfl) (by exact ⟨⟨by kernel_rfl,by kernel_rfl⟩,trivial⟩) a w hm)
  · have h:=cond_ff hc h
    refine T_skip fun a w hm=>then_norm (((?_:T Tryd.prog e 16 _ _ _) a w hm))
    obtain ⟨y2,hy2,h⟩:=call_ok h
    refine T_reg [(2,{ frz:=[(4,1)],res:=.tup [.d (.str y2.1),dI y2.2],vout:=[.glo 0 (glob_internal_strconv_uint64pow10.flatMap (cI .u64))],xs:=[1000000] })] [2,3,1000000] [(2,.d (.str y2.1)),(3,dI y2.2)] [(2,ACall Tryd.prog 48 [.d (.sl 5 (y1.2.1.map cS_Token))] [.glo 0 (glob_internal_strconv_uint64pow10.flatMap (cI .u64))] (.tup [.d (.str y2.1),dI y2.2]) [.glo 0 (glob_internal_strconv_uint64pow10.flatMap (cI .u64))])] 4 (by kernel_rfl) (token_Join_ok hy2) ?_
    obtain hs:=Option.some.inj h; subst hs
    refine T_ret fun a w hm=>T_return (fr':=[(2,.d (.str y2.1)),(3,dI y2.2),(1000000,.glo 0 (glob_internal_strconv_uint64pow10.flatMap (cI .u64)))]) [2,3] (by kernel_rfl) [.keep [2,3,1000000]] (by kernel_rfl) (by kernel_rfl) (by kernel_rfl) (by show _=_; kernel_rfl) (by exact ⟨⟨by kernel_rfl,by kernel_rfl⟩,trivial⟩) a w hm
theorem object_Check_ok {F:Nat} {a0:S_Object} {r:Int} (h:object_Check F a0=some r):ACall Tryd.prog 20 [.agg (cS_Object a0)] [.glo 0 (glob_internal_strconv_uint64pow10.flatMap (cI .u64))] (.d (.v (.int .i64 r))) [.glo 0 (glob_internal_strconv_uint64pow10.flatMap (cI .u64))]:=by
  rw [object_Check] at h
  refine ACall.intro (N:=11) Tryd.func20 rfl rfl rfl rfl rfl fun e=>?_
  refine T_reg [] [1,1000000] [(1,bx_Object a0)] [] 2 (by kernel_rfl) (trivial) ?_
  obtain ⟨y1,hy1,h⟩:=call_ok h
  refine T_reg [(1,{ res:=.tup [.d (.str y1.1),dI y1.2],vout:=[.glo 0 (glob_internal_strconv_uint64pow10.flatMap (cI .u64))],xs:=[1000000] })] [4,1000000] [(4,dI y1.2)] [(1,ACall Tryd.prog 35 [.agg (cS_Object a0)] [.glo 0 (glob_internal_strconv_uint64pow10.flatMap (cI .u64))] (.tup [.d (.str y1.1),dI y1.2]) [.glo 0 (glob_internal_strconv_uint64pow10.flatMap (cI .u64))])] 5 (by kernel_rfl) (object_Print_ok hy1) ?_
  refine T_reg [] [2,1000000] [(2,dI y1.2)] [] 2 (by kernel_rfl) (trivial) ?_
  obtain hs:=Option.some.inj h; subst hs
  refine T_ret fun a w hm=>T_return (fr':=[(2,dI y1.2),(1000000,.glo 0 (glob_internal_strconv_uint64pow10.flatMap (cI .u64)))]) [2] (by kernel_rfl) [.keep [2,1000000]] (by kernel_rfl) (by kernel_rfl) (by kernel_rfl) (by show _=_; kernel_rfl) (by exact ⟨⟨by kernel_rfl,by kernel_rfl⟩,trivial⟩) a w hm
theorem ticket_name_ok {F:Nat} {a0:List UInt8} {r:Bool} (h:ticket_name F a0=some r):ACall Tryd.prog 29 [.d (.str a0)] [.glo 0 (glob_internal_strconv_uint64pow10.flatMap (cI .u64))] (.d (.v (.bool r))) [.glo 0 (glob_internal_strconv_uint64pow10.flatMap (cI .u64))]:=by
  rw [ticket_name] at h
  refine ACall.intro (N:=13) Tryd.func29 rfl rfl rfl rfl rfl fun e=>?_
  refine T_reg [] [0,1000000] [] [] 1 (by kernel_rfl) (trivial) ?_
  obtain ⟨y1,hy1,h⟩:=call_ok h
  refine T_reg [(2,{ res:=.tup [.d (.str y1.1),dI y1.2],vout:=[.glo 0 (glob_internal_strconv_uint64pow10.flatMap (cI .u64))],xs:=[1000000] })] [4,1000000] [(4,dI y1.2)] [(2,ACall Tryd.prog 45 [.agg (cS_Token (S_Token.mk (2:Int) 0 a0 0 0))] [.glo 0 (glob_internal_strconv_uint64pow10.flatMap (cI .u64))] (.tup [.d (.str y1.1),dI y1.2]) [.glo 0 (glob_internal_strconv_uint64pow10.flatMap (cI .u64))])] 5 (by kernel_rfl) (token_Print_ok hy1) ?_
  refine T_reg [] [2,1000000] [(2,dB (y1.2 == (0:Int)))] [] 3 (by kernel_rfl) (trivial) ?_
  obtain hs:=Option.some.inj h; subst hs
  refine T_ret fun a w hm=>T_return (fr':=[(2,dB (y1.2 == (0:Int))),(1000000,.glo 0 (glob_internal_strconv_uint64pow10.flatMap (cI .u64)))]) [2] (by kernel_rfl) [.keep [2,1000000]] (by kernel_rfl) (by kernel_rfl) (by kernel_rfl) (by show _=_; kernel_rfl) (by exact ⟨⟨by kernel_rfl,by kernel_rfl⟩,trivial⟩) a w hm
theorem slices_Equal_string_ok {F:Nat} {a0:List (List UInt8)} {a1:List (List UInt8)} {r:Bool} (h:slices_Equal_string F a0 a1=some r):ACall Tryd.prog 15 [.d (.sl 1 (a0.map cS)),.d (.sl 1 (a1.map cS))] [] (.d (.v (.bool r))) []:=by
  rw [slices_Equal_string] at h
  refine ACall.intro (N:=26) Tryd.func15 rfl rfl rfl rfl rfl fun e=>?_
  refine T_reg [] [0,1] [] [] 1 (by kernel_rfl) (trivial) ?_
  refine T_seqk ?_
  refine T_reg [(1,{ rw:=some (dI (a0.length:Int)) }),(3,{ rw:=some (dI (a1.length:Int)) })] [0,1,10] [(10,dB ((a0.length:Int) != (a1.length:Int)))] [(1,True∧dI ((a0.map cS).length:Int)=dI (a0.length:Int)),(1,True∧dI ((a1.map cS).length:Int)=dI (a1.length:Int))] 1 (by kernel_rfl) (⟨len_ok cS,len_ok cS⟩) ?_
  refine T_cond ((a0.length:Int) != (a1.length:Int)) (by kernel_rfl) (fun hc=>?_) (fun hc=>?_)
  · have h:=cond_tt hc h
    refine T_reg [] [4] [(4,dB false)] [] 1 (by kernel_rfl) (trivial) ?_
    obtain hs:=Option.some.inj h; subst hs
    refine T_ret fun a w hm=>then_ret (T_return (fr':=[(4,dB false)]) [4] (by kernel_rfl) [.keep [4]] (by kernel_rfl) (by kernel_rfl) (by kernel_rfl) (by show _=_; kernel_rfl) (by exact trivial) a w hm)
  · have h:=cond_ff hc h
    refine T_skip fun a w hm=>then_norm (((?_:T Tryd.prog e 26 _ _ _) a w hm))
    refine T_seqk ?_
    refine T_reg [(1,{ rw:=some (dI (a0.length:Int)) })] [0,1,12,13] [(12,dI (a0.length:Int)),(13,dI (0:Int))] [(1,True∧dI ((a0.map cS).length:Int)=dI (a0.length:Int))] 1 (by kernel_rfl) (len_ok cS) ?_
    refine T_joinEt h (fun (p:Unit)=>[]) (fun s h hk1=>?_) (fun s h=>?_)
    · refine T_co [.keep [0,1,12,13]] ((fun (p:Int)=>[(0,.d (.sl 1 (a0.map cS))),(1,.d (.sl 1 (a1.map cS))),(12,dI (a0.length:Int)),(13,dI p)]) (0:Int)) (by show _=_; kernel_rfl) ?_
      refine T_block ?_
      refine T_loopF (ι:=Int) (fun (p:Int)=>[(0,.d (.sl 1 (a0.map cS))),(1,.d (.sl 1 (a1.map cS))),(12,dI (a0.length:Int)),(13,dI p)]) (fun n p=>slices_Equal_string_L0 F a0 a1 n p=some s) (fun i hh=>by simp [slices_Equal_string_L0] at hh) (fun n v1 h=>?_) F (0:Int) h
      have h:slices_Equal_string_L0 F a0 a1 (n+1) v1=some s:=h
      rw [slices_Equal_string_L0] at h
      refine T_reg [] [0,1,12,13,14] [(14,dB (decide (v1 < (a0.length:Int))))] [] 1 (by kernel_rfl) (trivial) ?_
      refine T_seqk ?_
      refine T_cond (decide (v1 < (a0.length:Int))) (by kernel_rfl) (fun hc=>?_) (fun hc=>?_)
      · have h:=cond_tt hc h
        refine T_skip fun a w hm=>then_norm (((?_:T Tryd.prog e 26 _ _ _) a w hm))
        refine T_seqk ?_
        refine T_block ?_
        refine T_reg [] [0,1,5,12,13] [(5,dI v1)] [] 2 (by kernel_rfl) (trivial) ?_
        obtain ⟨hp1,h⟩:=chk_ok h
        obtain ⟨hp2,h⟩:=chk_ok h
        refine T_draw mixed [(2,{ cs:=cS (a0.getD v1.toNat []) }),(6,{ cs:=cS (a1.getD v1.toNat []) })] [0,1,12,13,24] [] [(0,.d (.sl 1 (a0.map cS))),(1,.d (.sl 1 (a1.map cS))),(12,dI (a0.length:Int)),(13,dI v1),(24,dB (!((a0.getD v1.toNat []) == (a1.getD v1.toNat []))))] [(2,0≤v1∧(a0.map cS)[v1.toNat]? = some (cS (a0.getD v1.toNat []))),(3,0≤v1∧(a1.map cS)[v1.toNat]? = some (cS (a1.getD v1.toNat [])))] 2 (by kernel_rfl) (⟨idx_ok (d:=[]) cS hp1,idx_ok (d:=[]) cS hp2⟩) ?_
        refine T_cond (!((a0.getD v1.toNat []) == (a1.getD v1.toNat []))) (by kernel_rfl) (fun hc=>?_) (fun hc=>?_)
        · have h:=cond_tt hc h
          refine T_reg [] [4] [(4,dB false)] [] 1 (by kernel_rfl) (trivial) ?_
          obtain hs:=Option.some.inj h; subst hs
          have h:=callE_esc hk1
          obtain hs:=Option.some.inj h; subst hs
          refine T_ret fun a w hm=>inBlock_ret (then_ret (then_ret (inBlock_ret (then_ret (then_ret (T_return (fr':=[(4,dB false)]) [4] (by kernel_rfl) [.keep [4]] (by kernel_rfl) (by kernel_rfl) (by kernel_rfl) (by show _=_; kernel_rfl) (by exact trivial) a w hm))))))
        · have h:=cond_ff hc h
          refine T_skip fun a w hm=>inBlock_norm (then_norm (((?_:T Tryd.prog e 26 _ _ _) a w hm)))
          refine T_reg_end [] [0,1,12,13] [(13,dI (IntKind.i64.wrap (v1+(1:Int))))] [] 2 (by kernel_rfl) (trivial) fun a w hm=>then_norm (⟨IntKind.i64.wrap (v1+(1:Int)),h,hm.co (cs:=[.keep [0,1,12,13]]) (by show _=_; kernel_rfl)⟩)
      · have h:=cond_ff hc h
        obtain hs:=Option.some.inj h; subst hs
        refine T_exit fun a w hm=>then_exit (then_exit (inBlock_exit (then_norm (⟨_,rfl,hm.co (cs:=[.keep []]) (by show _=_; kernel_rfl)⟩))))
    · skip
      refine fun a w hm=>then_norm (((?_:T Tryd.prog e 26 _ _ _) a w hm))
      refine T_reg [] [4] [(4,dB true)] [] 1 (by kernel_rfl) (trivial) ?_
      obtain hs:=Option.some.inj h; subst hs
      refine T_ret fun a w hm=>T_return (fr':=[(4,dB true)]) [4] (by kernel_rfl) [.keep [4]] (by kernel_rfl) (by kernel_rfl) (by kernel_rfl) (by show _=_; kernel_rfl) (by exact trivial) a w hm
theorem slices_EqualFunc_Object_ok {F:Nat} {rec_object_Same:S_Object→S_Object→Option Bool} (hrec_object_Same:∀ {a0:S_Object},∀ {a1:S_Object},∀ {r:Bool},rec_object_Same a0 a1=some r→ACall Tryd.prog 30 [.agg (cS_Object a0),.agg (cS_Object a1)] [] (.d (.v (.bool r))) []) {a0:List S_Object} {a1:List S_Object} {r:Bool} (h:slices_EqualFunc_Object F rec_object_Same a0 a1=some r):ACall Tryd.prog 46 [.d (.sl 5 (a0.map rS_Object)),.d (.sl 5 (a1.map rS_Object)),.clo 30 []] [] (.d (.v (.bool r))) []:=by
  rw [slices_EqualFunc_Object] at h
  refine ACall.intro (N:=32) Tryd.func46 rfl rfl rfl rfl rfl fun e=>?_
  refine T_reg [] [0,1,2] [] [] 1 (by kernel_rfl) (trivial) ?_
  refine T_seqk ?_
  refine T_reg [(1,{ rw:=some (dI (a0.length:Int)) }),(3,{ rw:=some (dI (a1.length:Int)) })] [0,1,2,14] [(14,dB ((a0.length:Int) != (a1.length:Int)))] [(1,True∧dI ((a0.map rS_Object).length:Int)=dI (a0.length:Int)),(1,True∧dI ((a1.map rS_Object).length:Int)=dI (a1.length:Int))] 1 (by kernel_rfl) (⟨len_ok rS_Object,len_ok rS_Object⟩) ?_
  refine T_cond ((a0.length:Int) != (a1.length:Int)) (by kernel_rfl) (fun hc=>?_) (fun hc=>?_)
  · have h:=cond_tt hc h
    refine T_reg [] [6] [(6,dB false)] [] 1 (by kernel_rfl) (trivial) ?_
    obtain hs:=Option.some.inj h; subst hs
    refine T_ret fun a w hm=>then_ret (T_return (fr':=[(6,dB false)]) [6] (by kernel_rfl) [.keep [6]] (by kernel_rfl) (by kernel_rfl) (by kernel_rfl) (by show _=_; kernel_rfl) (by exact trivial) a w hm)
  · have h:=cond_ff hc h
    refine T_skip fun a w hm=>then_norm (((?_:T Tryd.prog e 32 _ _ _) a w hm))
    refine T_seqk ?_
    refine T_reg [(1,{ rw:=some (dI (a0.length:Int)) })] [1,2,15,16,17] [(15,.d (.sl 5 (a0.map rS_Object))),(16,dI (a0.length:Int)),(17,dI (0:Int))] [(1,True∧dI ((a0.map rS_Object).length:Int)=dI (a0.length:Int))] 1 (by kernel_rfl) (len_ok rS_Object) ?_
    refine T_joinEt h (fun (p:Unit)=>[]) (fun s h hk1=>?_) (fun s h=>?_)
    · refine T_co [.keep [1,2,15,16,17]] ((fun (p:Int)=>[(1,.d (.sl 5 (a1.map rS_Object))),(2,.clo 30 []),(15,.d (.sl 5 (a0.map rS_Object))),(16,dI (a0.length:Int)),(17,dI p)]) (0:Int)) (by show _=_; kernel_rfl) ?_
      refine T_block ?_
      refine T_loopF (ι:=Int) (fun (p:Int)=>[(1,.d (.sl 5 (a1.map rS_Object))),(2,.clo 30 []),(15,.d (.sl 5 (a0.map rS_Object))),(16,dI (a0.length:Int)),(17,dI p)]) (fun n p=>slices_EqualFunc_Object_L0 F a0 a1 rec_object_Same n p=some s) (fun i hh=>by simp [slices_EqualFunc_Object_L0] at hh) (fun n v1 h=>?_) F (0:Int) h
      have h:slices_EqualFunc_Object_L0 F a0 a1 rec_object_Same (n+1) v1=some s:=h
      rw [slices_EqualFunc_Object_L0] at h
      refine T_reg [] [1,2,15,16,17,18] [(18,dB (decide (v1 < (a0.length:Int))))] [] 1 (by kernel_rfl) (trivial) ?_
      refine T_seqk ?_
      refine T_cond (decide (v1 < (a0.length:Int))) (by kernel_rfl) (fun hc=>?_) (fun hc=>?_)
      · have h:=cond_tt hc h
        refine T_skip fun a w hm=>then_norm (((?_:T Tryd.prog e 32 _ _ _) a w hm))
        refine T_seqk ?_
        refine T_block ?_
        obtain ⟨hp1,h⟩:=chk_ok h
        refine T_reg [(1,{ cs:=cS_Object (a0.getD v1.toNat z_Object) })] [1,2,7,8,15,16,17] [(7,dI v1),(8,.box [dI ((a0.getD v1.toNat z_Object).f0),dI ((a0.getD v1.toNat z_Object).f1),.d (.str ((a0.getD v1.toNat z_Object).f2)),.d (.sl 1 (((a0.getD v1.toNat z_Object).f3).map cS)),.d (.sl 5 (((a0.getD v1.toNat z_Object).f4).map rS_Object))])] [(1,0≤v1∧(a0.map rS_Object)[v1.toNat]? = some (cS_Object (a0.getD v1.toNat z_Object)))] 4 (by kernel_rfl) (idx_okR (d:=z_Object) rS_Object_eq hp1) ?_
        obtain ⟨hp2,h⟩:=chk_ok h
        refine T_reg [(2,{ cs:=cS_Object (a1.getD v1.toNat z_Object) })] [1,2,8,9,15,16,17] [(9,.box [dI ((a1.getD v1.toNat z_Object).f0),dI ((a1.getD v1.toNat z_Object).f1),.d (.str ((a1.getD v1.toNat z_Object).f2)),.d (.sl 1 (((a1.getD v1.toNat z_Object).f3).map cS)),.d (.sl 5 (((a1.getD v1.toNat z_Object).f4).map rS_Object))])] [(2,0≤v1∧(a1.map rS_Object)[v1.toNat]? = some (cS_Object (a1.getD v1.toNat z_Object)))] 3 (by kernel_rfl) (idx_okR (d:=z_Object) rS_Object_eq hp2) ?_
        obtain ⟨y1,hy1,h⟩:=call_ok h
        refine T_reg [(3,{ res:=dB y1 })] [1,2,15,16,17,30] [(30,dB (!y1))] [(3,ACall Tryd.prog 30 [.agg (cS_Object (a0.getD v1.toNat z_Object)),.agg (cS_Object (a1.getD v1.toNat z_Object))] [] (dB y1) [])] 1 (by kernel_rfl) (hrec_object_Same hy1) ?_
        refine T_cond (!y1) (by kernel_rfl) (fun hc=>?_) (fun hc=>?_)
        · have h:=cond_tt hc h
          refine T_reg [] [6] [(6,dB false)] [] 1 (by kernel_rfl) (trivial) ?_
          obtain hs:=Option.some.inj h; subst hs
          have h:=callE_esc hk1
          obtain hs:=Option.some.inj h; subst hs
          refine T_ret fun a w hm=>inBlock_ret (then_ret (then_ret (inBlock_ret (then_ret (then_ret (T_return (fr':=[(6,dB false)]) [6] (by kernel_rfl) [.keep [6]] (by kernel_rfl) (by kernel_rfl) (by kernel_rfl) (by show _=_; kernel_rfl) (by exact trivial) a w hm))))))
        · have h:=cond_ff hc h
          refine T_skip fun a w hm=>inBlock_norm (then_norm (((?_:T Tryd.prog e 32 _ _ _) a w hm)))
          refine T_reg_end [] [1,2,15,16,17] [(17,dI (IntKind.i64.wrap (v1+(1:Int))))] [] 2 (by kernel_rfl) (trivial) fun a w hm=>then_norm (⟨IntKind.i64.wrap (v1+(1:Int)),h,hm.co (cs:=[.keep [1,2,15,16,17]]) (by show _=_; kernel_rfl)⟩)
      · have h:=cond_ff hc h
        obtain hs:=Option.some.inj h; subst hs
        refine T_exit fun a w hm=>then_exit (then_exit (inBlock_exit (then_norm (⟨_,rfl,hm.co (cs:=[.keep []]) (by show _=_; kernel_rfl)⟩))))
    · skip
      refine fun a w hm=>then_norm (((?_:T Tryd.prog e 32 _ _ _) a w hm))
      refine T_reg [] [6] [(6,dB true)] [] 1 (by kernel_rfl) (trivial) ?_
      obtain hs:=Option.some.inj h; subst hs
      refine T_ret fun a w hm=>T_return (fr':=[(6,dB true)]) [6] (by kernel_rfl) [.keep [6]] (by kernel_rfl) (by kernel_rfl) (by kernel_rfl) (by show _=_; kernel_rfl) (by exact trivial) a w hm
theorem object_Same_body_ok {F:Nat} {rec_object_Same:S_Object→S_Object→Option Bool} (hrec_object_Same:∀ {a0:S_Object},∀ {a1:S_Object},∀ {r:Bool},rec_object_Same a0 a1=some r→ACall Tryd.prog 30 [.agg (cS_Object a0),.agg (cS_Object a1)] [] (.d (.v (.bool r))) []) {a0:S_Object} {a1:S_Object} {r:Bool} (h:object_Same_body F rec_object_Same a0 a1=some r):ACall Tryd.prog 30 [.agg (cS_Object a0),.agg (cS_Object a1)] [] (.d (.v (.bool r))) []:=by
  rw [object_Same_body] at h
  refine ACall.intro (N:=38) Tryd.func30 rfl rfl rfl rfl rfl fun e=>?_
  refine T_reg [] [2,3] [(2,bx_Object a0),(3,bx_Object a1)] [] 3 (by kernel_rfl) (trivial) ?_
  obtain ⟨y1,hy1,h⟩:=call_ok h
  obtain ⟨z1,hz1,h⟩:=lett_ok h
  obtain ⟨y2,hy2,h⟩:=call_ok h
  refine T_reg [(24,{ res:=dB y1 }),(25,{ rw:=some (dB z1) }),(31,{ res:=dB y2 })] [4] [(4,dB (bif z1 then y2 else false))] [(6,((((a0.f0 == a1.f0) == true) && true)=true→True)),(0,((((a0.f0 == a1.f0) == true) && true)=true→True)),(0,((((a0.f0 == a1.f0) == true) && true)=true→True)),(0,((((a0.f0 == a1.f0) == true) && true)=true→True)),(0,((((a0.f0 == a1.f0) == true) && true)=true→True)),(2,((((bif (a0.f0 == a1.f0) then (a0.f1 == a1.f1) else false) == true) && true)=true→True)),(0,((((bif (a0.f0 == a1.f0) then (a0.f1 == a1.f1) else false) == true) && true)=true→True)),(0,((((bif (a0.f0 == a1.f0) then (a0.f1 == a1.f1) else false) == true) && true)=true→True)),(0,((((bif (a0.f0 == a1.f0) then (a0.f1 == a1.f1) else false) == true) && true)=true→True)),(0,((((bif (a0.f0 == a1.f0) then (a0.f1 == a1.f1) else false) == true) && true)=true→True)),(2,((((bif (bif (a0.f0 == a1.f0) then (a0.f1 == a1.f1) else false) then (a0.f2 == a1.f2) else false) == true) && true)=true→True)),(0,((((bif (bif (a0.f0 == a1.f0) then (a0.f1 == a1.f1) else false) then (a0.f2 == a1.f2) else false) == true) && true)=true→True)),(0,((((bif (bif (a0.f0 == a1.f0) then (a0.f1 == a1.f1) else false) then (a0.f2 == a1.f2) else false) == true) && true)=true→True)),(0,((((bif (bif (a0.f0 == a1.f0) then (a0.f1 == a1.f1) else false) then (a0.f2 == a1.f2) else false) == true) && true)=true→True)),(0,((((bif (bif (a0.f0 == a1.f0) then (a0.f1 == a1.f1) else false) then (a0.f2 == a1.f2) else false) == true) && true)=true→ACall Tryd.prog 15 [.d (.sl 1 (a0.f3.map cS)),.d (.sl 1 (a1.f3.map cS))] [] (dB y1) [])),(0,(True)∧dB (bif (bif (bif (a0.f0 == a1.f0) then (a0.f1 == a1.f1) else false) then (a0.f2 == a1.f2) else false) then y1 else false)=dB z1),(1,(((z1 == true) && true)=true→True)),(0,(((z1 == true) && true)=true→True)),(0,(((z1 == true) && true)=true→True)),(0,(((z1 == true) && true)=true→True)),(0,(((z1 == true) && true)=true→ACall Tryd.prog 46 [.d (.sl 5 (a0.f4.map rS_Object)),.d (.sl 5 (a1.f4.map rS_Object)),.clo 30 []] [] (dB y2) []))] 2 (by kernel_rfl) (⟨(fun hg=>trivial),(fun hg=>trivial),(fun hg=>trivial),(fun hg=>trivial),(fun hg=>trivial),(fun hg=>trivial),(fun hg=>trivial),(fun hg=>trivial),(fun hg=>trivial),(fun hg=>trivial),(fun hg=>trivial),(fun hg=>trivial),(fun hg=>trivial),(fun hg=>trivial),(fun hg=>slices_Equal_string_ok (gcall_ok hg hy1)),⟨trivial,(by subst hz1; rfl)⟩,(fun hg=>trivial),(fun hg=>trivial),(fun hg=>trivial),(fun hg=>trivial),(fun hg=>slices_EqualFunc_Object_ok hrec_object_Same (gcall_ok hg hy2))⟩) ?_
  obtain hs:=Option.some.inj h; subst hs
  refine T_ret fun a w hm=>T_return (fr':=[(4,dB (bif z1 then y2 else false))]) [4] (by kernel_rfl) [.keep [4]] (by kernel_rfl) (by kernel_rfl) (by kernel_rfl) (by show _=_; kernel_rfl) (by exact trivial) a w hm
theorem object_Same_fuel_ok {F:Nat} (n:Nat):∀ {a0:S_Object} {a1:S_Object} {r:Bool},object_Same_fuel F n a0 a1=some r→ACall Tryd.prog 30 [.agg (cS_Object a0),.agg (cS_Object a1)] [] (.d (.v (.bool r))) []:=by
  induction n with
  | zero=>intro a0 a1 r h; exact absurd (show (none:Option Bool)=some r from h) (by simp)
  | succ n ih=>intro a0 a1 r h; exact object_Same_body_ok ih h
theorem object_Same_ok {F:Nat} {a0:S_Object} {a1:S_Object} {r:Bool} (h:object_Same F a0 a1=some r):ACall Tryd.prog 30 [.agg (cS_Object a0),.agg (cS_Object a1)] [] (.d (.v (.bool r))) []:=object_Same_fuel_ok F h
theorem slices_Index_string_ok {F:Nat} {a0:List (List UInt8)} {a1:List UInt8} {r:Int} (h:slices_Index_string F a0 a1=some r):ACall Tryd.prog 49 [.d (.sl 1 (a0.map cS)),.d (.str a1)] [] (.d (.v (.int .i64 r))) []:=by
  rw [slices_Index_string] at h
  refine ACall.intro (N:=19) Tryd.func49 rfl rfl rfl rfl rfl fun e=>?_
  refine T_reg [] [0,1] [] [] 1 (by kernel_rfl) (trivial) ?_
  refine T_seqk ?_
  refine T_reg [(1,{ rw:=some (dI (a0.length:Int)) })] [0,1,7,8] [(7,dI (a0.length:Int)),(8,dI (0:Int))] [(1,True∧dI ((a0.map cS).length:Int)=dI (a0.length:Int))] 1 (by kernel_rfl) (len_ok cS) ?_
  refine T_joinEt h (fun (p:Unit)=>[]) (fun s h hk1=>?_) (fun s h=>?_)
  · refine T_co [.keep [0,1,7,8]] ((fun (p:Int)=>[(0,.d (.sl 1 (a0.map cS))),(1,.d (.str a1)),(7,dI (a0.length:Int)),(8,dI p)]) (0:Int)) (by show _=_; kernel_rfl) ?_
    refine T_block ?_
    refine T_loopF (ι:=Int) (fun (p:Int)=>[(0,.d (.sl 1 (a0.map cS))),(1,.d (.str a1)),(7,dI (a0.length:Int)),(8,dI p)]) (fun n p=>slices_Index_string_L0 F a0 a1 n p=some s) (fun i hh=>by simp [slices_Index_string_L0] at hh) (fun n v1 h=>?_) F (0:Int) h
    have h:slices_Index_string_L0 F a0 a1 (n+1) v1=some s:=h
    rw [slices_Index_string_L0] at h
    refine T_reg [] [0,1,7,8,9] [(9,dB (decide (v1 < (a0.length:Int))))] [] 1 (by kernel_rfl) (trivial) ?_
    refine T_seqk ?_
    refine T_cond (decide (v1 < (a0.length:Int))) (by kernel_rfl) (fun hc=>?_) (fun hc=>?_)
    · have h:=cond_tt hc h
      refine T_skip fun a w hm=>then_norm (((?_:T Tryd.prog e 19 _ _ _) a w hm))
      refine T_seqk ?_
      refine T_block ?_
      refine T_reg [] [0,1,5,7,8] [(5,dI v1)] [] 2 (by kernel_rfl) (trivial) ?_
      obtain ⟨hp1,h⟩:=chk_ok h
      refine T_reg [(3,{ cs:=cS (a0.getD v1.toNat []) })] [0,1,5,7,8,16] [(16,dB (a1 == (a0.getD v1.toNat [])))] [(3,0≤v1∧(a0.map cS)[v1.toNat]? = some (cS (a0.getD v1.toNat [])))] 2 (by kernel_rfl) (idx_ok (d:=[]) cS hp1) ?_
      refine T_cond (a1 == (a0.getD v1.toNat [])) (by kernel_rfl) (fun hc=>?_) (fun hc=>?_)
      · have h:=cond_tt hc h
        refine T_reg [] [4] [(4,dI v1)] [] 2 (by kernel_rfl) (trivial) ?_
        obtain hs:=Option.some.inj h; subst hs
        have h:=callE_esc hk1
        obtain hs:=Option.some.inj h; subst hs
        refine T_ret fun a w hm=>inBlock_ret (then_ret (then_ret (inBlock_ret (then_ret (then_ret (T_return (fr':=[(4,dI v1)]) [4] (by kernel_rfl) [.keep [4]] (by kernel_rfl) (by kernel_rfl) (by kernel_rfl) (by show _=_; kernel_rfl) (by exact trivial) a w hm))))))
      · have h:=cond_ff hc h
        refine T_skip fun a w hm=>inBlock_norm (then_norm (((?_:T Tryd.prog e 19 _ _ _) a w hm)))
        refine T_reg_end [] [0,1,7,8] [(8,dI (IntKind.i64.wrap (v1+(1:Int))))] [] 2 (by kernel_rfl) (trivial) fun a w hm=>then_norm (⟨IntKind.i64.wrap (v1+(1:Int)),h,hm.co (cs:=[.keep [0,1,7,8]]) (by show _=_; kernel_rfl)⟩)
    · have h:=cond_ff hc h
      obtain hs:=Option.some.inj h; subst hs
      refine T_exit fun a w hm=>then_exit (then_exit (inBlock_exit (then_norm (⟨_,rfl,hm.co (cs:=[.keep []]) (by show _=_; kernel_rfl)⟩))))
  · skip
    refine fun a w hm=>then_norm (((?_:T Tryd.prog e 19 _ _ _) a w hm))
    refine T_reg [] [4] [(4,dI (-1:Int))] [] 1 (by kernel_rfl) (trivial) ?_
    obtain hs:=Option.some.inj h; subst hs
    refine T_ret fun a w hm=>T_return (fr':=[(4,dI (-1:Int))]) [4] (by kernel_rfl) [.keep [4]] (by kernel_rfl) (by kernel_rfl) (by kernel_rfl) (by show _=_; kernel_rfl) (by exact trivial) a w hm
theorem slices_Contains_string_ok {F:Nat} {a0:List (List UInt8)} {a1:List UInt8} {r:Bool} (h:slices_Contains_string F a0 a1=some r):ACall Tryd.prog 38 [.d (.sl 1 (a0.map cS)),.d (.str a1)] [] (.d (.v (.bool r))) []:=by
  rw [slices_Contains_string] at h
  refine ACall.intro (N:=9) Tryd.func38 rfl rfl rfl rfl rfl fun e=>?_
  refine T_reg [] [0,1] [] [] 1 (by kernel_rfl) (trivial) ?_
  obtain ⟨y1,hy1,h⟩:=call_ok h
  refine T_reg [(2,{ res:=dI y1 })] [4] [(4,dB (decide (y1 ≥ (0:Int))))] [(2,ACall Tryd.prog 49 [.d (.sl 1 (a0.map cS)),.d (.str a1)] [] (dI y1) [])] 2 (by kernel_rfl) (slices_Index_string_ok hy1) ?_
  obtain hs:=Option.some.inj h; subst hs
  refine T_ret fun a w hm=>T_return (fr':=[(4,dB (decide (y1 ≥ (0:Int))))]) [4] (by kernel_rfl) [.keep [4]] (by kernel_rfl) (by kernel_rfl) (by kernel_rfl) (by show _=_; kernel_rfl) (by exact trivial) a w hm
theorem ticket_limits_ok {F:Nat} {a0:S_TicketField} {r:Int} (h:ticket_limits F a0=some r):ACall Tryd.prog 31 [.agg (cS_TicketField a0)] [.glo 0 (glob_internal_strconv_uint64pow10.flatMap (cI .u64))] (.d (.v (.int .i64 r))) [.glo 0 (glob_internal_strconv_uint64pow10.flatMap (cI .u64))]:=by
  rw [ticket_limits] at h
  refine ACall.intro (N:=140) Tryd.func31 rfl rfl rfl rfl rfl fun e=>?_
  refine T_reg [] [1,1000000] [(1,bx_TicketField a0)] [] 2 (by kernel_rfl) (trivial) ?_
  obtain ⟨z1,hz1,h⟩:=lett_ok h
  refine T_reg [(12,{ rw:=some (dB z1) })] [1,3,1000000] [(3,dB z1)] [(4,((((a0.f1 == (0:Int)) == false) && true)=true→True)),(0,((((a0.f1 == (0:Int)) == false) && true)=true→True)),(0,((((a0.f1 == (0:Int)) == false) && true)=true→True)),(2,((((bif (a0.f1 == (0:Int)) then true else (a0.f1 == (1:Int))) == false) && true)=true→True)),(0,((((bif (a0.f1 == (0:Int)) then true else (a0.f1 == (1:Int))) == false) && true)=true→True)),(0,((((bif (a0.f1 == (0:Int)) then true else (a0.f1 == (1:Int))) == false) && true)=true→True)),(0,(True)∧dB (bif (bif (a0.f1 == (0:Int)) then true else (a0.f1 == (1:Int))) then true else (a0.f1 == (3:Int)))=dB z1)] 1 (by kernel_rfl) (⟨(fun hg=>trivial),(fun hg=>trivial),(fun hg=>trivial),(fun hg=>trivial),(fun hg=>trivial),(fun hg=>trivial),⟨trivial,(by subst hz1; rfl)⟩⟩) ?_
  refine T_reg [] [1,3,4,1000000] [(4,dB (bif (a0.f1 == (3:Int)) then true else (a0.f1 == (4:Int))))] [(4,((((a0.f1 == (3:Int)) == false) && true)=true→True)),(0,((((a0.f1 == (3:Int)) == false) && true)=true→True)),(0,((((a0.f1 == (3:Int)) == false) && true)=true→True))] 2 (by kernel_rfl) (⟨(fun hg=>trivial),(fun hg=>trivial),(fun hg=>trivial)⟩) ?_
  obtain ⟨z2,hz2,h⟩:=lett_ok h
  refine T_reg [(7,{ rw:=some (dI z2) })] [1,3,4,5,1000000] [(5,dI z2)] [(7,(True)∧dI ((mpGet [((0:Int),(2147483647:Int)),((1:Int),(128:Int)),((3:Int),(16:Int))] a0.f1).getD 0)=dI z2)] 1 (by kernel_rfl) (⟨trivial,(by subst hz2; rfl)⟩) ?_
  refine T_seqk ?_
  refine T_block ?_
  refine T_joinc h (fun (p:Bool)=>[(1,bx_TicketField a0),(3,dB z1),(5,dI z2),(34,dB p),(1000000,.glo 0 (glob_internal_strconv_uint64pow10.flatMap (cI .u64)))]) (fun s h=>?_) (fun v2 h=>?_)
  · refine T_reg [] [1,3,4,5,34,1000000] [(34,dB (bif (!z1) then (bif (a0.f2 != (0:Int)) then true else (a0.f3 != (0:Int))) else false))] [(3,((((!z1) == true) && true)=true→True)),(0,((((!z1) == true) && true)=true→True)),(0,((((!z1) == true) && true)=true→True)),(0,((((!z1) == true) && true)=true→True)),(0,((((a0.f2 != (0:Int)) == false) && (((!z1) == true) && true))=true→True)),(0,((((a0.f2 != (0:Int)) == false) && (((!z1) == true) && true))=true→True)),(0,((((a0.f2 != (0:Int)) == false) && (((!z1) == true) && true))=true→True)),(0,((((!z1) == true) && true)=true→True))] 2 (by kernel_rfl) (⟨(fun hg=>trivial),(fun hg=>trivial),(fun hg=>trivial),(fun hg=>trivial),(fun hg=>trivial),(fun hg=>trivial),(fun hg=>trivial),(fun hg=>trivial)⟩) ?_
    refine T_cond (bif (!z1) then (bif (a0.f2 != (0:Int)) then true else (a0.f3 != (0:Int))) else false) (by kernel_rfl) (fun hc=>?_) (fun hc=>?_)
    · have h:=cond_tt hc h
      obtain hs:=Option.some.inj h; subst hs
      refine T_skip fun a w hm=>then_norm (hm.co (cs:=[.keep [1,3,5,34,1000000]]) (by show _=_; kernel_rfl))
    · have h:=cond_ff hc h
      refine T_reg [(6,{ rw:=some (dI (a0.f4.length:Int)) })] [1,3,4,5,34,1000000] [(34,dB (bif (a0.f1 != (2:Int)) then (decide ((a0.f4.length:Int) > (0:Int))) else false))] [(4,((((a0.f1 != (2:Int)) == true) && true)=true→True)),(0,((((a0.f1 != (2:Int)) == true) && true)=true→True)),(0,((((a0.f1 != (2:Int)) == true) && true)=true→True∧dI ((a0.f4.map cS).length:Int)=dI (a0.f4.length:Int))),(0,((((a0.f1 != (2:Int)) == true) && true)=true→True))] 2 (by kernel_rfl) (⟨(fun hg=>trivial),(fun hg=>trivial),(fun hg=>len_ok cS),(fun hg=>trivial)⟩) ?_
      refine T_cond (bif (a0.f1 != (2:Int)) then (decide ((a0.f4.length:Int) > (0:Int))) else false) (by kernel_rfl) (fun hc=>?_) (fun hc=>?_)
      · have h:=cond_tt hc h
        obtain hs:=Option.some.inj h; subst hs
        refine T_skip fun a w hm=>then_norm (hm.co (cs:=[.keep [1,3,5,34,1000000]]) (by show _=_; kernel_rfl))
      · have h:=cond_ff hc h
        obtain ⟨z3,hz3,h⟩:=lett_ok h
        obtain hs:=Option.some.inj h; subst hs
        refine T_reg_end [(5,{ rw:=some (dI (a0.f5.length:Int)) }),(7,{ rw:=some (dB z3) })] [1,3,5,34,1000000] [(34,dB z3)] [(3,((((!(bif (a0.f1 == (3:Int)) then true else (a0.f1 == (4:Int)))) == true) && true)=true→True)),(0,((((!(bif (a0.f1 == (3:Int)) then true else (a0.f1 == (4:Int)))) == true) && true)=true→True)),(0,((((!(bif (a0.f1 == (3:Int)) then true else (a0.f1 == (4:Int)))) == true) && true)=true→True∧dI ((a0.f5.map rS_TicketField).length:Int)=dI (a0.f5.length:Int))),(0,((((!(bif (a0.f1 == (3:Int)) then true else (a0.f1 == (4:Int)))) == true) && true)=true→True)),(0,(True)∧dB (bif (!(bif (a0.f1 == (3:Int)) then true else (a0.f1 == (4:Int)))) then (decide ((a0.f5.length:Int) > (0:Int))) else false)=dB z3)] 1 (by kernel_rfl) (⟨(fun hg=>trivial),(fun hg=>trivial),(fun hg=>len_ok rS_TicketField),(fun hg=>trivial),⟨trivial,(by subst hz3; rfl)⟩⟩) fun a w hm=>then_norm (hm.co (cs:=[.keep [1,3,5,34,1000000]]) (by show _=_; kernel_rfl))
  · skip
    refine T_cond v2 (by kernel_rfl) (fun hc=>?_) (fun hc=>?_)
    · have h:=cond_tt hc h
      refine T_reg [] [2,1000000] [(2,dI (4:Int))] [] 1 (by kernel_rfl) (trivial) ?_
      obtain hs:=Option.some.inj h; subst hs
      refine T_ret fun a w hm=>inBlock_ret (then_ret (T_return (fr':=[(2,dI (4:Int)),(1000000,.glo 0 (glob_internal_strconv_uint64pow10.flatMap (cI .u64)))]) [2] (by kernel_rfl) [.keep [2,1000000]] (by kernel_rfl) (by kernel_rfl) (by kernel_rfl) (by show _=_; kernel_rfl) (by exact ⟨⟨by kernel_rfl,by kernel_rfl⟩,trivial⟩) a w hm))
    · have h:=cond_ff hc h
      refine T_reg [(6,{ rw:=some (dI (a0.f5.length:Int)) })] [1,3,5,64,1000000] [(64,dB (bif (a0.f1 == (3:Int)) then ((a0.f5.length:Int) != (1:Int)) else false))] [(4,((((a0.f1 == (3:Int)) == true) && true)=true→True)),(0,((((a0.f1 == (3:Int)) == true) && true)=true→True)),(0,((((a0.f1 == (3:Int)) == true) && true)=true→True∧dI ((a0.f5.map rS_TicketField).length:Int)=dI (a0.f5.length:Int))),(0,((((a0.f1 == (3:Int)) == true) && true)=true→True))] 2 (by kernel_rfl) (⟨(fun hg=>trivial),(fun hg=>trivial),(fun hg=>len_ok rS_TicketField),(fun hg=>trivial)⟩) ?_
      refine T_cond (bif (a0.f1 == (3:Int)) then ((a0.f5.length:Int) != (1:Int)) else false) (by kernel_rfl) (fun hc=>?_) (fun hc=>?_)
      · have h:=cond_tt hc h
        refine T_reg [] [2,1000000] [(2,dI (4:Int))] [] 1 (by kernel_rfl) (trivial) ?_
        obtain hs:=Option.some.inj h; subst hs
        refine T_ret fun a w hm=>inBlock_ret (then_ret (T_return (fr':=[(2,dI (4:Int)),(1000000,.glo 0 (glob_internal_strconv_uint64pow10.flatMap (cI .u64)))]) [2] (by kernel_rfl) [.keep [2,1000000]] (by kernel_rfl) (by kernel_rfl) (by kernel_rfl) (by show _=_; kernel_rfl) (by exact ⟨⟨by kernel_rfl,by kernel_rfl⟩,trivial⟩) a w hm))
      · have h:=cond_ff hc h
        refine T_joinc h (fun (p:Bool)=>[(1,bx_TicketField a0),(74,dB p),(1000000,.glo 0 (glob_internal_strconv_uint64pow10.flatMap (cI .u64)))]) (fun s h=>?_) (fun v3 h=>?_)
        · refine T_reg [] [1,5,74,1000000] [(74,dB (bif z1 then (bif (decide (a0.f2 > a0.f3)) then true else (decide (a0.f3 > z2))) else false))] [(2,(((z1 == true) && true)=true→True)),(0,(((z1 == true) && true)=true→True)),(0,(((z1 == true) && true)=true→True)),(0,(((z1 == true) && true)=true→True)),(0,(((z1 == true) && true)=true→True)),(0,(((z1 == true) && true)=true→True)),(0,((((decide (a0.f2 > a0.f3)) == false) && ((z1 == true) && true))=true→True)),(0,((((decide (a0.f2 > a0.f3)) == false) && ((z1 == true) && true))=true→True)),(0,((((decide (a0.f2 > a0.f3)) == false) && ((z1 == true) && true))=true→True)),(0,((((decide (a0.f2 > a0.f3)) == false) && ((z1 == true) && true))=true→True)),(0,(((z1 == true) && true)=true→True))] 2 (by kernel_rfl) (⟨(fun hg=>trivial),(fun hg=>trivial),(fun hg=>trivial),(fun hg=>trivial),(fun hg=>trivial),(fun hg=>trivial),(fun hg=>trivial),(fun hg=>trivial),(fun hg=>trivial),(fun hg=>trivial),(fun hg=>trivial)⟩) ?_
          refine T_cond (bif z1 then (bif (decide (a0.f2 > a0.f3)) then true else (decide (a0.f3 > z2))) else false) (by kernel_rfl) (fun hc=>?_) (fun hc=>?_)
          · have h:=cond_tt hc h
            obtain hs:=Option.some.inj h; subst hs
            refine T_skip fun a w hm=>then_norm (hm.co (cs:=[.keep [1,74,1000000]]) (by show _=_; kernel_rfl))
          · have h:=cond_ff hc h
            refine T_reg [] [1,74,1000000] [(74,dB (bif (a0.f1 == (0:Int)) then (decide (a0.f2 < (IntKind.i64.wrap (0 - z2)))) else false))] [(4,((((a0.f1 == (0:Int)) == true) && true)=true→True)),(0,((((a0.f1 == (0:Int)) == true) && true)=true→True)),(0,((((a0.f1 == (0:Int)) == true) && true)=true→True)),(0,((((a0.f1 == (0:Int)) == true) && true)=true→True)),(0,((((a0.f1 == (0:Int)) == true) && true)=true→True))] 2 (by kernel_rfl) (⟨(fun hg=>trivial),(fun hg=>trivial),(fun hg=>trivial),(fun hg=>trivial),(fun hg=>trivial)⟩) ?_
            refine T_cond (bif (a0.f1 == (0:Int)) then (decide (a0.f2 < (IntKind.i64.wrap (0 - z2)))) else false) (by kernel_rfl) (fun hc=>?_) (fun hc=>?_)
            · have h:=cond_tt hc h
              obtain hs:=Option.some.inj h; subst hs
              refine T_skip fun a w hm=>then_norm (hm.co (cs:=[.keep [1,74,1000000]]) (by show _=_; kernel_rfl))
            · have h:=cond_ff hc h
              obtain hs:=Option.some.inj h; subst hs
              refine T_reg_end [] [1,74,1000000] [(74,dB (bif (a0.f1 != (0:Int)) then (decide (a0.f2 < (0:Int))) else false))] [(4,((((a0.f1 != (0:Int)) == true) && true)=true→True)),(0,((((a0.f1 != (0:Int)) == true) && true)=true→True)),(0,((((a0.f1 != (0:Int)) == true) && true)=true→True))] 2 (by kernel_rfl) (⟨(fun hg=>trivial),(fun hg=>trivial),(fun hg=>trivial)⟩) fun a w hm=>then_norm (hm.co (cs:=[.keep [1,74,1000000]]) (by show _=_; kernel_rfl))
        · skip
          refine T_cond v3 (by kernel_rfl) (fun hc=>?_) (fun hc=>?_)
          · have h:=cond_tt hc h
            refine T_reg [] [2,1000000] [(2,dI (3:Int))] [] 1 (by kernel_rfl) (trivial) ?_
            obtain hs:=Option.some.inj h; subst hs
            refine T_ret fun a w hm=>inBlock_ret (then_ret (T_return (fr':=[(2,dI (3:Int)),(1000000,.glo 0 (glob_internal_strconv_uint64pow10.flatMap (cI .u64)))]) [2] (by kernel_rfl) [.keep [2,1000000]] (by kernel_rfl) (by kernel_rfl) (by kernel_rfl) (by show _=_; kernel_rfl) (by exact ⟨⟨by kernel_rfl,by kernel_rfl⟩,trivial⟩) a w hm))
          · have h:=cond_ff hc h
            refine T_reg [(6,{ rw:=some (dI (a0.f4.length:Int)) })] [1,107,1000000] [(107,dB (bif (a0.f1 == (2:Int)) then ((a0.f4.length:Int) == (0:Int)) else false))] [(4,((((a0.f1 == (2:Int)) == true) && true)=true→True)),(0,((((a0.f1 == (2:Int)) == true) && true)=true→True)),(0,((((a0.f1 == (2:Int)) == true) && true)=true→True∧dI ((a0.f4.map cS).length:Int)=dI (a0.f4.length:Int))),(0,((((a0.f1 == (2:Int)) == true) && true)=true→True))] 2 (by kernel_rfl) (⟨(fun hg=>trivial),(fun hg=>trivial),(fun hg=>len_ok cS),(fun hg=>trivial)⟩) ?_
            refine T_cond (bif (a0.f1 == (2:Int)) then ((a0.f4.length:Int) == (0:Int)) else false) (by kernel_rfl) (fun hc=>?_) (fun hc=>?_)
            · have h:=cond_tt hc h
              refine T_reg [] [2,1000000] [(2,dI (8:Int))] [] 1 (by kernel_rfl) (trivial) ?_
              obtain hs:=Option.some.inj h; subst hs
              refine T_ret fun a w hm=>inBlock_ret (then_ret (T_return (fr':=[(2,dI (8:Int)),(1000000,.glo 0 (glob_internal_strconv_uint64pow10.flatMap (cI .u64)))]) [2] (by kernel_rfl) [.keep [2,1000000]] (by kernel_rfl) (by kernel_rfl) (by kernel_rfl) (by show _=_; kernel_rfl) (by exact ⟨⟨by kernel_rfl,by kernel_rfl⟩,trivial⟩) a w hm))
            · have h:=cond_ff hc h
              refine T_reg [(2,{ rw:=some (dI (a0.f4.length:Int)) })] [1,117,1000000] [(117,dB (decide ((a0.f4.length:Int) > (16:Int))))] [(2,True∧dI ((a0.f4.map cS).length:Int)=dI (a0.f4.length:Int))] 2 (by kernel_rfl) (len_ok cS) ?_
              refine T_cond (decide ((a0.f4.length:Int) > (16:Int))) (by kernel_rfl) (fun hc=>?_) (fun hc=>?_)
              · have h:=cond_tt hc h
                refine T_reg [] [2,1000000] [(2,dI (2:Int))] [] 1 (by kernel_rfl) (trivial) ?_
                obtain hs:=Option.some.inj h; subst hs
                refine T_ret fun a w hm=>inBlock_ret (then_ret (T_return (fr':=[(2,dI (2:Int)),(1000000,.glo 0 (glob_internal_strconv_uint64pow10.flatMap (cI .u64)))]) [2] (by kernel_rfl) [.keep [2,1000000]] (by kernel_rfl) (by kernel_rfl) (by kernel_rfl) (by show _=_; kernel_rfl) (by exact ⟨⟨by kernel_rfl,by kernel_rfl⟩,trivial⟩) a w hm))
              · have h:=cond_ff hc h
                refine T_skip fun a w hm=>inBlock_norm (then_norm (((?_:T Tryd.prog e 140 _ _ _) a w hm)))
                refine T_seqk ?_
                refine T_reg [(2,{ rw:=some (dI (a0.f4.length:Int)) })] [1,123,124,125,1000000] [(123,.d (.sl 1 (a0.f4.map cS))),(124,dI (a0.f4.length:Int)),(125,dI (0:Int))] [(2,True∧dI ((a0.f4.map cS).length:Int)=dI (a0.f4.length:Int))] 1 (by kernel_rfl) (len_ok cS) ?_
                refine T_joinEt h (fun (p:Unit)=>[(1000000,.glo 0 (glob_internal_strconv_uint64pow10.flatMap (cI .u64)))]) (fun s h hk1=>?_) (fun s h=>?_)
                · refine T_co [.keep [1,123,124,125,1000000]] ((fun (p:Int)=>[(1,bx_TicketField a0),(123,.d (.sl 1 (a0.f4.map cS))),(124,dI (a0.f4.length:Int)),(125,dI p),(1000000,.glo 0 (glob_internal_strconv_uint64pow10.flatMap (cI .u64)))]) (0:Int)) (by show _=_; kernel_rfl) ?_
                  refine T_block ?_
                  refine T_loopF (ι:=Int) (fun (p:Int)=>[(1,bx_TicketField a0),(123,.d (.sl 1 (a0.f4.map cS))),(124,dI (a0.f4.length:Int)),(125,dI p),(1000000,.glo 0 (glob_internal_strconv_uint64pow10.flatMap (cI .u64)))]) (fun n p=>ticket_limits_L1 F a0 n p=some s) (fun i hh=>by simp [ticket_limits_L1] at hh) (fun n v1 h=>?_) F (0:Int) h
                  have h:ticket_limits_L1 F a0 (n+1) v1=some s:=h
                  rw [ticket_limits_L1] at h
                  refine T_reg [] [1,123,124,125,126,1000000] [(126,dB (decide (v1 < (a0.f4.length:Int))))] [] 1 (by kernel_rfl) (trivial) ?_
                  refine T_seqk ?_
                  refine T_cond (decide (v1 < (a0.f4.length:Int))) (by kernel_rfl) (fun hc=>?_) (fun hc=>?_)
                  · have h:=cond_tt hc h
                    refine T_skip fun a w hm=>then_norm (((?_:T Tryd.prog e 140 _ _ _) a w hm))
                    refine T_seqk ?_
                    refine T_block ?_
                    obtain ⟨hp1,h⟩:=chk_ok h
                    refine T_reg [(1,{ cs:=cS (a0.f4.getD v1.toNat []) })] [1,6,7,123,124,125,1000000] [(6,dI v1),(7,.d (.str (a0.f4.getD v1.toNat [])))] [(1,0≤v1∧(a0.f4.map cS)[v1.toNat]? = some (cS (a0.f4.getD v1.toNat [])))] 3 (by kernel_rfl) (idx_ok (d:=[]) cS hp1) ?_
                    refine T_seqk ?_
                    obtain ⟨y1,hy1,h⟩:=call_ok h
                    refine T_reg [(1,{ res:=dB y1,vout:=[.glo 0 (glob_internal_strconv_uint64pow10.flatMap (cI .u64))],xs:=[1000000] })] [1,6,7,123,124,125,132,1000000] [(132,dB (!y1))] [(1,ACall Tryd.prog 29 [.d (.str (a0.f4.getD v1.toNat []))] [.glo 0 (glob_internal_strconv_uint64pow10.flatMap (cI .u64))] (dB y1) [.glo 0 (glob_internal_strconv_uint64pow10.flatMap (cI .u64))])] 1 (by kernel_rfl) (ticket_name_ok hy1) ?_
                    refine T_cond (!y1) (by kernel_rfl) (fun hc=>?_) (fun hc=>?_)
                    · have h:=cond_tt hc h
                      refine T_reg [] [2,1000000] [(2,dI (6:Int))] [] 1 (by kernel_rfl) (trivial) ?_
                      obtain hs:=Option.some.inj h; subst hs
                      have h:=callE_esc hk1
                      obtain hs:=Option.some.inj h; subst hs
                      refine T_ret fun a w hm=>then_ret (inBlock_ret (then_ret (then_ret (inBlock_ret (then_ret (then_ret (T_return (fr':=[(2,dI (6:Int)),(1000000,.glo 0 (glob_internal_strconv_uint64pow10.flatMap (cI .u64)))]) [2] (by kernel_rfl) [.keep [2,1000000]] (by kernel_rfl) (by kernel_rfl) (by kernel_rfl) (by show _=_; kernel_rfl) (by exact ⟨⟨by kernel_rfl,by kernel_rfl⟩,trivial⟩) a w hm)))))))
                    · have h:=cond_ff hc h
                      refine T_skip fun a w hm=>then_norm (((?_:T Tryd.prog e 140 _ _ _) a w hm))
                      obtain ⟨hp2,h⟩:=chk_ok h
                      obtain ⟨y2,hy2,h⟩:=call_ok h
                      refine T_reg [(3,{ rw:=some (.d (.sl 1 (((a0.f4.drop (0:Int).toNat).take (v1.toNat - (0:Int).toNat)).map cS))) }),(5,{ res:=dB y2 })] [1,123,124,125,138,1000000] [(138,dB y2)] [(3,(0≤(0:Int)∧(0:Int)≤v1∧v1≤((a0.f4.map cS).length:Int))∧AV.d (.sl 1 (((a0.f4.map cS).drop (0:Int).toNat).take (v1.toNat - (0:Int).toNat)))=.d (.sl 1 (((a0.f4.drop (0:Int).toNat).take (v1.toNat - (0:Int).toNat)).map cS))),(1,ACall Tryd.prog 38 [.d (.sl 1 (((a0.f4.drop (0:Int).toNat).take (v1.toNat - (0:Int).toNat)).map cS)),.d (.str (a0.f4.getD v1.toNat []))] [] (dB y2) [])] 0 (by kernel_rfl) (⟨cutH cS hp2,slices_Contains_string_ok hy2⟩) ?_
                      refine T_cond y2 (by kernel_rfl) (fun hc=>?_) (fun hc=>?_)
                      · have h:=cond_tt hc h
                        refine T_reg [] [2,1000000] [(2,dI (7:Int))] [] 1 (by kernel_rfl) (trivial) ?_
                        obtain hs:=Option.some.inj h; subst hs
                        have h:=callE_esc hk1
                        obtain hs:=Option.some.inj h; subst hs
                        refine T_ret fun a w hm=>inBlock_ret (then_ret (then_ret (inBlock_ret (then_ret (then_ret (T_return (fr':=[(2,dI (7:Int)),(1000000,.glo 0 (glob_internal_strconv_uint64pow10.flatMap (cI .u64)))]) [2] (by kernel_rfl) [.keep [2,1000000]] (by kernel_rfl) (by kernel_rfl) (by kernel_rfl) (by show _=_; kernel_rfl) (by exact ⟨⟨by kernel_rfl,by kernel_rfl⟩,trivial⟩) a w hm))))))
                      · have h:=cond_ff hc h
                        refine T_skip fun a w hm=>inBlock_norm (then_norm (((?_:T Tryd.prog e 140 _ _ _) a w hm)))
                        refine T_reg_end [] [1,123,124,125,1000000] [(125,dI (IntKind.i64.wrap (v1+(1:Int))))] [] 2 (by kernel_rfl) (trivial) fun a w hm=>then_norm (⟨IntKind.i64.wrap (v1+(1:Int)),h,hm.co (cs:=[.keep [1,123,124,125,1000000]]) (by show _=_; kernel_rfl)⟩)
                  · have h:=cond_ff hc h
                    obtain hs:=Option.some.inj h; subst hs
                    refine T_exit fun a w hm=>then_exit (then_exit (inBlock_exit (then_norm (⟨_,rfl,hm.co (cs:=[.keep [1000000]]) (by show _=_; kernel_rfl)⟩))))
                · skip
                  refine fun a w hm=>then_norm (((?_:T Tryd.prog e 140 _ _ _) a w hm))
                  refine T_reg [] [2,1000000] [(2,dI (0:Int))] [] 1 (by kernel_rfl) (trivial) ?_
                  obtain hs:=Option.some.inj h; subst hs
                  refine T_ret fun a w hm=>T_return (fr':=[(2,dI (0:Int)),(1000000,.glo 0 (glob_internal_strconv_uint64pow10.flatMap (cI .u64)))]) [2] (by kernel_rfl) [.keep [2,1000000]] (by kernel_rfl) (by kernel_rfl) (by kernel_rfl) (by show _=_; kernel_rfl) (by exact ⟨⟨by kernel_rfl,by kernel_rfl⟩,trivial⟩) a w hm
theorem slices_Clone_string_ok {F:Nat} {a0:List (List UInt8)} {r:(List (List UInt8))} (h:slices_Clone_string F a0=some r):ACall Tryd.prog 37 [.d (.sl 1 (a0.map cS))] [] (.own 9 1 (r.map cS)) []:=by
  rw [slices_Clone_string] at h
  refine ACall.intro (N:=8) Tryd.func37 rfl rfl rfl rfl rfl fun e=>?_
  refine T_reg [] [0] [] [] 1 (by kernel_rfl) (trivial) ?_
  refine T_seqk ?_
  refine T_nilTest (sz:=1) (es:=(a0.map cS)) 0 3 4 22 (by kernel_rfl) (by kernel_rfl) (by kernel_rfl) (by kernel_rfl) [0] [(0,.d (.sl 1 (a0.map cS)))] (fun _=>by kernel_rfl) (fun hnil=>?_) ?_
  · replace hnil:=List.map_eq_nil_iff.1 hnil
    have h:(some [])=some r:=by subst hnil; exact h
    refine T_reg [] [2] [(2,oW0 [])] [] 1 (by kernel_rfl) (trivial) ?_
    obtain hs:=Option.some.inj h; subst hs
    refine T_ret fun a w hm=>then_ret (T_return (fr':=[(2,oW0 [])]) [2] (by kernel_rfl) [.keep [2]] (by kernel_rfl) (by kernel_rfl) (by kernel_rfl) (by show _=_; kernel_rfl) (by exact trivial) a w hm)
  · skip
    refine T_skip fun a w hm=>then_norm (((?_:T Tryd.prog e 8 _ _ _) a w hm))
    obtain ⟨hp1,h⟩:=chk_ok h
    refine T_reg [(2,{ es:=some ((([]:List (List UInt8))++a0).map cS) })] [2] [(2,.own 9 1 ((([]:List (List UInt8))++a0).map cS))] [(0,([]:List (List Dat))=[]),(1,(([]:List (List UInt8)).map cS).length+(a0.map cS).length≤4294967296∧(([]:List (List UInt8)).map cS)++(a0.map cS)=((([]:List (List UInt8))++a0).map cS))] 1 (by kernel_rfl) (⟨rfl,app_ok cS hp1⟩) ?_
    obtain hs:=Option.some.inj h; subst hs
    refine T_ret fun a w hm=>T_return (fr':=[(2,.own 9 1 ((([]:List (List UInt8))++a0).map cS))]) [2] (by kernel_rfl) [.keep [2]] (by kernel_rfl) (by kernel_rfl) (by kernel_rfl) (by show _=_; kernel_rfl) (by exact trivial) a w hm
theorem ticket_findings_c1_ok {F:Nat} {a0:Int} {c1:List (List UInt8)} {r:(List S_TicketFinding)×(List (List UInt8))} (h:ticket_findings_c1 F a0 c1=some r):ACall Tryd.prog 36 [.d (.v (.int .i64 a0)),.bp 1000000 0] [.box [.d (.sl 1 (c1.map cS))]] (.own 45 2 (r.1.map cS_TicketFinding)) [.box [.d (.sl 1 (r.2.map cS))]]:=by
  rw [ticket_findings_c1] at h
  refine ACall.intro (N:=9) Tryd.func36 rfl rfl rfl rfl rfl fun e=>?_
  refine T_reg [] [0,1,1000000] [] [] 1 (by kernel_rfl) (trivial) ?_
  obtain ⟨y1,hy1,h⟩:=call_ok h
  refine T_reg [(1,{ res:=oW0 y1 }),(3,{ frz:=[(5,0)] }),(4,{ es:=some (([(S_TicketFinding.mk y1 a0)]).map cS_TicketFinding) })] [3,1000000] [(3,.own 45 2 (([(S_TicketFinding.mk y1 a0)]).map cS_TicketFinding))] [(1,ACall Tryd.prog 37 [.d (.sl 1 (c1.map cS))] [] (oW0 y1) []),(2,(([(S_TicketFinding.mk y1 a0)]).map cS_TicketFinding)=(([(S_TicketFinding.mk y1 a0)]).map cS_TicketFinding))] 1 (by kernel_rfl) (⟨slices_Clone_string_ok hy1,rfl⟩) ?_
  obtain hs:=Option.some.inj h; subst hs
  refine T_ret fun a w hm=>T_return (fr':=[(3,.own 45 2 (([(S_TicketFinding.mk y1 a0)]).map cS_TicketFinding)),(1000000,.box [.d (.sl 1 (c1.map cS))])]) [3] (by kernel_rfl) [.keep [3,1000000]] (by kernel_rfl) (by kernel_rfl) (by kernel_rfl) (by show _=_; kernel_rfl) (by exact ⟨⟨by kernel_rfl,by kernel_rfl⟩,trivial⟩) a w hm
theorem ticket_record_c1_ok {F:Nat} {a0:List UInt8} {c1:List (List UInt8)} {r:(List (List UInt8))×(List (List UInt8))} (h:ticket_record_c1 F a0 c1=some r):ACall Tryd.prog 50 [.d (.str a0),.bp 1000000 0] [.box [.d (.sl 1 (c1.map cS))]] (.own 9 1 (r.1.map cS)) [.box [.d (.sl 1 (r.2.map cS))]]:=by
  rw [ticket_record_c1] at h
  refine ACall.intro (N:=9) Tryd.func50 rfl rfl rfl rfl rfl fun e=>?_
  refine T_reg [] [0,1,1000000] [] [] 1 (by kernel_rfl) (trivial) ?_
  obtain ⟨y1,hy1,h⟩:=call_ok h
  obtain ⟨hp1,h⟩:=chk_ok h
  refine T_reg [(1,{ res:=oW0 y1 }),(3,{ es:=some (([a0]).map cS) }),(4,{ es:=some ((y1++([a0])).map cS) })] [3,1000000] [(3,.own 9 1 ((y1++([a0])).map cS))] [(1,ACall Tryd.prog 37 [.d (.sl 1 (c1.map cS))] [] (oW0 y1) []),(1,(([a0]).map cS)=(([a0]).map cS)),(0,(y1.map cS).length+(([a0]).map cS).length≤4294967296∧(y1.map cS)++(([a0]).map cS)=((y1++([a0])).map cS))] 1 (by kernel_rfl) (⟨slices_Clone_string_ok hy1,rfl,app_ok cS hp1⟩) ?_
  obtain hs:=Option.some.inj h; subst hs
  refine T_ret fun a w hm=>T_return (fr':=[(3,.own 9 1 ((y1++([a0])).map cS)),(1000000,.box [.d (.sl 1 (c1.map cS))])]) [3] (by kernel_rfl) [.keep [3,1000000]] (by kernel_rfl) (by kernel_rfl) (by kernel_rfl) (by show _=_; kernel_rfl) (by exact ⟨⟨by kernel_rfl,by kernel_rfl⟩,trivial⟩) a w hm
set_option maxHeartbeats 8000000 in
set_option maxRecDepth 100000 in
theorem ticket_record_v1_ok {F:Nat} {rec_ticket_findings:S_TicketField→S_Object→(List (List UInt8))→Option ((List S_TicketFinding))} (hrec_ticket_findings:∀ {a0:S_TicketField},∀ {a1:S_Object},∀ {a2:List (List UInt8)},∀ {r:(List S_TicketFinding)},rec_ticket_findings a0 a1 a2=some r→ACall Tryd.prog 21 [.agg (cS_TicketField a0),.agg (cS_Object a1),.d (.sl 1 (a2.map cS))] [.glo 0 (glob_internal_strconv_uint64pow10.flatMap (cI .u64))] (.own 45 2 (r.map cS_TicketFinding)) [.glo 0 (glob_internal_strconv_uint64pow10.flatMap (cI .u64))]) {a0:S_TicketField} {a1:S_Object} {a2:List (List UInt8)} {r:(List S_TicketFinding)} (h:ticket_record_v1 F rec_ticket_findings a0 a1 a2=some r):ACall Tryd.prog 39 [.agg (cS_TicketField a0),.agg (cS_Object a1),.d (.sl 1 (a2.map cS))] [.glo 0 (glob_internal_strconv_uint64pow10.flatMap (cI .u64))] (.own 45 2 (r.map cS_TicketFinding)) [.glo 0 (glob_internal_strconv_uint64pow10.flatMap (cI .u64))]:=by
  rw [ticket_record_v1] at h
  refine ACall.intro (N:=130) Tryd.func39 rfl rfl rfl rfl rfl fun e=>?_
  refine T_reg [] [3,4,5,1000000] [(3,bx_TicketField a0),(4,bx_Object a1),(5,.box [.d (.sl 1 (a2.map cS))])] [] 4 (by kernel_rfl) (trivial) ?_
  refine T_reg [] [3,4,5,7,1000000] [(7,oW5 [])] [] 1 (by kernel_rfl) (trivial) ?_
  refine T_reg [] [3,4,5,7,8,1000000] [(8,.clo 50 [.bp 5 0])] [] 2 (by kernel_rfl) (trivial) ?_
  refine T_reg [] [3,4,5,7,8,9,10,1000000] [(9,dI (0:Int)),(10,dI (0:Int))] [] 2 (by kernel_rfl) (trivial) ?_
  refine T_joinc h (fun (p:(List S_TicketFinding))=>[(7,oW5 p),(1000000,.glo 0 (glob_internal_strconv_uint64pow10.flatMap (cI .u64)))]) (fun s h=>?_) (fun v7 h=>?_)
  · refine T_co [.keep [3,4,5,7,8,9,10,1000000]] ((fun (p:(List (List UInt8))×(List S_TicketFinding)×Int×Int)=>[(3,bx_TicketField a0),(4,bx_Object a1),(5,.box [.d (.sl 1 (p.1.map cS))]),(7,oW5 p.2.1),(8,.clo 50 [.bp 5 0]),(9,dI p.2.2.1),(10,dI p.2.2.2),(1000000,.glo 0 (glob_internal_strconv_uint64pow10.flatMap (cI .u64)))]) (a2,[],(0:Int),(0:Int))) (by show _=_; kernel_rfl) ?_
    refine T_block ?_
    refine T_loopF (ι:=(List (List UInt8))×(List S_TicketFinding)×Int×Int) (fun (p:(List (List UInt8))×(List S_TicketFinding)×Int×Int)=>[(3,bx_TicketField a0),(4,bx_Object a1),(5,.box [.d (.sl 1 (p.1.map cS))]),(7,oW5 p.2.1),(8,.clo 50 [.bp 5 0]),(9,dI p.2.2.1),(10,dI p.2.2.2),(1000000,.glo 0 (glob_internal_strconv_uint64pow10.flatMap (cI .u64)))]) (fun n p=>ticket_record_v1_L0 F a0 a1 rec_ticket_findings n p.1 p.2.1 p.2.2.1 p.2.2.2=some s) (fun i hh=>by simp [ticket_record_v1_L0] at hh) (fun n p h=>?_) F (a2,[],(0:Int),(0:Int)) h
    obtain ⟨v1,v2,v3,v4⟩:=p
    have h:ticket_record_v1_L0 F a0 a1 rec_ticket_findings (n+1) v1 v2 v3 v4=some s:=h
    rw [ticket_record_v1_L0] at h
    refine T_seqk ?_
    refine T_reg [(3,{ rw:=some (dI (a0.f5.length:Int)) }),(9,{ rw:=some (dI (a1.f3.length:Int)) })] [3,4,5,7,8,9,10,23,1000000] [(23,dB (bif (decide (v3 < (a0.f5.length:Int))) then true else (decide (v4 < (a1.f3.length:Int)))))] [(3,True∧dI ((a0.f5.map rS_TicketField).length:Int)=dI (a0.f5.length:Int)),(2,((((decide (v3 < (a0.f5.length:Int))) == false) && true)=true→True)),(0,((((decide (v3 < (a0.f5.length:Int))) == false) && true)=true→True)),(0,((((decide (v3 < (a0.f5.length:Int))) == false) && true)=true→True)),(0,((((decide (v3 < (a0.f5.length:Int))) == false) && true)=true→True∧dI ((a1.f3.map cS).length:Int)=dI (a1.f3.length:Int))),(0,((((decide (v3 < (a0.f5.length:Int))) == false) && true)=true→True))] 1 (by kernel_rfl) (⟨len_ok rS_TicketField,(fun hg=>trivial),(fun hg=>trivial),(fun hg=>trivial),(fun hg=>len_ok cS),(fun hg=>trivial)⟩) ?_
    refine T_cond (bif (decide (v3 < (a0.f5.length:Int))) then true else (decide (v4 < (a1.f3.length:Int)))) (by kernel_rfl) (fun hc=>?_) (fun hc=>?_)
    · have h:=cond_tt hc h
      refine T_skip fun a w hm=>then_norm (((?_:T Tryd.prog e 130 _ _ _) a w hm))
      refine T_block ?_
      refine T_block ?_
      obtain ⟨hp1,h⟩:=chk_ok h
      obtain ⟨hp2,h⟩:=chk_ok h
      obtain ⟨z1,hz1,h⟩:=lett_ok h
      obtain ⟨z2,hz2,h⟩:=lett_ok h
      refine T_draw mixed [(3,{ rw:=some (dI (a1.f3.length:Int)) }),(9,{ rw:=some (dI (a0.f5.length:Int)) }),(15,{ cs:=cS_TicketField (a0.f5.getD v3.toNat z_TicketField) }),(21,{ cs:=cS (a1.f3.getD v4.toNat []) }),(23,{ rw:=some (dB z1) }),(25,{ rw:=some (dB z2) })] [3,4,5,7,8,9,10,48,1000000] [] [(3,bx_TicketField a0),(4,bx_Object a1),(5,.box [.d (.sl 1 (v1.map cS))]),(7,oW5 v2),(8,.clo 50 [.bp 5 0]),(9,dI v3),(10,dI v4),(48,dB z2),(1000000,.glo 0 (glob_internal_strconv_uint64pow10.flatMap (cI .u64)))] [(3,True∧dI ((a1.f3.map cS).length:Int)=dI (a1.f3.length:Int)),(2,((((v4 == (a1.f3.length:Int)) == false) && true)=true→True)),(0,((((v4 == (a1.f3.length:Int)) == false) && true)=true→True)),(0,((((v4 == (a1.f3.length:Int)) == false) && true)=true→True)),(0,((((v4 == (a1.f3.length:Int)) == false) && true)=true→True∧dI ((a0.f5.map rS_TicketField).length:Int)=dI (a0.f5.length:Int))),(0,((((v4 == (a1.f3.length:Int)) == false) && true)=true→True)),(0,((((v4 == (a1.f3.length:Int)) == false) && true)=true→True)),(0,((((decide (v3 < (a0.f5.length:Int))) == true) && (((v4 == (a1.f3.length:Int)) == false) && true))=true→True)),(0,((((decide (v3 < (a0.f5.length:Int))) == true) && (((v4 == (a1.f3.length:Int)) == false) && true))=true→True)),(0,((((decide (v3 < (a0.f5.length:Int))) == true) && (((v4 == (a1.f3.length:Int)) == false) && true))=true→True)),(0,((((decide (v3 < (a0.f5.length:Int))) == true) && (((v4 == (a1.f3.length:Int)) == false) && true))=true→0≤v3∧(a0.f5.map rS_TicketField)[v3.toNat]? = some (cS_TicketField (a0.f5.getD v3.toNat z_TicketField)))),(0,((((decide (v3 < (a0.f5.length:Int))) == true) && (((v4 == (a1.f3.length:Int)) == false) && true))=true→True)),(0,((((decide (v3 < (a0.f5.length:Int))) == true) && (((v4 == (a1.f3.length:Int)) == false) && true))=true→True)),(0,((((decide (v3 < (a0.f5.length:Int))) == true) && (((v4 == (a1.f3.length:Int)) == false) && true))=true→True)),(0,((((decide (v3 < (a0.f5.length:Int))) == true) && (((v4 == (a1.f3.length:Int)) == false) && true))=true→True)),(0,((((decide (v3 < (a0.f5.length:Int))) == true) && (((v4 == (a1.f3.length:Int)) == false) && true))=true→True)),(0,((((decide (v3 < (a0.f5.length:Int))) == true) && (((v4 == (a1.f3.length:Int)) == false) && true))=true→0≤v4∧(a1.f3.map cS)[v4.toNat]? = some (cS (a1.f3.getD v4.toNat [])))),(0,((((decide (v3 < (a0.f5.length:Int))) == true) && (((v4 == (a1.f3.length:Int)) == false) && true))=true→True)),(0,((((decide (v3 < (a0.f5.length:Int))) == true) && (((v4 == (a1.f3.length:Int)) == false) && true))=true→(True)∧dB (Op.bytesLess ((a0.f5.getD v3.toNat z_TicketField).f0) (a1.f3.getD v4.toNat []))=dB z1)),(0,((((v4 == (a1.f3.length:Int)) == false) && true)=true→True)),(0,(True)∧dB (bif (v4 == (a1.f3.length:Int)) then true else (bif (decide (v3 < (a0.f5.length:Int))) then z1 else false))=dB z2)] 1 (by kernel_rfl) (⟨len_ok cS,(fun hg=>trivial),(fun hg=>trivial),(fun hg=>trivial),(fun hg=>len_ok rS_TicketField),(fun hg=>trivial),(fun hg=>trivial),(fun hg=>trivial),(fun hg=>trivial),(fun hg=>trivial),(fun hg=>idx_okR (d:=z_TicketField) rS_TicketField_eq (hp1 hg)),(fun hg=>trivial),(fun hg=>trivial),(fun hg=>trivial),(fun hg=>trivial),(fun hg=>trivial),(fun hg=>idx_ok (d:=[]) cS (hp2 hg)),(fun hg=>trivial),(fun hg=>⟨trivial,(by subst hz1; rfl)⟩),(fun hg=>trivial),⟨trivial,(by subst hz2; rfl)⟩⟩) ?_
      refine T_cond z2 (by kernel_rfl) (fun hc=>?_) (fun hc=>?_)
      · have h:=cond_tt hc h
        refine T_joinc h (fun (p:(List (List UInt8))×(List S_TicketFinding))=>[(3,bx_TicketField a0),(4,bx_Object a1),(5,.box [.d (.sl 1 (p.1.map cS))]),(7,oW5 p.2),(8,.clo 50 [.bp 5 0]),(9,dI v3),(10,dI v4),(1000000,.glo 0 (glob_internal_strconv_uint64pow10.flatMap (cI .u64)))]) (fun s h=>?_) (fun s h=>?_)
        · obtain ⟨hp3,h⟩:=chk_ok h
          refine T_reg [(3,{ cs:=cS_TicketField (a0.f5.getD v3.toNat z_TicketField) })] [3,4,5,7,8,9,10,81,1000000] [(81,dB (!((a0.f5.getD v3.toNat z_TicketField).f6)))] [(3,0≤v3∧(a0.f5.map rS_TicketField)[v3.toNat]? = some (cS_TicketField (a0.f5.getD v3.toNat z_TicketField)))] 3 (by kernel_rfl) (idx_okR (d:=z_TicketField) rS_TicketField_eq hp3) ?_
          refine T_cond (!((a0.f5.getD v3.toNat z_TicketField).f6)) (by kernel_rfl) (fun hc=>?_) (fun hc=>?_)
          · have h:=cond_tt hc h
            obtain ⟨hp4,h⟩:=chk_ok h
            obtain ⟨y1,hy1,h⟩:=call_ok h
            obtain ⟨hp5,h⟩:=chk_ok h
            obtain hs:=Option.some.inj h; subst hs
            refine T_reg_end [(5,{ cs:=cS_TicketField (a0.f5.getD v3.toNat z_TicketField) }),(8,{ res:=oW0 y1.1,vout:=[.box [.d (.sl 1 (y1.2.map cS))]],xs:=[5] }),(9,{ frz:=[(90,0)] }),(10,{ es:=some (([(S_TicketFinding.mk y1.1 (8:Int))]).map cS_TicketFinding) }),(11,{ es:=some ((v2++([(S_TicketFinding.mk y1.1 (8:Int))])).map cS_TicketFinding) })] [3,4,5,7,8,9,10,1000000] [(5,.box [.d (.sl 1 (y1.2.map cS))]),(7,.own 45 2 ((v2++([(S_TicketFinding.mk y1.1 (8:Int))])).map cS_TicketFinding))] [(5,0≤v3∧(a0.f5.map rS_TicketField)[v3.toNat]? = some (cS_TicketField (a0.f5.getD v3.toNat z_TicketField))),(2,ACall Tryd.prog 50 [.d (.str ((a0.f5.getD v3.toNat z_TicketField).f0)),.bp 1000000 0] [.box [.d (.sl 1 (v1.map cS))]] (oW0 y1.1) [.box [.d (.sl 1 (y1.2.map cS))]]),(1,(([(S_TicketFinding.mk y1.1 (8:Int))]).map cS_TicketFinding)=(([(S_TicketFinding.mk y1.1 (8:Int))]).map cS_TicketFinding)),(0,(v2.map cS_TicketFinding).length+(([(S_TicketFinding.mk y1.1 (8:Int))]).map cS_TicketFinding).length≤4294967296∧(v2.map cS_TicketFinding)++(([(S_TicketFinding.mk y1.1 (8:Int))]).map cS_TicketFinding)=((v2++([(S_TicketFinding.mk y1.1 (8:Int))])).map cS_TicketFinding))] 1 (by kernel_rfl) (⟨idx_okR (d:=z_TicketField) rS_TicketField_eq hp4,ticket_record_c1_ok hy1,rfl,app_ok cS_TicketFinding hp5⟩) fun a w hm=>then_norm (hm.co (cs:=[.keep [3,4,5,7,8,9,10,1000000]]) (by show _=_; kernel_rfl))
          · have h:=cond_ff hc h
            obtain hs:=Option.some.inj h; subst hs
            refine T_skip fun a w hm=>then_norm (hm.co (cs:=[.keep [3,4,5,7,8,9,10,1000000]]) (by show _=_; kernel_rfl))
        · obtain ⟨v5,v6⟩:=s
          try dsimp only at h
          refine T_reg_end [] [3,4,5,7,8,9,10,1000000] [(9,dI (IntKind.i64.wrap (v3+(1:Int))))] [] 3 (by kernel_rfl) (trivial) fun a w hm=>inBlock_norm (inBlock_norm (then_norm (⟨(v5,v6,IntKind.i64.wrap (v3+(1:Int)),v4),h,hm.co (cs:=[.keep [3,4,5,7,8,9,10,1000000]]) (by show _=_; kernel_rfl)⟩)))
      · have h:=cond_ff hc h
        obtain ⟨hp6,h⟩:=chk_ok h
        obtain ⟨hp7,h⟩:=chk_ok h
        obtain ⟨z3,hz3,h⟩:=lett_ok h
        refine T_draw mixed [(3,{ rw:=some (dI (a0.f5.length:Int)) }),(9,{ cs:=cS (a1.f3.getD v4.toNat []) }),(14,{ cs:=cS_TicketField (a0.f5.getD v3.toNat z_TicketField) }),(17,{ rw:=some (dB z3) })] [3,4,5,7,8,9,10,96,1000000] [] [(3,bx_TicketField a0),(4,bx_Object a1),(5,.box [.d (.sl 1 (v1.map cS))]),(7,oW5 v2),(8,.clo 50 [.bp 5 0]),(9,dI v3),(10,dI v4),(96,dB (bif (v3 == (a0.f5.length:Int)) then true else z3)),(1000000,.glo 0 (glob_internal_strconv_uint64pow10.flatMap (cI .u64)))] [(3,True∧dI ((a0.f5.map rS_TicketField).length:Int)=dI (a0.f5.length:Int)),(2,((((v3 == (a0.f5.length:Int)) == false) && true)=true→True)),(0,((((v3 == (a0.f5.length:Int)) == false) && true)=true→True)),(0,((((v3 == (a0.f5.length:Int)) == false) && true)=true→True)),(0,((((v3 == (a0.f5.length:Int)) == false) && true)=true→0≤v4∧(a1.f3.map cS)[v4.toNat]? = some (cS (a1.f3.getD v4.toNat [])))),(0,((((v3 == (a0.f5.length:Int)) == false) && true)=true→True)),(0,((((v3 == (a0.f5.length:Int)) == false) && true)=true→True)),(0,((((v3 == (a0.f5.length:Int)) == false) && true)=true→True)),(0,((((v3 == (a0.f5.length:Int)) == false) && true)=true→True)),(0,((((v3 == (a0.f5.length:Int)) == false) && true)=true→0≤v3∧(a0.f5.map rS_TicketField)[v3.toNat]? = some (cS_TicketField (a0.f5.getD v3.toNat z_TicketField)))),(0,((((v3 == (a0.f5.length:Int)) == false) && true)=true→True)),(0,((((v3 == (a0.f5.length:Int)) == false) && true)=true→True)),(0,((((v3 == (a0.f5.length:Int)) == false) && true)=true→(True)∧dB (Op.bytesLess (a1.f3.getD v4.toNat []) ((a0.f5.getD v3.toNat z_TicketField).f0))=dB z3))] 2 (by kernel_rfl) (⟨len_ok rS_TicketField,(fun hg=>trivial),(fun hg=>trivial),(fun hg=>trivial),(fun hg=>idx_ok (d:=[]) cS (hp6 hg)),(fun hg=>trivial),(fun hg=>trivial),(fun hg=>trivial),(fun hg=>trivial),(fun hg=>idx_okR (d:=z_TicketField) rS_TicketField_eq (hp7 hg)),(fun hg=>trivial),(fun hg=>trivial),(fun hg=>⟨trivial,(by subst hz3; rfl)⟩)⟩) ?_
        refine T_cond (bif (v3 == (a0.f5.length:Int)) then true else z3) (by kernel_rfl) (fun hc=>?_) (fun hc=>?_)
        · have h:=cond_tt hc h
          obtain ⟨hp8,h⟩:=chk_ok h
          obtain ⟨y2,hy2,h⟩:=call_ok h
          obtain ⟨hp9,h⟩:=chk_ok h
          refine T_reg [(5,{ cs:=cS (a1.f3.getD v4.toNat []) }),(7,{ res:=oW0 y2.1,vout:=[.box [.d (.sl 1 (y2.2.map cS))]],xs:=[5] }),(8,{ frz:=[(123,0)] }),(9,{ es:=some (([(S_TicketFinding.mk y2.1 (6:Int))]).map cS_TicketFinding) }),(10,{ es:=some ((v2++([(S_TicketFinding.mk y2.1 (6:Int))])).map cS_TicketFinding) })] [3,4,5,7,8,9,10,1000000] [(5,.box [.d (.sl 1 (y2.2.map cS))]),(7,.own 45 2 ((v2++([(S_TicketFinding.mk y2.1 (6:Int))])).map cS_TicketFinding))] [(5,0≤v4∧(a1.f3.map cS)[v4.toNat]? = some (cS (a1.f3.getD v4.toNat []))),(1,ACall Tryd.prog 50 [.d (.str (a1.f3.getD v4.toNat [])),.bp 1000000 0] [.box [.d (.sl 1 (v1.map cS))]] (oW0 y2.1) [.box [.d (.sl 1 (y2.2.map cS))]]),(1,(([(S_TicketFinding.mk y2.1 (6:Int))]).map cS_TicketFinding)=(([(S_TicketFinding.mk y2.1 (6:Int))]).map cS_TicketFinding)),(0,(v2.map cS_TicketFinding).length+(([(S_TicketFinding.mk y2.1 (6:Int))]).map cS_TicketFinding).length≤4294967296∧(v2.map cS_TicketFinding)++(([(S_TicketFinding.mk y2.1 (6:Int))]).map cS_TicketFinding)=((v2++([(S_TicketFinding.mk y2.1 (6:Int))])).map cS_TicketFinding))] 1 (by kernel_rfl) (⟨idx_ok (d:=[]) cS hp8,ticket_record_c1_ok hy2,rfl,app_ok cS_TicketFinding hp9⟩) ?_
          refine T_reg_end [] [3,4,5,7,8,9,10,1000000] [(10,dI (IntKind.i64.wrap (v4+(1:Int))))] [] 3 (by kernel_rfl) (trivial) fun a w hm=>inBlock_norm (inBlock_norm (then_norm (⟨(y2.2,(v2++([(S_TicketFinding.mk y2.1 (6:Int))])),v3,IntKind.i64.wrap (v4+(1:Int))),h,hm.co (cs:=[.keep [3,4,5,7,8,9,10,1000000]]) (by show _=_; kernel_rfl)⟩)))
        · have h:=cond_ff hc h
          obtain ⟨hp10,h⟩:=chk_ok h
          obtain ⟨hp11,h⟩:=chk_ok h
          obtain ⟨hp12,h⟩:=chk_ok h
          obtain ⟨y3,hy3,h⟩:=call_ok h
          obtain ⟨y4,hy4,h⟩:=call_ok h
          obtain ⟨hp13,h⟩:=chk_ok h
          refine T_drawG mixed [(21,0,some 0),(20,1,some 1),(19,3,some 3),(18,11,some 6),(17,75,some 8),(16,331,some 11),(15,2379,some 12),(14,6475,some 14),(13,22859,none),(12,22863,none),(12,22987,none),(12,31051,none),(11,22879,none),(11,22991,none),(11,23499,none),(11,31055,none),(11,31179,none),(11,63819,none),(10,22911,none),(10,23007,none),(10,23503,none),(10,24523,none),(10,31071,none),(10,31183,none),(10,31691,none),(10,63823,none),(10,63947,none),(10,129355,none),(9,23039,none),(9,23519,none),(9,24527,none),(9,31103,none),(9,31199,none),(9,31695,none),(9,32715,none),(9,63839,none),(9,63951,none),(9,64459,none),(9,129359,none),(9,129483,none),(9,260427,none),(8,23551,none),(8,24543,none),(8,31231,none),(8,31711,none),(8,32719,none),(8,63871,none),(8,63967,none),(8,64463,none),(8,65483,none),(8,129375,none),(8,129487,none),(8,129995,none),(8,260431,none),(8,260555,none),(7,24575,none),(7,31743,none),(7,32735,none),(7,63999,none),(7,64479,none),(7,65487,none),(7,129407,none),(7,129503,none),(7,129999,none),(7,131019,none),(7,260447,none),(7,260559,none),(7,261067,none),(6,32767,none),(6,64511,none),(6,65503,none),(6,129535,none),(6,130015,none),(6,131023,none),(6,260479,none),(6,260575,none),(6,261071,none),(6,262091,none),(5,65535,none),(5,130047,none),(5,131039,none),(5,260607,none),(5,261087,none),(5,262095,none),(4,131071,none),(4,261119,none),(4,262111,none),(3,262143,none),(2,524287,none),(1,1048575,some 20),(0,2097151,none)] [(21,7,.own 45 2 ((v2++y4).map cS_TicketFinding)),(21,24,.junk),(21,43,.junk),(20,7,.junk),(20,43,.own 45 2 ((v2++y4).map cS_TicketFinding)),(19,41,.fz 1 (y3.1.map cS)),(19,42,oW5 y4),(18,5,.box [.d (.sl 1 (y3.2.map cS))]),(18,41,oW0 y3.1),(17,40,.d (.str (a1.f3.getD v4.toNat []))),(16,39,.d (.pt (cS (a1.f3.getD v4.toNat [])))),(15,38,dI v4),(14,37,.d (.sl 1 (a1.f3.map cS))),(13,36,.bp 4 3),(12,35,.clo 50 [.bp 5 0]),(11,34,.agg (cS_Object (a1.f4.getD v4.toNat z_Object))),(10,33,.d (.pt (cS_Object (a1.f4.getD v4.toNat z_Object)))),(9,32,dI v4),(8,31,.d (.sl 5 (a1.f4.map rS_Object))),(7,30,.bp 4 4),(6,29,.agg (cS_TicketField (a0.f5.getD v3.toNat z_TicketField))),(5,28,.d (.pt (cS_TicketField (a0.f5.getD v3.toNat z_TicketField)))),(4,27,dI v3),(3,26,.d (.sl 12 (a0.f5.map rS_TicketField))),(2,25,.bp 3 5),(1,24,.vw (7,0)),(0,3,bx_TicketField a0),(0,4,bx_Object a1),(0,5,.box [.d (.sl 1 (v1.map cS))]),(0,7,oW5 v2),(0,8,.clo 50 [.bp 5 0]),(0,9,dI v3),(0,10,dI v4),(0,1000000,.glo 0 (glob_internal_strconv_uint64pow10.flatMap (cI .u64)))] [3,4,5,7,8,9,10,24,25,26,27,28,29,30,31,32,33,34,35,36,37,38,39,40,41,42,43,1000000] ([0,0,2,0,12,16,0,64,0,384,512,0,0,4096,0,24576,32768,67584,132128,262145,1048575],[0,0,2,0,12,16,0,64,0,384,512,0,0,4096,0,24576,32768,67584,132128,262145,524289]) 1071435 [(4,{ cs:=cS_TicketField (a0.f5.getD v3.toNat z_TicketField) }),(9,{ cs:=cS_Object (a1.f4.getD v4.toNat z_Object) }),(15,{ cs:=cS (a1.f3.getD v4.toNat []) }),(17,{ res:=oW0 y3.1,vout:=[.box [.d (.sl 1 (y3.2.map cS))]],xs:=[5] }),(18,{ frz:=[(41,0)],res:=oW5 y4,vout:=[.glo 0 (glob_internal_strconv_uint64pow10.flatMap (cI .u64))],xs:=[1000000] }),(19,{ es:=some ((v2++y4).map cS_TicketFinding) })] [3,4,5,7,8,9,10,1000000] [] [(3,bx_TicketField a0),(4,bx_Object a1),(5,.box [.d (.sl 1 (y3.2.map cS))]),(7,.own 45 2 ((v2++y4).map cS_TicketFinding)),(8,.clo 50 [.bp 5 0]),(9,dI v3),(10,dI v4),(1000000,.glo 0 (glob_internal_strconv_uint64pow10.flatMap (cI .u64)))] ((fun (o4:Prop)=>fun (o9:Prop)=>fun (o15:Prop)=>fun (o17:Prop)=>fun (o18:Prop)=>fun (o19:Prop)=>[(11,o4),(3,o9),(3,o15),(3,o4),(0,o9),(4,o4),(1,o15),(1,o9),(0,o15),(6,o9),(1,o4),(6,o15),(0,o4),(0,o9),(0,o15),(2,o15),(0,o4),(3,o9),(3,o17),(0,o9),(4,o4),(2,o15),(1,o9),(0,o15),(0,o4),(1,o15),(1,o15),(3,o4),(0,o9),(4,o4),(1,o17),(1,o9),(0,o17),(6,o9),(0,o15),(2,o15),(0,o4),(0,o15),(3,o9),(1,o4),(6,o17),(0,o4),(0,o9),(0,o17),(2,o17),(0,o4),(2,o9),(2,o15),(1,o15),(0,o9),(4,o4),(2,o17),(1,o9),(0,o17),(0,o4),(1,o17),(1,o17),(2,o4),(0,o9),(2,o15),(4,o9),(0,o17),(2,o17),(0,o4),(0,o17),(2,o9),(0,o4),(4,o17),(1,o17),(0,o9),(2,o4),(0,o17),(2,o18),(0,o19)]) (0≤v3∧(a0.f5.map rS_TicketField)[v3.toNat]? = some (cS_TicketField (a0.f5.getD v3.toNat z_TicketField))) (0≤v4∧(a1.f4.map rS_Object)[v4.toNat]? = some (cS_Object (a1.f4.getD v4.toNat z_Object))) (0≤v4∧(a1.f3.map cS)[v4.toNat]? = some (cS (a1.f3.getD v4.toNat []))) (ACall Tryd.prog 50 [.d (.str (a1.f3.getD v4.toNat [])),.bp 1000000 0] [.box [.d (.sl 1 (v1.map cS))]] (oW0 y3.1) [.box [.d (.sl 1 (y3.2.map cS))]]) (ACall Tryd.prog 21 [.agg (cS_TicketField (a0.f5.getD v3.toNat z_TicketField)),.agg (cS_Object (a1.f4.getD v4.toNat z_Object)),.d (.sl 1 (y3.1.map cS))] [.glo 0 (glob_internal_strconv_uint64pow10.flatMap (cI .u64))] (oW5 y4) [.glo 0 (glob_internal_strconv_uint64pow10.flatMap (cI .u64))]) ((v2.map cS_TicketFinding).length+(y4.map cS_TicketFinding).length≤4294967296∧(v2.map cS_TicketFinding)++(y4.map cS_TicketFinding)=((v2++y4).map cS_TicketFinding))) 1 (by kernel_rfl) (by kernel_rfl) (by kernel_rfl) (by kernel_rfl) (by kernel_rfl) (by kernel_rfl) (have p4:=idx_okR (d:=z_TicketField) rS_TicketField_eq hp10; have p9:=idx_okR (d:=z_Object) rS_Object_eq hp11; have p15:=idx_ok (d:=[]) cS hp12; have p17:=ticket_record_c1_ok hy3; have p18:=hrec_ticket_findings hy4; have p19:=app_ok cS_TicketFinding hp13; ⟨p4,p9,p15,p4,p9,p4,p15,p9,p15,p9,p4,p15,p4,p9,p15,p15,p4,p9,p17,p9,p4,p15,p9,p15,p4,p15,p15,p4,p9,p4,p17,p9,p17,p9,p15,p15,p4,p15,p9,p4,p17,p4,p9,p17,p17,p4,p9,p15,p15,p9,p4,p17,p9,p17,p4,p17,p17,p4,p9,p15,p9,p17,p17,p4,p17,p9,p4,p17,p17,p9,p4,p17,p18,p19⟩) ?_
          refine T_reg_end [] [3,4,5,7,8,9,10,1000000] [(9,dI (IntKind.i64.wrap (v3+(1:Int)))),(10,dI (IntKind.i64.wrap (v4+(1:Int))))] [] 6 (by kernel_rfl) (trivial) fun a w hm=>inBlock_norm (inBlock_norm (then_norm (⟨(y3.2,(v2++y4),IntKind.i64.wrap (v3+(1:Int)),IntKind.i64.wrap (v4+(1:Int))),h,hm.co (cs:=[.keep [3,4,5,7,8,9,10,1000000]]) (by show _=_; kernel_rfl)⟩)))
    · have h:=cond_ff hc h
      obtain hs:=Option.some.inj h; subst hs
      refine T_exit fun a w hm=>then_exit (then_exit (inBlock_exit (then_norm (hm.co (cs:=[.keep [7,1000000]]) (by show _=_; kernel_rfl)))))
  · skip
    refine T_reg [] [6,7,1000000] [(6,.vw (7,0))] [] 2 (by kernel_rfl) (trivial) ?_
    obtain hs:=Option.some.inj h; subst hs
    refine T_ret fun a w hm=>T_return (fr':=[(6,oW5 v7),(1000000,.glo 0 (glob_internal_strconv_uint64pow10.flatMap (cI .u64)))]) [6] (by kernel_rfl) [.claim 6,.keep [6,1000000]] (by kernel_rfl) (by kernel_rfl) (by kernel_rfl) (by show _=_; kernel_rfl) (by exact ⟨⟨by kernel_rfl,by kernel_rfl⟩,trivial⟩) a w hm
end Go.Vm.TicG
