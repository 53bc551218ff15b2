/-
  Texts.
-/
import Derived.Test.YtjjclmimifionaaProg
import Derived.Test.YtjjclmimifionaaVmD
import Derived.Test.YtjjclmimifionaaF
namespace Go.Vm.TopG
open Go.Proofs
abbrev dI (x:Int):AV:=.d (.v (.int .i64 x))
abbrev dB (x:Bool):AV:=.d (.v (.bool x))
abbrev bx_Inks (x:S_Inks):AV:=.box [.d (.v (.int .u8 x.f0)),.d (.v (.int .u8 x.f1)),.d (.v (.int .u8 x.f2)),.d (.v (.int .u8 x.f3)),.d (.v (.int .u8 x.f4)),.d (.v (.int .u8 x.f5)),.d (.v (.int .u8 x.f6)),.d (.v (.int .u8 x.f7))]
abbrev bx_Image (x:S_Image):AV:=.box [.d (.v (.int .i64 x.f0)),.d (.v (.int .i64 x.f1)),.d (.sl 8 (x.f2.map cS_Inks)),.d (.sl 1 (x.f3.map cU)),.d (.v (.int .i64 x.f4.f0)),.d (.v (.int .i64 x.f4.f1)),.d (.v (.int .i64 x.f4.f2)),.d (.v (.int .i64 x.f4.f3)),.d (.v (.int .i64 x.f4.f4)),.d (.v (.int .i64 x.f4.f5)),.d (.v (.bool x.f5)),.d (.v (.bool x.f6))]
abbrev bx_Source (x:S_Source):AV:=.box [.d (.v (.int .i64 x.f0)),.d (.v (.int .u8 x.f1.f0)),.d (.v (.int .u8 x.f1.f1)),.d (.v (.int .u8 x.f1.f2)),.d (.v (.int .u8 x.f1.f3)),.d (.v (.int .u8 x.f1.f4)),.d (.v (.int .u8 x.f1.f5)),.d (.v (.int .u8 x.f1.f6)),.d (.v (.int .u8 x.f1.f7)),.d (.v (.int .i64 x.f2.f0)),.d (.v (.int .i64 x.f2.f1)),.d (.v (.int .i64 x.f3.f0)),.d (.v (.int .i64 x.f3.f1)),.d (.v (.int .i64 x.f4)),.d (.sl 9 (x.f5.map cS_Stop)),.d (.v (.int .i64 x.f6.f0)),.d (.v (.int .i64 x.f6.f1)),.d (.sl 8 (x.f6.f2.map cS_Inks)),.d (.sl 1 (x.f6.f3.map cU)),.d (.v (.int .i64 x.f6.f4.f0)),.d (.v (.int .i64 x.f6.f4.f1)),.d (.v (.int .i64 x.f6.f4.f2)),.d (.v (.int .i64 x.f6.f4.f3)),.d (.v (.int .i64 x.f6.f4.f4)),.d (.v (.int .i64 x.f6.f4.f5)),.d (.v (.bool x.f6.f5)),.d (.v (.bool x.f6.f6))]
abbrev bx_Item (x:S_Item):AV:=.box [.d (.v (.int .i64 x.f0)),.d (.sl 3 (x.f1.map cS_Run)),.d (.v (.int .i64 x.f2.f0)),.d (.v (.int .u8 x.f2.f1.f0)),.d (.v (.int .u8 x.f2.f1.f1)),.d (.v (.int .u8 x.f2.f1.f2)),.d (.v (.int .u8 x.f2.f1.f3)),.d (.v (.int .u8 x.f2.f1.f4)),.d (.v (.int .u8 x.f2.f1.f5)),.d (.v (.int .u8 x.f2.f1.f6)),.d (.v (.int .u8 x.f2.f1.f7)),.d (.v (.int .i64 x.f2.f2.f0)),.d (.v (.int .i64 x.f2.f2.f1)),.d (.v (.int .i64 x.f2.f3.f0)),.d (.v (.int .i64 x.f2.f3.f1)),.d (.v (.int .i64 x.f2.f4)),.d (.sl 9 (x.f2.f5.map cS_Stop)),.d (.v (.int .i64 x.f2.f6.f0)),.d (.v (.int .i64 x.f2.f6.f1)),.d (.sl 8 (x.f2.f6.f2.map cS_Inks)),.d (.sl 1 (x.f2.f6.f3.map cU)),.d (.v (.int .i64 x.f2.f6.f4.f0)),.d (.v (.int .i64 x.f2.f6.f4.f1)),.d (.v (.int .i64 x.f2.f6.f4.f2)),.d (.v (.int .i64 x.f2.f6.f4.f3)),.d (.v (.int .i64 x.f2.f6.f4.f4)),.d (.v (.int .i64 x.f2.f6.f4.f5)),.d (.v (.bool x.f2.f6.f5)),.d (.v (.bool x.f2.f6.f6)),.d (.v (.int .u8 x.f3)),.d (.v (.int .i64 x.f4)),.d (.v (.bool x.f5)),.d (.v (.bool x.f6)),.d (.v (.bool x.f7))]
abbrev bx_List (x:S_List):AV:=.box [.d (.v (.int .i64 x.f0)),.d (.v (.int .i64 x.f1)),.d (.sl 1 (x.f2.map cS)),.d (.sl 34 (x.f3.map cS_Item))]
abbrev z_Item:S_Item:=S_Item.mk 0 [] (S_Source.mk 0 (S_Inks.mk 0 0 0 0 0 0 0 0) (S_Point.mk 0 0) (S_Point.mk 0 0) 0 [] (S_Image.mk 0 0 [] [] (S_Matrix.mk 0 0 0 0 0 0) false false)) 0 0 false false false
abbrev z_Source:S_Source:=S_Source.mk 0 (S_Inks.mk 0 0 0 0 0 0 0 0) (S_Point.mk 0 0) (S_Point.mk 0 0) 0 [] (S_Image.mk 0 0 [] [] (S_Matrix.mk 0 0 0 0 0 0) false false)
abbrev z_Image:S_Image:=S_Image.mk 0 0 [] [] (S_Matrix.mk 0 0 0 0 0 0) false false
abbrev z_Stop:S_Stop:=S_Stop.mk 0 (S_Inks.mk 0 0 0 0 0 0 0 0)
abbrev z_Inks:S_Inks:=S_Inks.mk 0 0 0 0 0 0 0 0
abbrev z_Run:S_Run:=S_Run.mk 0 0 0
abbrev z_Point:S_Point:=S_Point.mk 0 0
abbrev oW0 (x:List S_Run):AV:=.own 72 3 (x.map cS_Run)
abbrev oW1 (x:List (List UInt8)):AV:=.own 9 1 (x.map cS)
abbrev oW2 (x:List S_Item):AV:=.own 48 34 (x.map cS_Item)
set_option maxRecDepth 20000
theorem mixed:Try.prog.follows .mixedOrders=true:=by kernel_rfl
theorem num_Quo_ok {F:Nat} {a0:Int} {a1:Int} {r:Int} (h:num_Quo F a0 a1=some r):ACall Try.prog 76 [.d (.v (.int .i64 a0)),.d (.v (.int .i64 a1))] [] (.d (.v (.int .i64 r))) []:=by
 rw [num_Quo] at h
 refine ACall.intro (N:=16) Try.func76 rfl rfl rfl rfl rfl fun e=>?_
 refine tR [] [0,1] ?_
 obtain ⟨hp1,h⟩:=chk_ok h
 refine tR [iP 2 hp1] [0,1,5] ?_
 refine jc h [5] (fun p=>[(5,dI p)]) (fun s h=>?_) (fun v1 h=>?_)
 ·obtain ⟨hp2,h⟩:=chk_ok h
  refine tR [iP 2 hp2] [5,12] ?_
  refine tC h (fun hc h=>?_) fun hc h=>?_
  ·cases h
   refine tRe [] [5] (tJ [.keep [5]])
  ·cases h
   refine T_skip (tJ [.keep [5]])
 ·refine tR [] [4] ?_
  cases h
  refine T_ret (tq [4])
theorem num_Near_ok {F:Nat} {a0:Int} {a1:Int} {r:Int} (h:num_Near F a0 a1=some r):ACall Try.prog 64 [.d (.v (.int .i64 a0)),.d (.v (.int .i64 a1))] [] (.d (.v (.int .i64 r))) []:=by
 rw [num_Near] at h
 refine ACall.intro (N:=23) Try.func64 rfl rfl rfl rfl rfl fun e=>?_
 refine tR [] [0,1] ?_
 obtain ⟨y1,hy1,h⟩:=call_ok h
 refine tR [iC 2 [] (num_Quo_ok hy1)] [0,1,5] ?_
 refine jc h [5] (fun p=>[(5,dI p)]) (fun s h=>?_) (fun v1 h=>?_)
 ·refine tR [] [1,5,6] ?_
  obtain ⟨z1,hz1,h⟩:=lett_ok h
  refine tR [iB 4 hz1] [5,19] ?_
  refine tC h (fun hc h=>?_) fun hc h=>?_
  ·cases h
   refine tRe [] [5] (tJ [.keep [5]])
  ·cases h
   refine T_skip (tJ [.keep [5]])
 ·refine tR [] [4] ?_
  cases h
  refine T_ret (tq [4])
theorem num_Mul255_ok {F:Nat} {a0:Int} {a1:Int} {r:Int} (h:num_Mul255 F a0 a1=some r):ACall Try.prog 46 [.d (.v (.int .u8 a0)),.d (.v (.int .u8 a1))] [] (.d (.v (.int .u8 r))) []:=by
 rw [num_Mul255] at h
 refine ACall.intro (N:=12) Try.func46 rfl rfl rfl rfl rfl fun e=>?_
 refine tR [] [0,1] ?_
 obtain ⟨y1,hy1,h⟩:=call_ok h
 refine tR [iC 5 [] (num_Near_ok hy1)] [4] ?_
 cases h
 refine T_ret (tq [4])
theorem affine_within_ok {F:Nat} {a0:Int} {a1:Int} {r:Bool} (h:affine_within F a0 a1=some r):ACall Try.prog 79 [.d (.v (.int .i64 a0)),.d (.v (.int .i64 a1))] [] (.d (.v (.bool r))) []:=by
 rw [affine_within] at h
 refine ACall.intro (N:=14) Try.func79 rfl rfl rfl rfl rfl fun e=>?_
 refine tR [] [0,1] ?_
 refine tR [] [4] ?_
 cases h
 refine T_ret (tq [4])
theorem affine_Check_ok {F:Nat} {a0:S_Matrix} {r:Int} (h:affine_Check F a0=some r):ACall Try.prog 68 [.agg (cS_Matrix a0)] [] (.d (.v (.int .i64 r))) []:=by
 rw [affine_Check] at h
 refine ACall.intro (N:=31) Try.func68 rfl rfl rfl rfl rfl fun e=>?_
 refine tR [] [1] ?_
 refine T_seqk ?_
 refine tR [] [1,13,14] ?_
 refine jEt h [1] (fun p=>[]) (fun s h hk1=>?_) (fun s h=>?_)
 ·refine T_block ?_
  refine tL1 (affine_Check_L0 F a0) [.keep [1,13,14]] [1,13,14] (fun v1=>[(14,dI v1)]) F (0:Int) h fun n v1 h=>?_
  rw [affine_Check_L0] at h
  refine tR [] [1,13,14,15] ?_
  refine T_seqk ?_
  refine tC h (fun hc h=>?_) fun hc h=>?_
  ·refine T_skip (tS ?_)
   refine T_seqk ?_
   refine T_block ?_
   obtain ⟨hp1,h⟩:=chk_ok h
   refine tR [iX 0 { cs:=(cI .i64) ([a0.f0,a0.f1,a0.f2,a0.f3].getD v1.toNat 0) } (show (0≤v1∧v1 < 4)∧(cI .i64) ([a0.f0,a0.f1,a0.f2,a0.f3].getD v1.toNat 0)=((cS_arr4_Int (S_arr4_Int.mk a0.f0 a0.f1 a0.f2 a0.f3)).drop (v1.toNat * 1)).take 1 from ⟨hp1,arr_ok (d:=0) (cI .i64) 1 4 [a0.f0,a0.f1,a0.f2,a0.f3] rfl (fun _=>rfl) hp1 rfl⟩)] [1,4,13,14] ?_
   obtain ⟨y1,hy1,h⟩:=call_ok h
   refine tR [iC 1 [] (affine_within_ok hy1)] [1,13,14,19] ?_
   refine tC h (fun hc h=>?_) fun hc h=>?_
   ·refine tR [] [2] ?_
    cases h
    have h:=callE_esc hk1
    cases h
    refine T_ret (tq [2])
   ·refine T_skip (tS ?_)
    refine tRe [] [1,13,14] (tE [.keep [1,13,14]] (IntKind.i64.wrap (v1+(1:Int))) h)
  ·cases h
   refine T_exit (tG [.keep [1]])
 ·refine tS ?_
  refine T_seqk ?_
  obtain ⟨y2,hy2,h⟩:=call_ok h
  obtain ⟨y3,hy3,h⟩:=call_ok h
  refine tR [iC 2 [] (affine_within_ok hy2),iD 7 [] (fun hg=>affine_within_ok (gcall_ok hg hy3))] [30] ?_
  refine tC h (fun hc h=>?_) fun hc h=>?_
  ·refine tR [] [2] ?_
   cases h
   refine T_ret (tq [2])
  ·refine T_skip (tS ?_)
   refine tR [] [2] ?_
   cases h
   refine T_ret (tq [2])
theorem image_sample_ok {F:Nat} {a0:S_Image} {a1:Int} {a2:Int} {r:S_Inks×Int} (h:image_sample F a0 a1 a2=some r):ACall Try.prog 71 [.agg (cS_Image a0),.d (.v (.int .i64 a1)),.d (.v (.int .i64 a2))] [] (.tup [.agg (cS_Inks r.1),.d (.v (.int .u8 r.2))]) []:=by
 rw [image_sample] at h
 refine ACall.intro (N:=73) Try.func71 rfl rfl rfl rfl rfl fun e=>?_
 refine tR [] [1,2,3,6] ?_
 refine jE h [1,2,3,6] (fun p=>[(1,dI p.1),(2,dI p.2)]) (fun s h hk1=>?_) (fun s h=>?_)
 ·refine tR [] [1,2,3,6,10] ?_
  refine tC h (fun hc h=>?_) fun hc h=>?_
  ·obtain ⟨y1,hy1,h⟩:=call_ok h
   obtain ⟨y2,hy2,h⟩:=call_ok h
   cases h
   refine T_drawX_end mixed 30 (.take 0 (.take 1 (.take 2 (.take 3 (.take 5 (.take 9 (.take 10 (.take 11 (.take 14 (.all (.alt 4 (.take 12 (.all (.alt 6 (.take 7 (.take 8 (.all (.alt 13 (.take 15 (.take 16 (.take 17 (.take 18 (.take 19 .done))))) (.alt 15 (.all (.alt 13 (.take 16 (.take 17 (.take 18 (.take 19 .done)))) .stop)) .stop))))) (.alt 13 (.take 6 (.take 7 (.take 8 (.take 15 (.take 16 (.take 17 (.take 18 (.take 19 .done)))))))) (.alt 15 (.all (.alt 6 (.take 7 (.take 8 (.all (.alt 13 (.take 16 (.take 17 (.take 18 (.take 19 .done)))) .stop)))) (.alt 13 (.take 6 (.take 7 (.take 8 (.take 16 (.take 17 (.take 18 (.take 19 .done))))))) .stop))) .stop))))) (.alt 6 (.all (.alt 4 (.take 7 (.take 8 (.take 12 (.all (.alt 13 (.take 15 (.take 16 (.take 17 (.take 18 (.take 19 .done))))) (.alt 15 (.all (.alt 13 (.take 16 (.take 17 (.take 18 (.take 19 .done)))) .stop)) .stop)))))) (.alt 12 (.all (.alt 4 (.take 7 (.take 8 (.all (.alt 13 (.take 15 (.take 16 (.take 17 (.take 18 (.take 19 .done))))) (.alt 15 (.all (.alt 13 (.take 16 (.take 17 (.take 18 (.take 19 .done)))) .stop)) .stop))))) (.alt 15 (.all (.alt 4 (.take 7 (.take 8 (.all (.alt 13 (.take 16 (.take 17 (.take 18 (.take 19 .done)))) .stop)))) .stop)) .stop))) (.alt 15 (.all (.alt 4 (.take 7 (.take 8 (.take 12 (.all (.alt 13 (.take 16 (.take 17 (.take 18 (.take 19 .done)))) .stop))))) (.alt 12 (.all (.alt 4 (.take 7 (.take 8 (.all (.alt 13 (.take 16 (.take 17 (.take 18 (.take 19 .done)))) .stop)))) .stop)) .stop))) .stop)))) (.alt 12 (.all (.alt 4 (.all (.alt 6 (.take 7 (.take 8 (.all (.alt 13 (.take 15 (.take 16 (.take 17 (.take 18 (.take 19 .done))))) (.alt 15 (.all (.alt 13 (.take 16 (.take 17 (.take 18 (.take 19 .done)))) .stop)) .stop))))) (.alt 13 (.take 6 (.take 7 (.take 8 (.take 15 (.take 16 (.take 17 (.take 18 (.take 19 .done)))))))) (.alt 15 (.all (.alt 6 (.take 7 (.take 8 (.all (.alt 13 (.take 16 (.take 17 (.take 18 (.take 19 .done)))) .stop)))) (.alt 13 (.take 6 (.take 7 (.take 8 (.take 16 (.take 17 (.take 18 (.take 19 .done))))))) .stop))) .stop)))) (.alt 6 (.all (.alt 4 (.take 7 (.take 8 (.all (.alt 13 (.take 15 (.take 16 (.take 17 (.take 18 (.take 19 .done))))) (.alt 15 (.all (.alt 13 (.take 16 (.take 17 (.take 18 (.take 19 .done)))) .stop)) .stop))))) (.alt 15 (.all (.alt 4 (.take 7 (.take 8 (.all (.alt 13 (.take 16 (.take 17 (.take 18 (.take 19 .done)))) .stop)))) .stop)) .stop))) (.alt 15 (.all (.alt 4 (.all (.alt 6 (.take 7 (.take 8 (.all (.alt 13 (.take 16 (.take 17 (.take 18 (.take 19 .done)))) .stop)))) (.alt 13 (.take 6 (.take 7 (.take 8 (.take 16 (.take 17 (.take 18 (.take 19 .done))))))) .stop))) (.alt 6 (.all (.alt 4 (.take 7 (.take 8 (.all (.alt 13 (.take 16 (.take 17 (.take 18 (.take 19 .done)))) .stop)))) .stop)) .stop))) .stop)))) (.alt 15 (.all (.alt 4 (.take 12 (.all (.alt 6 (.take 7 (.take 8 (.all (.alt 13 (.take 16 (.take 17 (.take 18 (.take 19 .done)))) .stop)))) (.alt 13 (.take 6 (.take 7 (.take 8 (.take 16 (.take 17 (.take 18 (.take 19 .done))))))) .stop)))) (.alt 6 (.all (.alt 4 (.take 7 (.take 8 (.take 12 (.all (.alt 13 (.take 16 (.take 17 (.take 18 (.take 19 .done)))) .stop))))) (.alt 12 (.all (.alt 4 (.take 7 (.take 8 (.all (.alt 13 (.take 16 (.take 17 (.take 18 (.take 19 .done)))) .stop)))) .stop)) .stop))) (.alt 12 (.all (.alt 4 (.all (.alt 6 (.take 7 (.take 8 (.all (.alt 13 (.take 16 (.take 17 (.take 18 (.take 19 .done)))) .stop)))) (.alt 13 (.take 6 (.take 7 (.take 8 (.take 16 (.take 17 (.take 18 (.take 19 .done))))))) .stop))) (.alt 6 (.all (.alt 4 (.take 7 (.take 8 (.all (.alt 13 (.take 16 (.take 17 (.take 18 (.take 19 .done)))) .stop)))) .stop)) .stop))) .stop)))) .stop)))))))))))))) ([0,0,0,4,10,0,32,80,129,0,0,0,2048,5136,0,16384,40960,66048,8703,524287],[0,0,0,4,10,0,32,80,129,0,0,0,2048,5120,0,16384,40960,66048,259,132608]) 1040367 [(4,{ res:=dI y1 }),(13,{ res:=dI y2 })] [1,2,3,6] [] [(1,dI (IntKind.i64.wrap (a1 - (IntKind.i64.wrap (y1 * a0.f0))))),(2,dI (IntKind.i64.wrap (a2 - (IntKind.i64.wrap (y2 * a0.f1))))),(3,bx_Image a0),(6,.box [.d (.v (.int .u8 0)),.d (.v (.int .u8 0)),.d (.v (.int .u8 0)),.d (.v (.int .u8 0)),.d (.v (.int .u8 0)),.d (.v (.int .u8 0)),.d (.v (.int .u8 0)),.d (.v (.int .u8 0))])] ((fun (o4:Prop)=>fun (o13:Prop)=>[(9,o4),(4,o13),(6,o13),(4,o13),(12,o13),(4,o13),(8,o4),(3,o13),(6,o13),(5,o4),(2,o13),(6,o13),(5,o4),(2,o13),(5,o4),(3,o13),(5,o4),(2,o13),(5,o4),(3,o13),(6,o13),(4,o13),(12,o13),(4,o13),(8,o4),(2,o13),(6,o13),(5,o4),(2,o13),(5,o4),(3,o13),(4,o13),(8,o4),(2,o13),(5,o4),(4,o13),(4,o13),(8,o4),(3,o13),(5,o4),(2,o13),(5,o4),(3,o13),(4,o13),(8,o4),(2,o13)]) (ACall Try.prog 76 [dI a1,dI a0.f0] [] (dI y1) []) (ACall Try.prog 76 [dI a2,dI a0.f1] [] (dI y2) [])) 4 (by kernel_rfl) (by kernel_rfl) (by kernel_rfl) (have p4:=num_Quo_ok hy1; have p13:=num_Quo_ok hy2; ⟨p4,p13,p13,p13,p13,p13,p4,p13,p13,p4,p13,p13,p4,p13,p4,p13,p4,p13,p4,p13,p13,p13,p13,p13,p4,p13,p13,p4,p13,p4,p13,p13,p4,p13,p4,p13,p13,p4,p13,p4,p13,p4,p13,p13,p4,p13⟩) (tG [.keep [1,2,3,6]])
  ·obtain ⟨z1,hz1,h⟩:=lett_ok h
   refine tR [iB 11 hz1] [1,2,3,6,46] ?_
   refine tC h (fun hc h=>?_) fun hc h=>?_
   ·refine tR [] [6,7] ?_
    cases h
    have h:=callE_esc hk1
    cases h
    refine T_ret (tq [6,7])
   ·cases h
    refine T_skip (tG [.keep [1,2,3,6]])
 ·obtain ⟨v1,v2⟩:=s
  try dsimp only at h
  refine tR [] [3,6,8] ?_
  refine T_seqk ?_
  refine tR [iW 2 (len_ok cU (xs:=a0.f3))] [3,6,8,57] ?_
  refine tC h (fun hc h=>?_) fun hc h=>?_
  ·obtain ⟨hp1,h⟩:=chk_ok h
   refine tR [iI 3 (idx_ok (d:=z_Inks) cS_Inks hp1)] [6,7] ?_
   cases h
   refine T_ret (tq [6,7])
  ·refine T_skip (tS ?_)
   obtain ⟨hp2,h⟩:=chk_ok h
   obtain ⟨hp3,h⟩:=chk_ok h
   refine T_drawX mixed 4 (.take 0 (.take 1 (.take 2 (.take 3 (.take 4 (.take 5 (.take 7 (.all (.alt 6 (.all (.alt 8 (.all (.alt 9 (.all (.alt 10 (.take 11 .done) .stop)) (.alt 10 (.take 9 (.take 11 .done)) .stop))) (.alt 10 (.take 8 (.take 9 (.take 11 .done))) .stop))) (.alt 10 (.take 6 (.take 8 (.take 9 (.take 11 .done)))) .stop)))))))))) ([0,1,0,6,8,0,32,0,192,256,31,2047],[0,1,0,6,8,0,32,0,192,256,16,512]) 3071 [(3,{ cs:=cS_Inks (a0.f2.getD (IntKind.i64.wrap ((IntKind.i64.wrap (v2 * a0.f0))+v1)).toNat z_Inks) }),(8,{ cs:=cU (a0.f3.getD (IntKind.i64.wrap ((IntKind.i64.wrap (v2 * a0.f0))+v1)).toNat 0) })] [6,7] [] [(6,.box [.d (.v (.int .u8 ((a0.f2.getD (IntKind.i64.wrap ((IntKind.i64.wrap (v2 * a0.f0))+v1)).toNat z_Inks).f0))),.d (.v (.int .u8 ((a0.f2.getD (IntKind.i64.wrap ((IntKind.i64.wrap (v2 * a0.f0))+v1)).toNat z_Inks).f1))),.d (.v (.int .u8 ((a0.f2.getD (IntKind.i64.wrap ((IntKind.i64.wrap (v2 * a0.f0))+v1)).toNat z_Inks).f2))),.d (.v (.int .u8 ((a0.f2.getD (IntKind.i64.wrap ((IntKind.i64.wrap (v2 * a0.f0))+v1)).toNat z_Inks).f3))),.d (.v (.int .u8 ((a0.f2.getD (IntKind.i64.wrap ((IntKind.i64.wrap (v2 * a0.f0))+v1)).toNat z_Inks).f4))),.d (.v (.int .u8 ((a0.f2.getD (IntKind.i64.wrap ((IntKind.i64.wrap (v2 * a0.f0))+v1)).toNat z_Inks).f5))),.d (.v (.int .u8 ((a0.f2.getD (IntKind.i64.wrap ((IntKind.i64.wrap (v2 * a0.f0))+v1)).toNat z_Inks).f6))),.d (.v (.int .u8 ((a0.f2.getD (IntKind.i64.wrap ((IntKind.i64.wrap (v2 * a0.f0))+v1)).toNat z_Inks).f7)))]),(7,.d (.v (.int .u8 ((a0.f3.getD (IntKind.i64.wrap ((IntKind.i64.wrap (v2 * a0.f0))+v1)).toNat 0).toNat:Int))))] ((fun (o3:Prop)=>fun (o8:Prop)=>[(3,o3),(4,o8),(7,o8),(4,o8)]) (0≤(IntKind.i64.wrap ((IntKind.i64.wrap (v2 * a0.f0))+v1))∧(a0.f2.map cS_Inks)[(IntKind.i64.wrap ((IntKind.i64.wrap (v2 * a0.f0))+v1)).toNat]? = some (cS_Inks (a0.f2.getD (IntKind.i64.wrap ((IntKind.i64.wrap (v2 * a0.f0))+v1)).toNat z_Inks))) (0≤(IntKind.i64.wrap ((IntKind.i64.wrap (v2 * a0.f0))+v1))∧(a0.f3.map cU)[(IntKind.i64.wrap ((IntKind.i64.wrap (v2 * a0.f0))+v1)).toNat]? = some (cU (a0.f3.getD (IntKind.i64.wrap ((IntKind.i64.wrap (v2 * a0.f0))+v1)).toNat 0)))) 2 (by kernel_rfl) (by kernel_rfl) (by kernel_rfl) (have p3:=idx_ok (d:=z_Inks) cS_Inks hp2; have p8:=idx_ok (d:=0) cU hp3; ⟨p3,p8,p8,p8⟩) ?_
   cases h
   refine T_ret (tq [6,7])
theorem math_bits_Len32_ok {F:Nat} {a0:Int} {r:Int} (h:math_bits_Len32 F a0=some r):ACall Try.prog 94 [.d (.v (.int .u32 a0))] [] (.d (.v (.int .i64 r))) []:=by
 rw [math_bits_Len32] at h
 refine ACall.intro (N:=19) Try.func94 rfl rfl rfl rfl rfl fun e=>?_
 refine tR [] [0,2] ?_
 refine jc h [0,2] (fun p=>[(0,.d (.v (.int .u32 p.1))),(2,dI p.2)]) (fun s h=>?_) (fun s h=>?_)
 ·refine tR [] [0,2,4] ?_
  refine tC h (fun hc h=>?_) fun hc h=>?_
  ·refine tR [iP 1 (show 0≤(16:Int) by decide)] [0] ?_
   cases h
   refine tRe [] [0,2] (tJ [.keep [0,2]])
  ·cases h
   refine T_skip (tJ [.keep [0,2]])
 ·obtain ⟨v1,v2⟩:=s
  try dsimp only at h
  refine jc h [0,2] (fun p=>[(0,.d (.v (.int .u32 p.1))),(2,dI p.2)]) (fun s h=>?_) (fun s h=>?_)
  ·refine tR [] [0,2,8] ?_
   refine tC h (fun hc h=>?_) fun hc h=>?_
   ·refine tR [iP 1 (show 0≤(8:Int) by decide)] [0,2] ?_
    cases h
    refine tRe [] [0,2] (tJ [.keep [0,2]])
   ·cases h
    refine T_skip (tJ [.keep [0,2]])
  ·obtain ⟨v3,v4⟩:=s
   try dsimp only at h
   obtain ⟨hp1,h⟩:=chk_ok h
   obtain ⟨z1,hz1,h⟩:=lett_ok h
   refine tR [iW 3 (show (0≤(IntKind.u8.wrap v3)∧(IntKind.u8.wrap v3) < ([0,1,2,2,3,3,3,3,4,4,4,4,4,4,4,4,5,5,5,5,5,5,5,5,5,5,5,5,5,5,5,5,6,6,6,6,6,6,6,6,6,6,6,6,6,6,6,6,6,6,6,6,6,6,6,6,6,6,6,6,6,6,6,6,7,7,7,7,7,7,7,7,7,7,7,7,7,7,7,7,7,7,7,7,7,7,7,7,7,7,7,7,7,7,7,7,7,7,7,7,7,7,7,7,7,7,7,7,7,7,7,7,7,7,7,7,7,7,7,7,7,7,7,7,7,7,7,7,8,8,8,8,8,8,8,8,8,8,8,8,8,8,8,8,8,8,8,8,8,8,8,8,8,8,8,8,8,8,8,8,8,8,8,8,8,8,8,8,8,8,8,8,8,8,8,8,8,8,8,8,8,8,8,8,8,8,8,8,8,8,8,8,8,8,8,8,8,8,8,8,8,8,8,8,8,8,8,8,8,8,8,8,8,8,8,8,8,8,8,8,8,8,8,8,8,8,8,8,8,8,8,8,8,8,8,8,8,8,8,8,8,8,8,8,8,8,8,8,8,8,8,8,8,8,8,8]:List UInt8).length)∧AV.d (.v (.int .u8 ((([0,1,2,2,3,3,3,3,4,4,4,4,4,4,4,4,5,5,5,5,5,5,5,5,5,5,5,5,5,5,5,5,6,6,6,6,6,6,6,6,6,6,6,6,6,6,6,6,6,6,6,6,6,6,6,6,6,6,6,6,6,6,6,6,7,7,7,7,7,7,7,7,7,7,7,7,7,7,7,7,7,7,7,7,7,7,7,7,7,7,7,7,7,7,7,7,7,7,7,7,7,7,7,7,7,7,7,7,7,7,7,7,7,7,7,7,7,7,7,7,7,7,7,7,7,7,7,7,8,8,8,8,8,8,8,8,8,8,8,8,8,8,8,8,8,8,8,8,8,8,8,8,8,8,8,8,8,8,8,8,8,8,8,8,8,8,8,8,8,8,8,8,8,8,8,8,8,8,8,8,8,8,8,8,8,8,8,8,8,8,8,8,8,8,8,8,8,8,8,8,8,8,8,8,8,8,8,8,8,8,8,8,8,8,8,8,8,8,8,8,8,8,8,8,8,8,8,8,8,8,8,8,8,8,8,8,8,8,8,8,8,8,8,8,8,8,8,8,8,8,8,8,8,8,8,8]:List UInt8).getD (IntKind.u8.wrap v3).toNat 0).toNat:Int)))=.d (.v (.int .u8 z1)) from ⟨hp1,(by subst hz1; rfl)⟩)] [2] ?_
   cases h
   refine T_ret (tq [2])
theorem math_bits_Len64_ok {F:Nat} {a0:Int} {r:Int} (h:math_bits_Len64 F a0=some r):ACall Try.prog 95 [.d (.v (.int .u64 a0))] [] (.d (.v (.int .i64 r))) []:=by
 rw [math_bits_Len64] at h
 refine ACall.intro (N:=25) Try.func95 rfl rfl rfl rfl rfl fun e=>?_
 refine tR [] [0,2] ?_
 refine jc h [0,2] (fun p=>[(0,.d (.v (.int .u64 p.1))),(2,dI p.2)]) (fun s h=>?_) (fun s h=>?_)
 ·refine tR [] [0,2,4] ?_
  refine tC h (fun hc h=>?_) fun hc h=>?_
  ·refine tR [iP 1 (show 0≤(32:Int) by decide)] [0] ?_
   cases h
   refine tRe [] [0,2] (tJ [.keep [0,2]])
  ·cases h
   refine T_skip (tJ [.keep [0,2]])
 ·obtain ⟨v1,v2⟩:=s
  try dsimp only at h
  refine jc h [0,2] (fun p=>[(0,.d (.v (.int .u64 p.1))),(2,dI p.2)]) (fun s h=>?_) (fun s h=>?_)
  ·refine tR [] [0,2,8] ?_
   refine tC h (fun hc h=>?_) fun hc h=>?_
   ·refine tR [iP 1 (show 0≤(16:Int) by decide)] [0,2] ?_
    cases h
    refine tRe [] [0,2] (tJ [.keep [0,2]])
   ·cases h
    refine T_skip (tJ [.keep [0,2]])
  ·obtain ⟨v3,v4⟩:=s
   try dsimp only at h
   refine jc h [0,2] (fun p=>[(0,.d (.v (.int .u64 p.1))),(2,dI p.2)]) (fun s h=>?_) (fun s h=>?_)
   ·refine tR [] [0,2,14] ?_
    refine tC h (fun hc h=>?_) fun hc h=>?_
    ·refine tR [iP 1 (show 0≤(8:Int) by decide)] [0,2] ?_
     cases h
     refine tRe [] [0,2] (tJ [.keep [0,2]])
    ·cases h
     refine T_skip (tJ [.keep [0,2]])
   ·obtain ⟨v5,v6⟩:=s
    try dsimp only at h
    obtain ⟨hp1,h⟩:=chk_ok h
    obtain ⟨z1,hz1,h⟩:=lett_ok h
    refine tR [iW 3 (show (0≤(IntKind.u8.wrap v5)∧(IntKind.u8.wrap v5) < ([0,1,2,2,3,3,3,3,4,4,4,4,4,4,4,4,5,5,5,5,5,5,5,5,5,5,5,5,5,5,5,5,6,6,6,6,6,6,6,6,6,6,6,6,6,6,6,6,6,6,6,6,6,6,6,6,6,6,6,6,6,6,6,6,7,7,7,7,7,7,7,7,7,7,7,7,7,7,7,7,7,7,7,7,7,7,7,7,7,7,7,7,7,7,7,7,7,7,7,7,7,7,7,7,7,7,7,7,7,7,7,7,7,7,7,7,7,7,7,7,7,7,7,7,7,7,7,7,8,8,8,8,8,8,8,8,8,8,8,8,8,8,8,8,8,8,8,8,8,8,8,8,8,8,8,8,8,8,8,8,8,8,8,8,8,8,8,8,8,8,8,8,8,8,8,8,8,8,8,8,8,8,8,8,8,8,8,8,8,8,8,8,8,8,8,8,8,8,8,8,8,8,8,8,8,8,8,8,8,8,8,8,8,8,8,8,8,8,8,8,8,8,8,8,8,8,8,8,8,8,8,8,8,8,8,8,8,8,8,8,8,8,8,8,8,8,8,8,8,8,8,8,8,8,8,8]:List UInt8).length)∧AV.d (.v (.int .u8 ((([0,1,2,2,3,3,3,3,4,4,4,4,4,4,4,4,5,5,5,5,5,5,5,5,5,5,5,5,5,5,5,5,6,6,6,6,6,6,6,6,6,6,6,6,6,6,6,6,6,6,6,6,6,6,6,6,6,6,6,6,6,6,6,6,7,7,7,7,7,7,7,7,7,7,7,7,7,7,7,7,7,7,7,7,7,7,7,7,7,7,7,7,7,7,7,7,7,7,7,7,7,7,7,7,7,7,7,7,7,7,7,7,7,7,7,7,7,7,7,7,7,7,7,7,7,7,7,7,8,8,8,8,8,8,8,8,8,8,8,8,8,8,8,8,8,8,8,8,8,8,8,8,8,8,8,8,8,8,8,8,8,8,8,8,8,8,8,8,8,8,8,8,8,8,8,8,8,8,8,8,8,8,8,8,8,8,8,8,8,8,8,8,8,8,8,8,8,8,8,8,8,8,8,8,8,8,8,8,8,8,8,8,8,8,8,8,8,8,8,8,8,8,8,8,8,8,8,8,8,8,8,8,8,8,8,8,8,8,8,8,8,8,8,8,8,8,8,8,8,8,8,8,8,8,8,8]:List UInt8).getD (IntKind.u8.wrap v5).toNat 0).toNat:Int)))=.d (.v (.int .u8 z1)) from ⟨hp1,(by subst hz1; rfl)⟩)] [2] ?_
    cases h
    refine T_ret (tq [2])
theorem math_bits_Len_ok {F:Nat} {a0:Int} {r:Int} (h:math_bits_Len F a0=some r):ACall Try.prog 93 [.d (.v (.int .u64 a0))] [] (.d (.v (.int .i64 r))) []:=by
 rw [math_bits_Len] at h
 refine ACall.intro (N:=8) Try.func93 rfl rfl rfl rfl rfl fun e=>?_
 refine tR [] [0] ?_
 refine T_seqk ?_
 refine tC h (fun hc h=>?_) fun hc h=>?_
 ·obtain ⟨y1,hy1,h⟩:=call_ok h
  refine tR [iC 2 [] (math_bits_Len32_ok hy1)] [2] ?_
  cases h
  refine T_ret (tq [2])
 ·refine T_skip (tS ?_)
  obtain ⟨y2,hy2,h⟩:=call_ok h
  refine tR [iC 1 [] (math_bits_Len64_ok hy2)] [2] ?_
  cases h
  refine T_ret (tq [2])
theorem num_Sqrt_ok {F:Nat} {a0:Int} {r:Int} (h:num_Sqrt F a0=some r):ACall Try.prog 80 [.d (.v (.int .i64 a0))] [] (.d (.v (.int .i64 r))) []:=by
 rw [num_Sqrt] at h
 refine ACall.intro (N:=25) Try.func80 rfl rfl rfl rfl rfl fun e=>?_
 refine tR [] [0] ?_
 refine T_seqk ?_
 refine tR [] [0,6] ?_
 refine tC h (fun hc h=>?_) fun hc h=>?_
 ·refine tR [] [2] ?_
  cases h
  refine T_ret (tq [2])
 ·refine T_skip (tS ?_)
  obtain ⟨y1,hy1,h⟩:=call_ok h
  obtain ⟨hp1,h⟩:=chk_ok h
  obtain ⟨z2,hz1,h⟩:=lett_ok h
  refine tR [iC 2 [] (math_bits_Len_ok hy1),iP 4 (show (2:Int)≠0 by decide),iW 5 (show (0≤(IntKind.i64.wrap ((IntKind.i64.wrap (y1+(1:Int))).tdiv (2:Int))))∧dI (IntKind.i64.wrap ((1:Int) * 2 ^ (min (IntKind.i64.wrap ((IntKind.i64.wrap (y1+(1:Int))).tdiv (2:Int))).toNat IntKind.i64.bits)))=dI z2 from ⟨hp1,(by subst hz1; rfl)⟩)] [0,3] ?_
  refine T_joinEt h (fun (_:Empty)=>([]:Fr)) (fun s h hk1=>?_) (fun s h=>?_)
  ·refine T_block ?_
   refine tL1 (num_Sqrt_L0 F a0) [.keep [0,3]] [0,3] (fun v1=>[(3,dI v1)]) F z2 h fun n v1 h=>?_
   rw [num_Sqrt_L0] at h
   refine T_block ?_
   obtain ⟨hp2,h⟩:=chk_ok h
   refine tR [iP 3 hp2,iP 5 (show (2:Int)≠0 by decide)] [0,3,4] ?_
   refine T_seqk ?_
   obtain ⟨z1,hz2,h⟩:=lett_ok h
   refine tR [iB 2 hz2] [0,3,4,22] ?_
   refine tC h (fun hc h=>?_) fun hc h=>?_
   ·refine tR [] [2] ?_
    cases h
    have h:=callE_esc hk1
    cases h
    refine T_ret (tq [2])
   ·refine T_skip (tS ?_)
    refine tRe [] [0,3] (tE [.keep [0,3]] (IntKind.i64.wrap ((IntKind.i64.wrap (v1+(IntKind.i64.wrap (a0.tdiv v1)))).tdiv (2:Int))) h)
  ·exact s.elim
theorem gradient_place_ok {F:Nat} {a0:S_Source} {a1:Int} {a2:Int} {r:Int} (h:gradient_place F a0 a1 a2=some r):ACall Try.prog 73 [.agg (cS_Source a0),.d (.v (.int .i64 a1)),.d (.v (.int .i64 a2))] [] (.d (.v (.int .i64 r))) []:=by
 rw [gradient_place] at h
 refine ACall.intro (N:=78) Try.func73 rfl rfl rfl rfl rfl fun e=>?_
 refine T_r0 [] [1,2,3] [(3,bx_Source a0)] 2 ?_
 obtain ⟨z1,hz1,h⟩:=lett_ok h
 obtain ⟨z2,hz2,h⟩:=lett_ok h
 refine T_draw mixed [(7,{ rw:=some (dI z1) }),(15,{ rw:=some (dI z2) })] [3,7,8] [] [(3,bx_Source a0),(7,dI z1),(8,dI z2)] [(7,(True)∧dI (IntKind.i64.wrap ((IntKind.i64.wrap ((IntKind.i64.wrap ((2:Int) * a1))+(1:Int))) - (IntKind.i64.wrap ((2:Int) * a0.f2.f0))))=dI z1),(7,(True)∧dI (IntKind.i64.wrap ((IntKind.i64.wrap ((IntKind.i64.wrap ((2:Int) * a2))+(1:Int))) - (IntKind.i64.wrap ((2:Int) * a0.f2.f1))))=dI z2)] 2 (by kernel_rfl) (⟨⟨trivial,(by subst hz1; rfl)⟩,⟨trivial,(by subst hz2; rfl)⟩⟩) ?_
 refine T_r0 [] [3,7,8] [] 1 ?_
 refine T_joinc h (fun (p:Int)=>[(9,dI p)]) (fun s h=>?_) (fun v1 h=>?_)
 ·refine T_reg [] [3,7,8,30] [(30,dB (a0.f0 == (1:Int)))] [] 3 (by kernel_rfl) (trivial) ?_
  refine T_cd (a0.f0 == (1:Int)) (fun hc=>?_) (fun hc=>?_)
  ·have h:=cond_tt hc h
   refine T_draw mixed [] [7,8,10,11] [] [(7,dI z1),(8,dI z2),(10,dI (IntKind.i64.wrap (a0.f3.f0 - a0.f2.f0))),(11,dI (IntKind.i64.wrap (a0.f3.f1 - a0.f2.f1)))] [] 16 (by kernel_rfl) (trivial) ?_
   obtain ⟨z3,hz3,h⟩:=lett_ok h
   obtain ⟨z4,hz4,h⟩:=lett_ok h
   obtain ⟨z5,hz5,h⟩:=lett_ok h
   obtain ⟨y1,hy1,h⟩:=call_ok h
   obtain hs:=Option.some.inj h; subst hs
   refine T_reg_end [(6,{ rw:=some (dI z3) }),(10,{ rw:=some (dI z4) }),(13,{ rw:=some (dI z5) }),(16,{ res:=dI y1 })] [9] [(9,dI y1)] [(6,(True)∧dI (IntKind.i64.wrap ((IntKind.i64.wrap ((IntKind.i64.wrap (a0.f3.f0 - a0.f2.f0)) * z1))+(IntKind.i64.wrap ((IntKind.i64.wrap (a0.f3.f1 - a0.f2.f1)) * z2))))=dI z3),(3,(True)∧dI (IntKind.i64.wrap ((IntKind.i64.wrap (a0.f3.f0 - a0.f2.f0)) * (IntKind.i64.wrap (a0.f3.f0 - a0.f2.f0))))=dI z4),(2,(True)∧dI (IntKind.i64.wrap ((IntKind.i64.wrap (a0.f3.f1 - a0.f2.f1)) * (IntKind.i64.wrap (a0.f3.f1 - a0.f2.f1))))=dI z5),(2,ACall Try.prog 76 [dI (IntKind.i64.wrap ((65536:Int) * z3)),dI (IntKind.i64.wrap ((2:Int) * (IntKind.i64.wrap (z4+z5))))] [] (dI y1) [])] 1 (by kernel_rfl) (⟨⟨trivial,(by subst hz3; rfl)⟩,⟨trivial,(by subst hz4; rfl)⟩,⟨trivial,(by subst hz5; rfl)⟩,num_Quo_ok hy1⟩) fun a w hm=>then_norm (hm.co (cs:=[.keep [9]]) (by show _=_; kernel_rfl))
  ·have h:=cond_ff hc h
   obtain ⟨y2,hy2,h⟩:=call_ok h
   obtain ⟨hp1,h⟩:=chk_ok h
   obtain ⟨z6,hz6,h⟩:=lett_ok h
   obtain hs:=Option.some.inj h; subst hs
   refine T_drawX_end mixed 2 (.take 0 (.take 1 (.take 2 (.take 3 (.take 4 (.take 5 (.take 6 (.take 9 (.all (.alt 7 (.take 8 (.take 10 (.take 11 (.take 12 (.take 13 .done))))) (.alt 10 (.take 11 (.all (.alt 7 (.take 8 (.take 12 (.take 13 .done))) .stop))) .stop))))))))))) ([0,0,3,0,0,24,36,64,128,0,512,1024,2304,8191],[0,0,3,0,0,24,36,64,128,0,512,1024,2304,4096]) 16255 [(7,{ res:=dI y2 }),(12,{ rw:=some (dI z6) })] [9] [] [(9,dI z6)] ((fun (o7:Prop)=>fun (o12:Prop)=>[(8,o7),(3,o12),(3,o7),(1,o12)]) (ACall Try.prog 80 [dI (IntKind.i64.wrap ((IntKind.i64.wrap (z1 * z1))+(IntKind.i64.wrap (z2 * z2))))] [] (dI y2) []) (((IntKind.i64.wrap ((2:Int) * a0.f4))≠0)∧dI (IntKind.i64.wrap ((IntKind.i64.wrap ((65536:Int) * y2)).tdiv (IntKind.i64.wrap ((2:Int) * a0.f4))))=dI z6)) 1 (by kernel_rfl) (by kernel_rfl) (by kernel_rfl) (have p7:=num_Sqrt_ok hy2; have p12:=⟨hp1,(by subst hz6; rfl)⟩; ⟨p7,p12,p7,p12⟩) fun a w hm=>then_norm (hm.co (cs:=[.keep [9]]) (by show _=_; kernel_rfl))
 ·skip
  obtain ⟨z7,hz7,h⟩:=lett_ok h
  refine T_rg [(2,{ rw:=some (dI z7) })] [6] [(6,dI z7)] [(2,(True)∧dI (if (0:Int) < (if v1 < (65536:Int) then v1 else (65536:Int)) then (if v1 < (65536:Int) then v1 else (65536:Int)) else (0:Int))=dI z7)] 1 (⟨trivial,(by subst hz7; rfl)⟩) ?_
  obtain hs:=Option.some.inj h; subst hs
  refine T_ret fun a w hm=>T_rn [(6,dI z7)] [6] [.keep [6]] (by exact trivial) a w hm
theorem blend_modes_c1_ok {F:Nat} {a0:Int} {a1:Int} {r:Int} (h:blend_modes_c1 F a0 a1=some r):ACall Try.prog 81 [.d (.v (.int .i64 a0)),.d (.v (.int .i64 a1))] [] (.d (.v (.int .i64 r))) []:=by
 rw [blend_modes_c1] at h
 refine ACall.intro (N:=6) Try.func81 rfl rfl rfl rfl rfl fun e=>?_
 refine tR [] [1] ?_
 refine tR [] [4] ?_
 cases h
 refine T_ret (tq [4])
theorem blend_mul_ok {F:Nat} {a0:Int} {a1:Int} {r:Int} (h:blend_mul F a0 a1=some r):ACall Try.prog 82 [.d (.v (.int .i64 a0)),.d (.v (.int .i64 a1))] [] (.d (.v (.int .i64 r))) []:=by
 rw [blend_mul] at h
 refine ACall.intro (N:=11) Try.func82 rfl rfl rfl rfl rfl fun e=>?_
 refine tR [] [0,1] ?_
 obtain ⟨y1,hy1,h⟩:=call_ok h
 refine tR [iC 4 [] (num_Mul255_ok hy1)] [4] ?_
 cases h
 refine T_ret (tq [4])
theorem blend_modes_c2_ok {F:Nat} {a0:Int} {a1:Int} {r:Int} (h:blend_modes_c2 F a0 a1=some r):ACall Try.prog 83 [.d (.v (.int .i64 a0)),.d (.v (.int .i64 a1))] [] (.d (.v (.int .i64 r))) []:=by
 rw [blend_modes_c2] at h
 refine ACall.intro (N:=11) Try.func83 rfl rfl rfl rfl rfl fun e=>?_
 refine tR [] [0,1] ?_
 obtain ⟨y1,hy1,h⟩:=call_ok h
 refine tR [iC 4 [] (blend_mul_ok hy1)] [4] ?_
 cases h
 refine T_ret (tq [4])
theorem blend_hard_ok {F:Nat} {a0:Int} {a1:Int} {r:Int} (h:blend_hard F a0 a1=some r):ACall Try.prog 85 [.d (.v (.int .i64 a0)),.d (.v (.int .i64 a1))] [] (.d (.v (.int .i64 r))) []:=by
 rw [blend_hard] at h
 refine ACall.intro (N:=18) Try.func85 rfl rfl rfl rfl rfl fun e=>?_
 refine tR [] [0,1] ?_
 refine T_seqk ?_
 refine tR [] [0,1,6] ?_
 refine tC h (fun hc h=>?_) fun hc h=>?_
 ·obtain ⟨y1,hy1,h⟩:=call_ok h
  refine tR [iC 3 [] (blend_mul_ok hy1)] [4] ?_
  cases h
  refine T_ret (tq [4])
 ·refine T_skip (tS ?_)
  obtain ⟨y2,hy2,h⟩:=call_ok h
  refine tR [iC 5 [] (blend_mul_ok hy2)] [4] ?_
  cases h
  refine T_ret (tq [4])
theorem blend_modes_c3_ok {F:Nat} {a0:Int} {a1:Int} {r:Int} (h:blend_modes_c3 F a0 a1=some r):ACall Try.prog 84 [.d (.v (.int .i64 a0)),.d (.v (.int .i64 a1))] [] (.d (.v (.int .i64 r))) []:=by
 rw [blend_modes_c3] at h
 refine ACall.intro (N:=8) Try.func84 rfl rfl rfl rfl rfl fun e=>?_
 refine tR [] [0,1] ?_
 obtain ⟨y1,hy1,h⟩:=call_ok h
 refine tR [iC 2 [] (blend_hard_ok hy1)] [4] ?_
 cases h
 refine T_ret (tq [4])
theorem blend_modes_c4_ok {F:Nat} {a0:Int} {a1:Int} {r:Int} (h:blend_modes_c4 F a0 a1=some r):ACall Try.prog 86 [.d (.v (.int .i64 a0)),.d (.v (.int .i64 a1))] [] (.d (.v (.int .i64 r))) []:=by
 rw [blend_modes_c4] at h
 refine ACall.intro (N:=8) Try.func86 rfl rfl rfl rfl rfl fun e=>?_
 refine tR [] [0,1] ?_
 refine tR [] [4] ?_
 cases h
 refine T_ret (tq [4])
theorem blend_modes_c5_ok {F:Nat} {a0:Int} {a1:Int} {r:Int} (h:blend_modes_c5 F a0 a1=some r):ACall Try.prog 87 [.d (.v (.int .i64 a0)),.d (.v (.int .i64 a1))] [] (.d (.v (.int .i64 r))) []:=by
 rw [blend_modes_c5] at h
 refine ACall.intro (N:=8) Try.func87 rfl rfl rfl rfl rfl fun e=>?_
 refine tR [] [0,1] ?_
 refine tR [] [4] ?_
 cases h
 refine T_ret (tq [4])
theorem blend_dodge_ok {F:Nat} {a0:Int} {a1:Int} {r:Int} (h:blend_dodge F a0 a1=some r):ACall Try.prog 88 [.d (.v (.int .i64 a0)),.d (.v (.int .i64 a1))] [] (.d (.v (.int .i64 r))) []:=by
 rw [blend_dodge] at h
 refine ACall.intro (N:=18) Try.func88 rfl rfl rfl rfl rfl fun e=>?_
 refine tR [] [0,1] ?_
 refine T_seqk ?_
 refine T_block ?_
 refine tR [] [0,1,5] ?_
 refine tC h (fun hc h=>?_) fun hc h=>?_
 ·refine tR [] [4] ?_
  cases h
  refine T_ret (tq [4])
 ·refine tR [] [0,1,8] ?_
  refine tC h (fun hc h=>?_) fun hc h=>?_
  ·refine tR [] [4] ?_
   cases h
   refine T_ret (tq [4])
  ·refine T_skip (tS ?_)
   obtain ⟨y1,hy1,h⟩:=call_ok h
   refine tR [iC 4 [] (num_Near_ok hy1)] [4] ?_
   cases h
   refine T_ret (tq [4])
theorem blend_burn_ok {F:Nat} {a0:Int} {a1:Int} {r:Int} (h:blend_burn F a0 a1=some r):ACall Try.prog 89 [.d (.v (.int .i64 a0)),.d (.v (.int .i64 a1))] [] (.d (.v (.int .i64 r))) []:=by
 rw [blend_burn] at h
 refine ACall.intro (N:=19) Try.func89 rfl rfl rfl rfl rfl fun e=>?_
 refine tR [] [0,1] ?_
 refine T_seqk ?_
 refine T_block ?_
 refine tR [] [0,1,5] ?_
 refine tC h (fun hc h=>?_) fun hc h=>?_
 ·refine tR [] [4] ?_
  cases h
  refine T_ret (tq [4])
 ·refine tR [] [0,1,8] ?_
  refine tC h (fun hc h=>?_) fun hc h=>?_
  ·refine tR [] [4] ?_
   cases h
   refine T_ret (tq [4])
  ·refine T_skip (tS ?_)
   obtain ⟨y1,hy1,h⟩:=call_ok h
   refine tR [iC 4 [] (num_Near_ok hy1)] [4] ?_
   cases h
   refine T_ret (tq [4])
theorem blend_modes_c6_ok {F:Nat} {a0:Int} {a1:Int} {r:Int} (h:blend_modes_c6 F a0 a1=some r):ACall Try.prog 90 [.d (.v (.int .i64 a0)),.d (.v (.int .i64 a1))] [] (.d (.v (.int .i64 r))) []:=by
 rw [blend_modes_c6] at h
 refine ACall.intro (N:=18) Try.func90 rfl rfl rfl rfl rfl fun e=>?_
 refine tR [] [0,1] ?_
 obtain ⟨z1,hz1,h⟩:=lett_ok h
 obtain ⟨y1,hy1,h⟩:=call_ok h
 refine tR [iN 6 hz1,iC 12 [] (num_Near_ok hy1)] [4] ?_
 cases h
 refine T_ret (tq [4])
theorem blend_modes_c7_ok {F:Nat} {a0:Int} {a1:Int} {r:Int} (h:blend_modes_c7 F a0 a1=some r):ACall Try.prog 91 [.d (.v (.int .i64 a0)),.d (.v (.int .i64 a1))] [] (.d (.v (.int .i64 r))) []:=by
 rw [blend_modes_c7] at h
 refine ACall.intro (N:=12) Try.func91 rfl rfl rfl rfl rfl fun e=>?_
 refine tR [] [0,1] ?_
 obtain ⟨z1,hz1,h⟩:=lett_ok h
 refine tR [iN 6 hz1] [4] ?_
 cases h
 refine T_ret (tq [4])
theorem blend_modes_c8_ok {F:Nat} {a0:Int} {a1:Int} {r:Int} (h:blend_modes_c8 F a0 a1=some r):ACall Try.prog 92 [.d (.v (.int .i64 a0)),.d (.v (.int .i64 a1))] [] (.d (.v (.int .i64 r))) []:=by
 rw [blend_modes_c8] at h
 refine ACall.intro (N:=14) Try.func92 rfl rfl rfl rfl rfl fun e=>?_
 refine tR [] [0,1] ?_
 obtain ⟨y1,hy1,h⟩:=call_ok h
 refine tR [iC 7 [] (num_Near_ok hy1)] [4] ?_
 cases h
 refine T_ret (tq [4])
theorem region_border_ok {F:Nat} {a0:Int} {r:Bool} (h:region_border F a0=some r):ACall Try.prog 37 [.d (.v (.int .i64 a0))] [] (.d (.v (.bool r))) []:=by
 rw [region_border] at h
 refine ACall.intro (N:=9) Try.func37 rfl rfl rfl rfl rfl fun e=>?_
 refine tR [] [0] ?_
 refine tR [] [2] ?_
 cases h
 refine T_ret (tq [2])
theorem region_Builder_Add_ok {F:Nat} {a0:Int} {a1:Int} {a2:Int} {c3:List S_Run} {r:(List S_Run)} (h:region_Builder_Add F a0 a1 a2 c3=some r):ACall Try.prog 49 [.bp 1000000 0,.d (.v (.int .i64 a0)),.d (.v (.int .i64 a1)),.d (.v (.int .i64 a2))] [.box [.own 72 3 (c3.map cS_Run)]] (.tup []) [.box [.own 72 3 (r.map cS_Run)]]:=by
 rw [region_Builder_Add] at h
 refine ACall.intro (N:=74) Try.func49 rfl rfl rfl rfl rfl fun e=>?_
 refine T_seqk ?_
 refine tR [] [0,1,2,3,11,1000000] ?_
 refine tC h (fun hc h=>?_) fun hc h=>?_
 ·cases h
  refine T_ret (tq [1000000])
 ·refine T_skip (tS ?_)
  refine T_seqk ?_
  refine tR [iW 4 (len_ok cS_Run (xs:=c3))] [0,1,2,3,8,1000000] ?_
  obtain ⟨hp1,h⟩:=chk_ok h
  obtain ⟨z1,hz1,h⟩:=lett_ok h
  obtain ⟨hp2,h⟩:=chk_ok h
  obtain ⟨z2,hz2,h⟩:=lett_ok h
  refine tR [iF 8 {} (show ((((decide ((IntKind.i64.wrap ((c3.length:Int) - (1:Int))) ≥ (0:Int))) == true) && true)=true→0≤(IntKind.i64.wrap ((c3.length:Int) - (1:Int)))∧(IntKind.i64.wrap ((c3.length:Int) - (1:Int))) < (c3.map cS_Run).length) from (fun hg=>own_idx cS_Run (hp1 hg))),iF 10 { cs:=cS_Run (c3.getD (IntKind.i64.wrap ((c3.length:Int) - (1:Int))).toNat z_Run) } (show ((((decide ((IntKind.i64.wrap ((c3.length:Int) - (1:Int))) ≥ (0:Int))) == true) && true)=true→(c3.map cS_Run)[(IntKind.i64.wrap ((c3.length:Int) - (1:Int))).toNat]? = some (cS_Run (c3.getD (IntKind.i64.wrap ((c3.length:Int) - (1:Int))).toNat z_Run))) from (fun hg=>(idx_ok (d:=z_Run) cS_Run (hp1 hg)).2)),iB 13 hz1,iF 21 {} (show (((z1 == true) && true)=true→0≤(IntKind.i64.wrap ((c3.length:Int) - (1:Int)))∧(IntKind.i64.wrap ((c3.length:Int) - (1:Int))) < (c3.map cS_Run).length) from (fun hg=>own_idx cS_Run (hp2 hg))),iF 23 { cs:=cS_Run (c3.getD (IntKind.i64.wrap ((c3.length:Int) - (1:Int))).toNat z_Run) } (show (((z1 == true) && true)=true→(c3.map cS_Run)[(IntKind.i64.wrap ((c3.length:Int) - (1:Int))).toNat]? = some (cS_Run (c3.getD (IntKind.i64.wrap ((c3.length:Int) - (1:Int))).toNat z_Run))) from (fun hg=>(idx_ok (d:=z_Run) cS_Run (hp2 hg)).2)),iB 24 hz2] [0,1,2,3,8,43,1000000] ?_
  refine tC h (fun hc h=>?_) fun hc h=>?_
  ·obtain ⟨hp3,h⟩:=chk_ok h
   obtain ⟨z3,hz3,h⟩:=lett_ok h
   obtain ⟨hp4,h⟩:=chk_ok h
   refine T_drawS mixed 15 [(12,{ cs:=cS_Run (c3.getD (IntKind.i64.wrap ((c3.length:Int) - (1:Int))).toNat z_Run) }),(14,{ rw:=some (dI z3) }),(17,{ cs:=cS_Run (c3.getD (IntKind.i64.wrap ((c3.length:Int) - (1:Int))).toNat z_Run),es:=some ((c3.set (IntKind.i64.wrap ((c3.length:Int) - (1:Int))).toNat (S_Run.mk ((c3.getD (IntKind.i64.wrap ((c3.length:Int) - (1:Int))).toNat z_Run).f0) ((c3.getD (IntKind.i64.wrap ((c3.length:Int) - (1:Int))).toNat z_Run).f1) z3)).map cS_Run) })] [1000000] [] [(1000000,.box [.own 72 3 ((c3.set (IntKind.i64.wrap ((c3.length:Int) - (1:Int))).toNat (S_Run.mk ((c3.getD (IntKind.i64.wrap ((c3.length:Int) - (1:Int))).toNat z_Run).f0) ((c3.getD (IntKind.i64.wrap ((c3.length:Int) - (1:Int))).toNat z_Run).f1) z3)).map cS_Run)])] [(10,0≤(IntKind.i64.wrap ((c3.length:Int) - (1:Int)))∧(IntKind.i64.wrap ((c3.length:Int) - (1:Int))) < (c3.map cS_Run).length),(1,(c3.map cS_Run)[(IntKind.i64.wrap ((c3.length:Int) - (1:Int))).toNat]? = some (cS_Run (c3.getD (IntKind.i64.wrap ((c3.length:Int) - (1:Int))).toNat z_Run))),(1,(True)∧dI (if ((c3.getD (IntKind.i64.wrap ((c3.length:Int) - (1:Int))).toNat z_Run).f2) < a2 then a2 else ((c3.getD (IntKind.i64.wrap ((c3.length:Int) - (1:Int))).toNat z_Run).f2))=dI z3),(0,0≤(IntKind.i64.wrap ((c3.length:Int) - (1:Int)))∧(IntKind.i64.wrap ((c3.length:Int) - (1:Int))) < (c3.map cS_Run).length),(1,(c3.map cS_Run)[(IntKind.i64.wrap ((c3.length:Int) - (1:Int))).toNat]? = some (cS_Run (c3.getD (IntKind.i64.wrap ((c3.length:Int) - (1:Int))).toNat z_Run))∧(c3.map cS_Run).set (IntKind.i64.wrap ((c3.length:Int) - (1:Int))).toNat (cS_Run (S_Run.mk ((c3.getD (IntKind.i64.wrap ((c3.length:Int) - (1:Int))).toNat z_Run).f0) ((c3.getD (IntKind.i64.wrap ((c3.length:Int) - (1:Int))).toNat z_Run).f1) z3))=((c3.set (IntKind.i64.wrap ((c3.length:Int) - (1:Int))).toNat (S_Run.mk ((c3.getD (IntKind.i64.wrap ((c3.length:Int) - (1:Int))).toNat z_Run).f0) ((c3.getD (IntKind.i64.wrap ((c3.length:Int) - (1:Int))).toNat z_Run).f1) z3)).map cS_Run))] 0 (by kernel_rfl) (⟨own_idx cS_Run hp3,(idx_ok (d:=z_Run) cS_Run hp3).2,⟨trivial,(by subst hz3; rfl)⟩,own_idx cS_Run hp4,⟨(idx_ok (d:=z_Run) cS_Run hp4).2,set_ok cS_Run rfl⟩⟩) ?_
   cases h
   refine T_ret (tq [1000000])
  ·refine T_skip (tS ?_)
   obtain ⟨hp5,h⟩:=chk_ok h
   cases h
   refine tRe [iR 9 (([(S_Run.mk a0 a1 a2)]).map cS_Run),iE 10 (app_ok cS_Run hp5)] [1000000] (tq [1000000])
theorem region_Rectangle_ok {F:Nat} {a0:Int} {a1:Int} {a2:Int} {a3:Int} {r:(List S_Run)×Int} (h:region_Rectangle F a0 a1 a2 a3=some r):ACall Try.prog 33 [.d (.v (.int .i64 a0)),.d (.v (.int .i64 a1)),.d (.v (.int .i64 a2)),.d (.v (.int .i64 a3))] [] (.tup [.d (.sl 3 (r.1.map cS_Run)),.d (.v (.int .i64 r.2))]) []:=by
 rw [region_Rectangle] at h
 refine ACall.intro (N:=50) Try.func33 rfl rfl rfl rfl rfl fun e=>?_
 refine tR [] [0,1,2,3] ?_
 refine T_seqk ?_
 obtain ⟨y2,hy1,h⟩:=call_ok h
 obtain ⟨y3,hy2,h⟩:=call_ok h
 obtain ⟨y4,hy3,h⟩:=call_ok h
 obtain ⟨y5,hy4,h⟩:=call_ok h
 refine tR [iC 1 [] (region_border_ok hy1),iD 5 [] (fun hg=>region_border_ok (gcall_ok hg hy2)),iD 10 [] (fun hg=>region_border_ok (gcall_ok hg hy3)),iD 15 [] (fun hg=>region_border_ok (gcall_ok hg hy4))] [0,1,2,3,29] ?_
 refine tC h (fun hc h=>?_) fun hc h=>?_
 ·refine tR [] [8,9] ?_
  cases h
  refine T_ret fun a w hm=>then_ret (T_rn [(8,.d (.sl 3 ([].map cS_Run))),(9,dI (3:Int))] [8,9] [.thaw 8,.keep [8,9]] (by exact trivial) a w hm)
 ·refine T_skip (tS ?_)
  refine T_seqk ?_
  refine tR [] [0,1,2,3,37] ?_
  refine tC h (fun hc h=>?_) fun hc h=>?_
  ·refine tR [] [8,9] ?_
   cases h
   refine T_ret fun a w hm=>then_ret (T_rn [(8,.d (.sl 3 ([].map cS_Run))),(9,dI (18:Int))] [8,9] [.thaw 8,.keep [8,9]] (by exact trivial) a w hm)
  ·refine T_skip (tS ?_)
   refine tR [] [0,1,2,3,10] ?_
   refine T_seqk ?_
   refine tR [] [0,2,3,10,11] ?_
   refine jct h [10] (fun p=>[(10,.box [oW0 p])]) (fun s h=>?_) (fun v3 h=>?_)
   ·refine T_block ?_
    refine tL2 (region_Rectangle_L0 F a0 a2 a3) [.keep [0,2,3,10,11]] [0,2,3,10,11] (fun v1 v2=>[(10,.box [oW0 v1]),(11,dI v2)]) F [] a1 h fun n v1 v2 h=>?_
    rw [region_Rectangle_L0] at h
    refine T_seqk ?_
    refine tR [] [0,2,3,10,11,41] ?_
    refine tC h (fun hc h=>?_) fun hc h=>?_
    ·refine T_skip (tS ?_)
     refine T_seqk ?_
     refine T_block ?_
     obtain ⟨y1,hy5,h⟩:=call_ok h
     refine tRe [iC 3 [10] (region_Builder_Add_ok hy5)] [0,2,3,10,11] (tS ?_)
     refine tRe [] [0,2,3,10,11] (tE [.keep [0,2,3,10,11]] (y1,IntKind.i64.wrap (v2+(1:Int))) h)
    ·cases h
     refine T_exit (tJ [.keep [10]])
   ·refine tS ?_
    refine tR [] [8,9,10] ?_
    cases h
    refine T_ret fun a w hm=>T_rn [(8,.d (.sl 3 (v3.map cS_Run))),(9,dI (0:Int))] [8,9] [.thaw 8,.keep [8,9]] (by exact trivial) a w hm
theorem top_aPage_ok {F:Nat} {a0:Int} {a1:Int} {r:(List S_Run)} (h:top_aPage F a0 a1=some r):ACall Try.prog 18 [.d (.v (.int .i64 a0)),.d (.v (.int .i64 a1))] [] (.d (.sl 3 (r.map cS_Run))) []:=by
 rw [top_aPage] at h
 refine ACall.intro (N:=16) Try.func18 rfl rfl rfl rfl rfl fun e=>?_
 refine tR [] [0,1] ?_
 obtain ⟨y1,hy1,h⟩:=call_ok h
 refine tR [iC 4 [] (region_Rectangle_ok hy1)] [5] ?_
 refine tR [] [4] ?_
 cases h
 refine T_ret (tq [4])
theorem top_aPlain_ok {F:Nat} {a0:Int} {a1:Int} {a2:S_Inks} {r:S_List} (h:top_aPlain F a0 a1 a2=some r):ACall Try.prog 10 [.d (.v (.int .i64 a0)),.d (.v (.int .i64 a1)),.agg (cS_Inks a2)] [] (.agg (cS_List r)) []:=by
 rw [top_aPlain] at h
 refine ACall.intro (N:=18) Try.func10 rfl rfl rfl rfl rfl fun e=>?_
 refine tR [] [0,1,5,6] ?_
 obtain ⟨y1,hy1,h⟩:=call_ok h
 refine T_drawX mixed 18 (.take 0 (.take 1 (.take 3 (.take 4 (.all (.alt 2 (.all (.alt 5 (.take 6 (.take 7 (.take 8 (.all (.alt 9 (.all (.alt 10 (.all (.alt 11 .done .stop)) .stop)) .stop))))) (.alt 6 (.all (.alt 5 (.take 7 (.take 8 (.all (.alt 9 (.all (.alt 10 (.all (.alt 11 .done .stop)) .stop)) .stop)))) (.alt 7 (.all (.alt 5 (.take 8 (.all (.alt 9 (.all (.alt 10 (.all (.alt 11 .done .stop)) .stop)) .stop))) .stop)) .stop))) .stop))) (.alt 5 (.all (.alt 2 (.take 6 (.take 7 (.take 8 (.all (.alt 9 (.all (.alt 10 (.all (.alt 11 .done .stop)) .stop)) .stop))))) (.alt 6 (.all (.alt 2 (.take 7 (.take 8 (.all (.alt 9 (.all (.alt 10 (.all (.alt 11 .done .stop)) .stop)) .stop)))) (.alt 7 (.all (.alt 2 (.take 8 (.all (.alt 9 (.all (.alt 10 (.all (.alt 11 .done .stop)) .stop)) .stop))) (.alt 8 (.all (.alt 2 (.all (.alt 9 (.all (.alt 10 (.all (.alt 11 .done .stop)) .stop)) .stop)) (.alt 9 (.all (.alt 2 (.all (.alt 10 (.all (.alt 11 .done .stop)) .stop)) .stop)) .stop))) .stop))) .stop))) .stop))) (.alt 6 (.all (.alt 2 (.all (.alt 5 (.take 7 (.take 8 (.all (.alt 9 (.all (.alt 10 (.all (.alt 11 .done .stop)) .stop)) .stop)))) (.alt 7 (.all (.alt 5 (.take 8 (.all (.alt 9 (.all (.alt 10 (.all (.alt 11 .done .stop)) .stop)) .stop))) .stop)) .stop))) (.alt 5 (.all (.alt 2 (.take 7 (.take 8 (.all (.alt 9 (.all (.alt 10 (.all (.alt 11 .done .stop)) .stop)) .stop)))) (.alt 7 (.all (.alt 2 (.take 8 (.all (.alt 9 (.all (.alt 10 (.all (.alt 11 .done .stop)) .stop)) .stop))) (.alt 8 (.all (.alt 2 (.all (.alt 9 (.all (.alt 10 (.all (.alt 11 .done .stop)) .stop)) .stop)) (.alt 9 (.all (.alt 2 (.all (.alt 10 (.all (.alt 11 .done .stop)) .stop)) .stop)) .stop))) .stop))) .stop))) (.alt 7 (.all (.alt 2 (.all (.alt 5 (.take 8 (.all (.alt 9 (.all (.alt 10 (.all (.alt 11 .done .stop)) .stop)) .stop))) .stop)) (.alt 5 (.all (.alt 2 (.take 8 (.all (.alt 9 (.all (.alt 10 (.all (.alt 11 .done .stop)) .stop)) .stop))) (.alt 8 (.all (.alt 2 (.all (.alt 9 (.all (.alt 10 (.all (.alt 11 .done .stop)) .stop)) .stop)) (.alt 9 (.all (.alt 2 (.all (.alt 10 (.all (.alt 11 .done .stop)) .stop)) .stop)) .stop))) .stop))) .stop))) .stop)))) .stop)))))))) ([0,0,0,0,0,24,0,64,160,256,519,2047],[0,0,0,0,0,24,0,64,160,256,519,1024]) 475 [(2,{ es:=some (([([97]:List UInt8),([98]:List UInt8),([99]:List UInt8),([100]:List UInt8),([101]:List UInt8),([102]:List UInt8),([103]:List UInt8),([104]:List UInt8)]).map cS) }),(5,{ res:=.d (.sl 3 (y1.map cS_Run)) }),(9,{ es:=some (([(S_Item.mk 0 y1 (S_Source.mk 0 a2 z_Point z_Point 0 [] z_Image) (255:Int) 0 false false false)]).map cS_Item) }),(10,{ frz:=[(9,0),(16,0)] })] [6] [] [(6,.box [dI a0,dI a1,.d (.sl 1 (([([97]:List UInt8),([98]:List UInt8),([99]:List UInt8),([100]:List UInt8),([101]:List UInt8),([102]:List UInt8),([103]:List UInt8),([104]:List UInt8)]).map cS)),.d (.sl 34 (([(S_Item.mk 0 y1 (S_Source.mk 0 a2 z_Point z_Point 0 [] z_Image) (255:Int) 0 false false false)]).map cS_Item))])] ((fun (o2:Prop)=>fun (o5:Prop)=>fun (o9:Prop)=>[(4,o2),(0,o5),(3,o9),(3,o5),(2,o9),(3,o5),(1,o9),(2,o5),(0,o2),(3,o9),(3,o2),(2,o9),(3,o2),(1,o9),(3,o2),(0,o9),(2,o9),(0,o2),(3,o2),(0,o5),(2,o9),(3,o5),(1,o9),(2,o5),(0,o2),(2,o9),(3,o2),(1,o9),(3,o2),(0,o9),(2,o9),(0,o2),(3,o2),(0,o5),(1,o9),(2,o5),(0,o2),(1,o9),(3,o2),(0,o9),(2,o9),(0,o2)]) ((([([97]:List UInt8),([98]:List UInt8),([99]:List UInt8),([100]:List UInt8),([101]:List UInt8),([102]:List UInt8),([103]:List UInt8),([104]:List UInt8)]).map cS)=(([([97]:List UInt8),([98]:List UInt8),([99]:List UInt8),([100]:List UInt8),([101]:List UInt8),([102]:List UInt8),([103]:List UInt8),([104]:List UInt8)]).map cS)) (ACall Try.prog 18 [dI a0,dI a1] [] (.d (.sl 3 (y1.map cS_Run))) []) ((([(S_Item.mk 0 y1 (S_Source.mk 0 a2 z_Point z_Point 0 [] z_Image) (255:Int) 0 false false false)]).map cS_Item)=(([(S_Item.mk 0 y1 (S_Source.mk 0 a2 z_Point z_Point 0 [] z_Image) (255:Int) 0 false false false)]).map cS_Item))) 2 (by kernel_rfl) (by kernel_rfl) (by kernel_rfl) (have p2:=rfl; have p5:=top_aPage_ok hy1; have p9:=rfl; ⟨p2,p5,p9,p5,p9,p5,p9,p5,p2,p9,p2,p9,p2,p9,p2,p9,p9,p2,p2,p5,p9,p5,p9,p5,p2,p9,p2,p9,p2,p9,p9,p2,p2,p5,p9,p5,p2,p9,p2,p9,p9,p2⟩) ?_
 cases h
 refine T_ret (tq [6])
theorem top_aCut_ok {F:Nat} {a0:Int} {a1:Int} {a2:Int} {r:Int} (h:top_aCut F a0 a1 a2=some r):ACall Try.prog 7 [.d (.v (.int .i64 a0)),.d (.v (.int .i64 a1)),.d (.v (.int .i64 a2))] [] (.d (.v (.int .i64 r))) []:=by
 rw [top_aCut] at h
 refine ACall.intro (N:=21) Try.func7 rfl rfl rfl rfl rfl fun e=>?_
 refine tR [] [0,1,2] ?_
 refine tR [] [0,1,7] ?_
 obtain ⟨hp1,h⟩:=chk_ok h
 obtain ⟨z1,hz1,h⟩:=lett_ok h
 obtain ⟨hp2,h⟩:=chk_ok h
 refine tR [iP 3 hp1,iN 5 hz1,iP 7 hp2] [6] ?_
 cases h
 refine T_ret (tq [6])
theorem top_aTiny_ok {F:Nat} {a0:S_List} {r:S_List} (h:top_aTiny F a0=some r):ACall Try.prog 5 [.agg (cS_List a0)] [] (.agg (cS_List r)) []:=by
 rw [top_aTiny] at h
 refine ACall.intro (N:=20) Try.func5 rfl rfl rfl rfl rfl fun e=>?_
 refine tR [] [1,2] ?_
 obtain ⟨y1,hy1,h⟩:=call_ok h
 obtain ⟨y2,hy2,h⟩:=call_ok h
 refine T_drawX mixed 2 (.take 0 (.take 1 (.take 3 (.all (.alt 2 (.take 4 (.take 6 (.all (.alt 5 (.all (.alt 7 (.take 8 (.all (.alt 9 .done .stop))) .stop)) .stop)))) (.alt 4 (.all (.alt 2 (.take 6 (.all (.alt 5 (.all (.alt 7 (.take 8 (.all (.alt 9 .done .stop))) .stop)) .stop))) .stop)) .stop)))))) ([0,1,2,0,8,20,31,127,255,511],[0,1,2,0,8,16,0,68,0,288]) 347 [(2,{ res:=dI y1 }),(5,{ res:=dI y2 })] [1,2] [] [(1,.box [dI y1,dI y2,.d (.sl 1 (a0.f2.map cS)),.d (.sl 34 (a0.f3.map cS_Item))]),(2,.box [dI 0,dI 0,oW1 [],oW2 []])] ((fun (o2:Prop)=>fun (o5:Prop)=>[(3,o2),(2,o5),(4,o2),(1,o5)]) (ACall Try.prog 7 [dI a0.f0,dI (1:Int),dI (2:Int)] [] (dI y1) []) (ACall Try.prog 7 [dI a0.f1,dI (1:Int),dI (2:Int)] [] (dI y2) [])) 3 (by kernel_rfl) (by kernel_rfl) (by kernel_rfl) (have p2:=top_aCut_ok hy1; have p5:=top_aCut_ok hy2; ⟨p2,p5,p2,p5⟩) ?_
 refine jc h [1,2] (fun p=>[(1,.box [dI y1,dI y2,.d (.sl 1 (a0.f2.map cS)),.d (.sl 34 (p.map cS_Item))]),(2,.box [dI 0,dI 0,oW1 [],oW2 []])]) (fun s h=>?_) (fun v1 h=>?_)
 ·refine tR [iW 2 (len_ok cS_Item (xs:=a0.f3))] [1,2,14] ?_
  refine tC h (fun hc h=>?_) fun hc h=>?_
  ·obtain ⟨hp1,h⟩:=chk_ok h
   cases h
   refine tRe [iW 2 (show (0≤(0:Int)∧(0:Int)≤(12:Int)∧(12:Int)≤((a0.f3.map cS_Item).length:Int))∧AV.d (.sl 34 (((a0.f3.map cS_Item).drop (0:Int).toNat).take ((12:Int).toNat - (0:Int).toNat)))=.d (.sl 34 (((a0.f3.drop (0:Int).toNat).take ((12:Int).toNat - (0:Int).toNat)).map cS_Item)) from cutH cS_Item hp1)] [1,2] (tJ [.keep [1,2]])
  ·cases h
   refine T_skip (tJ [.keep [1,2]])
 ·refine tR [] [2] ?_
  cases h
  refine T_ret (tq [2])
theorem list_IsName_ok {F:Nat} {a0:List UInt8} {r:Bool} (h:list_IsName F a0=some r):ACall Try.prog 11 [.d (.str a0)] [] (.d (.v (.bool r))) []:=by
 rw [list_IsName] at h
 refine ACall.intro (N:=47) Try.func11 rfl rfl rfl rfl rfl fun e=>?_
 refine tR [] [0] ?_
 refine T_seqk ?_
 obtain ⟨z4,hz1,h⟩:=lett_ok h
 refine tR [iB 7 hz1] [0,13] ?_
 refine tC h (fun hc h=>?_) fun hc h=>?_
 ·refine tR [] [2] ?_
  cases h
  refine T_ret (tq [2])
 ·refine T_skip (tS ?_)
  refine T_seqk ?_
  refine tR [] [0,15,16] ?_
  refine jEt h [] (fun p=>[]) (fun s h hk1=>?_) (fun s h=>?_)
  ·refine T_block ?_
   refine tL1 (list_IsName_L0 F a0) [.keep [0,15,16]] [0,15,16] (fun v1=>[(16,dI v1)]) F (0:Int) h fun n v1 h=>?_
   rw [list_IsName_L0] at h
   refine tR [] [0,15,16,17] ?_
   refine T_seqk ?_
   refine tC h (fun hc h=>?_) fun hc h=>?_
   ·refine T_skip (tS ?_)
    refine T_seqk ?_
    refine T_block ?_
    refine tR [] [0,3,15,16] ?_
    obtain ⟨hp1,h⟩:=chk_ok h
    refine tR [iP 2 hp1] [0,3,4,15,16] ?_
    obtain ⟨z1,hz2,h⟩:=lett_ok h
    refine tR [iB 5 hz2] [0,3,4,5,15,16] ?_
    obtain ⟨z2,hz3,h⟩:=lett_ok h
    obtain ⟨z3,hz4,h⟩:=lett_ok h
    refine tR [iB 14 hz3,iB 16 hz4] [0,15,16,45] ?_
    refine tC h (fun hc h=>?_) fun hc h=>?_
    ·refine tR [] [2] ?_
     cases h
     have h:=callE_esc hk1
     cases h
     refine T_ret (tq [2])
    ·refine T_skip (tS ?_)
     refine tRe [] [0,15,16] (tE [.keep [0,15,16]] (IntKind.i64.wrap (v1+(1:Int))) h)
   ·cases h
    refine T_exit (tG [.keep []])
  ·refine tS ?_
   refine tR [] [2] ?_
   cases h
   refine T_ret (tq [2])
theorem slices_Index_string_ok {F:Nat} {a0:List (List UInt8)} {a1:List UInt8} {r:Int} (h:slices_Index_string F a0 a1=some r):ACall Try.prog 19 [.d (.sl 1 (a0.map cS)),.d (.str a1)] [] (.d (.v (.int .i64 r))) []:=by
 rw [slices_Index_string] at h
 refine ACall.intro (N:=19) Try.func19 rfl rfl rfl rfl rfl fun e=>?_
 refine tR [] [0,1] ?_
 refine T_seqk ?_
 refine tR [iW 1 (len_ok cS (xs:=a0))] [0,1,7,8] ?_
 refine jEt h [] (fun p=>[]) (fun s h hk1=>?_) (fun s h=>?_)
 ·refine T_block ?_
  refine tL1 (slices_Index_string_L0 F a0 a1) [.keep [0,1,7,8]] [0,1,7,8] (fun v1=>[(8,dI v1)]) F (0:Int) h fun n v1 h=>?_
  rw [slices_Index_string_L0] at h
  refine tR [] [0,1,7,8,9] ?_
  refine T_seqk ?_
  refine tC h (fun hc h=>?_) fun hc h=>?_
  ·refine T_skip (tS ?_)
   refine T_seqk ?_
   refine T_block ?_
   refine tR [] [0,1,5,7,8] ?_
   obtain ⟨hp1,h⟩:=chk_ok h
   refine tR [iI 3 (idx_ok (d:=[]) cS hp1)] [0,1,5,7,8,16] ?_
   refine tC h (fun hc h=>?_) fun hc h=>?_
   ·refine tR [] [4] ?_
    cases h
    have h:=callE_esc hk1
    cases h
    refine T_ret (tq [4])
   ·refine T_skip (tS ?_)
    refine tRe [] [0,1,7,8] (tE [.keep [0,1,7,8]] (IntKind.i64.wrap (v1+(1:Int))) h)
  ·cases h
   refine T_exit (tG [.keep []])
 ·refine tS ?_
  refine tR [] [4] ?_
  cases h
  refine T_ret (tq [4])
theorem slices_Contains_string_ok {F:Nat} {a0:List (List UInt8)} {a1:List UInt8} {r:Bool} (h:slices_Contains_string F a0 a1=some r):ACall Try.prog 12 [.d (.sl 1 (a0.map cS)),.d (.str a1)] [] (.d (.v (.bool r))) []:=by
 rw [slices_Contains_string] at h
 refine ACall.intro (N:=9) Try.func12 rfl rfl rfl rfl rfl fun e=>?_
 refine tR [] [0,1] ?_
 obtain ⟨y1,hy1,h⟩:=call_ok h
 refine tR [iC 2 [] (slices_Index_string_ok hy1)] [4] ?_
 cases h
 refine T_ret (tq [4])
theorem list_isZero_ok {F:Nat} {a0:S_Source} {r:Bool} (h:list_isZero F a0=some r):ACall Try.prog 34 [.agg (cS_Source a0)] [] (.d (.v (.bool r))) []:=by
 rw [list_isZero] at h
 refine ACall.intro (N:=24) Try.func34 rfl rfl rfl rfl rfl fun e=>?_
 refine tR [] [1] ?_
 obtain ⟨z1,hz1,h⟩:=lett_ok h
 obtain ⟨z2,hz2,h⟩:=lett_ok h
 refine tR [iB 9 hz1,iW 18 (len_ok cS_Stop (xs:=a0.f5)),iB 20 hz2] [2] ?_
 cases h
 refine T_ret (tq [2])
theorem list_noImage_ok {F:Nat} {a0:S_Image} {r:Bool} (h:list_noImage F a0=some r):ACall Try.prog 35 [.agg (cS_Image a0)] [] (.d (.v (.bool r))) []:=by
 rw [list_noImage] at h
 refine ACall.intro (N:=39) Try.func35 rfl rfl rfl rfl rfl fun e=>?_
 refine tR [] [1] ?_
 obtain ⟨z1,hz1,h⟩:=lett_ok h
 obtain ⟨z2,hz2,h⟩:=lett_ok h
 obtain ⟨z3,hz3,h⟩:=lett_ok h
 refine tR [iW 11 (len_ok cS_Inks (xs:=a0.f2)),iB 13 hz1,iW 17 (len_ok cU (xs:=a0.f3)),iB 24 hz2,iB 30 hz3] [2] ?_
 cases h
 refine T_ret (tq [2])
theorem list_noSource_ok {F:Nat} {a0:S_Source} {r:Bool} (h:list_noSource F a0=some r):ACall Try.prog 20 [.agg (cS_Source a0)] [] (.d (.v (.bool r))) []:=by
 rw [list_noSource] at h
 refine ACall.intro (N:=21) Try.func20 rfl rfl rfl rfl rfl fun e=>?_
 refine tR [] [1] ?_
 obtain ⟨z1,hz1,h⟩:=lett_ok h
 obtain ⟨y1,hy1,h⟩:=call_ok h
 obtain ⟨y2,hy2,h⟩:=call_ok h
 refine tR [iB 7 hz1,iD 11 [] (fun hg=>list_isZero_ok (gcall_ok hg hy1)),iD 16 [] (fun hg=>list_noImage_ok (gcall_ok hg hy2))] [2] ?_
 cases h
 refine T_ret (tq [2])
theorem region_permitted_ok {F:Nat} {a0:Int} {r:Bool} (h:region_permitted F a0=some r):ACall Try.prog 36 [.d (.v (.int .i64 a0))] [] (.d (.v (.bool r))) []:=by
 rw [region_permitted] at h
 refine ACall.intro (N:=9) Try.func36 rfl rfl rfl rfl rfl fun e=>?_
 refine tR [] [0] ?_
 refine tR [] [2] ?_
 cases h
 refine T_ret (tq [2])
theorem region_Check_ok {F:Nat} {a0:List S_Run} {r:Int} (h:region_Check F a0=some r):ACall Try.prog 21 [.d (.sl 3 (a0.map cS_Run))] [] (.d (.v (.int .i64 r))) []:=by
 rw [region_Check] at h
 refine ACall.intro (N:=69) Try.func21 rfl rfl rfl rfl rfl fun e=>?_
 refine tR [] [0] ?_
 refine T_seqk ?_
 refine tR [iW 1 (len_ok cS_Run (xs:=a0))] [0,5,6,7] ?_
 refine jEt h [] (fun p=>[]) (fun s h hk1=>?_) (fun s h=>?_)
 ·refine T_block ?_
  refine tL1 (region_Check_L0 F a0) [.keep [0,5,6,7]] [0,5,6,7] (fun v1=>[(7,dI v1)]) F (0:Int) h fun n v1 h=>?_
  rw [region_Check_L0] at h
  refine tR [] [0,5,6,7,8] ?_
  refine T_seqk ?_
  refine tC h (fun hc h=>?_) fun hc h=>?_
  ·refine T_skip (tS ?_)
   refine T_seqk ?_
   refine T_block ?_
   obtain ⟨hp1,h⟩:=chk_ok h
   refine tR [iI 1 (idx_ok (d:=z_Run) cS_Run hp1)] [0,3,4,5,6,7] ?_
   refine T_seqk ?_
   obtain ⟨y1,hy1,h⟩:=call_ok h
   obtain ⟨y2,hy2,h⟩:=call_ok h
   obtain ⟨y3,hy3,h⟩:=call_ok h
   refine tR [iC 2 [] (region_permitted_ok hy1),iD 7 [] (fun hg=>region_border_ok (gcall_ok hg hy2)),iD 13 [] (fun hg=>region_border_ok (gcall_ok hg hy3))] [0,3,4,5,6,7,27] ?_
   refine tC h (fun hc h=>?_) fun hc h=>?_
   ·refine tR [] [2] ?_
    cases h
    have h:=callE_esc hk1
    cases h
    refine T_ret (tq [2])
   ·refine T_skip (tS ?_)
    refine T_seqk ?_
    refine tR [] [0,3,4,5,6,7,32] ?_
    refine tC h (fun hc h=>?_) fun hc h=>?_
    ·refine tR [] [2] ?_
     cases h
     have h:=callE_esc hk1
     cases h
     refine T_ret (tq [2])
    ·refine T_skip (tS ?_)
     obtain ⟨hp2,h⟩:=chk_ok h
     obtain ⟨z1,hz1,h⟩:=lett_ok h
     obtain ⟨hp3,h⟩:=chk_ok h
     obtain ⟨z2,hz2,h⟩:=lett_ok h
     obtain ⟨hp4,h⟩:=chk_ok h
     obtain ⟨z3,hz3,h⟩:=lett_ok h
     obtain ⟨z4,hz4,h⟩:=lett_ok h
     refine T_draw mixed [(8,{ cs:=cS_Run (a0.getD (IntKind.i64.wrap (v1 - (1:Int))).toNat z_Run) }),(11,{ rw:=some (dB z1) }),(19,{ cs:=cS_Run (a0.getD (IntKind.i64.wrap (v1 - (1:Int))).toNat z_Run) }),(22,{ rw:=some (dB z2) }),(29,{ cs:=cS_Run (a0.getD (IntKind.i64.wrap (v1 - (1:Int))).toNat z_Run) }),(32,{ rw:=some (dB z3) }),(34,{ rw:=some (dB z4) })] [0,5,6,7,67] [] [(0,.d (.sl 3 (a0.map cS_Run))),(5,.d (.sl 3 (a0.map cS_Run))),(6,dI (a0.length:Int)),(7,dI v1),(67,dB z4)] [(3,((((decide (v1 > (0:Int))) == true) && true)=true→True)),(0,((((decide (v1 > (0:Int))) == true) && true)=true→True)),(0,((((decide (v1 > (0:Int))) == true) && true)=true→True)),(0,((((decide (v1 > (0:Int))) == true) && true)=true→True)),(0,((((decide (v1 > (0:Int))) == true) && true)=true→True)),(0,((((decide (v1 > (0:Int))) == true) && true)=true→0≤(IntKind.i64.wrap (v1 - (1:Int)))∧(a0.map cS_Run)[(IntKind.i64.wrap (v1 - (1:Int))).toNat]? = some (cS_Run (a0.getD (IntKind.i64.wrap (v1 - (1:Int))).toNat z_Run)))),(0,((((decide (v1 > (0:Int))) == true) && true)=true→True)),(0,((((decide (v1 > (0:Int))) == true) && true)=true→True)),(0,((((decide (v1 > (0:Int))) == true) && true)=true→(True)∧dB (decide (((a0.getD v1.toNat z_Run).f0)≤((a0.getD (IntKind.i64.wrap (v1 - (1:Int))).toNat z_Run).f0)))=dB z1)),(2,((((bif (decide (v1 > (0:Int))) then z1 else false) == true) && true)=true→True)),(0,((((bif (decide (v1 > (0:Int))) then z1 else false) == true) && true)=true→True)),(0,((((bif (decide (v1 > (0:Int))) then z1 else false) == true) && true)=true→True)),(0,((((bif (decide (v1 > (0:Int))) then z1 else false) == true) && true)=true→True)),(0,((((bif (decide (v1 > (0:Int))) then z1 else false) == true) && true)=true→True)),(0,((((bif (decide (v1 > (0:Int))) then z1 else false) == true) && true)=true→0≤(IntKind.i64.wrap (v1 - (1:Int)))∧(a0.map cS_Run)[(IntKind.i64.wrap (v1 - (1:Int))).toNat]? = some (cS_Run (a0.getD (IntKind.i64.wrap (v1 - (1:Int))).toNat z_Run)))),(0,((((bif (decide (v1 > (0:Int))) then z1 else false) == true) && true)=true→True)),(0,((((bif (decide (v1 > (0:Int))) then z1 else false) == true) && true)=true→True)),(0,((((bif (decide (v1 > (0:Int))) then z1 else false) == true) && true)=true→(True)∧dB (decide (((a0.getD v1.toNat z_Run).f0) < ((a0.getD (IntKind.i64.wrap (v1 - (1:Int))).toNat z_Run).f0)))=dB z2)),(0,((((bif (decide (v1 > (0:Int))) then z1 else false) == true) && true)=true→True)),(0,(((z2 == false) && (((bif (decide (v1 > (0:Int))) then z1 else false) == true) && true))=true→True)),(0,(((z2 == false) && (((bif (decide (v1 > (0:Int))) then z1 else false) == true) && true))=true→True)),(0,(((z2 == false) && (((bif (decide (v1 > (0:Int))) then z1 else false) == true) && true))=true→True)),(0,(((z2 == false) && (((bif (decide (v1 > (0:Int))) then z1 else false) == true) && true))=true→True)),(0,(((z2 == false) && (((bif (decide (v1 > (0:Int))) then z1 else false) == true) && true))=true→True)),(0,(((z2 == false) && (((bif (decide (v1 > (0:Int))) then z1 else false) == true) && true))=true→0≤(IntKind.i64.wrap (v1 - (1:Int)))∧(a0.map cS_Run)[(IntKind.i64.wrap (v1 - (1:Int))).toNat]? = some (cS_Run (a0.getD (IntKind.i64.wrap (v1 - (1:Int))).toNat z_Run)))),(0,(((z2 == false) && (((bif (decide (v1 > (0:Int))) then z1 else false) == true) && true))=true→True)),(0,(((z2 == false) && (((bif (decide (v1 > (0:Int))) then z1 else false) == true) && true))=true→True)),(0,(((z2 == false) && (((bif (decide (v1 > (0:Int))) then z1 else false) == true) && true))=true→(True)∧dB (decide (((a0.getD v1.toNat z_Run).f1)≤((a0.getD (IntKind.i64.wrap (v1 - (1:Int))).toNat z_Run).f2)))=dB z3)),(0,((((bif (decide (v1 > (0:Int))) then z1 else false) == true) && true)=true→True)),(0,(True)∧dB (bif (bif (decide (v1 > (0:Int))) then z1 else false) then (bif z2 then true else z3) else false)=dB z4)] 0 (by kernel_rfl) (⟨tr,tr,tr,tr,tr,(fun hg=>idx_ok (d:=z_Run) cS_Run (hp2 hg)),tr,tr,(fun hg=>⟨trivial,(by subst hz1; rfl)⟩),tr,tr,tr,tr,tr,(fun hg=>idx_ok (d:=z_Run) cS_Run (hp3 hg)),tr,tr,(fun hg=>⟨trivial,(by subst hz2; rfl)⟩),tr,tr,tr,tr,tr,tr,(fun hg=>idx_ok (d:=z_Run) cS_Run (hp4 hg)),tr,tr,(fun hg=>⟨trivial,(by subst hz3; rfl)⟩),tr,⟨trivial,(by subst hz4; rfl)⟩⟩) ?_
     refine tC h (fun hc h=>?_) fun hc h=>?_
     ·refine tR [] [2] ?_
      cases h
      have h:=callE_esc hk1
      cases h
      refine T_ret (tq [2])
     ·refine T_skip (tS ?_)
      refine tRe [] [0,5,6,7] (tE [.keep [0,5,6,7]] (IntKind.i64.wrap (v1+(1:Int))) h)
  ·cases h
   refine T_exit (tG [.keep []])
 ·refine tS ?_
  refine tR [] [2] ?_
  cases h
  refine T_ret (tq [2])
theorem gradient_plain_ok {F:Nat} {a0:S_Image} {r:Bool} (h:gradient_plain F a0=some r):ACall Try.prog 50 [.agg (cS_Image a0)] [] (.d (.v (.bool r))) []:=by
 rw [gradient_plain] at h
 refine ACall.intro (N:=39) Try.func50 rfl rfl rfl rfl rfl fun e=>?_
 refine tR [] [1] ?_
 obtain ⟨z1,hz1,h⟩:=lett_ok h
 obtain ⟨z2,hz2,h⟩:=lett_ok h
 obtain ⟨z3,hz3,h⟩:=lett_ok h
 refine tR [iW 11 (len_ok cS_Inks (xs:=a0.f2)),iB 13 hz1,iW 17 (len_ok cU (xs:=a0.f3)),iB 24 hz2,iB 30 hz3] [2] ?_
 cases h
 refine T_ret (tq [2])
theorem gradient_within_ok {F:Nat} {a0:List Int} {r:Bool} (h:gradient_within F a0=some r):ACall Try.prog 51 [.d (.sl 1 (a0.map (cI .i64)))] [] (.d (.v (.bool r))) []:=by
 rw [gradient_within] at h
 refine ACall.intro (N:=18) Try.func51 rfl rfl rfl rfl rfl fun e=>?_
 refine tR [] [0] ?_
 refine T_seqk ?_
 refine tR [iW 1 (show True∧dI ((a0.map (cI .i64)).length:Int)=dI (a0.length:Int) from len_ok (cI .i64))] [5,6,7] ?_
 refine jEt h [] (fun p=>[]) (fun s h hk1=>?_) (fun s h=>?_)
 ·refine T_block ?_
  refine tL1 (gradient_within_L0 F a0) [.keep [5,6,7]] [5,6,7] (fun v1=>[(7,dI v1)]) F (0:Int) h fun n v1 h=>?_
  rw [gradient_within_L0] at h
  refine tR [] [5,6,7,8] ?_
  refine T_seqk ?_
  refine tC h (fun hc h=>?_) fun hc h=>?_
  ·refine T_skip (tS ?_)
   refine T_seqk ?_
   refine T_block ?_
   obtain ⟨hp1,h⟩:=chk_ok h
   refine tR [iI 0 (idx_ok (d:=0) (cI .i64) hp1)] [4,5,6,7] ?_
   obtain ⟨z1,hz1,h⟩:=lett_ok h
   refine tR [iB 5 hz1] [5,6,7,16] ?_
   refine tC h (fun hc h=>?_) fun hc h=>?_
   ·refine tR [] [2] ?_
    cases h
    have h:=callE_esc hk1
    cases h
    refine T_ret (tq [2])
   ·refine T_skip (tS ?_)
    refine tRe [] [5,6,7] (tE [.keep [5,6,7]] (IntKind.i64.wrap (v1+(1:Int))) h)
  ·cases h
   refine T_exit (tG [.keep []])
 ·refine tS ?_
  refine tR [] [2] ?_
  cases h
  refine T_ret (tq [2])
theorem gradient_CheckStops_ok {F:Nat} {a0:List S_Stop} {r:Int} (h:gradient_CheckStops F a0=some r):ACall Try.prog 52 [.d (.sl 9 (a0.map cS_Stop))] [] (.d (.v (.int .i64 r))) []:=by
 rw [gradient_CheckStops] at h
 refine ACall.intro (N:=42) Try.func52 rfl rfl rfl rfl rfl fun e=>?_
 refine tR [] [0] ?_
 refine T_seqk ?_
 obtain ⟨z3,hz1,h⟩:=lett_ok h
 refine tR [iW 1 (len_ok cS_Stop (xs:=a0)),iW 5 (len_ok cS_Stop (xs:=a0)),iB 7 hz1] [0,12] ?_
 refine tC h (fun hc h=>?_) fun hc h=>?_
 ·refine tR [] [2] ?_
  cases h
  refine T_ret (tq [2])
 ·refine T_skip (tS ?_)
  refine T_seqk ?_
  refine tR [iW 1 (len_ok cS_Stop (xs:=a0))] [0,13,14,15] ?_
  refine jEt h [] (fun p=>[]) (fun s h hk1=>?_) (fun s h=>?_)
  ·refine T_block ?_
   refine tL1 (gradient_CheckStops_L0 F a0) [.keep [0,13,14,15]] [0,13,14,15] (fun v1=>[(15,dI v1)]) F (0:Int) h fun n v1 h=>?_
   rw [gradient_CheckStops_L0] at h
   refine tR [] [0,13,14,15,16] ?_
   refine T_seqk ?_
   refine tC h (fun hc h=>?_) fun hc h=>?_
   ·refine T_skip (tS ?_)
    refine T_seqk ?_
    refine T_block ?_
    obtain ⟨hp1,h⟩:=chk_ok h
    refine tR [iI 1 (idx_ok (d:=z_Stop) cS_Stop hp1)] [0,3,4,13,14,15] ?_
    refine T_seqk ?_
    obtain ⟨z1,hz2,h⟩:=lett_ok h
    refine tR [iB 7 hz2] [0,3,4,13,14,15,27] ?_
    refine tC h (fun hc h=>?_) fun hc h=>?_
    ·refine tR [] [2] ?_
     cases h
     have h:=callE_esc hk1
     cases h
     refine T_ret (tq [2])
    ·refine T_skip (tS ?_)
     obtain ⟨hp2,h⟩:=chk_ok h
     obtain ⟨z2,hz3,h⟩:=lett_ok h
     refine T_draw mixed [(8,{ cs:=cS_Stop (a0.getD (IntKind.i64.wrap (v1 - (1:Int))).toNat z_Stop) }),(11,{ rw:=some (dB z2) })] [0,13,14,15,40] [] [(0,.d (.sl 9 (a0.map cS_Stop))),(13,.d (.sl 9 (a0.map cS_Stop))),(14,dI (a0.length:Int)),(15,dI v1),(40,dB (bif (decide (v1 > (0:Int))) then z2 else false))] [(3,((((decide (v1 > (0:Int))) == true) && true)=true→True)),(0,((((decide (v1 > (0:Int))) == true) && true)=true→True)),(0,((((decide (v1 > (0:Int))) == true) && true)=true→True)),(0,((((decide (v1 > (0:Int))) == true) && true)=true→True)),(0,((((decide (v1 > (0:Int))) == true) && true)=true→True)),(0,((((decide (v1 > (0:Int))) == true) && true)=true→0≤(IntKind.i64.wrap (v1 - (1:Int)))∧(a0.map cS_Stop)[(IntKind.i64.wrap (v1 - (1:Int))).toNat]? = some (cS_Stop (a0.getD (IntKind.i64.wrap (v1 - (1:Int))).toNat z_Stop)))),(0,((((decide (v1 > (0:Int))) == true) && true)=true→True)),(0,((((decide (v1 > (0:Int))) == true) && true)=true→True)),(0,((((decide (v1 > (0:Int))) == true) && true)=true→(True)∧dB (decide (((a0.getD v1.toNat z_Stop).f0) < ((a0.getD (IntKind.i64.wrap (v1 - (1:Int))).toNat z_Stop).f0)))=dB z2))] 1 (by kernel_rfl) (⟨tr,tr,tr,tr,tr,(fun hg=>idx_ok (d:=z_Stop) cS_Stop (hp2 hg)),tr,tr,(fun hg=>⟨trivial,(by subst hz3; rfl)⟩)⟩) ?_
     refine tC h (fun hc h=>?_) fun hc h=>?_
     ·refine tR [] [2] ?_
      cases h
      have h:=callE_esc hk1
      cases h
      refine T_ret (tq [2])
     ·refine T_skip (tS ?_)
      refine tRe [] [0,13,14,15] (tE [.keep [0,13,14,15]] (IntKind.i64.wrap (v1+(1:Int))) h)
   ·cases h
    refine T_exit (tG [.keep []])
  ·refine tS ?_
   refine tR [] [2] ?_
   cases h
   refine T_ret (tq [2])
theorem gradient_Check_ok {F:Nat} {a0:S_Source} {r:Int} (h:gradient_Check F a0=some r):ACall Try.prog 39 [.agg (cS_Source a0)] [] (.d (.v (.int .i64 r))) []:=by
 rw [gradient_Check] at h
 refine ACall.intro (N:=83) Try.func39 rfl rfl rfl rfl rfl fun e=>?_
 refine tR [] [1] ?_
 refine tR [] [1,3] ?_
 refine T_seqk ?_
 refine tR [] [1,3,13] ?_
 refine tC h (fun hc h=>?_) fun hc h=>?_
 ·refine tR [] [2] ?_
  cases h
  refine T_ret (tq [2])
 ·refine T_skip (tS ?_)
  refine T_seqk ?_
  obtain ⟨z1,hz1,h⟩:=lett_ok h
  obtain ⟨y1,hy1,h⟩:=call_ok h
  obtain ⟨z2,hz2,h⟩:=lett_ok h
  obtain ⟨z3,hz3,h⟩:=lett_ok h
  refine tR [iB 3 hz1,iD 7 [] (fun hg=>gradient_plain_ok (gcall_ok hg hy1)),iB 17 hz2,iB 27 hz3] [1,3,41] ?_
  refine tC h (fun hc h=>?_) fun hc h=>?_
  ·refine tR [] [2] ?_
   cases h
   refine T_ret (tq [2])
  ·refine T_skip (tS ?_)
   refine T_seqk ?_
   refine T_block ?_
   obtain ⟨y2,hy2,h⟩:=call_ok h
   refine tR [iR 12 (([a0.f2.f0,a0.f2.f1,a0.f3.f0,a0.f3.f1]).map (cI .i64)),iC 13 [] (gradient_within_ok hy2)] [1,3,42] ?_
   refine tC h (fun hc h=>?_) fun hc h=>?_
   ·refine tR [] [2] ?_
    cases h
    refine T_ret (tq [2])
   ·refine tR [] [1,3,58] ?_
    refine tC h (fun hc h=>?_) fun hc h=>?_
    ·refine tR [] [2] ?_
     cases h
     refine T_ret (tq [2])
    ·obtain ⟨z4,hz4,h⟩:=lett_ok h
     refine tR [iB 11 hz4] [1,67] ?_
     refine tC h (fun hc h=>?_) fun hc h=>?_
     ·refine tR [] [2] ?_
      cases h
      refine T_ret (tq [2])
     ·refine T_skip (tS ?_)
      obtain ⟨y3,hy3,h⟩:=call_ok h
      refine tR [iC 2 [] (gradient_CheckStops_ok hy3)] [2] ?_
      cases h
      refine T_ret (tq [2])
theorem slices_Grow_Item_ok {F:Nat} {a0:Int} {r:(List S_Item)} (h:slices_Grow_Item F a0=some r):ACall Try.prog 29 [.d (.v (.slice none 0 0)),.d (.v (.int .i64 a0))] [] (.own 48 34 (r.map cS_Item)) []:=by
 rw [slices_Grow_Item] at h
 refine ACall.intro (N:=27) Try.func29 rfl rfl rfl rfl rfl fun e=>?_
 refine T_r0 [] [0,1] [] 1 ?_
 refine T_seqk ?_
 refine T_r0 [] [0,1,6] [(6,dB (decide (a0 < (0:Int))))] 2 ?_
 refine T_cd (decide (a0 < (0:Int))) (fun hc=>?_) (fun hc=>?_)
 ·have h:=cond_tt hc h
  cases h
 ·have h:=cond_ff hc h
  refine T_skip fun a w hm=>then_norm (((?_:T Try.prog e 27 _ _ _) a w hm))
  refine T_joinc h (fun (p:(List S_Item))=>[(0,oW2 p)]) (fun s h=>?_) (fun v1 h=>?_)
  ·refine T_reg [] [0,1] [(1,dI (IntKind.i64.wrap (a0 - (IntKind.i64.wrap ((0:Int) - (([]:List Int).length:Int))))))] [] 8 (by kernel_rfl) (trivial) ?_
   obtain ⟨z1,hz1,h⟩:=lett_ok h
   refine T_rg [(1,{ rw:=some (dB z1) })] [0,1,16] [(16,dB z1)] [(1,(True)∧dB (decide ((IntKind.i64.wrap (a0 - (IntKind.i64.wrap ((0:Int) - (([]:List Int).length:Int))))) > (0:Int)))=dB z1)] 0 (⟨trivial,(by subst hz1; rfl)⟩) ?_
   refine T_cd z1 (fun hc=>?_) (fun hc=>?_)
   ·have h:=cond_tt hc h
    obtain ⟨hp1,h⟩:=chk_ok h
    obtain ⟨hp2,h⟩:=chk_ok h
    obtain ⟨l1,hl1,h⟩:=lett_ok h
    obtain ⟨hp3,h⟩:=chk_ok h
    obtain hs:=Option.some.inj h; subst hs
    refine T_reg_end [(5,{ es:=some (l1.map cS_Item) }),(8,{ take:=[0],es:=some ((l1.take (([]:List Int).length:Int).toNat).map cS_Item) })] [0] [(0,.own 48 34 ((l1.take (([]:List Int).length:Int).toNat).map cS_Item))] [(3,0≤(0:Int)∧(0:Int)≤(0:Int)∧(0:Int)≤0),(1,(0 < (IntKind.i64.wrap (a0 - (IntKind.i64.wrap ((0:Int) - (([]:List Int).length:Int)))))∧(IntKind.i64.wrap (a0 - (IntKind.i64.wrap ((0:Int) - (([]:List Int).length:Int)))))≤4294967296)∧List.replicate (IntKind.i64.wrap (a0 - (IntKind.i64.wrap ((0:Int) - (([]:List Int).length:Int))))).toNat (cS_Item z_Item)=(l1.map cS_Item)),(2,(0≤(([]:List Int).length:Int)∧(([]:List Int).length:Int)≤((l1.map cS_Item).length:Int))∧(l1.map cS_Item).take (([]:List Int).length:Int).toNat=((l1.take (([]:List Int).length:Int).toNat).map cS_Item))] 1 (by kernel_rfl) (⟨hp1,and_trans (⟨hp2,repl_ok cS_Item rfl⟩) (by subst hl1; rfl),take_ok cS_Item hp3⟩) fun a w hm=>then_norm (hm.co (cs:=[.keep [0]]) (by show _=_; kernel_rfl))
   ·have h:=cond_ff hc h
    obtain hs:=Option.some.inj h; subst hs
    refine T_skip fun a w hm=>then_norm (hm.co (cs:=[.nil 0 48 34,.keep [0]]) (by show _=_; kernel_rfl))
  ·skip
   refine T_r0 [] [0,4] [(4,.vw (0,0))] 2 ?_
   obtain hs:=Option.some.inj h; subst hs
   refine T_ret fun a w hm=>T_rn [(4,oW2 v1)] [4] [.claim 4,.keep [4]] (by exact trivial) a w hm
theorem slices_Concat_Item_ok {F:Nat} {a0:List (List S_Item)} {r:(List S_Item)} (h:slices_Concat_Item F a0=some r):ACall Try.prog 15 [.d (.sl 1 (a0.map (cL 34 cS_Item)))] [] (.own 48 34 (r.map cS_Item)) []:=by
 rw [slices_Concat_Item] at h
 refine ACall.intro (N:=36) Try.func15 rfl rfl rfl rfl rfl fun e=>?_
 refine T_r0 [] [0] [] 1 ?_
 refine T_r0 [] [0,3] [(3,dI (0:Int))] 1 ?_
 refine T_seqk ?_
 refine T_rg [(1,{ rw:=some (dI (a0.length:Int)) })] [0,3,9,10,11] [(9,.d (.sl 1 (a0.map (cL 34 cS_Item)))),(10,dI (a0.length:Int)),(11,dI (0:Int))] [(1,True∧dI ((a0.map (cL 34 cS_Item)).length:Int)=dI (a0.length:Int))] 1 (len_ok (cL 34 cS_Item)) ?_
 refine T_joinct h (fun (p:Int)=>[(0,.d (.sl 1 (a0.map (cL 34 cS_Item)))),(3,dI p)]) (fun s h=>?_) (fun v5 h=>?_)
 ·refine T_co [.keep [0,3,9,10,11]] ((fun (p:Int×Int)=>[(0,.d (.sl 1 (a0.map (cL 34 cS_Item)))),(3,dI p.1),(9,.d (.sl 1 (a0.map (cL 34 cS_Item)))),(10,dI (a0.length:Int)),(11,dI p.2)]) ((0:Int),(0:Int))) (by show _=_; kernel_rfl) ?_
  refine T_block ?_
  refine T_loopF (ι:=Int×Int) (fun (p:Int×Int)=>[(0,.d (.sl 1 (a0.map (cL 34 cS_Item)))),(3,dI p.1),(9,.d (.sl 1 (a0.map (cL 34 cS_Item)))),(10,dI (a0.length:Int)),(11,dI p.2)]) (fun n p=>slices_Concat_Item_L0 F a0 n p.1 p.2=some s) (fun i hh=>by simp [slices_Concat_Item_L0] at hh) (fun n p h=>?_) F ((0:Int),(0:Int)) h
  obtain ⟨v1,v2⟩:=p
  have h:slices_Concat_Item_L0 F a0 (n+1) v1 v2=some s:=h
  rw [slices_Concat_Item_L0] at h
  refine T_r0 [] [0,3,9,10,11,12] [(12,dB (decide (v2 < (a0.length:Int))))] 1 ?_
  refine T_seqk ?_
  refine T_cd (decide (v2 < (a0.length:Int))) (fun hc=>?_) (fun hc=>?_)
  ·have h:=cond_tt hc h
   refine T_skip fun a w hm=>then_norm (((?_:T Try.prog e 36 _ _ _) a w hm))
   refine T_seqk ?_
   refine T_block ?_
   obtain ⟨hp1,h⟩:=chk_ok h
   refine T_rg [(0,{ cs:=(cL 34 cS_Item) (a0.getD v2.toNat []) })] [0,3,5,9,10,11] [(5,.d (.sl 34 ((a0.getD v2.toNat []).map cS_Item)))] [(0,0≤v2∧(a0.map (cL 34 cS_Item))[v2.toNat]? = some ((cL 34 cS_Item) (a0.getD v2.toNat [])))] 2 (idx_ok (d:=[]) (cL 34 cS_Item) hp1) ?_
   refine T_rg [(2,{ rw:=some (dI ((a0.getD v2.toNat []).length:Int)) })] [0,3,9,10,11] [(3,dI (IntKind.i64.wrap (v1+((a0.getD v2.toNat []).length:Int))))] [(2,True∧dI (((a0.getD v2.toNat []).map cS_Item).length:Int)=dI ((a0.getD v2.toNat []).length:Int))] 2 (len_ok cS_Item) ?_
   refine T_r0 [] [0,3,9,10,11,20] [(20,dB (decide ((IntKind.i64.wrap (v1+((a0.getD v2.toNat []).length:Int))) < (0:Int))))] 2 ?_
   refine T_cd (decide ((IntKind.i64.wrap (v1+((a0.getD v2.toNat []).length:Int))) < (0:Int))) (fun hc=>?_) (fun hc=>?_)
   ·have h:=cond_tt hc h
    cases h
   ·have h:=cond_ff hc h
    refine T_skip fun a w hm=>inBlock_norm (then_norm (((?_:T Try.prog e 36 _ _ _) a w hm)))
    refine T_reg_end [] [0,3,9,10,11] [(11,dI (IntKind.i64.wrap (v2+(1:Int))))] [] 2 (by kernel_rfl) (trivial) fun a w hm=>then_norm (⟨(IntKind.i64.wrap (v1+((a0.getD v2.toNat []).length:Int)),IntKind.i64.wrap (v2+(1:Int))),h,hm.co (cs:=[.keep [0,3,9,10,11]]) (by show _=_; kernel_rfl)⟩)
  ·have h:=cond_ff hc h
   obtain hs:=Option.some.inj h; subst hs
   refine T_exit fun a w hm=>then_exit (then_exit (inBlock_exit (then_norm (hm.co (cs:=[.keep [0,3]]) (by show _=_; kernel_rfl)))))
 ·skip
  refine fun a w hm=>then_norm (((?_:T Try.prog e 36 _ _ _) a w hm))
  obtain ⟨y1,hy1,h⟩:=call_ok h
  refine T_rg [(1,{ res:=oW2 y1 })] [0,6] [(6,oW2 y1)] [(1,ACall Try.prog 29 [.d (.v (.slice none 0 0)),dI v5] [] (oW2 y1) [])] 1 (slices_Grow_Item_ok hy1) ?_
  refine T_seqk ?_
  refine T_rg [(1,{ rw:=some (dI (a0.length:Int)) })] [6,25,26,27] [(25,.d (.sl 1 (a0.map (cL 34 cS_Item)))),(26,dI (a0.length:Int)),(27,dI (0:Int))] [(1,True∧dI ((a0.map (cL 34 cS_Item)).length:Int)=dI (a0.length:Int))] 1 (len_ok (cL 34 cS_Item)) ?_
  refine T_joinct h (fun (p:(List S_Item))=>[(6,oW2 p)]) (fun s h=>?_) (fun v6 h=>?_)
  ·refine T_co [.keep [6,25,26,27]] ((fun (p:(List S_Item)×Int)=>[(6,oW2 p.1),(25,.d (.sl 1 (a0.map (cL 34 cS_Item)))),(26,dI (a0.length:Int)),(27,dI p.2)]) (y1,(0:Int))) (by show _=_; kernel_rfl) ?_
   refine T_block ?_
   refine T_loopF (ι:=(List S_Item)×Int) (fun (p:(List S_Item)×Int)=>[(6,oW2 p.1),(25,.d (.sl 1 (a0.map (cL 34 cS_Item)))),(26,dI (a0.length:Int)),(27,dI p.2)]) (fun n p=>slices_Concat_Item_L2 F a0 n p.1 p.2=some s) (fun i hh=>by simp [slices_Concat_Item_L2] at hh) (fun n p h=>?_) F (y1,(0:Int)) h
   obtain ⟨v3,v4⟩:=p
   have h:slices_Concat_Item_L2 F a0 (n+1) v3 v4=some s:=h
   rw [slices_Concat_Item_L2] at h
   refine T_r0 [] [6,25,26,27,28] [(28,dB (decide (v4 < (a0.length:Int))))] 1 ?_
   refine T_seqk ?_
   refine T_cd (decide (v4 < (a0.length:Int))) (fun hc=>?_) (fun hc=>?_)
   ·have h:=cond_tt hc h
    refine T_skip fun a w hm=>then_norm (((?_:T Try.prog e 36 _ _ _) a w hm))
    refine T_seqk ?_
    refine T_block ?_
    obtain ⟨hp2,h⟩:=chk_ok h
    refine T_rg [(0,{ cs:=(cL 34 cS_Item) (a0.getD v4.toNat []) })] [6,8,25,26,27] [(8,.d (.sl 34 ((a0.getD v4.toNat []).map cS_Item)))] [(0,0≤v4∧(a0.map (cL 34 cS_Item))[v4.toNat]? = some ((cL 34 cS_Item) (a0.getD v4.toNat [])))] 2 (idx_ok (d:=[]) (cL 34 cS_Item) hp2) ?_
    obtain ⟨hp3,h⟩:=chk_ok h
    refine T_reg_end [(2,{ es:=some ((v3++(a0.getD v4.toNat [])).map cS_Item) })] [6,25,26,27] [(6,.own 48 34 ((v3++(a0.getD v4.toNat [])).map cS_Item))] [(2,(v3.map cS_Item).length+((a0.getD v4.toNat []).map cS_Item).length≤4294967296∧(v3.map cS_Item)++((a0.getD v4.toNat []).map cS_Item)=((v3++(a0.getD v4.toNat [])).map cS_Item))] 1 (by kernel_rfl) (app_ok cS_Item hp3) fun a w hm=>inBlock_norm (then_norm (((?_:T Try.prog e 36 _ _ _) a w hm)))
    refine T_reg_end [] [6,25,26,27] [(27,dI (IntKind.i64.wrap (v4+(1:Int))))] [] 2 (by kernel_rfl) (trivial) fun a w hm=>then_norm (⟨((v3++(a0.getD v4.toNat [])),IntKind.i64.wrap (v4+(1:Int))),h,hm.co (cs:=[.keep [6,25,26,27]]) (by show _=_; kernel_rfl)⟩)
   ·have h:=cond_ff hc h
    obtain hs:=Option.some.inj h; subst hs
    refine T_exit fun a w hm=>then_exit (then_exit (inBlock_exit (then_norm (hm.co (cs:=[.keep [6]]) (by show _=_; kernel_rfl)))))
  ·skip
   refine fun a w hm=>then_norm (((?_:T Try.prog e 36 _ _ _) a w hm))
   refine T_r0 [] [2,6] [(2,.vw (6,0))] 2 ?_
   obtain hs:=Option.some.inj h; subst hs
   refine T_ret fun a w hm=>T_rn [(2,oW2 v6)] [2] [.claim 2,.keep [2]] (by exact trivial) a w hm
end Go.Vm.TopG
