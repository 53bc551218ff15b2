import Derived.Test.YtldmbabgcdmjcaaGreatDoorObjPb
import Derived.Test.YtldmbabgcdmjcaaGreatDoorVmD
namespace Go.Vm.ObjM
open Go.Proofs
set_option maxRecDepth 20000
theorem aU3 {F:Nat} {a0:List UInt8} {a1:Int} {r:aD×Int×Int} (h:mX F a0 a1=some r):aS Tryz.prog 59 [.d (.str a0),.d (.v (.int .i64 a1))] [] (.tup [.agg (aX r.1),.d (.v (.int .i64 r.2.1)),.d (.v (.int .i64 r.2.2))]) []:=by
 rw [mX] at h
 refine aS.intro (N:=41) Tryz.func59 rfl rfl rfl rfl rfl fun e=>?_
 refine tR [] [0,1,4] ?_
 refine tR [] [0,4,7] ?_
 obtain ⟨y1,hy1,h⟩:=aK h
 refine tR [iC 0 [7] (xW hy1)] [0,4,7] ?_
 refine tR [] [0,4,7,8] ?_
 refine aT ?_
 refine tR [] [4,7,8,20] ?_
 refine tC h (fun hc h=>?_) fun hc h=>?_
 ·refine tR [] [4,5,6] ?_
  cases h
  refine aR (tq [4,5,6])
 ·refine aM (tS ?_)
  obtain ⟨y2,hy2,h⟩:=aK h
  refine tR [iC 0 [7] (zF hy2)] [4,7,8,9,10] ?_
  refine aT ?_
  refine tR [] [4,7,8,9,10,30] ?_
  refine tC h (fun hc h=>?_) fun hc h=>?_
  ·refine tR [] [4,5,6] ?_
   cases h
   refine aR (tq [4,5,6])
  ·refine aM (tS ?_)
   refine uJ mixed 2 (.take 0 (.take 1 (.take 3 (.all (.alt 2 (.all (.alt 4 (.take 5 (.all (.alt 6 .done .stop))) .stop)) (.alt 4 (.take 2 (.take 5 (.all (.alt 6 .done .stop)))) .stop)))))) ([0,0,2,1,9,31,63],[0,0,2,0,9,0,36]) 47 [] [4,8,9] [] [(4,.box [dI 0,dI 0,.d (.str []),dI 0,dI 0]),(8,dI y1.2),(9,.box [dI y2.1.f0,dI y2.1.f1,.d (.str y2.1.f2),dI y1.2,dI y2.2.2.2])] [] 11 (by kernel_rfl) (by kernel_rfl) (by kernel_rfl) (trivial) ?_
   refine tR [] [4,5,6] ?_
   cases h
   refine aR (tq [4,5,6])
theorem aU2 {F:Nat} {a0:List UInt8} {a1:Int} {r:aD×Int×Int} (h:jI F a0 a1=some r):aS Tryz.prog 31 [.d (.str a0),.d (.v (.int .i64 a1))] [] (.tup [.agg (aX r.1),.d (.v (.int .i64 r.2.1)),.d (.v (.int .i64 r.2.2))]) []:=by
 rw [jI] at h
 refine aS.intro (N:=35) Tryz.func31 rfl rfl rfl rfl rfl fun e=>?_
 refine tR [] [0,1,4] ?_
 refine aT ?_
 refine tR [] [0,1,4,12] ?_
 refine tC h (fun hc h=>?_) fun hc h=>?_
 ·refine tR [] [4,5,6] ?_
  cases h
  refine aR (tq [4,5,6])
 ·refine aM (tS ?_)
  refine aT ?_
  refine tR [] [0,1,4,21] ?_
  refine tC h (fun hc h=>?_) fun hc h=>?_
  ·refine tR [] [4,5,6] ?_
   cases h
   refine aR (tq [4,5,6])
  ·refine aM (tS ?_)
   obtain ⟨y1,hy1,h⟩:=aK h
   refine tR [iC 2 [] (aU3 hy1)] [4,7,8,9] ?_
   refine jc h [4,7,8,9] (fun p=>[(8,dI p)]) (fun s h=>?_) (fun v1 h=>?_)
   ·refine tR [] [4,7,8,9,31] ?_
    refine tC h (fun hc h=>?_) fun hc h=>?_
    ·cases h
     refine tRe [] [4,7,8,9] (tJ [.keep [4,7,8,9]])
    ·cases h
     refine aM (tJ [.keep [4,7,8,9]])
   ·refine tR [] [4,5,6] ?_
    cases h
    refine aR (tq [4,5,6])
theorem bU {F:Nat} {a0:Int} {a1:Int} {r:Sum Value Unit} (h:gK F a0 a1=some r):oF Tryz.prog 19 [.d (.v (.int .i64 a0)),.d (.v (.int .i64 a1))] [] r (fun r=>.tup []) (fun r=>[]):=by
 rw [gK] at h
 refine oF.intro (N:=8) Tryz.func19 rfl rfl rfl rfl rfl fun e=>?_
 cases h
 refine jU 4 7 (.iface 44 (.agg ⟨[.int .i64 a0,.int .i64 a1]⟩)) [] [] [] [] 4 ((Value.iface 44 (.agg ⟨[.int .i64 a0,.int .i64 a1]⟩))=(Value.iface 44 (.agg ⟨[.int .i64 a0,.int .i64 a1]⟩))∧∃ t x,(Value.iface 44 (.agg ⟨[.int .i64 a0,.int .i64 a1]⟩))=Value.iface t x) (by kernel_rfl) (trivial) (⟨rfl,_,_,rfl⟩) fun a w hm=>fC (vin:=[]) (by decide) (by kernel_rfl) (by exact trivial) a w hm
set_option maxHeartbeats 8000000 in
set_option maxRecDepth 100000 in
theorem dP {F:Nat} {c0:List UInt8} {c1:Int} {c2:Int} {c3:List UInt8} {c4:Int} {c5:Int} {r:Sum Value ((List UInt8)×Int×Int×(List UInt8)×Int×Int)} (h:dG F c0 c1 c2 c3 c4 c5=some r):oF Tryz.prog 17 [.bp 1000000 0] [.box [.d (.str c0),.d (.v (.int .i64 c1)),.d (.v (.int .i64 c2)),.d (.str c3),.d (.v (.int .i64 c4)),.d (.v (.int .i64 c5))]] r (fun r=>.tup []) (fun r=>[.box [.d (.str r.1),.d (.v (.int .i64 r.2.1)),.d (.v (.int .i64 r.2.2.1)),.d (.str r.2.2.2.1),.d (.v (.int .i64 r.2.2.2.2.1)),.d (.v (.int .i64 r.2.2.2.2.2))]]):=by
 rw [dG] at h
 refine oF.intro (N:=28) Tryz.func17 rfl rfl rfl rfl rfl fun e=>?_
 obtain ⟨y1,hy1,h⟩:=aK h
 refine bX5 mixed [(18,0,some 0),(17,1,some 1),(16,3,some 2),(15,7,some 4),(14,23,some 5),(13,55,some 6),(12,119,some 7),(11,247,none),(10,255,none),(10,503,none),(10,16631,some 3),(9,511,none),(9,16639,some 8),(9,16887,some 3),(8,1023,some 10),(8,16895,none),(7,2047,none),(7,17407,some 10),(6,4095,none),(6,6143,none),(6,10239,none),(6,18431,some 11),(5,8191,none),(5,12287,none),(5,14335,none),(5,20479,none),(5,22527,some 11),(5,26623,some 11),(4,16383,none),(4,24575,none),(4,28671,none),(4,30719,some 11),(4,53247,some 12),(3,32767,none),(3,57343,some 13),(3,61439,some 12),(2,65535,some 16),(1,131071,some 17),(0,262143,none)] [(18,4,dI y1.2.2),(17,3,dI y1.2.1),(16,2,aC1 y1.1),(15,2,.box [dI 0,dI 0,.d (.str []),dI 0,dI 0]),(14,18,dI y1.2.2),(13,17,dI y1.2.1),(12,16,.agg (aX y1.1)),(11,5,.tup [.agg (aX y1.1),dI y1.2.1,dI y1.2.2]),(11,15,.junk),(10,15,.tup [.agg (aX y1.1),dI y1.2.1,dI y1.2.2]),(9,14,dI c5),(8,13,.bp 1000000 5),(7,12,.bp 1000000 1),(6,11,.bp 1000000 0),(5,10,.bp 1000000 0),(4,9,.d (.str c0)),(3,8,.bp 1000000 0),(2,7,.bp 1000000 0),(1,6,.bp 1000000 0),(0,0,.bp 1000000 0),(0,1000000,.box [.d (.str c0),dI c1,dI c2,.d (.str c3),dI c4,dI c5])] [0,2,3,4,5,6,7,8,9,10,11,12,13,14,15,16,17,18,1000000] ([0,1,2,4,0,16,32,64,128,264,512,1024,1024,1024,0,20479,57343,131071],[0,1,2,4,0,16,32,64,128,264,512,1024,1024,1024,0,18432,4096,8192]) 212479 [(9,{ res:=.tup [.agg (aX y1.1),dI y1.2.1,dI y1.2.2] })] [0,2,3,4,1000000] [] [(0,.bp 1000000 0),(2,aC1 y1.1),(3,dI y1.2.1),(4,dI y1.2.2),(1000000,.box [.d (.str c0),dI c1,dI c2,.d (.str c3),dI c4,dI c5])] ((fun (o9:Prop)=>[(15,o9),(4,o9)]) (aS Tryz.prog 31 [.d (.str c0),dI c5] [] (.tup [.agg (aX y1.1),dI y1.2.1,dI y1.2.2]) [])) 38 (by kernel_rfl) (by kernel_rfl) (by kernel_rfl) (by kernel_rfl) (by kernel_rfl) (by kernel_rfl) (have p9:=aU2 hy1; ⟨p9,p9⟩) ?_
 refine jE h [0,2,1000000] (fun p=>[(0,.bp 1000000 0),(2,aC1 y1.1),(1000000,.box [.d (.str c0),dI c1,dI c2,.d (.str c3),dI c4,dI c5])]) (fun s h hk1=>?_) (fun s h=>?_)
 ·refine tR [] [0,2,3,4,20,1000000] ?_
  refine tC h (fun hc h=>?_) fun hc h=>?_
  ·rcases dS h with ⟨pv,hpv,h⟩ | ⟨y2,hy2,h⟩
   ·cases h
    have h:=aP hk1
    cases h
    refine jU 2 23 pv [] [1000000] [(1000000,.box [.d (.str c0),dI c1,dI c2,.d (.str c3),dI c4,dI c5])] [] 2 (iK Tryz.prog 19 [dI y1.2.1,dI y1.2.2] [] pv) (by kernel_rfl) (trivial) (bU hpv) fun a w hm=>eG (fC (vin:=[.box [.d (.str c0),dI c1,dI c2,.d (.str c3),dI c4,dI c5]]) (by decide) (by kernel_rfl) (by exact ⟨by kernel_rfl,trivial⟩) a w hm)
   cases h
   refine tRe [iC 2 [] (bU hy2)] [0,2,1000000] (tG [.keep [0,2,1000000]])
  ·cases h
   refine aM (tG [.keep [0,2,1000000]])
 ·cases h
  refine tRe [] [1000000] (tq [1000000])
theorem jX {F:Nat} {a0:Int} {a1:Int} {c2:List UInt8} {c3:Int} {c4:Int} {c5:List UInt8} {c6:Int} {c7:Int} {r:Sum Value (Bool×(List UInt8)×Int×Int×(List UInt8)×Int×Int)} (h:fU F a0 a1 c2 c3 c4 c5 c6 c7=some r):oF Tryz.prog 60 [.bp 1000000 0,.d (.v (.int .i64 a0)),.d (.v (.int .i64 a1))] [.box [.d (.str c2),.d (.v (.int .i64 c3)),.d (.v (.int .i64 c4)),.d (.str c5),.d (.v (.int .i64 c6)),.d (.v (.int .i64 c7))]] r (fun r=>.d (.v (.bool r.1))) (fun r=>[.box [.d (.str r.2.1),.d (.v (.int .i64 r.2.2.1)),.d (.v (.int .i64 r.2.2.2.1)),.d (.str r.2.2.2.2.1),.d (.v (.int .i64 r.2.2.2.2.2.1)),.d (.v (.int .i64 r.2.2.2.2.2.2))]]):=by
 rw [fU] at h
 refine oF.intro (N:=39) Tryz.func60 rfl rfl rfl rfl rfl fun e=>?_
 refine tR [] [0,1,2,1000000] ?_
 rcases dS h with ⟨pv,hpv,h⟩ | ⟨y1,hy1,h⟩
 ·cases h
  refine rZ 1 8 pv [(1,{ xs:=[1000000] })] [1000000] [(1000000,.box [.junk,.junk,.junk,.junk,.junk,.junk])] [] 1 (iK Tryz.prog 17 [.bp 1000000 0] [.box [.d (.str c2),dI c3,dI c4,.d (.str c5),dI c6,dI c7]] pv) (by kernel_rfl) (trivial) (dP hpv) fun a w hm=>fC (vin:=[.box [.d (.str c2),dI c3,dI c4,.d (.str c5),dI c6,dI c7]]) (by decide) (by kernel_rfl) (by exact ⟨by kernel_rfl,trivial⟩) a w hm
 refine tR [iC 1 [1000000] (dP hy1)] [0,1,2,1000000] ?_
 refine jE h [1000000] (fun p=>[]) (fun s h hk1=>?_) (fun s h=>?_)
 ·refine bJ ?_
  refine tR [] [0,2,9,1000000] ?_
  refine tC h (fun hc h=>?_) fun hc h=>?_
  ·refine tR [] [6,1000000] ?_
   cases h
   have h:=aP hk1
   cases h
   refine aR (tq [6,1000000])
  ·refine tR [] [0,2,17,1000000] ?_
   refine tC h (fun hc h=>?_) fun hc h=>?_
   ·rcases dS h with ⟨pv,hpv,h⟩ | ⟨y2,hy2,h⟩
    ·cases h
     have h:=aP hk1
     cases h
     refine jU 5 29 pv [] [1000000] [(1000000,.box [.d (.str y1.1),dI y1.2.1,dI y1.2.2.1,.d (.str y1.2.2.2.1),dI y1.2.2.2.2.1,dI y1.2.2.2.2.2])] [] 5 (iK Tryz.prog 19 [dI y1.2.2.2.2.1,dI (12:Int)] [] pv) (by kernel_rfl) (trivial) (bU hpv) fun a w hm=>eB (eG (fC (vin:=[.box [.d (.str c2),dI c3,dI c4,.d (.str c5),dI c6,dI c7]]) (by decide) (by kernel_rfl) (by exact ⟨by kernel_rfl,trivial⟩) a w hm))
    cases h
    refine tRe [iC 5 [] (bU hy2)] [1000000] (tG [.keep [1000000]])
   ·refine tR [] [0,30,1000000] ?_
    refine tC h (fun hc h=>?_) fun hc h=>?_
    ·rcases dS h with ⟨pv,hpv,h⟩ | ⟨y3,hy3,h⟩
     ·cases h
      have h:=aP hk1
      cases h
      refine jU 5 38 pv [] [1000000] [(1000000,.box [.d (.str y1.1),dI y1.2.1,dI y1.2.2.1,.d (.str y1.2.2.2.1),dI y1.2.2.2.2.1,dI y1.2.2.2.2.2])] [] 5 (iK Tryz.prog 19 [dI y1.2.2.2.2.1,dI (2:Int)] [] pv) (by kernel_rfl) (trivial) (bU hpv) fun a w hm=>eB (eG (fC (vin:=[.box [.d (.str c2),dI c3,dI c4,.d (.str c5),dI c6,dI c7]]) (by decide) (by kernel_rfl) (by exact ⟨by kernel_rfl,trivial⟩) a w hm))
     cases h
     refine tRe [iC 5 [] (bU hy3)] [1000000] (tG [.keep [1000000]])
    ·cases h
     refine aM (tG [.keep [1000000]])
 ·refine tR [] [6,1000000] ?_
  cases h
  refine aR (tq [6,1000000])
theorem qD {F:Nat} {rec_object_parser_object:Int→(List UInt8)→Int→Int→(List UInt8)→Int→Int→Option (Sum Value (aG×(List UInt8)×Int×Int×(List UInt8)×Int×Int))} (hrec_object_parser_object:∀ {a0:Int},∀ {c1:List UInt8},∀ {c2:Int},∀ {c3:Int},∀ {c4:List UInt8},∀ {c5:Int},∀ {c6:Int},∀ {r:Sum Value (aG×(List UInt8)×Int×Int×(List UInt8)×Int×Int)},rec_object_parser_object a0 c1 c2 c3 c4 c5 c6=some r→oF Tryz.prog 18 [.bp 1000000 0,.d (.v (.int .i64 a0))] [.box [.d (.str c1),.d (.v (.int .i64 c2)),.d (.v (.int .i64 c3)),.d (.str c4),.d (.v (.int .i64 c5)),.d (.v (.int .i64 c6))]] r (fun r=>.agg (bA r.1)) (fun r=>[.box [.d (.str r.2.1),.d (.v (.int .i64 r.2.2.1)),.d (.v (.int .i64 r.2.2.2.1)),.d (.str r.2.2.2.2.1),.d (.v (.int .i64 r.2.2.2.2.2.1)),.d (.v (.int .i64 r.2.2.2.2.2.2))]])) {a0:Int} {c1:List UInt8} {c2:Int} {c3:Int} {c4:List UInt8} {c5:Int} {c6:Int} {r:Sum Value (aG×(List UInt8)×Int×Int×(List UInt8)×Int×Int)} (h:lQ F rec_object_parser_object a0 c1 c2 c3 c4 c5 c6=some r):oF Tryz.prog 32 [.bp 1000000 0,.d (.v (.int .i64 a0))] [.box [.d (.str c1),.d (.v (.int .i64 c2)),.d (.v (.int .i64 c3)),.d (.str c4),.d (.v (.int .i64 c5)),.d (.v (.int .i64 c6))]] r (fun r=>.agg (bA r.1)) (fun r=>[.box [.d (.str r.2.1),.d (.v (.int .i64 r.2.2.1)),.d (.v (.int .i64 r.2.2.2.1)),.d (.str r.2.2.2.2.1),.d (.v (.int .i64 r.2.2.2.2.2.1)),.d (.v (.int .i64 r.2.2.2.2.2.2))]]):=by
 rw [lQ] at h
 refine oF.intro (N:=22) Tryz.func32 rfl rfl rfl rfl rfl fun e=>?_
 refine tR [] [0,1,4,1000000] ?_
 refine oC [(0,{ take:=[0] })] [0,1,4,5,1000000] [.nilc 5 3 9 1,.nilc 5 4 26 5,.keep [0,1,4,5,1000000]] [(0,.bp 1000000 0),(1,dI a0),(4,.box [dI 0,dI 0,.d (.str []),oW2 [],oW3 []]),(5,.box [dI (6:Int),dI 0,.d (.str []),oW2 [],oW3 []]),(1000000,.box [.d (.str c1),dI c2,dI c3,.d (.str c4),dI c5,dI c6])] [] 3 (by kernel_rfl) (trivial) ?_
 refine jE h [4,5,1000000] (fun p=>[(4,.box [dI 0,dI 0,.d (.str []),oW2 [],oW3 []]),(5,.box [dI (6:Int),dI 0,.d (.str []),oW2 [],oW3 p.1]),(1000000,.box [.d (.str p.2.1),dI p.2.2.1,dI p.2.2.2.1,.d (.str p.2.2.2.2.1),dI p.2.2.2.2.2.1,dI p.2.2.2.2.2.2])]) (fun s h hk1=>?_) (fun s h=>?_)
 ·refine bJ ?_
  refine tL (fun n p=>eH F a0 rec_object_parser_object n p.1 p.2.1 p.2.2.1 p.2.2.2.1 p.2.2.2.2.1 p.2.2.2.2.2.1 p.2.2.2.2.2.2) [.keep [0,1,4,5,1000000]] [0,1,4,5,1000000] (fun p=>[(5,.box [dI (6:Int),dI 0,.d (.str []),oW2 [],oW3 p.1]),(1000000,.box [.d (.str p.2.1),dI p.2.2.1,dI p.2.2.2.1,.d (.str p.2.2.2.2.1),dI p.2.2.2.2.2.1,dI p.2.2.2.2.2.2])]) F ([],c1,c2,c3,c4,c5,c6) h fun n p h=>?_
  obtain ⟨v1,v2,v3,v4,v5,v6,v7⟩:=p
  have h:eH F a0 rec_object_parser_object (n+1) v1 v2 v3 v4 v5 v6 v7=some s:=h
  rw [eH] at h
  refine aT ?_
  rcases dS h with ⟨pv,hpv,h⟩ | ⟨y1,hy1,h⟩
  ·cases h
   have h:=aP hk1
   cases h
   refine rZ 4 11 pv [(3,{ rw:=some (dI (v1.length:Int)) }),(4,{ xs:=[1000000] })] [1000000] [(1000000,.box [.junk,.junk,.junk,.junk,.junk,.junk])] [(3,True∧dI ((v1.map bK).length:Int)=dI (v1.length:Int))] 0 (iK Tryz.prog 60 [.bp 1000000 0,dI (7:Int),dI (v1.length:Int)] [.box [.d (.str v2),dI v3,dI v4,.d (.str v5),dI v6,dI v7]] pv) (by kernel_rfl) (eW bK) (jX hpv) fun a w hm=>eG (eG (eB (eG (fC (vin:=[.box [.d (.str c1),dI c2,dI c3,.d (.str c4),dI c5,dI c6]]) (by decide) (by kernel_rfl) (by exact ⟨by kernel_rfl,trivial⟩) a w hm))))
  refine tR [iW 3 (eW bK (xs:=v1)),iC 4 [1000000] (jX hy1)] [0,1,4,5,11,1000000] ?_
  refine tC h (fun hc h=>?_) fun hc h=>?_
  ·refine aM (tS ?_)
   refine bJ ?_
   rcases dS h with ⟨pv,hpv,h⟩ | ⟨y2,hy2,h⟩
   ·cases h
    have h:=aP hk1
    cases h
    refine bM6 mixed 2 (.take 0 (.take 2 (.take 3 (.take 4 (.all (.alt 1 (.all (.alt 5 .stop .stop)) (.alt 5 .stop .stop))))))) ([0,1,0,0,8,20,32,98,255,511],[0,1,0,0,8,20,32,66,0,384]) 287 5 17 pv [(5,{ xs:=[1000000] })] [1000000] [(1000000,.box [.junk,.junk,.junk,.junk,.junk,.junk])] ((fun (o5:Prop)=>[(5,o5),(0,o5)]) ((iK Tryz.prog 18 [.bp 1000000 0,dI (IntKind.i64.wrap (a0+(1:Int)))] [.box [.d (.str y1.2.1),dI y1.2.2.1,dI y1.2.2.2.1,.d (.str y1.2.2.2.2.1),dI y1.2.2.2.2.2.1,dI y1.2.2.2.2.2.2]] pv))) 0 (by kernel_rfl) (by kernel_rfl) (by kernel_rfl) (by kernel_rfl) (have p5:=hrec_object_parser_object hpv; ⟨p5,p5⟩) fun a w hm=>eB (eG (eB (eG (fC (vin:=[.box [.d (.str c1),dI c2,dI c3,.d (.str c4),dI c5,dI c6]]) (by decide) (by kernel_rfl) (by exact ⟨by kernel_rfl,trivial⟩) a w hm))))
   obtain ⟨hp1,h⟩:=aQ h
   refine pA mixed 3 (.take 0 (.take 2 (.take 3 (.take 4 (.all (.alt 1 (.all (.alt 5 (.all (.alt 6 (.all (.alt 7 (.take 8 (.all (.alt 9 .done .stop))) .stop)) .stop)) .stop)) (.alt 5 (.all (.alt 1 (.all (.alt 6 (.all (.alt 7 (.take 8 (.all (.alt 9 .done .stop))) .stop)) .stop)) (.alt 6 (.take 1 (.all (.alt 7 (.take 8 (.all (.alt 9 .done .stop))) .stop))) .stop))) .stop))))))) ([0,1,0,0,8,20,32,98,255,511],[0,1,0,0,8,20,32,66,0,384]) 287 [(5,{ res:=.agg (bA y2.1),vout:=[.box [.d (.str y2.2.1),dI y2.2.2.1,dI y2.2.2.2.1,.d (.str y2.2.2.2.2.1),dI y2.2.2.2.2.2.1,dI y2.2.2.2.2.2.2]],xs:=[1000000] }),(6,{ es:=some (([y2.1]).map bK) }),(7,{ es:=some ((v1++([y2.1])).map bK) })] [0,1,4,5,1000000] [] [(0,.bp 1000000 0),(1,dI a0),(4,.box [dI 0,dI 0,.d (.str []),oW2 [],oW3 []]),(5,.box [dI (6:Int),dI 0,.d (.str []),oW2 [],.own 26 5 ((v1++([y2.1])).map bK)]),(1000000,.box [.d (.str y2.2.1),dI y2.2.2.1,dI y2.2.2.2.1,.d (.str y2.2.2.2.2.1),dI y2.2.2.2.2.2.1,dI y2.2.2.2.2.2.2])] ((fun (o5:Prop)=>fun (o6:Prop)=>fun (o7:Prop)=>[(5,o5),(0,o6),(0,o7),(2,o5),(1,o6),(0,o7),(2,o6),(1,o7)]) (aS Tryz.prog 18 [.bp 1000000 0,dI (IntKind.i64.wrap (a0+(1:Int)))] [.box [.d (.str y1.2.1),dI y1.2.2.1,dI y1.2.2.2.1,.d (.str y1.2.2.2.2.1),dI y1.2.2.2.2.2.1,dI y1.2.2.2.2.2.2]] (.agg (bA y2.1)) [.box [.d (.str y2.2.1),dI y2.2.2.1,dI y2.2.2.2.1,.d (.str y2.2.2.2.2.1),dI y2.2.2.2.2.2.1,dI y2.2.2.2.2.2.2]]) ([bA y2.1]=(([y2.1]).map bK)) ((v1.map bK).length+(([y2.1]).map bK).length≤4294967296∧(v1.map bK)++(([y2.1]).map bK)=((v1++([y2.1])).map bK))) 2 (by kernel_rfl) (by kernel_rfl) (by kernel_rfl) (have p5:=hrec_object_parser_object hy2; have p6:=(cV9 lI y2.1 (rfl:([]:List (List Dat))=([]:List aG).map bK)); have p7:=jC bK hp1; ⟨p5,p6,p7,p5,p6,p7,p6,p7⟩) (tE [.keep [0,1,4,5,1000000]] ((v1++([y2.1])),y2.2.1,y2.2.2.1,y2.2.2.2.1,y2.2.2.2.2.1,y2.2.2.2.2.2.1,y2.2.2.2.2.2.2) h)
  ·cases h
   refine fD (tG [.keep [4,5,1000000]])
 ·obtain ⟨v8,v9,v10,v11,v12,v13,v14⟩:=s
  try dsimp only at h
  refine tR [iH 0 { frz:=[(5,4),(5,5)] }] [4,1000000] ?_
  cases h
  refine aR (tq [4,1000000])
theorem sH {F:Nat} {a0:List UInt8} {r:Bool} (h:cmp_isNaN_string F a0=some r):aS Tryz.prog 114 [.d (.str a0)] [] (.d (.v (.bool r))) []:=by
 rw [cmp_isNaN_string] at h
 refine aS.intro (N:=6) Tryz.func114 rfl rfl rfl rfl rfl fun e=>?_
 refine tR [] [0] ?_
 refine tR [] [2] ?_
 cases h
 refine aR (tq [2])
theorem zT {F:Nat} {a0:List UInt8} {a1:List UInt8} {r:Bool} (h:cmp_Less_string F a0 a1=some r):aS Tryz.prog 89 [.d (.str a0),.d (.str a1)] [] (.d (.v (.bool r))) []:=by
 rw [cmp_Less_string] at h
 refine aS.intro (N:=17) Tryz.func89 rfl rfl rfl rfl rfl fun e=>?_
 refine tR [] [0,1] ?_
 obtain ⟨y1,hy1,h⟩:=aK h
 obtain ⟨y2,hy2,h⟩:=aK h
 refine tR [iC 1 [] (sH hy1),iD 4 [] (fun hg=>sH (fJ hg hy2))] [4] ?_
 cases h
 refine aR (tq [4])
theorem pT {F:Nat} {a0:List UInt8} {r:Bool} (h:slices_isNaN_string F a0=some r):aS Tryz.prog 90 [.d (.str a0)] [] (.d (.v (.bool r))) []:=by
 rw [slices_isNaN_string] at h
 refine aS.intro (N:=6) Tryz.func90 rfl rfl rfl rfl rfl fun e=>?_
 refine tR [] [0] ?_
 refine tR [] [2] ?_
 cases h
 refine aR (tq [2])
theorem rR {F:Nat} {a0:List (List UInt8)} {a1:List UInt8} {r:Int×Bool} (h:slices_BinarySearch_string F a0 a1=some r):aS Tryz.prog 61 [.d (.sl 1 (a0.map cS)),.d (.str a1)] [] (.tup [.d (.v (.int .i64 r.1)),.d (.v (.bool r.2))]) []:=by
 rw [slices_BinarySearch_string] at h
 refine aS.intro (N:=54) Tryz.func61 rfl rfl rfl rfl rfl fun e=>?_
 refine tR [] [0,1] ?_
 refine tR [iW 1 (eW cS (xs:=a0))] [0,1,6] ?_
 refine tR [] [0,1,6,7,8] ?_
 refine jc h [0,1,6,7] (fun p=>[(7,dI p)]) (fun s h=>?_) (fun v3 h=>?_)
 ·refine bJ ?_
  refine tL2 (dE F a0 a1) [.keep [0,1,6,7,8]] [0,1,6,7,8] (fun v1 v2=>[(7,dI v1),(8,dI v2)]) F (0:Int) (a0.length:Int) h fun n v1 v2 h=>?_
  rw [dE] at h
  refine aT ?_
  refine tR [] [0,1,6,7,8,15] ?_
  refine tC h (fun hc h=>?_) fun hc h=>?_
  ·refine aM (tS ?_)
   refine bJ ?_
   obtain ⟨z1,hz1,h⟩:=bB h
   refine tR [iW 4 (show (0≤(1:Int))∧AV.d (.v (.int .u64 ((IntKind.u64.wrap (IntKind.i64.wrap (v1+v2))).fdiv (2 ^ (min (1:Int).toNat IntKind.u64.bits)))))=.d (.v (.int .u64 z1)) from ⟨(show 0≤(1:Int) by decide),(by subst hz1; rfl)⟩)] [0,1,6,7,8,9] ?_
   obtain ⟨hp1,h⟩:=aQ h
   obtain ⟨y1,hy1,h⟩:=aK h
   refine tR [iI 2 (jB (d:=[]) cS hp1),iC 5 [] (zT hy1)] [0,1,6,7,8,9,27] ?_
   refine tC h (fun hc h=>?_) fun hc h=>?_
   ·refine tRe [] [0,1,6,7,8] (tE [.keep [0,1,6,7,8]] (IntKind.i64.wrap ((IntKind.i64.wrap z1)+(1:Int)),v2) h)
   ·refine tRe [] [0,1,6,7,8] (tE [.keep [0,1,6,7,8]] (v1,IntKind.i64.wrap z1) h)
  ·cases h
   refine fD (tJ [.keep [0,1,6,7]])
 ·obtain ⟨hp2,h⟩:=aQ h
  obtain ⟨hp3,h⟩:=aQ h
  obtain ⟨y2,hy2,h⟩:=aK h
  obtain ⟨y3,hy3,h⟩:=aK h
  obtain ⟨z2,hz2,h⟩:=bB h
  refine tR [iF 7 { cs:=cS (a0.getD v3.toNat []) } (show ((((decide (v3 < (a0.length:Int))) == true) && true)=true→0≤v3∧(a0.map cS)[v3.toNat]? = some (cS (a0.getD v3.toNat []))) from (fun hg=>jB (d:=[]) cS (hp2 hg))),iF 14 { cs:=cS (a0.getD v3.toNat []) } (show (((((a0.getD v3.toNat []) == a1) == false) && (((decide (v3 < (a0.length:Int))) == true) && true))=true→0≤v3∧(a0.map cS)[v3.toNat]? = some (cS (a0.getD v3.toNat []))) from (fun hg=>jB (d:=[]) cS (hp3 hg))),iD 16 [] (fun hg=>pT (fJ hg hy2)),iD 19 [] (fun hg=>pT (fJ hg hy3)),iB 22 hz2] [4,5] ?_
  cases h
  refine aR (tq [4,5])
theorem qH {F:Nat} {rec_object_parser_object:Int→(List UInt8)→Int→Int→(List UInt8)→Int→Int→Option (Sum Value (aG×(List UInt8)×Int×Int×(List UInt8)×Int×Int))} (hrec_object_parser_object:∀ {a0:Int},∀ {c1:List UInt8},∀ {c2:Int},∀ {c3:Int},∀ {c4:List UInt8},∀ {c5:Int},∀ {c6:Int},∀ {r:Sum Value (aG×(List UInt8)×Int×Int×(List UInt8)×Int×Int)},rec_object_parser_object a0 c1 c2 c3 c4 c5 c6=some r→oF Tryz.prog 18 [.bp 1000000 0,.d (.v (.int .i64 a0))] [.box [.d (.str c1),.d (.v (.int .i64 c2)),.d (.v (.int .i64 c3)),.d (.str c4),.d (.v (.int .i64 c5)),.d (.v (.int .i64 c6))]] r (fun r=>.agg (bA r.1)) (fun r=>[.box [.d (.str r.2.1),.d (.v (.int .i64 r.2.2.1)),.d (.v (.int .i64 r.2.2.2.1)),.d (.str r.2.2.2.2.1),.d (.v (.int .i64 r.2.2.2.2.2.1)),.d (.v (.int .i64 r.2.2.2.2.2.2))]])) {a0:Int} {c1:List UInt8} {c2:Int} {c3:Int} {c4:List UInt8} {c5:Int} {c6:Int} {r:Sum Value (aG×(List UInt8)×Int×Int×(List UInt8)×Int×Int)} (h:lK F rec_object_parser_object a0 c1 c2 c3 c4 c5 c6=some r):oF Tryz.prog 33 [.bp 1000000 0,.d (.v (.int .i64 a0))] [.box [.d (.str c1),.d (.v (.int .i64 c2)),.d (.v (.int .i64 c3)),.d (.str c4),.d (.v (.int .i64 c5)),.d (.v (.int .i64 c6))]] r (fun r=>.agg (bA r.1)) (fun r=>[.box [.d (.str r.2.1),.d (.v (.int .i64 r.2.2.1)),.d (.v (.int .i64 r.2.2.2.1)),.d (.str r.2.2.2.2.1),.d (.v (.int .i64 r.2.2.2.2.2.1)),.d (.v (.int .i64 r.2.2.2.2.2.2))]]):=by
 rw [lK] at h
 refine oF.intro (N:=60) Tryz.func33 rfl rfl rfl rfl rfl fun e=>?_
 refine tR [] [0,1,4,1000000] ?_
 refine oC [(0,{ take:=[0] })] [0,1,4,5,1000000] [.nilc 5 3 9 1,.nilc 5 4 26 5,.keep [0,1,4,5,1000000]] [(0,.bp 1000000 0),(1,dI a0),(4,.box [dI 0,dI 0,.d (.str []),oW2 [],oW3 []]),(5,.box [dI (7:Int),dI 0,.d (.str []),oW2 [],oW3 []]),(1000000,.box [.d (.str c1),dI c2,dI c3,.d (.str c4),dI c5,dI c6])] [] 3 (by kernel_rfl) (trivial) ?_
 refine jE h [4,5,1000000] (fun p=>[(4,.box [dI 0,dI 0,.d (.str []),oW2 [],oW3 []]),(5,.box [dI (7:Int),dI 0,.d (.str []),oW2 p.1,oW3 p.2.1]),(1000000,.box [.d (.str p.2.2.1),dI p.2.2.2.1,dI p.2.2.2.2.1,.d (.str p.2.2.2.2.2.1),dI p.2.2.2.2.2.2.1,dI p.2.2.2.2.2.2.2])]) (fun s h hk1=>?_) (fun s h=>?_)
 ·refine bJ ?_
  refine tL (fun n p=>eO F a0 rec_object_parser_object n p.1 p.2.1 p.2.2.1 p.2.2.2.1 p.2.2.2.2.1 p.2.2.2.2.2.1 p.2.2.2.2.2.2.1 p.2.2.2.2.2.2.2) [.keep [0,1,4,5,1000000]] [0,1,4,5,1000000] (fun p=>[(5,.box [dI (7:Int),dI 0,.d (.str []),oW2 p.1,oW3 p.2.1]),(1000000,.box [.d (.str p.2.2.1),dI p.2.2.2.1,dI p.2.2.2.2.1,.d (.str p.2.2.2.2.2.1),dI p.2.2.2.2.2.2.1,dI p.2.2.2.2.2.2.2])]) F ([],[],c1,c2,c3,c4,c5,c6) h fun n p h=>?_
  obtain ⟨v1,v2,v3,v4,v5,v6,v7,v8⟩:=p
  have h:eO F a0 rec_object_parser_object (n+1) v1 v2 v3 v4 v5 v6 v7 v8=some s:=h
  rw [eO] at h
  refine aT ?_
  rcases dS h with ⟨pv,hpv,h⟩ | ⟨y1,hy1,h⟩
  ·cases h
   have h:=aP hk1
   cases h
   refine rZ 4 15 pv [(3,{ rw:=some (dI (v2.length:Int)) }),(4,{ xs:=[1000000] })] [1000000] [(1000000,.box [.junk,.junk,.junk,.junk,.junk,.junk])] [(3,True∧dI ((v2.map bK).length:Int)=dI (v2.length:Int))] 0 (iK Tryz.prog 60 [.bp 1000000 0,dI (9:Int),dI (v2.length:Int)] [.box [.d (.str v3),dI v4,dI v5,.d (.str v6),dI v7,dI v8]] pv) (by kernel_rfl) (eW bK) (jX hpv) fun a w hm=>eG (eG (eB (eG (fC (vin:=[.box [.d (.str c1),dI c2,dI c3,.d (.str c4),dI c5,dI c6]]) (by decide) (by kernel_rfl) (by exact ⟨by kernel_rfl,trivial⟩) a w hm))))
  refine tR [iW 3 (eW bK (xs:=v2)),iC 4 [1000000] (jX hy1)] [0,1,4,5,15,1000000] ?_
  refine tC h (fun hc h=>?_) fun hc h=>?_
  ·refine aM (tS ?_)
   refine bJ ?_
   refine tR [] [0,1,4,5,6,1000000] ?_
   obtain ⟨y2,hy2,h⟩:=aK h
   refine tR [iC 4 [] (rR hy2)] [0,1,4,5,6,7,8,1000000] ?_
   refine jE h [0,1,4,5,6,7,8,1000000] (fun p=>[]) (fun s h hk2=>?_) (fun s h=>?_)
   ·refine tR [] [0,1,4,5,6,7,8,30,1000000] ?_
    refine tC h (fun hc h=>?_) fun hc h=>?_
    ·rcases dS h with ⟨pv,hpv,h⟩ | ⟨y3,hy3,h⟩
     ·cases h
      have h:=aP hk2
      cases h
      have h:=aP hk1
      cases h
      refine jU 2 33 pv [] [1000000] [(1000000,.box [.d (.str y1.2.1),dI y1.2.2.1,dI y1.2.2.2.1,.d (.str y1.2.2.2.2.1),dI y1.2.2.2.2.2.1,dI y1.2.2.2.2.2.2])] [] 2 (iK Tryz.prog 19 [dI y1.2.2.2.2.2.1,dI (5:Int)] [] pv) (by kernel_rfl) (trivial) (bU hpv) fun a w hm=>eG (eB (eG (eB (eG (fC (vin:=[.box [.d (.str c1),dI c2,dI c3,.d (.str c4),dI c5,dI c6]]) (by decide) (by kernel_rfl) (by exact ⟨by kernel_rfl,trivial⟩) a w hm)))))
     cases h
     refine tRe [iC 2 [] (bU hy3)] [0,1,4,5,6,7,8,1000000] (tG [.keep [0,1,4,5,6,7,8,1000000]])
    ·cases h
     refine aM (tG [.keep [0,1,4,5,6,7,8,1000000]])
   ·refine jE h [0,1,4,5,6,7,1000000] (fun p=>[]) (fun s h hk3=>?_) (fun s h=>?_)
    ·refine tR [] [0,1,4,5,6,7,34,1000000] ?_
     refine tC h (fun hc h=>?_) fun hc h=>?_
     ·rcases dS h with ⟨pv,hpv,h⟩ | ⟨y4,hy4,h⟩
      ·cases h
       have h:=aP hk3
       cases h
       have h:=aP hk1
       cases h
       refine jU 2 37 pv [] [1000000] [(1000000,.box [.d (.str y1.2.1),dI y1.2.2.1,dI y1.2.2.2.1,.d (.str y1.2.2.2.2.1),dI y1.2.2.2.2.2.1,dI y1.2.2.2.2.2.2])] [] 2 (iK Tryz.prog 19 [dI y1.2.2.2.2.2.1,dI (7:Int)] [] pv) (by kernel_rfl) (trivial) (bU hpv) fun a w hm=>eG (eB (eG (eB (eG (fC (vin:=[.box [.d (.str c1),dI c2,dI c3,.d (.str c4),dI c5,dI c6]]) (by decide) (by kernel_rfl) (by exact ⟨by kernel_rfl,trivial⟩) a w hm)))))
      cases h
      refine tRe [iC 2 [] (bU hy4)] [0,1,4,5,6,7,1000000] (tG [.keep [0,1,4,5,6,7,1000000]])
     ·cases h
      refine aM (tG [.keep [0,1,4,5,6,7,1000000]])
    ·rcases dS h with ⟨pv,hpv,h⟩ | ⟨y5,hy5,h⟩
     ·cases h
      have h:=aP hk1
      cases h
      refine rZ 1 39 pv [(1,{ xs:=[1000000] })] [1000000] [(1000000,.box [.junk,.junk,.junk,.junk,.junk,.junk])] [] 1 (iK Tryz.prog 17 [.bp 1000000 0] [.box [.d (.str y1.2.1),dI y1.2.2.1,dI y1.2.2.2.1,.d (.str y1.2.2.2.2.1),dI y1.2.2.2.2.2.1,dI y1.2.2.2.2.2.2]] pv) (by kernel_rfl) (trivial) (dP hpv) fun a w hm=>eB (eG (eB (eG (fC (vin:=[.box [.d (.str c1),dI c2,dI c3,.d (.str c4),dI c5,dI c6]]) (by decide) (by kernel_rfl) (by exact ⟨by kernel_rfl,trivial⟩) a w hm))))
     refine tR [iC 1 [1000000] (dP hy5)] [0,1,4,5,6,7,1000000] ?_
     rcases dS h with ⟨pv,hpv,h⟩ | ⟨y6,hy6,h⟩
     ·cases h
      have h:=aP hk1
      cases h
      refine rZ 3 43 pv [(3,{ xs:=[1000000] })] [1000000] [(1000000,.box [.junk,.junk,.junk,.junk,.junk,.junk])] [] 3 (iK Tryz.prog 18 [.bp 1000000 0,dI (IntKind.i64.wrap (a0+(1:Int)))] [.box [.d (.str y5.1),dI y5.2.1,dI y5.2.2.1,.d (.str y5.2.2.2.1),dI y5.2.2.2.2.1,dI y5.2.2.2.2.2]] pv) (by kernel_rfl) (trivial) (hrec_object_parser_object hpv) fun a w hm=>eB (eG (eB (eG (fC (vin:=[.box [.d (.str c1),dI c2,dI c3,.d (.str c4),dI c5,dI c6]]) (by decide) (by kernel_rfl) (by exact ⟨by kernel_rfl,trivial⟩) a w hm))))
     refine tR [iC 3 [1000000] (hrec_object_parser_object hy6)] [0,1,4,5,6,7,9,1000000] ?_
     obtain ⟨hp1,h⟩:=aQ h
     refine tR [iX 5 { es:=some (([y1.2.2.2.2.1]).map cS),take:=[0] } (show (([y1.2.2.2.2.1]).map cS)=(([y1.2.2.2.2.1]).map cS) from rfl),iCh 6 { xs:=[5],take:=[2] } (show aS Tryz.prog 62 [.vw (1000000,4),dI y2.1,.own 1099511627785 1 (([y1.2.2.2.2.1]).map cS)] [.box [dI (7:Int),dI 0,.d (.str []),oW2 v1,oW3 v2]] (.own 9 1 ((v1.take y2.1.toNat++([y1.2.2.2.2.1])++v1.drop y2.1.toNat).map cS)) [.box [dI (7:Int),dI 0,.d (.str []),.junk,oW3 v2]] from bJ8 hp1 (by decide) (by kernel_rfl) (by kernel_rfl))] [0,1,4,5,7,9,1000000] ?_
     obtain ⟨hp2,h⟩:=aQ h
     refine tRe [iX 4 { es:=some (([y6.1]).map bK),take:=[0] } (show [bA y6.1]=(([y6.1]).map bK) from cV9 lI y6.1 (rfl:([]:List (List Dat))=([]:List aG).map bK)),iCh 5 { xs:=[5],take:=[2] } (show aS Tryz.prog 63 [.vw (1000000,5),dI y2.1,.own 1099511627802 5 (([y6.1]).map bK)] [.box [dI (7:Int),dI 0,.d (.str []),.own 9 1 ((v1.take y2.1.toNat++([y1.2.2.2.2.1])++v1.drop y2.1.toNat).map cS),oW3 v2]] (.own 26 5 ((v2.take y2.1.toNat++([y6.1])++v2.drop y2.1.toNat).map bK)) [.box [dI (7:Int),dI 0,.d (.str []),.own 9 1 ((v1.take y2.1.toNat++([y1.2.2.2.2.1])++v1.drop y2.1.toNat).map cS),.junk]] from bJ1 hp2 (by decide) (by kernel_rfl) (by kernel_rfl))] [0,1,4,5,1000000] (tE [.keep [0,1,4,5,1000000]] ((v1.take y2.1.toNat++([y1.2.2.2.2.1])++v1.drop y2.1.toNat),(v2.take y2.1.toNat++([y6.1])++v2.drop y2.1.toNat),y6.2.1,y6.2.2.1,y6.2.2.2.1,y6.2.2.2.2.1,y6.2.2.2.2.2.1,y6.2.2.2.2.2.2) h)
  ·cases h
   refine fD (tG [.keep [4,5,1000000]])
 ·obtain ⟨v9,v10,v11,v12,v13,v14,v15,v16⟩:=s
  try dsimp only at h
  refine tR [iH 0 { frz:=[(5,4),(5,5)] }] [4,1000000] ?_
  cases h
  refine aR (tq [4,1000000])
theorem qG {F:Nat} {c0:List UInt8} {c1:Int} {c2:Int} {c3:List UInt8} {c4:Int} {c5:Int} {r:Sum Value (aG×(List UInt8)×Int×Int×(List UInt8)×Int×Int)} (h:iQ F c0 c1 c2 c3 c4 c5=some r):oF Tryz.prog 34 [.bp 1000000 0] [.box [.d (.str c0),.d (.v (.int .i64 c1)),.d (.v (.int .i64 c2)),.d (.str c3),.d (.v (.int .i64 c4)),.d (.v (.int .i64 c5))]] r (fun r=>.agg (bA r.1)) (fun r=>[.box [.d (.str r.2.1),.d (.v (.int .i64 r.2.2.1)),.d (.v (.int .i64 r.2.2.2.1)),.d (.str r.2.2.2.2.1),.d (.v (.int .i64 r.2.2.2.2.2.1)),.d (.v (.int .i64 r.2.2.2.2.2.2))]]):=by
 rw [iQ] at h
 refine oF.intro (N:=45) Tryz.func34 rfl rfl rfl rfl rfl fun e=>?_
 refine tR [] [0,2,1000000] ?_
 refine tR [] [2,3,1000000] ?_
 refine aT ?_
 refine tR [] [2,3,9,1000000] ?_
 refine bJ ?_
 refine tR [] [2,3,9,10,1000000] ?_
 refine tC h (fun hc h=>?_) fun hc h=>?_
 ·refine oC [(2,{ take:=[0] })] [2,1000000] [.nilc 2 3 9 1,.nilc 2 4 26 5,.keep [2,1000000]] [(2,.box [dI (2:Int),dI c2,.d (.str []),oW2 [],oW3 []]),(1000000,.box [.d (.str c0),dI c1,dI c2,.d (.str c3),dI c4,dI c5])] [] 4 (by kernel_rfl) (trivial) ?_
  cases h
  refine aR (tqc [.frz (2,4),.frz (2,5),.keep [2,1000000]])
 ·refine tR [] [2,3,9,15,1000000] ?_
  refine tC h (fun hc h=>?_) fun hc h=>?_
  ·refine oC [(2,{ take:=[0] })] [2,1000000] [.nilc 2 3 9 1,.nilc 2 4 26 5,.keep [2,1000000]] [(2,.box [dI (3:Int),dI 0,.d (.str c3),oW2 [],oW3 []]),(1000000,.box [.d (.str c0),dI c1,dI c2,.d (.str c3),dI c4,dI c5])] [] 4 (by kernel_rfl) (trivial) ?_
   cases h
   refine aR (tqc [.frz (2,4),.frz (2,5),.keep [2,1000000]])
  ·refine tR [] [2,3,9,20,1000000] ?_
   refine tC h (fun hc h=>?_) fun hc h=>?_
   ·refine oC [(2,{ take:=[0] })] [2,1000000] [.nilc 2 3 9 1,.nilc 2 4 26 5,.keep [2,1000000]] [(2,.box [dI (4:Int),dI 0,.d (.str c3),oW2 [],oW3 []]),(1000000,.box [.d (.str c0),dI c1,dI c2,.d (.str c3),dI c4,dI c5])] [] 4 (by kernel_rfl) (trivial) ?_
    cases h
    refine aR (tqc [.frz (2,4),.frz (2,5),.keep [2,1000000]])
   ·refine tR [] [2,3,25,1000000] ?_
    refine tC h (fun hc h=>?_) fun hc h=>?_
    ·refine oC [(2,{ take:=[0] })] [2,1000000] [.nilc 2 3 9 1,.nilc 2 4 26 5,.keep [2,1000000]] [(2,.box [dI (5:Int),dI c2,.d (.str []),oW2 [],oW3 []]),(1000000,.box [.d (.str c0),dI c1,dI c2,.d (.str c3),dI c4,dI c5])] [] 4 (by kernel_rfl) (trivial) ?_
     cases h
     refine aR (tqc [.frz (2,4),.frz (2,5),.keep [2,1000000]])
    ·refine aM (tS ?_)
     refine aT ?_
     refine tR [] [2,3,31,1000000] ?_
     refine bJ ?_
     refine tR [] [2,3,31,32,1000000] ?_
     refine tC h (fun hc h=>?_) fun hc h=>?_
     ·refine oC [(0,{ take:=[0] })] [2,1000000] [.nilc 2 3 9 1,.nilc 2 4 26 5,.keep [2,1000000]] [(2,.box [dI 0,dI 0,.d (.str []),oW2 [],oW3 []]),(1000000,.box [.d (.str c0),dI c1,dI c2,.d (.str c3),dI c4,dI c5])] [] 2 (by kernel_rfl) (trivial) ?_
      cases h
      refine aR (tqc [.frz (2,4),.frz (2,5),.keep [2,1000000]])
     ·refine tR [] [2,3,31,35,1000000] ?_
      refine tC h (fun hc h=>?_) fun hc h=>?_
      ·refine oC [(0,{ take:=[0] })] [2,1000000] [.nilc 2 3 9 1,.nilc 2 4 26 5,.keep [2,1000000]] [(2,.box [dI (1:Int),dI (1:Int),.d (.str []),oW2 [],oW3 []]),(1000000,.box [.d (.str c0),dI c1,dI c2,.d (.str c3),dI c4,dI c5])] [] 2 (by kernel_rfl) (trivial) ?_
       cases h
       refine aR (tqc [.frz (2,4),.frz (2,5),.keep [2,1000000]])
      ·refine tR [] [2,3,38,1000000] ?_
       refine tC h (fun hc h=>?_) fun hc h=>?_
       ·refine oC [(0,{ take:=[0] })] [2,1000000] [.nilc 2 3 9 1,.nilc 2 4 26 5,.keep [2,1000000]] [(2,.box [dI (1:Int),dI 0,.d (.str []),oW2 [],oW3 []]),(1000000,.box [.d (.str c0),dI c1,dI c2,.d (.str c3),dI c4,dI c5])] [] 2 (by kernel_rfl) (trivial) ?_
        cases h
        refine aR (tqc [.frz (2,4),.frz (2,5),.keep [2,1000000]])
       ·refine aM (tS ?_)
        rcases dS h with ⟨pv,hpv,h⟩ | ⟨y1,hy1,h⟩
        ·cases h
         refine rZ 2 43 pv [] [1000000] [(1000000,.box [.d (.str c0),dI c1,dI c2,.d (.str c3),dI c4,dI c5])] [] 2 (iK Tryz.prog 19 [dI c4,dI (6:Int)] [] pv) (by kernel_rfl) (trivial) (bU hpv) fun a w hm=>fC (vin:=[.box [.d (.str c0),dI c1,dI c2,.d (.str c3),dI c4,dI c5]]) (by decide) (by kernel_rfl) (by exact ⟨by kernel_rfl,trivial⟩) a w hm
        refine tR [iC 2 [] (bU hy1)] [2,1000000] ?_
        refine oC [(0,{ take:=[0] })] [2,1000000] [.nilc 2 3 9 1,.nilc 2 4 26 5,.keep [2,1000000]] [(2,.box [dI 0,dI 0,.d (.str []),oW2 [],oW3 []]),(1000000,.box [.d (.str c0),dI c1,dI c2,.d (.str c3),dI c4,dI c5])] [] 2 (by kernel_rfl) (trivial) ?_
        cases h
        refine aR (tqc [.frz (2,4),.frz (2,5),.keep [2,1000000]])
theorem rY {F:Nat} {rec_object_parser_object:Int→(List UInt8)→Int→Int→(List UInt8)→Int→Int→Option (Sum Value (aG×(List UInt8)×Int×Int×(List UInt8)×Int×Int))} (hrec_object_parser_object:∀ {a0:Int},∀ {c1:List UInt8},∀ {c2:Int},∀ {c3:Int},∀ {c4:List UInt8},∀ {c5:Int},∀ {c6:Int},∀ {r:Sum Value (aG×(List UInt8)×Int×Int×(List UInt8)×Int×Int)},rec_object_parser_object a0 c1 c2 c3 c4 c5 c6=some r→oF Tryz.prog 18 [.bp 1000000 0,.d (.v (.int .i64 a0))] [.box [.d (.str c1),.d (.v (.int .i64 c2)),.d (.v (.int .i64 c3)),.d (.str c4),.d (.v (.int .i64 c5)),.d (.v (.int .i64 c6))]] r (fun r=>.agg (bA r.1)) (fun r=>[.box [.d (.str r.2.1),.d (.v (.int .i64 r.2.2.1)),.d (.v (.int .i64 r.2.2.2.1)),.d (.str r.2.2.2.2.1),.d (.v (.int .i64 r.2.2.2.2.2.1)),.d (.v (.int .i64 r.2.2.2.2.2.2))]])) {a0:Int} {c1:List UInt8} {c2:Int} {c3:Int} {c4:List UInt8} {c5:Int} {c6:Int} {r:Sum Value (aG×(List UInt8)×Int×Int×(List UInt8)×Int×Int)} (h:gG F rec_object_parser_object a0 c1 c2 c3 c4 c5 c6=some r):oF Tryz.prog 18 [.bp 1000000 0,.d (.v (.int .i64 a0))] [.box [.d (.str c1),.d (.v (.int .i64 c2)),.d (.v (.int .i64 c3)),.d (.str c4),.d (.v (.int .i64 c5)),.d (.v (.int .i64 c6))]] r (fun r=>.agg (bA r.1)) (fun r=>[.box [.d (.str r.2.1),.d (.v (.int .i64 r.2.2.1)),.d (.v (.int .i64 r.2.2.2.1)),.d (.str r.2.2.2.2.1),.d (.v (.int .i64 r.2.2.2.2.2.1)),.d (.v (.int .i64 r.2.2.2.2.2.2))]]):=by
 rw [gG] at h
 refine oF.intro (N:=51) Tryz.func18 rfl rfl rfl rfl rfl fun e=>?_
 refine tR [] [0,1,4,1000000] ?_
 refine tR [] [0,1,4,5,1000000] ?_
 refine jE h [0,4,1000000] (fun p=>[(0,.bp 1000000 0),(1000000,.box [.d (.str c1),dI c2,dI c3,.d (.str c4),dI c5,dI c6])]) (fun s h hk1=>?_) (fun s h=>?_)
 ·refine bJ ?_
  refine tR [] [0,1,4,5,10,1000000] ?_
  refine tC h (fun hc h=>?_) fun hc h=>?_
  ·rcases dS h with ⟨pv,hpv,h⟩ | ⟨y1,hy1,h⟩
   ·cases h
    have h:=aP hk1
    cases h
    refine jU 2 16 pv [] [1000000] [(1000000,.box [.d (.str c1),dI c2,dI c3,.d (.str c4),dI c5,dI c6])] [] 2 (iK Tryz.prog 19 [dI c5,dI (12:Int)] [] pv) (by kernel_rfl) (trivial) (bU hpv) fun a w hm=>eB (eG (fC (vin:=[.box [.d (.str c1),dI c2,dI c3,.d (.str c4),dI c5,dI c6]]) (by decide) (by kernel_rfl) (by exact ⟨by kernel_rfl,trivial⟩) a w hm))
   cases h
   refine tRe [iC 2 [] (bU hy1)] [0,4,1000000] (tG [.keep [0,4,1000000]])
  ·refine tR [] [0,1,4,5,17,1000000] ?_
   refine tC h (fun hc h=>?_) fun hc h=>?_
   ·rcases dS h with ⟨pv,hpv,h⟩ | ⟨y2,hy2,h⟩
    ·cases h
     have h:=aP hk1
     cases h
     refine jU 2 28 pv [] [1000000] [(1000000,.box [.d (.str c1),dI c2,dI c3,.d (.str c4),dI c5,dI c6])] [] 2 (iK Tryz.prog 19 [dI c5,dI (5:Int)] [] pv) (by kernel_rfl) (trivial) (bU hpv) fun a w hm=>eB (eG (fC (vin:=[.box [.d (.str c1),dI c2,dI c3,.d (.str c4),dI c5,dI c6]]) (by decide) (by kernel_rfl) (by exact ⟨by kernel_rfl,trivial⟩) a w hm))
    cases h
    refine tRe [iC 2 [] (bU hy2)] [0,4,1000000] (tG [.keep [0,4,1000000]])
   ·refine tR [] [0,1,4,5,29,1000000] ?_
    refine tC h (fun hc h=>?_) fun hc h=>?_
    ·rcases dS h with ⟨pv,hpv,h⟩ | ⟨y3,hy3,h⟩
     ·cases h
      have h:=aP hk1
      cases h
      refine jU 2 34 pv [] [1000000] [(1000000,.box [.d (.str c1),dI c2,dI c3,.d (.str c4),dI c5,dI c6])] [] 2 (iK Tryz.prog 19 [dI c5,dI (15:Int)] [] pv) (by kernel_rfl) (trivial) (bU hpv) fun a w hm=>eB (eG (fC (vin:=[.box [.d (.str c1),dI c2,dI c3,.d (.str c4),dI c5,dI c6]]) (by decide) (by kernel_rfl) (by exact ⟨by kernel_rfl,trivial⟩) a w hm))
     cases h
     refine tRe [iC 2 [] (bU hy3)] [0,4,1000000] (tG [.keep [0,4,1000000]])
    ·refine tR [] [0,1,4,5,35,1000000] ?_
     refine tC h (fun hc h=>?_) fun hc h=>?_
     ·rcases dS h with ⟨pv,hpv,h⟩ | ⟨y4,hy4,h⟩
      ·cases h
       have h:=aP hk1
       cases h
       refine rZ 2 41 pv [(2,{ xs:=[1000000] })] [1000000] [(1000000,.box [.junk,.junk,.junk,.junk,.junk,.junk])] [] 2 (iK Tryz.prog 32 [.bp 1000000 0,dI a0] [.box [.d (.str c1),dI c2,dI c3,.d (.str c4),dI c5,dI c6]] pv) (by kernel_rfl) (trivial) (qD hrec_object_parser_object hpv) fun a w hm=>eB (eG (fC (vin:=[.box [.d (.str c1),dI c2,dI c3,.d (.str c4),dI c5,dI c6]]) (by decide) (by kernel_rfl) (by exact ⟨by kernel_rfl,trivial⟩) a w hm))
      refine tR [iC 2 [1000000] (qD hrec_object_parser_object hy4)] [4,1000000] ?_
      cases h
      have h:=aP hk1
      cases h
      refine aR (tq [4,1000000])
     ·refine tR [] [0,1,4,42,1000000] ?_
      refine tC h (fun hc h=>?_) fun hc h=>?_
      ·rcases dS h with ⟨pv,hpv,h⟩ | ⟨y5,hy5,h⟩
       ·cases h
        have h:=aP hk1
        cases h
        refine rZ 2 48 pv [(2,{ xs:=[1000000] })] [1000000] [(1000000,.box [.junk,.junk,.junk,.junk,.junk,.junk])] [] 2 (iK Tryz.prog 33 [.bp 1000000 0,dI a0] [.box [.d (.str c1),dI c2,dI c3,.d (.str c4),dI c5,dI c6]] pv) (by kernel_rfl) (trivial) (qH hrec_object_parser_object hpv) fun a w hm=>eB (eG (fC (vin:=[.box [.d (.str c1),dI c2,dI c3,.d (.str c4),dI c5,dI c6]]) (by decide) (by kernel_rfl) (by exact ⟨by kernel_rfl,trivial⟩) a w hm))
       refine tR [iC 2 [1000000] (qH hrec_object_parser_object hy5)] [4,1000000] ?_
       cases h
       have h:=aP hk1
       cases h
       refine aR (tq [4,1000000])
      ·cases h
       refine aM (tG [.keep [0,4,1000000]])
 ·rcases dS h with ⟨pv,hpv,h⟩ | ⟨y6,hy6,h⟩
  ·cases h
   refine rZ 1 50 pv [(1,{ xs:=[1000000] })] [1000000] [(1000000,.box [.junk,.junk,.junk,.junk,.junk,.junk])] [] 1 (iK Tryz.prog 34 [.bp 1000000 0] [.box [.d (.str c1),dI c2,dI c3,.d (.str c4),dI c5,dI c6]] pv) (by kernel_rfl) (trivial) (qG hpv) fun a w hm=>fC (vin:=[.box [.d (.str c1),dI c2,dI c3,.d (.str c4),dI c5,dI c6]]) (by decide) (by kernel_rfl) (by exact ⟨by kernel_rfl,trivial⟩) a w hm
  refine tR [iC 1 [1000000] (qG hy6)] [4,1000000] ?_
  cases h
  refine aR (tq [4,1000000])
theorem sA {F:Nat} (n:Nat):∀ {a0:Int} {c1:List UInt8} {c2:Int} {c3:Int} {c4:List UInt8} {c5:Int} {c6:Int} {r:Sum Value (aG×(List UInt8)×Int×Int×(List UInt8)×Int×Int)},bL F n a0 c1 c2 c3 c4 c5 c6=some r→oF Tryz.prog 18 [.bp 1000000 0,.d (.v (.int .i64 a0))] [.box [.d (.str c1),.d (.v (.int .i64 c2)),.d (.v (.int .i64 c3)),.d (.str c4),.d (.v (.int .i64 c5)),.d (.v (.int .i64 c6))]] r (fun r=>.agg (bA r.1)) (fun r=>[.box [.d (.str r.2.1),.d (.v (.int .i64 r.2.2.1)),.d (.v (.int .i64 r.2.2.2.1)),.d (.str r.2.2.2.2.1),.d (.v (.int .i64 r.2.2.2.2.2.1)),.d (.v (.int .i64 r.2.2.2.2.2.2))]]):=by
 induction n with
 | zero=>intro a0 c1 c2 c3 c4 c5 c6 r h; exact absurd (show (none:Option (Sum Value (aG×(List UInt8)×Int×Int×(List UInt8)×Int×Int)))=some r from h) (by simp)
 | succ n ih=>intro a0 c1 c2 c3 c4 c5 c6 r h; exact rY ih h
theorem oV {F:Nat} {a0:Int} {c1:List UInt8} {c2:Int} {c3:Int} {c4:List UInt8} {c5:Int} {c6:Int} {r:Sum Value (aG×(List UInt8)×Int×Int×(List UInt8)×Int×Int)} (h:mY F a0 c1 c2 c3 c4 c5 c6=some r):oF Tryz.prog 18 [.bp 1000000 0,.d (.v (.int .i64 a0))] [.box [.d (.str c1),.d (.v (.int .i64 c2)),.d (.v (.int .i64 c3)),.d (.str c4),.d (.v (.int .i64 c5)),.d (.v (.int .i64 c6))]] r (fun r=>.agg (bA r.1)) (fun r=>[.box [.d (.str r.2.1),.d (.v (.int .i64 r.2.2.1)),.d (.v (.int .i64 r.2.2.2.1)),.d (.str r.2.2.2.2.1),.d (.v (.int .i64 r.2.2.2.2.2.1)),.d (.v (.int .i64 r.2.2.2.2.2.2))]]):=sA F h
theorem aZ1 {F:Nat} {a0:Int} {r:Int} (h:oQ F a0=some r):aS Tryz.prog 97 [.d (.v (.int .i64 a0))] [] (.d (.v (.int .i64 r))) []:=by
 rw [oQ] at h
 refine aS.intro (N:=6) Tryz.func97 rfl rfl rfl rfl rfl fun e=>?_
 refine tR [] [0] ?_
 refine aT ?_
 refine tR [] [0,4] ?_
 refine tC h (fun hc h=>?_) fun hc h=>?_
 ·refine tR [] [2] ?_
  cases h
  refine aR (tq [2])
 ·refine aM (tS ?_)
  refine tR [] [2] ?_
  cases h
  refine aR (tq [2])
theorem aN6 {F:Nat} {a0:aD} {r:Int} (h:bQ F a0=some r):aS Tryz.prog 69 [.agg (aX a0)] [] (.d (.v (.int .i64 r))) []:=by
 rw [bQ] at h
 refine aS.intro (N:=128) Tryz.func69 rfl rfl rfl rfl rfl fun e=>?_
 refine tR [] [1] ?_
 refine tR [] [1,3] ?_
 obtain ⟨z1,hz1,h⟩:=bB h
 refine tR [iB 12 hz1] [1,3,4] ?_
 refine jE h [] (fun p=>[]) (fun s h hk1=>?_) (fun s h=>?_)
 ·refine bJ ?_
  refine tR [] [1,3,4,28] ?_
  refine tC h (fun hc h=>?_) fun hc h=>?_
  ·refine tR [] [2] ?_
   cases h
   have h:=aP hk1
   cases h
   refine aR (tq [2])
  ·refine jc h [1,37] (fun p=>[(37,dB p)]) (fun s h=>?_) (fun v1 h=>?_)
   ·obtain ⟨z2,hz2,h⟩:=bB h
    refine tR [iB 6 hz2] [1,4,37] ?_
    refine tC h (fun hc h=>?_) fun hc h=>?_
    ·cases h
     refine aM (tJ [.keep [1,37]])
    ·cases h
     refine tRe [] [1,37] (tJ [.keep [1,37]])
   ·refine tC h (fun hc h=>?_) fun hc h=>?_
    ·refine tR [] [2] ?_
     cases h
     have h:=aP hk1
     cases h
     refine aR (tq [2])
    ·obtain ⟨z3,hz3,h⟩:=bB h
     refine tR [iC 10 [] (show aS Tryz.prog 95 [.d (.str a0.f2),.d (.v (.int .u8 (0:Int)))] [] (dI (Lib.indexByte a0.f2 (0:Int).toNat.toUInt8)) [] from xM),iB 12 hz3] [1,52] ?_
     refine tC h (fun hc h=>?_) fun hc h=>?_
     ·refine tR [] [2] ?_
      cases h
      have h:=aP hk1
      cases h
      refine aR (tq [2])
     ·obtain ⟨z4,hz4,h⟩:=bB h
      refine tR [iB 12 hz4] [1,67] ?_
      refine tC h (fun hc h=>?_) fun hc h=>?_
      ·refine tR [] [2] ?_
       cases h
       have h:=aP hk1
       cases h
       refine aR (tq [2])
      ·obtain ⟨z5,hz5,h⟩:=bB h
       refine tR [iB 12 hz5] [1,81] ?_
       refine tC h (fun hc h=>?_) fun hc h=>?_
       ·refine tR [] [2] ?_
        cases h
        have h:=aP hk1
        cases h
        refine aR (tq [2])
       ·refine jc h [1,95] (fun p=>[(95,dB p)]) (fun s h=>?_) (fun v2 h=>?_)
        ·refine tR [] [1,95] ?_
         refine tC h (fun hc h=>?_) fun hc h=>?_
         ·cases h
          refine aM (tJ [.keep [1,95]])
         ·cases h
          refine tRe [] [1,95] (tJ [.keep [1,95]])
        ·refine tC h (fun hc h=>?_) fun hc h=>?_
         ·refine tR [] [2] ?_
          cases h
          have h:=aP hk1
          cases h
          refine aR (tq [2])
         ·refine tR [] [1,114] ?_
          refine tC h (fun hc h=>?_) fun hc h=>?_
          ·obtain ⟨y1,hy1,h⟩:=aK h
           refine tR [iC 2 [] (zL hy1)] [6] ?_
           refine tR [] [6,125] ?_
           refine tC h (fun hc h=>?_) fun hc h=>?_
           ·obtain ⟨y2,hy2,h⟩:=aK h
            refine tR [iC 1 [] (aZ1 hy2)] [2] ?_
            cases h
            have h:=aP hk1
            cases h
            refine aR (tq [2])
           ·cases h
            refine aM (tG [.keep []])
          ·cases h
           refine aM (tG [.keep []])
 ·refine tR [] [2] ?_
  cases h
  refine aR (tq [2])
theorem yE {F:Nat} {a0:List UInt8} {r:(List UInt8)} (h:mC F a0=some r):aS Tryz.prog 71 [.d (.str a0)] [] (.d (.str r)) []:=by
 rw [mC] at h
 refine aS.intro (N:=45) Tryz.func71 rfl rfl rfl rfl rfl fun e=>?_
 refine tR [] [0] ?_
 refine tR [iH 0 { slfs:=[(0,0)] }] [0,3] ?_
 refine aT ?_
 refine tR [] [0,3,7,8] ?_
 refine jct h [3] (fun p=>[(3,.box [.slf 0 87,oW0 p])]) (fun s h=>?_) (fun v4 h=>?_)
 ·refine bJ ?_
  refine tL2 (fB F a0) [.keep [0,3,7,8]] [0,3,7,8] (fun v1 v2=>[(3,.box [.slf 0 87,oW0 v1]),(8,dI v2)]) F [] (0:Int) h fun n v1 v2 h=>?_
  rw [fB] at h
  refine tR [] [0,3,7,8,9] ?_
  refine aT ?_
  refine tC h (fun hc h=>?_) fun hc h=>?_
  ·refine aM (tS ?_)
   refine jc h [0,3,7,8] (fun p=>[(3,.box [.slf 0 87,oW0 p])]) (fun s h=>?_) (fun v3 h=>?_)
   ·refine bJ ?_
    refine tR [] [0,3,4,7,8] ?_
    obtain ⟨hp1,h⟩:=aQ h
    refine tR [iP 2 hp1] [0,3,5,7,8] ?_
    refine aT ?_
    obtain ⟨y1,hy1,h⟩:=aK h
    obtain ⟨y2,hy2,h⟩:=aK h
    obtain ⟨z1,hz1,h⟩:=bB h
    obtain ⟨z2,hz2,h⟩:=bB h
    refine tR [iC 1 [] (wY hy1),iD 4 [] (fun hg=>pB (fJ hg hy2)),iB 9 hz1,iB 17 hz2] [0,3,5,7,8,31] ?_
    refine tC h (fun hc h=>?_) fun hc h=>?_
    ·obtain ⟨y3,hy3,h⟩:=aK h
     refine tR [iC 1 [3] (bH hy3)] [0,3,7,8] ?_
     cases h
     refine fD (tJ [.keep [0,3,7,8]])
    ·refine aM (tS ?_)
     obtain ⟨y4,hy4,h⟩:=aK h
     refine tR [iC 0 [3] (bH hy4)] [0,3,5,7,8] ?_
     obtain ⟨hp2,h⟩:=aQ h
     obtain ⟨z3,hz3,h⟩:=bB h
     obtain ⟨y5,hy5,h⟩:=aK h
     refine tR [iP 1 (show 0≤(4:Int) by decide),iW 2 (show (0≤(((a0.getD v2.toNat 0).toNat:Int).fdiv (2 ^ (min (4:Int).toNat IntKind.u8.bits)))∧(((a0.getD v2.toNat 0).toNat:Int).fdiv (2 ^ (min (4:Int).toNat IntKind.u8.bits))) < ([48,49,50,51,52,53,54,55,56,57,97,98,99,100,101,102]:List UInt8).length)∧AV.d (.v (.int .u8 ((([48,49,50,51,52,53,54,55,56,57,97,98,99,100,101,102]:List UInt8).getD (((a0.getD v2.toNat 0).toNat:Int).fdiv (2 ^ (min (4:Int).toNat IntKind.u8.bits))).toNat 0).toNat:Int)))=.d (.v (.int .u8 z3)) from ⟨hp2,(by subst hz3; rfl)⟩),iC 3 [3] (bH hy5)] [0,3,5,7,8] ?_
     obtain ⟨z4,hz4,h⟩:=bB h
     obtain ⟨hp3,h⟩:=aQ h
     obtain ⟨z5,hz5,h⟩:=bB h
     obtain ⟨y6,hy6,h⟩:=aK h
     cases h
     refine tRe [iZ 1 (aI .u8) hz4,iW 2 (show (0≤z4∧z4 < ([48,49,50,51,52,53,54,55,56,57,97,98,99,100,101,102]:List UInt8).length)∧AV.d (.v (.int .u8 ((([48,49,50,51,52,53,54,55,56,57,97,98,99,100,101,102]:List UInt8).getD z4.toNat 0).toNat:Int)))=.d (.v (.int .u8 z5)) from ⟨hp3,(by subst hz5; rfl)⟩),iC 3 [3] (bH hy6)] [0,3,7,8] (tJ [.keep [0,3,7,8]])
   ·refine tRe [] [0,3,7,8] (tE [.keep [0,3,7,8]] (v3,IntKind.i64.wrap (v2+(1:Int))) h)
  ·cases h
   refine fD (tJ [.keep [3]])
 ·refine tS ?_
  obtain ⟨hp4,h⟩:=aQ h
  refine tR [iC 0 [3] (show aS Tryz.prog 53 [.bp 1000000 0] [.box [.slf 0 87,oW0 v4]] (.d (.str v4)) [.box [.slf 0 87,.junk]] from vS (l:=v4) hp4 (by kernel_rfl) (by kernel_rfl))] [2] ?_
  cases h
  refine aR (tq [2])
theorem gC {F:Nat} {a0:List UInt8} {c1:List UInt8} {r:Int×Unit×(List UInt8)} (h:cO F a0 c1=some r):aS Tryz.prog 51 [.bp 1000000 0,.d (.str a0)] [.box [.slf 0 87,.own 5 1 (c1.map cU)]] (.tup [.d (.v (.int .i64 r.1)),.d (.v .nilIface)]) [.box [.slf 0 87,.own 5 1 (r.2.2.map cU)]]:=by
 rw [cO] at h
 refine aS.intro (N:=19) Tryz.func51 rfl rfl rfl rfl rfl fun e=>?_
 refine tR [] [0,1,1000000] ?_
 refine tR [iC 1 [1000000] (show aS Tryz.prog 75 [.bp 1000000 0] [.box [.slf 0 87,oW0 c1]] (.tup []) [.box [.slf 0 87,oW0 c1]] from aI9 (E:=87) (by kernel_rfl) (by kernel_rfl) (by kernel_rfl))] [0,1,1000000] ?_
 obtain ⟨hp1,h⟩:=aQ h
 refine tR [iE 6 (jC cU hp1)] [1,1000000] ?_
 refine tR [] [4,5,1000000] ?_
 cases h
 refine aR (tq [4,5,1000000])
theorem xL {F:Nat} {a0:List UInt8} {r:(List UInt8)} (h:mF F a0=some r):aS Tryz.prog 72 [.d (.str a0)] [] (.d (.str r)) []:=by
 rw [mF] at h
 refine aS.intro (N:=58) Tryz.func72 rfl rfl rfl rfl rfl fun e=>?_
 refine tR [] [0] ?_
 refine tR [iH 0 { slfs:=[(0,0)] }] [0,3] ?_
 obtain ⟨y9,hy1,h⟩:=aK h
 refine tR [iC 0 [3] (bH hy1)] [0,3] ?_
 refine aT ?_
 refine tR [] [0,3,8,9] ?_
 refine jct h [3] (fun p=>[(3,.box [.slf 0 87,oW0 p])]) (fun s h=>?_) (fun v4 h=>?_)
 ·refine bJ ?_
  refine tL2 (fA F a0) [.keep [0,3,8,9]] [0,3,8,9] (fun v1 v2=>[(3,.box [.slf 0 87,oW0 v1]),(9,dI v2)]) F y9.2 (0:Int) h fun n v1 v2 h=>?_
  rw [fA] at h
  refine tR [] [0,3,8,9,10] ?_
  refine aT ?_
  refine tC h (fun hc h=>?_) fun hc h=>?_
  ·refine aM (tS ?_)
   refine jc h [0,3,8,9] (fun p=>[(3,.box [.slf 0 87,oW0 p])]) (fun s h=>?_) (fun v3 h=>?_)
   ·refine bJ ?_
    refine tR [] [0,3,4,8,9] ?_
    obtain ⟨hp1,h⟩:=aQ h
    refine tR [iP 2 hp1] [0,3,5,8,9] ?_
    refine bJ ?_
    refine tR [] [0,3,5,8,9,17] ?_
    refine tC h (fun hc h=>?_) fun hc h=>?_
    ·obtain ⟨y1,hy2,h⟩:=aK h
     cases h
     refine tRe [iC 0 [3] (gC hy2)] [0,3,8,9] (tJ [.keep [0,3,8,9]])
    ·refine tR [] [0,3,5,8,9,21] ?_
     refine tC h (fun hc h=>?_) fun hc h=>?_
     ·obtain ⟨y2,hy3,h⟩:=aK h
      cases h
      refine tRe [iC 0 [3] (gC hy3)] [0,3,8,9] (tJ [.keep [0,3,8,9]])
     ·obtain ⟨z1,hz1,h⟩:=bB h
      refine tR [iB 5 hz1] [0,3,5,8,9,25] ?_
      refine tC h (fun hc h=>?_) fun hc h=>?_
      ·obtain ⟨y3,hy4,h⟩:=aK h
       refine tR [iC 0 [3] (bH hy4)] [0,3,5,8,9] ?_
       obtain ⟨y4,hy5,h⟩:=aK h
       cases h
       refine tRe [iC 1 [3] (bH hy5)] [0,3,8,9] (tJ [.keep [0,3,8,9]])
      ·obtain ⟨z2,hz2,h⟩:=bB h
       refine tR [iB 5 hz2] [0,3,5,8,9,39] ?_
       refine tC h (fun hc h=>?_) fun hc h=>?_
       ·obtain ⟨y5,hy6,h⟩:=aK h
        refine tR [iC 0 [3] (gC hy6)] [0,3,5,8,9] ?_
        obtain ⟨hp2,h⟩:=aQ h
        obtain ⟨z3,hz3,h⟩:=bB h
        obtain ⟨y6,hy7,h⟩:=aK h
        refine tR [iP 1 (show 0≤(4:Int) by decide),iW 2 (show (0≤(((a0.getD v2.toNat 0).toNat:Int).fdiv (2 ^ (min (4:Int).toNat IntKind.u8.bits)))∧(((a0.getD v2.toNat 0).toNat:Int).fdiv (2 ^ (min (4:Int).toNat IntKind.u8.bits))) < ([48,49,50,51,52,53,54,55,56,57,97,98,99,100,101,102]:List UInt8).length)∧AV.d (.v (.int .u8 ((([48,49,50,51,52,53,54,55,56,57,97,98,99,100,101,102]:List UInt8).getD (((a0.getD v2.toNat 0).toNat:Int).fdiv (2 ^ (min (4:Int).toNat IntKind.u8.bits))).toNat 0).toNat:Int)))=.d (.v (.int .u8 z3)) from ⟨hp2,(by subst hz3; rfl)⟩),iC 3 [3] (bH hy7)] [0,3,5,8,9] ?_
        obtain ⟨z4,hz4,h⟩:=bB h
        obtain ⟨hp3,h⟩:=aQ h
        obtain ⟨z5,hz5,h⟩:=bB h
        obtain ⟨y7,hy8,h⟩:=aK h
        cases h
        refine tRe [iZ 1 (aI .u8) hz4,iW 2 (show (0≤z4∧z4 < ([48,49,50,51,52,53,54,55,56,57,97,98,99,100,101,102]:List UInt8).length)∧AV.d (.v (.int .u8 ((([48,49,50,51,52,53,54,55,56,57,97,98,99,100,101,102]:List UInt8).getD z4.toNat 0).toNat:Int)))=.d (.v (.int .u8 z5)) from ⟨hp3,(by subst hz5; rfl)⟩),iC 3 [3] (bH hy8)] [0,3,8,9] (tJ [.keep [0,3,8,9]])
       ·obtain ⟨y8,hy9,h⟩:=aK h
        cases h
        refine tRe [iC 1 [3] (bH hy9)] [0,3,8,9] (tJ [.keep [0,3,8,9]])
   ·refine tRe [] [0,3,8,9] (tE [.keep [0,3,8,9]] (v3,IntKind.i64.wrap (v2+(1:Int))) h)
  ·cases h
   refine fD (tJ [.keep [3]])
 ·refine tS ?_
  obtain ⟨y10,hy10,h⟩:=aK h
  refine tR [iC 0 [3] (bH hy10)] [3] ?_
  obtain ⟨hp4,h⟩:=aQ h
  refine tR [iC 0 [3] (show aS Tryz.prog 53 [.bp 1000000 0] [.box [.slf 0 87,oW0 y10.2]] (.d (.str y10.2)) [.box [.slf 0 87,.junk]] from vS (l:=y10.2) hp4 (by kernel_rfl) (by kernel_rfl))] [2] ?_
  cases h
  refine aR (tq [2])
theorem tO {F:Nat} {a0:aD} {r:(List UInt8)×Int} (h:bD F a0=some r):aS Tryz.prog 48 [.agg (aX a0)] [.glo 1 (aC.flatMap (cI .u64))] (.tup [.d (.str r.1),.d (.v (.int .i64 r.2))]) [.glo 1 (aC.flatMap (cI .u64))]:=by
 rw [bD] at h
 refine aS.intro (N:=44) Tryz.func48 rfl rfl rfl rfl rfl fun e=>?_
 refine tR [] [1,1000000] ?_
 refine aT ?_
 obtain ⟨y1,hy1,h⟩:=aK h
 refine tR [iC 1 [] (aN6 hy1)] [1,4,1000000] ?_
 refine tR [] [1,4,8,1000000] ?_
 refine tC h (fun hc h=>?_) fun hc h=>?_
 ·refine tR [] [2,3,1000000] ?_
  cases h
  refine aR (tq [2,3,1000000])
 ·refine aM (tS ?_)
  refine aT ?_
  refine tR [] [1,11,1000000] ?_
  refine bJ ?_
  refine tR [] [1,11,12,1000000] ?_
  refine tC h (fun hc h=>?_) fun hc h=>?_
  ·obtain ⟨hp1,h⟩:=aQ h
   refine tR [iC 2 [1000000] (cK8 hp1)] [2,3,1000000] ?_
   cases h
   refine aR (tq [2,3,1000000])
  ·refine tR [] [1,11,17,1000000] ?_
   refine tC h (fun hc h=>?_) fun hc h=>?_
   ·obtain ⟨y2,hy2,h⟩:=aK h
    obtain ⟨hp2,h⟩:=aQ h
    refine tR [iC 2 [] (yE hy2),iP 3 hp2] [2,3,1000000] ?_
    cases h
    refine aR (tq [2,3,1000000])
   ·refine tR [] [1,11,23,1000000] ?_
    refine tC h (fun hc h=>?_) fun hc h=>?_
    ·obtain ⟨y3,hy3,h⟩:=aK h
     refine tR [iC 2 [] (xL hy3)] [2,3,1000000] ?_
     cases h
     refine aR (tq [2,3,1000000])
    ·refine tR [] [1,11,28,1000000] ?_
     refine tC h (fun hc h=>?_) fun hc h=>?_
     ·obtain ⟨hp3,h⟩:=aQ h
      obtain ⟨hp4,h⟩:=aQ h
      refine tR [iC 2 [1000000] (cK8 hp3),iP 3 hp4] [2,3,1000000] ?_
      cases h
      refine aR (tq [2,3,1000000])
     ·refine tR [] [1,34,1000000] ?_
      refine tC h (fun hc h=>?_) fun hc h=>?_
      ·refine tR [] [2,3,1000000] ?_
       cases h
       refine aR (tq [2,3,1000000])
      ·refine aM (tS ?_)
       obtain ⟨hp5,h⟩:=aQ h
       obtain ⟨z1,hz1,h⟩:=bB h
       refine tR [iR 0 (([([91]:List UInt8),([93]:List UInt8),([60,60]:List UInt8),([62,62]:List UInt8)]).map cS),iP 4 (show 0≤(IntKind.i64.wrap (a0.f0 - (6:Int)))∧(IntKind.i64.wrap (a0.f0 - (6:Int))) < (([([91]:List UInt8),([93]:List UInt8),([60,60]:List UInt8),([62,62]:List UInt8)]).map cS).length from rC cS hp5),iX 5 { cs:=cS (([([91]:List UInt8),([93]:List UInt8),([60,60]:List UInt8),([62,62]:List UInt8)]).getD (IntKind.i64.wrap (a0.f0 - (6:Int))).toNat []),rw:=some (.d (.str z1)) } (show ((([([91]:List UInt8),([93]:List UInt8),([60,60]:List UInt8),([62,62]:List UInt8)]).map cS)[(IntKind.i64.wrap (a0.f0 - (6:Int))).toNat]? = some (cS (([([91]:List UInt8),([93]:List UInt8),([60,60]:List UInt8),([62,62]:List UInt8)]).getD (IntKind.i64.wrap (a0.f0 - (6:Int))).toNat [])))∧AV.d (.str (([([91]:List UInt8),([93]:List UInt8),([60,60]:List UInt8),([62,62]:List UInt8)]).getD (IntKind.i64.wrap (a0.f0 - (6:Int))).toNat []))=.d (.str z1) from ⟨(jB (d:=[]) cS hp5).2,(by subst hz1; rfl)⟩)] [2,3,1000000] ?_
       cases h
       refine aR (tq [2,3,1000000])
theorem aQ5 {F:Nat} {a0:aG} {a1:Int} {r:Int} (h:rG F a0 a1=some r):aS Tryz.prog 45 [.agg (bA a0),.d (.v (.int .i64 a1))] [.glo 1 (aC.flatMap (cI .u64))] (.d (.v (.int .i64 r))) [.glo 1 (aC.flatMap (cI .u64))]:=by
 rw [rG] at h
 refine aS.intro (N:=147) Tryz.func45 rfl rfl rfl rfl rfl fun e=>?_
 refine tR [] [1,2,1000000] ?_
 obtain ⟨z2,hz1,h⟩:=bB h
 refine tR [iB 12 hz1] [1,2,5,1000000] ?_
 refine tR [] [1,2,5,6,1000000] ?_
 refine tR [] [1,2,5,6,7,1000000] ?_
 refine aT ?_
 refine bJ ?_
 refine tR [] [1,2,5,6,7,41,1000000] ?_
 refine tC h (fun hc h=>?_) fun hc h=>?_
 ·refine tR [] [4,1000000] ?_
  cases h
  refine aR (tq [4,1000000])
 ·refine tR [] [2,5,6,7,50,1000000] ?_
  refine tC h (fun hc h=>?_) fun hc h=>?_
  ·refine tR [] [4,1000000] ?_
   cases h
   refine aR (tq [4,1000000])
  ·refine jc h [2,53,1000000] (fun p=>[(53,dB p)]) (fun s h=>?_) (fun v2 h=>?_)
   ·refine tR [] [2,6,7,53,1000000] ?_
    refine tC h (fun hc h=>?_) fun hc h=>?_
    ·cases h
     refine aM (tJ [.keep [2,53,1000000]])
    ·obtain ⟨z3,hz2,h⟩:=bB h
     refine tR [iB 6 hz2] [2,7,53,1000000] ?_
     refine tC h (fun hc h=>?_) fun hc h=>?_
     ·cases h
      refine aM (tJ [.keep [2,53,1000000]])
     ·obtain ⟨z4,hz3,h⟩:=bB h
      cases h
      refine tRe [iW 2 (eW bK (xs:=a0.f4)),iB 7 hz3] [2,53,1000000] (tJ [.keep [2,53,1000000]])
   ·refine tC h (fun hc h=>?_) fun hc h=>?_
    ·refine tR [] [4,1000000] ?_
     cases h
     refine aR (tq [4,1000000])
    ·refine jc h [2,76,1000000] (fun p=>[(76,dB p)]) (fun s h=>?_) (fun v3 h=>?_)
     ·refine tR [iW 6 (eW cS (xs:=a0.f3)),iW 9 (eW bK (xs:=a0.f4))] [2,76,1000000] ?_
      refine tC h (fun hc h=>?_) fun hc h=>?_
      ·cases h
       refine aM (tJ [.keep [2,76,1000000]])
      ·cases h
       refine tRe [iW 6 (eW cS (xs:=a0.f3))] [2,76,1000000] (tJ [.keep [2,76,1000000]])
     ·refine tC h (fun hc h=>?_) fun hc h=>?_
      ·refine tR [] [4,1000000] ?_
       cases h
       refine aR (tq [4,1000000])
      ·obtain ⟨z5,hz4,h⟩:=bB h
       refine tR [iB 12 hz4] [2,98,1000000] ?_
       refine tC h (fun hc h=>?_) fun hc h=>?_
       ·refine tR [] [4,1000000] ?_
        cases h
        refine aR (tq [4,1000000])
       ·refine tR [iW 2 (eW bK (xs:=a0.f4))] [2,112,1000000] ?_
        refine tC h (fun hc h=>?_) fun hc h=>?_
        ·refine tR [] [4,1000000] ?_
         cases h
         refine aR (tq [4,1000000])
        ·refine aM (tS ?_)
         refine aT ?_
         refine tR [iW 2 (eW cS (xs:=a0.f3))] [2,118,119,120,1000000] ?_
         refine jEt h [1000000] (fun p=>[]) (fun s h hk1=>?_) (fun s h=>?_)
         ·refine bJ ?_
          refine tL1 (iY F a0) [.keep [2,118,119,120,1000000]] [2,118,119,120,1000000] (fun v1=>[(120,dI v1)]) F (0:Int) h fun n v1 h=>?_
          rw [iY] at h
          refine tR [] [2,118,119,120,121,1000000] ?_
          refine aT ?_
          refine tC h (fun hc h=>?_) fun hc h=>?_
          ·refine aM (tS ?_)
           refine aT ?_
           refine bJ ?_
           obtain ⟨hp1,h⟩:=aQ h
           refine tR [iI 1 (jB (d:=[]) cS hp1)] [2,8,9,118,119,120,1000000] ?_
           refine aT ?_
           obtain ⟨y1,hy1,h⟩:=aK h
           refine tR [iC 2 [1000000] (tO hy1)] [2,8,9,11,118,119,120,1000000] ?_
           refine tR [] [2,8,9,11,118,119,120,132,1000000] ?_
           refine tC h (fun hc h=>?_) fun hc h=>?_
           ·refine tR [] [4,1000000] ?_
            cases h
            have h:=aP hk1
            cases h
            refine aR (tq [4,1000000])
           ·refine aM (tS ?_)
            obtain ⟨hp2,h⟩:=aQ h
            obtain ⟨z1,hz5,h⟩:=bB h
            refine tR [iF 7 { cs:=cS (a0.f3.getD (IntKind.i64.wrap (v1 - (1:Int))).toNat []) } (show ((((decide (v1 > (0:Int))) == true) && true)=true→0≤(IntKind.i64.wrap (v1 - (1:Int)))∧(a0.f3.map cS)[(IntKind.i64.wrap (v1 - (1:Int))).toNat]? = some (cS (a0.f3.getD (IntKind.i64.wrap (v1 - (1:Int))).toNat []))) from (fun hg=>jB (d:=[]) cS (hp2 hg))),iB 10 hz5] [2,118,119,120,145,1000000] ?_
            refine tC h (fun hc h=>?_) fun hc h=>?_
            ·refine tR [] [4,1000000] ?_
             cases h
             have h:=aP hk1
             cases h
             refine aR (tq [4,1000000])
            ·refine aM (tS ?_)
             refine tRe [] [2,118,119,120,1000000] (tE [.keep [2,118,119,120,1000000]] (IntKind.i64.wrap (v1+(1:Int))) h)
          ·cases h
           refine fD (tG [.keep [1000000]])
         ·refine tS ?_
          refine tR [] [4,1000000] ?_
          cases h
          refine aR (tq [4,1000000])
theorem qO {F:Nat} {a0:Bool} {r:(List UInt8)} (h:internal_strconv_FormatBool F a0=some r):aS Tryz.prog 68 [.d (.v (.bool a0))] [] (.d (.str r)) []:=by
 rw [internal_strconv_FormatBool] at h
 refine aS.intro (N:=4) Tryz.func68 rfl rfl rfl rfl rfl fun e=>?_
 refine tR [] [0] ?_
 refine aT ?_
 refine tR [] [3] ?_
 refine tC h (fun hc h=>?_) fun hc h=>?_
 ·refine tR [] [2] ?_
  cases h
  refine aR (tq [2])
 ·refine aM (tS ?_)
  refine tR [] [2] ?_
  cases h
  refine aR (tq [2])
theorem xE {F:Nat} {a0:Bool} {r:(List UInt8)} (h:strconv_FormatBool F a0=some r):aS Tryz.prog 46 [.d (.v (.bool a0))] [] (.d (.str r)) []:=by
 rw [strconv_FormatBool] at h
 refine aS.intro (N:=5) Tryz.func46 rfl rfl rfl rfl rfl fun e=>?_
 refine tR [] [0] ?_
 obtain ⟨y1,hy1,h⟩:=aK h
 refine tR [iC 1 [] (qO hy1)] [2] ?_
 cases h
 refine aR (tq [2])
theorem uY {F:Nat} {rec_object_printer_add:aG→Int→(List aD)→Int→Option (Int×(List aD)×Int)} (hrec_object_printer_add:∀ {a0:aG},∀ {a1:Int},∀ {c2:List aD},∀ {c3:Int},∀ {r:Int×(List aD)×Int},rec_object_printer_add a0 a1 c2 c3=some r→aS Tryz.prog 24 [.bp 1000000 0,.agg (bA a0),.d (.v (.int .i64 a1))] [.box [.own 46 5 (c2.map aX),.d (.v (.int .i64 c3))],.glo 1 (aC.flatMap (cI .u64))] (.d (.v (.int .i64 r.1))) [.box [.own 46 5 (r.2.1.map aX),.d (.v (.int .i64 r.2.2))],.glo 1 (aC.flatMap (cI .u64))]) {a0:aG} {a1:Int} {c2:List aD} {c3:Int} {r:Int×(List aD)×Int} (h:fI F rec_object_printer_add a0 a1 c2 c3=some r):aS Tryz.prog 47 [.bp 1000000 0,.agg (bA a0),.d (.v (.int .i64 a1))] [.box [.own 46 5 (c2.map aX),.d (.v (.int .i64 c3))],.glo 1 (aC.flatMap (cI .u64))] (.d (.v (.int .i64 r.1))) [.box [.own 46 5 (r.2.1.map aX),.d (.v (.int .i64 r.2.2))],.glo 1 (aC.flatMap (cI .u64))]:=by
 rw [fI] at h
 refine aS.intro (N:=72) Tryz.func47 rfl rfl rfl rfl rfl fun e=>?_
 refine tR [] [0,2,4,1000000,1000001] ?_
 refine tR [] [0,2,4,7,8,1000000,1000001] ?_
 refine jc h [0,2,4,7,8,1000000,1000001] (fun p=>[(7,dI p.1),(8,dI p.2),(1000000,.box [oW4 c2,dI c3])]) (fun s h=>?_) (fun s h=>?_)
 ·refine tR [] [0,2,4,7,8,14,1000000,1000001] ?_
  refine tC h (fun hc h=>?_) fun hc h=>?_
  ·cases h
   refine tRe [] [0,2,4,7,8,1000000,1000001] (tJ [.keep [0,2,4,7,8,1000000,1000001]])
  ·cases h
   refine aM (tJ [.keep [0,2,4,7,8,1000000,1000001]])
 ·obtain ⟨v5,v6⟩:=s
  try dsimp only at h
  obtain ⟨hp1,h⟩:=aQ h
  refine tR [iR 7 (([(aD.mk v5 0 [] 0 0)]).map aX),iE 8 (jC aX hp1)] [0,2,4,8,1000000,1000001] ?_
  refine aT ?_
  refine tR [iW 2 (eW bK (xs:=a0.f4))] [0,2,4,8,27,28,29,1000000,1000001] ?_
  refine jEt h [0,8,1000000,1000001] (fun p=>[(8,dI v6),(1000000,.box [oW4 p.1,dI p.2])]) (fun s h hk1=>?_) (fun s h=>?_)
  ·refine bJ ?_
   refine tL3 (bT F a0 a1 rec_object_printer_add) [.keep [0,2,4,8,27,28,29,1000000,1000001]] [0,2,4,8,27,28,29,1000000,1000001] (fun v1 v2 v3=>[(29,dI v1),(1000000,.box [oW4 v2,dI v3])]) F (0:Int) (c2++([(aD.mk v5 0 [] 0 0)])) c3 h fun n v1 v2 v3 h=>?_
   rw [bT] at h
   refine tR [] [0,2,4,8,27,28,29,30,1000000,1000001] ?_
   refine aT ?_
   refine tC h (fun hc h=>?_) fun hc h=>?_
   ·refine aM (tS ?_)
    refine aT ?_
    refine bJ ?_
    obtain ⟨hp2,h⟩:=aQ h
    refine tR [iI 1 (aL5 (d:=jT) lI hp2)] [0,2,4,8,9,10,27,28,29,1000000,1000001] ?_
    refine jc h [0,2,4,8,10,27,28,29,1000000,1000001] (fun p=>[(1000000,.box [oW4 p,dI v3])]) (fun s h=>?_) (fun v4 h=>?_)
    ·refine tR [] [0,2,4,8,9,10,27,28,29,36,1000000,1000001] ?_
     refine tC h (fun hc h=>?_) fun hc h=>?_
     ·obtain ⟨hp3,h⟩:=aQ h
      obtain ⟨hp4,h⟩:=aQ h
      cases h
      refine pA mixed 2 (.take 0 (.take 1 (.take 2 (.take 3 (.take 5 (.take 6 (.take 7 (.take 8 (.take 9 (.take 10 (.all (.alt 4 (.all (.alt 11 (.all (.alt 12 (.take 13 (.take 14 (.all (.alt 15 .done .stop)))) .stop)) .stop)) (.alt 11 (.take 4 (.all (.alt 12 (.take 13 (.take 14 (.all (.alt 15 .done .stop)))) .stop))) .stop))))))))))))) ([0,0,2,4,8,0,32,0,192,256,512,1024,2064,8191,16383,24575],[0,0,2,4,8,0,32,0,192,256,512,1024,2064,1,8192,20480]) 26623 [(8,{ cs:=cS (a0.f3.getD v1.toNat []) }),(11,{ es:=some (([(aD.mk (2:Int) 0 (a0.f3.getD v1.toNat []) 0 0)]).map aX) }),(12,{ es:=some ((v2++([(aD.mk (2:Int) 0 (a0.f3.getD v1.toNat []) 0 0)])).map aX) })] [0,2,4,8,10,27,28,29,1000000,1000001] [] [(0,.bp 1000000 0),(2,dI a1),(4,kG a0),(8,dI v6),(10,.box [dI ((a0.f4.getD v1.toNat jT).f0),dI ((a0.f4.getD v1.toNat jT).f1),.d (.str ((a0.f4.getD v1.toNat jT).f2)),.d (.sl 1 (((a0.f4.getD v1.toNat jT).f3).map cS)),.d (.sl 5 (((a0.f4.getD v1.toNat jT).f4).map bK))]),(27,.d (.sl 5 (a0.f4.map bK))),(28,dI (a0.f4.length:Int)),(29,dI v1),(1000000,.box [.own 46 5 ((v2++([(aD.mk (2:Int) 0 (a0.f3.getD v1.toNat []) 0 0)])).map aX),dI v3]),(1000001,.glo 1 (aC.flatMap (cI .u64)))] ((fun (o8:Prop)=>fun (o11:Prop)=>fun (o12:Prop)=>[(7,o8),(3,o11),(0,o12),(3,o11),(1,o12)]) (0≤v1∧(a0.f3.map cS)[v1.toNat]? = some (cS (a0.f3.getD v1.toNat []))) ((([(aD.mk (2:Int) 0 (a0.f3.getD v1.toNat []) 0 0)]).map aX)=(([(aD.mk (2:Int) 0 (a0.f3.getD v1.toNat []) 0 0)]).map aX)) ((v2.map aX).length+(([(aD.mk (2:Int) 0 (a0.f3.getD v1.toNat []) 0 0)]).map aX).length≤4294967296∧(v2.map aX)++(([(aD.mk (2:Int) 0 (a0.f3.getD v1.toNat []) 0 0)]).map aX)=((v2++([(aD.mk (2:Int) 0 (a0.f3.getD v1.toNat []) 0 0)])).map aX))) 3 (by kernel_rfl) (by kernel_rfl) (by kernel_rfl) (have p8:=jB (d:=[]) cS hp3; have p11:=rfl; have p12:=jC aX hp4; ⟨p8,p11,p12,p11,p12⟩) (tJ [.keep [0,2,4,8,10,27,28,29,1000000,1000001]])
     ·cases h
      refine aM (tJ [.keep [0,2,4,8,10,27,28,29,1000000,1000001]])
    ·obtain ⟨y1,hy1,h⟩:=aK h
     refine tR [iC 4 [1000000,1000001] (hrec_object_printer_add hy1)] [0,2,4,8,11,27,28,29,1000000,1000001] ?_
     refine tR [] [0,2,4,8,11,27,28,29,58,1000000,1000001] ?_
     refine tC h (fun hc h=>?_) fun hc h=>?_
     ·refine tR [] [6,1000000,1000001] ?_
      cases h
      have h:=aP hk1
      cases h
      refine aR (tq [6,1000000,1000001])
     ·refine aM (tS ?_)
      refine tRe [] [0,2,4,8,27,28,29,1000000,1000001] (tE [.keep [0,2,4,8,27,28,29,1000000,1000001]] (IntKind.i64.wrap (v1+(1:Int)),y1.2.1,y1.2.2) h)
   ·cases h
    refine fD (tG [.keep [0,8,1000000,1000001]])
  ·obtain ⟨v7,v8⟩:=s
   try dsimp only at h
   refine tS ?_
   obtain ⟨hp5,h⟩:=aQ h
   refine tR [iR 7 (([(aD.mk v6 0 [] 0 0)]).map aX),iE 8 (jC aX hp5)] [1000000,1000001] ?_
   refine tR [] [6,1000000,1000001] ?_
   cases h
   refine aR (tq [6,1000000,1000001])
theorem tQ {F:Nat} {rec_object_printer_add:aG→Int→(List aD)→Int→Option (Int×(List aD)×Int)} (hrec_object_printer_add:∀ {a0:aG},∀ {a1:Int},∀ {c2:List aD},∀ {c3:Int},∀ {r:Int×(List aD)×Int},rec_object_printer_add a0 a1 c2 c3=some r→aS Tryz.prog 24 [.bp 1000000 0,.agg (bA a0),.d (.v (.int .i64 a1))] [.box [.own 46 5 (c2.map aX),.d (.v (.int .i64 c3))],.glo 1 (aC.flatMap (cI .u64))] (.d (.v (.int .i64 r.1))) [.box [.own 46 5 (r.2.1.map aX),.d (.v (.int .i64 r.2.2))],.glo 1 (aC.flatMap (cI .u64))]) {a0:aG} {a1:Int} {c2:List aD} {c3:Int} {r:Int×(List aD)×Int} (h:eV F rec_object_printer_add a0 a1 c2 c3=some r):aS Tryz.prog 24 [.bp 1000000 0,.agg (bA a0),.d (.v (.int .i64 a1))] [.box [.own 46 5 (c2.map aX),.d (.v (.int .i64 c3))],.glo 1 (aC.flatMap (cI .u64))] (.d (.v (.int .i64 r.1))) [.box [.own 46 5 (r.2.1.map aX),.d (.v (.int .i64 r.2.2))],.glo 1 (aC.flatMap (cI .u64))]:=by
 rw [eV] at h
 refine aS.intro (N:=81) Tryz.func24 rfl rfl rfl rfl rfl fun e=>?_
 refine tR [] [0,2,4,1000000,1000001] ?_
 refine aT ?_
 refine tR [] [0,2,4,1000000,1000001] ?_
 refine tR [] [0,2,4,22,1000000,1000001] ?_
 refine tC h (fun hc h=>?_) fun hc h=>?_
 ·refine tR [] [6,1000000,1000001] ?_
  cases h
  refine aR (tq [6,1000000,1000001])
 ·refine aM (tS ?_)
  refine aT ?_
  obtain ⟨y1,hy1,h⟩:=aK h
  refine tR [iC 2 [1000001] (aQ5 hy1)] [0,2,4,7,1000000,1000001] ?_
  refine tR [] [0,2,4,7,27,1000000,1000001] ?_
  refine tC h (fun hc h=>?_) fun hc h=>?_
  ·refine tR [] [6,1000000,1000001] ?_
   cases h
   refine aR (tq [6,1000000,1000001])
  ·refine aM (tS ?_)
   refine tR [] [0,2,4,8,1000000,1000001] ?_
   refine jE h [0,8,1000000,1000001] (fun p=>[(8,.box [dI p.2.1,dI p.2.2,.d (.str p.1),dI 0,dI 0])]) (fun s h hk1=>?_) (fun s h=>?_)
   ·refine tR [] [0,2,4,8,30,1000000,1000001] ?_
    refine bJ ?_
    refine tR [] [0,2,4,8,30,35,1000000,1000001] ?_
    refine tC h (fun hc h=>?_) fun hc h=>?_
    ·cases h
     refine tRe [] [0,8,1000000,1000001] (tG [.keep [0,8,1000000,1000001]])
    ·refine tR [] [0,2,4,8,30,38,1000000,1000001] ?_
     refine tC h (fun hc h=>?_) fun hc h=>?_
     ·obtain ⟨y2,hy2,h⟩:=aK h
      cases h
      refine tRe [iC 3 [] (xE hy2)] [0,8,1000000,1000001] (tG [.keep [0,8,1000000,1000001]])
     ·refine tR [] [0,2,4,8,30,45,1000000,1000001] ?_
      refine tC h (fun hc h=>?_) fun hc h=>?_
      ·cases h
       refine tRe [] [0,8,1000000,1000001] (tG [.keep [0,8,1000000,1000001]])
      ·refine tR [] [0,2,4,8,30,50,1000000,1000001] ?_
       refine tC h (fun hc h=>?_) fun hc h=>?_
       ·cases h
        refine tRe [] [0,8,1000000,1000001] (tG [.keep [0,8,1000000,1000001]])
       ·refine tR [] [0,2,4,8,30,55,1000000,1000001] ?_
        refine tC h (fun hc h=>?_) fun hc h=>?_
        ·cases h
         refine tRe [] [0,8,1000000,1000001] (tG [.keep [0,8,1000000,1000001]])
        ·refine tR [] [0,2,4,8,60,1000000,1000001] ?_
         refine tC h (fun hc h=>?_) fun hc h=>?_
         ·cases h
          refine tRe [] [0,8,1000000,1000001] (tG [.keep [0,8,1000000,1000001]])
         ·obtain ⟨y3,hy3,h⟩:=aK h
          refine tR [iC 3 [1000000,1000001] (uY hrec_object_printer_add hy3)] [6,1000000,1000001] ?_
          cases h
          have h:=aP hk1
          cases h
          refine aR (tq [6,1000000,1000001])
   ·obtain ⟨v1,v2,v3⟩:=s
    try dsimp only at h
    obtain ⟨hp1,h⟩:=aQ h
    refine uJ mixed 2 (.take 0 (.take 1 (.take 2 (.take 3 (.take 5 (.all (.alt 4 (.all (.alt 6 (.all (.alt 7 (.take 8 (.take 9 (.all (.alt 10 .done .stop)))) .stop)) .stop)) (.alt 6 (.take 4 (.all (.alt 7 (.take 8 (.take 9 (.all (.alt 10 .done .stop)))) .stop))) .stop)))))))) ([0,0,2,4,8,0,32,80,255,511,767],[0,0,2,4,8,0,32,80,1,256,640]) 831 [(6,{ es:=some (([(aD.mk v2 v3 v1 0 0)]).map aX) }),(7,{ es:=some ((c2++([(aD.mk v2 v3 v1 0 0)])).map aX) })] [8,1000000,1000001] [] [(8,.box [dI v2,dI v3,.d (.str v1),dI 0,dI 0]),(1000000,.box [.own 46 5 ((c2++([(aD.mk v2 v3 v1 0 0)])).map aX),dI (IntKind.i64.wrap (c3+(1:Int)))]),(1000001,.glo 1 (aC.flatMap (cI .u64)))] ((fun (o6:Prop)=>fun (o7:Prop)=>[(6,o6),(0,o7),(3,o6),(1,o7)]) ((([(aD.mk v2 v3 v1 0 0)]).map aX)=(([(aD.mk v2 v3 v1 0 0)]).map aX)) ((c2.map aX).length+(([(aD.mk v2 v3 v1 0 0)]).map aX).length≤4294967296∧(c2.map aX)++(([(aD.mk v2 v3 v1 0 0)]).map aX)=((c2++([(aD.mk v2 v3 v1 0 0)])).map aX))) 3 (by kernel_rfl) (by kernel_rfl) (by kernel_rfl) (have p6:=rfl; have p7:=jC aX hp1; ⟨p6,p7,p6,p7⟩) ?_
    obtain ⟨y4,hy4,h⟩:=aK h
    refine tR [iC 1 [1000001] (tO hy4)] [10,1000000,1000001] ?_
    refine tR [] [6,1000000,1000001] ?_
    cases h
    refine aR (tq [6,1000000,1000001])
theorem tK {F:Nat} (n:Nat):∀ {a0:aG} {a1:Int} {c2:List aD} {c3:Int} {r:Int×(List aD)×Int},dW F n a0 a1 c2 c3=some r→aS Tryz.prog 24 [.bp 1000000 0,.agg (bA a0),.d (.v (.int .i64 a1))] [.box [.own 46 5 (c2.map aX),.d (.v (.int .i64 c3))],.glo 1 (aC.flatMap (cI .u64))] (.d (.v (.int .i64 r.1))) [.box [.own 46 5 (r.2.1.map aX),.d (.v (.int .i64 r.2.2))],.glo 1 (aC.flatMap (cI .u64))]:=by
 induction n with
 | zero=>intro a0 a1 c2 c3 r h; exact absurd (show (none:Option (Int×(List aD)×Int))=some r from h) (by simp)
 | succ n ih=>intro a0 a1 c2 c3 r h; exact tQ ih h
theorem xG {F:Nat} {a0:aG} {a1:Int} {c2:List aD} {c3:Int} {r:Int×(List aD)×Int} (h:oO F a0 a1 c2 c3=some r):aS Tryz.prog 24 [.bp 1000000 0,.agg (bA a0),.d (.v (.int .i64 a1))] [.box [.own 46 5 (c2.map aX),.d (.v (.int .i64 c3))],.glo 1 (aC.flatMap (cI .u64))] (.d (.v (.int .i64 r.1))) [.box [.own 46 5 (r.2.1.map aX),.d (.v (.int .i64 r.2.2))],.glo 1 (aC.flatMap (cI .u64))]:=tK F h
theorem aU4 {F:Nat} {a0:List aD} {r:(List UInt8)×Int} (h:wJ F a0=some r):aS Tryz.prog 25 [.d (.sl 5 (a0.map aX))] [.glo 1 (aC.flatMap (cI .u64))] (.tup [.d (.str r.1),.d (.v (.int .i64 r.2))]) [.glo 1 (aC.flatMap (cI .u64))]:=by
 rw [wJ] at h
 refine aS.intro (N:=43) Tryz.func25 rfl rfl rfl rfl rfl fun e=>?_
 refine tR [] [0,1000000] ?_
 refine tR [iH 0 { slfs:=[(0,0)] }] [0,4,1000000] ?_
 refine tR [] [0,4,5,1000000] ?_
 refine aT ?_
 refine tR [iW 1 (eW aX (xs:=a0))] [4,5,10,11,12,1000000] ?_
 refine jEt h [4,1000000] (fun p=>[(4,.box [.slf 0 87,oW0 p])]) (fun s h hk1=>?_) (fun v5 h=>?_)
 ·refine bJ ?_
  refine tL3 (jO F a0) [.keep [4,5,10,11,12,1000000]] [4,5,10,11,12,1000000] (fun v1 v2 v3=>[(4,.box [.slf 0 87,oW0 v1]),(5,dB v2),(12,dI v3)]) F [] false (0:Int) h fun n v1 v2 v3 h=>?_
  rw [jO] at h
  refine tR [] [4,5,10,11,12,13,1000000] ?_
  refine aT ?_
  refine tC h (fun hc h=>?_) fun hc h=>?_
  ·refine aM (tS ?_)
   refine aT ?_
   refine bJ ?_
   obtain ⟨hp1,h⟩:=aQ h
   refine tR [iI 0 (jB (d:=rA) aX hp1)] [4,5,7,10,11,12,1000000] ?_
   obtain ⟨y1,hy1,h⟩:=aK h
   refine tR [iC 1 [1000000] (tO hy1)] [4,5,8,9,10,11,12,1000000] ?_
   refine aT ?_
   refine tR [] [4,5,8,9,10,11,12,22,1000000] ?_
   refine tC h (fun hc h=>?_) fun hc h=>?_
   ·refine tR [] [2,3,1000000] ?_
    cases h
    have h:=aP hk1
    cases h
    refine aR (tq [2,3,1000000])
   ·refine aM (tS ?_)
    refine jc h [4,8,10,11,12,1000000] (fun p=>[(4,.box [.slf 0 87,oW0 p])]) (fun s h=>?_) (fun v4 h=>?_)
    ·obtain ⟨hp2,h⟩:=aQ h
     obtain ⟨y2,hy2,h⟩:=aK h
     refine tR [iF 3 {} (show (((v2 == true) && true)=true→0≤(0:Int)∧(0:Int) < y1.1.length) from (fun hg=>(hp2 hg))),iD 4 [] (fun hg=>nJ (fJ hg hy2))] [4,8,10,11,12,29,1000000] ?_
     refine tC h (fun hc h=>?_) fun hc h=>?_
     ·obtain ⟨y3,hy3,h⟩:=aK h
      cases h
      refine tRe [iC 0 [4] (bH hy3)] [4,8,10,11,12,1000000] (tJ [.keep [4,8,10,11,12,1000000]])
     ·cases h
      refine aM (tJ [.keep [4,8,10,11,12,1000000]])
    ·obtain ⟨y4,hy4,h⟩:=aK h
     refine tR [iC 1 [4] (gC hy4)] [4,8,10,11,12,1000000] ?_
     refine aT ?_
     obtain ⟨y5,hy5,h⟩:=aK h
     refine tR [iC 0 [4] (pE hy5)] [4,8,10,11,12,34,1000000] ?_
     refine tC h (fun hc h=>?_) fun hc h=>?_
     ·refine tR [] [2,3,1000000] ?_
      cases h
      have h:=aP hk1
      cases h
      refine aR (tq [2,3,1000000])
     ·refine aM (tS ?_)
      obtain ⟨hp3,h⟩:=aQ h
      obtain ⟨y6,hy6,h⟩:=aK h
      refine tRe [iP 4 hp3,iC 5 [] (nJ hy6)] [4,5,10,11,12,1000000] (tS ?_)
      refine tRe [] [4,5,10,11,12,1000000] (tE [.keep [4,5,10,11,12,1000000]] (y5.2,y6,IntKind.i64.wrap (v3+(1:Int))) h)
  ·cases h
   refine fD (tG [.keep [4,1000000]])
 ·refine tS ?_
  obtain ⟨hp4,h⟩:=aQ h
  refine tR [iC 0 [4] (show aS Tryz.prog 53 [.bp 1000000 0] [.box [.slf 0 87,oW0 v5]] (.d (.str v5)) [.box [.slf 0 87,.junk]] from vS (l:=v5) hp4 (by kernel_rfl) (by kernel_rfl))] [2,3,1000000] ?_
  cases h
  refine aR (tq [2,3,1000000])
theorem wX {F:Nat} {a0:aG} {r:(List UInt8)×Int} (h:nK F a0=some r):aS Tryz.prog 10 [.agg (bA a0)] [.glo 1 (aC.flatMap (cI .u64))] (.tup [.d (.str r.1),.d (.v (.int .i64 r.2))]) [.glo 1 (aC.flatMap (cI .u64))]:=by
 rw [nK] at h
 refine aS.intro (N:=16) Tryz.func10 rfl rfl rfl rfl rfl fun e=>?_
 refine tR [] [1,1000000] ?_
 refine tR [] [1,4,1000000] ?_
 refine aT ?_
 obtain ⟨y1,hy1,h⟩:=aK h
 refine tR [iC 1 [4,1000000] (xG hy1)] [4,5,1000000] ?_
 refine tR [] [4,5,9,1000000] ?_
 refine tC h (fun hc h=>?_) fun hc h=>?_
 ·refine tR [] [2,3,1000000] ?_
  cases h
  refine aR (tq [2,3,1000000])
 ·refine aM (tS ?_)
  obtain ⟨y2,hy2,h⟩:=aK h
  refine tR [iCh 2 { frz:=[(4,1)],xs:=[1000000] } (aU4 hy2)] [2,3,1000000] ?_
  cases h
  refine aR (tq [2,3,1000000])
end Go.Vm.ObjM
