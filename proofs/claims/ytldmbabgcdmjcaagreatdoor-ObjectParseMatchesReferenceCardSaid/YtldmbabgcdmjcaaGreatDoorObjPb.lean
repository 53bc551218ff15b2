import Derived.Test.YtldmbabgcdmjcaaGreatDoorObjQb
import Derived.Test.YtldmbabgcdmjcaaGreatDoorVmD
namespace Go.Vm.ObjM
open Go.Proofs
set_option maxRecDepth 20000
theorem tU {F:Nat} {a0:Int} {r:Bool} (h:mP F a0=some r):aS Tryz.prog 73 [.d (.v (.int .u8 a0))] [] (.d (.v (.bool r))) []:=by
 rw [mP] at h
 refine aS.intro (N:=13) Tryz.func73 rfl rfl rfl rfl rfl fun e=>?_
 refine tR [] [0] ?_
 refine tR [] [2] ?_
 cases h
 refine aR (tq [2])
theorem xW {F:Nat} {c0:List UInt8} {c1:Int} {r:(List UInt8)×Int} (h:mD F c0 c1=some r):aS Tryz.prog 87 [.bp 1000000 0] [.box [.d (.str c0),.d (.v (.int .i64 c1))]] (.tup []) [.box [.d (.str r.1),.d (.v (.int .i64 r.2))]]:=by
 rw [mD] at h
 refine aS.intro (N:=41) Tryz.func87 rfl rfl rfl rfl rfl fun e=>?_
 refine tR [] [0,2,1000000] ?_
 refine jEt h [1000000] (fun p=>[(1000000,.box [.d (.str c0),dI p])]) (fun s h hk1=>?_) (fun v4 h=>?_)
 ·refine bJ ?_
  refine tL2 (fQ F c0) [.keep [0,2,1000000]] [0,2,1000000] (fun v1 v2=>[(2,dB v1),(1000000,.box [.d (.str c0),dI v2])]) F false c1 h fun n v1 v2 h=>?_
  rw [fQ] at h
  refine aT ?_
  refine pD mixed [] [0,2,13,1000000] [] [(0,.bp 1000000 0),(2,dB v1),(13,dB (decide (v2 < (c0.length:Int)))),(1000000,.box [.d (.str c0),dI v2])] [] 10 (by kernel_rfl) (trivial) ?_
  refine tC h (fun hc h=>?_) fun hc h=>?_
  ·refine aM (tS ?_)
   refine jE h [0,2,1000000] (fun p=>[(0,.bp 1000000 0),(2,dB p),(1000000,.box [.d (.str c0),dI v2])]) (fun s h hk2=>?_) (fun v3 h=>?_)
   ·refine bJ ?_
    obtain ⟨hp1,h⟩:=aQ h
    refine pD mixed [] [0,2,3,1000000] [] [(0,.bp 1000000 0),(2,dB v1),(3,.d (.v (.int .u8 ((c0.getD v2.toNat 0).toNat:Int)))),(1000000,.box [.d (.str c0),dI v2])] [(8,0≤v2∧v2 < c0.length)] 1 (by kernel_rfl) (hp1) ?_
    refine bJ ?_
    refine tR [] [0,2,3,30,1000000] ?_
    refine tC h (fun hc h=>?_) fun hc h=>?_
    ·cases h
     refine tRe [] [0,2,1000000] (tG [.keep [0,2,1000000]])
    ·refine tR [] [0,2,3,34,1000000] ?_
     refine tC h (fun hc h=>?_) fun hc h=>?_
     ·cases h
      refine tRe [] [0,2,1000000] (tG [.keep [0,2,1000000]])
     ·obtain ⟨y1,hy1,h⟩:=aK h
      refine tR [iC 1 [] (tU hy1)] [0,2,37,1000000] ?_
      refine tC h (fun hc h=>?_) fun hc h=>?_
      ·cases h
       have h:=aP hk2
       cases h
       have h:=aP hk1
       cases h
       refine aR (tq [1000000])
      ·cases h
       refine aM (tG [.keep [0,2,1000000]])
   ·refine tRe [] [0,2,1000000] (tE [.keep [0,2,1000000]] (v3,IntKind.i64.wrap (v2+(1:Int))) h)
  ·cases h
   refine fD (tG [.keep [1000000]])
 ·cases h
  refine tq [1000000]
theorem pB {F:Nat} {a0:Int} {r:Bool} (h:jA F a0=some r):aS Tryz.prog 100 [.d (.v (.int .u8 a0))] [] (.d (.v (.bool r))) []:=by
 rw [jA] at h
 refine aS.intro (N:=9) Tryz.func100 rfl rfl rfl rfl rfl fun e=>?_
 refine tR [] [0] ?_
 refine tR [] [2] ?_
 cases h
 refine aR (tq [2])
theorem aB1 {F:Nat} {a0:Int} {r:Bool} (h:lS F a0=some r):aS Tryz.prog 74 [.d (.v (.int .u8 a0))] [] (.d (.v (.bool r))) []:=by
 rw [lS] at h
 refine aS.intro (N:=6) Tryz.func74 rfl rfl rfl rfl rfl fun e=>?_
 refine tR [] [0] ?_
 obtain ⟨z1,hz1,h⟩:=bB h
 refine tR [iC 1 [] (show aS Tryz.prog 95 [.d (.str ([40,41,60,62,91,93,47,64,37]:List UInt8)),.d (.v (.int .u8 a0))] [] (dI (Lib.indexByte ([40,41,60,62,91,93,47,64,37]:List UInt8) a0.toNat.toUInt8)) [] from xM),iB 2 hz1] [2] ?_
 cases h
 refine aR (tq [2])
theorem nJ {F:Nat} {a0:Int} {r:Bool} (h:fV F a0=some r):aS Tryz.prog 49 [.d (.v (.int .u8 a0))] [] (.d (.v (.bool r))) []:=by
 rw [fV] at h
 refine aS.intro (N:=11) Tryz.func49 rfl rfl rfl rfl rfl fun e=>?_
 refine tR [] [0] ?_
 obtain ⟨y1,hy1,h⟩:=aK h
 obtain ⟨y2,hy2,h⟩:=aK h
 refine tR [iC 1 [] (tU hy1),iD 5 [] (fun hg=>aB1 (fJ hg hy2))] [2] ?_
 cases h
 refine aR (tq [2])
theorem kX {F:Nat} {c0:List UInt8} {c1:Int} {r:(List UInt8)×(List UInt8)×Int} (h:gD F c0 c1=some r):aS Tryz.prog 109 [.bp 1000000 0] [.box [.d (.str c0),.d (.v (.int .i64 c1))]] (.d (.str r.1)) [.box [.d (.str r.2.1),.d (.v (.int .i64 r.2.2))]]:=by
 rw [gD] at h
 refine aS.intro (N:=47) Tryz.func109 rfl rfl rfl rfl rfl fun e=>?_
 refine tR [] [0,1000000] ?_
 refine tR [] [0,3,1000000] ?_
 refine jc h [0,3,1000000] (fun p=>[(1000000,.box [.d (.str c0),dI p])]) (fun s h=>?_) (fun v2 h=>?_)
 ·refine bJ ?_
  refine tL1 (gI F c0) [.keep [0,3,1000000]] [0,3,1000000] (fun v1=>[(1000000,.box [.d (.str c0),dI v1])]) F c1 h fun n v1 h=>?_
  rw [gI] at h
  refine aT ?_
  obtain ⟨hp1,h⟩:=aQ h
  obtain ⟨y1,hy1,h⟩:=aK h
  refine uJ mixed 1 (.take 0 (.take 1 (.take 2 (.take 3 (.take 4 (.take 5 (.take 6 (.take 7 (.take 8 (.take 9 (.take 10 (.take 11 (.take 12 (.take 13 (.take 14 (.take 15 (.take 16 (.take 17 (.take 18 (.take 19 (.all (.alt 20 (.take 21 .done) .stop)))))))))))))))))))))) ([0,1,2,4,0,16,32,64,128,264,512,1024,3072,5120,9216,1024,33792,66560,132096,279552,525312,1049600],[0,1,2,4,0,16,32,64,128,264,512,1024,3072,5120,9216,1024,33792,66560,132096,279552,525312,1049600]) 3145727 [(20,{ res:=dB y1 })] [0,3,29,1000000] [] [(0,.bp 1000000 0),(3,dI c1),(29,dB (bif (decide (v1 < (c0.length:Int))) then y1 else false)),(1000000,.box [.d (.str c0),dI v1])] ((fun (o11:Prop)=>fun (o12:Prop)=>fun (o13:Prop)=>fun (o14:Prop)=>fun (o15:Prop)=>fun (o16:Prop)=>fun (o17:Prop)=>fun (o18:Prop)=>fun (o19:Prop)=>fun (o20:Prop)=>[(11,o11),(0,o12),(0,o13),(0,o14),(0,o15),(0,o16),(0,o17),(0,o18),(0,o19),(0,o20)]) (((((decide (v1 < (c0.length:Int))) == true) && true)=true→True)) (((((decide (v1 < (c0.length:Int))) == true) && true)=true→True)) (((((decide (v1 < (c0.length:Int))) == true) && true)=true→True)) (((((decide (v1 < (c0.length:Int))) == true) && true)=true→True)) (((((decide (v1 < (c0.length:Int))) == true) && true)=true→True)) (((((decide (v1 < (c0.length:Int))) == true) && true)=true→True)) (((((decide (v1 < (c0.length:Int))) == true) && true)=true→True)) (((((decide (v1 < (c0.length:Int))) == true) && true)=true→True)) (((((decide (v1 < (c0.length:Int))) == true) && true)=true→0≤v1∧v1 < c0.length)) (((((decide (v1 < (c0.length:Int))) == true) && true)=true→aS Tryz.prog 49 [.d (.v (.int .u8 ((c0.getD v1.toNat 0).toNat:Int)))] [] (dB y1) []))) 1 (by kernel_rfl) (by kernel_rfl) (by kernel_rfl) (have p11:=tr; have p12:=tr; have p13:=tr; have p14:=tr; have p15:=tr; have p16:=tr; have p17:=tr; have p18:=tr; have p19:=(fun hg=>(hp1 hg)); have p20:=(fun hg=>nJ (fJ hg hy1)); ⟨p11,p12,p13,p14,p15,p16,p17,p18,p19,p20⟩) ?_
  refine tC h (fun hc h=>?_) fun hc h=>?_
  ·refine aM (tS ?_)
   refine bJ ?_
   refine tRe [] [0,3,1000000] (tE [.keep [0,3,1000000]] (IntKind.i64.wrap (v1+(1:Int))) h)
  ·cases h
   refine fD (tJ [.keep [0,3,1000000]])
 ·obtain ⟨hp2,h⟩:=aQ h
  refine pD mixed [] [2,1000000] [] [(2,.d (.str ((c0.drop c1.toNat).take (v2.toNat - c1.toNat)))),(1000000,.box [.d (.str c0),dI v2])] [(9,0≤c1∧c1≤v2∧v2≤(c0.length:Int))] 1 (by kernel_rfl) (hp2) ?_
  cases h
  refine aR (tq [2,1000000])
theorem zH {F:Nat} {a0:Int} {r:Bool} (h:nI F a0=some r):aS Tryz.prog 122 [.d (.v (.int .i32 a0))] [] (.d (.v (.bool r))) []:=by
 rw [nI] at h
 refine aS.intro (N:=9) Tryz.func122 rfl rfl rfl rfl rfl fun e=>?_
 refine tR [] [0] ?_
 refine tR [] [2] ?_
 cases h
 refine aR (tq [2])
theorem aG9 {F:Nat} {a0:List UInt8} {r:Int×Int} (h:nZ F a0=some r):aS Tryz.prog 108 [.d (.str a0)] [] (.tup [.d (.v (.int .i64 r.1)),.d (.v (.int .i64 r.2))]) []:=by
 rw [nZ] at h
 refine aS.intro (N:=41) Tryz.func108 rfl rfl rfl rfl rfl fun e=>?_
 refine tR [] [0] ?_
 refine tR [] [0,4] ?_
 refine jc h [0,4] (fun p=>[(4,.d (.str p))]) (fun s h=>?_) (fun v1 h=>?_)
 ·obtain ⟨hp1,h⟩:=aQ h
  obtain ⟨hp2,h⟩:=aQ h
  obtain ⟨z1,hz1,h⟩:=bB h
  refine tR [iP 1 hp1,iF 5 {} (show ((((((a0.getD (0:Int).toNat 0).toNat:Int) == (43:Int)) == false) && true)=true→0≤(0:Int)∧(0:Int) < a0.length) from (fun hg=>(hp2 hg))),iB 7 hz1] [0,4,15] ?_
  refine tC h (fun hc h=>?_) fun hc h=>?_
  ·obtain ⟨hp3,h⟩:=aQ h
   cases h
   refine tRe [iP 1 hp3] [0,4] (tJ [.keep [0,4]])
  ·cases h
   refine aM (tJ [.keep [0,4]])
 ·refine aT ?_
  obtain ⟨y1,hy1,h⟩:=aK h
  refine tR [iD 9 [] (fun hg=>xP 122 (by kernel_rfl) (by kernel_rfl) (fun _ _ h=>zH h) (aE7 (fun _ _=>rfl) (fJ hg hy1)))] [0,28] ?_
  refine tC h (fun hc h=>?_) fun hc h=>?_
  ·refine tR [] [2,3] ?_
   cases h
   refine aR (tq [2,3])
  ·refine aM (tS ?_)
   obtain ⟨hp4,h⟩:=aQ h
   obtain ⟨y2,hy2,h⟩:=aK h
   refine tR [iC 1 [] (cF7 hp4 hy2)] [5] ?_
   refine aT ?_
   refine tR [] [5,39] ?_
   refine tC h (fun hc h=>?_) fun hc h=>?_
   ·refine tR [] [2,3] ?_
    cases h
    refine aR (tq [2,3])
   ·refine aM (tS ?_)
    refine tR [] [2,3] ?_
    cases h
    refine aR (tq [2,3])
theorem wY {F:Nat} {a0:Int} {r:Bool} (h:nH F a0=some r):aS Tryz.prog 99 [.d (.v (.int .u8 a0))] [] (.d (.v (.bool r))) []:=by
 rw [nH] at h
 refine aS.intro (N:=17) Tryz.func99 rfl rfl rfl rfl rfl fun e=>?_
 refine tR [] [0] ?_
 obtain ⟨z1,hz1,h⟩:=bB h
 refine tR [iB 13 hz1] [2] ?_
 cases h
 refine aR (tq [2])
theorem nN {F:Nat} {a0:List UInt8} {a1:Int} {r:(List UInt8)×Int} (h:eX F a0 a1=some r):aS Tryz.prog 118 [.d (.str a0),.d (.v (.int .i64 a1))] [] (.tup [.d (.str r.1),.d (.v (.int .i64 r.2))]) []:=by
 rw [eX] at h
 refine aS.intro (N:=11) Tryz.func118 rfl rfl rfl rfl rfl fun e=>?_
 refine tR [] [0,1] ?_
 refine aT ?_
 refine tR [] [0,9] ?_
 refine tC h (fun hc h=>?_) fun hc h=>?_
 ·refine tR [] [4,5] ?_
  cases h
  refine aR (tq [4,5])
 ·refine aM (tS ?_)
  refine tR [] [4,5] ?_
  cases h
  refine aR (tq [4,5])
theorem zL {F:Nat} {a0:List UInt8} {r:(List UInt8)×Int} (h:kU F a0=some r):aS Tryz.prog 96 [.d (.str a0)] [] (.tup [.d (.str r.1),.d (.v (.int .i64 r.2))]) []:=by
 rw [kU] at h
 refine aS.intro (N:=45) Tryz.func96 rfl rfl rfl rfl rfl fun e=>?_
 refine tR [] [0] ?_
 refine aT ?_
 refine tR [] [0,7,8] ?_
 refine jEt h [0] (fun p=>[]) (fun s h hk1=>?_) (fun s h=>?_)
 ·refine bJ ?_
  refine tL1 (dY F a0) [.keep [0,7,8]] [0,7,8] (fun v1=>[(8,dI v1)]) F (0:Int) h fun n v1 h=>?_
  rw [dY] at h
  refine tR [] [0,7,8,9] ?_
  refine aT ?_
  refine tC h (fun hc h=>?_) fun hc h=>?_
  ·refine aM (tS ?_)
   refine aT ?_
   refine bJ ?_
   refine tR [] [0,4,7,8] ?_
   obtain ⟨hp1,h⟩:=aQ h
   refine tR [iP 2 hp1] [0,4,5,7,8] ?_
   obtain ⟨y1,hy1,h⟩:=aK h
   obtain ⟨y2,hy2,h⟩:=aK h
   obtain ⟨z1,hz1,h⟩:=bB h
   obtain ⟨z2,hz2,h⟩:=bB h
   refine tR [iC 1 [] (wY hy1),iD 8 [] (fun hg=>pB (fJ hg hy2)),iB 15 hz1,iB 23 hz2] [0,7,8,37] ?_
   refine tC h (fun hc h=>?_) fun hc h=>?_
   ·refine tR [] [2,3] ?_
    cases h
    have h:=aP hk1
    cases h
    refine aR (tq [2,3])
   ·refine aM (tS ?_)
    refine tRe [] [0,7,8] (tE [.keep [0,7,8]] (IntKind.i64.wrap (v1+(1:Int))) h)
  ·cases h
   refine fD (tG [.keep [0]])
 ·refine tS ?_
  refine aT ?_
  refine tR [] [0,40] ?_
  refine tC h (fun hc h=>?_) fun hc h=>?_
  ·refine tR [] [2,3] ?_
   cases h
   refine aR (tq [2,3])
  ·refine aM (tS ?_)
   obtain ⟨y3,hy3,h⟩:=aK h
   refine tR [iC 1 [] (nN hy3)] [2,3] ?_
   cases h
   refine aR (tq [2,3])
theorem pQ {F:Nat} {a0:Int} {r:Int×Bool} (h:jV F a0=some r):aS Tryz.prog 127 [.d (.v (.int .u8 a0))] [] (.tup [.d (.v (.int .u8 r.1)),.d (.v (.bool r.2))]) []:=by
 rw [jV] at h
 refine aS.intro (N:=29) Tryz.func127 rfl rfl rfl rfl rfl fun e=>?_
 refine tR [] [0] ?_
 refine aT ?_
 refine bJ ?_
 obtain ⟨y1,hy1,h⟩:=aK h
 refine tR [iC 1 [] (pB hy1)] [0,4] ?_
 refine tC h (fun hc h=>?_) fun hc h=>?_
 ·refine tR [] [2,3] ?_
  cases h
  refine aR (tq [2,3])
 ·refine tR [] [0,9] ?_
  refine tC h (fun hc h=>?_) fun hc h=>?_
  ·refine tR [] [2,3] ?_
   cases h
   refine aR (tq [2,3])
  ·refine tR [] [0,19] ?_
   refine tC h (fun hc h=>?_) fun hc h=>?_
   ·refine tR [] [2,3] ?_
    cases h
    refine aR (tq [2,3])
   ·refine aM (tS ?_)
    refine tR [] [2,3] ?_
    cases h
    refine aR (tq [2,3])
theorem rM {F:Nat} {c0:List UInt8} {c1:Int} {r:Int×Bool×(List UInt8)×Int} (h:gJ F c0 c1=some r):aS Tryz.prog 124 [.bp 1000000 0] [.box [.d (.str c0),.d (.v (.int .i64 c1))]] (.tup [.d (.v (.int .u8 r.1)),.d (.v (.bool r.2.1))]) [.box [.d (.str r.2.2.1),.d (.v (.int .i64 r.2.2.2))]]:=by
 rw [gJ] at h
 refine aS.intro (N:=61) Tryz.func124 rfl rfl rfl rfl rfl fun e=>?_
 refine tR [] [0,1000000] ?_
 refine aT ?_
 refine pD mixed [] [0,18,1000000] [] [(0,.bp 1000000 0),(18,dB (decide ((IntKind.i64.wrap (c1+(2:Int))) > (c0.length:Int)))),(1000000,.box [.d (.str c0),dI c1])] [] 11 (by kernel_rfl) (trivial) ?_
 refine tC h (fun hc h=>?_) fun hc h=>?_
 ·refine tR [] [2,3,1000000] ?_
  cases h
  refine aR (tq [2,3,1000000])
 ·refine aM (tS ?_)
  obtain ⟨hp1,h⟩:=aQ h
  obtain ⟨y1,hy1,h⟩:=aK h
  refine uJ mixed 1 (.take 0 (.take 1 (.take 2 (.take 3 (.take 4 (.take 5 (.take 6 (.take 7 (.take 8 (.all (.alt 9 (.take 10 (.take 11 (.take 12 (.take 13 (.take 14 .done))))) .stop))))))))))) ([0,1,2,4,0,16,32,64,136,256,512,1024,1024,4095,16383],[0,1,2,4,0,16,32,64,136,256,512,1024,1024,2048,4096]) 32255 [(9,{ res:=.tup [.d (.v (.int .u8 y1.1)),dB y1.2] })] [0,4,5,1000000] [] [(0,.bp 1000000 0),(4,.d (.v (.int .u8 y1.1))),(5,dB y1.2),(1000000,.box [.d (.str c0),dI c1])] ((fun (o8:Prop)=>fun (o9:Prop)=>[(8,o8),(0,o9)]) (0≤c1∧c1 < c0.length) (aS Tryz.prog 127 [.d (.v (.int .u8 ((c0.getD c1.toNat 0).toNat:Int)))] [] (.tup [.d (.v (.int .u8 y1.1)),dB y1.2]) [])) 5 (by kernel_rfl) (by kernel_rfl) (by kernel_rfl) (have p8:=hp1; have p9:=pQ hy1; ⟨p8,p9⟩) ?_
  obtain ⟨hp2,h⟩:=aQ h
  obtain ⟨y2,hy2,h⟩:=aK h
  refine uJ mixed 1 (.take 0 (.take 1 (.take 2 (.take 3 (.take 4 (.take 5 (.take 6 (.take 7 (.take 8 (.take 9 (.all (.alt 10 (.take 11 (.take 12 (.take 13 (.take 14 (.take 15 .done))))) .stop)))))))))))) ([0,1,2,4,0,16,32,64,128,264,512,1024,2048,2048,8191,32767],[0,1,2,4,0,16,32,64,128,264,512,1024,2048,2048,4096,8192]) 64511 [(10,{ res:=.tup [.d (.v (.int .u8 y2.1)),dB y2.2] })] [0,4,5,6,7,1000000] [] [(0,.bp 1000000 0),(4,.d (.v (.int .u8 y1.1))),(5,dB y1.2),(6,.d (.v (.int .u8 y2.1))),(7,dB y2.2),(1000000,.box [.d (.str c0),dI c1])] ((fun (o9:Prop)=>fun (o10:Prop)=>[(9,o9),(0,o10)]) (0≤(IntKind.i64.wrap (c1+(1:Int)))∧(IntKind.i64.wrap (c1+(1:Int))) < c0.length) (aS Tryz.prog 127 [.d (.v (.int .u8 ((c0.getD (IntKind.i64.wrap (c1+(1:Int))).toNat 0).toNat:Int)))] [] (.tup [.d (.v (.int .u8 y2.1)),dB y2.2]) [])) 5 (by kernel_rfl) (by kernel_rfl) (by kernel_rfl) (have p9:=hp2; have p10:=pQ hy2; ⟨p9,p10⟩) ?_
  refine tR [] [4,5,6,7,1000000] ?_
  obtain ⟨z1,hz1,h⟩:=bB h
  refine tR [iP 1 (show 0≤(4:Int) by decide),iZ 3 (aI .u8) hz1] [2,3,1000000] ?_
  cases h
  refine aR (tq [2,3,1000000])
theorem bH {F:Nat} {a0:Int} {c1:List UInt8} {r:Unit×(List UInt8)} (h:aN F a0 c1=some r):aS Tryz.prog 50 [.bp 1000000 0,.d (.v (.int .u8 a0))] [.box [.slf 0 87,.own 5 1 (c1.map cU)]] (.d (.v .nilIface)) [.box [.slf 0 87,.own 5 1 (r.2.map cU)]]:=by
 rw [aN] at h
 refine aS.intro (N:=17) Tryz.func50 rfl rfl rfl rfl rfl fun e=>?_
 refine tR [] [0,1,1000000] ?_
 refine tR [iC 1 [1000000] (show aS Tryz.prog 75 [.bp 1000000 0] [.box [.slf 0 87,oW0 c1]] (.tup []) [.box [.slf 0 87,oW0 c1]] from aI9 (E:=87) (by kernel_rfl) (by kernel_rfl) (by kernel_rfl))] [0,1,1000000] ?_
 obtain ⟨hp1,h⟩:=aQ h
 obtain ⟨hp2,h⟩:=aQ h
 refine tR [iX 6 { es:=some (([(UInt8.ofNat a0.toNat)]).map cU) } (show [[Dat.v (.int .u8 a0)]]=(([(UInt8.ofNat a0.toNat)]).map cU) from gB hp1 (rfl:([]:List (List Dat))=([]:List UInt8).map cU)),iE 7 (jC cU hp2)] [1000000] ?_
 refine tR [] [4,1000000] ?_
 cases h
 refine aR (tq [4,1000000])
theorem pE {F:Nat} {c0:List UInt8} {r:Int×(List UInt8)} (h:iG F c0=some r):aS Tryz.prog 52 [.bp 1000000 0] [.box [.slf 0 87,.own 5 1 (c0.map cU)]] (.d (.v (.int .i64 r.1))) [.box [.slf 0 87,.own 5 1 (r.2.map cU)]]:=by
 rw [iG] at h
 refine aS.intro (N:=8) Tryz.func52 rfl rfl rfl rfl rfl fun e=>?_
 refine tR [] [0,1000000] ?_
 refine tR [iW 4 (eW cU (xs:=c0))] [2,1000000] ?_
 cases h
 refine aR (tq [2,1000000])
theorem xR {F:Nat} {c0:List UInt8} {c1:Int} {r:(List UInt8)×Int×(List UInt8)×Int} (h:gV F c0 c1=some r):aS Tryz.prog 110 [.bp 1000000 0] [.box [.d (.str c0),.d (.v (.int .i64 c1))]] (.tup [.d (.str r.1),.d (.v (.int .i64 r.2.1))]) [.box [.d (.str r.2.2.1),.d (.v (.int .i64 r.2.2.2))]]:=by
 rw [gV] at h
 refine aS.intro (N:=55) Tryz.func110 rfl rfl rfl rfl rfl fun e=>?_
 refine tR [] [0,1000000] ?_
 obtain ⟨y1,hy1,h⟩:=aK h
 refine tR [iC 1 [1000000] (kX hy1)] [4,1000000] ?_
 refine tR [iH 0 { slfs:=[(0,0)] }] [4,5,1000000] ?_
 refine jE h [5,1000000] (fun p=>[(5,.box [.slf 0 87,oW0 p])]) (fun s h hk1=>?_) (fun v4 h=>?_)
 ·refine bJ ?_
  refine tL3 (dM F y1) [.keep [4,5,1000000]] [4,5,1000000] (fun v1 v2 v3=>[(4,.box [.d (.str v1),dI v2]),(5,.box [.slf 0 87,oW0 v3])]) F y1.1 0 [] h fun n v1 v2 v3 h=>?_
  rw [dM] at h
  refine aT ?_
  refine tR [] [4,5,17,1000000] ?_
  refine tC h (fun hc h=>?_) fun hc h=>?_
  ·refine aM (tS ?_)
   refine bJ ?_
   obtain ⟨hp1,h⟩:=aQ h
   refine tR [iP 4 hp1] [4,5,6,1000000] ?_
   refine tR [] [4,5,6,1000000] ?_
   refine aT ?_
   refine tR [] [4,5,6,28,1000000] ?_
   refine tC h (fun hc h=>?_) fun hc h=>?_
   ·obtain ⟨y2,hy2,h⟩:=aK h
    refine tR [iC 0 [4] (rM hy2)] [4,5,7,8,1000000] ?_
    refine aT ?_
    refine tR [] [4,5,7,38,1000000] ?_
    refine tC h (fun hc h=>?_) fun hc h=>?_
    ·refine tR [] [2,3,1000000] ?_
     cases h
     have h:=aP hk1
     cases h
     refine aR (tq [2,3,1000000])
    ·refine aM (tS ?_)
     obtain ⟨y3,hy3,h⟩:=aK h
     refine tR [iC 1 [5] (bH hy3)] [4,5,1000000] ?_
     refine fD (tE [.keep [4,5,1000000]] (y2.2.2.1,y2.2.2.2,y3.2) h)
   ·refine aM (tS ?_)
    refine aT ?_
    obtain ⟨z1,hz1,h⟩:=bB h
    refine tR [iB 5 hz1] [4,5,6,46,1000000] ?_
    refine tC h (fun hc h=>?_) fun hc h=>?_
    ·refine tR [] [2,3,1000000] ?_
     cases h
     have h:=aP hk1
     cases h
     refine aR (tq [2,3,1000000])
    ·refine aM (tS ?_)
     obtain ⟨y4,hy4,h⟩:=aK h
     refine tRe [iC 1 [5] (bH hy4)] [4,5,1000000] (tE [.keep [4,5,1000000]] (v1,IntKind.i64.wrap (v2+(1:Int)),y4.2) h)
  ·cases h
   refine fD (tG [.keep [5,1000000]])
 ·refine aT ?_
  obtain ⟨y5,hy5,h⟩:=aK h
  refine tR [iC 0 [5] (pE hy5)] [5,50,1000000] ?_
  refine tC h (fun hc h=>?_) fun hc h=>?_
  ·refine tR [] [2,3,1000000] ?_
   cases h
   refine aR (tq [2,3,1000000])
  ·refine aM (tS ?_)
   obtain ⟨hp2,h⟩:=aQ h
   obtain ⟨y6,hy6,h⟩:=aK h
   refine tR [iC 0 [5] (show aS Tryz.prog 53 [.bp 1000000 0] [.box [.slf 0 87,oW0 y5.2]] (.d (.str y5.2)) [.box [.slf 0 87,.junk]] from vS (l:=y5.2) hp2 (by kernel_rfl) (by kernel_rfl)),iC 1 [] (nN hy6)] [2,3,1000000] ?_
   cases h
   refine aR (tq [2,3,1000000])
theorem xI {F:Nat} {a0:Int} {r:Bool} (h:lL F a0=some r):aS Tryz.prog 125 [.d (.v (.int .i32 a0))] [] (.d (.v (.bool r))) []:=by
 rw [lL] at h
 refine aS.intro (N:=9) Tryz.func125 rfl rfl rfl rfl rfl fun e=>?_
 refine tR [] [0] ?_
 refine tR [] [2] ?_
 cases h
 refine aR (tq [2])
theorem aB5 {F:Nat} {a0:List UInt8} {r:Int×Int} (h:lV F a0=some r):aS Tryz.prog 111 [.d (.str a0)] [] (.tup [.d (.v (.int .i64 r.1)),.d (.v (.int .i64 r.2))]) []:=by
 rw [lV] at h
 refine aS.intro (N:=39) Tryz.func111 rfl rfl rfl rfl rfl fun e=>?_
 refine tR [] [0] ?_
 refine aT ?_
 obtain ⟨hp1,h⟩:=aQ h
 obtain ⟨z1,hz1,h⟩:=bB h
 obtain ⟨y1,hy1,h⟩:=aK h
 obtain ⟨z2,hz2,h⟩:=bB h
 refine tR [iF 9 {} (show ((((bif (a0 == []) then true else (decide ((a0.length:Int) > (3:Int)))) == false) && true)=true→0≤(0:Int)∧(0:Int) < a0.length) from (fun hg=>(hp1 hg))),iB 15 hz1,iD 19 [] (fun hg=>xP 125 (by kernel_rfl) (by kernel_rfl) (fun _ _ h=>xI h) (aE7 (fun _ _=>rfl) (fJ hg hy1))),iB 20 hz2] [0,26] ?_
 refine tC h (fun hc h=>?_) fun hc h=>?_
 ·refine tR [] [2,3] ?_
  cases h
  refine aR (tq [2,3])
 ·refine aM (tS ?_)
  obtain ⟨hp2,h⟩:=aQ h
  obtain ⟨y2,hy2,h⟩:=aK h
  refine tR [iC 1 [] (cF7 hp2 hy2)] [4] ?_
  refine aT ?_
  refine tR [] [4,37] ?_
  refine tC h (fun hc h=>?_) fun hc h=>?_
  ·refine tR [] [2,3] ?_
   cases h
   refine aR (tq [2,3])
  ·refine aM (tS ?_)
   refine tR [] [2,3] ?_
   cases h
   refine aR (tq [2,3])
theorem wN {F:Nat} {c0:List UInt8} {c1:Int} {c2:List UInt8} {r:Int×(List UInt8)×Int×(List UInt8)} (h:jL F c0 c1 c2=some r):aS Tryz.prog 126 [.bp 1000000 0,.bp 1000001 0] [.box [.d (.str c0),.d (.v (.int .i64 c1))],.box [.slf 0 87,.own 5 1 (c2.map cU)]] (.d (.v (.int .i64 r.1))) [.box [.d (.str r.2.1),.d (.v (.int .i64 r.2.2.1))],.box [.slf 0 87,.own 5 1 (r.2.2.2.map cU)]]:=by
 rw [jL] at h
 refine aS.intro (N:=58) Tryz.func126 rfl rfl rfl rfl rfl fun e=>?_
 refine tR [] [0,1,1000000,1000001] ?_
 refine aT ?_
 refine pD mixed [] [0,1,17,1000000,1000001] [] [(0,.bp 1000000 0),(1,.bp 1000001 0),(17,dB (c1 == (c0.length:Int))),(1000000,.box [.d (.str c0),dI c1]),(1000001,.box [.slf 0 87,oW0 c2])] [] 10 (by kernel_rfl) (trivial) ?_
 refine tC h (fun hc h=>?_) fun hc h=>?_
 ·refine tR [] [4,1000000,1000001] ?_
  cases h
  refine aR (tq [4,1000000,1000001])
 ·refine aM (tS ?_)
  obtain ⟨hp1,h⟩:=aQ h
  refine pD mixed [] [0,1,5,1000000,1000001] [] [(0,.bp 1000000 0),(1,.bp 1000001 0),(5,.d (.v (.int .u8 ((c0.getD c1.toNat 0).toNat:Int)))),(1000000,.box [.d (.str c0),dI c1]),(1000001,.box [.slf 0 87,oW0 c2])] [(8,0≤c1∧c1 < c0.length)] 1 (by kernel_rfl) (hp1) ?_
  refine tR [] [0,1,5,1000000,1000001] ?_
  refine jE h [1,5,1000000,1000001] (fun p=>[(1,.bp 1000001 0),(5,.d (.v (.int .u8 p.1))),(1000000,.box [.d (.str p.2.1),dI p.2.2]),(1000001,.box [.slf 0 87,oW0 c2])]) (fun s h hk1=>?_) (fun s h=>?_)
  ·refine tR [] [0,1,5,34,1000000,1000001] ?_
   refine bJ ?_
   refine tR [] [0,1,5,34,35,1000000,1000001] ?_
   refine tC h (fun hc h=>?_) fun hc h=>?_
   ·refine tR [] [4,1000000,1000001] ?_
    cases h
    have h:=aP hk1
    cases h
    refine aR (tq [4,1000000,1000001])
   ·refine tR [] [0,1,5,34,37,1000000,1000001] ?_
    refine tC h (fun hc h=>?_) fun hc h=>?_
    ·cases h
     refine tRe [] [1,5,1000000,1000001] (tG [.keep [1,5,1000000,1000001]])
    ·refine tR [] [0,1,5,34,39,1000000,1000001] ?_
     refine tC h (fun hc h=>?_) fun hc h=>?_
     ·cases h
      refine tRe [] [1,5,1000000,1000001] (tG [.keep [1,5,1000000,1000001]])
     ·refine jc h [0,1,5,34,41,1000000,1000001] (fun p=>[(0,.bp 1000000 0),(1,.bp 1000001 0),(5,.d (.v (.int .u8 ((c0.getD c1.toNat 0).toNat:Int)))),(41,dB p),(1000001,.box [.slf 0 87,oW0 c2])]) (fun s h=>?_) (fun v1 h=>?_)
      ·refine tR [] [0,1,5,34,41,1000000,1000001] ?_
       refine tC h (fun hc h=>?_) fun hc h=>?_
       ·cases h
        refine aM (tJ [.keep [0,1,5,34,41,1000000,1000001]])
       ·refine tR [] [0,1,5,34,41,1000000,1000001] ?_
        refine tC h (fun hc h=>?_) fun hc h=>?_
        ·cases h
         refine aM (tJ [.keep [0,1,5,34,41,1000000,1000001]])
        ·cases h
         refine tRe [] [0,1,5,34,41,1000000,1000001] (tJ [.keep [0,1,5,34,41,1000000,1000001]])
      ·refine tC h (fun hc h=>?_) fun hc h=>?_
       ·cases h
        refine aM (tG [.keep [1,5,1000000,1000001]])
       ·refine tR [] [0,1,45,1000000,1000001] ?_
        refine tC h (fun hc h=>?_) fun hc h=>?_
        ·obtain ⟨y1,hy1,h⟩:=aK h
         refine tR [iC 1 [1000000] (rM hy1)] [1,6,7,1000000,1000001] ?_
         refine aT ?_
         refine tR [] [1,6,53,1000000,1000001] ?_
         refine tC h (fun hc h=>?_) fun hc h=>?_
         ·refine tR [] [4,1000000,1000001] ?_
          cases h
          have h:=aP hk1
          cases h
          refine aR (tq [4,1000000,1000001])
         ·refine aM (tS ?_)
          cases h
          refine tRe [] [1,5,1000000,1000001] (tG [.keep [1,5,1000000,1000001]])
        ·refine tR [] [4,1000000,1000001] ?_
         cases h
         have h:=aP hk1
         cases h
         refine aR (tq [4,1000000,1000001])
  ·obtain ⟨v2,v3,v4⟩:=s
   try dsimp only at h
   obtain ⟨y2,hy2,h⟩:=aK h
   refine tR [iC 2 [1000001] (bH hy2)] [1000000,1000001] ?_
   refine tR [] [4,1000000,1000001] ?_
   cases h
   refine aR (tq [4,1000000,1000001])
theorem xQ {F:Nat} {c0:List UInt8} {c1:Int} {r:(List UInt8)×Int×(List UInt8)×Int} (h:jF F c0 c1=some r):aS Tryz.prog 112 [.bp 1000000 0] [.box [.d (.str c0),.d (.v (.int .i64 c1))]] (.tup [.d (.str r.1),.d (.v (.int .i64 r.2.1))]) [.box [.d (.str r.2.2.1),.d (.v (.int .i64 r.2.2.2))]]:=by
 rw [jF] at h
 refine aS.intro (N:=60) Tryz.func112 rfl rfl rfl rfl rfl fun e=>?_
 refine tR [] [0,1000000] ?_
 refine tR [iH 0 { slfs:=[(0,0)] }] [0,4,1000000] ?_
 refine tR [] [0,4,5,1000000] ?_
 refine jE h [1000000] (fun p=>[(1000000,.box [.d (.str p.1),dI p.2])]) (fun s h hk1=>?_) (fun s h=>?_)
 ·refine bJ ?_
  refine tL (fun n p=>bZ F n p.1 p.2.1 p.2.2.1 p.2.2.2) [.keep [0,4,5,1000000]] [0,4,5,1000000] (fun p=>[(4,.box [.slf 0 87,oW0 p.1]),(5,dI p.2.2.2),(1000000,.box [.d (.str p.2.1),dI p.2.2.1])]) F ([],c0,c1,(1:Int)) h fun n p h=>?_
  obtain ⟨v1,v2,v3,v4⟩:=p
  have h:bZ F (n+1) v1 v2 v3 v4=some s:=h
  rw [bZ] at h
  refine aT ?_
  refine pD mixed [] [0,4,5,17,1000000] [] [(0,.bp 1000000 0),(4,.box [.slf 0 87,oW0 v1]),(5,dI v4),(17,dB (decide (v3 < (v2.length:Int)))),(1000000,.box [.d (.str v2),dI v3])] [] 10 (by kernel_rfl) (trivial) ?_
  refine tC h (fun hc h=>?_) fun hc h=>?_
  ·refine aM (tS ?_)
   refine bJ ?_
   obtain ⟨hp1,h⟩:=aQ h
   refine pD mixed [] [0,4,5,6,1000000] [] [(0,.bp 1000000 0),(4,.box [.slf 0 87,oW0 v1]),(5,dI v4),(6,.d (.v (.int .u8 ((v2.getD v3.toNat 0).toNat:Int)))),(1000000,.box [.d (.str v2),dI v3])] [(8,0≤v3∧v3 < v2.length)] 1 (by kernel_rfl) (hp1) ?_
   refine tR [] [0,4,5,6,1000000] ?_
   refine jE h [0,4,5,6,1000000] (fun p=>[(0,.bp 1000000 0),(4,.box [.slf 0 87,oW0 v1]),(5,dI p),(6,.d (.v (.int .u8 ((v2.getD v3.toNat 0).toNat:Int))))]) (fun s h hk2=>?_) (fun v5 h=>?_)
   ·refine tR [] [0,4,5,6,34,1000000] ?_
    refine bJ ?_
    refine tR [] [0,4,5,6,34,35,1000000] ?_
    refine tC h (fun hc h=>?_) fun hc h=>?_
    ·refine aT ?_
     obtain ⟨y1,hy1,h⟩:=aK h
     refine tR [iC 1 [1000000,4] (wN hy1)] [0,4,5,7,1000000] ?_
     refine tR [] [0,4,5,7,40,1000000] ?_
     refine tC h (fun hc h=>?_) fun hc h=>?_
     ·refine tR [] [2,3,1000000] ?_
      cases h
      have h:=aM8 hk2
      cases h
      have h:=aP hk1
      cases h
      refine aR (tq [2,3,1000000])
     ·refine aM (tS ?_)
      cases h
      have h:=bO1 hk2
      refine fD (tE [.keep [0,4,5,1000000]] (y1.2.2.2,y1.2.1,y1.2.2.1,v4) h)
    ·refine tR [] [0,4,5,6,34,42,1000000] ?_
     refine tC h (fun hc h=>?_) fun hc h=>?_
     ·refine tR [] [0,4,5,6,1000000] ?_
      refine tR [] [0,4,5,6,47,1000000] ?_
      refine tC h (fun hc h=>?_) fun hc h=>?_
      ·refine tR [] [2,3,1000000] ?_
       cases h
       have h:=aM8 hk2
       cases h
       have h:=aP hk1
       cases h
       refine aR (tq [2,3,1000000])
      ·cases h
       refine aM (tG [.keep [0,4,5,6,1000000]])
     ·refine tR [] [0,4,5,6,48,1000000] ?_
      refine tC h (fun hc h=>?_) fun hc h=>?_
      ·cases h
       refine tRe [] [0,4,5,6,1000000] (tG [.keep [0,4,5,6,1000000]])
      ·cases h
       refine aM (tG [.keep [0,4,5,6,1000000]])
   ·refine aT ?_
    refine tR [] [0,4,5,6,53,1000000] ?_
    refine tC h (fun hc h=>?_) fun hc h=>?_
    ·obtain ⟨hp2,h⟩:=aQ h
     obtain ⟨y2,hy2,h⟩:=aK h
     refine tR [iC 0 [4] (show aS Tryz.prog 53 [.bp 1000000 0] [.box [.slf 0 87,oW0 v1]] (.d (.str v1)) [.box [.slf 0 87,.junk]] from vS (l:=v1) hp2 (by kernel_rfl) (by kernel_rfl)),iC 1 [] (nN hy2)] [2,3,1000000] ?_
     cases h
     have h:=aP hk1
     cases h
     refine aR (tq [2,3,1000000])
    ·refine aM (tS ?_)
     obtain ⟨y3,hy3,h⟩:=aK h
     refine tRe [iC 1 [4] (bH hy3)] [0,4,5,1000000] (tE [.keep [0,4,5,1000000]] (y3.2,v2,IntKind.i64.wrap (v3+(1:Int)),v5) h)
  ·cases h
   refine fD (tG [.keep [1000000]])
 ·obtain ⟨v6,v7⟩:=s
  try dsimp only at h
  refine tR [] [2,3,1000000] ?_
  cases h
  refine aR (tq [2,3,1000000])
theorem zG {F:Nat} {c0:List UInt8} {c1:Int} {r:(List UInt8)×Int×(List UInt8)×Int} (h:jR F c0 c1=some r):aS Tryz.prog 113 [.bp 1000000 0] [.box [.d (.str c0),.d (.v (.int .i64 c1))]] (.tup [.d (.str r.1),.d (.v (.int .i64 r.2.1))]) [.box [.d (.str r.2.2.1),.d (.v (.int .i64 r.2.2.2))]]:=by
 rw [jR] at h
 refine aS.intro (N:=67) Tryz.func113 rfl rfl rfl rfl rfl fun e=>?_
 refine tR [] [0,1000000] ?_
 refine tR [iH 0 { slfs:=[(0,0)] }] [0,4,1000000] ?_
 refine tR [] [0,4,5,6,1000000] ?_
 refine jE h [1000000] (fun p=>[(1000000,.box [.d (.str c0),dI p])]) (fun s h hk1=>?_) (fun v6 h=>?_)
 ·refine bJ ?_
  refine tL (fun n p=>dL F c0 n p.1 p.2.1 p.2.2.1 p.2.2.2) [.keep [0,4,5,6,1000000]] [0,4,5,6,1000000] (fun p=>[(4,.box [.slf 0 87,oW0 p.2.1]),(5,.d (.v (.int .u8 p.2.2.1))),(6,dI p.2.2.2),(1000000,.box [.d (.str c0),dI p.1])]) F (c1,[],(0:Int),(0:Int)) h fun n p h=>?_
  obtain ⟨v1,v2,v3,v4⟩:=p
  have h:dL F c0 (n+1) v1 v2 v3 v4=some s:=h
  rw [dL] at h
  refine aT ?_
  refine pD mixed [] [0,4,5,6,19,1000000] [] [(0,.bp 1000000 0),(4,.box [.slf 0 87,oW0 v2]),(5,.d (.v (.int .u8 v3))),(6,dI v4),(19,dB (decide (v1 < (c0.length:Int)))),(1000000,.box [.d (.str c0),dI v1])] [] 10 (by kernel_rfl) (trivial) ?_
  refine tC h (fun hc h=>?_) fun hc h=>?_
  ·refine aM (tS ?_)
   refine bJ ?_
   obtain ⟨hp1,h⟩:=aQ h
   refine pD mixed [] [0,4,5,6,7,1000000] [] [(0,.bp 1000000 0),(4,.box [.slf 0 87,oW0 v2]),(5,.d (.v (.int .u8 v3))),(6,dI v4),(7,.d (.v (.int .u8 ((c0.getD v1.toNat 0).toNat:Int)))),(1000000,.box [.d (.str c0),dI v1])] [(8,0≤v1∧v1 < c0.length)] 1 (by kernel_rfl) (hp1) ?_
   refine tR [] [0,4,5,6,7,1000000] ?_
   refine aT ?_
   obtain ⟨y1,hy1,h⟩:=aK h
   refine tR [iC 1 [] (tU hy1)] [0,4,5,6,7,37,1000000] ?_
   refine tC h (fun hc h=>?_) fun hc h=>?_
   ·refine fD (tE [.keep [0,4,5,6,1000000]] (IntKind.i64.wrap (v1+(1:Int)),v2,v3,v4) h)
   ·refine aM (tS ?_)
    refine aT ?_
    obtain ⟨z1,hz1,h⟩:=bB h
    refine tR [iP 4 (show (2:Int)≠0 by decide),iB 6 hz1] [0,4,5,6,7,44,1000000] ?_
    refine tC h (fun hc h=>?_) fun hc h=>?_
    ·obtain ⟨hp2,h⟩:=aQ h
     obtain ⟨y2,hy2,h⟩:=aK h
     refine tR [iC 0 [4] (show aS Tryz.prog 53 [.bp 1000000 0] [.box [.slf 0 87,oW0 v2]] (.d (.str v2)) [.box [.slf 0 87,.junk]] from vS (l:=v2) hp2 (by kernel_rfl) (by kernel_rfl)),iC 1 [] (nN hy2)] [2,3,1000000] ?_
     cases h
     have h:=aP hk1
     cases h
     refine aR (tq [2,3,1000000])
    ·refine aM (tS ?_)
     obtain ⟨y3,hy3,h⟩:=aK h
     refine tR [iC 1 [] (pQ hy3)] [0,4,5,6,8,9,1000000] ?_
     refine aT ?_
     refine tR [] [0,4,5,6,8,55,1000000] ?_
     refine tC h (fun hc h=>?_) fun hc h=>?_
     ·refine tR [] [2,3,1000000] ?_
      cases h
      have h:=aP hk1
      cases h
      refine aR (tq [2,3,1000000])
     ·refine aM (tS ?_)
      refine jc h [0,4,6,8,1000000] (fun p=>[(0,.bp 1000000 0),(4,.box [.slf 0 87,oW0 p]),(6,dI (IntKind.i64.wrap (v4+(1:Int))))]) (fun s h=>?_) (fun v5 h=>?_)
      ·refine tR [] [0,4,5,6,8,1000000] ?_
       refine tR [iP 1 (show (2:Int)≠0 by decide)] [0,4,5,6,8,60,1000000] ?_
       refine tC h (fun hc h=>?_) fun hc h=>?_
       ·obtain ⟨z2,hz2,h⟩:=bB h
        obtain ⟨y4,hy4,h⟩:=aK h
        cases h
        refine tRe [iP 1 (show 0≤(4:Int) by decide),iZ 3 (aI .u8) hz2,iC 4 [4] (bH hy4)] [0,4,6,8,1000000] (tJ [.keep [0,4,6,8,1000000]])
       ·cases h
        refine aM (tJ [.keep [0,4,6,8,1000000]])
      ·refine tRe [] [0,4,5,6,1000000] (tE [.keep [0,4,5,6,1000000]] (IntKind.i64.wrap (v1+(1:Int)),v5,y3.1,IntKind.i64.wrap (v4+(1:Int))) h)
  ·cases h
   refine fD (tG [.keep [1000000]])
 ·refine tR [] [2,3,1000000] ?_
  cases h
  refine aR (tq [2,3,1000000])
theorem zF {F:Nat} {c0:List UInt8} {c1:Int} {r:aD×Int×(List UInt8)×Int} (h:jS F c0 c1=some r):aS Tryz.prog 88 [.bp 1000000 0] [.box [.d (.str c0),.d (.v (.int .i64 c1))]] (.tup [.agg (aX r.1),.d (.v (.int .i64 r.2.1))]) [.box [.d (.str r.2.2.1),.d (.v (.int .i64 r.2.2.2))]]:=by
 rw [jS] at h
 refine aS.intro (N:=146) Tryz.func88 rfl rfl rfl rfl rfl fun e=>?_
 refine tR [] [0,2,3,1000000] ?_
 obtain ⟨hp1,h⟩:=aQ h
 refine pD mixed [] [0,2,3,4,1000000] [] [(0,.bp 1000000 0),(2,.box [dI 0,dI 0,.d (.str []),dI 0,dI 0]),(3,dI (0:Int)),(4,.d (.v (.int .u8 ((c0.getD c1.toNat 0).toNat:Int)))),(1000000,.box [.d (.str c0),dI c1])] [(8,0≤c1∧c1 < c0.length)] 1 (by kernel_rfl) (hp1) ?_
 refine aT ?_
 obtain ⟨z1,hz1,h⟩:=bB h
 obtain ⟨y1,hy1,h⟩:=aK h
 refine tR [iB 5 hz1,iD 8 [] (fun hg=>pB (fJ hg hy1))] [0,2,3,4,24,1000000] ?_
 refine tC h (fun hc h=>?_) fun hc h=>?_
 ·refine tR [] [0,2,1000000] ?_
  obtain ⟨y2,hy2,h⟩:=aK h
  obtain ⟨y3,hy3,h⟩:=aK h
  refine tR [iC 1 [1000000] (kX hy2),iC 2 [] (aG9 hy3)] [2,3,1000000] ?_
  refine tR [] [2,3,1000000] ?_
  cases h
  refine aR (tq [2,3,1000000])
 ·refine aM (tS ?_)
  refine aT ?_
  obtain ⟨y4,hy4,h⟩:=aK h
  refine tR [iC 1 [] (nJ hy4)] [0,2,3,4,36,1000000] ?_
  refine tC h (fun hc h=>?_) fun hc h=>?_
  ·refine tR [] [0,2,1000000] ?_
   obtain ⟨y5,hy5,h⟩:=aK h
   obtain ⟨y6,hy6,h⟩:=aK h
   refine tR [iC 1 [1000000] (kX hy5),iC 2 [] (zL hy6)] [2,3,1000000] ?_
   refine tR [] [2,3,1000000] ?_
   cases h
   refine aR (tq [2,3,1000000])
  ·refine aM (tS ?_)
   refine tR [] [0,2,3,4,1000000] ?_
   obtain ⟨hp2,h⟩:=aQ h
   obtain ⟨z2,hz2,h⟩:=bB h
   refine pD mixed [(21,{ rw:=some (dB z2) })] [0,2,3,4,5,1000000] [] [(0,.bp 1000000 0),(2,.box [dI 0,dI 0,.d (.str []),dI 0,dI 0]),(3,dI (0:Int)),(4,.d (.v (.int .u8 ((c0.getD c1.toNat 0).toNat:Int)))),(5,dB (bif (decide ((IntKind.i64.wrap (c1+(1:Int))) < (c0.length:Int))) then z2 else false)),(1000000,.box [.d (.str c0),dI (IntKind.i64.wrap (c1+(1:Int)))])] [(11,((((decide ((IntKind.i64.wrap (c1+(1:Int))) < (c0.length:Int))) == true) && true)=true→True)),(0,((((decide ((IntKind.i64.wrap (c1+(1:Int))) < (c0.length:Int))) == true) && true)=true→True)),(0,((((decide ((IntKind.i64.wrap (c1+(1:Int))) < (c0.length:Int))) == true) && true)=true→True)),(0,((((decide ((IntKind.i64.wrap (c1+(1:Int))) < (c0.length:Int))) == true) && true)=true→True)),(0,((((decide ((IntKind.i64.wrap (c1+(1:Int))) < (c0.length:Int))) == true) && true)=true→True)),(0,((((decide ((IntKind.i64.wrap (c1+(1:Int))) < (c0.length:Int))) == true) && true)=true→True)),(0,((((decide ((IntKind.i64.wrap (c1+(1:Int))) < (c0.length:Int))) == true) && true)=true→True)),(0,((((decide ((IntKind.i64.wrap (c1+(1:Int))) < (c0.length:Int))) == true) && true)=true→True)),(0,((((decide ((IntKind.i64.wrap (c1+(1:Int))) < (c0.length:Int))) == true) && true)=true→0≤(IntKind.i64.wrap (c1+(1:Int)))∧(IntKind.i64.wrap (c1+(1:Int))) < c0.length)),(0,((((decide ((IntKind.i64.wrap (c1+(1:Int))) < (c0.length:Int))) == true) && true)=true→True)),(0,((((decide ((IntKind.i64.wrap (c1+(1:Int))) < (c0.length:Int))) == true) && true)=true→(True)∧dB (((c0.getD (IntKind.i64.wrap (c1+(1:Int))).toNat 0).toNat:Int) == ((c0.getD c1.toNat 0).toNat:Int))=dB z2))] 2 (by kernel_rfl) (⟨tr,tr,tr,tr,tr,tr,tr,tr,(fun hg=>(hp2 hg)),tr,(fun hg=>⟨trivial,(by subst hz2; rfl)⟩)⟩) ?_
   refine jE h [2,3,1000000] (fun p=>[(2,.box [dI p.1,dI p.2.1,.d (.str p.2.2.1),dI 0,dI 0]),(3,dI p.2.2.2.1),(1000000,.box [.d (.str p.2.2.2.2.1),dI p.2.2.2.2.2])]) (fun s h hk1=>?_) (fun s h=>?_)
   ·refine tR [] [0,2,3,5,77,1000000] ?_
    refine bJ ?_
    refine tR [] [0,2,3,5,77,79,1000000] ?_
    refine tC h (fun hc h=>?_) fun hc h=>?_
    ·refine tR [] [0,2,1000000] ?_
     obtain ⟨y7,hy7,h⟩:=aK h
     cases h
     refine tRe [iC 1 [1000000] (xR hy7)] [2,3,1000000] (tG [.keep [2,3,1000000]])
    ·refine tR [] [0,2,3,5,77,88,1000000] ?_
     refine tC h (fun hc h=>?_) fun hc h=>?_
     ·refine tR [] [0,2,1000000] ?_
      obtain ⟨y8,hy8,h⟩:=aK h
      obtain ⟨y9,hy9,h⟩:=aK h
      cases h
      refine tRe [iC 1 [1000000] (kX hy8),iC 2 [] (aB5 hy9)] [2,3,1000000] (tG [.keep [2,3,1000000]])
     ·refine tR [] [0,2,3,5,77,98,1000000] ?_
      refine tC h (fun hc h=>?_) fun hc h=>?_
      ·refine tR [] [0,2,1000000] ?_
       obtain ⟨y10,hy10,h⟩:=aK h
       cases h
       refine tRe [iC 1 [1000000] (xQ hy10)] [2,3,1000000] (tG [.keep [2,3,1000000]])
      ·refine tR [] [0,2,3,5,77,107,1000000] ?_
       refine tC h (fun hc h=>?_) fun hc h=>?_
       ·cases h
        refine tRe [] [2,3,1000000] (tG [.keep [2,3,1000000]])
       ·refine tR [] [0,2,3,5,77,110,1000000] ?_
        refine tC h (fun hc h=>?_) fun hc h=>?_
        ·cases h
         refine tRe [] [2,3,1000000] (tG [.keep [2,3,1000000]])
        ·refine tR [] [0,2,3,5,77,113,1000000] ?_
         refine tC h (fun hc h=>?_) fun hc h=>?_
         ·refine aT ?_
          refine tR [] [0,2,3,115,1000000] ?_
          refine tC h (fun hc h=>?_) fun hc h=>?_
          ·refine tR [] [2,3,1000000] ?_
           refine tR [] [2,3,1000000] ?_
           cases h
           refine fD (tG [.keep [2,3,1000000]])
          ·refine aM (tS ?_)
           refine tR [] [0,2,1000000] ?_
           obtain ⟨y11,hy11,h⟩:=aK h
           cases h
           refine tRe [iC 1 [1000000] (zG hy11)] [2,3,1000000] (tG [.keep [2,3,1000000]])
         ·refine tR [] [0,2,3,5,131,1000000] ?_
          refine tC h (fun hc h=>?_) fun hc h=>?_
          ·refine aT ?_
           refine tR [] [0,2,3,134,1000000] ?_
           refine tC h (fun hc h=>?_) fun hc h=>?_
           ·refine tR [] [2,3,1000000] ?_
            cases h
            have h:=aP hk1
            cases h
            refine aR (tq [2,3,1000000])
           ·refine aM (tS ?_)
            refine tR [] [2,3,1000000] ?_
            cases h
            refine tRe [] [2,3,1000000] (tG [.keep [2,3,1000000]])
          ·refine tR [] [2,3,1000000] ?_
           cases h
           have h:=aP hk1
           cases h
           refine aR (tq [2,3,1000000])
   ·obtain ⟨v1,v2,v3,v4,v5,v6⟩:=s
    try dsimp only at h
    refine tR [] [2,3,1000000] ?_
    cases h
    refine aR (tq [2,3,1000000])
end Go.Vm.ObjM
