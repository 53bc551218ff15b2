import Derived.Test.YtldmbabgcdmjcaaGreatDoorObjPc
import Derived.Test.YtldmbabgcdmjcaaGreatDoorVmD
import Derived.Test.YtldmbabgcdmjcaaGreatDoorObjW
import Derived.Test.YtldmbabgcdmjcaaGreatDoorObjH
namespace Go.Vm.ObjM
open Go.Proofs
set_option maxRecDepth 20000
abbrev qM:Fr:=[(1000000,.glo 1 (aC.flatMap (cI .u64))),(2,.bp 1000001 0),(3,.bp 1000002 0),(4,.bp 1000003 0),(1000001,.box [.junk,.junk,.junk,.junk,.junk]),(1000002,.box [.junk]),(1000003,.box [.junk])]
theorem aF0 {F:Nat} {a0:Int} {a1:Int} {r:Int×Int×(List UInt8)×(List (List UInt8))×(List aG)×Int×Int} (h:tX F a0 a1=some r):aO6 Tryz.prog 16 (.iface 44 (.agg ⟨[.int .i64 a0,.int .i64 a1]⟩)) [.box [.junk,.junk,.junk,.junk,.junk],.box [.junk],.box [.junk]] [.box [.d (.v (.int .i64 r.1)),.d (.v (.int .i64 r.2.1)),.d (.str r.2.2.1),.own 9 1 (r.2.2.2.1.map cS),.own 26 5 (r.2.2.2.2.1.map bK)],.box [.d (.v (.int .i64 r.2.2.2.2.2.1))],.box [.d (.v (.int .i64 r.2.2.2.2.2.2))]]:=by
 rw [tX] at h
 refine aO6.intro (N:=17) Tryz.func16 rfl rfl rfl rfl rfl (by decide) (by decide) (by decide) rfl fun e he=>?_
 refine bJ ?_
 refine tR [] [0,1,2,6,8,1000000,1000001,1000002] ?_
 refine bU2 false (by kernel_rfl) (fun hc=>absurd hc (by decide)) (fun _=>?_)
 refine tR [] [0,1,2,6,10,11,1000000,1000001,1000002] ?_
 refine bU2 true (by kernel_rfl) (fun _=>?_) (fun hc=>absurd hc (by decide))
 refine tR [] [0,1,2,4,1000000,1000001,1000002] ?_
 cases h
 refine pA mixed 14 (.take 1 (.take 3 (.all (.alt 0 (.all (.alt 2 (.all (.alt 4 (.all (.alt 5 (.all (.alt 6 (.all (.alt 7 .done .stop)) .stop)) .stop)) (.alt 5 (.all (.alt 4 (.all (.alt 6 (.all (.alt 7 .done .stop)) .stop)) (.alt 6 (.take 4 (.all (.alt 7 .done .stop))) .stop))) .stop))) (.alt 4 (.all (.alt 2 (.all (.alt 5 (.all (.alt 6 (.all (.alt 7 .done .stop)) .stop)) .stop)) (.alt 5 (.take 2 (.all (.alt 6 (.all (.alt 7 .done .stop)) .stop))) .stop))) (.alt 5 (.take 2 (.all (.alt 4 (.all (.alt 6 (.all (.alt 7 .done .stop)) .stop)) (.alt 6 (.take 4 (.all (.alt 7 .done .stop))) .stop)))) .stop)))) (.alt 2 (.all (.alt 0 (.all (.alt 4 (.all (.alt 5 (.all (.alt 6 (.all (.alt 7 .done .stop)) .stop)) .stop)) (.alt 5 (.all (.alt 4 (.all (.alt 6 (.all (.alt 7 .done .stop)) .stop)) (.alt 6 (.take 4 (.all (.alt 7 .done .stop))) .stop))) .stop))) (.alt 4 (.all (.alt 0 (.all (.alt 5 (.all (.alt 6 (.all (.alt 7 .done .stop)) .stop)) .stop)) .stop)) .stop))) (.alt 4 (.all (.alt 0 (.all (.alt 2 (.all (.alt 5 (.all (.alt 6 (.all (.alt 7 .done .stop)) .stop)) .stop)) (.alt 5 (.take 2 (.all (.alt 6 (.all (.alt 7 .done .stop)) .stop))) .stop))) (.alt 2 (.all (.alt 0 (.all (.alt 5 (.all (.alt 6 (.all (.alt 7 .done .stop)) .stop)) .stop)) .stop)) .stop))) .stop)))))) ([0,0,2,0,8,1,39,127],[0,0,2,0,8,1,4,16]) 30 [(0,{ take:=[0] })] [1000000,1000001,1000002] [.nilc 1000000 3 9 1,.nilc 1000000 4 26 5,.keep [1000000,1000001,1000002]] [(1000000,.box [dI 0,dI 0,.d (.str []),oW2 [],oW3 []]),(1000001,.box [dI a0]),(1000002,.box [dI a1])] [] 65 (by kernel_rfl) (by kernel_rfl) (by kernel_rfl) (trivial) (tq [1000000,1000001,1000002])
theorem wP {F:Nat} {z:Sum Value (aG×Int×Int)} {r:aG×Int×Int} (h:oN F z=some r):bH4 Tryz.prog Tryz.f7 32 16 3 [.glo 1 (aC.flatMap (cI .u64))] qM (fun r:aG×Int×Int=>(.tup [.agg (bA r.1),.d (.v (.int .i64 r.2.1)),.d (.v (.int .i64 r.2.2))]:AV)) (.tup [.agg (bA r.1),.d (.v (.int .i64 r.2.1)),.d (.v (.int .i64 r.2.2))]) z:=by
 unfold oN at h
 split at h
 ·cases h; rfl
 ·obtain ⟨y,hy,h⟩:=aK h
  cases h
  exact ⟨[.box [.junk,.junk,.junk,.junk,.junk],.box [.junk],.box [.junk]],[.box [dI y.1,dI y.2.1,.d (.str y.2.2.1),oW2 y.2.2.2.1,oW3 y.2.2.2.2.1],.box [dI y.2.2.2.2.2.1],.box [dI y.2.2.2.2.2.2]],0,[1000000,2,3,4,1000001,1000002,1000003],[(1000000,.glo 1 (aC.flatMap (cI .u64))),(2,.bp 1000001 0),(3,.bp 1000002 0),(4,.bp 1000003 0),(1000001,.box [dI y.1,dI y.2.1,.d (.str y.2.2.1),oW2 y.2.2.2.1,oW3 y.2.2.2.2.1]),(1000002,.box [dI y.2.2.2.2.2.1]),(1000003,.box [dI y.2.2.2.2.2.2])],aF0 hy,rfl,by decide,by kernel_rfl,fun e a w hm=>aV5 (fr':=[(2,.box [dI y.1,dI y.2.1,.d (.str y.2.2.1),.fz 1 (y.2.2.2.1.map cS),.fz 5 (y.2.2.2.2.1.map bK)]),(3,.box [dI y.2.2.2.2.2.1]),(4,.box [dI y.2.2.2.2.2.2]),(1000000,.glo 1 (aC.flatMap (cI .u64)))]) (ts:=[32,33,34]) (N':=35) (fr2:=[(34,dI y.2.2.2.2.2.2),(33,dI y.2.2.2.2.2.1),(32,.agg (bA (aG.mk y.1 y.2.1 y.2.2.1 y.2.2.2.1 y.2.2.2.2.1)))]++[(2,.box [dI y.1,dI y.2.1,.d (.str y.2.2.1),.fz 1 (y.2.2.2.1.map cS),.fz 5 (y.2.2.2.2.1.map bK)]),(3,.box [dI y.2.2.2.2.2.1]),(4,.box [dI y.2.2.2.2.2.2]),(1000000,.glo 1 (aC.flatMap (cI .u64)))]) [.claim 2,.claim 3,.claim 4,.frz (2,4),.frz (2,5),.keep [2,3,4,1000000]] (by kernel_rfl) (by kernel_rfl) (by kernel_rfl) (by kernel_rfl) (by show _=_; kernel_rfl) (by exact ⟨⟨by kernel_rfl,by kernel_rfl⟩,trivial⟩) a w hm⟩
 ·cases h
theorem xA {F:Nat} {a0:List UInt8} {r:aG×Int×Int} (h:pG F a0=some r):aS Tryz.prog 7 [.d (.str a0)] [.glo 1 (aC.flatMap (cI .u64))] (.tup [.agg (bA r.1),.d (.v (.int .i64 r.2.1)),.d (.v (.int .i64 r.2.2))]) [.glo 1 (aC.flatMap (cI .u64))]:=by
 obtain ⟨z,hz,hc⟩:=aK h
 refine aS.dA0 (N:=32) (y:=z) (resf:=fun r=>.tup [.agg (bA r.1),dI r.2.1,dI r.2.2]) (frP:=qM) Tryz.func7 rfl rfl rfl rfl rfl (enters_of Tryz.func16 (by kernel_rfl) rfl) cW5 (fun e he=>?_) (wP hc)
 clear hc h r
 obtain ⟨r,hr⟩:∃ q,q=z:=⟨z,rfl⟩
 subst hr
 have h:=hz
 clear hz
 rw [pV] at h
 refine tR [] [0,2,3,4,1000000] ?_
 refine cR1 1 8 16 1000001 [2,3,4] [0,1000000] [0,1000000,1000001,2,1000002,3,1000003,4] [] [(0,.d (.str a0)),(1000000,.glo 1 (aC.flatMap (cI .u64))),(1000001,.box [dI 0,dI 0,.d (.str []),oW2 [],oW3 []]),(2,.bp 1000001 0),(1000002,.box [dI 0]),(3,.bp 1000002 0),(1000003,.box [dI 0]),(4,.bp 1000003 0)] [] 1 (Q:=fun e'=>aZ6 Tryz.prog Tryz.f7 e' 32 qM [.glo 1 (aC.flatMap (cI .u64))] r (fun r=>.tup [.agg (bA r.1),dI r.2.1,dI r.2.2])) (bE0.behind (vo:=[.glo 1 (aC.flatMap (cI .u64))]) (n:=3)) (by kernel_rfl) (trivial) rfl rfl rfl rfl rfl rfl rfl (by decide) he (fun e hle=>?_)
 refine tR [] [2,3,4,5,1000000,1000001,1000002,1000003] ?_
 rcases dS h with ⟨pv,hpv,h⟩ | ⟨y1,hy1,h⟩
 ·cases h
  refine rZ 0 11 pv [(0,{ xs:=[5] })] [1000000,2,3,4,1000001,1000002,1000003] [(1000000,.glo 1 (aC.flatMap (cI .u64))),(2,.bp 1000001 0),(3,.bp 1000002 0),(4,.bp 1000003 0),(1000001,.box [dI 0,dI 0,.d (.str []),oW2 [],oW3 []]),(1000002,.box [dI 0]),(1000003,.box [dI 0])] [] 0 (iK Tryz.prog 17 [.bp 1000000 0] [.box [.d (.str a0),dI 0,dI 0,.d (.str []),dI 0,dI 0]] pv) (by kernel_rfl) (trivial) (dP hpv) fun a w hm=>rU (by kernel_rfl) a w hm
 refine tR [iC 0 [5] (dP hy1)] [2,3,4,5,1000000,1000001,1000002,1000003] ?_
 rcases dS h with ⟨pv,hpv,h⟩ | ⟨y2,hy2,h⟩
 ·cases h
  refine rZ 0 12 pv [(0,{ xs:=[5] })] [1000000,2,3,4,1000001,1000002,1000003] [(1000000,.glo 1 (aC.flatMap (cI .u64))),(2,.bp 1000001 0),(3,.bp 1000002 0),(4,.bp 1000003 0),(1000001,.box [dI 0,dI 0,.d (.str []),oW2 [],oW3 []]),(1000002,.box [dI 0]),(1000003,.box [dI 0])] [] 0 (iK Tryz.prog 18 [.bp 1000000 0,dI (1:Int)] [.box [.d (.str y1.1),dI y1.2.1,dI y1.2.2.1,.d (.str y1.2.2.2.1),dI y1.2.2.2.2.1,dI y1.2.2.2.2.2]] pv) (by kernel_rfl) (trivial) (oV hpv) fun a w hm=>rU (by kernel_rfl) a w hm
 refine tR [iC 0 [5] (oV hy2)] [2,3,4,5,1000000,1000001,1000002,1000003] ?_
 rcases dS h with ⟨pv,hpv,h⟩ | ⟨y3,hy3,h⟩
 ·cases h
  refine rZ 0 13 pv [(0,{ xs:=[5] })] [1000000,2,3,4,1000001,1000002,1000003] [(1000000,.glo 1 (aC.flatMap (cI .u64))),(2,.bp 1000001 0),(3,.bp 1000002 0),(4,.bp 1000003 0),(1000001,kG y2.1),(1000002,.box [dI 0]),(1000003,.box [dI 0])] [] 0 (iK Tryz.prog 17 [.bp 1000000 0] [.box [.d (.str y2.2.1),dI y2.2.2.1,dI y2.2.2.2.1,.d (.str y2.2.2.2.2.1),dI y2.2.2.2.2.2.1,dI y2.2.2.2.2.2.2]] pv) (by kernel_rfl) (trivial) (dP hpv) fun a w hm=>rU (by kernel_rfl) a w hm
 refine tR [iC 0 [5] (dP hy3)] [2,3,4,5,1000000,1000001,1000002,1000003] ?_
 refine jE h [2,3,4,1000000,1000001,1000002,1000003] (fun p=>[(2,.bp 1000001 0),(3,.bp 1000002 0),(4,.bp 1000003 0),(1000000,.glo 1 (aC.flatMap (cI .u64))),(1000002,.box [dI 0]),(1000003,.box [dI 0])]) (fun s h hk1=>?_) (fun s h=>?_)
 ·refine tR [] [2,3,4,5,17,1000000,1000001,1000002,1000003] ?_
  refine tC h (fun hc h=>?_) fun hc h=>?_
  ·rcases dS h with ⟨pv,hpv,h⟩ | ⟨y4,hy4,h⟩
   ·cases h
    have h:=aP hk1
    cases h
    refine jU 3 21 pv [] [1000000,2,3,4,1000001,1000002,1000003] [(1000000,.glo 1 (aC.flatMap (cI .u64))),(2,.bp 1000001 0),(3,.bp 1000002 0),(4,.bp 1000003 0),(1000001,kG y2.1),(1000002,.box [dI 0]),(1000003,.box [dI 0])] [] 3 (iK Tryz.prog 19 [dI y3.2.2.2.2.1,dI (5:Int)] [] pv) (by kernel_rfl) (trivial) (bU hpv) fun a w hm=>eG (rU (by kernel_rfl) a w hm)
   cases h
   refine tRe [iC 3 [] (bU hy4)] [2,3,4,1000000,1000001,1000002,1000003] (tG [.keep [2,3,4,1000000,1000001,1000002,1000003]])
  ·cases h
   refine aM (tG [.keep [2,3,4,1000000,1000001,1000002,1000003]])
 ·refine jE h [2,3,4,1000000,1000001,1000002,1000003] (fun p=>[]) (fun s h hk2=>?_) (fun s h=>?_)
  ·obtain ⟨y5,hy5,h⟩:=aK h
   refine tR [iC 1 [1000000] (wX hy5)] [2,3,4,7,1000000,1000001,1000002,1000003] ?_
   refine tR [] [2,3,4,7,28,1000000,1000001,1000002,1000003] ?_
   refine tC h (fun hc h=>?_) fun hc h=>?_
   ·rcases dS h with ⟨pv,hpv,h⟩ | ⟨y6,hy6,h⟩
    ·cases h
     have h:=aP hk2
     cases h
     refine jU 1 30 pv [] [1000000,2,3,4,1000001,1000002,1000003] [(1000000,.glo 1 (aC.flatMap (cI .u64))),(2,.bp 1000001 0),(3,.bp 1000002 0),(4,.bp 1000003 0),(1000001,kG y2.1),(1000002,.box [dI 0]),(1000003,.box [dI 0])] [] 1 (iK Tryz.prog 19 [dI (0:Int),dI y5.2] [] pv) (by kernel_rfl) (trivial) (bU hpv) fun a w hm=>eG (rU (by kernel_rfl) a w hm)
    cases h
    refine tRe [iC 1 [] (bU hy6)] [2,3,4,1000000,1000001,1000002,1000003] (tG [.keep [2,3,4,1000000,1000001,1000002,1000003]])
   ·cases h
    refine aM (tG [.keep [2,3,4,1000000,1000001,1000002,1000003]])
  ·refine tR [] [2,3,4,1000000,1000001,1000002,1000003] ?_
   cases h
   refine aR (tqc [.claim 2,.claim 3,.claim 4,.keep [2,3,4,1000000]])
theorem aB6 {F:Nat}  {r:Bool} (h:lU F  = some r):aS Tryz.prog 6 [] [.glo 1 (aC.flatMap (cI .u64))] (.d (.v (.bool r))) [.glo 1 (aC.flatMap (cI .u64))]:=by
 rw [lU] at h
 refine aS.intro (N:=30) Tryz.func6 rfl rfl rfl rfl rfl fun e=>?_
 refine tR [] [1000000] ?_
 obtain ⟨y1,hy1,h⟩:=aK h
 refine tR [iC 0 [1000000] (xA hy1)] [1,2,3,1000000] ?_
 obtain ⟨y2,hy2,h⟩:=aK h
 refine tR [iC 1 [1000000] (wX hy2)] [2,3,4,5,1000000] ?_
 obtain ⟨z1,hz1,h⟩:=bB h
 obtain ⟨z2,hz2,h⟩:=bB h
 refine tR [iB 9 hz1,iB 13 hz2] [0,1000000] ?_
 cases h
 refine aR (tq [0,1000000])
theorem aA2 {F:Nat} {rec_ref3_Alike:aG→aG→Option Bool} (hrec_ref3_Alike:∀ {a0:aG},∀ {a1:aG},∀ {r:Bool},rec_ref3_Alike a0 a1=some r→aS Tryz.prog 9 [.agg (bA a0),.agg (bA a1)] [] (.d (.v (.bool r))) []) {a0:aG} {a1:aG} {r:Bool} (h:oI F rec_ref3_Alike a0 a1=some r):aS Tryz.prog 9 [.agg (bA a0),.agg (bA a1)] [] (.d (.v (.bool r))) []:=by
 rw [oI] at h
 refine aS.intro (N:=81) Tryz.func9 rfl rfl rfl rfl rfl fun e=>?_
 refine tR [] [2,3] ?_
 refine aT ?_
 obtain ⟨z1,hz1,h⟩:=bB h
 refine tR [iW 22 (eW cS (xs:=a0.f3)),iW 25 (eW cS (xs:=a1.f3)),iB 27 hz1,iW 31 (eW bK (xs:=a0.f4)),iW 34 (eW bK (xs:=a1.f4))] [2,3,43] ?_
 refine tC h (fun hc h=>?_) fun hc h=>?_
 ·refine tR [] [4] ?_
  cases h
  refine aR (tq [4])
 ·refine aM (tS ?_)
  refine aT ?_
  refine tR [iW 2 (eW cS (xs:=a0.f3))] [2,3,46,47] ?_
  refine jEt h [2,3] (fun p=>[]) (fun s h hk1=>?_) (fun s h=>?_)
  ·refine bJ ?_
   refine tL1 (kW F a0 a1) [.keep [2,3,46,47]] [2,3,46,47] (fun v1=>[(47,dI v1)]) F (0:Int) h fun n v1 h=>?_
   rw [kW] at h
   refine tR [] [2,3,46,47,48] ?_
   refine aT ?_
   refine tC h (fun hc h=>?_) fun hc h=>?_
   ·refine aM (tS ?_)
    refine aT ?_
    refine bJ ?_
    refine tR [] [2,3,5,46,47] ?_
    obtain ⟨hp1,h⟩:=aQ h
    obtain ⟨hp2,h⟩:=aQ h
    refine pD mixed [(3,{ cs:=cS (a0.f3.getD v1.toNat []) }),(8,{ cs:=cS (a1.f3.getD v1.toNat []) })] [2,3,46,47,60] [] [(2,kG a0),(3,kG a1),(46,dI (a0.f3.length:Int)),(47,dI v1),(60,dB (!((a0.f3.getD v1.toNat []) == (a1.f3.getD v1.toNat []))))] [(3,0≤v1∧(a0.f3.map cS)[v1.toNat]? = some (cS (a0.f3.getD v1.toNat []))),(4,0≤v1∧(a1.f3.map cS)[v1.toNat]? = some (cS (a1.f3.getD v1.toNat [])))] 2 (by kernel_rfl) (⟨jB (d:=[]) cS hp1,jB (d:=[]) cS hp2⟩) ?_
    refine tC h (fun hc h=>?_) fun hc h=>?_
    ·refine tR [] [4] ?_
     cases h
     have h:=aP hk1
     cases h
     refine aR (tq [4])
    ·refine aM (tS ?_)
     refine tRe [] [2,3,46,47] (tE [.keep [2,3,46,47]] (IntKind.i64.wrap (v1+(1:Int))) h)
   ·cases h
    refine fD (tG [.keep [2,3]])
  ·refine tS ?_
   refine aT ?_
   refine tR [iW 2 (eW bK (xs:=a0.f4))] [2,3,64,65] ?_
   refine jEt h [] (fun p=>[]) (fun s h hk2=>?_) (fun s h=>?_)
   ·refine bJ ?_
    refine tL1 (kV F a0 a1 rec_ref3_Alike) [.keep [2,3,64,65]] [2,3,64,65] (fun v2=>[(65,dI v2)]) F (0:Int) h fun n v2 h=>?_
    rw [kV] at h
    refine tR [] [2,3,64,65,66] ?_
    refine aT ?_
    refine tC h (fun hc h=>?_) fun hc h=>?_
    ·refine aM (tS ?_)
     refine aT ?_
     refine bJ ?_
     refine tR [] [2,3,6,64,65] ?_
     obtain ⟨hp3,h⟩:=aQ h
     obtain ⟨hp4,h⟩:=aQ h
     obtain ⟨y1,hy1,h⟩:=aK h
     refine uJ mixed 1 (.take 0 (.take 1 (.take 2 (.take 3 (.take 4 (.take 5 (.take 6 (.take 7 (.take 8 (.take 9 (.all (.alt 10 (.take 11 .done) .stop)))))))))))) ([0,1,0,6,8,0,32,0,192,256,528,1024],[0,1,0,6,8,0,32,0,192,256,528,1024]) 3071 [(3,{ cs:=bA (a0.f4.getD v2.toNat jT) }),(8,{ cs:=bA (a1.f4.getD v2.toNat jT) }),(10,{ res:=dB y1 })] [2,3,64,65,79] [] [(2,kG a0),(3,kG a1),(64,dI (a0.f4.length:Int)),(65,dI v2),(79,dB (!y1))] ((fun (o3:Prop)=>fun (o8:Prop)=>fun (o10:Prop)=>[(3,o3),(4,o8),(1,o10)]) (0≤v2∧(a0.f4.map bK)[v2.toNat]? = some (bA (a0.f4.getD v2.toNat jT))) (0≤v2∧(a1.f4.map bK)[v2.toNat]? = some (bA (a1.f4.getD v2.toNat jT))) (aS Tryz.prog 9 [.agg (bA (a0.f4.getD v2.toNat jT)),.agg (bA (a1.f4.getD v2.toNat jT))] [] (dB y1) [])) 1 (by kernel_rfl) (by kernel_rfl) (by kernel_rfl) (have p3:=aL5 (d:=jT) lI hp3; have p8:=aL5 (d:=jT) lI hp4; have p10:=hrec_ref3_Alike hy1; ⟨p3,p8,p10⟩) ?_
     refine tC h (fun hc h=>?_) fun hc h=>?_
     ·refine tR [] [4] ?_
      cases h
      have h:=aP hk2
      cases h
      refine aR (tq [4])
     ·refine aM (tS ?_)
      refine tRe [] [2,3,64,65] (tE [.keep [2,3,64,65]] (IntKind.i64.wrap (v2+(1:Int))) h)
    ·cases h
     refine fD (tG [.keep []])
   ·refine tS ?_
    refine tR [] [4] ?_
    cases h
    refine aR (tq [4])
theorem aB0 {F:Nat} (n:Nat):∀ {a0:aG} {a1:aG} {r:Bool},kH F n a0 a1=some r→aS Tryz.prog 9 [.agg (bA a0),.agg (bA a1)] [] (.d (.v (.bool r))) []:=by
 induction n with
 | zero=>intro a0 a1 r h; exact absurd (show (none:Option Bool)=some r from h) (by simp)
 | succ n ih=>intro a0 a1 r h; exact aA2 ih h
theorem aV1 {F:Nat} {a0:aG} {a1:aG} {r:Bool} (h:tY F a0 a1=some r):aS Tryz.prog 9 [.agg (bA a0),.agg (bA a1)] [] (.d (.v (.bool r))) []:=aB0 F h
theorem oD {F:Nat} {a0:List UInt8} {r:Bool} (h:dZ F a0=some r):aS Tryz.prog 3 [.d (.str a0)] [.glo 1 (aC.flatMap (cI .u64))] (.d (.v (.bool r))) [.glo 1 (aC.flatMap (cI .u64))]:=by
 rw [dZ] at h
 refine aS.intro (N:=36) Tryz.func3 rfl rfl rfl rfl rfl fun e=>?_
 refine tR [] [0,1000000] ?_
 refine aT ?_
 obtain ⟨y1,hy1,h⟩:=aK h
 refine tR [iC 0 [1000000] (aB6 hy1)] [0,10,1000000] ?_
 refine tC h (fun hc h=>?_) fun hc h=>?_
 ·refine tR [] [2,1000000] ?_
  cases h
  refine aR (tq [2,1000000])
 ·refine aM (tS ?_)
  obtain ⟨y2,hy2,h⟩:=aK h
  refine tR [iC 1 [1000000] (xA hy2)] [0,3,4,5,1000000] ?_
  obtain ⟨y3,hy3,h⟩:=aK h
  refine tR [iC 1 [] (aR3 hy3)] [3,4,5,6,7,8,1000000] ?_
  obtain ⟨y4,hy4,h⟩:=aK h
  refine tR [iD 11 [] (fun hg=>aV1 (fJ hg hy4))] [2,1000000] ?_
  cases h
  refine aR (tq [2,1000000])
end Go.Vm.ObjM
