/-
  Texts.
-/
import Derived.Test.YtgonfionbbhmkaaGreatDoorPh
import Derived.Test.YtgonfionbbhmkaaGreatDoorVmE
import Derived.Test.YtgonfionbbhmkaaGreatDoorCb
set_option maxRecDepth 20000
namespace Go.Vm.PgfG
open Go.Proofs
theorem uS {F:Nat} {a0:bC} {c1:List UInt8} {c2:Int} {c3:Int} {c4:Int} {c5:List aJ} {r:(List UInt8)×Int×Int×Int×(List aJ)} (h:lD F a0 c1 c2 c3 c4 c5=some r):aG Tryz.prog 50 [.bp 1000000 0,.agg (bP a0)] [.box [.slf 0 96,.own 5 1 (c1.map cU),.d (.v (.int .i64 c2)),.d (.v (.int .i64 c3)),.d (.v (.int .i64 c4)),.d (.sl 7 (c5.map aF))],.glo 0 (aQ.flatMap (cI .u32)),.glo 6 (aA.flatMap (cI .u64))] (.tup []) [.box [.slf 0 96,.own 5 1 (r.1.map cU),.d (.v (.int .i64 r.2.1)),.d (.v (.int .i64 r.2.2.1)),.d (.v (.int .i64 r.2.2.2.1)),.d (.sl 7 (r.2.2.2.2.map aF))],.glo 0 (aQ.flatMap (cI .u32)),.glo 6 (aA.flatMap (cI .u64))]:=by
 rw [lD] at h
 refine aG.intro (N:=194) Tryz.func50 rfl rfl rfl rfl rfl fun e=>?_
 refine tR [] [0,3,1000000,1000001,1000002] ?_
 refine aK ?_
 obtain ⟨y6,hy1,h⟩:=aH h
 refine jX mixed 1 (.take 0 (.take 1 (.take 2 (.take 3 (.take 4 (.take 5 (.take 6 (.take 7 (.take 8 (.take 9 (.take 10 (.take 11 (.take 12 (.take 13 (.take 14 (.take 15 (.take 16 (.take 17 (.take 18 (.take 19 (.take 20 (.take 21 (.take 22 (.all (.alt 23 (.take 24 .done) .stop))))))))))))))))))))))))) ([0,1,2,4,8,16,32,96,160,288,544,32,2080,5152,8224,16416,32768,98304,163840,294912,557056,32768,2129920,5275648,8421376],[0,1,2,4,8,16,32,96,160,288,544,32,2080,5152,8224,16384,32768,98304,163840,294912,557056,32768,2129920,5275648,8421376]) 25165823 [(23,{ res:=dB y6 })] [0,3,42,1000000,1000001,1000002] [] [(0,.bp 1000000 0),(3,kM a0),(42,dB (bif (bif (decide (c2 > (0:Int))) then (c4 == a0.f0) else false) then y6 else false)),(1000000,.box [.slf 0 96,oW1 c1,dI c2,dI c3,dI c4,.d (.sl 7 (c5.map aF))]),(1000001,.glo 0 (aQ.flatMap (cI .u32))),(1000002,.glo 6 (aA.flatMap (cI .u64)))] ((fun (o6:Prop)=>fun (o7:Prop)=>fun (o8:Prop)=>fun (o9:Prop)=>fun (o10:Prop)=>fun (o11:Prop)=>fun (o12:Prop)=>fun (o13:Prop)=>fun (o16:Prop)=>fun (o17:Prop)=>fun (o18:Prop)=>fun (o19:Prop)=>fun (o20:Prop)=>fun (o21:Prop)=>fun (o22:Prop)=>fun (o23:Prop)=>[(6,o6),(0,o7),(0,o8),(0,o9),(0,o10),(0,o11),(0,o12),(0,o13),(2,o16),(0,o17),(0,o18),(0,o19),(0,o20),(0,o21),(0,o22),(0,o23)]) (((((decide (c2 > (0:Int))) == true) && true)=true→True)) (((((decide (c2 > (0:Int))) == true) && true)=true→True)) (((((decide (c2 > (0:Int))) == true) && true)=true→True)) (((((decide (c2 > (0:Int))) == true) && true)=true→True)) (((((decide (c2 > (0:Int))) == true) && true)=true→True)) (((((decide (c2 > (0:Int))) == true) && true)=true→True)) (((((decide (c2 > (0:Int))) == true) && true)=true→True)) (((((decide (c2 > (0:Int))) == true) && true)=true→True)) (((((bif (decide (c2 > (0:Int))) then (c4 == a0.f0) else false) == true) && true)=true→True)) (((((bif (decide (c2 > (0:Int))) then (c4 == a0.f0) else false) == true) && true)=true→True)) (((((bif (decide (c2 > (0:Int))) then (c4 == a0.f0) else false) == true) && true)=true→True)) (((((bif (decide (c2 > (0:Int))) then (c4 == a0.f0) else false) == true) && true)=true→True)) (((((bif (decide (c2 > (0:Int))) then (c4 == a0.f0) else false) == true) && true)=true→True)) (((((bif (decide (c2 > (0:Int))) then (c4 == a0.f0) else false) == true) && true)=true→True)) (((((bif (decide (c2 > (0:Int))) then (c4 == a0.f0) else false) == true) && true)=true→True)) (((((bif (decide (c2 > (0:Int))) then (c4 == a0.f0) else false) == true) && true)=true→aG Tryz.prog 72 [.d (.sl 7 (c5.map aF)),.d (.sl 7 (a0.f1.map aF)),.clo 73 []] [] (dB y6) []))) 1 (by kernel_rfl) (by kernel_rfl) (by kernel_rfl) (have p6:=tr; have p7:=tr; have p8:=tr; have p9:=tr; have p10:=tr; have p11:=tr; have p12:=tr; have p13:=tr; have p16:=tr; have p17:=tr; have p18:=tr; have p19:=tr; have p20:=tr; have p21:=tr; have p22:=tr; have p23:=(fun hg=>uJ (eG hg hy1)); ⟨p6,p7,p8,p9,p10,p11,p12,p13,p16,p17,p18,p19,p20,p21,p22,p23⟩) ?_
 refine tC h (fun hc h=>?_) fun hc h=>?_
 ·cases h
  refine aP (tq [1000000,1000001,1000002])
 ·refine aO (tS ?_)
  refine tR [] [0,3,1000000,1000001,1000002] ?_
  refine tR [] [0,3,4,1000000,1000001,1000002] ?_
  refine aK ?_
  refine tR [iW 5 (cO aF (xs:=c5))] [0,3,4,54,55,56,1000000,1000001,1000002] ?_
  refine jct h [0,3,4,1000000,1000001,1000002] (fun p=>[(0,.bp 1000000 0),(3,kM a0),(4,oW8 p),(1000001,.glo 0 (aQ.flatMap (cI .u32))),(1000002,.glo 6 (aA.flatMap (cI .u64)))]) (fun s h=>?_) (fun v20 h=>?_)
  ·refine aU ?_
   refine tL2 (gI F a0 c5) [.keep [0,3,4,54,55,56,1000000,1000001,1000002]] [0,3,4,54,55,56,1000000,1000001,1000002] (fun v1 v2=>[(4,oW8 v1),(56,dI v2)]) F [] (0:Int) h fun n v1 v2 h=>?_
   rw [gI] at h
   refine tR [] [0,3,4,54,55,56,57,1000000,1000001,1000002] ?_
   refine aK ?_
   refine tC h (fun hc h=>?_) fun hc h=>?_
   ·refine aO (tS ?_)
    refine jc h [0,3,4,54,55,56,1000000,1000001,1000002] (fun p=>[(4,oW8 p)]) (fun s h=>?_) (fun v3 h=>?_)
    ·refine aU ?_
     obtain ⟨hp1,h⟩:=aL h
     refine tR [iI 0 (bX (d:=bB) aF hp1)] [0,3,4,6,54,55,56,1000000,1000001,1000002] ?_
     obtain ⟨y1,hy2,h⟩:=aH h
     refine tR [iC 3 [] (kG hy2)] [0,3,4,6,8,54,55,56,1000000,1000001,1000002] ?_
     refine tR [] [0,3,4,6,54,55,56,68,1000000,1000001,1000002] ?_
     refine tC h (fun hc h=>?_) fun hc h=>?_
     ·obtain ⟨hp2,h⟩:=aL h
      obtain ⟨l1,hl1,h⟩:=aW h
      obtain hs:=Option.some.inj h; subst hs
      refine tRe [iR 4 (([(aT.mk ((c5.getD v2.toNat bB).f0) (0:Int))]).map bK),iX 5 { es:=some (l1.map bK) } (show (v1.map bK).length+(([(aT.mk ((c5.getD v2.toNat bB).f0) (0:Int))]).map bK).length≤4294967296∧(v1.map bK)++(([(aT.mk ((c5.getD v2.toNat bB).f0) (0:Int))]).map bK)=(l1.map bK) from vP (gB bK hp2) (by subst hl1; rfl))] [0,3,4,54,55,56,1000000,1000001,1000002] (tJ [.keep [0,3,4,54,55,56,1000000,1000001,1000002]])
     ·cases h
      refine aO (tJ [.keep [0,3,4,54,55,56,1000000,1000001,1000002]])
    ·refine tRe [] [0,3,4,54,55,56,1000000,1000001,1000002] (tE [.keep [0,3,4,54,55,56,1000000,1000001,1000002]] (v3,IntKind.i64.wrap (v2+(1:Int))) h)
   ·cases h
    refine cZ (tJ [.keep [0,3,4,1000000,1000001,1000002]])
  ·refine tS ?_
   refine aK ?_
   refine tR [iW 2 (cO aF (xs:=a0.f1))] [0,3,4,77,78,79,1000000,1000001,1000002] ?_
   refine jct h [0,3,4,1000000,1000001,1000002] (fun p=>[(4,oW8 p.1),(1000000,.box [.slf 0 96,oW1 p.2.1,dI p.2.2.1,dI p.2.2.2.1,dI p.2.2.2.2.1,.d (.sl 7 (p.2.2.2.2.2.map aF))])]) (fun s h=>?_) (fun s h=>?_)
   ·refine aU ?_
    refine tL (fun n p=>eZ F a0 n p.1 p.2.1 p.2.2.1 p.2.2.2.1 p.2.2.2.2.1 p.2.2.2.2.2.1 p.2.2.2.2.2.2) [.keep [0,3,4,77,78,79,1000000,1000001,1000002]] [0,3,4,77,78,79,1000000,1000001,1000002] (fun p=>[(4,oW8 p.1),(79,dI p.2.1),(1000000,.box [.slf 0 96,oW1 p.2.2.1,dI p.2.2.2.1,dI p.2.2.2.2.1,dI p.2.2.2.2.2.1,.d (.sl 7 (p.2.2.2.2.2.2.map aF))])]) F (v20,(0:Int),c1,IntKind.i64.wrap (c2+(1:Int)),c3,c4,c5) h fun n p h=>?_
    obtain ⟨v4,v5,v6,v7,v8,v9,v10⟩:=p
    have h:eZ F a0 (n+1) v4 v5 v6 v7 v8 v9 v10=some s:=h
    rw [eZ] at h
    refine tR [] [0,3,4,77,78,79,80,1000000,1000001,1000002] ?_
    refine aK ?_
    refine tC h (fun hc h=>?_) fun hc h=>?_
    ·refine aO (tS ?_)
     refine jc h [0,3,4,77,78,79,1000000,1000001,1000002] (fun p=>[(4,oW8 p.1),(1000000,.box [.slf 0 96,oW1 p.2.1,dI p.2.2.1,dI p.2.2.2.1,dI p.2.2.2.2.1,.d (.sl 7 (p.2.2.2.2.2.map aF))])]) (fun s h=>?_) (fun s h=>?_)
     ·refine aU ?_
      obtain ⟨hp3,h⟩:=aL h
      refine tR [iI 0 (bX (d:=bB) aF hp3)] [0,3,4,10,77,78,79,1000000,1000001,1000002] ?_
      obtain ⟨y2,hy3,h⟩:=aH h
      refine jX mixed 1 (.take 0 (.take 1 (.take 2 (.take 3 (.take 4 (.take 5 (.all (.alt 6 (.take 7 (.take 8 (.take 9 (.take 10 (.take 11 .done))))) .stop)))))))) ([0,1,2,4,0,16,40,64,128,128,511,2047],[0,1,2,4,0,16,40,64,128,128,256,512]) 4031 [(6,{ res:=.tup [dI y2.1,dB y2.2] })] [0,3,4,10,11,12,77,78,79,1000000,1000001,1000002] [] [(0,.bp 1000000 0),(3,kM a0),(4,oW8 v4),(10,.box [dI ((a0.f1.getD v5.toNat bB).f0),dI (((a0.f1.getD v5.toNat bB).f1).f0),dI (((a0.f1.getD v5.toNat bB).f1).f1),.d (.str (((a0.f1.getD v5.toNat bB).f1).f2)),.d (.sl 1 ((((a0.f1.getD v5.toNat bB).f1).f3).map cS)),.d (.sl 5 ((((a0.f1.getD v5.toNat bB).f1).f4).map bD)),.d (.str ((a0.f1.getD v5.toNat bB).f2))]),(11,dI y2.1),(12,dB y2.2),(77,.d (.sl 7 (a0.f1.map aF))),(78,dI (a0.f1.length:Int)),(79,dI v5),(1000000,.box [.slf 0 96,oW1 v6,dI v7,dI v8,dI v9,.d (.sl 7 (v10.map aF))]),(1000001,.glo 0 (aQ.flatMap (cI .u32))),(1000002,.glo 6 (aA.flatMap (cI .u64)))] ((fun (o6:Prop)=>[(6,o6)]) (aG Tryz.prog 19 [.agg (bP (bC.mk v9 v10)),dI ((a0.f1.getD v5.toNat bB).f0)] [] (.tup [dI y2.1,dB y2.2]) [])) 5 (by kernel_rfl) (by kernel_rfl) (by kernel_rfl) (have p6:=kG hy3; p6) ?_
      obtain ⟨hp4,h⟩:=aL h
      obtain ⟨y3,hy4,h⟩:=aH h
      refine jX mixed 1 (.take 0 (.take 1 (.take 2 (.take 3 (.take 4 (.take 5 (.take 6 (.take 7 (.take 8 (.take 9 (.take 10 (.take 11 (.all (.alt 12 (.take 13 (.take 14 .done)) .stop)))))))))))))) ([0,1,2,4,12,20,36,68,4,388,516,4,3076,4100,8196],[0,1,2,4,12,20,36,68,4,388,516,4,3076,4100,8196]) 28671 [(9,{ cs:=aF (v10.getD y2.1.toNat bB) }),(12,{ res:=dB y3 })] [0,3,4,10,77,78,79,107,1000000,1000001,1000002] [] [(0,.bp 1000000 0),(3,kM a0),(4,oW8 v4),(10,.box [dI ((a0.f1.getD v5.toNat bB).f0),dI (((a0.f1.getD v5.toNat bB).f1).f0),dI (((a0.f1.getD v5.toNat bB).f1).f1),.d (.str (((a0.f1.getD v5.toNat bB).f1).f2)),.d (.sl 1 ((((a0.f1.getD v5.toNat bB).f1).f3).map cS)),.d (.sl 5 ((((a0.f1.getD v5.toNat bB).f1).f4).map bD)),.d (.str ((a0.f1.getD v5.toNat bB).f2))]),(77,.d (.sl 7 (a0.f1.map aF))),(78,dI (a0.f1.length:Int)),(79,dI v5),(107,dB (bif (!y2.2) then true else (!y3))),(1000000,.box [.slf 0 96,oW1 v6,dI v7,dI v8,dI v9,.d (.sl 7 (v10.map aF))]),(1000001,.glo 0 (aQ.flatMap (cI .u32))),(1000002,.glo 6 (aA.flatMap (cI .u64)))] ((fun (o3:Prop)=>fun (o4:Prop)=>fun (o5:Prop)=>fun (o6:Prop)=>fun (o7:Prop)=>fun (o8:Prop)=>fun (o9:Prop)=>fun (o10:Prop)=>fun (o11:Prop)=>fun (o12:Prop)=>fun (o13:Prop)=>[(3,o3),(0,o4),(0,o5),(0,o6),(0,o7),(0,o8),(0,o9),(0,o10),(0,o11),(0,o12),(0,o13)]) (((((!y2.2) == false) && true)=true→True)) (((((!y2.2) == false) && true)=true→True)) (((((!y2.2) == false) && true)=true→True)) (((((!y2.2) == false) && true)=true→True)) (((((!y2.2) == false) && true)=true→True)) (((((!y2.2) == false) && true)=true→True)) (((((!y2.2) == false) && true)=true→0≤y2.1∧(v10.map aF)[y2.1.toNat]? = some (aF (v10.getD y2.1.toNat bB)))) (((((!y2.2) == false) && true)=true→True)) (((((!y2.2) == false) && true)=true→True)) (((((!y2.2) == false) && true)=true→aG Tryz.prog 73 [.agg (aF (v10.getD y2.1.toNat bB)),.agg (aF (a0.f1.getD v5.toNat bB))] [] (dB y3) [])) (((((!y2.2) == false) && true)=true→True))) 1 (by kernel_rfl) (by kernel_rfl) (by kernel_rfl) (have p3:=tr; have p4:=tr; have p5:=tr; have p6:=tr; have p7:=tr; have p8:=tr; have p9:=(fun hg=>bX (d:=bB) aF (hp4 hg)); have p10:=tr; have p11:=tr; have p12:=(fun hg=>yB (eG hg hy4)); have p13:=tr; ⟨p3,p4,p5,p6,p7,p8,p9,p10,p11,p12,p13⟩) ?_
      refine tC h (fun hc h=>?_) fun hc h=>?_
      ·obtain ⟨y4,hy5,h⟩:=aH h
       obtain ⟨hp5,h⟩:=aL h
       obtain ⟨l2,hl2,h⟩:=aW h
       obtain hs:=Option.some.inj h; subst hs
       refine mH mixed 2 (.take 0 (.take 1 (.take 3 (.take 4 (.all (.alt 2 (.all (.alt 5 (.take 6 (.all (.alt 7 (.all (.alt 8 (.take 9 .done) .stop)) .stop))) .stop)) (.alt 5 (.take 2 (.take 6 (.all (.alt 7 (.all (.alt 8 (.take 9 .done) .stop)) .stop)))) .stop))))))) ([0,0,2,0,0,24,36,64,161,511],[0,0,2,0,0,24,36,64,129,257]) 607 [(5,{ res:=dI y4.1,vout:=[.box [.slf 0 96,oW1 y4.2.1,dI y4.2.2.1,dI y4.2.2.2.1,dI y4.2.2.2.2.1,.d (.sl 7 (y4.2.2.2.2.2.map aF))],.glo 0 (aQ.flatMap (cI .u32)),.glo 6 (aA.flatMap (cI .u64))],xs:=[1000000,1000001,1000002] }),(7,{ es:=some (([(aT.mk ((a0.f1.getD v5.toNat bB).f0) y4.1)]).map bK) }),(8,{ es:=some (l2.map bK) })] [0,3,4,77,78,79,1000000,1000001,1000002] [] [(0,.bp 1000000 0),(3,kM a0),(4,oW8 l2),(77,.d (.sl 7 (a0.f1.map aF))),(78,dI (a0.f1.length:Int)),(79,dI v5),(1000000,.box [.slf 0 96,oW1 y4.2.1,dI y4.2.2.1,dI y4.2.2.2.1,dI y4.2.2.2.2.1,.d (.sl 7 (y4.2.2.2.2.2.map aF))]),(1000001,.glo 0 (aQ.flatMap (cI .u32))),(1000002,.glo 6 (aA.flatMap (cI .u64)))] ((fun (o5:Prop)=>fun (o7:Prop)=>fun (o8:Prop)=>[(5,o5),(1,o7),(0,o8),(1,o5),(2,o7),(0,o8)]) (aG Tryz.prog 74 [.bp 1000000 0,.agg (aF (a0.f1.getD v5.toNat bB))] [.box [.slf 0 96,oW1 v6,dI v7,dI v8,dI v9,.d (.sl 7 (v10.map aF))],.glo 0 (aQ.flatMap (cI .u32)),.glo 6 (aA.flatMap (cI .u64))] (dI y4.1) [.box [.slf 0 96,oW1 y4.2.1,dI y4.2.2.1,dI y4.2.2.2.1,dI y4.2.2.2.2.1,.d (.sl 7 (y4.2.2.2.2.2.map aF))],.glo 0 (aQ.flatMap (cI .u32)),.glo 6 (aA.flatMap (cI .u64))]) ((([(aT.mk ((a0.f1.getD v5.toNat bB).f0) y4.1)]).map bK)=(([(aT.mk ((a0.f1.getD v5.toNat bB).f0) y4.1)]).map bK)) ((v4.map bK).length+(([(aT.mk ((a0.f1.getD v5.toNat bB).f0) y4.1)]).map bK).length≤4294967296∧(v4.map bK)++(([(aT.mk ((a0.f1.getD v5.toNat bB).f0) y4.1)]).map bK)=(l2.map bK))) 1 (by kernel_rfl) (by kernel_rfl) (by kernel_rfl) (have p5:=uM hy5; have p7:=rfl; have p8:=vP (gB bK hp5) (by subst hl2; rfl); ⟨p5,p7,p8,p5,p7,p8⟩) (tJ [.keep [0,3,4,77,78,79,1000000,1000001,1000002]])
      ·cases h
       refine aO (tJ [.keep [0,3,4,77,78,79,1000000,1000001,1000002]])
     ·obtain ⟨v11,v12,v13,v14,v15,v16⟩:=s
      try dsimp only at h
      refine tRe [] [0,3,4,77,78,79,1000000,1000001,1000002] (tE [.keep [0,3,4,77,78,79,1000000,1000001,1000002]] (v11,IntKind.i64.wrap (v5+(1:Int)),v12,v13,v14,v15,v16) h)
    ·cases h
     refine cZ (tJ [.keep [0,3,4,1000000,1000001,1000002]])
   ·obtain ⟨v17,v21,v22,v23,v24,v25⟩:=s
    try dsimp only at h
    refine tS ?_
    obtain ⟨hp6,h⟩:=aL h
    refine tR [iC 1 [4] (show aG Tryz.prog 75 [.vw (1000000,0),.clo 76 []] [oW8 v17] (.tup []) [.own 126 2 ((@id (List aT) v17).map bK)] from bW9 (κ:=126) hp6 (by kernel_rfl) (by kernel_rfl))] [0,3,4,1000000,1000001,1000002] ?_
    obtain ⟨y7,hy6,h⟩:=aH h
    refine tR [iC 3 [1000000] (kK hy6)] [0,3,4,13,1000000,1000001,1000002] ?_
    obtain ⟨y8,hy7,h⟩:=aH h
    obtain ⟨hp7,h⟩:=aL h
    refine tR [iW 6 (cO bK (xs:=(@id (List aT) v17))),iR 7 (([v22,y7.1,((@id (List aT) v17).length:Int)]).map (cI .i64)),iCh 8 { frz:=[(131,0)],xs:=[1000002] } (nA hy7),iP 9 hp7] [0,3,4,13,14,1000000,1000001,1000002] ?_
    refine aK ?_
    refine tR [iW 1 (cO bK (xs:=(@id (List aT) v17)))] [0,3,4,13,14,134,135,136,1000000,1000001,1000002] ?_
    refine jct h [0,3,13,14,1000000,1000001,1000002] (fun p=>[(14,.d (.str p)),(1000000,.box [.slf 0 96,oW1 v21,dI v22,dI v23,dI v24,.d (.sl 7 (v25.map aF))])]) (fun s h=>?_) (fun v26 h=>?_)
    ·refine aU ?_
     refine tL2 (gK F v17) [.keep [0,3,4,13,14,134,135,136,1000000,1000001,1000002]] [0,3,4,13,14,134,135,136,1000000,1000001,1000002] (fun v18 v19=>[(14,.d (.str v18)),(136,dI v19)]) F (y8++([10]:List UInt8)) (0:Int) h fun n v18 v19 h=>?_
     rw [gK] at h
     refine tR [] [0,3,4,13,14,134,135,136,137,1000000,1000001,1000002] ?_
     refine aK ?_
     refine tC h (fun hc h=>?_) fun hc h=>?_
     ·refine aO (tS ?_)
      refine aK ?_
      refine aU ?_
      obtain ⟨hp8,h⟩:=aL h
      refine tR [iP 0 (show 0≤v19∧v19 < ((@id (List aT) v17).map bK).length from dQ bK hp8),iX 1 { cs:=bK ((@id (List aT) v17).getD v19.toNat fK) } (show ((@id (List aT) v17).map bK)[v19.toNat]? = some (bK ((@id (List aT) v17).getD v19.toNat fK)) from (bX (d:=fK) bK hp8).2)] [0,3,4,13,14,16,134,135,136,1000000,1000001,1000002] ?_
      obtain ⟨hp9,h⟩:=aL h
      obtain ⟨y5,hy8,h⟩:=aH h
      obtain ⟨hp10,h⟩:=aL h
      obtain ⟨hp11,h⟩:=aL h
      refine mH mixed 6 (.take 0 (.take 1 (.take 4 (.all (.alt 2 (.all (.alt 3 (.take 5 (.all (.alt 6 (.all (.alt 7 (.take 8 (.take 9 (.take 10 .done))) .stop)) .stop))) (.alt 5 (.all (.alt 3 (.all (.alt 6 (.all (.alt 7 (.take 8 (.take 9 (.take 10 .done))) .stop)) .stop)) (.alt 6 (.all (.alt 3 (.all (.alt 7 (.take 8 (.take 9 (.take 10 .done))) .stop)) .stop)) .stop))) .stop))) (.alt 5 (.all (.alt 2 (.all (.alt 3 (.all (.alt 6 (.all (.alt 7 (.take 8 (.take 9 (.take 10 .done))) .stop)) .stop)) (.alt 6 (.all (.alt 3 (.all (.alt 7 (.take 8 (.take 9 (.take 10 .done))) .stop)) .stop)) .stop))) (.alt 6 (.take 2 (.all (.alt 3 (.all (.alt 7 (.take 8 (.take 9 (.take 10 .done))) .stop)) .stop))) .stop))) .stop)))))) ([0,0,2,4,0,16,32,72,128,257,1023],[0,0,2,4,0,16,32,72,128,257,513]) 1847 [(3,{ res:=.d (.str (Lib.itoa (((@id (List aT) v17).getD v19.toNat fK).f0))),xs:=[1000002],vout:=[.glo 6 (aA.flatMap (cI .u64))] }),(6,{ es:=some (([((@id (List aT) v17).getD v19.toNat fK).f1]).map (cI .i64)) }),(7,{ frz:=[(146,0)],res:=.d (.str y5),vout:=[.glo 6 (aA.flatMap (cI .u64))],xs:=[1000002] })] [0,3,4,13,14,134,135,136,1000000,1000001,1000002] [] [(0,.bp 1000000 0),(3,kM a0),(4,.own 126 2 ((@id (List aT) v17).map bK)),(13,dI y7.1),(14,.d (.str (v18++(y5++([10]:List UInt8))))),(134,.vw (4,0)),(135,dI ((@id (List aT) v17).length:Int)),(136,dI v19),(1000000,.box [.slf 0 96,oW1 v21,dI v22,dI v23,dI v24,.d (.sl 7 (v25.map aF))]),(1000001,.glo 0 (aQ.flatMap (cI .u32))),(1000002,.glo 6 (aA.flatMap (cI .u64)))] ((fun (o3:Prop)=>fun (o6:Prop)=>fun (o7:Prop)=>fun (o8:Prop)=>fun (o9:Prop)=>[(4,o3),(1,o6),(0,o7),(0,o8),(0,o9),(2,o3),(0,o6),(0,o7),(0,o8),(0,o9),(1,o6),(0,o3),(0,o7),(0,o8),(0,o9),(3,o3),(0,o6),(0,o7),(0,o8),(0,o9),(1,o6),(0,o3),(0,o7),(0,o8),(0,o9),(1,o6),(1,o3),(0,o7),(0,o8),(0,o9)]) (aG Tryz.prog 79 [dI (((@id (List aT) v17).getD v19.toNat fK).f0)] [.glo 6 (aA.flatMap (cI .u64))] (.d (.str (Lib.itoa (((@id (List aT) v17).getD v19.toNat fK).f0)))) [.glo 6 (aA.flatMap (cI .u64))]) ((([((@id (List aT) v17).getD v19.toNat fK).f1]).map (cI .i64))=(([((@id (List aT) v17).getD v19.toNat fK).f1]).map (cI .i64))) (aG Tryz.prog 78 [.d (.str (Lib.itoa (((@id (List aT) v17).getD v19.toNat fK).f0))),.d (.sl 1 (([((@id (List aT) v17).getD v19.toNat fK).f1]).map (cI .i64)))] [.glo 6 (aA.flatMap (cI .u64))] (.d (.str y5)) [.glo 6 (aA.flatMap (cI .u64))]) (y5.length+([10]:List UInt8).length≤9223372036854775807) (v18.length+(y5++([10]:List UInt8)).length≤9223372036854775807)) 1 (by kernel_rfl) (by kernel_rfl) (by kernel_rfl) (have p3:=bM7 hp9; have p6:=rfl; have p7:=nA hy8; have p8:=hp10; have p9:=hp11; ⟨p3,p6,p7,p8,p9,p3,p6,p7,p8,p9,p6,p3,p7,p8,p9,p3,p6,p7,p8,p9,p6,p3,p7,p8,p9,p6,p3,p7,p8,p9⟩) (tS ?_)
      refine tRe [] [0,3,4,13,14,134,135,136,1000000,1000001,1000002] (tE [.keep [0,3,4,13,14,134,135,136,1000000,1000001,1000002]] ((v18++(y5++([10]:List UInt8))),IntKind.i64.wrap (v19+(1:Int))) h)
     ·cases h
      refine cZ (tJ [.keep [0,3,13,14,1000000,1000001,1000002]])
    ·refine tS ?_
     obtain ⟨y9,hy9,h⟩:=aH h
     refine jX mixed 1 (.take 0 (.take 1 (.take 2 (.take 3 (.take 4 (.take 5 (.take 6 (.take 7 (.take 8 (.take 9 (.take 10 (.all (.alt 11 (.all (.alt 12 (.take 13 .done) .stop)) .stop))))))))))))) ([0,1,2,4,0,0,32,64,128,0,512,1304,2048,8191],[0,1,2,4,0,0,32,64,128,0,512,1304,2048,4096]) 10239 [(11,{ es:=some (([v22,y7.1,v23,a0.f0]).map (cI .i64)) }),(12,{ frz:=[(162,0)],res:=.d (.str y9),vout:=[.glo 6 (aA.flatMap (cI .u64))],xs:=[1000002] })] [0,3,14,17,1000000,1000001,1000002] [] [(0,.bp 1000000 0),(3,kM a0),(14,.d (.str v26)),(17,.d (.str y9)),(1000000,.box [.slf 0 96,oW1 v21,dI v22,dI v23,dI v24,.d (.sl 7 (v25.map aF))]),(1000001,.glo 0 (aQ.flatMap (cI .u32))),(1000002,.glo 6 (aA.flatMap (cI .u64)))] ((fun (o11:Prop)=>fun (o12:Prop)=>[(11,o11),(0,o12)]) ((([v22,y7.1,v23,a0.f0]).map (cI .i64))=(([v22,y7.1,v23,a0.f0]).map (cI .i64))) (aG Tryz.prog 78 [.d (.str ([101,110,100]:List UInt8)),.d (.sl 1 (([v22,y7.1,v23,a0.f0]).map (cI .i64)))] [.glo 6 (aA.flatMap (cI .u64))] (.d (.str y9)) [.glo 6 (aA.flatMap (cI .u64))])) 1 (by kernel_rfl) (by kernel_rfl) (by kernel_rfl) (have p11:=rfl; have p12:=nA hy9; ⟨p11,p12⟩) ?_
     obtain ⟨y10,hy10,h⟩:=aH h
     refine tR [iC 4 [1000000] (gV hy10)] [0,3,14,17,1000000,1000001,1000002] ?_
     obtain ⟨y11,hy11,h⟩:=aH h
     refine tR [iC 4 [1000000] (kK hy11)] [0,3,14,17,1000000,1000001,1000002] ?_
     obtain ⟨hp12,h⟩:=aL h
     obtain ⟨hp13,h⟩:=aL h
     obtain ⟨hp14,h⟩:=aL h
     obtain ⟨y12,hy12,h⟩:=aH h
     obtain ⟨y13,hy13,h⟩:=aH h
     obtain ⟨hp15,h⟩:=aL h
     obtain ⟨hp16,h⟩:=aL h
     obtain ⟨y14,hy14,h⟩:=aH h
     refine jX mixed 1 (.take 0 (.take 1 (.take 2 (.take 3 (.take 4 (.take 5 (.take 6 (.take 7 (.take 8 (.all (.alt 9 (.all (.alt 10 (.take 11 (.take 12 (.all (.alt 13 .done .stop)))) .stop)) .stop))))))))))) ([0,1,2,0,8,16,0,0,192,256,512,1056,2048,5124],[0,1,2,0,8,16,0,0,192,256,512,1056,2048,4100]) 6655 [(9,{ res:=.d (.v (.int .u32 y12)),vout:=[.glo 0 (aQ.flatMap (cI .u32))],xs:=[1000001] }),(10,{ res:=.d (.str y13) }),(13,{ res:=.tup [dI y14.1,.d (.v .nilIface)],vout:=[.box [.slf 0 96,oW1 y14.2.2.1,dI y14.2.2.2.1,dI y14.2.2.2.2.1,dI y14.2.2.2.2.2.1,.d (.sl 7 (y14.2.2.2.2.2.2.map aF))]],xs:=[1000000] })] [0,3,1000000,1000001,1000002] [] [(0,.bp 1000000 0),(3,kM a0),(1000000,.box [.slf 0 96,oW1 y14.2.2.1,dI y14.2.2.2.1,dI y14.2.2.2.2.1,dI y14.2.2.2.2.2.1,.d (.sl 7 (y14.2.2.2.2.2.2.map aF))]),(1000001,.glo 0 (aQ.flatMap (cI .u32))),(1000002,.glo 6 (aA.flatMap (cI .u64)))] ((fun (o4:Prop)=>fun (o5:Prop)=>fun (o8:Prop)=>fun (o9:Prop)=>fun (o10:Prop)=>fun (o11:Prop)=>fun (o12:Prop)=>fun (o13:Prop)=>[(4,o4),(0,o5),(2,o8),(0,o9),(0,o10),(0,o11),(0,o12),(0,o13)]) (([126]:List UInt8).length+y9.length≤9223372036854775807) ((([126]:List UInt8)++y9).length+([32]:List UInt8).length≤9223372036854775807) (v26.length+y9.length≤9223372036854775807) (aG Tryz.prog 81 [.d (.str (v26++y9))] [.glo 0 (aQ.flatMap (cI .u32))] (.d (.v (.int .u32 y12))) [.glo 0 (aQ.flatMap (cI .u32))]) (aG Tryz.prog 80 [.d (.v (.int .u32 y12))] [] (.d (.str y13)) []) (((([126]:List UInt8)++y9)++([32]:List UInt8)).length+y13.length≤9223372036854775807) ((((([126]:List UInt8)++y9)++([32]:List UInt8))++y13).length+([10]:List UInt8).length≤9223372036854775807) (aG Tryz.prog 49 [.bp 1000000 0,.d (.str ((((([126]:List UInt8)++y9)++([32]:List UInt8))++y13)++([10]:List UInt8)))] [.box [.slf 0 96,oW1 y10.2.2.1,dI y10.2.2.2.1,dI y11.1,dI y10.2.2.2.2.2.1,.d (.sl 7 (y10.2.2.2.2.2.2.map aF))]] (.tup [dI y14.1,.d (.v .nilIface)]) [.box [.slf 0 96,oW1 y14.2.2.1,dI y14.2.2.2.1,dI y14.2.2.2.2.1,dI y14.2.2.2.2.2.1,.d (.sl 7 (y14.2.2.2.2.2.2.map aF))]])) 0 (by kernel_rfl) (by kernel_rfl) (by kernel_rfl) (have p4:=hp12; have p5:=hp13; have p8:=hp14; have p9:=aH7 hy12; have p10:=aI9 hy13; have p11:=hp15; have p12:=hp16; have p13:=gV hy14; ⟨p4,p5,p8,p9,p10,p11,p12,p13⟩) ?_
     cases h
     refine tRe [] [1000000,1000001,1000002] (tq [1000000,1000001,1000002])
theorem wW {F:Nat} {a0:List bC} {r:(List UInt8)} (h:rM F a0=some r):aG Tryz.prog 30 [.d (.sl 2 (a0.map bP))] [.glo 0 (aQ.flatMap (cI .u32)),.glo 6 (aA.flatMap (cI .u64))] (.d (.str r)) [.glo 0 (aQ.flatMap (cI .u32)),.glo 6 (aA.flatMap (cI .u64))]:=by
 rw [rM] at h
 refine aG.intro (N:=19) Tryz.func30 rfl rfl rfl rfl rfl fun e=>?_
 refine tR [] [0,1000000,1000001] ?_
 refine tR [iH 0 { slfs:=[(0,0)] }] [0,3,1000000,1000001] ?_
 obtain ⟨y2,hy1,h⟩:=aH h
 refine tR [iC 1 [3] (qU hy1)] [0,3,1000000,1000001] ?_
 refine aK ?_
 refine tR [iW 1 (cO bP (xs:=a0))] [3,8,9,10,1000000,1000001] ?_
 refine jct h [3,1000000,1000001] (fun p=>[(3,.box [.slf 0 96,oW1 p.1,dI p.2.1,dI p.2.2.1,dI p.2.2.2.1,.d (.sl 7 (p.2.2.2.2.map aF))])]) (fun s h=>?_) (fun s h=>?_)
 ·refine aU ?_
  refine tL (fun n p=>lJ F a0 n p.1 p.2.1 p.2.2.1 p.2.2.2.1 p.2.2.2.2.1 p.2.2.2.2.2) [.frz (3,6),.thawc 3 5,.keep [3,8,9,10,1000000,1000001]] [3,8,9,10,1000000,1000001] (fun p=>[(3,.box [.slf 0 96,oW1 p.1,dI p.2.1,dI p.2.2.1,dI p.2.2.2.1,.d (.sl 7 (p.2.2.2.2.1.map aF))]),(10,dI p.2.2.2.2.2)]) F (y2.2.2.1,y2.2.2.2.1,y2.2.2.2.2.1,y2.2.2.2.2.2.1,y2.2.2.2.2.2.2,(0:Int)) h fun n p h=>?_
  obtain ⟨v1,v2,v3,v4,v5,v6⟩:=p
  have h:lJ F a0 (n+1) v1 v2 v3 v4 v5 v6=some s:=h
  rw [lJ] at h
  refine tR [] [3,8,9,10,11,1000000,1000001] ?_
  refine aK ?_
  refine tC h (fun hc h=>?_) fun hc h=>?_
  ·refine aO (tS ?_)
   refine aK ?_
   refine aU ?_
   obtain ⟨hp1,h⟩:=aL h
   refine tR [iI 0 (bX (d:=bE1) bP hp1)] [3,5,8,9,10,1000000,1000001] ?_
   obtain ⟨y1,hy2,h⟩:=aH h
   refine tRe [iC 1 [3,1000000,1000001] (uS hy2)] [3,8,9,10,1000000,1000001] (tS ?_)
   refine tRe [] [3,8,9,10,1000000,1000001] (tE [.keep [3,8,9,10,1000000,1000001]] (y1.1,y1.2.1,y1.2.2.1,y1.2.2.2.1,y1.2.2.2.2,IntKind.i64.wrap (v6+(1:Int))) h)
  ·cases h
   refine cZ (tJ [.keep [3,1000000,1000001]])
 ·obtain ⟨v7,v8,v9,v10,v11⟩:=s
  try dsimp only at h
  refine tS ?_
  obtain ⟨hp2,h⟩:=aL h
  refine tR [iC 1 [3] (show aG Tryz.prog 51 [.bp 1000000 0] [.box [.slf 0 96,oW1 v7,dI v8,dI v9,dI v10,.d (.sl 7 (v11.map aF))]] (.d (.str v7)) [.box [.slf 0 96,.junk,dI v8,dI v9,dI v10,.d (.sl 7 (v11.map aF))]] from nK (l:=v7) hp2 (by kernel_rfl) (by kernel_rfl))] [2,1000000,1000001] ?_
  cases h
  refine aP (tq [2,1000000,1000001])
theorem aN7 {F:Nat} {a0:bC} {r:(List UInt8)×Int} (h:vV F a0=some r):aG Tryz.prog 12 [.agg (bP a0)] [.glo 0 (aQ.flatMap (cI .u32)),.glo 6 (aA.flatMap (cI .u64))] (.tup [.d (.str r.1),.d (.v (.int .i64 r.2))]) [.glo 0 (aQ.flatMap (cI .u32)),.glo 6 (aA.flatMap (cI .u64))]:=by
 rw [vV] at h
 refine aG.intro (N:=18) Tryz.func12 rfl rfl rfl rfl rfl fun e=>?_
 refine tR [] [1,1000000,1000001] ?_
 refine aK ?_
 obtain ⟨y1,hy1,h⟩:=aH h
 refine tR [iC 1 [1000001] (rW hy1)] [1,4,1000000,1000001] ?_
 refine tR [] [1,4,9,1000000,1000001] ?_
 refine tC h (fun hc h=>?_) fun hc h=>?_
 ·refine tR [] [2,3,1000000,1000001] ?_
  cases h
  refine aP (tq [2,3,1000000,1000001])
 ·refine aO (tS ?_)
  obtain ⟨y2,hy2,h⟩:=aH h
  refine tR [iR 1 (([a0]).map bP),iCh 2 { frz:=[(12,0)],xs:=[1000000,1000001] } (wW hy2)] [5,1000000,1000001] ?_
  refine aK ?_
  refine tR [] [5,16,1000000,1000001] ?_
  refine tC h (fun hc h=>?_) fun hc h=>?_
  ·refine tR [] [2,3,1000000,1000001] ?_
   cases h
   refine aP (tq [2,3,1000000,1000001])
  ·refine aO (tS ?_)
   refine tR [] [2,3,1000000,1000001] ?_
   cases h
   refine aP (tq [2,3,1000000,1000001])
end Go.Vm.PgfG
