/-
  Texts.
-/
import Derived.Test.YtgonfionbbhmkaaGreatDoorPg
import Derived.Test.YtgonfionbbhmkaaGreatDoorVmE
set_option maxRecDepth 20000
namespace Go.Vm.PgfG
open Go.Proofs
set_option maxHeartbeats 8000000 in
set_option maxRecDepth 100000 in
theorem aB0 {F:Nat} {rec_ref3_tokensOf:(List aM)→aC→Int→Int→Option ((List aM)×Int×Int)} (hrec_ref3_tokensOf:∀ {a0:List aM},∀ {a1:aC},∀ {a2:Int},∀ {c3:Int},∀ {r:(List aM)×Int×Int},rec_ref3_tokensOf a0 a1 a2 c3=some r→aG Tryz.prog 38 [.own 79 5 (a0.map bH),.agg (aZ a1),.d (.v (.int .i64 a2)),.bp 1000000 0] [.box [.d (.v (.int .i64 c3))]] (.tup [.own 79 5 (r.1.map bH),.d (.v (.int .i64 r.2.1))]) [.box [.d (.v (.int .i64 r.2.2))]]) {a0:List aM} {a1:aC} {a2:Int} {c3:Int} {r:(List aM)×Int×Int} (h:gP F rec_ref3_tokensOf a0 a1 a2 c3=some r):aG Tryz.prog 38 [.own 79 5 (a0.map bH),.agg (aZ a1),.d (.v (.int .i64 a2)),.bp 1000000 0] [.box [.d (.v (.int .i64 c3))]] (.tup [.own 79 5 (r.1.map bH),.d (.v (.int .i64 r.2.1))]) [.box [.d (.v (.int .i64 r.2.2))]]:=by
 rw [gP] at h
 refine aG.intro (N:=112) Tryz.func38 rfl rfl rfl rfl rfl fun e=>?_
 refine tR [] [0,2,3,5,1000000] ?_
 refine tR [] [0,2,3,5,1000000] ?_
 refine aK ?_
 refine tR [] [0,2,3,5,25,1000000] ?_
 refine tC h (fun hc h=>?_) fun hc h=>?_
 ·refine tR [] [8,9,1000000] ?_
  cases h
  refine aP (tq [8,9,1000000])
 ·refine aO (tS ?_)
  refine aK ?_
  obtain ⟨y2,hy1,h⟩:=aH h
  refine tR [iC 2 [] (aO6 hy1)] [0,2,3,5,10,1000000] ?_
  refine tR [] [0,2,3,5,10,30,1000000] ?_
  refine tC h (fun hc h=>?_) fun hc h=>?_
  ·refine tR [] [8,9,1000000] ?_
   cases h
   refine aP (tq [8,9,1000000])
  ·refine aO (tS ?_)
   obtain ⟨hp1,h⟩:=aL h
   obtain ⟨z1,hz1,h⟩:=aW h
   refine cA6 mixed [(12,0,some 1),(11,2,some 5),(10,34,some 7),(9,162,none),(8,163,none),(8,166,none),(8,226,none),(8,418,none),(8,1186,none),(7,167,some 3),(7,227,none),(7,230,none),(7,419,none),(7,422,none),(7,482,none),(7,1187,some 2),(7,1190,none),(7,1250,none),(7,1442,none),(6,175,none),(6,231,some 3),(6,423,some 3),(6,483,none),(6,486,none),(6,1191,some 3),(6,1251,some 2),(6,1254,none),(6,1443,some 2),(6,1446,none),(6,1506,none),(5,191,none),(5,239,none),(5,431,none),(5,487,some 3),(5,1199,some 4),(5,1255,some 3),(5,1447,some 3),(5,1507,some 2),(5,1510,none),(4,255,none),(4,447,none),(4,495,none),(4,1215,some 6),(4,1263,some 4),(4,1455,some 4),(4,1511,some 3),(3,511,none),(3,1279,some 8),(3,1471,some 6),(3,1519,some 4),(2,1023,none),(2,1535,some 9),(1,2047,none),(0,4095,none)] [(12,11,.box [dI z1,dI a1.f1,.d (.str a1.f2),dI 0,dI 0]),(11,11,.box [dI 0,dI 0,.d (.str []),dI 0,dI 0]),(10,41,.agg (bH (aM.mk z1 a1.f1 a1.f2 0 0))),(9,40,.d (.str a1.f2)),(8,39,.bp 5 2),(7,38,dI a1.f1),(6,37,.bp 5 1),(5,36,dI z1),(4,35,.ep (32,0) 1 a1.f0.toNat 0),(3,34,dI a1.f0),(2,33,.bp 5 0),(1,32,.own 3 1 (([(5:Int),(5:Int),(1:Int),(2:Int),(3:Int),(4:Int),(6:Int),(8:Int)]).map (cI .i64))),(0,0,oW2 a0),(0,2,dI a2),(0,3,.bp 1000000 0),(0,5,mX a1),(0,1000000,.box [dI (IntKind.i64.wrap (c3+(1:Int)))])] [0,2,3,5,11,32,33,34,35,36,37,38,39,40,41,1000000] ([0,0,2,5,8,0,32,0,128,336,0,2047],[0,0,2,5,8,0,32,0,128,336,0,1536]) 1022 [(0,{ es:=some (([(5:Int),(5:Int),(1:Int),(2:Int),(3:Int),(4:Int),(6:Int),(8:Int)]).map (cI .i64)) }),(4,{ cs:=(cI .i64) (([(5:Int),(5:Int),(1:Int),(2:Int),(3:Int),(4:Int),(6:Int),(8:Int)]).getD a1.f0.toNat 0),rw:=some (dI z1) })] [0,2,3,5,11,1000000] [] [(0,oW2 a0),(2,dI a2),(3,.bp 1000000 0),(5,mX a1),(11,.box [dI z1,dI a1.f1,.d (.str a1.f2),dI 0,dI 0]),(1000000,.box [dI (IntKind.i64.wrap (c3+(1:Int)))])] ((fun (o0:Prop)=>fun (o3:Prop)=>fun (o4:Prop)=>[(3,o0),(8,o0),(3,o0),(3,o0),(3,o0),(3,o3),(3,o0),(5,o0),(2,o0),(3,o0),(2,o0),(2,o0),(2,o4),(3,o3),(0,o3),(2,o0),(1,o3),(1,o0),(2,o0),(1,o0),(4,o4),(2,o4),(2,o3),(0,o4),(0,o3),(0,o3),(1,o0),(4,o4),(2,o4),(0,o4),(0,o3),(4,o4)]) ((([(5:Int),(5:Int),(1:Int),(2:Int),(3:Int),(4:Int),(6:Int),(8:Int)]).map (cI .i64))=(([(5:Int),(5:Int),(1:Int),(2:Int),(3:Int),(4:Int),(6:Int),(8:Int)]).map (cI .i64))) (0≤a1.f0∧a1.f0 < (([(5:Int),(5:Int),(1:Int),(2:Int),(3:Int),(4:Int),(6:Int),(8:Int)]).map (cI .i64)).length) (((([(5:Int),(5:Int),(1:Int),(2:Int),(3:Int),(4:Int),(6:Int),(8:Int)]).map (cI .i64))[a1.f0.toNat]? = some ((cI .i64) (([(5:Int),(5:Int),(1:Int),(2:Int),(3:Int),(4:Int),(6:Int),(8:Int)]).getD a1.f0.toNat 0)))∧dI (([(5:Int),(5:Int),(1:Int),(2:Int),(3:Int),(4:Int),(6:Int),(8:Int)]).getD a1.f0.toNat 0)=dI z1)) 3 (by kernel_rfl) (by kernel_rfl) (by kernel_rfl) (by kernel_rfl) (by kernel_rfl) (by kernel_rfl) (have p0:=rfl; have p3:=dQ (cI .i64) hp1; have p4:=⟨(bX (d:=0) (cI .i64) hp1).2,(by subst hz1; rfl)⟩; ⟨p0,p0,p0,p0,p0,p3,p0,p0,p0,p0,p0,p0,p4,p3,p3,p0,p3,p0,p0,p0,p4,p4,p3,p4,p3,p3,p0,p4,p4,p4,p3,p4⟩) ?_
   refine jc h [0,2,3,5,11,1000000] (fun p=>[(0,oW2 a0),(2,dI a2),(3,.bp 1000000 0),(5,mX a1),(11,.box [dI z1,dI a1.f1,.d (.str p),dI 0,dI 0]),(1000000,.box [dI (IntKind.i64.wrap (c3+(1:Int)))])]) (fun s h=>?_) (fun v5 h=>?_)
   ·refine tR [] [0,2,3,5,11,44,1000000] ?_
    refine tC h (fun hc h=>?_) fun hc h=>?_
    ·cases h
     refine tRe [] [0,2,3,5,11,1000000] (tJ [.keep [0,2,3,5,11,1000000]])
    ·cases h
     refine aO (tJ [.keep [0,2,3,5,11,1000000]])
   ·refine jc h [0,2,3,5,11,1000000] (fun p=>[(11,.box [dI z1,dI p.1,.d (.str p.2),dI 0,dI 0])]) (fun s h=>?_) (fun s h=>?_)
    ·refine tR [] [0,2,3,5,11,48,1000000] ?_
     refine tC h (fun hc h=>?_) fun hc h=>?_
     ·obtain ⟨hp2,h⟩:=aL h
      obtain ⟨z2,hz2,h⟩:=aW h
      cases h
      refine mH mixed 8 (.take 1 (.take 5 (.all (.alt 0 (.all (.alt 2 (.take 3 (.all (.alt 4 (.all (.alt 6 (.take 7 (.all (.alt 8 .done .stop))) .stop)) (.alt 6 (.take 4 (.take 7 (.all (.alt 8 .done .stop)))) .stop)))) (.alt 6 (.take 2 (.take 3 (.take 4 (.take 7 (.all (.alt 8 .done .stop)))))) .stop))) (.alt 2 (.all (.alt 0 (.take 3 (.all (.alt 4 (.all (.alt 6 (.take 7 (.all (.alt 8 .done .stop))) .stop)) (.alt 6 (.take 4 (.take 7 (.all (.alt 8 .done .stop)))) .stop)))) (.alt 6 (.all (.alt 0 (.take 3 (.take 4 (.take 7 (.all (.alt 8 .done .stop))))) .stop)) .stop))) (.alt 6 (.all (.alt 0 (.take 2 (.take 3 (.take 4 (.take 7 (.all (.alt 8 .done .stop)))))) (.alt 2 (.all (.alt 0 (.take 3 (.take 4 (.take 7 (.all (.alt 8 .done .stop))))) .stop)) .stop))) .stop)))))) ([0,0,2,5,8,0,32,127,255],[0,0,2,5,8,0,32,0,144]) 190 [(0,{ es:=some (([([102,97,108,115,101]:List UInt8),([116,114,117,101]:List UInt8)]).map cS) }),(4,{ cs:=cS (([([102,97,108,115,101]:List UInt8),([116,114,117,101]:List UInt8)]).getD a1.f1.toNat []),rw:=some (.d (.str z2)) })] [0,2,3,5,11,1000000] [] [(0,oW2 a0),(2,dI a2),(3,.bp 1000000 0),(5,mX a1),(11,.box [dI z1,dI (0:Int),.d (.str z2),dI 0,dI 0]),(1000000,.box [dI (IntKind.i64.wrap (c3+(1:Int)))])] ((fun (o0:Prop)=>fun (o3:Prop)=>fun (o4:Prop)=>[(2,o0),(1,o3),(0,o4),(4,o4),(4,o3),(0,o4),(3,o0),(0,o3),(0,o4),(4,o4),(3,o0),(0,o3),(0,o4),(3,o0),(1,o3),(0,o4),(3,o0),(0,o3),(0,o4)]) ((([([102,97,108,115,101]:List UInt8),([116,114,117,101]:List UInt8)]).map cS)=(([([102,97,108,115,101]:List UInt8),([116,114,117,101]:List UInt8)]).map cS)) (0≤a1.f1∧a1.f1 < (([([102,97,108,115,101]:List UInt8),([116,114,117,101]:List UInt8)]).map cS).length) (((([([102,97,108,115,101]:List UInt8),([116,114,117,101]:List UInt8)]).map cS)[a1.f1.toNat]? = some (cS (([([102,97,108,115,101]:List UInt8),([116,114,117,101]:List UInt8)]).getD a1.f1.toNat [])))∧AV.d (.str (([([102,97,108,115,101]:List UInt8),([116,114,117,101]:List UInt8)]).getD a1.f1.toNat []))=.d (.str z2))) 2 (by kernel_rfl) (by kernel_rfl) (by kernel_rfl) (have p0:=rfl; have p3:=dQ cS hp2; have p4:=⟨(bX (d:=[]) cS hp2).2,(by subst hz2; rfl)⟩; ⟨p0,p3,p4,p4,p3,p4,p0,p3,p4,p4,p0,p3,p4,p0,p3,p4,p0,p3,p4⟩) (tJ [.keep [0,2,3,5,11,1000000]])
     ·cases h
      refine aO (tJ [.keep [0,2,3,5,11,1000000]])
    ·obtain ⟨v6,v7⟩:=s
     try dsimp only at h
     refine aK ?_
     obtain ⟨y3,hy2,h⟩:=aH h
     refine tR [iC 1 [] (uP hy2)] [0,2,3,5,11,13,1000000] ?_
     refine tR [] [0,2,3,5,11,13,62,1000000] ?_
     refine tC h (fun hc h=>?_) fun hc h=>?_
     ·refine tR [] [8,9,1000000] ?_
      cases h
      refine aP (tq [8,9,1000000])
     ·refine aO (tS ?_)
      obtain ⟨hp3,h⟩:=aL h
      refine tR [iR 2 (([(aM.mk z1 v6 v7 0 0)]).map bH),iE 3 (gB bH hp3)] [0,2,3,5,11,1000000] ?_
      refine aK ?_
      refine tR [] [0,2,3,5,11,70,1000000] ?_
      refine tC h (fun hc h=>?_) fun hc h=>?_
      ·refine tR [] [0,8,9,1000000] ?_
       cases h
       refine aP fun a w hm=>wC (dC6 [(8,.own 79 5 ((a0++([(aM.mk z1 v6 v7 0 0)])).map bH)),(9,dI (0:Int)),(1000000,.box [dI (IntKind.i64.wrap (c3+(1:Int)))])] [8,9] [.claim 8,.keep [8,9,1000000]] (by exact ⟨⟨by kernel_rfl,by kernel_rfl⟩,trivial⟩) a w hm)
      ·refine aO (tS ?_)
       refine aK ?_
       refine tR [iW 2 (cO bD (xs:=a1.f4))] [0,2,3,5,11,73,74,75,1000000] ?_
       refine jEt h [0,11,1000000] (fun p=>[(0,oW2 p.1),(11,.box [dI z1,dI v6,.d (.str v7),dI 0,dI 0]),(1000000,.box [dI p.2])]) (fun s h hk1=>?_) (fun s h=>?_)
       ·refine aU ?_
        refine tL3 (dL F a1 a2 rec_ref3_tokensOf) [.keep [0,2,3,5,11,73,74,75,1000000]] [0,2,3,5,11,73,74,75,1000000] (fun v1 v2 v3=>[(0,oW2 v1),(75,dI v2),(1000000,.box [dI v3])]) F (a0++([(aM.mk z1 v6 v7 0 0)])) (0:Int) (IntKind.i64.wrap (c3+(1:Int))) h fun n v1 v2 v3 h=>?_
        rw [dL] at h
        refine tR [] [0,2,3,5,11,73,74,75,76,1000000] ?_
        refine aK ?_
        refine tC h (fun hc h=>?_) fun hc h=>?_
        ·refine aO (tS ?_)
         refine aK ?_
         refine aU ?_
         obtain ⟨hp4,h⟩:=aL h
         refine tR [iI 1 (rV (d:=dM) eY hp4)] [0,2,3,5,11,14,15,73,74,75,1000000] ?_
         refine jc h [0,2,3,5,11,15,73,74,75,1000000] (fun p=>[(0,oW2 p)]) (fun s h=>?_) (fun v4 h=>?_)
         ·refine tR [] [0,2,3,5,11,14,15,73,74,75,82,1000000] ?_
          refine tC h (fun hc h=>?_) fun hc h=>?_
          ·obtain ⟨hp5,h⟩:=aL h
           obtain ⟨hp6,h⟩:=aL h
           cases h
           refine tRe [iI 4 (bX (d:=[]) cS hp5),iR 7 (([(aM.mk (2:Int) 0 (a1.f3.getD v2.toNat []) 0 0)]).map bH),iE 8 (gB bH hp6)] [0,2,3,5,11,15,73,74,75,1000000] (tJ [.keep [0,2,3,5,11,15,73,74,75,1000000]])
          ·cases h
           refine aO (tJ [.keep [0,2,3,5,11,15,73,74,75,1000000]])
         ·refine tR [] [0,2,3,5,11,15,73,74,75,1000000] ?_
          obtain ⟨y1,hy3,h⟩:=aH h
          refine tR [iCh 5 { xs:=[1000000],take:=[0] } (hrec_ref3_tokensOf hy3)] [0,2,3,5,11,16,73,74,75,1000000] ?_
          refine tR [] [0,2,3,5,11,16,73,74,75,102,1000000] ?_
          refine tC h (fun hc h=>?_) fun hc h=>?_
          ·refine tR [] [8,9,1000000] ?_
           cases h
           have h:=bE hk1
           cases h
           refine aP (tq [8,9,1000000])
          ·refine aO (tS ?_)
           refine tRe [] [0,2,3,5,11,73,74,75,1000000] (tE [.keep [0,2,3,5,11,73,74,75,1000000]] (y1.1,IntKind.i64.wrap (v2+(1:Int)),y1.2.2) h)
        ·cases h
         refine cZ (tG [.keep [0,11,1000000]])
       ·obtain ⟨v8,v9⟩:=s
        try dsimp only at h
        refine tS ?_
        obtain ⟨hp7,h⟩:=aL h
        refine tR [iR 5 (([(aM.mk (IntKind.i64.wrap (z1+(1:Int))) 0 [] 0 0)]).map bH),iE 6 (gB bH hp7)] [8,9,1000000] ?_
        cases h
        refine aP (tq [8,9,1000000])
theorem aA8 {F:Nat} (n:Nat):∀ {a0:List aM} {a1:aC} {a2:Int} {c3:Int} {r:(List aM)×Int×Int},fM F n a0 a1 a2 c3=some r→aG Tryz.prog 38 [.own 79 5 (a0.map bH),.agg (aZ a1),.d (.v (.int .i64 a2)),.bp 1000000 0] [.box [.d (.v (.int .i64 c3))]] (.tup [.own 79 5 (r.1.map bH),.d (.v (.int .i64 r.2.1))]) [.box [.d (.v (.int .i64 r.2.2))]]:=by
 induction n with
 | zero=>intro a0 a1 a2 c3 r h; exact absurd (show (none:Option ((List aM)×Int×Int))=some r from h) (by simp)
 | succ n ih=>intro a0 a1 a2 c3 r h; exact aB0 ih h
theorem aP2 {F:Nat} {a0:List aM} {a1:aC} {a2:Int} {c3:Int} {r:(List aM)×Int×Int} (h:xE F a0 a1 a2 c3=some r):aG Tryz.prog 38 [.own 79 5 (a0.map bH),.agg (aZ a1),.d (.v (.int .i64 a2)),.bp 1000000 0] [.box [.d (.v (.int .i64 c3))]] (.tup [.own 79 5 (r.1.map bH),.d (.v (.int .i64 r.2.1))]) [.box [.d (.v (.int .i64 r.2.2))]]:=aA8 F h
theorem bD1 {F:Nat} {a0:aC} {r:(List UInt8)×Int} (h:qB F a0=some r):aG Tryz.prog 20 [.agg (aZ a0)] [] (.tup [.d (.str r.1),.d (.v (.int .i64 r.2))]) []:=by
 rw [qB] at h
 refine aG.intro (N:=74) Tryz.func20 rfl rfl rfl rfl rfl fun e=>?_
 refine tR [] [1] ?_
 refine tR [] [1,4] ?_
 obtain ⟨y1,hy1,h⟩:=aH h
 refine tR [iC 1 [4] (show aG Tryz.prog 38 [.d (.v (.slice none 0 0)),.agg (aZ a0),dI (1:Int),.bp 1000000 0] [.box [dI (0:Int)]] (.tup [oW2 y1.1,dI y1.2.1]) [.box [dI y1.2.2]] from aG.cE4 0 (aP2 hy1) rfl rfl (by decide) rfl)] [5,6] ?_
 refine aK ?_
 refine tR [] [5,6,18] ?_
 refine tC h (fun hc h=>?_) fun hc h=>?_
 ·refine tR [] [2,3] ?_
  cases h
  refine aP (tq [2,3])
 ·refine aO (tS ?_)
  refine tR [] [5,7] ?_
  refine aK ?_
  refine tR [iW 1 (cO bH (xs:=y1.1))] [5,7,20,21,22] ?_
  refine jEt h [7] (fun p=>[(7,oW1 p)]) (fun s h hk1=>?_) (fun v4 h=>?_)
  ·refine aU ?_
   refine tL2 (kD F y1) [.keep [5,7,20,21,22]] [5,7,20,21,22] (fun v1 v2=>[(7,oW1 v1),(22,dI v2)]) F [] (0:Int) h fun n v1 v2 h=>?_
   rw [kD] at h
   refine tR [] [5,7,20,21,22,23] ?_
   refine aK ?_
   refine tC h (fun hc h=>?_) fun hc h=>?_
   ·refine aO (tS ?_)
    refine aK ?_
    refine aU ?_
    obtain ⟨hp1,h⟩:=aL h
    refine tR [iP 1 (show 0≤v2∧v2 < (y1.1.map bH).length from dQ bH hp1),iX 2 { cs:=bH (y1.1.getD v2.toNat sZ) } (show (y1.1.map bH)[v2.toNat]? = some (bH (y1.1.getD v2.toNat sZ)) from (bX (d:=sZ) bH hp1).2)] [5,7,8,9,20,21,22] ?_
    obtain ⟨y2,hy2,h⟩:=aH h
    refine tR [iC 1 [] (uP hy2)] [5,7,8,9,10,20,21,22] ?_
    refine jc h [5,7,10,20,21,22] (fun p=>[(7,oW1 p)]) (fun s h=>?_) (fun v3 h=>?_)
    ·obtain ⟨z1,hz1,h⟩:=aW h
     obtain ⟨hp2,h⟩:=aL h
     obtain ⟨z2,hz2,h⟩:=aW h
     obtain ⟨hp3,h⟩:=aL h
     obtain ⟨z3,hz3,h⟩:=aW h
     refine tR [iB 10 hz1,iF 16 {} (show ((((bif (decide (v2 > (0:Int))) then z1 else false) == true) && true)=true→0≤(IntKind.i64.wrap (v2 - (1:Int)))∧(IntKind.i64.wrap (v2 - (1:Int))) < (y1.1.map bH).length) from (fun hg=>dQ bH (hp2 hg))),iF 18 { cs:=bH (y1.1.getD (IntKind.i64.wrap (v2 - (1:Int))).toNat sZ) } (show ((((bif (decide (v2 > (0:Int))) then z1 else false) == true) && true)=true→(y1.1.map bH)[(IntKind.i64.wrap (v2 - (1:Int))).toNat]? = some (bH (y1.1.getD (IntKind.i64.wrap (v2 - (1:Int))).toNat sZ))) from (fun hg=>(bX (d:=sZ) bH (hp2 hg)).2)),iB 20 hz2,iF 25 {} (show (((z2 == true) && true)=true→0≤(IntKind.i64.wrap (v2 - (1:Int)))∧(IntKind.i64.wrap (v2 - (1:Int))) < (y1.1.map bH).length) from (fun hg=>dQ bH (hp3 hg))),iF 27 { cs:=bH (y1.1.getD (IntKind.i64.wrap (v2 - (1:Int))).toNat sZ) } (show (((z2 == true) && true)=true→(y1.1.map bH)[(IntKind.i64.wrap (v2 - (1:Int))).toNat]? = some (bH (y1.1.getD (IntKind.i64.wrap (v2 - (1:Int))).toNat sZ))) from (fun hg=>(bX (d:=sZ) bH (hp3 hg)).2)),iB 28 hz3] [5,7,10,20,21,22,61] ?_
     refine tC h (fun hc h=>?_) fun hc h=>?_
     ·obtain ⟨hp4,h⟩:=aL h
      cases h
      refine tRe [iX 1 { es:=some (([(UInt8.ofNat (32:Int).toNat)]).map cU) } (show [[Dat.v (.int .u8 (32:Int))]]=(([(UInt8.ofNat (32:Int).toNat)]).map cU) from oZ (by decide) (rfl:([]:List (List Dat))=([]:List UInt8).map cU)),iE 2 (gB cU hp4)] [5,7,10,20,21,22] (tJ [.keep [5,7,10,20,21,22]])
     ·cases h
      refine aO (tJ [.keep [5,7,10,20,21,22]])
    ·obtain ⟨hp5,h⟩:=aL h
     refine tR [iE 2 (gB cU hp5)] [5,7,20,21,22] ?_
     refine tR [iW 1 (cO cU (xs:=(v3++y2.1)))] [5,7,20,21,22,70] ?_
     refine tC h (fun hc h=>?_) fun hc h=>?_
     ·refine tR [] [2,3] ?_
      cases h
      have h:=bE hk1
      cases h
      refine aP (tq [2,3])
     ·refine aO (tS ?_)
      refine tRe [] [5,7,20,21,22] (tE [.keep [5,7,20,21,22]] ((v3++y2.1),IntKind.i64.wrap (v2+(1:Int))) h)
   ·cases h
    refine cZ (tG [.keep [7]])
  ·refine tS ?_
   refine tR [iX 1 { cs:=[.str v4] } (show (v4.map cU)=byteCells v4 from rfl)] [2,3] ?_
   cases h
   refine aP (tq [2,3])
theorem aC1 {F:Nat} {rec_ref3_Numbers:aC→(List Bool)→Option ((List Bool))} (hrec_ref3_Numbers:∀ {a0:aC},∀ {c1:List Bool},∀ {r:(List Bool)},rec_ref3_Numbers a0 c1=some r→aG Tryz.prog 21 [.agg (aZ a0),.vw (1000000,0)] [.arr 56 1 (c1.map cB)] (.tup []) [.arr 56 1 (r.map cB)]) {a0:aC} {c1:List Bool} {r:(List Bool)} (h:lK F rec_ref3_Numbers a0 c1=some r):aG Tryz.prog 21 [.agg (aZ a0),.vw (1000000,0)] [.arr 56 1 (c1.map cB)] (.tup []) [.arr 56 1 (r.map cB)]:=by
 rw [lK] at h
 refine aG.intro (N:=35) Tryz.func21 rfl rfl rfl rfl rfl fun e=>?_
 refine tR [] [1,2,1000000] ?_
 refine jc h [1,2,1000000] (fun p=>[(1000000,.arr 56 1 (p.map cB))]) (fun s h=>?_) (fun v3 h=>?_)
 ·obtain ⟨z1,hz1,h⟩:=aW h
  refine tR [iB 12 hz1] [1,2,18,1000000] ?_
  refine tC h (fun hc h=>?_) fun hc h=>?_
  ·obtain ⟨hp1,h⟩:=aL h
   cases h
   refine mH mixed 1 (.take 0 (.take 1 (.take 2 (.take 3 (.take 4 (.all (.alt 5 .done .stop))))))) ([0,0,2,1,15,23],[0,0,2,1,12,16]) 31 [(5,{ cs:=cB (c1.getD a0.f1.toNat false),es:=some ((c1.set a0.f1.toNat true).map cB) })] [1,2,1000000] [] [(1,.vw (1000000,0)),(2,mX a0),(1000000,.arr 56 1 ((c1.set a0.f1.toNat true).map cB))] ((fun (o4:Prop)=>fun (o5:Prop)=>[(4,o4),(0,o5)]) (0≤a0.f1∧a0.f1 < 256) ((c1.map cB)[a0.f1.toNat]? = some (cB (c1.getD a0.f1.toNat false))∧(c1.map cB).set a0.f1.toNat (cB true)=((c1.set a0.f1.toNat true).map cB))) 0 (by kernel_rfl) (by kernel_rfl) (by kernel_rfl) (have p4:=(hp1).1; have p5:=⟨(bX (d:=false) cB ⟨(hp1).1.1,(hp1).2⟩).2,oU cB rfl⟩; ⟨p4,p5⟩) (tJ [.keep [1,2,1000000]])
  ·cases h
   refine aO (tJ [.keep [1,2,1000000]])
 ·refine tR [iW 2 (cO bD (xs:=a0.f4))] [1,25,26,27,1000000] ?_
  refine jct h [1000000] (fun p=>[(1000000,.arr 56 1 (p.map cB))]) (fun s h=>?_) (fun v4 h=>?_)
  ·refine aU ?_
   refine tL2 (iK F a0 rec_ref3_Numbers) [.keep [1,25,26,27,1000000]] [1,25,26,27,1000000] (fun v1 v2=>[(27,dI v1),(1000000,.arr 56 1 (v2.map cB))]) F (0:Int) v3 h fun n v1 v2 h=>?_
   rw [iK] at h
   refine tR [] [1,25,26,27,28,1000000] ?_
   refine aK ?_
   refine tC h (fun hc h=>?_) fun hc h=>?_
   ·refine aO (tS ?_)
    refine aK ?_
    refine aU ?_
    obtain ⟨hp2,h⟩:=aL h
    refine tR [iI 0 (rV (d:=dM) eY hp2)] [1,5,25,26,27,1000000] ?_
    obtain ⟨y1,hy1,h⟩:=aH h
    refine tRe [iC 2 [1000000] (hrec_ref3_Numbers hy1)] [1,25,26,27,1000000] (tS ?_)
    refine tRe [] [1,25,26,27,1000000] (tE [.keep [1,25,26,27,1000000]] (IntKind.i64.wrap (v1+(1:Int)),y1) h)
   ·cases h
    refine cZ (tJ [.keep [1000000]])
  ·cases h
   refine tq [1000000]
theorem aC5 {F:Nat} (n:Nat):∀ {a0:aC} {c1:List Bool} {r:(List Bool)},gX F n a0 c1=some r→aG Tryz.prog 21 [.agg (aZ a0),.vw (1000000,0)] [.arr 56 1 (c1.map cB)] (.tup []) [.arr 56 1 (r.map cB)]:=by
 induction n with
 | zero=>intro a0 c1 r h; exact absurd (show (none:Option ((List Bool)))=some r from h) (by simp)
 | succ n ih=>intro a0 c1 r h; exact aC1 ih h
theorem aT7 {F:Nat} {a0:aC} {c1:List Bool} {r:(List Bool)} (h:vL F a0 c1=some r):aG Tryz.prog 21 [.agg (aZ a0),.vw (1000000,0)] [.arr 56 1 (c1.map cB)] (.tup []) [.arr 56 1 (r.map cB)]:=aC5 F h
theorem aR3 {F:Nat} {a0:bC} {r:Int} (h:pD F a0=some r):aG Tryz.prog 8 [.agg (bP a0)] [] (.d (.v (.int .i64 r))) []:=by
 rw [pD] at h
 refine aG.intro (N:=96) Tryz.func8 rfl rfl rfl rfl rfl fun e=>?_
 refine tR [] [1] ?_
 refine aK ?_
 refine tR [iW 2 (cO aF (xs:=a0.f1))] [1,15] ?_
 refine tC h (fun hc h=>?_) fun hc h=>?_
 ·refine tR [] [2] ?_
  cases h
  refine aP (tq [2])
 ·refine aO (tS ?_)
  refine tR [iX 0 { es:=some ((List.replicate 256 false).map cB) } (show aF3 Tryz.prog 56 256 4∧List.replicate 256 (cB false)=((List.replicate 256 false).map cB) from ⟨(by show _=_; kernel_rfl),zO cB rfl⟩),iX 1 { es:=some ((List.replicate 256 false).map cB) } (show aF3 Tryz.prog 56 256 4∧List.replicate 256 (cB false)=((List.replicate 256 false).map cB) from ⟨(by show _=_; kernel_rfl),zO cB rfl⟩)] [1,3,4] ?_
  refine aK ?_
  refine tR [iW 2 (cO aF (xs:=a0.f1))] [1,3,4,17,18,19] ?_
  refine jEt h [1,3,4] (fun p=>[(3,.arr 56 1 (p.1.map cB)),(4,.arr 56 1 (p.2.map cB))]) (fun s h hk1=>?_) (fun s h=>?_)
  ·refine aU ?_
   refine tL3 (fE F a0) [.keep [1,3,4,17,18,19]] [1,3,4,17,18,19] (fun v1 v2 v3=>[(3,.arr 56 1 (v1.map cB)),(4,.arr 56 1 (v2.map cB)),(19,dI v3)]) F (List.replicate 256 false) (List.replicate 256 false) (0:Int) h fun n v1 v2 v3 h=>?_
   rw [fE] at h
   refine tR [] [1,3,4,17,18,19,20] ?_
   refine aK ?_
   refine tC h (fun hc h=>?_) fun hc h=>?_
   ·refine aO (tS ?_)
    refine aK ?_
    refine aU ?_
    obtain ⟨hp1,h⟩:=aL h
    refine tR [iI 1 (bX (d:=bB) aF hp1)] [1,3,4,5,6,17,18,19] ?_
    refine aK ?_
    obtain ⟨z1,hz1,h⟩:=aW h
    obtain ⟨z2,hz2,h⟩:=aW h
    refine tR [iB 6 hz1,iB 7 hz2] [1,3,4,5,6,17,18,19,31] ?_
    refine tC h (fun hc h=>?_) fun hc h=>?_
    ·refine tR [] [2] ?_
     cases h
     have h:=bE hk1
     cases h
     refine aP (tq [2])
    ·refine aO (tS ?_)
     refine aK ?_
     obtain ⟨hp2,h⟩:=aL h
     obtain ⟨z3,hz3,h⟩:=aW h
     obtain ⟨z4,hz4,h⟩:=aW h
     refine mO mixed [(9,{ cs:=aF (a0.f1.getD (IntKind.i64.wrap (v3 - (1:Int))).toNat bB) }),(11,{ rw:=some (dI z3) }),(13,{ rw:=some (dB z4) })] [1,3,4,6,17,18,19,45] [] [(1,kM a0),(3,.arr 56 1 (v1.map cB)),(4,.arr 56 1 (v2.map cB)),(6,.box [dI ((a0.f1.getD v3.toNat bB).f0),dI (((a0.f1.getD v3.toNat bB).f1).f0),dI (((a0.f1.getD v3.toNat bB).f1).f1),.d (.str (((a0.f1.getD v3.toNat bB).f1).f2)),.d (.sl 1 ((((a0.f1.getD v3.toNat bB).f1).f3).map cS)),.d (.sl 5 ((((a0.f1.getD v3.toNat bB).f1).f4).map bD)),.d (.str ((a0.f1.getD v3.toNat bB).f2))]),(17,.d (.sl 7 (a0.f1.map aF))),(18,dI (a0.f1.length:Int)),(19,dI v3),(45,dB z4)] [(3,((((decide (v3 > (0:Int))) == true) && true)=true→True)),(0,((((decide (v3 > (0:Int))) == true) && true)=true→True)),(0,((((decide (v3 > (0:Int))) == true) && true)=true→True)),(0,((((decide (v3 > (0:Int))) == true) && true)=true→True)),(0,((((decide (v3 > (0:Int))) == true) && true)=true→True)),(0,((((decide (v3 > (0:Int))) == true) && true)=true→True)),(0,((((decide (v3 > (0:Int))) == true) && true)=true→0≤(IntKind.i64.wrap (v3 - (1:Int)))∧(a0.f1.map aF)[(IntKind.i64.wrap (v3 - (1:Int))).toNat]? = some (aF (a0.f1.getD (IntKind.i64.wrap (v3 - (1:Int))).toNat bB)))),(0,((((decide (v3 > (0:Int))) == true) && true)=true→True)),(0,((((decide (v3 > (0:Int))) == true) && true)=true→(True)∧dI ((a0.f1.getD (IntKind.i64.wrap (v3 - (1:Int))).toNat bB).f0)=dI z3)),(0,((((decide (v3 > (0:Int))) == true) && true)=true→True)),(0,(True)∧dB (bif (decide (v3 > (0:Int))) then (decide (((a0.f1.getD v3.toNat bB).f0)≤z3)) else false)=dB z4)] 0 (by kernel_rfl) (⟨tr,tr,tr,tr,tr,tr,(fun hg=>bX (d:=bB) aF (hp2 hg)),tr,(fun hg=>⟨trivial,(by subst hz3; rfl)⟩),tr,⟨trivial,(by subst hz4; rfl)⟩⟩) ?_
     refine tC h (fun hc h=>?_) fun hc h=>?_
     ·refine tR [] [2] ?_
      cases h
      have h:=bE hk1
      cases h
      refine aP (tq [2])
     ·refine aO (tS ?_)
      refine aK ?_
      obtain ⟨y1,hy1,h⟩:=aH h
      refine tR [iC 2 [] (bD1 hy1)] [1,3,4,6,8,17,18,19] ?_
      refine tR [] [1,3,4,6,8,17,18,19,53] ?_
      refine tC h (fun hc h=>?_) fun hc h=>?_
      ·refine tR [] [2] ?_
       cases h
       have h:=bE hk1
       cases h
       refine aP (tq [2])
      ·refine aO (tS ?_)
       refine aK ?_
       obtain ⟨z5,hz5,h⟩:=aW h
       refine tR [iB 3 hz5] [1,3,4,6,17,18,19,58] ?_
       refine tC h (fun hc h=>?_) fun hc h=>?_
       ·refine tR [] [2] ?_
        cases h
        have h:=bE hk1
        cases h
        refine aP (tq [2])
       ·refine aO (tS ?_)
        obtain ⟨hp3,h⟩:=aL h
        refine tR [iP 2 (show 0≤((a0.f1.getD v3.toNat bB).f0)∧((a0.f1.getD v3.toNat bB).f0) < 256 from (hp3).1),iX 3 { cs:=cB (v1.getD ((a0.f1.getD v3.toNat bB).f0).toNat false),es:=some ((v1.set ((a0.f1.getD v3.toNat bB).f0).toNat true).map cB) } (show (v1.map cB)[((a0.f1.getD v3.toNat bB).f0).toNat]? = some (cB (v1.getD ((a0.f1.getD v3.toNat bB).f0).toNat false))∧(v1.map cB).set ((a0.f1.getD v3.toNat bB).f0).toNat (cB true)=((v1.set ((a0.f1.getD v3.toNat bB).f0).toNat true).map cB) from ⟨(bX (d:=false) cB ⟨(hp3).1.1,(hp3).2⟩).2,oU cB rfl⟩)] [1,3,4,6,17,18,19] ?_
        obtain ⟨y2,hy2,h⟩:=aH h
        refine tRe [iC 2 [4] (aT7 hy2)] [1,3,4,17,18,19] (tS ?_)
        refine tRe [] [1,3,4,17,18,19] (tE [.keep [1,3,4,17,18,19]] ((v1.set ((a0.f1.getD v3.toNat bB).f0).toNat true),y2,IntKind.i64.wrap (v3+(1:Int))) h)
   ·cases h
    refine cZ (tG [.keep [1,3,4]])
  ·obtain ⟨v4,v5⟩:=s
   try dsimp only at h
   refine tS ?_
   refine aK ?_
   refine tR [] [1,3,4,66] ?_
   refine jEt h [1] (fun p=>[]) (fun s h hk2=>?_) (fun s h=>?_)
   ·refine aU ?_
    refine tL1 (fD F v4 v5) [.keep [1,3,4,66]] [1,3,4,66] (fun v6=>[(66,dI v6)]) F (0:Int) h fun n v6 h=>?_
    rw [fD] at h
    refine tR [] [1,3,4,66,67] ?_
    refine aK ?_
    refine tC h (fun hc h=>?_) fun hc h=>?_
    ·refine aO (tS ?_)
     refine aK ?_
     refine aU ?_
     refine tR [] [1,3,4,9,66] ?_
     obtain ⟨hp4,h⟩:=aL h
     obtain ⟨hp5,h⟩:=aL h
     refine tR [iP 1 (show 0≤v6∧v6 < 256 from (hp4).1),iX 2 { cs:=cB (v5.getD v6.toNat false) } (show (v5.map cB)[v6.toNat]? = some (cB (v5.getD v6.toNat false)) from (bX (d:=false) cB ⟨(hp4).1.1,(hp4).2⟩).2),iF 5 {} (show ((((v5.getD v6.toNat false) == true) && true)=true→0≤v6∧v6 < 256) from (fun hg=>((hp5 hg)).1)),iF 6 { cs:=cB (v4.getD v6.toNat false) } (show ((((v5.getD v6.toNat false) == true) && true)=true→(v4.map cB)[v6.toNat]? = some (cB (v4.getD v6.toNat false))) from (fun hg=>(bX (d:=false) cB ⟨((hp5 hg)).1.1,((hp5 hg)).2⟩).2))] [1,3,4,66,77] ?_
     refine tC h (fun hc h=>?_) fun hc h=>?_
     ·refine tR [] [2] ?_
      cases h
      have h:=bE hk2
      cases h
      refine aP (tq [2])
     ·refine aO (tS ?_)
      refine tRe [] [1,3,4,66] (tE [.keep [1,3,4,66]] (IntKind.i64.wrap (v6+(1:Int))) h)
    ·cases h
     refine cZ (tG [.keep [1]])
   ·refine tS ?_
    refine aK ?_
    refine tR [iW 2 (cO aF (xs:=a0.f1))] [1,80,81,82] ?_
    refine jEt h [] (fun p=>[]) (fun s h hk3=>?_) (fun s h=>?_)
    ·refine aU ?_
     refine tL1 (fC F a0) [.keep [1,80,81,82]] [1,80,81,82] (fun v7=>[(82,dI v7)]) F (0:Int) h fun n v7 h=>?_
     rw [fC] at h
     refine tR [] [1,80,81,82,83] ?_
     refine aK ?_
     refine tC h (fun hc h=>?_) fun hc h=>?_
     ·refine aO (tS ?_)
      refine aK ?_
      refine aU ?_
      obtain ⟨hp6,h⟩:=aL h
      refine tR [iI 0 (bX (d:=bB) aF hp6)] [1,11,80,81,82] ?_
      refine tR [] [1,11,80,81,82,90] ?_
      refine tC h (fun hc h=>?_) fun hc h=>?_
      ·refine aK ?_
       refine tR [] [94] ?_
       refine tC h (fun hc h=>?_) fun hc h=>?_
       ·refine tR [] [2] ?_
        cases h
        have h:=bE hk3
        cases h
        refine aP (tq [2])
       ·refine aO (tS ?_)
        refine tR [] [2] ?_
        cases h
        have h:=bE hk3
        cases h
        refine aP (tq [2])
      ·refine aO (tS ?_)
       refine tRe [] [1,80,81,82] (tE [.keep [1,80,81,82]] (IntKind.i64.wrap (v7+(1:Int))) h)
     ·cases h
      refine cZ (tG [.keep []])
    ·refine tS ?_
     refine tR [] [2] ?_
     cases h
     refine aP (tq [2])
end Go.Vm.PgfG
