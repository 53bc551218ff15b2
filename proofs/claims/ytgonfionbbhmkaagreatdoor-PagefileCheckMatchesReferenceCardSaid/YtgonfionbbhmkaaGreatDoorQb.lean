/-
  Texts.
-/
import Derived.Test.YtgonfionbbhmkaaGreatDoorQa
import Derived.Test.YtgonfionbbhmkaaGreatDoorVmE
set_option maxRecDepth 20000
namespace Go.Vm.PgfG
open Go.Proofs
theorem aT8 {F:Nat} {a0:List UInt8} {r:aC×Int×Int} (h:zP F a0=some r):aG Tryz.prog 65 [.d (.str a0)] [.glo 6 (aA.flatMap (cI .u64))] (.tup [.agg (aZ r.1),.d (.v (.int .i64 r.2.1)),.d (.v (.int .i64 r.2.2))]) [.glo 6 (aA.flatMap (cI .u64))]:=by
 rw [zP] at h
 refine aG.cK8 (N:=32) Tryz.func65 rfl rfl rfl rfl rfl (enters_of Tryz.func105 (by kernel_rfl) rfl) cR4 fun e he=>?_
 refine tR [] [0,2,3,4,1000000] ?_
 refine cJ5 1 8 105 3 [] [0,2,3,4,1000000] [] [] 1 (by kernel_rfl) (trivial) rfl rfl rfl rfl rfl rfl rfl (by decide) he (fun e=>?_)
 refine tR [] [2,3,4,5,1000000] ?_
 obtain ⟨y1,hy1,h⟩:=aH h
 refine tR [iC 0 [5] (jJ hy1)] [2,3,4,5,1000000] ?_
 obtain ⟨y2,hy2,h⟩:=aH h
 refine tR [iC 0 [5] (yJ hy2)] [2,3,4,5,1000000] ?_
 obtain ⟨y3,hy3,h⟩:=aH h
 refine tR [iC 0 [5] (jJ hy3)] [2,3,4,5,1000000] ?_
 refine jc h [2,3,4,1000000] (fun p=>[(3,.box [dI 0]),(4,.box [dI 0]),(1000000,.glo 6 (aA.flatMap (cI .u64)))]) (fun s h=>?_) (fun s h=>?_)
 ·refine tR [] [2,3,4,5,17,1000000] ?_
  refine tC h (fun hc h=>?_) fun hc h=>?_
  ·obtain ⟨y4,hy4,h⟩:=aH h
   cases h
   refine tRe [iC 3 [] (fP hy4)] [2,3,4,1000000] (tJ [.keep [2,3,4,1000000]])
  ·cases h
   refine aO (tJ [.keep [2,3,4,1000000]])
 ·refine jc h [2,3,4,1000000] (fun p=>[]) (fun s h=>?_) (fun s h=>?_)
  ·obtain ⟨y5,hy5,h⟩:=aH h
   refine tR [iC 1 [1000000] (uO hy5)] [2,3,4,7,1000000] ?_
   refine tR [] [2,3,4,7,28,1000000] ?_
   refine tC h (fun hc h=>?_) fun hc h=>?_
   ·obtain ⟨y6,hy6,h⟩:=aH h
    cases h
    refine tRe [iC 1 [] (fP hy6)] [2,3,4,1000000] (tJ [.keep [2,3,4,1000000]])
   ·cases h
    refine aO (tJ [.keep [2,3,4,1000000]])
  ·refine tR [] [2,3,4,1000000] ?_
   cases h
   refine aP (tq [2,3,4,1000000])
theorem zW {F:Nat} {a0:Int} {c1:List UInt8} {c2:Int} {c3:List aJ} {r:(List UInt8)×Int×(List aJ)} (h:oO F a0 c1 c2 c3=some r):aG Tryz.prog 46 [.bp 1000000 0,.d (.v (.int .i64 a0))] [.box [.d (.str c1),.d (.v (.int .i64 c2)),.own 49 7 (c3.map aF)],.glo 6 (aA.flatMap (cI .u64))] (.tup []) [.box [.d (.str r.1),.d (.v (.int .i64 r.2.1)),.own 49 7 (r.2.2.map aF)],.glo 6 (aA.flatMap (cI .u64))]:=by
 rw [oO] at h
 refine aG.intro (N:=68) Tryz.func46 rfl rfl rfl rfl rfl fun e=>?_
 obtain ⟨y1,hy1,h⟩:=aH h
 obtain ⟨y2,hy2,h⟩:=aH h
 refine tR [iC 1 [1000000] (gR hy1),iC 2 [1000001] (aT8 hy2)] [0,1,4,6,1000000,1000001] ?_
 obtain ⟨y3,hy3,h⟩:=aH h
 obtain ⟨y4,hy4,h⟩:=aH h
 obtain ⟨y5,hy5,h⟩:=aH h
 refine tR [iC 0 [] (yL hy3),iC 2 [1000000] (gR hy4),iC 3 [] (aP1 hy5)] [0,1,4,6,7,8,1000000,1000001] ?_
 refine aK ?_
 refine tR [] [0,1,4,7,31,1000000,1000001] ?_
 refine tC h (fun hc h=>?_) fun hc h=>?_
 ·cases h
 ·refine aO (tS ?_)
  refine tR [] [0,1,9,1000000,1000001] ?_
  obtain ⟨y6,hy6,h⟩:=aH h
  refine tR [iC 5 [] (kG hy6)] [0,9,10,11,1000000,1000001] ?_
  refine aK ?_
  refine tR [] [0,9,10,46,1000000,1000001] ?_
  refine tC h (fun hc h=>?_) fun hc h=>?_
  ·obtain ⟨hp1,h⟩:=aL h
   refine cS0 mixed 8 [(8,{ cs:=aF (y4.2.2.2.getD y6.1.toNat bB),es:=some ((y4.2.2.2.set y6.1.toNat (aJ.mk a0 y2.1 y5.1)).map aF) })] [1000000,1000001] [] [(1000000,.box [.d (.str y4.2.1),dI y4.2.2.1,.own 49 7 ((y4.2.2.2.set y6.1.toNat (aJ.mk a0 y2.1 y5.1)).map aF)]),(1000001,.glo 6 (aA.flatMap (cI .u64)))] [(7,0≤y6.1∧y6.1 < (y4.2.2.2.map aF).length),(0,(y4.2.2.2.map aF)[y6.1.toNat]? = some (aF (y4.2.2.2.getD y6.1.toNat bB))∧(y4.2.2.2.map aF).set y6.1.toNat (aF (aJ.mk a0 y2.1 y5.1))=((y4.2.2.2.set y6.1.toNat (aJ.mk a0 y2.1 y5.1)).map aF))] 0 (by kernel_rfl) (⟨dQ aF hp1,⟨(bX (d:=bB) aF hp1).2,oU aF rfl⟩⟩) ?_
   cases h
   refine aP (tq [1000000,1000001])
  ·refine aO (tS ?_)
   obtain ⟨hp2,h⟩:=aL h
   cases h
   refine mH mixed 2 (.take 0 (.take 1 (.take 2 (.take 3 (.take 4 (.take 6 (.take 7 (.all (.alt 5 (.all (.alt 8 (.all (.alt 9 (.take 10 (.take 11 (.take 12 (.all (.alt 13 .done .stop))))) .stop)) .stop)) (.alt 8 (.take 5 (.all (.alt 9 (.take 10 (.take 11 (.take 12 (.all (.alt 13 .done .stop))))) .stop))) .stop)))))))))) ([0,0,2,4,8,16,0,0,128,352,1023,2047,3071,5119],[0,0,2,4,8,16,0,0,128,352,1,1024,2048,4608]) 7423 [(8,{ es:=some (([(aJ.mk a0 y2.1 y5.1)]).map aF),take:=[0] }),(9,{ xs:=[1000000],vout:=[.box [.d (.str y4.2.1),dI y4.2.2.1,.junk]],res:=.own 49 7 ((y4.2.2.2.take y6.1.toNat++([(aJ.mk a0 y2.1 y5.1)])++y4.2.2.2.drop y6.1.toNat).map aF),take:=[2] })] [1000000,1000001] [] [(1000000,.box [.d (.str y4.2.1),dI y4.2.2.1,.own 49 7 ((y4.2.2.2.take y6.1.toNat++([(aJ.mk a0 y2.1 y5.1)])++y4.2.2.2.drop y6.1.toNat).map aF)]),(1000001,.glo 6 (aA.flatMap (cI .u64)))] ((fun (o8:Prop)=>fun (o9:Prop)=>[(8,o8),(0,o9),(4,o8),(1,o9)]) ((([(aJ.mk a0 y2.1 y5.1)]).map aF)=(([(aJ.mk a0 y2.1 y5.1)]).map aF)) (aG Tryz.prog 68 [.vw (1000000,3),dI y6.1,.own 1099511627825 7 (([(aJ.mk a0 y2.1 y5.1)]).map aF)] [.box [.d (.str y4.2.1),dI y4.2.2.1,oW5 y4.2.2.2]] (.own 49 7 ((y4.2.2.2.take y6.1.toNat++([(aJ.mk a0 y2.1 y5.1)])++y4.2.2.2.drop y6.1.toNat).map aF)) [.box [.d (.str y4.2.1),dI y4.2.2.1,.junk]])) 4 (by kernel_rfl) (by kernel_rfl) (by kernel_rfl) (have p8:=rfl; have p9:=bQ9 hp2 (by decide) (by kernel_rfl) (by kernel_rfl); ⟨p8,p9,p8,p9⟩) (tq [1000000,1000001])
theorem sG {F:Nat} {c0:List UInt8} {c1:Int} {c2:List aJ} {r:bC×(List UInt8)×Int×(List aJ)} (h:jY F c0 c1 c2=some r):aG Tryz.prog 29 [.bp 1000000 0] [.box [.d (.str c0),.d (.v (.int .i64 c1)),.d (.sl 7 (c2.map aF))],.glo 6 (aA.flatMap (cI .u64))] (.agg (bP r.1)) [.box [.d (.str r.2.1),.d (.v (.int .i64 r.2.2.1)),.d (.sl 7 (r.2.2.2.map aF))],.glo 6 (aA.flatMap (cI .u64))]:=by
 rw [jY] at h
 refine aG.intro (N:=72) Tryz.func29 rfl rfl rfl rfl rfl fun e=>?_
 refine tR [] [0,2,1000000,1000001] ?_
 obtain ⟨y8,hy1,h⟩:=aH h
 refine tR [iC 6 [] (pA hy1)] [0,2,1000000,1000001] ?_
 refine bP2 h (fun (_:Empty)=>([]:Fr)) (fun s h hk1=>?_) (fun s h=>?_)
 ·refine aU ?_
  refine tL3 (eP F) [.keep [0,2,1000000,1000001]] [0,2,1000000,1000001] (fun v1 v2 v3=>[(1000000,.box [.d (.str v1),dI v2,oW5 v3])]) F c0 c1 y8 h fun n v1 v2 v3 h=>?_
  rw [eP] at h
  refine aU ?_
  obtain ⟨y1,hy2,h⟩:=aH h
  obtain ⟨y2,hy3,h⟩:=aH h
  refine tR [iC 1 [1000000] (gR hy2),iC 2 [] (aQ6 hy3)] [0,2,3,1000000,1000001] ?_
  refine aU ?_
  obtain ⟨hp1,h⟩:=aL h
  obtain ⟨z1,hz1,h⟩:=aW h
  refine tR [iP 1 (show 0≤(0:Int)∧(0:Int) < (y2.map cS).length from dQ cS hp1),iX 2 { cs:=cS (y2.getD (0:Int).toNat []) } (show (y2.map cS)[(0:Int).toNat]? = some (cS (y2.getD (0:Int).toNat [])) from (bX (d:=[]) cS hp1).2),iW 6 (cO cS (xs:=y2)),iB 8 hz1] [0,2,3,18,1000000,1000001] ?_
  refine tC h (fun hc h=>?_) fun hc h=>?_
  ·obtain ⟨hp2,h⟩:=aL h
   obtain ⟨y3,hy4,h⟩:=aH h
   obtain ⟨y4,hy5,h⟩:=aH h
   refine tRe [iP 2 (show 0≤(1:Int)∧(1:Int) < (y2.map cS).length from dQ cS hp2),iX 3 { cs:=cS (y2.getD (1:Int).toNat []) } (show (y2.map cS)[(1:Int).toNat]? = some (cS (y2.getD (1:Int).toNat [])) from (bX (d:=[]) cS hp2).2),iC 4 [] (mQ hy4),iC 5 [1000000,1000001] (zW hy5)] [0,2,1000000,1000001] (tE [.keep [0,2,1000000,1000001]] (y4.1,y4.2.1,y4.2.2) h)
  ·obtain ⟨hp3,h⟩:=aL h
   obtain ⟨z2,hz2,h⟩:=aW h
   refine tR [iP 1 (show 0≤(0:Int)∧(0:Int) < (y2.map cS).length from dQ cS hp3),iX 2 { cs:=cS (y2.getD (0:Int).toNat []) } (show (y2.map cS)[(0:Int).toNat]? = some (cS (y2.getD (0:Int).toNat [])) from (bX (d:=[]) cS hp3).2),iW 6 (cO cS (xs:=y2)),iB 8 hz2] [0,2,3,34,1000000,1000001] ?_
   refine tC h (fun hc h=>?_) fun hc h=>?_
   ·obtain ⟨hp4,h⟩:=aL h
    obtain ⟨y5,hy6,h⟩:=aH h
    obtain ⟨y6,hy7,h⟩:=aH h
    refine tRe [iP 2 (show 0≤(3:Int)∧(3:Int) < (y2.map cS).length from dQ cS hp4),iX 3 { cs:=cS (y2.getD (3:Int).toNat []) } (show (y2.map cS)[(3:Int).toNat]? = some (cS (y2.getD (3:Int).toNat [])) from (bX (d:=[]) cS hp4).2),iC 4 [] (mQ hy6),iC 5 [1000000] (xI hy7)] [0,2,1000000,1000001] (tE [.keep [0,2,1000000,1000001]] (y6.1,y6.2.1,y6.2.2) h)
   ·obtain ⟨hp5,h⟩:=aL h
    obtain ⟨z3,hz3,h⟩:=aW h
    refine tR [iP 1 (show 0≤(0:Int)∧(0:Int) < (y2.map cS).length from dQ cS hp5),iX 2 { cs:=cS (y2.getD (0:Int).toNat []) } (show (y2.map cS)[(0:Int).toNat]? = some (cS (y2.getD (0:Int).toNat [])) from (bX (d:=[]) cS hp5).2),iW 6 (cO cS (xs:=y2)),iB 8 hz3] [0,2,3,50,1000000,1000001] ?_
    refine tC h (fun hc h=>?_) fun hc h=>?_
    ·obtain ⟨hp6,h⟩:=aL h
     obtain ⟨y7,hy8,h⟩:=aH h
     refine tR [iP 2 (show 0≤(4:Int)∧(4:Int) < (y2.map cS).length from dQ cS hp6),iX 3 { cs:=cS (y2.getD (4:Int).toNat []) } (show (y2.map cS)[(4:Int).toNat]? = some (cS (y2.getD (4:Int).toNat [])) from (bX (d:=[]) cS hp6).2),iC 4 [] (mQ hy8)] [0,2,1000000,1000001] ?_
     refine tR [iH 3 { frz:=[(1000000,3)] }] [2,1000000,1000001] ?_
     cases h
     have h:=bE hk1
     cases h
     refine aP (tqc [.thawc 1000000 2,.keep [2,1000000,1000001]])
    ·cases h
 ·exact s.elim
theorem aH2 {F:Nat} {a0:List UInt8} {r:(List bC)×Int} (h:sO F a0=some r):aG Tryz.prog 11 [.d (.str a0)] [.glo 0 (aQ.flatMap (cI .u32)),.glo 6 (aA.flatMap (cI .u64))] (.tup [.d (.sl 2 (r.1.map bP)),.d (.v (.int .i64 r.2))]) [.glo 0 (aQ.flatMap (cI .u32)),.glo 6 (aA.flatMap (cI .u64))]:=by
 rw [sO] at h
 refine aG.cK8 (N:=40) Tryz.func11 rfl rfl rfl rfl rfl (enters_of Tryz.func27 (by kernel_rfl) rfl) cW9 fun e he=>?_
 refine tR [] [0,2,3,1000000,1000001] ?_
 refine aK ?_
 refine tR [] [0,2,3,8,1000000,1000001] ?_
 refine tC h (fun hc h=>?_) fun hc h=>?_
 ·cases h
 ·refine aO (tS ?_)
  refine cJ5 1 9 27 2 [] [0,2,3,1000000,1000001] [] [] 1 (by kernel_rfl) (trivial) rfl rfl rfl rfl rfl rfl rfl (by decide) he (fun e=>?_)
  refine kI [(1,{ take:=[0] })] [0,2,3,4,1000000,1000001] [.nilc 4 2 49 7,.keep [0,2,3,4,1000000,1000001]] [(0,.d (.str a0)),(2,.box [oW0 []]),(3,.box [dI 0]),(4,.box [.d (.str a0),dI 0,oW5 []]),(1000000,.glo 0 (aQ.flatMap (cI .u32))),(1000001,.glo 6 (aA.flatMap (cI .u64)))] [] 4 (by kernel_rfl) (trivial) ?_
  refine aK ?_
  obtain ⟨y3,hy1,h⟩:=aH h
  obtain ⟨hp1,h⟩:=aL h
  refine tR [iC 0 [4] (gR hy1),iP 1 hp1] [0,2,3,4,14,1000000,1000001] ?_
  refine tC h (fun hc h=>?_) fun hc h=>?_
  ·cases h
  ·refine aO (tS ?_)
   refine jc h [0,2,3,1000000,1000001] (fun p=>[(0,.d (.str a0)),(2,.box [oW0 p]),(3,.box [dI 0]),(1000000,.glo 0 (aQ.flatMap (cI .u32))),(1000001,.glo 6 (aA.flatMap (cI .u64)))]) (fun s h=>?_) (fun v5 h=>?_)
   ·refine aU ?_
    refine tL (fun n p=>jU F n p.1 p.2.1 p.2.2.1 p.2.2.2) [.frz (4,3),.thawc 4 2,.keep [0,2,3,4,1000000,1000001]] [0,2,3,4,1000000,1000001] (fun p=>[(2,.box [oW0 p.1]),(4,.box [.d (.str p.2.1),dI p.2.2.1,.d (.sl 7 (p.2.2.2.map aF))])]) F ([],y3.2.1,y3.2.2.1,y3.2.2.2) h fun n p h=>?_
    obtain ⟨v1,v2,v3,v4⟩:=p
    have h:jU F (n+1) v1 v2 v3 v4=some s:=h
    rw [jU] at h
    refine aK ?_
    refine tR [iW 5 (cO bP (xs:=v1))] [0,2,3,4,22,1000000,1000001] ?_
    refine tC h (fun hc h=>?_) fun hc h=>?_
    ·refine aO (tS ?_)
     refine aU ?_
     refine aK ?_
     refine tR [iW 1 (cO bP (xs:=v1))] [0,2,3,4,25,1000000,1000001] ?_
     refine tC h (fun hc h=>?_) fun hc h=>?_
     ·cases h
     ·refine aO (tS ?_)
      obtain ⟨y1,hy2,h⟩:=aH h
      refine tR [iC 0 [4,1000001] (sG hy2)] [0,2,3,4,5,1000000,1000001] ?_
      refine aK ?_
      obtain ⟨y2,hy3,h⟩:=aH h
      refine tR [iC 1 [1000001] (rW hy3)] [0,2,3,4,5,29,1000000,1000001] ?_
      refine tC h (fun hc h=>?_) fun hc h=>?_
      ·cases h
      ·refine aO (tS ?_)
       obtain ⟨hp2,h⟩:=aL h
       refine tRe [iR 2 (([y1.1]).map bP),iE 3 (gB bP hp2)] [0,2,3,4,1000000,1000001] (tE [.keep [0,2,3,4,1000000,1000001]] ((v1++([y1.1])),y1.2.1,y1.2.2.1,y1.2.2.2) h)
    ·cases h
     refine cZ (tJ [.keep [0,2,3,1000000,1000001]])
   ·refine aK ?_
    obtain ⟨y4,hy4,h⟩:=aH h
    refine tR [iCh 1 { frz:=[(2,1)],xs:=[1000000,1000001] } (wW hy4)] [2,3,37,1000000,1000001] ?_
    refine tC h (fun hc h=>?_) fun hc h=>?_
    ·cases h
    ·refine aO (tS ?_)
     obtain ⟨y5,hy5,h⟩:=aH h
     refine tR [iC 1 [1000001] (aL5 hy5)] [2,3,1000000,1000001] ?_
     cases h
     refine aP (tq [2,3,1000000,1000001])
theorem aQ0 {F:Nat} {a0:List UInt8} {r:bC×Int} (h:wX F a0=some r):aG Tryz.prog 15 [.d (.str a0)] [.glo 0 (aQ.flatMap (cI .u32)),.glo 6 (aA.flatMap (cI .u64))] (.tup [.agg (bP r.1),.d (.v (.int .i64 r.2))]) [.glo 0 (aQ.flatMap (cI .u32)),.glo 6 (aA.flatMap (cI .u64))]:=by
 rw [wX] at h
 refine aG.intro (N:=21) Tryz.func15 rfl rfl rfl rfl rfl fun e=>?_
 refine tR [] [0,2,1000000,1000001] ?_
 obtain ⟨y1,hy1,h⟩:=aH h
 refine tR [iC 1 [1000000,1000001] (aH2 hy1)] [2,4,5,1000000,1000001] ?_
 refine aK ?_
 refine tR [] [2,4,5,12,1000000,1000001] ?_
 refine tC h (fun hc h=>?_) fun hc h=>?_
 ·refine kI [(0,{ take:=[0] })] [2,3,1000000,1000001] [.nilc 2 1 49 7,.keep [2,3,1000000,1000001]] [(2,.box [dI 0,oW5 []]),(3,dI y1.2),(1000000,.glo 0 (aQ.flatMap (cI .u32))),(1000001,.glo 6 (aA.flatMap (cI .u64)))] [] 4 (by kernel_rfl) (trivial) ?_
  cases h
  refine aP (tqc [.frz (2,2),.keep [2,3,1000000,1000001]])
 ·refine aO (tS ?_)
  obtain ⟨hp1,h⟩:=aL h
  refine tR [iW 2 (cO bP (xs:=y1.1)),iI 4 (bX (d:=bE1) bP hp1)] [2,3,1000000,1000001] ?_
  cases h
  refine aP (tq [2,3,1000000,1000001])
theorem aR6 {F:Nat}  {r:Bool} (h:pF F  = some r):aG Tryz.prog 6 [] [.glo 0 (aQ.flatMap (cI .u32)),.glo 6 (aA.flatMap (cI .u64))] (.d (.v (.bool r))) [.glo 0 (aQ.flatMap (cI .u32)),.glo 6 (aA.flatMap (cI .u64))]:=by
 rw [pF] at h
 refine aG.intro (N:=31) Tryz.func6 rfl rfl rfl rfl rfl fun e=>?_
 refine tR [] [1000000,1000001] ?_
 obtain ⟨y1,hy1,h⟩:=aH h
 obtain ⟨y2,hy2,h⟩:=aH h
 refine tR [iC 0 [] (aA5 hy1),iC 1 [1000000,1000001] (aN7 hy2)] [1,2,1000000,1000001] ?_
 obtain ⟨y3,hy3,h⟩:=aH h
 refine tR [iC 1 [1000000,1000001] (aQ0 hy3)] [1,2,3,4,1000000,1000001] ?_
 obtain ⟨y4,hy4,h⟩:=aH h
 obtain ⟨y5,hy5,h⟩:=aH h
 obtain ⟨z1,hz1,h⟩:=aW h
 refine jX mixed 2 (.take 0 (.take 1 (.take 2 (.take 3 (.take 4 (.take 5 (.take 6 (.all (.alt 7 (.all (.alt 8 (.all (.alt 9 (.take 10 (.take 11 (.take 12 (.take 13 (.take 14 (.take 15 (.take 16 .done))))))) .stop)) .stop)) (.alt 8 (.take 7 (.all (.alt 9 (.take 10 (.take 11 (.take 12 (.take 13 (.take 14 (.take 15 (.take 16 .done))))))) .stop))) .stop)))))))))) ([0,1,2,4,12,20,36,64,64,448,576,1536,2048,6144,10240,18432,65535],[0,1,2,4,12,20,32,64,64,448,576,1024,2048,6144,10240,18432,32768]) 130303 [(8,{ res:=.agg (bP y4) }),(9,{ res:=dB y5 }),(15,{ rw:=some (dB z1) })] [0,1000000,1000001] [] [(0,dB z1),(1000000,.glo 0 (aQ.flatMap (cI .u32))),(1000001,.glo 6 (aA.flatMap (cI .u64)))] ((fun (o3:Prop)=>fun (o4:Prop)=>fun (o7:Prop)=>fun (o8:Prop)=>fun (o9:Prop)=>fun (o12:Prop)=>fun (o13:Prop)=>fun (o14:Prop)=>fun (o15:Prop)=>[(3,o3),(0,o4),(2,o7),(0,o8),(0,o9),(2,o12),(0,o13),(0,o14),(0,o15),(1,o8),(0,o7),(0,o9),(2,o12),(0,o13),(0,o14),(0,o15)]) (((((y2.2 == (0:Int)) == true) && true)=true→True)) (((((y2.2 == (0:Int)) == true) && true)=true→True)) (((((bif (y2.2 == (0:Int)) then (y3.2 == (0:Int)) else false) == true) && true)=true→True)) (((((bif (y2.2 == (0:Int)) then (y3.2 == (0:Int)) else false) == true) && true)=true→aG Tryz.prog 14 [] [] (.agg (bP y4)) [])) (((((bif (y2.2 == (0:Int)) then (y3.2 == (0:Int)) else false) == true) && true)=true→aG Tryz.prog 16 [.agg (bP y3.1),.agg (bP y4)] [] (dB y5) [])) (((((bif (bif (y2.2 == (0:Int)) then (y3.2 == (0:Int)) else false) then y5 else false) == true) && true)=true→True)) (((((bif (bif (y2.2 == (0:Int)) then (y3.2 == (0:Int)) else false) then y5 else false) == true) && true)=true→True)) (((((bif (bif (y2.2 == (0:Int)) then (y3.2 == (0:Int)) else false) then y5 else false) == true) && true)=true→True)) ((True)∧dB (bif (bif (bif (y2.2 == (0:Int)) then (y3.2 == (0:Int)) else false) then y5 else false) then ((y2.1.length:Int) == (78:Int)) else false)=dB z1)) 1 (by kernel_rfl) (by kernel_rfl) (by kernel_rfl) (have p3:=tr; have p4:=tr; have p7:=tr; have p8:=(fun hg=>aA5 (eG hg hy4)); have p9:=(fun hg=>aT5 (eG hg hy5)); have p12:=tr; have p13:=tr; have p14:=tr; have p15:=⟨trivial,(by subst hz1; rfl)⟩; ⟨p3,p4,p7,p8,p9,p12,p13,p14,p15,p8,p7,p9,p12,p13,p14,p15⟩) ?_
 cases h
 refine aP (tq [0,1000000,1000001])
theorem nZ {F:Nat} {a0:bC} {r:Bool} (h:dP F a0=some r):aG Tryz.prog 3 [.agg (bP a0)] [.glo 0 (aQ.flatMap (cI .u32)),.glo 6 (aA.flatMap (cI .u64))] (.d (.v (.bool r))) [.glo 0 (aQ.flatMap (cI .u32)),.glo 6 (aA.flatMap (cI .u64))]:=by
 rw [dP] at h
 refine aG.intro (N:=11) Tryz.func3 rfl rfl rfl rfl rfl fun e=>?_
 refine tR [] [1,1000000,1000001] ?_
 obtain ⟨y1,hy1,h⟩:=aH h
 obtain ⟨y2,hy2,h⟩:=aH h
 obtain ⟨y3,hy3,h⟩:=aH h
 refine jX mixed 2 (.all (.alt 0 (.take 1 (.take 2 (.all (.alt 3 (.take 4 (.all (.alt 5 (.take 6 (.take 7 (.take 8 .done))) .stop))) (.alt 4 (.all (.alt 3 (.all (.alt 5 (.take 6 (.take 7 (.take 8 .done))) .stop)) .stop)) .stop))))) .stop)) ([0,1,2,6,2,26,42,66,255],[0,1,2,6,2,18,42,66,128]) 470 [(0,{ res:=dB y1,vout:=[.glo 0 (aQ.flatMap (cI .u32)),.glo 6 (aA.flatMap (cI .u64))],xs:=[1000000,1000001] }),(3,{ res:=dI y2,vout:=[.glo 6 (aA.flatMap (cI .u64))],xs:=[1000001] }),(5,{ res:=dI y3 })] [2,1000000,1000001] [] [(2,dB (bif y1 then (y2 == y3) else false)),(1000000,.glo 0 (aQ.flatMap (cI .u32))),(1000001,.glo 6 (aA.flatMap (cI .u64)))] ((fun (o0:Prop)=>fun (o2:Prop)=>fun (o3:Prop)=>fun (o4:Prop)=>fun (o5:Prop)=>fun (o6:Prop)=>[(0,o0),(1,o2),(0,o3),(0,o4),(0,o5),(0,o6),(2,o4),(0,o3),(0,o5),(0,o6)]) (aG Tryz.prog 6 [] [.glo 0 (aQ.flatMap (cI .u32)),.glo 6 (aA.flatMap (cI .u64))] (dB y1) [.glo 0 (aQ.flatMap (cI .u32)),.glo 6 (aA.flatMap (cI .u64))]) ((((y1 == true) && true)=true→True)) ((((y1 == true) && true)=true→aG Tryz.prog 7 [.agg (bP a0)] [.glo 6 (aA.flatMap (cI .u64))] (dI y2) [.glo 6 (aA.flatMap (cI .u64))])) ((((y1 == true) && true)=true→True)) ((((y1 == true) && true)=true→aG Tryz.prog 8 [.agg (bP a0)] [] (dI y3) [])) ((((y1 == true) && true)=true→True))) 2 (by kernel_rfl) (by kernel_rfl) (by kernel_rfl) (have p0:=aR6 hy1; have p2:=tr; have p3:=(fun hg=>rW (eG hg hy2)); have p4:=tr; have p5:=(fun hg=>aR3 (eG hg hy3)); have p6:=tr; ⟨p0,p2,p3,p4,p5,p6,p4,p3,p5,p6⟩) ?_
 cases h
 refine aP (tq [2,1000000,1000001])
end Go.Vm.PgfG
