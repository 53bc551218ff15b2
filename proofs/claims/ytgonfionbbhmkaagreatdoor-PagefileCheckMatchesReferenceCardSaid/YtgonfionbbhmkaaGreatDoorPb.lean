/-
  Texts.
-/
import Derived.Test.YtgonfionbbhmkaaGreatDoorPa
import Derived.Test.YtgonfionbbhmkaaGreatDoorVmE
set_option maxRecDepth 20000
namespace Go.Vm.PgfG
open Go.Proofs
theorem vT {F:Nat} {rec_object_printer_add:aC→Int→(List aM)→Int→Option (Int×(List aM)×Int)} (hrec_object_printer_add:∀ {a0:aC},∀ {a1:Int},∀ {c2:List aM},∀ {c3:Int},∀ {r:Int×(List aM)×Int},rec_object_printer_add a0 a1 c2 c3=some r→aG Tryz.prog 54 [.bp 1000000 0,.agg (aZ a0),.d (.v (.int .i64 a1))] [.box [.own 79 5 (c2.map bH),.d (.v (.int .i64 c3))],.glo 6 (aA.flatMap (cI .u64))] (.d (.v (.int .i64 r.1))) [.box [.own 79 5 (r.2.1.map bH),.d (.v (.int .i64 r.2.2))],.glo 6 (aA.flatMap (cI .u64))]) {a0:aC} {a1:Int} {c2:List aM} {c3:Int} {r:Int×(List aM)×Int} (h:eH F rec_object_printer_add a0 a1 c2 c3=some r):aG Tryz.prog 54 [.bp 1000000 0,.agg (aZ a0),.d (.v (.int .i64 a1))] [.box [.own 79 5 (c2.map bH),.d (.v (.int .i64 c3))],.glo 6 (aA.flatMap (cI .u64))] (.d (.v (.int .i64 r.1))) [.box [.own 79 5 (r.2.1.map bH),.d (.v (.int .i64 r.2.2))],.glo 6 (aA.flatMap (cI .u64))]:=by
 rw [eH] at h
 refine aG.intro (N:=81) Tryz.func54 rfl rfl rfl rfl rfl fun e=>?_
 refine tR [] [0,2,4,1000000,1000001] ?_
 refine aK ?_
 refine tR [] [0,2,4,1000000,1000001] ?_
 refine tR [] [0,2,4,22,1000000,1000001] ?_
 refine tC h (fun hc h=>?_) fun hc h=>?_
 ·refine tR [] [6,1000000,1000001] ?_
  cases h
  refine aP (tq [6,1000000,1000001])
 ·refine aO (tS ?_)
  refine aK ?_
  obtain ⟨y1,hy1,h⟩:=aH h
  refine tR [iC 2 [1000001] (aV4 hy1)] [0,2,4,7,1000000,1000001] ?_
  refine tR [] [0,2,4,7,27,1000000,1000001] ?_
  refine tC h (fun hc h=>?_) fun hc h=>?_
  ·refine tR [] [6,1000000,1000001] ?_
   cases h
   refine aP (tq [6,1000000,1000001])
  ·refine aO (tS ?_)
   refine tR [] [0,2,4,8,1000000,1000001] ?_
   refine jE h [0,8,1000000,1000001] (fun p=>[(8,.box [dI p.2.1,dI p.2.2,.d (.str p.1),dI 0,dI 0])]) (fun s h hk1=>?_) (fun s h=>?_)
   ·refine tR [] [0,2,4,8,30,1000000,1000001] ?_
    refine aU ?_
    refine tR [] [0,2,4,8,30,35,1000000,1000001] ?_
    refine tC h (fun hc h=>?_) fun hc h=>?_
    ·cases h
     refine tRe [] [0,8,1000000,1000001] (tG [.keep [0,8,1000000,1000001]])
    ·refine tR [] [0,2,4,8,30,38,1000000,1000001] ?_
     refine tC h (fun hc h=>?_) fun hc h=>?_
     ·obtain ⟨y2,hy2,h⟩:=aH h
      cases h
      refine tRe [iC 3 [] (aB2 hy2)] [0,8,1000000,1000001] (tG [.keep [0,8,1000000,1000001]])
     ·refine tR [] [0,2,4,8,30,45,1000000,1000001] ?_
      refine tC h (fun hc h=>?_) fun hc h=>?_
      ·cases h
       refine tRe [] [0,8,1000000,1000001] (tG [.keep [0,8,1000000,1000001]])
      ·refine tR [] [0,2,4,8,30,50,1000000,1000001] ?_
       refine tC h (fun hc h=>?_) fun hc h=>?_
       ·cases h
        refine tRe [] [0,8,1000000,1000001] (tG [.keep [0,8,1000000,1000001]])
       ·refine tR [] [0,2,4,8,30,55,1000000,1000001] ?_
        refine tC h (fun hc h=>?_) fun hc h=>?_
        ·cases h
         refine tRe [] [0,8,1000000,1000001] (tG [.keep [0,8,1000000,1000001]])
        ·refine tR [] [0,2,4,8,60,1000000,1000001] ?_
         refine tC h (fun hc h=>?_) fun hc h=>?_
         ·cases h
          refine tRe [] [0,8,1000000,1000001] (tG [.keep [0,8,1000000,1000001]])
         ·obtain ⟨y3,hy3,h⟩:=aH h
          refine tR [iC 3 [1000000,1000001] (xA hrec_object_printer_add hy3)] [6,1000000,1000001] ?_
          cases h
          have h:=bE hk1
          cases h
          refine aP (tq [6,1000000,1000001])
   ·obtain ⟨v1,v2,v3⟩:=s
    try dsimp only at h
    obtain ⟨hp1,h⟩:=aL h
    refine jX mixed 2 (.take 0 (.take 1 (.take 2 (.take 3 (.take 5 (.all (.alt 4 (.all (.alt 6 (.all (.alt 7 (.take 8 (.take 9 (.all (.alt 10 .done .stop)))) .stop)) .stop)) (.alt 6 (.take 4 (.all (.alt 7 (.take 8 (.take 9 (.all (.alt 10 .done .stop)))) .stop))) .stop)))))))) ([0,0,2,4,8,0,32,80,255,511,767],[0,0,2,4,8,0,32,80,1,256,640]) 831 [(6,{ es:=some (([(aM.mk v2 v3 v1 0 0)]).map bH) }),(7,{ es:=some ((c2++([(aM.mk v2 v3 v1 0 0)])).map bH) })] [8,1000000,1000001] [] [(8,.box [dI v2,dI v3,.d (.str v1),dI 0,dI 0]),(1000000,.box [.own 79 5 ((c2++([(aM.mk v2 v3 v1 0 0)])).map bH),dI (IntKind.i64.wrap (c3+(1:Int)))]),(1000001,.glo 6 (aA.flatMap (cI .u64)))] ((fun (o6:Prop)=>fun (o7:Prop)=>[(6,o6),(0,o7),(3,o6),(1,o7)]) ((([(aM.mk v2 v3 v1 0 0)]).map bH)=(([(aM.mk v2 v3 v1 0 0)]).map bH)) ((c2.map bH).length+(([(aM.mk v2 v3 v1 0 0)]).map bH).length≤4294967296∧(c2.map bH)++(([(aM.mk v2 v3 v1 0 0)]).map bH)=((c2++([(aM.mk v2 v3 v1 0 0)])).map bH))) 3 (by kernel_rfl) (by kernel_rfl) (by kernel_rfl) (have p6:=rfl; have p7:=gB bH hp1; ⟨p6,p7,p6,p7⟩) ?_
    obtain ⟨y4,hy4,h⟩:=aH h
    refine tR [iC 1 [1000001] (wH hy4)] [10,1000000,1000001] ?_
    refine tR [] [6,1000000,1000001] ?_
    cases h
    refine aP (tq [6,1000000,1000001])
theorem wD {F:Nat} (n:Nat):∀ {a0:aC} {a1:Int} {c2:List aM} {c3:Int} {r:Int×(List aM)×Int},dR F n a0 a1 c2 c3=some r→aG Tryz.prog 54 [.bp 1000000 0,.agg (aZ a0),.d (.v (.int .i64 a1))] [.box [.own 79 5 (c2.map bH),.d (.v (.int .i64 c3))],.glo 6 (aA.flatMap (cI .u64))] (.d (.v (.int .i64 r.1))) [.box [.own 79 5 (r.2.1.map bH),.d (.v (.int .i64 r.2.2))],.glo 6 (aA.flatMap (cI .u64))]:=by
 induction n with
 | zero=>intro a0 a1 c2 c3 r h; exact absurd (show (none:Option (Int×(List aM)×Int))=some r from h) (by simp)
 | succ n ih=>intro a0 a1 c2 c3 r h; exact vT ih h
theorem aB6 {F:Nat} {a0:aC} {a1:Int} {c2:List aM} {c3:Int} {r:Int×(List aM)×Int} (h:qE F a0 a1 c2 c3=some r):aG Tryz.prog 54 [.bp 1000000 0,.agg (aZ a0),.d (.v (.int .i64 a1))] [.box [.own 79 5 (c2.map bH),.d (.v (.int .i64 c3))],.glo 6 (aA.flatMap (cI .u64))] (.d (.v (.int .i64 r.1))) [.box [.own 79 5 (r.2.1.map bH),.d (.v (.int .i64 r.2.2))],.glo 6 (aA.flatMap (cI .u64))]:=wD F h
theorem wG {F:Nat} {a0:Int} {r:Bool} (h:qP F a0=some r):aG Tryz.prog 129 [.d (.v (.int .u8 a0))] [] (.d (.v (.bool r))) []:=by
 rw [qP] at h
 refine aG.intro (N:=13) Tryz.func129 rfl rfl rfl rfl rfl fun e=>?_
 refine tR [] [0] ?_
 refine tR [] [2] ?_
 cases h
 refine aP (tq [2])
theorem aK1 {F:Nat} {a0:Int} {r:Bool} (h:pH F a0=some r):aG Tryz.prog 130 [.d (.v (.int .u8 a0))] [] (.d (.v (.bool r))) []:=by
 rw [pH] at h
 refine aG.intro (N:=6) Tryz.func130 rfl rfl rfl rfl rfl fun e=>?_
 refine tR [] [0] ?_
 obtain ⟨z1,hz1,h⟩:=aW h
 refine tR [iC 1 [] (show aG Tryz.prog 175 [.d (.str ([40,41,60,62,91,93,47,64,37]:List UInt8)),.d (.v (.int .u8 a0))] [] (dI (Lib.indexByte ([40,41,60,62,91,93,47,64,37]:List UInt8) a0.toNat.toUInt8)) [] from zY),iB 2 hz1] [2] ?_
 cases h
 refine aP (tq [2])
theorem oN {F:Nat} {a0:Int} {r:Bool} (h:jH F a0=some r):aG Tryz.prog 88 [.d (.v (.int .u8 a0))] [] (.d (.v (.bool r))) []:=by
 rw [jH] at h
 refine aG.intro (N:=11) Tryz.func88 rfl rfl rfl rfl rfl fun e=>?_
 refine tR [] [0] ?_
 obtain ⟨y1,hy1,h⟩:=aH h
 obtain ⟨y2,hy2,h⟩:=aH h
 refine tR [iC 1 [] (wG hy1),iD 5 [] (fun hg=>aK1 (eG hg hy2))] [2] ?_
 cases h
 refine aP (tq [2])
theorem yX {F:Nat} {c0:List UInt8} {r:Int×(List UInt8)} (h:dU F c0=some r):aG Tryz.prog 77 [.bp 1000000 0] [.box [.slf 0 94,.own 5 1 (c0.map cU)]] (.d (.v (.int .i64 r.1))) [.box [.slf 0 94,.own 5 1 (r.2.map cU)]]:=by
 rw [dU] at h
 refine aG.intro (N:=8) Tryz.func77 rfl rfl rfl rfl rfl fun e=>?_
 refine tR [] [0,1000000] ?_
 refine tR [iW 4 (cO cU (xs:=c0))] [2,1000000] ?_
 cases h
 refine aP (tq [2,1000000])
theorem zT {F:Nat} {c0:List UInt8} {r:Int×(List UInt8)} (h:dU F c0=some r):r=(r.1,c0):=by
 unfold dU at h
 cases h
 rfl
theorem jO {F:Nat} {c0:List UInt8} {r:Int×(List UInt8)} (h:dU F c0=some r):aG Tryz.prog 77 [.bp 1000000 0] [.box [.slf 0 94,.own 5 1 (c0.map cU)]] (.d (.v (.int .i64 r.1))) [.box [.slf 0 94,.own 5 1 (c0.map cU)]]:=by
 have h2:=yX h
 rw [zT h] at h2
 exact h2
theorem bC6 {F:Nat} {a0:List aM} {r:(List UInt8)×Int} (h:zC F a0=some r):aG Tryz.prog 55 [.d (.sl 5 (a0.map bH))] [.glo 6 (aA.flatMap (cI .u64))] (.tup [.d (.str r.1),.d (.v (.int .i64 r.2))]) [.glo 6 (aA.flatMap (cI .u64))]:=by
 rw [zC] at h
 refine aG.intro (N:=43) Tryz.func55 rfl rfl rfl rfl rfl fun e=>?_
 refine tR [] [0,1000000] ?_
 refine tR [iH 0 { slfs:=[(0,0)] }] [0,4,1000000] ?_
 refine tR [] [0,4,5,1000000] ?_
 refine aK ?_
 refine tR [iW 1 (cO bH (xs:=a0))] [4,5,10,11,12,1000000] ?_
 refine jEt h [4,1000000] (fun p=>[(4,.box [.slf 0 94,oW1 p])]) (fun s h hk1=>?_) (fun v5 h=>?_)
 ·refine aU ?_
  refine tL3 (kE F a0) [.keep [4,5,10,11,12,1000000]] [4,5,10,11,12,1000000] (fun v1 v2 v3=>[(4,.box [.slf 0 94,oW1 v1]),(5,dB v2),(12,dI v3)]) F [] false (0:Int) h fun n v1 v2 v3 h=>?_
  rw [kE] at h
  refine tR [] [4,5,10,11,12,13,1000000] ?_
  refine aK ?_
  refine tC h (fun hc h=>?_) fun hc h=>?_
  ·refine aO (tS ?_)
   refine aK ?_
   refine aU ?_
   obtain ⟨hp1,h⟩:=aL h
   refine tR [iI 0 (bX (d:=sZ) bH hp1)] [4,5,7,10,11,12,1000000] ?_
   obtain ⟨y1,hy1,h⟩:=aH h
   refine tR [iC 1 [1000000] (wH hy1)] [4,5,8,9,10,11,12,1000000] ?_
   refine aK ?_
   refine tR [] [4,5,8,9,10,11,12,22,1000000] ?_
   refine tC h (fun hc h=>?_) fun hc h=>?_
   ·refine tR [] [2,3,1000000] ?_
    cases h
    have h:=bE hk1
    cases h
    refine aP (tq [2,3,1000000])
   ·refine aO (tS ?_)
    refine jc h [4,8,10,11,12,1000000] (fun p=>[(4,.box [.slf 0 94,oW1 p])]) (fun s h=>?_) (fun v4 h=>?_)
    ·obtain ⟨hp2,h⟩:=aL h
     obtain ⟨y2,hy2,h⟩:=aH h
     refine tR [iF 3 {} (show (((v2 == true) && true)=true→0≤(0:Int)∧(0:Int) < y1.1.length) from (fun hg=>(hp2 hg))),iD 4 [] (fun hg=>oN (eG hg hy2))] [4,8,10,11,12,29,1000000] ?_
     refine tC h (fun hc h=>?_) fun hc h=>?_
     ·obtain ⟨y3,hy3,h⟩:=aH h
      cases h
      refine tRe [iC 0 [4] (bF hy3)] [4,8,10,11,12,1000000] (tJ [.keep [4,8,10,11,12,1000000]])
     ·cases h
      refine aO (tJ [.keep [4,8,10,11,12,1000000]])
    ·obtain ⟨y4,hy4,h⟩:=aH h
     refine tR [iC 1 [4] (bZ hy4)] [4,8,10,11,12,1000000] ?_
     refine aK ?_
     obtain ⟨y5,hy5,h⟩:=aH h
     refine tR [iC 0 [4] (jO hy5)] [4,8,10,11,12,34,1000000] ?_
     refine tC h (fun hc h=>?_) fun hc h=>?_
     ·refine tR [] [2,3,1000000] ?_
      cases h
      have h:=bE hk1
      cases h
      refine aP (tq [2,3,1000000])
     ·refine aO (tS ?_)
      obtain ⟨hp3,h⟩:=aL h
      obtain ⟨y6,hy6,h⟩:=aH h
      refine tRe [iP 4 hp3,iC 5 [] (oN hy6)] [4,5,10,11,12,1000000] (tS ?_)
      refine tRe [] [4,5,10,11,12,1000000] (tE [.keep [4,5,10,11,12,1000000]] (y4.2.2,y6,IntKind.i64.wrap (v3+(1:Int))) h)
  ·cases h
   refine cZ (tG [.keep [4,1000000]])
 ·refine tS ?_
  obtain ⟨hp4,h⟩:=aL h
  refine tR [iC 0 [4] (show aG Tryz.prog 51 [.bp 1000000 0] [.box [.slf 0 94,oW1 v5]] (.d (.str v5)) [.box [.slf 0 94,.junk]] from nK (l:=v5) hp4 (by kernel_rfl) (by kernel_rfl))] [2,3,1000000] ?_
  cases h
  refine aP (tq [2,3,1000000])
theorem uO {F:Nat} {a0:aC} {r:(List UInt8)×Int} (h:mK F a0=some r):aG Tryz.prog 32 [.agg (aZ a0)] [.glo 6 (aA.flatMap (cI .u64))] (.tup [.d (.str r.1),.d (.v (.int .i64 r.2))]) [.glo 6 (aA.flatMap (cI .u64))]:=by
 rw [mK] at h
 refine aG.intro (N:=16) Tryz.func32 rfl rfl rfl rfl rfl fun e=>?_
 refine tR [] [1,1000000] ?_
 refine tR [] [1,4,1000000] ?_
 refine aK ?_
 obtain ⟨y1,hy1,h⟩:=aH h
 refine tR [iC 1 [4,1000000] (aB6 hy1)] [4,5,1000000] ?_
 refine tR [] [4,5,9,1000000] ?_
 refine tC h (fun hc h=>?_) fun hc h=>?_
 ·refine tR [] [2,3,1000000] ?_
  cases h
  refine aP (tq [2,3,1000000])
 ·refine aO (tS ?_)
  obtain ⟨y2,hy2,h⟩:=aH h
  refine tR [iCh 2 { frz:=[(4,1)],xs:=[1000000] } (bC6 hy2)] [2,3,1000000] ?_
  cases h
  refine aP (tq [2,3,1000000])
theorem uW {F:Nat} {a0:aC} {r:Int} (h:jL F a0=some r):aG Tryz.prog 17 [.agg (aZ a0)] [.glo 6 (aA.flatMap (cI .u64))] (.d (.v (.int .i64 r))) [.glo 6 (aA.flatMap (cI .u64))]:=by
 rw [jL] at h
 refine aG.intro (N:=11) Tryz.func17 rfl rfl rfl rfl rfl fun e=>?_
 refine tR [] [1,1000000] ?_
 obtain ⟨y1,hy1,h⟩:=aH h
 refine tR [iC 1 [1000000] (uO hy1)] [4,1000000] ?_
 refine tR [] [2,1000000] ?_
 cases h
 refine aP (tq [2,1000000])
theorem uX {F:Nat} {a0:List UInt8} {r:Bool} (h:cmp_isNaN_string F a0=some r):aG Tryz.prog 198 [.d (.str a0)] [] (.d (.v (.bool r))) []:=by
 rw [cmp_isNaN_string] at h
 refine aG.intro (N:=6) Tryz.func198 rfl rfl rfl rfl rfl fun e=>?_
 refine tR [] [0] ?_
 refine tR [] [2] ?_
 cases h
 refine aP (tq [2])
theorem aK5 {F:Nat} {a0:List UInt8} {a1:List UInt8} {r:Bool} (h:cmp_Less_string F a0 a1=some r):aG Tryz.prog 166 [.d (.str a0),.d (.str a1)] [] (.d (.v (.bool r))) []:=by
 rw [cmp_Less_string] at h
 refine aG.intro (N:=17) Tryz.func166 rfl rfl rfl rfl rfl fun e=>?_
 refine tR [] [0,1] ?_
 obtain ⟨y1,hy1,h⟩:=aH h
 obtain ⟨y2,hy2,h⟩:=aH h
 refine tR [iC 1 [] (uX hy1),iD 4 [] (fun hg=>uX (eG hg hy2))] [4] ?_
 cases h
 refine aP (tq [4])
theorem rU {F:Nat} {a0:List UInt8} {r:Bool} (h:slices_isNaN_string F a0=some r):aG Tryz.prog 167 [.d (.str a0)] [] (.d (.v (.bool r))) []:=by
 rw [slices_isNaN_string] at h
 refine aG.intro (N:=6) Tryz.func167 rfl rfl rfl rfl rfl fun e=>?_
 refine tR [] [0] ?_
 refine tR [] [2] ?_
 cases h
 refine aP (tq [2])
theorem mF {F:Nat} {a0:List (List UInt8)} {a1:List UInt8} {r:Int×Bool} (h:slices_BinarySearch_string F a0 a1=some r):aG Tryz.prog 121 [.d (.sl 1 (a0.map cS)),.d (.str a1)] [] (.tup [.d (.v (.int .i64 r.1)),.d (.v (.bool r.2))]) []:=by
 rw [slices_BinarySearch_string] at h
 refine aG.intro (N:=54) Tryz.func121 rfl rfl rfl rfl rfl fun e=>?_
 refine tR [] [0,1] ?_
 refine tR [iW 1 (cO cS (xs:=a0))] [0,1,6] ?_
 refine tR [] [0,1,6,7,8] ?_
 refine jc h [0,1,6,7] (fun p=>[(7,dI p)]) (fun s h=>?_) (fun v3 h=>?_)
 ·refine aU ?_
  refine tL2 (eW F a0 a1) [.keep [0,1,6,7,8]] [0,1,6,7,8] (fun v1 v2=>[(7,dI v1),(8,dI v2)]) F (0:Int) (a0.length:Int) h fun n v1 v2 h=>?_
  rw [eW] at h
  refine aK ?_
  refine tR [] [0,1,6,7,8,15] ?_
  refine tC h (fun hc h=>?_) fun hc h=>?_
  ·refine aO (tS ?_)
   refine aU ?_
   obtain ⟨z1,hz1,h⟩:=aW h
   refine tR [iW 4 (show (0≤(1:Int))∧AV.d (.v (.int .u64 ((IntKind.u64.wrap (IntKind.i64.wrap (v1+v2))).fdiv (2 ^ (min (1:Int).toNat IntKind.u64.bits)))))=.d (.v (.int .u64 z1)) from ⟨(show 0≤(1:Int) by decide),(by subst hz1; rfl)⟩)] [0,1,6,7,8,9] ?_
   obtain ⟨hp1,h⟩:=aL h
   obtain ⟨y1,hy1,h⟩:=aH h
   refine tR [iI 2 (bX (d:=[]) cS hp1),iC 5 [] (aK5 hy1)] [0,1,6,7,8,9,27] ?_
   refine tC h (fun hc h=>?_) fun hc h=>?_
   ·refine tRe [] [0,1,6,7,8] (tE [.keep [0,1,6,7,8]] (IntKind.i64.wrap ((IntKind.i64.wrap z1)+(1:Int)),v2) h)
   ·refine tRe [] [0,1,6,7,8] (tE [.keep [0,1,6,7,8]] (v1,IntKind.i64.wrap z1) h)
  ·cases h
   refine cZ (tJ [.keep [0,1,6,7]])
 ·obtain ⟨hp2,h⟩:=aL h
  obtain ⟨hp3,h⟩:=aL h
  obtain ⟨y2,hy2,h⟩:=aH h
  obtain ⟨y3,hy3,h⟩:=aH h
  obtain ⟨z2,hz2,h⟩:=aW h
  refine tR [iF 7 { cs:=cS (a0.getD v3.toNat []) } (show ((((decide (v3 < (a0.length:Int))) == true) && true)=true→0≤v3∧(a0.map cS)[v3.toNat]? = some (cS (a0.getD v3.toNat []))) from (fun hg=>bX (d:=[]) cS (hp2 hg))),iF 14 { cs:=cS (a0.getD v3.toNat []) } (show (((((a0.getD v3.toNat []) == a1) == false) && (((decide (v3 < (a0.length:Int))) == true) && true))=true→0≤v3∧(a0.map cS)[v3.toNat]? = some (cS (a0.getD v3.toNat []))) from (fun hg=>bX (d:=[]) cS (hp3 hg))),iD 16 [] (fun hg=>rU (eG hg hy2)),iD 19 [] (fun hg=>rU (eG hg hy3)),iB 22 hz2] [4,5] ?_
  cases h
  refine aP (tq [4,5])
theorem aV6 {F:Nat} {a0:aC} {a1:List UInt8} {r:Int×Bool×Int} (h:aF2 F a0 a1=some r):aG Tryz.prog 82 [.agg (aZ a0),.d (.str a1)] [] (.tup [.d (.v (.int .i64 r.1)),.d (.v (.bool r.2.1)),.d (.v (.int .i64 r.2.2))]) []:=by
 rw [aF2] at h
 refine aG.intro (N:=56) Tryz.func82 rfl rfl rfl rfl rfl fun e=>?_
 refine tR [] [1,2] ?_
 refine aK ?_
 refine tR [] [1,2,12] ?_
 refine aU ?_
 refine tR [] [1,2,12,13] ?_
 refine tC h (fun hc h=>?_) fun hc h=>?_
 ·obtain ⟨y1,hy1,h⟩:=aH h
  refine tR [iC 3 [] (mF hy1)] [7,8] ?_
  refine tR [] [4,5,6] ?_
  cases h
  refine aP (tq [4,5,6])
 ·refine tR [] [1,2,24] ?_
  refine tC h (fun hc h=>?_) fun hc h=>?_
  ·refine aK ?_
   obtain ⟨hp1,h⟩:=aL h
   obtain ⟨z1,hz1,h⟩:=aW h
   obtain ⟨hp2,h⟩:=aL h
   obtain ⟨z2,hz2,h⟩:=aW h
   refine tR [iF 4 { res:=.d (.str (Lib.trimS a1 ([48,49,50,51,52,53,54,55,56,57]:List UInt8))) } (show ((((a1 == []) == false) && true)=true→aG Tryz.prog 122 [.d (.str a1),.d (.str ([48,49,50,51,52,53,54,55,56,57]:List UInt8))] [] (.d (.str (Lib.trimS a1 ([48,49,50,51,52,53,54,55,56,57]:List UInt8)))) []) from (fun hg=>cY4 (hp1 hg) (by decide))),iB 6 hz1,iF 13 {} (show ((((decide ((a1.length:Int) > (1:Int))) == true) && ((z1 == false) && true))=true→0≤(0:Int)∧(0:Int) < a1.length) from (fun hg=>(hp2 hg))),iB 15 hz2] [1,2,42] ?_
   refine tC h (fun hc h=>?_) fun hc h=>?_
   ·refine tR [] [4,5,6] ?_
    cases h
    refine aP (tq [4,5,6])
   ·refine aO (tS ?_)
    obtain ⟨hp3,h⟩:=aL h
    obtain ⟨y2,hy2,h⟩:=aH h
    refine tR [iC 1 [] (bM1 hp3 hy2)] [2,9,10] ?_
    refine jc h [2,9] (fun p=>[(9,dI p)]) (fun s h=>?_) (fun v1 h=>?_)
    ·refine tR [] [2,9,49] ?_
     refine tC h (fun hc h=>?_) fun hc h=>?_
     ·cases h
      refine tRe [] [2,9] (tJ [.keep [2,9]])
     ·cases h
      refine aO (tJ [.keep [2,9]])
    ·refine mO mixed [(4,{ rw:=some (dI (a0.f4.length:Int)) })] [4,5,6] [] [(4,dI v1),(5,dB (decide (v1 < (a0.f4.length:Int)))),(6,dI (0:Int))] [(4,True∧dI ((a0.f4.map bD).length:Int)=dI (a0.f4.length:Int))] 4 (by kernel_rfl) (cO bD) ?_
     cases h
     refine aP (tq [4,5,6])
  ·refine aO (tS ?_)
   refine tR [] [4,5,6] ?_
   cases h
   refine aP (tq [4,5,6])
theorem zD {F:Nat} {a0:List (List UInt8)} {r:(List (List UInt8))} (h:slices_Clone_string F a0=some r):aG Tryz.prog 123 [.d (.sl 1 (a0.map cS))] [] (.own 9 1 (r.map cS)) []:=by
 rw [slices_Clone_string] at h
 refine aG.intro (N:=8) Tryz.func123 rfl rfl rfl rfl rfl fun e=>?_
 refine tR [] [0] ?_
 refine aK ?_
 refine aF7 (sz:=1) (es:=(a0.map cS)) 0 3 4 44 (by kernel_rfl) (by kernel_rfl) (by kernel_rfl) (by kernel_rfl) [0] [(0,.d (.sl 1 (a0.map cS)))] (fun _=>by kernel_rfl) (fun hnil=>?_) ?_
 ·replace hnil:=List.map_eq_nil_iff.1 hnil
  have h:(some [])=some r:=by subst hnil; exact h
  refine tR [] [2] ?_
  cases h
  refine aP (tq [2])
 ·refine aO (tS ?_)
  obtain ⟨hp1,h⟩:=aL h
  refine tR [iP 0 (show ([]:List (List Dat))=[] from rfl),iE 2 (gB cS hp1)] [2] ?_
  cases h
  refine aP (tq [2])
theorem yV {F:Nat} {a0:List aC} {r:(List aC)} (h:oQ F a0=some r):aG Tryz.prog 124 [.d (.sl 5 (a0.map bD))] [] (.own 47 5 (r.map bD)) []:=by
 rw [oQ] at h
 refine aG.intro (N:=8) Tryz.func124 rfl rfl rfl rfl rfl fun e=>?_
 refine tR [] [0] ?_
 refine aK ?_
 refine aF7 (sz:=5) (es:=(a0.map bD)) 0 3 4 45 (by kernel_rfl) (by kernel_rfl) (by kernel_rfl) (by kernel_rfl) [0] [(0,.d (.sl 5 (a0.map bD)))] (fun _=>by kernel_rfl) (fun hnil=>?_) ?_
 ·replace hnil:=List.map_eq_nil_iff.1 hnil
  have h:(some [])=some r:=by subst hnil; exact h
  refine tR [] [2] ?_
  cases h
  refine aP (tq [2])
 ·refine aO (tS ?_)
  obtain ⟨hp1,h⟩:=aL h
  refine tR [iP 0 (show ([]:List (List Dat))=[] from rfl),iE 2 (gB bD hp1)] [2] ?_
  cases h
  refine aP (tq [2])
theorem aD6 {F:Nat} {rec_object_clone:aC→Option aC} (hrec_object_clone:∀ {a0:aC},∀ {r:aC},rec_object_clone a0=some r→aG Tryz.prog 83 [.agg (aZ a0)] [] (.agg (aZ r)) []) {a0:aC} {r:aC} (h:rA F rec_object_clone a0=some r):aG Tryz.prog 83 [.agg (aZ a0)] [] (.agg (aZ r)) []:=by
 rw [rA] at h
 refine aG.intro (N:=29) Tryz.func83 rfl rfl rfl rfl rfl fun e=>?_
 refine tR [] [1,2] ?_
 obtain ⟨y3,hy1,h⟩:=aH h
 refine tR [iC 2 [] (zD hy1)] [1,2] ?_
 obtain ⟨y1,hy2,h⟩:=aH h
 refine tR [iC 2 [] (yV hy2)] [1,2] ?_
 refine aK ?_
 refine tR [iW 2 (cO bD (xs:=y1))] [1,2,14,15,16] ?_
 refine jct h [1,2] (fun p=>[(1,.box [dI a0.f0,dI a0.f1,.d (.str a0.f2),oW3 y3,oW4 p])]) (fun s h=>?_) (fun v3 h=>?_)
 ·refine aU ?_
  refine tL2 (pJ F y1 rec_object_clone) [.keep [1,2,14,15,16]] [1,2,14,15,16] (fun v1 v2=>[(1,.box [dI a0.f0,dI a0.f1,.d (.str a0.f2),oW3 y3,oW4 v1]),(16,dI v2)]) F y1 (0:Int) h fun n v1 v2 h=>?_
  rw [pJ] at h
  refine tR [] [1,2,14,15,16,17] ?_
  refine aK ?_
  refine tC h (fun hc h=>?_) fun hc h=>?_
  ·refine aO (tS ?_)
   refine aK ?_
   refine aU ?_
   obtain ⟨hp1,h⟩:=aL h
   refine tR [iP 1 (show 0≤v2∧v2 < (v1.map bD).length from dQ bD hp1),iX 2 { cs:=aZ (v1.getD v2.toNat dM) } (show (v1.map bD)[v2.toNat]? = some (aZ (v1.getD v2.toNat dM)) from (rV (d:=dM) eY hp1).2)] [1,2,3,4,14,15,16] ?_
   obtain ⟨y2,hy3,h⟩:=aH h
   obtain ⟨hp2,h⟩:=aL h
   refine mH mixed 2 (.take 0 (.take 2 (.take 3 (.all (.alt 1 (.all (.alt 4 (.take 5 (.all (.alt 6 .done .stop))) .stop)) (.alt 4 (.take 1 (.take 5 (.all (.alt 6 .done .stop)))) .stop)))))) ([0,1,0,0,8,31,63],[0,1,0,0,8,6,48]) 47 [(4,{ res:=.agg (aZ y2) }),(6,{ cs:=aZ (v1.getD v2.toNat dM),es:=some ((v1.set v2.toNat y2).map bD) })] [1,2,14,15,16] [] [(1,.box [dI a0.f0,dI a0.f1,.d (.str a0.f2),oW3 y3,.own 47 5 ((v1.set v2.toNat y2).map bD)]),(2,.box [dI 0,dI 0,.d (.str []),oW3 [],oW4 []]),(14,.vw (1,5)),(15,dI (y1.length:Int)),(16,dI v2)] ((fun (o4:Prop)=>fun (o5:Prop)=>fun (o6:Prop)=>[(4,o4),(0,o5),(0,o6),(0,o4),(1,o5),(0,o6)]) (aG Tryz.prog 83 [.agg (aZ (v1.getD v2.toNat dM))] [] (.agg (aZ y2)) []) (0≤v2∧v2 < (v1.map bD).length) ((v1.map bD)[v2.toNat]? = some (aZ (v1.getD v2.toNat dM))∧(v1.map bD).set v2.toNat (aZ y2)=((v1.set v2.toNat y2).map bD))) 0 (by kernel_rfl) (by kernel_rfl) (by kernel_rfl) (have p4:=hrec_object_clone hy3; have p5:=dQ bD hp2; have p6:=⟨(rV (d:=dM) eY hp2).2,oU bD (eY _).symm⟩; ⟨p4,p5,p6,p4,p5,p6⟩) (tS ?_)
   refine tRe [] [1,2,14,15,16] (tE [.keep [1,2,14,15,16]] ((v1.set v2.toNat y2),IntKind.i64.wrap (v2+(1:Int))) h)
  ·cases h
   refine cZ (tJ [.keep [1,2]])
 ·refine tS ?_
  refine tR [iH 0 { frz:=[(1,4),(1,5)] }] [2] ?_
  cases h
  refine aP (tq [2])
theorem aD2 {F:Nat} (n:Nat):∀ {a0:aC} {r:aC},qZ F n a0=some r→aG Tryz.prog 83 [.agg (aZ a0)] [] (.agg (aZ r)) []:=by
 induction n with
 | zero=>intro a0 r h; exact absurd (show (none:Option aC)=some r from h) (by simp)
 | succ n ih=>intro a0 r h; exact aD6 ih h
theorem aU0 {F:Nat} {a0:aC} {r:aC} (h:aO5 F a0=some r):aG Tryz.prog 83 [.agg (aZ a0)] [] (.agg (aZ r)) []:=aD2 F h
theorem bC4 {F:Nat} {a0:aC} {a1:List (List UInt8)} {r:aC×Int} (h:aK8 F a0 a1=some r):aG Tryz.prog 53 [.agg (aZ a0),.d (.sl 1 (a1.map cS))] [.glo 6 (aA.flatMap (cI .u64))] (.tup [.agg (aZ r.1),.d (.v (.int .i64 r.2))]) [.glo 6 (aA.flatMap (cI .u64))]:=by
 rw [aK8] at h
 refine aG.intro (N:=46) Tryz.func53 rfl rfl rfl rfl rfl fun e=>?_
 refine tR [] [1,2,4,1000000] ?_
 refine aK ?_
 obtain ⟨y2,hy1,h⟩:=aH h
 refine tR [iC 1 [1000000] (uW hy1)] [1,2,4,6,1000000] ?_
 refine tR [] [1,2,4,6,15,1000000] ?_
 refine tC h (fun hc h=>?_) fun hc h=>?_
 ·refine kI [(0,{ take:=[0] })] [4,5,1000000] [.nilc 4 3 9 1,.nilc 4 4 47 5,.keep [4,5,1000000]] [(4,.box [dI 0,dI 0,.d (.str []),oW3 [],oW4 []]),(5,dI y2),(1000000,.glo 6 (aA.flatMap (cI .u64)))] [] 4 (by kernel_rfl) (trivial) ?_
  cases h
  refine aP (tqc [.frz (4,4),.frz (4,5),.keep [4,5,1000000]])
 ·refine aO (tS ?_)
  refine aK ?_
  refine tR [iW 1 (cO cS (xs:=a1))] [2,4,18,19,20,1000000] ?_
  refine jEt h [2,4,1000000] (fun p=>[(2,.box [dI p.1,dI p.2.1,.d (.str p.2.2.1),.d (.sl 1 (p.2.2.2.1.map cS)),.d (.sl 5 (p.2.2.2.2.map bD))])]) (fun s h hk1=>?_) (fun s h=>?_)
  ·refine aU ?_
   refine tL (fun n p=>pB F a1 n p.1 p.2.1 p.2.2.1 p.2.2.2.1 p.2.2.2.2.1 p.2.2.2.2.2) [.keep [2,4,18,19,20,1000000]] [2,4,18,19,20,1000000] (fun p=>[(2,.box [dI p.1,dI p.2.1,.d (.str p.2.2.1),.d (.sl 1 (p.2.2.2.1.map cS)),.d (.sl 5 (p.2.2.2.2.1.map bD))]),(20,dI p.2.2.2.2.2)]) F (a0.f0,a0.f1,a0.f2,a0.f3,a0.f4,(0:Int)) h fun n p h=>?_
   obtain ⟨v1,v2,v3,v4,v5,v6⟩:=p
   have h:pB F a1 (n+1) v1 v2 v3 v4 v5 v6=some s:=h
   rw [pB] at h
   refine tR [] [2,4,18,19,20,21,1000000] ?_
   refine aK ?_
   refine tC h (fun hc h=>?_) fun hc h=>?_
   ·refine aO (tS ?_)
    refine aK ?_
    refine aU ?_
    obtain ⟨hp1,h⟩:=aL h
    refine tR [iI 0 (bX (d:=[]) cS hp1)] [2,4,8,18,19,20,1000000] ?_
    obtain ⟨y1,hy2,h⟩:=aH h
    refine tR [iC 2 [] (aV6 hy2)] [2,4,9,10,11,18,19,20,1000000] ?_
    refine aK ?_
    refine tR [] [2,4,9,10,11,18,19,20,32,1000000] ?_
    refine tC h (fun hc h=>?_) fun hc h=>?_
    ·refine kI [(0,{ take:=[0] })] [4,5,1000000] [.nilc 4 3 9 1,.nilc 4 4 47 5,.keep [4,5,1000000]] [(4,.box [dI 0,dI 0,.d (.str []),oW3 [],oW4 []]),(5,dI y1.2.2),(1000000,.glo 6 (aA.flatMap (cI .u64)))] [] 4 (by kernel_rfl) (trivial) ?_
     cases h
     have h:=bE hk1
     cases h
     refine aP (tqc [.frz (4,4),.frz (4,5),.keep [4,5,1000000]])
    ·refine aO (tS ?_)
     refine aK ?_
     refine tR [] [2,4,9,18,19,20,36,1000000] ?_
     refine tC h (fun hc h=>?_) fun hc h=>?_
     ·refine kI [(0,{ take:=[0] })] [4,5,1000000] [.nilc 4 3 9 1,.nilc 4 4 47 5,.keep [4,5,1000000]] [(4,.box [dI 0,dI 0,.d (.str []),oW3 [],oW4 []]),(5,dI (8:Int)),(1000000,.glo 6 (aA.flatMap (cI .u64)))] [] 3 (by kernel_rfl) (trivial) ?_
      cases h
      have h:=bE hk1
      cases h
      refine aP (tqc [.frz (4,4),.frz (4,5),.keep [4,5,1000000]])
     ·refine aO (tS ?_)
      obtain ⟨hp2,h⟩:=aL h
      refine tRe [iI 3 (rV (d:=dM) eY hp2)] [2,4,18,19,20,1000000] (tS ?_)
      refine tRe [] [2,4,18,19,20,1000000] (tE [.keep [2,4,18,19,20,1000000]] ((v5.getD y1.1.toNat dM).f0,(v5.getD y1.1.toNat dM).f1,(v5.getD y1.1.toNat dM).f2,(v5.getD y1.1.toNat dM).f3,(v5.getD y1.1.toNat dM).f4,IntKind.i64.wrap (v6+(1:Int))) h)
   ·cases h
    refine cZ (tG [.keep [2,4,1000000]])
  ·obtain ⟨v7,v8,v9,v10,v11⟩:=s
   try dsimp only at h
   refine tS ?_
   obtain ⟨y3,hy3,h⟩:=aH h
   refine tR [iC 1 [] (aU0 hy3)] [4,5,1000000] ?_
   cases h
   refine aP (tq [4,5,1000000])
theorem aA5 {F:Nat}  {r:bC} (h:vD F  = some r):aG Tryz.prog 14 [] [] (.agg (bP r)) []:=by
 rw [vD] at h
 refine aG.intro (N:=5) Tryz.func14 rfl rfl rfl rfl rfl fun e=>?_
 refine tR [] [0] ?_
 refine tR [iR 2 (([(aJ.mk (1:Int) (aC.mk (7:Int) 0 [] [] []) [])]).map aF),iH 3 { frz:=[(3,0)] }] [0] ?_
 cases h
 refine aP (tq [0])
theorem yU {F:Nat} {rec_object_Refs_c1:aC→(List Int)→Option ((List Int))} (hrec_object_Refs_c1:∀ {a0:aC},∀ {c1:List Int},∀ {r:(List Int)},rec_object_Refs_c1 a0 c1=some r→aG Tryz.prog 33 [.agg (aZ a0),.bp 1000000 0,.bp 1000001 0] [.box [.own 3 1 (c1.map (cI .i64))],.box [.clo 33 [.bp 1000000 0,.bp 1000001 0]]] (.tup []) [.box [.own 3 1 (r.map (cI .i64))],.box [.clo 33 [.bp 1000000 0,.bp 1000001 0]]]) {a0:aC} {c1:List Int} {r:(List Int)} (h:jT F rec_object_Refs_c1 a0 c1=some r):aG Tryz.prog 33 [.agg (aZ a0),.bp 1000000 0,.bp 1000001 0] [.box [.own 3 1 (c1.map (cI .i64))],.box [.clo 33 [.bp 1000000 0,.bp 1000001 0]]] (.tup []) [.box [.own 3 1 (r.map (cI .i64))],.box [.clo 33 [.bp 1000000 0,.bp 1000001 0]]]:=by
 rw [jT] at h
 refine aG.intro (N:=25) Tryz.func33 rfl rfl rfl rfl rfl fun e=>?_
 refine tR [] [1,2,3,1000000,1000001] ?_
 refine jc h [2,3,1000000,1000001] (fun p=>[(1000000,.box [oW6 p])]) (fun s h=>?_) (fun v3 h=>?_)
 ·refine tR [] [1,2,3,8,1000000,1000001] ?_
  refine tC h (fun hc h=>?_) fun hc h=>?_
  ·obtain ⟨hp1,h⟩:=aL h
   cases h
   refine tRe [iR 3 (([a0.f1]).map (cI .i64)),iE 4 (gB (cI .i64) hp1)] [2,3,1000000,1000001] (tJ [.keep [2,3,1000000,1000001]])
  ·cases h
   refine aO (tJ [.keep [2,3,1000000,1000001]])
 ·refine tR [iW 2 (cO bD (xs:=a0.f4))] [2,15,16,17,1000000,1000001] ?_
  refine jct h [1000000,1000001] (fun p=>[(1000000,.box [oW6 p])]) (fun s h=>?_) (fun v4 h=>?_)
  ·refine aU ?_
   refine tL2 (gC F a0 rec_object_Refs_c1) [.keep [2,15,16,17,1000000,1000001]] [2,15,16,17,1000000,1000001] (fun v1 v2=>[(17,dI v1),(1000000,.box [oW6 v2])]) F (0:Int) v3 h fun n v1 v2 h=>?_
   rw [gC] at h
   refine tR [] [2,15,16,17,18,1000000,1000001] ?_
   refine aK ?_
   refine tC h (fun hc h=>?_) fun hc h=>?_
   ·refine aO (tS ?_)
    refine aK ?_
    refine aU ?_
    obtain ⟨hp2,h⟩:=aL h
    refine tR [iI 0 (rV (d:=dM) eY hp2)] [2,5,15,16,17,1000000,1000001] ?_
    obtain ⟨y1,hy1,h⟩:=aH h
    refine tRe [iC 2 [1000000,1000001] (hrec_object_Refs_c1 hy1)] [2,15,16,17,1000000,1000001] (tS ?_)
    refine tRe [] [2,15,16,17,1000000,1000001] (tE [.keep [2,15,16,17,1000000,1000001]] (IntKind.i64.wrap (v1+(1:Int)),y1) h)
   ·cases h
    refine cZ (tJ [.keep [1000000,1000001]])
  ·cases h
   refine tq [1000000,1000001]
theorem zI {F:Nat} (n:Nat):∀ {a0:aC} {c1:List Int} {r:(List Int)},fZ F n a0 c1=some r→aG Tryz.prog 33 [.agg (aZ a0),.bp 1000000 0,.bp 1000001 0] [.box [.own 3 1 (c1.map (cI .i64))],.box [.clo 33 [.bp 1000000 0,.bp 1000001 0]]] (.tup []) [.box [.own 3 1 (r.map (cI .i64))],.box [.clo 33 [.bp 1000000 0,.bp 1000001 0]]]:=by
 induction n with
 | zero=>intro a0 c1 r h; exact absurd (show (none:Option ((List Int)))=some r from h) (by simp)
 | succ n ih=>intro a0 c1 r h; exact yU ih h
theorem aM6 {F:Nat} {a0:aC} {c1:List Int} {r:(List Int)} (h:vW F a0 c1=some r):aG Tryz.prog 33 [.agg (aZ a0),.bp 1000000 0,.bp 1000001 0] [.box [.own 3 1 (c1.map (cI .i64))],.box [.clo 33 [.bp 1000000 0,.bp 1000001 0]]] (.tup []) [.box [.own 3 1 (r.map (cI .i64))],.box [.clo 33 [.bp 1000000 0,.bp 1000001 0]]]:=zI F h
theorem bC1 {F:Nat} {a0:aC} {r:(List Int)×Int} (h:qO F a0=some r):aG Tryz.prog 18 [.agg (aZ a0)] [.glo 6 (aA.flatMap (cI .u64))] (.tup [.own 3 1 (r.1.map (cI .i64)),.d (.v (.int .i64 r.2))]) [.glo 6 (aA.flatMap (cI .u64))]:=by
 rw [qO] at h
 refine aG.intro (N:=20) Tryz.func18 rfl rfl rfl rfl rfl fun e=>?_
 refine tR [] [1,1000000] ?_
 refine aK ?_
 obtain ⟨y1,hy1,h⟩:=aH h
 refine tR [iC 1 [1000000] (uW hy1)] [1,4,1000000] ?_
 refine tR [] [1,4,10,1000000] ?_
 refine tC h (fun hc h=>?_) fun hc h=>?_
 ·refine tR [] [2,3,1000000] ?_
  cases h
  refine aP (tq [2,3,1000000])
 ·refine aO (tS ?_)
  refine tR [] [1,5,1000000] ?_
  refine tR [] [1,5,6,1000000] ?_
  refine tR [] [1,5,6,1000000] ?_
  obtain ⟨y2,hy2,h⟩:=aH h
  refine tR [iC 2 [5,6] (aM6 hy2)] [5,1000000] ?_
  obtain ⟨hp1,h⟩:=aL h
  refine tR [iC 1 [5] (show aG Tryz.prog 34 [.vw (1000000,1)] [.box [oW6 y2]] (.tup []) [.box [.own 3 1 ((nI y2).map (cI .i64))]] from cE7 (κ:=3) hp1 (by kernel_rfl) (by kernel_rfl))] [5,1000000] ?_
  obtain ⟨hp2,h⟩:=aL h
  refine tR [iC 1 [5] (show aG Tryz.prog 35 [.vw (1000000,1)] [.box [.own 3 1 ((nI y2).map (cI .i64))]] (.own 3 1 ((Lib.compact (nI y2)).map (cI .i64))) [.box [.junk]] from bJ4 (κ:=3) hp2 (by decide) (by kernel_rfl) (by kernel_rfl))] [2,3,1000000] ?_
  cases h
  refine aP (tq [2,3,1000000])
theorem uZ {F:Nat} {a0:aJ} {a1:Int} {r:Int} (h:oF F a0 a1=some r):aG Tryz.prog 37 [.agg (aF a0),.d (.v (.int .i64 a1))] [] (.d (.v (.int .i64 r))) []:=by
 rw [oF] at h
 refine aG.intro (N:=9) Tryz.func37 rfl rfl rfl rfl rfl fun e=>?_
 refine tR [] [1,2] ?_
 refine tR [] [4] ?_
 cases h
 refine aP (tq [4])
theorem sS {F:Nat} {a0:List aJ} {a1:Int} {r:Int×Bool} (h:gU F a0 a1=some r):aG Tryz.prog 36 [.d (.sl 7 (a0.map aF)),.d (.v (.int .i64 a1)),.clo 37 []] [] (.tup [.d (.v (.int .i64 r.1)),.d (.v (.bool r.2))]) []:=by
 rw [gU] at h
 refine aG.intro (N:=49) Tryz.func36 rfl rfl rfl rfl rfl fun e=>?_
 refine tR [] [0,1,2] ?_
 refine tR [iW 1 (cO aF (xs:=a0))] [0,1,2,8] ?_
 refine tR [] [0,1,2,8,9,10] ?_
 refine jc h [0,1,2,8,9] (fun p=>[(9,dI p)]) (fun s h=>?_) (fun v3 h=>?_)
 ·refine aU ?_
  refine tL2 (bU F a0 a1) [.keep [0,1,2,8,9,10]] [0,1,2,8,9,10] (fun v1 v2=>[(9,dI v1),(10,dI v2)]) F (0:Int) (a0.length:Int) h fun n v1 v2 h=>?_
  rw [bU] at h
  refine aK ?_
  refine tR [] [0,1,2,8,9,10,17] ?_
  refine tC h (fun hc h=>?_) fun hc h=>?_
  ·refine aO (tS ?_)
   refine aU ?_
   obtain ⟨z1,hz1,h⟩:=aW h
   refine tR [iW 4 (show (0≤(1:Int))∧AV.d (.v (.int .u64 ((IntKind.u64.wrap (IntKind.i64.wrap (v1+v2))).fdiv (2 ^ (min (1:Int).toNat IntKind.u64.bits)))))=.d (.v (.int .u64 z1)) from ⟨(show 0≤(1:Int) by decide),(by subst hz1; rfl)⟩)] [0,1,2,8,9,10,11] ?_
   obtain ⟨hp1,h⟩:=aL h
   obtain ⟨y1,hy1,h⟩:=aH h
   refine tR [iI 3 (bX (d:=bB) aF hp1),iC 6 [] (uZ hy1)] [0,1,2,8,9,10,11,31] ?_
   refine tC h (fun hc h=>?_) fun hc h=>?_
   ·refine tRe [] [0,1,2,8,9,10] (tE [.keep [0,1,2,8,9,10]] (IntKind.i64.wrap ((IntKind.i64.wrap z1)+(1:Int)),v2) h)
   ·refine tRe [] [0,1,2,8,9,10] (tE [.keep [0,1,2,8,9,10]] (v1,IntKind.i64.wrap z1) h)
  ·cases h
   refine cZ (tJ [.keep [0,1,2,8,9]])
 ·obtain ⟨hp2,h⟩:=aL h
  obtain ⟨y2,hy2,h⟩:=aH h
  refine tR [iF 8 { cs:=aF (a0.getD v3.toNat bB) } (show ((((decide (v3 < (a0.length:Int))) == true) && true)=true→0≤v3∧(a0.map aF)[v3.toNat]? = some (aF (a0.getD v3.toNat bB))) from (fun hg=>bX (d:=bB) aF (hp2 hg))),iD 11 [] (fun hg=>uZ (eG hg hy2))] [6,7] ?_
  cases h
  refine aP (tq [6,7])
theorem kG {F:Nat} {a0:bC} {a1:Int} {r:Int×Bool} (h:gW F a0 a1=some r):aG Tryz.prog 19 [.agg (bP a0),.d (.v (.int .i64 a1))] [] (.tup [.d (.v (.int .i64 r.1)),.d (.v (.bool r.2))]) []:=by
 rw [gW] at h
 refine aG.intro (N:=12) Tryz.func19 rfl rfl rfl rfl rfl fun e=>?_
 refine tR [] [1,2] ?_
 obtain ⟨y1,hy1,h⟩:=aH h
 refine tR [iC 3 [] (sS hy1)] [4,5] ?_
 cases h
 refine aP (tq [4,5])
end Go.Vm.PgfG
