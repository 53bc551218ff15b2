/-
  Texts.
-/
import Derived.Test.YtgonfionbbhmkaaGreatDoorProg
import Derived.Test.YtgonfionbbhmkaaGreatDoorVmE
import Derived.Test.YtgonfionbbhmkaaGreatDoorB
set_option maxRecDepth 20000
namespace Go.Vm.PgfG
open Go.Proofs
abbrev dI (x:Int):AV:=.d (.v (.int .i64 x))
abbrev dB (x:Bool):AV:=.d (.v (.bool x))
abbrev mX (x:aC):AV:=.box [.d (.v (.int .i64 x.f0)),.d (.v (.int .i64 x.f1)),.d (.str x.f2),.d (.sl 1 (x.f3.map cS)),.d (.sl 5 (x.f4.map bD))]
abbrev bR1 (x:aJ):AV:=.box [.d (.v (.int .i64 x.f0)),.d (.v (.int .i64 x.f1.f0)),.d (.v (.int .i64 x.f1.f1)),.d (.str x.f1.f2),.d (.sl 1 (x.f1.f3.map cS)),.d (.sl 5 (x.f1.f4.map bD)),.d (.str x.f2)]
abbrev kM (x:bC):AV:=.box [.d (.v (.int .i64 x.f0)),.d (.sl 7 (x.f1.map aF))]
abbrev aN6 (x:aM):AV:=.box [.d (.v (.int .i64 x.f0)),.d (.v (.int .i64 x.f1)),.d (.str x.f2),.d (.v (.int .i64 x.f3)),.d (.v (.int .i64 x.f4))]
abbrev bB:aJ:=aJ.mk 0 (aC.mk 0 0 [] [] []) []
abbrev dM:aC:=aC.mk 0 0 [] [] []
abbrev sZ:aM:=aM.mk 0 0 [] 0 0
abbrev fK:aT:=aT.mk 0 0
abbrev yY:dA:=dA.mk 0 0
abbrev bE1:bC:=bC.mk 0 []
abbrev oW0 (x:List bC):AV:=.own 24 2 (x.map bP)
abbrev oW1 (x:List UInt8):AV:=.own 5 1 (x.map cU)
abbrev oW2 (x:List aM):AV:=.own 79 5 (x.map bH)
abbrev oW3 (x:List (List UInt8)):AV:=.own 9 1 (x.map cS)
abbrev oW4 (x:List aC):AV:=.own 47 5 (x.map bD)
abbrev oW5 (x:List aJ):AV:=.own 49 7 (x.map aF)
abbrev oW6 (x:List Int):AV:=.own 3 1 (x.map (cI .i64))
abbrev oW7 (x:List dA):AV:=.own 163 2 (x.map eB)
abbrev oW8 (x:List aT):AV:=.own 126 2 (x.map bK)
theorem mixed:Tryz.prog.follows .mixedOrders=true:=by kernel_rfl
theorem yC {F:Nat} {a0:List bC} {r:(List bC)} (h:lM F a0=some r):aG Tryz.prog 52 [.d (.sl 2 (a0.map bP))] [] (.own 24 2 (r.map bP)) []:=by
 rw [lM] at h
 refine aG.intro (N:=8) Tryz.func52 rfl rfl rfl rfl rfl fun e=>?_
 refine tR [] [0] ?_
 refine aK ?_
 refine aF7 (sz:=2) (es:=(a0.map bP)) 0 3 4 29 (by kernel_rfl) (by kernel_rfl) (by kernel_rfl) (by kernel_rfl) [0] [(0,.d (.sl 2 (a0.map bP)))] (fun _=>by kernel_rfl) (fun hnil=>?_) ?_
 ·replace hnil:=List.map_eq_nil_iff.1 hnil
  have h:(some [])=some r:=by subst hnil; exact h
  refine tR [] [2] ?_
  cases h
  refine aP (tq [2])
 ·refine aO (tS ?_)
  obtain ⟨hp1,h⟩:=aL h
  refine tR [iP 0 (show ([]:List (List Dat))=[] from rfl),iE 2 (gB bP hp1)] [2] ?_
  cases h
  refine aP (tq [2])
theorem aA4 {F:Nat} {a0:Int} {r:Bool} (h:qW F a0=some r):aG Tryz.prog 178 [.d (.v (.int .u8 a0))] [] (.d (.v (.bool r))) []:=by
 rw [qW] at h
 refine aG.intro (N:=17) Tryz.func178 rfl rfl rfl rfl rfl fun e=>?_
 refine tR [] [0] ?_
 obtain ⟨z1,hz1,h⟩:=aW h
 refine tR [iB 13 hz1] [2] ?_
 cases h
 refine aP (tq [2])
theorem rX {F:Nat} {a0:Int} {r:Bool} (h:mG F a0=some r):aG Tryz.prog 179 [.d (.v (.int .u8 a0))] [] (.d (.v (.bool r))) []:=by
 rw [mG] at h
 refine aG.intro (N:=9) Tryz.func179 rfl rfl rfl rfl rfl fun e=>?_
 refine tR [] [0] ?_
 refine tR [] [2] ?_
 cases h
 refine aP (tq [2])
theorem oM {F:Nat} {a0:List UInt8} {a1:Int} {r:(List UInt8)×Int} (h:lS F a0 a1=some r):aG Tryz.prog 202 [.d (.str a0),.d (.v (.int .i64 a1))] [] (.tup [.d (.str r.1),.d (.v (.int .i64 r.2))]) []:=by
 rw [lS] at h
 refine aG.intro (N:=11) Tryz.func202 rfl rfl rfl rfl rfl fun e=>?_
 refine tR [] [0,1] ?_
 refine aK ?_
 refine tR [] [0,9] ?_
 refine tC h (fun hc h=>?_) fun hc h=>?_
 ·refine tR [] [4,5] ?_
  cases h
  refine aP (tq [4,5])
 ·refine aO (tS ?_)
  refine tR [] [4,5] ?_
  cases h
  refine aP (tq [4,5])
theorem aI8 {F:Nat} {a0:List UInt8} {r:(List UInt8)×Int} (h:sB F a0=some r):aG Tryz.prog 176 [.d (.str a0)] [] (.tup [.d (.str r.1),.d (.v (.int .i64 r.2))]) []:=by
 rw [sB] at h
 refine aG.intro (N:=45) Tryz.func176 rfl rfl rfl rfl rfl fun e=>?_
 refine tR [] [0] ?_
 refine aK ?_
 refine tR [] [0,7,8] ?_
 refine jEt h [0] (fun p=>[]) (fun s h hk1=>?_) (fun s h=>?_)
 ·refine aU ?_
  refine tL1 (jK F a0) [.keep [0,7,8]] [0,7,8] (fun v1=>[(8,dI v1)]) F (0:Int) h fun n v1 h=>?_
  rw [jK] at h
  refine tR [] [0,7,8,9] ?_
  refine aK ?_
  refine tC h (fun hc h=>?_) fun hc h=>?_
  ·refine aO (tS ?_)
   refine aK ?_
   refine aU ?_
   refine tR [] [0,4,7,8] ?_
   obtain ⟨hp1,h⟩:=aL h
   refine tR [iP 2 hp1] [0,4,5,7,8] ?_
   obtain ⟨y1,hy1,h⟩:=aH h
   obtain ⟨y2,hy2,h⟩:=aH h
   obtain ⟨z1,hz1,h⟩:=aW h
   obtain ⟨z2,hz2,h⟩:=aW h
   refine tR [iC 1 [] (aA4 hy1),iD 8 [] (fun hg=>rX (eG hg hy2)),iB 15 hz1,iB 23 hz2] [0,7,8,37] ?_
   refine tC h (fun hc h=>?_) fun hc h=>?_
   ·refine tR [] [2,3] ?_
    cases h
    have h:=bE hk1
    cases h
    refine aP (tq [2,3])
   ·refine aO (tS ?_)
    refine tRe [] [0,7,8] (tE [.keep [0,7,8]] (IntKind.i64.wrap (v1+(1:Int))) h)
  ·cases h
   refine cZ (tG [.keep [0]])
 ·refine tS ?_
  refine aK ?_
  refine tR [] [0,40] ?_
  refine tC h (fun hc h=>?_) fun hc h=>?_
  ·refine tR [] [2,3] ?_
   cases h
   refine aP (tq [2,3])
  ·refine aO (tS ?_)
   obtain ⟨y3,hy3,h⟩:=aH h
   refine tR [iC 1 [] (oM hy3)] [2,3] ?_
   cases h
   refine aP (tq [2,3])
theorem bK2 {F:Nat} {a0:Int} {r:Int} (h:qK F a0=some r):aG Tryz.prog 177 [.d (.v (.int .i64 a0))] [] (.d (.v (.int .i64 r))) []:=by
 rw [qK] at h
 refine aG.intro (N:=6) Tryz.func177 rfl rfl rfl rfl rfl fun e=>?_
 refine tR [] [0] ?_
 refine aK ?_
 refine tR [] [0,4] ?_
 refine tC h (fun hc h=>?_) fun hc h=>?_
 ·refine tR [] [2] ?_
  cases h
  refine aP (tq [2])
 ·refine aO (tS ?_)
  refine tR [] [2] ?_
  cases h
  refine aP (tq [2])
theorem bB0 {F:Nat} {a0:aM} {r:Int} (h:bW F a0=some r):aG Tryz.prog 126 [.agg (bH a0)] [] (.d (.v (.int .i64 r))) []:=by
 rw [bW] at h
 refine aG.intro (N:=128) Tryz.func126 rfl rfl rfl rfl rfl fun e=>?_
 refine tR [] [1] ?_
 refine tR [] [1,3] ?_
 obtain ⟨z1,hz1,h⟩:=aW h
 refine tR [iB 12 hz1] [1,3,4] ?_
 refine jE h [] (fun p=>[]) (fun s h hk1=>?_) (fun s h=>?_)
 ·refine aU ?_
  refine tR [] [1,3,4,28] ?_
  refine tC h (fun hc h=>?_) fun hc h=>?_
  ·refine tR [] [2] ?_
   cases h
   have h:=bE hk1
   cases h
   refine aP (tq [2])
  ·refine jc h [1,37] (fun p=>[(37,dB p)]) (fun s h=>?_) (fun v1 h=>?_)
   ·obtain ⟨z2,hz2,h⟩:=aW h
    refine tR [iB 6 hz2] [1,4,37] ?_
    refine tC h (fun hc h=>?_) fun hc h=>?_
    ·cases h
     refine aO (tJ [.keep [1,37]])
    ·cases h
     refine tRe [] [1,37] (tJ [.keep [1,37]])
   ·refine tC h (fun hc h=>?_) fun hc h=>?_
    ·refine tR [] [2] ?_
     cases h
     have h:=bE hk1
     cases h
     refine aP (tq [2])
    ·obtain ⟨z3,hz3,h⟩:=aW h
     refine tR [iC 10 [] (show aG Tryz.prog 175 [.d (.str a0.f2),.d (.v (.int .u8 (0:Int)))] [] (dI (Lib.indexByte a0.f2 (0:Int).toNat.toUInt8)) [] from zY),iB 12 hz3] [1,52] ?_
     refine tC h (fun hc h=>?_) fun hc h=>?_
     ·refine tR [] [2] ?_
      cases h
      have h:=bE hk1
      cases h
      refine aP (tq [2])
     ·obtain ⟨z4,hz4,h⟩:=aW h
      refine tR [iB 12 hz4] [1,67] ?_
      refine tC h (fun hc h=>?_) fun hc h=>?_
      ·refine tR [] [2] ?_
       cases h
       have h:=bE hk1
       cases h
       refine aP (tq [2])
      ·obtain ⟨z5,hz5,h⟩:=aW h
       refine tR [iB 12 hz5] [1,81] ?_
       refine tC h (fun hc h=>?_) fun hc h=>?_
       ·refine tR [] [2] ?_
        cases h
        have h:=bE hk1
        cases h
        refine aP (tq [2])
       ·refine jc h [1,95] (fun p=>[(95,dB p)]) (fun s h=>?_) (fun v2 h=>?_)
        ·refine tR [] [1,95] ?_
         refine tC h (fun hc h=>?_) fun hc h=>?_
         ·cases h
          refine aO (tJ [.keep [1,95]])
         ·cases h
          refine tRe [] [1,95] (tJ [.keep [1,95]])
        ·refine tC h (fun hc h=>?_) fun hc h=>?_
         ·refine tR [] [2] ?_
          cases h
          have h:=bE hk1
          cases h
          refine aP (tq [2])
         ·refine tR [] [1,114] ?_
          refine tC h (fun hc h=>?_) fun hc h=>?_
          ·obtain ⟨y1,hy1,h⟩:=aH h
           refine tR [iC 2 [] (aI8 hy1)] [6] ?_
           refine tR [] [6,125] ?_
           refine tC h (fun hc h=>?_) fun hc h=>?_
           ·obtain ⟨y2,hy2,h⟩:=aH h
            refine tR [iC 1 [] (bK2 hy2)] [2] ?_
            cases h
            have h:=bE hk1
            cases h
            refine aP (tq [2])
           ·cases h
            refine aO (tG [.keep []])
          ·cases h
           refine aO (tG [.keep []])
 ·refine tR [] [2] ?_
  cases h
  refine aP (tq [2])
theorem bF {F:Nat} {a0:Int} {c1:List UInt8} {r:Unit×(List UInt8)} (h:aY F a0 c1=some r):aG Tryz.prog 89 [.bp 1000000 0,.d (.v (.int .u8 a0))] [.box [.slf 0 94,.own 5 1 (c1.map cU)]] (.d (.v .nilIface)) [.box [.slf 0 94,.own 5 1 (r.2.map cU)]]:=by
 rw [aY] at h
 refine aG.intro (N:=17) Tryz.func89 rfl rfl rfl rfl rfl fun e=>?_
 refine tR [] [0,1,1000000] ?_
 refine tR [iC 1 [1000000] (show aG Tryz.prog 71 [.bp 1000000 0] [.box [.slf 0 94,oW1 c1]] (.tup []) [.box [.slf 0 94,oW1 c1]] from wR (E:=94) (by kernel_rfl) (by kernel_rfl) (by kernel_rfl))] [0,1,1000000] ?_
 obtain ⟨hp1,h⟩:=aL h
 obtain ⟨hp2,h⟩:=aL h
 refine tR [iX 6 { es:=some (([(UInt8.ofNat a0.toNat)]).map cU) } (show [[Dat.v (.int .u8 a0)]]=(([(UInt8.ofNat a0.toNat)]).map cU) from oZ hp1 (rfl:([]:List (List Dat))=([]:List UInt8).map cU)),iE 7 (gB cU hp2)] [1000000] ?_
 refine tR [] [4,1000000] ?_
 cases h
 refine aP (tq [4,1000000])
theorem aE4 {F:Nat} {a0:List UInt8} {r:(List UInt8)} (h:mZ F a0=some r):aG Tryz.prog 127 [.d (.str a0)] [] (.d (.str r)) []:=by
 rw [mZ] at h
 refine aG.intro (N:=45) Tryz.func127 rfl rfl rfl rfl rfl fun e=>?_
 refine tR [] [0] ?_
 refine tR [iH 0 { slfs:=[(0,0)] }] [0,3] ?_
 refine aK ?_
 refine tR [] [0,3,7,8] ?_
 refine jct h [3] (fun p=>[(3,.box [.slf 0 94,oW1 p])]) (fun s h=>?_) (fun v4 h=>?_)
 ·refine aU ?_
  refine tL2 (eX F a0) [.keep [0,3,7,8]] [0,3,7,8] (fun v1 v2=>[(3,.box [.slf 0 94,oW1 v1]),(8,dI v2)]) F [] (0:Int) h fun n v1 v2 h=>?_
  rw [eX] at h
  refine tR [] [0,3,7,8,9] ?_
  refine aK ?_
  refine tC h (fun hc h=>?_) fun hc h=>?_
  ·refine aO (tS ?_)
   refine jc h [0,3,7,8] (fun p=>[(3,.box [.slf 0 94,oW1 p])]) (fun s h=>?_) (fun v3 h=>?_)
   ·refine aU ?_
    refine tR [] [0,3,4,7,8] ?_
    obtain ⟨hp1,h⟩:=aL h
    refine tR [iP 2 hp1] [0,3,5,7,8] ?_
    refine aK ?_
    obtain ⟨y1,hy1,h⟩:=aH h
    obtain ⟨y2,hy2,h⟩:=aH h
    obtain ⟨z1,hz1,h⟩:=aW h
    obtain ⟨z2,hz2,h⟩:=aW h
    refine tR [iC 1 [] (aA4 hy1),iD 4 [] (fun hg=>rX (eG hg hy2)),iB 9 hz1,iB 17 hz2] [0,3,5,7,8,31] ?_
    refine tC h (fun hc h=>?_) fun hc h=>?_
    ·obtain ⟨y3,hy3,h⟩:=aH h
     refine tR [iC 1 [3] (bF hy3)] [0,3,7,8] ?_
     cases h
     refine cZ (tJ [.keep [0,3,7,8]])
    ·refine aO (tS ?_)
     obtain ⟨y4,hy4,h⟩:=aH h
     refine tR [iC 0 [3] (bF hy4)] [0,3,5,7,8] ?_
     obtain ⟨hp2,h⟩:=aL h
     obtain ⟨z3,hz3,h⟩:=aW h
     obtain ⟨y5,hy5,h⟩:=aH h
     refine tR [iP 1 (show 0≤(4:Int) by decide),iW 2 (show (0≤(((a0.getD v2.toNat 0).toNat:Int).fdiv (2 ^ (min (4:Int).toNat IntKind.u8.bits)))∧(((a0.getD v2.toNat 0).toNat:Int).fdiv (2 ^ (min (4:Int).toNat IntKind.u8.bits))) < ([48,49,50,51,52,53,54,55,56,57,97,98,99,100,101,102]:List UInt8).length)∧AV.d (.v (.int .u8 ((([48,49,50,51,52,53,54,55,56,57,97,98,99,100,101,102]:List UInt8).getD (((a0.getD v2.toNat 0).toNat:Int).fdiv (2 ^ (min (4:Int).toNat IntKind.u8.bits))).toNat 0).toNat:Int)))=.d (.v (.int .u8 z3)) from ⟨hp2,(by subst hz3; rfl)⟩),iC 3 [3] (bF hy5)] [0,3,5,7,8] ?_
     obtain ⟨z4,hz4,h⟩:=aW h
     obtain ⟨hp3,h⟩:=aL h
     obtain ⟨z5,hz5,h⟩:=aW h
     obtain ⟨y6,hy6,h⟩:=aH h
     cases h
     refine tRe [iZ 1 (aI .u8) hz4,iW 2 (show (0≤z4∧z4 < ([48,49,50,51,52,53,54,55,56,57,97,98,99,100,101,102]:List UInt8).length)∧AV.d (.v (.int .u8 ((([48,49,50,51,52,53,54,55,56,57,97,98,99,100,101,102]:List UInt8).getD z4.toNat 0).toNat:Int)))=.d (.v (.int .u8 z5)) from ⟨hp3,(by subst hz5; rfl)⟩),iC 3 [3] (bF hy6)] [0,3,7,8] (tJ [.keep [0,3,7,8]])
   ·refine tRe [] [0,3,7,8] (tE [.keep [0,3,7,8]] (v3,IntKind.i64.wrap (v2+(1:Int))) h)
  ·cases h
   refine cZ (tJ [.keep [3]])
 ·refine tS ?_
  obtain ⟨hp4,h⟩:=aL h
  refine tR [iC 0 [3] (show aG Tryz.prog 51 [.bp 1000000 0] [.box [.slf 0 94,oW1 v4]] (.d (.str v4)) [.box [.slf 0 94,.junk]] from nK (l:=v4) hp4 (by kernel_rfl) (by kernel_rfl))] [2] ?_
  cases h
  refine aP (tq [2])
theorem bZ {F:Nat} {a0:List UInt8} {c1:List UInt8} {r:Int×Unit×(List UInt8)} (h:bS F a0 c1=some r):aG Tryz.prog 49 [.bp 1000000 0,.d (.str a0)] [.box [.slf 0 94,.own 5 1 (c1.map cU)]] (.tup [.d (.v (.int .i64 r.1)),.d (.v .nilIface)]) [.box [.slf 0 94,.own 5 1 (r.2.2.map cU)]]:=by
 rw [bS] at h
 refine aG.intro (N:=19) Tryz.func49 rfl rfl rfl rfl rfl fun e=>?_
 refine tR [] [0,1,1000000] ?_
 refine tR [iC 1 [1000000] (show aG Tryz.prog 71 [.bp 1000000 0] [.box [.slf 0 94,oW1 c1]] (.tup []) [.box [.slf 0 94,oW1 c1]] from wR (E:=94) (by kernel_rfl) (by kernel_rfl) (by kernel_rfl))] [0,1,1000000] ?_
 obtain ⟨hp1,h⟩:=aL h
 refine tR [iE 6 (gB cU hp1)] [1,1000000] ?_
 refine tR [] [4,5,1000000] ?_
 cases h
 refine aP (tq [4,5,1000000])
theorem aE2 {F:Nat} {a0:List UInt8} {r:(List UInt8)} (h:nG F a0=some r):aG Tryz.prog 128 [.d (.str a0)] [] (.d (.str r)) []:=by
 rw [nG] at h
 refine aG.intro (N:=58) Tryz.func128 rfl rfl rfl rfl rfl fun e=>?_
 refine tR [] [0] ?_
 refine tR [iH 0 { slfs:=[(0,0)] }] [0,3] ?_
 obtain ⟨y9,hy1,h⟩:=aH h
 refine tR [iC 0 [3] (bF hy1)] [0,3] ?_
 refine aK ?_
 refine tR [] [0,3,8,9] ?_
 refine jct h [3] (fun p=>[(3,.box [.slf 0 94,oW1 p])]) (fun s h=>?_) (fun v4 h=>?_)
 ·refine aU ?_
  refine tL2 (eV F a0) [.keep [0,3,8,9]] [0,3,8,9] (fun v1 v2=>[(3,.box [.slf 0 94,oW1 v1]),(9,dI v2)]) F y9.2 (0:Int) h fun n v1 v2 h=>?_
  rw [eV] at h
  refine tR [] [0,3,8,9,10] ?_
  refine aK ?_
  refine tC h (fun hc h=>?_) fun hc h=>?_
  ·refine aO (tS ?_)
   refine jc h [0,3,8,9] (fun p=>[(3,.box [.slf 0 94,oW1 p])]) (fun s h=>?_) (fun v3 h=>?_)
   ·refine aU ?_
    refine tR [] [0,3,4,8,9] ?_
    obtain ⟨hp1,h⟩:=aL h
    refine tR [iP 2 hp1] [0,3,5,8,9] ?_
    refine aU ?_
    refine tR [] [0,3,5,8,9,17] ?_
    refine tC h (fun hc h=>?_) fun hc h=>?_
    ·obtain ⟨y1,hy2,h⟩:=aH h
     cases h
     refine tRe [iC 0 [3] (bZ hy2)] [0,3,8,9] (tJ [.keep [0,3,8,9]])
    ·refine tR [] [0,3,5,8,9,21] ?_
     refine tC h (fun hc h=>?_) fun hc h=>?_
     ·obtain ⟨y2,hy3,h⟩:=aH h
      cases h
      refine tRe [iC 0 [3] (bZ hy3)] [0,3,8,9] (tJ [.keep [0,3,8,9]])
     ·obtain ⟨z1,hz1,h⟩:=aW h
      refine tR [iB 5 hz1] [0,3,5,8,9,25] ?_
      refine tC h (fun hc h=>?_) fun hc h=>?_
      ·obtain ⟨y3,hy4,h⟩:=aH h
       refine tR [iC 0 [3] (bF hy4)] [0,3,5,8,9] ?_
       obtain ⟨y4,hy5,h⟩:=aH h
       cases h
       refine tRe [iC 1 [3] (bF hy5)] [0,3,8,9] (tJ [.keep [0,3,8,9]])
      ·obtain ⟨z2,hz2,h⟩:=aW h
       refine tR [iB 5 hz2] [0,3,5,8,9,39] ?_
       refine tC h (fun hc h=>?_) fun hc h=>?_
       ·obtain ⟨y5,hy6,h⟩:=aH h
        refine tR [iC 0 [3] (bZ hy6)] [0,3,5,8,9] ?_
        obtain ⟨hp2,h⟩:=aL h
        obtain ⟨z3,hz3,h⟩:=aW h
        obtain ⟨y6,hy7,h⟩:=aH h
        refine tR [iP 1 (show 0≤(4:Int) by decide),iW 2 (show (0≤(((a0.getD v2.toNat 0).toNat:Int).fdiv (2 ^ (min (4:Int).toNat IntKind.u8.bits)))∧(((a0.getD v2.toNat 0).toNat:Int).fdiv (2 ^ (min (4:Int).toNat IntKind.u8.bits))) < ([48,49,50,51,52,53,54,55,56,57,97,98,99,100,101,102]:List UInt8).length)∧AV.d (.v (.int .u8 ((([48,49,50,51,52,53,54,55,56,57,97,98,99,100,101,102]:List UInt8).getD (((a0.getD v2.toNat 0).toNat:Int).fdiv (2 ^ (min (4:Int).toNat IntKind.u8.bits))).toNat 0).toNat:Int)))=.d (.v (.int .u8 z3)) from ⟨hp2,(by subst hz3; rfl)⟩),iC 3 [3] (bF hy7)] [0,3,5,8,9] ?_
        obtain ⟨z4,hz4,h⟩:=aW h
        obtain ⟨hp3,h⟩:=aL h
        obtain ⟨z5,hz5,h⟩:=aW h
        obtain ⟨y7,hy8,h⟩:=aH h
        cases h
        refine tRe [iZ 1 (aI .u8) hz4,iW 2 (show (0≤z4∧z4 < ([48,49,50,51,52,53,54,55,56,57,97,98,99,100,101,102]:List UInt8).length)∧AV.d (.v (.int .u8 ((([48,49,50,51,52,53,54,55,56,57,97,98,99,100,101,102]:List UInt8).getD z4.toNat 0).toNat:Int)))=.d (.v (.int .u8 z5)) from ⟨hp3,(by subst hz5; rfl)⟩),iC 3 [3] (bF hy8)] [0,3,8,9] (tJ [.keep [0,3,8,9]])
       ·obtain ⟨y8,hy9,h⟩:=aH h
        cases h
        refine tRe [iC 1 [3] (bF hy9)] [0,3,8,9] (tJ [.keep [0,3,8,9]])
   ·refine tRe [] [0,3,8,9] (tE [.keep [0,3,8,9]] (v3,IntKind.i64.wrap (v2+(1:Int))) h)
  ·cases h
   refine cZ (tJ [.keep [3]])
 ·refine tS ?_
  obtain ⟨y10,hy10,h⟩:=aH h
  refine tR [iC 0 [3] (bF hy10)] [3] ?_
  obtain ⟨hp4,h⟩:=aL h
  refine tR [iC 0 [3] (show aG Tryz.prog 51 [.bp 1000000 0] [.box [.slf 0 94,oW1 y10.2]] (.d (.str y10.2)) [.box [.slf 0 94,.junk]] from nK (l:=y10.2) hp4 (by kernel_rfl) (by kernel_rfl))] [2] ?_
  cases h
  refine aP (tq [2])
theorem wH {F:Nat} {a0:aM} {r:(List UInt8)×Int} (h:bJ F a0=some r):aG Tryz.prog 87 [.agg (bH a0)] [.glo 6 (aA.flatMap (cI .u64))] (.tup [.d (.str r.1),.d (.v (.int .i64 r.2))]) [.glo 6 (aA.flatMap (cI .u64))]:=by
 rw [bJ] at h
 refine aG.intro (N:=44) Tryz.func87 rfl rfl rfl rfl rfl fun e=>?_
 refine tR [] [1,1000000] ?_
 refine aK ?_
 obtain ⟨y1,hy1,h⟩:=aH h
 refine tR [iC 1 [] (bB0 hy1)] [1,4,1000000] ?_
 refine tR [] [1,4,8,1000000] ?_
 refine tC h (fun hc h=>?_) fun hc h=>?_
 ·refine tR [] [2,3,1000000] ?_
  cases h
  refine aP (tq [2,3,1000000])
 ·refine aO (tS ?_)
  refine aK ?_
  refine tR [] [1,11,1000000] ?_
  refine aU ?_
  refine tR [] [1,11,12,1000000] ?_
  refine tC h (fun hc h=>?_) fun hc h=>?_
  ·obtain ⟨hp1,h⟩:=aL h
   refine tR [iC 2 [1000000] (bM7 hp1)] [2,3,1000000] ?_
   cases h
   refine aP (tq [2,3,1000000])
  ·refine tR [] [1,11,17,1000000] ?_
   refine tC h (fun hc h=>?_) fun hc h=>?_
   ·obtain ⟨y2,hy2,h⟩:=aH h
    obtain ⟨hp2,h⟩:=aL h
    refine tR [iC 2 [] (aE4 hy2),iP 3 hp2] [2,3,1000000] ?_
    cases h
    refine aP (tq [2,3,1000000])
   ·refine tR [] [1,11,23,1000000] ?_
    refine tC h (fun hc h=>?_) fun hc h=>?_
    ·obtain ⟨y3,hy3,h⟩:=aH h
     refine tR [iC 2 [] (aE2 hy3)] [2,3,1000000] ?_
     cases h
     refine aP (tq [2,3,1000000])
    ·refine tR [] [1,11,28,1000000] ?_
     refine tC h (fun hc h=>?_) fun hc h=>?_
     ·obtain ⟨hp3,h⟩:=aL h
      obtain ⟨hp4,h⟩:=aL h
      refine tR [iC 2 [1000000] (bM7 hp3),iP 3 hp4] [2,3,1000000] ?_
      cases h
      refine aP (tq [2,3,1000000])
     ·refine tR [] [1,34,1000000] ?_
      refine tC h (fun hc h=>?_) fun hc h=>?_
      ·refine tR [] [2,3,1000000] ?_
       cases h
       refine aP (tq [2,3,1000000])
      ·refine aO (tS ?_)
       obtain ⟨hp5,h⟩:=aL h
       obtain ⟨z1,hz1,h⟩:=aW h
       refine tR [iR 0 (([([91]:List UInt8),([93]:List UInt8),([60,60]:List UInt8),([62,62]:List UInt8)]).map cS),iP 4 (show 0≤(IntKind.i64.wrap (a0.f0 - (6:Int)))∧(IntKind.i64.wrap (a0.f0 - (6:Int))) < (([([91]:List UInt8),([93]:List UInt8),([60,60]:List UInt8),([62,62]:List UInt8)]).map cS).length from dQ cS hp5),iX 5 { cs:=cS (([([91]:List UInt8),([93]:List UInt8),([60,60]:List UInt8),([62,62]:List UInt8)]).getD (IntKind.i64.wrap (a0.f0 - (6:Int))).toNat []),rw:=some (.d (.str z1)) } (show ((([([91]:List UInt8),([93]:List UInt8),([60,60]:List UInt8),([62,62]:List UInt8)]).map cS)[(IntKind.i64.wrap (a0.f0 - (6:Int))).toNat]? = some (cS (([([91]:List UInt8),([93]:List UInt8),([60,60]:List UInt8),([62,62]:List UInt8)]).getD (IntKind.i64.wrap (a0.f0 - (6:Int))).toNat [])))∧AV.d (.str (([([91]:List UInt8),([93]:List UInt8),([60,60]:List UInt8),([62,62]:List UInt8)]).getD (IntKind.i64.wrap (a0.f0 - (6:Int))).toNat []))=.d (.str z1) from ⟨(bX (d:=[]) cS hp5).2,(by subst hz1; rfl)⟩)] [2,3,1000000] ?_
       cases h
       refine aP (tq [2,3,1000000])
theorem aV4 {F:Nat} {a0:aC} {a1:Int} {r:Int} (h:uB F a0 a1=some r):aG Tryz.prog 84 [.agg (aZ a0),.d (.v (.int .i64 a1))] [.glo 6 (aA.flatMap (cI .u64))] (.d (.v (.int .i64 r))) [.glo 6 (aA.flatMap (cI .u64))]:=by
 rw [uB] at h
 refine aG.intro (N:=147) Tryz.func84 rfl rfl rfl rfl rfl fun e=>?_
 refine tR [] [1,2,1000000] ?_
 obtain ⟨z2,hz1,h⟩:=aW h
 refine tR [iB 12 hz1] [1,2,5,1000000] ?_
 refine tR [] [1,2,5,6,1000000] ?_
 refine tR [] [1,2,5,6,7,1000000] ?_
 refine aK ?_
 refine aU ?_
 refine tR [] [1,2,5,6,7,41,1000000] ?_
 refine tC h (fun hc h=>?_) fun hc h=>?_
 ·refine tR [] [4,1000000] ?_
  cases h
  refine aP (tq [4,1000000])
 ·refine tR [] [2,5,6,7,50,1000000] ?_
  refine tC h (fun hc h=>?_) fun hc h=>?_
  ·refine tR [] [4,1000000] ?_
   cases h
   refine aP (tq [4,1000000])
  ·refine jc h [2,53,1000000] (fun p=>[(53,dB p)]) (fun s h=>?_) (fun v2 h=>?_)
   ·refine tR [] [2,6,7,53,1000000] ?_
    refine tC h (fun hc h=>?_) fun hc h=>?_
    ·cases h
     refine aO (tJ [.keep [2,53,1000000]])
    ·obtain ⟨z3,hz2,h⟩:=aW h
     refine tR [iB 6 hz2] [2,7,53,1000000] ?_
     refine tC h (fun hc h=>?_) fun hc h=>?_
     ·cases h
      refine aO (tJ [.keep [2,53,1000000]])
     ·obtain ⟨z4,hz3,h⟩:=aW h
      cases h
      refine tRe [iW 2 (cO bD (xs:=a0.f4)),iB 7 hz3] [2,53,1000000] (tJ [.keep [2,53,1000000]])
   ·refine tC h (fun hc h=>?_) fun hc h=>?_
    ·refine tR [] [4,1000000] ?_
     cases h
     refine aP (tq [4,1000000])
    ·refine jc h [2,76,1000000] (fun p=>[(76,dB p)]) (fun s h=>?_) (fun v3 h=>?_)
     ·refine tR [iW 6 (cO cS (xs:=a0.f3)),iW 9 (cO bD (xs:=a0.f4))] [2,76,1000000] ?_
      refine tC h (fun hc h=>?_) fun hc h=>?_
      ·cases h
       refine aO (tJ [.keep [2,76,1000000]])
      ·cases h
       refine tRe [iW 6 (cO cS (xs:=a0.f3))] [2,76,1000000] (tJ [.keep [2,76,1000000]])
     ·refine tC h (fun hc h=>?_) fun hc h=>?_
      ·refine tR [] [4,1000000] ?_
       cases h
       refine aP (tq [4,1000000])
      ·obtain ⟨z5,hz4,h⟩:=aW h
       refine tR [iB 12 hz4] [2,98,1000000] ?_
       refine tC h (fun hc h=>?_) fun hc h=>?_
       ·refine tR [] [4,1000000] ?_
        cases h
        refine aP (tq [4,1000000])
       ·refine tR [iW 2 (cO bD (xs:=a0.f4))] [2,112,1000000] ?_
        refine tC h (fun hc h=>?_) fun hc h=>?_
        ·refine tR [] [4,1000000] ?_
         cases h
         refine aP (tq [4,1000000])
        ·refine aO (tS ?_)
         refine aK ?_
         refine tR [iW 2 (cO cS (xs:=a0.f3))] [2,118,119,120,1000000] ?_
         refine jEt h [1000000] (fun p=>[]) (fun s h hk1=>?_) (fun s h=>?_)
         ·refine aU ?_
          refine tL1 (jN F a0) [.keep [2,118,119,120,1000000]] [2,118,119,120,1000000] (fun v1=>[(120,dI v1)]) F (0:Int) h fun n v1 h=>?_
          rw [jN] at h
          refine tR [] [2,118,119,120,121,1000000] ?_
          refine aK ?_
          refine tC h (fun hc h=>?_) fun hc h=>?_
          ·refine aO (tS ?_)
           refine aK ?_
           refine aU ?_
           obtain ⟨hp1,h⟩:=aL h
           refine tR [iI 1 (bX (d:=[]) cS hp1)] [2,8,9,118,119,120,1000000] ?_
           refine aK ?_
           obtain ⟨y1,hy1,h⟩:=aH h
           refine tR [iC 2 [1000000] (wH hy1)] [2,8,9,11,118,119,120,1000000] ?_
           refine tR [] [2,8,9,11,118,119,120,132,1000000] ?_
           refine tC h (fun hc h=>?_) fun hc h=>?_
           ·refine tR [] [4,1000000] ?_
            cases h
            have h:=bE hk1
            cases h
            refine aP (tq [4,1000000])
           ·refine aO (tS ?_)
            obtain ⟨hp2,h⟩:=aL h
            obtain ⟨z1,hz5,h⟩:=aW h
            refine tR [iF 7 { cs:=cS (a0.f3.getD (IntKind.i64.wrap (v1 - (1:Int))).toNat []) } (show ((((decide (v1 > (0:Int))) == true) && true)=true→0≤(IntKind.i64.wrap (v1 - (1:Int)))∧(a0.f3.map cS)[(IntKind.i64.wrap (v1 - (1:Int))).toNat]? = some (cS (a0.f3.getD (IntKind.i64.wrap (v1 - (1:Int))).toNat []))) from (fun hg=>bX (d:=[]) cS (hp2 hg))),iB 10 hz5] [2,118,119,120,145,1000000] ?_
            refine tC h (fun hc h=>?_) fun hc h=>?_
            ·refine tR [] [4,1000000] ?_
             cases h
             have h:=bE hk1
             cases h
             refine aP (tq [4,1000000])
            ·refine aO (tS ?_)
             refine tRe [] [2,118,119,120,1000000] (tE [.keep [2,118,119,120,1000000]] (IntKind.i64.wrap (v1+(1:Int))) h)
          ·cases h
           refine cZ (tG [.keep [1000000]])
         ·refine tS ?_
          refine tR [] [4,1000000] ?_
          cases h
          refine aP (tq [4,1000000])
theorem sH {F:Nat} {a0:Bool} {r:(List UInt8)} (h:internal_strconv_FormatBool F a0=some r):aG Tryz.prog 125 [.d (.v (.bool a0))] [] (.d (.str r)) []:=by
 rw [internal_strconv_FormatBool] at h
 refine aG.intro (N:=4) Tryz.func125 rfl rfl rfl rfl rfl fun e=>?_
 refine tR [] [0] ?_
 refine aK ?_
 refine tR [] [3] ?_
 refine tC h (fun hc h=>?_) fun hc h=>?_
 ·refine tR [] [2] ?_
  cases h
  refine aP (tq [2])
 ·refine aO (tS ?_)
  refine tR [] [2] ?_
  cases h
  refine aP (tq [2])
theorem aB2 {F:Nat} {a0:Bool} {r:(List UInt8)} (h:strconv_FormatBool F a0=some r):aG Tryz.prog 85 [.d (.v (.bool a0))] [] (.d (.str r)) []:=by
 rw [strconv_FormatBool] at h
 refine aG.intro (N:=5) Tryz.func85 rfl rfl rfl rfl rfl fun e=>?_
 refine tR [] [0] ?_
 obtain ⟨y1,hy1,h⟩:=aH h
 refine tR [iC 1 [] (sH hy1)] [2] ?_
 cases h
 refine aP (tq [2])
theorem xA {F:Nat} {rec_object_printer_add:aC→Int→(List aM)→Int→Option (Int×(List aM)×Int)} (hrec_object_printer_add:∀ {a0:aC},∀ {a1:Int},∀ {c2:List aM},∀ {c3:Int},∀ {r:Int×(List aM)×Int},rec_object_printer_add a0 a1 c2 c3=some r→aG Tryz.prog 54 [.bp 1000000 0,.agg (aZ a0),.d (.v (.int .i64 a1))] [.box [.own 79 5 (c2.map bH),.d (.v (.int .i64 c3))],.glo 6 (aA.flatMap (cI .u64))] (.d (.v (.int .i64 r.1))) [.box [.own 79 5 (r.2.1.map bH),.d (.v (.int .i64 r.2.2))],.glo 6 (aA.flatMap (cI .u64))]) {a0:aC} {a1:Int} {c2:List aM} {c3:Int} {r:Int×(List aM)×Int} (h:fF F rec_object_printer_add a0 a1 c2 c3=some r):aG Tryz.prog 86 [.bp 1000000 0,.agg (aZ a0),.d (.v (.int .i64 a1))] [.box [.own 79 5 (c2.map bH),.d (.v (.int .i64 c3))],.glo 6 (aA.flatMap (cI .u64))] (.d (.v (.int .i64 r.1))) [.box [.own 79 5 (r.2.1.map bH),.d (.v (.int .i64 r.2.2))],.glo 6 (aA.flatMap (cI .u64))]:=by
 rw [fF] at h
 refine aG.intro (N:=72) Tryz.func86 rfl rfl rfl rfl rfl fun e=>?_
 refine tR [] [0,2,4,1000000,1000001] ?_
 refine tR [] [0,2,4,7,8,1000000,1000001] ?_
 refine jc h [0,2,4,7,8,1000000,1000001] (fun p=>[(7,dI p.1),(8,dI p.2),(1000000,.box [oW2 c2,dI c3])]) (fun s h=>?_) (fun s h=>?_)
 ·refine tR [] [0,2,4,7,8,14,1000000,1000001] ?_
  refine tC h (fun hc h=>?_) fun hc h=>?_
  ·cases h
   refine tRe [] [0,2,4,7,8,1000000,1000001] (tJ [.keep [0,2,4,7,8,1000000,1000001]])
  ·cases h
   refine aO (tJ [.keep [0,2,4,7,8,1000000,1000001]])
 ·obtain ⟨v5,v6⟩:=s
  try dsimp only at h
  obtain ⟨hp1,h⟩:=aL h
  refine tR [iR 7 (([(aM.mk v5 0 [] 0 0)]).map bH),iE 8 (gB bH hp1)] [0,2,4,8,1000000,1000001] ?_
  refine aK ?_
  refine tR [iW 2 (cO bD (xs:=a0.f4))] [0,2,4,8,27,28,29,1000000,1000001] ?_
  refine jEt h [0,8,1000000,1000001] (fun p=>[(8,dI v6),(1000000,.box [oW2 p.1,dI p.2])]) (fun s h hk1=>?_) (fun s h=>?_)
  ·refine aU ?_
   refine tL3 (dC F a0 a1 rec_object_printer_add) [.keep [0,2,4,8,27,28,29,1000000,1000001]] [0,2,4,8,27,28,29,1000000,1000001] (fun v1 v2 v3=>[(29,dI v1),(1000000,.box [oW2 v2,dI v3])]) F (0:Int) (c2++([(aM.mk v5 0 [] 0 0)])) c3 h fun n v1 v2 v3 h=>?_
   rw [dC] at h
   refine tR [] [0,2,4,8,27,28,29,30,1000000,1000001] ?_
   refine aK ?_
   refine tC h (fun hc h=>?_) fun hc h=>?_
   ·refine aO (tS ?_)
    refine aK ?_
    refine aU ?_
    obtain ⟨hp2,h⟩:=aL h
    refine tR [iI 1 (rV (d:=dM) eY hp2)] [0,2,4,8,9,10,27,28,29,1000000,1000001] ?_
    refine jc h [0,2,4,8,10,27,28,29,1000000,1000001] (fun p=>[(1000000,.box [oW2 p,dI v3])]) (fun s h=>?_) (fun v4 h=>?_)
    ·refine tR [] [0,2,4,8,9,10,27,28,29,36,1000000,1000001] ?_
     refine tC h (fun hc h=>?_) fun hc h=>?_
     ·obtain ⟨hp3,h⟩:=aL h
      obtain ⟨hp4,h⟩:=aL h
      cases h
      refine mH mixed 2 (.take 0 (.take 1 (.take 2 (.take 3 (.take 5 (.take 6 (.take 7 (.take 8 (.take 9 (.take 10 (.all (.alt 4 (.all (.alt 11 (.all (.alt 12 (.take 13 (.take 14 (.all (.alt 15 .done .stop)))) .stop)) .stop)) (.alt 11 (.take 4 (.all (.alt 12 (.take 13 (.take 14 (.all (.alt 15 .done .stop)))) .stop))) .stop))))))))))))) ([0,0,2,4,8,0,32,0,192,256,512,1024,2064,8191,16383,24575],[0,0,2,4,8,0,32,0,192,256,512,1024,2064,1,8192,20480]) 26623 [(8,{ cs:=cS (a0.f3.getD v1.toNat []) }),(11,{ es:=some (([(aM.mk (2:Int) 0 (a0.f3.getD v1.toNat []) 0 0)]).map bH) }),(12,{ es:=some ((v2++([(aM.mk (2:Int) 0 (a0.f3.getD v1.toNat []) 0 0)])).map bH) })] [0,2,4,8,10,27,28,29,1000000,1000001] [] [(0,.bp 1000000 0),(2,dI a1),(4,mX a0),(8,dI v6),(10,.box [dI ((a0.f4.getD v1.toNat dM).f0),dI ((a0.f4.getD v1.toNat dM).f1),.d (.str ((a0.f4.getD v1.toNat dM).f2)),.d (.sl 1 (((a0.f4.getD v1.toNat dM).f3).map cS)),.d (.sl 5 (((a0.f4.getD v1.toNat dM).f4).map bD))]),(27,.d (.sl 5 (a0.f4.map bD))),(28,dI (a0.f4.length:Int)),(29,dI v1),(1000000,.box [.own 79 5 ((v2++([(aM.mk (2:Int) 0 (a0.f3.getD v1.toNat []) 0 0)])).map bH),dI v3]),(1000001,.glo 6 (aA.flatMap (cI .u64)))] ((fun (o8:Prop)=>fun (o11:Prop)=>fun (o12:Prop)=>[(7,o8),(3,o11),(0,o12),(3,o11),(1,o12)]) (0≤v1∧(a0.f3.map cS)[v1.toNat]? = some (cS (a0.f3.getD v1.toNat []))) ((([(aM.mk (2:Int) 0 (a0.f3.getD v1.toNat []) 0 0)]).map bH)=(([(aM.mk (2:Int) 0 (a0.f3.getD v1.toNat []) 0 0)]).map bH)) ((v2.map bH).length+(([(aM.mk (2:Int) 0 (a0.f3.getD v1.toNat []) 0 0)]).map bH).length≤4294967296∧(v2.map bH)++(([(aM.mk (2:Int) 0 (a0.f3.getD v1.toNat []) 0 0)]).map bH)=((v2++([(aM.mk (2:Int) 0 (a0.f3.getD v1.toNat []) 0 0)])).map bH))) 3 (by kernel_rfl) (by kernel_rfl) (by kernel_rfl) (have p8:=bX (d:=[]) cS hp3; have p11:=rfl; have p12:=gB bH hp4; ⟨p8,p11,p12,p11,p12⟩) (tJ [.keep [0,2,4,8,10,27,28,29,1000000,1000001]])
     ·cases h
      refine aO (tJ [.keep [0,2,4,8,10,27,28,29,1000000,1000001]])
    ·obtain ⟨y1,hy1,h⟩:=aH h
     refine tR [iC 4 [1000000,1000001] (hrec_object_printer_add hy1)] [0,2,4,8,11,27,28,29,1000000,1000001] ?_
     refine tR [] [0,2,4,8,11,27,28,29,58,1000000,1000001] ?_
     refine tC h (fun hc h=>?_) fun hc h=>?_
     ·refine tR [] [6,1000000,1000001] ?_
      cases h
      have h:=bE hk1
      cases h
      refine aP (tq [6,1000000,1000001])
     ·refine aO (tS ?_)
      refine tRe [] [0,2,4,8,27,28,29,1000000,1000001] (tE [.keep [0,2,4,8,27,28,29,1000000,1000001]] (IntKind.i64.wrap (v1+(1:Int)),y1.2.1,y1.2.2) h)
   ·cases h
    refine cZ (tG [.keep [0,8,1000000,1000001]])
  ·obtain ⟨v7,v8⟩:=s
   try dsimp only at h
   refine tS ?_
   obtain ⟨hp5,h⟩:=aL h
   refine tR [iR 7 (([(aM.mk v6 0 [] 0 0)]).map bH),iE 8 (gB bH hp5)] [1000000,1000001] ?_
   refine tR [] [6,1000000,1000001] ?_
   cases h
   refine aP (tq [6,1000000,1000001])
end Go.Vm.PgfG
