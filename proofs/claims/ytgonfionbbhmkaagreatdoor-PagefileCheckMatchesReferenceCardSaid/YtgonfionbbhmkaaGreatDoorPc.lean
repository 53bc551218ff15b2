/-
  Texts.
-/
import Derived.Test.YtgonfionbbhmkaaGreatDoorPb
import Derived.Test.YtgonfionbbhmkaaGreatDoorVmE
set_option maxRecDepth 20000
namespace Go.Vm.PgfG
open Go.Proofs
theorem rW {F:Nat} {a0:bC} {r:Int} (h:kJ F a0=some r):aG Tryz.prog 7 [.agg (bP a0)] [.glo 6 (aA.flatMap (cI .u64))] (.d (.v (.int .i64 r))) [.glo 6 (aA.flatMap (cI .u64))]:=by
 rw [kJ] at h
 refine aG.intro (N:=99) Tryz.func7 rfl rfl rfl rfl rfl fun e=>?_
 refine tR [] [1,1000000] ?_
 refine aK ?_
 refine tR [iW 2 (cO aF (xs:=a0.f1))] [1,20,1000000] ?_
 refine tC h (fun hc h=>?_) fun hc h=>?_
 ·refine tR [] [2,1000000] ?_
  cases h
  refine aP (tq [2,1000000])
 ·refine aO (tS ?_)
  refine tR [] [1,3,1000000] ?_
  refine aK ?_
  refine tR [iW 2 (cO aF (xs:=a0.f1))] [1,3,22,23,24,1000000] ?_
  refine jEt h [1,1000000] (fun p=>[]) (fun s h hk1=>?_) (fun s h=>?_)
  ·refine aU ?_
   refine tL2 (eT F a0) [.keep [1,3,22,23,24,1000000]] [1,3,22,23,24,1000000] (fun v1 v2=>[(3,dI v1),(24,dI v2)]) F (0:Int) (0:Int) h fun n v1 v2 h=>?_
   rw [eT] at h
   refine tR [] [1,3,22,23,24,25,1000000] ?_
   refine aK ?_
   refine tC h (fun hc h=>?_) fun hc h=>?_
   ·refine aO (tS ?_)
    refine aK ?_
    refine aU ?_
    obtain ⟨hp1,h⟩:=aL h
    refine tR [iI 0 (bX (d:=bB) aF hp1)] [1,3,5,22,23,24,1000000] ?_
    refine aK ?_
    obtain ⟨z1,hz1,h⟩:=aW h
    obtain ⟨z2,hz2,h⟩:=aW h
    refine tR [iB 6 hz1,iB 7 hz2] [1,3,5,22,23,24,35,1000000] ?_
    refine tC h (fun hc h=>?_) fun hc h=>?_
    ·refine tR [] [2,1000000] ?_
     cases h
     have h:=bE hk1
     cases h
     refine aP (tq [2,1000000])
    ·refine aO (tS ?_)
     refine aK ?_
     refine tR [] [1,5,22,23,24,39,1000000] ?_
     refine tC h (fun hc h=>?_) fun hc h=>?_
     ·refine tR [] [2,1000000] ?_
      cases h
      have h:=bE hk1
      cases h
      refine aP (tq [2,1000000])
     ·refine aO (tS ?_)
      refine tR [] [1,3,5,22,23,24,1000000] ?_
      refine aK ?_
      obtain ⟨y1,hy1,h⟩:=aH h
      refine tR [iC 2 [1000000] (uW hy1)] [1,3,5,6,22,23,24,1000000] ?_
      refine tR [] [1,3,5,6,22,23,24,46,1000000] ?_
      refine tC h (fun hc h=>?_) fun hc h=>?_
      ·refine tR [] [2,1000000] ?_
       cases h
       have h:=bE hk1
       cases h
       refine aP (tq [2,1000000])
      ·refine aO (tS ?_)
       obtain ⟨z3,hz3,h⟩:=aW h
       refine tR [iB 3 hz3] [1,3,22,23,24,51,1000000] ?_
       refine tC h (fun hc h=>?_) fun hc h=>?_
       ·refine tR [] [2,1000000] ?_
        cases h
        have h:=bE hk1
        cases h
        refine aP (tq [2,1000000])
       ·refine aO (tS ?_)
        refine tRe [] [1,3,22,23,24,1000000] (tE [.keep [1,3,22,23,24,1000000]] ((a0.f1.getD v2.toNat bB).f0,IntKind.i64.wrap (v2+(1:Int))) h)
   ·cases h
    refine cZ (tG [.keep [1,1000000]])
  ·refine tS ?_
   refine aK ?_
   refine tR [iW 2 (cO aF (xs:=a0.f1))] [1,54,55,56,1000000] ?_
   refine jEt h [1,1000000] (fun p=>[]) (fun s h hk2=>?_) (fun s h=>?_)
   ·refine aU ?_
    refine tL1 (eU F a0) [.keep [1,54,55,56,1000000]] [1,54,55,56,1000000] (fun v4=>[(56,dI v4)]) F (0:Int) h fun n v4 h=>?_
    rw [eU] at h
    refine tR [] [1,54,55,56,57,1000000] ?_
    refine aK ?_
    refine tC h (fun hc h=>?_) fun hc h=>?_
    ·refine aO (tS ?_)
     refine aK ?_
     refine aU ?_
     obtain ⟨hp2,h⟩:=aL h
     refine tR [iI 0 (bX (d:=bB) aF hp2)] [1,8,54,55,56,1000000] ?_
     obtain ⟨y2,hy2,h⟩:=aH h
     refine tR [iC 2 [1000000] (bC1 hy2)] [1,9,54,55,56,1000000] ?_
     refine tR [iW 1 (show True∧dI ((y2.1.map (cI .i64)).length:Int)=dI (y2.1.length:Int) from cO (cI .i64))] [1,9,54,55,56,66,67,68,1000000] ?_
     refine jEt h [1,54,55,56,1000000] (fun p=>[]) (fun s h hk3=>?_) (fun s h=>?_)
     ·refine aU ?_
      refine tL1 (dY F a0 y2) [.keep [1,9,54,55,56,66,67,68,1000000]] [1,9,54,55,56,66,67,68,1000000] (fun v3=>[(68,dI v3)]) F (0:Int) h fun n v3 h=>?_
      rw [dY] at h
      refine tR [] [1,9,54,55,56,66,67,68,69,1000000] ?_
      refine aK ?_
      refine tC h (fun hc h=>?_) fun hc h=>?_
      ·refine aO (tS ?_)
       refine aK ?_
       refine aU ?_
       obtain ⟨hp3,h⟩:=aL h
       refine tR [iP 0 (show 0≤v3∧v3 < (y2.1.map (cI .i64)).length from dQ (cI .i64) hp3),iX 1 { cs:=(cI .i64) (y2.1.getD v3.toNat 0) } (show (y2.1.map (cI .i64))[v3.toNat]? = some ((cI .i64) (y2.1.getD v3.toNat 0)) from (bX (d:=0) (cI .i64) hp3).2)] [1,9,12,54,55,56,66,67,68,1000000] ?_
       obtain ⟨y3,hy3,h⟩:=aH h
       refine tR [iC 2 [] (kG hy3)] [1,9,14,54,55,56,66,67,68,1000000] ?_
       refine tR [] [1,9,54,55,56,66,67,68,79,1000000] ?_
       refine tC h (fun hc h=>?_) fun hc h=>?_
       ·refine tR [] [2,1000000] ?_
        cases h
        have h:=bE hk3
        cases h
        have h:=bE hk2
        cases h
        refine aP (tq [2,1000000])
       ·refine aO (tS ?_)
        refine tRe [] [1,9,54,55,56,66,67,68,1000000] (tE [.keep [1,9,54,55,56,66,67,68,1000000]] (IntKind.i64.wrap (v3+(1:Int))) h)
      ·cases h
       refine cZ (tG [.keep [1,54,55,56,1000000]])
     ·refine tS ?_
      refine tRe [] [1,54,55,56,1000000] (tE [.keep [1,54,55,56,1000000]] (IntKind.i64.wrap (v4+(1:Int))) h)
    ·cases h
     refine cZ (tG [.keep [1,1000000]])
   ·refine tS ?_
    obtain ⟨y4,hy4,h⟩:=aH h
    refine tR [iC 3 [] (kG hy4)] [1,15,16,1000000] ?_
    refine aK ?_
    refine tR [] [1,15,90,1000000] ?_
    refine tC h (fun hc h=>?_) fun hc h=>?_
    ·refine tR [] [2,1000000] ?_
     cases h
     refine aP (tq [2,1000000])
    ·refine aO (tS ?_)
     refine aK ?_
     obtain ⟨hp4,h⟩:=aL h
     refine tR [iI 3 (bX (d:=bB) aF hp4)] [98,1000000] ?_
     refine tC h (fun hc h=>?_) fun hc h=>?_
     ·refine tR [] [2,1000000] ?_
      cases h
      refine aP (tq [2,1000000])
     ·refine aO (tS ?_)
      refine tR [] [2,1000000] ?_
      cases h
      refine aP (tq [2,1000000])
theorem qU {F:Nat} {a0:List UInt8} {c1:List UInt8} {c2:Int} {c3:Int} {c4:Int} {c5:List aJ} {r:Int×Unit×(List UInt8)×Int×Int×Int×(List aJ)} (h:jC F a0 c1 c2 c3 c4 c5=some r):aG Tryz.prog 49 [.bp 1000000 0,.d (.str a0)] [.box [.slf 0 96,.own 5 1 (c1.map cU),.d (.v (.int .i64 c2)),.d (.v (.int .i64 c3)),.d (.v (.int .i64 c4)),.own 49 7 (c5.map aF)]] (.tup [.d (.v (.int .i64 r.1)),.d (.v .nilIface)]) [.box [.slf 0 96,.own 5 1 (r.2.2.1.map cU),.d (.v (.int .i64 r.2.2.2.1)),.d (.v (.int .i64 r.2.2.2.2.1)),.d (.v (.int .i64 r.2.2.2.2.2.1)),.own 49 7 (r.2.2.2.2.2.2.map aF)]]:=by
 rw [jC] at h
 refine aG.intro (N:=19) Tryz.func49 rfl rfl rfl rfl rfl fun e=>?_
 refine tR [] [0,1,1000000] ?_
 refine tR [iC 1 [1000000] (show aG Tryz.prog 71 [.bp 1000000 0] [.box [.slf 0 96,oW1 c1,dI c2,dI c3,dI c4,oW5 c5]] (.tup []) [.box [.slf 0 96,oW1 c1,dI c2,dI c3,dI c4,oW5 c5]] from wR (E:=96) (by kernel_rfl) (by kernel_rfl) (by kernel_rfl))] [0,1,1000000] ?_
 obtain ⟨hp1,h⟩:=aL h
 refine tR [iE 6 (gB cU hp1)] [1,1000000] ?_
 refine tR [] [4,5,1000000] ?_
 cases h
 refine aP (tq [4,5,1000000])
theorem zM {F:Nat} {a0:List (List UInt8)} {a1:List (List UInt8)} {r:Bool} (h:slices_Equal_string F a0 a1=some r):aG Tryz.prog 155 [.d (.sl 1 (a0.map cS)),.d (.sl 1 (a1.map cS))] [] (.d (.v (.bool r))) []:=by
 rw [slices_Equal_string] at h
 refine aG.intro (N:=26) Tryz.func155 rfl rfl rfl rfl rfl fun e=>?_
 refine tR [] [0,1] ?_
 refine aK ?_
 refine tR [iW 1 (cO cS (xs:=a0)),iW 3 (cO cS (xs:=a1))] [0,1,10] ?_
 refine tC h (fun hc h=>?_) fun hc h=>?_
 ·refine tR [] [4] ?_
  cases h
  refine aP (tq [4])
 ·refine aO (tS ?_)
  refine aK ?_
  refine tR [iW 1 (cO cS (xs:=a0))] [0,1,12,13] ?_
  refine jEt h [] (fun p=>[]) (fun s h hk1=>?_) (fun s h=>?_)
  ·refine aU ?_
   refine tL1 (kC F a0 a1) [.keep [0,1,12,13]] [0,1,12,13] (fun v1=>[(13,dI v1)]) F (0:Int) h fun n v1 h=>?_
   rw [kC] at h
   refine tR [] [0,1,12,13,14] ?_
   refine aK ?_
   refine tC h (fun hc h=>?_) fun hc h=>?_
   ·refine aO (tS ?_)
    refine aK ?_
    refine aU ?_
    refine tR [] [0,1,5,12,13] ?_
    obtain ⟨hp1,h⟩:=aL h
    obtain ⟨hp2,h⟩:=aL h
    refine mO mixed [(2,{ cs:=cS (a0.getD v1.toNat []) }),(6,{ cs:=cS (a1.getD v1.toNat []) })] [0,1,12,13,24] [] [(0,.d (.sl 1 (a0.map cS))),(1,.d (.sl 1 (a1.map cS))),(12,dI (a0.length:Int)),(13,dI v1),(24,dB (!((a0.getD v1.toNat []) == (a1.getD v1.toNat []))))] [(2,0≤v1∧(a0.map cS)[v1.toNat]? = some (cS (a0.getD v1.toNat []))),(3,0≤v1∧(a1.map cS)[v1.toNat]? = some (cS (a1.getD v1.toNat [])))] 2 (by kernel_rfl) (⟨bX (d:=[]) cS hp1,bX (d:=[]) cS hp2⟩) ?_
    refine tC h (fun hc h=>?_) fun hc h=>?_
    ·refine tR [] [4] ?_
     cases h
     have h:=bE hk1
     cases h
     refine aP (tq [4])
    ·refine aO (tS ?_)
     refine tRe [] [0,1,12,13] (tE [.keep [0,1,12,13]] (IntKind.i64.wrap (v1+(1:Int))) h)
   ·cases h
    refine cZ (tG [.keep []])
  ·refine tS ?_
   refine tR [] [4] ?_
   cases h
   refine aP (tq [4])
theorem vR {F:Nat} {rec_object_Same:aC→aC→Option Bool} (hrec_object_Same:∀ {a0:aC},∀ {a1:aC},∀ {r:Bool},rec_object_Same a0 a1=some r→aG Tryz.prog 117 [.agg (aZ a0),.agg (aZ a1)] [] (.d (.v (.bool r))) []) {a0:List aC} {a1:List aC} {r:Bool} (h:mD F rec_object_Same a0 a1=some r):aG Tryz.prog 156 [.d (.sl 5 (a0.map bD)),.d (.sl 5 (a1.map bD)),.clo 117 []] [] (.d (.v (.bool r))) []:=by
 rw [mD] at h
 refine aG.intro (N:=32) Tryz.func156 rfl rfl rfl rfl rfl fun e=>?_
 refine tR [] [0,1,2] ?_
 refine aK ?_
 refine tR [iW 1 (cO bD (xs:=a0)),iW 3 (cO bD (xs:=a1))] [0,1,2,14] ?_
 refine tC h (fun hc h=>?_) fun hc h=>?_
 ·refine tR [] [6] ?_
  cases h
  refine aP (tq [6])
 ·refine aO (tS ?_)
  refine aK ?_
  refine tR [iW 1 (cO bD (xs:=a0))] [1,2,15,16,17] ?_
  refine jEt h [] (fun p=>[]) (fun s h hk1=>?_) (fun s h=>?_)
  ·refine aU ?_
   refine tL1 (iA F a0 a1 rec_object_Same) [.keep [1,2,15,16,17]] [1,2,15,16,17] (fun v1=>[(17,dI v1)]) F (0:Int) h fun n v1 h=>?_
   rw [iA] at h
   refine tR [] [1,2,15,16,17,18] ?_
   refine aK ?_
   refine tC h (fun hc h=>?_) fun hc h=>?_
   ·refine aO (tS ?_)
    refine aK ?_
    refine aU ?_
    obtain ⟨hp1,h⟩:=aL h
    refine tR [iI 1 (rV (d:=dM) eY hp1)] [1,2,7,8,15,16,17] ?_
    obtain ⟨hp2,h⟩:=aL h
    refine tR [iI 2 (rV (d:=dM) eY hp2)] [1,2,8,9,15,16,17] ?_
    obtain ⟨y1,hy1,h⟩:=aH h
    refine tR [iC 3 [] (hrec_object_Same hy1)] [1,2,15,16,17,30] ?_
    refine tC h (fun hc h=>?_) fun hc h=>?_
    ·refine tR [] [6] ?_
     cases h
     have h:=bE hk1
     cases h
     refine aP (tq [6])
    ·refine aO (tS ?_)
     refine tRe [] [1,2,15,16,17] (tE [.keep [1,2,15,16,17]] (IntKind.i64.wrap (v1+(1:Int))) h)
   ·cases h
    refine cZ (tG [.keep []])
  ·refine tS ?_
   refine tR [] [6] ?_
   cases h
   refine aP (tq [6])
theorem aH5 {F:Nat} {rec_object_Same:aC→aC→Option Bool} (hrec_object_Same:∀ {a0:aC},∀ {a1:aC},∀ {r:Bool},rec_object_Same a0 a1=some r→aG Tryz.prog 117 [.agg (aZ a0),.agg (aZ a1)] [] (.d (.v (.bool r))) []) {a0:aC} {a1:aC} {r:Bool} (h:sM F rec_object_Same a0 a1=some r):aG Tryz.prog 117 [.agg (aZ a0),.agg (aZ a1)] [] (.d (.v (.bool r))) []:=by
 rw [sM] at h
 refine aG.intro (N:=38) Tryz.func117 rfl rfl rfl rfl rfl fun e=>?_
 refine tR [] [2,3] ?_
 obtain ⟨y1,hy1,h⟩:=aH h
 obtain ⟨z1,hz1,h⟩:=aW h
 obtain ⟨y2,hy2,h⟩:=aH h
 refine tR [iD 24 [] (fun hg=>zM (eG hg hy1)),iB 25 hz1,iD 31 [] (fun hg=>vR hrec_object_Same (eG hg hy2))] [4] ?_
 cases h
 refine aP (tq [4])
theorem aH4 {F:Nat} (n:Nat):∀ {a0:aC} {a1:aC} {r:Bool},sF F n a0 a1=some r→aG Tryz.prog 117 [.agg (aZ a0),.agg (aZ a1)] [] (.d (.v (.bool r))) []:=by
 induction n with
 | zero=>intro a0 a1 r h; exact absurd (show (none:Option Bool)=some r from h) (by simp)
 | succ n ih=>intro a0 a1 r h; exact aH5 ih h
theorem bA4 {F:Nat} {a0:aC} {a1:aC} {r:Bool} (h:aT2 F a0 a1=some r):aG Tryz.prog 117 [.agg (aZ a0),.agg (aZ a1)] [] (.d (.v (.bool r))) []:=aH4 F h
theorem yB {F:Nat} {a0:aJ} {a1:aJ} {r:Bool} (h:sW F a0 a1=some r):aG Tryz.prog 73 [.agg (aF a0),.agg (aF a1)] [] (.d (.v (.bool r))) []:=by
 rw [sW] at h
 refine aG.intro (N:=24) Tryz.func73 rfl rfl rfl rfl rfl fun e=>?_
 refine tR [] [2,3] ?_
 obtain ⟨y1,hy1,h⟩:=aH h
 refine tR [iD 17 [] (fun hg=>bA4 (eG hg hy1))] [4] ?_
 cases h
 refine aP (tq [4])
theorem uJ {F:Nat} {a0:List aJ} {a1:List aJ} {r:Bool} (h:lC F a0 a1=some r):aG Tryz.prog 72 [.d (.sl 7 (a0.map aF)),.d (.sl 7 (a1.map aF)),.clo 73 []] [] (.d (.v (.bool r))) []:=by
 rw [lC] at h
 refine aG.intro (N:=32) Tryz.func72 rfl rfl rfl rfl rfl fun e=>?_
 refine tR [] [0,1,2] ?_
 refine aK ?_
 refine tR [iW 1 (cO aF (xs:=a0)),iW 3 (cO aF (xs:=a1))] [0,1,2,14] ?_
 refine tC h (fun hc h=>?_) fun hc h=>?_
 ·refine tR [] [6] ?_
  cases h
  refine aP (tq [6])
 ·refine aO (tS ?_)
  refine aK ?_
  refine tR [iW 1 (cO aF (xs:=a0))] [1,2,15,16,17] ?_
  refine jEt h [] (fun p=>[]) (fun s h hk1=>?_) (fun s h=>?_)
  ·refine aU ?_
   refine tL1 (gL F a0 a1) [.keep [1,2,15,16,17]] [1,2,15,16,17] (fun v1=>[(17,dI v1)]) F (0:Int) h fun n v1 h=>?_
   rw [gL] at h
   refine tR [] [1,2,15,16,17,18] ?_
   refine aK ?_
   refine tC h (fun hc h=>?_) fun hc h=>?_
   ·refine aO (tS ?_)
    refine aK ?_
    refine aU ?_
    obtain ⟨hp1,h⟩:=aL h
    refine tR [iI 1 (bX (d:=bB) aF hp1)] [1,2,7,8,15,16,17] ?_
    obtain ⟨hp2,h⟩:=aL h
    refine tR [iI 2 (bX (d:=bB) aF hp2)] [1,2,8,9,15,16,17] ?_
    obtain ⟨y1,hy1,h⟩:=aH h
    refine tR [iC 3 [] (yB hy1)] [1,2,15,16,17,30] ?_
    refine tC h (fun hc h=>?_) fun hc h=>?_
    ·refine tR [] [6] ?_
     cases h
     have h:=bE hk1
     cases h
     refine aP (tq [6])
    ·refine aO (tS ?_)
     refine tRe [] [1,2,15,16,17] (tE [.keep [1,2,15,16,17]] (IntKind.i64.wrap (v1+(1:Int))) h)
   ·cases h
    refine cZ (tG [.keep []])
  ·refine tS ?_
   refine tR [] [6] ?_
   cases h
   refine aP (tq [6])
theorem yL {F:Nat}  {r:(List dA)} (h:tU F  = some r):aG Tryz.prog 67 [] [] (.own 163 2 (r.map eB)) []:=by
 rw [tU] at h
 refine aG.intro (N:=3) Tryz.func67 rfl rfl rfl rfl rfl fun e=>?_
 refine tR [] [] ?_
 refine tR [iR 1 (([(dA.mk (4:Int) 0)]).map eB)] [0] ?_
 cases h
 refine aP (tq [0])
theorem zX {F:Nat} {a0:List dA} {r:Int} (h:vF F a0=some r):aG Tryz.prog 109 [.d (.sl 2 (a0.map eB))] [] (.d (.v (.int .i64 r))) []:=by
 rw [vF] at h
 refine aG.intro (N:=47) Tryz.func109 rfl rfl rfl rfl rfl fun e=>?_
 refine tR [] [0] ?_
 refine aK ?_
 refine tR [iW 1 (cO eB (xs:=a0))] [0,7] ?_
 refine tC h (fun hc h=>?_) fun hc h=>?_
 ·refine tR [] [2] ?_
  cases h
  refine aP (tq [2])
 ·refine aO (tS ?_)
  refine aK ?_
  refine tR [iW 1 (cO eB (xs:=a0))] [8,9,10] ?_
  refine jEt h [] (fun p=>[]) (fun s h hk1=>?_) (fun s h=>?_)
  ·refine aU ?_
   refine tL1 (pT F a0) [.keep [8,9,10]] [8,9,10] (fun v1=>[(10,dI v1)]) F (0:Int) h fun n v1 h=>?_
   rw [pT] at h
   refine tR [] [8,9,10,11] ?_
   refine aK ?_
   refine tC h (fun hc h=>?_) fun hc h=>?_
   ·refine aO (tS ?_)
    refine aK ?_
    refine aU ?_
    obtain ⟨hp1,h⟩:=aL h
    refine tR [iI 0 (bX (d:=yY) eB hp1)] [4,8,9,10] ?_
    refine aU ?_
    obtain ⟨z1,hz1,h⟩:=aW h
    refine tR [iB 7 hz1] [4,8,9,10,14] ?_
    refine tC h (fun hc h=>?_) fun hc h=>?_
    ·refine tR [] [2] ?_
     cases h
     have h:=bE hk1
     cases h
     refine aP (tq [2])
    ·obtain ⟨z2,hz2,h⟩:=aW h
     refine tR [iB 11 hz2] [4,8,9,10,23] ?_
     refine tC h (fun hc h=>?_) fun hc h=>?_
     ·refine tR [] [2] ?_
      cases h
      have h:=bE hk1
      cases h
      refine aP (tq [2])
     ·obtain ⟨z3,hz3,h⟩:=aW h
      refine tR [iB 7 hz3] [8,9,10,37] ?_
      refine tC h (fun hc h=>?_) fun hc h=>?_
      ·refine tR [] [2] ?_
       cases h
       have h:=bE hk1
       cases h
       refine aP (tq [2])
      ·refine aO (tS ?_)
       refine tRe [] [8,9,10] (tE [.keep [8,9,10]] (IntKind.i64.wrap (v1+(1:Int))) h)
   ·cases h
    refine cZ (tG [.keep []])
  ·refine tS ?_
   refine tR [] [2] ?_
   cases h
   refine aP (tq [2])
theorem wK {F:Nat} {a0:dA} {r:fA} (h:pO F a0=some r):aG Tryz.prog 110 [.agg (eB a0)] [] (.d (.v (lZ r))) []:=by
 rw [pO] at h
 refine aG.intro (N:=21) Tryz.func110 rfl rfl rfl rfl rfl fun e=>?_
 refine tR [] [1] ?_
 refine aK ?_
 refine tR [] [1,4] ?_
 refine aU ?_
 refine tR [] [1,4,5] ?_
 refine tC h (fun hc h=>?_) fun hc h=>?_
 ·refine tR [] [2] ?_
  cases h
  refine aP (tq [2])
 ·refine tR [] [1,4,9] ?_
  refine tC h (fun hc h=>?_) fun hc h=>?_
  ·refine tR [] [2] ?_
   cases h
   refine aP (tq [2])
  ·refine tR [] [15] ?_
   refine tC h (fun hc h=>?_) fun hc h=>?_
   ·refine tR [] [2] ?_
    cases h
    refine aP (tq [2])
   ·refine aO (tS ?_)
    refine tR [] [2] ?_
    cases h
    refine aP (tq [2])
theorem aJ6 {F:Nat} {a0:List UInt8} {r:Int} (h:uU F a0=some r):aG Tryz.prog 258 [.d (.str a0)] [] (.d (.v (.int .i64 r))) []:=by
 rw [uU] at h
 refine aG.intro (N:=23) Tryz.func258 rfl rfl rfl rfl rfl fun e=>?_
 refine tR [] [0] ?_
 refine tR [] [0,3] ?_
 refine jc h [3] (fun p=>[(3,dI p)]) (fun s h=>?_) (fun v2 h=>?_)
 ·refine aU ?_
  refine tL1 (mJ F a0) [.keep [0,3]] [0,3] (fun v1=>[(3,dI v1)]) F (1:Int) h fun n v1 h=>?_
  rw [mJ] at h
  refine aK ?_
  obtain ⟨hp1,h⟩:=aL h
  obtain ⟨hp2,h⟩:=aL h
  obtain ⟨z1,hz1,h⟩:=aW h
  refine mO mixed [(15,{ rw:=some (dB z1) })] [0,3,19] [] [(0,.d (.str a0)),(3,dI v1),(19,dB z1)] [(5,((((decide (v1 < (a0.length:Int))) == true) && true)=true→True)),(0,((((decide (v1 < (a0.length:Int))) == true) && true)=true→True)),(2,((((bif (decide (v1 < (a0.length:Int))) then (decide (v1 < (128:Int))) else false) == true) && true)=true→True)),(0,((((bif (decide (v1 < (a0.length:Int))) then (decide (v1 < (128:Int))) else false) == true) && true)=true→True)),(0,((((bif (decide (v1 < (a0.length:Int))) then (decide (v1 < (128:Int))) else false) == true) && true)=true→0≤v1∧v1 < a0.length)),(0,((((bif (decide (v1 < (a0.length:Int))) then (decide (v1 < (128:Int))) else false) == true) && true)=true→True)),(0,((((bif (decide (v1 < (a0.length:Int))) then (decide (v1 < (128:Int))) else false) == true) && true)=true→0≤(0:Int)∧(0:Int) < a0.length)),(0,((((bif (decide (v1 < (a0.length:Int))) then (decide (v1 < (128:Int))) else false) == true) && true)=true→True)),(0,(True)∧dB (bif (bif (decide (v1 < (a0.length:Int))) then (decide (v1 < (128:Int))) else false) then (((a0.getD v1.toNat 0).toNat:Int) == ((a0.getD (0:Int).toNat 0).toNat:Int)) else false)=dB z1)] 0 (by kernel_rfl) (⟨tr,tr,tr,tr,(fun hg=>(hp1 hg)),tr,(fun hg=>(hp2 hg)),tr,⟨trivial,(by subst hz1; rfl)⟩⟩) ?_
  refine tC h (fun hc h=>?_) fun hc h=>?_
  ·refine aO (tS ?_)
   refine aU ?_
   refine tRe [] [0,3] (tE [.keep [0,3]] (IntKind.i64.wrap (v1+(1:Int))) h)
  ·cases h
   refine cZ (tJ [.keep [3]])
 ·refine tR [] [2] ?_
  cases h
  refine aP (tq [2])
theorem aB1 {F:Nat} {a0:dG} {a1:List UInt8} {r:(List UInt8)} (h:qC F a0 a1=some r):aG Tryz.prog 256 [.agg (mC a0),.d (.str a1)] [] (.d (.str r)) []:=by
 rw [qC] at h
 refine aG.intro (N:=133) Tryz.func256 rfl rfl rfl rfl rfl fun e=>?_
 refine tR [] [1] ?_
 obtain ⟨hp1,h⟩:=aL h
 refine tR [iX 3 { es:=some ((List.replicate (IntKind.i64.wrap ((a1.length:Int)+(1:Int))).toNat 0).map (cI .i64)) } (show (0≤(IntKind.i64.wrap ((a1.length:Int)+(1:Int)))∧(IntKind.i64.wrap ((a1.length:Int)+(1:Int)))≤(IntKind.i64.wrap ((a1.length:Int)+(1:Int)))∧(IntKind.i64.wrap ((a1.length:Int)+(1:Int)))≤9223372036854775807∧((8:Nat):Int) * (IntKind.i64.wrap ((a1.length:Int)+(1:Int)))≤281474976710656)∧List.replicate (IntKind.i64.wrap ((a1.length:Int)+(1:Int))).toNat ((cI .i64) 0)=((List.replicate (IntKind.i64.wrap ((a1.length:Int)+(1:Int))).toNat 0).map (cI .i64)) from ⟨hp1,zO (cI .i64) rfl⟩)] [1,5] ?_
 obtain ⟨hp2,h⟩:=aL h
 refine tR [iX 3 { es:=some ((List.replicate (IntKind.i64.wrap ((a1.length:Int)+(1:Int))).toNat 0).map (cI .i64)) } (show (0≤(IntKind.i64.wrap ((a1.length:Int)+(1:Int)))∧(IntKind.i64.wrap ((a1.length:Int)+(1:Int)))≤(IntKind.i64.wrap ((a1.length:Int)+(1:Int)))∧(IntKind.i64.wrap ((a1.length:Int)+(1:Int)))≤9223372036854775807∧((8:Nat):Int) * (IntKind.i64.wrap ((a1.length:Int)+(1:Int)))≤281474976710656)∧List.replicate (IntKind.i64.wrap ((a1.length:Int)+(1:Int))).toNat ((cI .i64) 0)=((List.replicate (IntKind.i64.wrap ((a1.length:Int)+(1:Int))).toNat 0).map (cI .i64)) from ⟨hp2,zO (cI .i64) rfl⟩)] [1,5,6] ?_
 refine aK ?_
 refine tR [] [1,5,6,7] ?_
 refine jct h [1,6] (fun p=>[(6,oW6 p)]) (fun s h=>?_) (fun v13 h=>?_)
 ·refine aU ?_
  refine tL3 (kP F a1) [.keep [1,5,6,7]] [1,5,6,7] (fun v7 v8 v1=>[(5,oW6 v7),(6,oW6 v8),(7,dI v1)]) F (List.replicate (IntKind.i64.wrap ((a1.length:Int)+(1:Int))).toNat 0) (List.replicate (IntKind.i64.wrap ((a1.length:Int)+(1:Int))).toNat 0) (IntKind.i64.wrap ((a1.length:Int) - (1:Int))) h fun n v7 v8 v1 h=>?_
  rw [kP] at h
  refine aK ?_
  refine tR [] [1,5,6,7,26] ?_
  refine tC h (fun hc h=>?_) fun hc h=>?_
  ·refine aO (tS ?_)
   refine aK ?_
   refine aU ?_
   obtain ⟨hp3,h⟩:=aL h
   obtain ⟨y1,hy1,h⟩:=aH h
   refine tR [iP 2 hp3,iC 3 [] (aJ6 hy1)] [1,5,6,7,8] ?_
   obtain ⟨hp4,h⟩:=aL h
   obtain ⟨hp5,h⟩:=aL h
   refine tR [iP 6 (show 0≤(IntKind.i64.wrap (v1+y1))∧(IntKind.i64.wrap (v1+y1)) < (v7.map (cI .i64)).length from dQ (cI .i64) hp4),iX 7 { cs:=(cI .i64) (v7.getD (IntKind.i64.wrap (v1+y1)).toNat 0) } (show (v7.map (cI .i64))[(IntKind.i64.wrap (v1+y1)).toNat]? = some ((cI .i64) (v7.getD (IntKind.i64.wrap (v1+y1)).toNat 0)) from (bX (d:=0) (cI .i64) hp4).2),iP 9 (show 0≤v1∧v1 < (v7.map (cI .i64)).length from dQ (cI .i64) hp5),iX 10 { cs:=(cI .i64) (v7.getD v1.toNat 0),es:=some ((v7.set v1.toNat (IntKind.i64.wrap ((2:Int)+(v7.getD (IntKind.i64.wrap (v1+y1)).toNat 0)))).map (cI .i64)) } (show (v7.map (cI .i64))[v1.toNat]? = some ((cI .i64) (v7.getD v1.toNat 0))∧(v7.map (cI .i64)).set v1.toNat ((cI .i64) (IntKind.i64.wrap ((2:Int)+(v7.getD (IntKind.i64.wrap (v1+y1)).toNat 0))))=((v7.set v1.toNat (IntKind.i64.wrap ((2:Int)+(v7.getD (IntKind.i64.wrap (v1+y1)).toNat 0)))).map (cI .i64)) from ⟨(bX (d:=0) (cI .i64) hp5).2,oU (cI .i64) rfl⟩)] [1,5,6,7,8] ?_
   obtain ⟨hp6,h⟩:=aL h
   refine tR [iP 4 (show 0≤v1∧v1 < (v8.map (cI .i64)).length from dQ (cI .i64) hp6),iX 5 { cs:=(cI .i64) (v8.getD v1.toNat 0),es:=some ((v8.set v1.toNat (IntKind.i64.wrap (0 - y1))).map (cI .i64)) } (show (v8.map (cI .i64))[v1.toNat]? = some ((cI .i64) (v8.getD v1.toNat 0))∧(v8.map (cI .i64)).set v1.toNat ((cI .i64) (IntKind.i64.wrap (0 - y1)))=((v8.set v1.toNat (IntKind.i64.wrap (0 - y1))).map (cI .i64)) from ⟨(bX (d:=0) (cI .i64) hp6).2,oU (cI .i64) rfl⟩)] [1,5,6,7,8] ?_
   refine jc h [1,5,6,7] (fun p=>[(5,oW6 p.1),(6,oW6 p.2)]) (fun s h=>?_) (fun s h=>?_)
   ·refine tR [] [1,5,6,7,49] ?_
    refine tC h (fun hc h=>?_) fun hc h=>?_
    ·obtain ⟨hp7,h⟩:=aL h
     obtain ⟨z3,hz1,h⟩:=aW h
     obtain ⟨hp8,h⟩:=aL h
     obtain ⟨hp9,h⟩:=aL h
     cases h
     refine tRe [iP 7 (show 0≤(IntKind.i64.wrap (v1+(1:Int)))∧(IntKind.i64.wrap (v1+(1:Int))) < ((v7.set v1.toNat (IntKind.i64.wrap ((2:Int)+(v7.getD (IntKind.i64.wrap (v1+y1)).toNat 0)))).map (cI .i64)).length from dQ (cI .i64) hp7),iX 8 { cs:=(cI .i64) ((v7.set v1.toNat (IntKind.i64.wrap ((2:Int)+(v7.getD (IntKind.i64.wrap (v1+y1)).toNat 0)))).getD (IntKind.i64.wrap (v1+(1:Int))).toNat 0),rw:=some (dI z3) } (show (((v7.set v1.toNat (IntKind.i64.wrap ((2:Int)+(v7.getD (IntKind.i64.wrap (v1+y1)).toNat 0)))).map (cI .i64))[(IntKind.i64.wrap (v1+(1:Int))).toNat]? = some ((cI .i64) ((v7.set v1.toNat (IntKind.i64.wrap ((2:Int)+(v7.getD (IntKind.i64.wrap (v1+y1)).toNat 0)))).getD (IntKind.i64.wrap (v1+(1:Int))).toNat 0)))∧dI ((v7.set v1.toNat (IntKind.i64.wrap ((2:Int)+(v7.getD (IntKind.i64.wrap (v1+y1)).toNat 0)))).getD (IntKind.i64.wrap (v1+(1:Int))).toNat 0)=dI z3 from ⟨(bX (d:=0) (cI .i64) hp7).2,(by subst hz1; rfl)⟩),iP 10 (show 0≤v1∧v1 < ((v7.set v1.toNat (IntKind.i64.wrap ((2:Int)+(v7.getD (IntKind.i64.wrap (v1+y1)).toNat 0)))).map (cI .i64)).length from dQ (cI .i64) hp8),iX 11 { cs:=(cI .i64) ((v7.set v1.toNat (IntKind.i64.wrap ((2:Int)+(v7.getD (IntKind.i64.wrap (v1+y1)).toNat 0)))).getD v1.toNat 0),es:=some (((v7.set v1.toNat (IntKind.i64.wrap ((2:Int)+(v7.getD (IntKind.i64.wrap (v1+y1)).toNat 0)))).set v1.toNat (IntKind.i64.wrap ((2:Int)+z3))).map (cI .i64)) } (show ((v7.set v1.toNat (IntKind.i64.wrap ((2:Int)+(v7.getD (IntKind.i64.wrap (v1+y1)).toNat 0)))).map (cI .i64))[v1.toNat]? = some ((cI .i64) ((v7.set v1.toNat (IntKind.i64.wrap ((2:Int)+(v7.getD (IntKind.i64.wrap (v1+y1)).toNat 0)))).getD v1.toNat 0))∧((v7.set v1.toNat (IntKind.i64.wrap ((2:Int)+(v7.getD (IntKind.i64.wrap (v1+y1)).toNat 0)))).map (cI .i64)).set v1.toNat ((cI .i64) (IntKind.i64.wrap ((2:Int)+z3)))=(((v7.set v1.toNat (IntKind.i64.wrap ((2:Int)+(v7.getD (IntKind.i64.wrap (v1+y1)).toNat 0)))).set v1.toNat (IntKind.i64.wrap ((2:Int)+z3))).map (cI .i64)) from ⟨(bX (d:=0) (cI .i64) hp8).2,oU (cI .i64) rfl⟩),iP 12 (show 0≤v1∧v1 < ((v8.set v1.toNat (IntKind.i64.wrap (0 - y1))).map (cI .i64)).length from dQ (cI .i64) hp9),iX 13 { cs:=(cI .i64) ((v8.set v1.toNat (IntKind.i64.wrap (0 - y1))).getD v1.toNat 0),es:=some (((v8.set v1.toNat (IntKind.i64.wrap (0 - y1))).set v1.toNat (1:Int)).map (cI .i64)) } (show ((v8.set v1.toNat (IntKind.i64.wrap (0 - y1))).map (cI .i64))[v1.toNat]? = some ((cI .i64) ((v8.set v1.toNat (IntKind.i64.wrap (0 - y1))).getD v1.toNat 0))∧((v8.set v1.toNat (IntKind.i64.wrap (0 - y1))).map (cI .i64)).set v1.toNat ((cI .i64) (1:Int))=(((v8.set v1.toNat (IntKind.i64.wrap (0 - y1))).set v1.toNat (1:Int)).map (cI .i64)) from ⟨(bX (d:=0) (cI .i64) hp9).2,oU (cI .i64) rfl⟩)] [1,5,6,7] (tJ [.keep [1,5,6,7]])
    ·cases h
     refine aO (tJ [.keep [1,5,6,7]])
   ·obtain ⟨v9,v10⟩:=s
    try dsimp only at h
    refine tR [] [1,5,6,7,9] ?_
    refine jct h [1,5,6,7] (fun p=>[(5,oW6 p.1),(6,oW6 p.2)]) (fun s h=>?_) (fun s h=>?_)
    ·refine aU ?_
     refine tL3 (kT F a1 v1) [.keep [1,5,6,7,9]] [1,5,6,7,9] (fun v2 v3 v4=>[(5,oW6 v2),(6,oW6 v3),(9,dI v4)]) F v9 v10 (1:Int) h fun n v2 v3 v4 h=>?_
     rw [kT] at h
     refine aK ?_
     obtain ⟨z1,hz2,h⟩:=aW h
     refine tR [iB 9 hz2] [1,5,6,7,9,71] ?_
     refine tC h (fun hc h=>?_) fun hc h=>?_
     ·refine aO (tS ?_)
      refine jc h [1,5,6,7,9] (fun p=>[(5,oW6 p.1),(6,oW6 p.2)]) (fun s h=>?_) (fun s h=>?_)
      ·refine aU ?_
       obtain ⟨hp10,h⟩:=aL h
       obtain ⟨z2,hz3,h⟩:=aW h
       refine tR [iP 6 (show 0≤(IntKind.i64.wrap (v1+v4))∧(IntKind.i64.wrap (v1+v4)) < (v2.map (cI .i64)).length from dQ (cI .i64) hp10),iX 7 { cs:=(cI .i64) (v2.getD (IntKind.i64.wrap (v1+v4)).toNat 0) } (show (v2.map (cI .i64))[(IntKind.i64.wrap (v1+v4)).toNat]? = some ((cI .i64) (v2.getD (IntKind.i64.wrap (v1+v4)).toNat 0)) from (bX (d:=0) (cI .i64) hp10).2),iN 8 hz3] [1,5,6,7,9,10] ?_
       obtain ⟨hp11,h⟩:=aL h
       refine tR [iP 3 (show 0≤v1∧v1 < (v2.map (cI .i64)).length from dQ (cI .i64) hp11),iX 4 { cs:=(cI .i64) (v2.getD v1.toNat 0) } (show (v2.map (cI .i64))[v1.toNat]? = some ((cI .i64) (v2.getD v1.toNat 0)) from (bX (d:=0) (cI .i64) hp11).2)] [1,5,6,7,9,10,88] ?_
       refine tC h (fun hc h=>?_) fun hc h=>?_
       ·obtain ⟨hp12,h⟩:=aL h
        obtain ⟨hp13,h⟩:=aL h
        cases h
        refine tRe [iP 6 (show 0≤v1∧v1 < (v2.map (cI .i64)).length from dQ (cI .i64) hp12),iX 7 { cs:=(cI .i64) (v2.getD v1.toNat 0),es:=some ((v2.set v1.toNat z2).map (cI .i64)) } (show (v2.map (cI .i64))[v1.toNat]? = some ((cI .i64) (v2.getD v1.toNat 0))∧(v2.map (cI .i64)).set v1.toNat ((cI .i64) z2)=((v2.set v1.toNat z2).map (cI .i64)) from ⟨(bX (d:=0) (cI .i64) hp12).2,oU (cI .i64) rfl⟩),iP 8 (show 0≤v1∧v1 < (v3.map (cI .i64)).length from dQ (cI .i64) hp13),iX 9 { cs:=(cI .i64) (v3.getD v1.toNat 0),es:=some ((v3.set v1.toNat v4).map (cI .i64)) } (show (v3.map (cI .i64))[v1.toNat]? = some ((cI .i64) (v3.getD v1.toNat 0))∧(v3.map (cI .i64)).set v1.toNat ((cI .i64) v4)=((v3.set v1.toNat v4).map (cI .i64)) from ⟨(bX (d:=0) (cI .i64) hp13).2,oU (cI .i64) rfl⟩)] [1,5,6,7,9] (tJ [.keep [1,5,6,7,9]])
       ·cases h
        refine aO (tJ [.keep [1,5,6,7,9]])
      ·obtain ⟨v5,v6⟩:=s
       try dsimp only at h
       refine tRe [] [1,5,6,7,9] (tE [.keep [1,5,6,7,9]] (v5,v6,IntKind.i64.wrap (v4+(1:Int))) h)
     ·cases h
      refine cZ (tJ [.keep [1,5,6,7]])
    ·obtain ⟨v11,v12⟩:=s
     try dsimp only at h
     refine tS ?_
     refine tRe [] [1,5,6,7] (tE [.keep [1,5,6,7]] (v11,v12,IntKind.i64.wrap (v1 - (1:Int))) h)
  ·cases h
   refine cZ (tJ [.keep [1,6]])
 ·refine tS ?_
  refine tR [iH 0 { slfs:=[(0,0)] }] [1,6,11] ?_
  refine aK ?_
  refine tR [] [1,6,11,12] ?_
  refine jct h [11] (fun p=>[(11,.box [.slf 0 94,oW1 p])]) (fun s h=>?_) (fun v16 h=>?_)
  ·refine aU ?_
   refine tL2 (jB F a1 v13) [.keep [1,6,11,12]] [1,6,11,12] (fun v14 v15=>[(11,.box [.slf 0 94,oW1 v14]),(12,dI v15)]) F [] (0:Int) h fun n v14 v15 h=>?_
   rw [jB] at h
   refine aK ?_
   refine tR [] [1,6,11,12,100] ?_
   refine tC h (fun hc h=>?_) fun hc h=>?_
   ·refine aO (tS ?_)
    refine aU ?_
    obtain ⟨hp14,h⟩:=aL h
    refine tR [iP 2 (show 0≤v15∧v15 < (v13.map (cI .i64)).length from dQ (cI .i64) hp14),iX 3 { cs:=(cI .i64) (v13.getD v15.toNat 0) } (show (v13.map (cI .i64))[v15.toNat]? = some ((cI .i64) (v13.getD v15.toNat 0)) from (bX (d:=0) (cI .i64) hp14).2)] [1,6,11,12,13] ?_
    refine aK ?_
    refine tR [] [1,6,11,12,13,106] ?_
    refine tC h (fun hc h=>?_) fun hc h=>?_
    ·obtain ⟨y2,hy2,h⟩:=aH h
     refine tR [iC 3 [11] (bF hy2)] [1,6,11,12,13] ?_
     obtain ⟨hp15,h⟩:=aL h
     obtain ⟨y3,hy3,h⟩:=aH h
     refine tR [iP 2 hp15,iC 3 [11] (bF hy3)] [1,6,11,12,13] ?_
     refine tR [] [1,6,11,12] ?_
     refine cZ (tE [.keep [1,6,11,12]] (y3.2,IntKind.i64.wrap (v15 - (v13.getD v15.toNat 0))) h)
    ·refine aO (tS ?_)
     obtain ⟨y4,hy4,h⟩:=aH h
     refine tR [iC 3 [11] (bF hy4)] [1,6,11,12,13] ?_
     obtain ⟨hp16,h⟩:=aL h
     obtain ⟨z4,hz4,h⟩:=aW h
     obtain ⟨y5,hy5,h⟩:=aH h
     refine tR [iW 5 (show (0≤v15∧v15≤(IntKind.i64.wrap (v15+(v13.getD v15.toNat 0)))∧(IntKind.i64.wrap (v15+(v13.getD v15.toNat 0)))≤(a1.length:Int))∧AV.d (.str ((a1.drop v15.toNat).take ((IntKind.i64.wrap (v15+(v13.getD v15.toNat 0))).toNat - v15.toNat)))=.d (.str z4) from ⟨hp16,(by subst hz4; rfl)⟩),iC 6 [11] (bZ hy5)] [1,6,11,12,13] ?_
     refine tRe [] [1,6,11,12] (tE [.keep [1,6,11,12]] (y5.2.2,IntKind.i64.wrap (v15+(v13.getD v15.toNat 0))) h)
   ·cases h
    refine cZ (tJ [.keep [11]])
  ·refine tS ?_
   obtain ⟨hp17,h⟩:=aL h
   refine tR [iC 0 [11] (show aG Tryz.prog 51 [.bp 1000000 0] [.box [.slf 0 94,oW1 v16]] (.d (.str v16)) [.box [.slf 0 94,.junk]] from nK (l:=v16) hp17 (by kernel_rfl) (by kernel_rfl))] [4] ?_
   cases h
   refine aP (tq [4])
theorem aA7 {F:Nat} {a0:jI} {a1:List UInt8} {r:(List UInt8)} (h:qA F a0 a1=some r):aG Tryz.prog 268 [.agg (aF0 a0),.d (.str a1)] [] (.d (.str r)) []:=by
 rw [qA] at h
 refine aG.intro (N:=33) Tryz.func268 rfl rfl rfl rfl rfl fun e=>?_
 refine tR [] [1,2] ?_
 refine tR [iR 1 (a1.map cU)] [2,5] ?_
 refine aK ?_
 refine tR [iW 1 (cO cU (xs:=a1))] [2,5,6] ?_
 refine jct h [5] (fun p=>[(5,oW1 p)]) (fun s h=>?_) (fun v3 h=>?_)
 ·refine aU ?_
  refine tL2 (kR F a0) [.keep [2,5,6]] [2,5,6] (fun v1 v2=>[(5,oW1 v1),(6,dI v2)]) F a1 (IntKind.i64.wrap ((a1.length:Int) - (1:Int))) h fun n v1 v2 h=>?_
  rw [kR] at h
  refine aK ?_
  refine tR [] [2,5,6,15] ?_
  refine tC h (fun hc h=>?_) fun hc h=>?_
  ·refine aO (tS ?_)
   refine aK ?_
   refine aU ?_
   obtain ⟨hp1,h⟩:=aL h
   obtain ⟨hp2,h⟩:=aL h
   obtain ⟨z1,hz1,h⟩:=aW h
   obtain ⟨hp3,h⟩:=aL h
   obtain ⟨hp4,h⟩:=aL h
   refine aS4 mixed 13 [(3,{ cs:=cU (v1.getD v2.toNat 0) }),(10,{ cs:=cU (v1.getD (IntKind.i64.wrap (v2 - a0.f0)).toNat 0) }),(11,{ rw:=some (.d (.v (.int .u8 z1))) }),(13,{ cs:=cU (v1.getD v2.toNat 0),es:=some ((v1.set v2.toNat (UInt8.ofNat z1.toNat)).map cU) })] [2,5,6] [] [(2,.box [dI a0.f0]),(5,.own 5 1 ((v1.set v2.toNat (UInt8.ofNat z1.toNat)).map cU)),(6,dI v2)] [(2,0≤v2∧v2 < (v1.map cU).length),(0,(v1.map cU)[v2.toNat]? = some (cU (v1.getD v2.toNat 0))),(5,0≤(IntKind.i64.wrap (v2 - a0.f0))∧(IntKind.i64.wrap (v2 - a0.f0)) < (v1.map cU).length),(0,(v1.map cU)[(IntKind.i64.wrap (v2 - a0.f0)).toNat]? = some (cU (v1.getD (IntKind.i64.wrap (v2 - a0.f0)).toNat 0))),(0,(True)∧AV.d (.v (.int .u8 (IntKind.u8.wrap (((v1.getD v2.toNat 0).toNat:Int) - ((v1.getD (IntKind.i64.wrap (v2 - a0.f0)).toNat 0).toNat:Int)))))=.d (.v (.int .u8 z1))),(0,0≤v2∧v2 < (v1.map cU).length),(0,(v1.map cU)[v2.toNat]? = some (cU (v1.getD v2.toNat 0))∧(v1.map cU).set v2.toNat ([Dat.v (.int .u8 z1)])=((v1.set v2.toNat (UInt8.ofNat z1.toNat)).map cU))] 0 (by kernel_rfl) (⟨dQ cU hp1,(bX (d:=0) cU hp1).2,dQ cU hp2,(bX (d:=0) cU hp2).2,⟨trivial,(by subst hz1; rfl)⟩,dQ cU hp3,⟨(bX (d:=0) cU hp3).2,oU cU (aC6 hp4)⟩⟩) (tS ?_)
   refine tRe [] [2,5,6] (tE [.keep [2,5,6]] ((v1.set v2.toNat (UInt8.ofNat z1.toNat)),IntKind.i64.wrap (v2 - (1:Int))) h)
  ·cases h
   refine cZ (tJ [.keep [5]])
 ·refine tS ?_
  refine tR [iX 1 { cs:=[.str v3] } (show (v3.map cU)=byteCells v3 from rfl)] [4] ?_
  cases h
  refine aP (tq [4])
theorem aA1 {F:Nat} {a0:List UInt8} {r:(List UInt8)} (h:vG F a0=some r):aG Tryz.prog 277 [.d (.str a0)] [] (.d (.str r)) []:=by
 rw [vG] at h
 refine aG.intro (N:=47) Tryz.func277 rfl rfl rfl rfl rfl fun e=>?_
 refine tR [] [0] ?_
 refine tR [] [0,3] ?_
 refine aK ?_
 refine tR [] [0,3,7] ?_
 refine jct h [0,3] (fun p=>[(3,.d (.v (.int .u32 p)))]) (fun s h=>?_) (fun v7 h=>?_)
 ·refine aU ?_
  refine tL2 (pI F a0) [.keep [0,3,7]] [0,3,7] (fun v1 v2=>[(3,.d (.v (.int .u32 v1))),(7,dI v2)]) F (0:Int) (0:Int) h fun n v1 v2 h=>?_
  rw [pI] at h
  refine tR [] [0,3,7,8] ?_
  refine aK ?_
  refine tC h (fun hc h=>?_) fun hc h=>?_
  ·refine aO (tS ?_)
   refine jc h [0,3,7] (fun p=>[(3,.d (.v (.int .u32 p)))]) (fun s h=>?_) (fun v3 h=>?_)
   ·refine aU ?_
    refine tR [] [0,3,4,7] ?_
    refine tR [iP 1 (show 0≤(8:Int) by decide)] [0,3,4,7] ?_
    refine tR [] [0,3,4,7,15] ?_
    refine tC h (fun hc h=>?_) fun hc h=>?_
    ·obtain ⟨hp1,h⟩:=aL h
     obtain ⟨z1,hz1,h⟩:=aW h
     cases h
     refine tRe [iP 3 hp1,iZ 5 (aI .u32) hz1] [0,3,7] (tJ [.keep [0,3,7]])
    ·cases h
     refine aO (tJ [.keep [0,3,7]])
   ·refine tRe [] [0,3,7] (tE [.keep [0,3,7]] (v3,IntKind.i64.wrap (v2+(1:Int))) h)
  ·cases h
   refine cZ (tJ [.keep [0,3]])
 ·refine tS ?_
  refine aK ?_
  refine tR [] [0,3,29] ?_
  refine tC h (fun hc h=>?_) fun hc h=>?_
  ·refine tR [] [2] ?_
   cases h
   refine aP (tq [2])
  ·refine aO (tS ?_)
   refine tR [iX 0 { es:=some ((List.replicate 5 0).map cU) } (show aF3 Tryz.prog 301 5 5∧List.replicate 5 (cU 0)=((List.replicate 5 0).map cU) from ⟨(by show _=_; kernel_rfl),zO cU rfl⟩)] [0,3,5] ?_
   refine aK ?_
   refine tR [] [0,3,5,6] ?_
   refine jct h [0,5] (fun p=>[(5,.arr 301 1 (p.map cU))]) (fun s h=>?_) (fun v8 h=>?_)
   ·refine aU ?_
    refine tL3 (pM F) [.keep [0,3,5,6]] [0,3,5,6] (fun v4 v5 v6=>[(3,.d (.v (.int .u32 v4))),(5,.arr 301 1 (v5.map cU)),(6,dI v6)]) F v7 (List.replicate 5 0) (4:Int) h fun n v4 v5 v6 h=>?_
    rw [pM] at h
    refine aK ?_
    refine tR [] [0,3,5,6,31] ?_
    refine tC h (fun hc h=>?_) fun hc h=>?_
    ·refine aO (tS ?_)
     refine aK ?_
     refine aU ?_
     obtain ⟨hp2,h⟩:=aL h
     obtain ⟨hp3,h⟩:=aL h
     refine tR [iP 2 (show (85:Int)≠0 by decide),iP 5 (show 0≤v6∧v6 < 5 from (hp2).1),iX 6 { cs:=cU (v5.getD v6.toNat 0),es:=some ((v5.set v6.toNat (UInt8.ofNat (IntKind.u8.wrap ((33:Int)+(IntKind.u8.wrap (v4.tmod (85:Int))))).toNat)).map cU) } (show (v5.map cU)[v6.toNat]? = some (cU (v5.getD v6.toNat 0))∧(v5.map cU).set v6.toNat ([Dat.v (.int .u8 (IntKind.u8.wrap ((33:Int)+(IntKind.u8.wrap (v4.tmod (85:Int))))))])=((v5.set v6.toNat (UInt8.ofNat (IntKind.u8.wrap ((33:Int)+(IntKind.u8.wrap (v4.tmod (85:Int))))).toNat)).map cU) from ⟨(bX (d:=0) cU ⟨(hp2).1.1,(hp2).2⟩).2,oU cU (aC6 hp3)⟩)] [0,3,5,6] ?_
     refine tRe [iP 1 (show (85:Int)≠0 by decide)] [0,3,5,6] (tS ?_)
     refine tRe [] [0,3,5,6] (tE [.keep [0,3,5,6]] (IntKind.u32.wrap (v4.tdiv (85:Int)),(v5.set v6.toNat (UInt8.ofNat (IntKind.u8.wrap ((33:Int)+(IntKind.u8.wrap (v4.tmod (85:Int))))).toNat)),IntKind.i64.wrap (v6 - (1:Int))) h)
    ·cases h
     refine cZ (tJ [.keep [0,5]])
   ·refine tS ?_
    obtain ⟨hp4,h⟩:=aL h
    obtain ⟨z2,hz2,h⟩:=aW h
    refine tR [iX 3 { frz:=[(5,0)],es:=some (((v8.drop (0:Int).toNat).take ((IntKind.i64.wrap ((a0.length:Int)+(1:Int))).toNat - (0:Int).toNat)).map cU),rw:=some (.d (.sl 1 (z2.map cU))) } (show ((0≤(0:Int)∧(0:Int)≤(IntKind.i64.wrap ((a0.length:Int)+(1:Int)))∧(IntKind.i64.wrap ((a0.length:Int)+(1:Int)))≤((5:Nat):Int))∧(((v8.map cU).flatten.drop ((0:Int).toNat * 1)).take (((IntKind.i64.wrap ((a0.length:Int)+(1:Int))).toNat - (0:Int).toNat) * 1)=(((v8.drop (0:Int).toNat).take ((IntKind.i64.wrap ((a0.length:Int)+(1:Int))).toNat - (0:Int).toNat)).map cU).flatten∧(((v8.drop (0:Int).toNat).take ((IntKind.i64.wrap ((a0.length:Int)+(1:Int))).toNat - (0:Int).toNat)).map cU).length=(IntKind.i64.wrap ((a0.length:Int)+(1:Int))).toNat - (0:Int).toNat∧∀ e∈(((v8.drop (0:Int).toNat).take ((IntKind.i64.wrap ((a0.length:Int)+(1:Int))).toNat - (0:Int).toNat)).map cU),e.length=1))∧AV.d (.sl 1 (((v8.drop (0:Int).toNat).take ((IntKind.i64.wrap ((a0.length:Int)+(1:Int))).toNat - (0:Int).toNat)).map cU))=.d (.sl 1 (z2.map cU)) from ⟨bF2 cU 1 (fun _=>rfl) hp4,(by subst hz2; rfl)⟩),iX 4 { cs:=[.str z2] } (show (z2.map cU)=byteCells z2 from rfl)] [2] ?_
    cases h
    refine aP (tq [2])
theorem aA6 {F:Nat} {a0:dG} {a1:List UInt8} {r:(List UInt8)} (h:qG F a0 a1=some r):aG Tryz.prog 275 [.agg (mC a0),.d (.str a1)] [] (.d (.str r)) []:=by
 rw [qG] at h
 refine aG.intro (N:=21) Tryz.func275 rfl rfl rfl rfl rfl fun e=>?_
 refine tR [] [1] ?_
 refine tR [iH 0 { slfs:=[(0,0)] }] [1,5] ?_
 refine jc h [5] (fun p=>[(5,.box [.slf 0 94,oW1 p])]) (fun s h=>?_) (fun v3 h=>?_)
 ·refine aU ?_
  refine tL2 (kV F) [.keep [1,5]] [1,5] (fun v1 v2=>[(1,.d (.str v1)),(5,.box [.slf 0 94,oW1 v2])]) F a1 [] h fun n v1 v2 h=>?_
  rw [kV] at h
  refine aK ?_
  refine tR [] [1,5,8] ?_
  refine tC h (fun hc h=>?_) fun hc h=>?_
  ·refine aO (tS ?_)
   refine aU ?_
   refine tR [] [1,5,6] ?_
   obtain ⟨hp1,h⟩:=aL h
   obtain ⟨z1,hz1,h⟩:=aW h
   obtain ⟨y1,hy1,h⟩:=aH h
   obtain ⟨y2,hy2,h⟩:=aH h
   refine tR [iW 2 (show (0≤(0:Int)∧(0:Int)≤(if (4:Int) < (v1.length:Int) then (4:Int) else (v1.length:Int))∧(if (4:Int) < (v1.length:Int) then (4:Int) else (v1.length:Int))≤(v1.length:Int))∧AV.d (.str ((v1.drop (0:Int).toNat).take ((if (4:Int) < (v1.length:Int) then (4:Int) else (v1.length:Int)).toNat - (0:Int).toNat)))=.d (.str z1) from ⟨hp1,(by subst hz1; rfl)⟩),iC 3 [] (aA1 hy1),iC 4 [5] (bZ hy2)] [1,5,6] ?_
   obtain ⟨hp2,h⟩:=aL h
   obtain ⟨z2,hz2,h⟩:=aW h
   refine tRe [iW 2 (show (0≤(if (4:Int) < (v1.length:Int) then (4:Int) else (v1.length:Int))∧(if (4:Int) < (v1.length:Int) then (4:Int) else (v1.length:Int))≤(v1.length:Int)∧(v1.length:Int)≤(v1.length:Int))∧AV.d (.str ((v1.drop (if (4:Int) < (v1.length:Int) then (4:Int) else (v1.length:Int)).toNat).take ((v1.length:Int).toNat - (if (4:Int) < (v1.length:Int) then (4:Int) else (v1.length:Int)).toNat)))=.d (.str z2) from ⟨hp2,(by subst hz2; rfl)⟩)] [1,5] (tE [.keep [1,5]] (z2,y2.2.2) h)
  ·cases h
   refine cZ (tJ [.keep [5]])
 ·obtain ⟨hp3,h⟩:=aL h
  refine tR [iC 0 [5] (show aG Tryz.prog 51 [.bp 1000000 0] [.box [.slf 0 94,oW1 v3]] (.d (.str v3)) [.box [.slf 0 94,.junk]] from nK (l:=v3) hp3 (by kernel_rfl) (by kernel_rfl))] [4] ?_
  cases h
  refine aP (tq [4])
end Go.Vm.PgfG
