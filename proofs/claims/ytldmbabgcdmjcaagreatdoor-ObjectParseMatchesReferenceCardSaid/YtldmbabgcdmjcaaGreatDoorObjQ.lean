import Derived.Test.YtldmbabgcdmjcaaGreatDoorProg
import Derived.Test.YtldmbabgcdmjcaaGreatDoorVmD
import Derived.Test.YtldmbabgcdmjcaaGreatDoorObjB
namespace Go.Vm.ObjM
open Go.Proofs
abbrev dI (x:Int):AV:=.d (.v (.int .i64 x))
abbrev dB (x:Bool):AV:=.d (.v (.bool x))
abbrev kG (x:aG):AV:=.box [.d (.v (.int .i64 x.f0)),.d (.v (.int .i64 x.f1)),.d (.str x.f2),.d (.sl 1 (x.f3.map cS)),.d (.sl 5 (x.f4.map bK))]
abbrev aC1 (x:aD):AV:=.box [.d (.v (.int .i64 x.f0)),.d (.v (.int .i64 x.f1)),.d (.str x.f2),.d (.v (.int .i64 x.f3)),.d (.v (.int .i64 x.f4))]
abbrev oZ:bE:=bE.mk (aG.mk 0 0 [] [] []) [] false
abbrev jT:aG:=aG.mk 0 0 [] [] []
abbrev rA:aD:=aD.mk 0 0 [] 0 0
abbrev oW0 (x:List UInt8):AV:=.own 5 1 (x.map cU)
abbrev oW1 (x:List Int):AV:=.own 3 1 (x.map (cI .i64))
abbrev oW2 (x:List (List UInt8)):AV:=.own 9 1 (x.map cS)
abbrev oW3 (x:List aG):AV:=.own 26 5 (x.map bK)
abbrev oW4 (x:List aD):AV:=.own 46 5 (x.map aX)
set_option maxRecDepth 20000
theorem mixed:Tryz.prog.follows .mixedOrders=true:=by kernel_rfl
theorem uV {F:Nat} {a0:Int} {r:Bool} (h:mU F a0=some r):aS Tryz.prog 35 [.d (.v (.int .u8 a0))] [] (.d (.v (.bool r))) []:=by
 rw [mU] at h
 refine aS.intro (N:=13) Tryz.func35 rfl rfl rfl rfl rfl fun e=>?_
 refine tR [] [0] ?_
 refine tR [] [2] ?_
 cases h
 refine aR (tq [2])
theorem bA3 {F:Nat} {a0:Int} {r:Bool} (h:vU F a0=some r):aS Tryz.prog 64 [.d (.v (.int .u8 a0))] [] (.d (.v (.bool r))) []:=by
 rw [vU] at h
 refine aS.intro (N:=16) Tryz.func64 rfl rfl rfl rfl rfl fun e=>?_
 refine tR [] [0] ?_
 refine aT ?_
 obtain ⟨hp1,h⟩:=aQ h
 obtain ⟨z1,hz1,h⟩:=bB h
 refine tR [iX 0 { es:=some (([(UInt8.ofNat (40:Int).toNat),(UInt8.ofNat (41:Int).toNat),(UInt8.ofNat (60:Int).toNat),(UInt8.ofNat (62:Int).toNat),(UInt8.ofNat (91:Int).toNat),(UInt8.ofNat (93:Int).toNat),(UInt8.ofNat (47:Int).toNat),(UInt8.ofNat (64:Int).toNat),(UInt8.ofNat (37:Int).toNat)]).map cU) } (show [[Dat.v (.int .u8 (40:Int))],[Dat.v (.int .u8 (41:Int))],[Dat.v (.int .u8 (60:Int))],[Dat.v (.int .u8 (62:Int))],[Dat.v (.int .u8 (91:Int))],[Dat.v (.int .u8 (93:Int))],[Dat.v (.int .u8 (47:Int))],[Dat.v (.int .u8 (64:Int))],[Dat.v (.int .u8 (37:Int))]]=(([(UInt8.ofNat (40:Int).toNat),(UInt8.ofNat (41:Int).toNat),(UInt8.ofNat (60:Int).toNat),(UInt8.ofNat (62:Int).toNat),(UInt8.ofNat (91:Int).toNat),(UInt8.ofNat (93:Int).toNat),(UInt8.ofNat (47:Int).toNat),(UInt8.ofNat (64:Int).toNat),(UInt8.ofNat (37:Int).toNat)]).map cU) from gB (by decide) (gB (by decide) (gB (by decide) (gB (by decide) (gB (by decide) (gB (by decide) (gB (by decide) (gB (by decide) (gB (by decide) (rfl:([]:List (List Dat))=([]:List UInt8).map cU)))))))))),iP 1 (show 0 < (([(UInt8.ofNat (40:Int).toNat),(UInt8.ofNat (41:Int).toNat),(UInt8.ofNat (60:Int).toNat),(UInt8.ofNat (62:Int).toNat),(UInt8.ofNat (91:Int).toNat),(UInt8.ofNat (93:Int).toNat),(UInt8.ofNat (47:Int).toNat),(UInt8.ofNat (64:Int).toNat),(UInt8.ofNat (37:Int).toNat)]).map cU).length from bV9 cU hp1),iW 2 (show True∧dI ((([(UInt8.ofNat (40:Int).toNat),(UInt8.ofNat (41:Int).toNat),(UInt8.ofNat (60:Int).toNat),(UInt8.ofNat (62:Int).toNat),(UInt8.ofNat (91:Int).toNat),(UInt8.ofNat (93:Int).toNat),(UInt8.ofNat (47:Int).toNat),(UInt8.ofNat (64:Int).toNat),(UInt8.ofNat (37:Int).toNat)]).map cU).length:Int)=dI z1 from sS (eW cU) (by subst hz1; rfl))] [0,6,7,8] ?_
 refine jEt h [] (fun p=>[]) (fun s h hk1=>?_) (fun s h=>?_)
 ·refine bJ ?_
  refine tL1 (eT F a0 z1) [.keep [0,6,7,8]] [0,6,7,8] (fun v1=>[(8,dI v1)]) F (0:Int) h fun n v1 h=>?_
  rw [eT] at h
  refine tR [] [0,6,7,8,9] ?_
  refine aT ?_
  refine tC h (fun hc h=>?_) fun hc h=>?_
  ·refine aM (tS ?_)
   refine aT ?_
   refine bJ ?_
   obtain ⟨hp2,h⟩:=aQ h
   obtain ⟨z2,hz2,h⟩:=bB h
   refine tR [iP 0 (show 0≤v1∧v1 < (([(UInt8.ofNat (40:Int).toNat),(UInt8.ofNat (41:Int).toNat),(UInt8.ofNat (60:Int).toNat),(UInt8.ofNat (62:Int).toNat),(UInt8.ofNat (91:Int).toNat),(UInt8.ofNat (93:Int).toNat),(UInt8.ofNat (47:Int).toNat),(UInt8.ofNat (64:Int).toNat),(UInt8.ofNat (37:Int).toNat)]).map cU).length from rC cU hp2),iX 1 { cs:=cU (([(UInt8.ofNat (40:Int).toNat),(UInt8.ofNat (41:Int).toNat),(UInt8.ofNat (60:Int).toNat),(UInt8.ofNat (62:Int).toNat),(UInt8.ofNat (91:Int).toNat),(UInt8.ofNat (93:Int).toNat),(UInt8.ofNat (47:Int).toNat),(UInt8.ofNat (64:Int).toNat),(UInt8.ofNat (37:Int).toNat)]).getD v1.toNat 0),rw:=some (.d (.v (.int .u8 z2))) } (show ((([(UInt8.ofNat (40:Int).toNat),(UInt8.ofNat (41:Int).toNat),(UInt8.ofNat (60:Int).toNat),(UInt8.ofNat (62:Int).toNat),(UInt8.ofNat (91:Int).toNat),(UInt8.ofNat (93:Int).toNat),(UInt8.ofNat (47:Int).toNat),(UInt8.ofNat (64:Int).toNat),(UInt8.ofNat (37:Int).toNat)]).map cU)[v1.toNat]? = some (cU (([(UInt8.ofNat (40:Int).toNat),(UInt8.ofNat (41:Int).toNat),(UInt8.ofNat (60:Int).toNat),(UInt8.ofNat (62:Int).toNat),(UInt8.ofNat (91:Int).toNat),(UInt8.ofNat (93:Int).toNat),(UInt8.ofNat (47:Int).toNat),(UInt8.ofNat (64:Int).toNat),(UInt8.ofNat (37:Int).toNat)]).getD v1.toNat 0)))∧AV.d (.v (.int .u8 ((([(UInt8.ofNat (40:Int).toNat),(UInt8.ofNat (41:Int).toNat),(UInt8.ofNat (60:Int).toNat),(UInt8.ofNat (62:Int).toNat),(UInt8.ofNat (91:Int).toNat),(UInt8.ofNat (93:Int).toNat),(UInt8.ofNat (47:Int).toNat),(UInt8.ofNat (64:Int).toNat),(UInt8.ofNat (37:Int).toNat)]).getD v1.toNat 0).toNat:Int)))=.d (.v (.int .u8 z2)) from ⟨(jB (d:=0) cU hp2).2,(by subst hz2; rfl)⟩)] [0,4,6,7,8] ?_
   refine tR [] [0,6,7,8,14] ?_
   refine tC h (fun hc h=>?_) fun hc h=>?_
   ·refine tR [] [2] ?_
    cases h
    have h:=aP hk1
    cases h
    refine aR (tq [2])
   ·refine aM (tS ?_)
    refine tRe [] [0,6,7,8] (tE [.keep [0,6,7,8]] (IntKind.i64.wrap (v1+(1:Int))) h)
  ·cases h
   refine fD (tG [.keep []])
 ·refine tS ?_
  refine tR [] [2] ?_
  cases h
  refine aR (tq [2])
theorem zM {F:Nat} {a0:Int} {r:Bool} (h:oL F a0=some r):aS Tryz.prog 36 [.d (.v (.int .u8 a0))] [] (.d (.v (.bool r))) []:=by
 rw [oL] at h
 refine aS.intro (N:=11) Tryz.func36 rfl rfl rfl rfl rfl fun e=>?_
 refine tR [] [0] ?_
 obtain ⟨y1,hy1,h⟩:=aK h
 obtain ⟨y2,hy2,h⟩:=aK h
 refine tR [iC 1 [] (uV hy1),iD 5 [] (fun hg=>bA3 (fJ hg hy2))] [2] ?_
 cases h
 refine aR (tq [2])
theorem lX {F:Nat} {a0:Int} {r:Bool} (h:gY F a0=some r):aS Tryz.prog 37 [.d (.v (.int .u8 a0))] [] (.d (.v (.bool r))) []:=by
 rw [gY] at h
 refine aS.intro (N:=9) Tryz.func37 rfl rfl rfl rfl rfl fun e=>?_
 refine tR [] [0] ?_
 refine tR [] [2] ?_
 cases h
 refine aR (tq [2])
theorem zQ {F:Nat} {a0:List UInt8} {r:Int} (h:qL F a0=some r):aS Tryz.prog 65 [.d (.str a0)] [] (.d (.v (.int .i64 r))) []:=by
 rw [qL] at h
 refine aS.intro (N:=28) Tryz.func65 rfl rfl rfl rfl rfl fun e=>?_
 refine tR [] [0] ?_
 refine aT ?_
 refine tR [] [0,6] ?_
 refine tC h (fun hc h=>?_) fun hc h=>?_
 ·refine tR [] [2] ?_
  cases h
  refine aR (tq [2])
 ·refine aM (tS ?_)
  refine tR [] [0,3] ?_
  refine aT ?_
  refine tR [] [0,3,8,9] ?_
  refine jEt h [3] (fun p=>[(3,dI p)]) (fun s h hk1=>?_) (fun v3 h=>?_)
  ·refine bJ ?_
   refine tL2 (jP F a0) [.keep [0,3,8,9]] [0,3,8,9] (fun v1 v2=>[(3,dI v1),(9,dI v2)]) F (0:Int) (0:Int) h fun n v1 v2 h=>?_
   rw [jP] at h
   refine tR [] [0,3,8,9,10] ?_
   refine aT ?_
   refine tC h (fun hc h=>?_) fun hc h=>?_
   ·refine aM (tS ?_)
    refine aT ?_
    refine bJ ?_
    refine tR [] [0,3,4,8,9] ?_
    refine aT ?_
    obtain ⟨hp1,h⟩:=aQ h
    obtain ⟨y1,hy1,h⟩:=aK h
    refine tR [iP 2 hp1,iC 3 [] (lX hy1)] [0,3,4,8,9,16] ?_
    refine tC h (fun hc h=>?_) fun hc h=>?_
    ·refine tR [] [2] ?_
     cases h
     have h:=aP hk1
     cases h
     refine aR (tq [2])
    ·refine aM (tS ?_)
     obtain ⟨hp2,h⟩:=aQ h
     obtain ⟨z1,hz1,h⟩:=bB h
     obtain ⟨z2,hz2,h⟩:=bB h
     refine tRe [iP 4 hp2,iN 6 hz1,iN 8 hz2] [0,3,8,9] (tS ?_)
     refine tRe [] [0,3,8,9] (tE [.keep [0,3,8,9]] (z2,IntKind.i64.wrap (v2+(1:Int))) h)
   ·cases h
    refine fD (tG [.keep [3]])
  ·refine tS ?_
   refine tR [] [2] ?_
   cases h
   refine aR (tq [2])
theorem aG0 {F:Nat} {a0:List UInt8} {r:aD×Int} (h:nY F a0=some r):aS Tryz.prog 38 [.d (.str a0)] [] (.tup [.agg (aX r.1),.d (.v (.int .i64 r.2))]) []:=by
 rw [nY] at h
 refine aS.intro (N:=34) Tryz.func38 rfl rfl rfl rfl rfl fun e=>?_
 refine tR [] [0,2] ?_
 refine tR [] [0,2,4,5] ?_
 refine jc h [0,2,4,5] (fun p=>[(4,dI p)]) (fun s h=>?_) (fun v1 h=>?_)
 ·obtain ⟨hp1,h⟩:=aQ h
  refine tR [iP 1 hp1] [0,2,4,5,10] ?_
  refine tC h (fun hc h=>?_) fun hc h=>?_
  ·cases h
   refine tRe [] [0,2,4,5] (tJ [.keep [0,2,4,5]])
  ·cases h
   refine aM (tJ [.keep [0,2,4,5]])
 ·refine jc h [2,4,5] (fun p=>[(5,.d (.str p))]) (fun s h=>?_) (fun v2 h=>?_)
  ·obtain ⟨hp2,h⟩:=aQ h
   obtain ⟨y1,hy1,h⟩:=aK h
   refine tR [iP 1 hp2,iC 2 [] (lX hy1)] [0,2,4,5,14] ?_
   refine tC h (fun hc h=>?_) fun hc h=>?_
   ·obtain ⟨hp3,h⟩:=aQ h
    cases h
    refine tRe [iP 1 hp3] [2,4,5] (tJ [.keep [2,4,5]])
   ·cases h
    refine aM (tJ [.keep [2,4,5]])
  ·obtain ⟨y2,hy2,h⟩:=aK h
   refine tR [iC 1 [] (zQ hy2)] [2,4,5,6] ?_
   refine aT ?_
   refine tR [] [2,4,6,25] ?_
   refine tC h (fun hc h=>?_) fun hc h=>?_
   ·refine tR [] [2,3] ?_
    cases h
    refine aR (tq [2,3])
   ·refine aM (tS ?_)
    refine aT ?_
    refine tR [] [2,4,6,28] ?_
    refine tC h (fun hc h=>?_) fun hc h=>?_
    ·refine tR [] [2,3] ?_
     cases h
     refine aR (tq [2,3])
    ·refine aM (tS ?_)
     refine tR [] [2,3] ?_
     cases h
     refine aR (tq [2,3])
theorem xV {F:Nat} {a0:Int} {r:Bool} (h:jN F a0=some r):aS Tryz.prog 56 [.d (.v (.int .u8 a0))] [] (.d (.v (.bool r))) []:=by
 rw [jN] at h
 refine aS.intro (N:=17) Tryz.func56 rfl rfl rfl rfl rfl fun e=>?_
 refine tR [] [0] ?_
 obtain ⟨z1,hz1,h⟩:=bB h
 refine tR [iB 13 hz1] [2] ?_
 cases h
 refine aR (tq [2])
theorem pH {F:Nat} {a0:List UInt8} {r:Int} (h:gX F a0=some r):aS Tryz.prog 39 [.d (.str a0)] [] (.d (.v (.int .i64 r))) []:=by
 rw [gX] at h
 refine aS.intro (N:=43) Tryz.func39 rfl rfl rfl rfl rfl fun e=>?_
 refine tR [] [0] ?_
 refine aT ?_
 refine tR [] [0,5,6] ?_
 refine jEt h [0] (fun p=>[]) (fun s h hk1=>?_) (fun s h=>?_)
 ·refine bJ ?_
  refine tL1 (eY F a0) [.keep [0,5,6]] [0,5,6] (fun v1=>[(6,dI v1)]) F (0:Int) h fun n v1 h=>?_
  rw [eY] at h
  refine tR [] [0,5,6,7] ?_
  refine aT ?_
  refine tC h (fun hc h=>?_) fun hc h=>?_
  ·refine aM (tS ?_)
   refine aT ?_
   refine bJ ?_
   refine tR [] [0,3,5,6] ?_
   obtain ⟨hp1,h⟩:=aQ h
   obtain ⟨y1,hy1,h⟩:=aK h
   obtain ⟨hp2,h⟩:=aQ h
   obtain ⟨y2,hy2,h⟩:=aK h
   obtain ⟨hp3,h⟩:=aQ h
   obtain ⟨z1,hz1,h⟩:=bB h
   obtain ⟨hp4,h⟩:=aQ h
   obtain ⟨hp5,h⟩:=aQ h
   obtain ⟨z2,hz2,h⟩:=bB h
   refine tR [iP 2 hp1,iC 3 [] (xV hy1),iF 8 {} (show ((((!y1) == true) && true)=true→0≤v1∧v1 < a0.length) from (fun hg=>(hp2 hg))),iD 9 [] (fun hg=>lX (fJ hg hy2)),iF 15 {} (show ((((bif (!y1) then (!y2) else false) == true) && true)=true→0≤v1∧v1 < a0.length) from (fun hg=>(hp3 hg))),iB 17 hz1,iF 21 {} (show (((z1 == true) && true)=true→0≤v1∧v1 < a0.length) from (fun hg=>(hp4 hg))),iF 27 {} (show ((((bif z1 then (((a0.getD v1.toNat 0).toNat:Int) != (95:Int)) else false) == true) && true)=true→0≤v1∧v1 < a0.length) from (fun hg=>(hp5 hg))),iB 29 hz2] [0,5,6,38] ?_
   refine tC h (fun hc h=>?_) fun hc h=>?_
   ·refine tR [] [2] ?_
    cases h
    have h:=aP hk1
    cases h
    refine aR (tq [2])
   ·refine aM (tS ?_)
    refine tRe [] [0,5,6] (tE [.keep [0,5,6]] (IntKind.i64.wrap (v1+(1:Int))) h)
  ·cases h
   refine fD (tG [.keep [0]])
 ·refine tS ?_
  refine aT ?_
  refine tR [] [42] ?_
  refine tC h (fun hc h=>?_) fun hc h=>?_
  ·refine tR [] [2] ?_
   cases h
   refine aR (tq [2])
  ·refine aM (tS ?_)
   refine tR [] [2] ?_
   cases h
   refine aR (tq [2])
theorem mG {F:Nat} {a0:Int} {r:Int} (h:kK F a0=some r):aS Tryz.prog 66 [.d (.v (.int .u8 a0))] [] (.d (.v (.int .i64 r))) []:=by
 rw [kK] at h
 refine aS.intro (N:=28) Tryz.func66 rfl rfl rfl rfl rfl fun e=>?_
 refine tR [] [0] ?_
 refine aT ?_
 obtain ⟨hp1,h⟩:=aQ h
 obtain ⟨z1,hz1,h⟩:=bB h
 refine tR [iX 0 { es:=some (([(UInt8.ofNat (48:Int).toNat),(UInt8.ofNat (49:Int).toNat),(UInt8.ofNat (50:Int).toNat),(UInt8.ofNat (51:Int).toNat),(UInt8.ofNat (52:Int).toNat),(UInt8.ofNat (53:Int).toNat),(UInt8.ofNat (54:Int).toNat),(UInt8.ofNat (55:Int).toNat),(UInt8.ofNat (56:Int).toNat),(UInt8.ofNat (57:Int).toNat),(UInt8.ofNat (97:Int).toNat),(UInt8.ofNat (98:Int).toNat),(UInt8.ofNat (99:Int).toNat),(UInt8.ofNat (100:Int).toNat),(UInt8.ofNat (101:Int).toNat),(UInt8.ofNat (102:Int).toNat)]).map cU) } (show [[Dat.v (.int .u8 (48:Int))],[Dat.v (.int .u8 (49:Int))],[Dat.v (.int .u8 (50:Int))],[Dat.v (.int .u8 (51:Int))],[Dat.v (.int .u8 (52:Int))],[Dat.v (.int .u8 (53:Int))],[Dat.v (.int .u8 (54:Int))],[Dat.v (.int .u8 (55:Int))],[Dat.v (.int .u8 (56:Int))],[Dat.v (.int .u8 (57:Int))],[Dat.v (.int .u8 (97:Int))],[Dat.v (.int .u8 (98:Int))],[Dat.v (.int .u8 (99:Int))],[Dat.v (.int .u8 (100:Int))],[Dat.v (.int .u8 (101:Int))],[Dat.v (.int .u8 (102:Int))]]=(([(UInt8.ofNat (48:Int).toNat),(UInt8.ofNat (49:Int).toNat),(UInt8.ofNat (50:Int).toNat),(UInt8.ofNat (51:Int).toNat),(UInt8.ofNat (52:Int).toNat),(UInt8.ofNat (53:Int).toNat),(UInt8.ofNat (54:Int).toNat),(UInt8.ofNat (55:Int).toNat),(UInt8.ofNat (56:Int).toNat),(UInt8.ofNat (57:Int).toNat),(UInt8.ofNat (97:Int).toNat),(UInt8.ofNat (98:Int).toNat),(UInt8.ofNat (99:Int).toNat),(UInt8.ofNat (100:Int).toNat),(UInt8.ofNat (101:Int).toNat),(UInt8.ofNat (102:Int).toNat)]).map cU) from gB (by decide) (gB (by decide) (gB (by decide) (gB (by decide) (gB (by decide) (gB (by decide) (gB (by decide) (gB (by decide) (gB (by decide) (gB (by decide) (gB (by decide) (gB (by decide) (gB (by decide) (gB (by decide) (gB (by decide) (gB (by decide) (rfl:([]:List (List Dat))=([]:List UInt8).map cU))))))))))))))))),iP 1 (show 0 < (([(UInt8.ofNat (48:Int).toNat),(UInt8.ofNat (49:Int).toNat),(UInt8.ofNat (50:Int).toNat),(UInt8.ofNat (51:Int).toNat),(UInt8.ofNat (52:Int).toNat),(UInt8.ofNat (53:Int).toNat),(UInt8.ofNat (54:Int).toNat),(UInt8.ofNat (55:Int).toNat),(UInt8.ofNat (56:Int).toNat),(UInt8.ofNat (57:Int).toNat),(UInt8.ofNat (97:Int).toNat),(UInt8.ofNat (98:Int).toNat),(UInt8.ofNat (99:Int).toNat),(UInt8.ofNat (100:Int).toNat),(UInt8.ofNat (101:Int).toNat),(UInt8.ofNat (102:Int).toNat)]).map cU).length from bV9 cU hp1),iW 2 (show True∧dI ((([(UInt8.ofNat (48:Int).toNat),(UInt8.ofNat (49:Int).toNat),(UInt8.ofNat (50:Int).toNat),(UInt8.ofNat (51:Int).toNat),(UInt8.ofNat (52:Int).toNat),(UInt8.ofNat (53:Int).toNat),(UInt8.ofNat (54:Int).toNat),(UInt8.ofNat (55:Int).toNat),(UInt8.ofNat (56:Int).toNat),(UInt8.ofNat (57:Int).toNat),(UInt8.ofNat (97:Int).toNat),(UInt8.ofNat (98:Int).toNat),(UInt8.ofNat (99:Int).toNat),(UInt8.ofNat (100:Int).toNat),(UInt8.ofNat (101:Int).toNat),(UInt8.ofNat (102:Int).toNat)]).map cU).length:Int)=dI z1 from sS (eW cU) (by subst hz1; rfl))] [0,6,7,8] ?_
 refine jEt h [] (fun p=>[]) (fun s h hk1=>?_) (fun s h=>?_)
 ·refine bJ ?_
  refine tL1 (fH F a0 z1) [.keep [0,6,7,8]] [0,6,7,8] (fun v1=>[(8,dI v1)]) F (0:Int) h fun n v1 h=>?_
  rw [fH] at h
  refine tR [] [0,6,7,8,9] ?_
  refine aT ?_
  refine tC h (fun hc h=>?_) fun hc h=>?_
  ·refine aM (tS ?_)
   refine aT ?_
   refine bJ ?_
   obtain ⟨hp2,h⟩:=aQ h
   obtain ⟨z2,hz2,h⟩:=bB h
   refine tR [iP 1 (show 0≤v1∧v1 < (([(UInt8.ofNat (48:Int).toNat),(UInt8.ofNat (49:Int).toNat),(UInt8.ofNat (50:Int).toNat),(UInt8.ofNat (51:Int).toNat),(UInt8.ofNat (52:Int).toNat),(UInt8.ofNat (53:Int).toNat),(UInt8.ofNat (54:Int).toNat),(UInt8.ofNat (55:Int).toNat),(UInt8.ofNat (56:Int).toNat),(UInt8.ofNat (57:Int).toNat),(UInt8.ofNat (97:Int).toNat),(UInt8.ofNat (98:Int).toNat),(UInt8.ofNat (99:Int).toNat),(UInt8.ofNat (100:Int).toNat),(UInt8.ofNat (101:Int).toNat),(UInt8.ofNat (102:Int).toNat)]).map cU).length from rC cU hp2),iX 2 { cs:=cU (([(UInt8.ofNat (48:Int).toNat),(UInt8.ofNat (49:Int).toNat),(UInt8.ofNat (50:Int).toNat),(UInt8.ofNat (51:Int).toNat),(UInt8.ofNat (52:Int).toNat),(UInt8.ofNat (53:Int).toNat),(UInt8.ofNat (54:Int).toNat),(UInt8.ofNat (55:Int).toNat),(UInt8.ofNat (56:Int).toNat),(UInt8.ofNat (57:Int).toNat),(UInt8.ofNat (97:Int).toNat),(UInt8.ofNat (98:Int).toNat),(UInt8.ofNat (99:Int).toNat),(UInt8.ofNat (100:Int).toNat),(UInt8.ofNat (101:Int).toNat),(UInt8.ofNat (102:Int).toNat)]).getD v1.toNat 0),rw:=some (.d (.v (.int .u8 z2))) } (show ((([(UInt8.ofNat (48:Int).toNat),(UInt8.ofNat (49:Int).toNat),(UInt8.ofNat (50:Int).toNat),(UInt8.ofNat (51:Int).toNat),(UInt8.ofNat (52:Int).toNat),(UInt8.ofNat (53:Int).toNat),(UInt8.ofNat (54:Int).toNat),(UInt8.ofNat (55:Int).toNat),(UInt8.ofNat (56:Int).toNat),(UInt8.ofNat (57:Int).toNat),(UInt8.ofNat (97:Int).toNat),(UInt8.ofNat (98:Int).toNat),(UInt8.ofNat (99:Int).toNat),(UInt8.ofNat (100:Int).toNat),(UInt8.ofNat (101:Int).toNat),(UInt8.ofNat (102:Int).toNat)]).map cU)[v1.toNat]? = some (cU (([(UInt8.ofNat (48:Int).toNat),(UInt8.ofNat (49:Int).toNat),(UInt8.ofNat (50:Int).toNat),(UInt8.ofNat (51:Int).toNat),(UInt8.ofNat (52:Int).toNat),(UInt8.ofNat (53:Int).toNat),(UInt8.ofNat (54:Int).toNat),(UInt8.ofNat (55:Int).toNat),(UInt8.ofNat (56:Int).toNat),(UInt8.ofNat (57:Int).toNat),(UInt8.ofNat (97:Int).toNat),(UInt8.ofNat (98:Int).toNat),(UInt8.ofNat (99:Int).toNat),(UInt8.ofNat (100:Int).toNat),(UInt8.ofNat (101:Int).toNat),(UInt8.ofNat (102:Int).toNat)]).getD v1.toNat 0)))∧AV.d (.v (.int .u8 ((([(UInt8.ofNat (48:Int).toNat),(UInt8.ofNat (49:Int).toNat),(UInt8.ofNat (50:Int).toNat),(UInt8.ofNat (51:Int).toNat),(UInt8.ofNat (52:Int).toNat),(UInt8.ofNat (53:Int).toNat),(UInt8.ofNat (54:Int).toNat),(UInt8.ofNat (55:Int).toNat),(UInt8.ofNat (56:Int).toNat),(UInt8.ofNat (57:Int).toNat),(UInt8.ofNat (97:Int).toNat),(UInt8.ofNat (98:Int).toNat),(UInt8.ofNat (99:Int).toNat),(UInt8.ofNat (100:Int).toNat),(UInt8.ofNat (101:Int).toNat),(UInt8.ofNat (102:Int).toNat)]).getD v1.toNat 0).toNat:Int)))=.d (.v (.int .u8 z2)) from ⟨(jB (d:=0) cU hp2).2,(by subst hz2; rfl)⟩)] [0,3,4,6,7,8] ?_
   obtain ⟨z3,hz3,h⟩:=bB h
   refine tR [iB 12 hz3] [0,3,6,7,8,25] ?_
   refine tC h (fun hc h=>?_) fun hc h=>?_
   ·refine tR [] [2] ?_
    cases h
    have h:=aP hk1
    cases h
    refine aR (tq [2])
   ·refine aM (tS ?_)
    refine tRe [] [0,6,7,8] (tE [.keep [0,6,7,8]] (IntKind.i64.wrap (v1+(1:Int))) h)
  ·cases h
   refine fD (tG [.keep []])
 ·refine tS ?_
  refine tR [] [2] ?_
  cases h
  refine aR (tq [2])
theorem aE0 {F:Nat} {a0:List UInt8} {r:aD×Int} (h:mK F a0=some r):aS Tryz.prog 40 [.d (.str a0)] [] (.tup [.agg (aX r.1),.d (.v (.int .i64 r.2))]) []:=by
 rw [mK] at h
 refine aS.intro (N:=65) Tryz.func40 rfl rfl rfl rfl rfl fun e=>?_
 refine tR [] [0,2] ?_
 refine tR [] [0,2,4] ?_
 refine jE h [2,4] (fun p=>[(4,.d (.str p))]) (fun s h hk1=>?_) (fun v5 h=>?_)
 ·refine bJ ?_
  refine tL2 (gZ F) [.keep [0,2,4]] [0,2,4] (fun v1 v2=>[(0,.d (.str v1)),(4,.d (.str v2))]) F a0 [] h fun n v1 v2 h=>?_
  rw [gZ] at h
  refine aT ?_
  refine tR [] [0,2,4,8] ?_
  refine tC h (fun hc h=>?_) fun hc h=>?_
  ·refine aM (tS ?_)
   refine bJ ?_
   obtain ⟨hp1,h⟩:=aQ h
   refine pD mixed [] [0,2,4,5,6] [] [(0,.d (.str v1)),(2,.box [dI 0,dI 0,.d (.str []),dI 0,dI 0]),(4,.d (.str v2)),(5,dI (1:Int)),(6,.d (.v (.int .u8 ((v1.getD (0:Int).toNat 0).toNat:Int))))] [(1,0≤(0:Int)∧(0:Int) < v1.length)] 2 (by kernel_rfl) (hp1) ?_
   refine jE h [0,2,4,5,6] (fun p=>[(0,.d (.str v1)),(2,.box [dI 0,dI 0,.d (.str []),dI 0,dI 0]),(4,.d (.str v2)),(5,dI p.1),(6,.d (.v (.int .u8 p.2)))]) (fun s h hk2=>?_) (fun s h=>?_)
   ·refine tR [] [0,2,4,5,6,12] ?_
    refine tC h (fun hc h=>?_) fun hc h=>?_
    ·refine aT ?_
     obtain ⟨hp2,h⟩:=aQ h
     obtain ⟨y1,hy1,h⟩:=aK h
     obtain ⟨hp3,h⟩:=aQ h
     obtain ⟨y2,hy2,h⟩:=aK h
     obtain ⟨z1,hz1,h⟩:=bB h
     refine tR [iF 5 {} (show ((((decide ((v1.length:Int) < (3:Int))) == false) && true)=true→0≤(1:Int)∧(1:Int) < v1.length) from (fun hg=>(hp2 hg))),iD 6 [] (fun hg=>mG (fJ hg hy1)),iF 11 {} (show ((((bif (decide ((v1.length:Int) < (3:Int))) then true else (decide (y1 < (0:Int)))) == false) && true)=true→0≤(2:Int)∧(2:Int) < v1.length) from (fun hg=>(hp3 hg))),iD 12 [] (fun hg=>mG (fJ hg hy2)),iB 14 hz1] [0,2,4,27] ?_
     refine tC h (fun hc h=>?_) fun hc h=>?_
     ·refine tR [] [2,3] ?_
      cases h
      have h:=aP hk2
      cases h
      have h:=aP hk1
      cases h
      refine aR (tq [2,3])
     ·refine aM (tS ?_)
      obtain ⟨hp4,h⟩:=aQ h
      obtain ⟨y3,hy3,h⟩:=aK h
      obtain ⟨hp5,h⟩:=aQ h
      obtain ⟨y4,hy4,h⟩:=aK h
      refine uJ mixed 2 (.take 0 (.take 1 (.take 4 (.all (.alt 2 (.take 3 (.take 5 (.all (.alt 6 (.take 7 (.take 8 (.take 9 (.take 10 .done)))) .stop)))) (.alt 5 (.all (.alt 2 (.take 3 (.all (.alt 6 (.take 7 (.take 8 (.take 9 (.take 10 .done)))) .stop))) .stop)) .stop)))))) ([0,1,2,4,0,16,36,72,128,64,1023],[0,1,2,4,0,16,32,72,128,0,256]) 1979 [(2,{ res:=dI y3 }),(6,{ res:=dI y4 })] [0,2,4,5,6] [] [(0,.d (.str v1)),(2,.box [dI 0,dI 0,.d (.str []),dI 0,dI 0]),(4,.d (.str v2)),(5,dI (3:Int)),(6,.d (.v (.int .u8 (IntKind.u8.wrap (IntKind.i64.wrap ((IntKind.i64.wrap (y3 * (16:Int)))+y4))))))] ((fun (o1:Prop)=>fun (o2:Prop)=>fun (o5:Prop)=>fun (o6:Prop)=>[(1,o1),(1,o2),(1,o5),(0,o6),(4,o5),(0,o2),(1,o6)]) (0≤(1:Int)∧(1:Int) < v1.length) (aS Tryz.prog 66 [.d (.v (.int .u8 ((v1.getD (1:Int).toNat 0).toNat:Int)))] [] (dI y3) []) (0≤(2:Int)∧(2:Int) < v1.length) (aS Tryz.prog 66 [.d (.v (.int .u8 ((v1.getD (2:Int).toNat 0).toNat:Int)))] [] (dI y4) [])) 4 (by kernel_rfl) (by kernel_rfl) (by kernel_rfl) (have p1:=hp4; have p2:=mG hy3; have p5:=hp5; have p6:=mG hy4; ⟨p1,p2,p5,p6,p5,p2,p6⟩) ?_
      refine tR [] [0,2,4,5,6,39] ?_
      refine tC h (fun hc h=>?_) fun hc h=>?_
      ·refine tR [] [2,3] ?_
       cases h
       have h:=aP hk2
       cases h
       have h:=aP hk1
       cases h
       refine aR (tq [2,3])
      ·cases h
       refine aM (tG [.keep [0,2,4,5,6]])
    ·obtain ⟨z2,hz2,h⟩:=bB h
     refine tR [iB 5 hz2] [0,2,4,5,6,46] ?_
     refine tC h (fun hc h=>?_) fun hc h=>?_
     ·refine tR [] [2,3] ?_
      cases h
      have h:=aP hk2
      cases h
      have h:=aP hk1
      cases h
      refine aR (tq [2,3])
     ·cases h
      refine aM (tG [.keep [0,2,4,5,6]])
   ·obtain ⟨v3,v4⟩:=s
    try dsimp only at h
    obtain ⟨hp6,h⟩:=aQ h
    obtain ⟨hp7,h⟩:=aQ h
    refine tR [iX 2 { es:=some (([(UInt8.ofNat v4.toNat)]).map cU) } (show [[Dat.v (.int .u8 v4)]]=(([(UInt8.ofNat v4.toNat)]).map cU) from gB hp6 (rfl:([]:List (List Dat))=([]:List UInt8).map cU)),iX 3 { cs:=[.str ([(UInt8.ofNat v4.toNat)])] } (show (([(UInt8.ofNat v4.toNat)]).map cU)=byteCells ([(UInt8.ofNat v4.toNat)]) from rfl),iP 4 hp7] [0,2,4,5] ?_
    obtain ⟨hp8,h⟩:=aQ h
    refine tRe [iP 2 hp8] [0,2,4] (tE [.keep [0,2,4]] (((v1.drop v3.toNat).take ((v1.length:Int).toNat - v3.toNat)),(v2++([(UInt8.ofNat v4.toNat)]))) h)
  ·cases h
   refine fD (tG [.keep [2,4]])
 ·refine aT ?_
  refine tR [] [2,4,57] ?_
  refine tC h (fun hc h=>?_) fun hc h=>?_
  ·refine tR [] [2,3] ?_
   cases h
   refine aR (tq [2,3])
  ·refine aM (tS ?_)
   refine aT ?_
   refine tR [] [2,4,61] ?_
   refine tC h (fun hc h=>?_) fun hc h=>?_
   ·refine tR [] [2,3] ?_
    cases h
    refine aR (tq [2,3])
   ·refine aM (tS ?_)
    refine tR [] [2,3] ?_
    cases h
    refine aR (tq [2,3])
theorem aF8 {F:Nat} {a0:List UInt8} {r:aD×Int} (h:nX F a0=some r):aS Tryz.prog 41 [.d (.str a0)] [] (.tup [.agg (aX r.1),.d (.v (.int .i64 r.2))]) []:=by
 rw [nX] at h
 refine aS.intro (N:=34) Tryz.func41 rfl rfl rfl rfl rfl fun e=>?_
 refine tR [] [0,2] ?_
 obtain ⟨y1,hy1,h⟩:=aK h
 refine tR [iC 1 [] (zQ hy1)] [0,2,4] ?_
 refine aT ?_
 obtain ⟨hp1,h⟩:=aQ h
 obtain ⟨z1,hz1,h⟩:=bB h
 obtain ⟨z2,hz2,h⟩:=bB h
 refine tR [iF 13 {} (show ((((decide ((a0.length:Int) > (1:Int))) == true) && (((bif (decide (y1 < (0:Int))) then true else (decide ((a0.length:Int) > (3:Int)))) == false) && true))=true→0≤(0:Int)∧(0:Int) < a0.length) from (fun hg=>(hp1 hg))),iB 15 hz1,iB 16 hz2] [2,4,23] ?_
 refine tC h (fun hc h=>?_) fun hc h=>?_
 ·refine tR [] [2,3] ?_
  cases h
  refine aR (tq [2,3])
 ·refine aM (tS ?_)
  refine aT ?_
  refine tR [] [2,4,30] ?_
  refine tC h (fun hc h=>?_) fun hc h=>?_
  ·refine tR [] [2,3] ?_
   cases h
   refine aR (tq [2,3])
  ·refine aM (tS ?_)
   refine tR [] [2,3] ?_
   cases h
   refine aR (tq [2,3])
theorem bD2 {F:Nat} {a0:Int} {r:Int} (h:vH F a0=some r):aS Tryz.prog 67 [.d (.v (.int .u8 a0))] [] (.d (.v (.int .i64 r))) []:=by
 rw [vH] at h
 refine aS.intro (N:=16) Tryz.func67 rfl rfl rfl rfl rfl fun e=>?_
 refine tR [] [0] ?_
 refine aT ?_
 refine tR [] [0,3] ?_
 refine bJ ?_
 refine tR [] [0,3,4] ?_
 refine tC h (fun hc h=>?_) fun hc h=>?_
 ·refine tR [] [2] ?_
  cases h
  refine aR (tq [2])
 ·refine tR [] [0,3,6] ?_
  refine tC h (fun hc h=>?_) fun hc h=>?_
  ·refine tR [] [2] ?_
   cases h
   refine aR (tq [2])
  ·refine jc h [0,3,8] (fun p=>[(8,dB p)]) (fun s h=>?_) (fun v1 h=>?_)
   ·refine tR [] [0,3,8] ?_
    refine tC h (fun hc h=>?_) fun hc h=>?_
    ·cases h
     refine aM (tJ [.keep [0,3,8]])
    ·refine tR [] [0,3,8] ?_
     refine tC h (fun hc h=>?_) fun hc h=>?_
     ·cases h
      refine aM (tJ [.keep [0,3,8]])
     ·cases h
      refine tRe [] [0,3,8] (tJ [.keep [0,3,8]])
   ·refine tC h (fun hc h=>?_) fun hc h=>?_
    ·refine tR [] [2] ?_
     cases h
     refine aR (tq [2])
    ·refine tR [] [14] ?_
     refine tC h (fun hc h=>?_) fun hc h=>?_
     ·refine tR [] [2] ?_
      cases h
      refine aR (tq [2])
     ·refine aM (tS ?_)
      refine tR [] [2] ?_
      cases h
      refine aR (tq [2])
theorem aC0 {F:Nat} {a0:List UInt8} {r:aD×Int×Int} (h:pF F a0=some r):aS Tryz.prog 42 [.d (.str a0)] [] (.tup [.agg (aX r.1),.d (.v (.int .i64 r.2.1)),.d (.v (.int .i64 r.2.2))]) []:=by
 rw [pF] at h
 refine aS.intro (N:=104) Tryz.func42 rfl rfl rfl rfl rfl fun e=>?_
 refine tR [] [0,2] ?_
 refine tR [] [0,2,5] ?_
 refine tR [] [0,2,5,6,7,8] ?_
 refine aT ?_
 refine tR [] [0,2,5,6,7,8,14,15] ?_
 refine jEt h [2,7] (fun p=>[(2,.box [dI 0,dI 0,.d (.str []),dI 0,dI 0]),(7,dI p)]) (fun s h hk1=>?_) (fun v13 h=>?_)
 ·refine bJ ?_
  refine tL (fun n p=>bR F a0 n p.1 p.2.1 p.2.2.1 p.2.2.2.1 p.2.2.2.2) [.keep [0,2,5,6,7,8,14,15]] [0,2,5,6,7,8,14,15] (fun p=>[(0,.d (.str a0)),(2,.box [dI 0,dI 0,.d (.str []),dI 0,dI 0]),(5,oW0 p.1),(6,dI p.2.1),(7,dI p.2.2.1),(8,dI p.2.2.2.1),(14,dI (a0.length:Int)),(15,dI p.2.2.2.2)]) F ([],(1:Int),(0:Int),(0:Int),(0:Int)) h fun n p h=>?_
  obtain ⟨v1,v2,v3,v4,v5⟩:=p
  have h:bR F a0 (n+1) v1 v2 v3 v4 v5=some s:=h
  rw [bR] at h
  refine tR [] [0,2,5,6,7,8,14,15,16] ?_
  refine aT ?_
  refine tC h (fun hc h=>?_) fun hc h=>?_
  ·refine aM (tS ?_)
   refine jE h [0,2,5,6,7,8,14,15] (fun p=>[(0,.d (.str a0)),(2,.box [dI 0,dI 0,.d (.str []),dI 0,dI 0]),(5,oW0 p.1),(6,dI p.2.2.2),(7,dI p.2.1),(8,dI p.2.2.1),(14,dI (a0.length:Int)),(15,dI v5)]) (fun s h hk2=>?_) (fun s h=>?_)
   ·refine bJ ?_
    refine tR [] [0,2,5,6,7,8,9,14,15] ?_
    obtain ⟨hp1,h⟩:=aQ h
    refine tR [iP 2 hp1] [0,2,5,6,7,8,9,10,14,15] ?_
    refine bJ ?_
    refine tR [] [0,2,5,6,7,8,9,10,14,15,36] ?_
    refine tC h (fun hc h=>?_) fun hc h=>?_
    ·cases h
     refine tRe [] [0,2,5,6,7,8,14,15] (tG [.keep [0,2,5,6,7,8,14,15]])
    ·refine tR [] [0,2,5,6,7,8,9,10,14,15,43] ?_
     refine tC h (fun hc h=>?_) fun hc h=>?_
     ·refine tR [] [0,2,5,6,7,8,10,14,15] ?_
      obtain ⟨y1,hy1,h⟩:=aK h
      refine tR [iC 1 [] (bD2 hy1)] [0,2,5,6,7,8,11,14,15] ?_
      refine aT ?_
      refine tR [] [0,2,5,6,7,8,11,14,15,49] ?_
      refine tC h (fun hc h=>?_) fun hc h=>?_
      ·refine tR [] [2,3,4] ?_
       cases h
       have h:=aP hk2
       cases h
       have h:=aP hk1
       cases h
       refine aR (tq [2,3,4])
      ·refine aM (tS ?_)
       refine tR [] [0,2,5,6,7,8,11,14,15,52] ?_
       refine tC h (fun hc h=>?_) fun hc h=>?_
       ·obtain ⟨hp2,h⟩:=aQ h
        obtain ⟨hp3,h⟩:=aQ h
        cases h
        refine tRe [iX 3 { es:=some (([(UInt8.ofNat (IntKind.u8.wrap y1).toNat)]).map cU) } (show [[Dat.v (.int .u8 (IntKind.u8.wrap y1))]]=(([(UInt8.ofNat (IntKind.u8.wrap y1).toNat)]).map cU) from gB hp2 (rfl:([]:List (List Dat))=([]:List UInt8).map cU)),iE 4 (jC cU hp3)] [0,2,5,6,7,8,14,15] (tG [.keep [0,2,5,6,7,8,14,15]])
       ·cases h
        refine aM (tG [.keep [0,2,5,6,7,8,14,15]])
     ·refine tR [] [0,2,5,6,7,8,9,10,14,15,58] ?_
      refine tC h (fun hc h=>?_) fun hc h=>?_
      ·obtain ⟨y2,hy2,h⟩:=aK h
       refine tR [iC 1 [] (mG hy2)] [0,2,5,6,7,8,12,14,15] ?_
       refine aT ?_
       refine tR [] [0,2,5,6,7,8,12,14,15,64] ?_
       refine tC h (fun hc h=>?_) fun hc h=>?_
       ·refine tR [] [2,3,4] ?_
        cases h
        have h:=aP hk2
        cases h
        have h:=aP hk1
        cases h
        refine aR (tq [2,3,4])
       ·refine aM (tS ?_)
        refine jc h [0,2,5,6,7,12,14,15] (fun p=>[(0,.d (.str a0)),(2,.box [dI 0,dI 0,.d (.str []),dI 0,dI 0]),(5,oW0 p),(6,dI v2),(7,dI v3),(12,dI y2),(14,dI (a0.length:Int)),(15,dI v5)]) (fun s h=>?_) (fun v6 h=>?_)
        ·refine tR [] [0,2,5,6,7,8,12,14,15,67] ?_
         refine tC h (fun hc h=>?_) fun hc h=>?_
         ·obtain ⟨hp4,h⟩:=aQ h
          obtain ⟨hp5,h⟩:=aQ h
          obtain ⟨l1,hl1,h⟩:=bB h
          obtain hs:=Option.some.inj h; subst hs
          refine tRe [iX 6 { es:=some (([(UInt8.ofNat (IntKind.u8.wrap (IntKind.i64.wrap ((IntKind.i64.wrap (v4 * (16:Int)))+y2))).toNat)]).map cU) } (show [[Dat.v (.int .u8 (IntKind.u8.wrap (IntKind.i64.wrap ((IntKind.i64.wrap (v4 * (16:Int)))+y2))))]]=(([(UInt8.ofNat (IntKind.u8.wrap (IntKind.i64.wrap ((IntKind.i64.wrap (v4 * (16:Int)))+y2))).toNat)]).map cU) from gB hp4 (rfl:([]:List (List Dat))=([]:List UInt8).map cU)),iX 7 { es:=some (l1.map cU) } (show (v1.map cU).length+(([(UInt8.ofNat (IntKind.u8.wrap (IntKind.i64.wrap ((IntKind.i64.wrap (v4 * (16:Int)))+y2))).toNat)]).map cU).length≤4294967296∧(v1.map cU)++(([(UInt8.ofNat (IntKind.u8.wrap (IntKind.i64.wrap ((IntKind.i64.wrap (v4 * (16:Int)))+y2))).toNat)]).map cU)=(l1.map cU) from sS (jC cU hp5) (by subst hl1; rfl))] [0,2,5,6,7,12,14,15] (tJ [.keep [0,2,5,6,7,12,14,15]])
         ·cases h
          refine aM (tJ [.keep [0,2,5,6,7,12,14,15]])
        ·refine tR [] [0,2,5,6,7,8,14,15] ?_
         cases h
         refine tRe [iP 2 (show (4:Int)≠0 by decide)] [0,2,5,6,7,8,14,15] (tG [.keep [0,2,5,6,7,8,14,15]])
      ·refine tR [] [0,2,5,6,7,8,9,10,14,15,80] ?_
       refine tC h (fun hc h=>?_) fun hc h=>?_
       ·cases h
        refine tRe [] [0,2,5,6,7,8,14,15] (tG [.keep [0,2,5,6,7,8,14,15]])
       ·refine tR [] [0,2,5,6,7,8,9,10,14,15,83] ?_
        refine tC h (fun hc h=>?_) fun hc h=>?_
        ·refine aT ?_
         refine tR [iW 1 (eW cU (xs:=v1))] [2,5,9,92] ?_
         refine tC h (fun hc h=>?_) fun hc h=>?_
         ·refine tR [] [2,3,4] ?_
          cases h
          have h:=aP hk2
          cases h
          have h:=aP hk1
          cases h
          refine aR (tq [2,3,4])
         ·refine aM (tS ?_)
          refine tR [iX 1 { cs:=[.str v1] } (show (v1.map cU)=byteCells v1 from rfl)] [2,3,4] ?_
          cases h
          have h:=aP hk2
          cases h
          have h:=aP hk1
          cases h
          refine aR (tq [2,3,4])
        ·refine jc h [0,2,5,6,7,8,10,14,15] (fun p=>[(0,.d (.str a0)),(2,.box [dI 0,dI 0,.d (.str []),dI 0,dI 0]),(5,oW0 v1),(6,dI p),(7,dI v3),(8,dI v4),(10,.d (.v (.int .u8 ((a0.getD v5.toNat 0).toNat:Int)))),(14,dI (a0.length:Int)),(15,dI v5)]) (fun s h=>?_) (fun v7 h=>?_)
         ·refine tR [] [0,2,5,6,7,8,10,14,15,22] ?_
          refine tC h (fun hc h=>?_) fun hc h=>?_
          ·cases h
           refine tRe [] [0,2,5,6,7,8,10,14,15] (tJ [.keep [0,2,5,6,7,8,10,14,15]])
          ·cases h
           refine aM (tJ [.keep [0,2,5,6,7,8,10,14,15]])
         ·refine jc h [0,2,5,6,7,8,10,14,15] (fun p=>[(0,.d (.str a0)),(2,.box [dI 0,dI 0,.d (.str []),dI 0,dI 0]),(5,oW0 v1),(6,dI p),(7,dI v3),(8,dI v4),(10,.d (.v (.int .u8 ((a0.getD v5.toNat 0).toNat:Int)))),(14,dI (a0.length:Int)),(15,dI v5)]) (fun s h=>?_) (fun v8 h=>?_)
          ·refine tR [] [0,2,5,6,7,8,10,14,15,26] ?_
           refine tC h (fun hc h=>?_) fun hc h=>?_
           ·cases h
            refine tRe [] [0,2,5,6,7,8,10,14,15] (tJ [.keep [0,2,5,6,7,8,10,14,15]])
           ·cases h
            refine aM (tJ [.keep [0,2,5,6,7,8,10,14,15]])
          ·refine aT ?_
           refine tR [] [0,2,5,6,7,8,10,14,15,30] ?_
           refine tC h (fun hc h=>?_) fun hc h=>?_
           ·refine tR [] [2,3,4] ?_
            cases h
            have h:=aP hk2
            cases h
            have h:=aP hk1
            cases h
            refine aR (tq [2,3,4])
           ·refine aM (tS ?_)
            obtain ⟨hp6,h⟩:=aQ h
            obtain ⟨hp7,h⟩:=aQ h
            cases h
            refine tRe [iX 2 { es:=some (([(UInt8.ofNat ((a0.getD v5.toNat 0).toNat:Int).toNat)]).map cU) } (show [[Dat.v (.int .u8 ((a0.getD v5.toNat 0).toNat:Int))]]=(([(UInt8.ofNat ((a0.getD v5.toNat 0).toNat:Int).toNat)]).map cU) from gB hp6 (rfl:([]:List (List Dat))=([]:List UInt8).map cU)),iE 3 (jC cU hp7)] [0,2,5,6,7,8,14,15] (tG [.keep [0,2,5,6,7,8,14,15]])
   ·obtain ⟨v9,v10,v11,v12⟩:=s
    try dsimp only at h
    refine tRe [] [0,2,5,6,7,8,14,15] (tE [.keep [0,2,5,6,7,8,14,15]] (v9,v12,v10,v11,IntKind.i64.wrap (v5+(1:Int))) h)
  ·cases h
   refine fD (tG [.keep [2,7]])
 ·refine tS ?_
  refine aT ?_
  refine tR [] [2,101] ?_
  refine tC h (fun hc h=>?_) fun hc h=>?_
  ·refine tR [] [2,3,4] ?_
   cases h
   refine aR (tq [2,3,4])
  ·refine aM (tS ?_)
   refine tR [] [2,3,4] ?_
   cases h
   refine aR (tq [2,3,4])
theorem aH6 {F:Nat} {a0:List UInt8} {r:aD×Int×Int} (h:qV F a0=some r):aS Tryz.prog 43 [.d (.str a0)] [] (.tup [.agg (aX r.1),.d (.v (.int .i64 r.2.1)),.d (.v (.int .i64 r.2.2))]) []:=by
 rw [qV] at h
 refine aS.intro (N:=76) Tryz.func43 rfl rfl rfl rfl rfl fun e=>?_
 refine tR [] [0,2] ?_
 refine tR [] [0,2,5] ?_
 refine aT ?_
 refine tR [] [0,2,5,10,11] ?_
 refine jEt h [2] (fun p=>[]) (fun s h hk1=>?_) (fun s h=>?_)
 ·refine bJ ?_
  refine tL2 (iO F a0) [.keep [0,2,5,10,11]] [0,2,5,10,11] (fun v1 v4=>[(5,oW1 v1),(11,dI v4)]) F [] (0:Int) h fun n v1 v4 h=>?_
  rw [iO] at h
  refine tR [] [0,2,5,10,11,12] ?_
  refine aT ?_
  refine tC h (fun hc h=>?_) fun hc h=>?_
  ·refine aM (tS ?_)
   refine jE h [0,2,5,10,11] (fun p=>[(5,oW1 p)]) (fun s h hk2=>?_) (fun v6 h=>?_)
   ·refine bJ ?_
    refine tR [] [0,2,5,6,10,11] ?_
    refine bJ ?_
    obtain ⟨hp1,h⟩:=aQ h
    obtain ⟨y1,hy1,h⟩:=aK h
    refine tR [iP 2 hp1,iC 3 [] (uV hy1)] [0,2,5,6,10,11,21] ?_
    refine tC h (fun hc h=>?_) fun hc h=>?_
    ·cases h
     refine aM (tG [.keep [0,2,5,10,11]])
    ·obtain ⟨hp2,h⟩:=aQ h
     obtain ⟨z2,hz1,h⟩:=bB h
     refine tR [iP 2 hp2,iW 6 (show True∧dI ((v1.map (cI .i64)).length:Int)=dI (v1.length:Int) from eW (cI .i64)),iP 7 (show (2:Int)≠0 by decide),iB 9 hz1] [0,2,5,6,10,11,26] ?_
     refine tC h (fun hc h=>?_) fun hc h=>?_
     ·refine tR [] [2,5,6,7] ?_
      refine aT ?_
      refine tR [] [2,5,6,7,8] ?_
      refine jct h [2,6,7] (fun p=>[(7,oW0 p)]) (fun s h=>?_) (fun v5 h=>?_)
      ·refine bJ ?_
       refine tL2 (iT F v1) [.keep [2,5,6,7,8]] [2,5,6,7,8] (fun v2 v3=>[(7,oW0 v2),(8,dI v3)]) F [] (0:Int) h fun n v2 v3 h=>?_
       rw [iT] at h
       refine aT ?_
       refine tR [iW 2 (show True∧dI ((v1.map (cI .i64)).length:Int)=dI (v1.length:Int) from eW (cI .i64))] [2,5,6,7,8,40] ?_
       refine tC h (fun hc h=>?_) fun hc h=>?_
       ·refine aM (tS ?_)
        refine aT ?_
        refine bJ ?_
        obtain ⟨hp3,h⟩:=aQ h
        obtain ⟨hp4,h⟩:=aQ h
        obtain ⟨z1,hz2,h⟩:=bB h
        obtain ⟨hp5,h⟩:=aQ h
        obtain ⟨hp6,h⟩:=aQ h
        refine pA mixed 1 (.take 0 (.take 1 (.take 2 (.take 3 (.take 4 (.take 5 (.take 6 (.take 7 (.take 8 (.take 9 (.take 10 (.take 11 (.take 12 (.all (.alt 13 (.all (.alt 14 (.take 15 .done) .stop)) .stop))))))))))))))) ([0,0,0,6,8,16,0,0,128,320,512,1056,2048,4096,8193,32767],[0,0,0,6,8,16,0,0,128,320,512,1056,2048,4096,8193,16385]) 40959 [(4,{ cs:=(cI .i64) (v1.getD v3.toNat 0) }),(10,{ cs:=(cI .i64) (v1.getD (IntKind.i64.wrap (v3+(1:Int))).toNat 0) }),(11,{ rw:=some (dI z1) }),(13,{ es:=some (([(UInt8.ofNat (IntKind.u8.wrap z1).toNat)]).map cU) }),(14,{ es:=some ((v2++([(UInt8.ofNat (IntKind.u8.wrap z1).toNat)])).map cU) })] [2,5,6,7,8] [] [(2,.box [dI 0,dI 0,.d (.str []),dI 0,dI 0]),(5,oW1 v1),(6,dI v4),(7,.own 5 1 ((v2++([(UInt8.ofNat (IntKind.u8.wrap z1).toNat)])).map cU)),(8,dI v3)] ((fun (o3:Prop)=>fun (o4:Prop)=>fun (o9:Prop)=>fun (o10:Prop)=>fun (o11:Prop)=>fun (o13:Prop)=>fun (o14:Prop)=>[(3,o3),(0,o4),(4,o9),(0,o10),(0,o11),(1,o13),(0,o14)]) (0≤v3∧v3 < (v1.map (cI .i64)).length) ((v1.map (cI .i64))[v3.toNat]? = some ((cI .i64) (v1.getD v3.toNat 0))) (0≤(IntKind.i64.wrap (v3+(1:Int)))∧(IntKind.i64.wrap (v3+(1:Int))) < (v1.map (cI .i64)).length) ((v1.map (cI .i64))[(IntKind.i64.wrap (v3+(1:Int))).toNat]? = some ((cI .i64) (v1.getD (IntKind.i64.wrap (v3+(1:Int))).toNat 0))) ((True)∧dI (IntKind.i64.wrap ((IntKind.i64.wrap ((v1.getD v3.toNat 0) * (16:Int)))+(v1.getD (IntKind.i64.wrap (v3+(1:Int))).toNat 0)))=dI z1) ([[Dat.v (.int .u8 (IntKind.u8.wrap z1))]]=(([(UInt8.ofNat (IntKind.u8.wrap z1).toNat)]).map cU)) ((v2.map cU).length+(([(UInt8.ofNat (IntKind.u8.wrap z1).toNat)]).map cU).length≤4294967296∧(v2.map cU)++(([(UInt8.ofNat (IntKind.u8.wrap z1).toNat)]).map cU)=((v2++([(UInt8.ofNat (IntKind.u8.wrap z1).toNat)])).map cU))) 1 (by kernel_rfl) (by kernel_rfl) (by kernel_rfl) (have p3:=rC (cI .i64) hp3; have p4:=(jB (d:=0) (cI .i64) hp3).2; have p9:=rC (cI .i64) hp4; have p10:=(jB (d:=0) (cI .i64) hp4).2; have p11:=⟨trivial,(by subst hz2; rfl)⟩; have p13:=(gB hp5 (rfl:([]:List (List Dat))=([]:List UInt8).map cU)); have p14:=jC cU hp6; ⟨p3,p4,p9,p10,p11,p13,p14⟩) (tS ?_)
        refine tRe [] [2,5,6,7,8] (tE [.keep [2,5,6,7,8]] ((v2++([(UInt8.ofNat (IntKind.u8.wrap z1).toNat)])),IntKind.i64.wrap (v3+(2:Int))) h)
       ·cases h
        refine fD (tJ [.keep [2,6,7]])
      ·refine tS ?_
       refine aT ?_
       refine tR [iW 1 (eW cU (xs:=v5))] [2,6,7,60] ?_
       refine tC h (fun hc h=>?_) fun hc h=>?_
       ·refine tR [] [2,3,4] ?_
        cases h
        have h:=aP hk2
        cases h
        have h:=aP hk1
        cases h
        refine aR (tq [2,3,4])
       ·refine aM (tS ?_)
        refine tR [iX 1 { cs:=[.str v5] } (show (v5.map cU)=byteCells v5 from rfl)] [2,3,4] ?_
        cases h
        have h:=aP hk2
        cases h
        have h:=aP hk1
        cases h
        refine aR (tq [2,3,4])
     ·obtain ⟨hp7,h⟩:=aQ h
      obtain ⟨y2,hy2,h⟩:=aK h
      refine tR [iP 2 hp7,iC 3 [] (mG hy2)] [0,2,5,6,10,11,67] ?_
      refine tC h (fun hc h=>?_) fun hc h=>?_
      ·refine tR [] [2,3,4] ?_
       cases h
       have h:=aP hk2
       cases h
       have h:=aP hk1
       cases h
       refine aR (tq [2,3,4])
      ·obtain ⟨hp8,h⟩:=aQ h
       obtain ⟨y3,hy3,h⟩:=aK h
       obtain ⟨hp9,h⟩:=aQ h
       cases h
       refine tRe [iP 3 hp8,iC 4 [] (mG hy3),iR 5 (([y3]).map (cI .i64)),iE 6 (jC (cI .i64) hp9)] [0,2,5,10,11] (tG [.keep [0,2,5,10,11]])
   ·refine tRe [] [0,2,5,10,11] (tE [.keep [0,2,5,10,11]] (v6,IntKind.i64.wrap (v4+(1:Int))) h)
  ·cases h
   refine fD (tG [.keep [2]])
 ·refine tS ?_
  refine tR [] [2,3,4] ?_
  cases h
  refine aR (tq [2,3,4])
theorem bG2 {F:Nat} {a0:List UInt8} {a1:Int} {r:aD×Int×Int} (h:lC F a0 a1=some r):aS Tryz.prog 20 [.d (.str a0),.d (.v (.int .i64 a1))] [] (.tup [.agg (aX r.1),.d (.v (.int .i64 r.2.1)),.d (.v (.int .i64 r.2.2))]) []:=by
 rw [lC] at h
 refine aS.intro (N:=208) Tryz.func20 rfl rfl rfl rfl rfl fun e=>?_
 refine tR [] [0,1,4] ?_
 refine jc h [0,1,4] (fun p=>[(1,dI p)]) (fun s h=>?_) (fun v5 h=>?_)
 ·refine bJ ?_
  refine tL1 (kI F a0) [.keep [0,1,4]] [0,1,4] (fun v2=>[(1,dI v2)]) F a1 h fun n v2 h=>?_
  rw [kI] at h
  refine aT ?_
  obtain ⟨hp1,h⟩:=aQ h
  obtain ⟨y1,hy1,h⟩:=aK h
  obtain ⟨hp2,h⟩:=aQ h
  obtain ⟨z2,hz1,h⟩:=bB h
  refine tR [iF 7 {} (show ((((decide (v2 < (a0.length:Int))) == true) && true)=true→0≤v2∧v2 < a0.length) from (fun hg=>(hp1 hg))),iD 8 [] (fun hg=>uV (fJ hg hy1)),iF 12 {} (show (((y1 == false) && (((decide (v2 < (a0.length:Int))) == true) && true))=true→0≤v2∧v2 < a0.length) from (fun hg=>(hp2 hg))),iB 15 hz1] [0,1,4,28] ?_
  refine tC h (fun hc h=>?_) fun hc h=>?_
  ·refine aM (tS ?_)
   refine bJ ?_
   obtain ⟨hp3,h⟩:=aQ h
   refine tR [iP 2 hp3] [0,1,4,32] ?_
   refine tC h (fun hc h=>?_) fun hc h=>?_
   ·refine jct h [0,1,4] (fun p=>[(1,dI p)]) (fun s h=>?_) (fun v3 h=>?_)
    ·refine bJ ?_
     refine tL1 (lF F a0) [.keep [0,1,4]] [0,1,4] (fun v1=>[(1,dI v1)]) F v2 h fun n v1 h=>?_
     rw [lF] at h
     refine aT ?_
     obtain ⟨hp4,h⟩:=aQ h
     obtain ⟨z1,hz2,h⟩:=bB h
     refine tR [iF 7 {} (show ((((decide (v1 < (a0.length:Int))) == true) && true)=true→0≤v1∧v1 < a0.length) from (fun hg=>(hp4 hg))),iB 9 hz2] [0,1,4,42] ?_
     refine tC h (fun hc h=>?_) fun hc h=>?_
     ·refine aM (tS ?_)
      refine bJ ?_
      refine tRe [] [0,1,4] (tE [.keep [0,1,4]] (IntKind.i64.wrap (v1+(1:Int))) h)
     ·cases h
      refine fD (tJ [.keep [0,1,4]])
    ·refine tE [.keep [0,1,4]] v3 h
   ·refine tRe [] [0,1,4] (tE [.keep [0,1,4]] (IntKind.i64.wrap (v2+(1:Int))) h)
  ·cases h
   refine fD (tJ [.keep [0,1,4]])
 ·refine aT ?_
  refine tR [] [0,1,4,50] ?_
  refine tC h (fun hc h=>?_) fun hc h=>?_
  ·refine tR [] [4,5,6] ?_
   cases h
   refine aR (tq [4,5,6])
  ·refine aM (tS ?_)
   obtain ⟨hp5,h⟩:=aQ h
   refine tR [iP 2 hp5] [0,1,4,7,8] ?_
   refine jc h [0,1,4,7,8] (fun p=>[(8,dI p)]) (fun s h=>?_) (fun v6 h=>?_)
   ·refine bJ ?_
    refine tL1 (mI F a0) [.keep [0,1,4,7,8]] [0,1,4,7,8] (fun v4=>[(8,dI v4)]) F (IntKind.i64.wrap (v5+(1:Int))) h fun n v4 h=>?_
    rw [mI] at h
    refine aT ?_
    obtain ⟨hp6,h⟩:=aQ h
    obtain ⟨y2,hy2,h⟩:=aK h
    refine tR [iF 7 {} (show ((((decide (v4 < (a0.length:Int))) == true) && true)=true→0≤v4∧v4 < a0.length) from (fun hg=>(hp6 hg))),iD 8 [] (fun hg=>zM (fJ hg hy2))] [0,1,4,7,8,69] ?_
    refine tC h (fun hc h=>?_) fun hc h=>?_
    ·refine aM (tS ?_)
     refine bJ ?_
     refine tRe [] [0,1,4,7,8] (tE [.keep [0,1,4,7,8]] (IntKind.i64.wrap (v4+(1:Int))) h)
    ·cases h
     refine fD (tJ [.keep [0,1,4,7,8]])
   ·obtain ⟨hp7,h⟩:=aQ h
    obtain ⟨z3,hz3,h⟩:=bB h
    refine tR [iF 9 {} (show ((((decide ((IntKind.i64.wrap (v5+(1:Int))) < (a0.length:Int))) == true) && true)=true→0≤(IntKind.i64.wrap (v5+(1:Int)))∧(IntKind.i64.wrap (v5+(1:Int))) < a0.length) from (fun hg=>(hp7 hg))),iB 11 hz3] [0,1,4,7,8,9] ?_
    refine tR [] [0,1,4,7,8,9,10,11,12] ?_
    refine jc h [1,4,10,11,12] (fun p=>[(10,.box [dI p.1,dI p.2.1,.d (.str p.2.2.1),dI p.2.2.2.1,dI p.2.2.2.2.1]),(11,dI p.2.2.2.2.2.1),(12,dI p.2.2.2.2.2.2)]) (fun s h=>?_) (fun s h=>?_)
    ·refine bJ ?_
     obtain ⟨z4,hz4,h⟩:=bB h
     obtain ⟨y3,hy3,h⟩:=aK h
     refine tR [iB 5 hz4,iD 8 [] (fun hg=>lX (fJ hg hy3))] [0,1,4,7,8,9,10,11,12,89] ?_
     refine tC h (fun hc h=>?_) fun hc h=>?_
     ·obtain ⟨hp8,h⟩:=aQ h
      obtain ⟨y4,hy4,h⟩:=aK h
      cases h
      refine tRe [iP 3 hp8,iC 4 [] (aG0 hy4)] [1,4,10,11,12] (tJ [.keep [1,4,10,11,12]])
     ·obtain ⟨y5,hy5,h⟩:=aK h
      refine tR [iC 1 [] (zM hy5)] [0,1,4,7,8,9,10,11,12,108] ?_
      refine tC h (fun hc h=>?_) fun hc h=>?_
      ·obtain ⟨hp9,h⟩:=aQ h
       obtain ⟨hp10,h⟩:=aQ h
       obtain ⟨y6,hy6,h⟩:=aK h
       cases h
       refine pA mixed 3 (.take 0 (.take 1 (.take 2 (.take 5 (.take 6 (.take 7 (.take 8 (.all (.alt 3 (.all (.alt 4 (.all (.alt 9 (.all (.alt 10 (.take 11 .done) .stop)) .stop)) (.alt 9 (.take 4 (.all (.alt 10 (.take 11 .done) .stop))) .stop))) (.alt 9 (.take 3 (.take 4 (.all (.alt 10 (.take 11 .done) .stop)))) .stop)))))))))) ([0,0,0,7,8,0,0,0,224,256,543,2047],[0,0,0,7,8,0,0,0,224,256,16,512]) 2559 [(9,{ res:=dI y6 })] [1,4,10,11,12] [] [(1,dI v5),(4,.box [dI 0,dI 0,.d (.str []),dI 0,dI 0]),(10,.box [dI (5:Int),dI 0,.d (.str ((a0.drop v5.toNat).take (v6.toNat - v5.toNat))),dI 0,dI 0]),(11,dI y6),(12,dI (IntKind.i64.wrap (v6 - v5)))] ((fun (o3:Prop)=>fun (o8:Prop)=>fun (o9:Prop)=>[(6,o8),(0,o3),(1,o9),(2,o9),(3,o9),(0,o3)]) (0≤v5∧v5≤v6∧v6≤(a0.length:Int)) (0≤v5∧v5≤v6∧v6≤(a0.length:Int)) (aS Tryz.prog 39 [.d (.str ((a0.drop v5.toNat).take (v6.toNat - v5.toNat)))] [] (dI y6) [])) 3 (by kernel_rfl) (by kernel_rfl) (by kernel_rfl) (have p3:=hp9; have p8:=hp10; have p9:=pH hy6; ⟨p8,p3,p9,p9,p9,p3⟩) (tJ [.keep [1,4,10,11,12]])
      ·refine tR [] [0,1,4,7,8,9,10,11,12,121] ?_
       refine tC h (fun hc h=>?_) fun hc h=>?_
       ·obtain ⟨hp11,h⟩:=aQ h
        obtain ⟨z5,hz5,h⟩:=bB h
        obtain ⟨y7,hy7,h⟩:=aK h
        cases h
        refine tRe [iW 4 (show (0≤(IntKind.i64.wrap (v5+(1:Int)))∧(IntKind.i64.wrap (v5+(1:Int)))≤v6∧v6≤(a0.length:Int))∧AV.d (.str ((a0.drop (IntKind.i64.wrap (v5+(1:Int))).toNat).take (v6.toNat - (IntKind.i64.wrap (v5+(1:Int))).toNat)))=.d (.str z5) from ⟨hp11,(by subst hz5; rfl)⟩),iC 5 [] (aE0 hy7)] [1,4,10,11,12] (tJ [.keep [1,4,10,11,12]])
       ·refine tR [] [0,1,4,7,8,9,10,11,12,133] ?_
        refine tC h (fun hc h=>?_) fun hc h=>?_
        ·obtain ⟨hp12,h⟩:=aQ h
         obtain ⟨z6,hz6,h⟩:=bB h
         obtain ⟨y8,hy8,h⟩:=aK h
         cases h
         refine tRe [iW 4 (show (0≤(IntKind.i64.wrap (v5+(1:Int)))∧(IntKind.i64.wrap (v5+(1:Int)))≤v6∧v6≤(a0.length:Int))∧AV.d (.str ((a0.drop (IntKind.i64.wrap (v5+(1:Int))).toNat).take (v6.toNat - (IntKind.i64.wrap (v5+(1:Int))).toNat)))=.d (.str z6) from ⟨hp12,(by subst hz6; rfl)⟩),iC 5 [] (aF8 hy8)] [1,4,10,11,12] (tJ [.keep [1,4,10,11,12]])
        ·refine tR [] [0,1,4,7,9,10,11,12,145] ?_
         refine tC h (fun hc h=>?_) fun hc h=>?_
         ·cases h
          refine tRe [] [1,4,10,11,12] (tJ [.keep [1,4,10,11,12]])
         ·refine tR [] [0,1,4,7,9,10,11,12,149] ?_
          refine tC h (fun hc h=>?_) fun hc h=>?_
          ·cases h
           refine tRe [] [1,4,10,11,12] (tJ [.keep [1,4,10,11,12]])
          ·obtain ⟨z7,hz7,h⟩:=bB h
           refine tR [iB 4 hz7] [0,1,4,7,9,10,11,12,153] ?_
           refine tC h (fun hc h=>?_) fun hc h=>?_
           ·cases h
            refine tRe [] [1,4,10,11,12] (tJ [.keep [1,4,10,11,12]])
           ·obtain ⟨z8,hz8,h⟩:=bB h
            refine tR [iB 4 hz8] [0,1,4,7,10,11,12,160] ?_
            refine tC h (fun hc h=>?_) fun hc h=>?_
            ·cases h
             refine tRe [] [1,4,10,11,12] (tJ [.keep [1,4,10,11,12]])
            ·refine tR [] [0,1,4,7,10,12,167] ?_
             refine tC h (fun hc h=>?_) fun hc h=>?_
             ·obtain ⟨hp13,h⟩:=aQ h
              obtain ⟨z9,hz9,h⟩:=bB h
              obtain ⟨y9,hy9,h⟩:=aK h
              refine tR [iW 3 (show (0≤(IntKind.i64.wrap (v5+(1:Int)))∧(IntKind.i64.wrap (v5+(1:Int)))≤(a0.length:Int)∧(a0.length:Int)≤(a0.length:Int))∧AV.d (.str ((a0.drop (IntKind.i64.wrap (v5+(1:Int))).toNat).take ((a0.length:Int).toNat - (IntKind.i64.wrap (v5+(1:Int))).toNat)))=.d (.str z9) from ⟨hp13,(by subst hz9; rfl)⟩),iC 4 [] (aC0 hy9)] [1,4,10,11,12] ?_
              cases h
              refine tRe [] [1,4,10,11,12] (tJ [.keep [1,4,10,11,12]])
             ·refine tR [] [0,1,4,10,12,181] ?_
              refine tC h (fun hc h=>?_) fun hc h=>?_
              ·obtain ⟨hp14,h⟩:=aQ h
               obtain ⟨z10,hz10,h⟩:=bB h
               obtain ⟨y10,hy10,h⟩:=aK h
               refine tR [iW 3 (show (0≤(IntKind.i64.wrap (v5+(1:Int)))∧(IntKind.i64.wrap (v5+(1:Int)))≤(a0.length:Int)∧(a0.length:Int)≤(a0.length:Int))∧AV.d (.str ((a0.drop (IntKind.i64.wrap (v5+(1:Int))).toNat).take ((a0.length:Int).toNat - (IntKind.i64.wrap (v5+(1:Int))).toNat)))=.d (.str z10) from ⟨hp14,(by subst hz10; rfl)⟩),iC 4 [] (aH6 hy10)] [1,4,10,11,12] ?_
               cases h
               refine tRe [] [1,4,10,11,12] (tJ [.keep [1,4,10,11,12]])
              ·cases h
               refine tRe [] [1,4,10,11,12] (tJ [.keep [1,4,10,11,12]])
    ·obtain ⟨v7,v8,v9,v10,v11,v12,v13⟩:=s
     try dsimp only at h
     refine aT ?_
     refine tR [] [1,4,10,11,12,196] ?_
     refine tC h (fun hc h=>?_) fun hc h=>?_
     ·refine tR [] [4,5,6] ?_
      cases h
      refine aR (tq [4,5,6])
     ·refine aM (tS ?_)
      refine tR [] [1,4,10] ?_
      refine tR [] [4,5,6] ?_
      cases h
      refine aR (tq [4,5,6])
theorem aJ8 {F:Nat} {a0:List (List UInt8)} {a1:List UInt8} {r:Bool} (h:pJ F a0 a1=some r):aS Tryz.prog 44 [.d (.sl 1 (a0.map cS)),.d (.str a1)] [] (.d (.v (.bool r))) []:=by
 rw [pJ] at h
 refine aS.intro (N:=17) Tryz.func44 rfl rfl rfl rfl rfl fun e=>?_
 refine tR [] [0,1] ?_
 refine aT ?_
 refine tR [iW 1 (eW cS (xs:=a0))] [1,7,8,9] ?_
 refine jEt h [] (fun p=>[]) (fun s h hk1=>?_) (fun s h=>?_)
 ·refine bJ ?_
  refine tL1 (jJ F a0 a1) [.keep [1,7,8,9]] [1,7,8,9] (fun v1=>[(9,dI v1)]) F (0:Int) h fun n v1 h=>?_
  rw [jJ] at h
  refine tR [] [1,7,8,9,10] ?_
  refine aT ?_
  refine tC h (fun hc h=>?_) fun hc h=>?_
  ·refine aM (tS ?_)
   refine aT ?_
   refine bJ ?_
   obtain ⟨hp1,h⟩:=aQ h
   refine tR [iI 0 (jB (d:=[]) cS hp1)] [1,6,7,8,9] ?_
   refine tR [] [1,7,8,9,15] ?_
   refine tC h (fun hc h=>?_) fun hc h=>?_
   ·refine tR [] [4] ?_
    cases h
    have h:=aP hk1
    cases h
    refine aR (tq [4])
   ·refine aM (tS ?_)
    refine tRe [] [1,7,8,9] (tE [.keep [1,7,8,9]] (IntKind.i64.wrap (v1+(1:Int))) h)
  ·cases h
   refine fD (tG [.keep []])
 ·refine tS ?_
  refine tR [] [4] ?_
  cases h
  refine aR (tq [4])
theorem aD5 {F:Nat} {a0:List bE} {a1:aD} {r:Bool×Int} (h:dK F a0 a1=some r):aS Tryz.prog 21 [.d (.sl 7 (a0.map fE)),.agg (aX a1)] [] (.tup [.d (.v (.bool r.1)),.d (.v (.int .i64 r.2))]) []:=by
 rw [dK] at h
 refine aS.intro (N:=90) Tryz.func21 rfl rfl rfl rfl rfl fun e=>?_
 refine tR [] [0,3] ?_
 refine jE h [0,3] (fun p=>[]) (fun s h hk1=>?_) (fun s h=>?_)
 ·obtain ⟨hp1,h⟩:=aQ h
  obtain ⟨z1,hz1,h⟩:=bB h
  refine tR [iW 1 (eW fE (xs:=a0)),iW 6 (eW fE (xs:=a0)),iF 8 { cs:=fE (a0.getD (IntKind.i64.wrap ((a0.length:Int) - (1:Int))).toNat oZ) } (show ((((decide ((a0.length:Int) > (0:Int))) == true) && true)=true→0≤(IntKind.i64.wrap ((a0.length:Int) - (1:Int)))∧(a0.map fE)[(IntKind.i64.wrap ((a0.length:Int) - (1:Int))).toNat]? = some (fE (a0.getD (IntKind.i64.wrap ((a0.length:Int) - (1:Int))).toNat oZ))) from (fun hg=>jB (d:=oZ) fE (hp1 hg))),iB 10 hz1] [0,3,20] ?_
  refine tC h (fun hc h=>?_) fun hc h=>?_
  ·obtain ⟨hp2,h⟩:=aQ h
   refine tR [iW 2 (eW fE (xs:=a0)),iI 4 (jB (d:=oZ) fE hp2)] [0,3,6] ?_
   obtain ⟨z2,hz2,h⟩:=bB h
   refine tR [iN 2 hz2] [0,3,6,7] ?_
   refine aT ?_
   obtain ⟨z3,hz3,h⟩:=bB h
   refine tR [iB 14 hz3] [0,3,6,7,45] ?_
   refine tC h (fun hc h=>?_) fun hc h=>?_
   ·refine tR [] [4,5] ?_
    cases h
    have h:=aP hk1
    cases h
    refine aR (tq [4,5])
   ·refine aM (tS ?_)
    refine aT ?_
    refine tR [] [0,3,6,7,48] ?_
    refine tC h (fun hc h=>?_) fun hc h=>?_
    ·refine tR [] [4,5] ?_
     cases h
     have h:=aP hk1
     cases h
     refine aR (tq [4,5])
    ·refine aM (tS ?_)
     refine aT ?_
     obtain ⟨z4,hz4,h⟩:=bB h
     refine tR [iW 2 (show (True)∧AV.d (.sl 5 ((((a0.getD (IntKind.i64.wrap ((a0.length:Int) - (1:Int))).toNat oZ).f0).f4).map bK))=.d (.sl 5 (z4.map bK)) from ⟨trivial,(by subst hz4; rfl)⟩),iW 3 (eW bK (xs:=z4))] [0,3,6,7,53] ?_
     refine tC h (fun hc h=>?_) fun hc h=>?_
     ·refine tR [] [4,5] ?_
      cases h
      have h:=aP hk1
      cases h
      refine aR (tq [4,5])
     ·refine aM (tS ?_)
      refine aT ?_
      refine tR [] [0,3,6,7,60] ?_
      refine tC h (fun hc h=>?_) fun hc h=>?_
      ·refine tR [] [4,5] ?_
       cases h
       have h:=aP hk1
       cases h
       refine aR (tq [4,5])
      ·refine aM (tS ?_)
       refine aT ?_
       obtain ⟨z5,hz5,h⟩:=bB h
       obtain ⟨y1,hy1,h⟩:=aK h
       refine tR [iW 5 (show (True)∧AV.d (.sl 1 ((((a0.getD (IntKind.i64.wrap ((a0.length:Int) - (1:Int))).toNat oZ).f0).f3).map cS))=.d (.sl 1 (z5.map cS)) from ⟨trivial,(by subst hz5; rfl)⟩),iD 8 [] (fun hg=>aJ8 (fJ hg hy1))] [0,3,7,70] ?_
       refine tC h (fun hc h=>?_) fun hc h=>?_
       ·refine tR [] [4,5] ?_
        cases h
        have h:=aP hk1
        cases h
        refine aR (tq [4,5])
       ·refine aM (tS ?_)
        refine tR [] [0,3,72] ?_
        refine tC h (fun hc h=>?_) fun hc h=>?_
        ·refine tR [] [4,5] ?_
         cases h
         have h:=aP hk1
         cases h
         refine aR (tq [4,5])
        ·cases h
         refine aM (tG [.keep [0,3]])
  ·cases h
   refine aM (tG [.keep [0,3]])
 ·refine aT ?_
  refine bJ ?_
  refine tR [] [0,3,73] ?_
  refine tC h (fun hc h=>?_) fun hc h=>?_
  ·refine tR [] [4,5] ?_
   cases h
   refine aR (tq [4,5])
  ·refine tR [] [0,77] ?_
   refine tC h (fun hc h=>?_) fun hc h=>?_
   ·refine tR [] [4,5] ?_
    cases h
    refine aR (tq [4,5])
   ·refine tR [iW 1 (eW fE (xs:=a0))] [86] ?_
    refine tC h (fun hc h=>?_) fun hc h=>?_
    ·refine tR [] [4,5] ?_
     cases h
     refine aR (tq [4,5])
    ·refine aM (tS ?_)
     refine tR [] [4,5] ?_
     cases h
     refine aR (tq [4,5])
theorem xC {F:Nat} {a0:Int} {r:(List UInt8)} (h:nG F a0=some r):aS Tryz.prog 55 [.d (.v (.int .i64 a0))] [] (.d (.str r)) []:=by
 rw [nG] at h
 refine aS.intro (N:=31) Tryz.func55 rfl rfl rfl rfl rfl fun e=>?_
 refine tR [] [0] ?_
 refine aT ?_
 refine tR [] [0,7] ?_
 refine tC h (fun hc h=>?_) fun hc h=>?_
 ·refine tR [] [2] ?_
  cases h
  refine aR (tq [2])
 ·refine aM (tS ?_)
  refine tR [] [0,3,4] ?_
  refine jc h [3,4] (fun p=>[(3,.d (.str p))]) (fun s h=>?_) (fun v4 h=>?_)
  ·refine bJ ?_
   refine tL2 (jK F) [.keep [0,3,4]] [0,3,4] (fun v1 v2=>[(0,dI v1),(3,.d (.str v2))]) F a0 [] h fun n v1 v2 h=>?_
   rw [jK] at h
   refine aT ?_
   refine tR [] [0,3,4,11] ?_
   refine tC h (fun hc h=>?_) fun hc h=>?_
   ·refine aM (tS ?_)
    refine bJ ?_
    refine tR [iP 1 (show (10:Int)≠0 by decide)] [0,3,4,5] ?_
    refine jc h [0,3,4,5] (fun p=>[(5,dI p)]) (fun s h=>?_) (fun v3 h=>?_)
    ·refine tR [] [0,3,4,5,15] ?_
     refine tC h (fun hc h=>?_) fun hc h=>?_
     ·cases h
      refine tRe [] [0,3,4,5] (tJ [.keep [0,3,4,5]])
     ·cases h
      refine aM (tJ [.keep [0,3,4,5]])
    ·obtain ⟨hp1,h⟩:=aQ h
     obtain ⟨hp2,h⟩:=aQ h
     refine tR [iX 3 { es:=some (([(UInt8.ofNat (IntKind.u8.wrap (IntKind.i64.wrap ((48:Int)+v3))).toNat)]).map cU) } (show [[Dat.v (.int .u8 (IntKind.u8.wrap (IntKind.i64.wrap ((48:Int)+v3))))]]=(([(UInt8.ofNat (IntKind.u8.wrap (IntKind.i64.wrap ((48:Int)+v3))).toNat)]).map cU) from gB hp1 (rfl:([]:List (List Dat))=([]:List UInt8).map cU)),iX 4 { cs:=[.str ([(UInt8.ofNat (IntKind.u8.wrap (IntKind.i64.wrap ((48:Int)+v3))).toNat)])] } (show (([(UInt8.ofNat (IntKind.u8.wrap (IntKind.i64.wrap ((48:Int)+v3))).toNat)]).map cU)=byteCells ([(UInt8.ofNat (IntKind.u8.wrap (IntKind.i64.wrap ((48:Int)+v3))).toNat)]) from rfl),iP 6 hp2] [0,3,4] ?_
     refine tRe [iP 1 (show (10:Int)≠0 by decide)] [0,3,4] (tE [.keep [0,3,4]] (IntKind.i64.wrap (v1.tdiv (10:Int)),(([(UInt8.ofNat (IntKind.u8.wrap (IntKind.i64.wrap ((48:Int)+v3))).toNat)])++v2)) h)
   ·cases h
    refine fD (tJ [.keep [3,4]])
  ·refine aT ?_
   refine tR [] [3,27] ?_
   refine tC h (fun hc h=>?_) fun hc h=>?_
   ·obtain ⟨hp3,h⟩:=aQ h
    refine tR [iP 1 hp3] [2] ?_
    cases h
    refine aR (tq [2])
   ·refine aM (tS ?_)
    refine tR [] [2] ?_
    cases h
    refine aR (tq [2])
end Go.Vm.ObjM
