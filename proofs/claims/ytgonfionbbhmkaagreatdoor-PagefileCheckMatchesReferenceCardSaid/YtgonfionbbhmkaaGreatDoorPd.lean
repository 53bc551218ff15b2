/-
  Texts.
-/
import Derived.Test.YtgonfionbbhmkaaGreatDoorPc
import Derived.Test.YtgonfionbbhmkaaGreatDoorVmE
set_option maxRecDepth 20000
namespace Go.Vm.PgfG
open Go.Proofs
theorem wM {F : Nat} {x : fA} {a1 : List UInt8} {r : (List UInt8)} (h : jZ F x a1 = some r) : bS0 Tryz.prog "printworks/filter.encode" [.d (.v (lZ x)),.d (.str a1)] [] (.d (.str r)) [] := by
 cases x with
 | nil=>exact absurd h (by simp [jZ])
 | k_runs x=>exact ⟨193,_,_,256,rfl,(fun _ h=>by cases h),by kernel_rfl,aB1 (a0:=x) h⟩
 | k_rows x=>exact ⟨195,_,_,268,rfl,(List.forall_mem_cons.2 ⟨rfl,fun _ h=>by cases h⟩),by kernel_rfl,aA7 (a0:=x) h⟩
 | k_copies x=>exact absurd h (by simp [jZ])
 | k_text x=>exact ⟨197,_,_,275,rfl,(fun _ h=>by cases h),by kernel_rfl,aA6 (a0:=x) h⟩
theorem yD {F:Nat} {a0:List UInt8} {r:(List UInt8)} (h:tQ F a0=some r):aG Tryz.prog 111 [.d (.str a0)] [] (.d (.str r)) []:=by
 rw [tQ] at h
 refine aG.intro (N:=5) Tryz.func111 rfl rfl rfl rfl rfl fun e=>?_
 refine tR [] [0] ?_
 obtain ⟨hp1,h⟩:=aL h
 refine tR [iC 1 [] (cT6 hp1)] [2] ?_
 cases h
 refine aP (tq [2])
theorem aP6 {F:Nat} {a0:List dA} {a1:List UInt8} {r:(List UInt8)×Int} (h:xN F a0 a1=some r):aG Tryz.prog 118 [.d (.sl 2 (a0.map eB)),.d (.str a1)] [] (.tup [.d (.str r.1),.d (.v (.int .i64 r.2))]) []:=by
 rw [xN] at h
 refine aG.intro (N:=30) Tryz.func118 rfl rfl rfl rfl rfl fun e=>?_
 refine tR [] [0,1] ?_
 refine aK ?_
 obtain ⟨y3,hy1,h⟩:=aH h
 refine tR [iC 1 [] (zX hy1)] [0,1,6] ?_
 refine tR [] [0,1,6,12] ?_
 refine tC h (fun hc h=>?_) fun hc h=>?_
 ·refine tR [] [4,5] ?_
  cases h
  refine aP (tq [4,5])
 ·refine aO (tS ?_)
  refine aK ?_
  refine tR [] [0,1,16] ?_
  refine tC h (fun hc h=>?_) fun hc h=>?_
  ·refine tR [] [4,5] ?_
   cases h
   refine aP (tq [4,5])
  ·refine aO (tS ?_)
   refine aK ?_
   refine tR [iW 1 (cO eB (xs:=a0))] [1,17,18,19] ?_
   refine jct h [1] (fun p=>[(1,.d (.str p))]) (fun s h=>?_) (fun v3 h=>?_)
   ·refine aU ?_
    refine tL2 (oL F a0) [.keep [1,17,18,19]] [1,17,18,19] (fun v1 v2=>[(1,.d (.str v1)),(19,dI v2)]) F a1 (0:Int) h fun n v1 v2 h=>?_
    rw [oL] at h
    refine tR [] [1,17,18,19,20] ?_
    refine aK ?_
    refine tC h (fun hc h=>?_) fun hc h=>?_
    ·refine aO (tS ?_)
     refine aK ?_
     refine aU ?_
     obtain ⟨hp1,h⟩:=aL h
     refine tR [iI 0 (bX (d:=yY) eB hp1)] [1,8,17,18,19] ?_
     obtain ⟨y1,hy2,h⟩:=aH h
     obtain ⟨y2,hy3,h⟩:=aH h
     refine tRe [iC 1 [] (wK hy2),iX 3 { res := .d (.str y2) } (show bS0 Tryz.prog "printworks/filter.encode" [.d (.v (lZ y1)),.d (.str v1)] [] (.d (.str y2)) [] from wM hy3)] [1,17,18,19] (tS ?_)
     refine tRe [] [1,17,18,19] (tE [.keep [1,17,18,19]] (y2,IntKind.i64.wrap (v2+(1:Int))) h)
    ·cases h
     refine cZ (tJ [.keep [1]])
   ·refine tS ?_
    obtain ⟨y4,hy4,h⟩:=aH h
    refine tR [iC 1 [] (yD hy4)] [4,5] ?_
    cases h
    refine aP (tq [4,5])
theorem nA {F:Nat} {a0:List UInt8} {a1:List Int} {r:(List UInt8)} (h:mB F a0 a1=some r):aG Tryz.prog 78 [.d (.str a0),.d (.sl 1 (a1.map (cI .i64)))] [.glo 6 (aA.flatMap (cI .u64))] (.d (.str r)) [.glo 6 (aA.flatMap (cI .u64))]:=by
 rw [mB] at h
 refine aG.intro (N:=20) Tryz.func78 rfl rfl rfl rfl rfl fun e=>?_
 refine tR [] [0,1,1000000] ?_
 refine aK ?_
 refine tR [iW 1 (show True∧dI ((a1.map (cI .i64)).length:Int)=dI (a1.length:Int) from cO (cI .i64))] [0,7,8,9,1000000] ?_
 refine jct h [0,1000000] (fun p=>[(0,.d (.str p))]) (fun s h=>?_) (fun v3 h=>?_)
 ·refine aU ?_
  refine tL2 (nH F a1) [.keep [0,7,8,9,1000000]] [0,7,8,9,1000000] (fun v1 v2=>[(0,.d (.str v1)),(9,dI v2)]) F a0 (0:Int) h fun n v1 v2 h=>?_
  rw [nH] at h
  refine tR [] [0,7,8,9,10,1000000] ?_
  refine aK ?_
  refine tC h (fun hc h=>?_) fun hc h=>?_
  ·refine aO (tS ?_)
   refine aK ?_
   refine aU ?_
   obtain ⟨hp1,h⟩:=aL h
   refine tR [iI 0 (bX (d:=0) (cI .i64) hp1)] [0,6,7,8,9,1000000] ?_
   obtain ⟨hp2,h⟩:=aL h
   obtain ⟨hp3,h⟩:=aL h
   obtain ⟨hp4,h⟩:=aL h
   refine tRe [iC 2 [1000000] (bM7 hp2),iP 3 hp3,iP 4 hp4] [0,7,8,9,1000000] (tS ?_)
   refine tRe [] [0,7,8,9,1000000] (tE [.keep [0,7,8,9,1000000]] ((v1++(([32]:List UInt8)++(Lib.itoa (a1.getD v2.toNat 0)))),IntKind.i64.wrap (v2+(1:Int))) h)
  ·cases h
   refine cZ (tJ [.keep [0,1000000]])
 ·refine tS ?_
  refine tR [] [4,1000000] ?_
  cases h
  refine aP (tq [4,1000000])
theorem aH7 {F:Nat} {a0:List UInt8} {r:Int} (h:zF F a0=some r):aG Tryz.prog 81 [.d (.str a0)] [.glo 0 (aQ.flatMap (cI .u32))] (.d (.v (.int .u32 r))) [.glo 0 (aQ.flatMap (cI .u32))]:=by
 rw [zF] at h
 refine aG.intro (N:=33) Tryz.func81 rfl rfl rfl rfl rfl fun e=>?_
 refine tR [] [0,1000000] ?_
 refine tR [] [0,3,1000000] ?_
 refine aK ?_
 refine tR [] [0,3,6,7,1000000] ?_
 refine jct h [3,1000000] (fun p=>[(3,.d (.v (.int .u32 p)))]) (fun s h=>?_) (fun v3 h=>?_)
 ·refine aU ?_
  refine tL2 (tI F a0) [.keep [0,3,6,7,1000000]] [0,3,6,7,1000000] (fun v1 v2=>[(3,.d (.v (.int .u32 v1))),(7,dI v2)]) F (4294967295:Int) (0:Int) h fun n v1 v2 h=>?_
  rw [tI] at h
  refine tR [] [0,3,6,7,8,1000000] ?_
  refine aK ?_
  refine tC h (fun hc h=>?_) fun hc h=>?_
  ·refine aO (tS ?_)
   refine aK ?_
   refine aU ?_
   refine tR [] [0,3,4,6,7,1000000] ?_
   obtain ⟨hp1,h⟩:=aL h
   obtain ⟨z1,hz1,h⟩:=aW h
   refine tR [iP 3 hp1,iZ 5 (aI .u32) hz1] [0,3,6,7,1000000] ?_
   obtain ⟨z2,hz2,h⟩:=aW h
   obtain ⟨hp2,h⟩:=aL h
   obtain ⟨z3,hz3,h⟩:=aW h
   refine tR [iP 1 (show 0≤(4:Int) by decide),iZ 3 (aI .u32) hz2,iW 4 (show (0≤z2∧z2 < 16)∧AV.d (.pt ((aQ.flatMap (cI .u32)).drop (z2.toNat * 1)))=AV.d (.pt (((cI .u32) (aQ.getD z2.toNat 0))++((aQ.flatMap (cI .u32)).drop (z2.toNat * 1+1)))) from ⟨hp2,cO2 (cI .u32) 1 16 (by decide) (fun _=>rfl) hp2⟩),iZ 6 (aI .u32) hz3] [0,3,6,7,1000000] ?_
   obtain ⟨z4,hz4,h⟩:=aW h
   obtain ⟨hp3,h⟩:=aL h
   obtain ⟨z5,hz5,h⟩:=aW h
   refine tRe [iP 1 (show 0≤(4:Int) by decide),iZ 3 (aI .u32) hz4,iW 4 (show (0≤z4∧z4 < 16)∧AV.d (.pt ((aQ.flatMap (cI .u32)).drop (z4.toNat * 1)))=AV.d (.pt (((cI .u32) (aQ.getD z4.toNat 0))++((aQ.flatMap (cI .u32)).drop (z4.toNat * 1+1)))) from ⟨hp3,cO2 (cI .u32) 1 16 (by decide) (fun _=>rfl) hp3⟩),iZ 6 (aI .u32) hz5] [0,3,6,7,1000000] (tS ?_)
   refine tRe [] [0,3,6,7,1000000] (tE [.keep [0,3,6,7,1000000]] (z5,IntKind.i64.wrap (v2+(1:Int))) h)
  ·cases h
   refine cZ (tJ [.keep [3,1000000]])
 ·refine tS ?_
  obtain ⟨z6,hz6,h⟩:=aW h
  refine tR [iZ 1 (aI .u32) hz6] [2,1000000] ?_
  cases h
  refine aP (tq [2,1000000])
theorem aI9 {F:Nat} {a0:Int} {r:(List UInt8)} (h:yS F a0=some r):aG Tryz.prog 80 [.d (.v (.int .u32 a0))] [] (.d (.str r)) []:=by
 rw [yS] at h
 refine aG.intro (N:=20) Tryz.func80 rfl rfl rfl rfl rfl fun e=>?_
 refine tR [] [0] ?_
 refine tR [iX 0 { es:=some ((List.replicate 8 0).map cU) } (show aF3 Tryz.prog 171 8 5∧List.replicate 8 (cU 0)=((List.replicate 8 0).map cU) from ⟨(by show _=_; kernel_rfl),zO cU rfl⟩)] [0,3] ?_
 refine aK ?_
 refine tR [] [0,3,5] ?_
 refine jct h [3] (fun p=>[(3,.arr 171 1 (p.map cU))]) (fun s h=>?_) (fun v3 h=>?_)
 ·refine aU ?_
  refine tL2 (tF F a0) [.keep [0,3,5]] [0,3,5] (fun v1 v2=>[(3,.arr 171 1 (v1.map cU)),(5,dI v2)]) F (List.replicate 8 0) (0:Int) h fun n v1 v2 h=>?_
  rw [tF] at h
  refine tR [] [0,3,5,6] ?_
  refine aK ?_
  refine tC h (fun hc h=>?_) fun hc h=>?_
  ·refine aO (tS ?_)
   refine aK ?_
   refine aU ?_
   refine tR [] [0,3,4,5] ?_
   obtain ⟨hp1,h⟩:=aL h
   obtain ⟨z1,hz1,h⟩:=aW h
   obtain ⟨z2,hz2,h⟩:=aW h
   obtain ⟨hp2,h⟩:=aL h
   obtain ⟨z3,hz3,h⟩:=aW h
   obtain ⟨hp3,h⟩:=aL h
   obtain ⟨hp4,h⟩:=aL h
   refine tRe [iW 5 (show (0≤(IntKind.i64.wrap ((28:Int) - (IntKind.i64.wrap ((4:Int) * v2)))))∧AV.d (.v (.int .u32 (a0.fdiv (2 ^ (min (IntKind.i64.wrap ((28:Int) - (IntKind.i64.wrap ((4:Int) * v2)))).toNat IntKind.u32.bits)))))=.d (.v (.int .u32 z1)) from ⟨hp1,(by subst hz1; rfl)⟩),iZ 6 (aI .u32) hz2,iW 7 (show (0≤z2∧z2 < ([48,49,50,51,52,53,54,55,56,57,97,98,99,100,101,102]:List UInt8).length)∧AV.d (.v (.int .u8 ((([48,49,50,51,52,53,54,55,56,57,97,98,99,100,101,102]:List UInt8).getD z2.toNat 0).toNat:Int)))=.d (.v (.int .u8 z3)) from ⟨hp2,(by subst hz3; rfl)⟩),iP 8 (show 0≤v2∧v2 < 8 from (hp3).1),iX 9 { cs:=cU (v1.getD v2.toNat 0),es:=some ((v1.set v2.toNat (UInt8.ofNat z3.toNat)).map cU) } (show (v1.map cU)[v2.toNat]? = some (cU (v1.getD v2.toNat 0))∧(v1.map cU).set v2.toNat ([Dat.v (.int .u8 z3)])=((v1.set v2.toNat (UInt8.ofNat z3.toNat)).map cU) from ⟨(bX (d:=0) cU ⟨(hp3).1.1,(hp3).2⟩).2,oU cU (aC6 hp4)⟩)] [0,3,5] (tS ?_)
   refine tRe [] [0,3,5] (tE [.keep [0,3,5]] ((v1.set v2.toNat (UInt8.ofNat z3.toNat)),IntKind.i64.wrap (v2+(1:Int))) h)
  ·cases h
   refine cZ (tJ [.keep [3]])
 ·refine tS ?_
  obtain ⟨hp5,h⟩:=aL h
  refine tR [iX 0 { frz:=[(3,0)],es:=some (((v3.drop (0:Int).toNat).take (((8:Nat):Int).toNat - (0:Int).toNat)).map cU) } (show (0≤(0:Int)∧(0:Int)≤((8:Nat):Int)∧((8:Nat):Int)≤((8:Nat):Int))∧(((v3.map cU).flatten.drop ((0:Int).toNat * 1)).take ((((8:Nat):Int).toNat - (0:Int).toNat) * 1)=(((v3.drop (0:Int).toNat).take (((8:Nat):Int).toNat - (0:Int).toNat)).map cU).flatten∧(((v3.drop (0:Int).toNat).take (((8:Nat):Int).toNat - (0:Int).toNat)).map cU).length=((8:Nat):Int).toNat - (0:Int).toNat∧∀ e∈(((v3.drop (0:Int).toNat).take (((8:Nat):Int).toNat - (0:Int).toNat)).map cU),e.length=1) from bF2 cU 1 (fun _=>rfl) hp5),iX 1 { cs:=[.str ((v3.drop (0:Int).toNat).take (((8:Nat):Int).toNat - (0:Int).toNat))] } (show (((v3.drop (0:Int).toNat).take (((8:Nat):Int).toNat - (0:Int).toNat)).map cU)=byteCells ((v3.drop (0:Int).toNat).take (((8:Nat):Int).toNat - (0:Int).toNat)) from rfl)] [2] ?_
  cases h
  refine aP (tq [2])
theorem wN {F:Nat} {c0:List UInt8} {c1:Int} {c2:Int} {c3:Int} {c4:List aJ} {r:Int×(List UInt8)×Int×Int×Int×(List aJ)} (h:dX F c0 c1 c2 c3 c4=some r):aG Tryz.prog 77 [.bp 1000000 0] [.box [.slf 0 96,.own 5 1 (c0.map cU),.d (.v (.int .i64 c1)),.d (.v (.int .i64 c2)),.d (.v (.int .i64 c3)),.d (.sl 7 (c4.map aF))]] (.d (.v (.int .i64 r.1))) [.box [.slf 0 96,.own 5 1 (r.2.1.map cU),.d (.v (.int .i64 r.2.2.1)),.d (.v (.int .i64 r.2.2.2.1)),.d (.v (.int .i64 r.2.2.2.2.1)),.d (.sl 7 (r.2.2.2.2.2.map aF))]]:=by
 rw [dX] at h
 refine aG.intro (N:=8) Tryz.func77 rfl rfl rfl rfl rfl fun e=>?_
 refine tR [] [0,1000000] ?_
 refine tR [iW 4 (cO cU (xs:=c0))] [2,1000000] ?_
 cases h
 refine aP (tq [2,1000000])
theorem wO {F:Nat} {c0:List UInt8} {c1:Int} {c2:Int} {c3:Int} {c4:List aJ} {r:Int×(List UInt8)×Int×Int×Int×(List aJ)} (h:dX F c0 c1 c2 c3 c4=some r):r=(r.1,c0,c1,c2,c3,c4):=by
 unfold dX at h
 cases h
 rfl
theorem kK {F:Nat} {c0:List UInt8} {c1:Int} {c2:Int} {c3:Int} {c4:List aJ} {r:Int×(List UInt8)×Int×Int×Int×(List aJ)} (h:dX F c0 c1 c2 c3 c4=some r):aG Tryz.prog 77 [.bp 1000000 0] [.box [.slf 0 96,.own 5 1 (c0.map cU),.d (.v (.int .i64 c1)),.d (.v (.int .i64 c2)),.d (.v (.int .i64 c3)),.d (.sl 7 (c4.map aF))]] (.d (.v (.int .i64 r.1))) [.box [.slf 0 96,.own 5 1 (c0.map cU),.d (.v (.int .i64 c1)),.d (.v (.int .i64 c2)),.d (.v (.int .i64 c3)),.d (.sl 7 (c4.map aF))]]:=by
 have h2:=wN h
 rw [wO h] at h2
 exact h2
theorem gV {F:Nat} {a0:List UInt8} {c1:List UInt8} {c2:Int} {c3:Int} {c4:Int} {c5:List aJ} {r:Int×Unit×(List UInt8)×Int×Int×Int×(List aJ)} (h:eO F a0 c1 c2 c3 c4 c5=some r):aG Tryz.prog 49 [.bp 1000000 0,.d (.str a0)] [.box [.slf 0 96,.own 5 1 (c1.map cU),.d (.v (.int .i64 c2)),.d (.v (.int .i64 c3)),.d (.v (.int .i64 c4)),.d (.sl 7 (c5.map aF))]] (.tup [.d (.v (.int .i64 r.1)),.d (.v .nilIface)]) [.box [.slf 0 96,.own 5 1 (r.2.2.1.map cU),.d (.v (.int .i64 r.2.2.2.1)),.d (.v (.int .i64 r.2.2.2.2.1)),.d (.v (.int .i64 r.2.2.2.2.2.1)),.d (.sl 7 (r.2.2.2.2.2.2.map aF))]]:=by
 rw [eO] at h
 refine aG.intro (N:=19) Tryz.func49 rfl rfl rfl rfl rfl fun e=>?_
 refine tR [] [0,1,1000000] ?_
 refine tR [iC 1 [1000000] (show aG Tryz.prog 71 [.bp 1000000 0] [.box [.slf 0 96,oW1 c1,dI c2,dI c3,dI c4,.d (.sl 7 (c5.map aF))]] (.tup []) [.box [.slf 0 96,oW1 c1,dI c2,dI c3,dI c4,.d (.sl 7 (c5.map aF))]] from wR (E:=96) (by kernel_rfl) (by kernel_rfl) (by kernel_rfl))] [0,1,1000000] ?_
 obtain ⟨hp1,h⟩:=aL h
 refine tR [iE 6 (gB cU hp1)] [1,1000000] ?_
 refine tR [] [4,5,1000000] ?_
 cases h
 refine aP (tq [4,5,1000000])
theorem uM {F:Nat} {a0:aJ} {c1:List UInt8} {c2:Int} {c3:Int} {c4:Int} {c5:List aJ} {r:Int×(List UInt8)×Int×Int×Int×(List aJ)} (h:kY F a0 c1 c2 c3 c4 c5=some r):aG Tryz.prog 74 [.bp 1000000 0,.agg (aF a0)] [.box [.slf 0 96,.own 5 1 (c1.map cU),.d (.v (.int .i64 c2)),.d (.v (.int .i64 c3)),.d (.v (.int .i64 c4)),.d (.sl 7 (c5.map aF))],.glo 0 (aQ.flatMap (cI .u32)),.glo 6 (aA.flatMap (cI .u64))] (.d (.v (.int .i64 r.1))) [.box [.slf 0 96,.own 5 1 (r.2.1.map cU),.d (.v (.int .i64 r.2.2.1)),.d (.v (.int .i64 r.2.2.2.1)),.d (.v (.int .i64 r.2.2.2.2.1)),.d (.sl 7 (r.2.2.2.2.2.map aF))],.glo 0 (aQ.flatMap (cI .u32)),.glo 6 (aA.flatMap (cI .u64))]:=by
 rw [kY] at h
 refine aG.intro (N:=63) Tryz.func74 rfl rfl rfl rfl rfl fun e=>?_
 refine tR [] [0,3,1000000,1000001,1000002] ?_
 obtain ⟨y1,hy1,h⟩:=aH h
 refine tR [iC 3 [1000000] (kK hy1)] [0,3,5,1000000,1000001,1000002] ?_
 obtain ⟨y2,hy2,h⟩:=aH h
 refine tR [iC 2 [1000002] (uO hy2)] [0,3,5,6,1000000,1000001,1000002] ?_
 obtain ⟨y3,hy3,h⟩:=aH h
 obtain ⟨y4,hy4,h⟩:=aH h
 refine jX mixed 2 (.take 1 (.all (.alt 0 (.take 2 (.all (.alt 3 (.take 4 (.take 5 (.take 6 (.take 7 (.take 8 .done))))) .stop))) (.alt 2 (.all (.alt 0 (.all (.alt 3 (.take 4 (.take 5 (.take 6 (.take 7 (.take 8 .done))))) .stop)) .stop)) .stop)))) ([0,0,2,5,8,16,16,63,255],[0,0,2,5,8,16,16,32,64]) 502 [(0,{ res:=oW7 y3 }),(3,{ res:=.tup [.d (.str y4.1),dI y4.2] })] [0,3,5,6,8,1000000,1000001,1000002] [] [(0,.bp 1000000 0),(3,bR1 a0),(5,dI y1.1),(6,.d (.str y2.1)),(8,.d (.str y4.1)),(1000000,.box [.slf 0 96,oW1 c1,dI c2,dI c3,dI c4,.d (.sl 7 (c5.map aF))]),(1000001,.glo 0 (aQ.flatMap (cI .u32))),(1000002,.glo 6 (aA.flatMap (cI .u64)))] ((fun (o0:Prop)=>fun (o3:Prop)=>[(1,o0),(1,o3),(6,o0),(0,o3)]) (aG Tryz.prog 67 [] [] (oW7 y3) []) (aG Tryz.prog 118 [.d (.sl 2 (y3.map eB)),.d (.str a0.f2)] [] (.tup [.d (.str y4.1),dI y4.2]) [])) 5 (by kernel_rfl) (by kernel_rfl) (by kernel_rfl) (have p0:=yL hy3; have p3:=aP6 hy4; ⟨p0,p3,p0,p3⟩) ?_
 obtain ⟨hp1,h⟩:=aL h
 obtain ⟨hp2,h⟩:=aL h
 refine tR [iP 1 hp1,iP 3 hp2] [0,3,5,10,1000000,1000001,1000002] ?_
 obtain ⟨y5,hy5,h⟩:=aH h
 refine jX mixed 1 (.take 0 (.take 1 (.take 2 (.take 3 (.take 4 (.take 5 (.take 6 (.take 7 (.take 8 (.all (.alt 9 (.all (.alt 10 (.take 11 .done) .stop)) .stop))))))))))) ([0,1,0,4,8,16,0,0,128,354,512,2047],[0,1,0,4,8,16,0,0,128,354,512,1024]) 2559 [(9,{ es:=some (([a0.f0,c2,y1.1,(((y2.1++([10]:List UInt8))++y4.1).length:Int)]).map (cI .i64)) }),(10,{ frz:=[(42,0)],res:=.d (.str y5),vout:=[.glo 6 (aA.flatMap (cI .u64))],xs:=[1000002] })] [0,5,10,11,1000000,1000001,1000002] [] [(0,.bp 1000000 0),(5,dI y1.1),(10,.d (.str ((y2.1++([10]:List UInt8))++y4.1))),(11,.d (.str y5)),(1000000,.box [.slf 0 96,oW1 c1,dI c2,dI c3,dI c4,.d (.sl 7 (c5.map aF))]),(1000001,.glo 0 (aQ.flatMap (cI .u32))),(1000002,.glo 6 (aA.flatMap (cI .u64)))] ((fun (o9:Prop)=>fun (o10:Prop)=>[(9,o9),(0,o10)]) ((([a0.f0,c2,y1.1,(((y2.1++([10]:List UInt8))++y4.1).length:Int)]).map (cI .i64))=(([a0.f0,c2,y1.1,(((y2.1++([10]:List UInt8))++y4.1).length:Int)]).map (cI .i64))) (aG Tryz.prog 78 [.d (.str ([111,98,106]:List UInt8)),.d (.sl 1 (([a0.f0,c2,y1.1,(((y2.1++([10]:List UInt8))++y4.1).length:Int)]).map (cI .i64)))] [.glo 6 (aA.flatMap (cI .u64))] (.d (.str y5)) [.glo 6 (aA.flatMap (cI .u64))])) 1 (by kernel_rfl) (by kernel_rfl) (by kernel_rfl) (have p9:=rfl; have p10:=nA hy5; ⟨p9,p10⟩) ?_
 obtain ⟨hp3,h⟩:=aL h
 obtain ⟨hp4,h⟩:=aL h
 obtain ⟨hp5,h⟩:=aL h
 obtain ⟨hp6,h⟩:=aL h
 obtain ⟨y6,hy6,h⟩:=aH h
 obtain ⟨y7,hy7,h⟩:=aH h
 obtain ⟨hp7,h⟩:=aL h
 obtain ⟨hp8,h⟩:=aL h
 obtain ⟨hp9,h⟩:=aL h
 obtain ⟨z1,hz1,h⟩:=aW h
 obtain ⟨hp10,h⟩:=aL h
 obtain ⟨y8,hy8,h⟩:=aH h
 refine jX mixed 1 (.take 0 (.take 1 (.take 2 (.take 3 (.take 4 (.take 5 (.take 6 (.take 7 (.take 8 (.take 9 (.take 14 (.all (.alt 10 (.all (.alt 11 (.take 12 (.take 13 (.take 15 (.take 16 (.all (.alt 17 .done .stop)))))) .stop)) .stop))))))))))))) ([0,1,2,0,8,16,0,64,0,384,512,1024,2080,4096,0,24576,32768,67588],[0,1,2,0,8,16,0,64,0,384,512,1024,2080,4096,0,24576,32768,65540]) 127999 [(10,{ res:=.d (.v (.int .u32 y6)),vout:=[.glo 0 (aQ.flatMap (cI .u32))],xs:=[1000001] }),(11,{ res:=.d (.str y7) }),(15,{ rw:=some (.d (.str z1)) }),(17,{ res:=.tup [dI y8.1,.d (.v .nilIface)],vout:=[.box [.slf 0 96,oW1 y8.2.2.1,dI y8.2.2.2.1,dI y8.2.2.2.2.1,dI y8.2.2.2.2.2.1,.d (.sl 7 (y8.2.2.2.2.2.2.map aF))]],xs:=[1000000] })] [5,1000000,1000001,1000002] [] [(5,dI y1.1),(1000000,.box [.slf 0 96,oW1 y8.2.2.1,dI y8.2.2.2.1,dI y8.2.2.2.2.1,dI y8.2.2.2.2.2.1,.d (.sl 7 (y8.2.2.2.2.2.2.map aF))]),(1000001,.glo 0 (aQ.flatMap (cI .u32))),(1000002,.glo 6 (aA.flatMap (cI .u64)))] ((fun (o4:Prop)=>fun (o5:Prop)=>fun (o7:Prop)=>fun (o9:Prop)=>fun (o10:Prop)=>fun (o11:Prop)=>fun (o12:Prop)=>fun (o13:Prop)=>fun (o15:Prop)=>fun (o16:Prop)=>fun (o17:Prop)=>[(4,o4),(0,o5),(1,o7),(1,o9),(1,o10),(0,o11),(0,o12),(0,o13),(0,o15),(0,o16),(0,o17)]) (([126]:List UInt8).length+y5.length≤9223372036854775807) ((([126]:List UInt8)++y5).length+([32]:List UInt8).length≤9223372036854775807) (y5.length+([10]:List UInt8).length≤9223372036854775807) ((y5++([10]:List UInt8)).length+((y2.1++([10]:List UInt8))++y4.1).length≤9223372036854775807) (aG Tryz.prog 81 [.d (.str ((y5++([10]:List UInt8))++((y2.1++([10]:List UInt8))++y4.1)))] [.glo 0 (aQ.flatMap (cI .u32))] (.d (.v (.int .u32 y6))) [.glo 0 (aQ.flatMap (cI .u32))]) (aG Tryz.prog 80 [.d (.v (.int .u32 y6))] [] (.d (.str y7)) []) (((([126]:List UInt8)++y5)++([32]:List UInt8)).length+y7.length≤9223372036854775807) ((((([126]:List UInt8)++y5)++([32]:List UInt8))++y7).length+([10]:List UInt8).length≤9223372036854775807) ((((((([126]:List UInt8)++y5)++([32]:List UInt8))++y7)++([10]:List UInt8)).length+((y2.1++([10]:List UInt8))++y4.1).length≤9223372036854775807)∧AV.d (.str (((((([126]:List UInt8)++y5)++([32]:List UInt8))++y7)++([10]:List UInt8))++((y2.1++([10]:List UInt8))++y4.1)))=.d (.str z1)) (z1.length+([10]:List UInt8).length≤9223372036854775807) (aG Tryz.prog 49 [.bp 1000000 0,.d (.str (z1++([10]:List UInt8)))] [.box [.slf 0 96,oW1 c1,dI c2,dI c3,dI c4,.d (.sl 7 (c5.map aF))]] (.tup [dI y8.1,.d (.v .nilIface)]) [.box [.slf 0 96,oW1 y8.2.2.1,dI y8.2.2.2.1,dI y8.2.2.2.2.1,dI y8.2.2.2.2.2.1,.d (.sl 7 (y8.2.2.2.2.2.2.map aF))]])) 0 (by kernel_rfl) (by kernel_rfl) (by kernel_rfl) (have p4:=hp3; have p5:=hp4; have p7:=hp5; have p9:=hp6; have p10:=aH7 hy6; have p11:=aI9 hy7; have p12:=hp7; have p13:=hp8; have p15:=⟨hp9,(by subst hz1; rfl)⟩; have p16:=hp10; have p17:=gV hy8; ⟨p4,p5,p7,p9,p10,p11,p12,p13,p15,p16,p17⟩) ?_
 refine tR [] [4,1000000,1000001,1000002] ?_
 cases h
 refine aP (tq [4,1000000,1000001,1000002])
theorem vC {F:Nat} {a0:List UInt8} {a1:List UInt8} {r:(List UInt8)×(List UInt8)×Bool} (h:lT F a0 a1=some r):aG Tryz.prog 63 [.d (.str a0),.d (.str a1)] [] (.tup [.d (.str r.1),.d (.str r.2.1),.d (.v (.bool r.2.2))]) []:=by
 rw [lT] at h
 refine aG.intro (N:=23) Tryz.func63 rfl rfl rfl rfl rfl fun e=>?_
 refine tR [] [0,1] ?_
 refine aK ?_
 obtain ⟨hp1,h⟩:=aL h
 refine tR [iC 2 [] (bJ2 (l:=a0) hp1)] [0,1,7] ?_
 refine tR [] [0,1,7,12] ?_
 refine tC h (fun hc h=>?_) fun hc h=>?_
 ·obtain ⟨hp2,h⟩:=aL h
  obtain ⟨hp3,h⟩:=aL h
  obtain ⟨z1,hz1,h⟩:=aW h
  refine mO mixed [(8,{ rw:=some (.d (.str z1)) })] [4,5,6] [] [(4,.d (.str ((a0.drop (0:Int).toNat).take ((Lib.indexByte a0 (a1.getD 0 0)).toNat - (0:Int).toNat)))),(5,.d (.str z1)),(6,dB true)] [(2,0≤(0:Int)∧(0:Int)≤(Lib.indexByte a0 (a1.getD 0 0))∧(Lib.indexByte a0 (a1.getD 0 0))≤(a0.length:Int)),(5,(0≤(IntKind.i64.wrap ((Lib.indexByte a0 (a1.getD 0 0))+(a1.length:Int)))∧(IntKind.i64.wrap ((Lib.indexByte a0 (a1.getD 0 0))+(a1.length:Int)))≤(a0.length:Int)∧(a0.length:Int)≤(a0.length:Int))∧AV.d (.str ((a0.drop (IntKind.i64.wrap ((Lib.indexByte a0 (a1.getD 0 0))+(a1.length:Int))).toNat).take ((a0.length:Int).toNat - (IntKind.i64.wrap ((Lib.indexByte a0 (a1.getD 0 0))+(a1.length:Int))).toNat)))=.d (.str z1))] 3 (by kernel_rfl) (⟨hp2,⟨hp3,(by subst hz1; rfl)⟩⟩) ?_
  cases h
  refine aP (tq [4,5,6])
 ·refine aO (tS ?_)
  refine tR [] [4,5,6] ?_
  cases h
  refine aP (tq [4,5,6])
theorem aD7 {F:Nat} {a0:List UInt8} {a1:List UInt8} {r:(List UInt8)×(List UInt8)×Bool} (h:strings_Cut F a0 a1=some r):aG Tryz.prog 43 [.d (.str a0),.d (.str a1)] [] (.tup [.d (.str r.1),.d (.str r.2.1),.d (.v (.bool r.2.2))]) []:=by
 rw [strings_Cut] at h
 refine aG.intro (N:=13) Tryz.func43 rfl rfl rfl rfl rfl fun e=>?_
 refine tR [] [0,1] ?_
 obtain ⟨y1,hy1,h⟩:=aH h
 refine tR [iC 2 [] (vC hy1)] [4,5,6] ?_
 cases h
 refine aP (tq [4,5,6])
theorem gR {F:Nat} {c0:List UInt8} {c1:Int} {c2:List aJ} {r:(List UInt8)×(List UInt8)×Int×(List aJ)} (h:fO F c0 c1 c2=some r):aG Tryz.prog 28 [.bp 1000000 0] [.box [.d (.str c0),.d (.v (.int .i64 c1)),.own 49 7 (c2.map aF)]] (.d (.str r.1)) [.box [.d (.str r.2.1),.d (.v (.int .i64 r.2.2.1)),.own 49 7 (r.2.2.2.map aF)]]:=by
 rw [fO] at h
 refine aG.intro (N:=23) Tryz.func28 rfl rfl rfl rfl rfl fun e=>?_
 refine tR [] [0,1000000] ?_
 obtain ⟨y1,hy1,h⟩:=aH h
 refine tR [iC 4 [] (aD7 hy1)] [0,3,4,5,1000000] ?_
 refine aK ?_
 refine tR [] [0,3,4,16,1000000] ?_
 refine tC h (fun hc h=>?_) fun hc h=>?_
 ·cases h
 ·refine aO (tS ?_)
  refine tR [] [3,1000000] ?_
  refine tR [] [2,1000000] ?_
  cases h
  refine aP (tq [2,1000000])
theorem pA {F:Nat} {a0:List aJ} {r:(List aJ)} (h:iV F a0=some r):aG Tryz.prog 44 [.d (.sl 7 (a0.map aF))] [] (.own 49 7 (r.map aF)) []:=by
 rw [iV] at h
 refine aG.intro (N:=8) Tryz.func44 rfl rfl rfl rfl rfl fun e=>?_
 refine tR [] [0] ?_
 refine aK ?_
 refine aF7 (sz:=7) (es:=(a0.map aF)) 0 3 4 22 (by kernel_rfl) (by kernel_rfl) (by kernel_rfl) (by kernel_rfl) [0] [(0,.d (.sl 7 (a0.map aF)))] (fun _=>by kernel_rfl) (fun hnil=>?_) ?_
 ·replace hnil:=List.map_eq_nil_iff.1 hnil
  have h:(some [])=some r:=by subst hnil; exact h
  refine tR [] [2] ?_
  cases h
  refine aP (tq [2])
 ·refine aO (tS ?_)
  obtain ⟨hp1,h⟩:=aL h
  refine tR [iP 0 (show ([]:List (List Dat))=[] from rfl),iE 2 (gB aF hp1)] [2] ?_
  cases h
  refine aP (tq [2])
theorem aG9 {F:Nat} {a0:List UInt8} {a1:List UInt8} {a2:Int} {a3:Int} {r:(List (List UInt8))} (h:strings_genSplit F a0 a1 a2 a3=some r):aG Tryz.prog 64 [.d (.str a0),.d (.str a1),.d (.v (.int .i64 a2)),.d (.v (.int .i64 a3))] [] (.own 9 1 (r.map cS)) []:=by
 rw [strings_genSplit] at h
 refine aG.intro (N:=66) Tryz.func64 rfl rfl rfl rfl rfl fun e=>?_
 refine tR [] [0,1,2,3] ?_
 refine aK ?_
 refine tR [] [0,1,2,3,13] ?_
 refine tC h (fun hc h=>?_) fun hc h=>?_
 ·refine tR [] [8] ?_
  cases h
  refine aP (tq [8])
 ·refine aO (tS ?_)
  refine aK ?_
  refine tR [] [0,1,2,3,15] ?_
  refine tC h (fun hc h=>?_) fun hc h=>?_
  ·cases h
  ·refine aO (tS ?_)
   refine jc h [0,1,2,3] (fun p=>[(3,dI p)]) (fun s h=>?_) (fun v4 h=>?_)
   ·refine tR [] [0,1,2,3,20] ?_
    refine tC h (fun hc h=>?_) fun hc h=>?_
    ·obtain ⟨hp1,h⟩:=aL h
     cases h
     refine tRe [iC 2 [] (bK3 (l:=a0) hp1)] [0,1,2,3] (tJ [.keep [0,1,2,3]])
    ·cases h
     refine aO (tJ [.keep [0,1,2,3]])
   ·obtain ⟨z1,hz1,h⟩:=aW h
    refine tR [iN 4 hz1] [0,1,2,3] ?_
    obtain ⟨hp2,h⟩:=aL h
    refine tR [iX 1 { es:=some ((List.replicate z1.toNat []).map cS) } (show (0≤z1∧z1≤z1∧z1≤9223372036854775807∧((16:Nat):Int) * z1≤281474976710656)∧List.replicate z1.toNat (cS [])=((List.replicate z1.toNat []).map cS) from ⟨hp2,zO cS rfl⟩)] [0,1,2,3,9] ?_
    refine tR [] [0,1,2,3,9] ?_
    refine tR [] [0,1,2,3,9,10] ?_
    refine jc h [0,9,10] (fun p=>[(0,.d (.str p.1)),(9,oW3 p.2.1),(10,dI p.2.2)]) (fun s h=>?_) (fun s h=>?_)
    ·refine aU ?_
     refine tL3 (lW F a1 a2 z1) [.keep [0,1,2,3,9,10]] [0,1,2,3,9,10] (fun v1 v2 v3=>[(0,.d (.str v1)),(9,oW3 v2),(10,dI v3)]) F a0 (List.replicate z1.toNat []) (0:Int) h fun n v1 v2 v3 h=>?_
     rw [lW] at h
     refine aK ?_
     refine tR [] [0,1,2,3,9,10,36] ?_
     refine tC h (fun hc h=>?_) fun hc h=>?_
     ·refine aO (tS ?_)
      refine aU ?_
      obtain ⟨hp3,h⟩:=aL h
      refine tR [iC 2 [] (bH5 (l:=v1) hp3)] [0,1,2,3,9,10,11] ?_
      refine aK ?_
      refine tR [] [0,1,2,3,9,10,11,41] ?_
      refine tC h (fun hc h=>?_) fun hc h=>?_
      ·cases h
       refine cZ (tJ [.keep [0,9,10]])
      ·refine aO (tS ?_)
       obtain ⟨hp4,h⟩:=aL h
       obtain ⟨z2,hz2,h⟩:=aW h
       obtain ⟨hp5,h⟩:=aL h
       refine tR [iW 6 (show (0≤(0:Int)∧(0:Int)≤(IntKind.i64.wrap ((Lib.indexByte v1 (a1.getD 0 0))+a2))∧(IntKind.i64.wrap ((Lib.indexByte v1 (a1.getD 0 0))+a2))≤(v1.length:Int))∧AV.d (.str ((v1.drop (0:Int).toNat).take ((IntKind.i64.wrap ((Lib.indexByte v1 (a1.getD 0 0))+a2)).toNat - (0:Int).toNat)))=.d (.str z2) from ⟨hp4,(by subst hz2; rfl)⟩),iP 7 (show 0≤v3∧v3 < (v2.map cS).length from dQ cS hp5),iX 8 { cs:=cS (v2.getD v3.toNat []),es:=some ((v2.set v3.toNat z2).map cS) } (show (v2.map cS)[v3.toNat]? = some (cS (v2.getD v3.toNat []))∧(v2.map cS).set v3.toNat (cS z2)=((v2.set v3.toNat z2).map cS) from ⟨(bX (d:=[]) cS hp5).2,oU cS rfl⟩)] [0,1,2,3,9,10,11] ?_
       obtain ⟨hp6,h⟩:=aL h
       obtain ⟨z3,hz3,h⟩:=aW h
       refine tR [iW 5 (show (0≤(IntKind.i64.wrap ((Lib.indexByte v1 (a1.getD 0 0))+(a1.length:Int)))∧(IntKind.i64.wrap ((Lib.indexByte v1 (a1.getD 0 0))+(a1.length:Int)))≤(v1.length:Int)∧(v1.length:Int)≤(v1.length:Int))∧AV.d (.str ((v1.drop (IntKind.i64.wrap ((Lib.indexByte v1 (a1.getD 0 0))+(a1.length:Int))).toNat).take ((v1.length:Int).toNat - (IntKind.i64.wrap ((Lib.indexByte v1 (a1.getD 0 0))+(a1.length:Int))).toNat)))=.d (.str z3) from ⟨hp6,(by subst hz3; rfl)⟩)] [0,1,2,3,9,10] ?_
       refine tRe [] [0,1,2,3,9,10] (tE [.keep [0,1,2,3,9,10]] (z3,(v2.set v3.toNat z2),IntKind.i64.wrap (v3+(1:Int))) h)
     ·cases h
      refine cZ (tJ [.keep [0,9,10]])
    ·obtain ⟨v5,v6,v7⟩:=s
     try dsimp only at h
     obtain ⟨hp7,h⟩:=aL h
     refine tR [iP 3 (show 0≤v7∧v7 < (v6.map cS).length from dQ cS hp7),iX 4 { cs:=cS (v6.getD v7.toNat []),es:=some ((v6.set v7.toNat v5).map cS) } (show (v6.map cS)[v7.toNat]? = some (cS (v6.getD v7.toNat []))∧(v6.map cS).set v7.toNat (cS v5)=((v6.set v7.toNat v5).map cS) from ⟨(bX (d:=[]) cS hp7).2,oU cS rfl⟩)] [9,10] ?_
     obtain ⟨hp8,h⟩:=aL h
     refine tR [iX 3 { take:=[0],es:=some (((v6.set v7.toNat v5).take (IntKind.i64.wrap (v7+(1:Int))).toNat).map cS) } (show (0≤(IntKind.i64.wrap (v7+(1:Int)))∧(IntKind.i64.wrap (v7+(1:Int)))≤(((v6.set v7.toNat v5).map cS).length:Int))∧((v6.set v7.toNat v5).map cS).take (IntKind.i64.wrap (v7+(1:Int))).toNat=(((v6.set v7.toNat v5).take (IntKind.i64.wrap (v7+(1:Int))).toNat).map cS) from cA3 cS hp8)] [8] ?_
     cases h
     refine aP (tq [8])
theorem aQ6 {F:Nat} {a0:List UInt8} {a1:List UInt8} {r:(List (List UInt8))} (h:strings_Split F a0 a1=some r):aG Tryz.prog 45 [.d (.str a0),.d (.str a1)] [] (.own 9 1 (r.map cS)) []:=by
 rw [strings_Split] at h
 refine aG.intro (N:=8) Tryz.func45 rfl rfl rfl rfl rfl fun e=>?_
 refine tR [] [0,1] ?_
 obtain ⟨y1,hy1,h⟩:=aH h
 refine tR [iC 2 [] (aG9 hy1)] [4] ?_
 cases h
 refine aP (tq [4])
theorem mQ {F:Nat} {a0:List UInt8} {r:Int} (h:lG F a0=some r):aG Tryz.prog 47 [.d (.str a0)] [] (.d (.v (.int .i64 r))) []:=by
 rw [lG] at h
 refine aG.intro (N:=14) Tryz.func47 rfl rfl rfl rfl rfl fun e=>?_
 refine tR [] [0] ?_
 obtain ⟨hp1,h⟩:=aL h
 obtain ⟨y1,hy1,h⟩:=aH h
 refine tR [iC 1 [] (bM1 hp1 hy1)] [3,4] ?_
 refine aK ?_
 refine tR [] [3,11] ?_
 refine tC h (fun hc h=>?_) fun hc h=>?_
 ·cases h
 ·refine aO (tS ?_)
  refine tR [] [2] ?_
  cases h
  refine aP (tq [2])
theorem aE1 {F:Nat} {c0:List UInt8} {c1:Int} {r:(List UInt8)×Int} (h:rJ F c0 c1=some r):aG Tryz.prog 203 [.bp 1000000 0] [.box [.d (.str c0),.d (.v (.int .i64 c1))]] (.tup []) [.box [.d (.str r.1),.d (.v (.int .i64 r.2))]]:=by
 rw [rJ] at h
 refine aG.intro (N:=41) Tryz.func203 rfl rfl rfl rfl rfl fun e=>?_
 refine tR [] [0,2,1000000] ?_
 refine jEt h [1000000] (fun p=>[(1000000,.box [.d (.str c0),dI p])]) (fun s h hk1=>?_) (fun v4 h=>?_)
 ·refine aU ?_
  refine tL2 (lQ F c0) [.keep [0,2,1000000]] [0,2,1000000] (fun v1 v2=>[(2,dB v1),(1000000,.box [.d (.str c0),dI v2])]) F false c1 h fun n v1 v2 h=>?_
  rw [lQ] at h
  refine aK ?_
  refine mO mixed [] [0,2,13,1000000] [] [(0,.bp 1000000 0),(2,dB v1),(13,dB (decide (v2 < (c0.length:Int)))),(1000000,.box [.d (.str c0),dI v2])] [] 10 (by kernel_rfl) (trivial) ?_
  refine tC h (fun hc h=>?_) fun hc h=>?_
  ·refine aO (tS ?_)
   refine jE h [0,2,1000000] (fun p=>[(0,.bp 1000000 0),(2,dB p),(1000000,.box [.d (.str c0),dI v2])]) (fun s h hk2=>?_) (fun v3 h=>?_)
   ·refine aU ?_
    obtain ⟨hp1,h⟩:=aL h
    refine mO mixed [] [0,2,3,1000000] [] [(0,.bp 1000000 0),(2,dB v1),(3,.d (.v (.int .u8 ((c0.getD v2.toNat 0).toNat:Int)))),(1000000,.box [.d (.str c0),dI v2])] [(8,0≤v2∧v2 < c0.length)] 1 (by kernel_rfl) (hp1) ?_
    refine aU ?_
    refine tR [] [0,2,3,30,1000000] ?_
    refine tC h (fun hc h=>?_) fun hc h=>?_
    ·cases h
     refine tRe [] [0,2,1000000] (tG [.keep [0,2,1000000]])
    ·refine tR [] [0,2,3,34,1000000] ?_
     refine tC h (fun hc h=>?_) fun hc h=>?_
     ·cases h
      refine tRe [] [0,2,1000000] (tG [.keep [0,2,1000000]])
     ·obtain ⟨y1,hy1,h⟩:=aH h
      refine tR [iC 1 [] (wG hy1)] [0,2,37,1000000] ?_
      refine tC h (fun hc h=>?_) fun hc h=>?_
      ·cases h
       have h:=bE hk2
       cases h
       have h:=bE hk1
       cases h
       refine aP (tq [1000000])
      ·cases h
       refine aO (tG [.keep [0,2,1000000]])
   ·refine tRe [] [0,2,1000000] (tE [.keep [0,2,1000000]] (v3,IntKind.i64.wrap (v2+(1:Int))) h)
  ·cases h
   refine cZ (tG [.keep [1000000]])
 ·cases h
  refine tq [1000000]
theorem lU {F:Nat} {c0:List UInt8} {c1:Int} {r:(List UInt8)×(List UInt8)×Int} (h:kF F c0 c1=some r):aG Tryz.prog 219 [.bp 1000000 0] [.box [.d (.str c0),.d (.v (.int .i64 c1))]] (.d (.str r.1)) [.box [.d (.str r.2.1),.d (.v (.int .i64 r.2.2))]]:=by
 rw [kF] at h
 refine aG.intro (N:=47) Tryz.func219 rfl rfl rfl rfl rfl fun e=>?_
 refine tR [] [0,1000000] ?_
 refine tR [] [0,3,1000000] ?_
 refine jc h [0,3,1000000] (fun p=>[(1000000,.box [.d (.str c0),dI p])]) (fun s h=>?_) (fun v2 h=>?_)
 ·refine aU ?_
  refine tL1 (lV F c0) [.keep [0,3,1000000]] [0,3,1000000] (fun v1=>[(1000000,.box [.d (.str c0),dI v1])]) F c1 h fun n v1 h=>?_
  rw [lV] at h
  refine aK ?_
  obtain ⟨hp1,h⟩:=aL h
  obtain ⟨y1,hy1,h⟩:=aH h
  refine jX mixed 1 (.take 0 (.take 1 (.take 2 (.take 3 (.take 4 (.take 5 (.take 6 (.take 7 (.take 8 (.take 9 (.take 10 (.take 11 (.take 12 (.take 13 (.take 14 (.take 15 (.take 16 (.take 17 (.take 18 (.take 19 (.all (.alt 20 (.take 21 .done) .stop)))))))))))))))))))))) ([0,1,2,4,0,16,32,64,128,264,512,1024,3072,5120,9216,1024,33792,66560,132096,279552,525312,1049600],[0,1,2,4,0,16,32,64,128,264,512,1024,3072,5120,9216,1024,33792,66560,132096,279552,525312,1049600]) 3145727 [(20,{ res:=dB y1 })] [0,3,29,1000000] [] [(0,.bp 1000000 0),(3,dI c1),(29,dB (bif (decide (v1 < (c0.length:Int))) then y1 else false)),(1000000,.box [.d (.str c0),dI v1])] ((fun (o11:Prop)=>fun (o12:Prop)=>fun (o13:Prop)=>fun (o14:Prop)=>fun (o15:Prop)=>fun (o16:Prop)=>fun (o17:Prop)=>fun (o18:Prop)=>fun (o19:Prop)=>fun (o20:Prop)=>[(11,o11),(0,o12),(0,o13),(0,o14),(0,o15),(0,o16),(0,o17),(0,o18),(0,o19),(0,o20)]) (((((decide (v1 < (c0.length:Int))) == true) && true)=true→True)) (((((decide (v1 < (c0.length:Int))) == true) && true)=true→True)) (((((decide (v1 < (c0.length:Int))) == true) && true)=true→True)) (((((decide (v1 < (c0.length:Int))) == true) && true)=true→True)) (((((decide (v1 < (c0.length:Int))) == true) && true)=true→True)) (((((decide (v1 < (c0.length:Int))) == true) && true)=true→True)) (((((decide (v1 < (c0.length:Int))) == true) && true)=true→True)) (((((decide (v1 < (c0.length:Int))) == true) && true)=true→True)) (((((decide (v1 < (c0.length:Int))) == true) && true)=true→0≤v1∧v1 < c0.length)) (((((decide (v1 < (c0.length:Int))) == true) && true)=true→aG Tryz.prog 88 [.d (.v (.int .u8 ((c0.getD v1.toNat 0).toNat:Int)))] [] (dB y1) []))) 1 (by kernel_rfl) (by kernel_rfl) (by kernel_rfl) (have p11:=tr; have p12:=tr; have p13:=tr; have p14:=tr; have p15:=tr; have p16:=tr; have p17:=tr; have p18:=tr; have p19:=(fun hg=>(hp1 hg)); have p20:=(fun hg=>oN (eG hg hy1)); ⟨p11,p12,p13,p14,p15,p16,p17,p18,p19,p20⟩) ?_
  refine tC h (fun hc h=>?_) fun hc h=>?_
  ·refine aO (tS ?_)
   refine aU ?_
   refine tRe [] [0,3,1000000] (tE [.keep [0,3,1000000]] (IntKind.i64.wrap (v1+(1:Int))) h)
  ·cases h
   refine cZ (tJ [.keep [0,3,1000000]])
 ·obtain ⟨hp2,h⟩:=aL h
  refine mO mixed [] [2,1000000] [] [(2,.d (.str ((c0.drop c1.toNat).take (v2.toNat - c1.toNat)))),(1000000,.box [.d (.str c0),dI v2])] [(9,0≤c1∧c1≤v2∧v2≤(c0.length:Int))] 1 (by kernel_rfl) (hp2) ?_
  cases h
  refine aP (tq [2,1000000])
theorem aH0 {F:Nat} {a0:Int} {r:Bool} (h:sJ F a0=some r):aG Tryz.prog 230 [.d (.v (.int .i32 a0))] [] (.d (.v (.bool r))) []:=by
 rw [sJ] at h
 refine aG.intro (N:=9) Tryz.func230 rfl rfl rfl rfl rfl fun e=>?_
 refine tR [] [0] ?_
 refine tR [] [2] ?_
 cases h
 refine aP (tq [2])
theorem aR5 {F:Nat} {a0:List UInt8} {r:Int×Int} (h:xC F a0=some r):aG Tryz.prog 218 [.d (.str a0)] [] (.tup [.d (.v (.int .i64 r.1)),.d (.v (.int .i64 r.2))]) []:=by
 rw [xC] at h
 refine aG.intro (N:=41) Tryz.func218 rfl rfl rfl rfl rfl fun e=>?_
 refine tR [] [0] ?_
 refine tR [] [0,4] ?_
 refine jc h [0,4] (fun p=>[(4,.d (.str p))]) (fun s h=>?_) (fun v1 h=>?_)
 ·obtain ⟨hp1,h⟩:=aL h
  obtain ⟨hp2,h⟩:=aL h
  obtain ⟨z1,hz1,h⟩:=aW h
  refine tR [iP 1 hp1,iF 5 {} (show ((((((a0.getD (0:Int).toNat 0).toNat:Int) == (43:Int)) == false) && true)=true→0≤(0:Int)∧(0:Int) < a0.length) from (fun hg=>(hp2 hg))),iB 7 hz1] [0,4,15] ?_
  refine tC h (fun hc h=>?_) fun hc h=>?_
  ·obtain ⟨hp3,h⟩:=aL h
   cases h
   refine tRe [iP 1 hp3] [0,4] (tJ [.keep [0,4]])
  ·cases h
   refine aO (tJ [.keep [0,4]])
 ·refine aK ?_
  obtain ⟨y1,hy1,h⟩:=aH h
  refine tR [iD 9 [] (fun hg=>aD8 230 (by kernel_rfl) (by kernel_rfl) (fun _ _ h=>aH0 h) (aO1 (fun _ _=>rfl) (eG hg hy1)))] [0,28] ?_
  refine tC h (fun hc h=>?_) fun hc h=>?_
  ·refine tR [] [2,3] ?_
   cases h
   refine aP (tq [2,3])
  ·refine aO (tS ?_)
   obtain ⟨hp4,h⟩:=aL h
   obtain ⟨y2,hy2,h⟩:=aH h
   refine tR [iC 1 [] (bM1 hp4 hy2)] [5] ?_
   refine aK ?_
   refine tR [] [5,39] ?_
   refine tC h (fun hc h=>?_) fun hc h=>?_
   ·refine tR [] [2,3] ?_
    cases h
    refine aP (tq [2,3])
   ·refine aO (tS ?_)
    refine tR [] [2,3] ?_
    cases h
    refine aP (tq [2,3])
theorem rH {F:Nat} {a0:Int} {r:Int×Bool} (h:nO F a0=some r):aG Tryz.prog 234 [.d (.v (.int .u8 a0))] [] (.tup [.d (.v (.int .u8 r.1)),.d (.v (.bool r.2))]) []:=by
 rw [nO] at h
 refine aG.intro (N:=29) Tryz.func234 rfl rfl rfl rfl rfl fun e=>?_
 refine tR [] [0] ?_
 refine aK ?_
 refine aU ?_
 obtain ⟨y1,hy1,h⟩:=aH h
 refine tR [iC 1 [] (rX hy1)] [0,4] ?_
 refine tC h (fun hc h=>?_) fun hc h=>?_
 ·refine tR [] [2,3] ?_
  cases h
  refine aP (tq [2,3])
 ·refine tR [] [0,9] ?_
  refine tC h (fun hc h=>?_) fun hc h=>?_
  ·refine tR [] [2,3] ?_
   cases h
   refine aP (tq [2,3])
  ·refine tR [] [0,19] ?_
   refine tC h (fun hc h=>?_) fun hc h=>?_
   ·refine tR [] [2,3] ?_
    cases h
    refine aP (tq [2,3])
   ·refine aO (tS ?_)
    refine tR [] [2,3] ?_
    cases h
    refine aP (tq [2,3])
theorem tV {F:Nat} {c0:List UInt8} {c1:Int} {r:Int×Bool×(List UInt8)×Int} (h:nE F c0 c1=some r):aG Tryz.prog 231 [.bp 1000000 0] [.box [.d (.str c0),.d (.v (.int .i64 c1))]] (.tup [.d (.v (.int .u8 r.1)),.d (.v (.bool r.2.1))]) [.box [.d (.str r.2.2.1),.d (.v (.int .i64 r.2.2.2))]]:=by
 rw [nE] at h
 refine aG.intro (N:=61) Tryz.func231 rfl rfl rfl rfl rfl fun e=>?_
 refine tR [] [0,1000000] ?_
 refine aK ?_
 refine mO mixed [] [0,18,1000000] [] [(0,.bp 1000000 0),(18,dB (decide ((IntKind.i64.wrap (c1+(2:Int))) > (c0.length:Int)))),(1000000,.box [.d (.str c0),dI c1])] [] 11 (by kernel_rfl) (trivial) ?_
 refine tC h (fun hc h=>?_) fun hc h=>?_
 ·refine tR [] [2,3,1000000] ?_
  cases h
  refine aP (tq [2,3,1000000])
 ·refine aO (tS ?_)
  obtain ⟨hp1,h⟩:=aL h
  obtain ⟨y1,hy1,h⟩:=aH h
  refine jX mixed 1 (.take 0 (.take 1 (.take 2 (.take 3 (.take 4 (.take 5 (.take 6 (.take 7 (.take 8 (.all (.alt 9 (.take 10 (.take 11 (.take 12 (.take 13 (.take 14 .done))))) .stop))))))))))) ([0,1,2,4,0,16,32,64,136,256,512,1024,1024,4095,16383],[0,1,2,4,0,16,32,64,136,256,512,1024,1024,2048,4096]) 32255 [(9,{ res:=.tup [.d (.v (.int .u8 y1.1)),dB y1.2] })] [0,4,5,1000000] [] [(0,.bp 1000000 0),(4,.d (.v (.int .u8 y1.1))),(5,dB y1.2),(1000000,.box [.d (.str c0),dI c1])] ((fun (o8:Prop)=>fun (o9:Prop)=>[(8,o8),(0,o9)]) (0≤c1∧c1 < c0.length) (aG Tryz.prog 234 [.d (.v (.int .u8 ((c0.getD c1.toNat 0).toNat:Int)))] [] (.tup [.d (.v (.int .u8 y1.1)),dB y1.2]) [])) 5 (by kernel_rfl) (by kernel_rfl) (by kernel_rfl) (have p8:=hp1; have p9:=rH hy1; ⟨p8,p9⟩) ?_
  obtain ⟨hp2,h⟩:=aL h
  obtain ⟨y2,hy2,h⟩:=aH h
  refine jX mixed 1 (.take 0 (.take 1 (.take 2 (.take 3 (.take 4 (.take 5 (.take 6 (.take 7 (.take 8 (.take 9 (.all (.alt 10 (.take 11 (.take 12 (.take 13 (.take 14 (.take 15 .done))))) .stop)))))))))))) ([0,1,2,4,0,16,32,64,128,264,512,1024,2048,2048,8191,32767],[0,1,2,4,0,16,32,64,128,264,512,1024,2048,2048,4096,8192]) 64511 [(10,{ res:=.tup [.d (.v (.int .u8 y2.1)),dB y2.2] })] [0,4,5,6,7,1000000] [] [(0,.bp 1000000 0),(4,.d (.v (.int .u8 y1.1))),(5,dB y1.2),(6,.d (.v (.int .u8 y2.1))),(7,dB y2.2),(1000000,.box [.d (.str c0),dI c1])] ((fun (o9:Prop)=>fun (o10:Prop)=>[(9,o9),(0,o10)]) (0≤(IntKind.i64.wrap (c1+(1:Int)))∧(IntKind.i64.wrap (c1+(1:Int))) < c0.length) (aG Tryz.prog 234 [.d (.v (.int .u8 ((c0.getD (IntKind.i64.wrap (c1+(1:Int))).toNat 0).toNat:Int)))] [] (.tup [.d (.v (.int .u8 y2.1)),dB y2.2]) [])) 5 (by kernel_rfl) (by kernel_rfl) (by kernel_rfl) (have p9:=hp2; have p10:=rH hy2; ⟨p9,p10⟩) ?_
  refine tR [] [4,5,6,7,1000000] ?_
  obtain ⟨z1,hz1,h⟩:=aW h
  refine tR [iP 1 (show 0≤(4:Int) by decide),iZ 3 (aI .u8) hz1] [2,3,1000000] ?_
  cases h
  refine aP (tq [2,3,1000000])
theorem aD3 {F:Nat} {c0:List UInt8} {c1:Int} {r:(List UInt8)×Int×(List UInt8)×Int} (h:rP F c0 c1=some r):aG Tryz.prog 220 [.bp 1000000 0] [.box [.d (.str c0),.d (.v (.int .i64 c1))]] (.tup [.d (.str r.1),.d (.v (.int .i64 r.2.1))]) [.box [.d (.str r.2.2.1),.d (.v (.int .i64 r.2.2.2))]]:=by
 rw [rP] at h
 refine aG.intro (N:=55) Tryz.func220 rfl rfl rfl rfl rfl fun e=>?_
 refine tR [] [0,1000000] ?_
 obtain ⟨y1,hy1,h⟩:=aH h
 refine tR [iC 1 [1000000] (lU hy1)] [4,1000000] ?_
 refine tR [iH 0 { slfs:=[(0,0)] }] [4,5,1000000] ?_
 refine jE h [5,1000000] (fun p=>[(5,.box [.slf 0 94,oW1 p])]) (fun s h hk1=>?_) (fun v4 h=>?_)
 ·refine aU ?_
  refine tL3 (jM F y1) [.keep [4,5,1000000]] [4,5,1000000] (fun v1 v2 v3=>[(4,.box [.d (.str v1),dI v2]),(5,.box [.slf 0 94,oW1 v3])]) F y1.1 0 [] h fun n v1 v2 v3 h=>?_
  rw [jM] at h
  refine aK ?_
  refine tR [] [4,5,17,1000000] ?_
  refine tC h (fun hc h=>?_) fun hc h=>?_
  ·refine aO (tS ?_)
   refine aU ?_
   obtain ⟨hp1,h⟩:=aL h
   refine tR [iP 4 hp1] [4,5,6,1000000] ?_
   refine tR [] [4,5,6,1000000] ?_
   refine aK ?_
   refine tR [] [4,5,6,28,1000000] ?_
   refine tC h (fun hc h=>?_) fun hc h=>?_
   ·obtain ⟨y2,hy2,h⟩:=aH h
    refine tR [iC 0 [4] (tV hy2)] [4,5,7,8,1000000] ?_
    refine aK ?_
    refine tR [] [4,5,7,38,1000000] ?_
    refine tC h (fun hc h=>?_) fun hc h=>?_
    ·refine tR [] [2,3,1000000] ?_
     cases h
     have h:=bE hk1
     cases h
     refine aP (tq [2,3,1000000])
    ·refine aO (tS ?_)
     obtain ⟨y3,hy3,h⟩:=aH h
     refine tR [iC 1 [5] (bF hy3)] [4,5,1000000] ?_
     refine cZ (tE [.keep [4,5,1000000]] (y2.2.2.1,y2.2.2.2,y3.2) h)
   ·refine aO (tS ?_)
    refine aK ?_
    obtain ⟨z1,hz1,h⟩:=aW h
    refine tR [iB 5 hz1] [4,5,6,46,1000000] ?_
    refine tC h (fun hc h=>?_) fun hc h=>?_
    ·refine tR [] [2,3,1000000] ?_
     cases h
     have h:=bE hk1
     cases h
     refine aP (tq [2,3,1000000])
    ·refine aO (tS ?_)
     obtain ⟨y4,hy4,h⟩:=aH h
     refine tRe [iC 1 [5] (bF hy4)] [4,5,1000000] (tE [.keep [4,5,1000000]] (v1,IntKind.i64.wrap (v2+(1:Int)),y4.2) h)
  ·cases h
   refine cZ (tG [.keep [5,1000000]])
 ·refine aK ?_
  obtain ⟨y5,hy5,h⟩:=aH h
  refine tR [iC 0 [5] (jO hy5)] [5,50,1000000] ?_
  refine tC h (fun hc h=>?_) fun hc h=>?_
  ·refine tR [] [2,3,1000000] ?_
   cases h
   refine aP (tq [2,3,1000000])
  ·refine aO (tS ?_)
   obtain ⟨hp2,h⟩:=aL h
   obtain ⟨y6,hy6,h⟩:=aH h
   refine tR [iC 0 [5] (show aG Tryz.prog 51 [.bp 1000000 0] [.box [.slf 0 94,oW1 v4]] (.d (.str v4)) [.box [.slf 0 94,.junk]] from nK (l:=v4) hp2 (by kernel_rfl) (by kernel_rfl)),iC 1 [] (oM hy6)] [2,3,1000000] ?_
   cases h
   refine aP (tq [2,3,1000000])
theorem aB7 {F:Nat} {a0:Int} {r:Bool} (h:pX F a0=some r):aG Tryz.prog 232 [.d (.v (.int .i32 a0))] [] (.d (.v (.bool r))) []:=by
 rw [pX] at h
 refine aG.intro (N:=9) Tryz.func232 rfl rfl rfl rfl rfl fun e=>?_
 refine tR [] [0] ?_
 refine tR [] [2] ?_
 cases h
 refine aP (tq [2])
theorem aL3 {F:Nat} {a0:List UInt8} {r:Int×Int} (h:uV F a0=some r):aG Tryz.prog 221 [.d (.str a0)] [] (.tup [.d (.v (.int .i64 r.1)),.d (.v (.int .i64 r.2))]) []:=by
 rw [uV] at h
 refine aG.intro (N:=39) Tryz.func221 rfl rfl rfl rfl rfl fun e=>?_
 refine tR [] [0] ?_
 refine aK ?_
 obtain ⟨hp1,h⟩:=aL h
 obtain ⟨z1,hz1,h⟩:=aW h
 obtain ⟨y1,hy1,h⟩:=aH h
 obtain ⟨z2,hz2,h⟩:=aW h
 refine tR [iF 9 {} (show ((((bif (a0 == []) then true else (decide ((a0.length:Int) > (3:Int)))) == false) && true)=true→0≤(0:Int)∧(0:Int) < a0.length) from (fun hg=>(hp1 hg))),iB 15 hz1,iD 19 [] (fun hg=>aD8 232 (by kernel_rfl) (by kernel_rfl) (fun _ _ h=>aB7 h) (aO1 (fun _ _=>rfl) (eG hg hy1))),iB 20 hz2] [0,26] ?_
 refine tC h (fun hc h=>?_) fun hc h=>?_
 ·refine tR [] [2,3] ?_
  cases h
  refine aP (tq [2,3])
 ·refine aO (tS ?_)
  obtain ⟨hp2,h⟩:=aL h
  obtain ⟨y2,hy2,h⟩:=aH h
  refine tR [iC 1 [] (bM1 hp2 hy2)] [4] ?_
  refine aK ?_
  refine tR [] [4,37] ?_
  refine tC h (fun hc h=>?_) fun hc h=>?_
  ·refine tR [] [2,3] ?_
   cases h
   refine aP (tq [2,3])
  ·refine aO (tS ?_)
   refine tR [] [2,3] ?_
   cases h
   refine aP (tq [2,3])
end Go.Vm.PgfG
