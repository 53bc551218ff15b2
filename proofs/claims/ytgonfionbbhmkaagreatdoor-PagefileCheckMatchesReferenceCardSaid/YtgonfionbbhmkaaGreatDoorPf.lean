/-
  Texts.
-/
import Derived.Test.YtgonfionbbhmkaaGreatDoorPe
import Derived.Test.YtgonfionbbhmkaaGreatDoorVmE
set_option maxRecDepth 20000
namespace Go.Vm.PgfG
open Go.Proofs
theorem aB4 {F:Nat} {c0:List UInt8} {c1:Int} {c2:Int} {c3:List UInt8} {c4:Int} {c5:Int} {r:aC×(List UInt8)×Int×Int×(List UInt8)×Int×Int} (h:pV F c0 c1 c2 c3 c4 c5=some r):aG Tryz.prog 147 [.bp 1000000 0] [.box [.d (.str c0),.d (.v (.int .i64 c1)),.d (.v (.int .i64 c2)),.d (.str c3),.d (.v (.int .i64 c4)),.d (.v (.int .i64 c5))]] (.agg (aZ r.1)) [.box [.d (.str r.2.1),.d (.v (.int .i64 r.2.2.1)),.d (.v (.int .i64 r.2.2.2.1)),.d (.str r.2.2.2.2.1),.d (.v (.int .i64 r.2.2.2.2.2.1)),.d (.v (.int .i64 r.2.2.2.2.2.2))]]:=by
 rw [pV] at h
 refine aG.intro (N:=45) Tryz.func147 rfl rfl rfl rfl rfl fun e=>?_
 refine tR [] [0,2,1000000] ?_
 refine tR [] [2,3,1000000] ?_
 refine aK ?_
 refine tR [] [2,3,9,1000000] ?_
 refine aU ?_
 refine tR [] [2,3,9,10,1000000] ?_
 refine tC h (fun hc h=>?_) fun hc h=>?_
 ·refine kI [(2,{ take:=[0] })] [2,1000000] [.nilc 2 3 9 1,.nilc 2 4 47 5,.keep [2,1000000]] [(2,.box [dI (2:Int),dI c2,.d (.str []),oW3 [],oW4 []]),(1000000,.box [.d (.str c0),dI c1,dI c2,.d (.str c3),dI c4,dI c5])] [] 4 (by kernel_rfl) (trivial) ?_
  cases h
  refine aP (tqc [.frz (2,4),.frz (2,5),.keep [2,1000000]])
 ·refine tR [] [2,3,9,15,1000000] ?_
  refine tC h (fun hc h=>?_) fun hc h=>?_
  ·refine kI [(2,{ take:=[0] })] [2,1000000] [.nilc 2 3 9 1,.nilc 2 4 47 5,.keep [2,1000000]] [(2,.box [dI (3:Int),dI 0,.d (.str c3),oW3 [],oW4 []]),(1000000,.box [.d (.str c0),dI c1,dI c2,.d (.str c3),dI c4,dI c5])] [] 4 (by kernel_rfl) (trivial) ?_
   cases h
   refine aP (tqc [.frz (2,4),.frz (2,5),.keep [2,1000000]])
  ·refine tR [] [2,3,9,20,1000000] ?_
   refine tC h (fun hc h=>?_) fun hc h=>?_
   ·refine kI [(2,{ take:=[0] })] [2,1000000] [.nilc 2 3 9 1,.nilc 2 4 47 5,.keep [2,1000000]] [(2,.box [dI (4:Int),dI 0,.d (.str c3),oW3 [],oW4 []]),(1000000,.box [.d (.str c0),dI c1,dI c2,.d (.str c3),dI c4,dI c5])] [] 4 (by kernel_rfl) (trivial) ?_
    cases h
    refine aP (tqc [.frz (2,4),.frz (2,5),.keep [2,1000000]])
   ·refine tR [] [2,3,25,1000000] ?_
    refine tC h (fun hc h=>?_) fun hc h=>?_
    ·refine kI [(2,{ take:=[0] })] [2,1000000] [.nilc 2 3 9 1,.nilc 2 4 47 5,.keep [2,1000000]] [(2,.box [dI (5:Int),dI c2,.d (.str []),oW3 [],oW4 []]),(1000000,.box [.d (.str c0),dI c1,dI c2,.d (.str c3),dI c4,dI c5])] [] 4 (by kernel_rfl) (trivial) ?_
     cases h
     refine aP (tqc [.frz (2,4),.frz (2,5),.keep [2,1000000]])
    ·refine aO (tS ?_)
     refine aK ?_
     refine tR [] [2,3,31,1000000] ?_
     refine aU ?_
     refine tR [] [2,3,31,32,1000000] ?_
     refine tC h (fun hc h=>?_) fun hc h=>?_
     ·refine kI [(0,{ take:=[0] })] [2,1000000] [.nilc 2 3 9 1,.nilc 2 4 47 5,.keep [2,1000000]] [(2,.box [dI 0,dI 0,.d (.str []),oW3 [],oW4 []]),(1000000,.box [.d (.str c0),dI c1,dI c2,.d (.str c3),dI c4,dI c5])] [] 2 (by kernel_rfl) (trivial) ?_
      cases h
      refine aP (tqc [.frz (2,4),.frz (2,5),.keep [2,1000000]])
     ·refine tR [] [2,3,31,35,1000000] ?_
      refine tC h (fun hc h=>?_) fun hc h=>?_
      ·refine kI [(0,{ take:=[0] })] [2,1000000] [.nilc 2 3 9 1,.nilc 2 4 47 5,.keep [2,1000000]] [(2,.box [dI (1:Int),dI (1:Int),.d (.str []),oW3 [],oW4 []]),(1000000,.box [.d (.str c0),dI c1,dI c2,.d (.str c3),dI c4,dI c5])] [] 2 (by kernel_rfl) (trivial) ?_
       cases h
       refine aP (tqc [.frz (2,4),.frz (2,5),.keep [2,1000000]])
      ·refine tR [] [2,3,38,1000000] ?_
       refine tC h (fun hc h=>?_) fun hc h=>?_
       ·refine kI [(0,{ take:=[0] })] [2,1000000] [.nilc 2 3 9 1,.nilc 2 4 47 5,.keep [2,1000000]] [(2,.box [dI (1:Int),dI 0,.d (.str []),oW3 [],oW4 []]),(1000000,.box [.d (.str c0),dI c1,dI c2,.d (.str c3),dI c4,dI c5])] [] 2 (by kernel_rfl) (trivial) ?_
        cases h
        refine aP (tqc [.frz (2,4),.frz (2,5),.keep [2,1000000]])
       ·refine aO (tS ?_)
        obtain ⟨y1,hy1,h⟩:=aH h
        refine tR [iC 2 [] (fP hy1)] [2,1000000] ?_
        refine kI [(0,{ take:=[0] })] [2,1000000] [.nilc 2 3 9 1,.nilc 2 4 47 5,.keep [2,1000000]] [(2,.box [dI 0,dI 0,.d (.str []),oW3 [],oW4 []]),(1000000,.box [.d (.str c0),dI c1,dI c2,.d (.str c3),dI c4,dI c5])] [] 2 (by kernel_rfl) (trivial) ?_
        cases h
        refine aP (tqc [.frz (2,4),.frz (2,5),.keep [2,1000000]])
theorem uL {F:Nat} {rec_object_parser_object:Int→(List UInt8)→Int→Int→(List UInt8)→Int→Int→Option (aC×(List UInt8)×Int×Int×(List UInt8)×Int×Int)} (hrec_object_parser_object:∀ {a0:Int},∀ {c1:List UInt8},∀ {c2:Int},∀ {c3:Int},∀ {c4:List UInt8},∀ {c5:Int},∀ {c6:Int},∀ {r:aC×(List UInt8)×Int×Int×(List UInt8)×Int×Int},rec_object_parser_object a0 c1 c2 c3 c4 c5 c6=some r→aG Tryz.prog 107 [.bp 1000000 0,.d (.v (.int .i64 a0))] [.box [.d (.str c1),.d (.v (.int .i64 c2)),.d (.v (.int .i64 c3)),.d (.str c4),.d (.v (.int .i64 c5)),.d (.v (.int .i64 c6))]] (.agg (aZ r.1)) [.box [.d (.str r.2.1),.d (.v (.int .i64 r.2.2.1)),.d (.v (.int .i64 r.2.2.2.1)),.d (.str r.2.2.2.2.1),.d (.v (.int .i64 r.2.2.2.2.2.1)),.d (.v (.int .i64 r.2.2.2.2.2.2))]]) {a0:Int} {c1:List UInt8} {c2:Int} {c3:Int} {c4:List UInt8} {c5:Int} {c6:Int} {r:aC×(List UInt8)×Int×Int×(List UInt8)×Int×Int} (h:kZ F rec_object_parser_object a0 c1 c2 c3 c4 c5 c6=some r):aG Tryz.prog 107 [.bp 1000000 0,.d (.v (.int .i64 a0))] [.box [.d (.str c1),.d (.v (.int .i64 c2)),.d (.v (.int .i64 c3)),.d (.str c4),.d (.v (.int .i64 c5)),.d (.v (.int .i64 c6))]] (.agg (aZ r.1)) [.box [.d (.str r.2.1),.d (.v (.int .i64 r.2.2.1)),.d (.v (.int .i64 r.2.2.2.1)),.d (.str r.2.2.2.2.1),.d (.v (.int .i64 r.2.2.2.2.2.1)),.d (.v (.int .i64 r.2.2.2.2.2.2))]]:=by
 rw [kZ] at h
 refine aG.intro (N:=51) Tryz.func107 rfl rfl rfl rfl rfl fun e=>?_
 refine tR [] [0,1,4,1000000] ?_
 refine tR [] [0,1,4,5,1000000] ?_
 refine jE h [0,4,1000000] (fun p=>[]) (fun s h hk1=>?_) (fun s h=>?_)
 ·refine aU ?_
  refine tR [] [0,1,4,5,10,1000000] ?_
  refine tC h (fun hc h=>?_) fun hc h=>?_
  ·obtain ⟨y1,hy1,h⟩:=aH h
   cases h
   refine tRe [iC 2 [] (fP hy1)] [0,4,1000000] (tG [.keep [0,4,1000000]])
  ·refine tR [] [0,1,4,5,17,1000000] ?_
   refine tC h (fun hc h=>?_) fun hc h=>?_
   ·obtain ⟨y2,hy2,h⟩:=aH h
    cases h
    refine tRe [iC 2 [] (fP hy2)] [0,4,1000000] (tG [.keep [0,4,1000000]])
   ·refine tR [] [0,1,4,5,29,1000000] ?_
    refine tC h (fun hc h=>?_) fun hc h=>?_
    ·obtain ⟨y3,hy3,h⟩:=aH h
     cases h
     refine tRe [iC 2 [] (fP hy3)] [0,4,1000000] (tG [.keep [0,4,1000000]])
    ·refine tR [] [0,1,4,5,35,1000000] ?_
     refine tC h (fun hc h=>?_) fun hc h=>?_
     ·obtain ⟨y4,hy4,h⟩:=aH h
      refine tR [iC 2 [1000000] (aB5 hrec_object_parser_object hy4)] [4,1000000] ?_
      cases h
      have h:=bE hk1
      cases h
      refine aP (tq [4,1000000])
     ·refine tR [] [0,1,4,42,1000000] ?_
      refine tC h (fun hc h=>?_) fun hc h=>?_
      ·obtain ⟨y5,hy5,h⟩:=aH h
       refine tR [iC 2 [1000000] (aB3 hrec_object_parser_object hy5)] [4,1000000] ?_
       cases h
       have h:=bE hk1
       cases h
       refine aP (tq [4,1000000])
      ·cases h
       refine aO (tG [.keep [0,4,1000000]])
 ·obtain ⟨y6,hy6,h⟩:=aH h
  refine tR [iC 1 [1000000] (aB4 hy6)] [4,1000000] ?_
  cases h
  refine aP (tq [4,1000000])
theorem uR {F:Nat} (n:Nat):∀ {a0:Int} {c1:List UInt8} {c2:Int} {c3:Int} {c4:List UInt8} {c5:Int} {c6:Int} {r:aC×(List UInt8)×Int×Int×(List UInt8)×Int×Int},kX F n a0 c1 c2 c3 c4 c5 c6=some r→aG Tryz.prog 107 [.bp 1000000 0,.d (.v (.int .i64 a0))] [.box [.d (.str c1),.d (.v (.int .i64 c2)),.d (.v (.int .i64 c3)),.d (.str c4),.d (.v (.int .i64 c5)),.d (.v (.int .i64 c6))]] (.agg (aZ r.1)) [.box [.d (.str r.2.1),.d (.v (.int .i64 r.2.2.1)),.d (.v (.int .i64 r.2.2.2.1)),.d (.str r.2.2.2.2.1),.d (.v (.int .i64 r.2.2.2.2.2.1)),.d (.v (.int .i64 r.2.2.2.2.2.2))]]:=by
 induction n with
 | zero=>intro a0 c1 c2 c3 c4 c5 c6 r h; exact absurd (show (none:Option (aC×(List UInt8)×Int×Int×(List UInt8)×Int×Int))=some r from h) (by simp)
 | succ n ih=>intro a0 c1 c2 c3 c4 c5 c6 r h; exact uL ih h
theorem yJ {F:Nat} {a0:Int} {c1:List UInt8} {c2:Int} {c3:Int} {c4:List UInt8} {c5:Int} {c6:Int} {r:aC×(List UInt8)×Int×Int×(List UInt8)×Int×Int} (h:uG F a0 c1 c2 c3 c4 c5 c6=some r):aG Tryz.prog 107 [.bp 1000000 0,.d (.v (.int .i64 a0))] [.box [.d (.str c1),.d (.v (.int .i64 c2)),.d (.v (.int .i64 c3)),.d (.str c4),.d (.v (.int .i64 c5)),.d (.v (.int .i64 c6))]] (.agg (aZ r.1)) [.box [.d (.str r.2.1),.d (.v (.int .i64 r.2.2.1)),.d (.v (.int .i64 r.2.2.2.1)),.d (.str r.2.2.2.2.1),.d (.v (.int .i64 r.2.2.2.2.2.1)),.d (.v (.int .i64 r.2.2.2.2.2.2))]]:=uR F h
theorem aA9 {F:Nat} {a0:dG} {a1:List UInt8} {r:(List UInt8)×Int} (h:pU F a0 a1=some r):aG Tryz.prog 255 [.agg (mC a0),.d (.str a1)] [] (.tup [.d (.str r.1),.d (.v (.int .i64 r.2))]) []:=by
 rw [pU] at h
 refine aG.intro (N:=67) Tryz.func255 rfl rfl rfl rfl rfl fun e=>?_
 refine tR [] [1] ?_
 refine tR [iH 0 { slfs:=[(0,0)] }] [1,6] ?_
 refine aK ?_
 refine tR [] [1,6,7] ?_
 refine jEt h [6] (fun p=>[(6,.box [.slf 0 94,oW1 p])]) (fun s h hk1=>?_) (fun v6 h=>?_)
 ·refine aU ?_
  refine tL2 (kU F a1) [.keep [1,6,7]] [1,6,7] (fun v1 v2=>[(6,.box [.slf 0 94,oW1 v1]),(7,dI v2)]) F [] (0:Int) h fun n v1 v2 h=>?_
  rw [kU] at h
  refine aK ?_
  refine tR [] [1,6,7,12] ?_
  refine tC h (fun hc h=>?_) fun hc h=>?_
  ·refine aO (tS ?_)
   refine aU ?_
   obtain ⟨hp1,h⟩:=aL h
   refine tR [iP 2 hp1] [1,6,7,8] ?_
   refine tR [] [1,6,7,8] ?_
   refine jE h [1,6,7] (fun p=>[(6,.box [.slf 0 94,oW1 p.1]),(7,dI p.2)]) (fun s h hk2=>?_) (fun s h=>?_)
   ·refine aU ?_
    refine tR [] [1,6,7,8,30] ?_
    refine tC h (fun hc h=>?_) fun hc h=>?_
    ·refine tR [] [4,5] ?_
     cases h
     have h:=bE hk2
     cases h
     have h:=bE hk1
     cases h
     refine aP (tq [4,5])
    ·refine jc h [1,6,7,8,33] (fun p=>[(33,dB p)]) (fun s h=>?_) (fun v3 h=>?_)
     ·obtain ⟨z1,hz1,h⟩:=aW h
      obtain ⟨z2,hz2,h⟩:=aW h
      refine tR [iN 5 hz1,iB 10 hz2] [1,6,7,8,33] ?_
      refine tC h (fun hc h=>?_) fun hc h=>?_
      ·cases h
       refine aO (tJ [.keep [1,6,7,8,33]])
      ·cases h
       refine tRe [] [1,6,7,8,33] (tJ [.keep [1,6,7,8,33]])
     ·refine tC h (fun hc h=>?_) fun hc h=>?_
      ·refine tR [] [4,5] ?_
       cases h
       have h:=bE hk2
       cases h
       have h:=bE hk1
       cases h
       refine aP (tq [4,5])
      ·refine tR [] [1,6,7,8,49] ?_
       refine tC h (fun hc h=>?_) fun hc h=>?_
       ·obtain ⟨z3,hz3,h⟩:=aW h
        obtain ⟨hp2,h⟩:=aL h
        obtain ⟨z4,hz4,h⟩:=aW h
        obtain ⟨y1,hy1,h⟩:=aH h
        refine tR [iN 4 hz3,iW 6 (show (0≤(IntKind.i64.wrap (v2+(1:Int)))∧(IntKind.i64.wrap (v2+(1:Int)))≤(IntKind.i64.wrap (z3+(1:Int)))∧(IntKind.i64.wrap (z3+(1:Int)))≤(a1.length:Int))∧AV.d (.str ((a1.drop (IntKind.i64.wrap (v2+(1:Int))).toNat).take ((IntKind.i64.wrap (z3+(1:Int))).toNat - (IntKind.i64.wrap (v2+(1:Int))).toNat)))=.d (.str z4) from ⟨hp2,(by subst hz4; rfl)⟩),iC 7 [6] (bZ hy1)] [1,6,7,8] ?_
        obtain ⟨z5,hz5,h⟩:=aW h
        cases h
        refine tRe [iN 3 hz5] [1,6,7] (tG [.keep [1,6,7]])
       ·obtain ⟨hp3,h⟩:=aL h
        obtain ⟨z6,hz6,h⟩:=aW h
        obtain ⟨hp4,h⟩:=aL h
        obtain ⟨y2,hy2,h⟩:=aH h
        refine tR [iW 4 (show (0≤(IntKind.i64.wrap (v2+(1:Int)))∧(IntKind.i64.wrap (v2+(1:Int)))≤(IntKind.i64.wrap ((IntKind.i64.wrap (v2+(1:Int)))+(1:Int)))∧(IntKind.i64.wrap ((IntKind.i64.wrap (v2+(1:Int)))+(1:Int)))≤(a1.length:Int))∧AV.d (.str ((a1.drop (IntKind.i64.wrap (v2+(1:Int))).toNat).take ((IntKind.i64.wrap ((IntKind.i64.wrap (v2+(1:Int)))+(1:Int))).toNat - (IntKind.i64.wrap (v2+(1:Int))).toNat)))=.d (.str z6) from ⟨hp3,(by subst hz6; rfl)⟩),iC 7 [] (cM9 hp4),iC 8 [6] (bZ hy2)] [1,6,7] ?_
        cases h
        refine tRe [] [1,6,7] (tG [.keep [1,6,7]])
   ·obtain ⟨v4,v5⟩:=s
    try dsimp only at h
    obtain ⟨y3,hy3,h⟩:=aH h
    refine tR [iC 0 [6] (jO hy3)] [1,6,7,65] ?_
    refine tC h (fun hc h=>?_) fun hc h=>?_
    ·refine tR [] [4,5] ?_
     cases h
     have h:=bE hk1
     cases h
     refine aP (tq [4,5])
    ·refine aO (tE [.keep [1,6,7]] (v4,v5) h)
  ·cases h
   refine cZ (tG [.keep [6]])
 ·refine tS ?_
  obtain ⟨hp5,h⟩:=aL h
  refine tR [iC 0 [6] (show aG Tryz.prog 51 [.bp 1000000 0] [.box [.slf 0 94,oW1 v6]] (.d (.str v6)) [.box [.slf 0 94,.junk]] from nK (l:=v6) hp5 (by kernel_rfl) (by kernel_rfl))] [4,5] ?_
  cases h
  refine aP (tq [4,5])
theorem aB9 {F:Nat} {a0:jI} {a1:List UInt8} {r:(List UInt8)×Int} (h:qF F a0 a1=some r):aG Tryz.prog 267 [.agg (aF0 a0),.d (.str a1)] [] (.tup [.d (.str r.1),.d (.v (.int .i64 r.2))]) []:=by
 rw [qF] at h
 refine aG.intro (N:=33) Tryz.func267 rfl rfl rfl rfl rfl fun e=>?_
 refine tR [] [1,2] ?_
 refine tR [iR 1 (a1.map cU)] [2,6] ?_
 refine aK ?_
 refine tR [] [2,6,7] ?_
 refine jct h [6] (fun p=>[(6,oW1 p)]) (fun s h=>?_) (fun v3 h=>?_)
 ·refine aU ?_
  refine tL2 (kS F a0) [.keep [2,6,7]] [2,6,7] (fun v1 v2=>[(6,oW1 v1),(7,dI v2)]) F a1 a0.f0 h fun n v1 v2 h=>?_
  rw [kS] at h
  refine aK ?_
  refine tR [iW 2 (cO cU (xs:=v1))] [2,6,7,15] ?_
  refine tC h (fun hc h=>?_) fun hc h=>?_
  ·refine aO (tS ?_)
   refine aK ?_
   refine aU ?_
   obtain ⟨hp1,h⟩:=aL h
   obtain ⟨hp2,h⟩:=aL h
   obtain ⟨z1,hz1,h⟩:=aW h
   obtain ⟨hp3,h⟩:=aL h
   obtain ⟨hp4,h⟩:=aL h
   refine aS4 mixed 13 [(3,{ cs:=cU (v1.getD v2.toNat 0) }),(10,{ cs:=cU (v1.getD (IntKind.i64.wrap (v2 - a0.f0)).toNat 0) }),(11,{ rw:=some (.d (.v (.int .u8 z1))) }),(13,{ cs:=cU (v1.getD v2.toNat 0),es:=some ((v1.set v2.toNat (UInt8.ofNat z1.toNat)).map cU) })] [2,6,7] [] [(2,.box [dI a0.f0]),(6,.own 5 1 ((v1.set v2.toNat (UInt8.ofNat z1.toNat)).map cU)),(7,dI v2)] [(2,0≤v2∧v2 < (v1.map cU).length),(0,(v1.map cU)[v2.toNat]? = some (cU (v1.getD v2.toNat 0))),(5,0≤(IntKind.i64.wrap (v2 - a0.f0))∧(IntKind.i64.wrap (v2 - a0.f0)) < (v1.map cU).length),(0,(v1.map cU)[(IntKind.i64.wrap (v2 - a0.f0)).toNat]? = some (cU (v1.getD (IntKind.i64.wrap (v2 - a0.f0)).toNat 0))),(0,(True)∧AV.d (.v (.int .u8 (IntKind.u8.wrap (((v1.getD v2.toNat 0).toNat:Int)+((v1.getD (IntKind.i64.wrap (v2 - a0.f0)).toNat 0).toNat:Int)))))=.d (.v (.int .u8 z1))),(0,0≤v2∧v2 < (v1.map cU).length),(0,(v1.map cU)[v2.toNat]? = some (cU (v1.getD v2.toNat 0))∧(v1.map cU).set v2.toNat ([Dat.v (.int .u8 z1)])=((v1.set v2.toNat (UInt8.ofNat z1.toNat)).map cU))] 0 (by kernel_rfl) (⟨dQ cU hp1,(bX (d:=0) cU hp1).2,dQ cU hp2,(bX (d:=0) cU hp2).2,⟨trivial,(by subst hz1; rfl)⟩,dQ cU hp3,⟨(bX (d:=0) cU hp3).2,oU cU (aC6 hp4)⟩⟩) (tS ?_)
   refine tRe [] [2,6,7] (tE [.keep [2,6,7]] ((v1.set v2.toNat (UInt8.ofNat z1.toNat)),IntKind.i64.wrap (v2+(1:Int))) h)
  ·cases h
   refine cZ (tJ [.keep [6]])
 ·refine tS ?_
  refine tR [iX 1 { cs:=[.str v3] } (show (v3.map cU)=byteCells v3 from rfl)] [4,5] ?_
  cases h
  refine aP (tq [4,5])
theorem xX {F:Nat} {a0:dG} {a1:List UInt8} {r:(List UInt8)×Int} (h:nL F a0 a1=some r):aG Tryz.prog 269 [.agg (mC a0),.d (.str a1)] [] (.tup [.d (.str r.1),.d (.v (.int .i64 r.2))]) []:=by
 rw [nL] at h
 refine aG.intro (N:=88) Tryz.func269 rfl rfl rfl rfl rfl fun e=>?_
 refine tR [] [1] ?_
 refine tR [] [1,6] ?_
 refine aK ?_
 refine tR [] [1,6,7] ?_
 refine jEt h [6] (fun p=>[(6,oW1 p)]) (fun s h hk1=>?_) (fun v8 h=>?_)
 ·refine aU ?_
  refine tL2 (jP F a1) [.keep [1,6,7]] [1,6,7] (fun v4 v1=>[(6,oW1 v4),(7,dI v1)]) F [] (0:Int) h fun n v4 v1 h=>?_
  rw [jP] at h
  refine aK ?_
  refine tR [] [1,6,7,13] ?_
  refine tC h (fun hc h=>?_) fun hc h=>?_
  ·refine aO (tS ?_)
   refine aU ?_
   obtain ⟨hp1,h⟩:=aL h
   refine tR [iP 2 hp1] [1,6,7,8] ?_
   refine tR [] [1,6,7,8] ?_
   refine jE h [1,6,7] (fun p=>[(6,oW1 p.1),(7,dI p.2)]) (fun s h hk2=>?_) (fun s h=>?_)
   ·refine tR [] [1,6,7,8,21] ?_
    refine tC h (fun hc h=>?_) fun hc h=>?_
    ·refine aK ?_
     obtain ⟨z3,hz1,h⟩:=aW h
     refine tR [iN 2 hz1] [1,6,7,8,28] ?_
     refine tC h (fun hc h=>?_) fun hc h=>?_
     ·refine tR [] [4,5] ?_
      cases h
      have h:=bE hk2
      cases h
      have h:=bE hk1
      cases h
      refine aP (tq [4,5])
     ·refine aO (tS ?_)
      obtain ⟨z4,hz2,h⟩:=aW h
      obtain ⟨hp2,h⟩:=aL h
      obtain ⟨z5,hz3,h⟩:=aW h
      obtain ⟨hp3,h⟩:=aL h
      refine tR [iN 5 hz2,iW 7 (show (0≤(IntKind.i64.wrap (v1+(1:Int)))∧(IntKind.i64.wrap (v1+(1:Int)))≤(IntKind.i64.wrap (z4+(1:Int)))∧(IntKind.i64.wrap (z4+(1:Int)))≤(a1.length:Int))∧AV.d (.str ((a1.drop (IntKind.i64.wrap (v1+(1:Int))).toNat).take ((IntKind.i64.wrap (z4+(1:Int))).toNat - (IntKind.i64.wrap (v1+(1:Int))).toNat)))=.d (.str z5) from ⟨hp2,(by subst hz3; rfl)⟩),iE 8 (gB cU hp3)] [1,6,7,8] ?_
      obtain ⟨z6,hz4,h⟩:=aW h
      cases h
      refine tRe [iN 3 hz4] [1,6,7] (tG [.keep [1,6,7]])
    ·refine aK ?_
     obtain ⟨z7,hz5,h⟩:=aW h
     refine tR [iB 4 hz5] [1,6,7,8,46] ?_
     refine tC h (fun hc h=>?_) fun hc h=>?_
     ·refine tR [] [4,5] ?_
      cases h
      have h:=bE hk2
      cases h
      have h:=bE hk1
      cases h
      refine aP (tq [4,5])
     ·refine aO (tS ?_)
      obtain ⟨hp4,h⟩:=aL h
      obtain ⟨z8,hz6,h⟩:=aW h
      obtain ⟨hp5,h⟩:=aL h
      obtain ⟨z9,hz7,h⟩:=aW h
      obtain ⟨z1,hz8,h⟩:=aW h
      refine mO mixed [(4,{ rw:=some (dI z8) }),(8,{ rw:=some (.d (.v (.int .u8 z9))) }),(10,{ rw:=some (dI z1) })] [1,6,7,8,9] [] [(1,.d (.str a1)),(6,oW1 v4),(7,dI (IntKind.i64.wrap (v1+(1:Int)))),(8,dI (IntKind.i64.wrap ((a1.getD v1.toNat 0).toNat:Int))),(9,dI z1)] [(2,0≤(IntKind.i64.wrap (v1+(1:Int)))∧(IntKind.i64.wrap (v1+(1:Int))) < a1.length),(1,(0≤(8:Int))∧dI (IntKind.i64.wrap ((IntKind.i64.wrap ((a1.getD (IntKind.i64.wrap (v1+(1:Int))).toNat 0).toNat:Int)) * 2 ^ (min (8:Int).toNat IntKind.i64.bits)))=dI z8),(3,(0≤(IntKind.i64.wrap ((IntKind.i64.wrap (v1+(1:Int)))+(1:Int)))∧(IntKind.i64.wrap ((IntKind.i64.wrap (v1+(1:Int)))+(1:Int))) < a1.length)∧AV.d (.v (.int .u8 ((a1.getD (IntKind.i64.wrap ((IntKind.i64.wrap (v1+(1:Int)))+(1:Int))).toNat 0).toNat:Int)))=.d (.v (.int .u8 z9))),(1,(True)∧dI (IntKind.i64.wrap ((BitVec.ofInt IntKind.i64.bits z8 ||| BitVec.ofInt IntKind.i64.bits (IntKind.i64.wrap z9)).toNat:Int))=dI z1)] 1 (by kernel_rfl) (⟨hp4,⟨(show 0≤(8:Int) by decide),(by subst hz6; rfl)⟩,⟨hp5,(by subst hz7; rfl)⟩,⟨trivial,(by subst hz8; rfl)⟩⟩) ?_
      refine tR [] [1,6,7,8,9] ?_
      refine aK ?_
      refine tR [iW 5 (cO cU (xs:=v4))] [1,6,7,8,9,67] ?_
      refine tC h (fun hc h=>?_) fun hc h=>?_
      ·refine tR [] [4,5] ?_
       cases h
       have h:=bE hk2
       cases h
       have h:=bE hk1
       cases h
       refine aP (tq [4,5])
      ·refine aO (tS ?_)
       refine tR [] [1,6,7,9,69,70] ?_
       refine jct h [1,6,7] (fun p=>[(1,.d (.str a1)),(6,oW1 p)]) (fun s h=>?_) (fun v5 h=>?_)
       ·refine aU ?_
        refine tL2 (jQ F a1 v1 z1) [.keep [1,6,7,9,69,70]] [1,6,7,9,69,70] (fun v2 v3=>[(6,oW1 v2),(70,dI v3)]) F v4 (0:Int) h fun n v2 v3 h=>?_
        rw [jQ] at h
        obtain ⟨z2,hz9,h⟩:=aW h
        refine tR [iB 0 hz9] [1,6,7,9,69,70,71] ?_
        refine aK ?_
        refine tC h (fun hc h=>?_) fun hc h=>?_
        ·refine aO (tS ?_)
         refine aK ?_
         refine aU ?_
         obtain ⟨hp6,h⟩:=aL h
         obtain ⟨hp7,h⟩:=aL h
         obtain ⟨hp8,h⟩:=aL h
         obtain ⟨l1,hl1,h⟩:=aW h
         refine tRe [iW 3 (cO cU (xs:=v2)),iP 6 (show 0≤(IntKind.i64.wrap ((v2.length:Int) - z1))∧(IntKind.i64.wrap ((v2.length:Int) - z1)) < (v2.map cU).length from dQ cU hp6),iX 7 { cs:=cU (v2.getD (IntKind.i64.wrap ((v2.length:Int) - z1)).toNat 0) } (show (v2.map cU)[(IntKind.i64.wrap ((v2.length:Int) - z1)).toNat]? = some (cU (v2.getD (IntKind.i64.wrap ((v2.length:Int) - z1)).toNat 0)) from (bX (d:=0) cU hp6).2),iX 8 { es:=some (([(UInt8.ofNat ((v2.getD (IntKind.i64.wrap ((v2.length:Int) - z1)).toNat 0).toNat:Int).toNat)]).map cU) } (show [[Dat.v (.int .u8 ((v2.getD (IntKind.i64.wrap ((v2.length:Int) - z1)).toNat 0).toNat:Int))]]=(([(UInt8.ofNat ((v2.getD (IntKind.i64.wrap ((v2.length:Int) - z1)).toNat 0).toNat:Int).toNat)]).map cU) from oZ hp7 (rfl:([]:List (List Dat))=([]:List UInt8).map cU)),iX 9 { es:=some (l1.map cU) } (show (v2.map cU).length+(([(UInt8.ofNat ((v2.getD (IntKind.i64.wrap ((v2.length:Int) - z1)).toNat 0).toNat:Int).toNat)]).map cU).length≤4294967296∧(v2.map cU)++(([(UInt8.ofNat ((v2.getD (IntKind.i64.wrap ((v2.length:Int) - z1)).toNat 0).toNat:Int).toNat)]).map cU)=(l1.map cU) from vP (gB cU hp8) (by subst hl1; rfl))] [1,6,7,9,69,70] (tS ?_)
         refine tRe [] [1,6,7,9,69,70] (tE [.keep [1,6,7,9,69,70]] (l1,IntKind.i64.wrap (v3+(1:Int))) h)
        ·cases h
         refine cZ (tJ [.keep [1,6,7]])
       ·cases h
        refine tG [.keep [1,6,7]]
   ·obtain ⟨v6,v7⟩:=s
    try dsimp only at h
    refine tR [iW 1 (cO cU (xs:=v6))] [1,6,7,85] ?_
    refine tC h (fun hc h=>?_) fun hc h=>?_
    ·refine tR [] [4,5] ?_
     cases h
     have h:=bE hk1
     cases h
     refine aP (tq [4,5])
    ·refine aO (tE [.keep [1,6,7]] (v6,v7) h)
  ·cases h
   refine cZ (tG [.keep [6]])
 ·refine tS ?_
  refine tR [iX 1 { cs:=[.str v8] } (show (v8.map cU)=byteCells v8 from rfl)] [4,5] ?_
  cases h
  refine aP (tq [4,5])
theorem aM2 {F:Nat} {a0:List UInt8} {r:(List UInt8)×Int} (h:wF F a0=some r):aG Tryz.prog 276 [.d (.str a0)] [] (.tup [.d (.str r.1),.d (.v (.int .i64 r.2))]) []:=by
 rw [wF] at h
 refine aG.intro (N:=63) Tryz.func276 rfl rfl rfl rfl rfl fun e=>?_
 refine tR [] [0] ?_
 refine tR [] [0,4] ?_
 refine aK ?_
 refine tR [] [0,4,8] ?_
 refine jEt h [0,4] (fun p=>[(4,.d (.v (.int .u64 p)))]) (fun s h hk1=>?_) (fun v4 h=>?_)
 ·refine aU ?_
  refine tL2 (nD F a0) [.keep [0,4,8]] [0,4,8] (fun v1 v2=>[(4,.d (.v (.int .u64 v1))),(8,dI v2)]) F (0:Int) (0:Int) h fun n v1 v2 h=>?_
  rw [nD] at h
  refine tR [] [0,4,8,9] ?_
  refine aK ?_
  refine tC h (fun hc h=>?_) fun hc h=>?_
  ·refine aO (tS ?_)
   refine aK ?_
   refine aU ?_
   refine tR [] [0,4,5,8] ?_
   refine tR [] [0,4,5,6,8] ?_
   refine jE h [0,4,6,8] (fun p=>[(6,.d (.v (.int .u64 p)))]) (fun s h hk2=>?_) (fun v3 h=>?_)
   ·refine tR [] [0,4,5,6,8,14] ?_
    refine tC h (fun hc h=>?_) fun hc h=>?_
    ·refine aK ?_
     obtain ⟨hp1,h⟩:=aL h
     obtain ⟨hp2,h⟩:=aL h
     obtain ⟨z1,hz1,h⟩:=aW h
     refine tR [iP 2 hp1,iF 7 {} (show ((((decide (((a0.getD v2.toNat 0).toNat:Int) < (33:Int))) == false) && true)=true→0≤v2∧v2 < a0.length) from (fun hg=>(hp2 hg))),iB 9 hz1] [0,4,5,8,24] ?_
     refine tC h (fun hc h=>?_) fun hc h=>?_
     ·refine tR [] [2,3] ?_
      cases h
      have h:=bE hk2
      cases h
      have h:=bE hk1
      cases h
      refine aP (tq [2,3])
     ·refine aO (tS ?_)
      obtain ⟨hp3,h⟩:=aL h
      cases h
      refine tRe [iP 2 hp3] [0,4,6,8] (tG [.keep [0,4,6,8]])
    ·cases h
     refine aO (tG [.keep [0,4,6,8]])
   ·refine tRe [] [0,4,8] (tS ?_)
    refine tRe [] [0,4,8] (tE [.keep [0,4,8]] (IntKind.u64.wrap ((IntKind.u64.wrap (v1 * (85:Int)))+v3),IntKind.i64.wrap (v2+(1:Int))) h)
  ·cases h
   refine cZ (tG [.keep [0,4]])
 ·refine tS ?_
  refine aK ?_
  refine tR [] [0,4,37] ?_
  refine tC h (fun hc h=>?_) fun hc h=>?_
  ·refine tR [] [2,3] ?_
   cases h
   refine aP (tq [2,3])
  ·refine aO (tS ?_)
   refine aK ?_
   refine tR [iP 1 (show 0≤(32:Int) by decide)] [0,4,40] ?_
   refine tC h (fun hc h=>?_) fun hc h=>?_
   ·refine tR [] [2,3] ?_
    cases h
    refine aP (tq [2,3])
   ·refine aO (tS ?_)
    obtain ⟨hp4,h⟩:=aL h
    obtain ⟨hp5,h⟩:=aL h
    obtain ⟨hp6,h⟩:=aL h
    obtain ⟨hp7,h⟩:=aL h
    obtain ⟨hp8,h⟩:=aL h
    obtain ⟨z2,hz2,h⟩:=aW h
    refine tR [iP 1 (show 0≤(24:Int) by decide),iP 4 (show 0≤(16:Int) by decide),iP 7 (show 0≤(8:Int) by decide),iX 11 { es:=some (([(UInt8.ofNat (IntKind.u8.wrap (v4.fdiv (2 ^ (min (24:Int).toNat IntKind.u64.bits)))).toNat),(UInt8.ofNat (IntKind.u8.wrap (v4.fdiv (2 ^ (min (16:Int).toNat IntKind.u64.bits)))).toNat),(UInt8.ofNat (IntKind.u8.wrap (v4.fdiv (2 ^ (min (8:Int).toNat IntKind.u64.bits)))).toNat),(UInt8.ofNat (IntKind.u8.wrap v4).toNat)]).map cU) } (show [[Dat.v (.int .u8 (IntKind.u8.wrap (v4.fdiv (2 ^ (min (24:Int).toNat IntKind.u64.bits)))))],[Dat.v (.int .u8 (IntKind.u8.wrap (v4.fdiv (2 ^ (min (16:Int).toNat IntKind.u64.bits)))))],[Dat.v (.int .u8 (IntKind.u8.wrap (v4.fdiv (2 ^ (min (8:Int).toNat IntKind.u64.bits)))))],[Dat.v (.int .u8 (IntKind.u8.wrap v4))]]=(([(UInt8.ofNat (IntKind.u8.wrap (v4.fdiv (2 ^ (min (24:Int).toNat IntKind.u64.bits)))).toNat),(UInt8.ofNat (IntKind.u8.wrap (v4.fdiv (2 ^ (min (16:Int).toNat IntKind.u64.bits)))).toNat),(UInt8.ofNat (IntKind.u8.wrap (v4.fdiv (2 ^ (min (8:Int).toNat IntKind.u64.bits)))).toNat),(UInt8.ofNat (IntKind.u8.wrap v4).toNat)]).map cU) from oZ hp4 (oZ hp5 (oZ hp6 (oZ hp7 (rfl:([]:List (List Dat))=([]:List UInt8).map cU))))),iX 15 { take:=[0],es:=some ((([(UInt8.ofNat (IntKind.u8.wrap (v4.fdiv (2 ^ (min (24:Int).toNat IntKind.u64.bits)))).toNat),(UInt8.ofNat (IntKind.u8.wrap (v4.fdiv (2 ^ (min (16:Int).toNat IntKind.u64.bits)))).toNat),(UInt8.ofNat (IntKind.u8.wrap (v4.fdiv (2 ^ (min (8:Int).toNat IntKind.u64.bits)))).toNat),(UInt8.ofNat (IntKind.u8.wrap v4).toNat)]).take (IntKind.i64.wrap ((a0.length:Int) - (1:Int))).toNat).map cU) } (show (0≤(IntKind.i64.wrap ((a0.length:Int) - (1:Int)))∧(IntKind.i64.wrap ((a0.length:Int) - (1:Int)))≤((([(UInt8.ofNat (IntKind.u8.wrap (v4.fdiv (2 ^ (min (24:Int).toNat IntKind.u64.bits)))).toNat),(UInt8.ofNat (IntKind.u8.wrap (v4.fdiv (2 ^ (min (16:Int).toNat IntKind.u64.bits)))).toNat),(UInt8.ofNat (IntKind.u8.wrap (v4.fdiv (2 ^ (min (8:Int).toNat IntKind.u64.bits)))).toNat),(UInt8.ofNat (IntKind.u8.wrap v4).toNat)]).map cU).length:Int))∧(([(UInt8.ofNat (IntKind.u8.wrap (v4.fdiv (2 ^ (min (24:Int).toNat IntKind.u64.bits)))).toNat),(UInt8.ofNat (IntKind.u8.wrap (v4.fdiv (2 ^ (min (16:Int).toNat IntKind.u64.bits)))).toNat),(UInt8.ofNat (IntKind.u8.wrap (v4.fdiv (2 ^ (min (8:Int).toNat IntKind.u64.bits)))).toNat),(UInt8.ofNat (IntKind.u8.wrap v4).toNat)]).map cU).take (IntKind.i64.wrap ((a0.length:Int) - (1:Int))).toNat=((([(UInt8.ofNat (IntKind.u8.wrap (v4.fdiv (2 ^ (min (24:Int).toNat IntKind.u64.bits)))).toNat),(UInt8.ofNat (IntKind.u8.wrap (v4.fdiv (2 ^ (min (16:Int).toNat IntKind.u64.bits)))).toNat),(UInt8.ofNat (IntKind.u8.wrap (v4.fdiv (2 ^ (min (8:Int).toNat IntKind.u64.bits)))).toNat),(UInt8.ofNat (IntKind.u8.wrap v4).toNat)]).take (IntKind.i64.wrap ((a0.length:Int) - (1:Int))).toNat).map cU) from cA3 cU hp8),iX 16 { cs:=[.str (([(UInt8.ofNat (IntKind.u8.wrap (v4.fdiv (2 ^ (min (24:Int).toNat IntKind.u64.bits)))).toNat),(UInt8.ofNat (IntKind.u8.wrap (v4.fdiv (2 ^ (min (16:Int).toNat IntKind.u64.bits)))).toNat),(UInt8.ofNat (IntKind.u8.wrap (v4.fdiv (2 ^ (min (8:Int).toNat IntKind.u64.bits)))).toNat),(UInt8.ofNat (IntKind.u8.wrap v4).toNat)]).take (IntKind.i64.wrap ((a0.length:Int) - (1:Int))).toNat)],rw:=some (.d (.str z2)) } (show (((([(UInt8.ofNat (IntKind.u8.wrap (v4.fdiv (2 ^ (min (24:Int).toNat IntKind.u64.bits)))).toNat),(UInt8.ofNat (IntKind.u8.wrap (v4.fdiv (2 ^ (min (16:Int).toNat IntKind.u64.bits)))).toNat),(UInt8.ofNat (IntKind.u8.wrap (v4.fdiv (2 ^ (min (8:Int).toNat IntKind.u64.bits)))).toNat),(UInt8.ofNat (IntKind.u8.wrap v4).toNat)]).take (IntKind.i64.wrap ((a0.length:Int) - (1:Int))).toNat).map cU)=byteCells (([(UInt8.ofNat (IntKind.u8.wrap (v4.fdiv (2 ^ (min (24:Int).toNat IntKind.u64.bits)))).toNat),(UInt8.ofNat (IntKind.u8.wrap (v4.fdiv (2 ^ (min (16:Int).toNat IntKind.u64.bits)))).toNat),(UInt8.ofNat (IntKind.u8.wrap (v4.fdiv (2 ^ (min (8:Int).toNat IntKind.u64.bits)))).toNat),(UInt8.ofNat (IntKind.u8.wrap v4).toNat)]).take (IntKind.i64.wrap ((a0.length:Int) - (1:Int))).toNat))∧AV.d (.str (([(UInt8.ofNat (IntKind.u8.wrap (v4.fdiv (2 ^ (min (24:Int).toNat IntKind.u64.bits)))).toNat),(UInt8.ofNat (IntKind.u8.wrap (v4.fdiv (2 ^ (min (16:Int).toNat IntKind.u64.bits)))).toNat),(UInt8.ofNat (IntKind.u8.wrap (v4.fdiv (2 ^ (min (8:Int).toNat IntKind.u64.bits)))).toNat),(UInt8.ofNat (IntKind.u8.wrap v4).toNat)]).take (IntKind.i64.wrap ((a0.length:Int) - (1:Int))).toNat))=.d (.str z2) from ⟨rfl,(by subst hz2; rfl)⟩)] [0,7] ?_
    refine aK ?_
    obtain ⟨y1,hy1,h⟩:=aH h
    refine tR [iC 1 [] (aA1 hy1)] [7,61] ?_
    refine tC h (fun hc h=>?_) fun hc h=>?_
    ·refine tR [] [2,3] ?_
     cases h
     refine aP (tq [2,3])
    ·refine aO (tS ?_)
     refine tR [] [2,3] ?_
     cases h
     refine aP (tq [2,3])
theorem aB8 {F:Nat} {a0:dG} {a1:List UInt8} {r:(List UInt8)×Int} (h:qI F a0 a1=some r):aG Tryz.prog 274 [.agg (mC a0),.d (.str a1)] [] (.tup [.d (.str r.1),.d (.v (.int .i64 r.2))]) []:=by
 rw [qI] at h
 refine aG.intro (N:=39) Tryz.func274 rfl rfl rfl rfl rfl fun e=>?_
 refine tR [] [1] ?_
 refine tR [iH 0 { slfs:=[(0,0)] }] [1,6] ?_
 refine jE h [6] (fun p=>[(6,.box [.slf 0 94,oW1 p])]) (fun s h hk1=>?_) (fun v5 h=>?_)
 ·refine aU ?_
  refine tL2 (kQ F) [.keep [1,6]] [1,6] (fun v1 v2=>[(1,.d (.str v1)),(6,.box [.slf 0 94,oW1 v2])]) F a1 [] h fun n v1 v2 h=>?_
  rw [kQ] at h
  refine aK ?_
  refine tR [] [1,6,11] ?_
  refine tC h (fun hc h=>?_) fun hc h=>?_
  ·refine aO (tS ?_)
   refine aU ?_
   refine jE h [1,6] (fun p=>[(1,.d (.str p.1)),(6,.box [.slf 0 94,oW1 p.2])]) (fun s h hk2=>?_) (fun s h=>?_)
   ·obtain ⟨hp1,h⟩:=aL h
    refine tR [iP 1 hp1] [1,6,14] ?_
    refine tC h (fun hc h=>?_) fun hc h=>?_
    ·obtain ⟨y1,hy1,h⟩:=aH h
     refine tR [iC 0 [6] (bZ hy1)] [1,6] ?_
     obtain ⟨hp2,h⟩:=aL h
     cases h
     refine tRe [iP 1 hp2] [1,6] (tG [.keep [1,6]])
    ·refine tR [] [1,6,7] ?_
     obtain ⟨hp3,h⟩:=aL h
     obtain ⟨z1,hz1,h⟩:=aW h
     obtain ⟨y2,hy2,h⟩:=aH h
     refine tR [iW 2 (show (0≤(0:Int)∧(0:Int)≤(if (5:Int) < (v1.length:Int) then (5:Int) else (v1.length:Int))∧(if (5:Int) < (v1.length:Int) then (5:Int) else (v1.length:Int))≤(v1.length:Int))∧AV.d (.str ((v1.drop (0:Int).toNat).take ((if (5:Int) < (v1.length:Int) then (5:Int) else (v1.length:Int)).toNat - (0:Int).toNat)))=.d (.str z1) from ⟨hp3,(by subst hz1; rfl)⟩),iC 3 [] (aM2 hy2)] [1,6,7,8,9] ?_
     refine aK ?_
     refine tR [] [1,6,7,8,9,29] ?_
     refine tC h (fun hc h=>?_) fun hc h=>?_
     ·refine tR [] [4,5] ?_
      cases h
      have h:=bE hk2
      cases h
      have h:=bE hk1
      cases h
      refine aP (tq [4,5])
     ·refine aO (tS ?_)
      obtain ⟨y3,hy3,h⟩:=aH h
      refine tR [iC 1 [6] (bZ hy3)] [1,6,7] ?_
      obtain ⟨hp4,h⟩:=aL h
      obtain ⟨z2,hz2,h⟩:=aW h
      cases h
      refine tRe [iW 2 (show (0≤(if (5:Int) < (v1.length:Int) then (5:Int) else (v1.length:Int))∧(if (5:Int) < (v1.length:Int) then (5:Int) else (v1.length:Int))≤(v1.length:Int)∧(v1.length:Int)≤(v1.length:Int))∧AV.d (.str ((v1.drop (if (5:Int) < (v1.length:Int) then (5:Int) else (v1.length:Int)).toNat).take ((v1.length:Int).toNat - (if (5:Int) < (v1.length:Int) then (5:Int) else (v1.length:Int)).toNat)))=.d (.str z2) from ⟨hp4,(by subst hz2; rfl)⟩)] [1,6] (tG [.keep [1,6]])
   ·obtain ⟨v3,v4⟩:=s
    try dsimp only at h
    obtain ⟨y4,hy4,h⟩:=aH h
    refine tR [iC 0 [6] (jO hy4)] [1,6,37] ?_
    refine tC h (fun hc h=>?_) fun hc h=>?_
    ·refine tR [] [4,5] ?_
     cases h
     have h:=bE hk1
     cases h
     refine aP (tq [4,5])
    ·refine aO (tE [.keep [1,6]] (v3,v4) h)
  ·cases h
   refine cZ (tG [.keep [6]])
 ·obtain ⟨hp5,h⟩:=aL h
  refine tR [iC 0 [6] (show aG Tryz.prog 51 [.bp 1000000 0] [.box [.slf 0 94,oW1 v5]] (.d (.str v5)) [.box [.slf 0 94,.junk]] from nK (l:=v5) hp5 (by kernel_rfl) (by kernel_rfl))] [4,5] ?_
  cases h
  refine aP (tq [4,5])
theorem wP {F : Nat} {x : fA} {a1 : List UInt8} {r : (List UInt8) × Int} (h : mT F x a1 = some r) : bS0 Tryz.prog "printworks/filter.decode" [.d (.v (lZ x)),.d (.str a1)] [] (.tup [.d (.str r.1),.d (.v (.int .i64 r.2))]) [] := by
 cases x with
 | nil=>exact absurd h (by simp [mT])
 | k_runs x=>exact ⟨193,_,_,255,rfl,(fun _ h=>by cases h),by kernel_rfl,aA9 (a0:=x) h⟩
 | k_rows x=>exact ⟨195,_,_,267,rfl,(List.forall_mem_cons.2 ⟨rfl,fun _ h=>by cases h⟩),by kernel_rfl,aB9 (a0:=x) h⟩
 | k_copies x=>exact ⟨196,_,_,269,rfl,(fun _ h=>by cases h),by kernel_rfl,xX (a0:=x) h⟩
 | k_text x=>exact ⟨197,_,_,274,rfl,(fun _ h=>by cases h),by kernel_rfl,aB8 (a0:=x) h⟩
theorem aP1 {F:Nat} {a0:List dA} {a1:List UInt8} {r:(List UInt8)×Int} (h:xH F a0 a1=some r):aG Tryz.prog 66 [.d (.sl 2 (a0.map eB)),.d (.str a1)] [] (.tup [.d (.str r.1),.d (.v (.int .i64 r.2))]) []:=by
 rw [xH] at h
 refine aG.intro (N:=42) Tryz.func66 rfl rfl rfl rfl rfl fun e=>?_
 refine tR [] [0,1] ?_
 refine aK ?_
 obtain ⟨y3,hy1,h⟩:=aH h
 refine tR [iC 1 [] (zX hy1)] [0,1,6] ?_
 refine tR [] [0,1,6,12] ?_
 refine tC h (fun hc h=>?_) fun hc h=>?_
 ·refine tR [] [4,5] ?_
  cases h
  refine aP (tq [4,5])
 ·refine aO (tS ?_)
  refine aK ?_
  refine tR [] [0,1,16] ?_
  refine tC h (fun hc h=>?_) fun hc h=>?_
  ·refine tR [] [4,5] ?_
   cases h
   refine aP (tq [4,5])
  ·refine aO (tS ?_)
   refine aK ?_
   refine tR [iW 1 (cO eB (xs:=a0))] [0,1,7] ?_
   refine jEt h [1] (fun p=>[(1,.d (.str p))]) (fun s h hk1=>?_) (fun v3 h=>?_)
   ·refine aU ?_
    refine tL2 (oG F a0) [.keep [0,1,7]] [0,1,7] (fun v1 v2=>[(1,.d (.str v1)),(7,dI v2)]) F a1 (IntKind.i64.wrap ((a0.length:Int) - (1:Int))) h fun n v1 v2 h=>?_
    rw [oG] at h
    refine aK ?_
    refine tR [] [0,1,7,21] ?_
    refine tC h (fun hc h=>?_) fun hc h=>?_
    ·refine aO (tS ?_)
     refine aK ?_
     refine aU ?_
     refine tR [] [0,1,7] ?_
     obtain ⟨hp1,h⟩:=aL h
     obtain ⟨y1,hy2,h⟩:=aH h
     obtain ⟨y2,hy3,h⟩:=aH h
     refine tR [iI 2 (bX (d := yY) eB hp1),iC 4 [] (wK hy2),iX 6 { res := .tup [.d (.str y2.1),dI y2.2] } (show bS0 Tryz.prog "printworks/filter.decode" [.d (.v (lZ y1)),.d (.str v1)] [] (.tup [.d (.str y2.1),dI y2.2]) [] from wP hy3)] [0,1,7,8] ?_
     refine tR [] [0,1,7,8,35] ?_
     refine tC h (fun hc h=>?_) fun hc h=>?_
     ·refine tR [] [4,5] ?_
      cases h
      have h:=bE hk1
      cases h
      refine aP (tq [4,5])
     ·refine aO (tS ?_)
      refine tRe [] [0,1,7] (tE [.keep [0,1,7]] (y2.1,IntKind.i64.wrap (v2 - (1:Int))) h)
    ·cases h
     refine cZ (tG [.keep [1]])
   ·refine tS ?_
    refine aK ?_
    refine tR [] [1,39] ?_
    refine tC h (fun hc h=>?_) fun hc h=>?_
    ·refine tR [] [4,5] ?_
     cases h
     refine aP (tq [4,5])
    ·refine aO (tS ?_)
     obtain ⟨y4,hy4,h⟩:=aH h
     refine tR [iC 1 [] (yD hy4)] [4,5] ?_
     cases h
     refine aP (tq [4,5])
theorem xI {F:Nat} {a0:Int} {c1:List UInt8} {c2:Int} {c3:List aJ} {r:(List UInt8)×Int×(List aJ)} (h:mY F a0 c1 c2 c3=some r):aG Tryz.prog 48 [.bp 1000000 0,.d (.v (.int .i64 a0))] [.box [.d (.str c1),.d (.v (.int .i64 c2)),.own 49 7 (c3.map aF)]] (.tup []) [.box [.d (.str r.1),.d (.v (.int .i64 r.2.1)),.own 49 7 (r.2.2.map aF)]]:=by
 rw [mY] at h
 refine aG.intro (N:=48) Tryz.func48 rfl rfl rfl rfl rfl fun e=>?_
 refine jct h [1000000] (fun p=>[(1000000,.box [.d (.str p.1),dI p.2.1,oW5 p.2.2])]) (fun s h=>?_) (fun s h=>?_)
 ·refine aU ?_
  refine tL (fun n p=>gH F n p.1 p.2.1 p.2.2.1 p.2.2.2) [.keep [0,1,1000000]] [0,1,1000000] (fun p=>[(1,dI p.1),(1000000,.box [.d (.str p.2.1),dI p.2.2.1,oW5 p.2.2.2])]) F (a0,c1,c2,c3) h fun n p h=>?_
  obtain ⟨v1,v2,v3,v4⟩:=p
  have h:gH F (n+1) v1 v2 v3 v4=some s:=h
  rw [gH] at h
  refine aK ?_
  refine tR [] [0,1,10,1000000] ?_
  refine tC h (fun hc h=>?_) fun hc h=>?_
  ·refine aO (tS ?_)
   refine aK ?_
   refine aU ?_
   obtain ⟨y1,hy1,h⟩:=aH h
   obtain ⟨y2,hy2,h⟩:=aH h
   refine tR [iC 1 [1000000] (gR hy1),iC 2 [] (aD7 hy2)] [0,1,4,5,1000000] ?_
   obtain ⟨y3,hy3,h⟩:=aH h
   obtain ⟨y4,hy4,h⟩:=aH h
   refine jX mixed 2 (.take 0 (.take 1 (.take 2 (.take 4 (.all (.alt 3 (.all (.alt 5 (.all (.alt 6 (.take 7 (.take 8 (.take 9 (.take 10 (.take 11 .done))))) .stop)) .stop)) (.alt 5 (.take 3 (.all (.alt 6 (.take 7 (.take 8 (.take 9 (.take 10 (.take 11 .done))))) .stop))) .stop))))))) ([0,1,2,4,0,16,40,64,128,128,511,2047],[0,1,2,4,0,16,40,64,128,128,256,512]) 3999 [(5,{ res:=dI y3 }),(6,{ res:=.tup [dI y4.1,dB y4.2] })] [0,1,5,7,8,1000000] [] [(0,.bp 1000000 0),(1,dI v1),(5,.d (.str y2.2.1)),(7,dI y4.1),(8,dB y4.2),(1000000,.box [.d (.str y1.2.1),dI y1.2.2.1,oW5 y1.2.2.2])] ((fun (o5:Prop)=>fun (o6:Prop)=>[(5,o5),(0,o6),(5,o5),(1,o6)]) (aG Tryz.prog 47 [.d (.str y2.1)] [] (dI y3) []) (aG Tryz.prog 19 [.agg (bP (bC.mk y1.2.2.1 y1.2.2.2)),dI y3] [] (.tup [dI y4.1,dB y4.2]) [])) 5 (by kernel_rfl) (by kernel_rfl) (by kernel_rfl) (have p5:=mQ hy3; have p6:=kG hy4; ⟨p5,p6,p5,p6⟩) ?_
   refine tR [] [0,1,7,34,1000000] ?_
   refine tC h (fun hc h=>?_) fun hc h=>?_
   ·cases h
   ·refine aO (tS ?_)
    refine tRe [] [0,1,1000000] (tE [.keep [0,1,1000000]] (IntKind.i64.wrap (v1 - (1:Int)),y1.2.1,y1.2.2.1,y1.2.2.2) h)
  ·cases h
   refine cZ (tJ [.keep [1000000]])
 ·obtain ⟨v5,v6,v7⟩:=s
  try dsimp only at h
  cases h
  refine tq [1000000]
theorem aL0 {F:Nat} {rec_ref3_Alike:aC→aC→Option Bool} (hrec_ref3_Alike:∀ {a0:aC},∀ {a1:aC},∀ {r:Bool},rec_ref3_Alike a0 a1=some r→aG Tryz.prog 40 [.agg (aZ a0),.agg (aZ a1)] [] (.d (.v (.bool r))) []) {a0:aC} {a1:aC} {r:Bool} (h:uQ F rec_ref3_Alike a0 a1=some r):aG Tryz.prog 40 [.agg (aZ a0),.agg (aZ a1)] [] (.d (.v (.bool r))) []:=by
 rw [uQ] at h
 refine aG.intro (N:=81) Tryz.func40 rfl rfl rfl rfl rfl fun e=>?_
 refine tR [] [2,3] ?_
 refine aK ?_
 obtain ⟨z1,hz1,h⟩:=aW h
 refine tR [iW 22 (cO cS (xs:=a0.f3)),iW 25 (cO cS (xs:=a1.f3)),iB 27 hz1,iW 31 (cO bD (xs:=a0.f4)),iW 34 (cO bD (xs:=a1.f4))] [2,3,43] ?_
 refine tC h (fun hc h=>?_) fun hc h=>?_
 ·refine tR [] [4] ?_
  cases h
  refine aP (tq [4])
 ·refine aO (tS ?_)
  refine aK ?_
  refine tR [iW 2 (cO cS (xs:=a0.f3))] [2,3,46,47] ?_
  refine jEt h [2,3] (fun p=>[]) (fun s h hk1=>?_) (fun s h=>?_)
  ·refine aU ?_
   refine tL1 (tM F a0 a1) [.keep [2,3,46,47]] [2,3,46,47] (fun v1=>[(47,dI v1)]) F (0:Int) h fun n v1 h=>?_
   rw [tM] at h
   refine tR [] [2,3,46,47,48] ?_
   refine aK ?_
   refine tC h (fun hc h=>?_) fun hc h=>?_
   ·refine aO (tS ?_)
    refine aK ?_
    refine aU ?_
    refine tR [] [2,3,5,46,47] ?_
    obtain ⟨hp1,h⟩:=aL h
    obtain ⟨hp2,h⟩:=aL h
    refine mO mixed [(3,{ cs:=cS (a0.f3.getD v1.toNat []) }),(8,{ cs:=cS (a1.f3.getD v1.toNat []) })] [2,3,46,47,60] [] [(2,mX a0),(3,mX a1),(46,dI (a0.f3.length:Int)),(47,dI v1),(60,dB (!((a0.f3.getD v1.toNat []) == (a1.f3.getD v1.toNat []))))] [(3,0≤v1∧(a0.f3.map cS)[v1.toNat]? = some (cS (a0.f3.getD v1.toNat []))),(4,0≤v1∧(a1.f3.map cS)[v1.toNat]? = some (cS (a1.f3.getD v1.toNat [])))] 2 (by kernel_rfl) (⟨bX (d:=[]) cS hp1,bX (d:=[]) cS hp2⟩) ?_
    refine tC h (fun hc h=>?_) fun hc h=>?_
    ·refine tR [] [4] ?_
     cases h
     have h:=bE hk1
     cases h
     refine aP (tq [4])
    ·refine aO (tS ?_)
     refine tRe [] [2,3,46,47] (tE [.keep [2,3,46,47]] (IntKind.i64.wrap (v1+(1:Int))) h)
   ·cases h
    refine cZ (tG [.keep [2,3]])
  ·refine tS ?_
   refine aK ?_
   refine tR [iW 2 (cO bD (xs:=a0.f4))] [2,3,64,65] ?_
   refine jEt h [] (fun p=>[]) (fun s h hk2=>?_) (fun s h=>?_)
   ·refine aU ?_
    refine tL1 (tO F a0 a1 rec_ref3_Alike) [.keep [2,3,64,65]] [2,3,64,65] (fun v2=>[(65,dI v2)]) F (0:Int) h fun n v2 h=>?_
    rw [tO] at h
    refine tR [] [2,3,64,65,66] ?_
    refine aK ?_
    refine tC h (fun hc h=>?_) fun hc h=>?_
    ·refine aO (tS ?_)
     refine aK ?_
     refine aU ?_
     refine tR [] [2,3,6,64,65] ?_
     obtain ⟨hp3,h⟩:=aL h
     obtain ⟨hp4,h⟩:=aL h
     obtain ⟨y1,hy1,h⟩:=aH h
     refine jX mixed 1 (.take 0 (.take 1 (.take 2 (.take 3 (.take 4 (.take 5 (.take 6 (.take 7 (.take 8 (.take 9 (.all (.alt 10 (.take 11 .done) .stop)))))))))))) ([0,1,0,6,8,0,32,0,192,256,528,1024],[0,1,0,6,8,0,32,0,192,256,528,1024]) 3071 [(3,{ cs:=aZ (a0.f4.getD v2.toNat dM) }),(8,{ cs:=aZ (a1.f4.getD v2.toNat dM) }),(10,{ res:=dB y1 })] [2,3,64,65,79] [] [(2,mX a0),(3,mX a1),(64,dI (a0.f4.length:Int)),(65,dI v2),(79,dB (!y1))] ((fun (o3:Prop)=>fun (o8:Prop)=>fun (o10:Prop)=>[(3,o3),(4,o8),(1,o10)]) (0≤v2∧(a0.f4.map bD)[v2.toNat]? = some (aZ (a0.f4.getD v2.toNat dM))) (0≤v2∧(a1.f4.map bD)[v2.toNat]? = some (aZ (a1.f4.getD v2.toNat dM))) (aG Tryz.prog 40 [.agg (aZ (a0.f4.getD v2.toNat dM)),.agg (aZ (a1.f4.getD v2.toNat dM))] [] (dB y1) [])) 1 (by kernel_rfl) (by kernel_rfl) (by kernel_rfl) (have p3:=rV (d:=dM) eY hp3; have p8:=rV (d:=dM) eY hp4; have p10:=hrec_ref3_Alike hy1; ⟨p3,p8,p10⟩) ?_
     refine tC h (fun hc h=>?_) fun hc h=>?_
     ·refine tR [] [4] ?_
      cases h
      have h:=bE hk2
      cases h
      refine aP (tq [4])
     ·refine aO (tS ?_)
      refine tRe [] [2,3,64,65] (tE [.keep [2,3,64,65]] (IntKind.i64.wrap (v2+(1:Int))) h)
    ·cases h
     refine cZ (tG [.keep []])
   ·refine tS ?_
    refine tR [] [4] ?_
    cases h
    refine aP (tq [4])
theorem aJ1 {F:Nat} (n:Nat):∀ {a0:aC} {a1:aC} {r:Bool},uN F n a0 a1=some r→aG Tryz.prog 40 [.agg (aZ a0),.agg (aZ a1)] [] (.d (.v (.bool r))) []:=by
 induction n with
 | zero=>intro a0 a1 r h; exact absurd (show (none:Option Bool)=some r from h) (by simp)
 | succ n ih=>intro a0 a1 r h; exact aL0 ih h
theorem bC7 {F:Nat} {a0:aC} {a1:aC} {r:Bool} (h:aW9 F a0 a1=some r):aG Tryz.prog 40 [.agg (aZ a0),.agg (aZ a1)] [] (.d (.v (.bool r))) []:=aJ1 F h
end Go.Vm.PgfG
