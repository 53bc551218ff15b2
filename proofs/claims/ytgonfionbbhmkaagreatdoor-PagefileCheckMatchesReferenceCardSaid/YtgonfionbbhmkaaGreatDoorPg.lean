/-
  Texts.
-/
import Derived.Test.YtgonfionbbhmkaaGreatDoorPf
import Derived.Test.YtgonfionbbhmkaaGreatDoorVmE
set_option maxRecDepth 20000
namespace Go.Vm.PgfG
open Go.Proofs
theorem aP8 {F:Nat} {a0:aJ} {a1:aJ} {r:Bool} (h:xM F a0 a1=some r):aG Tryz.prog 23 [.agg (aF a0),.agg (aF a1)] [] (.d (.v (.bool r))) []:=by
 rw [xM] at h
 refine aG.intro (N:=24) Tryz.func23 rfl rfl rfl rfl rfl fun e=>?_
 refine tR [] [2,3] ?_
 obtain ⟨y1,hy1,h⟩:=aH h
 refine tR [iD 17 [] (fun hg=>bC7 (eG hg hy1))] [4] ?_
 cases h
 refine aP (tq [4])
theorem aT5 {F:Nat} {a0:bC} {a1:bC} {r:Bool} (h:yQ F a0 a1=some r):aG Tryz.prog 16 [.agg (bP a0),.agg (bP a1)] [] (.d (.v (.bool r))) []:=by
 rw [yQ] at h
 refine aG.intro (N:=39) Tryz.func16 rfl rfl rfl rfl rfl fun e=>?_
 refine tR [] [2,3] ?_
 refine aK ?_
 refine tR [iW 8 (cO aF (xs:=a0.f1)),iW 11 (cO aF (xs:=a1.f1))] [2,3,19] ?_
 refine tC h (fun hc h=>?_) fun hc h=>?_
 ·refine tR [] [4] ?_
  cases h
  refine aP (tq [4])
 ·refine aO (tS ?_)
  refine aK ?_
  refine tR [iW 2 (cO aF (xs:=a0.f1))] [2,3,22,23] ?_
  refine jEt h [] (fun p=>[]) (fun s h hk1=>?_) (fun s h=>?_)
  ·refine aU ?_
   refine tL1 (pG F a0 a1) [.keep [2,3,22,23]] [2,3,22,23] (fun v1=>[(23,dI v1)]) F (0:Int) h fun n v1 h=>?_
   rw [pG] at h
   refine tR [] [2,3,22,23,24] ?_
   refine aK ?_
   refine tC h (fun hc h=>?_) fun hc h=>?_
   ·refine aO (tS ?_)
    refine aK ?_
    refine aU ?_
    refine tR [] [2,3,5,22,23] ?_
    obtain ⟨hp1,h⟩:=aL h
    obtain ⟨hp2,h⟩:=aL h
    obtain ⟨y1,hy1,h⟩:=aH h
    refine jX mixed 1 (.take 0 (.take 1 (.take 2 (.take 3 (.take 4 (.take 5 (.take 6 (.take 7 (.take 8 (.take 9 (.all (.alt 10 (.take 11 .done) .stop)))))))))))) ([0,1,0,6,8,0,32,0,192,256,528,1024],[0,1,0,6,8,0,32,0,192,256,528,1024]) 3071 [(3,{ cs:=aF (a0.f1.getD v1.toNat bB) }),(8,{ cs:=aF (a1.f1.getD v1.toNat bB) }),(10,{ res:=dB y1 })] [2,3,22,23,37] [] [(2,kM a0),(3,kM a1),(22,dI (a0.f1.length:Int)),(23,dI v1),(37,dB (!y1))] ((fun (o3:Prop)=>fun (o8:Prop)=>fun (o10:Prop)=>[(3,o3),(4,o8),(1,o10)]) (0≤v1∧(a0.f1.map aF)[v1.toNat]? = some (aF (a0.f1.getD v1.toNat bB))) (0≤v1∧(a1.f1.map aF)[v1.toNat]? = some (aF (a1.f1.getD v1.toNat bB))) (aG Tryz.prog 23 [.agg (aF (a0.f1.getD v1.toNat bB)),.agg (aF (a1.f1.getD v1.toNat bB))] [] (dB y1) [])) 1 (by kernel_rfl) (by kernel_rfl) (by kernel_rfl) (have p3:=bX (d:=bB) aF hp1; have p8:=bX (d:=bB) aF hp2; have p10:=aP8 hy1; ⟨p3,p8,p10⟩) ?_
    refine tC h (fun hc h=>?_) fun hc h=>?_
    ·refine tR [] [4] ?_
     cases h
     have h:=bE hk1
     cases h
     refine aP (tq [4])
    ·refine aO (tS ?_)
     refine tRe [] [2,3,22,23] (tE [.keep [2,3,22,23]] (IntKind.i64.wrap (v1+(1:Int))) h)
   ·cases h
    refine cZ (tG [.keep []])
  ·refine tS ?_
   refine tR [] [4] ?_
   cases h
   refine aP (tq [4])
theorem xJ {F:Nat} {a0:Int} {r:Bool} (h:nT F a0=some r):aG Tryz.prog 59 [.d (.v (.int .u8 a0))] [] (.d (.v (.bool r))) []:=by
 rw [nT] at h
 refine aG.intro (N:=9) Tryz.func59 rfl rfl rfl rfl rfl fun e=>?_
 refine tR [] [0] ?_
 refine tR [] [2] ?_
 cases h
 refine aP (tq [2])
theorem aE6 {F:Nat} {a0:Int} {r:Bool} (h:mI F a0=some r):aG Tryz.prog 61 [.d (.v (.int .u8 a0))] [] (.d (.v (.bool r))) []:=by
 rw [mI] at h
 refine aG.intro (N:=17) Tryz.func61 rfl rfl rfl rfl rfl fun e=>?_
 refine tR [] [0] ?_
 obtain ⟨z1,hz1,h⟩:=aW h
 refine tR [iB 13 hz1] [2] ?_
 cases h
 refine aP (tq [2])
theorem wT {F:Nat} {a0:List UInt8} {r:Int} (h:lX F a0=some r):aG Tryz.prog 60 [.d (.str a0)] [] (.d (.v (.int .i64 r))) []:=by
 rw [lX] at h
 refine aG.intro (N:=43) Tryz.func60 rfl rfl rfl rfl rfl fun e=>?_
 refine tR [] [0] ?_
 refine aK ?_
 refine tR [] [0,5,6] ?_
 refine jEt h [0] (fun p=>[]) (fun s h hk1=>?_) (fun s h=>?_)
 ·refine aU ?_
  refine tL1 (gY F a0) [.keep [0,5,6]] [0,5,6] (fun v1=>[(6,dI v1)]) F (0:Int) h fun n v1 h=>?_
  rw [gY] at h
  refine tR [] [0,5,6,7] ?_
  refine aK ?_
  refine tC h (fun hc h=>?_) fun hc h=>?_
  ·refine aO (tS ?_)
   refine aK ?_
   refine aU ?_
   refine tR [] [0,3,5,6] ?_
   obtain ⟨hp1,h⟩:=aL h
   obtain ⟨y1,hy1,h⟩:=aH h
   obtain ⟨hp2,h⟩:=aL h
   obtain ⟨y2,hy2,h⟩:=aH h
   obtain ⟨hp3,h⟩:=aL h
   obtain ⟨z1,hz1,h⟩:=aW h
   obtain ⟨hp4,h⟩:=aL h
   obtain ⟨hp5,h⟩:=aL h
   obtain ⟨z2,hz2,h⟩:=aW h
   refine tR [iP 2 hp1,iC 3 [] (aE6 hy1),iF 8 {} (show ((((!y1) == true) && true)=true→0≤v1∧v1 < a0.length) from (fun hg=>(hp2 hg))),iD 9 [] (fun hg=>xJ (eG hg hy2)),iF 15 {} (show ((((bif (!y1) then (!y2) else false) == true) && true)=true→0≤v1∧v1 < a0.length) from (fun hg=>(hp3 hg))),iB 17 hz1,iF 21 {} (show (((z1 == true) && true)=true→0≤v1∧v1 < a0.length) from (fun hg=>(hp4 hg))),iF 27 {} (show ((((bif z1 then (((a0.getD v1.toNat 0).toNat:Int) != (95:Int)) else false) == true) && true)=true→0≤v1∧v1 < a0.length) from (fun hg=>(hp5 hg))),iB 29 hz2] [0,5,6,38] ?_
   refine tC h (fun hc h=>?_) fun hc h=>?_
   ·refine tR [] [2] ?_
    cases h
    have h:=bE hk1
    cases h
    refine aP (tq [2])
   ·refine aO (tS ?_)
    refine tRe [] [0,5,6] (tE [.keep [0,5,6]] (IntKind.i64.wrap (v1+(1:Int))) h)
  ·cases h
   refine cZ (tG [.keep [0]])
 ·refine tS ?_
  refine aK ?_
  refine tR [] [42] ?_
  refine tC h (fun hc h=>?_) fun hc h=>?_
  ·refine tR [] [2] ?_
   cases h
   refine aP (tq [2])
  ·refine aO (tS ?_)
   refine tR [] [2] ?_
   cases h
   refine aP (tq [2])
theorem aA2 {F:Nat} {a0:Int} {r:(List UInt8)} (h:oC F a0=some r):aG Tryz.prog 25 [.d (.v (.int .i64 a0))] [] (.d (.str r)) []:=by
 rw [oC] at h
 refine aG.intro (N:=31) Tryz.func25 rfl rfl rfl rfl rfl fun e=>?_
 refine tR [] [0] ?_
 refine aK ?_
 refine tR [] [0,7] ?_
 refine tC h (fun hc h=>?_) fun hc h=>?_
 ·refine tR [] [2] ?_
  cases h
  refine aP (tq [2])
 ·refine aO (tS ?_)
  refine tR [] [0,3,4] ?_
  refine jc h [3,4] (fun p=>[(3,.d (.str p))]) (fun s h=>?_) (fun v4 h=>?_)
  ·refine aU ?_
   refine tL2 (jS F) [.keep [0,3,4]] [0,3,4] (fun v1 v2=>[(0,dI v1),(3,.d (.str v2))]) F a0 [] h fun n v1 v2 h=>?_
   rw [jS] at h
   refine aK ?_
   refine tR [] [0,3,4,11] ?_
   refine tC h (fun hc h=>?_) fun hc h=>?_
   ·refine aO (tS ?_)
    refine aU ?_
    refine tR [iP 1 (show (10:Int)≠0 by decide)] [0,3,4,5] ?_
    refine jc h [0,3,4,5] (fun p=>[(5,dI p)]) (fun s h=>?_) (fun v3 h=>?_)
    ·refine tR [] [0,3,4,5,15] ?_
     refine tC h (fun hc h=>?_) fun hc h=>?_
     ·cases h
      refine tRe [] [0,3,4,5] (tJ [.keep [0,3,4,5]])
     ·cases h
      refine aO (tJ [.keep [0,3,4,5]])
    ·obtain ⟨hp1,h⟩:=aL h
     obtain ⟨hp2,h⟩:=aL h
     refine tR [iX 3 { es:=some (([(UInt8.ofNat (IntKind.u8.wrap (IntKind.i64.wrap ((48:Int)+v3))).toNat)]).map cU) } (show [[Dat.v (.int .u8 (IntKind.u8.wrap (IntKind.i64.wrap ((48:Int)+v3))))]]=(([(UInt8.ofNat (IntKind.u8.wrap (IntKind.i64.wrap ((48:Int)+v3))).toNat)]).map cU) from oZ hp1 (rfl:([]:List (List Dat))=([]:List UInt8).map cU)),iX 4 { cs:=[.str ([(UInt8.ofNat (IntKind.u8.wrap (IntKind.i64.wrap ((48:Int)+v3))).toNat)])] } (show (([(UInt8.ofNat (IntKind.u8.wrap (IntKind.i64.wrap ((48:Int)+v3))).toNat)]).map cU)=byteCells ([(UInt8.ofNat (IntKind.u8.wrap (IntKind.i64.wrap ((48:Int)+v3))).toNat)]) from rfl),iP 6 hp2] [0,3,4] ?_
     refine tRe [iP 1 (show (10:Int)≠0 by decide)] [0,3,4] (tE [.keep [0,3,4]] (IntKind.i64.wrap (v1.tdiv (10:Int)),(([(UInt8.ofNat (IntKind.u8.wrap (IntKind.i64.wrap ((48:Int)+v3))).toNat)])++v2)) h)
   ·cases h
    refine cZ (tJ [.keep [3,4]])
  ·refine aK ?_
   refine tR [] [3,27] ?_
   refine tC h (fun hc h=>?_) fun hc h=>?_
   ·obtain ⟨hp3,h⟩:=aL h
    refine tR [iP 1 hp3] [2] ?_
    cases h
    refine aP (tq [2])
   ·refine aO (tS ?_)
    refine tR [] [2] ?_
    cases h
    refine aP (tq [2])
theorem uP {F:Nat} {a0:aM} {r:(List UInt8)×Int} (h:bM F a0=some r):aG Tryz.prog 39 [.agg (bH a0)] [] (.tup [.d (.str r.1),.d (.v (.int .i64 r.2))]) []:=by
 rw [bM] at h
 refine aG.intro (N:=283) Tryz.func39 rfl rfl rfl rfl rfl fun e=>?_
 refine tR [] [1] ?_
 refine tR [] [1,4] ?_
 obtain ⟨z7,hz1,h⟩:=aW h
 refine tR [iB 12 hz1] [1,4,5] ?_
 refine aK ?_
 refine tR [] [1,4,5,41] ?_
 refine tC h (fun hc h=>?_) fun hc h=>?_
 ·refine tR [] [2,3] ?_
  cases h
  refine aP (tq [2,3])
 ·refine aO (tS ?_)
  refine aK ?_
  obtain ⟨z8,hz2,h⟩:=aW h
  refine tR [iB 6 hz2] [1,57] ?_
  refine tC h (fun hc h=>?_) fun hc h=>?_
  ·refine tR [] [2,3] ?_
   cases h
   refine aP (tq [2,3])
  ·refine aO (tS ?_)
   refine jE h [1] (fun p=>[]) (fun s h hk1=>?_) (fun s h=>?_)
   ·refine tR [] [1,60] ?_
    refine tC h (fun hc h=>?_) fun hc h=>?_
    ·refine tR [] [1,6] ?_
     refine aK ?_
     refine tR [] [1,6,66,67] ?_
     refine jct h [1,6] (fun p=>[(6,dB p)]) (fun s h=>?_) (fun v6 h=>?_)
     ·refine aU ?_
      refine tL2 (gO F a0) [.keep [1,6,66,67]] [1,6,66,67] (fun v1 v2=>[(6,dB v1),(67,dI v2)]) F (a0.f2 == []) (0:Int) h fun n v1 v2 h=>?_
      rw [gO] at h
      refine tR [] [1,6,66,67,68] ?_
      refine aK ?_
      refine tC h (fun hc h=>?_) fun hc h=>?_
      ·refine aO (tS ?_)
       refine aK ?_
       refine aU ?_
       refine tR [] [1,6,7,66,67] ?_
       obtain ⟨hp1,h⟩:=aL h
       refine tRe [iF 5 {} (show (((v1 == false) && true)=true→0≤v2∧v2 < a0.f2.length) from (fun hg=>(hp1 hg)))] [1,6,66,67] (tS ?_)
       refine tRe [] [1,6,66,67] (tE [.keep [1,6,66,67]] ((bif v1 then true else (((a0.f2.getD v2.toNat 0).toNat:Int) == (0:Int))),IntKind.i64.wrap (v2+(1:Int))) h)
      ·cases h
       refine cZ (tJ [.keep [1,6]])
     ·refine tS ?_
      refine tR [] [1,79] ?_
      refine tC h (fun hc h=>?_) fun hc h=>?_
      ·refine tR [] [2,3] ?_
       cases h
       have h:=bE hk1
       cases h
       refine aP (tq [2,3])
      ·cases h
       refine aO (tG [.keep [1]])
    ·cases h
     refine aO (tG [.keep [1]])
   ·refine aK ?_
    obtain ⟨z9,hz3,h⟩:=aW h
    obtain ⟨z10,hz4,h⟩:=aW h
    refine tR [iB 12 hz3,iB 26 hz4] [1,107] ?_
    refine tC h (fun hc h=>?_) fun hc h=>?_
    ·refine tR [] [2,3] ?_
     cases h
     refine aP (tq [2,3])
    ·refine aO (tS ?_)
     refine aK ?_
     obtain ⟨z11,hz5,h⟩:=aW h
     refine tR [iB 19 hz5] [1,127] ?_
     refine tC h (fun hc h=>?_) fun hc h=>?_
     ·refine tR [] [2,3] ?_
      cases h
      refine aP (tq [2,3])
     ·refine aO (tS ?_)
      refine aK ?_
      refine tR [] [1,130] ?_
      refine tC h (fun hc h=>?_) fun hc h=>?_
      ·refine aK ?_
       obtain ⟨hp2,h⟩:=aL h
       obtain ⟨y3,hy1,h⟩:=aH h
       obtain ⟨y4,hy2,h⟩:=aH h
       refine tR [iF 6 {} (show ((((a0.f2 == []) == false) && true)=true→0≤(0:Int)∧(0:Int) < a0.f2.length) from (fun hg=>(hp2 hg))),iD 7 [] (fun hg=>xJ (eG hg hy1)),iD 12 [] (fun hg=>wT (eG hg hy2))] [1,145] ?_
       refine tC h (fun hc h=>?_) fun hc h=>?_
       ·refine tR [] [2,3] ?_
        cases h
        refine aP (tq [2,3])
       ·refine aO (tS ?_)
        refine aK ?_
        obtain ⟨y5,hy3,h⟩:=aH h
        refine tR [iC 2 [] (wT hy3)] [1,8] ?_
        refine tR [] [1,8,150] ?_
        refine tC h (fun hc h=>?_) fun hc h=>?_
        ·refine tR [] [2,3] ?_
         cases h
         refine aP (tq [2,3])
        ·refine aO (tS ?_)
         refine tR [] [2,3] ?_
         cases h
         refine aP (tq [2,3])
      ·refine aO (tS ?_)
       refine aK ?_
       refine tR [] [1,155] ?_
       refine aU ?_
       refine tR [] [1,155,156] ?_
       refine tC h (fun hc h=>?_) fun hc h=>?_
       ·obtain ⟨y6,hy4,h⟩:=aH h
        refine tR [iC 2 [] (aA2 hy4)] [2,3] ?_
        cases h
        refine aP (tq [2,3])
       ·refine tR [] [1,155,161] ?_
        refine tC h (fun hc h=>?_) fun hc h=>?_
        ·obtain ⟨y7,hy5,h⟩:=aH h
         obtain ⟨hp3,h⟩:=aL h
         refine tR [iC 2 [] (aA2 hy5),iP 3 hp3] [2,3] ?_
         cases h
         refine aP (tq [2,3])
        ·refine tR [] [1,155,167] ?_
         refine tC h (fun hc h=>?_) fun hc h=>?_
         ·refine tR [] [2,3] ?_
          cases h
          refine aP (tq [2,3])
         ·refine tR [] [1,155,169] ?_
          refine tC h (fun hc h=>?_) fun hc h=>?_
          ·refine tR [] [2,3] ?_
           cases h
           refine aP (tq [2,3])
          ·refine tR [] [1,155,171] ?_
           refine tC h (fun hc h=>?_) fun hc h=>?_
           ·refine tR [] [2,3] ?_
            cases h
            refine aP (tq [2,3])
           ·refine tR [] [1,173] ?_
            refine tC h (fun hc h=>?_) fun hc h=>?_
            ·refine tR [] [2,3] ?_
             cases h
             refine aP (tq [2,3])
            ·refine aO (tS ?_)
             refine tR [] [1,9] ?_
             refine aK ?_
             refine tR [] [1,9,177,178] ?_
             refine jct h [1,9] (fun p=>[(9,oW1 p)]) (fun s h=>?_) (fun v7 h=>?_)
             ·refine aU ?_
              refine tL2 (eF F a0) [.keep [1,9,177,178]] [1,9,177,178] (fun v3 v4=>[(9,oW1 v3),(178,dI v4)]) F [] (0:Int) h fun n v3 v4 h=>?_
              rw [eF] at h
              refine tR [] [1,9,177,178,179] ?_
              refine aK ?_
              refine tC h (fun hc h=>?_) fun hc h=>?_
              ·refine aO (tS ?_)
               refine jc h [1,9,177,178] (fun p=>[(9,oW1 p)]) (fun s h=>?_) (fun v5 h=>?_)
               ·refine aU ?_
                refine tR [] [1,9,10,177,178] ?_
                obtain ⟨hp4,h⟩:=aL h
                refine tR [iP 3 hp4] [1,9,11,177,178] ?_
                obtain ⟨hp5,h⟩:=aL h
                obtain ⟨z1,hz6,h⟩:=aW h
                obtain ⟨hp6,h⟩:=aL h
                obtain ⟨z2,hz7,h⟩:=aW h
                obtain ⟨hp7,h⟩:=aL h
                obtain ⟨hp8,h⟩:=aL h
                refine jX mixed 1 (.take 0 (.take 1 (.take 2 (.take 3 (.take 4 (.take 5 (.all (.alt 6 (.take 7 .done) .stop)))))))) ([0,1,2,0,8,16,36,127],[0,1,2,0,8,16,36,64]) 191 [(2,{ rw:=some (.d (.v (.int .u8 z1))) }),(5,{ rw:=some (.d (.v (.int .u8 z2))) }),(6,{ es:=some (([(UInt8.ofNat z1.toNat),(UInt8.ofNat z2.toNat)]).map cU) })] [1,9,11,12,177,178] [] [(1,aN6 a0),(9,oW1 v3),(11,.d (.v (.int .u8 ((a0.f2.getD v4.toNat 0).toNat:Int)))),(12,.own 5 1 (([(UInt8.ofNat z1.toNat),(UInt8.ofNat z2.toNat)]).map cU)),(177,dI (a0.f2.length:Int)),(178,dI v4)] ((fun (o1:Prop)=>fun (o2:Prop)=>fun (o4:Prop)=>fun (o5:Prop)=>fun (o6:Prop)=>[(1,o1),(0,o2),(1,o4),(0,o5),(0,o6)]) ((16:Int)≠0) ((0≤(IntKind.u8.wrap (((a0.f2.getD v4.toNat 0).toNat:Int).tdiv (16:Int)))∧(IntKind.u8.wrap (((a0.f2.getD v4.toNat 0).toNat:Int).tdiv (16:Int))) < ([48,49,50,51,52,53,54,55,56,57,97,98,99,100,101,102]:List UInt8).length)∧AV.d (.v (.int .u8 ((([48,49,50,51,52,53,54,55,56,57,97,98,99,100,101,102]:List UInt8).getD (IntKind.u8.wrap (((a0.f2.getD v4.toNat 0).toNat:Int).tdiv (16:Int))).toNat 0).toNat:Int)))=.d (.v (.int .u8 z1))) ((16:Int)≠0) ((0≤(((a0.f2.getD v4.toNat 0).toNat:Int).tmod (16:Int))∧(((a0.f2.getD v4.toNat 0).toNat:Int).tmod (16:Int)) < ([48,49,50,51,52,53,54,55,56,57,97,98,99,100,101,102]:List UInt8).length)∧AV.d (.v (.int .u8 ((([48,49,50,51,52,53,54,55,56,57,97,98,99,100,101,102]:List UInt8).getD (((a0.f2.getD v4.toNat 0).toNat:Int).tmod (16:Int)).toNat 0).toNat:Int)))=.d (.v (.int .u8 z2))) ([[Dat.v (.int .u8 z1)],[Dat.v (.int .u8 z2)]]=(([(UInt8.ofNat z1.toNat),(UInt8.ofNat z2.toNat)]).map cU))) 1 (by kernel_rfl) (by kernel_rfl) (by kernel_rfl) (have p1:=(show (16:Int)≠0 by decide); have p2:=⟨hp5,(by subst hz6; rfl)⟩; have p4:=(show (16:Int)≠0 by decide); have p5:=⟨hp6,(by subst hz7; rfl)⟩; have p6:=(oZ hp7 (oZ hp8 (rfl:([]:List (List Dat))=([]:List UInt8).map cU))); ⟨p1,p2,p4,p5,p6⟩) ?_
                refine aU ?_
                obtain ⟨y1,hy6,h⟩:=aH h
                obtain ⟨y2,hy7,h⟩:=aH h
                obtain ⟨z3,hz8,h⟩:=aW h
                obtain ⟨z4,hz9,h⟩:=aW h
                refine tR [iD 5 [] (fun hg=>aE6 (eG hg hy6)),iD 8 [] (fun hg=>xJ (eG hg hy7)),iB 13 hz8,iB 21 hz9] [1,9,11,12,177,178,196] ?_
                refine tC h (fun hc h=>?_) fun hc h=>?_
                ·obtain ⟨hp9,h⟩:=aL h
                 obtain ⟨hp10,h⟩:=aL h
                 cases h
                 refine tRe [iX 2 { es:=some (([(UInt8.ofNat ((a0.f2.getD v4.toNat 0).toNat:Int).toNat)]).map cU) } (show [[Dat.v (.int .u8 ((a0.f2.getD v4.toNat 0).toNat:Int))]]=(([(UInt8.ofNat ((a0.f2.getD v4.toNat 0).toNat:Int).toNat)]).map cU) from oZ hp9 (rfl:([]:List (List Dat))=([]:List UInt8).map cU)),iE 3 (gB cU hp10)] [1,9,177,178] (tJ [.keep [1,9,177,178]])
                ·refine tR [] [1,9,11,12,177,178,224] ?_
                 refine tC h (fun hc h=>?_) fun hc h=>?_
                 ·obtain ⟨hp11,h⟩:=aL h
                  obtain ⟨hp12,h⟩:=aL h
                  obtain ⟨l1,hl1,h⟩:=aW h
                  obtain hs:=Option.some.inj h; subst hs
                  refine tRe [iX 1 { es:=some (([(UInt8.ofNat (35:Int).toNat)]).map cU) } (show [[Dat.v (.int .u8 (35:Int))]]=(([(UInt8.ofNat (35:Int).toNat)]).map cU) from oZ (by decide) (rfl:([]:List (List Dat))=([]:List UInt8).map cU)),iE 2 (gB cU hp11),iX 4 { es:=some (l1.map cU) } (show ((v3++([(UInt8.ofNat (35:Int).toNat)])).map cU).length+(([(UInt8.ofNat z1.toNat),(UInt8.ofNat z2.toNat)]).map cU).length≤4294967296∧((v3++([(UInt8.ofNat (35:Int).toNat)])).map cU)++(([(UInt8.ofNat z1.toNat),(UInt8.ofNat z2.toNat)]).map cU)=(l1.map cU) from vP (gB cU hp12) (by subst hl1; rfl))] [1,9,177,178] (tJ [.keep [1,9,177,178]])
                 ·refine tR [] [1,9,11,12,177,178,233] ?_
                  refine tC h (fun hc h=>?_) fun hc h=>?_
                  ·obtain ⟨hp13,h⟩:=aL h
                   cases h
                   refine tRe [iX 1 { es:=some (([(UInt8.ofNat (92:Int).toNat),(UInt8.ofNat (110:Int).toNat)]).map cU) } (show [[Dat.v (.int .u8 (92:Int))],[Dat.v (.int .u8 (110:Int))]]=(([(UInt8.ofNat (92:Int).toNat),(UInt8.ofNat (110:Int).toNat)]).map cU) from oZ (by decide) (oZ (by decide) (rfl:([]:List (List Dat))=([]:List UInt8).map cU))),iE 2 (gB cU hp13)] [1,9,177,178] (tJ [.keep [1,9,177,178]])
                  ·refine tR [] [1,9,11,12,177,178,239] ?_
                   refine tC h (fun hc h=>?_) fun hc h=>?_
                   ·obtain ⟨hp14,h⟩:=aL h
                    cases h
                    refine tRe [iX 1 { es:=some (([(UInt8.ofNat (92:Int).toNat),(UInt8.ofNat (116:Int).toNat)]).map cU) } (show [[Dat.v (.int .u8 (92:Int))],[Dat.v (.int .u8 (116:Int))]]=(([(UInt8.ofNat (92:Int).toNat),(UInt8.ofNat (116:Int).toNat)]).map cU) from oZ (by decide) (oZ (by decide) (rfl:([]:List (List Dat))=([]:List UInt8).map cU))),iE 2 (gB cU hp14)] [1,9,177,178] (tJ [.keep [1,9,177,178]])
                   ·obtain ⟨z5,hz10,h⟩:=aW h
                    refine tR [iB 5 hz10] [1,9,11,12,177,178,245] ?_
                    refine tC h (fun hc h=>?_) fun hc h=>?_
                    ·obtain ⟨hp15,h⟩:=aL h
                     obtain ⟨hp16,h⟩:=aL h
                     obtain ⟨l2,hl2,h⟩:=aW h
                     obtain hs:=Option.some.inj h; subst hs
                     refine tRe [iX 2 { es:=some (([(UInt8.ofNat (92:Int).toNat),(UInt8.ofNat ((a0.f2.getD v4.toNat 0).toNat:Int).toNat)]).map cU) } (show [[Dat.v (.int .u8 (92:Int))],[Dat.v (.int .u8 ((a0.f2.getD v4.toNat 0).toNat:Int))]]=(([(UInt8.ofNat (92:Int).toNat),(UInt8.ofNat ((a0.f2.getD v4.toNat 0).toNat:Int).toNat)]).map cU) from oZ (by decide) (oZ hp15 (rfl:([]:List (List Dat))=([]:List UInt8).map cU))),iX 3 { es:=some (l2.map cU) } (show (v3.map cU).length+(([(UInt8.ofNat (92:Int).toNat),(UInt8.ofNat ((a0.f2.getD v4.toNat 0).toNat:Int).toNat)]).map cU).length≤4294967296∧(v3.map cU)++(([(UInt8.ofNat (92:Int).toNat),(UInt8.ofNat ((a0.f2.getD v4.toNat 0).toNat:Int).toNat)]).map cU)=(l2.map cU) from vP (gB cU hp16) (by subst hl2; rfl))] [1,9,177,178] (tJ [.keep [1,9,177,178]])
                    ·obtain ⟨z6,hz11,h⟩:=aW h
                     refine tR [iB 5 hz11] [1,9,11,12,177,178,260] ?_
                     refine tC h (fun hc h=>?_) fun hc h=>?_
                     ·obtain ⟨hp17,h⟩:=aL h
                      obtain ⟨hp18,h⟩:=aL h
                      obtain ⟨l3,hl3,h⟩:=aW h
                      obtain hs:=Option.some.inj h; subst hs
                      refine tRe [iX 1 { es:=some (([(UInt8.ofNat (92:Int).toNat),(UInt8.ofNat (120:Int).toNat)]).map cU) } (show [[Dat.v (.int .u8 (92:Int))],[Dat.v (.int .u8 (120:Int))]]=(([(UInt8.ofNat (92:Int).toNat),(UInt8.ofNat (120:Int).toNat)]).map cU) from oZ (by decide) (oZ (by decide) (rfl:([]:List (List Dat))=([]:List UInt8).map cU))),iE 2 (gB cU hp17),iX 4 { es:=some (l3.map cU) } (show ((v3++([(UInt8.ofNat (92:Int).toNat),(UInt8.ofNat (120:Int).toNat)])).map cU).length+(([(UInt8.ofNat z1.toNat),(UInt8.ofNat z2.toNat)]).map cU).length≤4294967296∧((v3++([(UInt8.ofNat (92:Int).toNat),(UInt8.ofNat (120:Int).toNat)])).map cU)++(([(UInt8.ofNat z1.toNat),(UInt8.ofNat z2.toNat)]).map cU)=(l3.map cU) from vP (gB cU hp18) (by subst hl3; rfl))] [1,9,177,178] (tJ [.keep [1,9,177,178]])
                     ·obtain ⟨hp19,h⟩:=aL h
                      obtain ⟨hp20,h⟩:=aL h
                      cases h
                      refine tRe [iX 2 { es:=some (([(UInt8.ofNat ((a0.f2.getD v4.toNat 0).toNat:Int).toNat)]).map cU) } (show [[Dat.v (.int .u8 ((a0.f2.getD v4.toNat 0).toNat:Int))]]=(([(UInt8.ofNat ((a0.f2.getD v4.toNat 0).toNat:Int).toNat)]).map cU) from oZ hp19 (rfl:([]:List (List Dat))=([]:List UInt8).map cU)),iE 3 (gB cU hp20)] [1,9,177,178] (tJ [.keep [1,9,177,178]])
               ·refine tRe [] [1,9,177,178] (tE [.keep [1,9,177,178]] (v5,IntKind.i64.wrap (v4+(1:Int))) h)
              ·cases h
               refine cZ (tJ [.keep [1,9]])
             ·refine tS ?_
              refine aK ?_
              refine tR [] [9,275] ?_
              refine tC h (fun hc h=>?_) fun hc h=>?_
              ·obtain ⟨hp21,h⟩:=aL h
               refine tR [iX 1 { cs:=[.str v7] } (show (v7.map cU)=byteCells v7 from rfl),iP 2 hp21] [2,3] ?_
               cases h
               refine aP (tq [2,3])
              ·refine aO (tS ?_)
               obtain ⟨hp22,h⟩:=aL h
               obtain ⟨hp23,h⟩:=aL h
               refine tR [iX 1 { cs:=[.str v7] } (show (v7.map cU)=byteCells v7 from rfl),iP 2 hp22,iP 3 hp23] [2,3] ?_
               cases h
               refine aP (tq [2,3])
theorem aO6 {F:Nat} {a0:aC} {a1:Int} {r:Int} (h:nP F a0 a1=some r):aG Tryz.prog 58 [.agg (aZ a0),.d (.v (.int .i64 a1))] [] (.d (.v (.int .i64 r))) []:=by
 rw [nP] at h
 refine aG.intro (N:=133) Tryz.func58 rfl rfl rfl rfl rfl fun e=>?_
 refine tR [] [1,2] ?_
 refine tR [] [1,2,5] ?_
 refine aK ?_
 refine aU ?_
 refine tR [] [1,2,5,12] ?_
 refine tC h (fun hc h=>?_) fun hc h=>?_
 ·refine tR [] [4] ?_
  cases h
  refine aP (tq [4])
 ·refine tR [] [2,5,19] ?_
  refine tC h (fun hc h=>?_) fun hc h=>?_
  ·refine tR [] [4] ?_
   cases h
   refine aP (tq [4])
  ·obtain ⟨z2,hz1,h⟩:=aW h
   refine tR [iB 10 hz1] [2,5,22] ?_
   refine tC h (fun hc h=>?_) fun hc h=>?_
   ·refine tR [] [4] ?_
    cases h
    refine aP (tq [4])
   ·obtain ⟨z3,hz2,h⟩:=aW h
    refine tR [iB 10 hz2] [2,5,38] ?_
    refine tC h (fun hc h=>?_) fun hc h=>?_
    ·refine tR [] [4] ?_
     cases h
     refine aP (tq [4])
    ·obtain ⟨z4,hz3,h⟩:=aW h
     refine tR [iW 2 (cO bD (xs:=a0.f4)),iB 11 hz3] [2,5,50] ?_
     refine tC h (fun hc h=>?_) fun hc h=>?_
     ·refine tR [] [4] ?_
      cases h
      refine aP (tq [4])
     ·obtain ⟨z5,hz4,h⟩:=aW h
      refine tR [iW 5 (cO cS (xs:=a0.f3)),iW 8 (cO bD (xs:=a0.f4)),iW 17 (cO cS (xs:=a0.f3)),iB 20 hz4] [2,5,63] ?_
      refine tC h (fun hc h=>?_) fun hc h=>?_
      ·refine tR [] [4] ?_
       cases h
       refine aP (tq [4])
      ·obtain ⟨z6,hz5,h⟩:=aW h
       refine tR [iB 11 hz5] [2,85] ?_
       refine tC h (fun hc h=>?_) fun hc h=>?_
       ·refine tR [] [4] ?_
        cases h
        refine aP (tq [4])
       ·refine tR [iW 2 (cO bD (xs:=a0.f4))] [2,98] ?_
        refine tC h (fun hc h=>?_) fun hc h=>?_
        ·refine tR [] [4] ?_
         cases h
         refine aP (tq [4])
        ·refine aO (tS ?_)
         refine aK ?_
         refine tR [iW 2 (cO cS (xs:=a0.f3))] [2,104,105,106] ?_
         refine jEt h [] (fun p=>[]) (fun s h hk1=>?_) (fun s h=>?_)
         ·refine aU ?_
          refine tL1 (gD F a0) [.keep [2,104,105,106]] [2,104,105,106] (fun v1=>[(106,dI v1)]) F (0:Int) h fun n v1 h=>?_
          rw [gD] at h
          refine tR [] [2,104,105,106,107] ?_
          refine aK ?_
          refine tC h (fun hc h=>?_) fun hc h=>?_
          ·refine aO (tS ?_)
           refine aK ?_
           refine aU ?_
           obtain ⟨hp1,h⟩:=aL h
           refine tR [iI 1 (bX (d:=[]) cS hp1)] [2,6,7,104,105,106] ?_
           refine aK ?_
           obtain ⟨y1,hy1,h⟩:=aH h
           refine tR [iC 2 [] (uP hy1)] [2,6,7,9,104,105,106] ?_
           refine tR [] [2,6,7,9,104,105,106,118] ?_
           refine tC h (fun hc h=>?_) fun hc h=>?_
           ·refine tR [] [4] ?_
            cases h
            have h:=bE hk1
            cases h
            refine aP (tq [4])
           ·refine aO (tS ?_)
            obtain ⟨hp2,h⟩:=aL h
            obtain ⟨z1,hz6,h⟩:=aW h
            refine tR [iF 8 { cs:=cS (a0.f3.getD (IntKind.i64.wrap (v1 - (1:Int))).toNat []) } (show ((((decide (v1 > (0:Int))) == true) && true)=true→0≤(IntKind.i64.wrap (v1 - (1:Int)))∧(a0.f3.map cS)[(IntKind.i64.wrap (v1 - (1:Int))).toNat]? = some (cS (a0.f3.getD (IntKind.i64.wrap (v1 - (1:Int))).toNat []))) from (fun hg=>bX (d:=[]) cS (hp2 hg))),iB 10 hz6] [2,104,105,106,131] ?_
            refine tC h (fun hc h=>?_) fun hc h=>?_
            ·refine tR [] [4] ?_
             cases h
             have h:=bE hk1
             cases h
             refine aP (tq [4])
            ·refine aO (tS ?_)
             refine tRe [] [2,104,105,106] (tE [.keep [2,104,105,106]] (IntKind.i64.wrap (v1+(1:Int))) h)
          ·cases h
           refine cZ (tG [.keep []])
         ·refine tS ?_
          refine tR [] [4] ?_
          cases h
          refine aP (tq [4])
end Go.Vm.PgfG
