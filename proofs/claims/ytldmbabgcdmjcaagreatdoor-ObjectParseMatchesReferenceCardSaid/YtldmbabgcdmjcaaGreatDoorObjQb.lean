import Derived.Test.YtldmbabgcdmjcaaGreatDoorObjQ
import Derived.Test.YtldmbabgcdmjcaaGreatDoorVmD
namespace Go.Vm.ObjM
open Go.Proofs
set_option maxRecDepth 20000
theorem rX {F:Nat} {a0:aD} {r:(List UInt8)×Int} (h:bI F a0=some r):aS Tryz.prog 27 [.agg (aX a0)] [] (.tup [.d (.str r.1),.d (.v (.int .i64 r.2))]) []:=by
 rw [bI] at h
 refine aS.intro (N:=283) Tryz.func27 rfl rfl rfl rfl rfl fun e=>?_
 refine tR [] [1] ?_
 refine tR [] [1,4] ?_
 obtain ⟨z7,hz1,h⟩:=bB h
 refine tR [iB 12 hz1] [1,4,5] ?_
 refine aT ?_
 refine tR [] [1,4,5,41] ?_
 refine tC h (fun hc h=>?_) fun hc h=>?_
 ·refine tR [] [2,3] ?_
  cases h
  refine aR (tq [2,3])
 ·refine aM (tS ?_)
  refine aT ?_
  obtain ⟨z8,hz2,h⟩:=bB h
  refine tR [iB 6 hz2] [1,57] ?_
  refine tC h (fun hc h=>?_) fun hc h=>?_
  ·refine tR [] [2,3] ?_
   cases h
   refine aR (tq [2,3])
  ·refine aM (tS ?_)
   refine jE h [1] (fun p=>[]) (fun s h hk1=>?_) (fun s h=>?_)
   ·refine tR [] [1,60] ?_
    refine tC h (fun hc h=>?_) fun hc h=>?_
    ·refine tR [] [1,6] ?_
     refine aT ?_
     refine tR [] [1,6,66,67] ?_
     refine jct h [1,6] (fun p=>[(6,dB p)]) (fun s h=>?_) (fun v6 h=>?_)
     ·refine bJ ?_
      refine tL2 (gN F a0) [.keep [1,6,66,67]] [1,6,66,67] (fun v1 v2=>[(6,dB v1),(67,dI v2)]) F (a0.f2 == []) (0:Int) h fun n v1 v2 h=>?_
      rw [gN] at h
      refine tR [] [1,6,66,67,68] ?_
      refine aT ?_
      refine tC h (fun hc h=>?_) fun hc h=>?_
      ·refine aM (tS ?_)
       refine aT ?_
       refine bJ ?_
       refine tR [] [1,6,7,66,67] ?_
       obtain ⟨hp1,h⟩:=aQ h
       refine tRe [iF 5 {} (show (((v1 == false) && true)=true→0≤v2∧v2 < a0.f2.length) from (fun hg=>(hp1 hg)))] [1,6,66,67] (tS ?_)
       refine tRe [] [1,6,66,67] (tE [.keep [1,6,66,67]] ((bif v1 then true else (((a0.f2.getD v2.toNat 0).toNat:Int) == (0:Int))),IntKind.i64.wrap (v2+(1:Int))) h)
      ·cases h
       refine fD (tJ [.keep [1,6]])
     ·refine tS ?_
      refine tR [] [1,79] ?_
      refine tC h (fun hc h=>?_) fun hc h=>?_
      ·refine tR [] [2,3] ?_
       cases h
       have h:=aP hk1
       cases h
       refine aR (tq [2,3])
      ·cases h
       refine aM (tG [.keep [1]])
    ·cases h
     refine aM (tG [.keep [1]])
   ·refine aT ?_
    obtain ⟨z9,hz3,h⟩:=bB h
    obtain ⟨z10,hz4,h⟩:=bB h
    refine tR [iB 12 hz3,iB 26 hz4] [1,107] ?_
    refine tC h (fun hc h=>?_) fun hc h=>?_
    ·refine tR [] [2,3] ?_
     cases h
     refine aR (tq [2,3])
    ·refine aM (tS ?_)
     refine aT ?_
     obtain ⟨z11,hz5,h⟩:=bB h
     refine tR [iB 19 hz5] [1,127] ?_
     refine tC h (fun hc h=>?_) fun hc h=>?_
     ·refine tR [] [2,3] ?_
      cases h
      refine aR (tq [2,3])
     ·refine aM (tS ?_)
      refine aT ?_
      refine tR [] [1,130] ?_
      refine tC h (fun hc h=>?_) fun hc h=>?_
      ·refine aT ?_
       obtain ⟨hp2,h⟩:=aQ h
       obtain ⟨y3,hy1,h⟩:=aK h
       obtain ⟨y4,hy2,h⟩:=aK h
       refine tR [iF 6 {} (show ((((a0.f2 == []) == false) && true)=true→0≤(0:Int)∧(0:Int) < a0.f2.length) from (fun hg=>(hp2 hg))),iD 7 [] (fun hg=>lX (fJ hg hy1)),iD 12 [] (fun hg=>pH (fJ hg hy2))] [1,145] ?_
       refine tC h (fun hc h=>?_) fun hc h=>?_
       ·refine tR [] [2,3] ?_
        cases h
        refine aR (tq [2,3])
       ·refine aM (tS ?_)
        refine aT ?_
        obtain ⟨y5,hy3,h⟩:=aK h
        refine tR [iC 2 [] (pH hy3)] [1,8] ?_
        refine tR [] [1,8,150] ?_
        refine tC h (fun hc h=>?_) fun hc h=>?_
        ·refine tR [] [2,3] ?_
         cases h
         refine aR (tq [2,3])
        ·refine aM (tS ?_)
         refine tR [] [2,3] ?_
         cases h
         refine aR (tq [2,3])
      ·refine aM (tS ?_)
       refine aT ?_
       refine tR [] [1,155] ?_
       refine bJ ?_
       refine tR [] [1,155,156] ?_
       refine tC h (fun hc h=>?_) fun hc h=>?_
       ·obtain ⟨y6,hy4,h⟩:=aK h
        refine tR [iC 2 [] (xC hy4)] [2,3] ?_
        cases h
        refine aR (tq [2,3])
       ·refine tR [] [1,155,161] ?_
        refine tC h (fun hc h=>?_) fun hc h=>?_
        ·obtain ⟨y7,hy5,h⟩:=aK h
         obtain ⟨hp3,h⟩:=aQ h
         refine tR [iC 2 [] (xC hy5),iP 3 hp3] [2,3] ?_
         cases h
         refine aR (tq [2,3])
        ·refine tR [] [1,155,167] ?_
         refine tC h (fun hc h=>?_) fun hc h=>?_
         ·refine tR [] [2,3] ?_
          cases h
          refine aR (tq [2,3])
         ·refine tR [] [1,155,169] ?_
          refine tC h (fun hc h=>?_) fun hc h=>?_
          ·refine tR [] [2,3] ?_
           cases h
           refine aR (tq [2,3])
          ·refine tR [] [1,155,171] ?_
           refine tC h (fun hc h=>?_) fun hc h=>?_
           ·refine tR [] [2,3] ?_
            cases h
            refine aR (tq [2,3])
           ·refine tR [] [1,173] ?_
            refine tC h (fun hc h=>?_) fun hc h=>?_
            ·refine tR [] [2,3] ?_
             cases h
             refine aR (tq [2,3])
            ·refine aM (tS ?_)
             refine tR [] [1,9] ?_
             refine aT ?_
             refine tR [] [1,9,177,178] ?_
             refine jct h [1,9] (fun p=>[(9,oW0 p)]) (fun s h=>?_) (fun v7 h=>?_)
             ·refine bJ ?_
              refine tL2 (eU F a0) [.keep [1,9,177,178]] [1,9,177,178] (fun v3 v4=>[(9,oW0 v3),(178,dI v4)]) F [] (0:Int) h fun n v3 v4 h=>?_
              rw [eU] at h
              refine tR [] [1,9,177,178,179] ?_
              refine aT ?_
              refine tC h (fun hc h=>?_) fun hc h=>?_
              ·refine aM (tS ?_)
               refine jc h [1,9,177,178] (fun p=>[(9,oW0 p)]) (fun s h=>?_) (fun v5 h=>?_)
               ·refine bJ ?_
                refine tR [] [1,9,10,177,178] ?_
                obtain ⟨hp4,h⟩:=aQ h
                refine tR [iP 3 hp4] [1,9,11,177,178] ?_
                obtain ⟨hp5,h⟩:=aQ h
                obtain ⟨z1,hz6,h⟩:=bB h
                obtain ⟨hp6,h⟩:=aQ h
                obtain ⟨z2,hz7,h⟩:=bB h
                obtain ⟨hp7,h⟩:=aQ h
                obtain ⟨hp8,h⟩:=aQ h
                refine uJ mixed 1 (.take 0 (.take 1 (.take 2 (.take 3 (.take 4 (.take 5 (.all (.alt 6 (.take 7 .done) .stop)))))))) ([0,1,2,0,8,16,36,127],[0,1,2,0,8,16,36,64]) 191 [(2,{ rw:=some (.d (.v (.int .u8 z1))) }),(5,{ rw:=some (.d (.v (.int .u8 z2))) }),(6,{ es:=some (([(UInt8.ofNat z1.toNat),(UInt8.ofNat z2.toNat)]).map cU) })] [1,9,11,12,177,178] [] [(1,aC1 a0),(9,oW0 v3),(11,.d (.v (.int .u8 ((a0.f2.getD v4.toNat 0).toNat:Int)))),(12,.own 5 1 (([(UInt8.ofNat z1.toNat),(UInt8.ofNat z2.toNat)]).map cU)),(177,dI (a0.f2.length:Int)),(178,dI v4)] ((fun (o1:Prop)=>fun (o2:Prop)=>fun (o4:Prop)=>fun (o5:Prop)=>fun (o6:Prop)=>[(1,o1),(0,o2),(1,o4),(0,o5),(0,o6)]) ((16:Int)≠0) ((0≤(IntKind.u8.wrap (((a0.f2.getD v4.toNat 0).toNat:Int).tdiv (16:Int)))∧(IntKind.u8.wrap (((a0.f2.getD v4.toNat 0).toNat:Int).tdiv (16:Int))) < ([48,49,50,51,52,53,54,55,56,57,97,98,99,100,101,102]:List UInt8).length)∧AV.d (.v (.int .u8 ((([48,49,50,51,52,53,54,55,56,57,97,98,99,100,101,102]:List UInt8).getD (IntKind.u8.wrap (((a0.f2.getD v4.toNat 0).toNat:Int).tdiv (16:Int))).toNat 0).toNat:Int)))=.d (.v (.int .u8 z1))) ((16:Int)≠0) ((0≤(((a0.f2.getD v4.toNat 0).toNat:Int).tmod (16:Int))∧(((a0.f2.getD v4.toNat 0).toNat:Int).tmod (16:Int)) < ([48,49,50,51,52,53,54,55,56,57,97,98,99,100,101,102]:List UInt8).length)∧AV.d (.v (.int .u8 ((([48,49,50,51,52,53,54,55,56,57,97,98,99,100,101,102]:List UInt8).getD (((a0.f2.getD v4.toNat 0).toNat:Int).tmod (16:Int)).toNat 0).toNat:Int)))=.d (.v (.int .u8 z2))) ([[Dat.v (.int .u8 z1)],[Dat.v (.int .u8 z2)]]=(([(UInt8.ofNat z1.toNat),(UInt8.ofNat z2.toNat)]).map cU))) 1 (by kernel_rfl) (by kernel_rfl) (by kernel_rfl) (have p1:=(show (16:Int)≠0 by decide); have p2:=⟨hp5,(by subst hz6; rfl)⟩; have p4:=(show (16:Int)≠0 by decide); have p5:=⟨hp6,(by subst hz7; rfl)⟩; have p6:=(gB hp7 (gB hp8 (rfl:([]:List (List Dat))=([]:List UInt8).map cU))); ⟨p1,p2,p4,p5,p6⟩) ?_
                refine bJ ?_
                obtain ⟨y1,hy6,h⟩:=aK h
                obtain ⟨y2,hy7,h⟩:=aK h
                obtain ⟨z3,hz8,h⟩:=bB h
                obtain ⟨z4,hz9,h⟩:=bB h
                refine tR [iD 5 [] (fun hg=>xV (fJ hg hy6)),iD 8 [] (fun hg=>lX (fJ hg hy7)),iB 13 hz8,iB 21 hz9] [1,9,11,12,177,178,196] ?_
                refine tC h (fun hc h=>?_) fun hc h=>?_
                ·obtain ⟨hp9,h⟩:=aQ h
                 obtain ⟨hp10,h⟩:=aQ h
                 cases h
                 refine tRe [iX 2 { es:=some (([(UInt8.ofNat ((a0.f2.getD v4.toNat 0).toNat:Int).toNat)]).map cU) } (show [[Dat.v (.int .u8 ((a0.f2.getD v4.toNat 0).toNat:Int))]]=(([(UInt8.ofNat ((a0.f2.getD v4.toNat 0).toNat:Int).toNat)]).map cU) from gB hp9 (rfl:([]:List (List Dat))=([]:List UInt8).map cU)),iE 3 (jC cU hp10)] [1,9,177,178] (tJ [.keep [1,9,177,178]])
                ·refine tR [] [1,9,11,12,177,178,224] ?_
                 refine tC h (fun hc h=>?_) fun hc h=>?_
                 ·obtain ⟨hp11,h⟩:=aQ h
                  obtain ⟨hp12,h⟩:=aQ h
                  obtain ⟨l1,hl1,h⟩:=bB h
                  obtain hs:=Option.some.inj h; subst hs
                  refine tRe [iX 1 { es:=some (([(UInt8.ofNat (35:Int).toNat)]).map cU) } (show [[Dat.v (.int .u8 (35:Int))]]=(([(UInt8.ofNat (35:Int).toNat)]).map cU) from gB (by decide) (rfl:([]:List (List Dat))=([]:List UInt8).map cU)),iE 2 (jC cU hp11),iX 4 { es:=some (l1.map cU) } (show ((v3++([(UInt8.ofNat (35:Int).toNat)])).map cU).length+(([(UInt8.ofNat z1.toNat),(UInt8.ofNat z2.toNat)]).map cU).length≤4294967296∧((v3++([(UInt8.ofNat (35:Int).toNat)])).map cU)++(([(UInt8.ofNat z1.toNat),(UInt8.ofNat z2.toNat)]).map cU)=(l1.map cU) from sS (jC cU hp12) (by subst hl1; rfl))] [1,9,177,178] (tJ [.keep [1,9,177,178]])
                 ·refine tR [] [1,9,11,12,177,178,233] ?_
                  refine tC h (fun hc h=>?_) fun hc h=>?_
                  ·obtain ⟨hp13,h⟩:=aQ h
                   cases h
                   refine tRe [iX 1 { es:=some (([(UInt8.ofNat (92:Int).toNat),(UInt8.ofNat (110:Int).toNat)]).map cU) } (show [[Dat.v (.int .u8 (92:Int))],[Dat.v (.int .u8 (110:Int))]]=(([(UInt8.ofNat (92:Int).toNat),(UInt8.ofNat (110:Int).toNat)]).map cU) from gB (by decide) (gB (by decide) (rfl:([]:List (List Dat))=([]:List UInt8).map cU))),iE 2 (jC cU hp13)] [1,9,177,178] (tJ [.keep [1,9,177,178]])
                  ·refine tR [] [1,9,11,12,177,178,239] ?_
                   refine tC h (fun hc h=>?_) fun hc h=>?_
                   ·obtain ⟨hp14,h⟩:=aQ h
                    cases h
                    refine tRe [iX 1 { es:=some (([(UInt8.ofNat (92:Int).toNat),(UInt8.ofNat (116:Int).toNat)]).map cU) } (show [[Dat.v (.int .u8 (92:Int))],[Dat.v (.int .u8 (116:Int))]]=(([(UInt8.ofNat (92:Int).toNat),(UInt8.ofNat (116:Int).toNat)]).map cU) from gB (by decide) (gB (by decide) (rfl:([]:List (List Dat))=([]:List UInt8).map cU))),iE 2 (jC cU hp14)] [1,9,177,178] (tJ [.keep [1,9,177,178]])
                   ·obtain ⟨z5,hz10,h⟩:=bB h
                    refine tR [iB 5 hz10] [1,9,11,12,177,178,245] ?_
                    refine tC h (fun hc h=>?_) fun hc h=>?_
                    ·obtain ⟨hp15,h⟩:=aQ h
                     obtain ⟨hp16,h⟩:=aQ h
                     obtain ⟨l2,hl2,h⟩:=bB h
                     obtain hs:=Option.some.inj h; subst hs
                     refine tRe [iX 2 { es:=some (([(UInt8.ofNat (92:Int).toNat),(UInt8.ofNat ((a0.f2.getD v4.toNat 0).toNat:Int).toNat)]).map cU) } (show [[Dat.v (.int .u8 (92:Int))],[Dat.v (.int .u8 ((a0.f2.getD v4.toNat 0).toNat:Int))]]=(([(UInt8.ofNat (92:Int).toNat),(UInt8.ofNat ((a0.f2.getD v4.toNat 0).toNat:Int).toNat)]).map cU) from gB (by decide) (gB hp15 (rfl:([]:List (List Dat))=([]:List UInt8).map cU))),iX 3 { es:=some (l2.map cU) } (show (v3.map cU).length+(([(UInt8.ofNat (92:Int).toNat),(UInt8.ofNat ((a0.f2.getD v4.toNat 0).toNat:Int).toNat)]).map cU).length≤4294967296∧(v3.map cU)++(([(UInt8.ofNat (92:Int).toNat),(UInt8.ofNat ((a0.f2.getD v4.toNat 0).toNat:Int).toNat)]).map cU)=(l2.map cU) from sS (jC cU hp16) (by subst hl2; rfl))] [1,9,177,178] (tJ [.keep [1,9,177,178]])
                    ·obtain ⟨z6,hz11,h⟩:=bB h
                     refine tR [iB 5 hz11] [1,9,11,12,177,178,260] ?_
                     refine tC h (fun hc h=>?_) fun hc h=>?_
                     ·obtain ⟨hp17,h⟩:=aQ h
                      obtain ⟨hp18,h⟩:=aQ h
                      obtain ⟨l3,hl3,h⟩:=bB h
                      obtain hs:=Option.some.inj h; subst hs
                      refine tRe [iX 1 { es:=some (([(UInt8.ofNat (92:Int).toNat),(UInt8.ofNat (120:Int).toNat)]).map cU) } (show [[Dat.v (.int .u8 (92:Int))],[Dat.v (.int .u8 (120:Int))]]=(([(UInt8.ofNat (92:Int).toNat),(UInt8.ofNat (120:Int).toNat)]).map cU) from gB (by decide) (gB (by decide) (rfl:([]:List (List Dat))=([]:List UInt8).map cU))),iE 2 (jC cU hp17),iX 4 { es:=some (l3.map cU) } (show ((v3++([(UInt8.ofNat (92:Int).toNat),(UInt8.ofNat (120:Int).toNat)])).map cU).length+(([(UInt8.ofNat z1.toNat),(UInt8.ofNat z2.toNat)]).map cU).length≤4294967296∧((v3++([(UInt8.ofNat (92:Int).toNat),(UInt8.ofNat (120:Int).toNat)])).map cU)++(([(UInt8.ofNat z1.toNat),(UInt8.ofNat z2.toNat)]).map cU)=(l3.map cU) from sS (jC cU hp18) (by subst hl3; rfl))] [1,9,177,178] (tJ [.keep [1,9,177,178]])
                     ·obtain ⟨hp19,h⟩:=aQ h
                      obtain ⟨hp20,h⟩:=aQ h
                      cases h
                      refine tRe [iX 2 { es:=some (([(UInt8.ofNat ((a0.f2.getD v4.toNat 0).toNat:Int).toNat)]).map cU) } (show [[Dat.v (.int .u8 ((a0.f2.getD v4.toNat 0).toNat:Int))]]=(([(UInt8.ofNat ((a0.f2.getD v4.toNat 0).toNat:Int).toNat)]).map cU) from gB hp19 (rfl:([]:List (List Dat))=([]:List UInt8).map cU)),iE 3 (jC cU hp20)] [1,9,177,178] (tJ [.keep [1,9,177,178]])
               ·refine tRe [] [1,9,177,178] (tE [.keep [1,9,177,178]] (v5,IntKind.i64.wrap (v4+(1:Int))) h)
              ·cases h
               refine fD (tJ [.keep [1,9]])
             ·refine tS ?_
              refine aT ?_
              refine tR [] [9,275] ?_
              refine tC h (fun hc h=>?_) fun hc h=>?_
              ·obtain ⟨hp21,h⟩:=aQ h
               refine tR [iX 1 { cs:=[.str v7] } (show (v7.map cU)=byteCells v7 from rfl),iP 2 hp21] [2,3] ?_
               cases h
               refine aR (tq [2,3])
              ·refine aM (tS ?_)
               obtain ⟨hp22,h⟩:=aQ h
               obtain ⟨hp23,h⟩:=aQ h
               refine tR [iX 1 { cs:=[.str v7] } (show (v7.map cU)=byteCells v7 from rfl),iP 2 hp22,iP 3 hp23] [2,3] ?_
               cases h
               refine aR (tq [2,3])
theorem aE8 {F:Nat} {a0:aG} {a1:Int} {r:Int} (h:mR F a0 a1=some r):aS Tryz.prog 54 [.agg (bA a0),.d (.v (.int .i64 a1))] [] (.d (.v (.int .i64 r))) []:=by
 rw [mR] at h
 refine aS.intro (N:=133) Tryz.func54 rfl rfl rfl rfl rfl fun e=>?_
 refine tR [] [1,2] ?_
 refine tR [] [1,2,5] ?_
 refine aT ?_
 refine bJ ?_
 refine tR [] [1,2,5,12] ?_
 refine tC h (fun hc h=>?_) fun hc h=>?_
 ·refine tR [] [4] ?_
  cases h
  refine aR (tq [4])
 ·refine tR [] [2,5,19] ?_
  refine tC h (fun hc h=>?_) fun hc h=>?_
  ·refine tR [] [4] ?_
   cases h
   refine aR (tq [4])
  ·obtain ⟨z2,hz1,h⟩:=bB h
   refine tR [iB 10 hz1] [2,5,22] ?_
   refine tC h (fun hc h=>?_) fun hc h=>?_
   ·refine tR [] [4] ?_
    cases h
    refine aR (tq [4])
   ·obtain ⟨z3,hz2,h⟩:=bB h
    refine tR [iB 10 hz2] [2,5,38] ?_
    refine tC h (fun hc h=>?_) fun hc h=>?_
    ·refine tR [] [4] ?_
     cases h
     refine aR (tq [4])
    ·obtain ⟨z4,hz3,h⟩:=bB h
     refine tR [iW 2 (eW bK (xs:=a0.f4)),iB 11 hz3] [2,5,50] ?_
     refine tC h (fun hc h=>?_) fun hc h=>?_
     ·refine tR [] [4] ?_
      cases h
      refine aR (tq [4])
     ·obtain ⟨z5,hz4,h⟩:=bB h
      refine tR [iW 5 (eW cS (xs:=a0.f3)),iW 8 (eW bK (xs:=a0.f4)),iW 17 (eW cS (xs:=a0.f3)),iB 20 hz4] [2,5,63] ?_
      refine tC h (fun hc h=>?_) fun hc h=>?_
      ·refine tR [] [4] ?_
       cases h
       refine aR (tq [4])
      ·obtain ⟨z6,hz5,h⟩:=bB h
       refine tR [iB 11 hz5] [2,85] ?_
       refine tC h (fun hc h=>?_) fun hc h=>?_
       ·refine tR [] [4] ?_
        cases h
        refine aR (tq [4])
       ·refine tR [iW 2 (eW bK (xs:=a0.f4))] [2,98] ?_
        refine tC h (fun hc h=>?_) fun hc h=>?_
        ·refine tR [] [4] ?_
         cases h
         refine aR (tq [4])
        ·refine aM (tS ?_)
         refine aT ?_
         refine tR [iW 2 (eW cS (xs:=a0.f3))] [2,104,105,106] ?_
         refine jEt h [] (fun p=>[]) (fun s h hk1=>?_) (fun s h=>?_)
         ·refine bJ ?_
          refine tL1 (gM F a0) [.keep [2,104,105,106]] [2,104,105,106] (fun v1=>[(106,dI v1)]) F (0:Int) h fun n v1 h=>?_
          rw [gM] at h
          refine tR [] [2,104,105,106,107] ?_
          refine aT ?_
          refine tC h (fun hc h=>?_) fun hc h=>?_
          ·refine aM (tS ?_)
           refine aT ?_
           refine bJ ?_
           obtain ⟨hp1,h⟩:=aQ h
           refine tR [iI 1 (jB (d:=[]) cS hp1)] [2,6,7,104,105,106] ?_
           refine aT ?_
           obtain ⟨y1,hy1,h⟩:=aK h
           refine tR [iC 2 [] (rX hy1)] [2,6,7,9,104,105,106] ?_
           refine tR [] [2,6,7,9,104,105,106,118] ?_
           refine tC h (fun hc h=>?_) fun hc h=>?_
           ·refine tR [] [4] ?_
            cases h
            have h:=aP hk1
            cases h
            refine aR (tq [4])
           ·refine aM (tS ?_)
            obtain ⟨hp2,h⟩:=aQ h
            obtain ⟨z1,hz6,h⟩:=bB h
            refine tR [iF 8 { cs:=cS (a0.f3.getD (IntKind.i64.wrap (v1 - (1:Int))).toNat []) } (show ((((decide (v1 > (0:Int))) == true) && true)=true→0≤(IntKind.i64.wrap (v1 - (1:Int)))∧(a0.f3.map cS)[(IntKind.i64.wrap (v1 - (1:Int))).toNat]? = some (cS (a0.f3.getD (IntKind.i64.wrap (v1 - (1:Int))).toNat []))) from (fun hg=>jB (d:=[]) cS (hp2 hg))),iB 10 hz6] [2,104,105,106,131] ?_
            refine tC h (fun hc h=>?_) fun hc h=>?_
            ·refine tR [] [4] ?_
             cases h
             have h:=aP hk1
             cases h
             refine aR (tq [4])
            ·refine aM (tS ?_)
             refine tRe [] [2,104,105,106] (tE [.keep [2,104,105,106]] (IntKind.i64.wrap (v1+(1:Int))) h)
          ·cases h
           refine fD (tG [.keep []])
         ·refine tS ?_
          refine tR [] [4] ?_
          cases h
          refine aR (tq [4])
set_option maxHeartbeats 8000000 in
set_option maxRecDepth 100000 in
theorem xH {F:Nat} {rec_ref3_tokensOf:(List aD)→aG→Int→Int→Option ((List aD)×Int×Int)} (hrec_ref3_tokensOf:∀ {a0:List aD},∀ {a1:aG},∀ {a2:Int},∀ {c3:Int},∀ {r:(List aD)×Int×Int},rec_ref3_tokensOf a0 a1 a2 c3=some r→aS Tryz.prog 26 [.own 46 5 (a0.map aX),.agg (bA a1),.d (.v (.int .i64 a2)),.bp 1000000 0] [.box [.d (.v (.int .i64 c3))]] (.tup [.own 46 5 (r.1.map aX),.d (.v (.int .i64 r.2.1))]) [.box [.d (.v (.int .i64 r.2.2))]]) {a0:List aD} {a1:aG} {a2:Int} {c3:Int} {r:(List aD)×Int×Int} (h:gT F rec_ref3_tokensOf a0 a1 a2 c3=some r):aS Tryz.prog 26 [.own 46 5 (a0.map aX),.agg (bA a1),.d (.v (.int .i64 a2)),.bp 1000000 0] [.box [.d (.v (.int .i64 c3))]] (.tup [.own 46 5 (r.1.map aX),.d (.v (.int .i64 r.2.1))]) [.box [.d (.v (.int .i64 r.2.2))]]:=by
 rw [gT] at h
 refine aS.intro (N:=112) Tryz.func26 rfl rfl rfl rfl rfl fun e=>?_
 refine tR [] [0,2,3,5,1000000] ?_
 refine tR [] [0,2,3,5,1000000] ?_
 refine aT ?_
 refine tR [] [0,2,3,5,25,1000000] ?_
 refine tC h (fun hc h=>?_) fun hc h=>?_
 ·refine tR [] [8,9,1000000] ?_
  cases h
  refine aR (tq [8,9,1000000])
 ·refine aM (tS ?_)
  refine aT ?_
  obtain ⟨y2,hy1,h⟩:=aK h
  refine tR [iC 2 [] (aE8 hy1)] [0,2,3,5,10,1000000] ?_
  refine tR [] [0,2,3,5,10,30,1000000] ?_
  refine tC h (fun hc h=>?_) fun hc h=>?_
  ·refine tR [] [8,9,1000000] ?_
   cases h
   refine aR (tq [8,9,1000000])
  ·refine aM (tS ?_)
   obtain ⟨hp1,h⟩:=aQ h
   obtain ⟨z1,hz1,h⟩:=bB h
   refine bX5 mixed [(12,0,some 1),(11,2,some 5),(10,34,some 7),(9,162,none),(8,163,none),(8,166,none),(8,226,none),(8,418,none),(8,1186,none),(7,167,some 3),(7,227,none),(7,230,none),(7,419,none),(7,422,none),(7,482,none),(7,1187,some 2),(7,1190,none),(7,1250,none),(7,1442,none),(6,175,none),(6,231,some 3),(6,423,some 3),(6,483,none),(6,486,none),(6,1191,some 3),(6,1251,some 2),(6,1254,none),(6,1443,some 2),(6,1446,none),(6,1506,none),(5,191,none),(5,239,none),(5,431,none),(5,487,some 3),(5,1199,some 4),(5,1255,some 3),(5,1447,some 3),(5,1507,some 2),(5,1510,none),(4,255,none),(4,447,none),(4,495,none),(4,1215,some 6),(4,1263,some 4),(4,1455,some 4),(4,1511,some 3),(3,511,none),(3,1279,some 8),(3,1471,some 6),(3,1519,some 4),(2,1023,none),(2,1535,some 9),(1,2047,none),(0,4095,none)] [(12,11,.box [dI z1,dI a1.f1,.d (.str a1.f2),dI 0,dI 0]),(11,11,.box [dI 0,dI 0,.d (.str []),dI 0,dI 0]),(10,41,.agg (aX (aD.mk z1 a1.f1 a1.f2 0 0))),(9,40,.d (.str a1.f2)),(8,39,.bp 5 2),(7,38,dI a1.f1),(6,37,.bp 5 1),(5,36,dI z1),(4,35,.ep (32,0) 1 a1.f0.toNat 0),(3,34,dI a1.f0),(2,33,.bp 5 0),(1,32,.own 3 1 (([(5:Int),(5:Int),(1:Int),(2:Int),(3:Int),(4:Int),(6:Int),(8:Int)]).map (cI .i64))),(0,0,oW4 a0),(0,2,dI a2),(0,3,.bp 1000000 0),(0,5,kG a1),(0,1000000,.box [dI (IntKind.i64.wrap (c3+(1:Int)))])] [0,2,3,5,11,32,33,34,35,36,37,38,39,40,41,1000000] ([0,0,2,5,8,0,32,0,128,336,0,2047],[0,0,2,5,8,0,32,0,128,336,0,1536]) 1022 [(0,{ es:=some (([(5:Int),(5:Int),(1:Int),(2:Int),(3:Int),(4:Int),(6:Int),(8:Int)]).map (cI .i64)) }),(4,{ cs:=(cI .i64) (([(5:Int),(5:Int),(1:Int),(2:Int),(3:Int),(4:Int),(6:Int),(8:Int)]).getD a1.f0.toNat 0),rw:=some (dI z1) })] [0,2,3,5,11,1000000] [] [(0,oW4 a0),(2,dI a2),(3,.bp 1000000 0),(5,kG a1),(11,.box [dI z1,dI a1.f1,.d (.str a1.f2),dI 0,dI 0]),(1000000,.box [dI (IntKind.i64.wrap (c3+(1:Int)))])] ((fun (o0:Prop)=>fun (o3:Prop)=>fun (o4:Prop)=>[(3,o0),(8,o0),(3,o0),(3,o0),(3,o0),(3,o3),(3,o0),(5,o0),(2,o0),(3,o0),(2,o0),(2,o0),(2,o4),(3,o3),(0,o3),(2,o0),(1,o3),(1,o0),(2,o0),(1,o0),(4,o4),(2,o4),(2,o3),(0,o4),(0,o3),(0,o3),(1,o0),(4,o4),(2,o4),(0,o4),(0,o3),(4,o4)]) ((([(5:Int),(5:Int),(1:Int),(2:Int),(3:Int),(4:Int),(6:Int),(8:Int)]).map (cI .i64))=(([(5:Int),(5:Int),(1:Int),(2:Int),(3:Int),(4:Int),(6:Int),(8:Int)]).map (cI .i64))) (0≤a1.f0∧a1.f0 < (([(5:Int),(5:Int),(1:Int),(2:Int),(3:Int),(4:Int),(6:Int),(8:Int)]).map (cI .i64)).length) (((([(5:Int),(5:Int),(1:Int),(2:Int),(3:Int),(4:Int),(6:Int),(8:Int)]).map (cI .i64))[a1.f0.toNat]? = some ((cI .i64) (([(5:Int),(5:Int),(1:Int),(2:Int),(3:Int),(4:Int),(6:Int),(8:Int)]).getD a1.f0.toNat 0)))∧dI (([(5:Int),(5:Int),(1:Int),(2:Int),(3:Int),(4:Int),(6:Int),(8:Int)]).getD a1.f0.toNat 0)=dI z1)) 3 (by kernel_rfl) (by kernel_rfl) (by kernel_rfl) (by kernel_rfl) (by kernel_rfl) (by kernel_rfl) (have p0:=rfl; have p3:=rC (cI .i64) hp1; have p4:=⟨(jB (d:=0) (cI .i64) hp1).2,(by subst hz1; rfl)⟩; ⟨p0,p0,p0,p0,p0,p3,p0,p0,p0,p0,p0,p0,p4,p3,p3,p0,p3,p0,p0,p0,p4,p4,p3,p4,p3,p3,p0,p4,p4,p4,p3,p4⟩) ?_
   refine jc h [0,2,3,5,11,1000000] (fun p=>[(0,oW4 a0),(2,dI a2),(3,.bp 1000000 0),(5,kG a1),(11,.box [dI z1,dI a1.f1,.d (.str p),dI 0,dI 0]),(1000000,.box [dI (IntKind.i64.wrap (c3+(1:Int)))])]) (fun s h=>?_) (fun v5 h=>?_)
   ·refine tR [] [0,2,3,5,11,44,1000000] ?_
    refine tC h (fun hc h=>?_) fun hc h=>?_
    ·cases h
     refine tRe [] [0,2,3,5,11,1000000] (tJ [.keep [0,2,3,5,11,1000000]])
    ·cases h
     refine aM (tJ [.keep [0,2,3,5,11,1000000]])
   ·refine jc h [0,2,3,5,11,1000000] (fun p=>[(11,.box [dI z1,dI p.1,.d (.str p.2),dI 0,dI 0])]) (fun s h=>?_) (fun s h=>?_)
    ·refine tR [] [0,2,3,5,11,48,1000000] ?_
     refine tC h (fun hc h=>?_) fun hc h=>?_
     ·obtain ⟨hp2,h⟩:=aQ h
      obtain ⟨z2,hz2,h⟩:=bB h
      cases h
      refine pA mixed 8 (.take 1 (.take 5 (.all (.alt 0 (.all (.alt 2 (.take 3 (.all (.alt 4 (.all (.alt 6 (.take 7 (.all (.alt 8 .done .stop))) .stop)) (.alt 6 (.take 4 (.take 7 (.all (.alt 8 .done .stop)))) .stop)))) (.alt 6 (.take 2 (.take 3 (.take 4 (.take 7 (.all (.alt 8 .done .stop)))))) .stop))) (.alt 2 (.all (.alt 0 (.take 3 (.all (.alt 4 (.all (.alt 6 (.take 7 (.all (.alt 8 .done .stop))) .stop)) (.alt 6 (.take 4 (.take 7 (.all (.alt 8 .done .stop)))) .stop)))) (.alt 6 (.all (.alt 0 (.take 3 (.take 4 (.take 7 (.all (.alt 8 .done .stop))))) .stop)) .stop))) (.alt 6 (.all (.alt 0 (.take 2 (.take 3 (.take 4 (.take 7 (.all (.alt 8 .done .stop)))))) (.alt 2 (.all (.alt 0 (.take 3 (.take 4 (.take 7 (.all (.alt 8 .done .stop))))) .stop)) .stop))) .stop)))))) ([0,0,2,5,8,0,32,127,255],[0,0,2,5,8,0,32,0,144]) 190 [(0,{ es:=some (([([102,97,108,115,101]:List UInt8),([116,114,117,101]:List UInt8)]).map cS) }),(4,{ cs:=cS (([([102,97,108,115,101]:List UInt8),([116,114,117,101]:List UInt8)]).getD a1.f1.toNat []),rw:=some (.d (.str z2)) })] [0,2,3,5,11,1000000] [] [(0,oW4 a0),(2,dI a2),(3,.bp 1000000 0),(5,kG a1),(11,.box [dI z1,dI (0:Int),.d (.str z2),dI 0,dI 0]),(1000000,.box [dI (IntKind.i64.wrap (c3+(1:Int)))])] ((fun (o0:Prop)=>fun (o3:Prop)=>fun (o4:Prop)=>[(2,o0),(1,o3),(0,o4),(4,o4),(4,o3),(0,o4),(3,o0),(0,o3),(0,o4),(4,o4),(3,o0),(0,o3),(0,o4),(3,o0),(1,o3),(0,o4),(3,o0),(0,o3),(0,o4)]) ((([([102,97,108,115,101]:List UInt8),([116,114,117,101]:List UInt8)]).map cS)=(([([102,97,108,115,101]:List UInt8),([116,114,117,101]:List UInt8)]).map cS)) (0≤a1.f1∧a1.f1 < (([([102,97,108,115,101]:List UInt8),([116,114,117,101]:List UInt8)]).map cS).length) (((([([102,97,108,115,101]:List UInt8),([116,114,117,101]:List UInt8)]).map cS)[a1.f1.toNat]? = some (cS (([([102,97,108,115,101]:List UInt8),([116,114,117,101]:List UInt8)]).getD a1.f1.toNat [])))∧AV.d (.str (([([102,97,108,115,101]:List UInt8),([116,114,117,101]:List UInt8)]).getD a1.f1.toNat []))=.d (.str z2))) 2 (by kernel_rfl) (by kernel_rfl) (by kernel_rfl) (have p0:=rfl; have p3:=rC cS hp2; have p4:=⟨(jB (d:=[]) cS hp2).2,(by subst hz2; rfl)⟩; ⟨p0,p3,p4,p4,p3,p4,p0,p3,p4,p4,p0,p3,p4,p0,p3,p4,p0,p3,p4⟩) (tJ [.keep [0,2,3,5,11,1000000]])
     ·cases h
      refine aM (tJ [.keep [0,2,3,5,11,1000000]])
    ·obtain ⟨v6,v7⟩:=s
     try dsimp only at h
     refine aT ?_
     obtain ⟨y3,hy2,h⟩:=aK h
     refine tR [iC 1 [] (rX hy2)] [0,2,3,5,11,13,1000000] ?_
     refine tR [] [0,2,3,5,11,13,62,1000000] ?_
     refine tC h (fun hc h=>?_) fun hc h=>?_
     ·refine tR [] [8,9,1000000] ?_
      cases h
      refine aR (tq [8,9,1000000])
     ·refine aM (tS ?_)
      obtain ⟨hp3,h⟩:=aQ h
      refine tR [iR 2 (([(aD.mk z1 v6 v7 0 0)]).map aX),iE 3 (jC aX hp3)] [0,2,3,5,11,1000000] ?_
      refine aT ?_
      refine tR [] [0,2,3,5,11,70,1000000] ?_
      refine tC h (fun hc h=>?_) fun hc h=>?_
      ·refine tR [] [0,8,9,1000000] ?_
       cases h
       refine aR fun a w hm=>tN (dE6 [(8,.own 46 5 ((a0++([(aD.mk z1 v6 v7 0 0)])).map aX)),(9,dI (0:Int)),(1000000,.box [dI (IntKind.i64.wrap (c3+(1:Int)))])] [8,9] [.claim 8,.keep [8,9,1000000]] (by exact ⟨⟨by kernel_rfl,by kernel_rfl⟩,trivial⟩) a w hm)
      ·refine aM (tS ?_)
       refine aT ?_
       refine tR [iW 2 (eW bK (xs:=a1.f4))] [0,2,3,5,11,73,74,75,1000000] ?_
       refine jEt h [0,11,1000000] (fun p=>[(0,oW4 p.1),(11,.box [dI z1,dI v6,.d (.str v7),dI 0,dI 0]),(1000000,.box [dI p.2])]) (fun s h hk1=>?_) (fun s h=>?_)
       ·refine bJ ?_
        refine tL3 (dF F a1 a2 rec_ref3_tokensOf) [.keep [0,2,3,5,11,73,74,75,1000000]] [0,2,3,5,11,73,74,75,1000000] (fun v1 v2 v3=>[(0,oW4 v1),(75,dI v2),(1000000,.box [dI v3])]) F (a0++([(aD.mk z1 v6 v7 0 0)])) (0:Int) (IntKind.i64.wrap (c3+(1:Int))) h fun n v1 v2 v3 h=>?_
        rw [dF] at h
        refine tR [] [0,2,3,5,11,73,74,75,76,1000000] ?_
        refine aT ?_
        refine tC h (fun hc h=>?_) fun hc h=>?_
        ·refine aM (tS ?_)
         refine aT ?_
         refine bJ ?_
         obtain ⟨hp4,h⟩:=aQ h
         refine tR [iI 1 (aL5 (d:=jT) lI hp4)] [0,2,3,5,11,14,15,73,74,75,1000000] ?_
         refine jc h [0,2,3,5,11,15,73,74,75,1000000] (fun p=>[(0,oW4 p)]) (fun s h=>?_) (fun v4 h=>?_)
         ·refine tR [] [0,2,3,5,11,14,15,73,74,75,82,1000000] ?_
          refine tC h (fun hc h=>?_) fun hc h=>?_
          ·obtain ⟨hp5,h⟩:=aQ h
           obtain ⟨hp6,h⟩:=aQ h
           cases h
           refine tRe [iI 4 (jB (d:=[]) cS hp5),iR 7 (([(aD.mk (2:Int) 0 (a1.f3.getD v2.toNat []) 0 0)]).map aX),iE 8 (jC aX hp6)] [0,2,3,5,11,15,73,74,75,1000000] (tJ [.keep [0,2,3,5,11,15,73,74,75,1000000]])
          ·cases h
           refine aM (tJ [.keep [0,2,3,5,11,15,73,74,75,1000000]])
         ·refine tR [] [0,2,3,5,11,15,73,74,75,1000000] ?_
          obtain ⟨y1,hy3,h⟩:=aK h
          refine tR [iCh 5 { xs:=[1000000],take:=[0] } (hrec_ref3_tokensOf hy3)] [0,2,3,5,11,16,73,74,75,1000000] ?_
          refine tR [] [0,2,3,5,11,16,73,74,75,102,1000000] ?_
          refine tC h (fun hc h=>?_) fun hc h=>?_
          ·refine tR [] [8,9,1000000] ?_
           cases h
           have h:=aP hk1
           cases h
           refine aR (tq [8,9,1000000])
          ·refine aM (tS ?_)
           refine tRe [] [0,2,3,5,11,73,74,75,1000000] (tE [.keep [0,2,3,5,11,73,74,75,1000000]] (y1.1,IntKind.i64.wrap (v2+(1:Int)),y1.2.2) h)
        ·cases h
         refine fD (tG [.keep [0,11,1000000]])
       ·obtain ⟨v8,v9⟩:=s
        try dsimp only at h
        refine tS ?_
        obtain ⟨hp7,h⟩:=aQ h
        refine tR [iR 5 (([(aD.mk (IntKind.i64.wrap (z1+(1:Int))) 0 [] 0 0)]).map aX),iE 6 (jC aX hp7)] [8,9,1000000] ?_
        cases h
        refine aR (tq [8,9,1000000])
theorem xD {F:Nat} (n:Nat):∀ {a0:List aD} {a1:aG} {a2:Int} {c3:Int} {r:(List aD)×Int×Int},fT F n a0 a1 a2 c3=some r→aS Tryz.prog 26 [.own 46 5 (a0.map aX),.agg (bA a1),.d (.v (.int .i64 a2)),.bp 1000000 0] [.box [.d (.v (.int .i64 c3))]] (.tup [.own 46 5 (r.1.map aX),.d (.v (.int .i64 r.2.1))]) [.box [.d (.v (.int .i64 r.2.2))]]:=by
 induction n with
 | zero=>intro a0 a1 a2 c3 r h; exact absurd (show (none:Option ((List aD)×Int×Int))=some r from h) (by simp)
 | succ n ih=>intro a0 a1 a2 c3 r h; exact xH ih h
theorem aG1 {F:Nat} {a0:List aD} {a1:aG} {a2:Int} {c3:Int} {r:(List aD)×Int×Int} (h:uZ F a0 a1 a2 c3=some r):aS Tryz.prog 26 [.own 46 5 (a0.map aX),.agg (bA a1),.d (.v (.int .i64 a2)),.bp 1000000 0] [.box [.d (.v (.int .i64 c3))]] (.tup [.own 46 5 (r.1.map aX),.d (.v (.int .i64 r.2.1))]) [.box [.d (.v (.int .i64 r.2.2))]]:=xD F h
theorem aT7 {F:Nat} {a0:aG} {r:(List UInt8)×Int} (h:nA F a0=some r):aS Tryz.prog 11 [.agg (bA a0)] [] (.tup [.d (.str r.1),.d (.v (.int .i64 r.2))]) []:=by
 rw [nA] at h
 refine aS.intro (N:=74) Tryz.func11 rfl rfl rfl rfl rfl fun e=>?_
 refine tR [] [1] ?_
 refine tR [] [1,4] ?_
 obtain ⟨y1,hy1,h⟩:=aK h
 refine tR [iC 1 [4] (aS.cF2 0 (aG1 hy1) rfl rfl (by decide) rfl)] [5,6] ?_
 refine aT ?_
 refine tR [] [5,6,18] ?_
 refine tC h (fun hc h=>?_) fun hc h=>?_
 ·refine tR [] [2,3] ?_
  cases h
  refine aR (tq [2,3])
 ·refine aM (tS ?_)
  refine tR [] [5,7] ?_
  refine aT ?_
  refine tR [iW 1 (eW aX (xs:=y1.1))] [5,7,20,21,22] ?_
  refine jEt h [7] (fun p=>[(7,oW0 p)]) (fun s h hk1=>?_) (fun v4 h=>?_)
  ·refine bJ ?_
   refine tL2 (jQ F y1) [.keep [5,7,20,21,22]] [5,7,20,21,22] (fun v1 v2=>[(7,oW0 v1),(22,dI v2)]) F [] (0:Int) h fun n v1 v2 h=>?_
   rw [jQ] at h
   refine tR [] [5,7,20,21,22,23] ?_
   refine aT ?_
   refine tC h (fun hc h=>?_) fun hc h=>?_
   ·refine aM (tS ?_)
    refine aT ?_
    refine bJ ?_
    obtain ⟨hp1,h⟩:=aQ h
    refine tR [iP 1 (show 0≤v2∧v2 < (y1.1.map aX).length from rC aX hp1),iX 2 { cs:=aX (y1.1.getD v2.toNat rA) } (show (y1.1.map aX)[v2.toNat]? = some (aX (y1.1.getD v2.toNat rA)) from (jB (d:=rA) aX hp1).2)] [5,7,8,9,20,21,22] ?_
    obtain ⟨y2,hy2,h⟩:=aK h
    refine tR [iC 1 [] (rX hy2)] [5,7,8,9,10,20,21,22] ?_
    refine jc h [5,7,10,20,21,22] (fun p=>[(7,oW0 p)]) (fun s h=>?_) (fun v3 h=>?_)
    ·obtain ⟨z1,hz1,h⟩:=bB h
     obtain ⟨hp2,h⟩:=aQ h
     obtain ⟨z2,hz2,h⟩:=bB h
     obtain ⟨hp3,h⟩:=aQ h
     obtain ⟨z3,hz3,h⟩:=bB h
     refine tR [iB 10 hz1,iF 16 {} (show ((((bif (decide (v2 > (0:Int))) then z1 else false) == true) && true)=true→0≤(IntKind.i64.wrap (v2 - (1:Int)))∧(IntKind.i64.wrap (v2 - (1:Int))) < (y1.1.map aX).length) from (fun hg=>rC aX (hp2 hg))),iF 18 { cs:=aX (y1.1.getD (IntKind.i64.wrap (v2 - (1:Int))).toNat rA) } (show ((((bif (decide (v2 > (0:Int))) then z1 else false) == true) && true)=true→(y1.1.map aX)[(IntKind.i64.wrap (v2 - (1:Int))).toNat]? = some (aX (y1.1.getD (IntKind.i64.wrap (v2 - (1:Int))).toNat rA))) from (fun hg=>(jB (d:=rA) aX (hp2 hg)).2)),iB 20 hz2,iF 25 {} (show (((z2 == true) && true)=true→0≤(IntKind.i64.wrap (v2 - (1:Int)))∧(IntKind.i64.wrap (v2 - (1:Int))) < (y1.1.map aX).length) from (fun hg=>rC aX (hp3 hg))),iF 27 { cs:=aX (y1.1.getD (IntKind.i64.wrap (v2 - (1:Int))).toNat rA) } (show (((z2 == true) && true)=true→(y1.1.map aX)[(IntKind.i64.wrap (v2 - (1:Int))).toNat]? = some (aX (y1.1.getD (IntKind.i64.wrap (v2 - (1:Int))).toNat rA))) from (fun hg=>(jB (d:=rA) aX (hp3 hg)).2)),iB 28 hz3] [5,7,10,20,21,22,61] ?_
     refine tC h (fun hc h=>?_) fun hc h=>?_
     ·obtain ⟨hp4,h⟩:=aQ h
      cases h
      refine tRe [iX 1 { es:=some (([(UInt8.ofNat (32:Int).toNat)]).map cU) } (show [[Dat.v (.int .u8 (32:Int))]]=(([(UInt8.ofNat (32:Int).toNat)]).map cU) from gB (by decide) (rfl:([]:List (List Dat))=([]:List UInt8).map cU)),iE 2 (jC cU hp4)] [5,7,10,20,21,22] (tJ [.keep [5,7,10,20,21,22]])
     ·cases h
      refine aM (tJ [.keep [5,7,10,20,21,22]])
    ·obtain ⟨hp5,h⟩:=aQ h
     refine tR [iE 2 (jC cU hp5)] [5,7,20,21,22] ?_
     refine tR [iW 1 (eW cU (xs:=(v3++y2.1)))] [5,7,20,21,22,70] ?_
     refine tC h (fun hc h=>?_) fun hc h=>?_
     ·refine tR [] [2,3] ?_
      cases h
      have h:=aP hk1
      cases h
      refine aR (tq [2,3])
     ·refine aM (tS ?_)
      refine tRe [] [5,7,20,21,22] (tE [.keep [5,7,20,21,22]] ((v3++y2.1),IntKind.i64.wrap (v2+(1:Int))) h)
   ·cases h
    refine fD (tG [.keep [7]])
  ·refine tS ?_
   refine tR [iX 1 { cs:=[.str v4] } (show (v4.map cU)=byteCells v4 from rfl)] [2,3] ?_
   cases h
   refine aR (tq [2,3])
end Go.Vm.ObjM
