/-
  Texts.
-/
import Derived.Test.YtgonfionbbhmkaaGreatDoorPd
import Derived.Test.YtgonfionbbhmkaaGreatDoorVmE
set_option maxRecDepth 20000
namespace Go.Vm.PgfG
open Go.Proofs
theorem yR {F:Nat} {c0:List UInt8} {c1:Int} {c2:List UInt8} {r:Int×(List UInt8)×Int×(List UInt8)} (h:oP F c0 c1 c2=some r):aG Tryz.prog 233 [.bp 1000000 0,.bp 1000001 0] [.box [.d (.str c0),.d (.v (.int .i64 c1))],.box [.slf 0 94,.own 5 1 (c2.map cU)]] (.d (.v (.int .i64 r.1))) [.box [.d (.str r.2.1),.d (.v (.int .i64 r.2.2.1))],.box [.slf 0 94,.own 5 1 (r.2.2.2.map cU)]]:=by
 rw [oP] at h
 refine aG.intro (N:=58) Tryz.func233 rfl rfl rfl rfl rfl fun e=>?_
 refine tR [] [0,1,1000000,1000001] ?_
 refine aK ?_
 refine mO mixed [] [0,1,17,1000000,1000001] [] [(0,.bp 1000000 0),(1,.bp 1000001 0),(17,dB (c1 == (c0.length:Int))),(1000000,.box [.d (.str c0),dI c1]),(1000001,.box [.slf 0 94,oW1 c2])] [] 10 (by kernel_rfl) (trivial) ?_
 refine tC h (fun hc h=>?_) fun hc h=>?_
 ·refine tR [] [4,1000000,1000001] ?_
  cases h
  refine aP (tq [4,1000000,1000001])
 ·refine aO (tS ?_)
  obtain ⟨hp1,h⟩:=aL h
  refine mO mixed [] [0,1,5,1000000,1000001] [] [(0,.bp 1000000 0),(1,.bp 1000001 0),(5,.d (.v (.int .u8 ((c0.getD c1.toNat 0).toNat:Int)))),(1000000,.box [.d (.str c0),dI c1]),(1000001,.box [.slf 0 94,oW1 c2])] [(8,0≤c1∧c1 < c0.length)] 1 (by kernel_rfl) (hp1) ?_
  refine tR [] [0,1,5,1000000,1000001] ?_
  refine jE h [1,5,1000000,1000001] (fun p=>[(1,.bp 1000001 0),(5,.d (.v (.int .u8 p.1))),(1000000,.box [.d (.str p.2.1),dI p.2.2]),(1000001,.box [.slf 0 94,oW1 c2])]) (fun s h hk1=>?_) (fun s h=>?_)
  ·refine tR [] [0,1,5,34,1000000,1000001] ?_
   refine aU ?_
   refine tR [] [0,1,5,34,35,1000000,1000001] ?_
   refine tC h (fun hc h=>?_) fun hc h=>?_
   ·refine tR [] [4,1000000,1000001] ?_
    cases h
    have h:=bE hk1
    cases h
    refine aP (tq [4,1000000,1000001])
   ·refine tR [] [0,1,5,34,37,1000000,1000001] ?_
    refine tC h (fun hc h=>?_) fun hc h=>?_
    ·cases h
     refine tRe [] [1,5,1000000,1000001] (tG [.keep [1,5,1000000,1000001]])
    ·refine tR [] [0,1,5,34,39,1000000,1000001] ?_
     refine tC h (fun hc h=>?_) fun hc h=>?_
     ·cases h
      refine tRe [] [1,5,1000000,1000001] (tG [.keep [1,5,1000000,1000001]])
     ·refine jc h [0,1,5,34,41,1000000,1000001] (fun p=>[(0,.bp 1000000 0),(1,.bp 1000001 0),(5,.d (.v (.int .u8 ((c0.getD c1.toNat 0).toNat:Int)))),(41,dB p),(1000001,.box [.slf 0 94,oW1 c2])]) (fun s h=>?_) (fun v1 h=>?_)
      ·refine tR [] [0,1,5,34,41,1000000,1000001] ?_
       refine tC h (fun hc h=>?_) fun hc h=>?_
       ·cases h
        refine aO (tJ [.keep [0,1,5,34,41,1000000,1000001]])
       ·refine tR [] [0,1,5,34,41,1000000,1000001] ?_
        refine tC h (fun hc h=>?_) fun hc h=>?_
        ·cases h
         refine aO (tJ [.keep [0,1,5,34,41,1000000,1000001]])
        ·cases h
         refine tRe [] [0,1,5,34,41,1000000,1000001] (tJ [.keep [0,1,5,34,41,1000000,1000001]])
      ·refine tC h (fun hc h=>?_) fun hc h=>?_
       ·cases h
        refine aO (tG [.keep [1,5,1000000,1000001]])
       ·refine tR [] [0,1,45,1000000,1000001] ?_
        refine tC h (fun hc h=>?_) fun hc h=>?_
        ·obtain ⟨y1,hy1,h⟩:=aH h
         refine tR [iC 1 [1000000] (tV hy1)] [1,6,7,1000000,1000001] ?_
         refine aK ?_
         refine tR [] [1,6,53,1000000,1000001] ?_
         refine tC h (fun hc h=>?_) fun hc h=>?_
         ·refine tR [] [4,1000000,1000001] ?_
          cases h
          have h:=bE hk1
          cases h
          refine aP (tq [4,1000000,1000001])
         ·refine aO (tS ?_)
          cases h
          refine tRe [] [1,5,1000000,1000001] (tG [.keep [1,5,1000000,1000001]])
        ·refine tR [] [4,1000000,1000001] ?_
         cases h
         have h:=bE hk1
         cases h
         refine aP (tq [4,1000000,1000001])
  ·obtain ⟨v2,v3,v4⟩:=s
   try dsimp only at h
   obtain ⟨y2,hy2,h⟩:=aH h
   refine tR [iC 2 [1000001] (bF hy2)] [1000000,1000001] ?_
   refine tR [] [4,1000000,1000001] ?_
   cases h
   refine aP (tq [4,1000000,1000001])
theorem aE3 {F:Nat} {c0:List UInt8} {c1:Int} {r:(List UInt8)×Int×(List UInt8)×Int} (h:rG F c0 c1=some r):aG Tryz.prog 222 [.bp 1000000 0] [.box [.d (.str c0),.d (.v (.int .i64 c1))]] (.tup [.d (.str r.1),.d (.v (.int .i64 r.2.1))]) [.box [.d (.str r.2.2.1),.d (.v (.int .i64 r.2.2.2))]]:=by
 rw [rG] at h
 refine aG.intro (N:=60) Tryz.func222 rfl rfl rfl rfl rfl fun e=>?_
 refine tR [] [0,1000000] ?_
 refine tR [iH 0 { slfs:=[(0,0)] }] [0,4,1000000] ?_
 refine tR [] [0,4,5,1000000] ?_
 refine jE h [1000000] (fun p=>[(1000000,.box [.d (.str p.1),dI p.2])]) (fun s h hk1=>?_) (fun s h=>?_)
 ·refine aU ?_
  refine tL (fun n p=>gQ F n p.1 p.2.1 p.2.2.1 p.2.2.2) [.keep [0,4,5,1000000]] [0,4,5,1000000] (fun p=>[(4,.box [.slf 0 94,oW1 p.1]),(5,dI p.2.2.2),(1000000,.box [.d (.str p.2.1),dI p.2.2.1])]) F ([],c0,c1,(1:Int)) h fun n p h=>?_
  obtain ⟨v1,v2,v3,v4⟩:=p
  have h:gQ F (n+1) v1 v2 v3 v4=some s:=h
  rw [gQ] at h
  refine aK ?_
  refine mO mixed [] [0,4,5,17,1000000] [] [(0,.bp 1000000 0),(4,.box [.slf 0 94,oW1 v1]),(5,dI v4),(17,dB (decide (v3 < (v2.length:Int)))),(1000000,.box [.d (.str v2),dI v3])] [] 10 (by kernel_rfl) (trivial) ?_
  refine tC h (fun hc h=>?_) fun hc h=>?_
  ·refine aO (tS ?_)
   refine aU ?_
   obtain ⟨hp1,h⟩:=aL h
   refine mO mixed [] [0,4,5,6,1000000] [] [(0,.bp 1000000 0),(4,.box [.slf 0 94,oW1 v1]),(5,dI v4),(6,.d (.v (.int .u8 ((v2.getD v3.toNat 0).toNat:Int)))),(1000000,.box [.d (.str v2),dI v3])] [(8,0≤v3∧v3 < v2.length)] 1 (by kernel_rfl) (hp1) ?_
   refine tR [] [0,4,5,6,1000000] ?_
   refine jE h [0,4,5,6,1000000] (fun p=>[(0,.bp 1000000 0),(4,.box [.slf 0 94,oW1 v1]),(5,dI p),(6,.d (.v (.int .u8 ((v2.getD v3.toNat 0).toNat:Int))))]) (fun s h hk2=>?_) (fun v5 h=>?_)
   ·refine tR [] [0,4,5,6,34,1000000] ?_
    refine aU ?_
    refine tR [] [0,4,5,6,34,35,1000000] ?_
    refine tC h (fun hc h=>?_) fun hc h=>?_
    ·refine aK ?_
     obtain ⟨y1,hy1,h⟩:=aH h
     refine tR [iC 1 [1000000,4] (yR hy1)] [0,4,5,7,1000000] ?_
     refine tR [] [0,4,5,7,40,1000000] ?_
     refine tC h (fun hc h=>?_) fun hc h=>?_
     ·refine tR [] [2,3,1000000] ?_
      cases h
      have h:=aZ5 hk2
      cases h
      have h:=bE hk1
      cases h
      refine aP (tq [2,3,1000000])
     ·refine aO (tS ?_)
      cases h
      have h:=bZ0 hk2
      refine cZ (tE [.keep [0,4,5,1000000]] (y1.2.2.2,y1.2.1,y1.2.2.1,v4) h)
    ·refine tR [] [0,4,5,6,34,42,1000000] ?_
     refine tC h (fun hc h=>?_) fun hc h=>?_
     ·refine tR [] [0,4,5,6,1000000] ?_
      refine tR [] [0,4,5,6,47,1000000] ?_
      refine tC h (fun hc h=>?_) fun hc h=>?_
      ·refine tR [] [2,3,1000000] ?_
       cases h
       have h:=aZ5 hk2
       cases h
       have h:=bE hk1
       cases h
       refine aP (tq [2,3,1000000])
      ·cases h
       refine aO (tG [.keep [0,4,5,6,1000000]])
     ·refine tR [] [0,4,5,6,48,1000000] ?_
      refine tC h (fun hc h=>?_) fun hc h=>?_
      ·cases h
       refine tRe [] [0,4,5,6,1000000] (tG [.keep [0,4,5,6,1000000]])
      ·cases h
       refine aO (tG [.keep [0,4,5,6,1000000]])
   ·refine aK ?_
    refine tR [] [0,4,5,6,53,1000000] ?_
    refine tC h (fun hc h=>?_) fun hc h=>?_
    ·obtain ⟨hp2,h⟩:=aL h
     obtain ⟨y2,hy2,h⟩:=aH h
     refine tR [iC 0 [4] (show aG Tryz.prog 51 [.bp 1000000 0] [.box [.slf 0 94,oW1 v1]] (.d (.str v1)) [.box [.slf 0 94,.junk]] from nK (l:=v1) hp2 (by kernel_rfl) (by kernel_rfl)),iC 1 [] (oM hy2)] [2,3,1000000] ?_
     cases h
     have h:=bE hk1
     cases h
     refine aP (tq [2,3,1000000])
    ·refine aO (tS ?_)
     obtain ⟨y3,hy3,h⟩:=aH h
     refine tRe [iC 1 [4] (bF hy3)] [0,4,5,1000000] (tE [.keep [0,4,5,1000000]] (y3.2,v2,IntKind.i64.wrap (v3+(1:Int)),v5) h)
  ·cases h
   refine cZ (tG [.keep [1000000]])
 ·obtain ⟨v6,v7⟩:=s
  try dsimp only at h
  refine tR [] [2,3,1000000] ?_
  cases h
  refine aP (tq [2,3,1000000])
theorem aG7 {F:Nat} {c0:List UInt8} {c1:Int} {r:(List UInt8)×Int×(List UInt8)×Int} (h:sQ F c0 c1=some r):aG Tryz.prog 223 [.bp 1000000 0] [.box [.d (.str c0),.d (.v (.int .i64 c1))]] (.tup [.d (.str r.1),.d (.v (.int .i64 r.2.1))]) [.box [.d (.str r.2.2.1),.d (.v (.int .i64 r.2.2.2))]]:=by
 rw [sQ] at h
 refine aG.intro (N:=67) Tryz.func223 rfl rfl rfl rfl rfl fun e=>?_
 refine tR [] [0,1000000] ?_
 refine tR [iH 0 { slfs:=[(0,0)] }] [0,4,1000000] ?_
 refine tR [] [0,4,5,6,1000000] ?_
 refine jE h [1000000] (fun p=>[(1000000,.box [.d (.str c0),dI p])]) (fun s h hk1=>?_) (fun v6 h=>?_)
 ·refine aU ?_
  refine tL (fun n p=>iJ F c0 n p.1 p.2.1 p.2.2.1 p.2.2.2) [.keep [0,4,5,6,1000000]] [0,4,5,6,1000000] (fun p=>[(4,.box [.slf 0 94,oW1 p.2.1]),(5,.d (.v (.int .u8 p.2.2.1))),(6,dI p.2.2.2),(1000000,.box [.d (.str c0),dI p.1])]) F (c1,[],(0:Int),(0:Int)) h fun n p h=>?_
  obtain ⟨v1,v2,v3,v4⟩:=p
  have h:iJ F c0 (n+1) v1 v2 v3 v4=some s:=h
  rw [iJ] at h
  refine aK ?_
  refine mO mixed [] [0,4,5,6,19,1000000] [] [(0,.bp 1000000 0),(4,.box [.slf 0 94,oW1 v2]),(5,.d (.v (.int .u8 v3))),(6,dI v4),(19,dB (decide (v1 < (c0.length:Int)))),(1000000,.box [.d (.str c0),dI v1])] [] 10 (by kernel_rfl) (trivial) ?_
  refine tC h (fun hc h=>?_) fun hc h=>?_
  ·refine aO (tS ?_)
   refine aU ?_
   obtain ⟨hp1,h⟩:=aL h
   refine mO mixed [] [0,4,5,6,7,1000000] [] [(0,.bp 1000000 0),(4,.box [.slf 0 94,oW1 v2]),(5,.d (.v (.int .u8 v3))),(6,dI v4),(7,.d (.v (.int .u8 ((c0.getD v1.toNat 0).toNat:Int)))),(1000000,.box [.d (.str c0),dI v1])] [(8,0≤v1∧v1 < c0.length)] 1 (by kernel_rfl) (hp1) ?_
   refine tR [] [0,4,5,6,7,1000000] ?_
   refine aK ?_
   obtain ⟨y1,hy1,h⟩:=aH h
   refine tR [iC 1 [] (wG hy1)] [0,4,5,6,7,37,1000000] ?_
   refine tC h (fun hc h=>?_) fun hc h=>?_
   ·refine cZ (tE [.keep [0,4,5,6,1000000]] (IntKind.i64.wrap (v1+(1:Int)),v2,v3,v4) h)
   ·refine aO (tS ?_)
    refine aK ?_
    obtain ⟨z1,hz1,h⟩:=aW h
    refine tR [iP 4 (show (2:Int)≠0 by decide),iB 6 hz1] [0,4,5,6,7,44,1000000] ?_
    refine tC h (fun hc h=>?_) fun hc h=>?_
    ·obtain ⟨hp2,h⟩:=aL h
     obtain ⟨y2,hy2,h⟩:=aH h
     refine tR [iC 0 [4] (show aG Tryz.prog 51 [.bp 1000000 0] [.box [.slf 0 94,oW1 v2]] (.d (.str v2)) [.box [.slf 0 94,.junk]] from nK (l:=v2) hp2 (by kernel_rfl) (by kernel_rfl)),iC 1 [] (oM hy2)] [2,3,1000000] ?_
     cases h
     have h:=bE hk1
     cases h
     refine aP (tq [2,3,1000000])
    ·refine aO (tS ?_)
     obtain ⟨y3,hy3,h⟩:=aH h
     refine tR [iC 1 [] (rH hy3)] [0,4,5,6,8,9,1000000] ?_
     refine aK ?_
     refine tR [] [0,4,5,6,8,55,1000000] ?_
     refine tC h (fun hc h=>?_) fun hc h=>?_
     ·refine tR [] [2,3,1000000] ?_
      cases h
      have h:=bE hk1
      cases h
      refine aP (tq [2,3,1000000])
     ·refine aO (tS ?_)
      refine jc h [0,4,6,8,1000000] (fun p=>[(0,.bp 1000000 0),(4,.box [.slf 0 94,oW1 p]),(6,dI (IntKind.i64.wrap (v4+(1:Int))))]) (fun s h=>?_) (fun v5 h=>?_)
      ·refine tR [] [0,4,5,6,8,1000000] ?_
       refine tR [iP 1 (show (2:Int)≠0 by decide)] [0,4,5,6,8,60,1000000] ?_
       refine tC h (fun hc h=>?_) fun hc h=>?_
       ·obtain ⟨z2,hz2,h⟩:=aW h
        obtain ⟨y4,hy4,h⟩:=aH h
        cases h
        refine tRe [iP 1 (show 0≤(4:Int) by decide),iZ 3 (aI .u8) hz2,iC 4 [4] (bF hy4)] [0,4,6,8,1000000] (tJ [.keep [0,4,6,8,1000000]])
       ·cases h
        refine aO (tJ [.keep [0,4,6,8,1000000]])
      ·refine tRe [] [0,4,5,6,1000000] (tE [.keep [0,4,5,6,1000000]] (IntKind.i64.wrap (v1+(1:Int)),v5,y3.1,IntKind.i64.wrap (v4+(1:Int))) h)
  ·cases h
   refine cZ (tG [.keep [1000000]])
 ·refine tR [] [2,3,1000000] ?_
  cases h
  refine aP (tq [2,3,1000000])
theorem aH1 {F:Nat} {c0:List UInt8} {c1:Int} {r:aM×Int×(List UInt8)×Int} (h:sP F c0 c1=some r):aG Tryz.prog 204 [.bp 1000000 0] [.box [.d (.str c0),.d (.v (.int .i64 c1))]] (.tup [.agg (bH r.1),.d (.v (.int .i64 r.2.1))]) [.box [.d (.str r.2.2.1),.d (.v (.int .i64 r.2.2.2))]]:=by
 rw [sP] at h
 refine aG.intro (N:=146) Tryz.func204 rfl rfl rfl rfl rfl fun e=>?_
 refine tR [] [0,2,3,1000000] ?_
 obtain ⟨hp1,h⟩:=aL h
 refine mO mixed [] [0,2,3,4,1000000] [] [(0,.bp 1000000 0),(2,.box [dI 0,dI 0,.d (.str []),dI 0,dI 0]),(3,dI (0:Int)),(4,.d (.v (.int .u8 ((c0.getD c1.toNat 0).toNat:Int)))),(1000000,.box [.d (.str c0),dI c1])] [(8,0≤c1∧c1 < c0.length)] 1 (by kernel_rfl) (hp1) ?_
 refine aK ?_
 obtain ⟨z1,hz1,h⟩:=aW h
 obtain ⟨y1,hy1,h⟩:=aH h
 refine tR [iB 5 hz1,iD 8 [] (fun hg=>rX (eG hg hy1))] [0,2,3,4,24,1000000] ?_
 refine tC h (fun hc h=>?_) fun hc h=>?_
 ·refine tR [] [0,2,1000000] ?_
  obtain ⟨y2,hy2,h⟩:=aH h
  obtain ⟨y3,hy3,h⟩:=aH h
  refine tR [iC 1 [1000000] (lU hy2),iC 2 [] (aR5 hy3)] [2,3,1000000] ?_
  refine tR [] [2,3,1000000] ?_
  cases h
  refine aP (tq [2,3,1000000])
 ·refine aO (tS ?_)
  refine aK ?_
  obtain ⟨y4,hy4,h⟩:=aH h
  refine tR [iC 1 [] (oN hy4)] [0,2,3,4,36,1000000] ?_
  refine tC h (fun hc h=>?_) fun hc h=>?_
  ·refine tR [] [0,2,1000000] ?_
   obtain ⟨y5,hy5,h⟩:=aH h
   obtain ⟨y6,hy6,h⟩:=aH h
   refine tR [iC 1 [1000000] (lU hy5),iC 2 [] (aI8 hy6)] [2,3,1000000] ?_
   refine tR [] [2,3,1000000] ?_
   cases h
   refine aP (tq [2,3,1000000])
  ·refine aO (tS ?_)
   refine tR [] [0,2,3,4,1000000] ?_
   obtain ⟨hp2,h⟩:=aL h
   obtain ⟨z2,hz2,h⟩:=aW h
   refine mO mixed [(21,{ rw:=some (dB z2) })] [0,2,3,4,5,1000000] [] [(0,.bp 1000000 0),(2,.box [dI 0,dI 0,.d (.str []),dI 0,dI 0]),(3,dI (0:Int)),(4,.d (.v (.int .u8 ((c0.getD c1.toNat 0).toNat:Int)))),(5,dB (bif (decide ((IntKind.i64.wrap (c1+(1:Int))) < (c0.length:Int))) then z2 else false)),(1000000,.box [.d (.str c0),dI (IntKind.i64.wrap (c1+(1:Int)))])] [(11,((((decide ((IntKind.i64.wrap (c1+(1:Int))) < (c0.length:Int))) == true) && true)=true→True)),(0,((((decide ((IntKind.i64.wrap (c1+(1:Int))) < (c0.length:Int))) == true) && true)=true→True)),(0,((((decide ((IntKind.i64.wrap (c1+(1:Int))) < (c0.length:Int))) == true) && true)=true→True)),(0,((((decide ((IntKind.i64.wrap (c1+(1:Int))) < (c0.length:Int))) == true) && true)=true→True)),(0,((((decide ((IntKind.i64.wrap (c1+(1:Int))) < (c0.length:Int))) == true) && true)=true→True)),(0,((((decide ((IntKind.i64.wrap (c1+(1:Int))) < (c0.length:Int))) == true) && true)=true→True)),(0,((((decide ((IntKind.i64.wrap (c1+(1:Int))) < (c0.length:Int))) == true) && true)=true→True)),(0,((((decide ((IntKind.i64.wrap (c1+(1:Int))) < (c0.length:Int))) == true) && true)=true→True)),(0,((((decide ((IntKind.i64.wrap (c1+(1:Int))) < (c0.length:Int))) == true) && true)=true→0≤(IntKind.i64.wrap (c1+(1:Int)))∧(IntKind.i64.wrap (c1+(1:Int))) < c0.length)),(0,((((decide ((IntKind.i64.wrap (c1+(1:Int))) < (c0.length:Int))) == true) && true)=true→True)),(0,((((decide ((IntKind.i64.wrap (c1+(1:Int))) < (c0.length:Int))) == true) && true)=true→(True)∧dB (((c0.getD (IntKind.i64.wrap (c1+(1:Int))).toNat 0).toNat:Int) == ((c0.getD c1.toNat 0).toNat:Int))=dB z2))] 2 (by kernel_rfl) (⟨tr,tr,tr,tr,tr,tr,tr,tr,(fun hg=>(hp2 hg)),tr,(fun hg=>⟨trivial,(by subst hz2; rfl)⟩)⟩) ?_
   refine jE h [2,3,1000000] (fun p=>[(2,.box [dI p.1,dI p.2.1,.d (.str p.2.2.1),dI 0,dI 0]),(3,dI p.2.2.2.1),(1000000,.box [.d (.str p.2.2.2.2.1),dI p.2.2.2.2.2])]) (fun s h hk1=>?_) (fun s h=>?_)
   ·refine tR [] [0,2,3,5,77,1000000] ?_
    refine aU ?_
    refine tR [] [0,2,3,5,77,79,1000000] ?_
    refine tC h (fun hc h=>?_) fun hc h=>?_
    ·refine tR [] [0,2,1000000] ?_
     obtain ⟨y7,hy7,h⟩:=aH h
     cases h
     refine tRe [iC 1 [1000000] (aD3 hy7)] [2,3,1000000] (tG [.keep [2,3,1000000]])
    ·refine tR [] [0,2,3,5,77,88,1000000] ?_
     refine tC h (fun hc h=>?_) fun hc h=>?_
     ·refine tR [] [0,2,1000000] ?_
      obtain ⟨y8,hy8,h⟩:=aH h
      obtain ⟨y9,hy9,h⟩:=aH h
      cases h
      refine tRe [iC 1 [1000000] (lU hy8),iC 2 [] (aL3 hy9)] [2,3,1000000] (tG [.keep [2,3,1000000]])
     ·refine tR [] [0,2,3,5,77,98,1000000] ?_
      refine tC h (fun hc h=>?_) fun hc h=>?_
      ·refine tR [] [0,2,1000000] ?_
       obtain ⟨y10,hy10,h⟩:=aH h
       cases h
       refine tRe [iC 1 [1000000] (aE3 hy10)] [2,3,1000000] (tG [.keep [2,3,1000000]])
      ·refine tR [] [0,2,3,5,77,107,1000000] ?_
       refine tC h (fun hc h=>?_) fun hc h=>?_
       ·cases h
        refine tRe [] [2,3,1000000] (tG [.keep [2,3,1000000]])
       ·refine tR [] [0,2,3,5,77,110,1000000] ?_
        refine tC h (fun hc h=>?_) fun hc h=>?_
        ·cases h
         refine tRe [] [2,3,1000000] (tG [.keep [2,3,1000000]])
        ·refine tR [] [0,2,3,5,77,113,1000000] ?_
         refine tC h (fun hc h=>?_) fun hc h=>?_
         ·refine aK ?_
          refine tR [] [0,2,3,115,1000000] ?_
          refine tC h (fun hc h=>?_) fun hc h=>?_
          ·refine tR [] [2,3,1000000] ?_
           refine tR [] [2,3,1000000] ?_
           cases h
           refine cZ (tG [.keep [2,3,1000000]])
          ·refine aO (tS ?_)
           refine tR [] [0,2,1000000] ?_
           obtain ⟨y11,hy11,h⟩:=aH h
           cases h
           refine tRe [iC 1 [1000000] (aG7 hy11)] [2,3,1000000] (tG [.keep [2,3,1000000]])
         ·refine tR [] [0,2,3,5,131,1000000] ?_
          refine tC h (fun hc h=>?_) fun hc h=>?_
          ·refine aK ?_
           refine tR [] [0,2,3,134,1000000] ?_
           refine tC h (fun hc h=>?_) fun hc h=>?_
           ·refine tR [] [2,3,1000000] ?_
            cases h
            have h:=bE hk1
            cases h
            refine aP (tq [2,3,1000000])
           ·refine aO (tS ?_)
            refine tR [] [2,3,1000000] ?_
            cases h
            refine tRe [] [2,3,1000000] (tG [.keep [2,3,1000000]])
          ·refine tR [] [2,3,1000000] ?_
           cases h
           have h:=bE hk1
           cases h
           refine aP (tq [2,3,1000000])
   ·obtain ⟨v1,v2,v3,v4,v5,v6⟩:=s
    try dsimp only at h
    refine tR [] [2,3,1000000] ?_
    cases h
    refine aP (tq [2,3,1000000])
theorem bD3 {F:Nat} {a0:List UInt8} {a1:Int} {r:aM×Int×Int} (h:aJ2 F a0 a1=some r):aG Tryz.prog 184 [.d (.str a0),.d (.v (.int .i64 a1))] [] (.tup [.agg (bH r.1),.d (.v (.int .i64 r.2.1)),.d (.v (.int .i64 r.2.2))]) []:=by
 rw [aJ2] at h
 refine aG.intro (N:=41) Tryz.func184 rfl rfl rfl rfl rfl fun e=>?_
 refine tR [] [0,1,4] ?_
 refine tR [] [0,4,7] ?_
 obtain ⟨y1,hy1,h⟩:=aH h
 refine tR [iC 0 [7] (aE1 hy1)] [0,4,7] ?_
 refine tR [] [0,4,7,8] ?_
 refine aK ?_
 refine tR [] [4,7,8,20] ?_
 refine tC h (fun hc h=>?_) fun hc h=>?_
 ·refine tR [] [4,5,6] ?_
  cases h
  refine aP (tq [4,5,6])
 ·refine aO (tS ?_)
  obtain ⟨y2,hy2,h⟩:=aH h
  refine tR [iC 0 [7] (aH1 hy2)] [4,7,8,9,10] ?_
  refine aK ?_
  refine tR [] [4,7,8,9,10,30] ?_
  refine tC h (fun hc h=>?_) fun hc h=>?_
  ·refine tR [] [4,5,6] ?_
   cases h
   refine aP (tq [4,5,6])
  ·refine aO (tS ?_)
   refine jX mixed 2 (.take 0 (.take 1 (.take 3 (.all (.alt 2 (.all (.alt 4 (.take 5 (.all (.alt 6 .done .stop))) .stop)) (.alt 4 (.take 2 (.take 5 (.all (.alt 6 .done .stop)))) .stop)))))) ([0,0,2,1,9,31,63],[0,0,2,0,9,0,36]) 47 [] [4,8,9] [] [(4,.box [dI 0,dI 0,.d (.str []),dI 0,dI 0]),(8,dI y1.2),(9,.box [dI y2.1.f0,dI y2.1.f1,.d (.str y2.1.f2),dI y1.2,dI y2.2.2.2])] [] 11 (by kernel_rfl) (by kernel_rfl) (by kernel_rfl) (trivial) ?_
   refine tR [] [4,5,6] ?_
   cases h
   refine aP (tq [4,5,6])
theorem bD7 {F:Nat} {a0:List UInt8} {a1:Int} {r:aM×Int×Int} (h:aJ8 F a0 a1=some r):aG Tryz.prog 144 [.d (.str a0),.d (.v (.int .i64 a1))] [] (.tup [.agg (bH r.1),.d (.v (.int .i64 r.2.1)),.d (.v (.int .i64 r.2.2))]) []:=by
 rw [aJ8] at h
 refine aG.intro (N:=35) Tryz.func144 rfl rfl rfl rfl rfl fun e=>?_
 refine tR [] [0,1,4] ?_
 refine aK ?_
 refine tR [] [0,1,4,12] ?_
 refine tC h (fun hc h=>?_) fun hc h=>?_
 ·refine tR [] [4,5,6] ?_
  cases h
  refine aP (tq [4,5,6])
 ·refine aO (tS ?_)
  refine aK ?_
  refine tR [] [0,1,4,21] ?_
  refine tC h (fun hc h=>?_) fun hc h=>?_
  ·refine tR [] [4,5,6] ?_
   cases h
   refine aP (tq [4,5,6])
  ·refine aO (tS ?_)
   obtain ⟨y1,hy1,h⟩:=aH h
   refine tR [iC 2 [] (bD3 hy1)] [4,7,8,9] ?_
   refine jc h [4,7,8,9] (fun p=>[(8,dI p)]) (fun s h=>?_) (fun v1 h=>?_)
   ·refine tR [] [4,7,8,9,31] ?_
    refine tC h (fun hc h=>?_) fun hc h=>?_
    ·cases h
     refine tRe [] [4,7,8,9] (tJ [.keep [4,7,8,9]])
    ·cases h
     refine aO (tJ [.keep [4,7,8,9]])
   ·refine tR [] [4,5,6] ?_
    cases h
    refine aP (tq [4,5,6])
theorem fP {F:Nat} {a0:Int} {a1:Int} {r:Unit} (h:gT F a0 a1=some r):aG Tryz.prog 108 [.d (.v (.int .i64 a0)),.d (.v (.int .i64 a1))] [] (.tup []) []:=by
 rw [gT] at h
 refine aG.intro (N:=8) Tryz.func108 rfl rfl rfl rfl rfl fun e=>?_
 cases h
set_option maxHeartbeats 8000000 in
set_option maxRecDepth 100000 in
theorem jJ {F:Nat} {c0:List UInt8} {c1:Int} {c2:Int} {c3:List UInt8} {c4:Int} {c5:Int} {r:(List UInt8)×Int×Int×(List UInt8)×Int×Int} (h:gF F c0 c1 c2 c3 c4 c5=some r):aG Tryz.prog 106 [.bp 1000000 0] [.box [.d (.str c0),.d (.v (.int .i64 c1)),.d (.v (.int .i64 c2)),.d (.str c3),.d (.v (.int .i64 c4)),.d (.v (.int .i64 c5))]] (.tup []) [.box [.d (.str r.1),.d (.v (.int .i64 r.2.1)),.d (.v (.int .i64 r.2.2.1)),.d (.str r.2.2.2.1),.d (.v (.int .i64 r.2.2.2.2.1)),.d (.v (.int .i64 r.2.2.2.2.2))]]:=by
 rw [gF] at h
 refine aG.intro (N:=28) Tryz.func106 rfl rfl rfl rfl rfl fun e=>?_
 obtain ⟨y1,hy1,h⟩:=aH h
 refine cA6 mixed [(18,0,some 0),(17,1,some 1),(16,3,some 2),(15,7,some 4),(14,23,some 5),(13,55,some 6),(12,119,some 7),(11,247,none),(10,255,none),(10,503,none),(10,16631,some 3),(9,511,none),(9,16639,some 8),(9,16887,some 3),(8,1023,some 10),(8,16895,none),(7,2047,none),(7,17407,some 10),(6,4095,none),(6,6143,none),(6,10239,none),(6,18431,some 11),(5,8191,none),(5,12287,none),(5,14335,none),(5,20479,none),(5,22527,some 11),(5,26623,some 11),(4,16383,none),(4,24575,none),(4,28671,none),(4,30719,some 11),(4,53247,some 12),(3,32767,none),(3,57343,some 13),(3,61439,some 12),(2,65535,some 16),(1,131071,some 17),(0,262143,none)] [(18,4,dI y1.2.2),(17,3,dI y1.2.1),(16,2,aN6 y1.1),(15,2,.box [dI 0,dI 0,.d (.str []),dI 0,dI 0]),(14,18,dI y1.2.2),(13,17,dI y1.2.1),(12,16,.agg (bH y1.1)),(11,5,.tup [.agg (bH y1.1),dI y1.2.1,dI y1.2.2]),(11,15,.junk),(10,15,.tup [.agg (bH y1.1),dI y1.2.1,dI y1.2.2]),(9,14,dI c5),(8,13,.bp 1000000 5),(7,12,.bp 1000000 1),(6,11,.bp 1000000 0),(5,10,.bp 1000000 0),(4,9,.d (.str c0)),(3,8,.bp 1000000 0),(2,7,.bp 1000000 0),(1,6,.bp 1000000 0),(0,0,.bp 1000000 0),(0,1000000,.box [.d (.str c0),dI c1,dI c2,.d (.str c3),dI c4,dI c5])] [0,2,3,4,5,6,7,8,9,10,11,12,13,14,15,16,17,18,1000000] ([0,1,2,4,0,16,32,64,128,264,512,1024,1024,1024,0,20479,57343,131071],[0,1,2,4,0,16,32,64,128,264,512,1024,1024,1024,0,18432,4096,8192]) 212479 [(9,{ res:=.tup [.agg (bH y1.1),dI y1.2.1,dI y1.2.2] })] [0,2,3,4,1000000] [] [(0,.bp 1000000 0),(2,aN6 y1.1),(3,dI y1.2.1),(4,dI y1.2.2),(1000000,.box [.d (.str c0),dI c1,dI c2,.d (.str c3),dI c4,dI c5])] ((fun (o9:Prop)=>[(15,o9),(4,o9)]) (aG Tryz.prog 144 [.d (.str c0),dI c5] [] (.tup [.agg (bH y1.1),dI y1.2.1,dI y1.2.2]) [])) 38 (by kernel_rfl) (by kernel_rfl) (by kernel_rfl) (by kernel_rfl) (by kernel_rfl) (by kernel_rfl) (have p9:=bD7 hy1; ⟨p9,p9⟩) ?_
 refine jc h [0,2,1000000] (fun p=>[(0,.bp 1000000 0),(2,aN6 y1.1),(1000000,.box [.d (.str c0),dI c1,dI c2,.d (.str c3),dI c4,dI c5])]) (fun s h=>?_) (fun s h=>?_)
 ·refine tR [] [0,2,3,4,20,1000000] ?_
  refine tC h (fun hc h=>?_) fun hc h=>?_
  ·obtain ⟨y2,hy2,h⟩:=aH h
   cases h
   refine tRe [iC 2 [] (fP hy2)] [0,2,1000000] (tJ [.keep [0,2,1000000]])
  ·cases h
   refine aO (tJ [.keep [0,2,1000000]])
 ·cases h
  refine tRe [] [1000000] (tq [1000000])
theorem rZ {F:Nat} {a0:Int} {a1:Int} {c2:List UInt8} {c3:Int} {c4:Int} {c5:List UInt8} {c6:Int} {c7:Int} {r:Bool×(List UInt8)×Int×Int×(List UInt8)×Int×Int} (h:mU F a0 a1 c2 c3 c4 c5 c6 c7=some r):aG Tryz.prog 185 [.bp 1000000 0,.d (.v (.int .i64 a0)),.d (.v (.int .i64 a1))] [.box [.d (.str c2),.d (.v (.int .i64 c3)),.d (.v (.int .i64 c4)),.d (.str c5),.d (.v (.int .i64 c6)),.d (.v (.int .i64 c7))]] (.d (.v (.bool r.1))) [.box [.d (.str r.2.1),.d (.v (.int .i64 r.2.2.1)),.d (.v (.int .i64 r.2.2.2.1)),.d (.str r.2.2.2.2.1),.d (.v (.int .i64 r.2.2.2.2.2.1)),.d (.v (.int .i64 r.2.2.2.2.2.2))]]:=by
 rw [mU] at h
 refine aG.intro (N:=39) Tryz.func185 rfl rfl rfl rfl rfl fun e=>?_
 refine tR [] [0,1,2,1000000] ?_
 obtain ⟨y1,hy1,h⟩:=aH h
 refine tR [iC 1 [1000000] (jJ hy1)] [0,1,2,1000000] ?_
 refine jE h [1000000] (fun p=>[]) (fun s h hk1=>?_) (fun s h=>?_)
 ·refine aU ?_
  refine tR [] [0,2,9,1000000] ?_
  refine tC h (fun hc h=>?_) fun hc h=>?_
  ·refine tR [] [6,1000000] ?_
   cases h
   have h:=bE hk1
   cases h
   refine aP (tq [6,1000000])
  ·refine tR [] [0,2,17,1000000] ?_
   refine tC h (fun hc h=>?_) fun hc h=>?_
   ·obtain ⟨y2,hy2,h⟩:=aH h
    cases h
    refine tRe [iC 5 [] (fP hy2)] [1000000] (tG [.keep [1000000]])
   ·refine tR [] [0,30,1000000] ?_
    refine tC h (fun hc h=>?_) fun hc h=>?_
    ·obtain ⟨y3,hy3,h⟩:=aH h
     cases h
     refine tRe [iC 5 [] (fP hy3)] [1000000] (tG [.keep [1000000]])
    ·cases h
     refine aO (tG [.keep [1000000]])
 ·refine tR [] [6,1000000] ?_
  cases h
  refine aP (tq [6,1000000])
theorem aB5 {F:Nat} {rec_object_parser_object:Int→(List UInt8)→Int→Int→(List UInt8)→Int→Int→Option (aC×(List UInt8)×Int×Int×(List UInt8)×Int×Int)} (hrec_object_parser_object:∀ {a0:Int},∀ {c1:List UInt8},∀ {c2:Int},∀ {c3:Int},∀ {c4:List UInt8},∀ {c5:Int},∀ {c6:Int},∀ {r:aC×(List UInt8)×Int×Int×(List UInt8)×Int×Int},rec_object_parser_object a0 c1 c2 c3 c4 c5 c6=some r→aG Tryz.prog 107 [.bp 1000000 0,.d (.v (.int .i64 a0))] [.box [.d (.str c1),.d (.v (.int .i64 c2)),.d (.v (.int .i64 c3)),.d (.str c4),.d (.v (.int .i64 c5)),.d (.v (.int .i64 c6))]] (.agg (aZ r.1)) [.box [.d (.str r.2.1),.d (.v (.int .i64 r.2.2.1)),.d (.v (.int .i64 r.2.2.2.1)),.d (.str r.2.2.2.2.1),.d (.v (.int .i64 r.2.2.2.2.2.1)),.d (.v (.int .i64 r.2.2.2.2.2.2))]]) {a0:Int} {c1:List UInt8} {c2:Int} {c3:Int} {c4:List UInt8} {c5:Int} {c6:Int} {r:aC×(List UInt8)×Int×Int×(List UInt8)×Int×Int} (h:qH F rec_object_parser_object a0 c1 c2 c3 c4 c5 c6=some r):aG Tryz.prog 145 [.bp 1000000 0,.d (.v (.int .i64 a0))] [.box [.d (.str c1),.d (.v (.int .i64 c2)),.d (.v (.int .i64 c3)),.d (.str c4),.d (.v (.int .i64 c5)),.d (.v (.int .i64 c6))]] (.agg (aZ r.1)) [.box [.d (.str r.2.1),.d (.v (.int .i64 r.2.2.1)),.d (.v (.int .i64 r.2.2.2.1)),.d (.str r.2.2.2.2.1),.d (.v (.int .i64 r.2.2.2.2.2.1)),.d (.v (.int .i64 r.2.2.2.2.2.2))]]:=by
 rw [qH] at h
 refine aG.intro (N:=22) Tryz.func145 rfl rfl rfl rfl rfl fun e=>?_
 refine tR [] [0,1,4,1000000] ?_
 refine kI [(0,{ take:=[0] })] [0,1,4,5,1000000] [.nilc 5 3 9 1,.nilc 5 4 47 5,.keep [0,1,4,5,1000000]] [(0,.bp 1000000 0),(1,dI a0),(4,.box [dI 0,dI 0,.d (.str []),oW3 [],oW4 []]),(5,.box [dI (6:Int),dI 0,.d (.str []),oW3 [],oW4 []]),(1000000,.box [.d (.str c1),dI c2,dI c3,.d (.str c4),dI c5,dI c6])] [] 3 (by kernel_rfl) (trivial) ?_
 refine jc h [4,5,1000000] (fun p=>[(4,.box [dI 0,dI 0,.d (.str []),oW3 [],oW4 []]),(5,.box [dI (6:Int),dI 0,.d (.str []),oW3 [],oW4 p.1]),(1000000,.box [.d (.str p.2.1),dI p.2.2.1,dI p.2.2.2.1,.d (.str p.2.2.2.2.1),dI p.2.2.2.2.2.1,dI p.2.2.2.2.2.2])]) (fun s h=>?_) (fun s h=>?_)
 ·refine aU ?_
  refine tL (fun n p=>jA F a0 rec_object_parser_object n p.1 p.2.1 p.2.2.1 p.2.2.2.1 p.2.2.2.2.1 p.2.2.2.2.2.1 p.2.2.2.2.2.2) [.keep [0,1,4,5,1000000]] [0,1,4,5,1000000] (fun p=>[(5,.box [dI (6:Int),dI 0,.d (.str []),oW3 [],oW4 p.1]),(1000000,.box [.d (.str p.2.1),dI p.2.2.1,dI p.2.2.2.1,.d (.str p.2.2.2.2.1),dI p.2.2.2.2.2.1,dI p.2.2.2.2.2.2])]) F ([],c1,c2,c3,c4,c5,c6) h fun n p h=>?_
  obtain ⟨v1,v2,v3,v4,v5,v6,v7⟩:=p
  have h:jA F a0 rec_object_parser_object (n+1) v1 v2 v3 v4 v5 v6 v7=some s:=h
  rw [jA] at h
  refine aK ?_
  obtain ⟨y1,hy1,h⟩:=aH h
  refine tR [iW 3 (cO bD (xs:=v1)),iC 4 [1000000] (rZ hy1)] [0,1,4,5,11,1000000] ?_
  refine tC h (fun hc h=>?_) fun hc h=>?_
  ·refine aO (tS ?_)
   refine aU ?_
   obtain ⟨y2,hy2,h⟩:=aH h
   obtain ⟨hp1,h⟩:=aL h
   refine mH mixed 3 (.take 0 (.take 2 (.take 3 (.take 4 (.all (.alt 1 (.all (.alt 5 (.all (.alt 6 (.all (.alt 7 (.take 8 (.all (.alt 9 .done .stop))) .stop)) .stop)) .stop)) (.alt 5 (.all (.alt 1 (.all (.alt 6 (.all (.alt 7 (.take 8 (.all (.alt 9 .done .stop))) .stop)) .stop)) (.alt 6 (.take 1 (.all (.alt 7 (.take 8 (.all (.alt 9 .done .stop))) .stop))) .stop))) .stop))))))) ([0,1,0,0,8,20,32,98,255,511],[0,1,0,0,8,20,32,66,0,384]) 287 [(5,{ res:=.agg (aZ y2.1),vout:=[.box [.d (.str y2.2.1),dI y2.2.2.1,dI y2.2.2.2.1,.d (.str y2.2.2.2.2.1),dI y2.2.2.2.2.2.1,dI y2.2.2.2.2.2.2]],xs:=[1000000] }),(6,{ es:=some (([y2.1]).map bD) }),(7,{ es:=some ((v1++([y2.1])).map bD) })] [0,1,4,5,1000000] [] [(0,.bp 1000000 0),(1,dI a0),(4,.box [dI 0,dI 0,.d (.str []),oW3 [],oW4 []]),(5,.box [dI (6:Int),dI 0,.d (.str []),oW3 [],.own 47 5 ((v1++([y2.1])).map bD)]),(1000000,.box [.d (.str y2.2.1),dI y2.2.2.1,dI y2.2.2.2.1,.d (.str y2.2.2.2.2.1),dI y2.2.2.2.2.2.1,dI y2.2.2.2.2.2.2])] ((fun (o5:Prop)=>fun (o6:Prop)=>fun (o7:Prop)=>[(5,o5),(0,o6),(0,o7),(2,o5),(1,o6),(0,o7),(2,o6),(1,o7)]) (aG Tryz.prog 107 [.bp 1000000 0,dI (IntKind.i64.wrap (a0+(1:Int)))] [.box [.d (.str y1.2.1),dI y1.2.2.1,dI y1.2.2.2.1,.d (.str y1.2.2.2.2.1),dI y1.2.2.2.2.2.1,dI y1.2.2.2.2.2.2]] (.agg (aZ y2.1)) [.box [.d (.str y2.2.1),dI y2.2.2.1,dI y2.2.2.2.1,.d (.str y2.2.2.2.2.1),dI y2.2.2.2.2.2.1,dI y2.2.2.2.2.2.2]]) ([aZ y2.1]=(([y2.1]).map bD)) ((v1.map bD).length+(([y2.1]).map bD).length≤4294967296∧(v1.map bD)++(([y2.1]).map bD)=((v1++([y2.1])).map bD))) 2 (by kernel_rfl) (by kernel_rfl) (by kernel_rfl) (have p5:=hrec_object_parser_object hy2; have p6:=(cV6 eY y2.1 (rfl:([]:List (List Dat))=([]:List aC).map bD)); have p7:=gB bD hp1; ⟨p5,p6,p7,p5,p6,p7,p6,p7⟩) (tE [.keep [0,1,4,5,1000000]] ((v1++([y2.1])),y2.2.1,y2.2.2.1,y2.2.2.2.1,y2.2.2.2.2.1,y2.2.2.2.2.2.1,y2.2.2.2.2.2.2) h)
  ·cases h
   refine cZ (tJ [.keep [4,5,1000000]])
 ·obtain ⟨v8,v9,v10,v11,v12,v13,v14⟩:=s
  try dsimp only at h
  refine tR [iH 0 { frz:=[(5,4),(5,5)] }] [4,1000000] ?_
  cases h
  refine aP (tq [4,1000000])
theorem aB3 {F:Nat} {rec_object_parser_object:Int→(List UInt8)→Int→Int→(List UInt8)→Int→Int→Option (aC×(List UInt8)×Int×Int×(List UInt8)×Int×Int)} (hrec_object_parser_object:∀ {a0:Int},∀ {c1:List UInt8},∀ {c2:Int},∀ {c3:Int},∀ {c4:List UInt8},∀ {c5:Int},∀ {c6:Int},∀ {r:aC×(List UInt8)×Int×Int×(List UInt8)×Int×Int},rec_object_parser_object a0 c1 c2 c3 c4 c5 c6=some r→aG Tryz.prog 107 [.bp 1000000 0,.d (.v (.int .i64 a0))] [.box [.d (.str c1),.d (.v (.int .i64 c2)),.d (.v (.int .i64 c3)),.d (.str c4),.d (.v (.int .i64 c5)),.d (.v (.int .i64 c6))]] (.agg (aZ r.1)) [.box [.d (.str r.2.1),.d (.v (.int .i64 r.2.2.1)),.d (.v (.int .i64 r.2.2.2.1)),.d (.str r.2.2.2.2.1),.d (.v (.int .i64 r.2.2.2.2.2.1)),.d (.v (.int .i64 r.2.2.2.2.2.2))]]) {a0:Int} {c1:List UInt8} {c2:Int} {c3:Int} {c4:List UInt8} {c5:Int} {c6:Int} {r:aC×(List UInt8)×Int×Int×(List UInt8)×Int×Int} (h:pY F rec_object_parser_object a0 c1 c2 c3 c4 c5 c6=some r):aG Tryz.prog 146 [.bp 1000000 0,.d (.v (.int .i64 a0))] [.box [.d (.str c1),.d (.v (.int .i64 c2)),.d (.v (.int .i64 c3)),.d (.str c4),.d (.v (.int .i64 c5)),.d (.v (.int .i64 c6))]] (.agg (aZ r.1)) [.box [.d (.str r.2.1),.d (.v (.int .i64 r.2.2.1)),.d (.v (.int .i64 r.2.2.2.1)),.d (.str r.2.2.2.2.1),.d (.v (.int .i64 r.2.2.2.2.2.1)),.d (.v (.int .i64 r.2.2.2.2.2.2))]]:=by
 rw [pY] at h
 refine aG.intro (N:=60) Tryz.func146 rfl rfl rfl rfl rfl fun e=>?_
 refine tR [] [0,1,4,1000000] ?_
 refine kI [(0,{ take:=[0] })] [0,1,4,5,1000000] [.nilc 5 3 9 1,.nilc 5 4 47 5,.keep [0,1,4,5,1000000]] [(0,.bp 1000000 0),(1,dI a0),(4,.box [dI 0,dI 0,.d (.str []),oW3 [],oW4 []]),(5,.box [dI (7:Int),dI 0,.d (.str []),oW3 [],oW4 []]),(1000000,.box [.d (.str c1),dI c2,dI c3,.d (.str c4),dI c5,dI c6])] [] 3 (by kernel_rfl) (trivial) ?_
 refine jc h [4,5,1000000] (fun p=>[(4,.box [dI 0,dI 0,.d (.str []),oW3 [],oW4 []]),(5,.box [dI (7:Int),dI 0,.d (.str []),oW3 p.1,oW4 p.2.1]),(1000000,.box [.d (.str p.2.2.1),dI p.2.2.2.1,dI p.2.2.2.2.1,.d (.str p.2.2.2.2.2.1),dI p.2.2.2.2.2.2.1,dI p.2.2.2.2.2.2.2])]) (fun s h=>?_) (fun s h=>?_)
 ·refine aU ?_
  refine tL (fun n p=>iU F a0 rec_object_parser_object n p.1 p.2.1 p.2.2.1 p.2.2.2.1 p.2.2.2.2.1 p.2.2.2.2.2.1 p.2.2.2.2.2.2.1 p.2.2.2.2.2.2.2) [.keep [0,1,4,5,1000000]] [0,1,4,5,1000000] (fun p=>[(5,.box [dI (7:Int),dI 0,.d (.str []),oW3 p.1,oW4 p.2.1]),(1000000,.box [.d (.str p.2.2.1),dI p.2.2.2.1,dI p.2.2.2.2.1,.d (.str p.2.2.2.2.2.1),dI p.2.2.2.2.2.2.1,dI p.2.2.2.2.2.2.2])]) F ([],[],c1,c2,c3,c4,c5,c6) h fun n p h=>?_
  obtain ⟨v1,v2,v3,v4,v5,v6,v7,v8⟩:=p
  have h:iU F a0 rec_object_parser_object (n+1) v1 v2 v3 v4 v5 v6 v7 v8=some s:=h
  rw [iU] at h
  refine aK ?_
  obtain ⟨y1,hy1,h⟩:=aH h
  refine tR [iW 3 (cO bD (xs:=v2)),iC 4 [1000000] (rZ hy1)] [0,1,4,5,15,1000000] ?_
  refine tC h (fun hc h=>?_) fun hc h=>?_
  ·refine aO (tS ?_)
   refine aU ?_
   refine tR [] [0,1,4,5,6,1000000] ?_
   obtain ⟨y2,hy2,h⟩:=aH h
   refine tR [iC 4 [] (mF hy2)] [0,1,4,5,6,7,8,1000000] ?_
   refine jc h [0,1,4,5,6,7,8,1000000] (fun p=>[]) (fun s h=>?_) (fun s h=>?_)
   ·refine tR [] [0,1,4,5,6,7,8,30,1000000] ?_
    refine tC h (fun hc h=>?_) fun hc h=>?_
    ·obtain ⟨y3,hy3,h⟩:=aH h
     cases h
     refine tRe [iC 2 [] (fP hy3)] [0,1,4,5,6,7,8,1000000] (tJ [.keep [0,1,4,5,6,7,8,1000000]])
    ·cases h
     refine aO (tJ [.keep [0,1,4,5,6,7,8,1000000]])
   ·refine jc h [0,1,4,5,6,7,1000000] (fun p=>[]) (fun s h=>?_) (fun s h=>?_)
    ·refine tR [] [0,1,4,5,6,7,34,1000000] ?_
     refine tC h (fun hc h=>?_) fun hc h=>?_
     ·obtain ⟨y4,hy4,h⟩:=aH h
      cases h
      refine tRe [iC 2 [] (fP hy4)] [0,1,4,5,6,7,1000000] (tJ [.keep [0,1,4,5,6,7,1000000]])
     ·cases h
      refine aO (tJ [.keep [0,1,4,5,6,7,1000000]])
    ·obtain ⟨y5,hy5,h⟩:=aH h
     refine tR [iC 1 [1000000] (jJ hy5)] [0,1,4,5,6,7,1000000] ?_
     obtain ⟨y6,hy6,h⟩:=aH h
     refine tR [iC 3 [1000000] (hrec_object_parser_object hy6)] [0,1,4,5,6,7,9,1000000] ?_
     obtain ⟨hp1,h⟩:=aL h
     refine tR [iX 5 { es:=some (([y1.2.2.2.2.1]).map cS),take:=[0] } (show (([y1.2.2.2.2.1]).map cS)=(([y1.2.2.2.2.1]).map cS) from rfl),iCh 6 { xs:=[5],take:=[2] } (show aG Tryz.prog 186 [.vw (1000000,4),dI y2.1,.own 1099511627785 1 (([y1.2.2.2.2.1]).map cS)] [.box [dI (7:Int),dI 0,.d (.str []),oW3 v1,oW4 v2]] (.own 9 1 ((v1.take y2.1.toNat++([y1.2.2.2.2.1])++v1.drop y2.1.toNat).map cS)) [.box [dI (7:Int),dI 0,.d (.str []),.junk,oW4 v2]] from bJ7 hp1 (by decide) (by kernel_rfl) (by kernel_rfl))] [0,1,4,5,7,9,1000000] ?_
     obtain ⟨hp2,h⟩:=aL h
     refine tRe [iX 4 { es:=some (([y6.1]).map bD),take:=[0] } (show [aZ y6.1]=(([y6.1]).map bD) from cV6 eY y6.1 (rfl:([]:List (List Dat))=([]:List aC).map bD)),iCh 5 { xs:=[5],take:=[2] } (show aG Tryz.prog 187 [.vw (1000000,5),dI y2.1,.own 1099511627823 5 (([y6.1]).map bD)] [.box [dI (7:Int),dI 0,.d (.str []),.own 9 1 ((v1.take y2.1.toNat++([y1.2.2.2.2.1])++v1.drop y2.1.toNat).map cS),oW4 v2]] (.own 47 5 ((v2.take y2.1.toNat++([y6.1])++v2.drop y2.1.toNat).map bD)) [.box [dI (7:Int),dI 0,.d (.str []),.own 9 1 ((v1.take y2.1.toNat++([y1.2.2.2.2.1])++v1.drop y2.1.toNat).map cS),.junk]] from bL5 hp2 (by decide) (by kernel_rfl) (by kernel_rfl))] [0,1,4,5,1000000] (tE [.keep [0,1,4,5,1000000]] ((v1.take y2.1.toNat++([y1.2.2.2.2.1])++v1.drop y2.1.toNat),(v2.take y2.1.toNat++([y6.1])++v2.drop y2.1.toNat),y6.2.1,y6.2.2.1,y6.2.2.2.1,y6.2.2.2.2.1,y6.2.2.2.2.2.1,y6.2.2.2.2.2.2) h)
  ·cases h
   refine cZ (tJ [.keep [4,5,1000000]])
 ·obtain ⟨v9,v10,v11,v12,v13,v14,v15,v16⟩:=s
  try dsimp only at h
  refine tR [iH 0 { frz:=[(5,4),(5,5)] }] [4,1000000] ?_
  cases h
  refine aP (tq [4,1000000])
end Go.Vm.PgfG
