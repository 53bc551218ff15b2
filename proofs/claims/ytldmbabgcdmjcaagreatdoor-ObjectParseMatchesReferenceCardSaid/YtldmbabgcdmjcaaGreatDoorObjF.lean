import Derived.Test.YtldmbabgcdmjcaaGreatDoorVmC
import Derived.Test.YtldmbabgcdmjcaaGreatDoorVmD
import Derived.Lib.ItoaNum
import Derived.Lib.AtoiAll
import Derived.Lib.Bytealg
import Derived.Shelf.GgClosure.StringsIndexFunc
namespace Go.Vm.ObjM
structure aG where
 f0:Int
 f1:Int
 f2:List UInt8
 f3:List (List UInt8)
 f4:List aG
mutual
def bK:aG→List Dat
 | ⟨x0,x1,x2,x3,x4⟩=>(cI .i64) x0++(cI .i64) x1++cS x2++(cL 1 cS) x3++[Dat.sl 5 (wH x4)]
def wH:List aG→List (List Dat)
 | []=>[]
 | x :: l=>bK x :: wH l
end
theorem zS:∀ l,wH l=l.map bK
 | []=>rfl
 | x :: l=>congrArg (bK x :: ·) (zS l)
def bA (x:aG):List Dat:=(cI .i64) x.f0++(cI .i64) x.f1++cS x.f2++(cL 1 cS) x.f3++(cL 5 bK) x.f4
theorem lI:∀ x,bK x=bA x
 | ⟨x0,x1,x2,x3,x4⟩=>by simp only [bK,bA,zS,cL]
structure cC1 where
 f0:Int
 f1:Int
deriving DecidableEq
structure aD where
 f0:Int
 f1:Int
 f2:List UInt8
 f3:Int
 f4:Int
deriving DecidableEq
def aX (x:aD):List Dat:=(cI .i64) x.f0++(cI .i64) x.f1++cS x.f2++(cI .i64) x.f3++(cI .i64) x.f4
structure bE where
 f0:aG
 f1:List UInt8
 f2:Bool
def fE (x:bE):List Dat:=bA x.f0++cS x.f1++cB x.f2
def aC:List Int:=[1,10,100,1000,10000,100000,1000000,10000000,100000000,1000000000,10000000000,100000000000,1000000000000,10000000000000,100000000000000,1000000000000000,10000000000000000,100000000000000000,1000000000000000000,10000000000000000000]
/-- what strconv.Atoi returns of a number. -/
def yA (l:List UInt8):Option Int :=
 match Lib.atoiAll l with
 | .ok v=>some v
 | _=>none
/-- strings.ContainsFunc,of a predicate that answers at every rune. -/
def qU (q:Int→Option Bool) (l:List UInt8):Option Bool :=
 if ∀ x:Nat,x≤1114111→(q x).isSome=true then some (decide (0≤Lib.idxFunc (fun x=>(q x).getD false) true ⟨l.toArray⟩)) else none
theorem aC4 {q:Int→Option Bool} {l:List UInt8} {r:Bool} (h:qU q l=some r):(∀ x:Nat,x≤1114111→(q x).isSome=true)∧r=decide (0≤Lib.idxFunc (fun x=>(q x).getD false) true ⟨l.toArray⟩):=by
 unfold qU at h
 split at h
 ·rename_i h1; cases h; exact ⟨h1,rfl⟩
 ·cases h
/-- The same,of a predicate of which it is plain that it answers. -/
def vJ (q:Int→Option Bool) (l:List UInt8):Option Bool:=some (decide (0≤Lib.idxFunc (fun x=>(q x).getD false) true ⟨l.toArray⟩))
theorem aE7 {q:Int→Option Bool} {l:List UInt8} {r:Bool} (ht:∀ x:Nat,x≤1114111→(q x).isSome=true) (h:vJ q l=some r):qU q l=some r:=by
 unfold qU
 rw [if_pos ht]
 exact h
/-- printworks/printworksref3.blank -/
def mU (F:Nat) (a0:Int):Option Bool :=
 some (bif (bif (a0 == (32:Int)) then true else (a0 == (9:Int))) then true else (a0 == (10:Int)))
def eT (F:Nat) (a0:Int) (z1:Int):Nat→Int→Option (Out Unit Bool)
 | 0,_=>none
 | n+1,v1 =>
  bif (decide (v1 < z1)) then
   chk (0≤v1∧v1 < ([(UInt8.ofNat (40:Int).toNat),(UInt8.ofNat (41:Int).toNat),(UInt8.ofNat (60:Int).toNat),(UInt8.ofNat (62:Int).toNat),(UInt8.ofNat (91:Int).toNat),(UInt8.ofNat (93:Int).toNat),(UInt8.ofNat (47:Int).toNat),(UInt8.ofNat (64:Int).toNat),(UInt8.ofNat (37:Int).toNat)]).length) <|
   dH (((([(UInt8.ofNat (40:Int).toNat),(UInt8.ofNat (41:Int).toNat),(UInt8.ofNat (60:Int).toNat),(UInt8.ofNat (62:Int).toNat),(UInt8.ofNat (91:Int).toNat),(UInt8.ofNat (93:Int).toNat),(UInt8.ofNat (47:Int).toNat),(UInt8.ofNat (64:Int).toNat),(UInt8.ofNat (37:Int).toNat)]).getD v1.toNat 0).toNat:Int)) fun z2 =>
   bif (a0 == z2) then
    some (.esc true)
   else
    eT F a0 z1 n (IntKind.i64.wrap (v1+(1:Int)))
  else
   some (.go ())
/-- printworks/printworksref3.mark -/
def vU (F:Nat) (a0:Int):Option Bool :=
 chk (0 < ([(UInt8.ofNat (40:Int).toNat),(UInt8.ofNat (41:Int).toNat),(UInt8.ofNat (60:Int).toNat),(UInt8.ofNat (62:Int).toNat),(UInt8.ofNat (91:Int).toNat),(UInt8.ofNat (93:Int).toNat),(UInt8.ofNat (47:Int).toNat),(UInt8.ofNat (64:Int).toNat),(UInt8.ofNat (37:Int).toNat)]).length) <|
 dH ((([(UInt8.ofNat (40:Int).toNat),(UInt8.ofNat (41:Int).toNat),(UInt8.ofNat (60:Int).toNat),(UInt8.ofNat (62:Int).toNat),(UInt8.ofNat (91:Int).toNat),(UInt8.ofNat (93:Int).toNat),(UInt8.ofNat (47:Int).toNat),(UInt8.ofNat (64:Int).toNat),(UInt8.ofNat (37:Int).toNat)]).length:Int)) fun z1 =>
 dA (eT F a0 z1 F (0:Int))
  (fun e=>some e) fun _ =>
 some false
/-- printworks/printworksref3.plain -/
def oL (F:Nat) (a0:Int):Option Bool :=
 call (mU F a0) fun y1 =>
 call ((bif (((!y1) == true) && true) then vU F a0 else some false)) fun y2 =>
 some (bif (!y1) then (!y2) else false)
/-- printworks/printworksref3.digit -/
def gY (F:Nat) (a0:Int):Option Bool :=
 some (bif (decide (a0 ≥ (48:Int))) then (decide (a0≤(57:Int))) else false)
def jP (F:Nat) (a0:List UInt8):Nat→Int→Int→Option (Out Int Int)
 | 0,_,_=>none
 | n+1,v1,v2 =>
  bif (decide (v2 < (a0.length:Int))) then
   chk (0≤v2∧v2 < a0.length) <|
   call (gY F ((a0.getD v2.toNat 0).toNat:Int)) fun y1 =>
   bif (!y1) then
    some (.esc (-1:Int))
   else
    chk (0≤v2∧v2 < a0.length) <|
    dH (IntKind.i64.wrap ((IntKind.i64.wrap (v1 * (10:Int)))+(IntKind.i64.wrap ((a0.getD v2.toNat 0).toNat:Int)))) fun z1 =>
    dH ((if (1099511627776:Int) < (IntKind.i64.wrap (z1 - (48:Int))) then (1099511627776:Int) else (IntKind.i64.wrap (z1 - (48:Int))))) fun z2 =>
    jP F a0 n z2 (IntKind.i64.wrap (v2+(1:Int)))
  else
   some (.go v1)
/-- printworks/printworksref3.whole -/
def qL (F:Nat) (a0:List UInt8):Option Int :=
 bif (a0 == []) then
  some (-1:Int)
 else
  dA (jP F a0 F (0:Int) (0:Int))
   (fun e=>some e) fun v3 =>
  some v3
/-- printworks/printworksref3.intToken -/
def nY (F:Nat) (a0:List UInt8):Option (aD×Int) :=
 call (chk (0≤(0:Int)∧(0:Int) < a0.length) <|
  bif (((a0.getD (0:Int).toNat 0).toNat:Int) == (45:Int)) then
   some (-1:Int)
  else
   some (1:Int))
  fun v1 =>
 call (chk (0≤(0:Int)∧(0:Int) < a0.length) <|
  call (gY F ((a0.getD (0:Int).toNat 0).toNat:Int)) fun y1 =>
  bif (!y1) then
   chk (0≤(1:Int)∧(1:Int)≤(a0.length:Int)∧(a0.length:Int)≤(a0.length:Int)) <|
   some ((a0.drop (1:Int).toNat).take ((a0.length:Int).toNat - (1:Int).toNat))
  else
   some a0)
  fun v2 =>
 call (qL F v2) fun y2 =>
 bif (bif (decide (y2 < (0:Int))) then true else (decide ((v2.length:Int) > (10:Int)))) then
  some ((aD.mk 0 0 [] 0 0),(5:Int))
 else
  bif (decide (y2 > (2147483647:Int))) then
   some ((aD.mk 0 0 [] 0 0),(3:Int))
  else
   some ((aD.mk (1:Int) (IntKind.i64.wrap (v1 * y2)) [] 0 0),(0:Int))
/-- printworks/printworksref3.letter -/
def jN (F:Nat) (a0:Int):Option Bool :=
 dH ((bif (bif (decide (a0 ≥ (65:Int))) then (decide (a0≤(90:Int))) else false) then true else (bif (decide (a0 ≥ (97:Int))) then (decide (a0≤(122:Int))) else false))) fun z1 =>
 some z1
def eY (F:Nat) (a0:List UInt8):Nat→Int→Option (Out Unit Int)
 | 0,_=>none
 | n+1,v1 =>
  bif (decide (v1 < (a0.length:Int))) then
   chk (0≤v1∧v1 < a0.length) <|
   call (jN F ((a0.getD v1.toNat 0).toNat:Int)) fun y1 =>
   chk ((((!y1) == true) && true)=true→0≤v1∧v1 < a0.length) <|
   call ((bif (((!y1) == true) && true) then gY F ((a0.getD v1.toNat 0).toNat:Int) else some false)) fun y2 =>
   chk ((((bif (!y1) then (!y2) else false) == true) && true)=true→0≤v1∧v1 < a0.length) <|
   dH ((bif (bif (!y1) then (!y2) else false) then (((a0.getD v1.toNat 0).toNat:Int) != (42:Int)) else false)) fun z1 =>
   chk (((z1 == true) && true)=true→0≤v1∧v1 < a0.length) <|
   chk ((((bif z1 then (((a0.getD v1.toNat 0).toNat:Int) != (95:Int)) else false) == true) && true)=true→0≤v1∧v1 < a0.length) <|
   dH ((bif (bif z1 then (((a0.getD v1.toNat 0).toNat:Int) != (95:Int)) else false) then (((a0.getD v1.toNat 0).toNat:Int) != (46:Int)) else false)) fun z2 =>
   bif z2 then
    some (.esc (5:Int))
   else
    eY F a0 n (IntKind.i64.wrap (v1+(1:Int)))
  else
   some (.go ())
/-- printworks/printworksref3.wordError -/
def gX (F:Nat) (a0:List UInt8):Option Int :=
 dA (eY F a0 F (0:Int))
  (fun e=>some e) fun _ =>
 bif (decide ((a0.length:Int) > (31:Int))) then
  some (2:Int)
 else
  some (0:Int)
def fH (F:Nat) (a0:Int) (z1:Int):Nat→Int→Option (Out Unit Int)
 | 0,_=>none
 | n+1,v1 =>
  bif (decide (v1 < z1)) then
   chk (0≤v1∧v1 < ([(UInt8.ofNat (48:Int).toNat),(UInt8.ofNat (49:Int).toNat),(UInt8.ofNat (50:Int).toNat),(UInt8.ofNat (51:Int).toNat),(UInt8.ofNat (52:Int).toNat),(UInt8.ofNat (53:Int).toNat),(UInt8.ofNat (54:Int).toNat),(UInt8.ofNat (55:Int).toNat),(UInt8.ofNat (56:Int).toNat),(UInt8.ofNat (57:Int).toNat),(UInt8.ofNat (97:Int).toNat),(UInt8.ofNat (98:Int).toNat),(UInt8.ofNat (99:Int).toNat),(UInt8.ofNat (100:Int).toNat),(UInt8.ofNat (101:Int).toNat),(UInt8.ofNat (102:Int).toNat)]).length) <|
   dH (((([(UInt8.ofNat (48:Int).toNat),(UInt8.ofNat (49:Int).toNat),(UInt8.ofNat (50:Int).toNat),(UInt8.ofNat (51:Int).toNat),(UInt8.ofNat (52:Int).toNat),(UInt8.ofNat (53:Int).toNat),(UInt8.ofNat (54:Int).toNat),(UInt8.ofNat (55:Int).toNat),(UInt8.ofNat (56:Int).toNat),(UInt8.ofNat (57:Int).toNat),(UInt8.ofNat (97:Int).toNat),(UInt8.ofNat (98:Int).toNat),(UInt8.ofNat (99:Int).toNat),(UInt8.ofNat (100:Int).toNat),(UInt8.ofNat (101:Int).toNat),(UInt8.ofNat (102:Int).toNat)]).getD v1.toNat 0).toNat:Int)) fun z2 =>
   dH ((bif (a0 == z2) then true else (bif (decide (v1 > (9:Int))) then (a0 == (IntKind.u8.wrap (z2 - (32:Int)))) else false))) fun z3 =>
   bif z3 then
    some (.esc v1)
   else
    fH F a0 z1 n (IntKind.i64.wrap (v1+(1:Int)))
  else
   some (.go ())
/-- printworks/printworksref3.hex -/
def kK (F:Nat) (a0:Int):Option Int :=
 chk (0 < ([(UInt8.ofNat (48:Int).toNat),(UInt8.ofNat (49:Int).toNat),(UInt8.ofNat (50:Int).toNat),(UInt8.ofNat (51:Int).toNat),(UInt8.ofNat (52:Int).toNat),(UInt8.ofNat (53:Int).toNat),(UInt8.ofNat (54:Int).toNat),(UInt8.ofNat (55:Int).toNat),(UInt8.ofNat (56:Int).toNat),(UInt8.ofNat (57:Int).toNat),(UInt8.ofNat (97:Int).toNat),(UInt8.ofNat (98:Int).toNat),(UInt8.ofNat (99:Int).toNat),(UInt8.ofNat (100:Int).toNat),(UInt8.ofNat (101:Int).toNat),(UInt8.ofNat (102:Int).toNat)]).length) <|
 dH ((([(UInt8.ofNat (48:Int).toNat),(UInt8.ofNat (49:Int).toNat),(UInt8.ofNat (50:Int).toNat),(UInt8.ofNat (51:Int).toNat),(UInt8.ofNat (52:Int).toNat),(UInt8.ofNat (53:Int).toNat),(UInt8.ofNat (54:Int).toNat),(UInt8.ofNat (55:Int).toNat),(UInt8.ofNat (56:Int).toNat),(UInt8.ofNat (57:Int).toNat),(UInt8.ofNat (97:Int).toNat),(UInt8.ofNat (98:Int).toNat),(UInt8.ofNat (99:Int).toNat),(UInt8.ofNat (100:Int).toNat),(UInt8.ofNat (101:Int).toNat),(UInt8.ofNat (102:Int).toNat)]).length:Int)) fun z1 =>
 dA (fH F a0 z1 F (0:Int))
  (fun e=>some e) fun _ =>
 some (-1:Int)
def gZ (F:Nat)  : Nat→(List UInt8)→(List UInt8)→Option (Out ((List UInt8)) (aD×Int))
 | 0,_,_=>none
 | n+1,v1,v2 =>
  bif (!(v1 == [])) then
   chk (0≤(0:Int)∧(0:Int) < v1.length) <|
   dA (bif (((v1.getD (0:Int).toNat 0).toNat:Int) == (35:Int)) then
     chk ((((decide ((v1.length:Int) < (3:Int))) == false) && true)=true→0≤(1:Int)∧(1:Int) < v1.length) <|
     call ((bif (((decide ((v1.length:Int) < (3:Int))) == false) && true) then kK F ((v1.getD (1:Int).toNat 0).toNat:Int) else some 0)) fun y1 =>
     chk ((((bif (decide ((v1.length:Int) < (3:Int))) then true else (decide (y1 < (0:Int)))) == false) && true)=true→0≤(2:Int)∧(2:Int) < v1.length) <|
     call ((bif (((bif (decide ((v1.length:Int) < (3:Int))) then true else (decide (y1 < (0:Int)))) == false) && true) then kK F ((v1.getD (2:Int).toNat 0).toNat:Int) else some 0)) fun y2 =>
     dH ((bif (bif (decide ((v1.length:Int) < (3:Int))) then true else (decide (y1 < (0:Int)))) then true else (decide (y2 < (0:Int))))) fun z1 =>
     bif z1 then
      some (.esc ((aD.mk 0 0 [] 0 0),(5:Int)))
     else
      chk (0≤(1:Int)∧(1:Int) < v1.length) <|
      call (kK F ((v1.getD (1:Int).toNat 0).toNat:Int)) fun y3 =>
      chk (0≤(2:Int)∧(2:Int) < v1.length) <|
      call (kK F ((v1.getD (2:Int).toNat 0).toNat:Int)) fun y4 =>
      bif ((IntKind.u8.wrap (IntKind.i64.wrap ((IntKind.i64.wrap (y3 * (16:Int)))+y4))) == (0:Int)) then
       some (.esc ((aD.mk 0 0 [] 0 0),(5:Int)))
      else
       some (.go ((3:Int),IntKind.u8.wrap (IntKind.i64.wrap ((IntKind.i64.wrap (y3 * (16:Int)))+y4))))
    else
     dH ((bif (decide (((v1.getD (0:Int).toNat 0).toNat:Int) < (33:Int))) then true else (decide (((v1.getD (0:Int).toNat 0).toNat:Int) > (126:Int))))) fun z2 =>
     bif z2 then
      some (.esc ((aD.mk 0 0 [] 0 0),(5:Int)))
     else
      some (.go ((1:Int),((v1.getD (0:Int).toNat 0).toNat:Int))))
    (fun e=>some (.esc e)) fun (v3,v4) =>
   chk (0≤v4∧v4 < 256) <|
   chk (v2.length+([(UInt8.ofNat v4.toNat)]).length≤9223372036854775807) <|
   chk (0≤v3∧v3≤(v1.length:Int)∧(v1.length:Int)≤(v1.length:Int)) <|
   gZ F n ((v1.drop v3.toNat).take ((v1.length:Int).toNat - v3.toNat)) (v2++([(UInt8.ofNat v4.toNat)]))
  else
   some (.go v2)
/-- printworks/printworksref3.nameToken -/
def mK (F:Nat) (a0:List UInt8):Option (aD×Int) :=
 dA (gZ F F a0 [])
  (fun e=>some e) fun v5 =>
 bif (v5 == []) then
  some ((aD.mk 0 0 [] 0 0),(5:Int))
 else
  bif (decide ((v5.length:Int) > (31:Int))) then
   some ((aD.mk 0 0 [] 0 0),(2:Int))
  else
   some ((aD.mk (2:Int) 0 v5 0 0),(0:Int))
/-- printworks/printworksref3.refToken -/
def nX (F:Nat) (a0:List UInt8):Option (aD×Int) :=
 call (qL F a0) fun y1 =>
 chk ((((decide ((a0.length:Int) > (1:Int))) == true) && (((bif (decide (y1 < (0:Int))) then true else (decide ((a0.length:Int) > (3:Int)))) == false) && true))=true→0≤(0:Int)∧(0:Int) < a0.length) <|
 dH ((bif (decide ((a0.length:Int) > (1:Int))) then (((a0.getD (0:Int).toNat 0).toNat:Int) == (48:Int)) else false)) fun z1 =>
 dH ((bif (bif (decide (y1 < (0:Int))) then true else (decide ((a0.length:Int) > (3:Int)))) then true else z1)) fun z2 =>
 bif z2 then
  some ((aD.mk 0 0 [] 0 0),(5:Int))
 else
  bif (bif (y1 == (0:Int)) then true else (decide (y1 > (255:Int)))) then
   some ((aD.mk 0 0 [] 0 0),(3:Int))
  else
   some ((aD.mk (4:Int) y1 [] 0 0),(0:Int))
/-- printworks/printworksref3.map1 -/
def vH (F:Nat) (a0:Int):Option Int :=
 bif (a0 == (110:Int)) then
  some (10:Int)
 else
  bif (a0 == (116:Int)) then
   some (9:Int)
  else
   call (bif (a0 == (92:Int)) then
     some (a0 == (92:Int))
    else
     bif (a0 == (40:Int)) then
      some (a0 == (40:Int))
     else
      some (a0 == (41:Int)))
    fun v1 =>
   bif v1 then
    some (IntKind.i64.wrap a0)
   else
    bif (a0 == (10:Int)) then
     some (-1:Int)
    else
     some (-2:Int)
def bR (F:Nat) (a0:List UInt8):Nat→(List UInt8)→Int→Int→Int→Int→Option (Out Int (aD×Int×Int))
 | 0,_,_,_,_,_=>none
 | n+1,v1,v2,v3,v4,v5 =>
  bif (decide (v5 < (a0.length:Int))) then
   dA (chk (0≤v5∧v5 < a0.length) <|
    bif (bif (v3 == (1:Int)) then (((a0.getD v5.toNat 0).toNat:Int) == (120:Int)) else false) then
     some (.go (v1,(2:Int),v4,v2))
    else
     bif (v3 == (1:Int)) then
      call (vH F ((a0.getD v5.toNat 0).toNat:Int)) fun y1 =>
      bif (y1 == (-2:Int)) then
       some (.esc ((aD.mk 0 0 [] 0 0),(0:Int),(5:Int)))
      else
       bif (decide (y1 ≥ (0:Int))) then
        chk (0≤(IntKind.u8.wrap y1)∧(IntKind.u8.wrap y1) < 256) <|
        chk (v1.length+([(UInt8.ofNat (IntKind.u8.wrap y1).toNat)]).length≤4294967296) <|
        some (.go ((v1++([(UInt8.ofNat (IntKind.u8.wrap y1).toNat)])),(0:Int),v4,v2))
       else
        some (.go (v1,(0:Int),v4,v2))
     else
      bif (decide (v3 > (1:Int))) then
       call (kK F ((a0.getD v5.toNat 0).toNat:Int)) fun y2 =>
       bif (decide (y2 < (0:Int))) then
        some (.esc ((aD.mk 0 0 [] 0 0),(0:Int),(5:Int)))
       else
        call (bif (v3 == (3:Int)) then
          chk (0≤(IntKind.u8.wrap (IntKind.i64.wrap ((IntKind.i64.wrap (v4 * (16:Int)))+y2)))∧(IntKind.u8.wrap (IntKind.i64.wrap ((IntKind.i64.wrap (v4 * (16:Int)))+y2))) < 256) <|
          chk (v1.length+([(UInt8.ofNat (IntKind.u8.wrap (IntKind.i64.wrap ((IntKind.i64.wrap (v4 * (16:Int)))+y2))).toNat)]).length≤4294967296) <|
          dH ((v1++([(UInt8.ofNat (IntKind.u8.wrap (IntKind.i64.wrap ((IntKind.i64.wrap (v4 * (16:Int)))+y2))).toNat)]))) fun l1 =>
          some l1
         else
          some v1)
         fun v6 =>
        some (.go (v6,((IntKind.i64.wrap (v3+(1:Int))).tmod (4:Int)),y2,v2))
      else
       bif (((a0.getD v5.toNat 0).toNat:Int) == (92:Int)) then
        some (.go (v1,(1:Int),v4,v2))
       else
        bif (bif (((a0.getD v5.toNat 0).toNat:Int) == (41:Int)) then (v2 == (1:Int)) else false) then
         bif (decide ((v1.length:Int) > (1024:Int))) then
          some (.esc ((aD.mk 0 0 [] 0 0),(0:Int),(2:Int)))
         else
          some (.esc ((aD.mk (3:Int) 0 v1 0 0),IntKind.i64.wrap (v5+(1:Int)),(0:Int)))
        else
         call (bif (((a0.getD v5.toNat 0).toNat:Int) == (40:Int)) then
           some (IntKind.i64.wrap (v2+(1:Int)))
          else
           some v2)
          fun v7 =>
         call (bif (((a0.getD v5.toNat 0).toNat:Int) == (41:Int)) then
           some (IntKind.i64.wrap (v7 - (1:Int)))
          else
           some v7)
          fun v8 =>
         bif (decide (v8 > (16:Int))) then
          some (.esc ((aD.mk 0 0 [] 0 0),(0:Int),(15:Int)))
         else
          chk (0≤((a0.getD v5.toNat 0).toNat:Int)∧((a0.getD v5.toNat 0).toNat:Int) < 256) <|
          chk (v1.length+([(UInt8.ofNat ((a0.getD v5.toNat 0).toNat:Int).toNat)]).length≤4294967296) <|
          some (.go ((v1++([(UInt8.ofNat ((a0.getD v5.toNat 0).toNat:Int).toNat)])),v3,v4,v8)))
    (fun e=>some (.esc e)) fun (v9,v10,v11,v12) =>
   bR F a0 n v9 v12 v10 v11 (IntKind.i64.wrap (v5+(1:Int)))
  else
   some (.go v3)
/-- printworks/printworksref3.textToken -/
def pF (F:Nat) (a0:List UInt8):Option (aD×Int×Int) :=
 dA (bR F a0 F [] (1:Int) (0:Int) (0:Int) (0:Int))
  (fun e=>some e) fun v13 =>
 bif (decide (v13 > (1:Int))) then
  some ((aD.mk 0 0 [] 0 0),(0:Int),(5:Int))
 else
  some ((aD.mk 0 0 [] 0 0),(0:Int),(12:Int))
def iT (F:Nat) (v1:List Int):Nat→(List UInt8)→Int→Option ((List UInt8))
 | 0,_,_=>none
 | n+1,v2,v3 =>
  bif (decide (v3 < (v1.length:Int))) then
   chk (0≤v3∧v3 < v1.length) <|
   chk (0≤(IntKind.i64.wrap (v3+(1:Int)))∧(IntKind.i64.wrap (v3+(1:Int))) < v1.length) <|
   dH (IntKind.i64.wrap ((IntKind.i64.wrap ((v1.getD v3.toNat 0) * (16:Int)))+(v1.getD (IntKind.i64.wrap (v3+(1:Int))).toNat 0))) fun z1 =>
   chk (0≤(IntKind.u8.wrap z1)∧(IntKind.u8.wrap z1) < 256) <|
   chk (v2.length+([(UInt8.ofNat (IntKind.u8.wrap z1).toNat)]).length≤4294967296) <|
   iT F v1 n (v2++([(UInt8.ofNat (IntKind.u8.wrap z1).toNat)])) (IntKind.i64.wrap (v3+(2:Int)))
  else
   some v2
def iO (F:Nat) (a0:List UInt8):Nat→(List Int)→Int→Option (Out Unit (aD×Int×Int))
 | 0,_,_=>none
 | n+1,v1,v4 =>
  bif (decide (v4 < (a0.length:Int))) then
   dA (chk (0≤v4∧v4 < a0.length) <|
    call (mU F ((a0.getD v4.toNat 0).toNat:Int)) fun y1 =>
    bif y1 then
     some (.go v1)
    else
     chk (0≤v4∧v4 < a0.length) <|
     dH ((bif (((a0.getD v4.toNat 0).toNat:Int) == (62:Int)) then (((v1.length:Int).tmod (2:Int)) == (0:Int)) else false)) fun z2 =>
     bif z2 then
      call (iT F v1 F [] (0:Int))
       fun v5 =>
      bif (decide ((v5.length:Int) > (1024:Int))) then
       some (.esc ((aD.mk 0 0 [] 0 0),(0:Int),(2:Int)))
      else
       some (.esc ((aD.mk (3:Int) 0 v5 0 0),IntKind.i64.wrap (v4+(1:Int)),(0:Int)))
     else
      chk (0≤v4∧v4 < a0.length) <|
      call (kK F ((a0.getD v4.toNat 0).toNat:Int)) fun y2 =>
      bif (decide (y2 < (0:Int))) then
       some (.esc ((aD.mk 0 0 [] 0 0),(0:Int),(5:Int)))
      else
       chk (0≤v4∧v4 < a0.length) <|
       call (kK F ((a0.getD v4.toNat 0).toNat:Int)) fun y3 =>
       chk (v1.length+([y3]).length≤4294967296) <|
       some (.go (v1++([y3]))))
    (fun e=>some (.esc e)) fun v6 =>
   iO F a0 n v6 (IntKind.i64.wrap (v4+(1:Int)))
  else
   some (.go ())
/-- printworks/printworksref3.hexToken -/
def qV (F:Nat) (a0:List UInt8):Option (aD×Int×Int) :=
 dA (iO F a0 F [] (0:Int))
  (fun e=>some e) fun _ =>
 some ((aD.mk 0 0 [] 0 0),(0:Int),(12:Int))
def lF (F:Nat) (a0:List UInt8):Nat→Int→Option Int
 | 0,_=>none
 | n+1,v1 =>
  chk ((((decide (v1 < (a0.length:Int))) == true) && true)=true→0≤v1∧v1 < a0.length) <|
  dH ((bif (decide (v1 < (a0.length:Int))) then (((a0.getD v1.toNat 0).toNat:Int) != (10:Int)) else false)) fun z1 =>
  bif z1 then
   lF F a0 n (IntKind.i64.wrap (v1+(1:Int)))
  else
   some v1
def kI (F:Nat) (a0:List UInt8):Nat→Int→Option Int
 | 0,_=>none
 | n+1,v2 =>
  chk ((((decide (v2 < (a0.length:Int))) == true) && true)=true→0≤v2∧v2 < a0.length) <|
  call ((bif (((decide (v2 < (a0.length:Int))) == true) && true) then mU F ((a0.getD v2.toNat 0).toNat:Int) else some false)) fun y1 =>
  chk (((y1 == false) && (((decide (v2 < (a0.length:Int))) == true) && true))=true→0≤v2∧v2 < a0.length) <|
  dH ((bif (decide (v2 < (a0.length:Int))) then (bif y1 then true else (((a0.getD v2.toNat 0).toNat:Int) == (37:Int))) else false)) fun z2 =>
  bif z2 then
   chk (0≤v2∧v2 < a0.length) <|
   bif (((a0.getD v2.toNat 0).toNat:Int) == (37:Int)) then
    call (lF F a0 F v2)
     fun v3 =>
    kI F a0 n v3
   else
    kI F a0 n (IntKind.i64.wrap (v2+(1:Int)))
  else
   some v2
def mI (F:Nat) (a0:List UInt8):Nat→Int→Option Int
 | 0,_=>none
 | n+1,v4 =>
  chk ((((decide (v4 < (a0.length:Int))) == true) && true)=true→0≤v4∧v4 < a0.length) <|
  call ((bif (((decide (v4 < (a0.length:Int))) == true) && true) then oL F ((a0.getD v4.toNat 0).toNat:Int) else some false)) fun y2 =>
  bif (bif (decide (v4 < (a0.length:Int))) then y2 else false) then
   mI F a0 n (IntKind.i64.wrap (v4+(1:Int)))
  else
   some v4
/-- printworks/printworksref3.Lex -/
def lC (F:Nat) (a0:List UInt8) (a1:Int):Option (aD×Int×Int) :=
 call (kI F a0 F a1)
  fun v5 =>
 bif (v5 == (a0.length:Int)) then
  some ((aD.mk 0 0 [] v5 v5),v5,(0:Int))
 else
  chk (0≤v5∧v5 < a0.length) <|
  call (mI F a0 F (IntKind.i64.wrap (v5+(1:Int))))
   fun v6 =>
  chk ((((decide ((IntKind.i64.wrap (v5+(1:Int))) < (a0.length:Int))) == true) && true)=true→0≤(IntKind.i64.wrap (v5+(1:Int)))∧(IntKind.i64.wrap (v5+(1:Int))) < a0.length) <|
  dH ((((a0.getD (IntKind.i64.wrap (v5+(1:Int))).toNat 0).toNat:Int) == ((a0.getD v5.toNat 0).toNat:Int))) fun z3 =>
  call (dH ((bif (((a0.getD v5.toNat 0).toNat:Int) == (43:Int)) then true else (((a0.getD v5.toNat 0).toNat:Int) == (45:Int)))) fun z4 =>
   call ((bif ((z4 == false) && true) then gY F ((a0.getD v5.toNat 0).toNat:Int) else some false)) fun y3 =>
   bif (bif z4 then true else y3) then
    chk (0≤v5∧v5≤v6∧v6≤(a0.length:Int)) <|
    call (nY F ((a0.drop v5.toNat).take (v6.toNat - v5.toNat))) fun y4 =>
    some (y4.1.f0,y4.1.f1,y4.1.f2,y4.1.f3,y4.1.f4,y4.2,IntKind.i64.wrap (v6 - v5))
   else
    call (oL F ((a0.getD v5.toNat 0).toNat:Int)) fun y5 =>
    bif y5 then
     chk (0≤v5∧v5≤v6∧v6≤(a0.length:Int)) <|
     chk (0≤v5∧v5≤v6∧v6≤(a0.length:Int)) <|
     call (gX F ((a0.drop v5.toNat).take (v6.toNat - v5.toNat))) fun y6 =>
     some ((5:Int),0,((a0.drop v5.toNat).take (v6.toNat - v5.toNat)),0,0,y6,IntKind.i64.wrap (v6 - v5))
    else
     bif (((a0.getD v5.toNat 0).toNat:Int) == (47:Int)) then
      chk (0≤(IntKind.i64.wrap (v5+(1:Int)))∧(IntKind.i64.wrap (v5+(1:Int)))≤v6∧v6≤(a0.length:Int)) <|
      dH (((a0.drop (IntKind.i64.wrap (v5+(1:Int))).toNat).take (v6.toNat - (IntKind.i64.wrap (v5+(1:Int))).toNat))) fun z5 =>
      call (mK F z5) fun y7 =>
      some (y7.1.f0,y7.1.f1,y7.1.f2,y7.1.f3,y7.1.f4,y7.2,IntKind.i64.wrap (v6 - v5))
     else
      bif (((a0.getD v5.toNat 0).toNat:Int) == (64:Int)) then
       chk (0≤(IntKind.i64.wrap (v5+(1:Int)))∧(IntKind.i64.wrap (v5+(1:Int)))≤v6∧v6≤(a0.length:Int)) <|
       dH (((a0.drop (IntKind.i64.wrap (v5+(1:Int))).toNat).take (v6.toNat - (IntKind.i64.wrap (v5+(1:Int))).toNat))) fun z6 =>
       call (nX F z6) fun y8 =>
       some (y8.1.f0,y8.1.f1,y8.1.f2,y8.1.f3,y8.1.f4,y8.2,IntKind.i64.wrap (v6 - v5))
      else
       bif (((a0.getD v5.toNat 0).toNat:Int) == (91:Int)) then
        some ((6:Int),0,[],0,0,(0:Int),(1:Int))
       else
        bif (((a0.getD v5.toNat 0).toNat:Int) == (93:Int)) then
         some ((7:Int),0,[],0,0,(0:Int),(1:Int))
        else
         dH ((bif (((a0.getD v5.toNat 0).toNat:Int) == (60:Int)) then (bif (decide ((IntKind.i64.wrap (v5+(1:Int))) < (a0.length:Int))) then z3 else false) else false)) fun z7 =>
         bif z7 then
          some ((8:Int),0,[],0,0,(0:Int),(2:Int))
         else
          dH ((bif (((a0.getD v5.toNat 0).toNat:Int) == (62:Int)) then (bif (decide ((IntKind.i64.wrap (v5+(1:Int))) < (a0.length:Int))) then z3 else false) else false)) fun z8 =>
          bif z8 then
           some ((9:Int),0,[],0,0,(0:Int),(2:Int))
          else
           bif (((a0.getD v5.toNat 0).toNat:Int) == (40:Int)) then
            chk (0≤(IntKind.i64.wrap (v5+(1:Int)))∧(IntKind.i64.wrap (v5+(1:Int)))≤(a0.length:Int)∧(a0.length:Int)≤(a0.length:Int)) <|
            dH (((a0.drop (IntKind.i64.wrap (v5+(1:Int))).toNat).take ((a0.length:Int).toNat - (IntKind.i64.wrap (v5+(1:Int))).toNat))) fun z9 =>
            call (pF F z9) fun y9 =>
            some (y9.1.f0,y9.1.f1,y9.1.f2,y9.1.f3,y9.1.f4,y9.2.2,IntKind.i64.wrap (y9.2.1+(1:Int)))
           else
            bif (((a0.getD v5.toNat 0).toNat:Int) == (60:Int)) then
             chk (0≤(IntKind.i64.wrap (v5+(1:Int)))∧(IntKind.i64.wrap (v5+(1:Int)))≤(a0.length:Int)∧(a0.length:Int)≤(a0.length:Int)) <|
             dH (((a0.drop (IntKind.i64.wrap (v5+(1:Int))).toNat).take ((a0.length:Int).toNat - (IntKind.i64.wrap (v5+(1:Int))).toNat))) fun z10 =>
             call (qV F z10) fun y10 =>
             some (y10.1.f0,y10.1.f1,y10.1.f2,y10.1.f3,y10.1.f4,y10.2.2,IntKind.i64.wrap (y10.2.1+(1:Int)))
            else
             some (0,0,[],0,0,(5:Int),IntKind.i64.wrap (v6 - v5)))
   fun (v7,v8,v9,v10,v11,v12,v13) =>
  bif (v12 != (0:Int)) then
   some ((aD.mk 0 0 [] 0 0),v5,v12)
  else
   some ((aD.mk v7 v8 v9 v5 (IntKind.i64.wrap (v5+v13))),v5,(0:Int))
def jJ (F:Nat) (a0:List (List UInt8)) (a1:List UInt8):Nat→Int→Option (Out Unit Bool)
 | 0,_=>none
 | n+1,v1 =>
  bif (decide (v1 < (a0.length:Int))) then
   chk (0≤v1∧v1 < a0.length) <|
   bif ((a0.getD v1.toNat []) == a1) then
    some (.esc true)
   else
    jJ F a0 a1 n (IntKind.i64.wrap (v1+(1:Int)))
  else
   some (.go ())
/-- printworks/printworksref3.HasText -/
def pJ (F:Nat) (a0:List (List UInt8)) (a1:List UInt8):Option Bool :=
 dA (jJ F a0 a1 F (0:Int))
  (fun e=>some e) fun _ =>
 some false
/-- printworks/printworksref3.stepError -/
def dK (F:Nat) (a0:List bE) (a1:aD):Option (Bool×Int) :=
 dA (chk ((((decide ((a0.length:Int) > (0:Int))) == true) && true)=true→0≤(IntKind.i64.wrap ((a0.length:Int) - (1:Int)))∧(IntKind.i64.wrap ((a0.length:Int) - (1:Int))) < a0.length) <|
  dH ((a0.getD (IntKind.i64.wrap ((a0.length:Int) - (1:Int))).toNat (bE.mk (aG.mk 0 0 [] [] []) [] false)).f2) fun z1 =>
  bif (bif (decide ((a0.length:Int) > (0:Int))) then (!z1) else false) then
   chk (0≤(IntKind.i64.wrap ((a0.length:Int) - (1:Int)))∧(IntKind.i64.wrap ((a0.length:Int) - (1:Int))) < a0.length) <|
   dH (((a0.getD (IntKind.i64.wrap ((a0.length:Int) - (1:Int))).toNat (bE.mk (aG.mk 0 0 [] [] []) [] false)).f0).f0) fun z2 =>
   dH ((bif (bif (z2 == (6:Int)) then (a1.f0 == (7:Int)) else false) then true else (bif (!(z2 == (6:Int))) then (a1.f0 == (9:Int)) else false))) fun z3 =>
   bif z3 then
    some (.esc (true,(0:Int)))
   else
    bif (a1.f0 == (0:Int)) then
     some (.esc (false,(12:Int)))
    else
     dH (((a0.getD (IntKind.i64.wrap ((a0.length:Int) - (1:Int))).toNat (bE.mk (aG.mk 0 0 [] [] []) [] false)).f0).f4) fun z4 =>
     bif ((z4.length:Int) == (256:Int)) then
      some (.esc (false,(2:Int)))
     else
      bif (bif (!(z2 == (6:Int))) then (a1.f0 != (2:Int)) else false) then
       some (.esc (false,(5:Int)))
      else
       dH (((a0.getD (IntKind.i64.wrap ((a0.length:Int) - (1:Int))).toNat (bE.mk (aG.mk 0 0 [] [] []) [] false)).f0).f3) fun z5 =>
       call ((bif (((!(z2 == (6:Int))) == true) && true) then pJ F z5 a1.f2 else some false)) fun y1 =>
       bif (bif (!(z2 == (6:Int))) then y1 else false) then
        some (.esc (false,(7:Int)))
       else
        bif (!(z2 == (6:Int))) then
         some (.esc (false,(0:Int)))
        else
         some (.go ())
  else
   some (.go ()))
  (fun e=>some e) fun _ =>
 bif (a1.f0 == (0:Int)) then
  some (false,(12:Int))
 else
  bif (bif (a1.f0 == (7:Int)) then true else (a1.f0 == (9:Int))) then
   some (false,(5:Int))
  else
   bif (decide ((a0.length:Int) ≥ (12:Int))) then
    some (false,(15:Int))
   else
    some (false,(0:Int))
/-- printworks/printworksref3.leafOf -/
def jM (F:Nat) (a0:aD):Option (aG×Int) :=
 bif (a0.f0 == (1:Int)) then
  some ((aG.mk (2:Int) a0.f1 [] [] []),(0:Int))
 else
  bif (a0.f0 == (2:Int)) then
   some ((aG.mk (3:Int) 0 a0.f2 [] []),(0:Int))
  else
   bif (a0.f0 == (3:Int)) then
    some ((aG.mk (4:Int) 0 a0.f2 [] []),(0:Int))
   else
    bif (a0.f0 == (4:Int)) then
     some ((aG.mk (5:Int) a0.f1 [] [] []),(0:Int))
    else
     bif (a0.f2 == ([110,117,108,108]:List UInt8)) then
      some ((aG.mk 0 0 [] [] []),(0:Int))
     else
      bif (a0.f2 == ([116,114,117,101]:List UInt8)) then
       some ((aG.mk (1:Int) (1:Int) [] [] []),(0:Int))
      else
       bif (a0.f2 == ([102,97,108,115,101]:List UInt8)) then
        some ((aG.mk (1:Int) 0 [] [] []),(0:Int))
       else
        some ((aG.mk 0 0 [] [] []),(6:Int))
def jK (F:Nat)  : Nat→Int→(List UInt8)→Option ((List UInt8))
 | 0,_,_=>none
 | n+1,v1,v2 =>
  bif (v1 != (0:Int)) then
   call (bif (decide ((v1.tmod (10:Int)) < (0:Int))) then
     some (IntKind.i64.wrap (0 - (v1.tmod (10:Int))))
    else
     some (v1.tmod (10:Int)))
    fun v3 =>
   chk (0≤(IntKind.u8.wrap (IntKind.i64.wrap ((48:Int)+v3)))∧(IntKind.u8.wrap (IntKind.i64.wrap ((48:Int)+v3))) < 256) <|
   chk (([(UInt8.ofNat (IntKind.u8.wrap (IntKind.i64.wrap ((48:Int)+v3))).toNat)]).length+v2.length≤9223372036854775807) <|
   jK F n (IntKind.i64.wrap (v1.tdiv (10:Int))) (([(UInt8.ofNat (IntKind.u8.wrap (IntKind.i64.wrap ((48:Int)+v3))).toNat)])++v2)
  else
   some v2
/-- printworks/printworksref3.Decimal -/
def nG (F:Nat) (a0:Int):Option ((List UInt8)) :=
 bif (a0 == (0:Int)) then
  some ([48]:List UInt8)
 else
  call (jK F F a0 [])
   fun v4 =>
  bif (decide (a0 < (0:Int))) then
   chk (([45]:List UInt8).length+v4.length≤9223372036854775807) <|
   some (([45]:List UInt8)++v4)
  else
   some v4
def gN (F:Nat) (a0:aD):Nat→Bool→Int→Option Bool
 | 0,_,_=>none
 | n+1,v1,v2 =>
  bif (decide (v2 < (a0.f2.length:Int))) then
   chk (((v1 == false) && true)=true→0≤v2∧v2 < a0.f2.length) <|
   gN F a0 n (bif v1 then true else (((a0.f2.getD v2.toNat 0).toNat:Int) == (0:Int))) (IntKind.i64.wrap (v2+(1:Int)))
  else
   some v1
def eU (F:Nat) (a0:aD):Nat→(List UInt8)→Int→Option ((List UInt8))
 | 0,_,_=>none
 | n+1,v3,v4 =>
  bif (decide (v4 < (a0.f2.length:Int))) then
   call (chk (0≤v4∧v4 < a0.f2.length) <|
    chk (0≤(IntKind.u8.wrap (((a0.f2.getD v4.toNat 0).toNat:Int).tdiv (16:Int)))∧(IntKind.u8.wrap (((a0.f2.getD v4.toNat 0).toNat:Int).tdiv (16:Int))) < ([48,49,50,51,52,53,54,55,56,57,97,98,99,100,101,102]:List UInt8).length) <|
    dH (((([48,49,50,51,52,53,54,55,56,57,97,98,99,100,101,102]:List UInt8).getD (IntKind.u8.wrap (((a0.f2.getD v4.toNat 0).toNat:Int).tdiv (16:Int))).toNat 0).toNat:Int)) fun z1 =>
    chk (0≤(((a0.f2.getD v4.toNat 0).toNat:Int).tmod (16:Int))∧(((a0.f2.getD v4.toNat 0).toNat:Int).tmod (16:Int)) < ([48,49,50,51,52,53,54,55,56,57,97,98,99,100,101,102]:List UInt8).length) <|
    dH (((([48,49,50,51,52,53,54,55,56,57,97,98,99,100,101,102]:List UInt8).getD (((a0.f2.getD v4.toNat 0).toNat:Int).tmod (16:Int)).toNat 0).toNat:Int)) fun z2 =>
    chk (0≤z1∧z1 < 256) <|
    chk (0≤z2∧z2 < 256) <|
    call ((bif (((a0.f0 == (2:Int)) == true) && true) then jN F ((a0.f2.getD v4.toNat 0).toNat:Int) else some false)) fun y1 =>
    call ((bif ((y1 == false) && (((a0.f0 == (2:Int)) == true) && true)) then gY F ((a0.f2.getD v4.toNat 0).toNat:Int) else some false)) fun y2 =>
    dH ((bif (bif y1 then true else y2) then true else (((a0.f2.getD v4.toNat 0).toNat:Int) == (95:Int)))) fun z3 =>
    dH ((bif (bif z3 then true else (((a0.f2.getD v4.toNat 0).toNat:Int) == (45:Int))) then true else (((a0.f2.getD v4.toNat 0).toNat:Int) == (46:Int)))) fun z4 =>
    bif (bif (a0.f0 == (2:Int)) then z4 else false) then
     chk (0≤((a0.f2.getD v4.toNat 0).toNat:Int)∧((a0.f2.getD v4.toNat 0).toNat:Int) < 256) <|
     chk (v3.length+([(UInt8.ofNat ((a0.f2.getD v4.toNat 0).toNat:Int).toNat)]).length≤4294967296) <|
     some (v3++([(UInt8.ofNat ((a0.f2.getD v4.toNat 0).toNat:Int).toNat)]))
    else
     bif (a0.f0 == (2:Int)) then
      chk (v3.length+([(UInt8.ofNat (35:Int).toNat)]).length≤4294967296) <|
      chk ((v3++([(UInt8.ofNat (35:Int).toNat)])).length+([(UInt8.ofNat z1.toNat),(UInt8.ofNat z2.toNat)]).length≤4294967296) <|
      dH (((v3++([(UInt8.ofNat (35:Int).toNat)]))++([(UInt8.ofNat z1.toNat),(UInt8.ofNat z2.toNat)]))) fun l1 =>
      some l1
     else
      bif (((a0.f2.getD v4.toNat 0).toNat:Int) == (10:Int)) then
       chk (v3.length+([(UInt8.ofNat (92:Int).toNat),(UInt8.ofNat (110:Int).toNat)]).length≤4294967296) <|
       some (v3++([(UInt8.ofNat (92:Int).toNat),(UInt8.ofNat (110:Int).toNat)]))
      else
       bif (((a0.f2.getD v4.toNat 0).toNat:Int) == (9:Int)) then
        chk (v3.length+([(UInt8.ofNat (92:Int).toNat),(UInt8.ofNat (116:Int).toNat)]).length≤4294967296) <|
        some (v3++([(UInt8.ofNat (92:Int).toNat),(UInt8.ofNat (116:Int).toNat)]))
       else
        dH ((bif (((a0.f2.getD v4.toNat 0).toNat:Int) == (40:Int)) then true else (((a0.f2.getD v4.toNat 0).toNat:Int) == (41:Int)))) fun z5 =>
        bif (bif z5 then true else (((a0.f2.getD v4.toNat 0).toNat:Int) == (92:Int))) then
         chk (0≤((a0.f2.getD v4.toNat 0).toNat:Int)∧((a0.f2.getD v4.toNat 0).toNat:Int) < 256) <|
         chk (v3.length+([(UInt8.ofNat (92:Int).toNat),(UInt8.ofNat ((a0.f2.getD v4.toNat 0).toNat:Int).toNat)]).length≤4294967296) <|
         dH ((v3++([(UInt8.ofNat (92:Int).toNat),(UInt8.ofNat ((a0.f2.getD v4.toNat 0).toNat:Int).toNat)]))) fun l2 =>
         some l2
        else
         dH ((bif (decide (((a0.f2.getD v4.toNat 0).toNat:Int) < (32:Int))) then true else (decide (((a0.f2.getD v4.toNat 0).toNat:Int) ≥ (126:Int))))) fun z6 =>
         bif z6 then
          chk (v3.length+([(UInt8.ofNat (92:Int).toNat),(UInt8.ofNat (120:Int).toNat)]).length≤4294967296) <|
          chk ((v3++([(UInt8.ofNat (92:Int).toNat),(UInt8.ofNat (120:Int).toNat)])).length+([(UInt8.ofNat z1.toNat),(UInt8.ofNat z2.toNat)]).length≤4294967296) <|
          dH (((v3++([(UInt8.ofNat (92:Int).toNat),(UInt8.ofNat (120:Int).toNat)]))++([(UInt8.ofNat z1.toNat),(UInt8.ofNat z2.toNat)]))) fun l3 =>
          some l3
         else
          chk (0≤((a0.f2.getD v4.toNat 0).toNat:Int)∧((a0.f2.getD v4.toNat 0).toNat:Int) < 256) <|
          chk (v3.length+([(UInt8.ofNat ((a0.f2.getD v4.toNat 0).toNat:Int).toNat)]).length≤4294967296) <|
          some (v3++([(UInt8.ofNat ((a0.f2.getD v4.toNat 0).toNat:Int).toNat)])))
    fun v5 =>
   eU F a0 n v5 (IntKind.i64.wrap (v4+(1:Int)))
  else
   some v3
/-- printworks/printworksref3.Spelled -/
def bI (F:Nat) (a0:aD):Option ((List UInt8)×Int) :=
 dH ((bif (bif (a0.f0 == (2:Int)) then true else (a0.f0 == (3:Int))) then true else (a0.f0 == (5:Int)))) fun z7 =>
 bif (bif (decide (a0.f0 < (1:Int))) then true else (decide (a0.f0 > (9:Int)))) then
  some ([],(14:Int))
 else
  dH ((bif (!(bif (a0.f0 == (1:Int)) then true else (a0.f0 == (4:Int)))) then (a0.f1 != (0:Int)) else false)) fun z8 =>
  bif (bif z8 then true else (bif (!z7) then (!(a0.f2 == [])) else false)) then
   some ([],(4:Int))
  else
   dA (bif (a0.f0 == (2:Int)) then
     call (gN F a0 F (a0.f2 == []) (0:Int))
      fun v6 =>
     bif v6 then
      some (.esc ([],(4:Int)))
     else
      some (.go ())
    else
     some (.go ()))
    (fun e=>some e) fun _ =>
   dH ((bif (a0.f0 == (1:Int)) then (bif (decide (a0.f1 > (2147483647:Int))) then true else (decide (a0.f1 < (-2147483647:Int)))) else false)) fun z9 =>
   dH ((bif (a0.f0 == (4:Int)) then (bif (decide (a0.f1 > (255:Int))) then true else (decide (a0.f1 < (1:Int)))) else false)) fun z10 =>
   bif (bif z9 then true else z10) then
    some ([],(3:Int))
   else
    dH ((bif (bif (a0.f0 == (2:Int)) then (decide ((a0.f2.length:Int) > (31:Int))) else false) then true else (bif (a0.f0 == (3:Int)) then (decide ((a0.f2.length:Int) > (1024:Int))) else false))) fun z11 =>
    bif z11 then
     some ([],(2:Int))
    else
     bif (a0.f0 == (5:Int)) then
      chk ((((a0.f2 == []) == false) && true)=true→0≤(0:Int)∧(0:Int) < a0.f2.length) <|
      call ((bif (((a0.f2 == []) == false) && true) then gY F ((a0.f2.getD (0:Int).toNat 0).toNat:Int) else some false)) fun y3 =>
      call ((bif (((bif (a0.f2 == []) then true else y3) == false) && true) then gX F a0.f2 else some 0)) fun y4 =>
      bif (bif (bif (a0.f2 == []) then true else y3) then true else (y4 == (5:Int))) then
       some ([],(4:Int))
      else
       call (gX F a0.f2) fun y5 =>
       bif (y5 != (0:Int)) then
        some ([],y5)
       else
        some (a0.f2,(0:Int))
     else
      bif (a0.f0 == (1:Int)) then
       call (nG F a0.f1) fun y6 =>
       some (y6,(0:Int))
      else
       bif (a0.f0 == (4:Int)) then
        call (nG F a0.f1) fun y7 =>
        chk (([64]:List UInt8).length+y7.length≤9223372036854775807) <|
        some ((([64]:List UInt8)++y7),(0:Int))
       else
        bif (a0.f0 == (6:Int)) then
         some (([91]:List UInt8),(0:Int))
        else
         bif (a0.f0 == (7:Int)) then
          some (([93]:List UInt8),(0:Int))
         else
          bif (a0.f0 == (8:Int)) then
           some (([60,60]:List UInt8),(0:Int))
          else
           bif (a0.f0 == (9:Int)) then
            some (([62,62]:List UInt8),(0:Int))
           else
            call (eU F a0 F [] (0:Int))
             fun v7 =>
            bif (a0.f0 == (2:Int)) then
             chk (([47]:List UInt8).length+v7.length≤9223372036854775807) <|
             some ((([47]:List UInt8)++v7),(0:Int))
            else
             chk (([40]:List UInt8).length+v7.length≤9223372036854775807) <|
             chk ((([40]:List UInt8)++v7).length+([41]:List UInt8).length≤9223372036854775807) <|
             some (((([40]:List UInt8)++v7)++([41]:List UInt8)),(0:Int))
def gM (F:Nat) (a0:aG):Nat→Int→Option (Out Unit Int)
 | 0,_=>none
 | n+1,v1 =>
  bif (decide (v1 < (a0.f3.length:Int))) then
   chk (0≤v1∧v1 < a0.f3.length) <|
   call (bI F (aD.mk (2:Int) 0 (a0.f3.getD v1.toNat []) 0 0)) fun y1 =>
   bif (y1.2 != (0:Int)) then
    some (.esc y1.2)
   else
    chk ((((decide (v1 > (0:Int))) == true) && true)=true→0≤(IntKind.i64.wrap (v1 - (1:Int)))∧(IntKind.i64.wrap (v1 - (1:Int))) < a0.f3.length) <|
    dH ((Op.bytesLess (a0.f3.getD v1.toNat []) (a0.f3.getD (IntKind.i64.wrap (v1 - (1:Int))).toNat []) || (a0.f3.getD v1.toNat []) == (a0.f3.getD (IntKind.i64.wrap (v1 - (1:Int))).toNat []))) fun z1 =>
    bif (bif (decide (v1 > (0:Int))) then z1 else false) then
     some (.esc (4:Int))
    else
     gM F a0 n (IntKind.i64.wrap (v1+(1:Int)))
  else
   some (.go ())
/-- printworks/printworksref3.partError -/
def mR (F:Nat) (a0:aG) (a1:Int):Option Int :=
 bif (bif (decide (a0.f0 < (0:Int))) then true else (decide (a0.f0 > (7:Int)))) then
  some (14:Int)
 else
  bif (decide (a1 > (12:Int))) then
   some (15:Int)
  else
   dH ((bif (bif (a0.f1 != (0:Int)) then (a0.f0 != (1:Int)) else false) then (a0.f0 != (2:Int)) else false)) fun z2 =>
   bif (bif z2 then (a0.f0 != (5:Int)) else false) then
    some (4:Int)
   else
    dH ((bif (bif (!(a0.f2 == [])) then (a0.f0 != (3:Int)) else false) then (a0.f0 != (4:Int)) else false)) fun z3 =>
    bif z3 then
     some (4:Int)
    else
     dH ((bif (bif (decide ((a0.f4.length:Int) > (0:Int))) then (a0.f0 != (6:Int)) else false) then (a0.f0 != (7:Int)) else false)) fun z4 =>
     bif z4 then
      some (4:Int)
     else
      dH ((bif (bif (a0.f0 == (7:Int)) then ((a0.f3.length:Int) != (a0.f4.length:Int)) else false) then true else (bif (a0.f0 != (7:Int)) then (decide ((a0.f3.length:Int) > (0:Int))) else false))) fun z5 =>
      bif z5 then
       some (4:Int)
      else
       dH ((bif (a0.f0 == (1:Int)) then (bif (decide (a0.f1 < (0:Int))) then true else (decide (a0.f1 > (1:Int)))) else false)) fun z6 =>
       bif z6 then
        some (3:Int)
       else
        bif (decide ((a0.f4.length:Int) > (256:Int))) then
         some (2:Int)
        else
         dA (gM F a0 F (0:Int))
          (fun e=>some e) fun _ =>
         some (0:Int)
def dF (F:Nat) (a1:aG) (a2:Int) (rec_ref3_tokensOf:(List aD)→aG→Int→Int→Option ((List aD)×Int×Int)):Nat→(List aD)→Int→Int→Option (Out ((List aD)×Int) ((List aD)×Int×Int))
 | 0,_,_,_=>none
 | n+1,v1,v2,v3 =>
  bif (decide (v2 < (a1.f4.length:Int))) then
   chk (0≤v2∧v2 < a1.f4.length) <|
   call (bif (a1.f0 == (7:Int)) then
     chk (0≤v2∧v2 < a1.f3.length) <|
     chk (v1.length+([(aD.mk (2:Int) 0 (a1.f3.getD v2.toNat []) 0 0)]).length≤4294967296) <|
     some (v1++([(aD.mk (2:Int) 0 (a1.f3.getD v2.toNat []) 0 0)]))
    else
     some v1)
    fun v4 =>
   call (rec_ref3_tokensOf v4 (a1.f4.getD v2.toNat (aG.mk 0 0 [] [] [])) (IntKind.i64.wrap (a2+(1:Int))) v3) fun y1 =>
   bif (y1.2.1 != (0:Int)) then
    some (.esc ([],y1.2.1,y1.2.2))
   else
    dF F a1 a2 rec_ref3_tokensOf n y1.1 (IntKind.i64.wrap (v2+(1:Int))) y1.2.2
  else
   some (.go (v1,v3))
/-- printworks/printworksref3.tokensOf -/
def gT (F:Nat) (rec_ref3_tokensOf:(List aD)→aG→Int→Int→Option ((List aD)×Int×Int)) (a0:List aD) (a1:aG) (a2:Int) (c3:Int):Option ((List aD)×Int×Int) :=
 bif (decide ((IntKind.i64.wrap (c3+(1:Int))) > (4096:Int))) then
  some ([],(2:Int),IntKind.i64.wrap (c3+(1:Int)))
 else
  call (mR F a1 a2) fun y2 =>
  bif (y2 != (0:Int)) then
   some ([],y2,IntKind.i64.wrap (c3+(1:Int)))
  else
   chk (0≤a1.f0∧a1.f0 < ([(5:Int),(5:Int),(1:Int),(2:Int),(3:Int),(4:Int),(6:Int),(8:Int)]).length) <|
   dH ((([(5:Int),(5:Int),(1:Int),(2:Int),(3:Int),(4:Int),(6:Int),(8:Int)]).getD a1.f0.toNat 0)) fun z1 =>
   call (bif (a1.f0 == (0:Int)) then
     some ([110,117,108,108]:List UInt8)
    else
     some a1.f2)
    fun v5 =>
   call (bif (a1.f0 == (1:Int)) then
     chk (0≤a1.f1∧a1.f1 < ([([102,97,108,115,101]:List UInt8),([116,114,117,101]:List UInt8)]).length) <|
     dH ((([([102,97,108,115,101]:List UInt8),([116,114,117,101]:List UInt8)]).getD a1.f1.toNat [])) fun z2 =>
     some ((0:Int),z2)
    else
     some (a1.f1,v5))
    fun (v6,v7) =>
   call (bI F (aD.mk z1 v6 v7 0 0)) fun y3 =>
   bif (y3.2 != (0:Int)) then
    some ([],y3.2,IntKind.i64.wrap (c3+(1:Int)))
   else
    chk (a0.length+([(aD.mk z1 v6 v7 0 0)]).length≤4294967296) <|
    bif (decide (a1.f0 < (6:Int))) then
     some ((a0++([(aD.mk z1 v6 v7 0 0)])),(0:Int),IntKind.i64.wrap (c3+(1:Int)))
    else
     dA (dF F a1 a2 rec_ref3_tokensOf F (a0++([(aD.mk z1 v6 v7 0 0)])) (0:Int) (IntKind.i64.wrap (c3+(1:Int))))
      (fun e=>some e) fun (v8,v9) =>
     chk (v8.length+([(aD.mk (IntKind.i64.wrap (z1+(1:Int))) 0 [] 0 0)]).length≤4294967296) <|
     some ((v8++([(aD.mk (IntKind.i64.wrap (z1+(1:Int))) 0 [] 0 0)])),(0:Int),v9)
def fT (F:Nat):Nat→(List aD)→aG→Int→Int→Option ((List aD)×Int×Int)
 | 0=>fun _ _ _ _=>none
 | n+1=>gT F (fT F n)
def uZ (F:Nat) (a0:List aD) (a1:aG) (a2:Int) (c3:Int):Option ((List aD)×Int×Int):=fT F F a0 a1 a2 c3
def jQ (F:Nat) (y1:(List aD)×Int×Int):Nat→(List UInt8)→Int→Option (Out ((List UInt8)) ((List UInt8)×Int))
 | 0,_,_=>none
 | n+1,v1,v2 =>
  bif (decide (v2 < (y1.1.length:Int))) then
   chk (0≤v2∧v2 < y1.1.length) <|
   call (bI F (y1.1.getD v2.toNat (aD.mk 0 0 [] 0 0))) fun y2 =>
   call (dH ((bif (((y1.1.getD v2.toNat (aD.mk 0 0 [] 0 0)).f0) == (1:Int)) then true else (((y1.1.getD v2.toNat (aD.mk 0 0 [] 0 0)).f0) == (5:Int)))) fun z1 =>
    chk ((((bif (decide (v2 > (0:Int))) then z1 else false) == true) && true)=true→0≤(IntKind.i64.wrap (v2 - (1:Int)))∧(IntKind.i64.wrap (v2 - (1:Int))) < y1.1.length) <|
    dH ((bif (bif (decide (v2 > (0:Int))) then z1 else false) then (((y1.1.getD (IntKind.i64.wrap (v2 - (1:Int))).toNat (aD.mk 0 0 [] 0 0)).f0) != (3:Int)) else false)) fun z2 =>
    chk (((z2 == true) && true)=true→0≤(IntKind.i64.wrap (v2 - (1:Int)))∧(IntKind.i64.wrap (v2 - (1:Int))) < y1.1.length) <|
    dH ((decide (((y1.1.getD (IntKind.i64.wrap (v2 - (1:Int))).toNat (aD.mk 0 0 [] 0 0)).f0) < (6:Int)))) fun z3 =>
    bif (bif z2 then z3 else false) then
     chk (v1.length+([(UInt8.ofNat (32:Int).toNat)]).length≤4294967296) <|
     some (v1++([(UInt8.ofNat (32:Int).toNat)]))
    else
     some v1)
    fun v3 =>
   chk (v3.length+y2.1.length≤4294967296) <|
   bif (decide (((v3++y2.1).length:Int) > (8192:Int))) then
    some (.esc ([],(2:Int)))
   else
    jQ F y1 n (v3++y2.1) (IntKind.i64.wrap (v2+(1:Int)))
  else
   some (.go v1)
/-- printworks/printworksref3.Shown -/
def nA (F:Nat) (a0:aG):Option ((List UInt8)×Int) :=
 call (uZ F [] a0 (1:Int) (0:Int)) fun y1 =>
 bif (y1.2.1 != (0:Int)) then
  some ([],y1.2.1)
 else
  dA (jQ F y1 F [] (0:Int))
   (fun e=>some e) fun v4 =>
  some (v4,(0:Int))
/-- printworks/token.white -/
def mP (F:Nat) (a0:Int):Option Bool :=
 some (bif (bif (a0 == (32:Int)) then true else (a0 == (9:Int))) then true else (a0 == (10:Int)))
def fQ (F:Nat) (c0:List UInt8):Nat→Bool→Int→Option (Out Int ((List UInt8)×Int))
 | 0,_,_=>none
 | n+1,v1,v2 =>
  bif (decide (v2 < (c0.length:Int))) then
   dA (chk (0≤v2∧v2 < c0.length) <|
    bif v1 then
     some (.go (((c0.getD v2.toNat 0).toNat:Int) != (10:Int)))
    else
     bif (((c0.getD v2.toNat 0).toNat:Int) == (37:Int)) then
      some (.go true)
     else
      call (mP F ((c0.getD v2.toNat 0).toNat:Int)) fun y1 =>
      bif (!y1) then
       some (.esc (c0,v2))
      else
       some (.go v1))
    (fun e=>some (.esc e)) fun v3 =>
   fQ F c0 n v3 (IntKind.i64.wrap (v2+(1:Int)))
  else
   some (.go v2)
/-- (*printworks/token.cursor).skip -/
def mD (F:Nat) (c0:List UInt8) (c1:Int):Option ((List UInt8)×Int) :=
 dA (fQ F c0 F false c1)
  (fun e=>some e) fun v4 =>
 some (c0,v4)
/-- printworks/token.digit -/
def jA (F:Nat) (a0:Int):Option Bool :=
 some (bif (decide ((48:Int)≤a0)) then (decide (a0≤(57:Int))) else false)
/-- printworks/token.delimiter -/
def lS (F:Nat) (a0:Int):Option Bool :=
 dH ((decide ((Lib.indexByte ([40,41,60,62,91,93,47,64,37]:List UInt8) a0.toNat.toUInt8) ≥ (0:Int)))) fun z1 =>
 some z1
/-- printworks/token.regular -/
def fV (F:Nat) (a0:Int):Option Bool :=
 call (mP F a0) fun y1 =>
 call ((bif (((!y1) == true) && true) then lS F a0 else some false)) fun y2 =>
 some (bif (!y1) then (!y2) else false)
def gI (F:Nat) (c0:List UInt8):Nat→Int→Option Int
 | 0,_=>none
 | n+1,v1 =>
  chk ((((decide (v1 < (c0.length:Int))) == true) && true)=true→0≤v1∧v1 < c0.length) <|
  call ((bif (((decide (v1 < (c0.length:Int))) == true) && true) then fV F ((c0.getD v1.toNat 0).toNat:Int) else some false)) fun y1 =>
  bif (bif (decide (v1 < (c0.length:Int))) then y1 else false) then
   gI F c0 n (IntKind.i64.wrap (v1+(1:Int)))
  else
   some v1
/-- (*printworks/token.cursor).run -/
def gD (F:Nat) (c0:List UInt8) (c1:Int):Option ((List UInt8)×(List UInt8)×Int) :=
 call (gI F c0 F c1)
  fun v2 =>
 chk (0≤c1∧c1≤v2∧v2≤(c0.length:Int)) <|
 some (((c0.drop c1.toNat).take (v2.toNat - c1.toNat)),c0,v2)
/-- printworks/token.integer$1 -/
def nI (F:Nat) (a0:Int):Option Bool :=
 some (bif (decide (a0 < (48:Int))) then true else (decide (a0 > (57:Int))))
/-- printworks/token.integer -/
def nZ (F:Nat) (a0:List UInt8):Option (Int×Int) :=
 call (chk (0≤(0:Int)∧(0:Int) < a0.length) <|
  chk ((((((a0.getD (0:Int).toNat 0).toNat:Int) == (43:Int)) == false) && true)=true→0≤(0:Int)∧(0:Int) < a0.length) <|
  dH ((bif (((a0.getD (0:Int).toNat 0).toNat:Int) == (43:Int)) then true else (((a0.getD (0:Int).toNat 0).toNat:Int) == (45:Int)))) fun z1 =>
  bif z1 then
   chk (0≤(1:Int)∧(1:Int)≤(a0.length:Int)∧(a0.length:Int)≤(a0.length:Int)) <|
   some ((a0.drop (1:Int).toNat).take ((a0.length:Int).toNat - (1:Int).toNat))
  else
   some a0)
  fun v1 =>
 call ((bif (((bif (v1 == []) then true else (decide ((v1.length:Int) > (10:Int)))) == false) && true) then vJ (fun x=>nI F x) v1 else some false)) fun y1 =>
 bif (bif (bif (v1 == []) then true else (decide ((v1.length:Int) > (10:Int)))) then true else y1) then
  some ((0:Int),(5:Int))
 else
  chk (a0.length≤9223372036854775806) <|
  call (yA a0) fun y2 =>
  bif (bif (decide (y2 < (-2147483647:Int))) then true else (decide (y2 > (2147483647:Int)))) then
   some ((0:Int),(3:Int))
  else
   some (y2,(0:Int))
/-- printworks/token.letter -/
def nH (F:Nat) (a0:Int):Option Bool :=
 dH ((bif (bif (decide ((97:Int)≤a0)) then (decide (a0≤(122:Int))) else false) then true else (bif (decide ((65:Int)≤a0)) then (decide (a0≤(90:Int))) else false))) fun z1 =>
 some z1
/-- printworks/token.limited -/
def eX (F:Nat) (a0:List UInt8) (a1:Int):Option ((List UInt8)×Int) :=
 bif (decide ((a0.length:Int) > a1)) then
  some ([],(2:Int))
 else
  some (a0,(0:Int))
def dY (F:Nat) (a0:List UInt8):Nat→Int→Option (Out Unit ((List UInt8)×Int))
 | 0,_=>none
 | n+1,v1 =>
  bif (decide (v1 < (a0.length:Int))) then
   chk (0≤v1∧v1 < a0.length) <|
   call (nH F ((a0.getD v1.toNat 0).toNat:Int)) fun y1 =>
   call ((bif (((v1 == (0:Int)) == false) && (((!y1) == true) && true)) then jA F ((a0.getD v1.toNat 0).toNat:Int) else some false)) fun y2 =>
   dH ((bif (bif (!y1) then (bif (v1 == (0:Int)) then true else (!y2)) else false) then (((a0.getD v1.toNat 0).toNat:Int) != (42:Int)) else false)) fun z1 =>
   dH ((bif (bif z1 then (((a0.getD v1.toNat 0).toNat:Int) != (95:Int)) else false) then (((a0.getD v1.toNat 0).toNat:Int) != (46:Int)) else false)) fun z2 =>
   bif z2 then
    some (.esc ([],(5:Int)))
   else
    dY F a0 n (IntKind.i64.wrap (v1+(1:Int)))
  else
   some (.go ())
/-- printworks/token.word -/
def kU (F:Nat) (a0:List UInt8):Option ((List UInt8)×Int) :=
 dA (dY F a0 F (0:Int))
  (fun e=>some e) fun _ =>
 bif (a0 == []) then
  some ([],(5:Int))
 else
  call (eX F a0 (31:Int)) fun y3 =>
  some (y3.1,y3.2)
/-- printworks/token.hexDigit -/
def jV (F:Nat) (a0:Int):Option (Int×Bool) :=
 call (jA F a0) fun y1 =>
 bif y1 then
  some (IntKind.u8.wrap (a0 - (48:Int)),true)
 else
  bif (bif (decide ((97:Int)≤a0)) then (decide (a0≤(102:Int))) else false) then
   some (IntKind.u8.wrap ((IntKind.u8.wrap (a0 - (97:Int)))+(10:Int)),true)
  else
   bif (bif (decide ((65:Int)≤a0)) then (decide (a0≤(70:Int))) else false) then
    some (IntKind.u8.wrap ((IntKind.u8.wrap (a0 - (65:Int)))+(10:Int)),true)
   else
    some ((0:Int),false)
/-- (*printworks/token.cursor).pair -/
def gJ (F:Nat) (c0:List UInt8) (c1:Int):Option (Int×Bool×(List UInt8)×Int) :=
 bif (decide ((IntKind.i64.wrap (c1+(2:Int))) > (c0.length:Int))) then
  some ((0:Int),false,c0,c1)
 else
  chk (0≤c1∧c1 < c0.length) <|
  call (jV F ((c0.getD c1.toNat 0).toNat:Int)) fun y1 =>
  chk (0≤(IntKind.i64.wrap (c1+(1:Int)))∧(IntKind.i64.wrap (c1+(1:Int))) < c0.length) <|
  call (jV F ((c0.getD (IntKind.i64.wrap (c1+(1:Int))).toNat 0).toNat:Int)) fun y2 =>
  dH (IntKind.u8.wrap ((BitVec.ofInt IntKind.u8.bits (IntKind.u8.wrap (y1.1 * 2 ^ (min (4:Int).toNat IntKind.u8.bits))) ||| BitVec.ofInt IntKind.u8.bits y2.1).toNat:Int)) fun z1 =>
  some (z1,(bif y1.2 then y2.2 else false),c0,IntKind.i64.wrap (c1+(2:Int)))
/-- (*strings.Builder).WriteByte -/
def aN (F:Nat) (a0:Int) (c1:List UInt8):Option (Unit×(List UInt8)) :=
 chk (0≤a0∧a0 < 256) <|
 chk (c1.length+([(UInt8.ofNat a0.toNat)]).length≤4294967296) <|
 some ((),(c1++([(UInt8.ofNat a0.toNat)])))
/-- (*strings.Builder).Len -/
def iG (F:Nat) (c0:List UInt8):Option (Int×(List UInt8)) :=
 some ((c0.length:Int),c0)
def dM (F:Nat) (y1:(List UInt8)×(List UInt8)×Int):Nat→(List UInt8)→Int→(List UInt8)→Option (Out ((List UInt8)) ((List UInt8)×Int×(List UInt8)×Int))
 | 0,_,_,_=>none
 | n+1,v1,v2,v3 =>
  bif (decide (v2 < (v1.length:Int))) then
   chk (0≤v2∧v2 < v1.length) <|
   bif (((v1.getD v2.toNat 0).toNat:Int) == (35:Int)) then
    call (gJ F v1 (IntKind.i64.wrap (v2+(1:Int)))) fun y2 =>
    bif (bif (!y2.2.1) then true else (y2.1 == (0:Int))) then
     some (.esc ([],(5:Int),y1.2.1,y1.2.2))
    else
     call (aN F y2.1 v3) fun y3 =>
     dM F y1 n y2.2.2.1 y2.2.2.2 y3.2
   else
    dH ((bif (decide (((v1.getD v2.toNat 0).toNat:Int) < (33:Int))) then true else (decide (((v1.getD v2.toNat 0).toNat:Int) > (126:Int))))) fun z1 =>
    bif z1 then
     some (.esc ([],(5:Int),y1.2.1,y1.2.2))
    else
     call (aN F ((v1.getD v2.toNat 0).toNat:Int) v3) fun y4 =>
     dM F y1 n v1 (IntKind.i64.wrap (v2+(1:Int))) y4.2
  else
   some (.go v3)
/-- (*printworks/token.cursor).name -/
def gV (F:Nat) (c0:List UInt8) (c1:Int):Option ((List UInt8)×Int×(List UInt8)×Int) :=
 call (gD F c0 c1) fun y1 =>
 dA (dM F y1 F y1.1 0 [])
  (fun e=>some e) fun v4 =>
 call (iG F v4) fun y5 =>
 bif (y5.1 == (0:Int)) then
  some ([],(5:Int),y1.2.1,y1.2.2)
 else
  chk (y5.2.length≤9223372036854775807) <|
  call (eX F y5.2 (31:Int)) fun y6 =>
  some (y6.1,y6.2,y1.2.1,y1.2.2)
/-- printworks/token.reference$1 -/
def lL (F:Nat) (a0:Int):Option Bool :=
 some (bif (decide (a0 < (48:Int))) then true else (decide (a0 > (57:Int))))
/-- printworks/token.reference -/
def lV (F:Nat) (a0:List UInt8):Option (Int×Int) :=
 chk ((((bif (a0 == []) then true else (decide ((a0.length:Int) > (3:Int)))) == false) && true)=true→0≤(0:Int)∧(0:Int) < a0.length) <|
 dH ((bif (((a0.getD (0:Int).toNat 0).toNat:Int) == (48:Int)) then (decide ((a0.length:Int) > (1:Int))) else false)) fun z1 =>
 call ((bif (((bif (bif (a0 == []) then true else (decide ((a0.length:Int) > (3:Int)))) then true else z1) == false) && true) then vJ (fun x=>lL F x) a0 else some false)) fun y1 =>
 dH ((bif (bif (bif (a0 == []) then true else (decide ((a0.length:Int) > (3:Int)))) then true else z1) then true else y1)) fun z2 =>
 bif z2 then
  some ((0:Int),(5:Int))
 else
  chk (a0.length≤9223372036854775806) <|
  call (yA a0) fun y2 =>
  bif (bif (decide (y2 < (1:Int))) then true else (decide (y2 > (255:Int)))) then
   some ((0:Int),(3:Int))
  else
   some (y2,(0:Int))
/-- (*printworks/token.cursor).escape -/
def jL (F:Nat) (c0:List UInt8) (c1:Int) (c2:List UInt8):Option (Int×(List UInt8)×Int×(List UInt8)) :=
 bif (c1 == (c0.length:Int)) then
  some ((12:Int),c0,c1,c2)
 else
  chk (0≤c1∧c1 < c0.length) <|
  dA (bif (((c0.getD c1.toNat 0).toNat:Int) == (10:Int)) then
    some (.esc ((0:Int),c0,IntKind.i64.wrap (c1+(1:Int)),c2))
   else
    bif (((c0.getD c1.toNat 0).toNat:Int) == (110:Int)) then
     some (.go ((10:Int),c0,IntKind.i64.wrap (c1+(1:Int))))
    else
     bif (((c0.getD c1.toNat 0).toNat:Int) == (116:Int)) then
      some (.go ((9:Int),c0,IntKind.i64.wrap (c1+(1:Int))))
     else
      call (bif (((c0.getD c1.toNat 0).toNat:Int) == (92:Int)) then
        some (((c0.getD c1.toNat 0).toNat:Int) == (92:Int))
       else
        bif (((c0.getD c1.toNat 0).toNat:Int) == (40:Int)) then
         some (((c0.getD c1.toNat 0).toNat:Int) == (40:Int))
        else
         some (((c0.getD c1.toNat 0).toNat:Int) == (41:Int)))
       fun v1 =>
      bif v1 then
       some (.go (((c0.getD c1.toNat 0).toNat:Int),c0,IntKind.i64.wrap (c1+(1:Int))))
      else
       bif (((c0.getD c1.toNat 0).toNat:Int) == (120:Int)) then
        call (gJ F c0 (IntKind.i64.wrap (c1+(1:Int)))) fun y1 =>
        bif (!y1.2.1) then
         some (.esc ((5:Int),y1.2.2.1,y1.2.2.2,c2))
        else
         some (.go (y1.1,y1.2.2.1,y1.2.2.2))
       else
        some (.esc ((5:Int),c0,IntKind.i64.wrap (c1+(1:Int)),c2)))
   (fun e=>some e) fun (v2,v3,v4) =>
  call (aN F v2 c2) fun y2 =>
  some ((0:Int),v3,v4,y2.2)
def bZ (F:Nat)  : Nat→(List UInt8)→(List UInt8)→Int→Int→Option (Out ((List UInt8)×Int) ((List UInt8)×Int×(List UInt8)×Int))
 | 0,_,_,_,_=>none
 | n+1,v1,v2,v3,v4 =>
  bif (decide (v3 < (v2.length:Int))) then
   chk (0≤v3∧v3 < v2.length) <|
   dA (bif (((v2.getD v3.toNat 0).toNat:Int) == (92:Int)) then
     call (jL F v2 (IntKind.i64.wrap (v3+(1:Int))) v1) fun y1 =>
     bif (y1.1 != (0:Int)) then
      some (.esc (.inr ([],y1.1,y1.2.1,y1.2.2.1)))
     else
      some (.esc (.inl (y1.2.2.2,y1.2.1,y1.2.2.1,v4)))
    else
     bif (((v2.getD v3.toNat 0).toNat:Int) == (40:Int)) then
      bif (decide ((IntKind.i64.wrap (v4+(1:Int))) > (16:Int))) then
       some (.esc (.inr ([],(15:Int),v2,IntKind.i64.wrap (v3+(1:Int)))))
      else
       some (.go (IntKind.i64.wrap (v4+(1:Int))))
     else
      bif (((v2.getD v3.toNat 0).toNat:Int) == (41:Int)) then
       some (.go (IntKind.i64.wrap (v4 - (1:Int))))
      else
       some (.go v4))
    (Sum.elim (fun e=>bZ F n e.1 e.2.1 e.2.2.1 e.2.2.2) (fun e=>some (.esc e))) fun v5 =>
   bif (v5 == (0:Int)) then
    chk (v1.length≤9223372036854775807) <|
    call (eX F v1 (1024:Int)) fun y2 =>
    some (.esc (y2.1,y2.2,v2,IntKind.i64.wrap (v3+(1:Int))))
   else
    call (aN F ((v2.getD v3.toNat 0).toNat:Int) v1) fun y3 =>
    bZ F n y3.2 v2 (IntKind.i64.wrap (v3+(1:Int))) v5
  else
   some (.go (v2,v3))
/-- (*printworks/token.cursor).text -/
def jF (F:Nat) (c0:List UInt8) (c1:Int):Option ((List UInt8)×Int×(List UInt8)×Int) :=
 dA (bZ F F [] c0 c1 (1:Int))
  (fun e=>some e) fun (v6,v7) =>
 some ([],(12:Int),v6,v7)
def dL (F:Nat) (c0:List UInt8):Nat→Int→(List UInt8)→Int→Int→Option (Out Int ((List UInt8)×Int×(List UInt8)×Int))
 | 0,_,_,_,_=>none
 | n+1,v1,v2,v3,v4 =>
  bif (decide (v1 < (c0.length:Int))) then
   chk (0≤v1∧v1 < c0.length) <|
   call (mP F ((c0.getD v1.toNat 0).toNat:Int)) fun y1 =>
   bif y1 then
    dL F c0 n (IntKind.i64.wrap (v1+(1:Int))) v2 v3 v4
   else
    dH ((bif (((c0.getD v1.toNat 0).toNat:Int) == (62:Int)) then ((v4.tmod (2:Int)) == (0:Int)) else false)) fun z1 =>
    bif z1 then
     chk (v2.length≤9223372036854775807) <|
     call (eX F v2 (1024:Int)) fun y2 =>
     some (.esc (y2.1,y2.2,c0,IntKind.i64.wrap (v1+(1:Int))))
    else
     call (jV F ((c0.getD v1.toNat 0).toNat:Int)) fun y3 =>
     bif (!y3.2) then
      some (.esc ([],(5:Int),c0,IntKind.i64.wrap (v1+(1:Int))))
     else
      call (bif (((IntKind.i64.wrap (v4+(1:Int))).tmod (2:Int)) == (0:Int)) then
        dH (IntKind.u8.wrap ((BitVec.ofInt IntKind.u8.bits (IntKind.u8.wrap (v3 * 2 ^ (min (4:Int).toNat IntKind.u8.bits))) ||| BitVec.ofInt IntKind.u8.bits y3.1).toNat:Int)) fun z2 =>
        call (aN F z2 v2) fun y4 =>
        some y4.2
       else
        some v2)
       fun v5 =>
      dL F c0 n (IntKind.i64.wrap (v1+(1:Int))) v5 y3.1 (IntKind.i64.wrap (v4+(1:Int)))
  else
   some (.go v1)
/-- (*printworks/token.cursor).hex -/
def jR (F:Nat) (c0:List UInt8) (c1:Int):Option ((List UInt8)×Int×(List UInt8)×Int) :=
 dA (dL F c0 F c1 [] (0:Int) (0:Int))
  (fun e=>some e) fun v6 =>
 some ([],(12:Int),c0,v6)
/-- (*printworks/token.cursor).one -/
def jS (F:Nat) (c0:List UInt8) (c1:Int):Option (aD×Int×(List UInt8)×Int) :=
 chk (0≤c1∧c1 < c0.length) <|
 dH ((bif (((c0.getD c1.toNat 0).toNat:Int) == (43:Int)) then true else (((c0.getD c1.toNat 0).toNat:Int) == (45:Int)))) fun z1 =>
 call ((bif ((z1 == false) && true) then jA F ((c0.getD c1.toNat 0).toNat:Int) else some false)) fun y1 =>
 bif (bif z1 then true else y1) then
  call (gD F c0 c1) fun y2 =>
  call (nZ F y2.1) fun y3 =>
  some ((aD.mk (1:Int) y3.1 [] 0 0),y3.2,y2.2.1,y2.2.2)
 else
  call (fV F ((c0.getD c1.toNat 0).toNat:Int)) fun y4 =>
  bif y4 then
   call (gD F c0 c1) fun y5 =>
   call (kU F y5.1) fun y6 =>
   some ((aD.mk (5:Int) 0 y6.1 0 0),y6.2,y5.2.1,y5.2.2)
  else
   chk ((((decide ((IntKind.i64.wrap (c1+(1:Int))) < (c0.length:Int))) == true) && true)=true→0≤(IntKind.i64.wrap (c1+(1:Int)))∧(IntKind.i64.wrap (c1+(1:Int))) < c0.length) <|
   dH ((((c0.getD (IntKind.i64.wrap (c1+(1:Int))).toNat 0).toNat:Int) == ((c0.getD c1.toNat 0).toNat:Int))) fun z2 =>
   dA (bif (((c0.getD c1.toNat 0).toNat:Int) == (47:Int)) then
     call (gV F c0 (IntKind.i64.wrap (c1+(1:Int)))) fun y7 =>
     some (.go ((2:Int),0,y7.1,y7.2.1,y7.2.2.1,y7.2.2.2))
    else
     bif (((c0.getD c1.toNat 0).toNat:Int) == (64:Int)) then
      call (gD F c0 (IntKind.i64.wrap (c1+(1:Int)))) fun y8 =>
      call (lV F y8.1) fun y9 =>
      some (.go ((4:Int),y9.1,[],y9.2,y8.2.1,y8.2.2))
     else
      bif (((c0.getD c1.toNat 0).toNat:Int) == (40:Int)) then
       call (jF F c0 (IntKind.i64.wrap (c1+(1:Int)))) fun y10 =>
       some (.go ((3:Int),0,y10.1,y10.2.1,y10.2.2.1,y10.2.2.2))
      else
       bif (((c0.getD c1.toNat 0).toNat:Int) == (91:Int)) then
        some (.go ((6:Int),0,[],(0:Int),c0,IntKind.i64.wrap (c1+(1:Int))))
       else
        bif (((c0.getD c1.toNat 0).toNat:Int) == (93:Int)) then
         some (.go ((7:Int),0,[],(0:Int),c0,IntKind.i64.wrap (c1+(1:Int))))
        else
         bif (((c0.getD c1.toNat 0).toNat:Int) == (60:Int)) then
          bif (bif (decide ((IntKind.i64.wrap (c1+(1:Int))) < (c0.length:Int))) then z2 else false) then
           some (.go ((8:Int),0,[],(0:Int),c0,IntKind.i64.wrap ((IntKind.i64.wrap (c1+(1:Int)))+(1:Int))))
          else
           call (jR F c0 (IntKind.i64.wrap (c1+(1:Int)))) fun y11 =>
           some (.go ((3:Int),0,y11.1,y11.2.1,y11.2.2.1,y11.2.2.2))
         else
          bif (((c0.getD c1.toNat 0).toNat:Int) == (62:Int)) then
           bif (!(bif (decide ((IntKind.i64.wrap (c1+(1:Int))) < (c0.length:Int))) then z2 else false)) then
            some (.esc ((aD.mk 0 0 [] 0 0),(5:Int),c0,IntKind.i64.wrap (c1+(1:Int))))
           else
            some (.go ((9:Int),0,[],(0:Int),c0,IntKind.i64.wrap ((IntKind.i64.wrap (c1+(1:Int)))+(1:Int))))
          else
           some (.esc ((aD.mk 0 0 [] 0 0),(5:Int),c0,IntKind.i64.wrap (c1+(1:Int)))))
    (fun e=>some e) fun (v1,v2,v3,v4,v5,v6) =>
   some ((aD.mk v1 v2 v3 0 0),v4,v5,v6)
/-- printworks/token.next -/
def mX (F:Nat) (a0:List UInt8) (a1:Int):Option (aD×Int×Int) :=
 call (mD F a0 a1) fun y1 =>
 bif (y1.2 == (a0.length:Int)) then
  some ((aD.mk 0 0 [] y1.2 y1.2),y1.2,(0:Int))
 else
  call (jS F y1.1 y1.2) fun y2 =>
  bif (y2.2.1 != (0:Int)) then
   some ((aD.mk 0 0 [] 0 0),y1.2,y2.2.1)
  else
   some ((aD.mk y2.1.f0 y2.1.f1 y2.1.f2 y1.2 y2.2.2.2),y1.2,(0:Int))
/-- printworks/token.Next -/
def jI (F:Nat) (a0:List UInt8) (a1:Int):Option (aD×Int×Int) :=
 bif (decide ((a0.length:Int) > (8192:Int))) then
  some ((aD.mk 0 0 [] 0 0),(0:Int),(2:Int))
 else
  bif (bif (decide (a1 < (0:Int))) then true else (decide (a1 > (a0.length:Int)))) then
   some ((aD.mk 0 0 [] 0 0),(0:Int),(3:Int))
  else
   call (mX F a0 a1) fun y1 =>
   call (bif (y1.2.2 == (0:Int)) then
     some (0:Int)
    else
     some y1.2.1)
    fun v1 =>
   some (y1.1,v1,y1.2.2)
/-- printworks/object.fail -/
def gK (F:Nat) (a0:Int) (a1:Int):Option (Sum Value Unit) :=
 some (.inl (.iface 44 (.agg ⟨[.int .i64 a0,.int .i64 a1]⟩)))
/-- (*printworks/object.parser).advance -/
def dG (F:Nat) (c0:List UInt8) (c1:Int) (c2:Int) (c3:List UInt8) (c4:Int) (c5:Int):Option (Sum Value ((List UInt8)×Int×Int×(List UInt8)×Int×Int)) :=
 call (jI F c0 c5) fun y1 =>
 dA (bif (y1.2.2 != (0:Int)) then
   gF (gK F y1.2.1 y1.2.2) (fun pv=>some (.esc (.inl pv))) fun y2 =>
   some (.go ())
  else
   some (.go ()))
  (fun e=>some e) fun _ =>
 some (.inr (c0,y1.1.f0,y1.1.f1,y1.1.f2,y1.1.f3,y1.1.f4))
/-- (*printworks/object.parser).more -/
def fU (F:Nat) (a0:Int) (a1:Int) (c2:List UInt8) (c3:Int) (c4:Int) (c5:List UInt8) (c6:Int) (c7:Int):Option (Sum Value (Bool×(List UInt8)×Int×Int×(List UInt8)×Int×Int)) :=
 gF (dG F c2 c3 c4 c5 c6 c7) (fun pv=>some (.inl pv)) fun y1 =>
 dA (bif (y1.2.1 == a0) then
   some (.esc (.inr (false,y1.1,y1.2.1,y1.2.2.1,y1.2.2.2.1,y1.2.2.2.2.1,y1.2.2.2.2.2)))
  else
   bif (y1.2.1 == (0:Int)) then
    gF (gK F y1.2.2.2.2.1 (12:Int)) (fun pv=>some (.esc (.inl pv))) fun y2 =>
    some (.go ())
   else
    bif (a1 == (256:Int)) then
     gF (gK F y1.2.2.2.2.1 (2:Int)) (fun pv=>some (.esc (.inl pv))) fun y3 =>
     some (.go ())
    else
     some (.go ()))
  (fun e=>some e) fun _ =>
 some (.inr (true,y1.1,y1.2.1,y1.2.2.1,y1.2.2.2.1,y1.2.2.2.2.1,y1.2.2.2.2.2))
def eH (F:Nat) (a0:Int) (rec_object_parser_object:Int→(List UInt8)→Int→Int→(List UInt8)→Int→Int→Option (Sum Value (aG×(List UInt8)×Int×Int×(List UInt8)×Int×Int))):Nat→(List aG)→(List UInt8)→Int→Int→(List UInt8)→Int→Int→Option (Out ((List aG)×(List UInt8)×Int×Int×(List UInt8)×Int×Int) (Sum Value (aG×(List UInt8)×Int×Int×(List UInt8)×Int×Int)))
 | 0,_,_,_,_,_,_,_=>none
 | n+1,v1,v2,v3,v4,v5,v6,v7 =>
  gF (fU F (7:Int) (v1.length:Int) v2 v3 v4 v5 v6 v7) (fun pv=>some (.esc (.inl pv))) fun y1 =>
  bif y1.1 then
   gF (rec_object_parser_object (IntKind.i64.wrap (a0+(1:Int))) y1.2.1 y1.2.2.1 y1.2.2.2.1 y1.2.2.2.2.1 y1.2.2.2.2.2.1 y1.2.2.2.2.2.2) (fun pv=>some (.esc (.inl pv))) fun y2 =>
   chk (v1.length+([y2.1]).length≤4294967296) <|
   eH F a0 rec_object_parser_object n (v1++([y2.1])) y2.2.1 y2.2.2.1 y2.2.2.2.1 y2.2.2.2.2.1 y2.2.2.2.2.2.1 y2.2.2.2.2.2.2
  else
   some (.go (v1,y1.2.1,y1.2.2.1,y1.2.2.2.1,y1.2.2.2.2.1,y1.2.2.2.2.2.1,y1.2.2.2.2.2.2))
/-- (*printworks/object.parser).list -/
def lQ (F:Nat) (rec_object_parser_object:Int→(List UInt8)→Int→Int→(List UInt8)→Int→Int→Option (Sum Value (aG×(List UInt8)×Int×Int×(List UInt8)×Int×Int))) (a0:Int) (c1:List UInt8) (c2:Int) (c3:Int) (c4:List UInt8) (c5:Int) (c6:Int):Option (Sum Value (aG×(List UInt8)×Int×Int×(List UInt8)×Int×Int)) :=
 dA (eH F a0 rec_object_parser_object F [] c1 c2 c3 c4 c5 c6)
  (fun e=>some e) fun (v8,v9,v10,v11,v12,v13,v14) =>
 some (.inr ((aG.mk (6:Int) 0 [] [] v8),v9,v10,v11,v12,v13,v14))
/-- cmp.isNaN[string] -/
def cmp_isNaN_string (F:Nat) (a0:List UInt8):Option Bool :=
 some (!(a0 == a0))
/-- cmp.Less[string] -/
def cmp_Less_string (F:Nat) (a0:List UInt8) (a1:List UInt8):Option Bool :=
 call (cmp_isNaN_string F a0) fun y1 =>
 call ((bif ((y1 == true) && true) then cmp_isNaN_string F a1 else some false)) fun y2 =>
 some (bif (bif y1 then (!y2) else false) then true else (Op.bytesLess a0 a1))
/-- slices.isNaN[string] -/
def slices_isNaN_string (F:Nat) (a0:List UInt8):Option Bool :=
 some (!(a0 == a0))
def dE (F:Nat) (a0:List (List UInt8)) (a1:List UInt8):Nat→Int→Int→Option Int
 | 0,_,_=>none
 | n+1,v1,v2 =>
  bif (decide (v1 < v2)) then
   dH (((IntKind.u64.wrap (IntKind.i64.wrap (v1+v2))).fdiv (2 ^ (min (1:Int).toNat IntKind.u64.bits)))) fun z1 =>
   chk (0≤(IntKind.i64.wrap z1)∧(IntKind.i64.wrap z1) < a0.length) <|
   call (cmp_Less_string F (a0.getD (IntKind.i64.wrap z1).toNat []) a1) fun y1 =>
   bif y1 then
    dE F a0 a1 n (IntKind.i64.wrap ((IntKind.i64.wrap z1)+(1:Int))) v2
   else
    dE F a0 a1 n v1 (IntKind.i64.wrap z1)
  else
   some v1
/-- slices.BinarySearch[[]string,string] -/
def slices_BinarySearch_string (F:Nat) (a0:List (List UInt8)) (a1:List UInt8):Option (Int×Bool) :=
 call (dE F a0 a1 F (0:Int) (a0.length:Int))
  fun v3 =>
 chk ((((decide (v3 < (a0.length:Int))) == true) && true)=true→0≤v3∧v3 < a0.length) <|
 chk (((((a0.getD v3.toNat []) == a1) == false) && (((decide (v3 < (a0.length:Int))) == true) && true))=true→0≤v3∧v3 < a0.length) <|
 call ((bif ((((a0.getD v3.toNat []) == a1) == false) && (((decide (v3 < (a0.length:Int))) == true) && true)) then slices_isNaN_string F (a0.getD v3.toNat []) else some false)) fun y2 =>
 call ((bif ((y2 == true) && ((((a0.getD v3.toNat []) == a1) == false) && (((decide (v3 < (a0.length:Int))) == true) && true))) then slices_isNaN_string F a1 else some false)) fun y3 =>
 dH ((bif (decide (v3 < (a0.length:Int))) then (bif ((a0.getD v3.toNat []) == a1) then true else (bif y2 then y3 else false)) else false)) fun z2 =>
 some (v3,z2)
def eO (F:Nat) (a0:Int) (rec_object_parser_object:Int→(List UInt8)→Int→Int→(List UInt8)→Int→Int→Option (Sum Value (aG×(List UInt8)×Int×Int×(List UInt8)×Int×Int))):Nat→(List (List UInt8))→(List aG)→(List UInt8)→Int→Int→(List UInt8)→Int→Int→Option (Out ((List (List UInt8))×(List aG)×(List UInt8)×Int×Int×(List UInt8)×Int×Int) (Sum Value (aG×(List UInt8)×Int×Int×(List UInt8)×Int×Int)))
 | 0,_,_,_,_,_,_,_,_=>none
 | n+1,v1,v2,v3,v4,v5,v6,v7,v8 =>
  gF (fU F (9:Int) (v2.length:Int) v3 v4 v5 v6 v7 v8) (fun pv=>some (.esc (.inl pv))) fun y1 =>
  bif y1.1 then
   call (slices_BinarySearch_string F v1 y1.2.2.2.2.1) fun y2 =>
   dA (bif (y1.2.2.1 != (2:Int)) then
     gF (gK F y1.2.2.2.2.2.1 (5:Int)) (fun pv=>some (.esc (.inl pv))) fun y3 =>
     some (.go ())
    else
     some (.go ()))
    (fun e=>some (.esc e)) fun _ =>
   dA (bif y2.2 then
     gF (gK F y1.2.2.2.2.2.1 (7:Int)) (fun pv=>some (.esc (.inl pv))) fun y4 =>
     some (.go ())
    else
     some (.go ()))
    (fun e=>some (.esc e)) fun _ =>
   gF (dG F y1.2.1 y1.2.2.1 y1.2.2.2.1 y1.2.2.2.2.1 y1.2.2.2.2.2.1 y1.2.2.2.2.2.2) (fun pv=>some (.esc (.inl pv))) fun y5 =>
   gF (rec_object_parser_object (IntKind.i64.wrap (a0+(1:Int))) y5.1 y5.2.1 y5.2.2.1 y5.2.2.2.1 y5.2.2.2.2.1 y5.2.2.2.2.2) (fun pv=>some (.esc (.inl pv))) fun y6 =>
   chk (0≤y2.1∧y2.1≤(v1.length:Int)∧v1.length+1≤4294967296) <|
   chk (0≤y2.1∧y2.1≤(v2.length:Int)∧v2.length+1≤4294967296) <|
   eO F a0 rec_object_parser_object n (v1.take y2.1.toNat++([y1.2.2.2.2.1])++v1.drop y2.1.toNat) (v2.take y2.1.toNat++([y6.1])++v2.drop y2.1.toNat) y6.2.1 y6.2.2.1 y6.2.2.2.1 y6.2.2.2.2.1 y6.2.2.2.2.2.1 y6.2.2.2.2.2.2
  else
   some (.go (v1,v2,y1.2.1,y1.2.2.1,y1.2.2.2.1,y1.2.2.2.2.1,y1.2.2.2.2.2.1,y1.2.2.2.2.2.2))
/-- (*printworks/object.parser).dict -/
def lK (F:Nat) (rec_object_parser_object:Int→(List UInt8)→Int→Int→(List UInt8)→Int→Int→Option (Sum Value (aG×(List UInt8)×Int×Int×(List UInt8)×Int×Int))) (a0:Int) (c1:List UInt8) (c2:Int) (c3:Int) (c4:List UInt8) (c5:Int) (c6:Int):Option (Sum Value (aG×(List UInt8)×Int×Int×(List UInt8)×Int×Int)) :=
 dA (eO F a0 rec_object_parser_object F [] [] c1 c2 c3 c4 c5 c6)
  (fun e=>some e) fun (v9,v10,v11,v12,v13,v14,v15,v16) =>
 some (.inr ((aG.mk (7:Int) 0 [] v9 v10),v11,v12,v13,v14,v15,v16))
/-- (*printworks/object.parser).leaf -/
def iQ (F:Nat) (c0:List UInt8) (c1:Int) (c2:Int) (c3:List UInt8) (c4:Int) (c5:Int):Option (Sum Value (aG×(List UInt8)×Int×Int×(List UInt8)×Int×Int)) :=
 bif (c1 == (1:Int)) then
  some (.inr ((aG.mk (2:Int) c2 [] [] []),c0,c1,c2,c3,c4,c5))
 else
  bif (c1 == (2:Int)) then
   some (.inr ((aG.mk (3:Int) 0 c3 [] []),c0,c1,c2,c3,c4,c5))
  else
   bif (c1 == (3:Int)) then
    some (.inr ((aG.mk (4:Int) 0 c3 [] []),c0,c1,c2,c3,c4,c5))
   else
    bif (c1 == (4:Int)) then
     some (.inr ((aG.mk (5:Int) c2 [] [] []),c0,c1,c2,c3,c4,c5))
    else
     bif (c3 == ([110,117,108,108]:List UInt8)) then
      some (.inr ((aG.mk 0 0 [] [] []),c0,c1,c2,c3,c4,c5))
     else
      bif (c3 == ([116,114,117,101]:List UInt8)) then
       some (.inr ((aG.mk (1:Int) (1:Int) [] [] []),c0,c1,c2,c3,c4,c5))
      else
       bif (c3 == ([102,97,108,115,101]:List UInt8)) then
        some (.inr ((aG.mk (1:Int) 0 [] [] []),c0,c1,c2,c3,c4,c5))
       else
        gF (gK F c4 (6:Int)) (fun pv=>some (.inl pv)) fun y1 =>
        some (.inr ((aG.mk 0 0 [] [] []),c0,c1,c2,c3,c4,c5))
/-- (*printworks/object.parser).object -/
def gG (F:Nat) (rec_object_parser_object:Int→(List UInt8)→Int→Int→(List UInt8)→Int→Int→Option (Sum Value (aG×(List UInt8)×Int×Int×(List UInt8)×Int×Int))) (a0:Int) (c1:List UInt8) (c2:Int) (c3:Int) (c4:List UInt8) (c5:Int) (c6:Int):Option (Sum Value (aG×(List UInt8)×Int×Int×(List UInt8)×Int×Int)) :=
 dA (bif (c2 == (0:Int)) then
   gF (gK F c5 (12:Int)) (fun pv=>some (.esc (.inl pv))) fun y1 =>
   some (.go ())
  else
   bif (bif (c2 == (7:Int)) then true else (c2 == (9:Int))) then
    gF (gK F c5 (5:Int)) (fun pv=>some (.esc (.inl pv))) fun y2 =>
    some (.go ())
   else
    bif (decide (a0 > (12:Int))) then
     gF (gK F c5 (15:Int)) (fun pv=>some (.esc (.inl pv))) fun y3 =>
     some (.go ())
    else
     bif (c2 == (6:Int)) then
      gF (lQ F rec_object_parser_object a0 c1 c2 c3 c4 c5 c6) (fun pv=>some (.esc (.inl pv))) fun y4 =>
      some (.esc (.inr (y4.1,y4.2.1,y4.2.2.1,y4.2.2.2.1,y4.2.2.2.2.1,y4.2.2.2.2.2.1,y4.2.2.2.2.2.2)))
     else
      bif (c2 == (8:Int)) then
       gF (lK F rec_object_parser_object a0 c1 c2 c3 c4 c5 c6) (fun pv=>some (.esc (.inl pv))) fun y5 =>
       some (.esc (.inr (y5.1,y5.2.1,y5.2.2.1,y5.2.2.2.1,y5.2.2.2.2.1,y5.2.2.2.2.2.1,y5.2.2.2.2.2.2)))
      else
       some (.go ()))
  (fun e=>some e) fun _ =>
 gF (iQ F c1 c2 c3 c4 c5 c6) (fun pv=>some (.inl pv)) fun y6 =>
 some (.inr (y6.1,y6.2.1,y6.2.2.1,y6.2.2.2.1,y6.2.2.2.2.1,y6.2.2.2.2.2.1,y6.2.2.2.2.2.2))
def bL (F:Nat):Nat→Int→(List UInt8)→Int→Int→(List UInt8)→Int→Int→Option (Sum Value (aG×(List UInt8)×Int×Int×(List UInt8)×Int×Int))
 | 0=>fun _ _ _ _ _ _ _=>none
 | n+1=>gG F (bL F n)
def mY (F:Nat) (a0:Int) (c1:List UInt8) (c2:Int) (c3:Int) (c4:List UInt8) (c5:Int) (c6:Int):Option (Sum Value (aG×(List UInt8)×Int×Int×(List UInt8)×Int×Int)):=bL F F a0 c1 c2 c3 c4 c5 c6
/-- printworks/token.bad -/
def oQ (F:Nat) (a0:Int):Option Int :=
 bif (a0 == (5:Int)) then
  some (4:Int)
 else
  some a0
/-- printworks/token.check -/
def bQ (F:Nat) (a0:aD):Option Int :=
 dH ((bif (bif (a0.f0 == (2:Int)) then true else (a0.f0 == (3:Int))) then true else (a0.f0 == (5:Int)))) fun z1 =>
 dA (bif (bif (decide (a0.f0 < (1:Int))) then true else (decide (a0.f0 > (9:Int)))) then
   some (.esc (14:Int))
  else
   call (dH ((bif (a0.f1 != (0:Int)) then (!(bif (a0.f0 == (1:Int)) then true else (a0.f0 == (4:Int)))) else false)) fun z2 =>
    bif z2 then
     some z2
    else
     some (bif (!(a0.f2 == [])) then (!z1) else false))
    fun v1 =>
   bif v1 then
    some (.esc (4:Int))
   else
    dH ((bif (a0.f2 == []) then true else (decide ((Lib.indexByte a0.f2 (0:Int).toNat.toUInt8) ≥ (0:Int))))) fun z3 =>
    bif (bif (a0.f0 == (2:Int)) then z3 else false) then
     some (.esc (4:Int))
    else
     dH ((bif (a0.f0 == (1:Int)) then (bif (decide (a0.f1 < (-2147483647:Int))) then true else (decide (a0.f1 > (2147483647:Int)))) else false)) fun z4 =>
     bif z4 then
      some (.esc (3:Int))
     else
      dH ((bif (a0.f0 == (4:Int)) then (bif (decide (a0.f1 < (1:Int))) then true else (decide (a0.f1 > (255:Int)))) else false)) fun z5 =>
      bif z5 then
       some (.esc (3:Int))
      else
       call (bif (bif (a0.f0 == (2:Int)) then (decide ((a0.f2.length:Int) > (31:Int))) else false) then
         some (bif (a0.f0 == (2:Int)) then (decide ((a0.f2.length:Int) > (31:Int))) else false)
        else
         some (bif (decide ((a0.f2.length:Int) > (1024:Int))) then (a0.f0 == (3:Int)) else false))
        fun v2 =>
       bif v2 then
        some (.esc (2:Int))
       else
        bif (a0.f0 == (5:Int)) then
         call (kU F a0.f2) fun y1 =>
         bif (y1.2 != (0:Int)) then
          call (oQ F y1.2) fun y2 =>
          some (.esc y2)
         else
          some (.go ())
        else
         some (.go ()))
  (fun e=>some e) fun _ =>
 some (0:Int)
def fB (F:Nat) (a0:List UInt8):Nat→(List UInt8)→Int→Option ((List UInt8))
 | 0,_,_=>none
 | n+1,v1,v2 =>
  bif (decide (v2 < (a0.length:Int))) then
   call (chk (0≤v2∧v2 < a0.length) <|
    call (nH F ((a0.getD v2.toNat 0).toNat:Int)) fun y1 =>
    call ((bif ((y1 == false) && true) then jA F ((a0.getD v2.toNat 0).toNat:Int) else some false)) fun y2 =>
    dH ((bif (bif y1 then true else y2) then true else (((a0.getD v2.toNat 0).toNat:Int) == (95:Int)))) fun z1 =>
    dH ((bif (bif z1 then true else (((a0.getD v2.toNat 0).toNat:Int) == (45:Int))) then true else (((a0.getD v2.toNat 0).toNat:Int) == (46:Int)))) fun z2 =>
    bif z2 then
     call (aN F ((a0.getD v2.toNat 0).toNat:Int) v1) fun y3 =>
     some y3.2
    else
     call (aN F (35:Int) v1) fun y4 =>
     chk (0≤(((a0.getD v2.toNat 0).toNat:Int).fdiv (2 ^ (min (4:Int).toNat IntKind.u8.bits)))∧(((a0.getD v2.toNat 0).toNat:Int).fdiv (2 ^ (min (4:Int).toNat IntKind.u8.bits))) < ([48,49,50,51,52,53,54,55,56,57,97,98,99,100,101,102]:List UInt8).length) <|
     dH (((([48,49,50,51,52,53,54,55,56,57,97,98,99,100,101,102]:List UInt8).getD (((a0.getD v2.toNat 0).toNat:Int).fdiv (2 ^ (min (4:Int).toNat IntKind.u8.bits))).toNat 0).toNat:Int)) fun z3 =>
     call (aN F z3 y4.2) fun y5 =>
     dH (IntKind.u8.wrap ((BitVec.ofInt IntKind.u8.bits ((a0.getD v2.toNat 0).toNat:Int) &&& BitVec.ofInt IntKind.u8.bits (15:Int)).toNat:Int)) fun z4 =>
     chk (0≤z4∧z4 < ([48,49,50,51,52,53,54,55,56,57,97,98,99,100,101,102]:List UInt8).length) <|
     dH (((([48,49,50,51,52,53,54,55,56,57,97,98,99,100,101,102]:List UInt8).getD z4.toNat 0).toNat:Int)) fun z5 =>
     call (aN F z5 y5.2) fun y6 =>
     some y6.2)
    fun v3 =>
   fB F a0 n v3 (IntKind.i64.wrap (v2+(1:Int)))
  else
   some v1
/-- printworks/token.printedName -/
def mC (F:Nat) (a0:List UInt8):Option ((List UInt8)) :=
 call (fB F a0 F [] (0:Int))
  fun v4 =>
 chk (v4.length≤9223372036854775807) <|
 some v4
/-- (*strings.Builder).WriteString -/
def cO (F:Nat) (a0:List UInt8) (c1:List UInt8):Option (Int×Unit×(List UInt8)) :=
 chk (c1.length+a0.length≤4294967296) <|
 some ((a0.length:Int),(),(c1++a0))
def fA (F:Nat) (a0:List UInt8):Nat→(List UInt8)→Int→Option ((List UInt8))
 | 0,_,_=>none
 | n+1,v1,v2 =>
  bif (decide (v2 < (a0.length:Int))) then
   call (chk (0≤v2∧v2 < a0.length) <|
    bif (((a0.getD v2.toNat 0).toNat:Int) == (10:Int)) then
     call (cO F ([92,110]:List UInt8) v1) fun y1 =>
     some y1.2.2
    else
     bif (((a0.getD v2.toNat 0).toNat:Int) == (9:Int)) then
      call (cO F ([92,116]:List UInt8) v1) fun y2 =>
      some y2.2.2
     else
      dH ((bif (((a0.getD v2.toNat 0).toNat:Int) == (40:Int)) then true else (((a0.getD v2.toNat 0).toNat:Int) == (41:Int)))) fun z1 =>
      bif (bif z1 then true else (((a0.getD v2.toNat 0).toNat:Int) == (92:Int))) then
       call (aN F (92:Int) v1) fun y3 =>
       call (aN F ((a0.getD v2.toNat 0).toNat:Int) y3.2) fun y4 =>
       some y4.2
      else
       dH ((bif (decide (((a0.getD v2.toNat 0).toNat:Int) < (32:Int))) then true else (decide (((a0.getD v2.toNat 0).toNat:Int) > (125:Int))))) fun z2 =>
       bif z2 then
        call (cO F ([92,120]:List UInt8) v1) fun y5 =>
        chk (0≤(((a0.getD v2.toNat 0).toNat:Int).fdiv (2 ^ (min (4:Int).toNat IntKind.u8.bits)))∧(((a0.getD v2.toNat 0).toNat:Int).fdiv (2 ^ (min (4:Int).toNat IntKind.u8.bits))) < ([48,49,50,51,52,53,54,55,56,57,97,98,99,100,101,102]:List UInt8).length) <|
        dH (((([48,49,50,51,52,53,54,55,56,57,97,98,99,100,101,102]:List UInt8).getD (((a0.getD v2.toNat 0).toNat:Int).fdiv (2 ^ (min (4:Int).toNat IntKind.u8.bits))).toNat 0).toNat:Int)) fun z3 =>
        call (aN F z3 y5.2.2) fun y6 =>
        dH (IntKind.u8.wrap ((BitVec.ofInt IntKind.u8.bits ((a0.getD v2.toNat 0).toNat:Int) &&& BitVec.ofInt IntKind.u8.bits (15:Int)).toNat:Int)) fun z4 =>
        chk (0≤z4∧z4 < ([48,49,50,51,52,53,54,55,56,57,97,98,99,100,101,102]:List UInt8).length) <|
        dH (((([48,49,50,51,52,53,54,55,56,57,97,98,99,100,101,102]:List UInt8).getD z4.toNat 0).toNat:Int)) fun z5 =>
        call (aN F z5 y6.2) fun y7 =>
        some y7.2
       else
        call (aN F ((a0.getD v2.toNat 0).toNat:Int) v1) fun y8 =>
        some y8.2)
    fun v3 =>
   fA F a0 n v3 (IntKind.i64.wrap (v2+(1:Int)))
  else
   some v1
/-- printworks/token.printedText -/
def mF (F:Nat) (a0:List UInt8):Option ((List UInt8)) :=
 call (aN F (40:Int) []) fun y9 =>
 call (fA F a0 F y9.2 (0:Int))
  fun v4 =>
 call (aN F (41:Int) v4) fun y10 =>
 chk (y10.2.length≤9223372036854775807) <|
 some y10.2
/-- printworks/token.Print -/
def bD (F:Nat) (a0:aD):Option ((List UInt8)×Int) :=
 call (bQ F a0) fun y1 =>
 bif (y1 != (0:Int)) then
  some ([],y1)
 else
  bif (a0.f0 == (1:Int)) then
   chk (-9223372036854775808≤a0.f1∧a0.f1≤9223372036854775807) <|
   some ((Lib.itoa a0.f1),(0:Int))
  else
   bif (a0.f0 == (2:Int)) then
    call (mC F a0.f2) fun y2 =>
    chk (([47]:List UInt8).length+y2.length≤9223372036854775807) <|
    some ((([47]:List UInt8)++y2),(0:Int))
   else
    bif (a0.f0 == (3:Int)) then
     call (mF F a0.f2) fun y3 =>
     some (y3,(0:Int))
    else
     bif (a0.f0 == (4:Int)) then
      chk (-9223372036854775808≤a0.f1∧a0.f1≤9223372036854775807) <|
      chk (([64]:List UInt8).length+(Lib.itoa a0.f1).length≤9223372036854775807) <|
      some ((([64]:List UInt8)++(Lib.itoa a0.f1)),(0:Int))
     else
      bif (a0.f0 == (5:Int)) then
       some (a0.f2,(0:Int))
      else
       chk (0≤(IntKind.i64.wrap (a0.f0 - (6:Int)))∧(IntKind.i64.wrap (a0.f0 - (6:Int))) < ([([91]:List UInt8),([93]:List UInt8),([60,60]:List UInt8),([62,62]:List UInt8)]).length) <|
       dH ((([([91]:List UInt8),([93]:List UInt8),([60,60]:List UInt8),([62,62]:List UInt8)]).getD (IntKind.i64.wrap (a0.f0 - (6:Int))).toNat [])) fun z1 =>
       some (z1,(0:Int))
def iY (F:Nat) (a0:aG):Nat→Int→Option (Out Unit Int)
 | 0,_=>none
 | n+1,v1 =>
  bif (decide (v1 < (a0.f3.length:Int))) then
   chk (0≤v1∧v1 < a0.f3.length) <|
   call (bD F (aD.mk (2:Int) 0 (a0.f3.getD v1.toNat []) 0 0)) fun y1 =>
   bif (y1.2 != (0:Int)) then
    some (.esc y1.2)
   else
    chk ((((decide (v1 > (0:Int))) == true) && true)=true→0≤(IntKind.i64.wrap (v1 - (1:Int)))∧(IntKind.i64.wrap (v1 - (1:Int))) < a0.f3.length) <|
    dH ((!(Op.bytesLess (a0.f3.getD (IntKind.i64.wrap (v1 - (1:Int))).toNat []) (a0.f3.getD v1.toNat [])))) fun z1 =>
    bif (bif (decide (v1 > (0:Int))) then z1 else false) then
     some (.esc (4:Int))
    else
     iY F a0 n (IntKind.i64.wrap (v1+(1:Int)))
  else
   some (.go ())
/-- printworks/object.node -/
def rG (F:Nat) (a0:aG) (a1:Int):Option Int :=
 dH ((bif (bif (a0.f0 == (1:Int)) then true else (a0.f0 == (2:Int))) then true else (a0.f0 == (5:Int)))) fun z2 =>
 bif (bif (decide (a0.f0 < (0:Int))) then true else (decide (a0.f0 > (7:Int)))) then
  some (14:Int)
 else
  bif (decide (a1 > (12:Int))) then
   some (15:Int)
  else
   call (bif (bif (a0.f1 != (0:Int)) then (!z2) else false) then
     some (bif (a0.f1 != (0:Int)) then (!z2) else false)
    else
     dH ((bif (!(a0.f2 == [])) then (!(bif (a0.f0 == (3:Int)) then true else (a0.f0 == (4:Int)))) else false)) fun z3 =>
     bif z3 then
      some z3
     else
      dH ((bif (decide ((a0.f4.length:Int) > (0:Int))) then (!(bif (a0.f0 == (6:Int)) then true else (a0.f0 == (7:Int)))) else false)) fun z4 =>
      some z4)
    fun v2 =>
   bif v2 then
    some (4:Int)
   else
    call (bif (bif (a0.f0 == (7:Int)) then ((a0.f3.length:Int) != (a0.f4.length:Int)) else false) then
      some (bif (a0.f0 == (7:Int)) then ((a0.f3.length:Int) != (a0.f4.length:Int)) else false)
     else
      some (bif (a0.f0 != (7:Int)) then (decide ((a0.f3.length:Int) > (0:Int))) else false))
     fun v3 =>
    bif v3 then
     some (4:Int)
    else
     dH ((bif (bif (a0.f0 == (1:Int)) then (a0.f1 != (0:Int)) else false) then (a0.f1 != (1:Int)) else false)) fun z5 =>
     bif z5 then
      some (3:Int)
     else
      bif (decide ((a0.f4.length:Int) > (256:Int))) then
       some (2:Int)
      else
       dA (iY F a0 F (0:Int))
        (fun e=>some e) fun _ =>
       some (0:Int)
/-- internal/strconv.FormatBool -/
def internal_strconv_FormatBool (F:Nat) (a0:Bool):Option ((List UInt8)) :=
 bif a0 then
  some ([116,114,117,101]:List UInt8)
 else
  some ([102,97,108,115,101]:List UInt8)
/-- strconv.FormatBool -/
def strconv_FormatBool (F:Nat) (a0:Bool):Option ((List UInt8)) :=
 call (internal_strconv_FormatBool F a0) fun y1 =>
 some y1
def bT (F:Nat) (a0:aG) (a1:Int) (rec_object_printer_add:aG→Int→(List aD)→Int→Option (Int×(List aD)×Int)):Nat→Int→(List aD)→Int→Option (Out ((List aD)×Int) (Int×(List aD)×Int))
 | 0,_,_,_=>none
 | n+1,v1,v2,v3 =>
  bif (decide (v1 < (a0.f4.length:Int))) then
   chk (0≤v1∧v1 < a0.f4.length) <|
   call (bif (a0.f0 == (7:Int)) then
     chk (0≤v1∧v1 < a0.f3.length) <|
     chk (v2.length+([(aD.mk (2:Int) 0 (a0.f3.getD v1.toNat []) 0 0)]).length≤4294967296) <|
     some (v2++([(aD.mk (2:Int) 0 (a0.f3.getD v1.toNat []) 0 0)]))
    else
     some v2)
    fun v4 =>
   call (rec_object_printer_add (a0.f4.getD v1.toNat (aG.mk 0 0 [] [] [])) (IntKind.i64.wrap (a1+(1:Int))) v4 v3) fun y1 =>
   bif (y1.1 != (0:Int)) then
    some (.esc (y1.1,y1.2.1,y1.2.2))
   else
    bT F a0 a1 rec_object_printer_add n (IntKind.i64.wrap (v1+(1:Int))) y1.2.1 y1.2.2
  else
   some (.go (v2,v3))
/-- (*printworks/object.printer).nested -/
def fI (F:Nat) (rec_object_printer_add:aG→Int→(List aD)→Int→Option (Int×(List aD)×Int)) (a0:aG) (a1:Int) (c2:List aD) (c3:Int):Option (Int×(List aD)×Int) :=
 call (bif (a0.f0 == (7:Int)) then
   some ((8:Int),(9:Int))
  else
   some ((6:Int),(7:Int)))
  fun (v5,v6) =>
 chk (c2.length+([(aD.mk v5 0 [] 0 0)]).length≤4294967296) <|
 dA (bT F a0 a1 rec_object_printer_add F (0:Int) (c2++([(aD.mk v5 0 [] 0 0)])) c3)
  (fun e=>some e) fun (v7,v8) =>
 chk (v7.length+([(aD.mk v6 0 [] 0 0)]).length≤4294967296) <|
 some ((0:Int),(v7++([(aD.mk v6 0 [] 0 0)])),v8)
/-- (*printworks/object.printer).add -/
def eV (F:Nat) (rec_object_printer_add:aG→Int→(List aD)→Int→Option (Int×(List aD)×Int)) (a0:aG) (a1:Int) (c2:List aD) (c3:Int):Option (Int×(List aD)×Int) :=
 bif (decide ((IntKind.i64.wrap (c3+(1:Int))) > (4096:Int))) then
  some ((2:Int),c2,IntKind.i64.wrap (c3+(1:Int)))
 else
  call (rG F a0 a1) fun y1 =>
  bif (y1 != (0:Int)) then
   some (y1,c2,IntKind.i64.wrap (c3+(1:Int)))
  else
   dA (bif (a0.f0 == (0:Int)) then
     some (.go (([110,117,108,108]:List UInt8),(5:Int),0))
    else
     bif (a0.f0 == (1:Int)) then
      call (strconv_FormatBool F (a0.f1 == (1:Int))) fun y2 =>
      some (.go (y2,(5:Int),0))
     else
      bif (a0.f0 == (2:Int)) then
       some (.go ([],(1:Int),a0.f1))
      else
       bif (a0.f0 == (3:Int)) then
        some (.go (a0.f2,(2:Int),0))
       else
        bif (a0.f0 == (4:Int)) then
         some (.go (a0.f2,(3:Int),0))
        else
         bif (a0.f0 == (5:Int)) then
          some (.go ([],(4:Int),a0.f1))
         else
          call (fI F rec_object_printer_add a0 a1 c2 (IntKind.i64.wrap (c3+(1:Int)))) fun y3 =>
          some (.esc (y3.1,y3.2.1,y3.2.2)))
    (fun e=>some e) fun (v1,v2,v3) =>
   chk (c2.length+([(aD.mk v2 v3 v1 0 0)]).length≤4294967296) <|
   call (bD F (aD.mk v2 v3 v1 0 0)) fun y4 =>
   some (y4.2,(c2++([(aD.mk v2 v3 v1 0 0)])),IntKind.i64.wrap (c3+(1:Int)))
def dW (F:Nat):Nat→aG→Int→(List aD)→Int→Option (Int×(List aD)×Int)
 | 0=>fun _ _ _ _=>none
 | n+1=>eV F (dW F n)
def oO (F:Nat) (a0:aG) (a1:Int) (c2:List aD) (c3:Int):Option (Int×(List aD)×Int):=dW F F a0 a1 c2 c3
def jO (F:Nat) (a0:List aD):Nat→(List UInt8)→Bool→Int→Option (Out ((List UInt8)) ((List UInt8)×Int))
 | 0,_,_,_=>none
 | n+1,v1,v2,v3 =>
  bif (decide (v3 < (a0.length:Int))) then
   chk (0≤v3∧v3 < a0.length) <|
   call (bD F (a0.getD v3.toNat (aD.mk 0 0 [] 0 0))) fun y1 =>
   bif (y1.2 != (0:Int)) then
    some (.esc ([],y1.2))
   else
    call (chk (((v2 == true) && true)=true→0≤(0:Int)∧(0:Int) < y1.1.length) <|
     call ((bif ((v2 == true) && true) then fV F ((y1.1.getD (0:Int).toNat 0).toNat:Int) else some false)) fun y2 =>
     bif (bif v2 then y2 else false) then
      call (aN F (32:Int) v1) fun y3 =>
      some y3.2
     else
      some v1)
     fun v4 =>
    call (cO F y1.1 v4) fun y4 =>
    call (iG F y4.2.2) fun y5 =>
    bif (decide (y5.1 > (8192:Int))) then
     some (.esc ([],(2:Int)))
    else
     chk (0≤(IntKind.i64.wrap ((y1.1.length:Int) - (1:Int)))∧(IntKind.i64.wrap ((y1.1.length:Int) - (1:Int))) < y1.1.length) <|
     call (fV F ((y1.1.getD (IntKind.i64.wrap ((y1.1.length:Int) - (1:Int))).toNat 0).toNat:Int)) fun y6 =>
     jO F a0 n y5.2 y6 (IntKind.i64.wrap (v3+(1:Int)))
  else
   some (.go v1)
/-- printworks/token.Join -/
def wJ (F:Nat) (a0:List aD):Option ((List UInt8)×Int) :=
 dA (jO F a0 F [] false (0:Int))
  (fun e=>some e) fun v5 =>
 chk (v5.length≤9223372036854775807) <|
 some (v5,(0:Int))
/-- printworks/object.Print -/
def nK (F:Nat) (a0:aG):Option ((List UInt8)×Int) :=
 call (oO F a0 (1:Int) [] 0) fun y1 =>
 bif (y1.1 != (0:Int)) then
  some ([],y1.1)
 else
  call (wJ F y1.2.1) fun y2 =>
  some (y2.1,y2.2)
/-- printworks/object.Parse -/
def pV (F:Nat) (a0:List UInt8):Option (Sum Value (aG×Int×Int)) :=
 gF (dG F a0 0 0 [] 0 0) (fun pv=>some (.inl pv)) fun y1 =>
 gF (mY F (1:Int) y1.1 y1.2.1 y1.2.2.1 y1.2.2.2.1 y1.2.2.2.2.1 y1.2.2.2.2.2) (fun pv=>some (.inl pv)) fun y2 =>
 gF (dG F y2.2.1 y2.2.2.1 y2.2.2.2.1 y2.2.2.2.2.1 y2.2.2.2.2.2.1 y2.2.2.2.2.2.2) (fun pv=>some (.inl pv)) fun y3 =>
 dA (bif (y3.2.1 != (0:Int)) then
   gF (gK F y3.2.2.2.2.1 (5:Int)) (fun pv=>some (.esc (.inl pv))) fun y4 =>
   some (.go ())
  else
   some (.go ()))
  (fun e=>some e) fun _ =>
 dA (call (nK F y2.1) fun y5 =>
  bif (y5.2 != (0:Int)) then
   gF (gK F (0:Int) y5.2) (fun pv=>some (.esc (.inl pv))) fun y6 =>
   some (.go ())
  else
   some (.go ()))
  (fun e=>some e) fun _ =>
 some (.inr (y2.1,(0:Int),(0:Int)))
/-- printworks/object.Parse$1 -/
def tX (F:Nat) (a0:Int) (a1:Int):Option (Int×Int×(List UInt8)×(List (List UInt8))×(List aG)×Int×Int) :=
 some (0,0,[],[],[],a0,a1)
def oN (F:Nat):Sum Value (aG×Int×Int)→Option (aG×Int×Int)
 | .inr x=>some x
 | .inl (.iface 44 (.agg ⟨[.int .i64 a0,.int .i64 a1]⟩))=>call (tX F a0 a1) fun y=>some ((aG.mk y.1 y.2.1 y.2.2.1 y.2.2.2.1 y.2.2.2.2.1),y.2.2.2.2.2.1,y.2.2.2.2.2.2)
 | .inl _=>none
def pG (F:Nat) (a0:List UInt8):Option (aG×Int×Int):=call (pV F a0) (oN F)
/-- printworks/printworkslaw3.objectFact -/
def lU (F:Nat)  : Option Bool :=
 call (pG F ([60,60,47,66,32,50,32,47,65,32,91,116,114,117,101,93,62,62]:List UInt8)) fun y1 =>
 call (nK F y1.1) fun y2 =>
 dH ((bif (bif (y1.2.2 == (0:Int)) then (y1.2.1 == (0:Int)) else false) then (y2.2 == (0:Int)) else false)) fun z1 =>
 dH ((bif z1 then (y2.1 == ([60,60,47,65,91,116,114,117,101,93,47,66,32,50,62,62]:List UInt8)) else false)) fun z2 =>
 some z2
/-- Where a key goes. -/
def dQ:List (List UInt8)→List UInt8→Nat
 | [],_=>0
 | x :: r,key=>bif Op.bytesLess x key then dQ r key+1 else 0
def sD:aG:=⟨0,0,[],[],[]⟩
/-- An object is put into the innermost one that is open. -/
def uQ (f:bE) (o:aG):Option bE :=
 bif decide (1000≤f.f0.f4.length) then none else
 bif f.f0.f0 == 6 then some { f with f0:={ f.f0 with f4:=f.f0.f4++[o] } } else
 bif f.f0.f0 == 7 && f.f0.f3.length == f.f0.f4.length then some { f with f0:={ f.f0 with f3:=f.f0.f3.take (dQ f.f0.f3 f.f1)++f.f1 :: f.f0.f3.drop (dQ f.f0.f3 f.f1),f4:=f.f0.f4.take (dQ f.f0.f3 f.f1)++o :: f.f0.f4.drop (dQ f.f0.f3 f.f1) },f2:=false } else none
/-- An object is at its end. -/
def kM (F:Nat) (s:List UInt8) (k:List bE→Int→Option (aG×Int×Int)) (l:List bE) (o:aG) (at_:Int):Option (aG×Int×Int) :=
 match l with
 | f :: r=>match uQ f o with
  | none=>none
  | some f'=>k (f' :: r) at_
 | []=>match lC F s at_ with
  | none=>none
  | some (t,from_,e)=>bif e != 0 then some (sD,from_,e) else
   bif t.f0 != 0 then some (sD,from_,5) else
   match nA F o with
   | none=>none
   | some (_,e)=>bif e != 0 then some (sD,0,e) else some (o,0,0)
/-- One token; the innermost one that is open stands first. -/
def aK2 (F:Nat) (s:List UInt8) (k:List bE→Int→Option (aG×Int×Int)) (l:List bE) (at_:Int):Option (aG×Int×Int) :=
 match lC F s at_ with
 | none=>none
 | some (t,from_,e)=>bif e != 0 then some (sD,from_,e) else
  match dK F l.reverse t with
  | none=>none
  | some (end_,e)=>bif e != 0 then some (sD,from_,e) else
   bif end_ then (match l with
    | []=>none
    | f :: r=>bif f.f0.f1 == 0 && f.f0.f2.isEmpty then kM F s k r f.f0 t.f4 else none)
   else bif (match l with | f :: _=>f.f0.f0 == 7 && !f.f2 | []=>false) then (match l with
    | []=>none
    | f :: r=>k ({ f with f1:=t.f2,f2:=true } :: r) t.f4)
   else bif t.f0 == 6 then (bif decide (1000≤l.length) then none else k (⟨⟨6,0,[],[],[]⟩,[],false⟩ :: l) t.f4)
   else bif t.f0 == 8 then (bif decide (1000≤l.length) then none else k (⟨⟨7,0,[],[],[]⟩,[],false⟩ :: l) t.f4)
   else match jM F t with
    | none=>none
    | some (o,e)=>bif e != 0 then some (sD,from_,e) else kM F s k l o t.f4
def jY (F:Nat) (s:List UInt8):Nat→List bE→Int→Option (aG×Int×Int)
 | 0,_,_=>none
 | n+1,l,at_=>aK2 F s (jY F s n) l at_
def cM8 (F:Nat) (s:List UInt8):Option (aG×Int×Int) :=
 bif decide (8192 < s.length) then some (sD,0,2) else jY F s F [] 0
/-- printworks/printworksref3.Object -/
def xN (F:Nat) (a0:List UInt8):Option (aG×Int×Int) :=
 cM8 F a0
def kW (F:Nat) (a0:aG) (a1:aG):Nat→Int→Option (Out Unit Bool)
 | 0,_=>none
 | n+1,v1 =>
  bif (decide (v1 < (a0.f3.length:Int))) then
   chk (0≤v1∧v1 < a0.f3.length) <|
   chk (0≤v1∧v1 < a1.f3.length) <|
   bif (!((a0.f3.getD v1.toNat []) == (a1.f3.getD v1.toNat []))) then
    some (.esc false)
   else
    kW F a0 a1 n (IntKind.i64.wrap (v1+(1:Int)))
  else
   some (.go ())
def kV (F:Nat) (a0:aG) (a1:aG) (rec_ref3_Alike:aG→aG→Option Bool):Nat→Int→Option (Out Unit Bool)
 | 0,_=>none
 | n+1,v2 =>
  bif (decide (v2 < (a0.f4.length:Int))) then
   chk (0≤v2∧v2 < a0.f4.length) <|
   chk (0≤v2∧v2 < a1.f4.length) <|
   call (rec_ref3_Alike (a0.f4.getD v2.toNat (aG.mk 0 0 [] [] [])) (a1.f4.getD v2.toNat (aG.mk 0 0 [] [] []))) fun y1 =>
   bif (!y1) then
    some (.esc false)
   else
    kV F a0 a1 rec_ref3_Alike n (IntKind.i64.wrap (v2+(1:Int)))
  else
   some (.go ())
/-- printworks/printworksref3.Alike -/
def oI (F:Nat) (rec_ref3_Alike:aG→aG→Option Bool) (a0:aG) (a1:aG):Option Bool :=
 dH ((bif (bif (bif (a0.f0 != a1.f0) then true else (a0.f1 != a1.f1)) then true else (!(a0.f2 == a1.f2))) then true else ((a0.f3.length:Int) != (a1.f3.length:Int)))) fun z1 =>
 bif (bif z1 then true else ((a0.f4.length:Int) != (a1.f4.length:Int))) then
  some false
 else
  dA (kW F a0 a1 F (0:Int))
   (fun e=>some e) fun _ =>
  dA (kV F a0 a1 rec_ref3_Alike F (0:Int))
   (fun e=>some e) fun _ =>
  some true
def kH (F:Nat):Nat→aG→aG→Option Bool
 | 0=>fun _ _=>none
 | n+1=>oI F (kH F n)
def tY (F:Nat) (a0:aG) (a1:aG):Option Bool:=kH F F a0 a1
/-- printworks/printworkslaw3.ObjectParseMatchesReference -/
def dZ (F:Nat) (a0:List UInt8):Option Bool :=
 call (lU F) fun y1 =>
 bif (!y1) then
  some false
 else
  call (pG F a0) fun y2 =>
  call (xN F a0) fun y3 =>
  call ((bif (((bif (y2.2.2 == y3.2.2) then (y2.2.1 == y3.2.1) else false) == true) && true) then tY F y2.1 y3.1 else some false)) fun y4 =>
  some (bif (bif (y2.2.2 == y3.2.2) then (y2.2.1 == y3.2.1) else false) then y4 else false)
end Go.Vm.ObjM
