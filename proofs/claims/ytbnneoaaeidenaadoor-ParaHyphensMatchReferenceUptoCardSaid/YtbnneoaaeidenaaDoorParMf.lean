import Derived.Test.YtbnneoaaeidenaaDoorVmC
import Derived.Test.YtbnneoaaeidenaaDoorVmD
import Derived.Test.YtbnneoaaeidenaaDoorParHe
namespace Go.Vm.ParM
structure S_ParaShape where
  f0:Int
  f1:Int
  f2:Int
  f3:Int
  f4:Int
  f5:Int
deriving DecidableEq
def cS_ParaShape (x:S_ParaShape):List Dat:=(cI .i64) x.f0++(cI .i64) x.f1++(cI .i64) x.f2++(cI .i64) x.f3++(cI .i64) x.f4++(cI .i64) x.f5
structure S_ParaLine where
  f0:Int
  f1:Int
  f2:Bool
  f3:List Int
deriving DecidableEq
def cS_ParaLine (x:S_ParaLine):List Dat:=(cI .i64) x.f0++(cI .i64) x.f1++cB x.f2++(cL 1 (cI .i64)) x.f3
structure S_ParaWord where
  f0:List Int
  f1:List Int
deriving DecidableEq
def cS_ParaWord (x:S_ParaWord):List Dat:=(cL 1 (cI .i64)) x.f0++(cL 1 (cI .i64)) x.f1
structure S_ref3_Piece where
  f0:Int
  f1:Int
  f2:Int
  f3:Bool
deriving DecidableEq
structure S_para_part where
  f0:Int
  f1:Int
  f2:Bool
  f3:Bool
deriving DecidableEq
def cS_para_part (x:S_para_part):List Dat:=(cI .i64) x.f0++(cI .i64) x.f1++cB x.f2++cB x.f3
/-- printworks/para.Hyphens -/
def para_Hyphens (F:Nat) (a0:List UInt8) (a1:List (List UInt8)):Option ((List Int)×Int) :=
  ParG.hyph F a0 a1
def para_Check_L2 (F:Nat) (a0:List S_ParaWord) (v1:Int):Nat→Int→Option (Out Unit Int)
  | 0,_=>none
  | n+1,v2 =>
    bif (decide (v2 < (((a0.getD v1.toNat (S_ParaWord.mk [] [])).f0).length:Int))) then
      chk (0≤v2∧v2 < ((a0.getD v1.toNat (S_ParaWord.mk [] [])).f0).length) <|
      lett ((bif (decide ((((a0.getD v1.toNat (S_ParaWord.mk [] [])).f0).getD v2.toNat 0) < (0:Int))) then true else (decide ((((a0.getD v1.toNat (S_ParaWord.mk [] [])).f0).getD v2.toNat 0) > (65535:Int))))) fun z1 =>
      bif z1 then
        some (.esc (3:Int))
      else
        para_Check_L2 F a0 v1 n (IntKind.i64.wrap (v2+(1:Int)))
    else
      some (.go ())
def para_Check_L4 (F:Nat) (a0:List S_ParaWord) (v1:Int):Nat→Int→Option (Out Unit Int)
  | 0,_=>none
  | n+1,v3 =>
    bif (decide (v3 < (((a0.getD v1.toNat (S_ParaWord.mk [] [])).f1).length:Int))) then
      chk (0≤v3∧v3 < ((a0.getD v1.toNat (S_ParaWord.mk [] [])).f1).length) <|
      lett ((bif (decide ((((a0.getD v1.toNat (S_ParaWord.mk [] [])).f1).getD v3.toNat 0) < (-2047:Int))) then true else (decide ((((a0.getD v1.toNat (S_ParaWord.mk [] [])).f1).getD v3.toNat 0) > (2047:Int))))) fun z2 =>
      bif z2 then
        some (.esc (3:Int))
      else
        para_Check_L4 F a0 v1 n (IntKind.i64.wrap (v3+(1:Int)))
    else
      some (.go ())
def para_Check_L0 (F:Nat) (a0:List S_ParaWord):Nat→Int→Int→Option (Out Unit Int)
  | 0,_,_=>none
  | n+1,v4,v1 =>
    bif (decide (v1 < (a0.length:Int))) then
      chk (0≤v1∧v1 < a0.length) <|
      lett (((((a0.getD v1.toNat (S_ParaWord.mk [] [])).f1).length:Int) != (IntKind.i64.wrap ((((a0.getD v1.toNat (S_ParaWord.mk [] [])).f0).length:Int) - (1:Int))))) fun z3 =>
      lett ((bif ((((a0.getD v1.toNat (S_ParaWord.mk [] [])).f0).length:Int) == (0:Int)) then true else z3)) fun z4 =>
      bif z4 then
        some (.esc (4:Int))
      else
        lett ((decide ((IntKind.i64.wrap (v4+(((a0.getD v1.toNat (S_ParaWord.mk [] [])).f0).length:Int))) > (256:Int)))) fun z5 =>
        bif z5 then
          some (.esc (2:Int))
        else
          callE (para_Check_L2 F a0 v1 F (0:Int))
            (fun e=>some (.esc e)) fun _ =>
          callE (para_Check_L4 F a0 v1 F (0:Int))
            (fun e=>some (.esc e)) fun _ =>
          para_Check_L0 F a0 n (IntKind.i64.wrap (v4+(((a0.getD v1.toNat (S_ParaWord.mk [] [])).f0).length:Int))) (IntKind.i64.wrap (v1+(1:Int)))
    else
      some (.go ())
/-- printworks/para.Check -/
def para_Check (F:Nat) (a0:List S_ParaWord) (a1:S_ParaShape):Option Int :=
  bif (decide ((a0.length:Int) > (128:Int))) then
    some (2:Int)
  else
    callE (para_Check_L0 F a0 F (0:Int) (0:Int))
      (fun e=>some e) fun _ =>
    lett ((bif (bif (decide (a1.f0 < (1:Int))) then true else (decide (a1.f0 > (65535:Int)))) then true else (decide (a1.f2 < (0:Int))))) fun z6 =>
    lett ((bif (bif z6 then true else (decide (a1.f3 > (65535:Int)))) then true else (decide (a1.f4 < (0:Int))))) fun z7 =>
    lett ((bif (bif z7 then true else (decide (a1.f4 > (65535:Int)))) then true else (decide (a1.f5 < (0:Int))))) fun z8 =>
    bif (bif z8 then true else (decide (a1.f5 > (1048576:Int)))) then
      some (3:Int)
    else
      bif (bif (decide (a1.f2 > a1.f1)) then true else (decide (a1.f1 > a1.f3))) then
        some (18:Int)
      else
        some (0:Int)
def para_flat_L2 (F:Nat) (a0:List S_ParaWord) (v1:Int):Nat→(List S_para_part)→Int→Option ((List S_para_part))
  | 0,_,_=>none
  | n+1,v2,v3 =>
    bif (decide (v3 < (((a0.getD v1.toNat (S_ParaWord.mk [] [])).f0).length:Int))) then
      chk (0≤v3∧v3 < ((a0.getD v1.toNat (S_ParaWord.mk [] [])).f0).length) <|
      lett ((v3 == (IntKind.i64.wrap ((((a0.getD v1.toNat (S_ParaWord.mk [] [])).f0).length:Int) - (1:Int))))) fun z1 =>
      call (bif (decide (v3 > (0:Int))) then
          chk (0≤(IntKind.i64.wrap (v3 - (1:Int)))∧(IntKind.i64.wrap (v3 - (1:Int))) < ((a0.getD v1.toNat (S_ParaWord.mk [] [])).f1).length) <|
          some (((a0.getD v1.toNat (S_ParaWord.mk [] [])).f1).getD (IntKind.i64.wrap (v3 - (1:Int))).toNat 0)
        else
          some 0)
        fun v4 =>
      chk (v2.length+([(S_para_part.mk (((a0.getD v1.toNat (S_ParaWord.mk [] [])).f0).getD v3.toNat 0) v4 (v3 == (0:Int)) z1)]).length≤4294967296) <|
      lett ((v2++([(S_para_part.mk (((a0.getD v1.toNat (S_ParaWord.mk [] [])).f0).getD v3.toNat 0) v4 (v3 == (0:Int)) z1)]))) fun l1 =>
      para_flat_L2 F a0 v1 n l1 (IntKind.i64.wrap (v3+(1:Int)))
    else
      some v2
def para_flat_L0 (F:Nat) (a0:List S_ParaWord):Nat→(List S_para_part)→Int→Option ((List S_para_part))
  | 0,_,_=>none
  | n+1,v5,v1 =>
    bif (decide (v1 < (a0.length:Int))) then
      chk (0≤v1∧v1 < a0.length) <|
      call (para_flat_L2 F a0 v1 F v5 (0:Int))
        fun v6 =>
      para_flat_L0 F a0 n v6 (IntKind.i64.wrap (v1+(1:Int)))
    else
      some v5
/-- printworks/para.flat -/
def para_flat (F:Nat) (a0:List S_ParaWord):Option ((List S_para_part)) :=
  call (para_flat_L0 F a0 F [] (0:Int))
    fun v7 =>
  some v7
def para_fixed_L0 (F:Nat) (a0:List S_para_part) (a1:Int) (a2:Int):Nat→Int→Int→Int→Option (Int×Int)
  | 0,_,_,_=>none
  | n+1,v1,v2,v3 =>
    bif (decide (v3 < a2)) then
      call (chk (0≤v3∧v3 < a0.length) <|
        chk ((((decide (v3 > a1)) == true) && true)=true→0≤v3∧v3 < a0.length) <|
        bif (bif (decide (v3 > a1)) then ((a0.getD v3.toNat (S_para_part.mk 0 0 false false)).f2) else false) then
          some (IntKind.i64.wrap (v1+((a0.getD v3.toNat (S_para_part.mk 0 0 false false)).f0)),IntKind.i64.wrap (v2+(1:Int)))
        else
          bif (decide (v3 > a1)) then
            chk (0≤v3∧v3 < a0.length) <|
            lett (IntKind.i64.wrap ((IntKind.i64.wrap (v1+((a0.getD v3.toNat (S_para_part.mk 0 0 false false)).f0)))+((a0.getD v3.toNat (S_para_part.mk 0 0 false false)).f1))) fun z1 =>
            some (z1,v2)
          else
            some (IntKind.i64.wrap (v1+((a0.getD v3.toNat (S_para_part.mk 0 0 false false)).f0)),v2))
        fun (v4,v5) =>
      para_fixed_L0 F a0 a1 a2 n v4 v5 (IntKind.i64.wrap (v3+(1:Int)))
    else
      some (v1,v2)
/-- printworks/para.fixed -/
def para_fixed (F:Nat) (a0:List S_para_part) (a1:Int) (a2:Int) (a3:S_ParaShape):Option (Int×Int) :=
  call (para_fixed_L0 F a0 a1 a2 F (0:Int) (0:Int) a1)
    fun (v6,v7) =>
  call (chk (0≤(IntKind.i64.wrap (a2 - (1:Int)))∧(IntKind.i64.wrap (a2 - (1:Int))) < a0.length) <|
    bif (!((a0.getD (IntKind.i64.wrap (a2 - (1:Int))).toNat (S_para_part.mk 0 0 false false)).f3)) then
      some (IntKind.i64.wrap (v6+a3.f4))
    else
      some v6)
    fun v8 =>
  some (v8,v7)
/-- printworks/para.cost -/
def para_cost (F:Nat) (a0:List S_para_part) (a1:Int) (a2:Int) (a3:S_ParaShape):Option (Int×Bool) :=
  call (para_fixed F a0 a1 a2 a3) fun y1 =>
  lett ((bif (bif (!(a2 == (a0.length:Int))) then (decide (y1.2 > (0:Int))) else false) then (decide ((IntKind.i64.wrap (y1.1+(IntKind.i64.wrap (y1.2 * a3.f3)))) < a3.f0)) else false)) fun z1 =>
  lett ((bif (decide ((IntKind.i64.wrap (y1.1+(IntKind.i64.wrap (y1.2 * a3.f2)))) > a3.f0)) then true else z1)) fun z2 =>
  bif z2 then
    some ((0:Int),false)
  else
    lett (IntKind.i64.wrap ((IntKind.i64.wrap ((IntKind.i64.wrap (a3.f0 - y1.1)) - (IntKind.i64.wrap (y1.2 * a3.f1)))) * (IntKind.i64.wrap ((IntKind.i64.wrap (a3.f0 - y1.1)) - (IntKind.i64.wrap (y1.2 * a3.f1)))))) fun z3 =>
    call (lett ((decide ((IntKind.i64.wrap ((IntKind.i64.wrap (a3.f0 - y1.1)) - (IntKind.i64.wrap (y1.2 * a3.f1)))) > (0:Int)))) fun z4 =>
      bif (bif (a2 == (a0.length:Int)) then z4 else false) then
        some (0:Int)
      else
        some z3)
      fun v1 =>
    call (chk (0≤(IntKind.i64.wrap (a2 - (1:Int)))∧(IntKind.i64.wrap (a2 - (1:Int))) < a0.length) <|
      bif (!((a0.getD (IntKind.i64.wrap (a2 - (1:Int))).toNat (S_para_part.mk 0 0 false false)).f3)) then
        some (IntKind.i64.wrap (v1+a3.f5))
      else
        some v1)
      fun v2 =>
    some (v2,true)
def para_line_L0 (F:Nat) (y1:Int×Int) (v1:Int):Nat→(List Int)→Int→Option ((List Int))
  | 0,_,_=>none
  | n+1,v2,v3 =>
    bif (decide (v3 < y1.2)) then
      chk (y1.2≠0) <|
      chk (y1.2≠0) <|
      lett (IntKind.i64.wrap ((IntKind.i64.wrap ((IntKind.i64.wrap ((IntKind.i64.wrap (v3+(1:Int))) * v1)).tdiv y1.2)) - (IntKind.i64.wrap ((IntKind.i64.wrap (v3 * v1)).tdiv y1.2)))) fun z1 =>
      chk (v2.length+([z1]).length≤4294967296) <|
      para_line_L0 F y1 v1 n (v2++([z1])) (IntKind.i64.wrap (v3+(1:Int)))
    else
      some v2
/-- printworks/para.line -/
def para_line (F:Nat) (a0:List S_para_part) (a1:Int) (a2:Int) (a3:S_ParaShape):Option S_ParaLine :=
  call (para_fixed F a0 a1 a2 a3) fun y1 =>
  chk (0≤(IntKind.i64.wrap (a2 - (1:Int)))∧(IntKind.i64.wrap (a2 - (1:Int))) < a0.length) <|
  call (bif (a2 == (a0.length:Int)) then
      lett ((if (IntKind.i64.wrap (y1.2 * a3.f1)) < (IntKind.i64.wrap (a3.f0 - y1.1)) then (IntKind.i64.wrap (y1.2 * a3.f1)) else (IntKind.i64.wrap (a3.f0 - y1.1)))) fun z2 =>
      some z2
    else
      some (IntKind.i64.wrap (a3.f0 - y1.1)))
    fun v1 =>
  call (para_line_L0 F y1 v1 F [] (0:Int))
    fun v4 =>
  some (S_ParaLine.mk a1 a2 (!((a0.getD (IntKind.i64.wrap (a2 - (1:Int))).toNat (S_para_part.mk 0 0 false false)).f3)) v4)
def para_Break_L2 (F:Nat) (a1:S_ParaShape) (y1:(List S_para_part)) (v1:Int):Nat→(List Int)→(List Int)→Int→Option ((List Int)×(List Int))
  | 0,_,_,_=>none
  | n+1,v2,v3,v4 =>
    bif (decide (v4≤(y1.length:Int))) then
      call (call (para_cost F y1 v1 v4 a1) fun y2 =>
        chk ((((!y2.2) == false) && true)=true→0≤v4∧v4 < v2.length) <|
        bif (bif (!y2.2) then true else (decide ((v2.getD v4.toNat 0) < (0:Int)))) then
          some (v2,v3)
        else
          chk (0≤v4∧v4 < v2.length) <|
          chk (0≤v1∧v1 < v2.length) <|
          chk ((((decide ((v2.getD v1.toNat 0) < (0:Int))) == false) && true)=true→0≤v1∧v1 < v2.length) <|
          lett ((bif (decide ((v2.getD v1.toNat 0) < (0:Int))) then true else (decide ((IntKind.i64.wrap (y2.1+(v2.getD v4.toNat 0)))≤(v2.getD v1.toNat 0))))) fun z1 =>
          bif z1 then
            chk (0≤v1∧v1 < v2.length) <|
            chk (0≤v1∧v1 < v3.length) <|
            some ((v2.set v1.toNat (IntKind.i64.wrap (y2.1+(v2.getD v4.toNat 0)))),(v3.set v1.toNat v4))
          else
            some (v2,v3))
        fun (v5,v6) =>
      para_Break_L2 F a1 y1 v1 n v5 v6 (IntKind.i64.wrap (v4+(1:Int)))
    else
      some (v2,v3)
def para_Break_L0 (F:Nat) (a1:S_ParaShape) (y1:(List S_para_part)):Nat→(List Int)→(List Int)→Int→Option ((List Int)×(List Int))
  | 0,_,_,_=>none
  | n+1,v7,v8,v1 =>
    bif (decide (v1 ≥ (0:Int))) then
      chk (0≤v1∧v1 < v7.length) <|
      call (para_Break_L2 F a1 y1 v1 F (v7.set v1.toNat (-1:Int)) v8 (IntKind.i64.wrap (v1+(1:Int))))
        fun (v9,v10) =>
      para_Break_L0 F a1 y1 n v9 v10 (IntKind.i64.wrap (v1 - (1:Int)))
    else
      some (v7,v8)
def para_Break_L4 (F:Nat) (a1:S_ParaShape) (y1:(List S_para_part)) (v11:List Int):Nat→(List S_ParaLine)→Int→Option ((List S_ParaLine))
  | 0,_,_=>none
  | n+1,v12,v13 =>
    bif (decide (v13 < (y1.length:Int))) then
      chk (0≤v13∧v13 < v11.length) <|
      call (para_line F y1 v13 (v11.getD v13.toNat 0) a1) fun y3 =>
      chk (v12.length+([y3]).length≤4294967296) <|
      chk (0≤v13∧v13 < v11.length) <|
      para_Break_L4 F a1 y1 v11 n (v12++([y3])) (v11.getD v13.toNat 0)
    else
      some v12
/-- printworks/para.Break -/
def para_Break (F:Nat) (a0:List S_ParaWord) (a1:S_ParaShape):Option ((List S_ParaLine)×Int×Int) :=
  call (para_Check F a0 a1) fun y4 =>
  bif (y4 != (0:Int)) then
    some ([],(0:Int),y4)
  else
    call (para_flat F a0) fun y1 =>
    chk (0≤(IntKind.i64.wrap ((y1.length:Int)+(1:Int)))∧(IntKind.i64.wrap ((y1.length:Int)+(1:Int)))≤(IntKind.i64.wrap ((y1.length:Int)+(1:Int)))∧(IntKind.i64.wrap ((y1.length:Int)+(1:Int)))≤9223372036854775807∧((8:Nat):Int) * (IntKind.i64.wrap ((y1.length:Int)+(1:Int)))≤281474976710656) <|
    chk (0≤(y1.length:Int)∧(y1.length:Int)≤(y1.length:Int)∧(y1.length:Int)≤9223372036854775807∧((8:Nat):Int) * (y1.length:Int)≤281474976710656) <|
    call (para_Break_L0 F a1 y1 F (List.replicate (IntKind.i64.wrap ((y1.length:Int)+(1:Int))).toNat 0) (List.replicate (y1.length:Int).toNat 0) (IntKind.i64.wrap ((y1.length:Int) - (1:Int))))
      fun (v14,v11) =>
    chk (0≤(0:Int)∧(0:Int) < v14.length) <|
    bif (decide ((v14.getD (0:Int).toNat 0) < (0:Int))) then
      some ([],(0:Int),(8:Int))
    else
      call (para_Break_L4 F a1 y1 v11 F [] (0:Int))
        fun v15 =>
      chk (0≤(0:Int)∧(0:Int) < v14.length) <|
      some (v15,(v14.getD (0:Int).toNat 0),(0:Int))
def slices_Equal_int_L0 (F:Nat) (a0:List Int) (a1:List Int):Nat→Int→Option (Out Unit Bool)
  | 0,_=>none
  | n+1,v1 =>
    bif (decide (v1 < (a0.length:Int))) then
      chk (0≤v1∧v1 < a0.length) <|
      chk (0≤v1∧v1 < a1.length) <|
      bif ((a0.getD v1.toNat 0) != (a1.getD v1.toNat 0)) then
        some (.esc false)
      else
        slices_Equal_int_L0 F a0 a1 n (IntKind.i64.wrap (v1+(1:Int)))
    else
      some (.go ())
/-- slices.Equal[[]int,int] -/
def slices_Equal_int (F:Nat) (a0:List Int) (a1:List Int):Option Bool :=
  bif ((a0.length:Int) != (a1.length:Int)) then
    some false
  else
    callE (slices_Equal_int_L0 F a0 a1 F (0:Int))
      (fun e=>some e) fun _ =>
    some true
/-- printworks/printworkslaw3.paraFact -/
def law3_paraFact (F:Nat)  : Option Bool :=
  call (para_Hyphens F ([97,98,99,100,101]:List UInt8) ([([98,49,99]:List UInt8)])) fun y1 =>
  call (para_Break F ([(S_ParaWord.mk ([(10:Int)]) []),(S_ParaWord.mk ([(10:Int)]) []),(S_ParaWord.mk ([(10:Int)]) [])]) (S_ParaShape.mk (25:Int) (5:Int) (3:Int) (9:Int) 0 0)) fun y2 =>
  call ((bif (((bif (y1.2 == (0:Int)) then (y2.2.2 == (0:Int)) else false) == true) && true) then slices_Equal_int F y1.1 ([(2:Int)]) else some false)) fun y3 =>
  lett ((bif (bif (bif (y1.2 == (0:Int)) then (y2.2.2 == (0:Int)) else false) then y3 else false) then (y2.2.1 == (0:Int)) else false)) fun z1 =>
  chk ((((bif z1 then ((y2.1.length:Int) == (2:Int)) else false) == true) && true)=true→0≤(0:Int)∧(0:Int) < y2.1.length) <|
  lett ((bif (bif z1 then ((y2.1.length:Int) == (2:Int)) else false) then (((y2.1.getD (0:Int).toNat (S_ParaLine.mk 0 0 false [])).f1) == (2:Int)) else false)) fun z2 =>
  chk (((z2 == true) && true)=true→0≤(0:Int)∧(0:Int) < y2.1.length) <|
  call ((bif ((z2 == true) && true) then slices_Equal_int F ((y2.1.getD (0:Int).toNat (S_ParaLine.mk 0 0 false [])).f3) ([(5:Int)]) else some false)) fun y4 =>
  some (bif z2 then y4 else false)
def ref3_bare_L0 (F:Nat) (a0:List UInt8):Nat→(List UInt8)→Bool→(List Int)→Int→Option (Out ((List UInt8)×Bool×(List Int)) ((List UInt8)×(List Int)×Bool))
  | 0,_,_,_,_=>none
  | n+1,v1,v2,v3,v4 =>
    bif (decide (v4 < (a0.length:Int))) then
      callE (chk (0≤v4∧v4 < a0.length) <|
        lett ((bif (decide (((a0.getD v4.toNat 0).toNat:Int) ≥ (49:Int))) then (decide (((a0.getD v4.toNat 0).toNat:Int)≤(57:Int))) else false)) fun z1 =>
        bif z1 then
          chk (0≤(IntKind.i64.wrap ((v3.length:Int) - (1:Int)))∧(IntKind.i64.wrap ((v3.length:Int) - (1:Int))) < v3.length) <|
          bif ((v3.getD (IntKind.i64.wrap ((v3.length:Int) - (1:Int))).toNat 0) != (0:Int)) then
            some (.esc ([],[],false))
          else
            chk (0≤(IntKind.i64.wrap ((v3.length:Int) - (1:Int)))∧(IntKind.i64.wrap ((v3.length:Int) - (1:Int))) < v3.length) <|
            some (.go (v1,v2,(v3.set (IntKind.i64.wrap ((v3.length:Int) - (1:Int))).toNat (IntKind.i64.wrap ((IntKind.i64.wrap ((a0.getD v4.toNat 0).toNat:Int)) - (48:Int))))))
        else
          lett ((bif (((a0.getD v4.toNat 0).toNat:Int) == (46:Int)) then (bif (v1 == []) then true else (v4 == (IntKind.i64.wrap ((a0.length:Int) - (1:Int))))) else false)) fun z2 =>
          lett ((bif (decide (((a0.getD v4.toNat 0).toNat:Int) < (97:Int))) then true else (decide (((a0.getD v4.toNat 0).toNat:Int) > (122:Int))))) fun z3 =>
          bif (bif (!z2) then z3 else false) then
            some (.esc ([],[],false))
          else
            chk (0≤v4∧v4≤(IntKind.i64.wrap (v4+(1:Int)))∧(IntKind.i64.wrap (v4+(1:Int)))≤(a0.length:Int)) <|
            chk (v1.length+((a0.drop v4.toNat).take ((IntKind.i64.wrap (v4+(1:Int))).toNat - v4.toNat)).length≤9223372036854775807) <|
            chk (v3.length+([(0:Int)]).length≤4294967296) <|
            some (.go ((v1++((a0.drop v4.toNat).take ((IntKind.i64.wrap (v4+(1:Int))).toNat - v4.toNat))),(bif v2 then true else (((a0.getD v4.toNat 0).toNat:Int) != (46:Int))),(v3++([(0:Int)])))))
        (fun e=>some (.esc e)) fun (v5,v6,v7) =>
      ref3_bare_L0 F a0 n v5 v6 v7 (IntKind.i64.wrap (v4+(1:Int)))
    else
      some (.go (v1,v2,v3))
/-- printworks/printworksref3.bare -/
def ref3_bare (F:Nat) (a0:List UInt8):Option ((List UInt8)×(List Int)×Bool) :=
  callE (ref3_bare_L0 F a0 F [] false ([(0:Int)]) (0:Int))
    (fun e=>some e) fun (v8,v9,v10) =>
  some (v8,v10,(bif v9 then (decide ((a0.length:Int)≤(16:Int))) else false))
def ref3_Divided_L0 (F:Nat) (a0:List UInt8):Nat→Bool→Int→Option Bool
  | 0,_,_=>none
  | n+1,v1,v2 =>
    bif (decide (v2 < (a0.length:Int))) then
      chk (((v1 == true) && true)=true→0≤v2∧v2 < a0.length) <|
      chk ((((bif v1 then (decide (((a0.getD v2.toNat 0).toNat:Int) ≥ (97:Int))) else false) == true) && true)=true→0≤v2∧v2 < a0.length) <|
      lett ((bif (bif v1 then (decide (((a0.getD v2.toNat 0).toNat:Int) ≥ (97:Int))) else false) then (decide (((a0.getD v2.toNat 0).toNat:Int)≤(122:Int))) else false)) fun z1 =>
      ref3_Divided_L0 F a0 n z1 (IntKind.i64.wrap (v2+(1:Int)))
    else
      some v1
def ref3_Divided_L2 (F:Nat) (a1:List (List UInt8)):Nat→Int→Option (Out Unit ((List Int)×Int))
  | 0,_=>none
  | n+1,v3 =>
    bif (decide (v3 < (a1.length:Int))) then
      chk (0≤v3∧v3 < a1.length) <|
      call (ref3_bare F (a1.getD v3.toNat [])) fun y1 =>
      bif (!y1.2.2) then
        some (.esc ([],(5:Int)))
      else
        ref3_Divided_L2 F a1 n (IntKind.i64.wrap (v3+(1:Int)))
    else
      some (.go ())
def ref3_Divided_L8 (F:Nat) (a0:List UInt8) (v4:Int) (y2:(List UInt8)×(List Int)×Bool):Nat→Int→Int→Option Int
  | 0,_,_=>none
  | n+1,v5,v6 =>
    bif (decide (v6 < (y2.2.1.length:Int))) then
      call (lett (IntKind.i64.wrap ((IntKind.i64.wrap ((IntKind.i64.wrap (v4+(1:Int))) - v6))+(y2.1.length:Int))) fun z2 =>
        lett ((bif (decide ((IntKind.i64.wrap ((IntKind.i64.wrap (v4+(1:Int))) - v6)) ≥ (0:Int))) then (decide (z2≤(((([46]:List UInt8)++a0)++([46]:List UInt8)).length:Int))) else false)) fun z3 =>
        lett (IntKind.i64.wrap ((IntKind.i64.wrap ((IntKind.i64.wrap (v4+(1:Int))) - v6))+(y2.1.length:Int))) fun z4 =>
        chk (((z3 == true) && true)=true→0≤(IntKind.i64.wrap ((IntKind.i64.wrap (v4+(1:Int))) - v6))∧(IntKind.i64.wrap ((IntKind.i64.wrap (v4+(1:Int))) - v6))≤z4∧z4≤(((([46]:List UInt8)++a0)++([46]:List UInt8)).length:Int)) <|
        lett (((((([46]:List UInt8)++a0)++([46]:List UInt8)).drop (IntKind.i64.wrap ((IntKind.i64.wrap (v4+(1:Int))) - v6)).toNat).take (z4.toNat - (IntKind.i64.wrap ((IntKind.i64.wrap (v4+(1:Int))) - v6)).toNat))) fun z5 =>
        bif (bif z3 then (z5 == y2.1) else false) then
          chk (0≤v6∧v6 < y2.2.1.length) <|
          some (if v5 < (y2.2.1.getD v6.toNat 0) then (y2.2.1.getD v6.toNat 0) else v5)
        else
          some v5)
        fun v7 =>
      ref3_Divided_L8 F a0 v4 y2 n v7 (IntKind.i64.wrap (v6+(1:Int)))
    else
      some v5
def ref3_Divided_L6 (F:Nat) (a0:List UInt8) (a1:List (List UInt8)) (v4:Int):Nat→Int→Int→Option Int
  | 0,_,_=>none
  | n+1,v8,v9 =>
    bif (decide (v9 < (a1.length:Int))) then
      chk (0≤v9∧v9 < a1.length) <|
      call (ref3_bare F (a1.getD v9.toNat [])) fun y2 =>
      call (ref3_Divided_L8 F a0 v4 y2 F v8 (0:Int))
        fun v10 =>
      ref3_Divided_L6 F a0 a1 v4 n v10 (IntKind.i64.wrap (v9+(1:Int)))
    else
      some v8
def ref3_Divided_L4 (F:Nat) (a0:List UInt8) (a1:List (List UInt8)):Nat→(List Int)→Int→Option ((List Int))
  | 0,_,_=>none
  | n+1,v11,v4 =>
    bif (decide (v4≤(IntKind.i64.wrap ((a0.length:Int) - (2:Int))))) then
      call (call (ref3_Divided_L6 F a0 a1 v4 F (0:Int) (0:Int))
          fun v12 =>
        bif ((v12.tmod (2:Int)) == (1:Int)) then
          chk (v11.length+([v4]).length≤4294967296) <|
          some (v11++([v4]))
        else
          some v11)
        fun v13 =>
      ref3_Divided_L4 F a0 a1 n v13 (IntKind.i64.wrap (v4+(1:Int)))
    else
      some v11
/-- printworks/printworksref3.Divided -/
def ref3_Divided (F:Nat) (a0:List UInt8) (a1:List (List UInt8)):Option ((List Int)×Int) :=
  call (ref3_Divided_L0 F a0 F (bif (!(a0 == [])) then (decide ((a0.length:Int)≤(31:Int))) else false) (0:Int))
    fun v14 =>
  bif (!v14) then
    some ([],(6:Int))
  else
    bif (decide ((a1.length:Int) > (256:Int))) then
      some ([],(2:Int))
    else
      callE (ref3_Divided_L2 F a1 F (0:Int))
        (fun e=>some e) fun _ =>
      chk (([46]:List UInt8).length+a0.length≤9223372036854775807) <|
      chk ((([46]:List UInt8)++a0).length+([46]:List UInt8).length≤9223372036854775807) <|
      call (ref3_Divided_L4 F a0 a1 F [] (2:Int))
        fun v15 =>
      some (v15,(0:Int))
/-- printworks/printworkslaw3.ParaHyphensMatchReference -/
def law3_ParaHyphensMatchReference (F:Nat) (a0:List UInt8) (a1:List (List UInt8)):Option Bool :=
  call (law3_paraFact F) fun y1 =>
  bif (!y1) then
    some false
  else
    call (para_Hyphens F a0 a1) fun y2 =>
    call (ref3_Divided F a0 a1) fun y3 =>
    call ((bif (((y2.2 == y3.2) == true) && true) then slices_Equal_int F y2.1 y3.1 else some false)) fun y4 =>
    some (bif (y2.2 == y3.2) then y4 else false)
end Go.Vm.ParM
