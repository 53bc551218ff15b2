import Derived.Test.YtflaiaeofndgmaaGreatDoorVmC
import Derived.Test.YtflaiaeofndgmaaGreatDoorVmD
import Derived.Lib.Bytealg
namespace Go.Vm.ArzN
/-- internal/stringslite.Cut -/
def internal_stringslite_Cut (F:Nat) (a0:List UInt8) (a1:List UInt8):Option ((List UInt8)×(List UInt8)×Bool) :=
 chk (a1.length=1) <|
 bif (decide ((Lib.indexByte a0 (a1.getD 0 0)) ≥ (0:Int))) then
  chk (0≤(0:Int)∧(0:Int)≤(Lib.indexByte a0 (a1.getD 0 0))∧(Lib.indexByte a0 (a1.getD 0 0))≤(a0.length:Int)) <|
  chk (0≤(IntKind.i64.wrap ((Lib.indexByte a0 (a1.getD 0 0))+(a1.length:Int)))∧(IntKind.i64.wrap ((Lib.indexByte a0 (a1.getD 0 0))+(a1.length:Int)))≤(a0.length:Int)∧(a0.length:Int)≤(a0.length:Int)) <|
  lett (((a0.drop (IntKind.i64.wrap ((Lib.indexByte a0 (a1.getD 0 0))+(a1.length:Int))).toNat).take ((a0.length:Int).toNat - (IntKind.i64.wrap ((Lib.indexByte a0 (a1.getD 0 0))+(a1.length:Int))).toNat))) fun z1 =>
  some (((a0.drop (0:Int).toNat).take ((Lib.indexByte a0 (a1.getD 0 0)).toNat - (0:Int).toNat)),z1,true)
 else
  some (a0,[],false)
/-- strings.Cut -/
def strings_Cut (F:Nat) (a0:List UInt8) (a1:List UInt8):Option ((List UInt8)×(List UInt8)×Bool) :=
 call (internal_stringslite_Cut F a0 a1) fun y1 =>
 some (y1.1,y1.2.1,y1.2.2)
def strings_genSplit_L0 (F:Nat) (a1:List UInt8) (a2:Int) (z1:Int):Nat→(List UInt8)→(List (List UInt8))→Int→Option ((List UInt8)×(List (List UInt8))×Int)
 | 0,_,_,_=>none
 | n+1,v1,v2,v3 =>
  bif (decide (v3 < (IntKind.i64.wrap (z1 - (1:Int))))) then
   chk (a1.length=1) <|
   bif (decide ((Lib.indexByte v1 (a1.getD 0 0)) < (0:Int))) then
    some (v1,v2,v3)
   else
    chk (0≤(0:Int)∧(0:Int)≤(IntKind.i64.wrap ((Lib.indexByte v1 (a1.getD 0 0))+a2))∧(IntKind.i64.wrap ((Lib.indexByte v1 (a1.getD 0 0))+a2))≤(v1.length:Int)) <|
    lett (((v1.drop (0:Int).toNat).take ((IntKind.i64.wrap ((Lib.indexByte v1 (a1.getD 0 0))+a2)).toNat - (0:Int).toNat))) fun z2 =>
    chk (0≤v3∧v3 < v2.length) <|
    chk (0≤(IntKind.i64.wrap ((Lib.indexByte v1 (a1.getD 0 0))+(a1.length:Int)))∧(IntKind.i64.wrap ((Lib.indexByte v1 (a1.getD 0 0))+(a1.length:Int)))≤(v1.length:Int)∧(v1.length:Int)≤(v1.length:Int)) <|
    lett (((v1.drop (IntKind.i64.wrap ((Lib.indexByte v1 (a1.getD 0 0))+(a1.length:Int))).toNat).take ((v1.length:Int).toNat - (IntKind.i64.wrap ((Lib.indexByte v1 (a1.getD 0 0))+(a1.length:Int))).toNat))) fun z3 =>
    strings_genSplit_L0 F a1 a2 z1 n z3 (v2.set v3.toNat z2) (IntKind.i64.wrap (v3+(1:Int)))
  else
   some (v1,v2,v3)
/-- strings.genSplit -/
def strings_genSplit (F:Nat) (a0:List UInt8) (a1:List UInt8) (a2:Int) (a3:Int):Option ((List (List UInt8))) :=
 bif (a3 == (0:Int)) then
  some []
 else
  bif (a1 == []) then
   none
  else
   call (bif (decide (a3 < (0:Int))) then
     chk (a1.length=1) <|
     some (IntKind.i64.wrap ((Lib.countByte a0 (a1.getD 0 0))+(1:Int)))
    else
     some a3)
    fun v4 =>
   lett ((if (IntKind.i64.wrap ((a0.length:Int)+(1:Int))) < v4 then (IntKind.i64.wrap ((a0.length:Int)+(1:Int))) else v4)) fun z1 =>
   chk (0≤z1∧z1≤z1∧z1≤9223372036854775807∧((16:Nat):Int) * z1≤281474976710656) <|
   call (strings_genSplit_L0 F a1 a2 z1 F a0 (List.replicate z1.toNat []) (0:Int))
    fun (v5,v6,v7) =>
   chk (0≤v7∧v7 < v6.length) <|
   chk (0≤(IntKind.i64.wrap (v7+(1:Int)))∧(IntKind.i64.wrap (v7+(1:Int)))≤((v6.set v7.toNat v5).length:Int)) <|
   some ((v6.set v7.toNat v5).take (IntKind.i64.wrap (v7+(1:Int))).toNat)
/-- strings.Split -/
def strings_Split (F:Nat) (a0:List UInt8) (a1:List UInt8):Option ((List (List UInt8))) :=
 call (strings_genSplit F a0 a1 (0:Int) (-1:Int)) fun y1 =>
 some y1
end Go.Vm.ArzN
