import Derived.Test.YtbnneoaaeidenaaDoorVmC
import Derived.Test.YtbnneoaaeidenaaDoorVmD
import Derived.Lib.SlTrimSet
namespace Go.Vm.ParG
/-- printworks/para.letters -/
def para_letters (F:Nat) (a0:List UInt8):Option Bool :=
  chk ((((bif (!(a0 == [])) then (decide ((a0.length:Int)≤(31:Int))) else false) == true) && true)=true→a0.length≤9223372036854775807) <|
  lett (((Lib.trimS a0 ([97,98,99,100,101,102,103,104,105,106,107,108,109,110,111,112,113,114,115,116,117,118,119,120,121,122]:List UInt8)) == [])) fun z1 =>
  lett ((bif (bif (!(a0 == [])) then (decide ((a0.length:Int)≤(31:Int))) else false) then z1 else false)) fun z2 =>
  some z2
/-- (*strings.Builder).Len -/
def strings_Builder_Len (F:Nat) (c0:List UInt8):Option (Int×(List UInt8)) :=
  some ((c0.length:Int),c0)
/-- (*strings.Builder).WriteByte -/
def strings_Builder_WriteByte (F:Nat) (a0:Int) (c1:List UInt8):Option (Unit×(List UInt8)) :=
  chk (0≤a0∧a0 < 256) <|
  chk (c1.length+([(UInt8.ofNat a0.toNat)]).length≤4294967296) <|
  some ((),(c1++([(UInt8.ofNat a0.toNat)])))
def para_pattern_L0 (F:Nat) (a0:List UInt8):Nat→(List UInt8)→(List Int)→Bool→Int→Option (Out ((List UInt8)×(List Int)) ((List UInt8)×(List Int)×Bool))
  | 0,_,_,_,_=>none
  | n+1,v1,v2,v3,v4 =>
    bif (decide (v4 < (a0.length:Int))) then
      callE (chk (0≤v4∧v4 < a0.length) <|
        lett ((bif (decide ((49:Int)≤((a0.getD v4.toNat 0).toNat:Int))) then (decide (((a0.getD v4.toNat 0).toNat:Int)≤(57:Int))) else false)) fun z1 =>
        bif (bif z1 then (!v3) else false) then
          chk (0≤(IntKind.i64.wrap ((v2.length:Int) - (1:Int)))∧(IntKind.i64.wrap ((v2.length:Int) - (1:Int))) < v2.length) <|
          some (.go (v1,(v2.set (IntKind.i64.wrap ((v2.length:Int) - (1:Int))).toNat (IntKind.i64.wrap (IntKind.u8.wrap (((a0.getD v4.toNat 0).toNat:Int) - (48:Int))))),true))
        else
          call (lett ((bif (((a0.getD v4.toNat 0).toNat:Int) == (46:Int)) then (decide ((v1.length:Int) > (0:Int))) else false)) fun z2 =>
            bif (bif z2 then (decide (v4 < (IntKind.i64.wrap ((a0.length:Int) - (1:Int))))) else false) then
              some (bif z2 then (decide (v4 < (IntKind.i64.wrap ((a0.length:Int) - (1:Int))))) else false)
            else
              lett ((bif (decide (((a0.getD v4.toNat 0).toNat:Int) < (97:Int))) then true else (decide (((a0.getD v4.toNat 0).toNat:Int) > (122:Int))))) fun z3 =>
              some (bif (((a0.getD v4.toNat 0).toNat:Int) != (46:Int)) then z3 else false))
            fun v5 =>
          bif v5 then
            some (.esc ([],[],false))
          else
            call (strings_Builder_WriteByte F ((a0.getD v4.toNat 0).toNat:Int) v1) fun y1 =>
            chk (v2.length+([(0:Int)]).length≤4294967296) <|
            some (.go (y1.2,(v2++([(0:Int)])),false)))
        (fun e=>some (.esc e)) fun (v6,v7,v8) =>
      para_pattern_L0 F a0 n v6 v7 v8 (IntKind.i64.wrap (v4+(1:Int)))
    else
      some (.go (v1,v2))
/-- printworks/para.pattern -/
def para_pattern (F:Nat) (a0:List UInt8):Option ((List UInt8)×(List Int)×Bool) :=
  callE (para_pattern_L0 F a0 F [] ([(0:Int)]) false (0:Int))
    (fun e=>some e) fun (v9,v10) =>
  chk (v9.length≤9223372036854775807) <|
  chk (v9.length≤9223372036854775807) <|
  lett ((bif (!((Lib.trimS v9 ([46]:List UInt8)) == [])) then (decide ((a0.length:Int)≤(16:Int))) else false)) fun z4 =>
  some (v9,v10,z4)
end Go.Vm.ParG
