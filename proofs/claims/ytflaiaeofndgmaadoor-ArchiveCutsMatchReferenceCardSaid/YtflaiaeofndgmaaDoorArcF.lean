import Derived.Test.YtflaiaeofndgmaaDoorVmC
import Derived.Test.YtflaiaeofndgmaaDoorVmD
namespace Go.Vm.ArcG
def glob_filter_steps:List Int:=[0,498536548,997073096,651767980,1994146192,1802195444,1303535960,1342533948,3988292384,4027552580,3604390888,3412177804,2607071920,2262029012,2685067896,3183342108]
def archive_cut_L0 (F:Nat)  : Nat→Int→Int→Option Int
  | 0,_,_=>none
  | n+1,v1,v2 =>
    bif (decide (v2 < (16:Int))) then
      archive_cut_L0 F n (IntKind.u32.wrap (v1 * (31:Int))) (IntKind.i64.wrap (v2+(1:Int)))
    else
      some v1
def archive_cut_L2 (F:Nat) (a0:List UInt8) (v3:Int):Nat→Int→Int→Option (Out Unit Int)
  | 0,_,_=>none
  | n+1,v4,v5 =>
    bif (decide (v5 < (a0.length:Int))) then
      chk (0≤v5∧v5 < a0.length) <|
      lett (IntKind.u32.wrap ((IntKind.u32.wrap (v4 * (31:Int)))+(IntKind.u32.wrap ((a0.getD v5.toNat 0).toNat:Int)))) fun z1 =>
      call (bif (decide (v5 ≥ (16:Int))) then
          chk (0≤(IntKind.i64.wrap (v5 - (16:Int)))∧(IntKind.i64.wrap (v5 - (16:Int))) < a0.length) <|
          lett (IntKind.u32.wrap ((IntKind.u32.wrap ((a0.getD (IntKind.i64.wrap (v5 - (16:Int))).toNat 0).toNat:Int))+(1:Int))) fun z2 =>
          some (IntKind.u32.wrap ((IntKind.u32.wrap (z1+(1:Int))) - (IntKind.u32.wrap (v3 * z2))))
        else
          some (IntKind.u32.wrap (z1+(1:Int))))
        fun v6 =>
      lett ((bif (decide ((IntKind.i64.wrap (v5+(1:Int))) ≥ (32:Int))) then ((v6.fdiv (2 ^ (min (26:Int).toNat IntKind.u32.bits))) == (0:Int)) else false)) fun z3 =>
      bif (bif (decide ((IntKind.i64.wrap (v5+(1:Int))) ≥ (256:Int))) then true else z3) then
        some (.esc (IntKind.i64.wrap (v5+(1:Int))))
      else
        archive_cut_L2 F a0 v3 n v6 (IntKind.i64.wrap (v5+(1:Int)))
    else
      some (.go ())
/-- printworks/archive.cut -/
def archive_cut (F:Nat) (a0:List UInt8):Option Int :=
  call (archive_cut_L0 F F (1:Int) (0:Int))
    fun v3 =>
  callE (archive_cut_L2 F a0 v3 F (0:Int) (0:Int))
    (fun e=>some e) fun _ =>
  some (a0.length:Int)
def archive_Cuts_L0 (F:Nat)  : Nat→(List UInt8)→(List Int)→Option ((List Int))
  | 0,_,_=>none
  | n+1,v1,v2 =>
    bif (!(v1 == [])) then
      call (archive_cut F v1) fun y1 =>
      chk (v2.length+([y1]).length≤4294967296) <|
      chk (0≤y1∧y1≤(v1.length:Int)∧(v1.length:Int)≤(v1.length:Int)) <|
      archive_Cuts_L0 F n ((v1.drop y1.toNat).take ((v1.length:Int).toNat - y1.toNat)) (v2++([y1]))
    else
      some v2
/-- printworks/archive.Cuts -/
def archive_Cuts (F:Nat) (a0:List UInt8):Option ((List Int)×Int) :=
  bif (decide ((a0.length:Int) > (16384:Int))) then
    some ([],(2:Int))
  else
    call (archive_Cuts_L0 F F a0 [])
      fun v3 =>
    some (v3,(0:Int))
def slices_Equal_int_L0 (F:Nat) (a0:List Int) (a1:List Int):Nat→Int→Option (Out Unit Bool)
  | 0,_=>none
  | n+1,v1 =>
    bif (decide (v1 < (a0.length:Int))) then
      chk (0≤v1∧v1 < a0.length) <|
      chk (0≤v1∧v1 < a1.length) <|
      bif ((a0.getD v1.toNat 0) != (a1.getD v1.toNat 0)) then
        some (.esc false)
      else
        slices_Equal_int_L0 F a0 a1 n (IntKind.i64.wrap (v1+(1:Int)))
    else
      some (.go ())
/-- slices.Equal[[]int,int] -/
def slices_Equal_int (F:Nat) (a0:List Int) (a1:List Int):Option Bool :=
  bif ((a0.length:Int) != (a1.length:Int)) then
    some false
  else
    callE (slices_Equal_int_L0 F a0 a1 F (0:Int))
      (fun e=>some e) fun _ =>
    some true
def ref3_Window_L2 (F:Nat) (a0:List UInt8) (v1:Int):Nat→Int→Int→Int→Option Int
  | 0,_,_,_=>none
  | n+1,v2,v3,v4 =>
    bif (decide (v4 < (16:Int))) then
      chk (0≤(IntKind.i64.wrap ((IntKind.i64.wrap (v1 - (1:Int))) - v4))∧(IntKind.i64.wrap ((IntKind.i64.wrap (v1 - (1:Int))) - v4)) < a0.length) <|
      lett (IntKind.u32.wrap ((a0.getD (IntKind.i64.wrap ((IntKind.i64.wrap (v1 - (1:Int))) - v4)).toNat 0).toNat:Int)) fun z1 =>
      ref3_Window_L2 F a0 v1 n (IntKind.u32.wrap (v2+(IntKind.u32.wrap ((IntKind.u32.wrap (z1+(1:Int))) * v3)))) (IntKind.u32.wrap (v3 * (31:Int))) (IntKind.i64.wrap (v4+(1:Int)))
    else
      some v2
def ref3_Window_L0 (F:Nat) (a0:List UInt8):Nat→Int→Option (Out Unit Int)
  | 0,_=>none
  | n+1,v1 =>
    bif (bif (decide (v1 < (a0.length:Int))) then (decide (v1 < (256:Int))) else false) then
      callE (bif (decide (v1 < (32:Int))) then
          some (.go ())
        else
          call (ref3_Window_L2 F a0 v1 F (0:Int) (1:Int) (0:Int))
            fun v5 =>
          bif (decide (v5 < (67108864:Int))) then
            some (.esc v1)
          else
            some (.go ()))
        (fun e=>some (.esc e)) fun _ =>
      ref3_Window_L0 F a0 n (IntKind.i64.wrap (v1+(1:Int)))
    else
      some (.go ())
/-- printworks/printworksref3.Window -/
def ref3_Window (F:Nat) (a0:List UInt8):Option Int :=
  callE (ref3_Window_L0 F a0 F (1:Int))
    (fun e=>some e) fun _ =>
  some (if (256:Int) < (a0.length:Int) then (256:Int) else (a0.length:Int))
def ref3_Windows_L0 (F:Nat)  : Nat→(List UInt8)→(List Int)→Option ((List Int))
  | 0,_,_=>none
  | n+1,v1,v2 =>
    bif (!(v1 == [])) then
      call (ref3_Window F v1) fun y1 =>
      chk (v2.length+([y1]).length≤4294967296) <|
      chk (0≤y1∧y1≤(v1.length:Int)∧(v1.length:Int)≤(v1.length:Int)) <|
      ref3_Windows_L0 F n ((v1.drop y1.toNat).take ((v1.length:Int).toNat - y1.toNat)) (v2++([y1]))
    else
      some v2
/-- printworks/printworksref3.Windows -/
def ref3_Windows (F:Nat) (a0:List UInt8):Option ((List Int)) :=
  call (ref3_Windows_L0 F F a0 [])
    fun v3 =>
  some v3
def archive_plain_L0 (F:Nat) (a0:List UInt8):Nat→Int→Option (Out Unit Bool)
  | 0,_=>none
  | n+1,v1 =>
    bif (decide (v1 < (a0.length:Int))) then
      chk (0≤v1∧v1 < a0.length) <|
      lett ((bif (decide ((97:Int)≤((a0.getD v1.toNat 0).toNat:Int))) then (decide (((a0.getD v1.toNat 0).toNat:Int)≤(122:Int))) else false)) fun z1 =>
      lett ((bif (decide ((48:Int)≤((a0.getD v1.toNat 0).toNat:Int))) then (decide (((a0.getD v1.toNat 0).toNat:Int)≤(57:Int))) else false)) fun z2 =>
      lett ((bif (v1 == (0:Int)) then true else (bif (!z2) then (((a0.getD v1.toNat 0).toNat:Int) != (45:Int)) else false))) fun z3 =>
      bif (bif (!z1) then z3 else false) then
        some (.esc false)
      else
        archive_plain_L0 F a0 n (IntKind.i64.wrap (v1+(1:Int)))
    else
      some (.go ())
/-- printworks/archive.plain -/
def archive_plain (F:Nat) (a0:List UInt8):Option Bool :=
  callE (archive_plain_L0 F a0 F (0:Int))
    (fun e=>some e) fun _ =>
  some (bif (!(a0 == [])) then (decide ((a0.length:Int)≤(16:Int))) else false)
def filter_Sum_L0 (F:Nat) (a0:List UInt8):Nat→Int→Int→Option Int
  | 0,_,_=>none
  | n+1,v1,v2 =>
    bif (decide (v2 < (a0.length:Int))) then
      chk (0≤v2∧v2 < a0.length) <|
      lett (IntKind.u32.wrap ((BitVec.ofInt IntKind.u32.bits v1 ^^^ BitVec.ofInt IntKind.u32.bits (IntKind.u32.wrap ((a0.getD v2.toNat 0).toNat:Int))).toNat:Int)) fun z1 =>
      lett (IntKind.u32.wrap ((BitVec.ofInt IntKind.u32.bits z1 &&& BitVec.ofInt IntKind.u32.bits (15:Int)).toNat:Int)) fun z2 =>
      chk (0≤z2∧z2 < 16) <|
      lett (IntKind.u32.wrap ((BitVec.ofInt IntKind.u32.bits (z1.fdiv (2 ^ (min (4:Int).toNat IntKind.u32.bits))) ^^^ BitVec.ofInt IntKind.u32.bits (glob_filter_steps.getD z2.toNat 0)).toNat:Int)) fun z3 =>
      lett (IntKind.u32.wrap ((BitVec.ofInt IntKind.u32.bits z3 &&& BitVec.ofInt IntKind.u32.bits (15:Int)).toNat:Int)) fun z4 =>
      chk (0≤z4∧z4 < 16) <|
      lett (IntKind.u32.wrap ((BitVec.ofInt IntKind.u32.bits (z3.fdiv (2 ^ (min (4:Int).toNat IntKind.u32.bits))) ^^^ BitVec.ofInt IntKind.u32.bits (glob_filter_steps.getD z4.toNat 0)).toNat:Int)) fun z5 =>
      filter_Sum_L0 F a0 n z5 (IntKind.i64.wrap (v2+(1:Int)))
    else
      some v1
/-- printworks/filter.Sum -/
def filter_Sum (F:Nat) (a0:List UInt8):Option Int :=
  call (filter_Sum_L0 F a0 F (4294967295:Int) (0:Int))
    fun v3 =>
  lett (IntKind.u32.wrap (((BitVec.ofInt IntKind.u32.bits (4294967295)) ^^^ (BitVec.ofInt IntKind.u32.bits v3)).toNat:Int)) fun z6 =>
  some z6
/-- strings.Clone -/
def strings_Clone (F:Nat) (a0:List UInt8):Option ((List UInt8)) :=
  chk (a0.length≤281474976710656) <|
  some a0
end Go.Vm.ArcG
