import Derived.Test.YtflaiaeofndgmaaGreatDoorVmC
import Derived.Test.YtflaiaeofndgmaaGreatDoorVmD
import Derived.Lib.Repeat
namespace Go.Vm.ArzG
structure S_FilterStep where
 f0:Int
 f1:Int
deriving DecidableEq
def cS_FilterStep (x:S_FilterStep):List Dat:=(cI .i64) x.f0++(cI .i64) x.f1
structure S_filter_copies where
deriving DecidableEq
def cS_filter_copies (x:S_filter_copies):List Dat:=[]
structure S_filter_rows where
 f0:Int
deriving DecidableEq
def cS_filter_rows (x:S_filter_rows):List Dat:=(cI .i64) x.f0
inductive I_filter_coding where
 | nil
 | k_runs (x:S_filter_copies)
 | k_rows (x:S_filter_rows)
 | k_copies (x:S_filter_copies)
 | k_text (x:S_filter_copies)
deriving DecidableEq
def vI_filter_coding:I_filter_coding→Value
 | .nil=>.nilIface
 | .k_runs x=>.iface 117 (.agg ⟨[]⟩)
 | .k_rows x=>.iface 119 (.agg ⟨[.int .i64 x.f0]⟩)
 | .k_copies x=>.iface 120 (.agg ⟨[]⟩)
 | .k_text x=>.iface 121 (.agg ⟨[]⟩)
def glob_filter_steps:List Int:=[0,498536548,997073096,651767980,1994146192,1802195444,1303535960,1342533948,3988292384,4027552580,3604390888,3412177804,2607071920,2262029012,2685067896,3183342108]
def archive_cut_L0 (F:Nat)  : Nat→Int→Int→Option Int
 | 0,_,_=>none
 | n+1,v1,v2 =>
  bif (decide (v2 < (16:Int))) then
   archive_cut_L0 F n (IntKind.u32.wrap (v1 * (31:Int))) (IntKind.i64.wrap (v2+(1:Int)))
  else
   some v1
def archive_cut_L2 (F:Nat) (a0:List UInt8) (v3:Int):Nat→Int→Int→Option (Out Unit Int)
 | 0,_,_=>none
 | n+1,v4,v5 =>
  bif (decide (v5 < (a0.length:Int))) then
   chk (0≤v5∧v5 < a0.length) <|
   lett (IntKind.u32.wrap ((IntKind.u32.wrap (v4 * (31:Int)))+(IntKind.u32.wrap ((a0.getD v5.toNat 0).toNat:Int)))) fun z1 =>
   call (bif (decide (v5 ≥ (16:Int))) then
     chk (0≤(IntKind.i64.wrap (v5 - (16:Int)))∧(IntKind.i64.wrap (v5 - (16:Int))) < a0.length) <|
     lett (IntKind.u32.wrap ((IntKind.u32.wrap ((a0.getD (IntKind.i64.wrap (v5 - (16:Int))).toNat 0).toNat:Int))+(1:Int))) fun z2 =>
     some (IntKind.u32.wrap ((IntKind.u32.wrap (z1+(1:Int))) - (IntKind.u32.wrap (v3 * z2))))
    else
     some (IntKind.u32.wrap (z1+(1:Int))))
    fun v6 =>
   lett ((bif (decide ((IntKind.i64.wrap (v5+(1:Int))) ≥ (32:Int))) then ((v6.fdiv (2 ^ (min (26:Int).toNat IntKind.u32.bits))) == (0:Int)) else false)) fun z3 =>
   bif (bif (decide ((IntKind.i64.wrap (v5+(1:Int))) ≥ (256:Int))) then true else z3) then
    some (.esc (IntKind.i64.wrap (v5+(1:Int))))
   else
    archive_cut_L2 F a0 v3 n v6 (IntKind.i64.wrap (v5+(1:Int)))
  else
   some (.go ())
/-- printworks/archive.cut -/
def archive_cut (F:Nat) (a0:List UInt8):Option Int :=
 call (archive_cut_L0 F F (1:Int) (0:Int))
  fun v3 =>
 callE (archive_cut_L2 F a0 v3 F (0:Int) (0:Int))
  (fun e=>some e) fun _ =>
 some (a0.length:Int)
def archive_Cuts_L0 (F:Nat)  : Nat→(List UInt8)→(List Int)→Option ((List Int))
 | 0,_,_=>none
 | n+1,v1,v2 =>
  bif (!(v1 == [])) then
   call (archive_cut F v1) fun y1 =>
   chk (v2.length+([y1]).length≤4294967296) <|
   chk (0≤y1∧y1≤(v1.length:Int)∧(v1.length:Int)≤(v1.length:Int)) <|
   archive_Cuts_L0 F n ((v1.drop y1.toNat).take ((v1.length:Int).toNat - y1.toNat)) (v2++([y1]))
  else
   some v2
/-- printworks/archive.Cuts -/
def archive_Cuts (F:Nat) (a0:List UInt8):Option ((List Int)×Int) :=
 bif (decide ((a0.length:Int) > (16384:Int))) then
  some ([],(2:Int))
 else
  call (archive_Cuts_L0 F F a0 [])
   fun v3 =>
  some (v3,(0:Int))
def archive_plain_L0 (F:Nat) (a0:List UInt8):Nat→Int→Option (Out Unit Bool)
 | 0,_=>none
 | n+1,v1 =>
  bif (decide (v1 < (a0.length:Int))) then
   chk (0≤v1∧v1 < a0.length) <|
   lett ((bif (decide ((97:Int)≤((a0.getD v1.toNat 0).toNat:Int))) then (decide (((a0.getD v1.toNat 0).toNat:Int)≤(122:Int))) else false)) fun z1 =>
   lett ((bif (decide ((48:Int)≤((a0.getD v1.toNat 0).toNat:Int))) then (decide (((a0.getD v1.toNat 0).toNat:Int)≤(57:Int))) else false)) fun z2 =>
   lett ((bif (v1 == (0:Int)) then true else (bif (!z2) then (((a0.getD v1.toNat 0).toNat:Int) != (45:Int)) else false))) fun z3 =>
   bif (bif (!z1) then z3 else false) then
    some (.esc false)
   else
    archive_plain_L0 F a0 n (IntKind.i64.wrap (v1+(1:Int)))
  else
   some (.go ())
/-- printworks/archive.plain -/
def archive_plain (F:Nat) (a0:List UInt8):Option Bool :=
 callE (archive_plain_L0 F a0 F (0:Int))
  (fun e=>some e) fun _ =>
 some (bif (!(a0 == [])) then (decide ((a0.length:Int)≤(16:Int))) else false)
/-- cmp.isNaN[string] -/
def cmp_isNaN_string (F:Nat) (a0:List UInt8):Option Bool :=
 some (!(a0 == a0))
/-- cmp.Less[string] -/
def cmp_Less_string (F:Nat) (a0:List UInt8) (a1:List UInt8):Option Bool :=
 call (cmp_isNaN_string F a0) fun y1 =>
 call ((bif ((y1 == true) && true) then cmp_isNaN_string F a1 else some false)) fun y2 =>
 some (bif (bif y1 then (!y2) else false) then true else (Op.bytesLess a0 a1))
/-- slices.isNaN[string] -/
def slices_isNaN_string (F:Nat) (a0:List UInt8):Option Bool :=
 some (!(a0 == a0))
def slices_BinarySearch_string_L0 (F:Nat) (a0:List (List UInt8)) (a1:List UInt8):Nat→Int→Int→Option Int
 | 0,_,_=>none
 | n+1,v1,v2 =>
  bif (decide (v1 < v2)) then
   lett (((IntKind.u64.wrap (IntKind.i64.wrap (v1+v2))).fdiv (2 ^ (min (1:Int).toNat IntKind.u64.bits)))) fun z1 =>
   chk (0≤(IntKind.i64.wrap z1)∧(IntKind.i64.wrap z1) < a0.length) <|
   call (cmp_Less_string F (a0.getD (IntKind.i64.wrap z1).toNat []) a1) fun y1 =>
   bif y1 then
    slices_BinarySearch_string_L0 F a0 a1 n (IntKind.i64.wrap ((IntKind.i64.wrap z1)+(1:Int))) v2
   else
    slices_BinarySearch_string_L0 F a0 a1 n v1 (IntKind.i64.wrap z1)
  else
   some v1
/-- slices.BinarySearch[[]string,string] -/
def slices_BinarySearch_string (F:Nat) (a0:List (List UInt8)) (a1:List UInt8):Option (Int×Bool) :=
 call (slices_BinarySearch_string_L0 F a0 a1 F (0:Int) (a0.length:Int))
  fun v3 =>
 chk ((((decide (v3 < (a0.length:Int))) == true) && true)=true→0≤v3∧v3 < a0.length) <|
 chk (((((a0.getD v3.toNat []) == a1) == false) && (((decide (v3 < (a0.length:Int))) == true) && true))=true→0≤v3∧v3 < a0.length) <|
 call ((bif ((((a0.getD v3.toNat []) == a1) == false) && (((decide (v3 < (a0.length:Int))) == true) && true)) then slices_isNaN_string F (a0.getD v3.toNat []) else some false)) fun y2 =>
 call ((bif ((y2 == true) && ((((a0.getD v3.toNat []) == a1) == false) && (((decide (v3 < (a0.length:Int))) == true) && true))) then slices_isNaN_string F a1 else some false)) fun y3 =>
 lett ((bif (decide (v3 < (a0.length:Int))) then (bif ((a0.getD v3.toNat []) == a1) then true else (bif y2 then y3 else false)) else false)) fun z2 =>
 some (v3,z2)
def filter_Sum_L0 (F:Nat) (a0:List UInt8):Nat→Int→Int→Option Int
 | 0,_,_=>none
 | n+1,v1,v2 =>
  bif (decide (v2 < (a0.length:Int))) then
   chk (0≤v2∧v2 < a0.length) <|
   lett (IntKind.u32.wrap ((BitVec.ofInt IntKind.u32.bits v1 ^^^ BitVec.ofInt IntKind.u32.bits (IntKind.u32.wrap ((a0.getD v2.toNat 0).toNat:Int))).toNat:Int)) fun z1 =>
   lett (IntKind.u32.wrap ((BitVec.ofInt IntKind.u32.bits z1 &&& BitVec.ofInt IntKind.u32.bits (15:Int)).toNat:Int)) fun z2 =>
   chk (0≤z2∧z2 < 16) <|
   lett (IntKind.u32.wrap ((BitVec.ofInt IntKind.u32.bits (z1.fdiv (2 ^ (min (4:Int).toNat IntKind.u32.bits))) ^^^ BitVec.ofInt IntKind.u32.bits (glob_filter_steps.getD z2.toNat 0)).toNat:Int)) fun z3 =>
   lett (IntKind.u32.wrap ((BitVec.ofInt IntKind.u32.bits z3 &&& BitVec.ofInt IntKind.u32.bits (15:Int)).toNat:Int)) fun z4 =>
   chk (0≤z4∧z4 < 16) <|
   lett (IntKind.u32.wrap ((BitVec.ofInt IntKind.u32.bits (z3.fdiv (2 ^ (min (4:Int).toNat IntKind.u32.bits))) ^^^ BitVec.ofInt IntKind.u32.bits (glob_filter_steps.getD z4.toNat 0)).toNat:Int)) fun z5 =>
   filter_Sum_L0 F a0 n z5 (IntKind.i64.wrap (v2+(1:Int)))
  else
   some v1
/-- printworks/filter.Sum -/
def filter_Sum (F:Nat) (a0:List UInt8):Option Int :=
 call (filter_Sum_L0 F a0 F (4294967295:Int) (0:Int))
  fun v3 =>
 lett (IntKind.u32.wrap (((BitVec.ofInt IntKind.u32.bits (4294967295)) ^^^ (BitVec.ofInt IntKind.u32.bits v3)).toNat:Int)) fun z6 =>
 some z6
def slices_Index_string_L0 (F:Nat) (a0:List (List UInt8)) (a1:List UInt8):Nat→Int→Option (Out Unit Int)
 | 0,_=>none
 | n+1,v1 =>
  bif (decide (v1 < (a0.length:Int))) then
   chk (0≤v1∧v1 < a0.length) <|
   bif (a1 == (a0.getD v1.toNat [])) then
    some (.esc v1)
   else
    slices_Index_string_L0 F a0 a1 n (IntKind.i64.wrap (v1+(1:Int)))
  else
   some (.go ())
/-- slices.Index[[]string,string] -/
def slices_Index_string (F:Nat) (a0:List (List UInt8)) (a1:List UInt8):Option Int :=
 callE (slices_Index_string_L0 F a0 a1 F (0:Int))
  (fun e=>some e) fun _ =>
 some (-1:Int)
/-- strings.Clone -/
def strings_Clone (F:Nat) (a0:List UInt8):Option ((List UInt8)) :=
 chk (a0.length≤281474976710656) <|
 some a0
def filter_Hex_L0 (F:Nat) (a0:Int):Nat→(List UInt8)→Int→Option ((List UInt8))
 | 0,_,_=>none
 | n+1,v1,v2 =>
  bif (decide (v2 < (8:Int))) then
   chk (0≤(IntKind.i64.wrap ((28:Int) - (IntKind.i64.wrap ((4:Int) * v2))))) <|
   lett ((a0.fdiv (2 ^ (min (IntKind.i64.wrap ((28:Int) - (IntKind.i64.wrap ((4:Int) * v2)))).toNat IntKind.u32.bits)))) fun z1 =>
   lett (IntKind.u32.wrap ((BitVec.ofInt IntKind.u32.bits z1 &&& BitVec.ofInt IntKind.u32.bits (15:Int)).toNat:Int)) fun z2 =>
   chk (0≤z2∧z2 < ([48,49,50,51,52,53,54,55,56,57,97,98,99,100,101,102]:List UInt8).length) <|
   lett (((([48,49,50,51,52,53,54,55,56,57,97,98,99,100,101,102]:List UInt8).getD z2.toNat 0).toNat:Int)) fun z3 =>
   chk ((0≤v2∧v2 < 8)∧v2 < v1.length) <|
   chk (0≤z3∧z3 < 256) <|
   filter_Hex_L0 F a0 n (v1.set v2.toNat (UInt8.ofNat z3.toNat)) (IntKind.i64.wrap (v2+(1:Int)))
  else
   some v1
/-- printworks/filter.Hex -/
def filter_Hex (F:Nat) (a0:Int):Option ((List UInt8)) :=
 call (filter_Hex_L0 F a0 F (List.replicate 8 0) (0:Int))
  fun v3 =>
 chk ((0≤(0:Int)∧(0:Int)≤((8:Nat):Int)∧((8:Nat):Int)≤((8:Nat):Int))∧v3.length=8) <|
 some ((v3.drop (0:Int).toNat).take (((8:Nat):Int).toNat - (0:Int).toNat))
/-- printworks/archive.sealed -/
def archive_sealed (F:Nat) (a0:List UInt8):Option ((List UInt8)) :=
 chk (a0.length+([32]:List UInt8).length≤9223372036854775807) <|
 call (filter_Sum F a0) fun y1 =>
 call (filter_Hex F y1) fun y2 =>
 chk ((a0++([32]:List UInt8)).length+y2.length≤9223372036854775807) <|
 chk (((a0++([32]:List UInt8))++y2).length+([10]:List UInt8).length≤9223372036854775807) <|
 some (((a0++([32]:List UInt8))++y2)++([10]:List UInt8))
def filter_Check_L0 (F:Nat) (a0:List S_FilterStep):Nat→Int→Option (Out Unit Int)
 | 0,_=>none
 | n+1,v1 =>
  bif (decide (v1 < (a0.length:Int))) then
   chk (0≤v1∧v1 < a0.length) <|
   lett ((bif (decide (((a0.getD v1.toNat (S_FilterStep.mk 0 0)).f0) < (1:Int))) then true else (decide (((a0.getD v1.toNat (S_FilterStep.mk 0 0)).f0) > (4:Int))))) fun z1 =>
   bif z1 then
    some (.esc (14:Int))
   else
    lett ((bif (decide (((a0.getD v1.toNat (S_FilterStep.mk 0 0)).f1) < (1:Int))) then true else (decide (((a0.getD v1.toNat (S_FilterStep.mk 0 0)).f1) > (1024:Int))))) fun z2 =>
    bif (bif (((a0.getD v1.toNat (S_FilterStep.mk 0 0)).f0) == (2:Int)) then z2 else false) then
     some (.esc (3:Int))
    else
     lett ((bif (((a0.getD v1.toNat (S_FilterStep.mk 0 0)).f0) != (2:Int)) then (((a0.getD v1.toNat (S_FilterStep.mk 0 0)).f1) != (0:Int)) else false)) fun z3 =>
     bif z3 then
      some (.esc (4:Int))
     else
      filter_Check_L0 F a0 n (IntKind.i64.wrap (v1+(1:Int)))
  else
   some (.go ())
/-- printworks/filter.Check -/
def filter_Check (F:Nat) (a0:List S_FilterStep):Option Int :=
 bif (decide ((a0.length:Int) > (4:Int))) then
  some (2:Int)
 else
  callE (filter_Check_L0 F a0 F (0:Int))
   (fun e=>some e) fun _ =>
  some (0:Int)
/-- printworks/filter.codingOf -/
def filter_codingOf (F:Nat) (a0:S_FilterStep):Option I_filter_coding :=
 bif (a0.f0 == (1:Int)) then
  some (I_filter_coding.k_runs (S_filter_copies.mk ))
 else
  bif (a0.f0 == (2:Int)) then
   some (I_filter_coding.k_rows (S_filter_rows.mk a0.f1))
  else
   bif (a0.f0 == (3:Int)) then
    some (I_filter_coding.k_copies (S_filter_copies.mk ))
   else
    some (I_filter_coding.k_text (S_filter_copies.mk ))
/-- (*strings.Builder).WriteString -/
def strings_Builder_WriteString (F:Nat) (a0:List UInt8) (c1:List UInt8):Option (Int×Unit×(List UInt8)) :=
 chk (c1.length+a0.length≤4294967296) <|
 some ((a0.length:Int),(),(c1++a0))
/-- (*strings.Builder).Len -/
def strings_Builder_Len (F:Nat) (c0:List UInt8):Option (Int×(List UInt8)) :=
 some ((c0.length:Int),c0)
def filter_runs_decode_L0 (F:Nat) (a1:List UInt8):Nat→(List UInt8)→Int→Option (Out ((List UInt8)) ((List UInt8)×Int))
 | 0,_,_=>none
 | n+1,v1,v2 =>
  bif (decide (v2 < (a1.length:Int))) then
   chk (0≤v2∧v2 < a1.length) <|
   callE (bif ((IntKind.i64.wrap ((a1.getD v2.toNat 0).toNat:Int)) == (128:Int)) then
     some (.esc ([],(5:Int)))
    else
     call (lett (IntKind.i64.wrap ((IntKind.i64.wrap (v2+(1:Int)))+(IntKind.i64.wrap ((a1.getD v2.toNat 0).toNat:Int)))) fun z1 =>
      lett ((bif (decide ((IntKind.i64.wrap ((a1.getD v2.toNat 0).toNat:Int)) < (128:Int))) then (decide ((IntKind.i64.wrap (z1+(1:Int))) > (a1.length:Int))) else false)) fun z2 =>
      bif z2 then
       some z2
      else
       some ((IntKind.i64.wrap (v2+(1:Int))) == (a1.length:Int)))
      fun v3 =>
     bif v3 then
      some (.esc ([],(12:Int)))
     else
      bif (decide ((IntKind.i64.wrap ((a1.getD v2.toNat 0).toNat:Int)) < (128:Int))) then
       lett (IntKind.i64.wrap ((IntKind.i64.wrap (v2+(1:Int)))+(IntKind.i64.wrap ((a1.getD v2.toNat 0).toNat:Int)))) fun z3 =>
       chk (0≤(IntKind.i64.wrap (v2+(1:Int)))∧(IntKind.i64.wrap (v2+(1:Int)))≤(IntKind.i64.wrap (z3+(1:Int)))∧(IntKind.i64.wrap (z3+(1:Int)))≤(a1.length:Int)) <|
       lett (((a1.drop (IntKind.i64.wrap (v2+(1:Int))).toNat).take ((IntKind.i64.wrap (z3+(1:Int))).toNat - (IntKind.i64.wrap (v2+(1:Int))).toNat))) fun z4 =>
       call (strings_Builder_WriteString F z4 v1) fun y1 =>
       lett (IntKind.i64.wrap ((IntKind.i64.wrap (v2+(1:Int)))+(IntKind.i64.wrap ((IntKind.i64.wrap ((a1.getD v2.toNat 0).toNat:Int))+(1:Int))))) fun z5 =>
       some (.go (y1.2.2,z5))
      else
       chk (0≤(IntKind.i64.wrap (v2+(1:Int)))∧(IntKind.i64.wrap (v2+(1:Int)))≤(IntKind.i64.wrap ((IntKind.i64.wrap (v2+(1:Int)))+(1:Int)))∧(IntKind.i64.wrap ((IntKind.i64.wrap (v2+(1:Int)))+(1:Int)))≤(a1.length:Int)) <|
       lett (((a1.drop (IntKind.i64.wrap (v2+(1:Int))).toNat).take ((IntKind.i64.wrap ((IntKind.i64.wrap (v2+(1:Int)))+(1:Int))).toNat - (IntKind.i64.wrap (v2+(1:Int))).toNat))) fun z6 =>
       chk (0≤(IntKind.i64.wrap ((257:Int) - (IntKind.i64.wrap ((a1.getD v2.toNat 0).toNat:Int))))∧(IntKind.i64.wrap ((257:Int) - (IntKind.i64.wrap ((a1.getD v2.toNat 0).toNat:Int))))≤9223372036854775807∧z6.length * (IntKind.i64.wrap ((257:Int) - (IntKind.i64.wrap ((a1.getD v2.toNat 0).toNat:Int)))).toNat≤140737488355328) <|
       call (strings_Builder_WriteString F (Lib.repeatL z6 (IntKind.i64.wrap ((257:Int) - (IntKind.i64.wrap ((a1.getD v2.toNat 0).toNat:Int)))).toNat) v1) fun y2 =>
       some (.go (y2.2.2,IntKind.i64.wrap ((IntKind.i64.wrap (v2+(1:Int)))+(1:Int)))))
    (fun e=>some (.esc e)) fun (v4,v5) =>
   call (strings_Builder_Len F v4) fun y3 =>
   bif (decide (y3.1 > (65536:Int))) then
    some (.esc ([],(2:Int)))
   else
    filter_runs_decode_L0 F a1 n y3.2 v5
  else
   some (.go v1)
/-- (printworks/filter.runs).decode -/
def filter_runs_decode (F:Nat) (a0:S_filter_copies) (a1:List UInt8):Option ((List UInt8)×Int) :=
 callE (filter_runs_decode_L0 F a1 F [] (0:Int))
  (fun e=>some e) fun v6 =>
 chk (v6.length≤9223372036854775807) <|
 some (v6,(0:Int))
def filter_rows_decode_L0 (F:Nat) (a0:S_filter_rows):Nat→(List UInt8)→Int→Option ((List UInt8))
 | 0,_,_=>none
 | n+1,v1,v2 =>
  bif (decide (v2 < (v1.length:Int))) then
   chk (0≤v2∧v2 < v1.length) <|
   chk (0≤(IntKind.i64.wrap (v2 - a0.f0))∧(IntKind.i64.wrap (v2 - a0.f0)) < v1.length) <|
   lett (IntKind.u8.wrap (((v1.getD v2.toNat 0).toNat:Int)+((v1.getD (IntKind.i64.wrap (v2 - a0.f0)).toNat 0).toNat:Int))) fun z1 =>
   chk (0≤v2∧v2 < v1.length) <|
   chk (0≤z1∧z1 < 256) <|
   filter_rows_decode_L0 F a0 n (v1.set v2.toNat (UInt8.ofNat z1.toNat)) (IntKind.i64.wrap (v2+(1:Int)))
  else
   some v1
/-- (printworks/filter.rows).decode -/
def filter_rows_decode (F:Nat) (a0:S_filter_rows) (a1:List UInt8):Option ((List UInt8)×Int) :=
 call (filter_rows_decode_L0 F a0 F a1 a0.f0)
  fun v3 =>
 some (v3,(0:Int))
def filter_copies_decode_L2 (F:Nat) (a1:List UInt8) (v1:Int) (z1:Int):Nat→(List UInt8)→Int→Option ((List UInt8))
 | 0,_,_=>none
 | n+1,v2,v3 =>
  lett ((decide (v3 < (IntKind.i64.wrap ((IntKind.i64.wrap ((a1.getD v1.toNat 0).toNat:Int)) - (125:Int)))))) fun z2 =>
  bif z2 then
   chk (0≤(IntKind.i64.wrap ((v2.length:Int) - z1))∧(IntKind.i64.wrap ((v2.length:Int) - z1)) < v2.length) <|
   chk (0≤((v2.getD (IntKind.i64.wrap ((v2.length:Int) - z1)).toNat 0).toNat:Int)∧((v2.getD (IntKind.i64.wrap ((v2.length:Int) - z1)).toNat 0).toNat:Int) < 256) <|
   chk (v2.length+([(UInt8.ofNat ((v2.getD (IntKind.i64.wrap ((v2.length:Int) - z1)).toNat 0).toNat:Int).toNat)]).length≤4294967296) <|
   lett ((v2++([(UInt8.ofNat ((v2.getD (IntKind.i64.wrap ((v2.length:Int) - z1)).toNat 0).toNat:Int).toNat)]))) fun l1 =>
   filter_copies_decode_L2 F a1 v1 z1 n l1 (IntKind.i64.wrap (v3+(1:Int)))
  else
   some v2
def filter_copies_decode_L0 (F:Nat) (a1:List UInt8):Nat→(List UInt8)→Int→Option (Out ((List UInt8)) ((List UInt8)×Int))
 | 0,_,_=>none
 | n+1,v4,v1 =>
  bif (decide (v1 < (a1.length:Int))) then
   chk (0≤v1∧v1 < a1.length) <|
   callE (bif (decide ((IntKind.i64.wrap ((a1.getD v1.toNat 0).toNat:Int)) < (128:Int))) then
     lett (IntKind.i64.wrap ((IntKind.i64.wrap (v1+(1:Int)))+(IntKind.i64.wrap ((a1.getD v1.toNat 0).toNat:Int)))) fun z3 =>
     bif (decide ((IntKind.i64.wrap (z3+(1:Int))) > (a1.length:Int))) then
      some (.esc ([],(12:Int)))
     else
      lett (IntKind.i64.wrap ((IntKind.i64.wrap (v1+(1:Int)))+(IntKind.i64.wrap ((a1.getD v1.toNat 0).toNat:Int)))) fun z4 =>
      chk (0≤(IntKind.i64.wrap (v1+(1:Int)))∧(IntKind.i64.wrap (v1+(1:Int)))≤(IntKind.i64.wrap (z4+(1:Int)))∧(IntKind.i64.wrap (z4+(1:Int)))≤(a1.length:Int)) <|
      lett (((a1.drop (IntKind.i64.wrap (v1+(1:Int))).toNat).take ((IntKind.i64.wrap (z4+(1:Int))).toNat - (IntKind.i64.wrap (v1+(1:Int))).toNat))) fun z5 =>
      chk (v4.length+z5.length≤4294967296) <|
      lett (IntKind.i64.wrap ((IntKind.i64.wrap (v1+(1:Int)))+(IntKind.i64.wrap ((IntKind.i64.wrap ((a1.getD v1.toNat 0).toNat:Int))+(1:Int))))) fun z6 =>
      some (.go ((v4++z5),z6))
    else
     lett ((decide ((IntKind.i64.wrap ((IntKind.i64.wrap (v1+(1:Int)))+(2:Int))) > (a1.length:Int)))) fun z7 =>
     bif z7 then
      some (.esc ([],(12:Int)))
     else
      chk (0≤(IntKind.i64.wrap (v1+(1:Int)))∧(IntKind.i64.wrap (v1+(1:Int))) < a1.length) <|
      lett (IntKind.i64.wrap ((IntKind.i64.wrap ((a1.getD (IntKind.i64.wrap (v1+(1:Int))).toNat 0).toNat:Int)) * 2 ^ (min (8:Int).toNat IntKind.i64.bits))) fun z8 =>
      chk (0≤(IntKind.i64.wrap ((IntKind.i64.wrap (v1+(1:Int)))+(1:Int)))∧(IntKind.i64.wrap ((IntKind.i64.wrap (v1+(1:Int)))+(1:Int))) < a1.length) <|
      lett (((a1.getD (IntKind.i64.wrap ((IntKind.i64.wrap (v1+(1:Int)))+(1:Int))).toNat 0).toNat:Int)) fun z9 =>
      lett (IntKind.i64.wrap ((BitVec.ofInt IntKind.i64.bits z8 ||| BitVec.ofInt IntKind.i64.bits (IntKind.i64.wrap z9)).toNat:Int)) fun z1 =>
      bif (bif (z1 == (0:Int)) then true else (decide (z1 > (v4.length:Int)))) then
       some (.esc ([],(3:Int)))
      else
       call (filter_copies_decode_L2 F a1 v1 z1 F v4 (0:Int))
        fun v5 =>
       some (.go (v5,IntKind.i64.wrap ((IntKind.i64.wrap (v1+(1:Int)))+(2:Int)))))
    (fun e=>some (.esc e)) fun (v6,v7) =>
   bif (decide ((v6.length:Int) > (65536:Int))) then
    some (.esc ([],(2:Int)))
   else
    filter_copies_decode_L0 F a1 n v6 v7
  else
   some (.go v4)
/-- (printworks/filter.copies).decode -/
def filter_copies_decode (F:Nat) (a0:S_filter_copies) (a1:List UInt8):Option ((List UInt8)×Int) :=
 callE (filter_copies_decode_L0 F a1 F [] (0:Int))
  (fun e=>some e) fun v8 =>
 some (v8,(0:Int))
def filter_group_L0 (F:Nat) (a0:List UInt8):Nat→Int→Int→Option Int
 | 0,_,_=>none
 | n+1,v1,v2 =>
  bif (decide (v2 < (4:Int))) then
   call (bif (decide (v2 < (a0.length:Int))) then
     chk (0≤v2∧v2 < a0.length) <|
     lett (IntKind.u32.wrap ((BitVec.ofInt IntKind.u32.bits (IntKind.u32.wrap (v1 * 2 ^ (min (8:Int).toNat IntKind.u32.bits))) ||| BitVec.ofInt IntKind.u32.bits (IntKind.u32.wrap ((a0.getD v2.toNat 0).toNat:Int))).toNat:Int)) fun z1 =>
     some z1
    else
     some (IntKind.u32.wrap (v1 * 2 ^ (min (8:Int).toNat IntKind.u32.bits))))
    fun v3 =>
   filter_group_L0 F a0 n v3 (IntKind.i64.wrap (v2+(1:Int)))
  else
   some v1
def filter_group_L2 (F:Nat)  : Nat→Int→(List UInt8)→Int→Option ((List UInt8))
 | 0,_,_,_=>none
 | n+1,v4,v5,v6 =>
  bif (decide (v6 ≥ (0:Int))) then
   chk ((0≤v6∧v6 < 5)∧v6 < v5.length) <|
   chk (0≤(IntKind.u8.wrap ((33:Int)+(IntKind.u8.wrap (v4.tmod (85:Int)))))∧(IntKind.u8.wrap ((33:Int)+(IntKind.u8.wrap (v4.tmod (85:Int))))) < 256) <|
   filter_group_L2 F n (IntKind.u32.wrap (v4.tdiv (85:Int))) (v5.set v6.toNat (UInt8.ofNat (IntKind.u8.wrap ((33:Int)+(IntKind.u8.wrap (v4.tmod (85:Int))))).toNat)) (IntKind.i64.wrap (v6 - (1:Int)))
  else
   some v5
/-- printworks/filter.group -/
def filter_group (F:Nat) (a0:List UInt8):Option ((List UInt8)) :=
 call (filter_group_L0 F a0 F (0:Int) (0:Int))
  fun v7 =>
 bif (bif (v7 == (0:Int)) then ((a0.length:Int) == (4:Int)) else false) then
  some ([122]:List UInt8)
 else
  call (filter_group_L2 F F v7 (List.replicate 5 0) (4:Int))
   fun v8 =>
  chk ((0≤(0:Int)∧(0:Int)≤(IntKind.i64.wrap ((a0.length:Int)+(1:Int)))∧(IntKind.i64.wrap ((a0.length:Int)+(1:Int)))≤((5:Nat):Int))∧v8.length=5) <|
  lett (((v8.drop (0:Int).toNat).take ((IntKind.i64.wrap ((a0.length:Int)+(1:Int))).toNat - (0:Int).toNat))) fun z2 =>
  some z2
def filter_ungroup_L0 (F:Nat) (a0:List UInt8):Nat→Int→Int→Option (Out Int ((List UInt8)×Int))
 | 0,_,_=>none
 | n+1,v1,v2 =>
  bif (decide (v2 < (5:Int))) then
   callE (bif (decide (v2 < (a0.length:Int))) then
     chk (0≤v2∧v2 < a0.length) <|
     chk ((((decide (((a0.getD v2.toNat 0).toNat:Int) < (33:Int))) == false) && true)=true→0≤v2∧v2 < a0.length) <|
     lett ((bif (decide (((a0.getD v2.toNat 0).toNat:Int) < (33:Int))) then true else (decide (((a0.getD v2.toNat 0).toNat:Int) > (117:Int))))) fun z1 =>
     bif z1 then
      some (.esc ([],(5:Int)))
     else
      chk (0≤v2∧v2 < a0.length) <|
      some (.go (IntKind.u64.wrap (IntKind.u8.wrap (((a0.getD v2.toNat 0).toNat:Int) - (33:Int)))))
    else
     some (.go (84:Int)))
    (fun e=>some (.esc e)) fun v3 =>
   filter_ungroup_L0 F a0 n (IntKind.u64.wrap ((IntKind.u64.wrap (v1 * (85:Int)))+v3)) (IntKind.i64.wrap (v2+(1:Int)))
  else
   some (.go v1)
/-- printworks/filter.ungroup -/
def filter_ungroup (F:Nat) (a0:List UInt8):Option ((List UInt8)×Int) :=
 callE (filter_ungroup_L0 F a0 F (0:Int) (0:Int))
  (fun e=>some e) fun v4 =>
 bif ((a0.length:Int) == (1:Int)) then
  some ([],(12:Int))
 else
  bif ((v4.fdiv (2 ^ (min (32:Int).toNat IntKind.u64.bits))) != (0:Int)) then
   some ([],(3:Int))
  else
   chk (0≤(IntKind.u8.wrap (v4.fdiv (2 ^ (min (24:Int).toNat IntKind.u64.bits))))∧(IntKind.u8.wrap (v4.fdiv (2 ^ (min (24:Int).toNat IntKind.u64.bits)))) < 256) <|
   chk (0≤(IntKind.u8.wrap (v4.fdiv (2 ^ (min (16:Int).toNat IntKind.u64.bits))))∧(IntKind.u8.wrap (v4.fdiv (2 ^ (min (16:Int).toNat IntKind.u64.bits)))) < 256) <|
   chk (0≤(IntKind.u8.wrap (v4.fdiv (2 ^ (min (8:Int).toNat IntKind.u64.bits))))∧(IntKind.u8.wrap (v4.fdiv (2 ^ (min (8:Int).toNat IntKind.u64.bits)))) < 256) <|
   chk (0≤(IntKind.u8.wrap v4)∧(IntKind.u8.wrap v4) < 256) <|
   chk (0≤(IntKind.i64.wrap ((a0.length:Int) - (1:Int)))∧(IntKind.i64.wrap ((a0.length:Int) - (1:Int)))≤(([(UInt8.ofNat (IntKind.u8.wrap (v4.fdiv (2 ^ (min (24:Int).toNat IntKind.u64.bits)))).toNat),(UInt8.ofNat (IntKind.u8.wrap (v4.fdiv (2 ^ (min (16:Int).toNat IntKind.u64.bits)))).toNat),(UInt8.ofNat (IntKind.u8.wrap (v4.fdiv (2 ^ (min (8:Int).toNat IntKind.u64.bits)))).toNat),(UInt8.ofNat (IntKind.u8.wrap v4).toNat)]).length:Int)) <|
   lett ((([(UInt8.ofNat (IntKind.u8.wrap (v4.fdiv (2 ^ (min (24:Int).toNat IntKind.u64.bits)))).toNat),(UInt8.ofNat (IntKind.u8.wrap (v4.fdiv (2 ^ (min (16:Int).toNat IntKind.u64.bits)))).toNat),(UInt8.ofNat (IntKind.u8.wrap (v4.fdiv (2 ^ (min (8:Int).toNat IntKind.u64.bits)))).toNat),(UInt8.ofNat (IntKind.u8.wrap v4).toNat)]).take (IntKind.i64.wrap ((a0.length:Int) - (1:Int))).toNat)) fun z2 =>
   call (filter_group F z2) fun y1 =>
   bif (!(y1 == a0)) then
    some ([],(4:Int))
   else
    some (z2,(0:Int))
def filter_text_decode_L0 (F:Nat)  : Nat→(List UInt8)→(List UInt8)→Option (Out ((List UInt8)) ((List UInt8)×Int))
 | 0,_,_=>none
 | n+1,v1,v2 =>
  bif (!(v1 == [])) then
   callE (chk (0≤(0:Int)∧(0:Int) < v1.length) <|
    bif (((v1.getD (0:Int).toNat 0).toNat:Int) == (122:Int)) then
     call (strings_Builder_WriteString F ([0,0,0,0]:List UInt8) v2) fun y1 =>
     chk (0≤(1:Int)∧(1:Int)≤(v1.length:Int)∧(v1.length:Int)≤(v1.length:Int)) <|
     some (.go (((v1.drop (1:Int).toNat).take ((v1.length:Int).toNat - (1:Int).toNat)),y1.2.2))
    else
     chk (0≤(0:Int)∧(0:Int)≤(if (5:Int) < (v1.length:Int) then (5:Int) else (v1.length:Int))∧(if (5:Int) < (v1.length:Int) then (5:Int) else (v1.length:Int))≤(v1.length:Int)) <|
     lett (((v1.drop (0:Int).toNat).take ((if (5:Int) < (v1.length:Int) then (5:Int) else (v1.length:Int)).toNat - (0:Int).toNat))) fun z1 =>
     call (filter_ungroup F z1) fun y2 =>
     bif (y2.2 != (0:Int)) then
      some (.esc ([],y2.2))
     else
      call (strings_Builder_WriteString F y2.1 v2) fun y3 =>
      chk (0≤(if (5:Int) < (v1.length:Int) then (5:Int) else (v1.length:Int))∧(if (5:Int) < (v1.length:Int) then (5:Int) else (v1.length:Int))≤(v1.length:Int)∧(v1.length:Int)≤(v1.length:Int)) <|
      lett (((v1.drop (if (5:Int) < (v1.length:Int) then (5:Int) else (v1.length:Int)).toNat).take ((v1.length:Int).toNat - (if (5:Int) < (v1.length:Int) then (5:Int) else (v1.length:Int)).toNat))) fun z2 =>
      some (.go (z2,y3.2.2)))
    (fun e=>some (.esc e)) fun (v3,v4) =>
   call (strings_Builder_Len F v4) fun y4 =>
   bif (decide (y4.1 > (65536:Int))) then
    some (.esc ([],(2:Int)))
   else
    filter_text_decode_L0 F n v3 y4.2
  else
   some (.go v2)
/-- (printworks/filter.text).decode -/
def filter_text_decode (F:Nat) (a0:S_filter_copies) (a1:List UInt8):Option ((List UInt8)×Int) :=
 callE (filter_text_decode_L0 F F a1 [])
  (fun e=>some e) fun v5 =>
 chk (v5.length≤9223372036854775807) <|
 some (v5,(0:Int))
/-- the method printworks/filter.decode -/
def I_filter_coding_decode (F:Nat) (x:I_filter_coding) (a1:List UInt8):Option ((List UInt8)×Int) :=
 match x with
 | .nil=>none
 | .k_runs x=>filter_runs_decode F x a1
 | .k_rows x=>filter_rows_decode F x a1
 | .k_copies x=>filter_copies_decode F x a1
 | .k_text x=>filter_text_decode F x a1
def filter_Decode_L0 (F:Nat) (a0:List S_FilterStep):Nat→(List UInt8)→Int→Option (Out ((List UInt8)) ((List UInt8)×Int))
 | 0,_,_=>none
 | n+1,v1,v2 =>
  bif (decide (v2 ≥ (0:Int))) then
   chk (0≤v2∧v2 < a0.length) <|
   call (filter_codingOf F (a0.getD v2.toNat (S_FilterStep.mk 0 0))) fun y1 =>
   call (I_filter_coding_decode F y1 v1) fun y2 =>
   bif (y2.2 != (0:Int)) then
    some (.esc ([],y2.2))
   else
    filter_Decode_L0 F a0 n y2.1 (IntKind.i64.wrap (v2 - (1:Int)))
  else
   some (.go v1)
/-- printworks/filter.Decode -/
def filter_Decode (F:Nat) (a0:List S_FilterStep) (a1:List UInt8):Option ((List UInt8)×Int) :=
 call (filter_Check F a0) fun y3 =>
 bif (y3 != (0:Int)) then
  some ([],y3)
 else
  bif (decide ((a1.length:Int) > (65536:Int))) then
   some ([],(2:Int))
  else
   callE (filter_Decode_L0 F a0 F a1 (IntKind.i64.wrap ((a0.length:Int) - (1:Int))))
    (fun e=>some e) fun v3 =>
   bif (decide ((v3.length:Int) > (16384:Int))) then
    some ([],(2:Int))
   else
    call (strings_Clone F v3) fun y4 =>
    some (y4,(0:Int))
def ref3_Parts_L0 (F:Nat) (a0:List UInt8) (a1:Int):Nat→(List (List UInt8))→Int→Option ((List (List UInt8)))
 | 0,_,_=>none
 | n+1,v1,v2 =>
  bif (decide (v2 < (a0.length:Int))) then
   call (chk (0≤v2∧v2 < a0.length) <|
    bif (((a0.getD v2.toNat 0).toNat:Int) == a1) then
     chk (v1.length+([([]:List UInt8)]).length≤4294967296) <|
     some (v1++([([]:List UInt8)]))
    else
     chk (0≤(IntKind.i64.wrap ((v1.length:Int) - (1:Int)))∧(IntKind.i64.wrap ((v1.length:Int) - (1:Int))) < v1.length) <|
     chk (0≤v2∧v2≤(IntKind.i64.wrap (v2+(1:Int)))∧(IntKind.i64.wrap (v2+(1:Int)))≤(a0.length:Int)) <|
     chk ((v1.getD (IntKind.i64.wrap ((v1.length:Int) - (1:Int))).toNat []).length+((a0.drop v2.toNat).take ((IntKind.i64.wrap (v2+(1:Int))).toNat - v2.toNat)).length≤9223372036854775807) <|
     lett (((v1.getD (IntKind.i64.wrap ((v1.length:Int) - (1:Int))).toNat [])++((a0.drop v2.toNat).take ((IntKind.i64.wrap (v2+(1:Int))).toNat - v2.toNat)))) fun z1 =>
     chk (0≤(IntKind.i64.wrap ((v1.length:Int) - (1:Int)))∧(IntKind.i64.wrap ((v1.length:Int) - (1:Int))) < v1.length) <|
     some (v1.set (IntKind.i64.wrap ((v1.length:Int) - (1:Int))).toNat z1))
    fun v3 =>
   ref3_Parts_L0 F a0 a1 n v3 (IntKind.i64.wrap (v2+(1:Int)))
  else
   some v1
/-- printworks/printworksref3.Parts -/
def ref3_Parts (F:Nat) (a0:List UInt8) (a1:Int):Option ((List (List UInt8))) :=
 call (ref3_Parts_L0 F a0 a1 F ([([]:List UInt8)]) (0:Int))
  fun v4 =>
 some v4
/-- printworks/printworksref3.Stepped -/
def ref3_Stepped (F:Nat) (a0:Int) (a1:Bool):Option Int :=
 bif (!(((a0.tmod (2:Int)) == (1:Int)) == a1)) then
  lett (IntKind.u32.wrap ((BitVec.ofInt IntKind.u32.bits (IntKind.u32.wrap ((IntKind.u32.wrap (a0.tdiv (2:Int)))+(0:Int))) ^^^ BitVec.ofInt IntKind.u32.bits (3988292384:Int)).toNat:Int)) fun z1 =>
  some z1
 else
  some (IntKind.u32.wrap ((IntKind.u32.wrap (a0.tdiv (2:Int)))+(0:Int)))
def ref3_Check32_L2 (F:Nat) (a0:List UInt8) (v1:Int):Nat→Int→Int→Option Int
 | 0,_,_=>none
 | n+1,v2,v3 =>
  bif (decide (v3 < (8:Int))) then
   chk (0≤v1∧v1 < a0.length) <|
   chk (0≤v3) <|
   lett (IntKind.u8.wrap ((BitVec.ofInt IntKind.u8.bits (((a0.getD v1.toNat 0).toNat:Int).fdiv (2 ^ (min v3.toNat IntKind.u8.bits))) &&& BitVec.ofInt IntKind.u8.bits (1:Int)).toNat:Int)) fun z1 =>
   call (ref3_Stepped F v2 (z1 == (1:Int))) fun y1 =>
   ref3_Check32_L2 F a0 v1 n y1 (IntKind.i64.wrap (v3+(1:Int)))
  else
   some v2
def ref3_Check32_L0 (F:Nat) (a0:List UInt8):Nat→Int→Int→Option Int
 | 0,_,_=>none
 | n+1,v4,v1 =>
  bif (decide (v1 < (a0.length:Int))) then
   call (ref3_Check32_L2 F a0 v1 F v4 (0:Int))
    fun v5 =>
   ref3_Check32_L0 F a0 n v5 (IntKind.i64.wrap (v1+(1:Int)))
  else
   some v4
/-- printworks/printworksref3.Check32 -/
def ref3_Check32 (F:Nat) (a0:List UInt8):Option Int :=
 call (ref3_Check32_L0 F a0 F (4294967295:Int) (0:Int))
  fun v6 =>
 lett (IntKind.u32.wrap ((BitVec.ofInt IntKind.u32.bits v6 ^^^ BitVec.ofInt IntKind.u32.bits (4294967295:Int)).toNat:Int)) fun z2 =>
 some z2
def ref3_Hexed_L0 (F:Nat)  : Nat→Int→(List UInt8)→Int→Option ((List UInt8))
 | 0,_,_,_=>none
 | n+1,v1,v2,v3 =>
  bif (decide (v3 < (8:Int))) then
   chk (0≤(v1.tmod (16:Int))∧(v1.tmod (16:Int))≤(IntKind.u32.wrap ((v1.tmod (16:Int))+(1:Int)))∧(IntKind.u32.wrap ((v1.tmod (16:Int))+(1:Int)))≤(([48,49,50,51,52,53,54,55,56,57,97,98,99,100,101,102]:List UInt8).length:Int)) <|
   lett (((([48,49,50,51,52,53,54,55,56,57,97,98,99,100,101,102]:List UInt8).drop (v1.tmod (16:Int)).toNat).take ((IntKind.u32.wrap ((v1.tmod (16:Int))+(1:Int))).toNat - (v1.tmod (16:Int)).toNat))) fun z1 =>
   chk (z1.length+v2.length≤9223372036854775807) <|
   ref3_Hexed_L0 F n (IntKind.u32.wrap (v1.tdiv (16:Int))) (z1++v2) (IntKind.i64.wrap (v3+(1:Int)))
  else
   some v2
/-- printworks/printworksref3.Hexed -/
def ref3_Hexed (F:Nat) (a0:Int):Option ((List UInt8)) :=
 call (ref3_Hexed_L0 F F a0 [] (0:Int))
  fun v4 =>
 some v4
def ref3_Lettered_L2 (F:Nat) (a0:List UInt8) (v1:Int) (z1:Int):Nat→Int→Int→Option Int
 | 0,_,_=>none
 | n+1,v2,v3 =>
  bif (decide (v3 < (4:Int))) then
   call (bif (decide (v3 < z1)) then
     chk (0≤(IntKind.i64.wrap (v1+v3))∧(IntKind.i64.wrap (v1+v3)) < a0.length) <|
     lett (IntKind.i64.wrap ((IntKind.i64.wrap (v2 * (256:Int)))+(IntKind.i64.wrap ((a0.getD (IntKind.i64.wrap (v1+v3)).toNat 0).toNat:Int)))) fun z2 =>
     some z2
    else
     some (IntKind.i64.wrap (v2 * (256:Int))))
    fun v4 =>
   ref3_Lettered_L2 F a0 v1 z1 n v4 (IntKind.i64.wrap (v3+(1:Int)))
  else
   some v2
def ref3_Lettered_L4 (F:Nat) (z1:Int):Nat→(List UInt8)→Int→Int→Int→Option ((List UInt8))
 | 0,_,_,_,_=>none
 | n+1,v5,v6,v7,v8 =>
  bif (decide (v8 < (IntKind.i64.wrap (z1+(1:Int))))) then
   chk (v7≠0) <|
   chk (0≤(IntKind.u8.wrap (IntKind.i64.wrap ((33:Int)+(IntKind.i64.wrap (v6.tdiv v7)))))∧(IntKind.u8.wrap (IntKind.i64.wrap ((33:Int)+(IntKind.i64.wrap (v6.tdiv v7))))) < 256) <|
   chk (v5.length+([(UInt8.ofNat (IntKind.u8.wrap (IntKind.i64.wrap ((33:Int)+(IntKind.i64.wrap (v6.tdiv v7))))).toNat)]).length≤4294967296) <|
   lett ((v5++([(UInt8.ofNat (IntKind.u8.wrap (IntKind.i64.wrap ((33:Int)+(IntKind.i64.wrap (v6.tdiv v7))))).toNat)]))) fun l1 =>
   chk (v7≠0) <|
   ref3_Lettered_L4 F z1 n l1 (v6.tmod v7) (IntKind.i64.wrap (v7.tdiv (85:Int))) (IntKind.i64.wrap (v8+(1:Int)))
  else
   some v5
def ref3_Lettered_L0 (F:Nat) (a0:List UInt8):Nat→(List UInt8)→Int→Option ((List UInt8))
 | 0,_,_=>none
 | n+1,v9,v1 =>
  bif (decide (v1 < (a0.length:Int))) then
   call (lett ((if (IntKind.i64.wrap ((a0.length:Int) - v1)) < (4:Int) then (IntKind.i64.wrap ((a0.length:Int) - v1)) else (4:Int))) fun z1 =>
    call (ref3_Lettered_L2 F a0 v1 z1 F (0:Int) (0:Int))
     fun v10 =>
    bif (bif (v10 == (0:Int)) then (z1 == (4:Int)) else false) then
     chk (v9.length+([(UInt8.ofNat (122:Int).toNat)]).length≤4294967296) <|
     some (v9++([(UInt8.ofNat (122:Int).toNat)]))
    else
     call (ref3_Lettered_L4 F z1 F v9 v10 (52200625:Int) (0:Int))
      fun v11 =>
     some v11)
    fun v12 =>
   ref3_Lettered_L0 F a0 n v12 (IntKind.i64.wrap (v1+(4:Int)))
  else
   some v9
/-- printworks/printworksref3.Lettered -/
def ref3_Lettered (F:Nat) (a0:List UInt8):Option ((List UInt8)) :=
 call (ref3_Lettered_L0 F a0 F [] (0:Int))
  fun v13 =>
 some v13
def ref3_unletter_L2 (F:Nat) (a0:List UInt8) (v1:Int) (z1:Int):Nat→Int→Int→Option (Out Int ((List UInt8)×Int))
 | 0,_,_=>none
 | n+1,v2,v3 =>
  bif (decide (v3 < (5:Int))) then
   call (bif (decide (v3 < (((a0.drop v1.toNat).take (z1.toNat - v1.toNat)).length:Int))) then
     chk (0≤v3∧v3 < ((a0.drop v1.toNat).take (z1.toNat - v1.toNat)).length) <|
     lett (IntKind.i64.wrap ((((a0.drop v1.toNat).take (z1.toNat - v1.toNat)).getD v3.toNat 0).toNat:Int)) fun z2 =>
     some (IntKind.i64.wrap (z2 - (33:Int)))
    else
     some (84:Int))
    fun v4 =>
   bif (bif (decide (v4 < (0:Int))) then true else (decide (v4 > (84:Int)))) then
    some (.esc ([],(5:Int)))
   else
    ref3_unletter_L2 F a0 v1 z1 n (IntKind.i64.wrap ((IntKind.i64.wrap (v2 * (85:Int)))+v4)) (IntKind.i64.wrap (v3+(1:Int)))
  else
   some (.go v2)
def ref3_unletter_L0 (F:Nat) (a0:List UInt8):Nat→(List UInt8)→Int→Option (Out ((List UInt8)) ((List UInt8)×Int))
 | 0,_,_=>none
 | n+1,v5,v1 =>
  bif (decide (v1 < (a0.length:Int))) then
   callE (chk (0≤v1∧v1 < a0.length) <|
    bif (((a0.getD v1.toNat 0).toNat:Int) == (122:Int)) then
     chk (v5.length+([(UInt8.ofNat (0:Int).toNat),(UInt8.ofNat (0:Int).toNat),(UInt8.ofNat (0:Int).toNat),(UInt8.ofNat (0:Int).toNat)]).length≤4294967296) <|
     lett ((v5++([(UInt8.ofNat (0:Int).toNat),(UInt8.ofNat (0:Int).toNat),(UInt8.ofNat (0:Int).toNat),(UInt8.ofNat (0:Int).toNat)]))) fun l1 =>
     some (.go (l1,IntKind.i64.wrap (v1+(1:Int))))
    else
     lett ((if (IntKind.i64.wrap (v1+(5:Int))) < (a0.length:Int) then (IntKind.i64.wrap (v1+(5:Int))) else (a0.length:Int))) fun z1 =>
     chk (0≤v1∧v1≤z1∧z1≤(a0.length:Int)) <|
     callE (ref3_unletter_L2 F a0 v1 z1 F (0:Int) (0:Int))
      (fun e=>some (.esc e)) fun v6 =>
     bif ((((a0.drop v1.toNat).take (z1.toNat - v1.toNat)).length:Int) == (1:Int)) then
      some (.esc ([],(12:Int)))
     else
      bif (decide (v6 ≥ (4294967296:Int))) then
       some (.esc ([],(3:Int)))
      else
       chk (0≤(IntKind.u8.wrap (IntKind.i64.wrap (v6.tdiv (16777216:Int))))∧(IntKind.u8.wrap (IntKind.i64.wrap (v6.tdiv (16777216:Int)))) < 256) <|
       chk (0≤(IntKind.u8.wrap ((IntKind.i64.wrap (v6.tdiv (65536:Int))).tmod (256:Int)))∧(IntKind.u8.wrap ((IntKind.i64.wrap (v6.tdiv (65536:Int))).tmod (256:Int))) < 256) <|
       chk (0≤(IntKind.u8.wrap ((IntKind.i64.wrap (v6.tdiv (256:Int))).tmod (256:Int)))∧(IntKind.u8.wrap ((IntKind.i64.wrap (v6.tdiv (256:Int))).tmod (256:Int))) < 256) <|
       chk (0≤(IntKind.u8.wrap (v6.tmod (256:Int)))∧(IntKind.u8.wrap (v6.tmod (256:Int))) < 256) <|
       chk (0≤(0:Int)∧(0:Int)≤(IntKind.i64.wrap ((((a0.drop v1.toNat).take (z1.toNat - v1.toNat)).length:Int) - (1:Int)))∧(IntKind.i64.wrap ((((a0.drop v1.toNat).take (z1.toNat - v1.toNat)).length:Int) - (1:Int)))≤(([(UInt8.ofNat (IntKind.u8.wrap (IntKind.i64.wrap (v6.tdiv (16777216:Int)))).toNat),(UInt8.ofNat (IntKind.u8.wrap ((IntKind.i64.wrap (v6.tdiv (65536:Int))).tmod (256:Int))).toNat),(UInt8.ofNat (IntKind.u8.wrap ((IntKind.i64.wrap (v6.tdiv (256:Int))).tmod (256:Int))).toNat),(UInt8.ofNat (IntKind.u8.wrap (v6.tmod (256:Int))).toNat)]).length:Int)) <|
       lett (((([(UInt8.ofNat (IntKind.u8.wrap (IntKind.i64.wrap (v6.tdiv (16777216:Int)))).toNat),(UInt8.ofNat (IntKind.u8.wrap ((IntKind.i64.wrap (v6.tdiv (65536:Int))).tmod (256:Int))).toNat),(UInt8.ofNat (IntKind.u8.wrap ((IntKind.i64.wrap (v6.tdiv (256:Int))).tmod (256:Int))).toNat),(UInt8.ofNat (IntKind.u8.wrap (v6.tmod (256:Int))).toNat)]).drop (0:Int).toNat).take ((IntKind.i64.wrap ((((a0.drop v1.toNat).take (z1.toNat - v1.toNat)).length:Int) - (1:Int))).toNat - (0:Int).toNat))) fun z3 =>
       call (ref3_Lettered F z3) fun y1 =>
       bif (!(y1 == ((a0.drop v1.toNat).take (z1.toNat - v1.toNat)))) then
        some (.esc ([],(4:Int)))
       else
        lett ([(UInt8.ofNat (IntKind.u8.wrap (IntKind.i64.wrap (v6.tdiv (16777216:Int)))).toNat),(UInt8.ofNat (IntKind.u8.wrap ((IntKind.i64.wrap (v6.tdiv (65536:Int))).tmod (256:Int))).toNat),(UInt8.ofNat (IntKind.u8.wrap ((IntKind.i64.wrap (v6.tdiv (256:Int))).tmod (256:Int))).toNat),(UInt8.ofNat (IntKind.u8.wrap (v6.tmod (256:Int))).toNat)]) fun z4 =>
        chk (0≤(0:Int)∧(0:Int)≤(IntKind.i64.wrap ((((a0.drop v1.toNat).take (z1.toNat - v1.toNat)).length:Int) - (1:Int)))∧(IntKind.i64.wrap ((((a0.drop v1.toNat).take (z1.toNat - v1.toNat)).length:Int) - (1:Int)))≤(z4.length:Int)) <|
        lett (((z4.drop (0:Int).toNat).take ((IntKind.i64.wrap ((((a0.drop v1.toNat).take (z1.toNat - v1.toNat)).length:Int) - (1:Int))).toNat - (0:Int).toNat))) fun z5 =>
        chk (v5.length+z5.length≤4294967296) <|
        some (.go ((v5++z5),IntKind.i64.wrap (v1+(((a0.drop v1.toNat).take (z1.toNat - v1.toNat)).length:Int)))))
    (fun e=>some (.esc e)) fun (v7,v8) =>
   bif (decide ((v7.length:Int) > (65536:Int))) then
    some (.esc ([],(2:Int)))
   else
    ref3_unletter_L0 F a0 n v7 v8
  else
   some (.go v5)
/-- printworks/printworksref3.unletter -/
def ref3_unletter (F:Nat) (a0:List UInt8):Option ((List UInt8)×Int) :=
 callE (ref3_unletter_L0 F a0 F [] (0:Int))
  (fun e=>some e) fun v9 =>
 some (v9,(0:Int))
/-- printworks/printworksref3.digit -/
def ref3_digit (F:Nat) (a0:Int):Option Bool :=
 some (bif (decide (a0 ≥ (48:Int))) then (decide (a0≤(57:Int))) else false)
def ref3_whole_L0 (F:Nat) (a0:List UInt8):Nat→Int→Int→Option (Out Int Int)
 | 0,_,_=>none
 | n+1,v1,v2 =>
  bif (decide (v2 < (a0.length:Int))) then
   chk (0≤v2∧v2 < a0.length) <|
   call (ref3_digit F ((a0.getD v2.toNat 0).toNat:Int)) fun y1 =>
   bif (!y1) then
    some (.esc (-1:Int))
   else
    chk (0≤v2∧v2 < a0.length) <|
    lett (IntKind.i64.wrap ((IntKind.i64.wrap (v1 * (10:Int)))+(IntKind.i64.wrap ((a0.getD v2.toNat 0).toNat:Int)))) fun z1 =>
    lett ((if (1099511627776:Int) < (IntKind.i64.wrap (z1 - (48:Int))) then (1099511627776:Int) else (IntKind.i64.wrap (z1 - (48:Int))))) fun z2 =>
    ref3_whole_L0 F a0 n z2 (IntKind.i64.wrap (v2+(1:Int)))
  else
   some (.go v1)
/-- printworks/printworksref3.whole -/
def ref3_whole (F:Nat) (a0:List UInt8):Option Int :=
 bif (a0 == []) then
  some (-1:Int)
 else
  callE (ref3_whole_L0 F a0 F (0:Int) (0:Int))
   (fun e=>some e) fun v3 =>
  some v3
/-- printworks/printworksref3.Tidy -/
def ref3_Tidy (F:Nat) (a0:List UInt8):Option Int :=
 chk ((((decide ((a0.length:Int) > (1:Int))) == true) && (((decide ((a0.length:Int) > (9:Int))) == false) && true))=true→0≤(0:Int)∧(0:Int) < a0.length) <|
 lett ((bif (decide ((a0.length:Int) > (1:Int))) then (((a0.getD (0:Int).toNat 0).toNat:Int) == (48:Int)) else false)) fun z1 =>
 bif (bif (decide ((a0.length:Int) > (9:Int))) then true else z1) then
  some (-1:Int)
 else
  call (ref3_whole F a0) fun y1 =>
  some y1
def ref3_at_L0 (F:Nat) (a0:List Int) (a1:Int):Nat→Int→Option (Out Unit Int)
 | 0,_=>none
 | n+1,v1 =>
  bif (decide (v1 < (a0.length:Int))) then
   chk (0≤v1∧v1 < a0.length) <|
   bif ((a0.getD v1.toNat 0) == a1) then
    some (.esc v1)
   else
    ref3_at_L0 F a0 a1 n (IntKind.i64.wrap (v1+(1:Int)))
  else
   some (.go ())
/-- printworks/printworksref3.at -/
def ref3_at (F:Nat) (a0:List Int) (a1:Int):Option Int :=
 callE (ref3_at_L0 F a0 a1 F (0:Int))
  (fun e=>some e) fun _ =>
 some (-1:Int)
def ref3_IsName_L0 (F:Nat) (a0:List UInt8):Nat→Int→Option (Out Unit Bool)
 | 0,_=>none
 | n+1,v1 =>
  bif (decide (v1 < (a0.length:Int))) then
   chk (0≤v1∧v1 < a0.length) <|
   chk ((((decide (((a0.getD v1.toNat 0).toNat:Int) ≥ (97:Int))) == true) && true)=true→0≤v1∧v1 < a0.length) <|
   lett ((bif (decide (((a0.getD v1.toNat 0).toNat:Int) ≥ (97:Int))) then (decide (((a0.getD v1.toNat 0).toNat:Int)≤(122:Int))) else false)) fun z1 =>
   chk ((((!z1) == true) && true)=true→0≤v1∧v1 < a0.length) <|
   call ((bif (((!z1) == true) && true) then ref3_digit F ((a0.getD v1.toNat 0).toNat:Int) else some false)) fun y1 =>
   chk ((((bif (!z1) then (!y1) else false) == true) && true)=true→0≤v1∧v1 < a0.length) <|
   lett ((bif (bif (!z1) then (!y1) else false) then (((a0.getD v1.toNat 0).toNat:Int) != (45:Int)) else false)) fun z2 =>
   bif z2 then
    some (.esc false)
   else
    ref3_IsName_L0 F a0 n (IntKind.i64.wrap (v1+(1:Int)))
  else
   some (.go ())
/-- printworks/printworksref3.IsName -/
def ref3_IsName (F:Nat) (a0:List UInt8):Option Bool :=
 chk ((((bif (a0 == []) then true else (decide ((a0.length:Int) > (16:Int)))) == false) && true)=true→0≤(0:Int)∧(0:Int) < a0.length) <|
 lett ((bif (bif (a0 == []) then true else (decide ((a0.length:Int) > (16:Int)))) then true else (decide (((a0.getD (0:Int).toNat 0).toNat:Int) < (97:Int))))) fun z3 =>
 chk (((z3 == false) && true)=true→0≤(0:Int)∧(0:Int) < a0.length) <|
 bif (bif z3 then true else (decide (((a0.getD (0:Int).toNat 0).toNat:Int) > (122:Int)))) then
  some false
 else
  callE (ref3_IsName_L0 F a0 F (0:Int))
   (fun e=>some e) fun _ =>
  some true
def ref3_HasText_L0 (F:Nat) (a0:List (List UInt8)) (a1:List UInt8):Nat→Int→Option (Out Unit Bool)
 | 0,_=>none
 | n+1,v1 =>
  bif (decide (v1 < (a0.length:Int))) then
   chk (0≤v1∧v1 < a0.length) <|
   bif ((a0.getD v1.toNat []) == a1) then
    some (.esc true)
   else
    ref3_HasText_L0 F a0 a1 n (IntKind.i64.wrap (v1+(1:Int)))
  else
   some (.go ())
/-- printworks/printworksref3.HasText -/
def ref3_HasText (F:Nat) (a0:List (List UInt8)) (a1:List UInt8):Option Bool :=
 callE (ref3_HasText_L0 F a0 a1 F (0:Int))
  (fun e=>some e) fun _ =>
 some false
def ref3_Saved_L2 (F:Nat) (y1:(List (List UInt8))) (v1:List Int) (v2:List (List UInt8)):Nat→(List UInt8)→Bool→Int→Option ((List UInt8)×Bool)
 | 0,_,_,_=>none
 | n+1,v3,v4,v5 =>
  lett ((decide (v5 < (((y1.drop (2:Int).toNat).take ((y1.length:Int).toNat - (2:Int).toNat)).length:Int)))) fun z1 =>
  bif z1 then
   call (chk (0≤v5∧v5 < ((y1.drop (2:Int).toNat).take ((y1.length:Int).toNat - (2:Int).toNat)).length) <|
    lett ((((y1.drop (2:Int).toNat).take ((y1.length:Int).toNat - (2:Int).toNat)).getD v5.toNat [])) fun z2 =>
    call (call (ref3_Tidy F z2) fun y2 =>
     bif (decide (y2 ≥ (0:Int))) then
      call (ref3_at F v1 y2) fun y3 =>
      some y3
     else
      some (-1:Int))
     fun v6 =>
    lett ((bif (bif v4 then (decide (v6 ≥ (0:Int))) else false) then (decide ((v3.length:Int)≤(16384:Int))) else false)) fun z3 =>
    bif z3 then
     chk (0≤v6∧v6 < v2.length) <|
     chk (v3.length+(v2.getD v6.toNat []).length≤9223372036854775807) <|
     some ((v3++(v2.getD v6.toNat [])),(bif v4 then (decide (v6 ≥ (0:Int))) else false))
    else
     some (v3,(bif v4 then (decide (v6 ≥ (0:Int))) else false)))
    fun (v7,v8) =>
   ref3_Saved_L2 F y1 v1 v2 n v7 v8 (IntKind.i64.wrap (v5+(1:Int)))
  else
   some (v3,v4)
def ref3_Saved_L0 (F:Nat) (y4:(List (List UInt8))):Nat→(List (List UInt8))→(List (List UInt8))→(List (List UInt8))→(List Int)→(List (List UInt8))→Int→Option ((List (List UInt8))×(List (List UInt8))×(List (List UInt8)))
 | 0,_,_,_,_,_,_=>none
 | n+1,v9,v10,v11,v12,v13,v14 =>
  bif (decide (v14 < (y4.length:Int))) then
   call (chk (0≤v14∧v14 < y4.length) <|
    chk ((((decide ((IntKind.i64.wrap (((y4.getD v14.toNat []).length:Int) - (9:Int))) < (0:Int))) == false) && true)=true→0≤(IntKind.i64.wrap (((y4.getD v14.toNat []).length:Int) - (9:Int)))∧(IntKind.i64.wrap (((y4.getD v14.toNat []).length:Int) - (9:Int))) < (y4.getD v14.toNat []).length) <|
    lett ((((y4.getD v14.toNat []).getD (IntKind.i64.wrap (((y4.getD v14.toNat []).length:Int) - (9:Int))).toNat 0).toNat:Int)) fun z4 =>
    lett ((bif (decide ((IntKind.i64.wrap (((y4.getD v14.toNat []).length:Int) - (9:Int))) < (0:Int))) then true else (z4 != (32:Int)))) fun z5 =>
    chk (((z5 == false) && true)=true→0≤(0:Int)∧(0:Int)≤(IntKind.i64.wrap (((y4.getD v14.toNat []).length:Int) - (9:Int)))∧(IntKind.i64.wrap (((y4.getD v14.toNat []).length:Int) - (9:Int)))≤((y4.getD v14.toNat []).length:Int)) <|
    lett ((((y4.getD v14.toNat []).drop (0:Int).toNat).take ((IntKind.i64.wrap (((y4.getD v14.toNat []).length:Int) - (9:Int))).toNat - (0:Int).toNat))) fun z6 =>
    call ((bif ((z5 == false) && true) then ref3_Check32 F z6 else some 0)) fun y5 =>
    call ((bif ((z5 == false) && true) then ref3_Hexed F y5 else some [])) fun y6 =>
    lett (IntKind.i64.wrap ((IntKind.i64.wrap (((y4.getD v14.toNat []).length:Int) - (9:Int)))+(1:Int))) fun z7 =>
    chk (((z5 == false) && true)=true→0≤z7∧z7≤((y4.getD v14.toNat []).length:Int)∧((y4.getD v14.toNat []).length:Int)≤((y4.getD v14.toNat []).length:Int)) <|
    lett ((((y4.getD v14.toNat []).drop z7.toNat).take (((y4.getD v14.toNat []).length:Int).toNat - z7.toNat))) fun z8 =>
    bif (bif z5 then true else (!(y6 == z8))) then
     some (v12,v13,v11,v9,v10)
    else
     chk (0≤(0:Int)∧(0:Int)≤(IntKind.i64.wrap (((y4.getD v14.toNat []).length:Int) - (9:Int)))∧(IntKind.i64.wrap (((y4.getD v14.toNat []).length:Int) - (9:Int)))≤((y4.getD v14.toNat []).length:Int)) <|
     lett ((((y4.getD v14.toNat []).drop (0:Int).toNat).take ((IntKind.i64.wrap (((y4.getD v14.toNat []).length:Int) - (9:Int))).toNat - (0:Int).toNat))) fun z9 =>
     call (ref3_Parts F z9 (32:Int)) fun y1 =>
     call (chk (0≤(0:Int)∧(0:Int) < y1.length) <|
      lett ((bif ((y1.getD (0:Int).toNat []) == ([112,105,101,99,101]:List UInt8)) then ((y1.length:Int) == (3:Int)) else false)) fun z10 =>
      bif z10 then
       chk (0≤(2:Int)∧(2:Int) < y1.length) <|
       call (ref3_unletter F (y1.getD (2:Int).toNat [])) fun y7 =>
       chk (0≤(1:Int)∧(1:Int) < y1.length) <|
       call (ref3_Tidy F (y1.getD (1:Int).toNat [])) fun y8 =>
       lett ((bif (bif (decide (y8 ≥ (0:Int))) then (y7.2 == (0:Int)) else false) then (decide ((y7.1.length:Int)≤(16384:Int))) else false)) fun z11 =>
       call ((bif ((z11 == true) && true) then ref3_at F v12 y8 else some 0)) fun y9 =>
       bif (bif z11 then (decide (y9 < (0:Int))) else false) then
        chk (v12.length+([y8]).length≤4294967296) <|
        chk (v13.length+([y7.1]).length≤4294967296) <|
        some ((v12++([y8])),(v13++([y7.1])))
       else
        some (v12,v13)
      else
       some (v12,v13))
      fun (v1,v2) =>
     chk (0≤(0:Int)∧(0:Int) < y1.length) <|
     lett ((bif (!((y1.getD (0:Int).toNat []) == ([110,97,109,101]:List UInt8))) then true else (decide ((y1.length:Int) < (2:Int))))) fun z12 =>
     bif z12 then
      some (v1,v2,v11,v9,v10)
     else
      chk (0≤(2:Int)∧(2:Int)≤(y1.length:Int)∧(y1.length:Int)≤(y1.length:Int)) <|
      call (ref3_Saved_L2 F y1 v1 v2 F [] true (0:Int))
       fun (v15,v16) =>
      chk ((((bif (!v16) then true else (decide ((v15.length:Int) > (16384:Int)))) == false) && true)=true→0≤(1:Int)∧(1:Int) < y1.length) <|
      call ((bif (((bif (!v16) then true else (decide ((v15.length:Int) > (16384:Int)))) == false) && true) then ref3_IsName F (y1.getD (1:Int).toNat []) else some false)) fun y10 =>
      lett ((bif (bif (!v16) then true else (decide ((v15.length:Int) > (16384:Int)))) then true else (!y10))) fun z13 =>
      chk (((z13 == false) && true)=true→0≤(1:Int)∧(1:Int) < y1.length) <|
      call ((bif ((z13 == false) && true) then ref3_HasText F v9 (y1.getD (1:Int).toNat []) else some false)) fun y11 =>
      bif (bif (bif z13 then true else y11) then true else ((v9.length:Int) == (64:Int))) then
       chk (0≤(1:Int)∧(1:Int) < y1.length) <|
       chk (v11.length+([(y1.getD (1:Int).toNat [])]).length≤4294967296) <|
       some (v1,v2,(v11++([(y1.getD (1:Int).toNat [])])),v9,v10)
      else
       chk (0≤(1:Int)∧(1:Int) < y1.length) <|
       chk (v9.length+([(y1.getD (1:Int).toNat [])]).length≤4294967296) <|
       chk (v10.length+([v15]).length≤4294967296) <|
       some (v1,v2,v11,(v9++([(y1.getD (1:Int).toNat [])])),(v10++([v15]))))
    fun (v17,v18,v19,v20,v21) =>
   ref3_Saved_L0 F y4 n v20 v21 v19 v17 v18 (IntKind.i64.wrap (v14+(1:Int)))
  else
   some (v9,v10,v11)
/-- printworks/printworksref3.Saved -/
def ref3_Saved (F:Nat) (a0:List UInt8):Option ((List (List UInt8))×(List (List UInt8))×(List (List UInt8))) :=
 call (ref3_Parts F a0 (10:Int)) fun y4 =>
 call (ref3_Saved_L0 F y4 F [] [] [] [] [] (0:Int))
  fun (v22,v23,v24) =>
 some (v22,v23,v24)
def slices_IsSorted_string_L0 (F:Nat) (a0:List (List UInt8)):Nat→Int→Option (Out Unit Bool)
 | 0,_=>none
 | n+1,v1 =>
  bif (decide (v1 > (0:Int))) then
   chk (0≤v1∧v1 < a0.length) <|
   chk (0≤(IntKind.i64.wrap (v1 - (1:Int)))∧(IntKind.i64.wrap (v1 - (1:Int))) < a0.length) <|
   call (cmp_Less_string F (a0.getD v1.toNat []) (a0.getD (IntKind.i64.wrap (v1 - (1:Int))).toNat [])) fun y1 =>
   bif y1 then
    some (.esc false)
   else
    slices_IsSorted_string_L0 F a0 n (IntKind.i64.wrap (v1 - (1:Int)))
  else
   some (.go ())
/-- slices.IsSorted[[]string,string] -/
def slices_IsSorted_string (F:Nat) (a0:List (List UInt8)):Option Bool :=
 callE (slices_IsSorted_string_L0 F a0 F (IntKind.i64.wrap ((a0.length:Int) - (1:Int))))
  (fun e=>some e) fun _ =>
 some true
def slices_Equal_string_L0 (F:Nat) (a0:List (List UInt8)) (a1:List (List UInt8)):Nat→Int→Option (Out Unit Bool)
 | 0,_=>none
 | n+1,v1 =>
  bif (decide (v1 < (a0.length:Int))) then
   chk (0≤v1∧v1 < a0.length) <|
   chk (0≤v1∧v1 < a1.length) <|
   bif (!((a0.getD v1.toNat []) == (a1.getD v1.toNat []))) then
    some (.esc false)
   else
    slices_Equal_string_L0 F a0 a1 n (IntKind.i64.wrap (v1+(1:Int)))
  else
   some (.go ())
/-- slices.Equal[[]string,string] -/
def slices_Equal_string (F:Nat) (a0:List (List UInt8)) (a1:List (List UInt8)):Option Bool :=
 bif ((a0.length:Int) != (a1.length:Int)) then
  some false
 else
  callE (slices_Equal_string_L0 F a0 a1 F (0:Int))
   (fun e=>some e) fun _ =>
  some true
/-- slices.Clone[[]string,string] -/
def slices_Clone_string (F:Nat) (a0:List (List UInt8)):Option ((List (List UInt8))) :=
 chk (([]:List (List UInt8)).length+a0.length≤4294967296) <|
 some (([]:List (List UInt8))++a0)
end Go.Vm.ArzG
