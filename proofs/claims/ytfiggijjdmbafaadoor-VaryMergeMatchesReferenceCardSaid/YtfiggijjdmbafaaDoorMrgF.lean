import Derived.Test.YtfiggijjdmbafaaDoorVmC
import Derived.Test.YtfiggijjdmbafaaDoorVmD
import Derived.Lib.IndexAny
import Derived.Lib.Join
import Derived.Lib.ReplaceLaws
namespace Go.Vm.MrgG
structure S_VaryTable where
  f0:List (List UInt8)
  f1:List (List (List UInt8))
deriving DecidableEq
def cS_VaryTable (x:S_VaryTable):List Dat:=(cL 1 cS) x.f0++(cL 1 (cL 1 cS)) x.f1
def vary_plain_L0 (F:Nat) (a0:List UInt8):Nat→Int→Option (Out Unit Bool)
  | 0,_=>none
  | n+1,v1 =>
    bif (decide (v1 < (a0.length:Int))) then
      chk (0≤v1∧v1 < a0.length) <|
      lett ((bif (decide ((97:Int)≤((a0.getD v1.toNat 0).toNat:Int))) then (decide (((a0.getD v1.toNat 0).toNat:Int)≤(122:Int))) else false)) fun z1 =>
      lett ((bif (decide ((48:Int)≤((a0.getD v1.toNat 0).toNat:Int))) then (decide (((a0.getD v1.toNat 0).toNat:Int)≤(57:Int))) else false)) fun z2 =>
      lett ((bif (v1 == (0:Int)) then true else (bif (!z2) then (((a0.getD v1.toNat 0).toNat:Int) != (45:Int)) else false))) fun z3 =>
      bif (bif (!z1) then z3 else false) then
        some (.esc false)
      else
        vary_plain_L0 F a0 n (IntKind.i64.wrap (v1+(1:Int)))
    else
      some (.go ())
/-- printworks/vary.plain -/
def vary_plain (F:Nat) (a0:List UInt8):Option Bool :=
  callE (vary_plain_L0 F a0 F (0:Int))
    (fun e=>some e) fun _ =>
  some (bif (!(a0 == [])) then (decide ((a0.length:Int)≤(16:Int))) else false)
def slices_Index_string_L0 (F:Nat) (a0:List (List UInt8)) (a1:List UInt8):Nat→Int→Option (Out Unit Int)
  | 0,_=>none
  | n+1,v1 =>
    bif (decide (v1 < (a0.length:Int))) then
      chk (0≤v1∧v1 < a0.length) <|
      bif (a1 == (a0.getD v1.toNat [])) then
        some (.esc v1)
      else
        slices_Index_string_L0 F a0 a1 n (IntKind.i64.wrap (v1+(1:Int)))
    else
      some (.go ())
/-- slices.Index[[]string,string] -/
def slices_Index_string (F:Nat) (a0:List (List UInt8)) (a1:List UInt8):Option Int :=
  callE (slices_Index_string_L0 F a0 a1 F (0:Int))
    (fun e=>some e) fun _ =>
  some (-1:Int)
/-- slices.Contains[[]string,string] -/
def slices_Contains_string (F:Nat) (a0:List (List UInt8)) (a1:List UInt8):Option Bool :=
  call (slices_Index_string F a0 a1) fun y1 =>
  some (decide (y1 ≥ (0:Int)))
/-- (*strings.Builder).WriteString -/
def strings_Builder_WriteString (F:Nat) (a0:List UInt8) (c1:List UInt8):Option (Int×Unit×(List UInt8)) :=
  chk (c1.length+a0.length≤4294967296) <|
  some ((a0.length:Int),(),(c1++a0))
/-- (*strings.Builder).WriteByte -/
def strings_Builder_WriteByte (F:Nat) (a0:Int) (c1:List UInt8):Option (Unit×(List UInt8)) :=
  chk (0≤a0∧a0 < 256) <|
  chk (c1.length+([(UInt8.ofNat a0.toNat)]).length≤4294967296) <|
  some ((),(c1++([(UInt8.ofNat a0.toNat)])))
/-- printworks/vary.quoted -/
def vary_quoted (F:Nat) (a0:List UInt8):Option ((List UInt8)) :=
  chk ((((!(a0 == [])) == true) && true)=true→a0.length < 4294967281) <|
  bif (bif (!(a0 == [])) then (!(Lib.containsAny a0 ([44,34,10]:List UInt8))) else false) then
    some a0
  else
    chk (a0.length < 4294967281∧1≤([34]:List UInt8).length∧a0.length+Lib.count a0 ([34]:List UInt8) * ([34,34]:List UInt8).length≤140737488355328) <|
    chk (([34]:List UInt8).length+(Lib.replaceAll a0 ([34]:List UInt8) ([34,34]:List UInt8)).length≤9223372036854775807) <|
    chk ((([34]:List UInt8)++(Lib.replaceAll a0 ([34]:List UInt8) ([34,34]:List UInt8))).length+([34]:List UInt8).length≤9223372036854775807) <|
    lett (((([34]:List UInt8)++(Lib.replaceAll a0 ([34]:List UInt8) ([34,34]:List UInt8)))++([34]:List UInt8))) fun z1 =>
    some z1
/-- (*strings.Builder).Len -/
def strings_Builder_Len (F:Nat) (c0:List UInt8):Option (Int×(List UInt8)) :=
  some ((c0.length:Int),c0)
def vary_Print_L0 (F:Nat) (a0:S_VaryTable):Nat→Int→Option (Out Unit ((List UInt8)×Int))
  | 0,_=>none
  | n+1,v1 =>
    bif (decide (v1 < (a0.f0.length:Int))) then
      chk (0≤v1∧v1 < a0.f0.length) <|
      call (vary_plain F (a0.f0.getD v1.toNat [])) fun y1 =>
      bif (!y1) then
        some (.esc ([],(6:Int)))
      else
        chk (0≤(0:Int)∧(0:Int)≤v1∧v1≤(a0.f0.length:Int)) <|
        call (slices_Contains_string F ((a0.f0.drop (0:Int).toNat).take (v1.toNat - (0:Int).toNat)) (a0.f0.getD v1.toNat [])) fun y2 =>
        bif y2 then
          some (.esc ([],(7:Int)))
        else
          vary_Print_L0 F a0 n (IntKind.i64.wrap (v1+(1:Int)))
    else
      some (.go ())
def vary_Print_L4 (F:Nat) (a0:S_VaryTable) (v2:Int):Nat→(List UInt8)→Int→Option ((List UInt8))
  | 0,_,_=>none
  | n+1,v3,v4 =>
    bif (decide (v4 < ((a0.f1.getD v2.toNat []).length:Int))) then
      chk (0≤v4∧v4 < (a0.f1.getD v2.toNat []).length) <|
      call (bif (decide (v4 > (0:Int))) then
          call (strings_Builder_WriteByte F (44:Int) v3) fun y3 =>
          some y3.2
        else
          some v3)
        fun v5 =>
      call (vary_quoted F ((a0.f1.getD v2.toNat []).getD v4.toNat [])) fun y4 =>
      call (strings_Builder_WriteString F y4 v5) fun y5 =>
      vary_Print_L4 F a0 v2 n y5.2.2 (IntKind.i64.wrap (v4+(1:Int)))
    else
      some v3
def vary_Print_L2 (F:Nat) (a0:S_VaryTable):Nat→(List UInt8)→Int→Option (Out ((List UInt8)) ((List UInt8)×Int))
  | 0,_,_=>none
  | n+1,v6,v2 =>
    bif (decide (v2 < (a0.f1.length:Int))) then
      chk (0≤v2∧v2 < a0.f1.length) <|
      bif (((a0.f1.getD v2.toNat []).length:Int) != (a0.f0.length:Int)) then
        some (.esc ([],(4:Int)))
      else
        call (vary_Print_L4 F a0 v2 F v6 (0:Int))
          fun v7 =>
        call (strings_Builder_WriteByte F (10:Int) v7) fun y6 =>
        call (strings_Builder_Len F y6.2) fun y7 =>
        bif (decide (y7.1 > (8192:Int))) then
          some (.esc ([],(2:Int)))
        else
          vary_Print_L2 F a0 n y7.2 (IntKind.i64.wrap (v2+(1:Int)))
    else
      some (.go v6)
/-- printworks/vary.Print -/
def vary_Print (F:Nat) (a0:S_VaryTable):Option ((List UInt8)×Int) :=
  lett ((bif (decide ((a0.f0.length:Int) > (16:Int))) then true else (decide ((a0.f1.length:Int) > (256:Int))))) fun z1 =>
  bif z1 then
    some ([],(2:Int))
  else
    bif ((a0.f0.length:Int) == (0:Int)) then
      some ([],(8:Int))
    else
      callE (vary_Print_L0 F a0 F (0:Int))
        (fun e=>some e) fun _ =>
      chk (a0.f0.length≤140737488355328∧(Lib.join a0.f0 ([44]:List UInt8)).length≤140737488355328) <|
      chk ((Lib.join a0.f0 ([44]:List UInt8)).length+([10]:List UInt8).length≤9223372036854775807) <|
      call (strings_Builder_WriteString F ((Lib.join a0.f0 ([44]:List UInt8))++([10]:List UInt8)) []) fun y8 =>
      callE (vary_Print_L2 F a0 F y8.2.2 (0:Int))
        (fun e=>some e) fun v8 =>
      chk (v8.length≤9223372036854775807) <|
      some (v8,(0:Int))
/-- printworks/vary.Check -/
def vary_Check (F:Nat) (a0:S_VaryTable):Option Int :=
  call (vary_Print F a0) fun y1 =>
  some y1.2
/-- (*strings.Builder).Len -/
def strings_Builder_Len_v1 (F:Nat) (c0:List (List UInt8)) (c1:List (List (List UInt8))) (c2:List (List UInt8)) (c3:List UInt8) (c4:List UInt8):Option (Int×(List (List UInt8))×(List (List (List UInt8)))×(List (List UInt8))×(List UInt8)×(List UInt8)) :=
  some ((c4.length:Int),c0,c1,c2,c3,c4)
/-- (*strings.Builder).WriteString -/
def strings_Builder_WriteString_v1 (F:Nat) (a0:List UInt8) (c1:List (List UInt8)) (c2:List (List (List UInt8))) (c3:List (List UInt8)) (c4:List UInt8) (c5:List UInt8):Option (Int×Unit×(List (List UInt8))×(List (List (List UInt8)))×(List (List UInt8))×(List UInt8)×(List UInt8)) :=
  chk (c5.length+a0.length≤4294967296) <|
  some ((a0.length:Int),(),c1,c2,c3,c4,(c5++a0))
/-- (*printworks/vary.merger).put -/
def vary_merger_put (F:Nat) (a0:List UInt8) (a1:Bool) (c2:List (List UInt8)) (c3:List (List (List UInt8))) (c4:List (List UInt8)) (c5:List UInt8) (c6:List UInt8):Option ((List (List UInt8))×(List (List (List UInt8)))×(List (List UInt8))×(List UInt8)×(List UInt8)) :=
  bif (bif a1 then (decide ((c6.length:Int)≤(8192:Int))) else false) then
    call (strings_Builder_WriteString_v1 F a0 c2 c3 c4 c5 c6) fun y1 =>
    some (y1.2.2.1,y1.2.2.2.1,y1.2.2.2.2.1,y1.2.2.2.2.2.1,y1.2.2.2.2.2.2)
  else
    some (c2,c3,c4,c5,c6)
/-- internal/stringslite.HasPrefix -/
def internal_stringslite_HasPrefix (F:Nat) (a0:List UInt8) (a1:List UInt8):Option Bool :=
  chk ((((decide ((a0.length:Int) ≥ (a1.length:Int))) == true) && true)=true→0≤(0:Int)∧(0:Int)≤(a1.length:Int)∧(a1.length:Int)≤(a0.length:Int)) <|
  lett ((bif (decide ((a0.length:Int) ≥ (a1.length:Int))) then (((a0.drop (0:Int).toNat).take ((a1.length:Int).toNat - (0:Int).toNat)) == a1) else false)) fun z1 =>
  some z1
/-- strings.HasPrefix -/
def strings_HasPrefix (F:Nat) (a0:List UInt8) (a1:List UInt8):Option Bool :=
  call (internal_stringslite_HasPrefix F a0 a1) fun y1 =>
  some y1
/-- (*printworks/vary.merger).field -/
def vary_merger_field (F:Nat) (a0:List UInt8) (c1:List (List UInt8)) (c2:List (List (List UInt8))) (c3:List (List UInt8)) (c4:List UInt8) (c5:List UInt8):Option ((List UInt8)×Int×(List (List UInt8))×(List (List (List UInt8)))×(List (List UInt8))×(List UInt8)×(List UInt8)) :=
  call (slices_Index_string F c1 a0) fun y1 =>
  bif (decide (y1 < (0:Int))) then
    some ([],(6:Int),c1,c2,c3,c4,c5)
  else
    chk (0≤y1∧y1 < c3.length) <|
    some ((c3.getD y1.toNat []),(0:Int),c1,c2,c3,c4,c5)
def vary_merger_open_L0 (F:Nat) (c5:List UInt8):Nat→Int→Option Int
  | 0,_=>none
  | n+1,v1 =>
    chk ((((decide (v1 < (c5.length:Int))) == true) && true)=true→0≤v1∧v1 < c5.length) <|
    chk ((((((c5.getD v1.toNat 0).toNat:Int) == (45:Int)) == false) && (((decide (v1 < (c5.length:Int))) == true) && true))=true→0≤v1∧v1 < c5.length) <|
    chk ((((decide ((48:Int)≤((c5.getD v1.toNat 0).toNat:Int))) == true) && (((((c5.getD v1.toNat 0).toNat:Int) == (45:Int)) == false) && (((decide (v1 < (c5.length:Int))) == true) && true)))=true→0≤v1∧v1 < c5.length) <|
    lett ((bif (decide ((48:Int)≤((c5.getD v1.toNat 0).toNat:Int))) then (decide (((c5.getD v1.toNat 0).toNat:Int)≤(57:Int))) else false)) fun z1 =>
    chk ((((bif (((c5.getD v1.toNat 0).toNat:Int) == (45:Int)) then true else z1) == false) && (((decide (v1 < (c5.length:Int))) == true) && true))=true→0≤v1∧v1 < c5.length) <|
    chk ((((decide ((97:Int)≤((c5.getD v1.toNat 0).toNat:Int))) == true) && (((bif (((c5.getD v1.toNat 0).toNat:Int) == (45:Int)) then true else z1) == false) && (((decide (v1 < (c5.length:Int))) == true) && true)))=true→0≤v1∧v1 < c5.length) <|
    lett ((bif (decide ((97:Int)≤((c5.getD v1.toNat 0).toNat:Int))) then (decide (((c5.getD v1.toNat 0).toNat:Int)≤(122:Int))) else false)) fun z2 =>
    lett ((bif (bif (((c5.getD v1.toNat 0).toNat:Int) == (45:Int)) then true else z1) then true else z2)) fun z3 =>
    bif (bif (decide (v1 < (c5.length:Int))) then z3 else false) then
      vary_merger_open_L0 F c5 n (IntKind.i64.wrap (v1+(1:Int)))
    else
      some v1
/-- (*printworks/vary.merger).open -/
def vary_merger_open (F:Nat) (rec_vary_merger_run:Int→Bool→(List (List UInt8))→(List (List (List UInt8)))→(List (List UInt8))→(List UInt8)→(List UInt8)→Option (Int×(List (List UInt8))×(List (List (List UInt8)))×(List (List UInt8))×(List UInt8)×(List UInt8))) (a0:Int) (a1:Bool) (c2:List (List UInt8)) (c3:List (List (List UInt8))) (c4:List (List UInt8)) (c5:List UInt8) (c6:List UInt8):Option (Int×(List (List UInt8))×(List (List (List UInt8)))×(List (List UInt8))×(List UInt8)×(List UInt8)) :=
  call (vary_merger_open_L0 F c5 F (1:Int))
    fun v2 =>
  bif (v2 == (c5.length:Int)) then
    some ((12:Int),c2,c3,c4,c5,c6)
  else
    chk (0≤(1:Int)∧(1:Int)≤v2∧v2≤(c5.length:Int)) <|
    chk (0≤v2∧v2 < c5.length) <|
    chk (0≤(IntKind.i64.wrap (v2+(1:Int)))∧(IntKind.i64.wrap (v2+(1:Int)))≤(c5.length:Int)∧(c5.length:Int)≤(c5.length:Int)) <|
    lett (((c5.drop (IntKind.i64.wrap (v2+(1:Int))).toNat).take ((c5.length:Int).toNat - (IntKind.i64.wrap (v2+(1:Int))).toNat))) fun z4 =>
    call (vary_merger_field F ((c5.drop (1:Int).toNat).take (v2.toNat - (1:Int).toNat)) c2 c3 c4 z4 c6) fun y1 =>
    lett ((bif (((c5.getD v2.toNat 0).toNat:Int) != (125:Int)) then (((c5.getD v2.toNat 0).toNat:Int) != (63:Int)) else false)) fun z5 =>
    bif (bif z5 then (((c5.getD v2.toNat 0).toNat:Int) != (33:Int)) else false) then
      some ((5:Int),y1.2.2.1,y1.2.2.2.1,y1.2.2.2.2.1,y1.2.2.2.2.2.1,y1.2.2.2.2.2.2)
    else
      bif (y1.2.1 != (0:Int)) then
        some (y1.2.1,y1.2.2.1,y1.2.2.2.1,y1.2.2.2.2.1,y1.2.2.2.2.2.1,y1.2.2.2.2.2.2)
      else
        bif (((c5.getD v2.toNat 0).toNat:Int) == (125:Int)) then
          call (vary_merger_put F y1.1 a1 y1.2.2.1 y1.2.2.2.1 y1.2.2.2.2.1 y1.2.2.2.2.2.1 y1.2.2.2.2.2.2) fun y2 =>
          some ((0:Int),y2.1,y2.2.1,y2.2.2.1,y2.2.2.2.1,y2.2.2.2.2)
        else
          bif (a0 == (16:Int)) then
            some ((15:Int),y1.2.2.1,y1.2.2.2.1,y1.2.2.2.2.1,y1.2.2.2.2.2.1,y1.2.2.2.2.2.2)
          else
            call (rec_vary_merger_run (IntKind.i64.wrap (a0+(1:Int))) (bif a1 then ((!(y1.1 == [])) == (((c5.getD v2.toNat 0).toNat:Int) == (63:Int))) else false) y1.2.2.1 y1.2.2.2.1 y1.2.2.2.2.1 y1.2.2.2.2.2.1 y1.2.2.2.2.2.2) fun y3 =>
            some (y3.1,y3.2.1,y3.2.2.1,y3.2.2.2.1,y3.2.2.2.2.1,y3.2.2.2.2.2)
def vary_merger_run_L0 (F:Nat) (a0:Int) (a1:Bool) (rec_vary_merger_run:Int→Bool→(List (List UInt8))→(List (List (List UInt8)))→(List (List UInt8))→(List UInt8)→(List UInt8)→Option (Int×(List (List UInt8))×(List (List (List UInt8)))×(List (List UInt8))×(List UInt8)×(List UInt8))):Nat→(List (List UInt8))→(List (List (List UInt8)))→(List (List UInt8))→(List UInt8)→(List UInt8)→Option (Out ((List (List UInt8))×(List (List (List UInt8)))×(List (List UInt8))×(List UInt8)×(List UInt8)) (Int×(List (List UInt8))×(List (List (List UInt8)))×(List (List UInt8))×(List UInt8)×(List UInt8)))
  | 0,_,_,_,_,_=>none
  | n+1,v1,v2,v3,v4,v5 =>
    bif (!(v4 == [])) then
      chk (v4.length < 4294967281) <|
      call (bif (decide ((Lib.indexAny v4 ([123,125]:List UInt8)) < (0:Int))) then
          some (v4.length:Int)
        else
          some (Lib.indexAny v4 ([123,125]:List UInt8)))
        fun v6 =>
      chk (0≤(0:Int)∧(0:Int)≤v6∧v6≤(v4.length:Int)) <|
      call (vary_merger_put F ((v4.drop (0:Int).toNat).take (v6.toNat - (0:Int).toNat)) a1 v1 v2 v3 v4 v5) fun y1 =>
      chk (0≤v6∧v6≤(y1.2.2.2.1.length:Int)∧(y1.2.2.2.1.length:Int)≤(y1.2.2.2.1.length:Int)) <|
      bif (((y1.2.2.2.1.drop v6.toNat).take ((y1.2.2.2.1.length:Int).toNat - v6.toNat)) == []) then
        vary_merger_run_L0 F a0 a1 rec_vary_merger_run n y1.1 y1.2.1 y1.2.2.1 ((y1.2.2.2.1.drop v6.toNat).take ((y1.2.2.2.1.length:Int).toNat - v6.toNat)) y1.2.2.2.2
      else
        call (strings_HasPrefix F ((y1.2.2.2.1.drop v6.toNat).take ((y1.2.2.2.1.length:Int).toNat - v6.toNat)) ([123,123]:List UInt8)) fun y2 =>
        call ((bif ((y2 == false) && true) then strings_HasPrefix F ((y1.2.2.2.1.drop v6.toNat).take ((y1.2.2.2.1.length:Int).toNat - v6.toNat)) ([125,125]:List UInt8) else some false)) fun y3 =>
        bif (bif y2 then true else y3) then
          chk (0≤(0:Int)∧(0:Int)≤(1:Int)∧(1:Int)≤(((y1.2.2.2.1.drop v6.toNat).take ((y1.2.2.2.1.length:Int).toNat - v6.toNat)).length:Int)) <|
          lett (((((y1.2.2.2.1.drop v6.toNat).take ((y1.2.2.2.1.length:Int).toNat - v6.toNat)).drop (0:Int).toNat).take ((1:Int).toNat - (0:Int).toNat))) fun z1 =>
          call (vary_merger_put F z1 a1 y1.1 y1.2.1 y1.2.2.1 ((y1.2.2.2.1.drop v6.toNat).take ((y1.2.2.2.1.length:Int).toNat - v6.toNat)) y1.2.2.2.2) fun y4 =>
          chk (0≤(2:Int)∧(2:Int)≤(y4.2.2.2.1.length:Int)∧(y4.2.2.2.1.length:Int)≤(y4.2.2.2.1.length:Int)) <|
          vary_merger_run_L0 F a0 a1 rec_vary_merger_run n y4.1 y4.2.1 y4.2.2.1 ((y4.2.2.2.1.drop (2:Int).toNat).take ((y4.2.2.2.1.length:Int).toNat - (2:Int).toNat)) y4.2.2.2.2
        else
          chk (0≤(0:Int)∧(0:Int) < ((y1.2.2.2.1.drop v6.toNat).take ((y1.2.2.2.1.length:Int).toNat - v6.toNat)).length) <|
          lett (((((y1.2.2.2.1.drop v6.toNat).take ((y1.2.2.2.1.length:Int).toNat - v6.toNat)).getD (0:Int).toNat 0).toNat:Int)) fun z2 =>
          bif (bif (z2 == (125:Int)) then (decide (a0 > (0:Int))) else false) then
            chk (0≤(1:Int)∧(1:Int)≤(((y1.2.2.2.1.drop v6.toNat).take ((y1.2.2.2.1.length:Int).toNat - v6.toNat)).length:Int)∧(((y1.2.2.2.1.drop v6.toNat).take ((y1.2.2.2.1.length:Int).toNat - v6.toNat)).length:Int)≤(((y1.2.2.2.1.drop v6.toNat).take ((y1.2.2.2.1.length:Int).toNat - v6.toNat)).length:Int)) <|
            lett (((((y1.2.2.2.1.drop v6.toNat).take ((y1.2.2.2.1.length:Int).toNat - v6.toNat)).drop (1:Int).toNat).take ((((y1.2.2.2.1.drop v6.toNat).take ((y1.2.2.2.1.length:Int).toNat - v6.toNat)).length:Int).toNat - (1:Int).toNat))) fun z3 =>
            some (.esc ((0:Int),y1.1,y1.2.1,y1.2.2.1,z3,y1.2.2.2.2))
          else
            chk (0≤(0:Int)∧(0:Int) < ((y1.2.2.2.1.drop v6.toNat).take ((y1.2.2.2.1.length:Int).toNat - v6.toNat)).length) <|
            lett (((((y1.2.2.2.1.drop v6.toNat).take ((y1.2.2.2.1.length:Int).toNat - v6.toNat)).getD (0:Int).toNat 0).toNat:Int)) fun z4 =>
            bif (z4 == (125:Int)) then
              some (.esc ((5:Int),y1.1,y1.2.1,y1.2.2.1,((y1.2.2.2.1.drop v6.toNat).take ((y1.2.2.2.1.length:Int).toNat - v6.toNat)),y1.2.2.2.2))
            else
              call (vary_merger_open F rec_vary_merger_run a0 a1 y1.1 y1.2.1 y1.2.2.1 ((y1.2.2.2.1.drop v6.toNat).take ((y1.2.2.2.1.length:Int).toNat - v6.toNat)) y1.2.2.2.2) fun y5 =>
              bif (y5.1 != (0:Int)) then
                some (.esc (y5.1,y5.2.1,y5.2.2.1,y5.2.2.2.1,y5.2.2.2.2.1,y5.2.2.2.2.2))
              else
                vary_merger_run_L0 F a0 a1 rec_vary_merger_run n y5.2.1 y5.2.2.1 y5.2.2.2.1 y5.2.2.2.2.1 y5.2.2.2.2.2
    else
      some (.go (v1,v2,v3,v4,v5))
/-- (*printworks/vary.merger).run -/
def vary_merger_run_body (F:Nat) (rec_vary_merger_run:Int→Bool→(List (List UInt8))→(List (List (List UInt8)))→(List (List UInt8))→(List UInt8)→(List UInt8)→Option (Int×(List (List UInt8))×(List (List (List UInt8)))×(List (List UInt8))×(List UInt8)×(List UInt8))) (a0:Int) (a1:Bool) (c2:List (List UInt8)) (c3:List (List (List UInt8))) (c4:List (List UInt8)) (c5:List UInt8) (c6:List UInt8):Option (Int×(List (List UInt8))×(List (List (List UInt8)))×(List (List UInt8))×(List UInt8)×(List UInt8)) :=
  callE (vary_merger_run_L0 F a0 a1 rec_vary_merger_run F c2 c3 c4 c5 c6)
    (fun e=>some e) fun (v7,v8,v9,v10,v11) =>
  bif (decide (a0 > (0:Int))) then
    some ((12:Int),v7,v8,v9,v10,v11)
  else
    some ((0:Int),v7,v8,v9,v10,v11)
def vary_merger_run_fuel (F:Nat):Nat→Int→Bool→(List (List UInt8))→(List (List (List UInt8)))→(List (List UInt8))→(List UInt8)→(List UInt8)→Option (Int×(List (List UInt8))×(List (List (List UInt8)))×(List (List UInt8))×(List UInt8)×(List UInt8))
  | 0=>fun _ _ _ _ _ _ _=>none
  | n+1=>vary_merger_run_body F (vary_merger_run_fuel F n)
def vary_merger_run (F:Nat) (a0:Int) (a1:Bool) (c2:List (List UInt8)) (c3:List (List (List UInt8))) (c4:List (List UInt8)) (c5:List UInt8) (c6:List UInt8):Option (Int×(List (List UInt8))×(List (List (List UInt8)))×(List (List UInt8))×(List UInt8)×(List UInt8)):=vary_merger_run_fuel F F a0 a1 c2 c3 c4 c5 c6
/-- printworks/vary.Merge -/
def vary_Merge (F:Nat) (a0:List UInt8) (a1:S_VaryTable) (a2:Int):Option ((List UInt8)×Int) :=
  call (vary_Check F a1) fun y1 =>
  bif (y1 != (0:Int)) then
    some ([],y1)
  else
    bif (decide ((a0.length:Int) > (8192:Int))) then
      some ([],(2:Int))
    else
      bif (bif (decide (a2 < (0:Int))) then true else (decide (a2 ≥ (a1.f1.length:Int)))) then
        some ([],(3:Int))
      else
        chk (0≤a2∧a2 < a1.f1.length) <|
        call (vary_merger_run F (0:Int) true a1.f0 a1.f1 (a1.f1.getD a2.toNat []) a0 []) fun y2 =>
        bif (y2.1 != (0:Int)) then
          some ([],y2.1)
        else
          call (strings_Builder_Len_v1 F y2.2.1 y2.2.2.1 y2.2.2.2.1 y2.2.2.2.2.1 y2.2.2.2.2.2) fun y3 =>
          bif (decide (y3.1 > (8192:Int))) then
            some ([],(2:Int))
          else
            chk (y3.2.2.2.2.2.length≤9223372036854775807) <|
            some (y3.2.2.2.2.2,(0:Int))
/-- printworks/printworksref3.Merged$1 -/
def ref3_Merged_c1 (F:Nat) (a0:List UInt8) (c1:List Bool) (c2:List UInt8):Option ((List Bool)×(List UInt8)) :=
  chk (0≤(IntKind.i64.wrap ((c1.length:Int) - (1:Int)))∧(IntKind.i64.wrap ((c1.length:Int) - (1:Int))) < c1.length) <|
  lett ((bif (c1.getD (IntKind.i64.wrap ((c1.length:Int) - (1:Int))).toNat false) then (decide ((c2.length:Int)≤(8192:Int))) else false)) fun z1 =>
  bif z1 then
    chk (c2.length+a0.length≤9223372036854775807) <|
    some (c1,(c2++a0))
  else
    some (c1,c2)
/-- printworks/printworksref3.digit -/
def ref3_digit (F:Nat) (a0:Int):Option Bool :=
  some (bif (decide (a0 ≥ (48:Int))) then (decide (a0≤(57:Int))) else false)
def ref3_Merged_L3 (F:Nat) (a0:List UInt8):Nat→Int→Option Int
  | 0,_=>none
  | n+1,v1 =>
    chk ((((decide (v1 < (a0.length:Int))) == true) && true)=true→0≤v1∧v1 < a0.length) <|
    chk ((((decide (((a0.getD v1.toNat 0).toNat:Int) ≥ (97:Int))) == true) && (((decide (v1 < (a0.length:Int))) == true) && true))=true→0≤v1∧v1 < a0.length) <|
    lett ((bif (decide (((a0.getD v1.toNat 0).toNat:Int) ≥ (97:Int))) then (decide (((a0.getD v1.toNat 0).toNat:Int)≤(122:Int))) else false)) fun z1 =>
    chk (((z1 == false) && (((decide (v1 < (a0.length:Int))) == true) && true))=true→0≤v1∧v1 < a0.length) <|
    call ((bif ((z1 == false) && (((decide (v1 < (a0.length:Int))) == true) && true)) then ref3_digit F ((a0.getD v1.toNat 0).toNat:Int) else some false)) fun y1 =>
    chk ((((bif z1 then true else y1) == false) && (((decide (v1 < (a0.length:Int))) == true) && true))=true→0≤v1∧v1 < a0.length) <|
    lett ((bif (bif z1 then true else y1) then true else (((a0.getD v1.toNat 0).toNat:Int) == (45:Int)))) fun z2 =>
    bif (bif (decide (v1 < (a0.length:Int))) then z2 else false) then
      ref3_Merged_L3 F a0 n (IntKind.i64.wrap (v1+(1:Int)))
    else
      some v1
def ref3_Merged_L5 (F:Nat) (a0:List UInt8) (a1:List (List UInt8)) (v2:Int) (v3:Int):Nat→Int→Int→Option Int
  | 0,_,_=>none
  | n+1,v4,v5 =>
    bif (decide (v5 < (a1.length:Int))) then
      call (chk (0≤v5∧v5 < a1.length) <|
        chk (0≤(IntKind.i64.wrap (v2+(1:Int)))∧(IntKind.i64.wrap (v2+(1:Int)))≤v3∧v3≤(a0.length:Int)) <|
        lett (((a0.drop (IntKind.i64.wrap (v2+(1:Int))).toNat).take (v3.toNat - (IntKind.i64.wrap (v2+(1:Int))).toNat))) fun z3 =>
        bif ((a1.getD v5.toNat []) == z3) then
          some v5
        else
          some v4)
        fun v6 =>
      ref3_Merged_L5 F a0 a1 v2 v3 n v6 (IntKind.i64.wrap (v5+(1:Int)))
    else
      some v4
def ref3_Merged_L0 (F:Nat) (a0:List UInt8) (a1:List (List UInt8)) (a2:List (List UInt8)):Nat→(List UInt8)→(List Bool)→Int→Option (Out ((List UInt8)×(List Bool)) ((List UInt8)×Int))
  | 0,_,_,_=>none
  | n+1,v7,v8,v2 =>
    bif (decide (v2 < (a0.length:Int))) then
      chk ((((decide ((IntKind.i64.wrap (v2+(1:Int))) < (a0.length:Int))) == true) && true)=true→0≤(IntKind.i64.wrap (v2+(1:Int)))∧(IntKind.i64.wrap (v2+(1:Int))) < a0.length) <|
      chk ((((decide ((IntKind.i64.wrap (v2+(1:Int))) < (a0.length:Int))) == true) && true)=true→0≤v2∧v2 < a0.length) <|
      lett ((((a0.getD (IntKind.i64.wrap (v2+(1:Int))).toNat 0).toNat:Int) == ((a0.getD v2.toNat 0).toNat:Int))) fun z4 =>
      chk (0≤v2∧v2 < a0.length) <|
      chk ((((((a0.getD v2.toNat 0).toNat:Int) == (123:Int)) == false) && true)=true→0≤v2∧v2 < a0.length) <|
      lett ((bif (((a0.getD v2.toNat 0).toNat:Int) == (123:Int)) then true else (((a0.getD v2.toNat 0).toNat:Int) == (125:Int)))) fun z5 =>
      lett ((bif z5 then (bif (decide ((IntKind.i64.wrap (v2+(1:Int))) < (a0.length:Int))) then z4 else false) else false)) fun z6 =>
      bif z6 then
        chk (0≤v2∧v2≤(IntKind.i64.wrap (v2+(1:Int)))∧(IntKind.i64.wrap (v2+(1:Int)))≤(a0.length:Int)) <|
        call (ref3_Merged_c1 F ((a0.drop v2.toNat).take ((IntKind.i64.wrap (v2+(1:Int))).toNat - v2.toNat)) v8 v7) fun y2 =>
        ref3_Merged_L0 F a0 a1 a2 n y2.2 y2.1 (IntKind.i64.wrap (v2+(2:Int)))
      else
        chk (0≤v2∧v2 < a0.length) <|
        lett ((bif (((a0.getD v2.toNat 0).toNat:Int) == (125:Int)) then ((v8.length:Int) == (1:Int)) else false)) fun z7 =>
        bif z7 then
          some (.esc ([],(5:Int)))
        else
          chk (0≤v2∧v2 < a0.length) <|
          bif (((a0.getD v2.toNat 0).toNat:Int) == (125:Int)) then
            chk (0≤(IntKind.i64.wrap ((v8.length:Int) - (1:Int)))∧(IntKind.i64.wrap ((v8.length:Int) - (1:Int)))≤(v8.length:Int)) <|
            ref3_Merged_L0 F a0 a1 a2 n v7 (v8.take (IntKind.i64.wrap ((v8.length:Int) - (1:Int))).toNat) (IntKind.i64.wrap (v2+(1:Int)))
          else
            chk (0≤v2∧v2 < a0.length) <|
            bif (((a0.getD v2.toNat 0).toNat:Int) != (123:Int)) then
              chk (0≤v2∧v2≤(IntKind.i64.wrap (v2+(1:Int)))∧(IntKind.i64.wrap (v2+(1:Int)))≤(a0.length:Int)) <|
              call (ref3_Merged_c1 F ((a0.drop v2.toNat).take ((IntKind.i64.wrap (v2+(1:Int))).toNat - v2.toNat)) v8 v7) fun y3 =>
              ref3_Merged_L0 F a0 a1 a2 n y3.2 y3.1 (IntKind.i64.wrap (v2+(1:Int)))
            else
              call (ref3_Merged_L3 F a0 F (IntKind.i64.wrap (v2+(1:Int))))
                fun v3 =>
              bif (v3 == (a0.length:Int)) then
                some (.esc ([],(12:Int)))
              else
                chk (0≤v3∧v3 < a0.length) <|
                chk ((((((a0.getD v3.toNat 0).toNat:Int) != (125:Int)) == true) && true)=true→0≤v3∧v3 < a0.length) <|
                lett ((bif (((a0.getD v3.toNat 0).toNat:Int) != (125:Int)) then (((a0.getD v3.toNat 0).toNat:Int) != (63:Int)) else false)) fun z8 =>
                chk (((z8 == true) && true)=true→0≤v3∧v3 < a0.length) <|
                bif (bif z8 then (((a0.getD v3.toNat 0).toNat:Int) != (33:Int)) else false) then
                  some (.esc ([],(5:Int)))
                else
                  call (ref3_Merged_L5 F a0 a1 v2 v3 F (-1:Int) (0:Int))
                    fun v9 =>
                  bif (decide (v9 < (0:Int))) then
                    some (.esc ([],(6:Int)))
                  else
                    chk (0≤v9∧v9 < a2.length) <|
                    callE (chk (0≤v3∧v3 < a0.length) <|
                      bif (((a0.getD v3.toNat 0).toNat:Int) == (125:Int)) then
                        call (ref3_Merged_c1 F (a2.getD v9.toNat []) v8 v7) fun y4 =>
                        some (.go (y4.2,y4.1))
                      else
                        bif (decide ((v8.length:Int) > (16:Int))) then
                          some (.esc ([],(15:Int)))
                        else
                          chk (0≤(IntKind.i64.wrap ((v8.length:Int) - (1:Int)))∧(IntKind.i64.wrap ((v8.length:Int) - (1:Int))) < v8.length) <|
                          chk ((((v8.getD (IntKind.i64.wrap ((v8.length:Int) - (1:Int))).toNat false) == true) && true)=true→0≤v3∧v3 < a0.length) <|
                          lett ((bif (v8.getD (IntKind.i64.wrap ((v8.length:Int) - (1:Int))).toNat false) then ((!((a2.getD v9.toNat []) == [])) == (((a0.getD v3.toNat 0).toNat:Int) == (63:Int))) else false)) fun z9 =>
                          chk (v8.length+([z9]).length≤4294967296) <|
                          some (.go (v7,(v8++([z9])))))
                      (fun e=>some (.esc e)) fun (v10,v11) =>
                    ref3_Merged_L0 F a0 a1 a2 n v10 v11 (IntKind.i64.wrap (v3+(1:Int)))
    else
      some (.go (v7,v8))
/-- printworks/printworksref3.Merged -/
def ref3_Merged (F:Nat) (a0:List UInt8) (a1:List (List UInt8)) (a2:List (List UInt8)):Option ((List UInt8)×Int) :=
  callE (ref3_Merged_L0 F a0 a1 a2 F [] ([true]) (0:Int))
    (fun e=>some e) fun (v12,v13) =>
  bif (decide ((v13.length:Int) > (1:Int))) then
    some ([],(12:Int))
  else
    bif (decide ((v12.length:Int) > (8192:Int))) then
      some ([],(2:Int))
    else
      some (v12,(0:Int))
end Go.Vm.MrgG
