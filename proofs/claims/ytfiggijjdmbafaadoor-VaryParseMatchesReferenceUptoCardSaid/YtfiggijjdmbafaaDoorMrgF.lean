import Derived.Test.YtfiggijjdmbafaaDoorVmC
import Derived.Test.YtfiggijjdmbafaaDoorVmD
import Derived.Lib.IndexAny
import Derived.Lib.Join
import Derived.Lib.ReplaceLaws
namespace Go.Vm.MrgG
structure S_VaryTable where
  f0:List (List UInt8)
  f1:List (List (List UInt8))
deriving DecidableEq
def cS_VaryTable (x:S_VaryTable):List Dat:=(cL 1 cS) x.f0++(cL 1 (cL 1 cS)) x.f1
def vary_plain_L0 (F:Nat) (a0:List UInt8):Nat→Int→Option (Out Unit Bool)
  | 0,_=>none
  | n+1,v1 =>
    bif (decide (v1 < (a0.length:Int))) then
      chk (0≤v1∧v1 < a0.length) <|
      lett ((bif (decide ((97:Int)≤((a0.getD v1.toNat 0).toNat:Int))) then (decide (((a0.getD v1.toNat 0).toNat:Int)≤(122:Int))) else false)) fun z1 =>
      lett ((bif (decide ((48:Int)≤((a0.getD v1.toNat 0).toNat:Int))) then (decide (((a0.getD v1.toNat 0).toNat:Int)≤(57:Int))) else false)) fun z2 =>
      lett ((bif (v1 == (0:Int)) then true else (bif (!z2) then (((a0.getD v1.toNat 0).toNat:Int) != (45:Int)) else false))) fun z3 =>
      bif (bif (!z1) then z3 else false) then
        some (.esc false)
      else
        vary_plain_L0 F a0 n (IntKind.i64.wrap (v1+(1:Int)))
    else
      some (.go ())
/-- printworks/vary.plain -/
def vary_plain (F:Nat) (a0:List UInt8):Option Bool :=
  callE (vary_plain_L0 F a0 F (0:Int))
    (fun e=>some e) fun _ =>
  some (bif (!(a0 == [])) then (decide ((a0.length:Int)≤(16:Int))) else false)
def slices_Index_string_L0 (F:Nat) (a0:List (List UInt8)) (a1:List UInt8):Nat→Int→Option (Out Unit Int)
  | 0,_=>none
  | n+1,v1 =>
    bif (decide (v1 < (a0.length:Int))) then
      chk (0≤v1∧v1 < a0.length) <|
      bif (a1 == (a0.getD v1.toNat [])) then
        some (.esc v1)
      else
        slices_Index_string_L0 F a0 a1 n (IntKind.i64.wrap (v1+(1:Int)))
    else
      some (.go ())
/-- slices.Index[[]string,string] -/
def slices_Index_string (F:Nat) (a0:List (List UInt8)) (a1:List UInt8):Option Int :=
  callE (slices_Index_string_L0 F a0 a1 F (0:Int))
    (fun e=>some e) fun _ =>
  some (-1:Int)
/-- slices.Contains[[]string,string] -/
def slices_Contains_string (F:Nat) (a0:List (List UInt8)) (a1:List UInt8):Option Bool :=
  call (slices_Index_string F a0 a1) fun y1 =>
  some (decide (y1 ≥ (0:Int)))
/-- (*strings.Builder).WriteString -/
def strings_Builder_WriteString (F:Nat) (a0:List UInt8) (c1:List UInt8):Option (Int×Unit×(List UInt8)) :=
  chk (c1.length+a0.length≤4294967296) <|
  some ((a0.length:Int),(),(c1++a0))
/-- (*strings.Builder).WriteByte -/
def strings_Builder_WriteByte (F:Nat) (a0:Int) (c1:List UInt8):Option (Unit×(List UInt8)) :=
  chk (0≤a0∧a0 < 256) <|
  chk (c1.length+([(UInt8.ofNat a0.toNat)]).length≤4294967296) <|
  some ((),(c1++([(UInt8.ofNat a0.toNat)])))
/-- printworks/vary.quoted -/
def vary_quoted (F:Nat) (a0:List UInt8):Option ((List UInt8)) :=
  chk ((((!(a0 == [])) == true) && true)=true→a0.length < 4294967281) <|
  bif (bif (!(a0 == [])) then (!(Lib.containsAny a0 ([44,34,10]:List UInt8))) else false) then
    some a0
  else
    chk (a0.length < 4294967281∧1≤([34]:List UInt8).length∧a0.length+Lib.count a0 ([34]:List UInt8) * ([34,34]:List UInt8).length≤140737488355328) <|
    chk (([34]:List UInt8).length+(Lib.replaceAll a0 ([34]:List UInt8) ([34,34]:List UInt8)).length≤9223372036854775807) <|
    chk ((([34]:List UInt8)++(Lib.replaceAll a0 ([34]:List UInt8) ([34,34]:List UInt8))).length+([34]:List UInt8).length≤9223372036854775807) <|
    lett (((([34]:List UInt8)++(Lib.replaceAll a0 ([34]:List UInt8) ([34,34]:List UInt8)))++([34]:List UInt8))) fun z1 =>
    some z1
/-- (*strings.Builder).Len -/
def strings_Builder_Len (F:Nat) (c0:List UInt8):Option (Int×(List UInt8)) :=
  some ((c0.length:Int),c0)
def vary_Print_L0 (F:Nat) (a0:S_VaryTable):Nat→Int→Option (Out Unit ((List UInt8)×Int))
  | 0,_=>none
  | n+1,v1 =>
    bif (decide (v1 < (a0.f0.length:Int))) then
      chk (0≤v1∧v1 < a0.f0.length) <|
      call (vary_plain F (a0.f0.getD v1.toNat [])) fun y1 =>
      bif (!y1) then
        some (.esc ([],(6:Int)))
      else
        chk (0≤(0:Int)∧(0:Int)≤v1∧v1≤(a0.f0.length:Int)) <|
        call (slices_Contains_string F ((a0.f0.drop (0:Int).toNat).take (v1.toNat - (0:Int).toNat)) (a0.f0.getD v1.toNat [])) fun y2 =>
        bif y2 then
          some (.esc ([],(7:Int)))
        else
          vary_Print_L0 F a0 n (IntKind.i64.wrap (v1+(1:Int)))
    else
      some (.go ())
def vary_Print_L4 (F:Nat) (a0:S_VaryTable) (v2:Int):Nat→(List UInt8)→Int→Option ((List UInt8))
  | 0,_,_=>none
  | n+1,v3,v4 =>
    bif (decide (v4 < ((a0.f1.getD v2.toNat []).length:Int))) then
      chk (0≤v4∧v4 < (a0.f1.getD v2.toNat []).length) <|
      call (bif (decide (v4 > (0:Int))) then
          call (strings_Builder_WriteByte F (44:Int) v3) fun y3 =>
          some y3.2
        else
          some v3)
        fun v5 =>
      call (vary_quoted F ((a0.f1.getD v2.toNat []).getD v4.toNat [])) fun y4 =>
      call (strings_Builder_WriteString F y4 v5) fun y5 =>
      vary_Print_L4 F a0 v2 n y5.2.2 (IntKind.i64.wrap (v4+(1:Int)))
    else
      some v3
def vary_Print_L2 (F:Nat) (a0:S_VaryTable):Nat→(List UInt8)→Int→Option (Out ((List UInt8)) ((List UInt8)×Int))
  | 0,_,_=>none
  | n+1,v6,v2 =>
    bif (decide (v2 < (a0.f1.length:Int))) then
      chk (0≤v2∧v2 < a0.f1.length) <|
      bif (((a0.f1.getD v2.toNat []).length:Int) != (a0.f0.length:Int)) then
        some (.esc ([],(4:Int)))
      else
        call (vary_Print_L4 F a0 v2 F v6 (0:Int))
          fun v7 =>
        call (strings_Builder_WriteByte F (10:Int) v7) fun y6 =>
        call (strings_Builder_Len F y6.2) fun y7 =>
        bif (decide (y7.1 > (8192:Int))) then
          some (.esc ([],(2:Int)))
        else
          vary_Print_L2 F a0 n y7.2 (IntKind.i64.wrap (v2+(1:Int)))
    else
      some (.go v6)
/-- printworks/vary.Print -/
def vary_Print (F:Nat) (a0:S_VaryTable):Option ((List UInt8)×Int) :=
  lett ((bif (decide ((a0.f0.length:Int) > (16:Int))) then true else (decide ((a0.f1.length:Int) > (256:Int))))) fun z1 =>
  bif z1 then
    some ([],(2:Int))
  else
    bif ((a0.f0.length:Int) == (0:Int)) then
      some ([],(8:Int))
    else
      callE (vary_Print_L0 F a0 F (0:Int))
        (fun e=>some e) fun _ =>
      chk (a0.f0.length≤140737488355328∧(Lib.join a0.f0 ([44]:List UInt8)).length≤140737488355328) <|
      chk ((Lib.join a0.f0 ([44]:List UInt8)).length+([10]:List UInt8).length≤9223372036854775807) <|
      call (strings_Builder_WriteString F ((Lib.join a0.f0 ([44]:List UInt8))++([10]:List UInt8)) []) fun y8 =>
      callE (vary_Print_L2 F a0 F y8.2.2 (0:Int))
        (fun e=>some e) fun v8 =>
      chk (v8.length≤9223372036854775807) <|
      some (v8,(0:Int))
/-- printworks/vary.Check -/
def vary_Check (F:Nat) (a0:S_VaryTable):Option Int :=
  call (vary_Print F a0) fun y1 =>
  some y1.2
/-- internal/stringslite.HasPrefix -/
def internal_stringslite_HasPrefix (F:Nat) (a0:List UInt8) (a1:List UInt8):Option Bool :=
  chk ((((decide ((a0.length:Int) ≥ (a1.length:Int))) == true) && true)=true→0≤(0:Int)∧(0:Int)≤(a1.length:Int)∧(a1.length:Int)≤(a0.length:Int)) <|
  lett ((bif (decide ((a0.length:Int) ≥ (a1.length:Int))) then (((a0.drop (0:Int).toNat).take ((a1.length:Int).toNat - (0:Int).toNat)) == a1) else false)) fun z1 =>
  some z1
/-- strings.HasPrefix -/
def strings_HasPrefix (F:Nat) (a0:List UInt8) (a1:List UInt8):Option Bool :=
  call (internal_stringslite_HasPrefix F a0 a1) fun y1 =>
  some y1
/-- printworks/printworksref3.digit -/
def ref3_digit (F:Nat) (a0:Int):Option Bool :=
  some (bif (decide (a0 ≥ (48:Int))) then (decide (a0≤(57:Int))) else false)
def vary_value_L0 (F:Nat) (a0:List UInt8):Nat→(List UInt8)→Int→Option (Out Unit ((List UInt8)×Int×(List UInt8)×Bool))
  | 0,_,_=>none
  | n+1,v1,v2 =>
    bif (decide ((IntKind.i64.wrap (v2+(1:Int))) < (a0.length:Int))) then
      callE (chk (0≤v2∧v2 < a0.length) <|
        bif (((a0.getD v2.toNat 0).toNat:Int) != (34:Int)) then
          chk (0≤v2∧v2 < a0.length) <|
          call (strings_Builder_WriteByte F ((a0.getD v2.toNat 0).toNat:Int) v1) fun y1 =>
          some (.go (y1.2,v2))
        else
          chk (0≤(IntKind.i64.wrap (v2+(1:Int)))∧(IntKind.i64.wrap (v2+(1:Int))) < a0.length) <|
          bif (((a0.getD (IntKind.i64.wrap (v2+(1:Int))).toNat 0).toNat:Int) == (34:Int)) then
            call (strings_Builder_WriteByte F (34:Int) v1) fun y2 =>
            some (.go (y2.2,IntKind.i64.wrap (v2+(1:Int))))
          else
            chk (0≤(IntKind.i64.wrap (v2+(1:Int)))∧(IntKind.i64.wrap (v2+(1:Int))) < a0.length) <|
            chk ((((((a0.getD (IntKind.i64.wrap (v2+(1:Int))).toNat 0).toNat:Int) == (44:Int)) == false) && true)=true→0≤(IntKind.i64.wrap (v2+(1:Int)))∧(IntKind.i64.wrap (v2+(1:Int))) < a0.length) <|
            lett ((bif (((a0.getD (IntKind.i64.wrap (v2+(1:Int))).toNat 0).toNat:Int) == (44:Int)) then true else (((a0.getD (IntKind.i64.wrap (v2+(1:Int))).toNat 0).toNat:Int) == (10:Int)))) fun z1 =>
            bif z1 then
              chk (v1.length≤9223372036854775807) <|
              chk (0≤(IntKind.i64.wrap (v2+(1:Int)))∧(IntKind.i64.wrap (v2+(1:Int))) < a0.length) <|
              chk (0≤(IntKind.i64.wrap (v2+(2:Int)))∧(IntKind.i64.wrap (v2+(2:Int)))≤(a0.length:Int)∧(a0.length:Int)≤(a0.length:Int)) <|
              lett (((a0.drop (IntKind.i64.wrap (v2+(2:Int))).toNat).take ((a0.length:Int).toNat - (IntKind.i64.wrap (v2+(2:Int))).toNat))) fun z2 =>
              some (.esc (v1,((a0.getD (IntKind.i64.wrap (v2+(1:Int))).toNat 0).toNat:Int),z2,true))
            else
              some (.esc ([],(0:Int),[],false)))
        (fun e=>some (.esc e)) fun (v3,v4) =>
      vary_value_L0 F a0 n v3 (IntKind.i64.wrap (v4+(1:Int)))
    else
      some (.go ())
/-- printworks/vary.value -/
def vary_value (F:Nat) (a0:List UInt8):Option ((List UInt8)×Int×(List UInt8)×Bool) :=
  call (strings_HasPrefix F a0 ([34]:List UInt8)) fun y3 =>
  bif (!y3) then
    chk (a0.length < 4294967281) <|
    chk ((((decide ((Lib.indexAny a0 ([44,34,10]:List UInt8)) < (1:Int))) == false) && true)=true→0≤(Lib.indexAny a0 ([44,34,10]:List UInt8))∧(Lib.indexAny a0 ([44,34,10]:List UInt8)) < a0.length) <|
    lett ((bif (decide ((Lib.indexAny a0 ([44,34,10]:List UInt8)) < (1:Int))) then true else (((a0.getD (Lib.indexAny a0 ([44,34,10]:List UInt8)).toNat 0).toNat:Int) == (34:Int)))) fun z3 =>
    bif z3 then
      some ([],(0:Int),[],false)
    else
      chk (0≤(0:Int)∧(0:Int)≤(Lib.indexAny a0 ([44,34,10]:List UInt8))∧(Lib.indexAny a0 ([44,34,10]:List UInt8))≤(a0.length:Int)) <|
      lett (((a0.drop (0:Int).toNat).take ((Lib.indexAny a0 ([44,34,10]:List UInt8)).toNat - (0:Int).toNat))) fun z4 =>
      chk (0≤(Lib.indexAny a0 ([44,34,10]:List UInt8))∧(Lib.indexAny a0 ([44,34,10]:List UInt8)) < a0.length) <|
      chk (0≤(IntKind.i64.wrap ((Lib.indexAny a0 ([44,34,10]:List UInt8))+(1:Int)))∧(IntKind.i64.wrap ((Lib.indexAny a0 ([44,34,10]:List UInt8))+(1:Int)))≤(a0.length:Int)∧(a0.length:Int)≤(a0.length:Int)) <|
      lett (((a0.drop (IntKind.i64.wrap ((Lib.indexAny a0 ([44,34,10]:List UInt8))+(1:Int))).toNat).take ((a0.length:Int).toNat - (IntKind.i64.wrap ((Lib.indexAny a0 ([44,34,10]:List UInt8))+(1:Int))).toNat))) fun z5 =>
      some (z4,((a0.getD (Lib.indexAny a0 ([44,34,10]:List UInt8)).toNat 0).toNat:Int),z5,true)
  else
    callE (vary_value_L0 F a0 F [] (1:Int))
      (fun e=>some e) fun _ =>
    some ([],(0:Int),[],false)
def vary_line_L0 (F:Nat)  : Nat→(List UInt8)→(List (List UInt8))→Option (Out Empty ((List (List UInt8))×(List UInt8)×Bool))
  | 0,_,_=>none
  | n+1,v1,v2 =>
    call (vary_value F v1) fun y1 =>
    bif (!y1.2.2.2) then
      some (.esc ([],[],false))
    else
      chk (v2.length+([y1.1]).length≤4294967296) <|
      bif (y1.2.1 == (10:Int)) then
        some (.esc ((v2++([y1.1])),y1.2.2.1,true))
      else
        vary_line_L0 F n y1.2.2.1 (v2++([y1.1]))
/-- printworks/vary.line -/
def vary_line (F:Nat) (a0:List UInt8):Option ((List (List UInt8))×(List UInt8)×Bool) :=
  callE (vary_line_L0 F F a0 [])
    (fun e=>some e) fun (s:Empty) =>
  s.elim
def vary_Parse_L0 (F:Nat)  : Nat→(List UInt8)→(List (List UInt8))→(List (List (List UInt8)))→Bool→Option (Out ((List (List UInt8))×(List (List (List UInt8)))) (S_VaryTable×Int))
  | 0,_,_,_,_=>none
  | n+1,v1,v2,v3,v4 =>
    bif (bif (!(v1 == [])) then true else v4) then
      callE (call (vary_line F v1) fun y1 =>
        bif (!y1.2.2) then
          some (.esc ((S_VaryTable.mk [] []),(5:Int)))
        else
          bif v4 then
            some (.go (y1.1,v3,y1.2.1))
          else
            chk (v3.length+([y1.1]).length≤4294967296) <|
            some (.go (v2,(v3++([y1.1])),y1.2.1)))
        (fun e=>some (.esc e)) fun (v5,v6,v7) =>
      vary_Parse_L0 F n v7 v5 v6 false
    else
      some (.go (v2,v3))
/-- printworks/vary.Parse -/
def vary_Parse (F:Nat) (a0:List UInt8):Option (S_VaryTable×Int) :=
  bif (decide ((a0.length:Int) > (8192:Int))) then
    some ((S_VaryTable.mk [] []),(2:Int))
  else
    callE (vary_Parse_L0 F F a0 [] [] true)
      (fun e=>some e) fun (v8,v9) =>
    call (vary_Check F (S_VaryTable.mk v8 v9)) fun y2 =>
    bif (y2 != (0:Int)) then
      some ((S_VaryTable.mk [] []),y2)
    else
      some ((S_VaryTable.mk v8 v9),(0:Int))
def slices_Equal_string_L0 (F:Nat) (a0:List (List UInt8)) (a1:List (List UInt8)):Nat→Int→Option (Out Unit Bool)
  | 0,_=>none
  | n+1,v1 =>
    bif (decide (v1 < (a0.length:Int))) then
      chk (0≤v1∧v1 < a0.length) <|
      chk (0≤v1∧v1 < a1.length) <|
      bif (!((a0.getD v1.toNat []) == (a1.getD v1.toNat []))) then
        some (.esc false)
      else
        slices_Equal_string_L0 F a0 a1 n (IntKind.i64.wrap (v1+(1:Int)))
    else
      some (.go ())
/-- slices.Equal[[]string,string] -/
def slices_Equal_string (F:Nat) (a0:List (List UInt8)) (a1:List (List UInt8)):Option Bool :=
  bif ((a0.length:Int) != (a1.length:Int)) then
    some false
  else
    callE (slices_Equal_string_L0 F a0 a1 F (0:Int))
      (fun e=>some e) fun _ =>
    some true
/-- printworks/printworkslaw3.tableFact -/
def law3_tableFact (F:Nat)  : Option Bool :=
  call (vary_Parse F ([97,44,98,10,49,44,34,120,34,34,121,34,10]:List UInt8)) fun y1 =>
  call ((bif (((y1.2 == (0:Int)) == true) && true) then slices_Equal_string F y1.1.f0 ([([97]:List UInt8),([98]:List UInt8)]) else some false)) fun y2 =>
  lett ((bif (bif (y1.2 == (0:Int)) then y2 else false) then ((y1.1.f1.length:Int) == (1:Int)) else false)) fun z1 =>
  chk (((z1 == true) && true)=true→0≤(0:Int)∧(0:Int) < y1.1.f1.length) <|
  call ((bif ((z1 == true) && true) then slices_Equal_string F (y1.1.f1.getD (0:Int).toNat []) ([([49]:List UInt8),([120,34,121]:List UInt8)]) else some false)) fun y3 =>
  some (bif z1 then y3 else false)
def ref3_Table_L0 (F:Nat) (a0:List UInt8):Nat→(List (List (List UInt8)))→(List (List UInt8))→(List UInt8)→Int→Int→Option (Out ((List (List (List UInt8)))×(List (List UInt8))×Int) ((List (List (List UInt8)))×Bool))
  | 0,_,_,_,_,_=>none
  | n+1,v1,v2,v3,v4,v5 =>
    bif (decide (v5 < (a0.length:Int))) then
      callE (chk (0≤v5∧v5 < a0.length) <|
        bif (bif (v4 == (2:Int)) then (((a0.getD v5.toNat 0).toNat:Int) == (34:Int)) else false) then
          some (.go (v3,(3:Int),v1,v2))
        else
          bif (v4 == (2:Int)) then
            chk (0≤v5∧v5≤(IntKind.i64.wrap (v5+(1:Int)))∧(IntKind.i64.wrap (v5+(1:Int)))≤(a0.length:Int)) <|
            chk (v3.length+((a0.drop v5.toNat).take ((IntKind.i64.wrap (v5+(1:Int))).toNat - v5.toNat)).length≤9223372036854775807) <|
            some (.go ((v3++((a0.drop v5.toNat).take ((IntKind.i64.wrap (v5+(1:Int))).toNat - v5.toNat))),v4,v1,v2))
          else
            bif (bif (v4 == (3:Int)) then (((a0.getD v5.toNat 0).toNat:Int) == (34:Int)) else false) then
              chk (v3.length+([34]:List UInt8).length≤9223372036854775807) <|
              some (.go ((v3++([34]:List UInt8)),(2:Int),v1,v2))
            else
              bif (bif (v4 == (0:Int)) then (((a0.getD v5.toNat 0).toNat:Int) == (34:Int)) else false) then
                some (.go (v3,(2:Int),v1,v2))
              else
                lett ((bif (((a0.getD v5.toNat 0).toNat:Int) == (44:Int)) then true else (((a0.getD v5.toNat 0).toNat:Int) == (10:Int)))) fun z1 =>
                bif z1 then
                  bif (v4 == (0:Int)) then
                    some (.esc ([],false))
                  else
                    chk (v2.length+([v3]).length≤4294967296) <|
                    bif (((a0.getD v5.toNat 0).toNat:Int) == (10:Int)) then
                      chk (v1.length+([(v2++([v3]))]).length≤4294967296) <|
                      some (.go ([],(0:Int),(v1++([(v2++([v3]))])),[]))
                    else
                      some (.go ([],(0:Int),v1,(v2++([v3]))))
                else
                  bif (bif (((a0.getD v5.toNat 0).toNat:Int) == (34:Int)) then true else (v4 == (3:Int))) then
                    some (.esc ([],false))
                  else
                    chk (0≤v5∧v5≤(IntKind.i64.wrap (v5+(1:Int)))∧(IntKind.i64.wrap (v5+(1:Int)))≤(a0.length:Int)) <|
                    chk (v3.length+((a0.drop v5.toNat).take ((IntKind.i64.wrap (v5+(1:Int))).toNat - v5.toNat)).length≤9223372036854775807) <|
                    some (.go ((v3++((a0.drop v5.toNat).take ((IntKind.i64.wrap (v5+(1:Int))).toNat - v5.toNat))),(1:Int),v1,v2)))
        (fun e=>some (.esc e)) fun (v6,v7,v8,v9) =>
      ref3_Table_L0 F a0 n v8 v9 v6 v7 (IntKind.i64.wrap (v5+(1:Int)))
    else
      some (.go (v1,v2,v4))
/-- printworks/printworksref3.Table -/
def ref3_Table (F:Nat) (a0:List UInt8):Option ((List (List (List UInt8)))×Bool) :=
  callE (ref3_Table_L0 F a0 F [] [] [] (0:Int) (0:Int))
    (fun e=>some e) fun (v10,v11,v12) =>
  lett ((bif (bif (v12 == (0:Int)) then (v11.isEmpty) else false) then (decide ((v10.length:Int) > (0:Int))) else false)) fun z2 =>
  some (v10,z2)
def ref3_IsName_L0 (F:Nat) (a0:List UInt8):Nat→Int→Option (Out Unit Bool)
  | 0,_=>none
  | n+1,v1 =>
    bif (decide (v1 < (a0.length:Int))) then
      chk (0≤v1∧v1 < a0.length) <|
      chk ((((decide (((a0.getD v1.toNat 0).toNat:Int) ≥ (97:Int))) == true) && true)=true→0≤v1∧v1 < a0.length) <|
      lett ((bif (decide (((a0.getD v1.toNat 0).toNat:Int) ≥ (97:Int))) then (decide (((a0.getD v1.toNat 0).toNat:Int)≤(122:Int))) else false)) fun z1 =>
      chk ((((!z1) == true) && true)=true→0≤v1∧v1 < a0.length) <|
      call ((bif (((!z1) == true) && true) then ref3_digit F ((a0.getD v1.toNat 0).toNat:Int) else some false)) fun y1 =>
      chk ((((bif (!z1) then (!y1) else false) == true) && true)=true→0≤v1∧v1 < a0.length) <|
      lett ((bif (bif (!z1) then (!y1) else false) then (((a0.getD v1.toNat 0).toNat:Int) != (45:Int)) else false)) fun z2 =>
      bif z2 then
        some (.esc false)
      else
        ref3_IsName_L0 F a0 n (IntKind.i64.wrap (v1+(1:Int)))
    else
      some (.go ())
/-- printworks/printworksref3.IsName -/
def ref3_IsName (F:Nat) (a0:List UInt8):Option Bool :=
  chk ((((bif (a0 == []) then true else (decide ((a0.length:Int) > (16:Int)))) == false) && true)=true→0≤(0:Int)∧(0:Int) < a0.length) <|
  lett ((bif (bif (a0 == []) then true else (decide ((a0.length:Int) > (16:Int)))) then true else (decide (((a0.getD (0:Int).toNat 0).toNat:Int) < (97:Int))))) fun z3 =>
  chk (((z3 == false) && true)=true→0≤(0:Int)∧(0:Int) < a0.length) <|
  bif (bif z3 then true else (decide (((a0.getD (0:Int).toNat 0).toNat:Int) > (122:Int)))) then
    some false
  else
    callE (ref3_IsName_L0 F a0 F (0:Int))
      (fun e=>some e) fun _ =>
    some true
def ref3_HasText_L0 (F:Nat) (a0:List (List UInt8)) (a1:List UInt8):Nat→Int→Option (Out Unit Bool)
  | 0,_=>none
  | n+1,v1 =>
    bif (decide (v1 < (a0.length:Int))) then
      chk (0≤v1∧v1 < a0.length) <|
      bif ((a0.getD v1.toNat []) == a1) then
        some (.esc true)
      else
        ref3_HasText_L0 F a0 a1 n (IntKind.i64.wrap (v1+(1:Int)))
    else
      some (.go ())
/-- printworks/printworksref3.HasText -/
def ref3_HasText (F:Nat) (a0:List (List UInt8)) (a1:List UInt8):Option Bool :=
  callE (ref3_HasText_L0 F a0 a1 F (0:Int))
    (fun e=>some e) fun _ =>
  some false
def ref3_Quoted_L0 (F:Nat) (a0:List UInt8):Nat→Int→Bool→Int→Option (Int×Bool)
  | 0,_,_,_=>none
  | n+1,v1,v2,v3 =>
    bif (decide (v3 < (a0.length:Int))) then
      call (chk (0≤v3∧v3 < a0.length) <|
        bif (((a0.getD v3.toNat 0).toNat:Int) == (34:Int)) then
          some (IntKind.i64.wrap (v1+(1:Int)))
        else
          some v1)
        fun v4 =>
      chk (((v2 == false) && true)=true→0≤v3∧v3 < a0.length) <|
      chk ((((bif v2 then true else (((a0.getD v3.toNat 0).toNat:Int) == (34:Int))) == false) && true)=true→0≤v3∧v3 < a0.length) <|
      lett ((bif (bif v2 then true else (((a0.getD v3.toNat 0).toNat:Int) == (34:Int))) then true else (((a0.getD v3.toNat 0).toNat:Int) == (44:Int)))) fun z1 =>
      chk (((z1 == false) && true)=true→0≤v3∧v3 < a0.length) <|
      ref3_Quoted_L0 F a0 n v4 (bif z1 then true else (((a0.getD v3.toNat 0).toNat:Int) == (10:Int))) (IntKind.i64.wrap (v3+(1:Int)))
    else
      some (v1,v2)
/-- printworks/printworksref3.Quoted -/
def ref3_Quoted (F:Nat) (a0:List UInt8):Option Int :=
  call (ref3_Quoted_L0 F a0 F (a0.length:Int) (a0 == []) (0:Int))
    fun (v5,v6) =>
  bif v6 then
    some (IntKind.i64.wrap (v5+(2:Int)))
  else
    some v5
def ref3_SameTexts_L0 (F:Nat) (a0:List (List UInt8)) (a1:List (List UInt8)):Nat→Int→Option (Out Unit Bool)
  | 0,_=>none
  | n+1,v1 =>
    bif (decide (v1 < (a0.length:Int))) then
      chk (0≤v1∧v1 < a0.length) <|
      chk (0≤v1∧v1 < a1.length) <|
      bif (!((a0.getD v1.toNat []) == (a1.getD v1.toNat []))) then
        some (.esc false)
      else
        ref3_SameTexts_L0 F a0 a1 n (IntKind.i64.wrap (v1+(1:Int)))
    else
      some (.go ())
/-- printworks/printworksref3.SameTexts -/
def ref3_SameTexts (F:Nat) (a0:List (List UInt8)) (a1:List (List UInt8)):Option Bool :=
  bif ((a0.length:Int) != (a1.length:Int)) then
    some false
  else
    callE (ref3_SameTexts_L0 F a0 a1 F (0:Int))
      (fun e=>some e) fun _ =>
    some true
def slices_EqualFunc_string_L0 (F:Nat) (a0:List (List (List UInt8))) (a1:List (List (List UInt8))):Nat→Int→Option (Out Unit Bool)
  | 0,_=>none
  | n+1,v1 =>
    bif (decide (v1 < (a0.length:Int))) then
      chk (0≤v1∧v1 < a0.length) <|
      chk (0≤v1∧v1 < a1.length) <|
      call (ref3_SameTexts F (a0.getD v1.toNat []) (a1.getD v1.toNat [])) fun y1 =>
      bif (!y1) then
        some (.esc false)
      else
        slices_EqualFunc_string_L0 F a0 a1 n (IntKind.i64.wrap (v1+(1:Int)))
    else
      some (.go ())
/-- slices.EqualFunc[[][]string,[][]string,[]string,[]string] -/
def slices_EqualFunc_string (F:Nat) (a0:List (List (List UInt8))) (a1:List (List (List UInt8))):Option Bool :=
  bif ((a0.length:Int) != (a1.length:Int)) then
    some false
  else
    callE (slices_EqualFunc_string_L0 F a0 a1 F (0:Int))
      (fun e=>some e) fun _ =>
    some true
def law3_VaryParseMatchesReference_L1 (F:Nat) (y1:(List (List (List UInt8)))×Bool):Nat→Int→Int→Option Int
  | 0,_,_=>none
  | n+1,v1,v2 =>
    bif (decide (v2 < ((y1.1.getD (0:Int).toNat []).length:Int))) then
      call (chk (0≤v2∧v2 < (y1.1.getD (0:Int).toNat []).length) <|
        call (call ((bif (((v1 == (0:Int)) == true) && true) then ref3_IsName F ((y1.1.getD (0:Int).toNat []).getD v2.toNat []) else some false)) fun y2 =>
          bif (bif (v1 == (0:Int)) then (!y2) else false) then
            some (6:Int)
          else
            some v1)
          fun v3 =>
        chk ((((v3 == (0:Int)) == true) && true)=true→0≤(0:Int)∧(0:Int) < y1.1.length) <|
        chk ((((v3 == (0:Int)) == true) && true)=true→0≤(0:Int)∧(0:Int)≤v2∧v2≤((y1.1.getD (0:Int).toNat []).length:Int)) <|
        call ((bif (((v3 == (0:Int)) == true) && true) then ref3_HasText F (((y1.1.getD (0:Int).toNat []).drop (0:Int).toNat).take (v2.toNat - (0:Int).toNat)) ((y1.1.getD (0:Int).toNat []).getD v2.toNat []) else some false)) fun y3 =>
        bif (bif (v3 == (0:Int)) then y3 else false) then
          some (7:Int)
        else
          some v3)
        fun v4 =>
      law3_VaryParseMatchesReference_L1 F y1 n v4 (IntKind.i64.wrap (v2+(1:Int)))
    else
      some v1
def law3_VaryParseMatchesReference_L3 (F:Nat) (y1:(List (List (List UInt8)))×Bool):Nat→Int→Int→Option Int
  | 0,_,_=>none
  | n+1,v5,v6 =>
    bif (decide (v6 < ((y1.1.getD (0:Int).toNat []).length:Int))) then
      chk (0≤v6∧v6 < (y1.1.getD (0:Int).toNat []).length) <|
      law3_VaryParseMatchesReference_L3 F y1 n (IntKind.i64.wrap (v5+(((y1.1.getD (0:Int).toNat []).getD v6.toNat []).length:Int))) (IntKind.i64.wrap (v6+(1:Int)))
    else
      some v5
def law3_VaryParseMatchesReference_L7 (F:Nat) (z1:List (List UInt8)):Nat→Int→Int→Option Int
  | 0,_,_=>none
  | n+1,v7,v8 =>
    bif (decide (v8 < (z1.length:Int))) then
      chk (0≤v8∧v8 < z1.length) <|
      call (ref3_Quoted F (z1.getD v8.toNat [])) fun y4 =>
      law3_VaryParseMatchesReference_L7 F z1 n (IntKind.i64.wrap (v7+(IntKind.i64.wrap ((1:Int)+y4)))) (IntKind.i64.wrap (v8+(1:Int)))
    else
      some v7
def law3_VaryParseMatchesReference_L5 (F:Nat) (y1:(List (List (List UInt8)))×Bool):Nat→Int→Int→Int→Option Int
  | 0,_,_,_=>none
  | n+1,v9,v10,v11 =>
    lett ((decide (v11 < (((y1.1.drop (1:Int).toNat).take ((y1.1.length:Int).toNat - (1:Int).toNat)).length:Int)))) fun z2 =>
    bif z2 then
      call (chk (0≤v11∧v11 < ((y1.1.drop (1:Int).toNat).take ((y1.1.length:Int).toNat - (1:Int).toNat)).length) <|
        lett ((((y1.1.drop (1:Int).toNat).take ((y1.1.length:Int).toNat - (1:Int).toNat)).getD v11.toNat [])) fun z1 =>
        call (chk ((((v9 == (0:Int)) == true) && true)=true→0≤(0:Int)∧(0:Int) < y1.1.length) <|
          lett ((bif (v9 == (0:Int)) then ((z1.length:Int) != ((y1.1.getD (0:Int).toNat []).length:Int)) else false)) fun z3 =>
          bif z3 then
            some (4:Int)
          else
            some v9)
          fun v12 =>
        call (law3_VaryParseMatchesReference_L7 F z1 F v10 (0:Int))
          fun v13 =>
        bif (bif (v12 == (0:Int)) then (decide (v13 > (8192:Int))) else false) then
          some ((2:Int),v13)
        else
          some (v12,v13))
        fun (v14,v15) =>
      law3_VaryParseMatchesReference_L5 F y1 n v14 v15 (IntKind.i64.wrap (v11+(1:Int)))
    else
      some v9
/-- printworks/printworkslaw3.VaryParseMatchesReference -/
def law3_VaryParseMatchesReference (F:Nat) (a0:List UInt8):Option Bool :=
  call (law3_tableFact F) fun y5 =>
  bif (!y5) then
    some false
  else
    call (vary_Parse F a0) fun y6 =>
    call (ref3_Table F a0) fun y1 =>
    call (bif (decide ((a0.length:Int) > (8192:Int))) then
        some (2:Int)
      else
        bif (!y1.2) then
          some (5:Int)
        else
          chk (0≤(0:Int)∧(0:Int) < y1.1.length) <|
          lett ((bif (decide (((y1.1.getD (0:Int).toNat []).length:Int) > (16:Int))) then true else (decide ((y1.1.length:Int) > (257:Int))))) fun z4 =>
          bif z4 then
            some (2:Int)
          else
            some (0:Int))
      fun v16 =>
    call (bif (v16 == (0:Int)) then
        chk (0≤(0:Int)∧(0:Int) < y1.1.length) <|
        call (law3_VaryParseMatchesReference_L1 F y1 F v16 (0:Int))
          fun v17 =>
        some v17
      else
        some v16)
      fun v18 =>
    call (bif (v18 == (0:Int)) then
        chk (0≤(0:Int)∧(0:Int) < y1.1.length) <|
        chk (0≤(0:Int)∧(0:Int) < y1.1.length) <|
        call (law3_VaryParseMatchesReference_L3 F y1 F ((y1.1.getD (0:Int).toNat []).length:Int) (0:Int))
          fun v19 =>
        chk (0≤(1:Int)∧(1:Int)≤(y1.1.length:Int)∧(y1.1.length:Int)≤(y1.1.length:Int)) <|
        call (law3_VaryParseMatchesReference_L5 F y1 F v18 v19 (0:Int))
          fun v20 =>
        some v20
      else
        some v18)
      fun v21 =>
    bif (v21 != (0:Int)) then
      lett ((bif (bif (y6.2 == v21) then ((y6.1.f0.length:Int) == (0:Int)) else false) then ((y6.1.f1.length:Int) == (0:Int)) else false)) fun z5 =>
      some z5
    else
      chk ((((y6.2 == (0:Int)) == true) && true)=true→0≤(0:Int)∧(0:Int) < y1.1.length) <|
      call ((bif (((y6.2 == (0:Int)) == true) && true) then ref3_SameTexts F y6.1.f0 (y1.1.getD (0:Int).toNat []) else some false)) fun y7 =>
      chk ((((bif (y6.2 == (0:Int)) then y7 else false) == true) && true)=true→0≤(1:Int)∧(1:Int)≤(y1.1.length:Int)∧(y1.1.length:Int)≤(y1.1.length:Int)) <|
      call ((bif (((bif (y6.2 == (0:Int)) then y7 else false) == true) && true) then slices_EqualFunc_string F y6.1.f1 ((y1.1.drop (1:Int).toNat).take ((y1.1.length:Int).toNat - (1:Int).toNat)) else some false)) fun y8 =>
      some (bif (bif (y6.2 == (0:Int)) then y7 else false) then y8 else false)
end Go.Vm.MrgG
