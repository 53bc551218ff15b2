import Derived.Test.YtcjnhgcbefkbcaaGreatDoorVmC
import Derived.Test.YtcjnhgcbefkbcaaGreatDoorVmD
import Derived.Lib.ItoaNum
import Derived.Lib.ReplaceLaws
namespace Go.Vm.PreG
structure S_PrepressTerm where
  f0:Int
  f1:List UInt8
deriving DecidableEq
def cS_PrepressTerm (x:S_PrepressTerm):List Dat:=(cI .i64) x.f0++cS x.f1
structure S_PrepressCond where
  f0:Int
  f1:List S_PrepressTerm
  f2:Int
  f3:Int
  f4:List S_PrepressCond
mutual
def rS_PrepressCond:S_PrepressCond→List Dat
  | ⟨x0,x1,x2,x3,x4⟩=>(cI .i64) x0++(cL 2 cS_PrepressTerm) x1++(cI .i64) x2++(cI .i64) x3++[Dat.sl 5 (rsS_PrepressCond x4)]
def rsS_PrepressCond:List S_PrepressCond→List (List Dat)
  | []=>[]
  | x :: l=>rS_PrepressCond x :: rsS_PrepressCond l
end
theorem rsS_PrepressCond_eq:∀ l,rsS_PrepressCond l=l.map rS_PrepressCond
  | []=>rfl
  | x :: l=>congrArg (rS_PrepressCond x :: ·) (rsS_PrepressCond_eq l)
def cS_PrepressCond (x:S_PrepressCond):List Dat:=(cI .i64) x.f0++(cL 2 cS_PrepressTerm) x.f1++(cI .i64) x.f2++(cI .i64) x.f3++(cL 5 rS_PrepressCond) x.f4
theorem rS_PrepressCond_eq:∀ x,rS_PrepressCond x=cS_PrepressCond x
  | ⟨x0,x1,x2,x3,x4⟩=>by simp only [rS_PrepressCond,cS_PrepressCond,rsS_PrepressCond_eq,cL]
structure S_PrepressRule where
  f0:List UInt8
  f1:S_PrepressCond
def cS_PrepressRule (x:S_PrepressRule):List Dat:=cS x.f0++cS_PrepressCond x.f1
structure S_PrepressFinding where
  f0:List UInt8
  f1:Bool
  f2:List (List UInt8)
deriving DecidableEq
def cS_PrepressFinding (x:S_PrepressFinding):List Dat:=cS x.f0++cB x.f1++(cL 1 cS) x.f2
structure S_PrepressFact where
  f0:List UInt8
  f1:Int
deriving DecidableEq
def cS_PrepressFact (x:S_PrepressFact):List Dat:=cS x.f0++(cI .i64) x.f1
structure S_ref3_wait where
  f0:S_PrepressCond
  f1:Int
def cS_ref3_wait (x:S_ref3_wait):List Dat:=cS_PrepressCond x.f0++(cI .i64) x.f1
def glob_internal_strconv_uint64pow10:List Int:=[1,10,100,1000,10000,100000,1000000,10000000,100000000,1000000000,10000000000,100000000000,1000000000000,10000000000000,100000000000000,1000000000000000,10000000000000000,100000000000000000,1000000000000000000,10000000000000000000]
/-- printworks/printworkslaw3.rule -/
def law3_rule (F:Nat) (a0:List UInt8) (a1:Int) (a2:Int):Option S_PrepressRule :=
  some (S_PrepressRule.mk ([97]:List UInt8) (S_PrepressCond.mk 0 ([(S_PrepressTerm.mk (1:Int) a0)]) a1 a2 []))
def slices_Index_string_L0 (F:Nat) (a0:List (List UInt8)) (a1:List UInt8):Nat→Int→Option (Out Unit Int)
  | 0,_=>none
  | n+1,v1 =>
    bif (decide (v1 < (a0.length:Int))) then
      chk (0≤v1∧v1 < a0.length) <|
      bif (a1 == (a0.getD v1.toNat [])) then
        some (.esc v1)
      else
        slices_Index_string_L0 F a0 a1 n (IntKind.i64.wrap (v1+(1:Int)))
    else
      some (.go ())
/-- slices.Index[[]string,string] -/
def slices_Index_string (F:Nat) (a0:List (List UInt8)) (a1:List UInt8):Option Int :=
  callE (slices_Index_string_L0 F a0 a1 F (0:Int))
    (fun e=>some e) fun _ =>
  some (-1:Int)
/-- slices.Contains[[]string,string] -/
def slices_Contains_string (F:Nat) (a0:List (List UInt8)) (a1:List UInt8):Option Bool :=
  call (slices_Index_string F a0 a1) fun y1 =>
  some (decide (y1 ≥ (0:Int)))
def prepress_plain_L0 (F:Nat) (a0:List UInt8):Nat→Int→Option (Out Unit Bool)
  | 0,_=>none
  | n+1,v1 =>
    bif (decide (v1 < (a0.length:Int))) then
      chk (0≤v1∧v1 < a0.length) <|
      lett ((bif (decide ((97:Int)≤((a0.getD v1.toNat 0).toNat:Int))) then (decide (((a0.getD v1.toNat 0).toNat:Int)≤(122:Int))) else false)) fun z1 =>
      lett ((bif (decide ((48:Int)≤((a0.getD v1.toNat 0).toNat:Int))) then (decide (((a0.getD v1.toNat 0).toNat:Int)≤(57:Int))) else false)) fun z2 =>
      lett ((bif (v1 == (0:Int)) then true else (bif (!z2) then (((a0.getD v1.toNat 0).toNat:Int) != (45:Int)) else false))) fun z3 =>
      bif (bif (!z1) then z3 else false) then
        some (.esc false)
      else
        prepress_plain_L0 F a0 n (IntKind.i64.wrap (v1+(1:Int)))
    else
      some (.go ())
/-- printworks/prepress.plain -/
def prepress_plain (F:Nat) (a0:List UInt8):Option Bool :=
  callE (prepress_plain_L0 F a0 F (0:Int))
    (fun e=>some e) fun _ =>
  call ((bif (((bif (!(a0 == [])) then (decide ((a0.length:Int)≤(16:Int))) else false) == true) && true) then slices_Contains_string F ([([114,117,108,101]:List UInt8),([110,111,116]:List UInt8),([97,110,100]:List UInt8),([111,114]:List UInt8)]) a0 else some false)) fun y1 =>
  lett ((bif (bif (!(a0 == [])) then (decide ((a0.length:Int)≤(16:Int))) else false) then (!y1) else false)) fun z4 =>
  some z4
/-- printworks/prepress.Check$1 -/
def prepress_Check_c1 (F:Nat) (a0:S_PrepressRule) (c1:List UInt8) (c2:Int) (c3:List S_PrepressTerm) (c4:Int) (c5:Int) (c6:List S_PrepressCond):Option (Bool×(List UInt8)×Int×(List S_PrepressTerm)×Int×Int×(List S_PrepressCond)) :=
  some ((a0.f0 == c1),c1,c2,c3,c4,c5,c6)
def slices_IndexFunc_PrepressRule_L0 (F:Nat) (a0:List S_PrepressRule):Nat→Int→(List UInt8)→Int→(List S_PrepressTerm)→Int→Int→(List S_PrepressCond)→Option (Out ((List UInt8)×Int×(List S_PrepressTerm)×Int×Int×(List S_PrepressCond)) (Int×(List UInt8)×Int×(List S_PrepressTerm)×Int×Int×(List S_PrepressCond)))
  | 0,_,_,_,_,_,_,_=>none
  | n+1,v1,v2,v3,v4,v5,v6,v7 =>
    bif (decide (v1 < (a0.length:Int))) then
      chk (0≤v1∧v1 < a0.length) <|
      call (prepress_Check_c1 F (a0.getD v1.toNat (S_PrepressRule.mk [] (S_PrepressCond.mk 0 [] 0 0 []))) v2 v3 v4 v5 v6 v7) fun y1 =>
      bif y1.1 then
        some (.esc (v1,y1.2.1,y1.2.2.1,y1.2.2.2.1,y1.2.2.2.2.1,y1.2.2.2.2.2.1,y1.2.2.2.2.2.2))
      else
        slices_IndexFunc_PrepressRule_L0 F a0 n (IntKind.i64.wrap (v1+(1:Int))) y1.2.1 y1.2.2.1 y1.2.2.2.1 y1.2.2.2.2.1 y1.2.2.2.2.2.1 y1.2.2.2.2.2.2
    else
      some (.go (v2,v3,v4,v5,v6,v7))
/-- slices.IndexFunc[[]printworks/api.PrepressRule,printworks/api.PrepressRule] -/
def slices_IndexFunc_PrepressRule (F:Nat) (a0:List S_PrepressRule) (c1:List UInt8) (c2:Int) (c3:List S_PrepressTerm) (c4:Int) (c5:Int) (c6:List S_PrepressCond):Option (Int×(List UInt8)×Int×(List S_PrepressTerm)×Int×Int×(List S_PrepressCond)) :=
  callE (slices_IndexFunc_PrepressRule_L0 F a0 F (0:Int) c1 c2 c3 c4 c5 c6)
    (fun e=>some e) fun (v8,v9,v10,v11,v12,v13) =>
  some ((-1:Int),v8,v9,v10,v11,v12,v13)
/-- slices.ContainsFunc[[]printworks/api.PrepressRule,printworks/api.PrepressRule] -/
def slices_ContainsFunc_PrepressRule (F:Nat) (a0:List S_PrepressRule) (c1:List UInt8) (c2:Int) (c3:List S_PrepressTerm) (c4:Int) (c5:Int) (c6:List S_PrepressCond):Option (Bool×(List UInt8)×Int×(List S_PrepressTerm)×Int×Int×(List S_PrepressCond)) :=
  call (slices_IndexFunc_PrepressRule F a0 c1 c2 c3 c4 c5 c6) fun y1 =>
  some ((decide (y1.1 ≥ (0:Int))),y1.2.1,y1.2.2.1,y1.2.2.2.1,y1.2.2.2.2.1,y1.2.2.2.2.2.1,y1.2.2.2.2.2.2)
/-- printworks/prepress.compare$1 -/
def prepress_compare_c1 (F:Nat) (a0:S_PrepressTerm) (c1:Int) (c2:List UInt8):Option (Bool×Int×(List UInt8)) :=
  some ((a0.f1 == c2),c1,c2)
def slices_IndexFunc_PrepressTerm_L0 (F:Nat) (a0:List S_PrepressTerm):Nat→Int→Int→(List UInt8)→Option (Out (Int×(List UInt8)) (Int×Int×(List UInt8)))
  | 0,_,_,_=>none
  | n+1,v1,v2,v3 =>
    bif (decide (v1 < (a0.length:Int))) then
      chk (0≤v1∧v1 < a0.length) <|
      call (prepress_compare_c1 F (a0.getD v1.toNat (S_PrepressTerm.mk 0 [])) v2 v3) fun y1 =>
      bif y1.1 then
        some (.esc (v1,y1.2.1,y1.2.2))
      else
        slices_IndexFunc_PrepressTerm_L0 F a0 n (IntKind.i64.wrap (v1+(1:Int))) y1.2.1 y1.2.2
    else
      some (.go (v2,v3))
/-- slices.IndexFunc[[]printworks/api.PrepressTerm,printworks/api.PrepressTerm] -/
def slices_IndexFunc_PrepressTerm (F:Nat) (a0:List S_PrepressTerm) (c1:Int) (c2:List UInt8):Option (Int×Int×(List UInt8)) :=
  callE (slices_IndexFunc_PrepressTerm_L0 F a0 F (0:Int) c1 c2)
    (fun e=>some e) fun (v4,v5) =>
  some ((-1:Int),v4,v5)
/-- slices.ContainsFunc[[]printworks/api.PrepressTerm,printworks/api.PrepressTerm] -/
def slices_ContainsFunc_PrepressTerm (F:Nat) (a0:List S_PrepressTerm) (c1:Int) (c2:List UInt8):Option (Bool×Int×(List UInt8)) :=
  call (slices_IndexFunc_PrepressTerm F a0 c1 c2) fun y1 =>
  some ((decide (y1.1 ≥ (0:Int))),y1.2.1,y1.2.2)
def prepress_compare_L1 (F:Nat) (a0:S_PrepressCond):Nat→Int→Option (Out Unit Int)
  | 0,_=>none
  | n+1,v1 =>
    bif (decide (v1 < (a0.f1.length:Int))) then
      chk (0≤v1∧v1 < a0.f1.length) <|
      lett ((bif (((a0.f1.getD v1.toNat (S_PrepressTerm.mk 0 [])).f0) == (0:Int)) then true else (decide (((a0.f1.getD v1.toNat (S_PrepressTerm.mk 0 [])).f0) < (-1000:Int))))) fun z1 =>
      lett ((bif z1 then true else (decide (((a0.f1.getD v1.toNat (S_PrepressTerm.mk 0 [])).f0) > (1000:Int))))) fun z2 =>
      bif z2 then
        some (.esc (3:Int))
      else
        call (prepress_plain F ((a0.f1.getD v1.toNat (S_PrepressTerm.mk 0 [])).f1)) fun y1 =>
        bif (!y1) then
          some (.esc (6:Int))
        else
          chk (0≤(0:Int)∧(0:Int)≤v1∧v1≤(a0.f1.length:Int)) <|
          call (slices_ContainsFunc_PrepressTerm F ((a0.f1.drop (0:Int).toNat).take (v1.toNat - (0:Int).toNat)) ((a0.f1.getD v1.toNat (S_PrepressTerm.mk 0 [])).f0) ((a0.f1.getD v1.toNat (S_PrepressTerm.mk 0 [])).f1)) fun y2 =>
          bif y2.1 then
            some (.esc (7:Int))
          else
            prepress_compare_L1 F a0 n (IntKind.i64.wrap (v1+(1:Int)))
    else
      some (.go ())
/-- printworks/prepress.compare -/
def prepress_compare (F:Nat) (a0:S_PrepressCond):Option Int :=
  bif (decide ((a0.f4.length:Int) > (0:Int))) then
    some (4:Int)
  else
    bif ((a0.f1.length:Int) == (0:Int)) then
      some (8:Int)
    else
      bif (decide ((a0.f1.length:Int) > (8:Int))) then
        some (2:Int)
      else
        bif (bif (decide (a0.f2 < (0:Int))) then true else (decide (a0.f2 > (5:Int)))) then
          some (14:Int)
        else
          bif (bif (decide (a0.f3 < (-2147483648:Int))) then true else (decide (a0.f3 > (2147483648:Int)))) then
            some (3:Int)
          else
            callE (prepress_compare_L1 F a0 F (0:Int))
              (fun e=>some e) fun _ =>
            some (0:Int)
def prepress_checker_cond_L1 (F:Nat) (a0:S_PrepressCond) (a1:Int) (rec_prepress_checker_cond:S_PrepressCond→Int→Int→Option (Int×Int)):Nat→Int→Int→Option (Out Int (Int×Int))
  | 0,_,_=>none
  | n+1,v1,v2 =>
    bif (decide (v1 < (a0.f4.length:Int))) then
      chk (0≤v1∧v1 < a0.f4.length) <|
      call (rec_prepress_checker_cond (a0.f4.getD v1.toNat (S_PrepressCond.mk 0 [] 0 0 [])) (IntKind.i64.wrap (a1+(1:Int))) v2) fun y1 =>
      bif (y1.1 != (0:Int)) then
        some (.esc (y1.1,y1.2))
      else
        prepress_checker_cond_L1 F a0 a1 rec_prepress_checker_cond n (IntKind.i64.wrap (v1+(1:Int))) y1.2
    else
      some (.go v2)
/-- (*printworks/prepress.checker).cond -/
def prepress_checker_cond_body (F:Nat) (rec_prepress_checker_cond:S_PrepressCond→Int→Int→Option (Int×Int)) (a0:S_PrepressCond) (a1:Int) (c2:Int):Option (Int×Int) :=
  bif (decide ((IntKind.i64.wrap (c2+(1:Int))) > (256:Int))) then
    some ((2:Int),IntKind.i64.wrap (c2+(1:Int)))
  else
    bif (decide (a1 > (12:Int))) then
      some ((15:Int),IntKind.i64.wrap (c2+(1:Int)))
    else
      bif (a0.f0 == (0:Int)) then
        call (prepress_compare F a0) fun y2 =>
        some (y2,IntKind.i64.wrap (c2+(1:Int)))
      else
        bif (!((mpGet [((1:Int),(1:Int)),((2:Int),(2:Int)),((3:Int),(2:Int))] a0.f0).isSome)) then
          some ((14:Int),IntKind.i64.wrap (c2+(1:Int)))
        else
          lett ((bif (bif (decide ((a0.f1.length:Int) > (0:Int))) then true else (a0.f2 != (0:Int))) then true else (a0.f3 != (0:Int)))) fun z1 =>
          lett (((a0.f4.length:Int) != ((mpGet [((1:Int),(1:Int)),((2:Int),(2:Int)),((3:Int),(2:Int))] a0.f0).getD 0))) fun z2 =>
          bif (bif z1 then true else z2) then
            some ((4:Int),IntKind.i64.wrap (c2+(1:Int)))
          else
            callE (prepress_checker_cond_L1 F a0 a1 rec_prepress_checker_cond F (0:Int) (IntKind.i64.wrap (c2+(1:Int))))
              (fun e=>some e) fun v3 =>
            some ((0:Int),v3)
def prepress_checker_cond_fuel (F:Nat):Nat→S_PrepressCond→Int→Int→Option (Int×Int)
  | 0=>fun _ _ _=>none
  | n+1=>prepress_checker_cond_body F (prepress_checker_cond_fuel F n)
def prepress_checker_cond (F:Nat) (a0:S_PrepressCond) (a1:Int) (c2:Int):Option (Int×Int):=prepress_checker_cond_fuel F F a0 a1 c2
/-- printworks/prepress.comparisons -/
def prepress_comparisons (F:Nat)  : Option ((List (List UInt8))) :=
  some ([([60]:List UInt8),([60,61]:List UInt8),([61]:List UInt8),([33,61]:List UInt8),([62,61]:List UInt8),([62]:List UInt8)])
/-- printworks/prepress.level -/
def prepress_level (F:Nat) (a0:Int):Option Int :=
  chk (0≤a0∧a0 < ([(3:Int),(3:Int),(2:Int),(1:Int)]).length) <|
  some (([(3:Int),(3:Int),(2:Int),(1:Int)]).getD a0.toNat 0)
def prepress_show_L1 (F:Nat) (a0:S_PrepressCond):Nat→(List UInt8)→Int→Option ((List UInt8))
  | 0,_,_=>none
  | n+1,v1,v2 =>
    bif (decide (v2 < (a0.f1.length:Int))) then
      chk (0≤v2∧v2 < a0.f1.length) <|
      call (bif (decide (v2 > (0:Int))) then
          some ([32,43,32]:List UInt8)
        else
          some [])
        fun v3 =>
      call (bif (decide (((a0.f1.getD v2.toNat (S_PrepressTerm.mk 0 [])).f0) < (0:Int))) then
          chk (v3.length < 4294967281∧1≤([43]:List UInt8).length∧v3.length+Lib.count v3 ([43]:List UInt8) * ([45]:List UInt8).length≤140737488355328) <|
          bif (v2 == (0:Int)) then
            some (([45]:List UInt8),IntKind.i64.wrap (0 - ((a0.f1.getD v2.toNat (S_PrepressTerm.mk 0 [])).f0)))
          else
            some ((Lib.replaceAll v3 ([43]:List UInt8) ([45]:List UInt8)),IntKind.i64.wrap (0 - ((a0.f1.getD v2.toNat (S_PrepressTerm.mk 0 [])).f0)))
        else
          some (v3,(a0.f1.getD v2.toNat (S_PrepressTerm.mk 0 [])).f0))
        fun (v4,v5) =>
      chk (v1.length+v4.length≤9223372036854775807) <|
      call (bif (v5 != (1:Int)) then
          chk (-9223372036854775808≤v5∧v5≤9223372036854775807) <|
          chk ((Lib.itoa v5).length+([32]:List UInt8).length≤9223372036854775807) <|
          chk ((v1++v4).length+((Lib.itoa v5)++([32]:List UInt8)).length≤9223372036854775807) <|
          some ((v1++v4)++((Lib.itoa v5)++([32]:List UInt8)))
        else
          some (v1++v4))
        fun v6 =>
      chk (v6.length+((a0.f1.getD v2.toNat (S_PrepressTerm.mk 0 [])).f1).length≤9223372036854775807) <|
      prepress_show_L1 F a0 n (v6++((a0.f1.getD v2.toNat (S_PrepressTerm.mk 0 [])).f1)) (IntKind.i64.wrap (v2+(1:Int)))
    else
      some v1
/-- printworks/prepress.show -/
def prepress_show_body (F:Nat) (rec_prepress_show:S_PrepressCond→Int→Option ((List UInt8))) (a0:S_PrepressCond) (a1:Int):Option ((List UInt8)) :=
  call (bif (a0.f0 == (0:Int)) then
      call (prepress_show_L1 F a0 F [] (0:Int))
        fun v7 =>
      call (prepress_comparisons F) fun y1 =>
      chk (0≤a0.f2∧a0.f2 < y1.length) <|
      chk (([32]:List UInt8).length+(y1.getD a0.f2.toNat []).length≤9223372036854775807) <|
      chk ((([32]:List UInt8)++(y1.getD a0.f2.toNat [])).length+([32]:List UInt8).length≤9223372036854775807) <|
      chk (-9223372036854775808≤a0.f3∧a0.f3≤9223372036854775807) <|
      chk (((([32]:List UInt8)++(y1.getD a0.f2.toNat []))++([32]:List UInt8)).length+(Lib.itoa a0.f3).length≤9223372036854775807) <|
      chk (v7.length+(((([32]:List UInt8)++(y1.getD a0.f2.toNat []))++([32]:List UInt8))++(Lib.itoa a0.f3)).length≤9223372036854775807) <|
      lett ((v7++(((([32]:List UInt8)++(y1.getD a0.f2.toNat []))++([32]:List UInt8))++(Lib.itoa a0.f3)))) fun z1 =>
      some z1
    else
      bif (a0.f0 == (1:Int)) then
        chk (0≤(0:Int)∧(0:Int) < a0.f4.length) <|
        call (rec_prepress_show (a0.f4.getD (0:Int).toNat (S_PrepressCond.mk 0 [] 0 0 [])) (3:Int)) fun y2 =>
        chk (([110,111,116,32]:List UInt8).length+y2.length≤9223372036854775807) <|
        some (([110,111,116,32]:List UInt8)++y2)
      else
        bif (a0.f0 == (2:Int)) then
          chk (0≤(0:Int)∧(0:Int) < a0.f4.length) <|
          call (rec_prepress_show (a0.f4.getD (0:Int).toNat (S_PrepressCond.mk 0 [] 0 0 [])) (2:Int)) fun y3 =>
          chk (y3.length+([32,97,110,100,32]:List UInt8).length≤9223372036854775807) <|
          chk (0≤(1:Int)∧(1:Int) < a0.f4.length) <|
          call (rec_prepress_show (a0.f4.getD (1:Int).toNat (S_PrepressCond.mk 0 [] 0 0 [])) (3:Int)) fun y4 =>
          chk ((y3++([32,97,110,100,32]:List UInt8)).length+y4.length≤9223372036854775807) <|
          some ((y3++([32,97,110,100,32]:List UInt8))++y4)
        else
          chk (0≤(0:Int)∧(0:Int) < a0.f4.length) <|
          call (rec_prepress_show (a0.f4.getD (0:Int).toNat (S_PrepressCond.mk 0 [] 0 0 [])) (1:Int)) fun y5 =>
          chk (y5.length+([32,111,114,32]:List UInt8).length≤9223372036854775807) <|
          chk (0≤(1:Int)∧(1:Int) < a0.f4.length) <|
          call (rec_prepress_show (a0.f4.getD (1:Int).toNat (S_PrepressCond.mk 0 [] 0 0 [])) (2:Int)) fun y6 =>
          chk ((y5++([32,111,114,32]:List UInt8)).length+y6.length≤9223372036854775807) <|
          some ((y5++([32,111,114,32]:List UInt8))++y6))
    fun v8 =>
  call (prepress_level F a0.f0) fun y7 =>
  bif (decide (y7 < a1)) then
    chk (([40]:List UInt8).length+v8.length≤9223372036854775807) <|
    chk ((([40]:List UInt8)++v8).length+([41]:List UInt8).length≤9223372036854775807) <|
    some ((([40]:List UInt8)++v8)++([41]:List UInt8))
  else
    some v8
def prepress_show_fuel (F:Nat):Nat→S_PrepressCond→Int→Option ((List UInt8))
  | 0=>fun _ _=>none
  | n+1=>prepress_show_body F (prepress_show_fuel F n)
def prepress_show (F:Nat) (a0:S_PrepressCond) (a1:Int):Option ((List UInt8)):=prepress_show_fuel F F a0 a1
/-- (*strings.Builder).WriteString -/
def strings_Builder_WriteString (F:Nat) (a0:List UInt8) (c1:List UInt8):Option (Int×Unit×(List UInt8)) :=
  chk (c1.length+a0.length≤4294967296) <|
  some ((a0.length:Int),(),(c1++a0))
def prepress_printed_L0 (F:Nat) (a0:List S_PrepressRule):Nat→(List UInt8)→Int→Option ((List UInt8))
  | 0,_,_=>none
  | n+1,v1,v2 =>
    bif (decide (v2 < (a0.length:Int))) then
      chk (0≤v2∧v2 < a0.length) <|
      chk (([114,117,108,101,32]:List UInt8).length+((a0.getD v2.toNat (S_PrepressRule.mk [] (S_PrepressCond.mk 0 [] 0 0 []))).f0).length≤9223372036854775807) <|
      lett ((([114,117,108,101,32]:List UInt8)++((a0.getD v2.toNat (S_PrepressRule.mk [] (S_PrepressCond.mk 0 [] 0 0 []))).f0))) fun z1 =>
      chk (z1.length+([58,32]:List UInt8).length≤9223372036854775807) <|
      call (prepress_show F ((a0.getD v2.toNat (S_PrepressRule.mk [] (S_PrepressCond.mk 0 [] 0 0 []))).f1) (0:Int)) fun y1 =>
      chk ((z1++([58,32]:List UInt8)).length+y1.length≤9223372036854775807) <|
      chk (((z1++([58,32]:List UInt8))++y1).length+([59,10]:List UInt8).length≤9223372036854775807) <|
      call (strings_Builder_WriteString F (((z1++([58,32]:List UInt8))++y1)++([59,10]:List UInt8)) v1) fun y2 =>
      prepress_printed_L0 F a0 n y2.2.2 (IntKind.i64.wrap (v2+(1:Int)))
    else
      some v1
/-- printworks/prepress.printed -/
def prepress_printed (F:Nat) (a0:List S_PrepressRule):Option ((List UInt8)) :=
  call (prepress_printed_L0 F a0 F [] (0:Int))
    fun v3 =>
  chk (v3.length≤9223372036854775807) <|
  some v3
def prepress_Check_L0 (F:Nat) (a0:List S_PrepressRule):Nat→Int→Option (Out Unit Int)
  | 0,_=>none
  | n+1,v1 =>
    bif (decide (v1 < (a0.length:Int))) then
      chk (0≤v1∧v1 < a0.length) <|
      call (prepress_plain F ((a0.getD v1.toNat (S_PrepressRule.mk [] (S_PrepressCond.mk 0 [] 0 0 []))).f0)) fun y1 =>
      bif (!y1) then
        some (.esc (6:Int))
      else
        chk (0≤(0:Int)∧(0:Int)≤v1∧v1≤(a0.length:Int)) <|
        call (slices_ContainsFunc_PrepressRule F ((a0.drop (0:Int).toNat).take (v1.toNat - (0:Int).toNat)) ((a0.getD v1.toNat (S_PrepressRule.mk [] (S_PrepressCond.mk 0 [] 0 0 []))).f0) (((a0.getD v1.toNat (S_PrepressRule.mk [] (S_PrepressCond.mk 0 [] 0 0 []))).f1).f0) (((a0.getD v1.toNat (S_PrepressRule.mk [] (S_PrepressCond.mk 0 [] 0 0 []))).f1).f1) (((a0.getD v1.toNat (S_PrepressRule.mk [] (S_PrepressCond.mk 0 [] 0 0 []))).f1).f2) (((a0.getD v1.toNat (S_PrepressRule.mk [] (S_PrepressCond.mk 0 [] 0 0 []))).f1).f3) (((a0.getD v1.toNat (S_PrepressRule.mk [] (S_PrepressCond.mk 0 [] 0 0 []))).f1).f4)) fun y2 =>
        bif y2.1 then
          some (.esc (7:Int))
        else
          call (prepress_checker_cond F (S_PrepressCond.mk y2.2.2.1 y2.2.2.2.1 y2.2.2.2.2.1 y2.2.2.2.2.2.1 y2.2.2.2.2.2.2) (1:Int) 0) fun y3 =>
          bif (y3.1 != (0:Int)) then
            some (.esc y3.1)
          else
            prepress_Check_L0 F a0 n (IntKind.i64.wrap (v1+(1:Int)))
    else
      some (.go ())
/-- printworks/prepress.Check -/
def prepress_Check (F:Nat) (a0:List S_PrepressRule):Option Int :=
  bif (decide ((a0.length:Int) > (32:Int))) then
    some (2:Int)
  else
    callE (prepress_Check_L0 F a0 F (0:Int))
      (fun e=>some e) fun _ =>
    call (prepress_printed F a0) fun y4 =>
    bif (decide ((y4.length:Int) > (4096:Int))) then
      some (2:Int)
    else
      some (0:Int)
def prepress_CheckFacts_L0 (F:Nat) (a0:List S_PrepressFact):Nat→Int→Option (Out Unit Int)
  | 0,_=>none
  | n+1,v1 =>
    bif (decide (v1 < (a0.length:Int))) then
      chk (0≤v1∧v1 < a0.length) <|
      call (prepress_plain F ((a0.getD v1.toNat (S_PrepressFact.mk [] 0)).f0)) fun y1 =>
      bif (!y1) then
        some (.esc (6:Int))
      else
        lett ((bif (decide (((a0.getD v1.toNat (S_PrepressFact.mk [] 0)).f1) < (-2147483648:Int))) then true else (decide (((a0.getD v1.toNat (S_PrepressFact.mk [] 0)).f1) > (2147483648:Int))))) fun z1 =>
        bif z1 then
          some (.esc (3:Int))
        else
          chk ((((decide (v1 > (0:Int))) == true) && true)=true→0≤(IntKind.i64.wrap (v1 - (1:Int)))∧(IntKind.i64.wrap (v1 - (1:Int))) < a0.length) <|
          lett ((!(Op.bytesLess ((a0.getD (IntKind.i64.wrap (v1 - (1:Int))).toNat (S_PrepressFact.mk [] 0)).f0) ((a0.getD v1.toNat (S_PrepressFact.mk [] 0)).f0)))) fun z2 =>
          bif (bif (decide (v1 > (0:Int))) then z2 else false) then
            some (.esc (18:Int))
          else
            prepress_CheckFacts_L0 F a0 n (IntKind.i64.wrap (v1+(1:Int)))
    else
      some (.go ())
/-- printworks/prepress.CheckFacts -/
def prepress_CheckFacts (F:Nat) (a0:List S_PrepressFact):Option Int :=
  bif (decide ((a0.length:Int) > (64:Int))) then
    some (2:Int)
  else
    callE (prepress_CheckFacts_L0 F a0 F (0:Int))
      (fun e=>some e) fun _ =>
    some (0:Int)
/-- cmp.isNaN[string] -/
def cmp_isNaN_string (F:Nat) (a0:List UInt8):Option Bool :=
  some (!(a0 == a0))
/-- cmp.Compare[string] -/
def cmp_Compare_string (F:Nat) (a0:List UInt8) (a1:List UInt8):Option Int :=
  call (cmp_isNaN_string F a0) fun y1 =>
  call (cmp_isNaN_string F a1) fun y2 =>
  bif y1 then
    bif y2 then
      some (0:Int)
    else
      some (-1:Int)
  else
    bif y2 then
      some (1:Int)
    else
      bif (Op.bytesLess a0 a1) then
        some (-1:Int)
      else
        bif (!(Op.bytesLess a0 a1 || a0 == a1)) then
          some (1:Int)
        else
          some (0:Int)
/-- (printworks/prepress.known).value$1 -/
def prepress_known_value_c1 (F:Nat) (a0:S_PrepressFact) (a1:List UInt8):Option Int :=
  call (cmp_Compare_string F a0.f0 a1) fun y1 =>
  some y1
def slices_BinarySearchFunc_string_L0 (F:Nat) (a0:List S_PrepressFact) (a1:List UInt8):Nat→Int→Int→Option Int
  | 0,_,_=>none
  | n+1,v1,v2 =>
    bif (decide (v1 < v2)) then
      lett (((IntKind.u64.wrap (IntKind.i64.wrap (v1+v2))).fdiv (2 ^ (min (1:Int).toNat IntKind.u64.bits)))) fun z1 =>
      chk (0≤(IntKind.i64.wrap z1)∧(IntKind.i64.wrap z1) < a0.length) <|
      call (prepress_known_value_c1 F (a0.getD (IntKind.i64.wrap z1).toNat (S_PrepressFact.mk [] 0)) a1) fun y1 =>
      bif (decide (y1 < (0:Int))) then
        slices_BinarySearchFunc_string_L0 F a0 a1 n (IntKind.i64.wrap ((IntKind.i64.wrap z1)+(1:Int))) v2
      else
        slices_BinarySearchFunc_string_L0 F a0 a1 n v1 (IntKind.i64.wrap z1)
    else
      some v1
/-- slices.BinarySearchFunc[printworks/prepress.known,printworks/api.PrepressFact,string] -/
def slices_BinarySearchFunc_string (F:Nat) (a0:List S_PrepressFact) (a1:List UInt8):Option (Int×Bool) :=
  call (slices_BinarySearchFunc_string_L0 F a0 a1 F (0:Int) (a0.length:Int))
    fun v3 =>
  chk ((((decide (v3 < (a0.length:Int))) == true) && true)=true→0≤v3∧v3 < a0.length) <|
  call ((bif (((decide (v3 < (a0.length:Int))) == true) && true) then prepress_known_value_c1 F (a0.getD v3.toNat (S_PrepressFact.mk [] 0)) a1 else some 0)) fun y2 =>
  some (v3,(bif (decide (v3 < (a0.length:Int))) then (y2 == (0:Int)) else false))
/-- (printworks/prepress.known).value -/
def prepress_known_value (F:Nat) (a0:List S_PrepressFact) (a1:List UInt8):Option (Int×Bool) :=
  call (slices_BinarySearchFunc_string F a0 a1) fun y1 =>
  bif (!y1.2) then
    some ((0:Int),false)
  else
    chk (0≤y1.1∧y1.1 < a0.length) <|
    some ((a0.getD y1.1.toNat (S_PrepressFact.mk [] 0)).f1,true)
/-- cmp.isNaN[int] -/
def cmp_isNaN_int (F:Nat) (a0:Int):Option Bool :=
  some (a0 != a0)
/-- cmp.Compare[int] -/
def cmp_Compare_int (F:Nat) (a0:Int) (a1:Int):Option Int :=
  call (cmp_isNaN_int F a0) fun y1 =>
  call (cmp_isNaN_int F a1) fun y2 =>
  bif y1 then
    bif y2 then
      some (0:Int)
    else
      some (-1:Int)
  else
    bif y2 then
      some (1:Int)
    else
      bif (decide (a0 < a1)) then
        some (-1:Int)
      else
        bif (decide (a0 > a1)) then
          some (1:Int)
        else
          some (0:Int)
def prepress_truth_L2 (F:Nat) (a0:S_PrepressCond) (a1:List S_PrepressFact):Nat→Int→Int→Option (Out Int Int)
  | 0,_,_=>none
  | n+1,v1,v2 =>
    bif (decide (v2 < (a0.f1.length:Int))) then
      chk (0≤v2∧v2 < a0.f1.length) <|
      call (prepress_known_value F a1 ((a0.f1.getD v2.toNat (S_PrepressTerm.mk 0 [])).f1)) fun y1 =>
      bif (!y1.2) then
        some (.esc (2:Int))
      else
        lett (IntKind.i64.wrap (v1+(IntKind.i64.wrap (((a0.f1.getD v2.toNat (S_PrepressTerm.mk 0 [])).f0) * y1.1)))) fun z1 =>
        prepress_truth_L2 F a0 a1 n z1 (IntKind.i64.wrap (v2+(1:Int)))
    else
      some (.go v1)
/-- printworks/prepress.truth -/
def prepress_truth_body (F:Nat) (rec_prepress_truth:S_PrepressCond→(List S_PrepressFact)→Option Int) (a0:S_PrepressCond) (a1:List S_PrepressFact):Option Int :=
  bif (a0.f0 == (1:Int)) then
    chk (0≤(0:Int)∧(0:Int) < a0.f4.length) <|
    call (rec_prepress_truth (a0.f4.getD (0:Int).toNat (S_PrepressCond.mk 0 [] 0 0 [])) a1) fun y2 =>
    chk (0≤y2∧y2 < ([(1:Int),(0:Int),(2:Int)]).length) <|
    some (([(1:Int),(0:Int),(2:Int)]).getD y2.toNat 0)
  else
    call (bif (a0.f0 == (2:Int)) then
        some (a0.f0 == (2:Int))
      else
        some (a0.f0 == (3:Int)))
      fun v3 =>
    bif v3 then
      call (bif (a0.f0 == (3:Int)) then
          some (1:Int)
        else
          some (0:Int))
        fun v4 =>
      chk (0≤(0:Int)∧(0:Int) < a0.f4.length) <|
      call (rec_prepress_truth (a0.f4.getD (0:Int).toNat (S_PrepressCond.mk 0 [] 0 0 [])) a1) fun y3 =>
      chk (0≤(1:Int)∧(1:Int) < a0.f4.length) <|
      call (rec_prepress_truth (a0.f4.getD (1:Int).toNat (S_PrepressCond.mk 0 [] 0 0 [])) a1) fun y4 =>
      bif (bif (y3 == v4) then true else (y4 == v4)) then
        some v4
      else
        bif (bif (y3 == (2:Int)) then true else (y4 == (2:Int))) then
          some (2:Int)
        else
          some y3
    else
      callE (prepress_truth_L2 F a0 a1 F (0:Int) (0:Int))
        (fun e=>some e) fun v5 =>
      call (cmp_Compare_int F v5 a0.f3) fun y5 =>
      chk (0≤a0.f2∧a0.f2 < ([(decide (y5 < (0:Int))),(decide (y5≤(0:Int))),(y5 == (0:Int)),(y5 != (0:Int)),(decide (y5 ≥ (0:Int))),(decide (y5 > (0:Int)))]).length) <|
      lett ((([(decide (y5 < (0:Int))),(decide (y5≤(0:Int))),(y5 == (0:Int)),(y5 != (0:Int)),(decide (y5 ≥ (0:Int))),(decide (y5 > (0:Int)))]).getD a0.f2.toNat false)) fun z2 =>
      bif z2 then
        some (1:Int)
      else
        some (0:Int)
def prepress_truth_fuel (F:Nat):Nat→S_PrepressCond→(List S_PrepressFact)→Option Int
  | 0=>fun _ _=>none
  | n+1=>prepress_truth_body F (prepress_truth_fuel F n)
def prepress_truth (F:Nat) (a0:S_PrepressCond) (a1:List S_PrepressFact):Option Int:=prepress_truth_fuel F F a0 a1
/-- slices.Clone[printworks/prepress.known,printworks/api.PrepressFact] -/
def slices_Clone_PrepressFact (F:Nat) (a0:List S_PrepressFact):Option ((List S_PrepressFact)) :=
  chk (([]:List S_PrepressFact).length+a0.length≤4294967296) <|
  some (([]:List S_PrepressFact)++a0)
def prepress_because_L0 (F:Nat) (a0:S_PrepressCond):Nat→(List S_PrepressFact)→Int→Option ((List S_PrepressFact))
  | 0,_,_=>none
  | n+1,v1,v2 =>
    bif (decide (v2 < (v1.length:Int))) then
      call (slices_Clone_PrepressFact F v1) fun y1 =>
      chk (0≤v2∧v2≤(IntKind.i64.wrap (v2+(1:Int)))∧(IntKind.i64.wrap (v2+(1:Int)))≤(y1.length:Int)) <|
      call (prepress_truth F a0 (y1.take v2.toNat++y1.drop (IntKind.i64.wrap (v2+(1:Int))).toNat)) fun y2 =>
      bif (y2 == (0:Int)) then
        prepress_because_L0 F a0 n (y1.take v2.toNat++y1.drop (IntKind.i64.wrap (v2+(1:Int))).toNat) v2
      else
        prepress_because_L0 F a0 n v1 (IntKind.i64.wrap (v2+(1:Int)))
    else
      some v1
def prepress_because_L2 (F:Nat) (v3:List S_PrepressFact):Nat→(List (List UInt8))→Int→Option ((List (List UInt8)))
  | 0,_,_=>none
  | n+1,v4,v5 =>
    bif (decide (v5 < (v3.length:Int))) then
      chk (0≤v5∧v5 < v3.length) <|
      chk (v4.length+([(v3.getD v5.toNat (S_PrepressFact.mk [] 0)).f0]).length≤4294967296) <|
      prepress_because_L2 F v3 n (v4++([(v3.getD v5.toNat (S_PrepressFact.mk [] 0)).f0])) (IntKind.i64.wrap (v5+(1:Int)))
    else
      some v4
/-- printworks/prepress.because -/
def prepress_because (F:Nat) (a0:S_PrepressCond) (a1:List S_PrepressFact):Option ((List (List UInt8))) :=
  call (slices_Clone_PrepressFact F a1) fun y3 =>
  call (prepress_because_L0 F a0 F y3 (0:Int))
    fun v3 =>
  call (prepress_because_L2 F v3 F [] (0:Int))
    fun v6 =>
  some v6
def prepress_names_L0 (F:Nat) (a0:S_PrepressCond):Nat→(List (List UInt8))→Int→Option ((List (List UInt8)))
  | 0,_,_=>none
  | n+1,v1,v2 =>
    bif (decide (v2 < (a0.f1.length:Int))) then
      chk (0≤v2∧v2 < a0.f1.length) <|
      chk (v1.length+([(a0.f1.getD v2.toNat (S_PrepressTerm.mk 0 [])).f1]).length≤4294967296) <|
      prepress_names_L0 F a0 n (v1++([(a0.f1.getD v2.toNat (S_PrepressTerm.mk 0 [])).f1])) (IntKind.i64.wrap (v2+(1:Int)))
    else
      some v1
def prepress_names_L2 (F:Nat) (a0:S_PrepressCond) (rec_prepress_names:S_PrepressCond→(List (List UInt8))→Option ((List (List UInt8)))):Nat→(List (List UInt8))→Int→Option ((List (List UInt8)))
  | 0,_,_=>none
  | n+1,v3,v4 =>
    bif (decide (v4 < (a0.f4.length:Int))) then
      chk (0≤v4∧v4 < a0.f4.length) <|
      call (rec_prepress_names (a0.f4.getD v4.toNat (S_PrepressCond.mk 0 [] 0 0 [])) v3) fun y1 =>
      prepress_names_L2 F a0 rec_prepress_names n y1 (IntKind.i64.wrap (v4+(1:Int)))
    else
      some v3
/-- printworks/prepress.names -/
def prepress_names_body (F:Nat) (rec_prepress_names:S_PrepressCond→(List (List UInt8))→Option ((List (List UInt8)))) (a0:S_PrepressCond) (a1:List (List UInt8)):Option ((List (List UInt8))) :=
  call (prepress_names_L0 F a0 F a1 (0:Int))
    fun v5 =>
  call (prepress_names_L2 F a0 rec_prepress_names F v5 (0:Int))
    fun v6 =>
  some v6
def prepress_names_fuel (F:Nat):Nat→S_PrepressCond→(List (List UInt8))→Option ((List (List UInt8)))
  | 0=>fun _ _=>none
  | n+1=>prepress_names_body F (prepress_names_fuel F n)
def prepress_names (F:Nat) (a0:S_PrepressCond) (a1:List (List UInt8)):Option ((List (List UInt8))):=prepress_names_fuel F F a0 a1
def prepress_Judge_L3 (F:Nat) (a1:List S_PrepressFact) (y1:(List (List UInt8))):Nat→(List (List UInt8))→Int→Option ((List (List UInt8)))
  | 0,_,_=>none
  | n+1,v1,v2 =>
    bif (decide (v2 < (y1.length:Int))) then
      call (chk (0≤v2∧v2 < y1.length) <|
        call (prepress_known_value F a1 (y1.getD v2.toNat [])) fun y2 =>
        bif (!y2.2) then
          chk (v1.length+([(y1.getD v2.toNat [])]).length≤4294967296) <|
          some (v1++([(y1.getD v2.toNat [])]))
        else
          some v1)
        fun v3 =>
      prepress_Judge_L3 F a1 y1 n v3 (IntKind.i64.wrap (v2+(1:Int)))
    else
      some v1
def prepress_Judge_L0 (F:Nat) (a0:List S_PrepressRule) (a1:List S_PrepressFact):Nat→(List S_PrepressFinding)→Int→Option ((List S_PrepressFinding))
  | 0,_,_=>none
  | n+1,v4,v5 =>
    bif (decide (v5 < (a0.length:Int))) then
      call (chk (0≤v5∧v5 < a0.length) <|
        call (prepress_truth F ((a0.getD v5.toNat (S_PrepressRule.mk [] (S_PrepressCond.mk 0 [] 0 0 []))).f1) a1) fun y3 =>
        bif (y3 == (0:Int)) then
          call (prepress_because F ((a0.getD v5.toNat (S_PrepressRule.mk [] (S_PrepressCond.mk 0 [] 0 0 []))).f1) a1) fun y4 =>
          chk (v4.length+([(S_PrepressFinding.mk ((a0.getD v5.toNat (S_PrepressRule.mk [] (S_PrepressCond.mk 0 [] 0 0 []))).f0) false y4)]).length≤4294967296) <|
          lett ((v4++([(S_PrepressFinding.mk ((a0.getD v5.toNat (S_PrepressRule.mk [] (S_PrepressCond.mk 0 [] 0 0 []))).f0) false y4)]))) fun l1 =>
          some l1
        else
          bif (y3 == (2:Int)) then
            call (prepress_names F ((a0.getD v5.toNat (S_PrepressRule.mk [] (S_PrepressCond.mk 0 [] 0 0 []))).f1) []) fun y1 =>
            call (prepress_Judge_L3 F a1 y1 F [] (0:Int))
              fun v6 =>
            chk (v6.length≤4294967296) <|
            chk ((sortS v6).length≤4294967296) <|
            chk (v4.length+([(S_PrepressFinding.mk ((a0.getD v5.toNat (S_PrepressRule.mk [] (S_PrepressCond.mk 0 [] 0 0 []))).f0) true (Lib.compact (sortS v6)))]).length≤4294967296) <|
            lett ((v4++([(S_PrepressFinding.mk ((a0.getD v5.toNat (S_PrepressRule.mk [] (S_PrepressCond.mk 0 [] 0 0 []))).f0) true (Lib.compact (sortS v6)))]))) fun l2 =>
            some l2
          else
            some v4)
        fun v7 =>
      prepress_Judge_L0 F a0 a1 n v7 (IntKind.i64.wrap (v5+(1:Int)))
    else
      some v4
/-- printworks/prepress.Judge -/
def prepress_Judge (F:Nat) (a0:List S_PrepressRule) (a1:List S_PrepressFact):Option ((List S_PrepressFinding)×Int) :=
  call (prepress_Check F a0) fun y5 =>
  bif (y5 != (0:Int)) then
    some ([],y5)
  else
    call (prepress_CheckFacts F a1) fun y6 =>
    bif (y6 != (0:Int)) then
      some ([],y6)
    else
      call (prepress_Judge_L0 F a0 a1 F [] (0:Int))
        fun v8 =>
      some (v8,(0:Int))
def slices_Equal_string_L0 (F:Nat) (a0:List (List UInt8)) (a1:List (List UInt8)):Nat→Int→Option (Out Unit Bool)
  | 0,_=>none
  | n+1,v1 =>
    bif (decide (v1 < (a0.length:Int))) then
      chk (0≤v1∧v1 < a0.length) <|
      chk (0≤v1∧v1 < a1.length) <|
      bif (!((a0.getD v1.toNat []) == (a1.getD v1.toNat []))) then
        some (.esc false)
      else
        slices_Equal_string_L0 F a0 a1 n (IntKind.i64.wrap (v1+(1:Int)))
    else
      some (.go ())
/-- slices.Equal[[]string,string] -/
def slices_Equal_string (F:Nat) (a0:List (List UInt8)) (a1:List (List UInt8)):Option Bool :=
  bif ((a0.length:Int) != (a1.length:Int)) then
    some false
  else
    callE (slices_Equal_string_L0 F a0 a1 F (0:Int))
      (fun e=>some e) fun _ =>
    some true
/-- printworks/printworkslaw3.ruleFact -/
def law3_ruleFact (F:Nat)  : Option Bool :=
  call (law3_rule F ([116,111,116,97,108]:List UInt8) (1:Int) (300:Int)) fun y1 =>
  call (prepress_Judge F ([y1]) ([(S_PrepressFact.mk ([105,110,107,115]:List UInt8) (4:Int)),(S_PrepressFact.mk ([116,111,116,97,108]:List UInt8) (320:Int))])) fun y2 =>
  chk ((((bif (y2.2 == (0:Int)) then ((y2.1.length:Int) == (1:Int)) else false) == true) && true)=true→0≤(0:Int)∧(0:Int) < y2.1.length) <|
  lett ((bif (bif (y2.2 == (0:Int)) then ((y2.1.length:Int) == (1:Int)) else false) then (((y2.1.getD (0:Int).toNat (S_PrepressFinding.mk [] false [])).f0) == ([97]:List UInt8)) else false)) fun z1 =>
  chk (((z1 == true) && true)=true→0≤(0:Int)∧(0:Int) < y2.1.length) <|
  chk ((((bif z1 then (!((y2.1.getD (0:Int).toNat (S_PrepressFinding.mk [] false [])).f1)) else false) == true) && true)=true→0≤(0:Int)∧(0:Int) < y2.1.length) <|
  call ((bif (((bif z1 then (!((y2.1.getD (0:Int).toNat (S_PrepressFinding.mk [] false [])).f1)) else false) == true) && true) then slices_Equal_string F ((y2.1.getD (0:Int).toNat (S_PrepressFinding.mk [] false [])).f2) ([([116,111,116,97,108]:List UInt8)]) else some false)) fun y3 =>
  lett ((bif (bif z1 then (!((y2.1.getD (0:Int).toNat (S_PrepressFinding.mk [] false [])).f1)) else false) then y3 else false)) fun z2 =>
  some z2
/-- printworks/printworksref3.digit -/
def ref3_digit (F:Nat) (a0:Int):Option Bool :=
  some (bif (decide (a0 ≥ (48:Int))) then (decide (a0≤(57:Int))) else false)
def ref3_IsName_L0 (F:Nat) (a0:List UInt8):Nat→Int→Option (Out Unit Bool)
  | 0,_=>none
  | n+1,v1 =>
    bif (decide (v1 < (a0.length:Int))) then
      chk (0≤v1∧v1 < a0.length) <|
      chk ((((decide (((a0.getD v1.toNat 0).toNat:Int) ≥ (97:Int))) == true) && true)=true→0≤v1∧v1 < a0.length) <|
      lett ((bif (decide (((a0.getD v1.toNat 0).toNat:Int) ≥ (97:Int))) then (decide (((a0.getD v1.toNat 0).toNat:Int)≤(122:Int))) else false)) fun z1 =>
      chk ((((!z1) == true) && true)=true→0≤v1∧v1 < a0.length) <|
      call ((bif (((!z1) == true) && true) then ref3_digit F ((a0.getD v1.toNat 0).toNat:Int) else some false)) fun y1 =>
      chk ((((bif (!z1) then (!y1) else false) == true) && true)=true→0≤v1∧v1 < a0.length) <|
      lett ((bif (bif (!z1) then (!y1) else false) then (((a0.getD v1.toNat 0).toNat:Int) != (45:Int)) else false)) fun z2 =>
      bif z2 then
        some (.esc false)
      else
        ref3_IsName_L0 F a0 n (IntKind.i64.wrap (v1+(1:Int)))
    else
      some (.go ())
/-- printworks/printworksref3.IsName -/
def ref3_IsName (F:Nat) (a0:List UInt8):Option Bool :=
  chk ((((bif (a0 == []) then true else (decide ((a0.length:Int) > (16:Int)))) == false) && true)=true→0≤(0:Int)∧(0:Int) < a0.length) <|
  lett ((bif (bif (a0 == []) then true else (decide ((a0.length:Int) > (16:Int)))) then true else (decide (((a0.getD (0:Int).toNat 0).toNat:Int) < (97:Int))))) fun z3 =>
  chk (((z3 == false) && true)=true→0≤(0:Int)∧(0:Int) < a0.length) <|
  bif (bif z3 then true else (decide (((a0.getD (0:Int).toNat 0).toNat:Int) > (122:Int)))) then
    some false
  else
    callE (ref3_IsName_L0 F a0 F (0:Int))
      (fun e=>some e) fun _ =>
    some true
/-- printworks/printworksref3.ruleName -/
def ref3_ruleName (F:Nat) (a0:List UInt8):Option Bool :=
  call (ref3_IsName F a0) fun y1 =>
  lett ((bif (bif y1 then (!(a0 == ([114,117,108,101]:List UInt8))) else false) then (!(a0 == ([110,111,116]:List UInt8))) else false)) fun z1 =>
  lett ((bif (bif z1 then (!(a0 == ([97,110,100]:List UInt8))) else false) then (!(a0 == ([111,114]:List UInt8))) else false)) fun z2 =>
  some z2
def ref3_beyond_L0 (F:Nat) (a0:Int) (a1:List Int):Nat→Int→Option (Out Unit Bool)
  | 0,_=>none
  | n+1,v1 =>
    bif (decide (v1 < (a1.length:Int))) then
      chk (0≤v1∧v1 < a1.length) <|
      lett ((bif (decide ((a1.getD v1.toNat 0) > a0)) then true else (decide ((a1.getD v1.toNat 0) < (IntKind.i64.wrap (0 - a0)))))) fun z1 =>
      bif z1 then
        some (.esc true)
      else
        ref3_beyond_L0 F a0 a1 n (IntKind.i64.wrap (v1+(1:Int)))
    else
      some (.go ())
/-- printworks/printworksref3.beyond -/
def ref3_beyond (F:Nat) (a0:Int) (a1:List Int):Option Bool :=
  callE (ref3_beyond_L0 F a0 a1 F (0:Int))
    (fun e=>some e) fun _ =>
  some false
def ref3_compareError_L3 (F:Nat) (a0:S_PrepressCond) (v1:Int):Nat→Int→Option (Out Unit Int)
  | 0,_=>none
  | n+1,v2 =>
    bif (decide (v2 < (((a0.f1.drop (0:Int).toNat).take (v1.toNat - (0:Int).toNat)).length:Int))) then
      chk (0≤v2∧v2 < ((a0.f1.drop (0:Int).toNat).take (v1.toNat - (0:Int).toNat)).length) <|
      lett ((((a0.f1.drop (0:Int).toNat).take (v1.toNat - (0:Int).toNat)).getD v2.toNat (S_PrepressTerm.mk 0 [])).f1) fun z1 =>
      bif (z1 == ((a0.f1.getD v1.toNat (S_PrepressTerm.mk 0 [])).f1)) then
        some (.esc (7:Int))
      else
        ref3_compareError_L3 F a0 v1 n (IntKind.i64.wrap (v2+(1:Int)))
    else
      some (.go ())
def ref3_compareError_L1 (F:Nat) (a0:S_PrepressCond):Nat→Int→Option (Out Unit Int)
  | 0,_=>none
  | n+1,v1 =>
    bif (decide (v1 < (a0.f1.length:Int))) then
      chk (0≤v1∧v1 < a0.f1.length) <|
      call ((bif (((((a0.f1.getD v1.toNat (S_PrepressTerm.mk 0 [])).f0) == (0:Int)) == false) && true) then ref3_beyond F (1000:Int) ([(a0.f1.getD v1.toNat (S_PrepressTerm.mk 0 [])).f0]) else some false)) fun y1 =>
      bif (bif (((a0.f1.getD v1.toNat (S_PrepressTerm.mk 0 [])).f0) == (0:Int)) then true else y1) then
        some (.esc (3:Int))
      else
        call (ref3_ruleName F ((a0.f1.getD v1.toNat (S_PrepressTerm.mk 0 [])).f1)) fun y2 =>
        bif (!y2) then
          some (.esc (6:Int))
        else
          chk (0≤(0:Int)∧(0:Int)≤v1∧v1≤(a0.f1.length:Int)) <|
          callE (ref3_compareError_L3 F a0 v1 F (0:Int))
            (fun e=>some (.esc e)) fun _ =>
          ref3_compareError_L1 F a0 n (IntKind.i64.wrap (v1+(1:Int)))
    else
      some (.go ())
/-- printworks/printworksref3.compareError -/
def ref3_compareError (F:Nat) (a0:S_PrepressCond):Option Int :=
  bif (decide ((a0.f4.length:Int) > (0:Int))) then
    some (4:Int)
  else
    bif ((a0.f1.length:Int) == (0:Int)) then
      some (8:Int)
    else
      bif (decide ((a0.f1.length:Int) > (8:Int))) then
        some (2:Int)
      else
        bif (bif (decide (a0.f2 < (0:Int))) then true else (decide (a0.f2 > (5:Int)))) then
          some (14:Int)
        else
          call (ref3_beyond F (2147483648:Int) ([a0.f3])) fun y3 =>
          bif y3 then
            some (3:Int)
          else
            callE (ref3_compareError_L1 F a0 F (0:Int))
              (fun e=>some e) fun _ =>
            some (0:Int)
def ref3_condError_L2 (F:Nat) (v1:List S_ref3_wait) (z1:List S_PrepressCond):Nat→(List S_ref3_wait)→Int→Option ((List S_ref3_wait))
  | 0,_,_=>none
  | n+1,v2,v3 =>
    bif (decide (v3 < (z1.length:Int))) then
      lett ((((v1.getD (IntKind.i64.wrap ((v1.length:Int) - (1:Int))).toNat (S_ref3_wait.mk (S_PrepressCond.mk 0 [] 0 0 []) 0)).f0).f4)) fun z2 =>
      lett ((((v1.getD (IntKind.i64.wrap ((v1.length:Int) - (1:Int))).toNat (S_ref3_wait.mk (S_PrepressCond.mk 0 [] 0 0 []) 0)).f0).f4)) fun z3 =>
      chk (0≤(IntKind.i64.wrap ((IntKind.i64.wrap ((z3.length:Int) - (1:Int))) - v3))∧(IntKind.i64.wrap ((IntKind.i64.wrap ((z3.length:Int) - (1:Int))) - v3)) < z2.length) <|
      lett ((v1.getD (IntKind.i64.wrap ((v1.length:Int) - (1:Int))).toNat (S_ref3_wait.mk (S_PrepressCond.mk 0 [] 0 0 []) 0)).f1) fun z4 =>
      chk (v2.length+([(S_ref3_wait.mk (z2.getD (IntKind.i64.wrap ((IntKind.i64.wrap ((z3.length:Int) - (1:Int))) - v3)).toNat (S_PrepressCond.mk 0 [] 0 0 [])) (IntKind.i64.wrap (z4+(1:Int))))]).length≤4294967296) <|
      lett ((v2++([(S_ref3_wait.mk (z2.getD (IntKind.i64.wrap ((IntKind.i64.wrap ((z3.length:Int) - (1:Int))) - v3)).toNat (S_PrepressCond.mk 0 [] 0 0 [])) (IntKind.i64.wrap (z4+(1:Int))))]))) fun l1 =>
      ref3_condError_L2 F v1 z1 n l1 (IntKind.i64.wrap (v3+(1:Int)))
    else
      some v2
def ref3_condError_L0 (F:Nat)  : Nat→(List S_ref3_wait)→Int→Option (Out Unit Int)
  | 0,_,_=>none
  | n+1,v1,v4 =>
    bif (decide ((v1.length:Int) > (0:Int))) then
      callE (chk (0≤(IntKind.i64.wrap ((v1.length:Int) - (1:Int)))∧(IntKind.i64.wrap ((v1.length:Int) - (1:Int))) < v1.length) <|
        chk (0≤(IntKind.i64.wrap ((v1.length:Int) - (1:Int)))∧(IntKind.i64.wrap ((v1.length:Int) - (1:Int)))≤(v1.length:Int)) <|
        bif (decide (v4 > (256:Int))) then
          some (.esc (2:Int))
        else
          lett ((v1.getD (IntKind.i64.wrap ((v1.length:Int) - (1:Int))).toNat (S_ref3_wait.mk (S_PrepressCond.mk 0 [] 0 0 []) 0)).f1) fun z5 =>
          bif (decide (z5 > (12:Int))) then
            some (.esc (15:Int))
          else
            lett ((((v1.getD (IntKind.i64.wrap ((v1.length:Int) - (1:Int))).toNat (S_ref3_wait.mk (S_PrepressCond.mk 0 [] 0 0 []) 0)).f0).f0)) fun z6 =>
            bif (z6 == (0:Int)) then
              call (ref3_compareError F (S_PrepressCond.mk (((v1.getD (IntKind.i64.wrap ((v1.length:Int) - (1:Int))).toNat (S_ref3_wait.mk (S_PrepressCond.mk 0 [] 0 0 []) 0)).f0).f0) (((v1.getD (IntKind.i64.wrap ((v1.length:Int) - (1:Int))).toNat (S_ref3_wait.mk (S_PrepressCond.mk 0 [] 0 0 []) 0)).f0).f1) (((v1.getD (IntKind.i64.wrap ((v1.length:Int) - (1:Int))).toNat (S_ref3_wait.mk (S_PrepressCond.mk 0 [] 0 0 []) 0)).f0).f2) (((v1.getD (IntKind.i64.wrap ((v1.length:Int) - (1:Int))).toNat (S_ref3_wait.mk (S_PrepressCond.mk 0 [] 0 0 []) 0)).f0).f3) (((v1.getD (IntKind.i64.wrap ((v1.length:Int) - (1:Int))).toNat (S_ref3_wait.mk (S_PrepressCond.mk 0 [] 0 0 []) 0)).f0).f4))) fun y1 =>
              bif (y1 != (0:Int)) then
                some (.esc y1)
              else
                some (.go (v1.take (IntKind.i64.wrap ((v1.length:Int) - (1:Int))).toNat))
            else
              lett ((((v1.getD (IntKind.i64.wrap ((v1.length:Int) - (1:Int))).toNat (S_ref3_wait.mk (S_PrepressCond.mk 0 [] 0 0 []) 0)).f0).f0)) fun z7 =>
              lett ((((v1.getD (IntKind.i64.wrap ((v1.length:Int) - (1:Int))).toNat (S_ref3_wait.mk (S_PrepressCond.mk 0 [] 0 0 []) 0)).f0).f0)) fun z8 =>
              bif (bif (decide (z7 < (0:Int))) then true else (decide (z8 > (3:Int)))) then
                some (.esc (14:Int))
              else
                call (lett ((((v1.getD (IntKind.i64.wrap ((v1.length:Int) - (1:Int))).toNat (S_ref3_wait.mk (S_PrepressCond.mk 0 [] 0 0 []) 0)).f0).f0)) fun z9 =>
                  bif (z9 == (1:Int)) then
                    some (1:Int)
                  else
                    some (2:Int))
                  fun v5 =>
                lett ((((v1.getD (IntKind.i64.wrap ((v1.length:Int) - (1:Int))).toNat (S_ref3_wait.mk (S_PrepressCond.mk 0 [] 0 0 []) 0)).f0).f1)) fun z10 =>
                lett ((((v1.getD (IntKind.i64.wrap ((v1.length:Int) - (1:Int))).toNat (S_ref3_wait.mk (S_PrepressCond.mk 0 [] 0 0 []) 0)).f0).f2)) fun z11 =>
                lett ((((v1.getD (IntKind.i64.wrap ((v1.length:Int) - (1:Int))).toNat (S_ref3_wait.mk (S_PrepressCond.mk 0 [] 0 0 []) 0)).f0).f3)) fun z12 =>
                lett ((bif (bif (decide ((z10.length:Int) > (0:Int))) then true else (z11 != (0:Int))) then true else (z12 != (0:Int)))) fun z13 =>
                lett ((((v1.getD (IntKind.i64.wrap ((v1.length:Int) - (1:Int))).toNat (S_ref3_wait.mk (S_PrepressCond.mk 0 [] 0 0 []) 0)).f0).f4)) fun z14 =>
                bif (bif z13 then true else ((z14.length:Int) != v5)) then
                  some (.esc (4:Int))
                else
                  lett ((((v1.getD (IntKind.i64.wrap ((v1.length:Int) - (1:Int))).toNat (S_ref3_wait.mk (S_PrepressCond.mk 0 [] 0 0 []) 0)).f0).f4)) fun z1 =>
                  call (ref3_condError_L2 F v1 z1 F (v1.take (IntKind.i64.wrap ((v1.length:Int) - (1:Int))).toNat) (0:Int))
                    fun v6 =>
                  some (.go v6))
        (fun e=>some (.esc e)) fun v7 =>
      ref3_condError_L0 F n v7 (IntKind.i64.wrap (v4+(1:Int)))
    else
      some (.go ())
/-- printworks/printworksref3.condError -/
def ref3_condError (F:Nat) (a0:S_PrepressCond):Option Int :=
  callE (ref3_condError_L0 F F ([(S_ref3_wait.mk a0 (1:Int))]) (1:Int))
    (fun e=>some e) fun _ =>
  some (0:Int)
/-- printworks/printworksref3.condText$1 -/
def ref3_condText_c1 (F:Nat) (rec_ref3_condText:S_PrepressCond→Option ((List UInt8))) (a0:S_PrepressCond) (a1:Bool):Option ((List UInt8)) :=
  bif a1 then
    call (rec_ref3_condText a0) fun y1 =>
    chk (([40]:List UInt8).length+y1.length≤9223372036854775807) <|
    chk ((([40]:List UInt8)++y1).length+([41]:List UInt8).length≤9223372036854775807) <|
    some ((([40]:List UInt8)++y1)++([41]:List UInt8))
  else
    call (rec_ref3_condText a0) fun y2 =>
    some y2
def ref3_Decimal_L0 (F:Nat)  : Nat→Int→(List UInt8)→Option ((List UInt8))
  | 0,_,_=>none
  | n+1,v1,v2 =>
    bif (v1 != (0:Int)) then
      call (bif (decide ((v1.tmod (10:Int)) < (0:Int))) then
          some (IntKind.i64.wrap (0 - (v1.tmod (10:Int))))
        else
          some (v1.tmod (10:Int)))
        fun v3 =>
      chk (0≤(IntKind.u8.wrap (IntKind.i64.wrap ((48:Int)+v3)))∧(IntKind.u8.wrap (IntKind.i64.wrap ((48:Int)+v3))) < 256) <|
      chk (([(UInt8.ofNat (IntKind.u8.wrap (IntKind.i64.wrap ((48:Int)+v3))).toNat)]).length+v2.length≤9223372036854775807) <|
      ref3_Decimal_L0 F n (IntKind.i64.wrap (v1.tdiv (10:Int))) (([(UInt8.ofNat (IntKind.u8.wrap (IntKind.i64.wrap ((48:Int)+v3))).toNat)])++v2)
    else
      some v2
/-- printworks/printworksref3.Decimal -/
def ref3_Decimal (F:Nat) (a0:Int):Option ((List UInt8)) :=
  bif (a0 == (0:Int)) then
    some ([48]:List UInt8)
  else
    call (ref3_Decimal_L0 F F a0 [])
      fun v4 =>
    bif (decide (a0 < (0:Int))) then
      chk (([45]:List UInt8).length+v4.length≤9223372036854775807) <|
      some (([45]:List UInt8)++v4)
    else
      some v4
def ref3_condText_L1 (F:Nat) (a0:S_PrepressCond):Nat→(List UInt8)→Int→Option ((List UInt8))
  | 0,_,_=>none
  | n+1,v1,v2 =>
    bif (decide (v2 < (a0.f1.length:Int))) then
      chk (0≤v2∧v2 < a0.f1.length) <|
      call (lett ((bif (decide (((a0.f1.getD v2.toNat (S_PrepressTerm.mk 0 [])).f0) < (0:Int))) then (v2 == (0:Int)) else false)) fun z1 =>
        bif z1 then
          chk (v1.length+([45]:List UInt8).length≤9223372036854775807) <|
          some (v1++([45]:List UInt8))
        else
          bif (decide (((a0.f1.getD v2.toNat (S_PrepressTerm.mk 0 [])).f0) < (0:Int))) then
            chk (v1.length+([32,45,32]:List UInt8).length≤9223372036854775807) <|
            some (v1++([32,45,32]:List UInt8))
          else
            bif (decide (v2 > (0:Int))) then
              chk (v1.length+([32,43,32]:List UInt8).length≤9223372036854775807) <|
              some (v1++([32,43,32]:List UInt8))
            else
              some v1)
        fun v3 =>
      call (bif (decide (((a0.f1.getD v2.toNat (S_PrepressTerm.mk 0 [])).f0) < (0:Int))) then
          some (IntKind.i64.wrap (0 - ((a0.f1.getD v2.toNat (S_PrepressTerm.mk 0 [])).f0)))
        else
          some ((a0.f1.getD v2.toNat (S_PrepressTerm.mk 0 [])).f0))
        fun v4 =>
      call (bif (decide (v4 > (1:Int))) then
          call (ref3_Decimal F v4) fun y1 =>
          chk (y1.length+([32]:List UInt8).length≤9223372036854775807) <|
          chk (v3.length+(y1++([32]:List UInt8)).length≤9223372036854775807) <|
          some (v3++(y1++([32]:List UInt8)))
        else
          some v3)
        fun v5 =>
      chk (v5.length+((a0.f1.getD v2.toNat (S_PrepressTerm.mk 0 [])).f1).length≤9223372036854775807) <|
      ref3_condText_L1 F a0 n (v5++((a0.f1.getD v2.toNat (S_PrepressTerm.mk 0 [])).f1)) (IntKind.i64.wrap (v2+(1:Int)))
    else
      some v1
/-- printworks/printworksref3.condText -/
def ref3_condText_body (F:Nat) (rec_ref3_condText:S_PrepressCond→Option ((List UInt8))) (a0:S_PrepressCond):Option ((List UInt8)) :=
  bif (a0.f0 == (1:Int)) then
    chk (0≤(0:Int)∧(0:Int) < a0.f4.length) <|
    chk (0≤(0:Int)∧(0:Int) < a0.f4.length) <|
    call (ref3_condText_c1 F rec_ref3_condText (a0.f4.getD (0:Int).toNat (S_PrepressCond.mk 0 [] 0 0 [])) (decide (((a0.f4.getD (0:Int).toNat (S_PrepressCond.mk 0 [] 0 0 [])).f0) ≥ (2:Int)))) fun y2 =>
    chk (([110,111,116,32]:List UInt8).length+y2.length≤9223372036854775807) <|
    some (([110,111,116,32]:List UInt8)++y2)
  else
    bif (a0.f0 == (2:Int)) then
      chk (0≤(0:Int)∧(0:Int) < a0.f4.length) <|
      chk (0≤(1:Int)∧(1:Int) < a0.f4.length) <|
      call (ref3_condText_c1 F rec_ref3_condText (S_PrepressCond.mk ((a0.f4.getD (0:Int).toNat (S_PrepressCond.mk 0 [] 0 0 [])).f0) ((a0.f4.getD (0:Int).toNat (S_PrepressCond.mk 0 [] 0 0 [])).f1) ((a0.f4.getD (0:Int).toNat (S_PrepressCond.mk 0 [] 0 0 [])).f2) ((a0.f4.getD (0:Int).toNat (S_PrepressCond.mk 0 [] 0 0 [])).f3) ((a0.f4.getD (0:Int).toNat (S_PrepressCond.mk 0 [] 0 0 [])).f4)) (((a0.f4.getD (0:Int).toNat (S_PrepressCond.mk 0 [] 0 0 [])).f0) == (3:Int))) fun y3 =>
      chk (y3.length+([32,97,110,100,32]:List UInt8).length≤9223372036854775807) <|
      call (ref3_condText_c1 F rec_ref3_condText (S_PrepressCond.mk ((a0.f4.getD (1:Int).toNat (S_PrepressCond.mk 0 [] 0 0 [])).f0) ((a0.f4.getD (1:Int).toNat (S_PrepressCond.mk 0 [] 0 0 [])).f1) ((a0.f4.getD (1:Int).toNat (S_PrepressCond.mk 0 [] 0 0 [])).f2) ((a0.f4.getD (1:Int).toNat (S_PrepressCond.mk 0 [] 0 0 [])).f3) ((a0.f4.getD (1:Int).toNat (S_PrepressCond.mk 0 [] 0 0 [])).f4)) (decide (((a0.f4.getD (1:Int).toNat (S_PrepressCond.mk 0 [] 0 0 [])).f0) ≥ (2:Int)))) fun y4 =>
      chk ((y3++([32,97,110,100,32]:List UInt8)).length+y4.length≤9223372036854775807) <|
      some ((y3++([32,97,110,100,32]:List UInt8))++y4)
    else
      bif (a0.f0 == (3:Int)) then
        chk (0≤(0:Int)∧(0:Int) < a0.f4.length) <|
        call (rec_ref3_condText (a0.f4.getD (0:Int).toNat (S_PrepressCond.mk 0 [] 0 0 []))) fun y5 =>
        chk (y5.length+([32,111,114,32]:List UInt8).length≤9223372036854775807) <|
        chk (0≤(1:Int)∧(1:Int) < a0.f4.length) <|
        chk (0≤(1:Int)∧(1:Int) < a0.f4.length) <|
        call (ref3_condText_c1 F rec_ref3_condText (a0.f4.getD (1:Int).toNat (S_PrepressCond.mk 0 [] 0 0 [])) (((a0.f4.getD (1:Int).toNat (S_PrepressCond.mk 0 [] 0 0 [])).f0) == (3:Int))) fun y6 =>
        chk ((y5++([32,111,114,32]:List UInt8)).length+y6.length≤9223372036854775807) <|
        some ((y5++([32,111,114,32]:List UInt8))++y6)
      else
        call (ref3_condText_L1 F a0 F [] (0:Int))
          fun v6 =>
        chk (0≤a0.f2∧a0.f2 < ([([32,60,32]:List UInt8),([32,60,61,32]:List UInt8),([32,61,32]:List UInt8),([32,33,61,32]:List UInt8),([32,62,61,32]:List UInt8),([32,62,32]:List UInt8)]).length) <|
        lett ((([([32,60,32]:List UInt8),([32,60,61,32]:List UInt8),([32,61,32]:List UInt8),([32,33,61,32]:List UInt8),([32,62,61,32]:List UInt8),([32,62,32]:List UInt8)]).getD a0.f2.toNat [])) fun z2 =>
        chk (v6.length+z2.length≤9223372036854775807) <|
        call (ref3_Decimal F a0.f3) fun y7 =>
        chk ((v6++z2).length+y7.length≤9223372036854775807) <|
        some ((v6++z2)++y7)
def ref3_condText_fuel (F:Nat):Nat→S_PrepressCond→Option ((List UInt8))
  | 0=>fun _=>none
  | n+1=>ref3_condText_body F (ref3_condText_fuel F n)
def ref3_condText (F:Nat) (a0:S_PrepressCond):Option ((List UInt8)):=ref3_condText_fuel F F a0
def ref3_RulesText_L0 (F:Nat) (a0:List S_PrepressRule):Nat→(List UInt8)→Int→Option ((List UInt8))
  | 0,_,_=>none
  | n+1,v1,v2 =>
    bif (decide (v2 < (a0.length:Int))) then
      chk (0≤v2∧v2 < a0.length) <|
      chk (([114,117,108,101,32]:List UInt8).length+((a0.getD v2.toNat (S_PrepressRule.mk [] (S_PrepressCond.mk 0 [] 0 0 []))).f0).length≤9223372036854775807) <|
      lett ((([114,117,108,101,32]:List UInt8)++((a0.getD v2.toNat (S_PrepressRule.mk [] (S_PrepressCond.mk 0 [] 0 0 []))).f0))) fun z1 =>
      chk (z1.length+([58,32]:List UInt8).length≤9223372036854775807) <|
      call (ref3_condText F ((a0.getD v2.toNat (S_PrepressRule.mk [] (S_PrepressCond.mk 0 [] 0 0 []))).f1)) fun y1 =>
      chk ((z1++([58,32]:List UInt8)).length+y1.length≤9223372036854775807) <|
      chk (((z1++([58,32]:List UInt8))++y1).length+([59,10]:List UInt8).length≤9223372036854775807) <|
      chk (v1.length+(((z1++([58,32]:List UInt8))++y1)++([59,10]:List UInt8)).length≤9223372036854775807) <|
      ref3_RulesText_L0 F a0 n (v1++(((z1++([58,32]:List UInt8))++y1)++([59,10]:List UInt8))) (IntKind.i64.wrap (v2+(1:Int)))
    else
      some v1
/-- printworks/printworksref3.RulesText -/
def ref3_RulesText (F:Nat) (a0:List S_PrepressRule):Option ((List UInt8)) :=
  call (ref3_RulesText_L0 F a0 F [] (0:Int))
    fun v3 =>
  some v3
def ref3_RulesError_L2 (F:Nat) (a0:List S_PrepressRule) (v1:Int):Nat→Int→Option (Out Unit Int)
  | 0,_=>none
  | n+1,v2 =>
    bif (decide (v2 < (((a0.drop (0:Int).toNat).take (v1.toNat - (0:Int).toNat)).length:Int))) then
      chk (0≤v2∧v2 < ((a0.drop (0:Int).toNat).take (v1.toNat - (0:Int).toNat)).length) <|
      lett ((((a0.drop (0:Int).toNat).take (v1.toNat - (0:Int).toNat)).getD v2.toNat (S_PrepressRule.mk [] (S_PrepressCond.mk 0 [] 0 0 []))).f0) fun z1 =>
      bif (z1 == ((a0.getD v1.toNat (S_PrepressRule.mk [] (S_PrepressCond.mk 0 [] 0 0 []))).f0)) then
        some (.esc (7:Int))
      else
        ref3_RulesError_L2 F a0 v1 n (IntKind.i64.wrap (v2+(1:Int)))
    else
      some (.go ())
def ref3_RulesError_L0 (F:Nat) (a0:List S_PrepressRule):Nat→Int→Option (Out Unit Int)
  | 0,_=>none
  | n+1,v1 =>
    bif (decide (v1 < (a0.length:Int))) then
      chk (0≤v1∧v1 < a0.length) <|
      call (ref3_ruleName F ((a0.getD v1.toNat (S_PrepressRule.mk [] (S_PrepressCond.mk 0 [] 0 0 []))).f0)) fun y1 =>
      bif (!y1) then
        some (.esc (6:Int))
      else
        chk (0≤(0:Int)∧(0:Int)≤v1∧v1≤(a0.length:Int)) <|
        callE (ref3_RulesError_L2 F a0 v1 F (0:Int))
          (fun e=>some (.esc e)) fun _ =>
        call (ref3_condError F ((a0.getD v1.toNat (S_PrepressRule.mk [] (S_PrepressCond.mk 0 [] 0 0 []))).f1)) fun y2 =>
        bif (y2 != (0:Int)) then
          some (.esc y2)
        else
          ref3_RulesError_L0 F a0 n (IntKind.i64.wrap (v1+(1:Int)))
    else
      some (.go ())
/-- printworks/printworksref3.RulesError -/
def ref3_RulesError (F:Nat) (a0:List S_PrepressRule):Option Int :=
  bif (decide ((a0.length:Int) > (32:Int))) then
    some (2:Int)
  else
    callE (ref3_RulesError_L0 F a0 F (0:Int))
      (fun e=>some e) fun _ =>
    call (ref3_RulesText F a0) fun y3 =>
    bif (decide ((y3.length:Int) > (4096:Int))) then
      some (2:Int)
    else
      some (0:Int)
def ref3_FactsError_L0 (F:Nat) (a0:List S_PrepressFact):Nat→Int→Option (Out Unit Int)
  | 0,_=>none
  | n+1,v1 =>
    bif (decide (v1 < (a0.length:Int))) then
      chk (0≤v1∧v1 < a0.length) <|
      call (ref3_ruleName F ((a0.getD v1.toNat (S_PrepressFact.mk [] 0)).f0)) fun y1 =>
      bif (!y1) then
        some (.esc (6:Int))
      else
        call (ref3_beyond F (2147483648:Int) ([(a0.getD v1.toNat (S_PrepressFact.mk [] 0)).f1])) fun y2 =>
        bif y2 then
          some (.esc (3:Int))
        else
          chk ((((decide (v1 > (0:Int))) == true) && true)=true→0≤(IntKind.i64.wrap (v1 - (1:Int)))∧(IntKind.i64.wrap (v1 - (1:Int))) < a0.length) <|
          lett ((Op.bytesLess ((a0.getD v1.toNat (S_PrepressFact.mk [] 0)).f0) ((a0.getD (IntKind.i64.wrap (v1 - (1:Int))).toNat (S_PrepressFact.mk [] 0)).f0) || ((a0.getD v1.toNat (S_PrepressFact.mk [] 0)).f0) == ((a0.getD (IntKind.i64.wrap (v1 - (1:Int))).toNat (S_PrepressFact.mk [] 0)).f0))) fun z1 =>
          bif (bif (decide (v1 > (0:Int))) then z1 else false) then
            some (.esc (18:Int))
          else
            ref3_FactsError_L0 F a0 n (IntKind.i64.wrap (v1+(1:Int)))
    else
      some (.go ())
/-- printworks/printworksref3.FactsError -/
def ref3_FactsError (F:Nat) (a0:List S_PrepressFact):Option Int :=
  bif (decide ((a0.length:Int) > (64:Int))) then
    some (2:Int)
  else
    callE (ref3_FactsError_L0 F a0 F (0:Int))
      (fun e=>some e) fun _ =>
    some (0:Int)
def ref3_Can_L3 (F:Nat) (a0:S_PrepressCond) (a1:List S_PrepressFact) (v1:Int):Nat→Int→Bool→Int→Option (Int×Bool)
  | 0,_,_,_=>none
  | n+1,v2,v3,v4 =>
    bif (decide (v4 < (a1.length:Int))) then
      call (chk (0≤v4∧v4 < a1.length) <|
        lett ((((a1.getD v4.toNat (S_PrepressFact.mk [] 0)).f0) == ((a0.f1.getD v1.toNat (S_PrepressTerm.mk 0 [])).f1))) fun z1 =>
        bif z1 then
          lett (IntKind.i64.wrap (((a0.f1.getD v1.toNat (S_PrepressTerm.mk 0 [])).f0) * ((a1.getD v4.toNat (S_PrepressFact.mk [] 0)).f1))) fun z2 =>
          some (IntKind.i64.wrap (v2+z2),true)
        else
          some (v2,v3))
        fun (v5,v6) =>
      ref3_Can_L3 F a0 a1 v1 n v5 v6 (IntKind.i64.wrap (v4+(1:Int)))
    else
      some (v2,v3)
def ref3_Can_L1 (F:Nat) (a0:S_PrepressCond) (a1:List S_PrepressFact):Nat→Int→Int→Option (Out Int Bool)
  | 0,_,_=>none
  | n+1,v7,v1 =>
    bif (decide (v1 < (a0.f1.length:Int))) then
      chk (0≤v1∧v1 < a0.f1.length) <|
      call (ref3_Can_L3 F a0 a1 v1 F v7 false (0:Int))
        fun (v8,v9) =>
      bif (!v9) then
        some (.esc false)
      else
        ref3_Can_L1 F a0 a1 n v8 (IntKind.i64.wrap (v1+(1:Int)))
    else
      some (.go v7)
/-- printworks/printworksref3.Can -/
def ref3_Can_body (F:Nat) (rec_ref3_Can:S_PrepressCond→(List S_PrepressFact)→Bool→Option Bool) (a0:S_PrepressCond) (a1:List S_PrepressFact) (a2:Bool):Option Bool :=
  bif (a0.f0 == (1:Int)) then
    chk (0≤(0:Int)∧(0:Int) < a0.f4.length) <|
    call (rec_ref3_Can (a0.f4.getD (0:Int).toNat (S_PrepressCond.mk 0 [] 0 0 [])) a1 (!a2)) fun y1 =>
    some y1
  else
    call (bif (a0.f0 == (2:Int)) then
        some (a0.f0 == (2:Int))
      else
        some (a0.f0 == (3:Int)))
      fun v10 =>
    bif v10 then
      chk (0≤(0:Int)∧(0:Int) < a0.f4.length) <|
      call (rec_ref3_Can (a0.f4.getD (0:Int).toNat (S_PrepressCond.mk 0 [] 0 0 [])) a1 a2) fun y2 =>
      chk (0≤(1:Int)∧(1:Int) < a0.f4.length) <|
      call (rec_ref3_Can (a0.f4.getD (1:Int).toNat (S_PrepressCond.mk 0 [] 0 0 [])) a1 a2) fun y3 =>
      bif ((a0.f0 == (2:Int)) == a2) then
        some (bif y2 then true else y3)
      else
        some (bif y2 then y3 else false)
    else
      callE (ref3_Can_L1 F a0 a1 F (0:Int) (0:Int))
        (fun e=>some e) fun v11 =>
      call (bif (a0.f2 == (0:Int)) then
          some (decide (v11 < a0.f3))
        else
          bif (a0.f2 == (1:Int)) then
            some (decide (v11≤a0.f3))
          else
            bif (a0.f2 == (2:Int)) then
              some (v11 == a0.f3)
            else
              bif (a0.f2 == (3:Int)) then
                some (v11 != a0.f3)
              else
                bif (a0.f2 == (4:Int)) then
                  some (decide (v11 ≥ a0.f3))
                else
                  some (decide (v11 > a0.f3)))
        fun v12 =>
      some (!(v12 == a2))
def ref3_Can_fuel (F:Nat):Nat→S_PrepressCond→(List S_PrepressFact)→Bool→Option Bool
  | 0=>fun _ _ _=>none
  | n+1=>ref3_Can_body F (ref3_Can_fuel F n)
def ref3_Can (F:Nat) (a0:S_PrepressCond) (a1:List S_PrepressFact) (a2:Bool):Option Bool:=ref3_Can_fuel F F a0 a1 a2
/-- printworks/printworksref3.Told -/
def ref3_Told (F:Nat) (a0:S_PrepressCond) (a1:List S_PrepressFact):Option Int :=
  call (ref3_Can F a0 a1 false) fun y1 =>
  bif y1 then
    some (1:Int)
  else
    call (ref3_Can F a0 a1 true) fun y2 =>
    bif y2 then
      some (0:Int)
    else
      some (2:Int)
/-- cmp.Less[string] -/
def cmp_Less_string (F:Nat) (a0:List UInt8) (a1:List UInt8):Option Bool :=
  call (cmp_isNaN_string F a0) fun y1 =>
  call ((bif ((y1 == true) && true) then cmp_isNaN_string F a1 else some false)) fun y2 =>
  some (bif (bif y1 then (!y2) else false) then true else (Op.bytesLess a0 a1))
def slices_IsSorted_string_L0 (F:Nat) (a0:List (List UInt8)):Nat→Int→Option (Out Unit Bool)
  | 0,_=>none
  | n+1,v1 =>
    bif (decide (v1 > (0:Int))) then
      chk (0≤v1∧v1 < a0.length) <|
      chk (0≤(IntKind.i64.wrap (v1 - (1:Int)))∧(IntKind.i64.wrap (v1 - (1:Int))) < a0.length) <|
      call (cmp_Less_string F (a0.getD v1.toNat []) (a0.getD (IntKind.i64.wrap (v1 - (1:Int))).toNat [])) fun y1 =>
      bif y1 then
        some (.esc false)
      else
        slices_IsSorted_string_L0 F a0 n (IntKind.i64.wrap (v1 - (1:Int)))
    else
      some (.go ())
/-- slices.IsSorted[[]string,string] -/
def slices_IsSorted_string (F:Nat) (a0:List (List UInt8)):Option Bool :=
  callE (slices_IsSorted_string_L0 F a0 F (IntKind.i64.wrap ((a0.length:Int) - (1:Int))))
    (fun e=>some e) fun _ =>
  some true
/-- printworks/printworkslaw3.PrepressFindsOpenFacts$1 -/
def law3_PrepressFindsOpenFacts_c1 (F:Nat) (a0:S_PrepressFact) (c1:List UInt8):Option (Bool×(List UInt8)) :=
  some ((a0.f0 == c1),c1)
def slices_IndexFunc_PrepressFact_L0 (F:Nat) (a0:List S_PrepressFact):Nat→Int→(List UInt8)→Option (Out ((List UInt8)) (Int×(List UInt8)))
  | 0,_,_=>none
  | n+1,v1,v2 =>
    bif (decide (v1 < (a0.length:Int))) then
      chk (0≤v1∧v1 < a0.length) <|
      call (law3_PrepressFindsOpenFacts_c1 F (a0.getD v1.toNat (S_PrepressFact.mk [] 0)) v2) fun y1 =>
      bif y1.1 then
        some (.esc (v1,y1.2))
      else
        slices_IndexFunc_PrepressFact_L0 F a0 n (IntKind.i64.wrap (v1+(1:Int))) y1.2
    else
      some (.go v2)
/-- slices.IndexFunc[[]printworks/api.PrepressFact,printworks/api.PrepressFact] -/
def slices_IndexFunc_PrepressFact (F:Nat) (a0:List S_PrepressFact) (c1:List UInt8):Option (Int×(List UInt8)) :=
  callE (slices_IndexFunc_PrepressFact_L0 F a0 F (0:Int) c1)
    (fun e=>some e) fun v3 =>
  some ((-1:Int),v3)
/-- slices.ContainsFunc[[]printworks/api.PrepressFact,printworks/api.PrepressFact] -/
def slices_ContainsFunc_PrepressFact (F:Nat) (a0:List S_PrepressFact) (c1:List UInt8):Option (Bool×(List UInt8)) :=
  call (slices_IndexFunc_PrepressFact F a0 c1) fun y1 =>
  some ((decide (y1.1 ≥ (0:Int))),y1.2)
def ref3_mentions_L0 (F:Nat) (a0:S_PrepressCond) (a1:List UInt8):Nat→Int→Option (Out Unit Bool)
  | 0,_=>none
  | n+1,v1 =>
    bif (decide (v1 < (a0.f1.length:Int))) then
      chk (0≤v1∧v1 < a0.f1.length) <|
      bif (((a0.f1.getD v1.toNat (S_PrepressTerm.mk 0 [])).f1) == a1) then
        some (.esc true)
      else
        ref3_mentions_L0 F a0 a1 n (IntKind.i64.wrap (v1+(1:Int)))
    else
      some (.go ())
def ref3_mentions_L2 (F:Nat) (a0:S_PrepressCond) (a1:List UInt8) (rec_ref3_mentions:S_PrepressCond→(List UInt8)→Option Bool):Nat→Int→Option (Out Unit Bool)
  | 0,_=>none
  | n+1,v2 =>
    bif (decide (v2 < (a0.f4.length:Int))) then
      chk (0≤v2∧v2 < a0.f4.length) <|
      call (rec_ref3_mentions (a0.f4.getD v2.toNat (S_PrepressCond.mk 0 [] 0 0 [])) a1) fun y1 =>
      bif y1 then
        some (.esc true)
      else
        ref3_mentions_L2 F a0 a1 rec_ref3_mentions n (IntKind.i64.wrap (v2+(1:Int)))
    else
      some (.go ())
/-- printworks/printworksref3.mentions -/
def ref3_mentions_body (F:Nat) (rec_ref3_mentions:S_PrepressCond→(List UInt8)→Option Bool) (a0:S_PrepressCond) (a1:List UInt8):Option Bool :=
  callE (ref3_mentions_L0 F a0 a1 F (0:Int))
    (fun e=>some e) fun _ =>
  callE (ref3_mentions_L2 F a0 a1 rec_ref3_mentions F (0:Int))
    (fun e=>some e) fun _ =>
  some false
def ref3_mentions_fuel (F:Nat):Nat→S_PrepressCond→(List UInt8)→Option Bool
  | 0=>fun _ _=>none
  | n+1=>ref3_mentions_body F (ref3_mentions_fuel F n)
def ref3_mentions (F:Nat) (a0:S_PrepressCond) (a1:List UInt8):Option Bool:=ref3_mentions_fuel F F a0 a1
def ref3_Mentioned_L0 (F:Nat) (a0:S_PrepressCond) (a1:List (List UInt8)):Nat→(List Bool)→Int→Option ((List Bool))
  | 0,_,_=>none
  | n+1,v1,v2 =>
    bif (decide (v2 < (a1.length:Int))) then
      chk (0≤v2∧v2 < a1.length) <|
      call (ref3_mentions F a0 (a1.getD v2.toNat [])) fun y1 =>
      chk (0≤v2∧v2 < v1.length) <|
      ref3_Mentioned_L0 F a0 a1 n (v1.set v2.toNat y1) (IntKind.i64.wrap (v2+(1:Int)))
    else
      some v1
/-- printworks/printworksref3.Mentioned -/
def ref3_Mentioned (F:Nat) (a0:S_PrepressCond) (a1:List (List UInt8)):Option ((List Bool)) :=
  chk (0≤(a1.length:Int)∧(a1.length:Int)≤(a1.length:Int)∧(a1.length:Int)≤9223372036854775807∧((1:Nat):Int) * (a1.length:Int)≤281474976710656) <|
  call (ref3_Mentioned_L0 F a0 a1 F (List.replicate (a1.length:Int).toNat false) (0:Int))
    fun v3 =>
  some v3
/-- slices.Clone[[]printworks/api.PrepressFact,printworks/api.PrepressFact] -/
def slices_Clone_PrepressFact' (F:Nat) (a0:List S_PrepressFact):Option ((List S_PrepressFact)) :=
  chk (([]:List S_PrepressFact).length+a0.length≤4294967296) <|
  some (([]:List S_PrepressFact)++a0)
def law3_PrepressFindsOpenFacts_L0 (F:Nat) (a0:S_PrepressRule) (a1:List S_PrepressFact) (y1:(List S_PrepressFinding)×Int):Nat→Int→Option (Out Unit Bool)
  | 0,_=>none
  | n+1,v1 =>
    lett ((decide (v1 < (((y1.1.getD (0:Int).toNat (S_PrepressFinding.mk [] false [])).f2).length:Int)))) fun z1 =>
    bif z1 then
      chk (0≤v1∧v1 < ((y1.1.getD (0:Int).toNat (S_PrepressFinding.mk [] false [])).f2).length) <|
      call (slices_ContainsFunc_PrepressFact F a1 (((y1.1.getD (0:Int).toNat (S_PrepressFinding.mk [] false [])).f2).getD v1.toNat [])) fun y2 =>
      call ((bif ((y2.1 == false) && true) then ref3_Mentioned F a0.f1 ([y2.2]) else some [])) fun y3 =>
      chk (((y2.1 == false) && true)=true→0≤(0:Int)∧(0:Int) < y3.length) <|
      chk ((((decide (v1 > (0:Int))) == true) && (((bif y2.1 then true else (!(y3.getD (0:Int).toNat false))) == false) && true))=true→0≤(0:Int)∧(0:Int) < y1.1.length) <|
      chk ((((decide (v1 > (0:Int))) == true) && (((bif y2.1 then true else (!(y3.getD (0:Int).toNat false))) == false) && true))=true→0≤(IntKind.i64.wrap (v1 - (1:Int)))∧(IntKind.i64.wrap (v1 - (1:Int))) < ((y1.1.getD (0:Int).toNat (S_PrepressFinding.mk [] false [])).f2).length) <|
      lett ((((y1.1.getD (0:Int).toNat (S_PrepressFinding.mk [] false [])).f2).getD (IntKind.i64.wrap (v1 - (1:Int))).toNat [])) fun z2 =>
      lett ((bif (bif y2.1 then true else (!(y3.getD (0:Int).toNat false))) then true else (bif (decide (v1 > (0:Int))) then (z2 == y2.2) else false))) fun z3 =>
      bif z3 then
        some (.esc false)
      else
        law3_PrepressFindsOpenFacts_L0 F a0 a1 y1 n (IntKind.i64.wrap (v1+(1:Int)))
    else
      some (.go ())
def law3_PrepressFindsOpenFacts_L2 (F:Nat) (y1:(List S_PrepressFinding)×Int):Nat→(List S_PrepressFact)→Int→Option ((List S_PrepressFact))
  | 0,_,_=>none
  | n+1,v2,v3 =>
    lett ((decide (v3 < (((y1.1.getD (0:Int).toNat (S_PrepressFinding.mk [] false [])).f2).length:Int)))) fun z4 =>
    bif z4 then
      chk (0≤v3∧v3 < ((y1.1.getD (0:Int).toNat (S_PrepressFinding.mk [] false [])).f2).length) <|
      chk (v2.length+([(S_PrepressFact.mk (((y1.1.getD (0:Int).toNat (S_PrepressFinding.mk [] false [])).f2).getD v3.toNat []) 0)]).length≤4294967296) <|
      lett ((v2++([(S_PrepressFact.mk (((y1.1.getD (0:Int).toNat (S_PrepressFinding.mk [] false [])).f2).getD v3.toNat []) 0)]))) fun l1 =>
      law3_PrepressFindsOpenFacts_L2 F y1 n l1 (IntKind.i64.wrap (v3+(1:Int)))
    else
      some v2
/-- printworks/printworkslaw3.PrepressFindsOpenFacts -/
def law3_PrepressFindsOpenFacts (F:Nat) (a0:S_PrepressRule) (a1:List S_PrepressFact):Option Bool :=
  call (law3_ruleFact F) fun y4 =>
  bif (!y4) then
    some false
  else
    call (ref3_RulesError F ([a0])) fun y5 =>
    call ((bif (((y5 != (0:Int)) == false) && true) then ref3_FactsError F a1 else some 0)) fun y6 =>
    bif (bif (y5 != (0:Int)) then true else (y6 != (0:Int))) then
      some true
    else
      call (prepress_Judge F ([a0]) a1) fun y1 =>
      call (ref3_Told F a0.f1 a1) fun y7 =>
      lett ((bif (y1.2 != (0:Int)) then true else (!(((y1.1.length:Int) == (0:Int)) == (y7 == (1:Int)))))) fun z5 =>
      bif (bif z5 then true else (decide ((y1.1.length:Int) > (1:Int)))) then
        some false
      else
        bif (y7 != (2:Int)) then
          chk (((((y1.1.length:Int) == (0:Int)) == false) && true)=true→0≤(0:Int)∧(0:Int) < y1.1.length) <|
          lett ((bif ((y1.1.length:Int) == (0:Int)) then true else (!((y1.1.getD (0:Int).toNat (S_PrepressFinding.mk [] false [])).f1)))) fun z6 =>
          some z6
        else
          chk (0≤(0:Int)∧(0:Int) < y1.1.length) <|
          chk ((((!((y1.1.getD (0:Int).toNat (S_PrepressFinding.mk [] false [])).f1)) == false) && true)=true→0≤(0:Int)∧(0:Int) < y1.1.length) <|
          call ((bif (((!((y1.1.getD (0:Int).toNat (S_PrepressFinding.mk [] false [])).f1)) == false) && true) then slices_IsSorted_string F ((y1.1.getD (0:Int).toNat (S_PrepressFinding.mk [] false [])).f2) else some false)) fun y8 =>
          bif (bif (!((y1.1.getD (0:Int).toNat (S_PrepressFinding.mk [] false [])).f1)) then true else (!y8)) then
            some false
          else
            chk (0≤(0:Int)∧(0:Int) < y1.1.length) <|
            callE (law3_PrepressFindsOpenFacts_L0 F a0 a1 y1 F (0:Int))
              (fun e=>some e) fun _ =>
            call (slices_Clone_PrepressFact' F a1) fun y9 =>
            chk (0≤(0:Int)∧(0:Int) < y1.1.length) <|
            call (law3_PrepressFindsOpenFacts_L2 F y1 F y9 (0:Int))
              fun v4 =>
            chk (v4.length≤4294967296) <|
            call (ref3_Told F a0.f1 (@sortBy S_PrepressFact ⟨S_PrepressFact.mk [] 0⟩ (fun x y=>Op.bytesLess x.f0 y.f0) v4)) fun y10 =>
            some (y10 != (2:Int))
end Go.Vm.PreG
