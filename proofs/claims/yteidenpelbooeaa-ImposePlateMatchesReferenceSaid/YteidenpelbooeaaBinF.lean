import Derived.Test.YteidenpelbooeaaVmC
namespace Go.Vm.BinG
structure S_Plate where
  f0:Int
  f1:Int
  f2:List UInt8
deriving DecidableEq
def cS_Plate (x:S_Plate):List Dat:=(cI .i64) x.f0++(cI .i64) x.f1++(cL 1 cU) x.f2
structure S_FoldStep where
  f0:Int
  f1:Int
  f2:Bool
deriving DecidableEq
def cS_FoldStep (x:S_FoldStep):List Dat:=(cI .i64) x.f0++(cI .i64) x.f1++cB x.f2
structure S_FoldScheme where
  f0:Int
  f1:Int
  f2:List S_FoldStep
deriving DecidableEq
def cS_FoldScheme (x:S_FoldScheme):List Dat:=(cI .i64) x.f0++(cI .i64) x.f1++(cL 3 cS_FoldStep) x.f2
structure S_ImposeLayout where
  f0:S_FoldScheme
  f1:Int
  f2:Int
  f3:Int
  f4:Int
  f5:Int
  f6:Int
  f7:Int
  f8:Int
deriving DecidableEq
def cS_ImposeLayout (x:S_ImposeLayout):List Dat:=cS_FoldScheme x.f0++(cI .i64) x.f1++(cI .i64) x.f2++(cI .i64) x.f3++(cI .i64) x.f4++(cI .i64) x.f5++(cI .i64) x.f6++(cI .i64) x.f7++(cI .i64) x.f8
structure S_BinderySheet where
  f0:S_Plate
  f1:S_Plate
deriving DecidableEq
structure S_BinderyLeaf where
  f0:S_Plate
  f1:S_Plate
deriving DecidableEq
structure S_bindery_frame where
  f0:Int
  f1:Int
  f2:Int
  f3:Int
deriving DecidableEq
structure S_arr2_SPlate where
  f0:S_Plate
  f1:S_Plate
deriving DecidableEq
structure S_FoldPage where
  f0:Bool
  f1:Int
  f2:Int
  f3:Int
deriving DecidableEq
def cS_FoldPage (x:S_FoldPage):List Dat:=cB x.f0++(cI .i64) x.f1++(cI .i64) x.f2++(cI .i64) x.f3
structure S_ImposePlace where
  f0:Int
  f1:Int
  f2:Int
  f3:Int
deriving DecidableEq
def cS_ImposePlace (x:S_ImposePlace):List Dat:=(cI .i64) x.f0++(cI .i64) x.f1++(cI .i64) x.f2++(cI .i64) x.f3
structure S_ImposeSheet where
  f0:Int
  f1:Int
  f2:List S_ImposePlace
  f3:List S_ImposePlace
deriving DecidableEq
def cS_ImposeSheet (x:S_ImposeSheet):List Dat:=(cI .i64) x.f0++(cI .i64) x.f1++(cL 4 cS_ImposePlace) x.f2++(cL 4 cS_ImposePlace) x.f3
structure S_ref3_Sheet where
  f0:List Int
  f1:List Int
  f2:List Int
  f3:List Int
  f4:List Int
  f5:List Int
  f6:List Int
  f7:Int
  f8:Int
  f9:Int
  f10:Int
  f11:Int
deriving DecidableEq
structure S_ImposeMark where
  f0:Int
  f1:Int
  f2:Int
  f3:Int
deriving DecidableEq
def cS_ImposeMark (x:S_ImposeMark):List Dat:=(cI .i64) x.f0++(cI .i64) x.f1++(cI .i64) x.f2++(cI .i64) x.f3
structure S_arr4_Int where
  f0:Int
  f1:Int
  f2:Int
  f3:Int
deriving DecidableEq
def cS_arr4_Int (x:S_arr4_Int):List Dat:=(cI .i64) x.f0++(cI .i64) x.f1++(cI .i64) x.f2++(cI .i64) x.f3
structure S_FoldLeaf where
  f0:Int
  f1:Int
  f2:Bool
  f3:Bool
deriving DecidableEq
def cS_FoldLeaf (x:S_FoldLeaf):List Dat:=(cI .i64) x.f0++(cI .i64) x.f1++cB x.f2++cB x.f3
structure S_impose_box where
  f0:Int
  f1:Int
  f2:Int
  f3:Int
  f4:Int
  f5:Int
deriving DecidableEq
def cS_impose_box (x:S_impose_box):List Dat:=(cI .i64) x.f0++(cI .i64) x.f1++(cI .i64) x.f2++(cI .i64) x.f3++(cI .i64) x.f4++(cI .i64) x.f5
structure S_fold_sheet where
  f0:Int
  f1:Int
  f2:List (List S_FoldLeaf)
deriving DecidableEq
def cS_fold_sheet (x:S_fold_sheet):List Dat:=(cI .i64) x.f0++(cI .i64) x.f1++(cL 1 (cL 4 cS_FoldLeaf)) x.f2
def law3_dots_L0 (F:Nat) (a0:Int) (a1:Int) (a2:Int):Nat→(List UInt8)→Int→Option ((List UInt8))
  | 0,_,_=>none
  | n+1,v1,v2 =>
    bif (decide (v2 < (IntKind.i64.wrap (a0 * a1)))) then
      lett (IntKind.i64.wrap ((IntKind.i64.wrap (a2+(IntKind.i64.wrap (v2 * (7:Int)))))+(IntKind.i64.wrap (v2 * v2)))) fun z1 =>
      chk (0≤(IntKind.u8.wrap z1)∧(IntKind.u8.wrap z1) < 256) <|
      chk (v1.length+([(UInt8.ofNat (IntKind.u8.wrap z1).toNat)]).length≤4294967296) <|
      law3_dots_L0 F a0 a1 a2 n (v1++([(UInt8.ofNat (IntKind.u8.wrap z1).toNat)])) (IntKind.i64.wrap (v2+(1:Int)))
    else
      some v1
/-- printworks/printworkslaw3.dots -/
def law3_dots (F:Nat) (a0:Int) (a1:Int) (a2:Int):Option S_Plate :=
  call (law3_dots_L0 F a0 a1 a2 F [] (0:Int))
    fun v3 =>
  some (S_Plate.mk a0 a1 v3)
/-- slices.Clone[[]uint8,uint8] -/
def slices_Clone_uint8 (F:Nat) (a0:List UInt8):Option ((List UInt8)) :=
  chk (([]:List UInt8).length+a0.length≤4294967296) <|
  some (([]:List UInt8)++a0)
/-- printworks/raster.Of -/
def raster_Of (F:Nat) (a0:S_Plate):Option S_Plate :=
  call (slices_Clone_uint8 F a0.f2) fun y1 =>
  some (S_Plate.mk a0.f0 a0.f1 y1)
/-- printworks/raster.sized -/
def raster_sized (F:Nat) (a0:Int) (a1:Int):Option Bool :=
  lett ((bif (bif (decide (a0 ≥ (1:Int))) then (decide (a0≤(1024:Int))) else false) then (decide (a1 ≥ (1:Int))) else false)) fun z1 =>
  some (bif z1 then (decide (a1≤(1024:Int))) else false)
/-- (printworks/raster.Grid[uint8]).Check -/
def raster_Grid_uint8_Check (F:Nat) (a0:S_Plate):Option Int :=
  call (raster_sized F a0.f0 a0.f1) fun y1 =>
  bif (!y1) then
    some (3:Int)
  else
    bif ((a0.f2.length:Int) != (IntKind.i64.wrap (a0.f0 * a0.f1))) then
      some (4:Int)
    else
      some (0:Int)
/-- (printworks/raster.Grid[uint8]).Turn$1 -/
def raster_Grid_uint8_Turn_c1 (F:Nat) (a0:Int) (a1:Int) (c2:Int) (c3:Int) (c4:List UInt8) (c5:Int) (c6:Int):Option (Int×Int×Int×(List UInt8)×Int×Int) :=
  lett (IntKind.i64.wrap ((IntKind.i64.wrap ((IntKind.i64.wrap ((IntKind.i64.wrap (c5 - (1:Int))) - a0)) * c6))+a1)) fun z1 =>
  chk (0≤z1∧z1 < c4.length) <|
  some (((c4.getD z1.toNat 0).toNat:Int),c2,c3,c4,c5,c6)
def raster_build_uint8_v1_L2 (F:Nat) (a0:Int) (v1:Int):Nat→(List UInt8)→Int→Int→Int→(List UInt8)→Int→Int→Option ((List UInt8)×Int×Int×(List UInt8)×Int×Int)
  | 0,_,_,_,_,_,_,_=>none
  | n+1,v2,v3,v4,v5,v6,v7,v8 =>
    bif (decide (v3 < a0)) then
      call (raster_Grid_uint8_Turn_c1 F v3 v1 v4 v5 v6 v7 v8) fun y1 =>
      chk (0≤y1.1∧y1.1 < 256) <|
      chk (v2.length+([(UInt8.ofNat y1.1.toNat)]).length≤4294967296) <|
      raster_build_uint8_v1_L2 F a0 v1 n (v2++([(UInt8.ofNat y1.1.toNat)])) (IntKind.i64.wrap (v3+(1:Int))) y1.2.1 y1.2.2.1 y1.2.2.2.1 y1.2.2.2.2.1 y1.2.2.2.2.2
    else
      some (v2,v4,v5,v6,v7,v8)
def raster_build_uint8_v1_L0 (F:Nat) (a0:Int) (a1:Int):Nat→(List UInt8)→Int→Int→Int→(List UInt8)→Int→Int→Option ((List UInt8)×Int×Int×(List UInt8)×Int×Int)
  | 0,_,_,_,_,_,_,_=>none
  | n+1,v9,v1,v10,v11,v12,v13,v14 =>
    bif (decide (v1 < a1)) then
      call (raster_build_uint8_v1_L2 F a0 v1 F v9 (0:Int) v10 v11 v12 v13 v14)
        fun (v15,v16,v17,v18,v19,v20) =>
      raster_build_uint8_v1_L0 F a0 a1 n v15 (IntKind.i64.wrap (v1+(1:Int))) v16 v17 v18 v19 v20
    else
      some (v9,v10,v11,v12,v13,v14)
/-- printworks/raster.build[uint8] -/
def raster_build_uint8_v1 (F:Nat) (a0:Int) (a1:Int) (c2:Int) (c3:Int) (c4:List UInt8) (c5:Int) (c6:Int):Option (S_Plate×Int×Int×(List UInt8)×Int×Int) :=
  chk (0≤(0:Int)∧(0:Int)≤(IntKind.i64.wrap (a0 * a1))∧(IntKind.i64.wrap (a0 * a1))≤9223372036854775807∧((1:Nat):Int) * (IntKind.i64.wrap (a0 * a1))≤281474976710656) <|
  call (raster_build_uint8_v1_L0 F a0 a1 F (List.replicate (0:Int).toNat 0) (0:Int) c2 c3 c4 c5 c6)
    fun (v21,v22,v23,v24,v25,v26) =>
  some ((S_Plate.mk a0 a1 v21),v22,v23,v24,v25,v26)
/-- (printworks/raster.Grid[uint8]).Turn$2 -/
def raster_Grid_uint8_Turn_c2 (F:Nat) (a0:Int) (a1:Int) (c2:Int) (c3:Int) (c4:List UInt8) (c5:Int) (c6:Int):Option (Int×Int×Int×(List UInt8)×Int×Int) :=
  lett (IntKind.i64.wrap ((IntKind.i64.wrap ((IntKind.i64.wrap ((IntKind.i64.wrap (c5 - (1:Int))) - a1)) * c6))+c6)) fun z1 =>
  chk (0≤(IntKind.i64.wrap ((IntKind.i64.wrap (z1 - (1:Int))) - a0))∧(IntKind.i64.wrap ((IntKind.i64.wrap (z1 - (1:Int))) - a0)) < c4.length) <|
  some (((c4.getD (IntKind.i64.wrap ((IntKind.i64.wrap (z1 - (1:Int))) - a0)).toNat 0).toNat:Int),c2,c3,c4,c5,c6)
def raster_build_uint8_v2_L2 (F:Nat) (a0:Int) (v1:Int):Nat→(List UInt8)→Int→Int→Int→(List UInt8)→Int→Int→Option ((List UInt8)×Int×Int×(List UInt8)×Int×Int)
  | 0,_,_,_,_,_,_,_=>none
  | n+1,v2,v3,v4,v5,v6,v7,v8 =>
    bif (decide (v3 < a0)) then
      call (raster_Grid_uint8_Turn_c2 F v3 v1 v4 v5 v6 v7 v8) fun y1 =>
      chk (0≤y1.1∧y1.1 < 256) <|
      chk (v2.length+([(UInt8.ofNat y1.1.toNat)]).length≤4294967296) <|
      raster_build_uint8_v2_L2 F a0 v1 n (v2++([(UInt8.ofNat y1.1.toNat)])) (IntKind.i64.wrap (v3+(1:Int))) y1.2.1 y1.2.2.1 y1.2.2.2.1 y1.2.2.2.2.1 y1.2.2.2.2.2
    else
      some (v2,v4,v5,v6,v7,v8)
def raster_build_uint8_v2_L0 (F:Nat) (a0:Int) (a1:Int):Nat→(List UInt8)→Int→Int→Int→(List UInt8)→Int→Int→Option ((List UInt8)×Int×Int×(List UInt8)×Int×Int)
  | 0,_,_,_,_,_,_,_=>none
  | n+1,v9,v1,v10,v11,v12,v13,v14 =>
    bif (decide (v1 < a1)) then
      call (raster_build_uint8_v2_L2 F a0 v1 F v9 (0:Int) v10 v11 v12 v13 v14)
        fun (v15,v16,v17,v18,v19,v20) =>
      raster_build_uint8_v2_L0 F a0 a1 n v15 (IntKind.i64.wrap (v1+(1:Int))) v16 v17 v18 v19 v20
    else
      some (v9,v10,v11,v12,v13,v14)
/-- printworks/raster.build[uint8] -/
def raster_build_uint8_v2 (F:Nat) (a0:Int) (a1:Int) (c2:Int) (c3:Int) (c4:List UInt8) (c5:Int) (c6:Int):Option (S_Plate×Int×Int×(List UInt8)×Int×Int) :=
  chk (0≤(0:Int)∧(0:Int)≤(IntKind.i64.wrap (a0 * a1))∧(IntKind.i64.wrap (a0 * a1))≤9223372036854775807∧((1:Nat):Int) * (IntKind.i64.wrap (a0 * a1))≤281474976710656) <|
  call (raster_build_uint8_v2_L0 F a0 a1 F (List.replicate (0:Int).toNat 0) (0:Int) c2 c3 c4 c5 c6)
    fun (v21,v22,v23,v24,v25,v26) =>
  some ((S_Plate.mk a0 a1 v21),v22,v23,v24,v25,v26)
/-- (printworks/raster.Grid[uint8]).Turn$3 -/
def raster_Grid_uint8_Turn_c3 (F:Nat) (a0:Int) (a1:Int) (c2:Int) (c3:Int) (c4:List UInt8) (c5:Int):Option (Int×Int×Int×(List UInt8)×Int) :=
  lett (IntKind.i64.wrap ((IntKind.i64.wrap ((IntKind.i64.wrap ((IntKind.i64.wrap (a0 * c5))+c5)) - (1:Int))) - a1)) fun z1 =>
  chk (0≤z1∧z1 < c4.length) <|
  some (((c4.getD z1.toNat 0).toNat:Int),c2,c3,c4,c5)
def raster_build_uint8_v3_L2 (F:Nat) (a0:Int) (v1:Int):Nat→(List UInt8)→Int→Int→Int→(List UInt8)→Int→Option ((List UInt8)×Int×Int×(List UInt8)×Int)
  | 0,_,_,_,_,_,_=>none
  | n+1,v2,v3,v4,v5,v6,v7 =>
    bif (decide (v3 < a0)) then
      call (raster_Grid_uint8_Turn_c3 F v3 v1 v4 v5 v6 v7) fun y1 =>
      chk (0≤y1.1∧y1.1 < 256) <|
      chk (v2.length+([(UInt8.ofNat y1.1.toNat)]).length≤4294967296) <|
      raster_build_uint8_v3_L2 F a0 v1 n (v2++([(UInt8.ofNat y1.1.toNat)])) (IntKind.i64.wrap (v3+(1:Int))) y1.2.1 y1.2.2.1 y1.2.2.2.1 y1.2.2.2.2
    else
      some (v2,v4,v5,v6,v7)
def raster_build_uint8_v3_L0 (F:Nat) (a0:Int) (a1:Int):Nat→(List UInt8)→Int→Int→Int→(List UInt8)→Int→Option ((List UInt8)×Int×Int×(List UInt8)×Int)
  | 0,_,_,_,_,_,_=>none
  | n+1,v8,v1,v9,v10,v11,v12 =>
    bif (decide (v1 < a1)) then
      call (raster_build_uint8_v3_L2 F a0 v1 F v8 (0:Int) v9 v10 v11 v12)
        fun (v13,v14,v15,v16,v17) =>
      raster_build_uint8_v3_L0 F a0 a1 n v13 (IntKind.i64.wrap (v1+(1:Int))) v14 v15 v16 v17
    else
      some (v8,v9,v10,v11,v12)
/-- printworks/raster.build[uint8] -/
def raster_build_uint8_v3 (F:Nat) (a0:Int) (a1:Int) (c2:Int) (c3:Int) (c4:List UInt8) (c5:Int):Option (S_Plate×Int×Int×(List UInt8)×Int) :=
  chk (0≤(0:Int)∧(0:Int)≤(IntKind.i64.wrap (a0 * a1))∧(IntKind.i64.wrap (a0 * a1))≤9223372036854775807∧((1:Nat):Int) * (IntKind.i64.wrap (a0 * a1))≤281474976710656) <|
  call (raster_build_uint8_v3_L0 F a0 a1 F (List.replicate (0:Int).toNat 0) (0:Int) c2 c3 c4 c5)
    fun (v18,v19,v20,v21,v22) =>
  some ((S_Plate.mk a0 a1 v18),v19,v20,v21,v22)
/-- (printworks/raster.Grid[uint8]).Turn -/
def raster_Grid_uint8_Turn (F:Nat) (a0:S_Plate) (a1:Int):Option (S_Plate×Int) :=
  call (raster_Grid_uint8_Check F a0) fun y1 =>
  bif (y1 != (0:Int)) then
    some ((S_Plate.mk 0 0 []),y1)
  else
    lett (IntKind.i64.wrap ((BitVec.ofInt IntKind.i64.bits a1 &&& BitVec.ofInt IntKind.i64.bits (3:Int)).toNat:Int)) fun z1 =>
    bif (z1 == (1:Int)) then
      call (raster_build_uint8_v1 F a0.f1 a0.f0 a0.f0 a0.f1 a0.f2 a0.f1 a0.f0) fun y2 =>
      some (y2.1,(0:Int))
    else
      bif (z1 == (2:Int)) then
        call (raster_build_uint8_v2 F a0.f0 a0.f1 a0.f0 a0.f1 a0.f2 a0.f1 a0.f0) fun y3 =>
        some (y3.1,(0:Int))
      else
        bif (z1 == (3:Int)) then
          call (raster_build_uint8_v3 F a0.f1 a0.f0 a0.f0 a0.f1 a0.f2 a0.f0) fun y4 =>
          some (y4.1,(0:Int))
        else
          call (slices_Clone_uint8 F a0.f2) fun y5 =>
          some ((S_Plate.mk a0.f0 a0.f1 y5),(0:Int))
/-- printworks/raster.Plate -/
def raster_Plate (F:Nat) (a0:S_Plate):Option S_Plate :=
  call (slices_Clone_uint8 F a0.f2) fun y1 =>
  some (S_Plate.mk a0.f0 a0.f1 y1)
def fold_flat_L2 (F:Nat) (a0:S_FoldScheme) (v1:Int):Nat→(List (List S_FoldLeaf))→Int→Option ((List (List S_FoldLeaf)))
  | 0,_,_=>none
  | n+1,v2,v3 =>
    bif (decide (v3 < a0.f0)) then
      chk (v2.length+([[(S_FoldLeaf.mk v3 v1 false false)]]).length≤4294967296) <|
      fold_flat_L2 F a0 v1 n (v2++([[(S_FoldLeaf.mk v3 v1 false false)]])) (IntKind.i64.wrap (v3+(1:Int)))
    else
      some v2
def fold_flat_L0 (F:Nat) (a0:S_FoldScheme):Nat→(List (List S_FoldLeaf))→Int→Option ((List (List S_FoldLeaf)))
  | 0,_,_=>none
  | n+1,v4,v1 =>
    bif (decide (v1 < a0.f1)) then
      call (fold_flat_L2 F a0 v1 F v4 (0:Int))
        fun v5 =>
      fold_flat_L0 F a0 n v5 (IntKind.i64.wrap (v1+(1:Int)))
    else
      some v4
/-- printworks/fold.flat -/
def fold_flat (F:Nat) (a0:S_FoldScheme):Option S_fold_sheet :=
  call (fold_flat_L0 F a0 F [] (0:Int))
    fun v6 =>
  some (S_fold_sheet.mk a0.f0 a0.f1 v6)
/-- printworks/fold.across -/
def fold_across (F:Nat) (a0:S_FoldStep):Option Bool :=
  some (bif (a0.f0 == (0:Int)) then true else (a0.f0 == (1:Int)))
/-- (printworks/fold.sheet).extent -/
def fold_sheet_extent (F:Nat) (a0:S_fold_sheet) (a1:S_FoldStep):Option Int :=
  call (fold_across F a1) fun y1 =>
  bif y1 then
    some a0.f0
  else
    some a0.f1
/-- (printworks/fold.sheet).pile -/
def fold_sheet_pile (F:Nat) (a0:S_fold_sheet) (a1:Int) (a2:Int):Option ((List S_FoldLeaf)) :=
  lett ((bif (bif (decide (a1 < (0:Int))) then true else (decide (a2 < (0:Int)))) then true else (decide (a1 ≥ a0.f0)))) fun z1 =>
  bif (bif z1 then true else (decide (a2 ≥ a0.f1))) then
    some []
  else
    chk (0≤(IntKind.i64.wrap ((IntKind.i64.wrap (a2 * a0.f0))+a1))∧(IntKind.i64.wrap ((IntKind.i64.wrap (a2 * a0.f0))+a1)) < a0.f2.length) <|
    some (a0.f2.getD (IntKind.i64.wrap ((IntKind.i64.wrap (a2 * a0.f0))+a1)).toNat [])
/-- printworks/fold.flipped -/
def fold_flipped (F:Nat) (a0:List S_FoldLeaf) (a1:Bool):Option (List S_FoldLeaf) :=
  chk (a0.length≤4294967296) <|
  some (a0.reverse.map fun x=>bif a1 then { x with f2 := !x.f2 } else { x with f3 := !x.f3 })
/-- slices.Grow[[]printworks/api.FoldLeaf,printworks/api.FoldLeaf] -/
def slices_Grow_FoldLeaf (F:Nat) (a0:Int):Option ((List S_FoldLeaf)) :=
  bif (decide (a0 < (0:Int))) then
    none
  else
    call (lett ((decide ((IntKind.i64.wrap (a0 - (IntKind.i64.wrap ((0:Int) - (([]:List Int).length:Int))))) > (0:Int)))) fun z1 =>
      bif z1 then
        chk (0≤(0:Int)∧(0:Int)≤(0:Int)∧(0:Int)≤0) <|
        chk (0 < (IntKind.i64.wrap (a0 - (IntKind.i64.wrap ((0:Int) - (([]:List Int).length:Int)))))∧(IntKind.i64.wrap (a0 - (IntKind.i64.wrap ((0:Int) - (([]:List Int).length:Int)))))≤4294967296) <|
        lett ((List.replicate (IntKind.i64.wrap (a0 - (IntKind.i64.wrap ((0:Int) - (([]:List Int).length:Int))))).toNat (S_FoldLeaf.mk 0 0 false false))) fun l1 =>
        chk (0≤(([]:List Int).length:Int)∧(([]:List Int).length:Int)≤(l1.length:Int)) <|
        some (l1.take (([]:List Int).length:Int).toNat)
      else
        some [])
      fun v1 =>
    some v1
def slices_Concat_FoldLeaf_L0 (F:Nat) (a0:List (List S_FoldLeaf)):Nat→Int→Int→Option Int
  | 0,_,_=>none
  | n+1,v1,v2 =>
    bif (decide (v2 < (a0.length:Int))) then
      chk (0≤v2∧v2 < a0.length) <|
      bif (decide ((IntKind.i64.wrap (v1+((a0.getD v2.toNat []).length:Int))) < (0:Int))) then
        none
      else
        slices_Concat_FoldLeaf_L0 F a0 n (IntKind.i64.wrap (v1+((a0.getD v2.toNat []).length:Int))) (IntKind.i64.wrap (v2+(1:Int)))
    else
      some v1
def slices_Concat_FoldLeaf_L2 (F:Nat) (a0:List (List S_FoldLeaf)):Nat→(List S_FoldLeaf)→Int→Option ((List S_FoldLeaf))
  | 0,_,_=>none
  | n+1,v3,v4 =>
    bif (decide (v4 < (a0.length:Int))) then
      chk (0≤v4∧v4 < a0.length) <|
      chk (v3.length+(a0.getD v4.toNat []).length≤4294967296) <|
      slices_Concat_FoldLeaf_L2 F a0 n (v3++(a0.getD v4.toNat [])) (IntKind.i64.wrap (v4+(1:Int)))
    else
      some v3
/-- slices.Concat[[]printworks/api.FoldLeaf,printworks/api.FoldLeaf] -/
def slices_Concat_FoldLeaf (F:Nat) (a0:List (List S_FoldLeaf)):Option ((List S_FoldLeaf)) :=
  call (slices_Concat_FoldLeaf_L0 F a0 F (0:Int) (0:Int))
    fun v5 =>
  call (slices_Grow_FoldLeaf F v5) fun y1 =>
  call (slices_Concat_FoldLeaf_L2 F a0 F y1 (0:Int))
    fun v6 =>
  some v6
def fold_sheet_fold_L2 (F:Nat) (a0:S_fold_sheet) (a1:S_FoldStep) (y1:Int) (v1:Int) (v2:Int):Nat→(List (List S_FoldLeaf))→Int→Option ((List (List S_FoldLeaf)))
  | 0,_,_=>none
  | n+1,v3,v4 =>
    bif (decide (v4 < v1)) then
      call (call (fold_across F a1) fun y2 =>
        bif y2 then
          some v4
        else
          some v2)
        fun v5 =>
      call (bif (!(bif (a1.f0 == (0:Int)) then true else (a1.f0 == (2:Int)))) then
          lett (IntKind.i64.wrap ((if a1.f1 < (IntKind.i64.wrap (y1 - a1.f1)) then (IntKind.i64.wrap (y1 - a1.f1)) else a1.f1) - (1:Int))) fun z1 =>
          some (IntKind.i64.wrap (z1 - v5))
        else
          some v5)
        fun v6 =>
      call (bif (!(bif (a1.f0 == (0:Int)) then true else (a1.f0 == (2:Int)))) then
          some (IntKind.i64.wrap (a1.f1+v6),IntKind.i64.wrap ((IntKind.i64.wrap (a1.f1 - (1:Int))) - v6))
        else
          some (IntKind.i64.wrap ((IntKind.i64.wrap (a1.f1 - (1:Int))) - v6),IntKind.i64.wrap (a1.f1+v6)))
        fun (v7,v8) =>
      call (fold_sheet_pile F a0 v4 v7) fun y3 =>
      call (fold_sheet_pile F a0 v4 v8) fun y4 =>
      call (call (fold_across F a1) fun y5 =>
        bif y5 then
          call (fold_sheet_pile F a0 v7 v2) fun y6 =>
          call (fold_sheet_pile F a0 v8 v2) fun y7 =>
          some (y6,y7)
        else
          some (y3,y4))
        fun (v9,v10) =>
      call (fold_across F a1) fun y8 =>
      call (fold_flipped F v9 y8) fun y9 =>
      call (bif (!a1.f2) then
          some (v10,y9)
        else
          some (y9,v10))
        fun (v11,v12) =>
      call (slices_Concat_FoldLeaf F ([v11,v12])) fun y10 =>
      chk (v3.length+([y10]).length≤4294967296) <|
      fold_sheet_fold_L2 F a0 a1 y1 v1 v2 n (v3++([y10])) (IntKind.i64.wrap (v4+(1:Int)))
    else
      some v3
def fold_sheet_fold_L0 (F:Nat) (a0:S_fold_sheet) (a1:S_FoldStep) (y1:Int) (v1:Int) (v13:Int):Nat→(List (List S_FoldLeaf))→Int→Option ((List (List S_FoldLeaf)))
  | 0,_,_=>none
  | n+1,v14,v2 =>
    bif (decide (v2 < v13)) then
      call (fold_sheet_fold_L2 F a0 a1 y1 v1 v2 F v14 (0:Int))
        fun v15 =>
      fold_sheet_fold_L0 F a0 a1 y1 v1 v13 n v15 (IntKind.i64.wrap (v2+(1:Int)))
    else
      some v14
/-- (printworks/fold.sheet).fold -/
def fold_sheet_fold (F:Nat) (a0:S_fold_sheet) (a1:S_FoldStep):Option S_fold_sheet :=
  call (fold_sheet_extent F a0 a1) fun y1 =>
  call (call (fold_across F a1) fun y11 =>
    bif y11 then
      some ((if a1.f1 < (IntKind.i64.wrap (y1 - a1.f1)) then (IntKind.i64.wrap (y1 - a1.f1)) else a1.f1),a0.f1)
    else
      some (a0.f0,(if a1.f1 < (IntKind.i64.wrap (y1 - a1.f1)) then (IntKind.i64.wrap (y1 - a1.f1)) else a1.f1)))
    fun (v1,v13) =>
  call (fold_sheet_fold_L0 F a0 a1 y1 v1 v13 F [] (0:Int))
    fun v16 =>
  some (S_fold_sheet.mk v1 v13 v16)
def fold_Check_L0 (F:Nat) (a0:S_FoldScheme):Nat→Int→Int→(List (List S_FoldLeaf))→Int→Option (Out Unit Int)
  | 0,_,_,_,_=>none
  | n+1,v1,v2,v3,v4 =>
    bif (decide (v4 < (a0.f2.length:Int))) then
      chk (0≤v4∧v4 < a0.f2.length) <|
      lett ((bif (decide (((a0.f2.getD v4.toNat (S_FoldStep.mk 0 0 false)).f0) < (0:Int))) then true else (decide (((a0.f2.getD v4.toNat (S_FoldStep.mk 0 0 false)).f0) > (3:Int))))) fun z1 =>
      bif z1 then
        some (.esc (14:Int))
      else
        call ((bif (((decide (((a0.f2.getD v4.toNat (S_FoldStep.mk 0 0 false)).f1) < (1:Int))) == false) && true) then fold_sheet_extent F (S_fold_sheet.mk v1 v2 v3) (a0.f2.getD v4.toNat (S_FoldStep.mk 0 0 false)) else some 0)) fun y1 =>
        lett ((bif (decide (((a0.f2.getD v4.toNat (S_FoldStep.mk 0 0 false)).f1) < (1:Int))) then true else (decide (((a0.f2.getD v4.toNat (S_FoldStep.mk 0 0 false)).f1) ≥ y1)))) fun z2 =>
        bif z2 then
          some (.esc (3:Int))
        else
          call (fold_sheet_fold F (S_fold_sheet.mk v1 v2 v3) (a0.f2.getD v4.toNat (S_FoldStep.mk 0 0 false))) fun y2 =>
          fold_Check_L0 F a0 n y2.f0 y2.f1 y2.f2 (IntKind.i64.wrap (v4+(1:Int)))
    else
      some (.go ())
/-- printworks/fold.Check -/
def fold_Check (F:Nat) (a0:S_FoldScheme):Option Int :=
  lett ((bif (bif (decide (a0.f0 < (1:Int))) then true else (decide (a0.f0 > (8:Int)))) then true else (decide (a0.f1 < (1:Int))))) fun z3 =>
  bif (bif z3 then true else (decide (a0.f1 > (8:Int)))) then
    some (3:Int)
  else
    lett ((bif (decide ((IntKind.i64.wrap (a0.f0 * a0.f1)) > (32:Int))) then true else (decide ((a0.f2.length:Int) > (8:Int))))) fun z4 =>
    bif z4 then
      some (2:Int)
    else
      call (fold_flat F a0) fun y3 =>
      callE (fold_Check_L0 F a0 F y3.f0 y3.f1 y3.f2 (0:Int))
        (fun e=>some e) fun _ =>
      some (0:Int)
def fold_after_L0 (F:Nat) (a0:S_FoldScheme) (a1:Int):Nat→Int→Int→(List (List S_FoldLeaf))→Int→Option (Int×Int×(List (List S_FoldLeaf)))
  | 0,_,_,_,_=>none
  | n+1,v1,v2,v3,v4 =>
    bif (decide (v4 < (((a0.f2.drop (0:Int).toNat).take (a1.toNat - (0:Int).toNat)).length:Int))) then
      chk (0≤v4∧v4 < ((a0.f2.drop (0:Int).toNat).take (a1.toNat - (0:Int).toNat)).length) <|
      call (fold_sheet_fold F (S_fold_sheet.mk v1 v2 v3) (((a0.f2.drop (0:Int).toNat).take (a1.toNat - (0:Int).toNat)).getD v4.toNat (S_FoldStep.mk 0 0 false))) fun y1 =>
      fold_after_L0 F a0 a1 n y1.f0 y1.f1 y1.f2 (IntKind.i64.wrap (v4+(1:Int)))
    else
      some (v1,v2,v3)
/-- printworks/fold.after -/
def fold_after (F:Nat) (a0:S_FoldScheme) (a1:Int):Option (S_fold_sheet×Int) :=
  call (fold_Check F a0) fun y2 =>
  bif (y2 != (0:Int)) then
    some ((S_fold_sheet.mk 0 0 []),y2)
  else
    bif (bif (decide (a1 < (0:Int))) then true else (decide (a1 > (a0.f2.length:Int)))) then
      some ((S_fold_sheet.mk 0 0 []),(3:Int))
    else
      call (fold_flat F a0) fun y3 =>
      chk (0≤(0:Int)∧(0:Int)≤a1∧a1≤(a0.f2.length:Int)) <|
      call (fold_after_L0 F a0 a1 F y3.f0 y3.f1 y3.f2 (0:Int))
        fun (v5,v6,v7) =>
      some ((S_fold_sheet.mk v5 v6 v7),(0:Int))
/-- printworks/fold.folded -/
def fold_folded (F:Nat) (a0:S_FoldScheme):Option ((List S_FoldLeaf)×Int×Int) :=
  call (fold_after F a0 (a0.f2.length:Int)) fun y1 =>
  bif (y1.2 != (0:Int)) then
    some ([],(0:Int),y1.2)
  else
    bif (bif (y1.1.f0 != (1:Int)) then true else (y1.1.f1 != (1:Int))) then
      some ([],(0:Int),(9:Int))
    else
      call (bif (decide ((a0.f2.length:Int) > (0:Int))) then
          chk (0≤(IntKind.i64.wrap ((a0.f2.length:Int) - (1:Int)))∧(IntKind.i64.wrap ((a0.f2.length:Int) - (1:Int))) < a0.f2.length) <|
          lett ((a0.f2.getD (IntKind.i64.wrap ((a0.f2.length:Int) - (1:Int))).toNat (S_FoldStep.mk 0 0 false)).f0) fun z1 =>
          some z1
        else
          some (0:Int))
        fun v1 =>
      chk (0≤(0:Int)∧(0:Int) < y1.1.f2.length) <|
      some ((y1.1.f2.getD (0:Int).toNat []),v1,(0:Int))
/-- printworks/fold.Pages$1 -/
def fold_Pages_c1 (F:Nat) (a0:Bool) (a1:Bool) (c2:Int) (c3:Int) (c4:Bool) (c5:Bool) (c6:Int) (c7:Int) (c8:Int) (c9:List S_FoldStep) (c10:List S_FoldPage):Option (Int×Int×Bool×Bool×Int×Int×Int×(List S_FoldStep)×(List S_FoldPage)) :=
  call (bif a0 then
      some (IntKind.i64.wrap ((IntKind.i64.wrap (c7 - (1:Int))) - c2))
    else
      some c2)
    fun v1 =>
  call (bif a1 then
      some ((IntKind.i64.wrap (c6+(2:Int))).tmod (4:Int))
    else
      some c6)
    fun v2 =>
  chk (c10.length+([(S_FoldPage.mk a0 v1 c3 v2)]).length≤4294967296) <|
  some (c2,c3,c4,c5,c6,c7,c8,c9,(c10++([(S_FoldPage.mk a0 v1 c3 v2)])))
def fold_Pages_L0 (F:Nat) (y1:(List S_FoldLeaf)×Int×Int):Nat→Int→Int→(List S_FoldStep)→Int→(List S_FoldPage)→Int→Option ((List S_FoldPage))
  | 0,_,_,_,_,_,_=>none
  | n+1,v1,v2,v3,v4,v5,v6 =>
    bif (decide (v6 < (y1.1.length:Int))) then
      chk (0≤v6∧v6 < y1.1.length) <|
      lett ((!(((y1.1.getD v6.toNat (S_FoldLeaf.mk 0 0 false false)).f2) == ((y1.1.getD v6.toNat (S_FoldLeaf.mk 0 0 false false)).f3)))) fun z1 =>
      call (fold_Pages_c1 F z1 ((y1.1.getD v6.toNat (S_FoldLeaf.mk 0 0 false false)).f3) ((y1.1.getD v6.toNat (S_FoldLeaf.mk 0 0 false false)).f0) ((y1.1.getD v6.toNat (S_FoldLeaf.mk 0 0 false false)).f1) ((y1.1.getD v6.toNat (S_FoldLeaf.mk 0 0 false false)).f2) ((y1.1.getD v6.toNat (S_FoldLeaf.mk 0 0 false false)).f3) v4 v1 v2 v3 v5) fun y2 =>
      call (fold_Pages_c1 F (!z1) (!(y2.2.2.2.1 == ((y2.2.2.2.2.1.tmod (2:Int)) == (1:Int)))) y2.1 y2.2.1 y2.2.2.1 y2.2.2.2.1 y2.2.2.2.2.1 y2.2.2.2.2.2.1 y2.2.2.2.2.2.2.1 y2.2.2.2.2.2.2.2.1 y2.2.2.2.2.2.2.2.2) fun y3 =>
      fold_Pages_L0 F y1 n y3.2.2.2.2.2.1 y3.2.2.2.2.2.2.1 y3.2.2.2.2.2.2.2.1 y3.2.2.2.2.1 y3.2.2.2.2.2.2.2.2 (IntKind.i64.wrap (v6+(1:Int)))
    else
      some v5
/-- printworks/fold.Pages -/
def fold_Pages (F:Nat) (a0:S_FoldScheme):Option ((List S_FoldPage)×Int) :=
  call (fold_folded F a0) fun y1 =>
  bif (y1.2.2 != (0:Int)) then
    some ([],y1.2.2)
  else
    chk (0≤y1.2.1∧y1.2.1 < ([(0:Int),(2:Int),(1:Int),(3:Int)]).length) <|
    call (fold_Pages_L0 F y1 F a0.f0 a0.f1 a0.f2 (([(0:Int),(2:Int),(1:Int),(3:Int)]).getD y1.2.1.toNat 0) [] (0:Int))
      fun v7 =>
    some (v7,(0:Int))
/-- printworks/impose.leaf -/
def impose_leaf (F:Nat) (a0:S_ImposeLayout):Option (Int×Int) :=
  call (fold_Pages F a0.f0) fun y1 =>
  chk (0≤(0:Int)∧(0:Int) < y1.1.length) <|
  bif ((((y1.1.getD (0:Int).toNat (S_FoldPage.mk false 0 0 0)).f3).tmod (2:Int)) == (1:Int)) then
    some (IntKind.i64.wrap (a0.f2+(IntKind.i64.wrap ((2:Int) * a0.f3))),IntKind.i64.wrap ((IntKind.i64.wrap (a0.f1+a0.f4))+a0.f5))
  else
    some (IntKind.i64.wrap ((IntKind.i64.wrap (a0.f1+a0.f4))+a0.f5),IntKind.i64.wrap (a0.f2+(IntKind.i64.wrap ((2:Int) * a0.f3))))
/-- printworks/impose.single -/
def impose_single (F:Nat) (a0:S_ImposeLayout):Option (Int×Int) :=
  call (impose_leaf F a0) fun y1 =>
  some (IntKind.i64.wrap ((IntKind.i64.wrap ((2:Int) * a0.f6))+(IntKind.i64.wrap (a0.f0.f0 * y1.1))),IntKind.i64.wrap ((IntKind.i64.wrap ((2:Int) * a0.f6))+(IntKind.i64.wrap (a0.f0.f1 * y1.2))))
/-- printworks/impose.size -/
def impose_size (F:Nat) (a0:S_ImposeLayout):Option (Int×Int) :=
  call (impose_single F a0) fun y1 =>
  call (bif (a0.f8 == (1:Int)) then
      some (IntKind.i64.wrap (y1.1 * (2:Int)),y1.2)
    else
      bif (a0.f8 == (2:Int)) then
        some (y1.1,IntKind.i64.wrap (y1.2 * (2:Int)))
      else
        some (y1.1,y1.2))
    fun (v1,v2) =>
  some (v1,v2)
def impose_Check_L0 (F:Nat) (a0:S_ImposeLayout):Nat→Int→Option (Out Unit Int)
  | 0,_=>none
  | n+1,v1 =>
    bif (decide (v1 < (4:Int))) then
      chk (0≤v1∧v1 < 4) <|
      lett ((bif (decide (([a0.f3,a0.f4,a0.f5,a0.f6].getD v1.toNat 0) < (0:Int))) then true else (decide (([a0.f3,a0.f4,a0.f5,a0.f6].getD v1.toNat 0) > (64:Int))))) fun z1 =>
      bif z1 then
        some (.esc (3:Int))
      else
        impose_Check_L0 F a0 n (IntKind.i64.wrap (v1+(1:Int)))
    else
      some (.go ())
/-- printworks/impose.Check -/
def impose_Check (F:Nat) (a0:S_ImposeLayout):Option Int :=
  call (fold_Check F a0.f0) fun y1 =>
  bif (y1 != (0:Int)) then
    some y1
  else
    call (fold_Pages F a0.f0) fun y2 =>
    bif (y2.2 != (0:Int)) then
      some y2.2
    else
      lett ((bif (bif (decide (a0.f1 < (1:Int))) then true else (decide (a0.f1 > (256:Int)))) then true else (decide (a0.f2 < (1:Int))))) fun z2 =>
      bif (bif z2 then true else (decide (a0.f2 > (256:Int)))) then
        some (3:Int)
      else
        callE (impose_Check_L0 F a0 F (0:Int))
          (fun e=>some e) fun _ =>
        bif (bif (decide (a0.f7 < (0:Int))) then true else (decide (a0.f7 > (8:Int)))) then
          some (3:Int)
        else
          bif (bif (decide (a0.f8 < (0:Int))) then true else (decide (a0.f8 > (2:Int)))) then
            some (14:Int)
          else
            lett (IntKind.i64.wrap ((IntKind.i64.wrap ((IntKind.i64.wrap (a0.f0.f0 * a0.f0.f1)) - (1:Int))).tdiv (2:Int))) fun z3 =>
            bif (decide ((IntKind.i64.wrap (z3 * a0.f7)) > a0.f5)) then
              some (19:Int)
            else
              call (impose_size F a0) fun y3 =>
              bif (bif (decide (y3.1 > (1024:Int))) then true else (decide (y3.2 > (1024:Int)))) then
                some (2:Int)
              else
                some (0:Int)
/-- printworks/bindery.frameOf -/
def bindery_frameOf (F:Nat) (a0:S_ImposeLayout):Option S_bindery_frame :=
  call (call (fold_Pages F a0.f0) fun y1 =>
    chk (0≤(0:Int)∧(0:Int) < y1.1.length) <|
    bif ((((y1.1.getD (0:Int).toNat (S_FoldPage.mk false 0 0 0)).f3).tmod (2:Int)) == (1:Int)) then
      some ((IntKind.i64.wrap (a0.f2+(IntKind.i64.wrap ((2:Int) * a0.f3)))),(IntKind.i64.wrap ((IntKind.i64.wrap (a0.f1+a0.f4))+a0.f5)))
    else
      some ((IntKind.i64.wrap ((IntKind.i64.wrap (a0.f1+a0.f4))+a0.f5)),(IntKind.i64.wrap (a0.f2+(IntKind.i64.wrap ((2:Int) * a0.f3))))))
    fun (v1,v2) =>
  some (S_bindery_frame.mk (IntKind.i64.wrap ((IntKind.i64.wrap (a0.f1+a0.f4))+a0.f5)) (IntKind.i64.wrap (a0.f2+(IntKind.i64.wrap ((2:Int) * a0.f3)))) (IntKind.i64.wrap ((IntKind.i64.wrap ((2:Int) * a0.f6))+(IntKind.i64.wrap (a0.f0.f0 * v1)))) (IntKind.i64.wrap ((IntKind.i64.wrap ((2:Int) * a0.f6))+(IntKind.i64.wrap (a0.f0.f1 * v2)))))
def ref3_Laid_L2 (F:Nat) (a0:S_FoldScheme) (v1:Int):Nat→(List Int)→(List Int)→(List Int)→(List Int)→(List Int)→(List Int)→(List Int)→Int→Option ((List Int)×(List Int)×(List Int)×(List Int)×(List Int)×(List Int)×(List Int))
  | 0,_,_,_,_,_,_,_,_=>none
  | n+1,v2,v3,v4,v5,v6,v7,v8,v9 =>
    bif (decide (v9 < a0.f0)) then
      chk (v2.length+([v9]).length≤4294967296) <|
      chk (v3.length+([v1]).length≤4294967296) <|
      chk (v4.length+([IntKind.i64.wrap (v9+(1:Int))]).length≤4294967296) <|
      chk (v5.length+([v1]).length≤4294967296) <|
      chk (v6.length+([v9]).length≤4294967296) <|
      chk (v7.length+([IntKind.i64.wrap (v1+(1:Int))]).length≤4294967296) <|
      chk (v8.length+([(0:Int)]).length≤4294967296) <|
      ref3_Laid_L2 F a0 v1 n (v2++([v9])) (v3++([v1])) (v4++([IntKind.i64.wrap (v9+(1:Int))])) (v5++([v1])) (v6++([v9])) (v7++([IntKind.i64.wrap (v1+(1:Int))])) (v8++([(0:Int)])) (IntKind.i64.wrap (v9+(1:Int)))
    else
      some (v2,v3,v4,v5,v6,v7,v8)
def ref3_Laid_L0 (F:Nat) (a0:S_FoldScheme):Nat→(List Int)→(List Int)→(List Int)→(List Int)→(List Int)→(List Int)→(List Int)→Int→Option ((List Int)×(List Int)×(List Int)×(List Int)×(List Int)×(List Int)×(List Int))
  | 0,_,_,_,_,_,_,_,_=>none
  | n+1,v10,v11,v12,v13,v14,v15,v16,v1 =>
    bif (decide (v1 < a0.f1)) then
      call (ref3_Laid_L2 F a0 v1 F v10 v11 v12 v13 v14 v15 v16 (0:Int))
        fun (v17,v18,v19,v20,v21,v22,v23) =>
      ref3_Laid_L0 F a0 n v17 v18 v19 v20 v21 v22 v23 (IntKind.i64.wrap (v1+(1:Int)))
    else
      some (v10,v11,v12,v13,v14,v15,v16)
/-- printworks/printworksref3.Laid -/
def ref3_Laid (F:Nat) (a0:S_FoldScheme):Option S_ref3_Sheet :=
  call (ref3_Laid_L0 F a0 F [] [] [] [] [] [] [] (0:Int))
    fun (v24,v25,v26,v27,v28,v29,v30) =>
  some (S_ref3_Sheet.mk v24 v25 v26 v27 v28 v29 v30 0 0 a0.f0 a0.f1 a0.f0)
/-- (*printworks/printworksref3.Sheet).leftTop -/
def ref3_Sheet_leftTop (F:Nat) (a0:Int) (c1:List Int) (c2:List Int) (c3:List Int) (c4:List Int) (c5:List Int) (c6:List Int) (c7:List Int) (c8:Int) (c9:Int) (c10:Int) (c11:Int) (c12:Int):Option (Int×Int×(List Int)×(List Int)×(List Int)×(List Int)×(List Int)×(List Int)×(List Int)×Int×Int×Int×Int×Int) :=
  chk (0≤a0∧a0 < c3.length) <|
  chk (0≤a0∧a0 < c5.length) <|
  chk (0≤a0∧a0 < c1.length) <|
  lett (IntKind.i64.wrap ((IntKind.i64.wrap ((c3.getD a0.toNat 0)+(c5.getD a0.toNat 0))) - (c1.getD a0.toNat 0))) fun z1 =>
  chk (0≤a0∧a0 < c4.length) <|
  chk (0≤a0∧a0 < c6.length) <|
  chk (0≤a0∧a0 < c2.length) <|
  lett (IntKind.i64.wrap ((IntKind.i64.wrap ((c4.getD a0.toNat 0)+(c6.getD a0.toNat 0))) - (c2.getD a0.toNat 0))) fun z2 =>
  chk (0≤a0∧a0 < c1.length) <|
  chk (0≤a0∧a0 < c3.length) <|
  chk (0≤a0∧a0 < c5.length) <|
  lett ((if (c5.getD a0.toNat 0) < (if (c3.getD a0.toNat 0) < (if z1 < (c1.getD a0.toNat 0) then z1 else (c1.getD a0.toNat 0)) then (c3.getD a0.toNat 0) else (if z1 < (c1.getD a0.toNat 0) then z1 else (c1.getD a0.toNat 0))) then (c5.getD a0.toNat 0) else (if (c3.getD a0.toNat 0) < (if z1 < (c1.getD a0.toNat 0) then z1 else (c1.getD a0.toNat 0)) then (c3.getD a0.toNat 0) else (if z1 < (c1.getD a0.toNat 0) then z1 else (c1.getD a0.toNat 0))))) fun z3 =>
  chk (0≤a0∧a0 < c2.length) <|
  chk (0≤a0∧a0 < c4.length) <|
  chk (0≤a0∧a0 < c6.length) <|
  lett ((if (c6.getD a0.toNat 0) < (if (c4.getD a0.toNat 0) < (if z2 < (c2.getD a0.toNat 0) then z2 else (c2.getD a0.toNat 0)) then (c4.getD a0.toNat 0) else (if z2 < (c2.getD a0.toNat 0) then z2 else (c2.getD a0.toNat 0))) then (c6.getD a0.toNat 0) else (if (c4.getD a0.toNat 0) < (if z2 < (c2.getD a0.toNat 0) then z2 else (c2.getD a0.toNat 0)) then (c4.getD a0.toNat 0) else (if z2 < (c2.getD a0.toNat 0) then z2 else (c2.getD a0.toNat 0))))) fun z4 =>
  some (z3,z4,c1,c2,c3,c4,c5,c6,c7,c8,c9,c10,c11,c12)
/-- (*printworks/printworksref3.Sheet).leftTop -/
def ref3_Sheet_leftTop_v1 (F:Nat) (a0:Int) (c1:List Int) (c2:List Int) (c3:List Int) (c4:List Int) (c5:List Int) (c6:List Int) (c7:List Int) (c8:Int) (c9:Int) (c10:Int) (c11:Int) (c12:Int):Option (Int×Int×(List Int)×(List Int)×(List Int)×(List Int)×(List Int)×(List Int)×(List Int)×Int×Int×Int×Int×Int) :=
  chk (0≤a0∧a0 < c3.length) <|
  chk (0≤a0∧a0 < c5.length) <|
  chk (0≤a0∧a0 < c1.length) <|
  lett (IntKind.i64.wrap ((IntKind.i64.wrap ((c3.getD a0.toNat 0)+(c5.getD a0.toNat 0))) - (c1.getD a0.toNat 0))) fun z1 =>
  chk (0≤a0∧a0 < c4.length) <|
  chk (0≤a0∧a0 < c6.length) <|
  chk (0≤a0∧a0 < c2.length) <|
  lett (IntKind.i64.wrap ((IntKind.i64.wrap ((c4.getD a0.toNat 0)+(c6.getD a0.toNat 0))) - (c2.getD a0.toNat 0))) fun z2 =>
  chk (0≤a0∧a0 < c1.length) <|
  chk (0≤a0∧a0 < c3.length) <|
  chk (0≤a0∧a0 < c5.length) <|
  lett ((if (c5.getD a0.toNat 0) < (if (c3.getD a0.toNat 0) < (if z1 < (c1.getD a0.toNat 0) then z1 else (c1.getD a0.toNat 0)) then (c3.getD a0.toNat 0) else (if z1 < (c1.getD a0.toNat 0) then z1 else (c1.getD a0.toNat 0))) then (c5.getD a0.toNat 0) else (if (c3.getD a0.toNat 0) < (if z1 < (c1.getD a0.toNat 0) then z1 else (c1.getD a0.toNat 0)) then (c3.getD a0.toNat 0) else (if z1 < (c1.getD a0.toNat 0) then z1 else (c1.getD a0.toNat 0))))) fun z3 =>
  chk (0≤a0∧a0 < c2.length) <|
  chk (0≤a0∧a0 < c4.length) <|
  chk (0≤a0∧a0 < c6.length) <|
  lett ((if (c6.getD a0.toNat 0) < (if (c4.getD a0.toNat 0) < (if z2 < (c2.getD a0.toNat 0) then z2 else (c2.getD a0.toNat 0)) then (c4.getD a0.toNat 0) else (if z2 < (c2.getD a0.toNat 0) then z2 else (c2.getD a0.toNat 0))) then (c6.getD a0.toNat 0) else (if (c4.getD a0.toNat 0) < (if z2 < (c2.getD a0.toNat 0) then z2 else (c2.getD a0.toNat 0)) then (c4.getD a0.toNat 0) else (if z2 < (c2.getD a0.toNat 0) then z2 else (c2.getD a0.toNat 0))))) fun z4 =>
  some (z3,z4,c1,c2,c3,c4,c5,c6,c7,c8,c9,c10,c11,c12)
def ref3_Sheet_Fold_L0 (F:Nat) (c7:List Int):Nat→Int→Int→Int→Option (Int×Int)
  | 0,_,_,_=>none
  | n+1,v1,v2,v3 =>
    bif (decide (v3 < (c7.length:Int))) then
      chk (0≤v3∧v3 < c7.length) <|
      ref3_Sheet_Fold_L0 F c7 n (if (c7.getD v3.toNat 0) < v1 then (c7.getD v3.toNat 0) else v1) (if v2 < (c7.getD v3.toNat 0) then (c7.getD v3.toNat 0) else v2) (IntKind.i64.wrap (v3+(1:Int)))
    else
      some (v1,v2)
def ref3_Sheet_Fold_L2 (F:Nat) (a0:S_FoldStep) (c7:List Int) (v4:Int) (v5:Int) (v6:Int):Nat→Int→(List Int)→(List Int)→(List Int)→(List Int)→(List Int)→(List Int)→(List Int)→Int→Int→Int→Int→Int→Option ((List Int)×(List Int)×(List Int)×(List Int)×(List Int)×(List Int)×(List Int)×Int×Int×Int×Int×Int)
  | 0,_,_,_,_,_,_,_,_,_,_,_,_,_=>none
  | n+1,v7,v8,v9,v10,v11,v12,v13,v14,v15,v16,v17,v18,v19 =>
    bif (decide (v7 < (c7.length:Int))) then
      call (call (ref3_Sheet_leftTop F v7 v8 v9 v10 v11 v12 v13 v14 v15 v16 v17 v18 v19) fun y1 =>
        call (bif (decide (a0.f0 < (2:Int))) then
            some y1.1
          else
            some y1.2.1)
          fun v20 =>
        bif (!((decide (v20 < v4)) == (bif (a0.f0 == (0:Int)) then true else (a0.f0 == (2:Int))))) then
          some (y1.2.2.1,y1.2.2.2.1,y1.2.2.2.2.1,y1.2.2.2.2.2.1,y1.2.2.2.2.2.2.1,y1.2.2.2.2.2.2.2.1,y1.2.2.2.2.2.2.2.2.1,y1.2.2.2.2.2.2.2.2.2.1,y1.2.2.2.2.2.2.2.2.2.2.1,y1.2.2.2.2.2.2.2.2.2.2.2.1,y1.2.2.2.2.2.2.2.2.2.2.2.2.1,y1.2.2.2.2.2.2.2.2.2.2.2.2.2)
        else
          call (bif (decide (a0.f0 < (2:Int))) then
              chk (0≤v7∧v7 < y1.2.2.1.length) <|
              chk (0≤v7∧v7 < y1.2.2.2.2.1.length) <|
              chk (0≤v7∧v7 < y1.2.2.2.2.2.2.1.length) <|
              chk (0≤v7∧v7 < y1.2.2.1.length) <|
              chk (0≤v7∧v7 < y1.2.2.2.2.1.length) <|
              chk (0≤v7∧v7 < y1.2.2.2.2.2.2.1.length) <|
              some ((y1.2.2.1.set v7.toNat (IntKind.i64.wrap ((IntKind.i64.wrap ((2:Int) * v4)) - (y1.2.2.1.getD v7.toNat 0)))),y1.2.2.2.1,(y1.2.2.2.2.1.set v7.toNat (IntKind.i64.wrap ((IntKind.i64.wrap ((2:Int) * v4)) - (y1.2.2.2.2.1.getD v7.toNat 0)))),y1.2.2.2.2.2.1,(y1.2.2.2.2.2.2.1.set v7.toNat (IntKind.i64.wrap ((IntKind.i64.wrap ((2:Int) * v4)) - (y1.2.2.2.2.2.2.1.getD v7.toNat 0)))),y1.2.2.2.2.2.2.2.1)
            else
              chk (0≤v7∧v7 < y1.2.2.2.1.length) <|
              chk (0≤v7∧v7 < y1.2.2.2.2.2.1.length) <|
              chk (0≤v7∧v7 < y1.2.2.2.2.2.2.2.1.length) <|
              chk (0≤v7∧v7 < y1.2.2.2.1.length) <|
              chk (0≤v7∧v7 < y1.2.2.2.2.2.1.length) <|
              chk (0≤v7∧v7 < y1.2.2.2.2.2.2.2.1.length) <|
              some (y1.2.2.1,(y1.2.2.2.1.set v7.toNat (IntKind.i64.wrap ((IntKind.i64.wrap ((2:Int) * v4)) - (y1.2.2.2.1.getD v7.toNat 0)))),y1.2.2.2.2.1,(y1.2.2.2.2.2.1.set v7.toNat (IntKind.i64.wrap ((IntKind.i64.wrap ((2:Int) * v4)) - (y1.2.2.2.2.2.1.getD v7.toNat 0)))),y1.2.2.2.2.2.2.1,(y1.2.2.2.2.2.2.2.1.set v7.toNat (IntKind.i64.wrap ((IntKind.i64.wrap ((2:Int) * v4)) - (y1.2.2.2.2.2.2.2.1.getD v7.toNat 0))))))
            fun (v21,v22,v23,v24,v25,v26) =>
          bif a0.f2 then
            chk (0≤v7∧v7 < y1.2.2.2.2.2.2.2.2.1.length) <|
            lett (IntKind.i64.wrap ((IntKind.i64.wrap ((IntKind.i64.wrap ((2:Int) * v6))+(1:Int))) - (y1.2.2.2.2.2.2.2.2.1.getD v7.toNat 0))) fun z1 =>
            chk (0≤v7∧v7 < y1.2.2.2.2.2.2.2.2.1.length) <|
            some (v21,v22,v23,v24,v25,v26,(y1.2.2.2.2.2.2.2.2.1.set v7.toNat z1),y1.2.2.2.2.2.2.2.2.2.1,y1.2.2.2.2.2.2.2.2.2.2.1,y1.2.2.2.2.2.2.2.2.2.2.2.1,y1.2.2.2.2.2.2.2.2.2.2.2.2.1,y1.2.2.2.2.2.2.2.2.2.2.2.2.2)
          else
            chk (0≤v7∧v7 < y1.2.2.2.2.2.2.2.2.1.length) <|
            lett (IntKind.i64.wrap ((IntKind.i64.wrap ((IntKind.i64.wrap ((2:Int) * v5)) - (1:Int))) - (y1.2.2.2.2.2.2.2.2.1.getD v7.toNat 0))) fun z2 =>
            chk (0≤v7∧v7 < y1.2.2.2.2.2.2.2.2.1.length) <|
            some (v21,v22,v23,v24,v25,v26,(y1.2.2.2.2.2.2.2.2.1.set v7.toNat z2),y1.2.2.2.2.2.2.2.2.2.1,y1.2.2.2.2.2.2.2.2.2.2.1,y1.2.2.2.2.2.2.2.2.2.2.2.1,y1.2.2.2.2.2.2.2.2.2.2.2.2.1,y1.2.2.2.2.2.2.2.2.2.2.2.2.2))
        fun (v27,v28,v29,v30,v31,v32,v33,v34,v35,v36,v37,v38) =>
      ref3_Sheet_Fold_L2 F a0 c7 v4 v5 v6 n (IntKind.i64.wrap (v7+(1:Int))) v27 v28 v29 v30 v31 v32 v33 v34 v35 v36 v37 v38
    else
      some (v8,v9,v10,v11,v12,v13,v14,v15,v16,v17,v18,v19)
def ref3_Sheet_Fold_L4 (F:Nat) (v39:List Int):Nat→Int→(List Int)→(List Int)→(List Int)→(List Int)→(List Int)→(List Int)→(List Int)→Int→Int→Int→Int→Int→Option ((List Int)×(List Int)×(List Int)×(List Int)×(List Int)×(List Int)×(List Int)×Int×Int×Int×Int×Int)
  | 0,_,_,_,_,_,_,_,_,_,_,_,_,_=>none
  | n+1,v40,v41,v42,v43,v44,v45,v46,v47,v48,v49,v50,v51,v52 =>
    bif (decide (v40 < (v39.length:Int))) then
      call (ref3_Sheet_leftTop_v1 F v40 v41 v42 v43 v44 v45 v46 v47 v48 v49 v50 v51 v52) fun y2 =>
      lett ((if y2.2.2.2.2.2.2.2.2.2.2.2.1 < (IntKind.i64.wrap (y2.1+(1:Int))) then (IntKind.i64.wrap (y2.1+(1:Int))) else y2.2.2.2.2.2.2.2.2.2.2.2.1)) fun z3 =>
      lett ((if y2.2.2.2.2.2.2.2.2.2.2.2.2.1 < (IntKind.i64.wrap (y2.2.1+(1:Int))) then (IntKind.i64.wrap (y2.2.1+(1:Int))) else y2.2.2.2.2.2.2.2.2.2.2.2.2.1)) fun z4 =>
      ref3_Sheet_Fold_L4 F v39 n (IntKind.i64.wrap (v40+(1:Int))) y2.2.2.1 y2.2.2.2.1 y2.2.2.2.2.1 y2.2.2.2.2.2.1 y2.2.2.2.2.2.2.1 y2.2.2.2.2.2.2.2.1 y2.2.2.2.2.2.2.2.2.1 (if y2.1 < y2.2.2.2.2.2.2.2.2.2.1 then y2.1 else y2.2.2.2.2.2.2.2.2.2.1) (if y2.2.1 < y2.2.2.2.2.2.2.2.2.2.2.1 then y2.2.1 else y2.2.2.2.2.2.2.2.2.2.2.1) z3 z4 y2.2.2.2.2.2.2.2.2.2.2.2.2.2
    else
      some (v41,v42,v43,v44,v45,v46,v47,v48,v49,v50,v51,v52)
/-- (*printworks/printworksref3.Sheet).Fold -/
def ref3_Sheet_Fold (F:Nat) (a0:S_FoldStep) (c1:List Int) (c2:List Int) (c3:List Int) (c4:List Int) (c5:List Int) (c6:List Int) (c7:List Int) (c8:Int) (c9:Int) (c10:Int) (c11:Int) (c12:Int):Option ((List Int)×(List Int)×(List Int)×(List Int)×(List Int)×(List Int)×(List Int)×Int×Int×Int×Int×Int) :=
  call (bif (decide (a0.f0 < (2:Int))) then
      some (IntKind.i64.wrap (c8+a0.f1))
    else
      some (IntKind.i64.wrap (c9+a0.f1)))
    fun v4 =>
  call (ref3_Sheet_Fold_L0 F c7 F (0:Int) (0:Int) (0:Int))
    fun (v5,v6) =>
  call (ref3_Sheet_Fold_L2 F a0 c7 v4 v5 v6 F (0:Int) c1 c2 c3 c4 c5 c6 c7 c8 c9 c10 c11 c12)
    fun (v53,v54,v55,v56,v57,v58,v39,v59,v60,v61,v62,v63) =>
  call (ref3_Sheet_Fold_L4 F v39 F (0:Int) v53 v54 v55 v56 v57 v58 v39 (1048576:Int) (1048576:Int) (-1048576:Int) (-1048576:Int) v63)
    fun (v64,v65,v66,v67,v68,v69,v70,v71,v72,v73,v74,v75) =>
  some (v64,v65,v66,v67,v68,v69,v70,v71,v72,v73,v74,v75)
def ref3_FoldError_L0 (F:Nat) (a0:S_FoldScheme):Nat→(List Int)→(List Int)→(List Int)→(List Int)→(List Int)→(List Int)→(List Int)→Int→Int→Int→Int→Int→Int→Option (Out Unit Int)
  | 0,_,_,_,_,_,_,_,_,_,_,_,_,_=>none
  | n+1,v1,v2,v3,v4,v5,v6,v7,v8,v9,v10,v11,v12,v13 =>
    bif (decide (v13 < (a0.f2.length:Int))) then
      chk (0≤v13∧v13 < a0.f2.length) <|
      lett ((bif (decide (((a0.f2.getD v13.toNat (S_FoldStep.mk 0 0 false)).f0) < (0:Int))) then true else (decide (((a0.f2.getD v13.toNat (S_FoldStep.mk 0 0 false)).f0) > (3:Int))))) fun z1 =>
      bif z1 then
        some (.esc (14:Int))
      else
        call (bif (decide (((a0.f2.getD v13.toNat (S_FoldStep.mk 0 0 false)).f0) < (2:Int))) then
            some (IntKind.i64.wrap (v10 - v8))
          else
            some (IntKind.i64.wrap (v11 - v9)))
          fun v14 =>
        lett ((bif (decide (((a0.f2.getD v13.toNat (S_FoldStep.mk 0 0 false)).f1) < (1:Int))) then true else (decide (((a0.f2.getD v13.toNat (S_FoldStep.mk 0 0 false)).f1) ≥ v14)))) fun z2 =>
        bif z2 then
          some (.esc (3:Int))
        else
          call (ref3_Sheet_Fold F (a0.f2.getD v13.toNat (S_FoldStep.mk 0 0 false)) v1 v2 v3 v4 v5 v6 v7 v8 v9 v10 v11 v12) fun y1 =>
          ref3_FoldError_L0 F a0 n y1.1 y1.2.1 y1.2.2.1 y1.2.2.2.1 y1.2.2.2.2.1 y1.2.2.2.2.2.1 y1.2.2.2.2.2.2.1 y1.2.2.2.2.2.2.2.1 y1.2.2.2.2.2.2.2.2.1 y1.2.2.2.2.2.2.2.2.2.1 y1.2.2.2.2.2.2.2.2.2.2.1 y1.2.2.2.2.2.2.2.2.2.2.2 (IntKind.i64.wrap (v13+(1:Int)))
    else
      some (.go ())
/-- printworks/printworksref3.FoldError -/
def ref3_FoldError (F:Nat) (a0:S_FoldScheme):Option Int :=
  lett ((bif (bif (decide (a0.f0 < (1:Int))) then true else (decide (a0.f1 < (1:Int)))) then true else (decide (a0.f0 > (8:Int))))) fun z3 =>
  bif (bif z3 then true else (decide (a0.f1 > (8:Int)))) then
    some (3:Int)
  else
    lett ((bif (decide ((IntKind.i64.wrap (a0.f0 * a0.f1)) > (32:Int))) then true else (decide ((a0.f2.length:Int) > (8:Int))))) fun z4 =>
    bif z4 then
      some (2:Int)
    else
      call (ref3_Laid F a0) fun y2 =>
      callE (ref3_FoldError_L0 F a0 F y2.f0 y2.f1 y2.f2 y2.f3 y2.f4 y2.f5 y2.f6 y2.f7 y2.f8 y2.f9 y2.f10 y2.f11 (0:Int))
        (fun e=>some e) fun _ =>
      some (0:Int)
def ref3_Folded_L0 (F:Nat) (a0:S_FoldScheme) (a1:Int):Nat→(List Int)→(List Int)→(List Int)→(List Int)→(List Int)→(List Int)→(List Int)→Int→Int→Int→Int→Int→Int→Option ((List Int)×(List Int)×(List Int)×(List Int)×(List Int)×(List Int)×(List Int)×Int×Int×Int×Int×Int)
  | 0,_,_,_,_,_,_,_,_,_,_,_,_,_=>none
  | n+1,v1,v2,v3,v4,v5,v6,v7,v8,v9,v10,v11,v12,v13 =>
    bif (decide (v13 < (((a0.f2.drop (0:Int).toNat).take (a1.toNat - (0:Int).toNat)).length:Int))) then
      chk (0≤v13∧v13 < ((a0.f2.drop (0:Int).toNat).take (a1.toNat - (0:Int).toNat)).length) <|
      call (ref3_Sheet_Fold F (((a0.f2.drop (0:Int).toNat).take (a1.toNat - (0:Int).toNat)).getD v13.toNat (S_FoldStep.mk 0 0 false)) v1 v2 v3 v4 v5 v6 v7 v8 v9 v10 v11 v12) fun y1 =>
      ref3_Folded_L0 F a0 a1 n y1.1 y1.2.1 y1.2.2.1 y1.2.2.2.1 y1.2.2.2.2.1 y1.2.2.2.2.2.1 y1.2.2.2.2.2.2.1 y1.2.2.2.2.2.2.2.1 y1.2.2.2.2.2.2.2.2.1 y1.2.2.2.2.2.2.2.2.2.1 y1.2.2.2.2.2.2.2.2.2.2.1 y1.2.2.2.2.2.2.2.2.2.2.2 (IntKind.i64.wrap (v13+(1:Int)))
    else
      some (v1,v2,v3,v4,v5,v6,v7,v8,v9,v10,v11,v12)
/-- printworks/printworksref3.Folded -/
def ref3_Folded (F:Nat) (a0:S_FoldScheme) (a1:Int):Option S_ref3_Sheet :=
  call (ref3_Laid F a0) fun y2 =>
  chk (0≤(0:Int)∧(0:Int)≤a1∧a1≤(a0.f2.length:Int)) <|
  call (ref3_Folded_L0 F a0 a1 F y2.f0 y2.f1 y2.f2 y2.f3 y2.f4 y2.f5 y2.f6 y2.f7 y2.f8 y2.f9 y2.f10 y2.f11 (0:Int))
    fun (v14,v15,v16,v17,v18,v19,v20,v21,v22,v23,v24,v25) =>
  some (S_ref3_Sheet.mk v14 v15 v16 v17 v18 v19 v20 v21 v22 v23 v24 v25)
/-- printworks/printworksref3.spine -/
def ref3_spine (F:Nat) (a0:S_FoldScheme):Option (Int×Int) :=
  bif ((a0.f2.length:Int) == (0:Int)) then
    some ((-1:Int),(0:Int))
  else
    chk (0≤(IntKind.i64.wrap ((a0.f2.length:Int) - (1:Int)))∧(IntKind.i64.wrap ((a0.f2.length:Int) - (1:Int))) < a0.f2.length) <|
    lett ((a0.f2.getD (IntKind.i64.wrap ((a0.f2.length:Int) - (1:Int))).toNat (S_FoldStep.mk 0 0 false)).f0) fun z1 =>
    bif (z1 == (0:Int)) then
      some ((-1:Int),(0:Int))
    else
      bif (z1 == (1:Int)) then
        some ((1:Int),(0:Int))
      else
        bif (z1 == (2:Int)) then
          some ((0:Int),(-1:Int))
        else
          some ((0:Int),(1:Int))
def ref3_Sheet_At_L0 (F:Nat) (a0:Int) (a1:Int) (c8:List Int):Nat→(List Int)→Int→(List Int)→(List Int)→(List Int)→(List Int)→(List Int)→(List Int)→(List Int)→Int→Int→Int→Int→Int→Option ((List Int)×(List Int)×(List Int)×(List Int)×(List Int)×(List Int)×(List Int)×(List Int)×Int×Int×Int×Int×Int)
  | 0,_,_,_,_,_,_,_,_,_,_,_,_,_,_=>none
  | n+1,v1,v2,v3,v4,v5,v6,v7,v8,v9,v10,v11,v12,v13,v14 =>
    bif (decide (v2 < (c8.length:Int))) then
      call (call (ref3_Sheet_leftTop F v2 v3 v4 v5 v6 v7 v8 v9 v10 v11 v12 v13 v14) fun y1 =>
        lett ((bif (y1.1 == (IntKind.i64.wrap (y1.2.2.2.2.2.2.2.2.2.1+a0))) then (y1.2.1 == (IntKind.i64.wrap (y1.2.2.2.2.2.2.2.2.2.2.1+a1))) else false)) fun z1 =>
        bif z1 then
          chk (v1.length+([v2]).length≤4294967296) <|
          some ((v1++([v2])),y1.2.2.1,y1.2.2.2.1,y1.2.2.2.2.1,y1.2.2.2.2.2.1,y1.2.2.2.2.2.2.1,y1.2.2.2.2.2.2.2.1,y1.2.2.2.2.2.2.2.2.1,y1.2.2.2.2.2.2.2.2.2.1,y1.2.2.2.2.2.2.2.2.2.2.1,y1.2.2.2.2.2.2.2.2.2.2.2.1,y1.2.2.2.2.2.2.2.2.2.2.2.2.1,y1.2.2.2.2.2.2.2.2.2.2.2.2.2)
        else
          some (v1,y1.2.2.1,y1.2.2.2.1,y1.2.2.2.2.1,y1.2.2.2.2.2.1,y1.2.2.2.2.2.2.1,y1.2.2.2.2.2.2.2.1,y1.2.2.2.2.2.2.2.2.1,y1.2.2.2.2.2.2.2.2.2.1,y1.2.2.2.2.2.2.2.2.2.2.1,y1.2.2.2.2.2.2.2.2.2.2.2.1,y1.2.2.2.2.2.2.2.2.2.2.2.2.1,y1.2.2.2.2.2.2.2.2.2.2.2.2.2))
        fun (v15,v16,v17,v18,v19,v20,v21,v22,v23,v24,v25,v26,v27) =>
      ref3_Sheet_At_L0 F a0 a1 c8 n v15 (IntKind.i64.wrap (v2+(1:Int))) v16 v17 v18 v19 v20 v21 v22 v23 v24 v25 v26 v27
    else
      some (v1,v3,v4,v5,v6,v7,v8,v9,v10,v11,v12,v13,v14)
def ref3_Sheet_At_L4 (F:Nat) (v28:List Int):Nat→(List Int)→Int→Option ((List Int))
  | 0,_,_=>none
  | n+1,v29,v30 =>
    chk ((((decide (v30 > (0:Int))) == true) && true)=true→0≤v30∧v30 < v29.length) <|
    chk ((((decide (v30 > (0:Int))) == true) && true)=true→0≤(v29.getD v30.toNat 0)∧(v29.getD v30.toNat 0) < v28.length) <|
    chk ((((decide (v30 > (0:Int))) == true) && true)=true→0≤(IntKind.i64.wrap (v30 - (1:Int)))∧(IntKind.i64.wrap (v30 - (1:Int))) < v29.length) <|
    chk ((((decide (v30 > (0:Int))) == true) && true)=true→0≤(v29.getD (IntKind.i64.wrap (v30 - (1:Int))).toNat 0)∧(v29.getD (IntKind.i64.wrap (v30 - (1:Int))).toNat 0) < v28.length) <|
    lett ((decide ((v28.getD (v29.getD v30.toNat 0).toNat 0) > (v28.getD (v29.getD (IntKind.i64.wrap (v30 - (1:Int))).toNat 0).toNat 0)))) fun z2 =>
    bif (bif (decide (v30 > (0:Int))) then z2 else false) then
      chk (0≤(IntKind.i64.wrap (v30 - (1:Int)))∧(IntKind.i64.wrap (v30 - (1:Int))) < v29.length) <|
      chk (0≤v30∧v30 < v29.length) <|
      chk (0≤v30∧v30 < v29.length) <|
      chk (0≤(IntKind.i64.wrap (v30 - (1:Int)))∧(IntKind.i64.wrap (v30 - (1:Int))) < (v29.set v30.toNat (v29.getD (IntKind.i64.wrap (v30 - (1:Int))).toNat 0)).length) <|
      ref3_Sheet_At_L4 F v28 n ((v29.set v30.toNat (v29.getD (IntKind.i64.wrap (v30 - (1:Int))).toNat 0)).set (IntKind.i64.wrap (v30 - (1:Int))).toNat (v29.getD v30.toNat 0)) (IntKind.i64.wrap (v30 - (1:Int)))
    else
      some v29
def ref3_Sheet_At_L2 (F:Nat) (v31:List Int) (v28:List Int):Nat→(List Int)→Int→Option ((List Int))
  | 0,_,_=>none
  | n+1,v32,v33 =>
    bif (decide (v33 < (v31.length:Int))) then
      call (ref3_Sheet_At_L4 F v28 F v32 v33)
        fun v34 =>
      ref3_Sheet_At_L2 F v31 v28 n v34 (IntKind.i64.wrap (v33+(1:Int)))
    else
      some v32
/-- (*printworks/printworksref3.Sheet).At -/
def ref3_Sheet_At (F:Nat) (a0:Int) (a1:Int) (c2:List Int) (c3:List Int) (c4:List Int) (c5:List Int) (c6:List Int) (c7:List Int) (c8:List Int) (c9:Int) (c10:Int) (c11:Int) (c12:Int) (c13:Int):Option ((List Int)×(List Int)×(List Int)×(List Int)×(List Int)×(List Int)×(List Int)×(List Int)×Int×Int×Int×Int×Int) :=
  call (ref3_Sheet_At_L0 F a0 a1 c8 F [] (0:Int) c2 c3 c4 c5 c6 c7 c8 c9 c10 c11 c12 c13)
    fun (v31,v35,v36,v37,v38,v39,v40,v28,v41,v42,v43,v44,v45) =>
  call (ref3_Sheet_At_L2 F v31 v28 F v31 (0:Int))
    fun v46 =>
  some (v46,v35,v36,v37,v38,v39,v40,v28,v41,v42,v43,v44,v45)
def ref3_Read_L2 (F:Nat) (a0:S_FoldScheme) (y1:Int×Int) (y2:(List Int)×(List Int)×(List Int)×(List Int)×(List Int)×(List Int)×(List Int)×(List Int)×Int×Int×Int×Int×Int) (v1:Int) (z1:Int) (z2:Int) (z3:Int) (z4:Int) (z5:Bool):Nat→(List S_FoldPage)→Int→Option ((List S_FoldPage))
  | 0,_,_=>none
  | n+1,v2,v3 =>
    bif (decide (v3 < (2:Int))) then
      chk (a0.f0≠0) <|
      chk (a0.f0≠0) <|
      lett (IntKind.i64.wrap ((IntKind.i64.wrap ((IntKind.i64.wrap (0 - y1.2)) * z1))+(IntKind.i64.wrap (y1.1 * z2)))) fun z6 =>
      lett (IntKind.i64.wrap ((IntKind.i64.wrap ((IntKind.i64.wrap (0 - y1.2)) * z3))+(IntKind.i64.wrap (y1.1 * z4)))) fun z7 =>
      call (bif (z5 == (v3 == (1:Int))) then
          some (IntKind.i64.wrap ((IntKind.i64.wrap (a0.f0 - (1:Int))) - ((y2.1.getD v1.toNat 0).tmod a0.f0)),IntKind.i64.wrap (0 - z6))
        else
          some (((y2.1.getD v1.toNat 0).tmod a0.f0),z6))
        fun (v4,v5) =>
      call (bif (decide (z7 < (0:Int))) then
          some (0:Int)
        else
          bif (decide (v5 > (0:Int))) then
            some (1:Int)
          else
            bif (decide (z7 > (0:Int))) then
              some (2:Int)
            else
              some (3:Int))
        fun v6 =>
      chk (v2.length+([(S_FoldPage.mk (z5 == (v3 == (1:Int))) v4 (IntKind.i64.wrap ((y2.1.getD v1.toNat 0).tdiv a0.f0)) v6)]).length≤4294967296) <|
      lett ((v2++([(S_FoldPage.mk (z5 == (v3 == (1:Int))) v4 (IntKind.i64.wrap ((y2.1.getD v1.toNat 0).tdiv a0.f0)) v6)]))) fun l1 =>
      ref3_Read_L2 F a0 y1 y2 v1 z1 z2 z3 z4 z5 n l1 (IntKind.i64.wrap (v3+(1:Int)))
    else
      some v2
def ref3_Read_L0 (F:Nat) (a0:S_FoldScheme) (y1:Int×Int) (y2:(List Int)×(List Int)×(List Int)×(List Int)×(List Int)×(List Int)×(List Int)×(List Int)×Int×Int×Int×Int×Int):Nat→(List S_FoldPage)→Int→Option ((List S_FoldPage))
  | 0,_,_=>none
  | n+1,v7,v1 =>
    bif (decide (v1 < (y2.1.length:Int))) then
      chk (0≤v1∧v1 < y2.1.length) <|
      chk (0≤(y2.1.getD v1.toNat 0)∧(y2.1.getD v1.toNat 0) < y2.2.2.2.1.length) <|
      chk (0≤(y2.1.getD v1.toNat 0)∧(y2.1.getD v1.toNat 0) < y2.2.1.length) <|
      lett (IntKind.i64.wrap ((y2.2.2.2.1.getD (y2.1.getD v1.toNat 0).toNat 0) - (y2.2.1.getD (y2.1.getD v1.toNat 0).toNat 0))) fun z1 =>
      chk (0≤(y2.1.getD v1.toNat 0)∧(y2.1.getD v1.toNat 0) < y2.2.2.2.2.1.length) <|
      chk (0≤(y2.1.getD v1.toNat 0)∧(y2.1.getD v1.toNat 0) < y2.2.2.1.length) <|
      lett (IntKind.i64.wrap ((y2.2.2.2.2.1.getD (y2.1.getD v1.toNat 0).toNat 0) - (y2.2.2.1.getD (y2.1.getD v1.toNat 0).toNat 0))) fun z2 =>
      chk (0≤(y2.1.getD v1.toNat 0)∧(y2.1.getD v1.toNat 0) < y2.2.2.2.2.2.1.length) <|
      chk (0≤(y2.1.getD v1.toNat 0)∧(y2.1.getD v1.toNat 0) < y2.2.1.length) <|
      lett (IntKind.i64.wrap ((y2.2.2.2.2.2.1.getD (y2.1.getD v1.toNat 0).toNat 0) - (y2.2.1.getD (y2.1.getD v1.toNat 0).toNat 0))) fun z3 =>
      chk (0≤(y2.1.getD v1.toNat 0)∧(y2.1.getD v1.toNat 0) < y2.2.2.2.2.2.2.1.length) <|
      chk (0≤(y2.1.getD v1.toNat 0)∧(y2.1.getD v1.toNat 0) < y2.2.2.1.length) <|
      lett (IntKind.i64.wrap ((y2.2.2.2.2.2.2.1.getD (y2.1.getD v1.toNat 0).toNat 0) - (y2.2.2.1.getD (y2.1.getD v1.toNat 0).toNat 0))) fun z4 =>
      lett ((decide ((IntKind.i64.wrap ((IntKind.i64.wrap (z1 * z4)) - (IntKind.i64.wrap (z2 * z3)))) > (0:Int)))) fun z5 =>
      call (ref3_Read_L2 F a0 y1 y2 v1 z1 z2 z3 z4 z5 F v7 (0:Int))
        fun v8 =>
      ref3_Read_L0 F a0 y1 y2 n v8 (IntKind.i64.wrap (v1+(1:Int)))
    else
      some v7
/-- printworks/printworksref3.Read -/
def ref3_Read (F:Nat) (a0:S_FoldScheme):Option ((List S_FoldPage)×Int) :=
  call (ref3_FoldError F a0) fun y3 =>
  bif (y3 != (0:Int)) then
    some ([],y3)
  else
    call (ref3_Folded F a0 (a0.f2.length:Int)) fun y4 =>
    lett ((bif ((IntKind.i64.wrap (y4.f9 - y4.f7)) != (1:Int)) then true else ((IntKind.i64.wrap (y4.f10 - y4.f8)) != (1:Int)))) fun z8 =>
    bif z8 then
      some ([],(9:Int))
    else
      call (ref3_spine F a0) fun y1 =>
      call (ref3_Sheet_At F (0:Int) (0:Int) y4.f0 y4.f1 y4.f2 y4.f3 y4.f4 y4.f5 y4.f6 y4.f7 y4.f8 y4.f9 y4.f10 y4.f11) fun y2 =>
      call (ref3_Read_L0 F a0 y1 y2 F [] (0:Int))
        fun v9 =>
      some (v9,(0:Int))
/-- printworks/printworksref3.leafSize -/
def ref3_leafSize (F:Nat) (a0:S_ImposeLayout):Option (Int×Int) :=
  call (ref3_Read F a0.f0) fun y1 =>
  chk (0≤(0:Int)∧(0:Int) < y1.1.length) <|
  bif ((((y1.1.getD (0:Int).toNat (S_FoldPage.mk false 0 0 0)).f3).tmod (2:Int)) == (1:Int)) then
    some (IntKind.i64.wrap (a0.f2+(IntKind.i64.wrap ((2:Int) * a0.f3))),IntKind.i64.wrap ((IntKind.i64.wrap (a0.f1+a0.f4))+a0.f5))
  else
    some (IntKind.i64.wrap ((IntKind.i64.wrap (a0.f1+a0.f4))+a0.f5),IntKind.i64.wrap (a0.f2+(IntKind.i64.wrap ((2:Int) * a0.f3))))
/-- printworks/printworksref3.SingleSize -/
def ref3_SingleSize (F:Nat) (a0:S_ImposeLayout):Option (Int×Int) :=
  call (ref3_leafSize F a0) fun y1 =>
  some (IntKind.i64.wrap ((IntKind.i64.wrap (a0.f0.f0 * y1.1))+(IntKind.i64.wrap ((2:Int) * a0.f6))),IntKind.i64.wrap ((IntKind.i64.wrap (a0.f0.f1 * y1.2))+(IntKind.i64.wrap ((2:Int) * a0.f6))))
/-- printworks/printworksref3.PlateSize -/
def ref3_PlateSize (F:Nat) (a0:S_ImposeLayout):Option (Int×Int) :=
  call (ref3_SingleSize F a0) fun y1 =>
  bif (a0.f8 == (1:Int)) then
    some (IntKind.i64.wrap ((2:Int) * y1.1),y1.2)
  else
    bif (a0.f8 == (2:Int)) then
      some (y1.1,IntKind.i64.wrap ((2:Int) * y1.2))
    else
      some (y1.1,y1.2)
/-- printworks/printworksref3.LayoutError -/
def ref3_LayoutError (F:Nat) (a0:S_ImposeLayout):Option Int :=
  call (ref3_Read F a0.f0) fun y1 =>
  bif (y1.2 != (0:Int)) then
    some y1.2
  else
    lett ((bif (bif (decide (a0.f1 < (1:Int))) then true else (decide (a0.f1 > (256:Int)))) then true else (decide (a0.f2 < (1:Int))))) fun z1 =>
    bif (bif z1 then true else (decide (a0.f2 > (256:Int)))) then
      some (3:Int)
    else
      lett ((bif (bif (decide (a0.f3 < (0:Int))) then true else (decide (a0.f4 < (0:Int)))) then true else (decide (a0.f5 < (0:Int))))) fun z2 =>
      lett ((bif (bif z2 then true else (decide (a0.f6 < (0:Int)))) then true else (decide (a0.f3 > (64:Int))))) fun z3 =>
      lett ((bif (bif z3 then true else (decide (a0.f4 > (64:Int)))) then true else (decide (a0.f5 > (64:Int))))) fun z4 =>
      bif (bif z4 then true else (decide (a0.f6 > (64:Int)))) then
        some (3:Int)
      else
        bif (bif (decide (a0.f7 < (0:Int))) then true else (decide (a0.f7 > (8:Int)))) then
          some (3:Int)
        else
          bif (bif (decide (a0.f8 < (0:Int))) then true else (decide (a0.f8 > (2:Int)))) then
            some (14:Int)
          else
            lett (IntKind.i64.wrap ((IntKind.i64.wrap ((IntKind.i64.wrap ((y1.1.length:Int).tdiv (2:Int))) - (1:Int))).tdiv (2:Int))) fun z5 =>
            bif (decide ((IntKind.i64.wrap (a0.f7 * z5)) > a0.f5)) then
              some (19:Int)
            else
              call (ref3_PlateSize F a0) fun y2 =>
              bif (bif (decide (y2.1 > (1024:Int))) then true else (decide (y2.2 > (1024:Int)))) then
                some (2:Int)
              else
                some (0:Int)
/-- printworks/printworkslaw3.once -/
def law3_once (F:Nat)  : Option S_FoldScheme :=
  some (S_FoldScheme.mk (2:Int) (1:Int) ([(S_FoldStep.mk (0:Int) (1:Int) true)]))
/-- printworks/impose.depth -/
def impose_depth (F:Nat) (a0:Int) (a1:Int):Option Int :=
  lett ((if (IntKind.i64.wrap ((IntKind.i64.wrap (a1 - (1:Int))) - a0)) < a0 then (IntKind.i64.wrap ((IntKind.i64.wrap (a1 - (1:Int))) - a0)) else a0)) fun z1 =>
  some z1
def impose_box_turned_L0 (F:Nat)  : Nat→Int→Int→Int→Int→Int→Int→Int→Option (Int×Int×Int×Int×Int×Int)
  | 0,_,_,_,_,_,_,_=>none
  | n+1,v1,v2,v3,v4,v5,v6,v7 =>
    bif (decide (v1 > (0:Int))) then
      impose_box_turned_L0 F n (IntKind.i64.wrap (v1 - (1:Int))) v3 v2 (IntKind.i64.wrap ((IntKind.i64.wrap (v3 - v5)) - v7)) v4 v7 v6
    else
      some (v2,v3,v4,v5,v6,v7)
/-- (printworks/impose.box).turned -/
def impose_box_turned (F:Nat) (a0:S_impose_box) (a1:Int):Option S_impose_box :=
  call (impose_box_turned_L0 F F a1 a0.f0 a0.f1 a0.f2 a0.f3 a0.f4 a0.f5)
    fun (v8,v9,v10,v11,v12,v13) =>
  some (S_impose_box.mk v8 v9 v10 v11 v12 v13)
/-- printworks/impose.place -/
def impose_place (F:Nat) (a0:S_ImposeLayout) (a1:Int) (a2:S_FoldPage):Option S_impose_box :=
  call (impose_leaf F a0) fun y1 =>
  call (impose_depth F (IntKind.i64.wrap ((IntKind.i64.wrap (a1 - (1:Int))).tdiv (2:Int))) (IntKind.i64.wrap (a0.f0.f0 * a0.f0.f1))) fun y2 =>
  call (bif ((a1.tmod (2:Int)) == (0:Int)) then
      lett (IntKind.i64.wrap ((IntKind.i64.wrap ((IntKind.i64.wrap (a0.f1+a0.f4))+a0.f5)) - (IntKind.i64.wrap (a0.f5 - (IntKind.i64.wrap (a0.f7 * y2)))))) fun z1 =>
      some (IntKind.i64.wrap (z1 - a0.f1))
    else
      some (IntKind.i64.wrap (a0.f5 - (IntKind.i64.wrap (a0.f7 * y2)))))
    fun v1 =>
  call (impose_box_turned F (S_impose_box.mk (IntKind.i64.wrap ((IntKind.i64.wrap (a0.f1+a0.f4))+a0.f5)) (IntKind.i64.wrap (a0.f2+(IntKind.i64.wrap ((2:Int) * a0.f3)))) v1 a0.f3 a0.f1 a0.f2) a2.f3) fun y3 =>
  call (impose_single F a0) fun y4 =>
  some (S_impose_box.mk y4.1 y4.2 (IntKind.i64.wrap ((IntKind.i64.wrap (a0.f6+(IntKind.i64.wrap (a2.f1 * y1.1))))+y3.f2)) (IntKind.i64.wrap ((IntKind.i64.wrap (a0.f6+(IntKind.i64.wrap (a2.f2 * y1.2))))+y3.f3)) y3.f4 y3.f5)
def impose_Sheet_L0 (F:Nat) (a0:S_ImposeLayout) (a1:Int) (y1:(List S_FoldPage)×Int) (y2:Int×Int):Nat→(List S_ImposePlace)→(List S_ImposePlace)→Int→Option ((List S_ImposePlace)×(List S_ImposePlace))
  | 0,_,_,_=>none
  | n+1,v1,v2,v3 =>
    bif (decide (v3 < (((y1.1.drop (0:Int).toNat).take (a1.toNat - (0:Int).toNat)).length:Int))) then
      call (chk (0≤v3∧v3 < ((y1.1.drop (0:Int).toNat).take (a1.toNat - (0:Int).toNat)).length) <|
        call (impose_place F a0 (IntKind.i64.wrap (v3+(1:Int))) (((y1.1.drop (0:Int).toNat).take (a1.toNat - (0:Int).toNat)).getD v3.toNat (S_FoldPage.mk false 0 0 0))) fun y3 =>
        lett ((((y1.1.drop (0:Int).toNat).take (a1.toNat - (0:Int).toNat)).getD v3.toNat (S_FoldPage.mk false 0 0 0)).f3) fun z1 =>
        callE (lett ((((y1.1.drop (0:Int).toNat).take (a1.toNat - (0:Int).toNat)).getD v3.toNat (S_FoldPage.mk false 0 0 0)).f0) fun z2 =>
          bif (bif (a0.f8 == (0:Int)) then z2 else false) then
            chk (v2.length+([(S_ImposePlace.mk (IntKind.i64.wrap (v3+(1:Int))) y3.f2 y3.f3 z1)]).length≤4294967296) <|
            some (.esc (v1,(v2++([(S_ImposePlace.mk (IntKind.i64.wrap (v3+(1:Int))) y3.f2 y3.f3 z1)]))))
          else
            lett ((((y1.1.drop (0:Int).toNat).take (a1.toNat - (0:Int).toNat)).getD v3.toNat (S_FoldPage.mk false 0 0 0)).f0) fun z3 =>
            bif (bif (a0.f8 == (1:Int)) then z3 else false) then
              some (.go (IntKind.i64.wrap (y3.f2+(IntKind.i64.wrap (y2.1.tdiv (2:Int)))),y3.f3,z1))
            else
              lett ((((y1.1.drop (0:Int).toNat).take (a1.toNat - (0:Int).toNat)).getD v3.toNat (S_FoldPage.mk false 0 0 0)).f0) fun z4 =>
              bif (bif (a0.f8 == (2:Int)) then z4 else false) then
                call (impose_box_turned F y3 (2:Int)) fun y4 =>
                lett ((((y1.1.drop (0:Int).toNat).take (a1.toNat - (0:Int).toNat)).getD v3.toNat (S_FoldPage.mk false 0 0 0)).f3) fun z5 =>
                some (.go (y4.f2,(IntKind.i64.wrap ((IntKind.i64.wrap (y2.2.tdiv (2:Int)))+y4.f3)),((IntKind.i64.wrap (z5+(2:Int))).tmod (4:Int))))
              else
                some (.go (y3.f2,y3.f3,z1)))
          (fun e=>some e) fun (v4,v5,v6) =>
        chk (v1.length+([(S_ImposePlace.mk (IntKind.i64.wrap (v3+(1:Int))) v4 v5 v6)]).length≤4294967296) <|
        bif (a0.f8 != (0:Int)) then
          chk (v2.length+([(S_ImposePlace.mk (IntKind.i64.wrap (v3+(1:Int))) v4 v5 v6)]).length≤4294967296) <|
          some ((v1++([(S_ImposePlace.mk (IntKind.i64.wrap (v3+(1:Int))) v4 v5 v6)])),(v2++([(S_ImposePlace.mk (IntKind.i64.wrap (v3+(1:Int))) v4 v5 v6)])))
        else
          some ((v1++([(S_ImposePlace.mk (IntKind.i64.wrap (v3+(1:Int))) v4 v5 v6)])),v2))
        fun (v7,v8) =>
      impose_Sheet_L0 F a0 a1 y1 y2 n v7 v8 (IntKind.i64.wrap (v3+(1:Int)))
    else
      some (v1,v2)
/-- printworks/impose.Sheet -/
def impose_Sheet (F:Nat) (a0:S_ImposeLayout) (a1:Int):Option (S_ImposeSheet×Int) :=
  call (impose_Check F a0) fun y5 =>
  bif (y5 != (0:Int)) then
    some ((S_ImposeSheet.mk 0 0 [] []),y5)
  else
    call (fold_Pages F a0.f0) fun y1 =>
    bif (bif (decide (a1 < (0:Int))) then true else (decide (a1 > (y1.1.length:Int)))) then
      some ((S_ImposeSheet.mk 0 0 [] []),(3:Int))
    else
      call (impose_size F a0) fun y2 =>
      chk (0≤(0:Int)∧(0:Int)≤a1∧a1≤(y1.1.length:Int)) <|
      call (impose_Sheet_L0 F a0 a1 y1 y2 F [] [] (0:Int))
        fun (v9,v10) =>
      some ((S_ImposeSheet.mk y2.1 y2.2 v9 v10),(0:Int))
def slices_Equal_ImposePlace_L0 (F:Nat) (a0:List S_ImposePlace) (a1:List S_ImposePlace):Nat→Int→Option (Out Unit Bool)
  | 0,_=>none
  | n+1,v1 =>
    bif (decide (v1 < (a0.length:Int))) then
      chk (0≤v1∧v1 < a0.length) <|
      chk (0≤v1∧v1 < a1.length) <|
      lett ((!((a0.getD v1.toNat (S_ImposePlace.mk 0 0 0 0)).f0 == (a1.getD v1.toNat (S_ImposePlace.mk 0 0 0 0)).f0 && ((a0.getD v1.toNat (S_ImposePlace.mk 0 0 0 0)).f1 == (a1.getD v1.toNat (S_ImposePlace.mk 0 0 0 0)).f1 && ((a0.getD v1.toNat (S_ImposePlace.mk 0 0 0 0)).f2 == (a1.getD v1.toNat (S_ImposePlace.mk 0 0 0 0)).f2 && ((a0.getD v1.toNat (S_ImposePlace.mk 0 0 0 0)).f3 == (a1.getD v1.toNat (S_ImposePlace.mk 0 0 0 0)).f3 && true)))))) fun z1 =>
      bif z1 then
        some (.esc false)
      else
        slices_Equal_ImposePlace_L0 F a0 a1 n (IntKind.i64.wrap (v1+(1:Int)))
    else
      some (.go ())
/-- slices.Equal[[]printworks/api.ImposePlace,printworks/api.ImposePlace] -/
def slices_Equal_ImposePlace (F:Nat) (a0:List S_ImposePlace) (a1:List S_ImposePlace):Option Bool :=
  bif ((a0.length:Int) != (a1.length:Int)) then
    some false
  else
    callE (slices_Equal_ImposePlace_L0 F a0 a1 F (0:Int))
      (fun e=>some e) fun _ =>
    some true
/-- printworks/printworkslaw3.imposeFact -/
def law3_imposeFact (F:Nat)  : Option Bool :=
  call (law3_once F) fun y1 =>
  call (impose_Sheet F (S_ImposeLayout.mk y1 (10:Int) (10:Int) 0 0 0 0 0 0) (4:Int)) fun y2 =>
  lett ((bif (bif (y2.2 == (0:Int)) then (y2.1.f0 == (20:Int)) else false) then (y2.1.f1 == (10:Int)) else false)) fun z1 =>
  call ((bif ((z1 == true) && true) then slices_Equal_ImposePlace F y2.1.f2 ([(S_ImposePlace.mk (2:Int) 0 0 0),(S_ImposePlace.mk (3:Int) (10:Int) 0 0)]) else some false)) fun y3 =>
  call ((bif (((bif z1 then y3 else false) == true) && true) then slices_Equal_ImposePlace F y2.1.f3 ([(S_ImposePlace.mk (1:Int) (10:Int) 0 0),(S_ImposePlace.mk (4:Int) 0 0 0)]) else some false)) fun y4 =>
  some (bif (bif z1 then y3 else false) then y4 else false)
/-- printworks/printworkslaw3.tiny$1 -/
def law3_tiny_c1 (F:Nat) (a0:Int) (a1:Int):Option Int :=
  bif (bif (decide (a0 < (0:Int))) then true else (decide (a0 > (64:Int)))) then
    some a0
  else
    chk ((IntKind.i64.wrap (a1+(1:Int)))≠0) <|
    some (a0.tmod (IntKind.i64.wrap (a1+(1:Int))))
/-- printworks/printworkslaw3.tiny -/
def law3_tiny (F:Nat) (a0:S_ImposeLayout):Option S_ImposeLayout :=
  call (law3_tiny_c1 F a0.f1 (6:Int)) fun y1 =>
  call (law3_tiny_c1 F a0.f2 (6:Int)) fun y2 =>
  call (law3_tiny_c1 F a0.f3 (2:Int)) fun y3 =>
  call (law3_tiny_c1 F a0.f4 (2:Int)) fun y4 =>
  call (law3_tiny_c1 F a0.f6 (3:Int)) fun y5 =>
  call (law3_tiny_c1 F a0.f5 (12:Int)) fun y6 =>
  some (S_ImposeLayout.mk a0.f0 y1 y2 y3 y4 y6 y5 a0.f7 a0.f8)
/-- printworks/printworksref3.Pix -/
def ref3_Pix (F:Nat) (a0:S_Plate) (a1:Int) (a2:Int):Option Int :=
  chk (0≤(IntKind.i64.wrap ((IntKind.i64.wrap (a2 * a0.f0))+a1))∧(IntKind.i64.wrap ((IntKind.i64.wrap (a2 * a0.f0))+a1)) < a0.f2.length) <|
  some ((a0.f2.getD (IntKind.i64.wrap ((IntKind.i64.wrap (a2 * a0.f0))+a1)).toNat 0).toNat:Int)
/-- printworks/raster.Make[uint8]$1 -/
def raster_Make_uint8_c1 (F:Nat) (a0:Int) (a1:Int) (c2:Int):Option (Int×Int) :=
  some (c2,c2)
def raster_build_uint8_v4_L2 (F:Nat) (a0:Int) (v1:Int):Nat→(List UInt8)→Int→Int→Option ((List UInt8)×Int)
  | 0,_,_,_=>none
  | n+1,v2,v3,v4 =>
    bif (decide (v3 < a0)) then
      call (raster_Make_uint8_c1 F v3 v1 v4) fun y1 =>
      chk (0≤y1.1∧y1.1 < 256) <|
      chk (v2.length+([(UInt8.ofNat y1.1.toNat)]).length≤4294967296) <|
      raster_build_uint8_v4_L2 F a0 v1 n (v2++([(UInt8.ofNat y1.1.toNat)])) (IntKind.i64.wrap (v3+(1:Int))) y1.2
    else
      some (v2,v4)
def raster_build_uint8_v4_L0 (F:Nat) (a0:Int) (a1:Int):Nat→(List UInt8)→Int→Int→Option ((List UInt8)×Int)
  | 0,_,_,_=>none
  | n+1,v5,v1,v6 =>
    bif (decide (v1 < a1)) then
      call (raster_build_uint8_v4_L2 F a0 v1 F v5 (0:Int) v6)
        fun (v7,v8) =>
      raster_build_uint8_v4_L0 F a0 a1 n v7 (IntKind.i64.wrap (v1+(1:Int))) v8
    else
      some (v5,v6)
/-- printworks/raster.build[uint8] -/
def raster_build_uint8_v4 (F:Nat) (a0:Int) (a1:Int) (c2:Int):Option (S_Plate×Int) :=
  chk (0≤(0:Int)∧(0:Int)≤(IntKind.i64.wrap (a0 * a1))∧(IntKind.i64.wrap (a0 * a1))≤9223372036854775807∧((1:Nat):Int) * (IntKind.i64.wrap (a0 * a1))≤281474976710656) <|
  call (raster_build_uint8_v4_L0 F a0 a1 F (List.replicate (0:Int).toNat 0) (0:Int) c2)
    fun (v9,v10) =>
  some ((S_Plate.mk a0 a1 v9),v10)
/-- printworks/raster.Make[uint8] -/
def raster_Make_uint8 (F:Nat) (a0:Int) (a1:Int) (a2:Int):Option (S_Plate×Int) :=
  call (raster_sized F a0 a1) fun y1 =>
  bif (!y1) then
    some ((S_Plate.mk 0 0 []),(3:Int))
  else
    call (raster_build_uint8_v4 F a0 a1 a2) fun y2 =>
    some (y2.1,(0:Int))
def impose_Marks_L4 (F:Nat) (a0:S_ImposeLayout) (y1:Int×Int) (y2:Int×Int) (v1:Int) (v2:Int):Nat→(List S_ImposeMark)→Int→Option ((List S_ImposeMark))
  | 0,_,_=>none
  | n+1,v3,v4 =>
    bif (decide (v4 < a0.f0.f0)) then
      chk (v3.length+([(S_ImposeMark.mk (IntKind.i64.wrap ((IntKind.i64.wrap (v2+a0.f6))+(IntKind.i64.wrap (v4 * y1.1)))) v1 (1:Int) (IntKind.i64.wrap (a0.f6.tdiv (2:Int)))),(S_ImposeMark.mk (IntKind.i64.wrap ((IntKind.i64.wrap (v2+a0.f6))+(IntKind.i64.wrap (v4 * y1.1)))) (IntKind.i64.wrap ((IntKind.i64.wrap (v1+y2.2)) - (IntKind.i64.wrap (a0.f6.tdiv (2:Int))))) (1:Int) (IntKind.i64.wrap (a0.f6.tdiv (2:Int))))]).length≤4294967296) <|
      lett ((v3++([(S_ImposeMark.mk (IntKind.i64.wrap ((IntKind.i64.wrap (v2+a0.f6))+(IntKind.i64.wrap (v4 * y1.1)))) v1 (1:Int) (IntKind.i64.wrap (a0.f6.tdiv (2:Int)))),(S_ImposeMark.mk (IntKind.i64.wrap ((IntKind.i64.wrap (v2+a0.f6))+(IntKind.i64.wrap (v4 * y1.1)))) (IntKind.i64.wrap ((IntKind.i64.wrap (v1+y2.2)) - (IntKind.i64.wrap (a0.f6.tdiv (2:Int))))) (1:Int) (IntKind.i64.wrap (a0.f6.tdiv (2:Int))))]))) fun l1 =>
      impose_Marks_L4 F a0 y1 y2 v1 v2 n l1 (IntKind.i64.wrap (v4+(1:Int)))
    else
      some v3
def impose_Marks_L6 (F:Nat) (a0:S_ImposeLayout) (y1:Int×Int) (y2:Int×Int) (v1:Int) (v2:Int):Nat→(List S_ImposeMark)→Int→Option ((List S_ImposeMark))
  | 0,_,_=>none
  | n+1,v5,v6 =>
    bif (decide (v6 < a0.f0.f1)) then
      chk (v5.length+([(S_ImposeMark.mk v2 (IntKind.i64.wrap ((IntKind.i64.wrap (v1+a0.f6))+(IntKind.i64.wrap (v6 * y1.2)))) (IntKind.i64.wrap (a0.f6.tdiv (2:Int))) (1:Int)),(S_ImposeMark.mk (IntKind.i64.wrap ((IntKind.i64.wrap (v2+y2.1)) - (IntKind.i64.wrap (a0.f6.tdiv (2:Int))))) (IntKind.i64.wrap ((IntKind.i64.wrap (v1+a0.f6))+(IntKind.i64.wrap (v6 * y1.2)))) (IntKind.i64.wrap (a0.f6.tdiv (2:Int))) (1:Int))]).length≤4294967296) <|
      lett ((v5++([(S_ImposeMark.mk v2 (IntKind.i64.wrap ((IntKind.i64.wrap (v1+a0.f6))+(IntKind.i64.wrap (v6 * y1.2)))) (IntKind.i64.wrap (a0.f6.tdiv (2:Int))) (1:Int)),(S_ImposeMark.mk (IntKind.i64.wrap ((IntKind.i64.wrap (v2+y2.1)) - (IntKind.i64.wrap (a0.f6.tdiv (2:Int))))) (IntKind.i64.wrap ((IntKind.i64.wrap (v1+a0.f6))+(IntKind.i64.wrap (v6 * y1.2)))) (IntKind.i64.wrap (a0.f6.tdiv (2:Int))) (1:Int))]))) fun l2 =>
      impose_Marks_L6 F a0 y1 y2 v1 v2 n l2 (IntKind.i64.wrap (v6+(1:Int)))
    else
      some v5
def impose_Marks_L2 (F:Nat) (a0:S_ImposeLayout) (y1:Int×Int) (y2:Int×Int) (y3:Int×Int) (v1:Int):Nat→(List S_ImposeMark)→Int→Option ((List S_ImposeMark))
  | 0,_,_=>none
  | n+1,v7,v2 =>
    bif (decide (v2 < y3.1)) then
      call (impose_Marks_L4 F a0 y1 y2 v1 v2 F v7 (1:Int))
        fun v8 =>
      call (impose_Marks_L6 F a0 y1 y2 v1 v2 F v8 (1:Int))
        fun v9 =>
      impose_Marks_L2 F a0 y1 y2 y3 v1 n v9 (IntKind.i64.wrap (v2+y2.1))
    else
      some v7
def impose_Marks_L0 (F:Nat) (a0:S_ImposeLayout) (y1:Int×Int) (y2:Int×Int) (y3:Int×Int):Nat→(List S_ImposeMark)→Int→Option ((List S_ImposeMark))
  | 0,_,_=>none
  | n+1,v10,v1 =>
    bif (decide (v1 < y3.2)) then
      call (impose_Marks_L2 F a0 y1 y2 y3 v1 F v10 (0:Int))
        fun v11 =>
      impose_Marks_L0 F a0 y1 y2 y3 n v11 (IntKind.i64.wrap (v1+y2.2))
    else
      some v10
/-- printworks/impose.Marks -/
def impose_Marks (F:Nat) (a0:S_ImposeLayout):Option ((List S_ImposeMark)×Int) :=
  call (impose_Check F a0) fun y4 =>
  bif (y4 != (0:Int)) then
    some ([],y4)
  else
    bif ((IntKind.i64.wrap (a0.f6.tdiv (2:Int))) == (0:Int)) then
      some ([],(0:Int))
    else
      call (impose_leaf F a0) fun y1 =>
      call (impose_single F a0) fun y2 =>
      call (impose_size F a0) fun y3 =>
      call (impose_Marks_L0 F a0 y1 y2 y3 F [] (0:Int))
        fun v12 =>
      some (v12,(0:Int))
def raster_Grid_uint8_Paste_L0 (F:Nat) (a0:S_Plate) (a1:Int) (a2:Int) (a3:S_Plate):Nat→(List UInt8)→Int→Option ((List UInt8))
  | 0,_,_=>none
  | n+1,v1,v2 =>
    bif (bif (decide (v2 < a3.f1)) then (decide ((IntKind.i64.wrap (a2+v2)) < a0.f1)) else false) then
      call (lett ((decide ((if (0:Int) < (IntKind.i64.wrap (0 - a1)) then (IntKind.i64.wrap (0 - a1)) else (0:Int)) < (if (IntKind.i64.wrap (a0.f0 - a1)) < a3.f0 then (IntKind.i64.wrap (a0.f0 - a1)) else a3.f0)))) fun z1 =>
        bif z1 then
          chk (0≤(IntKind.i64.wrap ((IntKind.i64.wrap (a2+v2)) * a0.f0))∧(IntKind.i64.wrap ((IntKind.i64.wrap (a2+v2)) * a0.f0)) < (IntKind.i64.wrap ((IntKind.i64.wrap ((IntKind.i64.wrap (a2+v2))+(1:Int))) * a0.f0))∧(IntKind.i64.wrap ((IntKind.i64.wrap ((IntKind.i64.wrap (a2+v2))+(1:Int))) * a0.f0))≤(v1.length:Int)) <|
          lett (IntKind.i64.wrap (a1+(if (0:Int) < (IntKind.i64.wrap (0 - a1)) then (IntKind.i64.wrap (0 - a1)) else (0:Int)))) fun z2 =>
          lett (IntKind.i64.wrap (a1+(if (IntKind.i64.wrap (a0.f0 - a1)) < a3.f0 then (IntKind.i64.wrap (a0.f0 - a1)) else a3.f0))) fun z3 =>
          chk (0≤z2∧z2 < z3∧z3≤((((IntKind.i64.wrap ((IntKind.i64.wrap ((IntKind.i64.wrap (a2+v2))+(1:Int))) * a0.f0)).toNat - (IntKind.i64.wrap ((IntKind.i64.wrap (a2+v2)) * a0.f0)).toNat):Nat):Int)) <|
          lett (IntKind.i64.wrap ((IntKind.i64.wrap (v2 * a3.f0))+(if (0:Int) < (IntKind.i64.wrap (0 - a1)) then (IntKind.i64.wrap (0 - a1)) else (0:Int)))) fun z4 =>
          lett (IntKind.i64.wrap ((IntKind.i64.wrap (v2 * a3.f0))+(if (IntKind.i64.wrap (a0.f0 - a1)) < a3.f0 then (IntKind.i64.wrap (a0.f0 - a1)) else a3.f0))) fun z5 =>
          chk (0≤z4∧z4≤z5∧z5≤(a3.f2.length:Int)) <|
          chk (0 < ((a3.f2.drop z4.toNat).take (z5.toNat - z4.toNat)).length∧(((IntKind.i64.wrap ((IntKind.i64.wrap (a2+v2)) * a0.f0)).toNat)+z2.toNat)+(z3.toNat - z2.toNat)≤v1.length) <|
          some (spl (((IntKind.i64.wrap ((IntKind.i64.wrap (a2+v2)) * a0.f0)).toNat)+z2.toNat) (((a3.f2.drop z4.toNat).take (z5.toNat - z4.toNat)).take (z3.toNat - z2.toNat)) v1)
        else
          some v1)
        fun v3 =>
      raster_Grid_uint8_Paste_L0 F a0 a1 a2 a3 n v3 (IntKind.i64.wrap (v2+(1:Int)))
    else
      some v1
/-- (printworks/raster.Grid[uint8]).Paste -/
def raster_Grid_uint8_Paste (F:Nat) (a0:S_Plate) (a1:Int) (a2:Int) (a3:S_Plate):Option (S_Plate×Int) :=
  call (raster_Grid_uint8_Check F a0) fun y1 =>
  bif (y1 != (0:Int)) then
    some ((S_Plate.mk 0 0 []),y1)
  else
    call (raster_Grid_uint8_Check F a3) fun y2 =>
    bif (y2 != (0:Int)) then
      some ((S_Plate.mk 0 0 []),y2)
    else
      lett ((bif (bif (decide (a1 < (-1024:Int))) then true else (decide (a1 > (1024:Int)))) then true else (decide (a2 < (-1024:Int))))) fun z6 =>
      bif (bif z6 then true else (decide (a2 > (1024:Int)))) then
        some ((S_Plate.mk 0 0 []),(3:Int))
      else
        call (slices_Clone_uint8 F a0.f2) fun y3 =>
        call (raster_Grid_uint8_Paste_L0 F a0 a1 a2 a3 F y3 (if (0:Int) < (IntKind.i64.wrap (0 - a2)) then (IntKind.i64.wrap (0 - a2)) else (0:Int)))
          fun v4 =>
        some ((S_Plate.mk a0.f0 a0.f1 v4),(0:Int))
def impose_Plate_L0 (F:Nat) (a0:S_ImposeLayout) (a1:List S_Plate):Nat→Int→Option (Out Unit (S_Plate×Int))
  | 0,_=>none
  | n+1,v1 =>
    bif (decide (v1 < (a1.length:Int))) then
      chk (0≤v1∧v1 < a1.length) <|
      lett ((bif (((a1.getD v1.toNat (S_Plate.mk 0 0 [])).f0) != a0.f1) then true else (((a1.getD v1.toNat (S_Plate.mk 0 0 [])).f1) != a0.f2))) fun z1 =>
      lett ((bif z1 then true else ((((a1.getD v1.toNat (S_Plate.mk 0 0 [])).f2).length:Int) != (IntKind.i64.wrap (a0.f1 * a0.f2))))) fun z2 =>
      bif z2 then
        some (.esc ((S_Plate.mk 0 0 []),(4:Int)))
      else
        impose_Plate_L0 F a0 a1 n (IntKind.i64.wrap (v1+(1:Int)))
    else
      some (.go ())
def impose_Plate_L2 (F:Nat) (y1:(List S_ImposeMark)×Int):Nat→Int→Int→(List UInt8)→Int→Option (Int×Int×(List UInt8))
  | 0,_,_,_,_=>none
  | n+1,v2,v3,v4,v5 =>
    bif (decide (v5 < (y1.1.length:Int))) then
      chk (0≤v5∧v5 < y1.1.length) <|
      call (raster_Make_uint8 F ((y1.1.getD v5.toNat (S_ImposeMark.mk 0 0 0 0)).f2) ((y1.1.getD v5.toNat (S_ImposeMark.mk 0 0 0 0)).f3) (255:Int)) fun y2 =>
      call (raster_Grid_uint8_Paste F (S_Plate.mk v2 v3 v4) ((y1.1.getD v5.toNat (S_ImposeMark.mk 0 0 0 0)).f0) ((y1.1.getD v5.toNat (S_ImposeMark.mk 0 0 0 0)).f1) y2.1) fun y3 =>
      impose_Plate_L2 F y1 n y3.1.f0 y3.1.f1 y3.1.f2 (IntKind.i64.wrap (v5+(1:Int)))
    else
      some (v2,v3,v4)
def impose_Plate_L4 (F:Nat) (a1:List S_Plate) (v6:List S_ImposePlace):Nat→Int→Int→(List UInt8)→Int→Option (Int×Int×(List UInt8))
  | 0,_,_,_,_=>none
  | n+1,v7,v8,v9,v10 =>
    bif (decide (v10 < (v6.length:Int))) then
      chk (0≤v10∧v10 < v6.length) <|
      chk (0≤(IntKind.i64.wrap (((v6.getD v10.toNat (S_ImposePlace.mk 0 0 0 0)).f0) - (1:Int)))∧(IntKind.i64.wrap (((v6.getD v10.toNat (S_ImposePlace.mk 0 0 0 0)).f0) - (1:Int))) < a1.length) <|
      call (raster_Of F (a1.getD (IntKind.i64.wrap (((v6.getD v10.toNat (S_ImposePlace.mk 0 0 0 0)).f0) - (1:Int))).toNat (S_Plate.mk 0 0 []))) fun y4 =>
      call (raster_Grid_uint8_Turn F y4 ((v6.getD v10.toNat (S_ImposePlace.mk 0 0 0 0)).f3)) fun y5 =>
      call (raster_Grid_uint8_Paste F (S_Plate.mk v7 v8 v9) ((v6.getD v10.toNat (S_ImposePlace.mk 0 0 0 0)).f1) ((v6.getD v10.toNat (S_ImposePlace.mk 0 0 0 0)).f2) y5.1) fun y6 =>
      impose_Plate_L4 F a1 v6 n y6.1.f0 y6.1.f1 y6.1.f2 (IntKind.i64.wrap (v10+(1:Int)))
    else
      some (v7,v8,v9)
/-- printworks/impose.Plate -/
def impose_Plate (F:Nat) (a0:S_ImposeLayout) (a1:List S_Plate) (a2:Bool) (a3:Bool):Option (S_Plate×Int) :=
  call (impose_Check F a0) fun y7 =>
  bif (y7 != (0:Int)) then
    some ((S_Plate.mk 0 0 []),y7)
  else
    lett ((decide ((a1.length:Int) > (IntKind.i64.wrap ((IntKind.i64.wrap ((2:Int) * a0.f0.f0)) * a0.f0.f1))))) fun z3 =>
    bif z3 then
      some ((S_Plate.mk 0 0 []),(2:Int))
    else
      callE (impose_Plate_L0 F a0 a1 F (0:Int))
        (fun e=>some e) fun _ =>
      call (impose_Sheet F a0 (a1.length:Int)) fun y8 =>
      call (bif a2 then
          some y8.1.f3
        else
          some y8.1.f2)
        fun v6 =>
      call (raster_Make_uint8 F y8.1.f0 y8.1.f1 (0:Int)) fun y9 =>
      call (bif a3 then
          call (impose_Marks F a0) fun y1 =>
          call (impose_Plate_L2 F y1 F y9.1.f0 y9.1.f1 y9.1.f2 (0:Int))
            fun (v11,v12,v13) =>
          some (v11,v12,v13)
        else
          some (y9.1.f0,y9.1.f1,y9.1.f2))
        fun (v14,v15,v16) =>
      call (impose_Plate_L4 F a1 v6 F v14 v15 v16 (0:Int))
        fun (v17,v18,v19) =>
      call (raster_Plate F (S_Plate.mk v17 v18 v19)) fun y10 =>
      some (y10,(0:Int))
def ref3_PageAt_L2 (F:Nat) (a1:List S_FoldPage) (v1:Int):Nat→Int→Int→Int→Int→Int→Option (Int×Int×Int)
  | 0,_,_,_,_,_=>none
  | n+1,v2,v3,v4,v5,v6 =>
    bif (decide (v6 < ((a1.getD v1.toNat (S_FoldPage.mk false 0 0 0)).f3))) then
      ref3_PageAt_L2 F a1 v1 n v3 (IntKind.i64.wrap ((IntKind.i64.wrap (v4 - (1:Int))) - v2)) v5 v4 (IntKind.i64.wrap (v6+(1:Int)))
    else
      some (v2,v3,v4)
def ref3_PageAt_L0 (F:Nat) (a0:S_ImposeLayout) (a1:List S_FoldPage) (a2:Bool) (a3:Int) (a4:Int) (y1:Int×Int):Nat→Int→Option (Out Unit (Int×Int×Int))
  | 0,_=>none
  | n+1,v1 =>
    bif (decide (v1 < (a1.length:Int))) then
      callE (chk (0≤v1∧v1 < a1.length) <|
        chk ((((!(((a1.getD v1.toNat (S_FoldPage.mk false 0 0 0)).f0) == a2)) == false) && true)=true→y1.1≠0) <|
        lett ((((a1.getD v1.toNat (S_FoldPage.mk false 0 0 0)).f1) != (IntKind.i64.wrap ((IntKind.i64.wrap (a3 - a0.f6)).tdiv y1.1)))) fun z1 =>
        chk ((((bif (!(((a1.getD v1.toNat (S_FoldPage.mk false 0 0 0)).f0) == a2)) then true else z1) == false) && true)=true→y1.2≠0) <|
        lett ((((a1.getD v1.toNat (S_FoldPage.mk false 0 0 0)).f2) != (IntKind.i64.wrap ((IntKind.i64.wrap (a4 - a0.f6)).tdiv y1.2)))) fun z2 =>
        lett ((bif (bif (!(((a1.getD v1.toNat (S_FoldPage.mk false 0 0 0)).f0) == a2)) then true else z1) then true else z2)) fun z3 =>
        bif z3 then
          some (.go ())
        else
          chk (y1.1≠0) <|
          chk (y1.2≠0) <|
          call (ref3_PageAt_L2 F a1 v1 F ((IntKind.i64.wrap (a3 - a0.f6)).tmod y1.1) ((IntKind.i64.wrap (a4 - a0.f6)).tmod y1.2) y1.1 y1.2 (0:Int))
            fun (v7,v8,v9) =>
          lett (IntKind.i64.wrap ((IntKind.i64.wrap ((IntKind.i64.wrap ((a1.length:Int).tdiv (2:Int))) - (1:Int))) - (IntKind.i64.wrap (v1.tdiv (2:Int))))) fun z4 =>
          lett ((if z4 < (IntKind.i64.wrap (v1.tdiv (2:Int))) then z4 else (IntKind.i64.wrap (v1.tdiv (2:Int))))) fun z5 =>
          call (bif ((v1.tmod (2:Int)) == (1:Int)) then
              lett (IntKind.i64.wrap ((IntKind.i64.wrap (v9 - (IntKind.i64.wrap (a0.f5 - (IntKind.i64.wrap (a0.f7 * z5)))))) - a0.f1)) fun z6 =>
              some z6
            else
              some (IntKind.i64.wrap (a0.f5 - (IntKind.i64.wrap (a0.f7 * z5)))))
            fun v10 =>
          lett ((bif (bif (decide (v7 < v10)) then true else (decide (v7 ≥ (IntKind.i64.wrap (v10+a0.f1))))) then true else (decide (v8 < a0.f3)))) fun z7 =>
          bif (bif z7 then true else (decide (v8 ≥ (IntKind.i64.wrap (a0.f3+a0.f2))))) then
            some (.esc ((0:Int),(0:Int),(0:Int)))
          else
            some (.esc (IntKind.i64.wrap (v1+(1:Int)),IntKind.i64.wrap (v7 - v10),IntKind.i64.wrap (v8 - a0.f3))))
        (fun e=>some (.esc e)) fun _ =>
      ref3_PageAt_L0 F a0 a1 a2 a3 a4 y1 n (IntKind.i64.wrap (v1+(1:Int)))
    else
      some (.go ())
/-- printworks/printworksref3.PageAt -/
def ref3_PageAt (F:Nat) (a0:S_ImposeLayout) (a1:List S_FoldPage) (a2:Bool) (a3:Int) (a4:Int):Option (Int×Int×Int) :=
  call (ref3_leafSize F a0) fun y1 =>
  lett ((bif (decide ((IntKind.i64.wrap (a3 - a0.f6)) < (0:Int))) then true else (decide ((IntKind.i64.wrap (a4 - a0.f6)) < (0:Int))))) fun z8 =>
  lett ((bif z8 then true else (decide ((IntKind.i64.wrap (a3 - a0.f6)) ≥ (IntKind.i64.wrap (a0.f0.f0 * y1.1)))))) fun z9 =>
  lett ((bif z9 then true else (decide ((IntKind.i64.wrap (a4 - a0.f6)) ≥ (IntKind.i64.wrap (a0.f0.f1 * y1.2)))))) fun z10 =>
  bif z10 then
    some ((0:Int),(0:Int),(0:Int))
  else
    callE (ref3_PageAt_L0 F a0 a1 a2 a3 a4 y1 F (0:Int))
      (fun e=>some e) fun _ =>
    some ((0:Int),(0:Int),(0:Int))
/-- printworks/printworksref3.PixelAt -/
def ref3_PixelAt (F:Nat) (a0:S_ImposeLayout) (a1:List S_FoldPage) (a2:Bool) (a3:Int) (a4:Int):Option (Int×Int×Int) :=
  call (ref3_SingleSize F a0) fun y1 =>
  bif (a0.f8 == (0:Int)) then
    call (ref3_PageAt F a0 a1 a2 a3 a4) fun y2 =>
    some (y2.1,y2.2.1,y2.2.2)
  else
    bif (a0.f8 == (1:Int)) then
      chk (y1.1≠0) <|
      call (ref3_PageAt F a0 a1 (decide (a3 ≥ y1.1)) (a3.tmod y1.1) a4) fun y3 =>
      some (y3.1,y3.2.1,y3.2.2)
    else
      bif (decide (a4 ≥ y1.2)) then
        call (ref3_PageAt F a0 a1 true (IntKind.i64.wrap ((IntKind.i64.wrap (y1.1 - (1:Int))) - a3)) (IntKind.i64.wrap ((IntKind.i64.wrap ((IntKind.i64.wrap ((2:Int) * y1.2)) - (1:Int))) - a4))) fun y4 =>
        some (y4.1,y4.2.1,y4.2.2)
      else
        call (ref3_PageAt F a0 a1 false a3 a4) fun y5 =>
        some (y5.1,y5.2.1,y5.2.2)
def law3_ImposePlateMatchesReference_L0 (F:Nat) (y1:S_ImposeLayout) (z1:Int):Nat→(List S_Plate)→Int→Option ((List S_Plate))
  | 0,_,_=>none
  | n+1,v1,v2 =>
    bif (decide (v2 < (IntKind.i64.wrap z1))) then
      call (law3_dots F y1.f1 y1.f2 (IntKind.i64.wrap ((IntKind.i64.wrap ((31:Int) * v2))+(1:Int)))) fun y2 =>
      chk (v1.length+([y2]).length≤4294967296) <|
      law3_ImposePlateMatchesReference_L0 F y1 z1 n (v1++([y2])) (IntKind.i64.wrap (v2+(1:Int)))
    else
      some v1
def law3_ImposePlateMatchesReference_L4 (F:Nat) (a2:Bool) (y1:S_ImposeLayout) (y3:(List S_FoldPage)×Int) (z1:Int) (v3:List S_Plate) (y4:S_Plate×Int) (y5:Int×Int) (v4:Int):Nat→Int→Option (Out Unit Bool)
  | 0,_=>none
  | n+1,v5 =>
    bif (decide (v5 < y5.1)) then
      call (ref3_PixelAt F y1 y3.1 a2 v5 v4) fun y6 =>
      call (bif (bif (decide (y6.1 > (0:Int))) then (decide (y6.1≤(IntKind.i64.wrap z1))) else false) then
          chk (0≤(IntKind.i64.wrap (y6.1 - (1:Int)))∧(IntKind.i64.wrap (y6.1 - (1:Int))) < v3.length) <|
          call (ref3_Pix F (v3.getD (IntKind.i64.wrap (y6.1 - (1:Int))).toNat (S_Plate.mk 0 0 [])) y6.2.1 y6.2.2) fun y7 =>
          some y7
        else
          some (0:Int))
        fun v6 =>
      call (ref3_Pix F y4.1 v5 v4) fun y8 =>
      bif (y8 != v6) then
        some (.esc false)
      else
        law3_ImposePlateMatchesReference_L4 F a2 y1 y3 z1 v3 y4 y5 v4 n (IntKind.i64.wrap (v5+(1:Int)))
    else
      some (.go ())
def law3_ImposePlateMatchesReference_L2 (F:Nat) (a2:Bool) (y1:S_ImposeLayout) (y3:(List S_FoldPage)×Int) (z1:Int) (v3:List S_Plate) (y4:S_Plate×Int) (y5:Int×Int):Nat→Int→Option (Out Unit Bool)
  | 0,_=>none
  | n+1,v4 =>
    bif (decide (v4 < y5.2)) then
      callE (law3_ImposePlateMatchesReference_L4 F a2 y1 y3 z1 v3 y4 y5 v4 F (0:Int))
        (fun e=>some (.esc e)) fun _ =>
      law3_ImposePlateMatchesReference_L2 F a2 y1 y3 z1 v3 y4 y5 n (IntKind.i64.wrap (v4+(1:Int)))
    else
      some (.go ())
/-- printworks/printworkslaw3.ImposePlateMatchesReference -/
def law3_ImposePlateMatchesReference (F:Nat) (a0:S_ImposeLayout) (a1:Int) (a2:Bool):Option Bool :=
  call (law3_imposeFact F) fun y9 =>
  bif (!y9) then
    some false
  else
    call (law3_tiny F a0) fun y1 =>
    call (ref3_LayoutError F y1) fun y10 =>
    bif (y10 != (0:Int)) then
      some true
    else
      call (ref3_Read F y1.f0) fun y3 =>
      chk ((IntKind.u64.wrap (IntKind.i64.wrap ((y3.1.length:Int)+(1:Int))))≠0) <|
      lett (((IntKind.u64.wrap a1).tmod (IntKind.u64.wrap (IntKind.i64.wrap ((y3.1.length:Int)+(1:Int)))))) fun z1 =>
      call (law3_ImposePlateMatchesReference_L0 F y1 z1 F [] (0:Int))
        fun v3 =>
      call (impose_Plate F y1 v3 a2 false) fun y4 =>
      call (ref3_PlateSize F y1) fun y5 =>
      lett ((bif (bif (y4.2 != (0:Int)) then true else (y4.1.f0 != y5.1)) then true else (y4.1.f1 != y5.2))) fun z2 =>
      bif (bif z2 then true else ((y4.1.f2.length:Int) != (IntKind.i64.wrap (y5.1 * y5.2)))) then
        some false
      else
        callE (law3_ImposePlateMatchesReference_L2 F a2 y1 y3 z1 v3 y4 y5 F (0:Int))
          (fun e=>some e) fun _ =>
        some true
end Go.Vm.BinG
