/-
  Texts.
-/
import Derived.Test.YtjjclmimifionaaVmC
import Derived.Test.YtjjclmimifionaaVmD
namespace Go.Vm.TopG
structure S_Run where
 f0:Int
 f1:Int
 f2:Int
deriving DecidableEq
def cS_Run (x:S_Run):List Dat:=(cI .i64) x.f0++(cI .i64) x.f1++(cI .i64) x.f2
structure S_Inks where
 f0:Int
 f1:Int
 f2:Int
 f3:Int
 f4:Int
 f5:Int
 f6:Int
 f7:Int
deriving DecidableEq
def cS_Inks (x:S_Inks):List Dat:=(cI .u8) x.f0++(cI .u8) x.f1++(cI .u8) x.f2++(cI .u8) x.f3++(cI .u8) x.f4++(cI .u8) x.f5++(cI .u8) x.f6++(cI .u8) x.f7
structure S_Point where
 f0:Int
 f1:Int
deriving DecidableEq
def cS_Point (x:S_Point):List Dat:=(cI .i64) x.f0++(cI .i64) x.f1
structure S_Stop where
 f0:Int
 f1:S_Inks
deriving DecidableEq
def cS_Stop (x:S_Stop):List Dat:=(cI .i64) x.f0++cS_Inks x.f1
structure S_Matrix where
 f0:Int
 f1:Int
 f2:Int
 f3:Int
 f4:Int
 f5:Int
deriving DecidableEq
def cS_Matrix (x:S_Matrix):List Dat:=(cI .i64) x.f0++(cI .i64) x.f1++(cI .i64) x.f2++(cI .i64) x.f3++(cI .i64) x.f4++(cI .i64) x.f5
structure S_Image where
 f0:Int
 f1:Int
 f2:List S_Inks
 f3:List UInt8
 f4:S_Matrix
 f5:Bool
 f6:Bool
deriving DecidableEq
def cS_Image (x:S_Image):List Dat:=(cI .i64) x.f0++(cI .i64) x.f1++(cL 8 cS_Inks) x.f2++(cL 1 cU) x.f3++cS_Matrix x.f4++cB x.f5++cB x.f6
structure S_Source where
 f0:Int
 f1:S_Inks
 f2:S_Point
 f3:S_Point
 f4:Int
 f5:List S_Stop
 f6:S_Image
deriving DecidableEq
def cS_Source (x:S_Source):List Dat:=(cI .i64) x.f0++cS_Inks x.f1++cS_Point x.f2++cS_Point x.f3++(cI .i64) x.f4++(cL 9 cS_Stop) x.f5++cS_Image x.f6
structure S_Item where
 f0:Int
 f1:List S_Run
 f2:S_Source
 f3:Int
 f4:Int
 f5:Bool
 f6:Bool
 f7:Bool
deriving DecidableEq
def cS_Item (x:S_Item):List Dat:=(cI .i64) x.f0++(cL 3 cS_Run) x.f1++cS_Source x.f2++(cI .u8) x.f3++(cI .i64) x.f4++cB x.f5++cB x.f6++cB x.f7
structure S_List where
 f0:Int
 f1:Int
 f2:List (List UInt8)
 f3:List S_Item
deriving DecidableEq
def cS_List (x:S_List):List Dat:=(cI .i64) x.f0++(cI .i64) x.f1++(cL 1 cS) x.f2++(cL 34 cS_Item) x.f3
structure S_State where
 f0:Int
 f1:S_Inks
deriving DecidableEq
structure S_arr4_Int where
 f0:Int
 f1:Int
 f2:Int
 f3:Int
deriving DecidableEq
def cS_arr4_Int (x:S_arr4_Int):List Dat:=(cI .i64) x.f0++(cI .i64) x.f1++(cI .i64) x.f2++(cI .i64) x.f3
def inkL (v:S_Inks):List Int:=[v.f0,v.f1,v.f2,v.f3,v.f4,v.f5,v.f6,v.f7]
def ink0:S_Inks:=⟨0,0,0,0,0,0,0,0⟩
/-- printworks/num.Quo -/
def num_Quo (F:Nat) (a0:Int) (a1:Int):Option Int :=
 chk (a1≠0) <|
 call (chk (a1≠0) <|
  bif (decide ((a0.tmod a1) < (0:Int))) then
   some (IntKind.i64.wrap ((IntKind.i64.wrap (a0.tdiv a1)) - (1:Int)))
  else
   some (IntKind.i64.wrap (a0.tdiv a1)))
  fun v1 =>
 some v1
/-- printworks/num.Near -/
def num_Near (F:Nat) (a0:Int) (a1:Int):Option Int :=
 call (num_Quo F a0 a1) fun y1 =>
 call (lett ((decide ((IntKind.i64.wrap (a0 - (IntKind.i64.wrap (y1 * a1)))) ≥ (IntKind.i64.wrap (a1 - (IntKind.i64.wrap (a0 - (IntKind.i64.wrap (y1 * a1))))))))) fun z1 =>
  bif z1 then
   some (IntKind.i64.wrap (y1+(1:Int)))
  else
   some y1)
  fun v1 =>
 some v1
/-- printworks/num.Mul255 -/
def num_Mul255 (F:Nat) (a0:Int) (a1:Int):Option Int :=
 call (num_Near F (IntKind.i64.wrap ((IntKind.i64.wrap a0) * (IntKind.i64.wrap a1))) (255:Int)) fun y1 =>
 some (IntKind.u8.wrap y1)
/-- printworks/affine.within -/
def affine_within (F:Nat) (a0:Int) (a1:Int):Option Bool :=
 some (bif (decide (a0 ≥ (IntKind.i64.wrap (0 - a1)))) then (decide (a0≤a1)) else false)
def affine_Check_L0 (F:Nat) (a0:S_Matrix):Nat→Int→Option (Out Unit Int)
 | 0,_=>none
 | n+1,v1 =>
  bif (decide (v1 < (4:Int))) then
   chk (0≤v1∧v1 < 4) <|
   call (affine_within F ([a0.f0,a0.f1,a0.f2,a0.f3].getD v1.toNat 0) (1048576:Int)) fun y1 =>
   bif (!y1) then
    some (.esc (3:Int))
   else
    affine_Check_L0 F a0 n (IntKind.i64.wrap (v1+(1:Int)))
  else
   some (.go ())
/-- printworks/affine.Check -/
def affine_Check (F:Nat) (a0:S_Matrix):Option Int :=
 callE (affine_Check_L0 F a0 F (0:Int))
  (fun e=>some e) fun _ =>
 call (affine_within F a0.f4 (268435456:Int)) fun y2 =>
 call ((bif (((!y2) == false) && true) then affine_within F a0.f5 (268435456:Int) else some false)) fun y3 =>
 bif (bif (!y2) then true else (!y3)) then
  some (3:Int)
 else
  some (0:Int)
/-- printworks/image.sample -/
def image_sample (F:Nat) (a0:S_Image) (a1:Int) (a2:Int):Option (S_Inks×Int) :=
 callE (bif a0.f6 then
   call (num_Quo F a1 a0.f0) fun y1 =>
   call (num_Quo F a2 a0.f1) fun y2 =>
   some (.go (IntKind.i64.wrap (a1 - (IntKind.i64.wrap (y1 * a0.f0))),IntKind.i64.wrap (a2 - (IntKind.i64.wrap (y2 * a0.f1)))))
  else
   lett ((bif (bif (decide (a1 < (0:Int))) then true else (decide (a2 < (0:Int)))) then true else (decide (a1 ≥ a0.f0)))) fun z1 =>
   bif (bif z1 then true else (decide (a2 ≥ a0.f1))) then
    some (.esc ((S_Inks.mk 0 0 0 0 0 0 0 0),(0:Int)))
   else
    some (.go (a1,a2)))
  (fun e=>some e) fun (v1,v2) =>
 bif ((a0.f3.length:Int) == (0:Int)) then
  chk (0≤(IntKind.i64.wrap ((IntKind.i64.wrap (v2 * a0.f0))+v1))∧(IntKind.i64.wrap ((IntKind.i64.wrap (v2 * a0.f0))+v1)) < a0.f2.length) <|
  some ((S_Inks.mk ((a0.f2.getD (IntKind.i64.wrap ((IntKind.i64.wrap (v2 * a0.f0))+v1)).toNat (S_Inks.mk 0 0 0 0 0 0 0 0)).f0) ((a0.f2.getD (IntKind.i64.wrap ((IntKind.i64.wrap (v2 * a0.f0))+v1)).toNat (S_Inks.mk 0 0 0 0 0 0 0 0)).f1) ((a0.f2.getD (IntKind.i64.wrap ((IntKind.i64.wrap (v2 * a0.f0))+v1)).toNat (S_Inks.mk 0 0 0 0 0 0 0 0)).f2) ((a0.f2.getD (IntKind.i64.wrap ((IntKind.i64.wrap (v2 * a0.f0))+v1)).toNat (S_Inks.mk 0 0 0 0 0 0 0 0)).f3) ((a0.f2.getD (IntKind.i64.wrap ((IntKind.i64.wrap (v2 * a0.f0))+v1)).toNat (S_Inks.mk 0 0 0 0 0 0 0 0)).f4) ((a0.f2.getD (IntKind.i64.wrap ((IntKind.i64.wrap (v2 * a0.f0))+v1)).toNat (S_Inks.mk 0 0 0 0 0 0 0 0)).f5) ((a0.f2.getD (IntKind.i64.wrap ((IntKind.i64.wrap (v2 * a0.f0))+v1)).toNat (S_Inks.mk 0 0 0 0 0 0 0 0)).f6) ((a0.f2.getD (IntKind.i64.wrap ((IntKind.i64.wrap (v2 * a0.f0))+v1)).toNat (S_Inks.mk 0 0 0 0 0 0 0 0)).f7)),(255:Int))
 else
  chk (0≤(IntKind.i64.wrap ((IntKind.i64.wrap (v2 * a0.f0))+v1))∧(IntKind.i64.wrap ((IntKind.i64.wrap (v2 * a0.f0))+v1)) < a0.f2.length) <|
  chk (0≤(IntKind.i64.wrap ((IntKind.i64.wrap (v2 * a0.f0))+v1))∧(IntKind.i64.wrap ((IntKind.i64.wrap (v2 * a0.f0))+v1)) < a0.f3.length) <|
  some ((S_Inks.mk ((a0.f2.getD (IntKind.i64.wrap ((IntKind.i64.wrap (v2 * a0.f0))+v1)).toNat (S_Inks.mk 0 0 0 0 0 0 0 0)).f0) ((a0.f2.getD (IntKind.i64.wrap ((IntKind.i64.wrap (v2 * a0.f0))+v1)).toNat (S_Inks.mk 0 0 0 0 0 0 0 0)).f1) ((a0.f2.getD (IntKind.i64.wrap ((IntKind.i64.wrap (v2 * a0.f0))+v1)).toNat (S_Inks.mk 0 0 0 0 0 0 0 0)).f2) ((a0.f2.getD (IntKind.i64.wrap ((IntKind.i64.wrap (v2 * a0.f0))+v1)).toNat (S_Inks.mk 0 0 0 0 0 0 0 0)).f3) ((a0.f2.getD (IntKind.i64.wrap ((IntKind.i64.wrap (v2 * a0.f0))+v1)).toNat (S_Inks.mk 0 0 0 0 0 0 0 0)).f4) ((a0.f2.getD (IntKind.i64.wrap ((IntKind.i64.wrap (v2 * a0.f0))+v1)).toNat (S_Inks.mk 0 0 0 0 0 0 0 0)).f5) ((a0.f2.getD (IntKind.i64.wrap ((IntKind.i64.wrap (v2 * a0.f0))+v1)).toNat (S_Inks.mk 0 0 0 0 0 0 0 0)).f6) ((a0.f2.getD (IntKind.i64.wrap ((IntKind.i64.wrap (v2 * a0.f0))+v1)).toNat (S_Inks.mk 0 0 0 0 0 0 0 0)).f7)),((a0.f3.getD (IntKind.i64.wrap ((IntKind.i64.wrap (v2 * a0.f0))+v1)).toNat 0).toNat:Int))
/-- math/bits.Len32 -/
def math_bits_Len32 (F:Nat) (a0:Int):Option Int :=
 call (bif (decide (a0 ≥ (65536:Int))) then
   some ((a0.fdiv (2 ^ (min (16:Int).toNat IntKind.u32.bits))),(16:Int))
  else
   some (a0,(0:Int)))
  fun (v1,v2) =>
 call (bif (decide (v1 ≥ (256:Int))) then
   some ((v1.fdiv (2 ^ (min (8:Int).toNat IntKind.u32.bits))),IntKind.i64.wrap (v2+(8:Int)))
  else
   some (v1,v2))
  fun (v3,v4) =>
 chk (0≤(IntKind.u8.wrap v3)∧(IntKind.u8.wrap v3) < ([0,1,2,2,3,3,3,3,4,4,4,4,4,4,4,4,5,5,5,5,5,5,5,5,5,5,5,5,5,5,5,5,6,6,6,6,6,6,6,6,6,6,6,6,6,6,6,6,6,6,6,6,6,6,6,6,6,6,6,6,6,6,6,6,7,7,7,7,7,7,7,7,7,7,7,7,7,7,7,7,7,7,7,7,7,7,7,7,7,7,7,7,7,7,7,7,7,7,7,7,7,7,7,7,7,7,7,7,7,7,7,7,7,7,7,7,7,7,7,7,7,7,7,7,7,7,7,7,8,8,8,8,8,8,8,8,8,8,8,8,8,8,8,8,8,8,8,8,8,8,8,8,8,8,8,8,8,8,8,8,8,8,8,8,8,8,8,8,8,8,8,8,8,8,8,8,8,8,8,8,8,8,8,8,8,8,8,8,8,8,8,8,8,8,8,8,8,8,8,8,8,8,8,8,8,8,8,8,8,8,8,8,8,8,8,8,8,8,8,8,8,8,8,8,8,8,8,8,8,8,8,8,8,8,8,8,8,8,8,8,8,8,8,8,8,8,8,8,8,8,8,8,8,8,8,8]:List UInt8).length) <|
 lett (((([0,1,2,2,3,3,3,3,4,4,4,4,4,4,4,4,5,5,5,5,5,5,5,5,5,5,5,5,5,5,5,5,6,6,6,6,6,6,6,6,6,6,6,6,6,6,6,6,6,6,6,6,6,6,6,6,6,6,6,6,6,6,6,6,7,7,7,7,7,7,7,7,7,7,7,7,7,7,7,7,7,7,7,7,7,7,7,7,7,7,7,7,7,7,7,7,7,7,7,7,7,7,7,7,7,7,7,7,7,7,7,7,7,7,7,7,7,7,7,7,7,7,7,7,7,7,7,7,8,8,8,8,8,8,8,8,8,8,8,8,8,8,8,8,8,8,8,8,8,8,8,8,8,8,8,8,8,8,8,8,8,8,8,8,8,8,8,8,8,8,8,8,8,8,8,8,8,8,8,8,8,8,8,8,8,8,8,8,8,8,8,8,8,8,8,8,8,8,8,8,8,8,8,8,8,8,8,8,8,8,8,8,8,8,8,8,8,8,8,8,8,8,8,8,8,8,8,8,8,8,8,8,8,8,8,8,8,8,8,8,8,8,8,8,8,8,8,8,8,8,8,8,8,8,8,8]:List UInt8).getD (IntKind.u8.wrap v3).toNat 0).toNat:Int)) fun z1 =>
 some (IntKind.i64.wrap (v4+(IntKind.i64.wrap z1)))
/-- math/bits.Len64 -/
def math_bits_Len64 (F:Nat) (a0:Int):Option Int :=
 call (bif (decide (a0 ≥ (4294967296:Int))) then
   some ((a0.fdiv (2 ^ (min (32:Int).toNat IntKind.u64.bits))),(32:Int))
  else
   some (a0,(0:Int)))
  fun (v1,v2) =>
 call (bif (decide (v1 ≥ (65536:Int))) then
   some ((v1.fdiv (2 ^ (min (16:Int).toNat IntKind.u64.bits))),IntKind.i64.wrap (v2+(16:Int)))
  else
   some (v1,v2))
  fun (v3,v4) =>
 call (bif (decide (v3 ≥ (256:Int))) then
   some ((v3.fdiv (2 ^ (min (8:Int).toNat IntKind.u64.bits))),IntKind.i64.wrap (v4+(8:Int)))
  else
   some (v3,v4))
  fun (v5,v6) =>
 chk (0≤(IntKind.u8.wrap v5)∧(IntKind.u8.wrap v5) < ([0,1,2,2,3,3,3,3,4,4,4,4,4,4,4,4,5,5,5,5,5,5,5,5,5,5,5,5,5,5,5,5,6,6,6,6,6,6,6,6,6,6,6,6,6,6,6,6,6,6,6,6,6,6,6,6,6,6,6,6,6,6,6,6,7,7,7,7,7,7,7,7,7,7,7,7,7,7,7,7,7,7,7,7,7,7,7,7,7,7,7,7,7,7,7,7,7,7,7,7,7,7,7,7,7,7,7,7,7,7,7,7,7,7,7,7,7,7,7,7,7,7,7,7,7,7,7,7,8,8,8,8,8,8,8,8,8,8,8,8,8,8,8,8,8,8,8,8,8,8,8,8,8,8,8,8,8,8,8,8,8,8,8,8,8,8,8,8,8,8,8,8,8,8,8,8,8,8,8,8,8,8,8,8,8,8,8,8,8,8,8,8,8,8,8,8,8,8,8,8,8,8,8,8,8,8,8,8,8,8,8,8,8,8,8,8,8,8,8,8,8,8,8,8,8,8,8,8,8,8,8,8,8,8,8,8,8,8,8,8,8,8,8,8,8,8,8,8,8,8,8,8,8,8,8,8]:List UInt8).length) <|
 lett (((([0,1,2,2,3,3,3,3,4,4,4,4,4,4,4,4,5,5,5,5,5,5,5,5,5,5,5,5,5,5,5,5,6,6,6,6,6,6,6,6,6,6,6,6,6,6,6,6,6,6,6,6,6,6,6,6,6,6,6,6,6,6,6,6,7,7,7,7,7,7,7,7,7,7,7,7,7,7,7,7,7,7,7,7,7,7,7,7,7,7,7,7,7,7,7,7,7,7,7,7,7,7,7,7,7,7,7,7,7,7,7,7,7,7,7,7,7,7,7,7,7,7,7,7,7,7,7,7,8,8,8,8,8,8,8,8,8,8,8,8,8,8,8,8,8,8,8,8,8,8,8,8,8,8,8,8,8,8,8,8,8,8,8,8,8,8,8,8,8,8,8,8,8,8,8,8,8,8,8,8,8,8,8,8,8,8,8,8,8,8,8,8,8,8,8,8,8,8,8,8,8,8,8,8,8,8,8,8,8,8,8,8,8,8,8,8,8,8,8,8,8,8,8,8,8,8,8,8,8,8,8,8,8,8,8,8,8,8,8,8,8,8,8,8,8,8,8,8,8,8,8,8,8,8,8,8]:List UInt8).getD (IntKind.u8.wrap v5).toNat 0).toNat:Int)) fun z1 =>
 some (IntKind.i64.wrap (v6+(IntKind.i64.wrap z1)))
/-- math/bits.Len -/
def math_bits_Len (F:Nat) (a0:Int):Option Int :=
 bif false then
  call (math_bits_Len32 F (IntKind.u32.wrap a0)) fun y1 =>
  some y1
 else
  call (math_bits_Len64 F a0) fun y2 =>
  some y2
def num_Sqrt_L0 (F:Nat) (a0:Int):Nat→Int→Option (Out Empty Int)
 | 0,_=>none
 | n+1,v1 =>
  chk (v1≠0) <|
  lett ((decide ((IntKind.i64.wrap ((IntKind.i64.wrap (v1+(IntKind.i64.wrap (a0.tdiv v1)))).tdiv (2:Int))) ≥ v1))) fun z1 =>
  bif z1 then
   some (.esc v1)
  else
   num_Sqrt_L0 F a0 n (IntKind.i64.wrap ((IntKind.i64.wrap (v1+(IntKind.i64.wrap (a0.tdiv v1)))).tdiv (2:Int)))
/-- printworks/num.Sqrt -/
def num_Sqrt (F:Nat) (a0:Int):Option Int :=
 bif (decide (a0 < (2:Int))) then
  some a0
 else
  call (math_bits_Len F (IntKind.u64.wrap a0)) fun y1 =>
  chk (0≤(IntKind.i64.wrap ((IntKind.i64.wrap (y1+(1:Int))).tdiv (2:Int)))) <|
  lett (IntKind.i64.wrap ((1:Int) * 2 ^ (min (IntKind.i64.wrap ((IntKind.i64.wrap (y1+(1:Int))).tdiv (2:Int))).toNat IntKind.i64.bits))) fun z2 =>
  callE (num_Sqrt_L0 F a0 F z2)
   (fun e=>some e) fun (s:Empty) =>
  s.elim
/-- printworks/gradient.place -/
def gradient_place (F:Nat) (a0:S_Source) (a1:Int) (a2:Int):Option Int :=
 lett (IntKind.i64.wrap ((IntKind.i64.wrap ((IntKind.i64.wrap ((2:Int) * a1))+(1:Int))) - (IntKind.i64.wrap ((2:Int) * a0.f2.f0)))) fun z1 =>
 lett (IntKind.i64.wrap ((IntKind.i64.wrap ((IntKind.i64.wrap ((2:Int) * a2))+(1:Int))) - (IntKind.i64.wrap ((2:Int) * a0.f2.f1)))) fun z2 =>
 call (bif (a0.f0 == (1:Int)) then
   lett (IntKind.i64.wrap ((IntKind.i64.wrap ((IntKind.i64.wrap (a0.f3.f0 - a0.f2.f0)) * z1))+(IntKind.i64.wrap ((IntKind.i64.wrap (a0.f3.f1 - a0.f2.f1)) * z2)))) fun z3 =>
   lett (IntKind.i64.wrap ((IntKind.i64.wrap (a0.f3.f0 - a0.f2.f0)) * (IntKind.i64.wrap (a0.f3.f0 - a0.f2.f0)))) fun z4 =>
   lett (IntKind.i64.wrap ((IntKind.i64.wrap (a0.f3.f1 - a0.f2.f1)) * (IntKind.i64.wrap (a0.f3.f1 - a0.f2.f1)))) fun z5 =>
   call (num_Quo F (IntKind.i64.wrap ((65536:Int) * z3)) (IntKind.i64.wrap ((2:Int) * (IntKind.i64.wrap (z4+z5))))) fun y1 =>
   some y1
  else
   call (num_Sqrt F (IntKind.i64.wrap ((IntKind.i64.wrap (z1 * z1))+(IntKind.i64.wrap (z2 * z2))))) fun y2 =>
   chk ((IntKind.i64.wrap ((2:Int) * a0.f4))≠0) <|
   lett (IntKind.i64.wrap ((IntKind.i64.wrap ((65536:Int) * y2)).tdiv (IntKind.i64.wrap ((2:Int) * a0.f4)))) fun z6 =>
   some z6)
  fun v1 =>
 lett ((if (0:Int) < (if v1 < (65536:Int) then v1 else (65536:Int)) then (if v1 < (65536:Int) then v1 else (65536:Int)) else (0:Int))) fun z7 =>
 some z7
/-- printworks/blend.modes$1 -/
def blend_modes_c1 (F:Nat) (a0:Int) (a1:Int):Option Int :=
 some a1
/-- printworks/blend.mul -/
def blend_mul (F:Nat) (a0:Int) (a1:Int):Option Int :=
 call (num_Mul255 F (IntKind.u8.wrap a0) (IntKind.u8.wrap a1)) fun y1 =>
 some (IntKind.i64.wrap y1)
/-- printworks/blend.modes$2 -/
def blend_modes_c2 (F:Nat) (a0:Int) (a1:Int):Option Int :=
 call (blend_mul F (IntKind.i64.wrap ((255:Int) - a0)) (IntKind.i64.wrap ((255:Int) - a1))) fun y1 =>
 some (IntKind.i64.wrap ((255:Int) - y1))
/-- printworks/blend.hard -/
def blend_hard (F:Nat) (a0:Int) (a1:Int):Option Int :=
 bif (decide (a1≤(127:Int))) then
  call (blend_mul F a0 (IntKind.i64.wrap ((2:Int) * a1))) fun y1 =>
  some y1
 else
  call (blend_mul F (IntKind.i64.wrap ((255:Int) - a0)) (IntKind.i64.wrap ((2:Int) * (IntKind.i64.wrap ((255:Int) - a1))))) fun y2 =>
  some (IntKind.i64.wrap ((255:Int) - y2))
/-- printworks/blend.modes$3 -/
def blend_modes_c3 (F:Nat) (a0:Int) (a1:Int):Option Int :=
 call (blend_hard F a1 a0) fun y1 =>
 some y1
/-- printworks/blend.modes$4 -/
def blend_modes_c4 (F:Nat) (a0:Int) (a1:Int):Option Int :=
 some (if a1 < a0 then a1 else a0)
/-- printworks/blend.modes$5 -/
def blend_modes_c5 (F:Nat) (a0:Int) (a1:Int):Option Int :=
 some (if a0 < a1 then a1 else a0)
/-- printworks/blend.dodge -/
def blend_dodge (F:Nat) (a0:Int) (a1:Int):Option Int :=
 bif (a0 == (0:Int)) then
  some (0:Int)
 else
  bif (decide (a0 ≥ (IntKind.i64.wrap ((255:Int) - a1)))) then
   some (255:Int)
  else
   call (num_Near F (IntKind.i64.wrap ((255:Int) * a0)) (IntKind.i64.wrap ((255:Int) - a1))) fun y1 =>
   some y1
/-- printworks/blend.burn -/
def blend_burn (F:Nat) (a0:Int) (a1:Int):Option Int :=
 bif (a0 == (255:Int)) then
  some (255:Int)
 else
  bif (decide ((IntKind.i64.wrap ((255:Int) - a0)) ≥ a1)) then
   some (0:Int)
  else
   call (num_Near F (IntKind.i64.wrap ((255:Int) * (IntKind.i64.wrap ((255:Int) - a0)))) a1) fun y1 =>
   some (IntKind.i64.wrap ((255:Int) - y1))
/-- printworks/blend.modes$6 -/
def blend_modes_c6 (F:Nat) (a0:Int) (a1:Int):Option Int :=
 lett (IntKind.i64.wrap ((IntKind.i64.wrap ((IntKind.i64.wrap ((255:Int) - (IntKind.i64.wrap ((2:Int) * a1)))) * a0)) * a0)) fun z1 =>
 call (num_Near F (IntKind.i64.wrap (z1+(IntKind.i64.wrap ((IntKind.i64.wrap ((510:Int) * a1)) * a0)))) (65025:Int)) fun y1 =>
 some y1
/-- printworks/blend.modes$7 -/
def blend_modes_c7 (F:Nat) (a0:Int) (a1:Int):Option Int :=
 lett ((if (IntKind.i64.wrap (a0 - a1)) < (IntKind.i64.wrap (a1 - a0)) then (IntKind.i64.wrap (a1 - a0)) else (IntKind.i64.wrap (a0 - a1)))) fun z1 =>
 some z1
/-- printworks/blend.modes$8 -/
def blend_modes_c8 (F:Nat) (a0:Int) (a1:Int):Option Int :=
 call (num_Near F (IntKind.i64.wrap ((IntKind.i64.wrap ((2:Int) * a0)) * a1)) (255:Int)) fun y1 =>
 some (IntKind.i64.wrap ((IntKind.i64.wrap (a0+a1)) - y1))
/-- printworks/region.border -/
def region_border (F:Nat) (a0:Int):Option Bool :=
 some (bif (decide (a0 ≥ (-8192:Int))) then (decide (a0≤(8192:Int))) else false)
/-- (*printworks/region.Builder).Add -/
def region_Builder_Add (F:Nat) (a0:Int) (a1:Int) (a2:Int) (c3:List S_Run):Option ((List S_Run)) :=
 bif (decide (a1 ≥ a2)) then
  some c3
 else
  chk ((((decide ((IntKind.i64.wrap ((c3.length:Int) - (1:Int))) ≥ (0:Int))) == true) && true)=true→0≤(IntKind.i64.wrap ((c3.length:Int) - (1:Int)))∧(IntKind.i64.wrap ((c3.length:Int) - (1:Int))) < c3.length) <|
  lett ((bif (decide ((IntKind.i64.wrap ((c3.length:Int) - (1:Int))) ≥ (0:Int))) then (((c3.getD (IntKind.i64.wrap ((c3.length:Int) - (1:Int))).toNat (S_Run.mk 0 0 0)).f0) == a0) else false)) fun z1 =>
  chk (((z1 == true) && true)=true→0≤(IntKind.i64.wrap ((c3.length:Int) - (1:Int)))∧(IntKind.i64.wrap ((c3.length:Int) - (1:Int))) < c3.length) <|
  lett ((decide (a1≤((c3.getD (IntKind.i64.wrap ((c3.length:Int) - (1:Int))).toNat (S_Run.mk 0 0 0)).f2)))) fun z2 =>
  bif (bif z1 then z2 else false) then
   chk (0≤(IntKind.i64.wrap ((c3.length:Int) - (1:Int)))∧(IntKind.i64.wrap ((c3.length:Int) - (1:Int))) < c3.length) <|
   lett ((if ((c3.getD (IntKind.i64.wrap ((c3.length:Int) - (1:Int))).toNat (S_Run.mk 0 0 0)).f2) < a2 then a2 else ((c3.getD (IntKind.i64.wrap ((c3.length:Int) - (1:Int))).toNat (S_Run.mk 0 0 0)).f2))) fun z3 =>
   chk (0≤(IntKind.i64.wrap ((c3.length:Int) - (1:Int)))∧(IntKind.i64.wrap ((c3.length:Int) - (1:Int))) < c3.length) <|
   some (c3.set (IntKind.i64.wrap ((c3.length:Int) - (1:Int))).toNat (S_Run.mk ((c3.getD (IntKind.i64.wrap ((c3.length:Int) - (1:Int))).toNat (S_Run.mk 0 0 0)).f0) ((c3.getD (IntKind.i64.wrap ((c3.length:Int) - (1:Int))).toNat (S_Run.mk 0 0 0)).f1) z3))
  else
   chk (c3.length+([(S_Run.mk a0 a1 a2)]).length≤4294967296) <|
   some (c3++([(S_Run.mk a0 a1 a2)]))
def region_Rectangle_L0 (F:Nat) (a0:Int) (a2:Int) (a3:Int):Nat→(List S_Run)→Int→Option ((List S_Run))
 | 0,_,_=>none
 | n+1,v1,v2 =>
  bif (decide (v2 < a3)) then
   call (region_Builder_Add F v2 a0 a2 v1) fun y1 =>
   region_Rectangle_L0 F a0 a2 a3 n y1 (IntKind.i64.wrap (v2+(1:Int)))
  else
   some v1
/-- printworks/region.Rectangle -/
def region_Rectangle (F:Nat) (a0:Int) (a1:Int) (a2:Int) (a3:Int):Option ((List S_Run)×Int) :=
 call (region_border F a0) fun y2 =>
 call ((bif (((!y2) == false) && true) then region_border F a1 else some false)) fun y3 =>
 call ((bif (((bif (!y2) then true else (!y3)) == false) && true) then region_border F a2 else some false)) fun y4 =>
 call ((bif (((bif (bif (!y2) then true else (!y3)) then true else (!y4)) == false) && true) then region_border F a3 else some false)) fun y5 =>
 bif (bif (bif (bif (!y2) then true else (!y3)) then true else (!y4)) then true else (!y5)) then
  some ([],(3:Int))
 else
  bif (bif (decide (a0 > a2)) then true else (decide (a1 > a3))) then
   some ([],(18:Int))
  else
   call (region_Rectangle_L0 F a0 a2 a3 F [] a1)
    fun v3 =>
   some (v3,(0:Int))
/-- printworks/printworkstop.aPage -/
def top_aPage (F:Nat) (a0:Int) (a1:Int):Option ((List S_Run)) :=
 call (region_Rectangle F (0:Int) (0:Int) (IntKind.i64.wrap ((16:Int) * a0)) (IntKind.i64.wrap ((16:Int) * a1))) fun y1 =>
 some y1.1
/-- printworks/printworkstop.aPlain -/
def top_aPlain (F:Nat) (a0:Int) (a1:Int) (a2:S_Inks):Option S_List :=
 call (top_aPage F a0 a1) fun y1 =>
 some (S_List.mk a0 a1 ([([97]:List UInt8),([98]:List UInt8),([99]:List UInt8),([100]:List UInt8),([101]:List UInt8),([102]:List UInt8),([103]:List UInt8),([104]:List UInt8)]) ([(S_Item.mk 0 y1 (S_Source.mk 0 a2 (S_Point.mk 0 0) (S_Point.mk 0 0) 0 [] (S_Image.mk 0 0 [] [] (S_Matrix.mk 0 0 0 0 0 0) false false)) (255:Int) 0 false false false)]))
/-- printworks/printworkstop.aCut -/
def top_aCut (F:Nat) (a0:Int) (a1:Int) (a2:Int):Option Int :=
 chk ((IntKind.i64.wrap ((IntKind.i64.wrap (a2 - a1))+(1:Int)))≠0) <|
 lett (IntKind.i64.wrap ((a0.tmod (IntKind.i64.wrap ((IntKind.i64.wrap (a2 - a1))+(1:Int))))+(IntKind.i64.wrap ((IntKind.i64.wrap (a2 - a1))+(1:Int))))) fun z1 =>
 chk ((IntKind.i64.wrap ((IntKind.i64.wrap (a2 - a1))+(1:Int)))≠0) <|
 some (IntKind.i64.wrap (a1+(z1.tmod (IntKind.i64.wrap ((IntKind.i64.wrap (a2 - a1))+(1:Int))))))
/-- printworks/printworkstop.aTiny -/
def top_aTiny (F:Nat) (a0:S_List):Option S_List :=
 call (top_aCut F a0.f0 (1:Int) (2:Int)) fun y1 =>
 call (top_aCut F a0.f1 (1:Int) (2:Int)) fun y2 =>
 call (bif (decide ((a0.f3.length:Int) > (12:Int))) then
   chk (0≤(0:Int)∧(0:Int)≤(12:Int)∧(12:Int)≤(a0.f3.length:Int)) <|
   some ((a0.f3.drop (0:Int).toNat).take ((12:Int).toNat - (0:Int).toNat))
  else
   some a0.f3)
  fun v1 =>
 some (S_List.mk y1 y2 a0.f2 v1)
def list_IsName_L0 (F:Nat) (a0:List UInt8):Nat→Int→Option (Out Unit Bool)
 | 0,_=>none
 | n+1,v1 =>
  bif (decide (v1 < (a0.length:Int))) then
   chk (0≤v1∧v1 < a0.length) <|
   lett ((bif (decide (((a0.getD v1.toNat 0).toNat:Int) ≥ (97:Int))) then (decide (((a0.getD v1.toNat 0).toNat:Int)≤(122:Int))) else false)) fun z1 =>
   lett ((bif (decide (((a0.getD v1.toNat 0).toNat:Int) < (48:Int))) then true else (decide (((a0.getD v1.toNat 0).toNat:Int) > (57:Int))))) fun z2 =>
   lett ((bif (v1 == (0:Int)) then true else (bif (((a0.getD v1.toNat 0).toNat:Int) != (45:Int)) then z2 else false))) fun z3 =>
   bif (bif (!z1) then z3 else false) then
    some (.esc false)
   else
    list_IsName_L0 F a0 n (IntKind.i64.wrap (v1+(1:Int)))
  else
   some (.go ())
/-- printworks/list.IsName -/
def list_IsName (F:Nat) (a0:List UInt8):Option Bool :=
 lett ((bif (decide ((a0.length:Int) < (1:Int))) then true else (decide ((a0.length:Int) > (16:Int))))) fun z4 =>
 bif z4 then
  some false
 else
  callE (list_IsName_L0 F a0 F (0:Int))
   (fun e=>some e) fun _ =>
  some true
def slices_Index_string_L0 (F:Nat) (a0:List (List UInt8)) (a1:List UInt8):Nat→Int→Option (Out Unit Int)
 | 0,_=>none
 | n+1,v1 =>
  bif (decide (v1 < (a0.length:Int))) then
   chk (0≤v1∧v1 < a0.length) <|
   bif (a1 == (a0.getD v1.toNat [])) then
    some (.esc v1)
   else
    slices_Index_string_L0 F a0 a1 n (IntKind.i64.wrap (v1+(1:Int)))
  else
   some (.go ())
/-- slices.Index[[]string,string] -/
def slices_Index_string (F:Nat) (a0:List (List UInt8)) (a1:List UInt8):Option Int :=
 callE (slices_Index_string_L0 F a0 a1 F (0:Int))
  (fun e=>some e) fun _ =>
 some (-1:Int)
/-- slices.Contains[[]string,string] -/
def slices_Contains_string (F:Nat) (a0:List (List UInt8)) (a1:List UInt8):Option Bool :=
 call (slices_Index_string F a0 a1) fun y1 =>
 some (decide (y1 ≥ (0:Int)))
/-- printworks/list.isZero -/
def list_isZero (F:Nat) (a0:S_Source):Option Bool :=
 lett ((bif (a0.f2.f0 == 0 && (a0.f2.f1 == 0 && true)) then (a0.f3.f0 == 0 && (a0.f3.f1 == 0 && true)) else false)) fun z1 =>
 lett ((bif (bif z1 then (a0.f4 == (0:Int)) else false) then ((a0.f5.length:Int) == (0:Int)) else false)) fun z2 =>
 some z2
/-- printworks/list.noImage -/
def list_noImage (F:Nat) (a0:S_Image):Option Bool :=
 lett ((bif (bif (a0.f0 == (0:Int)) then (a0.f1 == (0:Int)) else false) then ((a0.f2.length:Int) == (0:Int)) else false)) fun z1 =>
 lett ((a0.f4.f0 == 0 && (a0.f4.f1 == 0 && (a0.f4.f2 == 0 && (a0.f4.f3 == 0 && (a0.f4.f4 == 0 && (a0.f4.f5 == 0 && true))))))) fun z2 =>
 lett ((bif (bif (bif z1 then ((a0.f3.length:Int) == (0:Int)) else false) then z2 else false) then (!a0.f5) else false)) fun z3 =>
 some (bif z3 then (!a0.f6) else false)
/-- printworks/list.noSource -/
def list_noSource (F:Nat) (a0:S_Source):Option Bool :=
 lett ((a0.f1.f0 == 0 && (a0.f1.f1 == 0 && (a0.f1.f2 == 0 && (a0.f1.f3 == 0 && (a0.f1.f4 == 0 && (a0.f1.f5 == 0 && (a0.f1.f6 == 0 && (a0.f1.f7 == 0 && true))))))))) fun z1 =>
 call ((bif (((bif (a0.f0 == (0:Int)) then z1 else false) == true) && true) then list_isZero F a0 else some false)) fun y1 =>
 call ((bif (((bif (bif (a0.f0 == (0:Int)) then z1 else false) then y1 else false) == true) && true) then list_noImage F a0.f6 else some false)) fun y2 =>
 some (bif (bif (bif (a0.f0 == (0:Int)) then z1 else false) then y1 else false) then y2 else false)
/-- printworks/region.permitted -/
def region_permitted (F:Nat) (a0:Int):Option Bool :=
 some (bif (decide (a0 ≥ (-8192:Int))) then (decide (a0 < (8192:Int))) else false)
def region_Check_L0 (F:Nat) (a0:List S_Run):Nat→Int→Option (Out Unit Int)
 | 0,_=>none
 | n+1,v1 =>
  bif (decide (v1 < (a0.length:Int))) then
   chk (0≤v1∧v1 < a0.length) <|
   call (region_permitted F ((a0.getD v1.toNat (S_Run.mk 0 0 0)).f0)) fun y1 =>
   call ((bif (((!y1) == false) && true) then region_border F ((a0.getD v1.toNat (S_Run.mk 0 0 0)).f1) else some false)) fun y2 =>
   call ((bif (((bif (!y1) then true else (!y2)) == false) && true) then region_border F ((a0.getD v1.toNat (S_Run.mk 0 0 0)).f2) else some false)) fun y3 =>
   bif (bif (bif (!y1) then true else (!y2)) then true else (!y3)) then
    some (.esc (3:Int))
   else
    bif (decide (((a0.getD v1.toNat (S_Run.mk 0 0 0)).f1) ≥ ((a0.getD v1.toNat (S_Run.mk 0 0 0)).f2))) then
     some (.esc (4:Int))
    else
     chk ((((decide (v1 > (0:Int))) == true) && true)=true→0≤(IntKind.i64.wrap (v1 - (1:Int)))∧(IntKind.i64.wrap (v1 - (1:Int))) < a0.length) <|
     lett ((decide (((a0.getD v1.toNat (S_Run.mk 0 0 0)).f0)≤((a0.getD (IntKind.i64.wrap (v1 - (1:Int))).toNat (S_Run.mk 0 0 0)).f0)))) fun z1 =>
     chk ((((bif (decide (v1 > (0:Int))) then z1 else false) == true) && true)=true→0≤(IntKind.i64.wrap (v1 - (1:Int)))∧(IntKind.i64.wrap (v1 - (1:Int))) < a0.length) <|
     lett ((decide (((a0.getD v1.toNat (S_Run.mk 0 0 0)).f0) < ((a0.getD (IntKind.i64.wrap (v1 - (1:Int))).toNat (S_Run.mk 0 0 0)).f0)))) fun z2 =>
     chk (((z2 == false) && (((bif (decide (v1 > (0:Int))) then z1 else false) == true) && true))=true→0≤(IntKind.i64.wrap (v1 - (1:Int)))∧(IntKind.i64.wrap (v1 - (1:Int))) < a0.length) <|
     lett ((decide (((a0.getD v1.toNat (S_Run.mk 0 0 0)).f1)≤((a0.getD (IntKind.i64.wrap (v1 - (1:Int))).toNat (S_Run.mk 0 0 0)).f2)))) fun z3 =>
     lett ((bif (bif (decide (v1 > (0:Int))) then z1 else false) then (bif z2 then true else z3) else false)) fun z4 =>
     bif z4 then
      some (.esc (18:Int))
     else
      region_Check_L0 F a0 n (IntKind.i64.wrap (v1+(1:Int)))
  else
   some (.go ())
/-- printworks/region.Check -/
def region_Check (F:Nat) (a0:List S_Run):Option Int :=
 callE (region_Check_L0 F a0 F (0:Int))
  (fun e=>some e) fun _ =>
 some (0:Int)
/-- printworks/list.few -/
def list_few (F:Nat) (a0:S_Inks) (a1:Int):Option (Bool) :=
 chk (0≤a1∧a1≤8) <|
 some (((inkL a0).drop a1.toNat).all (· == 0))
/-- printworks/gradient.plain -/
def gradient_plain (F:Nat) (a0:S_Image):Option Bool :=
 lett ((bif (bif (a0.f0 == (0:Int)) then (a0.f1 == (0:Int)) else false) then ((a0.f2.length:Int) == (0:Int)) else false)) fun z1 =>
 lett ((a0.f4.f0 == 0 && (a0.f4.f1 == 0 && (a0.f4.f2 == 0 && (a0.f4.f3 == 0 && (a0.f4.f4 == 0 && (a0.f4.f5 == 0 && true))))))) fun z2 =>
 lett ((bif (bif (bif z1 then ((a0.f3.length:Int) == (0:Int)) else false) then z2 else false) then (!a0.f5) else false)) fun z3 =>
 some (bif z3 then (!a0.f6) else false)
def gradient_within_L0 (F:Nat) (a0:List Int):Nat→Int→Option (Out Unit Bool)
 | 0,_=>none
 | n+1,v1 =>
  bif (decide (v1 < (a0.length:Int))) then
   chk (0≤v1∧v1 < a0.length) <|
   lett ((bif (decide ((a0.getD v1.toNat 0) < (-32767:Int))) then true else (decide ((a0.getD v1.toNat 0) > (32767:Int))))) fun z1 =>
   bif z1 then
    some (.esc false)
   else
    gradient_within_L0 F a0 n (IntKind.i64.wrap (v1+(1:Int)))
  else
   some (.go ())
/-- printworks/gradient.within -/
def gradient_within (F:Nat) (a0:List Int):Option Bool :=
 callE (gradient_within_L0 F a0 F (0:Int))
  (fun e=>some e) fun _ =>
 some true
def gradient_CheckStops_L0 (F:Nat) (a0:List S_Stop):Nat→Int→Option (Out Unit Int)
 | 0,_=>none
 | n+1,v1 =>
  bif (decide (v1 < (a0.length:Int))) then
   chk (0≤v1∧v1 < a0.length) <|
   lett ((bif (decide (((a0.getD v1.toNat (S_Stop.mk 0 (S_Inks.mk 0 0 0 0 0 0 0 0))).f0) < (0:Int))) then true else (decide (((a0.getD v1.toNat (S_Stop.mk 0 (S_Inks.mk 0 0 0 0 0 0 0 0))).f0) > (65536:Int))))) fun z1 =>
   bif z1 then
    some (.esc (3:Int))
   else
    chk ((((decide (v1 > (0:Int))) == true) && true)=true→0≤(IntKind.i64.wrap (v1 - (1:Int)))∧(IntKind.i64.wrap (v1 - (1:Int))) < a0.length) <|
    lett ((decide (((a0.getD v1.toNat (S_Stop.mk 0 (S_Inks.mk 0 0 0 0 0 0 0 0))).f0) < ((a0.getD (IntKind.i64.wrap (v1 - (1:Int))).toNat (S_Stop.mk 0 (S_Inks.mk 0 0 0 0 0 0 0 0))).f0)))) fun z2 =>
    bif (bif (decide (v1 > (0:Int))) then z2 else false) then
     some (.esc (18:Int))
    else
     gradient_CheckStops_L0 F a0 n (IntKind.i64.wrap (v1+(1:Int)))
  else
   some (.go ())
/-- printworks/gradient.CheckStops -/
def gradient_CheckStops (F:Nat) (a0:List S_Stop):Option Int :=
 lett ((bif (decide ((a0.length:Int) < (1:Int))) then true else (decide ((a0.length:Int) > (16:Int))))) fun z3 =>
 bif z3 then
  some (2:Int)
 else
  callE (gradient_CheckStops_L0 F a0 F (0:Int))
   (fun e=>some e) fun _ =>
  some (0:Int)
/-- printworks/gradient.Check -/
def gradient_Check (F:Nat) (a0:S_Source):Option Int :=
 bif (bif (!(a0.f0 == (1:Int))) then (a0.f0 != (2:Int)) else false) then
  some (14:Int)
 else
  lett ((!(a0.f1.f0 == 0 && (a0.f1.f1 == 0 && (a0.f1.f2 == 0 && (a0.f1.f3 == 0 && (a0.f1.f4 == 0 && (a0.f1.f5 == 0 && (a0.f1.f6 == 0 && (a0.f1.f7 == 0 && true)))))))))) fun z1 =>
  call ((bif ((z1 == false) && true) then gradient_plain F a0.f6 else some false)) fun y1 =>
  lett ((bif (bif z1 then true else (!y1)) then true else (bif (a0.f0 == (1:Int)) then (a0.f4 != (0:Int)) else false))) fun z2 =>
  lett ((bif z2 then true else (bif (!(a0.f0 == (1:Int))) then (!(a0.f3.f0 == 0 && (a0.f3.f1 == 0 && true))) else false))) fun z3 =>
  bif z3 then
   some (4:Int)
  else
   call (gradient_within F ([a0.f2.f0,a0.f2.f1,a0.f3.f0,a0.f3.f1])) fun y2 =>
   bif (!y2) then
    some (3:Int)
   else
    bif (bif (a0.f0 == (1:Int)) then (a0.f2.f0 == a0.f3.f0 && (a0.f2.f1 == a0.f3.f1 && true)) else false) then
     some (1:Int)
    else
     lett ((bif (!(a0.f0 == (1:Int))) then (bif (decide (a0.f4 < (1:Int))) then true else (decide (a0.f4 > (32767:Int)))) else false)) fun z4 =>
     bif z4 then
      some (3:Int)
     else
      call (gradient_CheckStops F a0.f5) fun y3 =>
      some y3
/-- The inverse of a map. -/
def invF (F:Nat) (m:S_Matrix):Option (S_Matrix×Int) :=
 call (affine_Check F m) fun e =>
 bif e != 0 then some (⟨0,0,0,0,0,0⟩,e) else
 lett (IntKind.i64.wrap (IntKind.i64.wrap (m.f0 * m.f3) - IntKind.i64.wrap (m.f1 * m.f2))) fun det =>
 bif det == 0 then some (⟨0,0,0,0,0,0⟩,8) else
 lett (bif decide (det < 0) then IntKind.i64.wrap (-det) else det) fun d =>
 lett (bif decide (det < 0) then (-1:Int) else 1) fun s =>
 call (num_Near F (IntKind.i64.wrap (s * IntKind.i64.wrap (16777216 * m.f3))) d) fun x0 =>
 call (num_Near F (IntKind.i64.wrap (s * IntKind.i64.wrap (-16777216 * m.f1))) d) fun x1 =>
 call (num_Near F (IntKind.i64.wrap (s * IntKind.i64.wrap (-16777216 * m.f2))) d) fun x2 =>
 call (num_Near F (IntKind.i64.wrap (s * IntKind.i64.wrap (16777216 * m.f0))) d) fun x3 =>
 call (num_Near F (IntKind.i64.wrap (s * IntKind.i64.wrap (4096 * IntKind.i64.wrap (IntKind.i64.wrap (m.f2 * m.f5) - IntKind.i64.wrap (m.f3 * m.f4))))) d) fun x4 =>
 call (num_Near F (IntKind.i64.wrap (s * IntKind.i64.wrap (4096 * IntKind.i64.wrap (IntKind.i64.wrap (m.f1 * m.f4) - IntKind.i64.wrap (m.f0 * m.f5))))) d) fun x5 =>
 call (affine_Check F ⟨x0,x1,x2,x3,x4,x5⟩) fun e2 =>
 bif e2 != 0 then some (⟨0,0,0,0,0,0⟩,10) else some (⟨x0,x1,x2,x3,x4,x5⟩,0)
/-- printworks/affine.Invert -/
def affine_Invert (F:Nat) (a0:S_Matrix):Option (S_Matrix×Int) :=
 invF F a0
/-- printworks/image.Check -/
def image_Check (F:Nat) (a0:S_Image):Option Int :=
 lett ((bif (bif (decide (a0.f0 < (1:Int))) then true else (decide (a0.f0 > (256:Int)))) then true else (decide (a0.f1 < (1:Int))))) fun z1 =>
 bif (bif z1 then true else (decide (a0.f1 > (256:Int)))) then
  some (3:Int)
 else
  lett ((bif ((a0.f3.length:Int) != (0:Int)) then ((a0.f3.length:Int) != (IntKind.i64.wrap (a0.f0 * a0.f1))) else false)) fun z2 =>
  bif (bif ((a0.f2.length:Int) != (IntKind.i64.wrap (a0.f0 * a0.f1))) then true else z2) then
   some (4:Int)
  else
   call (affine_Invert F a0.f4) fun y1 =>
   some y1.2
def list_CheckSource_L1 (F:Nat) (a0:S_Source) (a1:Int):Nat→Bool→Int→Option Bool
 | 0,_,_=>none
 | n+1,v1,v2 =>
  bif (decide (v2 < (a0.f5.length:Int))) then
   chk (0≤v2∧v2 < a0.f5.length) <|
   call ((bif ((v1 == true) && true) then list_few F ((a0.f5.getD v2.toNat (S_Stop.mk 0 (S_Inks.mk 0 0 0 0 0 0 0 0))).f1) a1 else some false)) fun y1 =>
   list_CheckSource_L1 F a0 a1 n (bif v1 then y1 else false) (IntKind.i64.wrap (v2+(1:Int)))
  else
   some v1
def list_CheckSource_L3 (F:Nat) (a0:S_Source) (a1:Int):Nat→Bool→Int→Option Bool
 | 0,_,_=>none
 | n+1,v3,v4 =>
  bif (decide (v4 < (a0.f6.f2.length:Int))) then
   chk (0≤v4∧v4 < a0.f6.f2.length) <|
   call ((bif ((v3 == true) && true) then list_few F (a0.f6.f2.getD v4.toNat (S_Inks.mk 0 0 0 0 0 0 0 0)) a1 else some false)) fun y2 =>
   list_CheckSource_L3 F a0 a1 n (bif v3 then y2 else false) (IntKind.i64.wrap (v4+(1:Int)))
  else
   some v3
/-- printworks/list.CheckSource -/
def list_CheckSource (F:Nat) (a0:S_Source) (a1:Int):Option Int :=
 callE (bif (a0.f0 == (0:Int)) then
   call (list_isZero F a0) fun y3 =>
   call ((bif (((!y3) == false) && true) then list_noImage F a0.f6 else some false)) fun y4 =>
   bif (bif (!y3) then true else (!y4)) then
    some (.esc (4:Int))
   else
    call (list_few F a0.f1 a1) fun y5 =>
    some (.go y5)
  else
   call (bif (a0.f0 == (1:Int)) then
     some (a0.f0 == (1:Int))
    else
     some (a0.f0 == (2:Int)))
    fun v5 =>
   bif v5 then
    call (gradient_Check F a0) fun y6 =>
    bif (y6 != (0:Int)) then
     some (.esc y6)
    else
     call (list_CheckSource_L1 F a0 a1 F true (0:Int))
      fun v6 =>
     some (.go v6)
   else
    bif (a0.f0 == (3:Int)) then
     call (list_isZero F a0) fun y7 =>
     lett ((!(a0.f1.f0 == 0 && (a0.f1.f1 == 0 && (a0.f1.f2 == 0 && (a0.f1.f3 == 0 && (a0.f1.f4 == 0 && (a0.f1.f5 == 0 && (a0.f1.f6 == 0 && (a0.f1.f7 == 0 && true)))))))))) fun z1 =>
     bif (bif (!y7) then true else z1) then
      some (.esc (4:Int))
     else
      call (image_Check F a0.f6) fun y8 =>
      bif (y8 != (0:Int)) then
       some (.esc y8)
      else
       call (list_CheckSource_L3 F a0 a1 F true (0:Int))
        fun v7 =>
       some (.go v7)
    else
     some (.esc (14:Int)))
  (fun e=>some e) fun v8 =>
 bif (!v8) then
  some (4:Int)
 else
  some (0:Int)
/-- printworks/list.checkItem -/
def list_checkItem (F:Nat) (a0:S_Item) (a1:Int) (a2:Int):Option Int :=
 callE (bif (a0.f0 == (0:Int)) then
   some (.go (bif a0.f6 then true else a0.f7))
  else
   bif (a0.f0 == (1:Int)) then
    call ((bif (((bif (decide ((a0.f1.length:Int) > (0:Int))) then true else a0.f5) == false) && true) then list_noSource F a0.f2 else some false)) fun y1 =>
    some (.go (bif (bif (decide ((a0.f1.length:Int) > (0:Int))) then true else a0.f5) then true else (!y1)))
   else
    bif (a0.f0 == (2:Int)) then
     call ((bif (((bif (decide ((a0.f1.length:Int) > (0:Int))) then true else a0.f5) == false) && true) then list_noSource F a0.f2 else some false)) fun y2 =>
     lett ((bif (bif (bif (decide ((a0.f1.length:Int) > (0:Int))) then true else a0.f5) then true else (!y2)) then true else a0.f6)) fun z1 =>
     lett ((bif (bif (bif z1 then true else a0.f7) then true else (a0.f3 != (0:Int))) then true else (a0.f4 != (0:Int)))) fun z2 =>
     some (.go z2)
    else
     some (.esc (14:Int)))
  (fun e=>some e) fun v1 =>
 bif v1 then
  some (4:Int)
 else
  bif (bif (a0.f0 == (2:Int)) then (a2 == (0:Int)) else false) then
   some (18:Int)
  else
   bif (bif (a0.f0 == (1:Int)) then (decide (a2 ≥ (16:Int))) else false) then
    some (15:Int)
   else
    lett ((bif (bif (decide (a0.f4 < (0:Int))) then true else (decide (a0.f4 ≥ (12:Int)))) then true else (bif (bif (a0.f0 == (1:Int)) then (!a0.f6) else false) then (a0.f4 != (0:Int)) else false))) fun z3 =>
    bif z3 then
     some (1:Int)
    else
     bif (a0.f0 != (0:Int)) then
      some (0:Int)
     else
      call (region_Check F a0.f1) fun y3 =>
      bif (y3 != (0:Int)) then
       some y3
      else
       call (list_CheckSource F a0.f2 a1) fun y4 =>
       some y4
def list_Check_L0 (F:Nat) (a0:S_List):Nat→Int→Option (Out Unit Int)
 | 0,_=>none
 | n+1,v1 =>
  bif (decide (v1 < (a0.f2.length:Int))) then
   chk (0≤v1∧v1 < a0.f2.length) <|
   call (list_IsName F (a0.f2.getD v1.toNat [])) fun y1 =>
   bif (!y1) then
    some (.esc (6:Int))
   else
    chk (0≤(0:Int)∧(0:Int)≤v1∧v1≤(a0.f2.length:Int)) <|
    call (slices_Contains_string F ((a0.f2.drop (0:Int).toNat).take (v1.toNat - (0:Int).toNat)) (a0.f2.getD v1.toNat [])) fun y2 =>
    bif y2 then
     some (.esc (7:Int))
    else
     list_Check_L0 F a0 n (IntKind.i64.wrap (v1+(1:Int)))
  else
   some (.go ())
def list_Check_L2 (F:Nat) (a0:S_List):Nat→Int→Int→Option (Out Int Int)
 | 0,_,_=>none
 | n+1,v2,v3 =>
  bif (decide (v3 < (a0.f3.length:Int))) then
   callE (chk (0≤v3∧v3 < a0.f3.length) <|
    call (list_checkItem F (a0.f3.getD v3.toNat (S_Item.mk 0 [] (S_Source.mk 0 (S_Inks.mk 0 0 0 0 0 0 0 0) (S_Point.mk 0 0) (S_Point.mk 0 0) 0 [] (S_Image.mk 0 0 [] [] (S_Matrix.mk 0 0 0 0 0 0) false false)) 0 0 false false false)) (a0.f2.length:Int) v2) fun y3 =>
    bif (y3 != (0:Int)) then
     some (.esc y3)
    else
     lett ((a0.f3.getD v3.toNat (S_Item.mk 0 [] (S_Source.mk 0 (S_Inks.mk 0 0 0 0 0 0 0 0) (S_Point.mk 0 0) (S_Point.mk 0 0) 0 [] (S_Image.mk 0 0 [] [] (S_Matrix.mk 0 0 0 0 0 0) false false)) 0 0 false false false)).f0) fun z1 =>
     bif (z1 == (1:Int)) then
      some (.go (IntKind.i64.wrap (v2+(1:Int))))
     else
      bif (z1 == (2:Int)) then
       some (.go (IntKind.i64.wrap (v2 - (1:Int))))
      else
       some (.go v2))
    (fun e=>some (.esc e)) fun v4 =>
   list_Check_L2 F a0 n v4 (IntKind.i64.wrap (v3+(1:Int)))
  else
   some (.go v2)
/-- printworks/list.Check -/
def list_Check (F:Nat) (a0:S_List):Option Int :=
 lett ((bif (bif (decide (a0.f0 < (1:Int))) then true else (decide (a0.f0 > (256:Int)))) then true else (decide (a0.f1 < (1:Int))))) fun z2 =>
 bif (bif z2 then true else (decide (a0.f1 > (256:Int)))) then
  some (3:Int)
 else
  lett ((bif (decide ((a0.f2.length:Int) < (1:Int))) then true else (decide ((a0.f2.length:Int) > (8:Int))))) fun z3 =>
  bif z3 then
   some (2:Int)
  else
   callE (list_Check_L0 F a0 F (0:Int))
    (fun e=>some e) fun _ =>
   bif (decide ((a0.f3.length:Int) > (5000:Int))) then
    some (2:Int)
   else
    callE (list_Check_L2 F a0 F (0:Int) (0:Int))
     (fun e=>some e) fun v5 =>
    bif (decide (v5 > (0:Int))) then
     some (18:Int)
    else
     some (0:Int)
def inkCut (v:S_Inks) (n:Nat):S_Inks:=⟨if 0 < n then v.f0 else 0,if 1 < n then v.f1 else 0,if 2 < n then v.f2 else 0,if 3 < n then v.f3 else 0,if 4 < n then v.f4 else 0,if 5 < n then v.f5 else 0,if 6 < n then v.f6 else 0,if 7 < n then v.f7 else 0⟩
def copyOk (l:S_List):Bool:=decide (l.f2.length≤4294967296) && decide (l.f3.length≤4294967296) && l.f3.all fun x=>decide (x.f1.length≤4294967296) && decide (x.f2.f5.length≤4294967296) && decide (x.f2.f6.f2.length≤4294967296) && decide (x.f2.f6.f3.length≤4294967296)
/-- printworks/list.copied -/
def list_copied (F:Nat) (a0:S_List):Option (S_List) :=
 chk (copyOk a0) <|
 some a0
/-- The functions of the modes. -/
def mode1 (F:Nat) (k b s:Int):Option Int :=
 bif k == 0 then blend_modes_c1 F b s else bif k == 1 then blend_mul F b s else bif k == 2 then blend_modes_c2 F b s else bif k == 3 then blend_modes_c3 F b s else
 bif k == 4 then blend_modes_c4 F b s else bif k == 5 then blend_modes_c5 F b s else bif k == 6 then blend_dodge F b s else bif k == 7 then blend_burn F b s else
 bif k == 8 then blend_hard F b s else bif k == 9 then blend_modes_c6 F b s else bif k == 10 then blend_modes_c7 F b s else bif k == 11 then blend_modes_c8 F b s else none
/-- The function of a mode on amounts of ink. -/
def mixF (F:Nat) (k b s:Int):Option Int:=call (mode1 F k (IntKind.i64.wrap (IntKind.u8.wrap (255 - b))) (IntKind.i64.wrap (IntKind.u8.wrap (255 - s)))) fun r=>some (IntKind.u8.wrap (255 - IntKind.u8.wrap r))
def inkM (f:Int→Int→Option Int) (a b:S_Inks):Option S_Inks :=
 call (f a.f0 b.f0) fun x0=>call (f a.f1 b.f1) fun x1=>call (f a.f2 b.f2) fun x2=>call (f a.f3 b.f3) fun x3 =>
 call (f a.f4 b.f4) fun x4=>call (f a.f5 b.f5) fun x5=>call (f a.f6 b.f6) fun x6=>call (f a.f7 b.f7) fun x7=>some ⟨x0,x1,x2,x3,x4,x5,x6,x7⟩
def mix1 (F:Nat) (k:Int) (over:Bool) (a q all c i:Int):Option Int :=
 bif over && ((i == 0) && decide (a > 0)) then some c else
 call (mixF F k c i) fun b =>
 call (num_Near F (IntKind.i64.wrap (IntKind.i64.wrap (IntKind.i64.wrap (IntKind.i64.wrap (255 - q) * a) * IntKind.i64.wrap c)+IntKind.i64.wrap (q * IntKind.i64.wrap (IntKind.i64.wrap (IntKind.i64.wrap (255 - a) * IntKind.i64.wrap i)+IntKind.i64.wrap (a * IntKind.i64.wrap b))))) all) fun z =>
 some (IntKind.u8.wrap z)
/-- A vector is painted over a state. -/
def paintC (F:Nat) (st:S_State) (ink:S_Inks) (al k:Int) (over:Bool):Option S_State :=
 lett (IntKind.i64.wrap st.f0) fun a=>lett (IntKind.i64.wrap al) fun q =>
 lett (IntKind.i64.wrap (IntKind.i64.wrap (255 * IntKind.i64.wrap (a+q)) - IntKind.i64.wrap (a * q))) fun all =>
 bif all == 0 then some ⟨0,ink0⟩ else
 call (num_Near F all 255) fun z=>call (inkM (mix1 F k over a q all) st.f1 ink) fun v=>some ⟨IntKind.u8.wrap z,v⟩
def betw1 (F:Nat) (p q c i:Int):Option Int:=call (num_Near F (IntKind.i64.wrap (IntKind.i64.wrap (p * IntKind.i64.wrap c)+IntKind.i64.wrap (q * IntKind.i64.wrap i))) (IntKind.i64.wrap (p+q))) fun z=>some (IntKind.u8.wrap z)
/-- What lies between two states. -/
def betweenC (F:Nat) (a b:S_State) (t:Int):Option S_State :=
 lett (IntKind.i64.wrap (IntKind.i64.wrap (IntKind.u8.wrap (255 - t)) * IntKind.i64.wrap a.f0)) fun p=>lett (IntKind.i64.wrap (IntKind.i64.wrap t * IntKind.i64.wrap b.f0)) fun q =>
 call (num_Near F (IntKind.i64.wrap (p+q)) 255) fun z =>
 bif IntKind.u8.wrap z == 0 then some ⟨0,ink0⟩ else call (inkM (betw1 F p q) a.f1 b.f1) fun v=>some ⟨IntKind.u8.wrap z,v⟩
/-- One more than the place of the last stop that is not behind t. -/
def rampK (l:List S_Stop) (t:Int):Nat→Nat
 | 0=>0
 | n+1=>if t < (l.getD n ⟨0,ink0⟩).f0 then rampK l t n else n+1
def ramp1 (F:Nat) (p q d x y:Int):Option Int:=call (num_Near F (IntKind.i64.wrap (IntKind.i64.wrap (IntKind.i64.wrap x * p)+IntKind.i64.wrap (IntKind.i64.wrap y * q))) d) fun z=>some (IntKind.u8.wrap z)
def rampF (F:Nat) (l:List S_Stop) (t:Int):Option S_Inks :=
 lett (rampK l t l.length) fun k =>
 bif k == 0 then (chk (0 < l.length) <| some (l.getD 0 ⟨0,ink0⟩).f1) else
 lett (l.getD (k - 1) ⟨0,ink0⟩) fun a =>
 bif k == l.length || a.f0 == t then some a.f1 else
 lett (l.getD k ⟨0,ink0⟩) fun b =>
 inkM (ramp1 F (IntKind.i64.wrap (b.f0 - t)) (IntKind.i64.wrap (t - a.f0)) (IntKind.i64.wrap (b.f0 - a.f0))) a.f1 b.f1
def sum1 (w s acc c:Int):Int:=IntKind.i64.wrap (acc+IntKind.i64.wrap (IntKind.i64.wrap (w * IntKind.i64.wrap s) * IntKind.i64.wrap c))
def sumI (w s:Int) (a v:S_Inks):S_Inks:=⟨sum1 w s a.f0 v.f0,sum1 w s a.f1 v.f1,sum1 w s a.f2 v.f2,sum1 w s a.f3 v.f3,sum1 w s a.f4 v.f4,sum1 w s a.f5 v.f5,sum1 w s a.f6 v.f6,sum1 w s a.f7 v.f7⟩
/-- Four samples,mixed. -/
def smoothF (F:Nat) (i:S_Image) (s t:Int):Option (S_Inks×Int) :=
 lett ((IntKind.i64.wrap (s - 4096)).fdiv 8192) fun u=>lett ((IntKind.i64.wrap (t - 4096)).fdiv 8192) fun v =>
 lett (IntKind.i64.wrap (IntKind.i64.wrap (s - 4096) - IntKind.i64.wrap (u * 8192))) fun a=>lett (IntKind.i64.wrap (IntKind.i64.wrap (t - 4096) - IntKind.i64.wrap (v * 8192))) fun b =>
 lett (IntKind.i64.wrap (IntKind.i64.wrap (8192 - a) * IntKind.i64.wrap (8192 - b))) fun w0=>lett (IntKind.i64.wrap (a * IntKind.i64.wrap (8192 - b))) fun w1 =>
 lett (IntKind.i64.wrap (IntKind.i64.wrap (8192 - a) * b)) fun w2=>lett (IntKind.i64.wrap (a * b)) fun w3 =>
 call (image_sample F i (IntKind.i64.wrap (u+0)) (IntKind.i64.wrap (v+0))) fun s0=>call (image_sample F i (IntKind.i64.wrap (u+1)) (IntKind.i64.wrap (v+0))) fun s1 =>
 call (image_sample F i (IntKind.i64.wrap (u+0)) (IntKind.i64.wrap (v+1))) fun s2=>call (image_sample F i (IntKind.i64.wrap (u+1)) (IntKind.i64.wrap (v+1))) fun s3 =>
 lett (IntKind.i64.wrap (IntKind.i64.wrap (IntKind.i64.wrap (IntKind.i64.wrap (0+IntKind.i64.wrap (w0 * IntKind.i64.wrap s0.2))+IntKind.i64.wrap (w1 * IntKind.i64.wrap s1.2))+IntKind.i64.wrap (w2 * IntKind.i64.wrap s2.2))+IntKind.i64.wrap (w3 * IntKind.i64.wrap s3.2))) fun all =>
 lett (sumI w3 s3.2 (sumI w2 s2.2 (sumI w1 s1.2 (sumI w0 s0.2 ink0 s0.1) s1.1) s2.1) s3.1) fun sums =>
 call (num_Near F all 67108864) fun z =>
 bif IntKind.u8.wrap z == 0 then some (ink0,0) else
 call (inkM (fun c _=>call (num_Near F c all) fun z=>some (IntKind.u8.wrap z)) sums sums) fun o=>some (o,IntKind.u8.wrap z)
/-- An image's vector and opacity at a cell. -/
def imgF (F:Nat) (i:S_Image) (m:S_Matrix) (x y:Int):Option (S_Inks×Int) :=
 lett (IntKind.i64.wrap (IntKind.i64.wrap (IntKind.i64.wrap (m.f0 * IntKind.i64.wrap (IntKind.i64.wrap (2 * x)+1))+IntKind.i64.wrap (m.f2 * IntKind.i64.wrap (IntKind.i64.wrap (2 * y)+1)))+IntKind.i64.wrap (2 * m.f4))) fun s =>
 lett (IntKind.i64.wrap (IntKind.i64.wrap (IntKind.i64.wrap (m.f1 * IntKind.i64.wrap (IntKind.i64.wrap (2 * x)+1))+IntKind.i64.wrap (m.f3 * IntKind.i64.wrap (IntKind.i64.wrap (2 * y)+1)))+IntKind.i64.wrap (2 * m.f5))) fun t =>
 bif i.f5 then smoothF F i s t else image_sample F i (s.fdiv 8192) (t.fdiv 8192)
/-- A source's vector and opacity at a cell. -/
def srcF (F:Nat) (s:S_Source) (x y:Int):Option (S_Inks×Int) :=
 bif s.f0 == 0 then some (s.f1,255) else
 bif s.f0 == 3 then (call (affine_Invert F s.f6.f4) fun m=>call (imgF F s.f6 m.1 x y) fun p=>bif p.2 == 0 then some (ink0,p.2) else some p) else
 call (gradient_place F s x y) fun t=>call (rampF F s.f5 t) fun v=>some (v,255)
/-- Where the runs begin that may meet the cell x of a row. -/
def bsF (r:List S_Run) (y x:Int):Nat→Nat→Nat→Nat
 | 0,i,_=>i
 | n+1,i,j=>if i < j then (if (r.getD ((i+j) / 2) ⟨0,0,0⟩).f0 < y∨(r.getD ((i+j) / 2) ⟨0,0,0⟩).f0=y∧(r.getD ((i+j) / 2) ⟨0,0,0⟩).f2≤x then bsF r y x n ((i+j) / 2+1) j else bsF r y x n i ((i+j) / 2)) else i
/-- The parts of a region in a strip of a row. -/
def rnsL (y x0 x1:Int):List S_Run→List (Int×Int)
 | []=>[]
 | s :: r=>if s.f0=y∧s.f1 < x1 then (max s.f1 x0,min s.f2 x1) :: rnsL y x0 x1 r else []
def rns (r:List S_Run) (y x0 x1:Int):List (Int×Int):=rnsL y x0 x1 (r.drop (bsF r y x0 (r.length+1) 0 r.length))
def markN (x0:Int):Nat→Int→List Bool→List Bool
 | 0,_,m=>m
 | n+1,x,m=>markN x0 n (x+1) (m.set (x - x0).toNat true)
def markR (x0:Int):List (Int×Int)→List Bool→List Bool
 | [],m=>m
 | p :: r,m=>markR x0 r (markN x0 (p.2 - p.1).toNat p.1 m)
inductive Mb where
 | fill (x:S_Item)
 | grp (x:S_Item) (l:List Mb)
mutual
def Mb.cov (y x0 x1:Int):Mb→List Bool→List Bool
 | .fill i,m=>markR x0 (rns i.f1 y x0 x1) m
 | .grp _ l,m=>Mb.covs y x0 x1 l m
def Mb.covs (y x0 x1:Int):List Mb→List Bool→List Bool
 | [],m=>m
 | a :: r,m=>Mb.covs y x0 x1 r (Mb.cov y x0 x1 a m)
end
def state0:S_State:=⟨0,ink0⟩
def fillN (F:Nat) (i:S_Item) (y x0:Int) (base:Option (List S_State)):Nat→Int→List S_State→Option (List S_State)
 | 0,_,st=>some st
 | n+1,x,st=>call (srcF F i.f2 x y) fun p=>call (num_Mul255 F p.2 i.f3) fun q=>call (paintC F ((base.getD st).getD (x - x0).toNat state0) (bif q == 0 then ink0 else p.1) q i.f4 i.f5) fun s=>fillN F i y x0 base n (x+1) (st.set (x - x0).toNat s)
def fillR (F:Nat) (i:S_Item) (y x0:Int) (base:Option (List S_State)):List (Int×Int)→List S_State→Option (List S_State)
 | [],st=>some st
 | p :: r,st=>call (fillN F i y x0 base (p.2 - p.1).toNat p.1 st) fun st=>fillR F i y x0 base r st
def over1 (F:Nat) (g:S_Item) (b n:S_State):Option S_State :=
 bif g.f6 then (call (num_Mul255 F n.f0 g.f3) fun q=>paintC F b (bif q == 0 then ink0 else n.f1) q g.f4 false) else betweenC F b n g.f3
/-- A group's states over those that were there,where it covers. -/
def nestO (F:Nat) (g:S_Item):List Bool→List S_State→List S_State→List S_State→Option (List S_State)
 | m :: mk,b :: bs,n :: ns,s :: st=>call (bif m then over1 F g b n else some s) fun s=>call (nestO F g mk bs ns st) fun r=>some (s :: r)
 | _,_,_,_=>some []
mutual
def Mb.paint (F:Nat) (y x0 x1:Int):Mb→Option (List S_State)→List S_State→Option (List S_State)
 | .fill i,base,st=>fillR F i y x0 base (rns i.f1 y x0 x1) st
 | .grp g l,base,st=>lett (Mb.covs y x0 x1 l (List.replicate st.length false)) fun mk=>bif mk.any id then
   lett (bif g.f6 then List.replicate st.length state0 else base.getD st) fun inner0 =>
   call (Mb.paints F y x0 x1 l (bif g.f7 then some inner0 else none) inner0) fun inner=>nestO F g mk (base.getD st) inner st
  else some st
def Mb.paints (F:Nat) (y x0 x1:Int):List Mb→Option (List S_State)→List S_State→Option (List S_State)
 | [],_,st=>some st
 | m :: r,base,st=>call (Mb.paint F y x0 x1 m base st) fun st=>Mb.paints F y x0 x1 r base st
end
/-- The vectors of the cells of a strip. -/
def rowF (F:Nat) (l:List Mb) (inks:Nat) (y x0 x1:Int):Option (List S_Inks) :=
 call (Mb.paints F y x0 x1 l none (List.replicate (x1 - x0).toNat ⟨255,ink0⟩)) fun st=>some (st.map fun s=>inkCut s.f1 inks)
/-- The groups that are open,the innermost first: each with its members. -/
def treeStep (x:S_Item):List (S_Item×List Mb)→Option (List (S_Item×List Mb))
  | []=>none
  | (g,l) :: r=>bif x.f0 == 0 then some ((g,l++[.fill x]) :: r) else bif x.f0 == 1 then some ((x,[]) :: (g,l) :: r) else
    match r with
    | []=>none
    | (h,k) :: r=>some ((h,k++[.grp g l]) :: r)
def treeF:List S_Item→List (S_Item×List Mb)→Option (List (S_Item×List Mb))
 | [],st=>some st
 | x :: r,st=>call (treeStep x st) fun st=>treeF r st
def item0:S_Item:=⟨0,[],⟨0,ink0,⟨0,0⟩,⟨0,0⟩,0,[],⟨0,0,[],[],⟨0,0,0,0,0,0⟩,false,false⟩⟩,0,0,false,false,false⟩
/-- What the walk of a list wants of it. -/
def listOk (F:Nat) (l:S_List):Bool:=decide (l.f3.length≤1000000) && decide (l.f2.length≤8) && l.f3.all fun i=>decide (i.f1.length≤1000000000) && decide (i.f2.f5.length≤1000000000) && decide (0≤i.f4) && decide (i.f4 < 12) && (i.f2.f0 != 3 || (affine_Invert F i.f2.f6.f4).isSome)
/-- The vector at a cell of a list. -/
def atF (F:Nat) (l:S_List) (x y:Int):Option (S_Inks×Int) :=
 call (list_Check F l) fun e =>
 bif e != 0 then some (ink0,e) else
 bif decide (x < 0) || (decide (x ≥ IntKind.i64.wrap (16 * l.f0)) || (decide (y < 0) || decide (y ≥ IntKind.i64.wrap (16 * l.f1)))) then some (ink0,3) else
 call (treeF l.f3 [(item0,[])]) fun st =>
 match st with
 | [(_,ms)]=>chk (listOk F l=true∧0≤x∧x≤1000000∧0≤y∧y≤1000000) <| call (rowF F ms l.f2.length y x (x+1)) fun r=>some (r.getD 0 ink0,0)
 | _=>none
/-- printworks/list.At -/
def list_At (F:Nat) (a0:S_List) (a1:Int) (a2:Int):Option (S_Inks×Int) :=
 atF F a0 a1 a2
/-- printworks/printworkstop.aShown -/
def top_aShown (F:Nat)  : Option Bool :=
 call (top_aPlain F (1:Int) (1:Int) (S_Inks.mk (200:Int) 0 0 0 0 0 0 0)) fun y1 =>
 call (list_At F y1 (3:Int) (3:Int)) fun y2 =>
 lett ((y2.1.f0 == (200:Int) && (y2.1.f1 == 0 && (y2.1.f2 == 0 && (y2.1.f3 == 0 && (y2.1.f4 == 0 && (y2.1.f5 == 0 && (y2.1.f6 == 0 && (y2.1.f7 == 0 && true))))))))) fun z1 =>
 some (bif (y2.2 == (0:Int)) then z1 else false)
/-- slices.Grow[[]printworks/api.Item,printworks/api.Item] -/
def slices_Grow_Item (F:Nat) (a0:Int):Option ((List S_Item)) :=
 bif (decide (a0 < (0:Int))) then
  none
 else
  call (lett ((decide ((IntKind.i64.wrap (a0 - (IntKind.i64.wrap ((0:Int) - (([]:List Int).length:Int))))) > (0:Int)))) fun z1 =>
   bif z1 then
    chk (0≤(0:Int)∧(0:Int)≤(0:Int)∧(0:Int)≤0) <|
    chk (0 < (IntKind.i64.wrap (a0 - (IntKind.i64.wrap ((0:Int) - (([]:List Int).length:Int)))))∧(IntKind.i64.wrap (a0 - (IntKind.i64.wrap ((0:Int) - (([]:List Int).length:Int)))))≤4294967296) <|
    lett ((List.replicate (IntKind.i64.wrap (a0 - (IntKind.i64.wrap ((0:Int) - (([]:List Int).length:Int))))).toNat (S_Item.mk 0 [] (S_Source.mk 0 (S_Inks.mk 0 0 0 0 0 0 0 0) (S_Point.mk 0 0) (S_Point.mk 0 0) 0 [] (S_Image.mk 0 0 [] [] (S_Matrix.mk 0 0 0 0 0 0) false false)) 0 0 false false false))) fun l1 =>
    chk (0≤(([]:List Int).length:Int)∧(([]:List Int).length:Int)≤(l1.length:Int)) <|
    some (l1.take (([]:List Int).length:Int).toNat)
   else
    some [])
   fun v1 =>
  some v1
def slices_Concat_Item_L0 (F:Nat) (a0:List (List S_Item)):Nat→Int→Int→Option Int
 | 0,_,_=>none
 | n+1,v1,v2 =>
  bif (decide (v2 < (a0.length:Int))) then
   chk (0≤v2∧v2 < a0.length) <|
   bif (decide ((IntKind.i64.wrap (v1+((a0.getD v2.toNat []).length:Int))) < (0:Int))) then
    none
   else
    slices_Concat_Item_L0 F a0 n (IntKind.i64.wrap (v1+((a0.getD v2.toNat []).length:Int))) (IntKind.i64.wrap (v2+(1:Int)))
  else
   some v1
def slices_Concat_Item_L2 (F:Nat) (a0:List (List S_Item)):Nat→(List S_Item)→Int→Option ((List S_Item))
 | 0,_,_=>none
 | n+1,v3,v4 =>
  bif (decide (v4 < (a0.length:Int))) then
   chk (0≤v4∧v4 < a0.length) <|
   chk (v3.length+(a0.getD v4.toNat []).length≤4294967296) <|
   slices_Concat_Item_L2 F a0 n (v3++(a0.getD v4.toNat [])) (IntKind.i64.wrap (v4+(1:Int)))
  else
   some v3
/-- slices.Concat[[]printworks/api.Item,printworks/api.Item] -/
def slices_Concat_Item (F:Nat) (a0:List (List S_Item)):Option ((List S_Item)) :=
 call (slices_Concat_Item_L0 F a0 F (0:Int) (0:Int))
  fun v5 =>
 call (slices_Grow_Item F v5) fun y1 =>
 call (slices_Concat_Item_L2 F a0 F y1 (0:Int))
  fun v6 =>
 some v6
/-- printworks/list.Bracket -/
def list_Bracket (F:Nat) (a0:S_List) (a1:Int) (a2:Int) (a3:S_Item):Option (S_List×Int) :=
 call (list_Check F a0) fun y1 =>
 bif (y1 != (0:Int)) then
  some ((S_List.mk 0 0 [] []),y1)
 else
  lett ((bif (bif (decide (a1 < (0:Int))) then true else (decide (a1 > a2))) then true else (decide (a2 > (a0.f3.length:Int))))) fun z1 =>
  bif z1 then
   some ((S_List.mk 0 0 [] []),(3:Int))
  else
   bif (a3.f0 != (1:Int)) then
    some ((S_List.mk 0 0 [] []),(14:Int))
   else
    call (list_copied F a0) fun y2 =>
    chk (0≤(0:Int)∧(0:Int)≤a1∧a1≤(y2.f3.length:Int)) <|
    chk (0≤a1∧a1≤a2∧a2≤(y2.f3.length:Int)) <|
    chk (0≤a2∧a2≤(y2.f3.length:Int)∧(y2.f3.length:Int)≤(y2.f3.length:Int)) <|
    call (slices_Concat_Item F ([((y2.f3.drop (0:Int).toNat).take (a1.toNat - (0:Int).toNat)),[a3],((y2.f3.drop a1.toNat).take (a2.toNat - a1.toNat)),[(S_Item.mk (2:Int) [] (S_Source.mk 0 (S_Inks.mk 0 0 0 0 0 0 0 0) (S_Point.mk 0 0) (S_Point.mk 0 0) 0 [] (S_Image.mk 0 0 [] [] (S_Matrix.mk 0 0 0 0 0 0) false false)) 0 0 false false false)],((y2.f3.drop a2.toNat).take ((y2.f3.length:Int).toNat - a2.toNat))])) fun y3 =>
    call (list_Check F (S_List.mk y2.f0 y2.f1 y2.f2 y3)) fun y4 =>
    bif (y4 != (0:Int)) then
     some ((S_List.mk 0 0 [] []),y4)
    else
     some ((S_List.mk y2.f0 y2.f1 y2.f2 y3),(0:Int))
def top_TopGroups_L0 (F:Nat) (y1:S_List) (y2:Int) (y3:Int):Nat→Bool→Int→Int→Option (Out (Bool×Int) Bool)
 | 0,_,_,_=>none
 | n+1,v1,v2,v3 =>
  bif (decide (v3 < (((y1.f3.drop y2.toNat).take (y3.toNat - y2.toNat)).length:Int))) then
   chk (0≤v3∧v3 < ((y1.f3.drop y2.toNat).take (y3.toNat - y2.toNat)).length) <|
   lett ((((y1.f3.drop y2.toNat).take (y3.toNat - y2.toNat)).getD v3.toNat (S_Item.mk 0 [] (S_Source.mk 0 (S_Inks.mk 0 0 0 0 0 0 0 0) (S_Point.mk 0 0) (S_Point.mk 0 0) 0 [] (S_Image.mk 0 0 [] [] (S_Matrix.mk 0 0 0 0 0 0) false false)) 0 0 false false false)).f0) fun z1 =>
   lett ((((y1.f3.drop y2.toNat).take (y3.toNat - y2.toNat)).getD v3.toNat (S_Item.mk 0 [] (S_Source.mk 0 (S_Inks.mk 0 0 0 0 0 0 0 0) (S_Point.mk 0 0) (S_Point.mk 0 0) 0 [] (S_Image.mk 0 0 [] [] (S_Matrix.mk 0 0 0 0 0 0) false false)) 0 0 false false false)).f3) fun z2 =>
   lett ((((y1.f3.drop y2.toNat).take (y3.toNat - y2.toNat)).getD v3.toNat (S_Item.mk 0 [] (S_Source.mk 0 (S_Inks.mk 0 0 0 0 0 0 0 0) (S_Point.mk 0 0) (S_Point.mk 0 0) 0 [] (S_Image.mk 0 0 [] [] (S_Matrix.mk 0 0 0 0 0 0) false false)) 0 0 false false false)).f4) fun z3 =>
   lett ((bif (bif (bif v1 then (z1 == (0:Int)) else false) then (z2 == (255:Int)) else false) then (z3 == (0:Int)) else false)) fun z4 =>
   lett ((((y1.f3.drop y2.toNat).take (y3.toNat - y2.toNat)).getD v3.toNat (S_Item.mk 0 [] (S_Source.mk 0 (S_Inks.mk 0 0 0 0 0 0 0 0) (S_Point.mk 0 0) (S_Point.mk 0 0) 0 [] (S_Image.mk 0 0 [] [] (S_Matrix.mk 0 0 0 0 0 0) false false)) 0 0 false false false)).f5) fun z5 =>
   lett (((((y1.f3.drop y2.toNat).take (y3.toNat - y2.toNat)).getD v3.toNat (S_Item.mk 0 [] (S_Source.mk 0 (S_Inks.mk 0 0 0 0 0 0 0 0) (S_Point.mk 0 0) (S_Point.mk 0 0) 0 [] (S_Image.mk 0 0 [] [] (S_Matrix.mk 0 0 0 0 0 0) false false)) 0 0 false false false)).f2).f0) fun z6 =>
   call (lett ((((y1.f3.drop y2.toNat).take (y3.toNat - y2.toNat)).getD v3.toNat (S_Item.mk 0 [] (S_Source.mk 0 (S_Inks.mk 0 0 0 0 0 0 0 0) (S_Point.mk 0 0) (S_Point.mk 0 0) 0 [] (S_Image.mk 0 0 [] [] (S_Matrix.mk 0 0 0 0 0 0) false false)) 0 0 false false false)).f0) fun z7 =>
    bif (z7 == (1:Int)) then
     some (IntKind.i64.wrap (v2+(1:Int)))
    else
     bif (z7 == (2:Int)) then
      some (IntKind.i64.wrap (v2 - (1:Int)))
     else
      some v2)
    fun v4 =>
   bif (decide (v4 < (0:Int))) then
    some (.esc true)
   else
    top_TopGroups_L0 F y1 y2 y3 n (bif (bif z4 then (!z5) else false) then (z6 == (0:Int)) else false) v4 (IntKind.i64.wrap (v3+(1:Int)))
  else
   some (.go (v1,v2))
def top_TopGroups_L3 (F:Nat) (y1:S_List):Nat→Int→Option (Out Unit Bool)
 | 0,_=>none
 | n+1,v5 =>
  bif (decide (v5 < (y1.f3.length:Int))) then
   chk (0≤v5∧v5 < y1.f3.length) <|
   lett ((y1.f3.getD v5.toNat (S_Item.mk 0 [] (S_Source.mk 0 (S_Inks.mk 0 0 0 0 0 0 0 0) (S_Point.mk 0 0) (S_Point.mk 0 0) 0 [] (S_Image.mk 0 0 [] [] (S_Matrix.mk 0 0 0 0 0 0) false false)) 0 0 false false false)).f7) fun z8 =>
   bif z8 then
    some (.esc true)
   else
    top_TopGroups_L3 F y1 n (IntKind.i64.wrap (v5+(1:Int)))
  else
   some (.go ())
def top_TopGroups_L5 (F:Nat) (y1:S_List) (y4:S_List×Int) (v6:Bool) (y5:S_List×Int) (y6:Int) (y7:Int):Nat→Int→Option (Out Unit Bool)
 | 0,_=>none
 | n+1,v7 =>
  bif (decide (v7 < (16:Int))) then
   chk ((IntKind.i64.wrap ((16:Int) * y1.f0))≠0) <|
   lett (((IntKind.i64.wrap (y6+(IntKind.i64.wrap ((5:Int) * v7)))).tmod (IntKind.i64.wrap ((16:Int) * y1.f0)))) fun z9 =>
   chk ((IntKind.i64.wrap ((16:Int) * y1.f1))≠0) <|
   lett (((IntKind.i64.wrap (y7+(IntKind.i64.wrap ((3:Int) * v7)))).tmod (IntKind.i64.wrap ((16:Int) * y1.f1)))) fun z10 =>
   call (list_At F y1 z9 z10) fun y8 =>
   call (list_At F y4.1 z9 z10) fun y9 =>
   lett ((!(y8.1.f0 == y9.1.f0 && (y8.1.f1 == y9.1.f1 && (y8.1.f2 == y9.1.f2 && (y8.1.f3 == y9.1.f3 && (y8.1.f4 == y9.1.f4 && (y8.1.f5 == y9.1.f5 && (y8.1.f6 == y9.1.f6 && (y8.1.f7 == y9.1.f7 && true)))))))))) fun z11 =>
   bif z11 then
    some (.esc false)
   else
    call (list_At F y5.1 z9 z10) fun y10 =>
    lett ((!(y10.1.f0 == y8.1.f0 && (y10.1.f1 == y8.1.f1 && (y10.1.f2 == y8.1.f2 && (y10.1.f3 == y8.1.f3 && (y10.1.f4 == y8.1.f4 && (y10.1.f5 == y8.1.f5 && (y10.1.f6 == y8.1.f6 && (y10.1.f7 == y8.1.f7 && true)))))))))) fun z12 =>
    bif (bif v6 then z12 else false) then
     some (.esc false)
    else
     top_TopGroups_L5 F y1 y4 v6 y5 y6 y7 n (IntKind.i64.wrap (v7+(1:Int)))
  else
   some (.go ())
/-- printworks/printworkstop.TopGroups -/
def top_TopGroups (F:Nat) (a0:S_List) (a1:Int) (a2:Int) (a3:Int) (a4:Int):Option Bool :=
 call (top_aShown F) fun y11 =>
 bif (!y11) then
  some false
 else
  call (top_aTiny F a0) fun y1 =>
  call (list_Check F y1) fun y12 =>
  bif (y12 != (0:Int)) then
   some true
  else
   call (top_aCut F a1 (0:Int) (y1.f3.length:Int)) fun y2 =>
   call (top_aCut F a2 y2 (y1.f3.length:Int)) fun y3 =>
   call (list_Bracket F y1 y2 y3 (S_Item.mk (1:Int) [] (S_Source.mk 0 (S_Inks.mk 0 0 0 0 0 0 0 0) (S_Point.mk 0 0) (S_Point.mk 0 0) 0 [] (S_Image.mk 0 0 [] [] (S_Matrix.mk 0 0 0 0 0 0) false false)) (255:Int) 0 false false false)) fun y4 =>
   chk (0≤y2∧y2≤y3∧y3≤(y1.f3.length:Int)) <|
   callE (top_TopGroups_L0 F y1 y2 y3 F true (0:Int) (0:Int))
    (fun e=>some e) fun (v6,v8) =>
   bif (decide (v8 > (0:Int))) then
    some true
   else
    bif (y4.2 != (0:Int)) then
     some false
    else
     callE (top_TopGroups_L3 F y1 F (0:Int))
      (fun e=>some e) fun _ =>
     call (list_Bracket F y1 y2 y3 (S_Item.mk (1:Int) [] (S_Source.mk 0 (S_Inks.mk 0 0 0 0 0 0 0 0) (S_Point.mk 0 0) (S_Point.mk 0 0) 0 [] (S_Image.mk 0 0 [] [] (S_Matrix.mk 0 0 0 0 0 0) false false)) (255:Int) 0 false true false)) fun y5 =>
     call (top_aCut F a3 (0:Int) (IntKind.i64.wrap ((IntKind.i64.wrap ((16:Int) * y1.f0)) - (1:Int)))) fun y6 =>
     call (top_aCut F a4 (0:Int) (IntKind.i64.wrap ((IntKind.i64.wrap ((16:Int) * y1.f1)) - (1:Int)))) fun y7 =>
     callE (top_TopGroups_L5 F y1 y4 v6 y5 y6 y7 F (0:Int))
      (fun e=>some e) fun _ =>
     some true
end Go.Vm.TopG
