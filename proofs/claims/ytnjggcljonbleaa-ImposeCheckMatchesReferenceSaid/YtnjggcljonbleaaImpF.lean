import Derived.Test.YtnjggcljonbleaaVmFunc2
import Derived.Test.YtnjggcljonbleaaVmTest
namespace Go.Vm.FoldG
structure S68 where
  f0 : Int
  f1 : Int
  f2 : Bool
deriving DecidableEq

def cS68 (x : S68) : List Dat := (cI .i64) x.f0 ++ (cI .i64) x.f1 ++ cB x.f2

structure S23 where
  f0 : Int
  f1 : Int
  f2 : List S68
deriving DecidableEq

def cS23 (x : S23) : List Dat := (cI .i64) x.f0 ++ (cI .i64) x.f1 ++ (cL 3 cS68) x.f2

structure S31 where
  f0 : Bool
  f1 : Int
  f2 : Int
  f3 : Int
deriving DecidableEq

def cS31 (x : S31) : List Dat := cB x.f0 ++ (cI .i64) x.f1 ++ (cI .i64) x.f2 ++ (cI .i64) x.f3

structure S47 where
  f0 : List Int
  f1 : List Int
  f2 : List Int
  f3 : List Int
  f4 : List Int
  f5 : List Int
  f6 : List Int
  f7 : Int
  f8 : Int
  f9 : Int
  f10 : Int
  f11 : Int
deriving DecidableEq

def cS47 (x : S47) : List Dat := (cL 1 (cI .i64)) x.f0 ++ (cL 1 (cI .i64)) x.f1 ++ (cL 1 (cI .i64)) x.f2 ++ (cL 1 (cI .i64)) x.f3 ++ (cL 1 (cI .i64)) x.f4 ++ (cL 1 (cI .i64)) x.f5 ++ (cL 1 (cI .i64)) x.f6 ++ (cI .i64) x.f7 ++ (cI .i64) x.f8 ++ (cI .i64) x.f9 ++ (cI .i64) x.f10 ++ (cI .i64) x.f11

structure S50 where
  f0 : Int
  f1 : Int
  f2 : Bool
  f3 : Bool
deriving DecidableEq

def cS50 (x : S50) : List Dat := (cI .i64) x.f0 ++ (cI .i64) x.f1 ++ cB x.f2 ++ cB x.f3

structure S54 where
  f0 : S23
  f1 : Int
  f2 : Int
  f3 : Int
  f4 : Int
  f5 : Int
  f6 : Int
  f7 : Int
  f8 : Int
deriving DecidableEq

def cS54 (x : S54) : List Dat := cS23 x.f0 ++ (cI .i64) x.f1 ++ (cI .i64) x.f2 ++ (cI .i64) x.f3 ++ (cI .i64) x.f4 ++ (cI .i64) x.f5 ++ (cI .i64) x.f6 ++ (cI .i64) x.f7 ++ (cI .i64) x.f8

structure S65 where
  f0 : Int
  f1 : Int
  f2 : List (List S50)
deriving DecidableEq

def cS65 (x : S65) : List Dat := (cI .i64) x.f0 ++ (cI .i64) x.f1 ++ (cL 1 (cL 4 cS50)) x.f2

structure S87 where
  f0 : Int
  f1 : Int
  f2 : Int
  f3 : Int
deriving DecidableEq

def cS87 (x : S87) : List Dat := (cI .i64) x.f0 ++ (cI .i64) x.f1 ++ (cI .i64) x.f2 ++ (cI .i64) x.f3

structure S82 where
  f0 : Int
  f1 : Int
  f2 : List S87
  f3 : List S87
deriving DecidableEq

def cS82 (x : S82) : List Dat := (cI .i64) x.f0 ++ (cI .i64) x.f1 ++ (cL 4 cS87) x.f2 ++ (cL 4 cS87) x.f3

structure S89 where
  f0 : Int
  f1 : Int
  f2 : Int
  f3 : Int
deriving DecidableEq

def cS89 (x : S89) : List Dat := (cI .i64) x.f0 ++ (cI .i64) x.f1 ++ (cI .i64) x.f2 ++ (cI .i64) x.f3

structure S94 where
  f0 : Int
  f1 : Int
  f2 : Int
  f3 : Int
  f4 : Int
  f5 : Int
deriving DecidableEq

def cS94 (x : S94) : List Dat := (cI .i64) x.f0 ++ (cI .i64) x.f1 ++ (cI .i64) x.f2 ++ (cI .i64) x.f3 ++ (cI .i64) x.f4 ++ (cI .i64) x.f5

/-- printworks/printworkslaw3.once -/
def f24 (F : Nat)  : Option S23 :=
  some (S23.mk ((S23.mk (2 : Int) (1 : Int) ([(S68.mk (0 : Int) (1 : Int) true)])).f0) ((S23.mk (2 : Int) (1 : Int) ([(S68.mk (0 : Int) (1 : Int) true)])).f1) ((S23.mk (2 : Int) (1 : Int) ([(S68.mk (0 : Int) (1 : Int) true)])).f2))

def f28_L2 (F : Nat) (a0 : S23) (v1 : Int) : Nat → (List (List S50)) → Int → Option ((List (List S50)))
  | 0, _, _ => none
  | n + 1, v2, v3 =>
    bif (decide (v3 < a0.f0)) then
      chk (v2.length + ([[(S50.mk v3 v1 false false)]]).length ≤ 4294967296) <|
      f28_L2 F a0 v1 n (v2 ++ ([[(S50.mk v3 v1 false false)]])) (IntKind.i64.wrap (v3 + (1 : Int)))
    else
      some v2

def f28_L0 (F : Nat) (a0 : S23) : Nat → (List (List S50)) → Int → Option ((List (List S50)))
  | 0, _, _ => none
  | n + 1, v4, v1 =>
    bif (decide (v1 < a0.f1)) then
      call (f28_L2 F a0 v1 F v4 (0 : Int))
        fun v5 =>
      f28_L0 F a0 n v5 (IntKind.i64.wrap (v1 + (1 : Int)))
    else
      some v4

/-- printworks/fold.flat -/
def f28 (F : Nat) (a0 : S23) : Option S65 :=
  call (f28_L0 F a0 F [] (0 : Int))
    fun v6 =>
  some (S65.mk ((S65.mk a0.f0 a0.f1 v6).f0) ((S65.mk a0.f0 a0.f1 v6).f1) ((S65.mk a0.f0 a0.f1 v6).f2))

/-- printworks/fold.across -/
def f43 (F : Nat) (a0 : S68) : Option Bool :=
  some (bif (a0.f0 == (0 : Int)) then true else (a0.f0 == (1 : Int)))

/-- (printworks/fold.sheet).extent -/
def f29 (F : Nat) (a0 : S65) (a1 : S68) : Option Int :=
  call (f43 F (S68.mk a1.f0 a1.f1 a1.f2)) fun y1 =>
  bif y1 then
    some a0.f0
  else
    some a0.f1

/-- (printworks/fold.sheet).pile -/
def f37 (F : Nat) (a0 : S65) (a1 : Int) (a2 : Int) : Option ((List S50)) :=
  lett ((bif (bif (decide (a1 < (0 : Int))) then true else (decide (a2 < (0 : Int)))) then true else (decide (a1 ≥ a0.f0)))) fun z1 =>
  bif (bif z1 then true else (decide (a2 ≥ a0.f1))) then
    some []
  else
    chk (0 ≤ (IntKind.i64.wrap ((IntKind.i64.wrap (a2 * a0.f0)) + a1)) ∧ (IntKind.i64.wrap ((IntKind.i64.wrap (a2 * a0.f0)) + a1)) < a0.f2.length) <|
    some (a0.f2.getD (IntKind.i64.wrap ((IntKind.i64.wrap (a2 * a0.f0)) + a1)).toNat [])

/-- printworks/fold.flipped -/
def f44 (F : Nat) (a0 : List S50) (a1 : Bool) : Option (List S50) :=
  chk (a0.length ≤ 4294967296) <|
  some (a0.reverse.map fun x => bif a1 then { x with f2 := !x.f2 } else { x with f3 := !x.f3 })

/-- slices.Grow[[]printworks/api.FoldLeaf,printworks/api.FoldLeaf] -/
def f51 (F : Nat) (a0 : Int) : Option ((List S50)) :=
  bif (decide (a0 < (0 : Int))) then
    none
  else
    call (lett ((decide ((IntKind.i64.wrap (a0 - (IntKind.i64.wrap ((0 : Int) - (([] : List Int).length : Int))))) > (0 : Int)))) fun z1 =>
      bif z1 then
        chk (0 ≤ (0 : Int) ∧ (0 : Int) ≤ (0 : Int) ∧ (0 : Int) ≤ 0) <|
        chk (0 < (IntKind.i64.wrap (a0 - (IntKind.i64.wrap ((0 : Int) - (([] : List Int).length : Int))))) ∧ (IntKind.i64.wrap (a0 - (IntKind.i64.wrap ((0 : Int) - (([] : List Int).length : Int))))) ≤ 4294967296) <|
        lett ((List.replicate (IntKind.i64.wrap (a0 - (IntKind.i64.wrap ((0 : Int) - (([] : List Int).length : Int))))).toNat (S50.mk 0 0 false false))) fun l1 =>
        chk (0 ≤ (([] : List Int).length : Int) ∧ (([] : List Int).length : Int) ≤ (l1.length : Int)) <|
        some (l1.take (([] : List Int).length : Int).toNat)
      else
        some [])
      fun v1 =>
    some v1

def f45_L0 (F : Nat) (a0 : List (List S50)) : Nat → Int → Int → Option Int
  | 0, _, _ => none
  | n + 1, v1, v2 =>
    bif (decide (v2 < (a0.length : Int))) then
      chk (0 ≤ v2 ∧ v2 < a0.length) <|
      bif (decide ((IntKind.i64.wrap (v1 + ((a0.getD v2.toNat []).length : Int))) < (0 : Int))) then
        none
      else
        f45_L0 F a0 n (IntKind.i64.wrap (v1 + ((a0.getD v2.toNat []).length : Int))) (IntKind.i64.wrap (v2 + (1 : Int)))
    else
      some v1

def f45_L2 (F : Nat) (a0 : List (List S50)) : Nat → (List S50) → Int → Option ((List S50))
  | 0, _, _ => none
  | n + 1, v3, v4 =>
    bif (decide (v4 < (a0.length : Int))) then
      chk (0 ≤ v4 ∧ v4 < a0.length) <|
      chk (v3.length + (a0.getD v4.toNat []).length ≤ 4294967296) <|
      f45_L2 F a0 n (v3 ++ (a0.getD v4.toNat [])) (IntKind.i64.wrap (v4 + (1 : Int)))
    else
      some v3

/-- slices.Concat[[]printworks/api.FoldLeaf,printworks/api.FoldLeaf] -/
def f45 (F : Nat) (a0 : List (List S50)) : Option ((List S50)) :=
  call (f45_L0 F a0 F (0 : Int) (0 : Int))
    fun v5 =>
  call (f51 F v5) fun y1 =>
  call (f45_L2 F a0 F y1 (0 : Int))
    fun v6 =>
  some v6

def f30_L2 (F : Nat) (a0 : S65) (a1 : S68) (y1 : Int) (v1 : Int) (v2 : Int) : Nat → (List (List S50)) → Int → Option ((List (List S50)))
  | 0, _, _ => none
  | n + 1, v3, v4 =>
    bif (decide (v4 < v1)) then
      call (call (f43 F (S68.mk a1.f0 a1.f1 a1.f2)) fun y2 =>
        bif y2 then
          some v4
        else
          some v2)
        fun v5 =>
      call (bif (!(bif (a1.f0 == (0 : Int)) then true else (a1.f0 == (2 : Int)))) then
          lett (IntKind.i64.wrap ((if a1.f1 < (IntKind.i64.wrap (y1 - a1.f1)) then (IntKind.i64.wrap (y1 - a1.f1)) else a1.f1) - (1 : Int))) fun z1 =>
          some (IntKind.i64.wrap (z1 - v5))
        else
          some v5)
        fun v6 =>
      call (bif (!(bif (a1.f0 == (0 : Int)) then true else (a1.f0 == (2 : Int)))) then
          some (IntKind.i64.wrap (a1.f1 + v6), IntKind.i64.wrap ((IntKind.i64.wrap (a1.f1 - (1 : Int))) - v6))
        else
          some (IntKind.i64.wrap ((IntKind.i64.wrap (a1.f1 - (1 : Int))) - v6), IntKind.i64.wrap (a1.f1 + v6)))
        fun (v7, v8) =>
      call (f37 F (S65.mk a0.f0 a0.f1 a0.f2) v4 v7) fun y3 =>
      call (f37 F (S65.mk a0.f0 a0.f1 a0.f2) v4 v8) fun y4 =>
      call (call (f43 F (S68.mk a1.f0 a1.f1 a1.f2)) fun y5 =>
        bif y5 then
          call (f37 F (S65.mk a0.f0 a0.f1 a0.f2) v7 v2) fun y6 =>
          call (f37 F (S65.mk a0.f0 a0.f1 a0.f2) v8 v2) fun y7 =>
          some (y6, y7)
        else
          some (y3, y4))
        fun (v9, v10) =>
      call (f43 F (S68.mk a1.f0 a1.f1 a1.f2)) fun y8 =>
      call (f44 F v9 y8) fun y9 =>
      call (bif (!a1.f2) then
          some (v10, y9)
        else
          some (y9, v10))
        fun (v11, v12) =>
      call (f45 F ([v11, v12])) fun y10 =>
      chk (v3.length + ([y10]).length ≤ 4294967296) <|
      f30_L2 F a0 a1 y1 v1 v2 n (v3 ++ ([y10])) (IntKind.i64.wrap (v4 + (1 : Int)))
    else
      some v3

def f30_L0 (F : Nat) (a0 : S65) (a1 : S68) (y1 : Int) (v1 : Int) (v13 : Int) : Nat → (List (List S50)) → Int → Option ((List (List S50)))
  | 0, _, _ => none
  | n + 1, v14, v2 =>
    bif (decide (v2 < v13)) then
      call (f30_L2 F a0 a1 y1 v1 v2 F v14 (0 : Int))
        fun v15 =>
      f30_L0 F a0 a1 y1 v1 v13 n v15 (IntKind.i64.wrap (v2 + (1 : Int)))
    else
      some v14

/-- (printworks/fold.sheet).fold -/
def f30 (F : Nat) (a0 : S65) (a1 : S68) : Option S65 :=
  call (f29 F (S65.mk a0.f0 a0.f1 a0.f2) (S68.mk a1.f0 a1.f1 a1.f2)) fun y1 =>
  call (call (f43 F (S68.mk a1.f0 a1.f1 a1.f2)) fun y11 =>
    bif y11 then
      some ((if a1.f1 < (IntKind.i64.wrap (y1 - a1.f1)) then (IntKind.i64.wrap (y1 - a1.f1)) else a1.f1), a0.f1)
    else
      some (a0.f0, (if a1.f1 < (IntKind.i64.wrap (y1 - a1.f1)) then (IntKind.i64.wrap (y1 - a1.f1)) else a1.f1)))
    fun (v1, v13) =>
  call (f30_L0 F a0 a1 y1 v1 v13 F [] (0 : Int))
    fun v16 =>
  some (S65.mk ((S65.mk v1 v13 v16).f0) ((S65.mk v1 v13 v16).f1) ((S65.mk v1 v13 v16).f2))

def f11_L0 (F : Nat) (a0 : S23) : Nat → Int → Int → (List (List S50)) → Int → Option (Out Unit Int)
  | 0, _, _, _, _ => none
  | n + 1, v1, v2, v3, v4 =>
    bif (decide (v4 < (a0.f2.length : Int))) then
      chk (0 ≤ v4 ∧ v4 < a0.f2.length) <|
      lett ((bif (decide (((a0.f2.getD v4.toNat (S68.mk 0 0 false)).f0) < (0 : Int))) then true else (decide (((a0.f2.getD v4.toNat (S68.mk 0 0 false)).f0) > (3 : Int))))) fun z1 =>
      bif z1 then
        some (.esc (14 : Int))
      else
        call ((bif (((decide (((a0.f2.getD v4.toNat (S68.mk 0 0 false)).f1) < (1 : Int))) == false) && true) then f29 F (S65.mk v1 v2 v3) (S68.mk ((a0.f2.getD v4.toNat (S68.mk 0 0 false)).f0) ((a0.f2.getD v4.toNat (S68.mk 0 0 false)).f1) ((a0.f2.getD v4.toNat (S68.mk 0 0 false)).f2)) else some 0)) fun y1 =>
        lett ((bif (decide (((a0.f2.getD v4.toNat (S68.mk 0 0 false)).f1) < (1 : Int))) then true else (decide (((a0.f2.getD v4.toNat (S68.mk 0 0 false)).f1) ≥ y1)))) fun z2 =>
        bif z2 then
          some (.esc (3 : Int))
        else
          call (f30 F (S65.mk v1 v2 v3) (S68.mk ((a0.f2.getD v4.toNat (S68.mk 0 0 false)).f0) ((a0.f2.getD v4.toNat (S68.mk 0 0 false)).f1) ((a0.f2.getD v4.toNat (S68.mk 0 0 false)).f2))) fun y2 =>
          f11_L0 F a0 n y2.f0 y2.f1 y2.f2 (IntKind.i64.wrap (v4 + (1 : Int)))
    else
      some (.go ())

/-- printworks/fold.Check -/
def f11 (F : Nat) (a0 : S23) : Option Int :=
  lett ((bif (bif (decide (a0.f0 < (1 : Int))) then true else (decide (a0.f0 > (8 : Int)))) then true else (decide (a0.f1 < (1 : Int))))) fun z3 =>
  bif (bif z3 then true else (decide (a0.f1 > (8 : Int)))) then
    some (3 : Int)
  else
    lett ((bif (decide ((IntKind.i64.wrap (a0.f0 * a0.f1)) > (32 : Int))) then true else (decide ((a0.f2.length : Int) > (8 : Int))))) fun z4 =>
    bif z4 then
      some (2 : Int)
    else
      call (f28 F (S23.mk a0.f0 a0.f1 a0.f2)) fun y3 =>
      callE (f11_L0 F a0 F y3.f0 y3.f1 y3.f2 (0 : Int))
        (fun e => some e) fun _ =>
      some (0 : Int)

def f35_L0 (F : Nat) (a0 : S23) (a1 : Int) : Nat → Int → Int → (List (List S50)) → Int → Option (Int × Int × (List (List S50)))
  | 0, _, _, _, _ => none
  | n + 1, v1, v2, v3, v4 =>
    bif (decide (v4 < (((a0.f2.drop (0 : Int).toNat).take (a1.toNat - (0 : Int).toNat)).length : Int))) then
      chk (0 ≤ v4 ∧ v4 < ((a0.f2.drop (0 : Int).toNat).take (a1.toNat - (0 : Int).toNat)).length) <|
      call (f30 F (S65.mk v1 v2 v3) (S68.mk ((((a0.f2.drop (0 : Int).toNat).take (a1.toNat - (0 : Int).toNat)).getD v4.toNat (S68.mk 0 0 false)).f0) ((((a0.f2.drop (0 : Int).toNat).take (a1.toNat - (0 : Int).toNat)).getD v4.toNat (S68.mk 0 0 false)).f1) ((((a0.f2.drop (0 : Int).toNat).take (a1.toNat - (0 : Int).toNat)).getD v4.toNat (S68.mk 0 0 false)).f2))) fun y1 =>
      f35_L0 F a0 a1 n y1.f0 y1.f1 y1.f2 (IntKind.i64.wrap (v4 + (1 : Int)))
    else
      some (v1, v2, v3)

/-- printworks/fold.after -/
def f35 (F : Nat) (a0 : S23) (a1 : Int) : Option (S65 × Int) :=
  call (f11 F (S23.mk a0.f0 a0.f1 a0.f2)) fun y2 =>
  bif (y2 != (0 : Int)) then
    some ((S65.mk 0 0 []), y2)
  else
    bif (bif (decide (a1 < (0 : Int))) then true else (decide (a1 > (a0.f2.length : Int)))) then
      some ((S65.mk 0 0 []), (3 : Int))
    else
      call (f28 F (S23.mk a0.f0 a0.f1 a0.f2)) fun y3 =>
      chk (0 ≤ (0 : Int) ∧ (0 : Int) ≤ a1 ∧ a1 ≤ (a0.f2.length : Int)) <|
      call (f35_L0 F a0 a1 F y3.f0 y3.f1 y3.f2 (0 : Int))
        fun (v5, v6, v7) =>
      some ((S65.mk ((S65.mk v5 v6 v7).f0) ((S65.mk v5 v6 v7).f1) ((S65.mk v5 v6 v7).f2)), (0 : Int))

/-- printworks/fold.folded -/
def f25 (F : Nat) (a0 : S23) : Option ((List S50) × Int × Int) :=
  call (f35 F (S23.mk a0.f0 a0.f1 a0.f2) (a0.f2.length : Int)) fun y1 =>
  bif (y1.2 != (0 : Int)) then
    some ([], (0 : Int), y1.2)
  else
    bif (bif (y1.1.f0 != (1 : Int)) then true else (y1.1.f1 != (1 : Int))) then
      some ([], (0 : Int), (9 : Int))
    else
      call (bif (decide ((a0.f2.length : Int) > (0 : Int))) then
          chk (0 ≤ (IntKind.i64.wrap ((a0.f2.length : Int) - (1 : Int))) ∧ (IntKind.i64.wrap ((a0.f2.length : Int) - (1 : Int))) < a0.f2.length) <|
          some ((a0.f2.getD (IntKind.i64.wrap ((a0.f2.length : Int) - (1 : Int))).toNat (S68.mk 0 0 false)).f0)
        else
          some (0 : Int))
        fun v1 =>
      chk (0 ≤ (0 : Int) ∧ (0 : Int) < y1.1.f2.length) <|
      some ((y1.1.f2.getD (0 : Int).toNat []), v1, (0 : Int))

/-- printworks/fold.Pages$1 -/
def f26 (F : Nat) (a0 : Bool) (a1 : Bool) (c2 : Int) (c3 : Int) (c4 : Bool) (c5 : Bool) (c6 : Int) (c7 : Int) (c8 : Int) (c9 : List S68) (c10 : List S31) : Option (Int × Int × Bool × Bool × Int × Int × Int × (List S68) × (List S31)) :=
  call (bif a0 then
      some (IntKind.i64.wrap ((IntKind.i64.wrap (c7 - (1 : Int))) - c2))
    else
      some ((S31.mk a0 c2 c3 c6).f1))
    fun v1 =>
  call (bif a1 then
      some ((IntKind.i64.wrap (c6 + (2 : Int))).tmod (4 : Int))
    else
      some ((S31.mk a0 c2 c3 c6).f3))
    fun v2 =>
  chk (c10.length + ([(S31.mk ((S31.mk a0 c2 c3 c6).f0) v1 ((S31.mk a0 c2 c3 c6).f2) v2)]).length ≤ 4294967296) <|
  some (c2, c3, c4, c5, c6, c7, c8, c9, (c10 ++ ([(S31.mk ((S31.mk a0 c2 c3 c6).f0) v1 ((S31.mk a0 c2 c3 c6).f2) v2)])))

def f8_L0 (F : Nat) (y1 : (List S50) × Int × Int) : Nat → Int → Int → (List S68) → Int → (List S31) → Int → Option ((List S31))
  | 0, _, _, _, _, _, _ => none
  | n + 1, v1, v2, v3, v4, v5, v6 =>
    bif (decide (v6 < (y1.1.length : Int))) then
      chk (0 ≤ v6 ∧ v6 < y1.1.length) <|
      lett ((!(((y1.1.getD v6.toNat (S50.mk 0 0 false false)).f2) == ((y1.1.getD v6.toNat (S50.mk 0 0 false false)).f3)))) fun z1 =>
      call (f26 F z1 ((y1.1.getD v6.toNat (S50.mk 0 0 false false)).f3) ((y1.1.getD v6.toNat (S50.mk 0 0 false false)).f0) ((y1.1.getD v6.toNat (S50.mk 0 0 false false)).f1) ((y1.1.getD v6.toNat (S50.mk 0 0 false false)).f2) ((y1.1.getD v6.toNat (S50.mk 0 0 false false)).f3) v4 v1 v2 v3 v5) fun y2 =>
      call (f26 F (!z1) (!(y2.2.2.2.1 == ((y2.2.2.2.2.1.tmod (2 : Int)) == (1 : Int)))) y2.1 y2.2.1 y2.2.2.1 y2.2.2.2.1 y2.2.2.2.2.1 y2.2.2.2.2.2.1 y2.2.2.2.2.2.2.1 y2.2.2.2.2.2.2.2.1 y2.2.2.2.2.2.2.2.2) fun y3 =>
      f8_L0 F y1 n y3.2.2.2.2.2.1 y3.2.2.2.2.2.2.1 y3.2.2.2.2.2.2.2.1 y3.2.2.2.2.1 y3.2.2.2.2.2.2.2.2 (IntKind.i64.wrap (v6 + (1 : Int)))
    else
      some v5

/-- printworks/fold.Pages -/
def f8 (F : Nat) (a0 : S23) : Option ((List S31) × Int) :=
  call (f25 F (S23.mk a0.f0 a0.f1 a0.f2)) fun y1 =>
  bif (y1.2.2 != (0 : Int)) then
    some ([], y1.2.2)
  else
    chk (0 ≤ y1.2.1 ∧ y1.2.1 < ([(0 : Int), (2 : Int), (1 : Int), (3 : Int)]).length) <|
    call (f8_L0 F y1 F a0.f0 a0.f1 a0.f2 (([(0 : Int), (2 : Int), (1 : Int), (3 : Int)]).getD y1.2.1.toNat 0) [] (0 : Int))
      fun v7 =>
    some (v7, (0 : Int))

/-- printworks/fold.Pairs$1 -/
def f34 (F : Nat) (a0 : S50) (c1 : Int) (c2 : Int) : Option (Bool × Int × Int) :=
  some ((bif (a0.f0 == c1) then (a0.f1 == c2) else false), c1, c2)

def f33_L0 (F : Nat) (a0 : List S50) : Nat → Int → Int → Int → Option (Out (Int × Int) (Int × Int × Int))
  | 0, _, _, _ => none
  | n + 1, v1, v2, v3 =>
    bif (decide (v1 < (a0.length : Int))) then
      chk (0 ≤ v1 ∧ v1 < a0.length) <|
      call (f34 F (a0.getD v1.toNat (S50.mk 0 0 false false)) v2 v3) fun y1 =>
      bif y1.1 then
        some (.esc (v1, y1.2.1, y1.2.2))
      else
        f33_L0 F a0 n (IntKind.i64.wrap (v1 + (1 : Int))) y1.2.1 y1.2.2
    else
      some (.go (v2, v3))

/-- slices.IndexFunc[[]printworks/api.FoldLeaf,printworks/api.FoldLeaf] -/
def f33 (F : Nat) (a0 : List S50) (c1 : Int) (c2 : Int) : Option (Int × Int × Int) :=
  callE (f33_L0 F a0 F (0 : Int) c1 c2)
    (fun e => some e) fun (v4, v5) =>
  some ((-1 : Int), v4, v5)

def f13_L0 (F : Nat) (a0 : S23) (y1 : (List S50) × Int × Int) : Nat → (List Int) → Int → Option ((List Int))
  | 0, _, _ => none
  | n + 1, v1, v2 =>
    bif (decide (v2 < (y1.1.length : Int))) then
      chk (0 ≤ v2 ∧ v2 < y1.1.length) <|
      call (bif ((a0.f2.length : Int) == (0 : Int)) then
          some ((-1 : Int), (y1.1.getD v2.toNat (S50.mk 0 0 false false)).f1)
        else
          call (bif (bif (y1.2.1 == (0 : Int)) then (!((y1.1.getD v2.toNat (S50.mk 0 0 false false)).f2)) else false) then
              some (bif (y1.2.1 == (0 : Int)) then (!((y1.1.getD v2.toNat (S50.mk 0 0 false false)).f2)) else false)
            else
              some (bif (y1.2.1 == (1 : Int)) then ((y1.1.getD v2.toNat (S50.mk 0 0 false false)).f2) else false))
            fun v3 =>
          bif v3 then
            some (IntKind.i64.wrap (((y1.1.getD v2.toNat (S50.mk 0 0 false false)).f0) - (1 : Int)), (y1.1.getD v2.toNat (S50.mk 0 0 false false)).f1)
          else
            call (bif (y1.2.1 == (0 : Int)) then
                some (y1.2.1 == (0 : Int))
              else
                some (y1.2.1 == (1 : Int)))
              fun v4 =>
            bif v4 then
              some (IntKind.i64.wrap (((y1.1.getD v2.toNat (S50.mk 0 0 false false)).f0) + (1 : Int)), (y1.1.getD v2.toNat (S50.mk 0 0 false false)).f1)
            else
              call (bif (bif (y1.2.1 == (2 : Int)) then (!((y1.1.getD v2.toNat (S50.mk 0 0 false false)).f3)) else false) then
                  some (bif (y1.2.1 == (2 : Int)) then (!((y1.1.getD v2.toNat (S50.mk 0 0 false false)).f3)) else false)
                else
                  some (bif (y1.2.1 == (3 : Int)) then ((y1.1.getD v2.toNat (S50.mk 0 0 false false)).f3) else false))
                fun v5 =>
              bif v5 then
                some ((y1.1.getD v2.toNat (S50.mk 0 0 false false)).f0, IntKind.i64.wrap (((y1.1.getD v2.toNat (S50.mk 0 0 false false)).f1) - (1 : Int)))
              else
                some ((y1.1.getD v2.toNat (S50.mk 0 0 false false)).f0, IntKind.i64.wrap (((y1.1.getD v2.toNat (S50.mk 0 0 false false)).f1) + (1 : Int))))
        fun (v6, v7) =>
      call (f33 F y1.1 v6 v7) fun y2 =>
      chk (v1.length + ([y2.1]).length ≤ 4294967296) <|
      f13_L0 F a0 y1 n (v1 ++ ([y2.1])) (IntKind.i64.wrap (v2 + (1 : Int)))
    else
      some v1

/-- printworks/fold.Pairs -/
def f13 (F : Nat) (a0 : S23) : Option ((List Int) × Int) :=
  call (f25 F (S23.mk a0.f0 a0.f1 a0.f2)) fun y1 =>
  bif (y1.2.2 != (0 : Int)) then
    some ([], y1.2.2)
  else
    call (f13_L0 F a0 y1 F [] (0 : Int))
      fun v8 =>
    some (v8, (0 : Int))

def f10_L0 (F : Nat) (a0 : List S31) (a1 : List S31) : Nat → Int → Option (Out Unit Bool)
  | 0, _ => none
  | n + 1, v1 =>
    bif (decide (v1 < (a0.length : Int))) then
      chk (0 ≤ v1 ∧ v1 < a0.length) <|
      chk (0 ≤ v1 ∧ v1 < a1.length) <|
      lett ((!((a0.getD v1.toNat (S31.mk false 0 0 0)).f0 == (a1.getD v1.toNat (S31.mk false 0 0 0)).f0 && ((a0.getD v1.toNat (S31.mk false 0 0 0)).f1 == (a1.getD v1.toNat (S31.mk false 0 0 0)).f1 && ((a0.getD v1.toNat (S31.mk false 0 0 0)).f2 == (a1.getD v1.toNat (S31.mk false 0 0 0)).f2 && ((a0.getD v1.toNat (S31.mk false 0 0 0)).f3 == (a1.getD v1.toNat (S31.mk false 0 0 0)).f3 && true)))))) fun z1 =>
      bif z1 then
        some (.esc false)
      else
        f10_L0 F a0 a1 n (IntKind.i64.wrap (v1 + (1 : Int)))
    else
      some (.go ())

/-- slices.Equal[[]printworks/api.FoldPage,printworks/api.FoldPage] -/
def f10 (F : Nat) (a0 : List S31) (a1 : List S31) : Option Bool :=
  bif ((a0.length : Int) != (a1.length : Int)) then
    some false
  else
    callE (f10_L0 F a0 a1 F (0 : Int))
      (fun e => some e) fun _ =>
    some true

def f14_L0 (F : Nat) (a0 : List Int) (a1 : List Int) : Nat → Int → Option (Out Unit Bool)
  | 0, _ => none
  | n + 1, v1 =>
    bif (decide (v1 < (a0.length : Int))) then
      chk (0 ≤ v1 ∧ v1 < a0.length) <|
      chk (0 ≤ v1 ∧ v1 < a1.length) <|
      bif ((a0.getD v1.toNat 0) != (a1.getD v1.toNat 0)) then
        some (.esc false)
      else
        f14_L0 F a0 a1 n (IntKind.i64.wrap (v1 + (1 : Int)))
    else
      some (.go ())

/-- slices.Equal[[]int,int] -/
def f14 (F : Nat) (a0 : List Int) (a1 : List Int) : Option Bool :=
  bif ((a0.length : Int) != (a1.length : Int)) then
    some false
  else
    callE (f14_L0 F a0 a1 F (0 : Int))
      (fun e => some e) fun _ =>
    some true

/-- printworks/printworkslaw3.foldFact -/
def f7 (F : Nat)  : Option Bool :=
  call (f24 F) fun y1 =>
  call (f8 F y1) fun y2 =>
  call (f24 F) fun y3 =>
  call (f13 F y3) fun y4 =>
  call ((bif (((bif (y2.2 == (0 : Int)) then (y4.2 == (0 : Int)) else false) == true) && true) then f10 F y2.1 ([(S31.mk true (1 : Int) 0 0), (S31.mk false 0 0 0), (S31.mk false (1 : Int) 0 0), (S31.mk true 0 0 0)]) else some false)) fun y5 =>
  call ((bif (((bif (bif (y2.2 == (0 : Int)) then (y4.2 == (0 : Int)) else false) then y5 else false) == true) && true) then f14 F y4.1 ([(1 : Int), (0 : Int)]) else some false)) fun y6 =>
  lett ((bif (bif (bif (y2.2 == (0 : Int)) then (y4.2 == (0 : Int)) else false) then y5 else false) then y6 else false)) fun z1 =>
  some z1

def f31_L2 (F : Nat) (a0 : S23) (v1 : Int) : Nat → (List Int) → (List Int) → (List Int) → (List Int) → (List Int) → (List Int) → (List Int) → Int → Option ((List Int) × (List Int) × (List Int) × (List Int) × (List Int) × (List Int) × (List Int))
  | 0, _, _, _, _, _, _, _, _ => none
  | n + 1, v2, v3, v4, v5, v6, v7, v8, v9 =>
    bif (decide (v9 < a0.f0)) then
      chk (v2.length + ([v9]).length ≤ 4294967296) <|
      chk (v3.length + ([v1]).length ≤ 4294967296) <|
      chk (v4.length + ([IntKind.i64.wrap (v9 + (1 : Int))]).length ≤ 4294967296) <|
      chk (v5.length + ([v1]).length ≤ 4294967296) <|
      chk (v6.length + ([v9]).length ≤ 4294967296) <|
      chk (v7.length + ([IntKind.i64.wrap (v1 + (1 : Int))]).length ≤ 4294967296) <|
      chk (v8.length + ([(0 : Int)]).length ≤ 4294967296) <|
      f31_L2 F a0 v1 n (v2 ++ ([v9])) (v3 ++ ([v1])) (v4 ++ ([IntKind.i64.wrap (v9 + (1 : Int))])) (v5 ++ ([v1])) (v6 ++ ([v9])) (v7 ++ ([IntKind.i64.wrap (v1 + (1 : Int))])) (v8 ++ ([(0 : Int)])) (IntKind.i64.wrap (v9 + (1 : Int)))
    else
      some (v2, v3, v4, v5, v6, v7, v8)

def f31_L0 (F : Nat) (a0 : S23) : Nat → (List Int) → (List Int) → (List Int) → (List Int) → (List Int) → (List Int) → (List Int) → Int → Option ((List Int) × (List Int) × (List Int) × (List Int) × (List Int) × (List Int) × (List Int))
  | 0, _, _, _, _, _, _, _, _ => none
  | n + 1, v10, v11, v12, v13, v14, v15, v16, v1 =>
    bif (decide (v1 < a0.f1)) then
      call (f31_L2 F a0 v1 F v10 v11 v12 v13 v14 v15 v16 (0 : Int))
        fun (v17, v18, v19, v20, v21, v22, v23) =>
      f31_L0 F a0 n v17 v18 v19 v20 v21 v22 v23 (IntKind.i64.wrap (v1 + (1 : Int)))
    else
      some (v10, v11, v12, v13, v14, v15, v16)

/-- printworks/printworksref3.Laid -/
def f31 (F : Nat) (a0 : S23) : Option S47 :=
  call (f31_L0 F a0 F [] [] [] [] [] [] [] (0 : Int))
    fun (v24, v25, v26, v27, v28, v29, v30) =>
  some (S47.mk v24 v25 v26 v27 v28 v29 v30 0 0 a0.f0 a0.f1 a0.f0)

/-- (*printworks/printworksref3.Sheet).leftTop -/
def f38 (F : Nat) (a0 : Int) (c1 : List Int) (c2 : List Int) (c3 : List Int) (c4 : List Int) (c5 : List Int) (c6 : List Int) (c7 : List Int) (c8 : Int) (c9 : Int) (c10 : Int) (c11 : Int) (c12 : Int) : Option (Int × Int × (List Int) × (List Int) × (List Int) × (List Int) × (List Int) × (List Int) × (List Int) × Int × Int × Int × Int × Int) :=
  chk (0 ≤ a0 ∧ a0 < c3.length) <|
  chk (0 ≤ a0 ∧ a0 < c5.length) <|
  chk (0 ≤ a0 ∧ a0 < c1.length) <|
  lett (IntKind.i64.wrap ((IntKind.i64.wrap ((c3.getD a0.toNat 0) + (c5.getD a0.toNat 0))) - (c1.getD a0.toNat 0))) fun z1 =>
  chk (0 ≤ a0 ∧ a0 < c4.length) <|
  chk (0 ≤ a0 ∧ a0 < c6.length) <|
  chk (0 ≤ a0 ∧ a0 < c2.length) <|
  lett (IntKind.i64.wrap ((IntKind.i64.wrap ((c4.getD a0.toNat 0) + (c6.getD a0.toNat 0))) - (c2.getD a0.toNat 0))) fun z2 =>
  chk (0 ≤ a0 ∧ a0 < c1.length) <|
  chk (0 ≤ a0 ∧ a0 < c3.length) <|
  chk (0 ≤ a0 ∧ a0 < c5.length) <|
  lett ((if (c5.getD a0.toNat 0) < (if (c3.getD a0.toNat 0) < (if z1 < (c1.getD a0.toNat 0) then z1 else (c1.getD a0.toNat 0)) then (c3.getD a0.toNat 0) else (if z1 < (c1.getD a0.toNat 0) then z1 else (c1.getD a0.toNat 0))) then (c5.getD a0.toNat 0) else (if (c3.getD a0.toNat 0) < (if z1 < (c1.getD a0.toNat 0) then z1 else (c1.getD a0.toNat 0)) then (c3.getD a0.toNat 0) else (if z1 < (c1.getD a0.toNat 0) then z1 else (c1.getD a0.toNat 0))))) fun z3 =>
  chk (0 ≤ a0 ∧ a0 < c2.length) <|
  chk (0 ≤ a0 ∧ a0 < c4.length) <|
  chk (0 ≤ a0 ∧ a0 < c6.length) <|
  lett ((if (c6.getD a0.toNat 0) < (if (c4.getD a0.toNat 0) < (if z2 < (c2.getD a0.toNat 0) then z2 else (c2.getD a0.toNat 0)) then (c4.getD a0.toNat 0) else (if z2 < (c2.getD a0.toNat 0) then z2 else (c2.getD a0.toNat 0))) then (c6.getD a0.toNat 0) else (if (c4.getD a0.toNat 0) < (if z2 < (c2.getD a0.toNat 0) then z2 else (c2.getD a0.toNat 0)) then (c4.getD a0.toNat 0) else (if z2 < (c2.getD a0.toNat 0) then z2 else (c2.getD a0.toNat 0))))) fun z4 =>
  some (z3, z4, c1, c2, c3, c4, c5, c6, c7, c8, c9, c10, c11, c12)

/-- (*printworks/printworksref3.Sheet).leftTop -/
def f38_1 (F : Nat) (a0 : Int) (c1 : List Int) (c2 : List Int) (c3 : List Int) (c4 : List Int) (c5 : List Int) (c6 : List Int) (c7 : List Int) (c8 : Int) (c9 : Int) (c10 : Int) (c11 : Int) (c12 : Int) : Option (Int × Int × (List Int) × (List Int) × (List Int) × (List Int) × (List Int) × (List Int) × (List Int) × Int × Int × Int × Int × Int) :=
  chk (0 ≤ a0 ∧ a0 < c3.length) <|
  chk (0 ≤ a0 ∧ a0 < c5.length) <|
  chk (0 ≤ a0 ∧ a0 < c1.length) <|
  lett (IntKind.i64.wrap ((IntKind.i64.wrap ((c3.getD a0.toNat 0) + (c5.getD a0.toNat 0))) - (c1.getD a0.toNat 0))) fun z1 =>
  chk (0 ≤ a0 ∧ a0 < c4.length) <|
  chk (0 ≤ a0 ∧ a0 < c6.length) <|
  chk (0 ≤ a0 ∧ a0 < c2.length) <|
  lett (IntKind.i64.wrap ((IntKind.i64.wrap ((c4.getD a0.toNat 0) + (c6.getD a0.toNat 0))) - (c2.getD a0.toNat 0))) fun z2 =>
  chk (0 ≤ a0 ∧ a0 < c1.length) <|
  chk (0 ≤ a0 ∧ a0 < c3.length) <|
  chk (0 ≤ a0 ∧ a0 < c5.length) <|
  lett ((if (c5.getD a0.toNat 0) < (if (c3.getD a0.toNat 0) < (if z1 < (c1.getD a0.toNat 0) then z1 else (c1.getD a0.toNat 0)) then (c3.getD a0.toNat 0) else (if z1 < (c1.getD a0.toNat 0) then z1 else (c1.getD a0.toNat 0))) then (c5.getD a0.toNat 0) else (if (c3.getD a0.toNat 0) < (if z1 < (c1.getD a0.toNat 0) then z1 else (c1.getD a0.toNat 0)) then (c3.getD a0.toNat 0) else (if z1 < (c1.getD a0.toNat 0) then z1 else (c1.getD a0.toNat 0))))) fun z3 =>
  chk (0 ≤ a0 ∧ a0 < c2.length) <|
  chk (0 ≤ a0 ∧ a0 < c4.length) <|
  chk (0 ≤ a0 ∧ a0 < c6.length) <|
  lett ((if (c6.getD a0.toNat 0) < (if (c4.getD a0.toNat 0) < (if z2 < (c2.getD a0.toNat 0) then z2 else (c2.getD a0.toNat 0)) then (c4.getD a0.toNat 0) else (if z2 < (c2.getD a0.toNat 0) then z2 else (c2.getD a0.toNat 0))) then (c6.getD a0.toNat 0) else (if (c4.getD a0.toNat 0) < (if z2 < (c2.getD a0.toNat 0) then z2 else (c2.getD a0.toNat 0)) then (c4.getD a0.toNat 0) else (if z2 < (c2.getD a0.toNat 0) then z2 else (c2.getD a0.toNat 0))))) fun z4 =>
  some (z3, z4, c1, c2, c3, c4, c5, c6, c7, c8, c9, c10, c11, c12)

def f32_L0 (F : Nat) (c7 : List Int) : Nat → Int → Int → Int → Option (Int × Int)
  | 0, _, _, _ => none
  | n + 1, v1, v2, v3 =>
    bif (decide (v3 < (c7.length : Int))) then
      chk (0 ≤ v3 ∧ v3 < c7.length) <|
      f32_L0 F c7 n (if (c7.getD v3.toNat 0) < v1 then (c7.getD v3.toNat 0) else v1) (if v2 < (c7.getD v3.toNat 0) then (c7.getD v3.toNat 0) else v2) (IntKind.i64.wrap (v3 + (1 : Int)))
    else
      some (v1, v2)

def f32_L2 (F : Nat) (a0 : S68) (c7 : List Int) (v4 : Int) (v5 : Int) (v6 : Int) : Nat → Int → (List Int) → (List Int) → (List Int) → (List Int) → (List Int) → (List Int) → (List Int) → Int → Int → Int → Int → Int → Option ((List Int) × (List Int) × (List Int) × (List Int) × (List Int) × (List Int) × (List Int) × Int × Int × Int × Int × Int)
  | 0, _, _, _, _, _, _, _, _, _, _, _, _, _ => none
  | n + 1, v7, v8, v9, v10, v11, v12, v13, v14, v15, v16, v17, v18, v19 =>
    bif (decide (v7 < (c7.length : Int))) then
      call (call (f38 F v7 v8 v9 v10 v11 v12 v13 v14 v15 v16 v17 v18 v19) fun y1 =>
        call (bif (decide (a0.f0 < (2 : Int))) then
            some y1.1
          else
            some y1.2.1)
          fun v20 =>
        bif (!((decide (v20 < v4)) == (bif (a0.f0 == (0 : Int)) then true else (a0.f0 == (2 : Int))))) then
          some (y1.2.2.1, y1.2.2.2.1, y1.2.2.2.2.1, y1.2.2.2.2.2.1, y1.2.2.2.2.2.2.1, y1.2.2.2.2.2.2.2.1, y1.2.2.2.2.2.2.2.2.1, y1.2.2.2.2.2.2.2.2.2.1, y1.2.2.2.2.2.2.2.2.2.2.1, y1.2.2.2.2.2.2.2.2.2.2.2.1, y1.2.2.2.2.2.2.2.2.2.2.2.2.1, y1.2.2.2.2.2.2.2.2.2.2.2.2.2)
        else
          call (bif (decide (a0.f0 < (2 : Int))) then
              chk (0 ≤ v7 ∧ v7 < y1.2.2.1.length) <|
              chk (0 ≤ v7 ∧ v7 < y1.2.2.2.2.1.length) <|
              chk (0 ≤ v7 ∧ v7 < y1.2.2.2.2.2.2.1.length) <|
              chk (0 ≤ v7 ∧ v7 < y1.2.2.1.length) <|
              chk (0 ≤ v7 ∧ v7 < y1.2.2.2.2.1.length) <|
              chk (0 ≤ v7 ∧ v7 < y1.2.2.2.2.2.2.1.length) <|
              some ((y1.2.2.1.set v7.toNat (IntKind.i64.wrap ((IntKind.i64.wrap ((2 : Int) * v4)) - (y1.2.2.1.getD v7.toNat 0)))), y1.2.2.2.1, (y1.2.2.2.2.1.set v7.toNat (IntKind.i64.wrap ((IntKind.i64.wrap ((2 : Int) * v4)) - (y1.2.2.2.2.1.getD v7.toNat 0)))), y1.2.2.2.2.2.1, (y1.2.2.2.2.2.2.1.set v7.toNat (IntKind.i64.wrap ((IntKind.i64.wrap ((2 : Int) * v4)) - (y1.2.2.2.2.2.2.1.getD v7.toNat 0)))), y1.2.2.2.2.2.2.2.1)
            else
              chk (0 ≤ v7 ∧ v7 < y1.2.2.2.1.length) <|
              chk (0 ≤ v7 ∧ v7 < y1.2.2.2.2.2.1.length) <|
              chk (0 ≤ v7 ∧ v7 < y1.2.2.2.2.2.2.2.1.length) <|
              chk (0 ≤ v7 ∧ v7 < y1.2.2.2.1.length) <|
              chk (0 ≤ v7 ∧ v7 < y1.2.2.2.2.2.1.length) <|
              chk (0 ≤ v7 ∧ v7 < y1.2.2.2.2.2.2.2.1.length) <|
              some (y1.2.2.1, (y1.2.2.2.1.set v7.toNat (IntKind.i64.wrap ((IntKind.i64.wrap ((2 : Int) * v4)) - (y1.2.2.2.1.getD v7.toNat 0)))), y1.2.2.2.2.1, (y1.2.2.2.2.2.1.set v7.toNat (IntKind.i64.wrap ((IntKind.i64.wrap ((2 : Int) * v4)) - (y1.2.2.2.2.2.1.getD v7.toNat 0)))), y1.2.2.2.2.2.2.1, (y1.2.2.2.2.2.2.2.1.set v7.toNat (IntKind.i64.wrap ((IntKind.i64.wrap ((2 : Int) * v4)) - (y1.2.2.2.2.2.2.2.1.getD v7.toNat 0))))))
            fun (v21, v22, v23, v24, v25, v26) =>
          bif a0.f2 then
            chk (0 ≤ v7 ∧ v7 < y1.2.2.2.2.2.2.2.2.1.length) <|
            lett (IntKind.i64.wrap ((IntKind.i64.wrap ((IntKind.i64.wrap ((2 : Int) * v6)) + (1 : Int))) - (y1.2.2.2.2.2.2.2.2.1.getD v7.toNat 0))) fun z1 =>
            chk (0 ≤ v7 ∧ v7 < y1.2.2.2.2.2.2.2.2.1.length) <|
            some (v21, v22, v23, v24, v25, v26, (y1.2.2.2.2.2.2.2.2.1.set v7.toNat z1), y1.2.2.2.2.2.2.2.2.2.1, y1.2.2.2.2.2.2.2.2.2.2.1, y1.2.2.2.2.2.2.2.2.2.2.2.1, y1.2.2.2.2.2.2.2.2.2.2.2.2.1, y1.2.2.2.2.2.2.2.2.2.2.2.2.2)
          else
            chk (0 ≤ v7 ∧ v7 < y1.2.2.2.2.2.2.2.2.1.length) <|
            lett (IntKind.i64.wrap ((IntKind.i64.wrap ((IntKind.i64.wrap ((2 : Int) * v5)) - (1 : Int))) - (y1.2.2.2.2.2.2.2.2.1.getD v7.toNat 0))) fun z2 =>
            chk (0 ≤ v7 ∧ v7 < y1.2.2.2.2.2.2.2.2.1.length) <|
            some (v21, v22, v23, v24, v25, v26, (y1.2.2.2.2.2.2.2.2.1.set v7.toNat z2), y1.2.2.2.2.2.2.2.2.2.1, y1.2.2.2.2.2.2.2.2.2.2.1, y1.2.2.2.2.2.2.2.2.2.2.2.1, y1.2.2.2.2.2.2.2.2.2.2.2.2.1, y1.2.2.2.2.2.2.2.2.2.2.2.2.2))
        fun (v27, v28, v29, v30, v31, v32, v33, v34, v35, v36, v37, v38) =>
      f32_L2 F a0 c7 v4 v5 v6 n (IntKind.i64.wrap (v7 + (1 : Int))) v27 v28 v29 v30 v31 v32 v33 v34 v35 v36 v37 v38
    else
      some (v8, v9, v10, v11, v12, v13, v14, v15, v16, v17, v18, v19)

def f32_L4 (F : Nat) (v39 : List Int) : Nat → Int → (List Int) → (List Int) → (List Int) → (List Int) → (List Int) → (List Int) → (List Int) → Int → Int → Int → Int → Int → Option ((List Int) × (List Int) × (List Int) × (List Int) × (List Int) × (List Int) × (List Int) × Int × Int × Int × Int × Int)
  | 0, _, _, _, _, _, _, _, _, _, _, _, _, _ => none
  | n + 1, v40, v41, v42, v43, v44, v45, v46, v47, v48, v49, v50, v51, v52 =>
    bif (decide (v40 < (v39.length : Int))) then
      call (f38_1 F v40 v41 v42 v43 v44 v45 v46 v47 v48 v49 v50 v51 v52) fun y2 =>
      lett ((if y2.2.2.2.2.2.2.2.2.2.2.2.1 < (IntKind.i64.wrap (y2.1 + (1 : Int))) then (IntKind.i64.wrap (y2.1 + (1 : Int))) else y2.2.2.2.2.2.2.2.2.2.2.2.1)) fun z3 =>
      lett ((if y2.2.2.2.2.2.2.2.2.2.2.2.2.1 < (IntKind.i64.wrap (y2.2.1 + (1 : Int))) then (IntKind.i64.wrap (y2.2.1 + (1 : Int))) else y2.2.2.2.2.2.2.2.2.2.2.2.2.1)) fun z4 =>
      f32_L4 F v39 n (IntKind.i64.wrap (v40 + (1 : Int))) y2.2.2.1 y2.2.2.2.1 y2.2.2.2.2.1 y2.2.2.2.2.2.1 y2.2.2.2.2.2.2.1 y2.2.2.2.2.2.2.2.1 y2.2.2.2.2.2.2.2.2.1 (if y2.1 < y2.2.2.2.2.2.2.2.2.2.1 then y2.1 else y2.2.2.2.2.2.2.2.2.2.1) (if y2.2.1 < y2.2.2.2.2.2.2.2.2.2.2.1 then y2.2.1 else y2.2.2.2.2.2.2.2.2.2.2.1) z3 z4 y2.2.2.2.2.2.2.2.2.2.2.2.2.2
    else
      some (v41, v42, v43, v44, v45, v46, v47, v48, v49, v50, v51, v52)

/-- (*printworks/printworksref3.Sheet).Fold -/
def f32 (F : Nat) (a0 : S68) (c1 : List Int) (c2 : List Int) (c3 : List Int) (c4 : List Int) (c5 : List Int) (c6 : List Int) (c7 : List Int) (c8 : Int) (c9 : Int) (c10 : Int) (c11 : Int) (c12 : Int) : Option ((List Int) × (List Int) × (List Int) × (List Int) × (List Int) × (List Int) × (List Int) × Int × Int × Int × Int × Int) :=
  call (bif (decide (a0.f0 < (2 : Int))) then
      some (IntKind.i64.wrap (c8 + a0.f1))
    else
      some (IntKind.i64.wrap (c9 + a0.f1)))
    fun v4 =>
  call (f32_L0 F c7 F (0 : Int) (0 : Int) (0 : Int))
    fun (v5, v6) =>
  call (f32_L2 F a0 c7 v4 v5 v6 F (0 : Int) c1 c2 c3 c4 c5 c6 c7 c8 c9 c10 c11 c12)
    fun (v53, v54, v55, v56, v57, v58, v39, v59, v60, v61, v62, v63) =>
  call (f32_L4 F v39 F (0 : Int) v53 v54 v55 v56 v57 v58 v39 (1048576 : Int) (1048576 : Int) (-1048576 : Int) (-1048576 : Int) v63)
    fun (v64, v65, v66, v67, v68, v69, v70, v71, v72, v73, v74, v75) =>
  some (v64, v65, v66, v67, v68, v69, v70, v71, v72, v73, v74, v75)

def f12_L0 (F : Nat) (a0 : S23) : Nat → (List Int) → (List Int) → (List Int) → (List Int) → (List Int) → (List Int) → (List Int) → Int → Int → Int → Int → Int → Int → Option (Out Unit Int)
  | 0, _, _, _, _, _, _, _, _, _, _, _, _, _ => none
  | n + 1, v1, v2, v3, v4, v5, v6, v7, v8, v9, v10, v11, v12, v13 =>
    bif (decide (v13 < (a0.f2.length : Int))) then
      chk (0 ≤ v13 ∧ v13 < a0.f2.length) <|
      lett ((bif (decide (((a0.f2.getD v13.toNat (S68.mk 0 0 false)).f0) < (0 : Int))) then true else (decide (((a0.f2.getD v13.toNat (S68.mk 0 0 false)).f0) > (3 : Int))))) fun z1 =>
      bif z1 then
        some (.esc (14 : Int))
      else
        call (bif (decide (((a0.f2.getD v13.toNat (S68.mk 0 0 false)).f0) < (2 : Int))) then
            some (IntKind.i64.wrap (v10 - v8))
          else
            some (IntKind.i64.wrap (v11 - v9)))
          fun v14 =>
        lett ((bif (decide (((a0.f2.getD v13.toNat (S68.mk 0 0 false)).f1) < (1 : Int))) then true else (decide (((a0.f2.getD v13.toNat (S68.mk 0 0 false)).f1) ≥ v14)))) fun z2 =>
        bif z2 then
          some (.esc (3 : Int))
        else
          call (f32 F (S68.mk ((a0.f2.getD v13.toNat (S68.mk 0 0 false)).f0) ((a0.f2.getD v13.toNat (S68.mk 0 0 false)).f1) ((a0.f2.getD v13.toNat (S68.mk 0 0 false)).f2)) v1 v2 v3 v4 v5 v6 v7 v8 v9 v10 v11 v12) fun y1 =>
          f12_L0 F a0 n y1.1 y1.2.1 y1.2.2.1 y1.2.2.2.1 y1.2.2.2.2.1 y1.2.2.2.2.2.1 y1.2.2.2.2.2.2.1 y1.2.2.2.2.2.2.2.1 y1.2.2.2.2.2.2.2.2.1 y1.2.2.2.2.2.2.2.2.2.1 y1.2.2.2.2.2.2.2.2.2.2.1 y1.2.2.2.2.2.2.2.2.2.2.2 (IntKind.i64.wrap (v13 + (1 : Int)))
    else
      some (.go ())

/-- printworks/printworksref3.FoldError -/
def f12 (F : Nat) (a0 : S23) : Option Int :=
  lett ((bif (bif (decide (a0.f0 < (1 : Int))) then true else (decide (a0.f1 < (1 : Int)))) then true else (decide (a0.f0 > (8 : Int))))) fun z3 =>
  bif (bif z3 then true else (decide (a0.f1 > (8 : Int)))) then
    some (3 : Int)
  else
    lett ((bif (decide ((IntKind.i64.wrap (a0.f0 * a0.f1)) > (32 : Int))) then true else (decide ((a0.f2.length : Int) > (8 : Int))))) fun z4 =>
    bif z4 then
      some (2 : Int)
    else
      call (f31 F (S23.mk a0.f0 a0.f1 a0.f2)) fun y2 =>
      callE (f12_L0 F a0 F y2.f0 y2.f1 y2.f2 y2.f3 y2.f4 y2.f5 y2.f6 y2.f7 y2.f8 y2.f9 y2.f10 y2.f11 (0 : Int))
        (fun e => some e) fun _ =>
      some (0 : Int)

def f18_L0 (F : Nat) (a0 : S23) (a1 : Int) : Nat → (List Int) → (List Int) → (List Int) → (List Int) → (List Int) → (List Int) → (List Int) → Int → Int → Int → Int → Int → Int → Option ((List Int) × (List Int) × (List Int) × (List Int) × (List Int) × (List Int) × (List Int) × Int × Int × Int × Int × Int)
  | 0, _, _, _, _, _, _, _, _, _, _, _, _, _ => none
  | n + 1, v1, v2, v3, v4, v5, v6, v7, v8, v9, v10, v11, v12, v13 =>
    bif (decide (v13 < (((a0.f2.drop (0 : Int).toNat).take (a1.toNat - (0 : Int).toNat)).length : Int))) then
      chk (0 ≤ v13 ∧ v13 < ((a0.f2.drop (0 : Int).toNat).take (a1.toNat - (0 : Int).toNat)).length) <|
      call (f32 F (S68.mk ((((a0.f2.drop (0 : Int).toNat).take (a1.toNat - (0 : Int).toNat)).getD v13.toNat (S68.mk 0 0 false)).f0) ((((a0.f2.drop (0 : Int).toNat).take (a1.toNat - (0 : Int).toNat)).getD v13.toNat (S68.mk 0 0 false)).f1) ((((a0.f2.drop (0 : Int).toNat).take (a1.toNat - (0 : Int).toNat)).getD v13.toNat (S68.mk 0 0 false)).f2)) v1 v2 v3 v4 v5 v6 v7 v8 v9 v10 v11 v12) fun y1 =>
      f18_L0 F a0 a1 n y1.1 y1.2.1 y1.2.2.1 y1.2.2.2.1 y1.2.2.2.2.1 y1.2.2.2.2.2.1 y1.2.2.2.2.2.2.1 y1.2.2.2.2.2.2.2.1 y1.2.2.2.2.2.2.2.2.1 y1.2.2.2.2.2.2.2.2.2.1 y1.2.2.2.2.2.2.2.2.2.2.1 y1.2.2.2.2.2.2.2.2.2.2.2 (IntKind.i64.wrap (v13 + (1 : Int)))
    else
      some (v1, v2, v3, v4, v5, v6, v7, v8, v9, v10, v11, v12)

/-- printworks/printworksref3.Folded -/
def f18 (F : Nat) (a0 : S23) (a1 : Int) : Option S47 :=
  call (f31 F (S23.mk a0.f0 a0.f1 a0.f2)) fun y2 =>
  chk (0 ≤ (0 : Int) ∧ (0 : Int) ≤ a1 ∧ a1 ≤ (a0.f2.length : Int)) <|
  call (f18_L0 F a0 a1 F y2.f0 y2.f1 y2.f2 y2.f3 y2.f4 y2.f5 y2.f6 y2.f7 y2.f8 y2.f9 y2.f10 y2.f11 (0 : Int))
    fun (v14, v15, v16, v17, v18, v19, v20, v21, v22, v23, v24, v25) =>
  some (S47.mk v14 v15 v16 v17 v18 v19 v20 v21 v22 v23 v24 v25)

/-- printworks/printworksref3.spine -/
def f27 (F : Nat) (a0 : S23) : Option (Int × Int) :=
  bif ((a0.f2.length : Int) == (0 : Int)) then
    some ((-1 : Int), (0 : Int))
  else
    chk (0 ≤ (IntKind.i64.wrap ((a0.f2.length : Int) - (1 : Int))) ∧ (IntKind.i64.wrap ((a0.f2.length : Int) - (1 : Int))) < a0.f2.length) <|
    lett ((((a0.f2.getD (IntKind.i64.wrap ((a0.f2.length : Int) - (1 : Int))).toNat (S68.mk 0 0 false)).f0) == (0 : Int))) fun z1 =>
    bif z1 then
      some ((-1 : Int), (0 : Int))
    else
      lett ((((a0.f2.getD (IntKind.i64.wrap ((a0.f2.length : Int) - (1 : Int))).toNat (S68.mk 0 0 false)).f0) == (1 : Int))) fun z2 =>
      bif z2 then
        some ((1 : Int), (0 : Int))
      else
        lett ((((a0.f2.getD (IntKind.i64.wrap ((a0.f2.length : Int) - (1 : Int))).toNat (S68.mk 0 0 false)).f0) == (2 : Int))) fun z3 =>
        bif z3 then
          some ((0 : Int), (-1 : Int))
        else
          some ((0 : Int), (1 : Int))

def f19_L0 (F : Nat) (a0 : Int) (a1 : Int) (c8 : List Int) : Nat → (List Int) → Int → (List Int) → (List Int) → (List Int) → (List Int) → (List Int) → (List Int) → (List Int) → Int → Int → Int → Int → Int → Option ((List Int) × (List Int) × (List Int) × (List Int) × (List Int) × (List Int) × (List Int) × (List Int) × Int × Int × Int × Int × Int)
  | 0, _, _, _, _, _, _, _, _, _, _, _, _, _, _ => none
  | n + 1, v1, v2, v3, v4, v5, v6, v7, v8, v9, v10, v11, v12, v13, v14 =>
    bif (decide (v2 < (c8.length : Int))) then
      call (call (f38 F v2 v3 v4 v5 v6 v7 v8 v9 v10 v11 v12 v13 v14) fun y1 =>
        lett ((bif (y1.1 == (IntKind.i64.wrap (y1.2.2.2.2.2.2.2.2.2.1 + a0))) then (y1.2.1 == (IntKind.i64.wrap (y1.2.2.2.2.2.2.2.2.2.2.1 + a1))) else false)) fun z1 =>
        bif z1 then
          chk (v1.length + ([v2]).length ≤ 4294967296) <|
          some ((v1 ++ ([v2])), y1.2.2.1, y1.2.2.2.1, y1.2.2.2.2.1, y1.2.2.2.2.2.1, y1.2.2.2.2.2.2.1, y1.2.2.2.2.2.2.2.1, y1.2.2.2.2.2.2.2.2.1, y1.2.2.2.2.2.2.2.2.2.1, y1.2.2.2.2.2.2.2.2.2.2.1, y1.2.2.2.2.2.2.2.2.2.2.2.1, y1.2.2.2.2.2.2.2.2.2.2.2.2.1, y1.2.2.2.2.2.2.2.2.2.2.2.2.2)
        else
          some (v1, y1.2.2.1, y1.2.2.2.1, y1.2.2.2.2.1, y1.2.2.2.2.2.1, y1.2.2.2.2.2.2.1, y1.2.2.2.2.2.2.2.1, y1.2.2.2.2.2.2.2.2.1, y1.2.2.2.2.2.2.2.2.2.1, y1.2.2.2.2.2.2.2.2.2.2.1, y1.2.2.2.2.2.2.2.2.2.2.2.1, y1.2.2.2.2.2.2.2.2.2.2.2.2.1, y1.2.2.2.2.2.2.2.2.2.2.2.2.2))
        fun (v15, v16, v17, v18, v19, v20, v21, v22, v23, v24, v25, v26, v27) =>
      f19_L0 F a0 a1 c8 n v15 (IntKind.i64.wrap (v2 + (1 : Int))) v16 v17 v18 v19 v20 v21 v22 v23 v24 v25 v26 v27
    else
      some (v1, v3, v4, v5, v6, v7, v8, v9, v10, v11, v12, v13, v14)

def f19_L4 (F : Nat) (v28 : List Int) : Nat → (List Int) → Int → Option ((List Int))
  | 0, _, _ => none
  | n + 1, v29, v30 =>
    chk ((((decide (v30 > (0 : Int))) == true) && true) = true → 0 ≤ v30 ∧ v30 < v29.length) <|
    chk ((((decide (v30 > (0 : Int))) == true) && true) = true → 0 ≤ (v29.getD v30.toNat 0) ∧ (v29.getD v30.toNat 0) < v28.length) <|
    chk ((((decide (v30 > (0 : Int))) == true) && true) = true → 0 ≤ (IntKind.i64.wrap (v30 - (1 : Int))) ∧ (IntKind.i64.wrap (v30 - (1 : Int))) < v29.length) <|
    chk ((((decide (v30 > (0 : Int))) == true) && true) = true → 0 ≤ (v29.getD (IntKind.i64.wrap (v30 - (1 : Int))).toNat 0) ∧ (v29.getD (IntKind.i64.wrap (v30 - (1 : Int))).toNat 0) < v28.length) <|
    lett ((decide ((v28.getD (v29.getD v30.toNat 0).toNat 0) > (v28.getD (v29.getD (IntKind.i64.wrap (v30 - (1 : Int))).toNat 0).toNat 0)))) fun z2 =>
    bif (bif (decide (v30 > (0 : Int))) then z2 else false) then
      chk (0 ≤ (IntKind.i64.wrap (v30 - (1 : Int))) ∧ (IntKind.i64.wrap (v30 - (1 : Int))) < v29.length) <|
      chk (0 ≤ v30 ∧ v30 < v29.length) <|
      chk (0 ≤ v30 ∧ v30 < v29.length) <|
      chk (0 ≤ (IntKind.i64.wrap (v30 - (1 : Int))) ∧ (IntKind.i64.wrap (v30 - (1 : Int))) < (v29.set v30.toNat (v29.getD (IntKind.i64.wrap (v30 - (1 : Int))).toNat 0)).length) <|
      f19_L4 F v28 n ((v29.set v30.toNat (v29.getD (IntKind.i64.wrap (v30 - (1 : Int))).toNat 0)).set (IntKind.i64.wrap (v30 - (1 : Int))).toNat (v29.getD v30.toNat 0)) (IntKind.i64.wrap (v30 - (1 : Int)))
    else
      some v29

def f19_L2 (F : Nat) (v31 : List Int) (v28 : List Int) : Nat → (List Int) → Int → Option ((List Int))
  | 0, _, _ => none
  | n + 1, v32, v33 =>
    bif (decide (v33 < (v31.length : Int))) then
      call (f19_L4 F v28 F v32 v33)
        fun v34 =>
      f19_L2 F v31 v28 n v34 (IntKind.i64.wrap (v33 + (1 : Int)))
    else
      some v32

/-- (*printworks/printworksref3.Sheet).At -/
def f19 (F : Nat) (a0 : Int) (a1 : Int) (c2 : List Int) (c3 : List Int) (c4 : List Int) (c5 : List Int) (c6 : List Int) (c7 : List Int) (c8 : List Int) (c9 : Int) (c10 : Int) (c11 : Int) (c12 : Int) (c13 : Int) : Option ((List Int) × (List Int) × (List Int) × (List Int) × (List Int) × (List Int) × (List Int) × (List Int) × Int × Int × Int × Int × Int) :=
  call (f19_L0 F a0 a1 c8 F [] (0 : Int) c2 c3 c4 c5 c6 c7 c8 c9 c10 c11 c12 c13)
    fun (v31, v35, v36, v37, v38, v39, v40, v28, v41, v42, v43, v44, v45) =>
  call (f19_L2 F v31 v28 F v31 (0 : Int))
    fun v46 =>
  some (v46, v35, v36, v37, v38, v39, v40, v28, v41, v42, v43, v44, v45)

def f9_L2 (F : Nat) (a0 : S23) (y1 : Int × Int) (y2 : (List Int) × (List Int) × (List Int) × (List Int) × (List Int) × (List Int) × (List Int) × (List Int) × Int × Int × Int × Int × Int) (v1 : Int) (z1 : Int) (z2 : Int) (z3 : Int) (z4 : Int) (z5 : Bool) : Nat → (List S31) → Int → Option ((List S31))
  | 0, _, _ => none
  | n + 1, v2, v3 =>
    bif (decide (v3 < (2 : Int))) then
      chk (a0.f0 ≠ 0) <|
      chk (a0.f0 ≠ 0) <|
      lett (IntKind.i64.wrap ((IntKind.i64.wrap ((IntKind.i64.wrap (0 - y1.2)) * z1)) + (IntKind.i64.wrap (y1.1 * z2)))) fun z6 =>
      lett (IntKind.i64.wrap ((IntKind.i64.wrap ((IntKind.i64.wrap (0 - y1.2)) * z3)) + (IntKind.i64.wrap (y1.1 * z4)))) fun z7 =>
      call (lett ((S31.mk (z5 == (v3 == (1 : Int))) ((y2.1.getD v1.toNat 0).tmod a0.f0) (IntKind.i64.wrap ((y2.1.getD v1.toNat 0).tdiv a0.f0)) 0).f0) fun z8 =>
        bif z8 then
          lett ((S31.mk (z5 == (v3 == (1 : Int))) ((y2.1.getD v1.toNat 0).tmod a0.f0) (IntKind.i64.wrap ((y2.1.getD v1.toNat 0).tdiv a0.f0)) 0).f1) fun z9 =>
          some (IntKind.i64.wrap ((IntKind.i64.wrap (a0.f0 - (1 : Int))) - z9), IntKind.i64.wrap (0 - z6))
        else
          some ((S31.mk (z5 == (v3 == (1 : Int))) ((y2.1.getD v1.toNat 0).tmod a0.f0) (IntKind.i64.wrap ((y2.1.getD v1.toNat 0).tdiv a0.f0)) 0).f1, z6))
        fun (v4, v5) =>
      call (bif (decide (z7 < (0 : Int))) then
          some (0 : Int)
        else
          bif (decide (v5 > (0 : Int))) then
            some (1 : Int)
          else
            bif (decide (z7 > (0 : Int))) then
              some (2 : Int)
            else
              some (3 : Int))
        fun v6 =>
      chk (v2.length + ([(S31.mk ((S31.mk (z5 == (v3 == (1 : Int))) ((y2.1.getD v1.toNat 0).tmod a0.f0) (IntKind.i64.wrap ((y2.1.getD v1.toNat 0).tdiv a0.f0)) 0).f0) v4 ((S31.mk (z5 == (v3 == (1 : Int))) ((y2.1.getD v1.toNat 0).tmod a0.f0) (IntKind.i64.wrap ((y2.1.getD v1.toNat 0).tdiv a0.f0)) 0).f2) v6)]).length ≤ 4294967296) <|
      lett ((v2 ++ ([(S31.mk ((S31.mk (z5 == (v3 == (1 : Int))) ((y2.1.getD v1.toNat 0).tmod a0.f0) (IntKind.i64.wrap ((y2.1.getD v1.toNat 0).tdiv a0.f0)) 0).f0) v4 ((S31.mk (z5 == (v3 == (1 : Int))) ((y2.1.getD v1.toNat 0).tmod a0.f0) (IntKind.i64.wrap ((y2.1.getD v1.toNat 0).tdiv a0.f0)) 0).f2) v6)]))) fun l1 =>
      f9_L2 F a0 y1 y2 v1 z1 z2 z3 z4 z5 n l1 (IntKind.i64.wrap (v3 + (1 : Int)))
    else
      some v2

def f9_L0 (F : Nat) (a0 : S23) (y1 : Int × Int) (y2 : (List Int) × (List Int) × (List Int) × (List Int) × (List Int) × (List Int) × (List Int) × (List Int) × Int × Int × Int × Int × Int) : Nat → (List S31) → Int → Option ((List S31))
  | 0, _, _ => none
  | n + 1, v7, v1 =>
    bif (decide (v1 < (y2.1.length : Int))) then
      chk (0 ≤ v1 ∧ v1 < y2.1.length) <|
      chk (0 ≤ (y2.1.getD v1.toNat 0) ∧ (y2.1.getD v1.toNat 0) < y2.2.2.2.1.length) <|
      chk (0 ≤ (y2.1.getD v1.toNat 0) ∧ (y2.1.getD v1.toNat 0) < y2.2.1.length) <|
      lett (IntKind.i64.wrap ((y2.2.2.2.1.getD (y2.1.getD v1.toNat 0).toNat 0) - (y2.2.1.getD (y2.1.getD v1.toNat 0).toNat 0))) fun z1 =>
      chk (0 ≤ (y2.1.getD v1.toNat 0) ∧ (y2.1.getD v1.toNat 0) < y2.2.2.2.2.1.length) <|
      chk (0 ≤ (y2.1.getD v1.toNat 0) ∧ (y2.1.getD v1.toNat 0) < y2.2.2.1.length) <|
      lett (IntKind.i64.wrap ((y2.2.2.2.2.1.getD (y2.1.getD v1.toNat 0).toNat 0) - (y2.2.2.1.getD (y2.1.getD v1.toNat 0).toNat 0))) fun z2 =>
      chk (0 ≤ (y2.1.getD v1.toNat 0) ∧ (y2.1.getD v1.toNat 0) < y2.2.2.2.2.2.1.length) <|
      chk (0 ≤ (y2.1.getD v1.toNat 0) ∧ (y2.1.getD v1.toNat 0) < y2.2.1.length) <|
      lett (IntKind.i64.wrap ((y2.2.2.2.2.2.1.getD (y2.1.getD v1.toNat 0).toNat 0) - (y2.2.1.getD (y2.1.getD v1.toNat 0).toNat 0))) fun z3 =>
      chk (0 ≤ (y2.1.getD v1.toNat 0) ∧ (y2.1.getD v1.toNat 0) < y2.2.2.2.2.2.2.1.length) <|
      chk (0 ≤ (y2.1.getD v1.toNat 0) ∧ (y2.1.getD v1.toNat 0) < y2.2.2.1.length) <|
      lett (IntKind.i64.wrap ((y2.2.2.2.2.2.2.1.getD (y2.1.getD v1.toNat 0).toNat 0) - (y2.2.2.1.getD (y2.1.getD v1.toNat 0).toNat 0))) fun z4 =>
      lett ((decide ((IntKind.i64.wrap ((IntKind.i64.wrap (z1 * z4)) - (IntKind.i64.wrap (z2 * z3)))) > (0 : Int)))) fun z5 =>
      call (f9_L2 F a0 y1 y2 v1 z1 z2 z3 z4 z5 F v7 (0 : Int))
        fun v8 =>
      f9_L0 F a0 y1 y2 n v8 (IntKind.i64.wrap (v1 + (1 : Int)))
    else
      some v7

/-- printworks/printworksref3.Read -/
def f9 (F : Nat) (a0 : S23) : Option ((List S31) × Int) :=
  call (f12 F (S23.mk a0.f0 a0.f1 a0.f2)) fun y3 =>
  bif (y3 != (0 : Int)) then
    some ([], y3)
  else
    call (f18 F (S23.mk a0.f0 a0.f1 a0.f2) (a0.f2.length : Int)) fun y4 =>
    lett ((bif ((IntKind.i64.wrap (y4.f9 - y4.f7)) != (1 : Int)) then true else ((IntKind.i64.wrap (y4.f10 - y4.f8)) != (1 : Int)))) fun z10 =>
    bif z10 then
      some ([], (9 : Int))
    else
      call (f27 F (S23.mk a0.f0 a0.f1 a0.f2)) fun y1 =>
      call (f19 F (0 : Int) (0 : Int) y4.f0 y4.f1 y4.f2 y4.f3 y4.f4 y4.f5 y4.f6 y4.f7 y4.f8 y4.f9 y4.f10 y4.f11) fun y2 =>
      call (f9_L0 F a0 y1 y2 F [] (0 : Int))
        fun v9 =>
      some (v9, (0 : Int))

/-- printworks/printworkslaw3.FoldPagesMatchReference -/
def f3 (F : Nat) (a0 : S23) : Option Bool :=
  call (f7 F) fun y1 =>
  bif (!y1) then
    some false
  else
    call (f8 F (S23.mk a0.f0 a0.f1 a0.f2)) fun y2 =>
    call (f9 F (S23.mk a0.f0 a0.f1 a0.f2)) fun y3 =>
    call ((bif (((y2.2 == y3.2) == true) && true) then f10 F y2.1 y3.1 else some false)) fun y4 =>
    call ((bif (((bif (y2.2 == y3.2) then y4 else false) == true) && true) then f11 F (S23.mk a0.f0 a0.f1 a0.f2) else some 0)) fun y5 =>
    call ((bif (((bif (y2.2 == y3.2) then y4 else false) == true) && true) then f12 F (S23.mk a0.f0 a0.f1 a0.f2) else some 0)) fun y6 =>
    some (bif (bif (y2.2 == y3.2) then y4 else false) then (y5 == y6) else false)

def f15_L2 (F : Nat) (a0 : S23) (y1 : Int × Int) (y2 : (List Int) × (List Int) × (List Int) × (List Int) × (List Int) × (List Int) × (List Int) × (List Int) × Int × Int × Int × Int × Int) (z1 : Int) (z2 : Int) (z3 : Int) : Nat → Int → Int → Option Int
  | 0, _, _ => none
  | n + 1, v1, v2 =>
    bif (decide (v2 < (y2.1.length : Int))) then
      call (chk (0 ≤ v2 ∧ v2 < y2.1.length) <|
        chk ((((decide ((a0.f2.length : Int) > (0 : Int))) == true) && true) = true → a0.f0 ≠ 0) <|
        lett ((bif (decide ((a0.f2.length : Int) > (0 : Int))) then (((y2.1.getD v2.toNat 0).tmod a0.f0) == z2) else false)) fun z4 =>
        chk (((z4 == true) && true) = true → a0.f0 ≠ 0) <|
        lett (((IntKind.i64.wrap ((y2.1.getD v2.toNat 0).tdiv a0.f0)) == (IntKind.i64.wrap (z3 + (IntKind.i64.wrap (y1.2 * z1)))))) fun z5 =>
        bif (bif z4 then z5 else false) then
          some v2
        else
          some v1)
        fun v3 =>
      f15_L2 F a0 y1 y2 z1 z2 z3 n v3 (IntKind.i64.wrap (v2 + (1 : Int)))
    else
      some v1

def f15_L0 (F : Nat) (a0 : S23) (y1 : Int × Int) (y2 : (List Int) × (List Int) × (List Int) × (List Int) × (List Int) × (List Int) × (List Int) × (List Int) × Int × Int × Int × Int × Int) : Nat → (List Int) → Int → Option ((List Int))
  | 0, _, _ => none
  | n + 1, v4, v5 =>
    bif (decide (v5 < (y2.1.length : Int))) then
      chk (0 ≤ v5 ∧ v5 < y2.1.length) <|
      chk (0 ≤ (y2.1.getD v5.toNat 0) ∧ (y2.1.getD v5.toNat 0) < y2.2.2.2.1.length) <|
      chk (0 ≤ (y2.1.getD v5.toNat 0) ∧ (y2.1.getD v5.toNat 0) < y2.2.1.length) <|
      lett (IntKind.i64.wrap ((y2.2.2.2.1.getD (y2.1.getD v5.toNat 0).toNat 0) - (y2.2.1.getD (y2.1.getD v5.toNat 0).toNat 0))) fun z6 =>
      chk (0 ≤ (y2.1.getD v5.toNat 0) ∧ (y2.1.getD v5.toNat 0) < y2.2.2.2.2.1.length) <|
      chk (0 ≤ (y2.1.getD v5.toNat 0) ∧ (y2.1.getD v5.toNat 0) < y2.2.2.1.length) <|
      lett (IntKind.i64.wrap ((y2.2.2.2.2.1.getD (y2.1.getD v5.toNat 0).toNat 0) - (y2.2.2.1.getD (y2.1.getD v5.toNat 0).toNat 0))) fun z7 =>
      chk (0 ≤ (y2.1.getD v5.toNat 0) ∧ (y2.1.getD v5.toNat 0) < y2.2.2.2.2.2.1.length) <|
      chk (0 ≤ (y2.1.getD v5.toNat 0) ∧ (y2.1.getD v5.toNat 0) < y2.2.1.length) <|
      lett (IntKind.i64.wrap ((y2.2.2.2.2.2.1.getD (y2.1.getD v5.toNat 0).toNat 0) - (y2.2.1.getD (y2.1.getD v5.toNat 0).toNat 0))) fun z8 =>
      chk (0 ≤ (y2.1.getD v5.toNat 0) ∧ (y2.1.getD v5.toNat 0) < y2.2.2.2.2.2.2.1.length) <|
      chk (0 ≤ (y2.1.getD v5.toNat 0) ∧ (y2.1.getD v5.toNat 0) < y2.2.2.1.length) <|
      lett (IntKind.i64.wrap ((y2.2.2.2.2.2.2.1.getD (y2.1.getD v5.toNat 0).toNat 0) - (y2.2.2.1.getD (y2.1.getD v5.toNat 0).toNat 0))) fun z1 =>
      chk (a0.f0 ≠ 0) <|
      lett (IntKind.i64.wrap ((IntKind.i64.wrap (((y2.1.getD v5.toNat 0).tmod a0.f0) + (IntKind.i64.wrap (y1.1 * z6)))) + (IntKind.i64.wrap (y1.2 * z7)))) fun z2 =>
      chk (a0.f0 ≠ 0) <|
      lett (IntKind.i64.wrap ((IntKind.i64.wrap ((y2.1.getD v5.toNat 0).tdiv a0.f0)) + (IntKind.i64.wrap (y1.1 * z8)))) fun z3 =>
      call (f15_L2 F a0 y1 y2 z1 z2 z3 F (-1 : Int) (0 : Int))
        fun v6 =>
      chk (v4.length + ([v6]).length ≤ 4294967296) <|
      f15_L0 F a0 y1 y2 n (v4 ++ ([v6])) (IntKind.i64.wrap (v5 + (1 : Int)))
    else
      some v4

/-- printworks/printworksref3.Partners -/
def f15 (F : Nat) (a0 : S23) : Option ((List Int)) :=
  call (f18 F (S23.mk a0.f0 a0.f1 a0.f2) (a0.f2.length : Int)) fun y3 =>
  call (f27 F (S23.mk a0.f0 a0.f1 a0.f2)) fun y1 =>
  call (f19 F (0 : Int) (0 : Int) y3.f0 y3.f1 y3.f2 y3.f3 y3.f4 y3.f5 y3.f6 y3.f7 y3.f8 y3.f9 y3.f10 y3.f11) fun y2 =>
  call (f15_L0 F a0 y1 y2 F [] (0 : Int))
    fun v7 =>
  some v7

/-- printworks/printworkslaw3.FoldPairsMatchReference -/
def f4 (F : Nat) (a0 : S23) : Option Bool :=
  call (f7 F) fun y1 =>
  bif (!y1) then
    some false
  else
    call (f13 F (S23.mk a0.f0 a0.f1 a0.f2)) fun y2 =>
    call (f9 F (S23.mk a0.f0 a0.f1 a0.f2)) fun y3 =>
    bif (y3.2 != (0 : Int)) then
      some (bif (y2.2 == y3.2) then ((y2.1.length : Int) == (0 : Int)) else false)
    else
      call ((bif (((y2.2 == (0 : Int)) == true) && true) then f15 F (S23.mk a0.f0 a0.f1 a0.f2) else some [])) fun y4 =>
      call ((bif (((y2.2 == (0 : Int)) == true) && true) then f14 F y2.1 y4 else some false)) fun y5 =>
      some (bif (y2.2 == (0 : Int)) then y5 else false)

/-- printworks/fold.Size -/
def f16 (F : Nat) (a0 : S23) (a1 : Int) : Option (Int × Int × Int) :=
  call (f35 F (S23.mk a0.f0 a0.f1 a0.f2) a1) fun y1 =>
  some (y1.1.f0, y1.1.f1, y1.2)

/-- slices.Clone[[]printworks/api.FoldLeaf,printworks/api.FoldLeaf] -/
def f36 (F : Nat) (a0 : List S50) : Option ((List S50)) :=
  chk (([] : List S50).length + a0.length ≤ 4294967296) <|
  some (([] : List S50) ++ a0)

/-- printworks/fold.Pile -/
def f17 (F : Nat) (a0 : S23) (a1 : Int) (a2 : Int) (a3 : Int) : Option ((List S50) × Int) :=
  call (f35 F (S23.mk a0.f0 a0.f1 a0.f2) a1) fun y1 =>
  bif (y1.2 != (0 : Int)) then
    some ([], y1.2)
  else
    lett ((bif (bif (decide (a2 < (0 : Int))) then true else (decide (a3 < (0 : Int)))) then true else (decide (a2 ≥ y1.1.f0)))) fun z1 =>
    bif (bif z1 then true else (decide (a3 ≥ y1.1.f1))) then
      some ([], (3 : Int))
    else
      call (f37 F (S65.mk y1.1.f0 y1.1.f1 y1.1.f2) a2 a3) fun y2 =>
      call (f36 F y2) fun y3 =>
      some (y3, (0 : Int))

/-- (*printworks/printworksref3.Sheet).Leaf -/
def f20 (F : Nat) (a0 : Int) (c1 : List Int) (c2 : List Int) (c3 : List Int) (c4 : List Int) (c5 : List Int) (c6 : List Int) (c7 : List Int) (c8 : Int) (c9 : Int) (c10 : Int) (c11 : Int) (c12 : Int) : Option (S50 × (List Int) × (List Int) × (List Int) × (List Int) × (List Int) × (List Int) × (List Int) × Int × Int × Int × Int × Int) :=
  chk (c12 ≠ 0) <|
  chk (c12 ≠ 0) <|
  chk (0 ≤ a0 ∧ a0 < c3.length) <|
  chk (0 ≤ a0 ∧ a0 < c1.length) <|
  chk (0 ≤ a0 ∧ a0 < c6.length) <|
  chk (0 ≤ a0 ∧ a0 < c2.length) <|
  some ((S50.mk ((S50.mk (a0.tmod c12) (IntKind.i64.wrap (a0.tdiv c12)) (decide ((c3.getD a0.toNat 0) < (c1.getD a0.toNat 0))) (decide ((c6.getD a0.toNat 0) < (c2.getD a0.toNat 0)))).f0) ((S50.mk (a0.tmod c12) (IntKind.i64.wrap (a0.tdiv c12)) (decide ((c3.getD a0.toNat 0) < (c1.getD a0.toNat 0))) (decide ((c6.getD a0.toNat 0) < (c2.getD a0.toNat 0)))).f1) ((S50.mk (a0.tmod c12) (IntKind.i64.wrap (a0.tdiv c12)) (decide ((c3.getD a0.toNat 0) < (c1.getD a0.toNat 0))) (decide ((c6.getD a0.toNat 0) < (c2.getD a0.toNat 0)))).f2) ((S50.mk (a0.tmod c12) (IntKind.i64.wrap (a0.tdiv c12)) (decide ((c3.getD a0.toNat 0) < (c1.getD a0.toNat 0))) (decide ((c6.getD a0.toNat 0) < (c2.getD a0.toNat 0)))).f3)), c1, c2, c3, c4, c5, c6, c7, c8, c9, c10, c11, c12)

def f5_L0 (F : Nat) (y1 : (List S50) × Int) (y2 : (List Int) × (List Int) × (List Int) × (List Int) × (List Int) × (List Int) × (List Int) × (List Int) × Int × Int × Int × Int × Int) : Nat → (List Int) → (List Int) → (List Int) → (List Int) → (List Int) → (List Int) → (List Int) → Int → Int → Int → Int → Int → Int → Option (Out Unit Bool)
  | 0, _, _, _, _, _, _, _, _, _, _, _, _, _ => none
  | n + 1, v1, v2, v3, v4, v5, v6, v7, v8, v9, v10, v11, v12, v13 =>
    bif (decide (v13 < (y2.1.length : Int))) then
      chk (0 ≤ v13 ∧ v13 < y2.1.length) <|
      chk (0 ≤ v13 ∧ v13 < y1.1.length) <|
      call (f20 F (y2.1.getD v13.toNat 0) v1 v2 v3 v4 v5 v6 v7 v8 v9 v10 v11 v12) fun y3 =>
      lett ((!((y1.1.getD v13.toNat (S50.mk 0 0 false false)).f0 == y3.1.f0 && ((y1.1.getD v13.toNat (S50.mk 0 0 false false)).f1 == y3.1.f1 && ((y1.1.getD v13.toNat (S50.mk 0 0 false false)).f2 == y3.1.f2 && ((y1.1.getD v13.toNat (S50.mk 0 0 false false)).f3 == y3.1.f3 && true)))))) fun z1 =>
      bif z1 then
        some (.esc false)
      else
        f5_L0 F y1 y2 n y3.2.1 y3.2.2.1 y3.2.2.2.1 y3.2.2.2.2.1 y3.2.2.2.2.2.1 y3.2.2.2.2.2.2.1 y3.2.2.2.2.2.2.2.1 y3.2.2.2.2.2.2.2.2.1 y3.2.2.2.2.2.2.2.2.2.1 y3.2.2.2.2.2.2.2.2.2.2.1 y3.2.2.2.2.2.2.2.2.2.2.2.1 y3.2.2.2.2.2.2.2.2.2.2.2.2 (IntKind.i64.wrap (v13 + (1 : Int)))
    else
      some (.go ())

/-- printworks/printworkslaw3.FoldPileMatchesReference -/
def f5 (F : Nat) (a0 : S23) (a1 : Int) (a2 : Int) (a3 : Int) : Option Bool :=
  call (f7 F) fun y4 =>
  bif (!y4) then
    some false
  else
    call (f16 F (S23.mk a0.f0 a0.f1 a0.f2) a1) fun y5 =>
    call (f17 F (S23.mk a0.f0 a0.f1 a0.f2) a1 a2 a3) fun y1 =>
    call (f12 F (S23.mk a0.f0 a0.f1 a0.f2)) fun y6 =>
    bif (y6 != (0 : Int)) then
      lett ((bif (bif (bif (y5.2.2 == y6) then (y1.2 == y6) else false) then (y5.1 == (0 : Int)) else false) then (y5.2.1 == (0 : Int)) else false)) fun z2 =>
      some (bif z2 then ((y1.1.length : Int) == (0 : Int)) else false)
    else
      bif (bif (decide (a1 < (0 : Int))) then true else (decide (a1 > (a0.f2.length : Int)))) then
        lett ((bif (bif (y5.2.2 == (3 : Int)) then (y1.2 == (3 : Int)) else false) then (y5.1 == (0 : Int)) else false)) fun z3 =>
        lett ((bif (bif z3 then (y5.2.1 == (0 : Int)) else false) then ((y1.1.length : Int) == (0 : Int)) else false)) fun z4 =>
        some z4
      else
        call (f18 F (S23.mk a0.f0 a0.f1 a0.f2) a1) fun y7 =>
        lett ((bif (bif (y5.2.2 != (0 : Int)) then true else (y5.1 != (IntKind.i64.wrap (y7.f9 - y7.f7)))) then true else (y5.2.1 != (IntKind.i64.wrap (y7.f10 - y7.f8))))) fun z5 =>
        bif z5 then
          some false
        else
          lett ((bif (bif (decide (a2 < (0 : Int))) then true else (decide (a3 < (0 : Int)))) then true else (decide (a2 ≥ y5.1)))) fun z6 =>
          bif (bif z6 then true else (decide (a3 ≥ y5.2.1))) then
            some (bif (y1.2 == (3 : Int)) then ((y1.1.length : Int) == (0 : Int)) else false)
          else
            call (f19 F a2 a3 y7.f0 y7.f1 y7.f2 y7.f3 y7.f4 y7.f5 y7.f6 y7.f7 y7.f8 y7.f9 y7.f10 y7.f11) fun y2 =>
            bif (bif (y1.2 != (0 : Int)) then true else ((y1.1.length : Int) != (y2.1.length : Int))) then
              some false
            else
              callE (f5_L0 F y1 y2 F y2.2.1 y2.2.2.1 y2.2.2.2.1 y2.2.2.2.2.1 y2.2.2.2.2.2.1 y2.2.2.2.2.2.2.1 y2.2.2.2.2.2.2.2.1 y2.2.2.2.2.2.2.2.2.1 y2.2.2.2.2.2.2.2.2.2.1 y2.2.2.2.2.2.2.2.2.2.2.1 y2.2.2.2.2.2.2.2.2.2.2.2.1 y2.2.2.2.2.2.2.2.2.2.2.2.2 (0 : Int))
                (fun e => some e) fun _ =>
              some true

/-- printworks/impose.leaf -/
def f52 (F : Nat) (a0 : S54) : Option (Int × Int) :=
  call (f8 F (S23.mk a0.f0.f0 a0.f0.f1 a0.f0.f2)) fun y1 =>
  chk (0 ≤ (0 : Int) ∧ (0 : Int) < y1.1.length) <|
  bif ((((y1.1.getD (0 : Int).toNat (S31.mk false 0 0 0)).f3).tmod (2 : Int)) == (1 : Int)) then
    some (IntKind.i64.wrap (a0.f2 + (IntKind.i64.wrap ((2 : Int) * a0.f3))), IntKind.i64.wrap ((IntKind.i64.wrap (a0.f1 + a0.f4)) + a0.f5))
  else
    some (IntKind.i64.wrap ((IntKind.i64.wrap (a0.f1 + a0.f4)) + a0.f5), IntKind.i64.wrap (a0.f2 + (IntKind.i64.wrap ((2 : Int) * a0.f3))))

/-- printworks/impose.single -/
def f48 (F : Nat) (a0 : S54) : Option (Int × Int) :=
  call (f52 F (S54.mk (S23.mk a0.f0.f0 a0.f0.f1 a0.f0.f2) a0.f1 a0.f2 a0.f3 a0.f4 a0.f5 a0.f6 a0.f7 a0.f8)) fun y1 =>
  some (IntKind.i64.wrap ((IntKind.i64.wrap ((2 : Int) * a0.f6)) + (IntKind.i64.wrap (a0.f0.f0 * y1.1))), IntKind.i64.wrap ((IntKind.i64.wrap ((2 : Int) * a0.f6)) + (IntKind.i64.wrap (a0.f0.f1 * y1.2))))

/-- printworks/impose.size -/
def f41 (F : Nat) (a0 : S54) : Option (Int × Int) :=
  call (f48 F (S54.mk (S23.mk a0.f0.f0 a0.f0.f1 a0.f0.f2) a0.f1 a0.f2 a0.f3 a0.f4 a0.f5 a0.f6 a0.f7 a0.f8)) fun y1 =>
  call (bif (a0.f8 == (1 : Int)) then
      some (IntKind.i64.wrap (y1.1 * (2 : Int)), y1.2)
    else
      bif (a0.f8 == (2 : Int)) then
        some (y1.1, IntKind.i64.wrap (y1.2 * (2 : Int)))
      else
        some (y1.1, y1.2))
    fun (v1, v2) =>
  some (v1, v2)

def f22_L0 (F : Nat) (a0 : S54) : Nat → Int → Option (Out Unit Int)
  | 0, _ => none
  | n + 1, v1 =>
    bif (decide (v1 < (4 : Int))) then
      chk (0 ≤ v1 ∧ v1 < 4) <|
      lett (([(S89.mk a0.f3 a0.f4 a0.f5 a0.f6).f0, (S89.mk a0.f3 a0.f4 a0.f5 a0.f6).f1, (S89.mk a0.f3 a0.f4 a0.f5 a0.f6).f2, (S89.mk a0.f3 a0.f4 a0.f5 a0.f6).f3].getD v1.toNat 0)) fun z1 =>
      bif (bif (decide (z1 < (0 : Int))) then true else (decide (z1 > (64 : Int)))) then
        some (.esc (3 : Int))
      else
        f22_L0 F a0 n (IntKind.i64.wrap (v1 + (1 : Int)))
    else
      some (.go ())

/-- printworks/impose.Check -/
def f22 (F : Nat) (a0 : S54) : Option Int :=
  call (f11 F (S23.mk a0.f0.f0 a0.f0.f1 a0.f0.f2)) fun y1 =>
  bif (y1 != (0 : Int)) then
    some y1
  else
    call (f8 F (S23.mk a0.f0.f0 a0.f0.f1 a0.f0.f2)) fun y2 =>
    bif (y2.2 != (0 : Int)) then
      some y2.2
    else
      lett ((bif (bif (decide (a0.f1 < (1 : Int))) then true else (decide (a0.f1 > (256 : Int)))) then true else (decide (a0.f2 < (1 : Int))))) fun z2 =>
      bif (bif z2 then true else (decide (a0.f2 > (256 : Int)))) then
        some (3 : Int)
      else
        callE (f22_L0 F a0 F (0 : Int))
          (fun e => some e) fun _ =>
        bif (bif (decide (a0.f7 < (0 : Int))) then true else (decide (a0.f7 > (8 : Int)))) then
          some (3 : Int)
        else
          bif (bif (decide (a0.f8 < (0 : Int))) then true else (decide (a0.f8 > (2 : Int)))) then
            some (14 : Int)
          else
            lett (IntKind.i64.wrap ((IntKind.i64.wrap ((IntKind.i64.wrap (a0.f0.f0 * a0.f0.f1)) - (1 : Int))).tdiv (2 : Int))) fun z3 =>
            bif (decide ((IntKind.i64.wrap (z3 * a0.f7)) > a0.f5)) then
              some (19 : Int)
            else
              call (f41 F (S54.mk (S23.mk a0.f0.f0 a0.f0.f1 a0.f0.f2) a0.f1 a0.f2 a0.f3 a0.f4 a0.f5 a0.f6 a0.f7 a0.f8)) fun y3 =>
              bif (bif (decide (y3.1 > (1024 : Int))) then true else (decide (y3.2 > (1024 : Int)))) then
                some (2 : Int)
              else
                some (0 : Int)

/-- printworks/impose.depth -/
def f53 (F : Nat) (a0 : Int) (a1 : Int) : Option Int :=
  lett ((if (IntKind.i64.wrap ((IntKind.i64.wrap (a1 - (1 : Int))) - a0)) < a0 then (IntKind.i64.wrap ((IntKind.i64.wrap (a1 - (1 : Int))) - a0)) else a0)) fun z1 =>
  some z1

def f47_L0 (F : Nat)  : Nat → Int → Int → Int → Int → Int → Int → Int → Option (Int × Int × Int × Int × Int × Int)
  | 0, _, _, _, _, _, _, _ => none
  | n + 1, v1, v2, v3, v4, v5, v6, v7 =>
    bif (decide (v1 > (0 : Int))) then
      f47_L0 F n (IntKind.i64.wrap (v1 - (1 : Int))) ((S94.mk v3 v2 (IntKind.i64.wrap ((IntKind.i64.wrap (v3 - v5)) - v7)) v4 v7 v6).f0) ((S94.mk v3 v2 (IntKind.i64.wrap ((IntKind.i64.wrap (v3 - v5)) - v7)) v4 v7 v6).f1) ((S94.mk v3 v2 (IntKind.i64.wrap ((IntKind.i64.wrap (v3 - v5)) - v7)) v4 v7 v6).f2) ((S94.mk v3 v2 (IntKind.i64.wrap ((IntKind.i64.wrap (v3 - v5)) - v7)) v4 v7 v6).f3) ((S94.mk v3 v2 (IntKind.i64.wrap ((IntKind.i64.wrap (v3 - v5)) - v7)) v4 v7 v6).f4) ((S94.mk v3 v2 (IntKind.i64.wrap ((IntKind.i64.wrap (v3 - v5)) - v7)) v4 v7 v6).f5)
    else
      some (v2, v3, v4, v5, v6, v7)

/-- (printworks/impose.box).turned -/
def f47 (F : Nat) (a0 : S94) (a1 : Int) : Option S94 :=
  call (f47_L0 F F a1 a0.f0 a0.f1 a0.f2 a0.f3 a0.f4 a0.f5)
    fun (v8, v9, v10, v11, v12, v13) =>
  some (S94.mk ((S94.mk v8 v9 v10 v11 v12 v13).f0) ((S94.mk v8 v9 v10 v11 v12 v13).f1) ((S94.mk v8 v9 v10 v11 v12 v13).f2) ((S94.mk v8 v9 v10 v11 v12 v13).f3) ((S94.mk v8 v9 v10 v11 v12 v13).f4) ((S94.mk v8 v9 v10 v11 v12 v13).f5))

/-- printworks/impose.place -/
def f46 (F : Nat) (a0 : S54) (a1 : Int) (a2 : S31) : Option S94 :=
  call (f52 F (S54.mk (S23.mk a0.f0.f0 a0.f0.f1 a0.f0.f2) a0.f1 a0.f2 a0.f3 a0.f4 a0.f5 a0.f6 a0.f7 a0.f8)) fun y1 =>
  call (f53 F (IntKind.i64.wrap ((IntKind.i64.wrap (a1 - (1 : Int))).tdiv (2 : Int))) (IntKind.i64.wrap (a0.f0.f0 * a0.f0.f1))) fun y2 =>
  call (bif ((a1.tmod (2 : Int)) == (0 : Int)) then
      lett ((S94.mk (IntKind.i64.wrap ((IntKind.i64.wrap (a0.f1 + a0.f4)) + a0.f5)) (IntKind.i64.wrap (a0.f2 + (IntKind.i64.wrap ((2 : Int) * a0.f3)))) (IntKind.i64.wrap (a0.f5 - (IntKind.i64.wrap (a0.f7 * y2)))) a0.f3 a0.f1 a0.f2).f0) fun z1 =>
      lett (IntKind.i64.wrap ((IntKind.i64.wrap (z1 - (IntKind.i64.wrap (a0.f5 - (IntKind.i64.wrap (a0.f7 * y2)))))) - a0.f1)) fun z2 =>
      some z2
    else
      some ((S94.mk (IntKind.i64.wrap ((IntKind.i64.wrap (a0.f1 + a0.f4)) + a0.f5)) (IntKind.i64.wrap (a0.f2 + (IntKind.i64.wrap ((2 : Int) * a0.f3)))) (IntKind.i64.wrap (a0.f5 - (IntKind.i64.wrap (a0.f7 * y2)))) a0.f3 a0.f1 a0.f2).f2))
    fun v1 =>
  call (f47 F (S94.mk ((S94.mk (IntKind.i64.wrap ((IntKind.i64.wrap (a0.f1 + a0.f4)) + a0.f5)) (IntKind.i64.wrap (a0.f2 + (IntKind.i64.wrap ((2 : Int) * a0.f3)))) (IntKind.i64.wrap (a0.f5 - (IntKind.i64.wrap (a0.f7 * y2)))) a0.f3 a0.f1 a0.f2).f0) ((S94.mk (IntKind.i64.wrap ((IntKind.i64.wrap (a0.f1 + a0.f4)) + a0.f5)) (IntKind.i64.wrap (a0.f2 + (IntKind.i64.wrap ((2 : Int) * a0.f3)))) (IntKind.i64.wrap (a0.f5 - (IntKind.i64.wrap (a0.f7 * y2)))) a0.f3 a0.f1 a0.f2).f1) v1 ((S94.mk (IntKind.i64.wrap ((IntKind.i64.wrap (a0.f1 + a0.f4)) + a0.f5)) (IntKind.i64.wrap (a0.f2 + (IntKind.i64.wrap ((2 : Int) * a0.f3)))) (IntKind.i64.wrap (a0.f5 - (IntKind.i64.wrap (a0.f7 * y2)))) a0.f3 a0.f1 a0.f2).f3) ((S94.mk (IntKind.i64.wrap ((IntKind.i64.wrap (a0.f1 + a0.f4)) + a0.f5)) (IntKind.i64.wrap (a0.f2 + (IntKind.i64.wrap ((2 : Int) * a0.f3)))) (IntKind.i64.wrap (a0.f5 - (IntKind.i64.wrap (a0.f7 * y2)))) a0.f3 a0.f1 a0.f2).f4) ((S94.mk (IntKind.i64.wrap ((IntKind.i64.wrap (a0.f1 + a0.f4)) + a0.f5)) (IntKind.i64.wrap (a0.f2 + (IntKind.i64.wrap ((2 : Int) * a0.f3)))) (IntKind.i64.wrap (a0.f5 - (IntKind.i64.wrap (a0.f7 * y2)))) a0.f3 a0.f1 a0.f2).f5)) a2.f3) fun y3 =>
  call (f48 F (S54.mk (S23.mk a0.f0.f0 a0.f0.f1 a0.f0.f2) a0.f1 a0.f2 a0.f3 a0.f4 a0.f5 a0.f6 a0.f7 a0.f8)) fun y4 =>
  some (S94.mk ((S94.mk y4.1 y4.2 (IntKind.i64.wrap ((IntKind.i64.wrap (a0.f6 + (IntKind.i64.wrap (a2.f1 * y1.1)))) + y3.f2)) (IntKind.i64.wrap ((IntKind.i64.wrap (a0.f6 + (IntKind.i64.wrap (a2.f2 * y1.2)))) + y3.f3)) y3.f4 y3.f5).f0) ((S94.mk y4.1 y4.2 (IntKind.i64.wrap ((IntKind.i64.wrap (a0.f6 + (IntKind.i64.wrap (a2.f1 * y1.1)))) + y3.f2)) (IntKind.i64.wrap ((IntKind.i64.wrap (a0.f6 + (IntKind.i64.wrap (a2.f2 * y1.2)))) + y3.f3)) y3.f4 y3.f5).f1) ((S94.mk y4.1 y4.2 (IntKind.i64.wrap ((IntKind.i64.wrap (a0.f6 + (IntKind.i64.wrap (a2.f1 * y1.1)))) + y3.f2)) (IntKind.i64.wrap ((IntKind.i64.wrap (a0.f6 + (IntKind.i64.wrap (a2.f2 * y1.2)))) + y3.f3)) y3.f4 y3.f5).f2) ((S94.mk y4.1 y4.2 (IntKind.i64.wrap ((IntKind.i64.wrap (a0.f6 + (IntKind.i64.wrap (a2.f1 * y1.1)))) + y3.f2)) (IntKind.i64.wrap ((IntKind.i64.wrap (a0.f6 + (IntKind.i64.wrap (a2.f2 * y1.2)))) + y3.f3)) y3.f4 y3.f5).f3) ((S94.mk y4.1 y4.2 (IntKind.i64.wrap ((IntKind.i64.wrap (a0.f6 + (IntKind.i64.wrap (a2.f1 * y1.1)))) + y3.f2)) (IntKind.i64.wrap ((IntKind.i64.wrap (a0.f6 + (IntKind.i64.wrap (a2.f2 * y1.2)))) + y3.f3)) y3.f4 y3.f5).f4) ((S94.mk y4.1 y4.2 (IntKind.i64.wrap ((IntKind.i64.wrap (a0.f6 + (IntKind.i64.wrap (a2.f1 * y1.1)))) + y3.f2)) (IntKind.i64.wrap ((IntKind.i64.wrap (a0.f6 + (IntKind.i64.wrap (a2.f2 * y1.2)))) + y3.f3)) y3.f4 y3.f5).f5))

def f39_L0 (F : Nat) (a0 : S54) (a1 : Int) (y1 : (List S31) × Int) (y2 : Int × Int) : Nat → (List S87) → (List S87) → Int → Option ((List S87) × (List S87))
  | 0, _, _, _ => none
  | n + 1, v1, v2, v3 =>
    bif (decide (v3 < (((y1.1.drop (0 : Int).toNat).take (a1.toNat - (0 : Int).toNat)).length : Int))) then
      call (chk (0 ≤ v3 ∧ v3 < ((y1.1.drop (0 : Int).toNat).take (a1.toNat - (0 : Int).toNat)).length) <|
        call (f46 F (S54.mk (S23.mk a0.f0.f0 a0.f0.f1 a0.f0.f2) a0.f1 a0.f2 a0.f3 a0.f4 a0.f5 a0.f6 a0.f7 a0.f8) (IntKind.i64.wrap (v3 + (1 : Int))) (S31.mk ((((y1.1.drop (0 : Int).toNat).take (a1.toNat - (0 : Int).toNat)).getD v3.toNat (S31.mk false 0 0 0)).f0) ((((y1.1.drop (0 : Int).toNat).take (a1.toNat - (0 : Int).toNat)).getD v3.toNat (S31.mk false 0 0 0)).f1) ((((y1.1.drop (0 : Int).toNat).take (a1.toNat - (0 : Int).toNat)).getD v3.toNat (S31.mk false 0 0 0)).f2) ((((y1.1.drop (0 : Int).toNat).take (a1.toNat - (0 : Int).toNat)).getD v3.toNat (S31.mk false 0 0 0)).f3))) fun y3 =>
        lett ((((y1.1.drop (0 : Int).toNat).take (a1.toNat - (0 : Int).toNat)).getD v3.toNat (S31.mk false 0 0 0)).f3) fun z1 =>
        callE (lett ((((y1.1.drop (0 : Int).toNat).take (a1.toNat - (0 : Int).toNat)).getD v3.toNat (S31.mk false 0 0 0)).f0) fun z2 =>
          bif (bif (a0.f8 == (0 : Int)) then z2 else false) then
            chk (v2.length + ([(S87.mk ((S87.mk (IntKind.i64.wrap (v3 + (1 : Int))) y3.f2 y3.f3 z1).f0) ((S87.mk (IntKind.i64.wrap (v3 + (1 : Int))) y3.f2 y3.f3 z1).f1) ((S87.mk (IntKind.i64.wrap (v3 + (1 : Int))) y3.f2 y3.f3 z1).f2) ((S87.mk (IntKind.i64.wrap (v3 + (1 : Int))) y3.f2 y3.f3 z1).f3))]).length ≤ 4294967296) <|
            lett ((v2 ++ ([(S87.mk ((S87.mk (IntKind.i64.wrap (v3 + (1 : Int))) y3.f2 y3.f3 z1).f0) ((S87.mk (IntKind.i64.wrap (v3 + (1 : Int))) y3.f2 y3.f3 z1).f1) ((S87.mk (IntKind.i64.wrap (v3 + (1 : Int))) y3.f2 y3.f3 z1).f2) ((S87.mk (IntKind.i64.wrap (v3 + (1 : Int))) y3.f2 y3.f3 z1).f3))]))) fun l1 =>
            some (.esc (v1, l1))
          else
            lett ((((y1.1.drop (0 : Int).toNat).take (a1.toNat - (0 : Int).toNat)).getD v3.toNat (S31.mk false 0 0 0)).f0) fun z3 =>
            bif (bif (a0.f8 == (1 : Int)) then z3 else false) then
              lett (IntKind.i64.wrap (((S87.mk (IntKind.i64.wrap (v3 + (1 : Int))) y3.f2 y3.f3 z1).f1) + (IntKind.i64.wrap (y2.1.tdiv (2 : Int))))) fun z4 =>
              some (.go ((S87.mk (IntKind.i64.wrap (v3 + (1 : Int))) y3.f2 y3.f3 z1).f0, z4, (S87.mk (IntKind.i64.wrap (v3 + (1 : Int))) y3.f2 y3.f3 z1).f2, (S87.mk (IntKind.i64.wrap (v3 + (1 : Int))) y3.f2 y3.f3 z1).f3))
            else
              lett ((((y1.1.drop (0 : Int).toNat).take (a1.toNat - (0 : Int).toNat)).getD v3.toNat (S31.mk false 0 0 0)).f0) fun z5 =>
              bif (bif (a0.f8 == (2 : Int)) then z5 else false) then
                call (f47 F (S94.mk y3.f0 y3.f1 y3.f2 y3.f3 y3.f4 y3.f5) (2 : Int)) fun y4 =>
                lett ((((y1.1.drop (0 : Int).toNat).take (a1.toNat - (0 : Int).toNat)).getD v3.toNat (S31.mk false 0 0 0)).f3) fun z6 =>
                some (.go ((S87.mk (IntKind.i64.wrap (v3 + (1 : Int))) y4.f2 (IntKind.i64.wrap ((IntKind.i64.wrap (y2.2.tdiv (2 : Int))) + y4.f3)) ((IntKind.i64.wrap (z6 + (2 : Int))).tmod (4 : Int))).f0, (S87.mk (IntKind.i64.wrap (v3 + (1 : Int))) y4.f2 (IntKind.i64.wrap ((IntKind.i64.wrap (y2.2.tdiv (2 : Int))) + y4.f3)) ((IntKind.i64.wrap (z6 + (2 : Int))).tmod (4 : Int))).f1, (S87.mk (IntKind.i64.wrap (v3 + (1 : Int))) y4.f2 (IntKind.i64.wrap ((IntKind.i64.wrap (y2.2.tdiv (2 : Int))) + y4.f3)) ((IntKind.i64.wrap (z6 + (2 : Int))).tmod (4 : Int))).f2, (S87.mk (IntKind.i64.wrap (v3 + (1 : Int))) y4.f2 (IntKind.i64.wrap ((IntKind.i64.wrap (y2.2.tdiv (2 : Int))) + y4.f3)) ((IntKind.i64.wrap (z6 + (2 : Int))).tmod (4 : Int))).f3))
              else
                some (.go ((S87.mk (IntKind.i64.wrap (v3 + (1 : Int))) y3.f2 y3.f3 z1).f0, (S87.mk (IntKind.i64.wrap (v3 + (1 : Int))) y3.f2 y3.f3 z1).f1, (S87.mk (IntKind.i64.wrap (v3 + (1 : Int))) y3.f2 y3.f3 z1).f2, (S87.mk (IntKind.i64.wrap (v3 + (1 : Int))) y3.f2 y3.f3 z1).f3)))
          (fun e => some e) fun (v4, v5, v6, v7) =>
        chk (v1.length + ([(S87.mk v4 v5 v6 v7)]).length ≤ 4294967296) <|
        bif (a0.f8 != (0 : Int)) then
          chk (v2.length + ([(S87.mk v4 v5 v6 v7)]).length ≤ 4294967296) <|
          some ((v1 ++ ([(S87.mk v4 v5 v6 v7)])), (v2 ++ ([(S87.mk v4 v5 v6 v7)])))
        else
          some ((v1 ++ ([(S87.mk v4 v5 v6 v7)])), v2))
        fun (v8, v9) =>
      f39_L0 F a0 a1 y1 y2 n v8 v9 (IntKind.i64.wrap (v3 + (1 : Int)))
    else
      some (v1, v2)

/-- printworks/impose.Sheet -/
def f39 (F : Nat) (a0 : S54) (a1 : Int) : Option (S82 × Int) :=
  call (f22 F (S54.mk (S23.mk a0.f0.f0 a0.f0.f1 a0.f0.f2) a0.f1 a0.f2 a0.f3 a0.f4 a0.f5 a0.f6 a0.f7 a0.f8)) fun y5 =>
  bif (y5 != (0 : Int)) then
    some ((S82.mk 0 0 [] []), y5)
  else
    call (f8 F (S23.mk a0.f0.f0 a0.f0.f1 a0.f0.f2)) fun y1 =>
    bif (bif (decide (a1 < (0 : Int))) then true else (decide (a1 > (y1.1.length : Int)))) then
      some ((S82.mk 0 0 [] []), (3 : Int))
    else
      call (f41 F (S54.mk (S23.mk a0.f0.f0 a0.f0.f1 a0.f0.f2) a0.f1 a0.f2 a0.f3 a0.f4 a0.f5 a0.f6 a0.f7 a0.f8)) fun y2 =>
      chk (0 ≤ (0 : Int) ∧ (0 : Int) ≤ a1 ∧ a1 ≤ (y1.1.length : Int)) <|
      call (f39_L0 F a0 a1 y1 y2 F [] [] (0 : Int))
        fun (v10, v11) =>
      some ((S82.mk ((S82.mk y2.1 y2.2 v10 v11).f0) ((S82.mk y2.1 y2.2 v10 v11).f1) ((S82.mk y2.1 y2.2 v10 v11).f2) ((S82.mk y2.1 y2.2 v10 v11).f3)), (0 : Int))

def f40_L0 (F : Nat) (a0 : List S87) (a1 : List S87) : Nat → Int → Option (Out Unit Bool)
  | 0, _ => none
  | n + 1, v1 =>
    bif (decide (v1 < (a0.length : Int))) then
      chk (0 ≤ v1 ∧ v1 < a0.length) <|
      chk (0 ≤ v1 ∧ v1 < a1.length) <|
      lett ((!((a0.getD v1.toNat (S87.mk 0 0 0 0)).f0 == (a1.getD v1.toNat (S87.mk 0 0 0 0)).f0 && ((a0.getD v1.toNat (S87.mk 0 0 0 0)).f1 == (a1.getD v1.toNat (S87.mk 0 0 0 0)).f1 && ((a0.getD v1.toNat (S87.mk 0 0 0 0)).f2 == (a1.getD v1.toNat (S87.mk 0 0 0 0)).f2 && ((a0.getD v1.toNat (S87.mk 0 0 0 0)).f3 == (a1.getD v1.toNat (S87.mk 0 0 0 0)).f3 && true)))))) fun z1 =>
      bif z1 then
        some (.esc false)
      else
        f40_L0 F a0 a1 n (IntKind.i64.wrap (v1 + (1 : Int)))
    else
      some (.go ())

/-- slices.Equal[[]printworks/api.ImposePlace,printworks/api.ImposePlace] -/
def f40 (F : Nat) (a0 : List S87) (a1 : List S87) : Option Bool :=
  bif ((a0.length : Int) != (a1.length : Int)) then
    some false
  else
    callE (f40_L0 F a0 a1 F (0 : Int))
      (fun e => some e) fun _ =>
    some true

/-- printworks/printworkslaw3.imposeFact -/
def f21 (F : Nat)  : Option Bool :=
  call (f24 F) fun y1 =>
  call (f39 F (S54.mk y1 (10 : Int) (10 : Int) 0 0 0 0 0 0) (4 : Int)) fun y2 =>
  lett ((bif (bif (y2.2 == (0 : Int)) then (y2.1.f0 == (20 : Int)) else false) then (y2.1.f1 == (10 : Int)) else false)) fun z1 =>
  call ((bif ((z1 == true) && true) then f40 F y2.1.f2 ([(S87.mk (2 : Int) 0 0 0), (S87.mk (3 : Int) (10 : Int) 0 0)]) else some false)) fun y3 =>
  call ((bif (((bif z1 then y3 else false) == true) && true) then f40 F y2.1.f3 ([(S87.mk (1 : Int) (10 : Int) 0 0), (S87.mk (4 : Int) 0 0 0)]) else some false)) fun y4 =>
  some (bif (bif z1 then y3 else false) then y4 else false)

/-- printworks/printworksref3.leafSize -/
def f54 (F : Nat) (a0 : S54) : Option (Int × Int) :=
  call (f9 F (S23.mk a0.f0.f0 a0.f0.f1 a0.f0.f2)) fun y1 =>
  chk (0 ≤ (0 : Int) ∧ (0 : Int) < y1.1.length) <|
  bif ((((y1.1.getD (0 : Int).toNat (S31.mk false 0 0 0)).f3).tmod (2 : Int)) == (1 : Int)) then
    some (IntKind.i64.wrap (a0.f2 + (IntKind.i64.wrap ((2 : Int) * a0.f3))), IntKind.i64.wrap ((IntKind.i64.wrap (a0.f1 + a0.f4)) + a0.f5))
  else
    some (IntKind.i64.wrap ((IntKind.i64.wrap (a0.f1 + a0.f4)) + a0.f5), IntKind.i64.wrap (a0.f2 + (IntKind.i64.wrap ((2 : Int) * a0.f3))))

/-- printworks/printworksref3.SingleSize -/
def f49 (F : Nat) (a0 : S54) : Option (Int × Int) :=
  call (f54 F (S54.mk (S23.mk a0.f0.f0 a0.f0.f1 a0.f0.f2) a0.f1 a0.f2 a0.f3 a0.f4 a0.f5 a0.f6 a0.f7 a0.f8)) fun y1 =>
  some (IntKind.i64.wrap ((IntKind.i64.wrap (a0.f0.f0 * y1.1)) + (IntKind.i64.wrap ((2 : Int) * a0.f6))), IntKind.i64.wrap ((IntKind.i64.wrap (a0.f0.f1 * y1.2)) + (IntKind.i64.wrap ((2 : Int) * a0.f6))))

/-- printworks/printworksref3.PlateSize -/
def f42 (F : Nat) (a0 : S54) : Option (Int × Int) :=
  call (f49 F (S54.mk (S23.mk a0.f0.f0 a0.f0.f1 a0.f0.f2) a0.f1 a0.f2 a0.f3 a0.f4 a0.f5 a0.f6 a0.f7 a0.f8)) fun y1 =>
  bif (a0.f8 == (1 : Int)) then
    some (IntKind.i64.wrap ((2 : Int) * y1.1), y1.2)
  else
    bif (a0.f8 == (2 : Int)) then
      some (y1.1, IntKind.i64.wrap ((2 : Int) * y1.2))
    else
      some (y1.1, y1.2)

/-- printworks/printworksref3.LayoutError -/
def f23 (F : Nat) (a0 : S54) : Option Int :=
  call (f9 F (S23.mk a0.f0.f0 a0.f0.f1 a0.f0.f2)) fun y1 =>
  bif (y1.2 != (0 : Int)) then
    some y1.2
  else
    lett ((bif (bif (decide (a0.f1 < (1 : Int))) then true else (decide (a0.f1 > (256 : Int)))) then true else (decide (a0.f2 < (1 : Int))))) fun z1 =>
    bif (bif z1 then true else (decide (a0.f2 > (256 : Int)))) then
      some (3 : Int)
    else
      lett ((bif (bif (decide (a0.f3 < (0 : Int))) then true else (decide (a0.f4 < (0 : Int)))) then true else (decide (a0.f5 < (0 : Int))))) fun z2 =>
      lett ((bif (bif z2 then true else (decide (a0.f6 < (0 : Int)))) then true else (decide (a0.f3 > (64 : Int))))) fun z3 =>
      lett ((bif (bif z3 then true else (decide (a0.f4 > (64 : Int)))) then true else (decide (a0.f5 > (64 : Int))))) fun z4 =>
      bif (bif z4 then true else (decide (a0.f6 > (64 : Int)))) then
        some (3 : Int)
      else
        bif (bif (decide (a0.f7 < (0 : Int))) then true else (decide (a0.f7 > (8 : Int)))) then
          some (3 : Int)
        else
          bif (bif (decide (a0.f8 < (0 : Int))) then true else (decide (a0.f8 > (2 : Int)))) then
            some (14 : Int)
          else
            lett (IntKind.i64.wrap ((IntKind.i64.wrap ((IntKind.i64.wrap ((y1.1.length : Int).tdiv (2 : Int))) - (1 : Int))).tdiv (2 : Int))) fun z5 =>
            bif (decide ((IntKind.i64.wrap (a0.f7 * z5)) > a0.f5)) then
              some (19 : Int)
            else
              call (f42 F (S54.mk (S23.mk a0.f0.f0 a0.f0.f1 a0.f0.f2) a0.f1 a0.f2 a0.f3 a0.f4 a0.f5 a0.f6 a0.f7 a0.f8)) fun y2 =>
              bif (bif (decide (y2.1 > (1024 : Int))) then true else (decide (y2.2 > (1024 : Int)))) then
                some (2 : Int)
              else
                some (0 : Int)

/-- printworks/printworkslaw3.ImposeCheckMatchesReference -/
def f6 (F : Nat) (a0 : S54) : Option Bool :=
  call (f21 F) fun y1 =>
  call ((bif ((y1 == true) && true) then f22 F (S54.mk (S23.mk a0.f0.f0 a0.f0.f1 a0.f0.f2) a0.f1 a0.f2 a0.f3 a0.f4 a0.f5 a0.f6 a0.f7 a0.f8) else some 0)) fun y2 =>
  call ((bif ((y1 == true) && true) then f23 F (S54.mk (S23.mk a0.f0.f0 a0.f0.f1 a0.f0.f2) a0.f1 a0.f2 a0.f3 a0.f4 a0.f5 a0.f6 a0.f7 a0.f8) else some 0)) fun y3 =>
  some (bif y1 then (y2 == y3) else false)

end Go.Vm.FoldG
