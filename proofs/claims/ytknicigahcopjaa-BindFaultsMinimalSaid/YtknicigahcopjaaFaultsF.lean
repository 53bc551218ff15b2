import Derived.Test.YtknicigahcopjaaVmFunc2
namespace Go.Vm.GenC5
structure S35 where
  f0 : List Int
  f1 : List Int
  f2 : List Int
deriving DecidableEq

def cS35 (x : S35) : List Dat := (cL 1 (cI .i64)) x.f0 ++ (cL 1 (cI .i64)) x.f1 ++ (cL 1 (cI .i64)) x.f2

def f25_L0 (F : Nat) (a0 : List Int) : Nat → Int → Int → Option Int
  | 0, _, _ => none
  | n + 1, v1, v2 =>
    bif (decide (v2 < (a0.length : Int))) then
      chk (0 ≤ v2 ∧ v2 < a0.length) <|
      f25_L0 F a0 n (if v1 < (a0.getD v2.toNat 0) then (a0.getD v2.toNat 0) else v1) (IntKind.i64.wrap (v2 + (1 : Int)))
    else
      some v1

/-- slices.Max[[]int,int] -/
def f25 (F : Nat) (a0 : List Int) : Option Int :=
  bif (decide ((a0.length : Int) < (1 : Int))) then
    none
  else
    chk (0 ≤ (0 : Int) ∧ (0 : Int) < a0.length) <|
    call (f25_L0 F a0 F (a0.getD (0 : Int).toNat 0) (1 : Int))
      fun v3 =>
    some v3

def f19_L2 (F : Nat) (a0 : List Int) (v1 : Int) : Nat → (List Int) → Int → Option ((List Int))
  | 0, _, _ => none
  | n + 1, v2, v3 =>
    bif (decide (v3 < (a0.length : Int))) then
      call (chk (0 ≤ v3 ∧ v3 < a0.length) <|
        chk (0 ≤ v1 ∧ v1 < a0.length) <|
        bif (decide ((a0.getD v3.toNat 0) > (a0.getD v1.toNat 0))) then
          chk (0 ≤ v1 ∧ v1 < v2.length) <|
          chk (0 ≤ v3 ∧ v3 < v2.length) <|
          lett ((if (v2.getD v1.toNat 0) < (v2.getD v3.toNat 0) then (v2.getD v3.toNat 0) else (v2.getD v1.toNat 0))) fun z1 =>
          chk (0 ≤ v1 ∧ v1 < v2.length) <|
          some (v2.set v1.toNat z1)
        else
          some v2)
        fun v4 =>
      f19_L2 F a0 v1 n v4 (IntKind.i64.wrap (v3 + (1 : Int)))
    else
      some v2

def f19_L0 (F : Nat) (a0 : List Int) : Nat → (List Int) → Int → Option ((List Int))
  | 0, _, _ => none
  | n + 1, v5, v1 =>
    bif (decide (v1 ≥ (0 : Int))) then
      call (f19_L2 F a0 v1 F v5 (IntKind.i64.wrap (v1 + (1 : Int))))
        fun v6 =>
      chk (0 ≤ v1 ∧ v1 < v6.length) <|
      chk (0 ≤ v1 ∧ v1 < v6.length) <|
      f19_L0 F a0 n (v6.set v1.toNat (IntKind.i64.wrap ((v6.getD v1.toNat 0) + (1 : Int)))) (IntKind.i64.wrap (v1 - (1 : Int)))
    else
      some v5

def f19_L4 (F : Nat) (a0 : List Int) (v7 : List Int) : Nat → (List Int) → Int → Int → Option ((List Int))
  | 0, _, _, _ => none
  | n + 1, v8, v9, v10 =>
    bif (decide (v10 < (a0.length : Int))) then
      call (chk (0 ≤ v10 ∧ v10 < v7.length) <|
        chk (((((v8.length : Int) == (0 : Int)) == false) && ((((v7.getD v10.toNat 0) == v9) == true) && true)) = true → 0 ≤ v10 ∧ v10 < a0.length) <|
        chk (((((v8.length : Int) == (0 : Int)) == false) && ((((v7.getD v10.toNat 0) == v9) == true) && true)) = true → 0 ≤ (IntKind.i64.wrap ((v8.length : Int) - (1 : Int))) ∧ (IntKind.i64.wrap ((v8.length : Int) - (1 : Int))) < v8.length) <|
        chk (((((v8.length : Int) == (0 : Int)) == false) && ((((v7.getD v10.toNat 0) == v9) == true) && true)) = true → 0 ≤ (v8.getD (IntKind.i64.wrap ((v8.length : Int) - (1 : Int))).toNat 0) ∧ (v8.getD (IntKind.i64.wrap ((v8.length : Int) - (1 : Int))).toNat 0) < a0.length) <|
        lett ((decide ((a0.getD v10.toNat 0) > (a0.getD (v8.getD (IntKind.i64.wrap ((v8.length : Int) - (1 : Int))).toNat 0).toNat 0)))) fun z2 =>
        lett ((bif ((v7.getD v10.toNat 0) == v9) then (bif ((v8.length : Int) == (0 : Int)) then true else z2) else false)) fun z3 =>
        bif z3 then
          chk (v8.length + ([v10]).length ≤ 4294967296) <|
          some ((v8 ++ ([v10])), IntKind.i64.wrap (v9 - (1 : Int)))
        else
          some (v8, v9))
        fun (v11, v12) =>
      f19_L4 F a0 v7 n v11 v12 (IntKind.i64.wrap (v10 + (1 : Int)))
    else
      some v8

/-- printworks/bind.longest -/
def f19 (F : Nat) (a0 : List Int) : Option ((List Int)) :=
  chk (0 ≤ (IntKind.i64.wrap ((a0.length : Int) + (1 : Int))) ∧ (IntKind.i64.wrap ((a0.length : Int) + (1 : Int))) ≤ (IntKind.i64.wrap ((a0.length : Int) + (1 : Int))) ∧ (IntKind.i64.wrap ((a0.length : Int) + (1 : Int))) ≤ 9223372036854775807 ∧ ((8 : Nat) : Int) * (IntKind.i64.wrap ((a0.length : Int) + (1 : Int))) ≤ 281474976710656) <|
  call (f19_L0 F a0 F (List.replicate (IntKind.i64.wrap ((a0.length : Int) + (1 : Int))).toNat 0) (IntKind.i64.wrap ((a0.length : Int) - (1 : Int))))
    fun v7 =>
  call (f25 F v7) fun y1 =>
  call (f19_L4 F a0 v7 F [] y1 (0 : Int))
    fun v13 =>
  some v13

def f23_L0 (F : Nat) (a0 : List Int) (a1 : Int) : Nat → Int → Option (Out Unit Int)
  | 0, _ => none
  | n + 1, v1 =>
    bif (decide (v1 < (a0.length : Int))) then
      chk (0 ≤ v1 ∧ v1 < a0.length) <|
      bif (a1 == (a0.getD v1.toNat 0)) then
        some (.esc v1)
      else
        f23_L0 F a0 a1 n (IntKind.i64.wrap (v1 + (1 : Int)))
    else
      some (.go ())

/-- slices.Index[[]int,int] -/
def f23 (F : Nat) (a0 : List Int) (a1 : Int) : Option Int :=
  callE (f23_L0 F a0 a1 F (0 : Int))
    (fun e => some e) fun _ =>
  some (-1 : Int)

/-- slices.Contains[[]int,int] -/
def f16 (F : Nat) (a0 : List Int) (a1 : Int) : Option Bool :=
  call (f23 F a0 a1) fun y1 =>
  some (decide (y1 ≥ (0 : Int)))

/-- printworks/bind.Faults$1 -/
def f20 (F : Nat) (a0 : Int) (c1 : List Int) (c2 : Int) : Option (Bool × (List Int) × Int) :=
  chk (0 ≤ a0 ∧ a0 < c1.length) <|
  some (((c1.getD a0.toNat 0) == c2), c1, c2)

def f21_L0 (F : Nat) (a0 : List Int) : Nat → Int → (List Int) → Int → Option (Out ((List Int) × Int) (Int × (List Int) × Int))
  | 0, _, _, _ => none
  | n + 1, v1, v2, v3 =>
    bif (decide (v1 < (a0.length : Int))) then
      chk (0 ≤ v1 ∧ v1 < a0.length) <|
      call (f20 F (a0.getD v1.toNat 0) v2 v3) fun y1 =>
      bif y1.1 then
        some (.esc (v1, y1.2.1, y1.2.2))
      else
        f21_L0 F a0 n (IntKind.i64.wrap (v1 + (1 : Int))) y1.2.1 y1.2.2
    else
      some (.go (v2, v3))

/-- slices.IndexFunc[[]int,int] -/
def f21 (F : Nat) (a0 : List Int) (c1 : List Int) (c2 : Int) : Option (Int × (List Int) × Int) :=
  callE (f21_L0 F a0 F (0 : Int) c1 c2)
    (fun e => some e) fun (v4, v5) =>
  some ((-1 : Int), v4, v5)

/-- slices.ContainsFunc[[]int,int] -/
def f13 (F : Nat) (a0 : List Int) (c1 : List Int) (c2 : Int) : Option (Bool × (List Int) × Int) :=
  call (f21 F a0 c1 c2) fun y1 =>
  some ((decide (y1.1 ≥ (0 : Int))), y1.2.1, y1.2.2)

def f12_L0 (F : Nat) (a0 : List Int) (a1 : Int) : Nat → (List Bool) → Int → Option (Out ((List Bool)) (S35 × Int))
  | 0, _, _ => none
  | n + 1, v1, v2 =>
    bif (decide (v2 < (a0.length : Int))) then
      chk (0 ≤ v2 ∧ v2 < a0.length) <|
      lett ((bif (decide ((a0.getD v2.toNat 0) < (0 : Int))) then true else (decide ((a0.getD v2.toNat 0) ≥ a1)))) fun z1 =>
      bif z1 then
        some (.esc ((S35.mk ((S35.mk [] [] []).f0) ((S35.mk [] [] []).f1) ((S35.mk [] [] []).f2)), (3 : Int)))
      else
        chk (0 ≤ (a0.getD v2.toNat 0) ∧ (a0.getD v2.toNat 0) < v1.length) <|
        f12_L0 F a0 a1 n (v1.set (a0.getD v2.toNat 0).toNat true) (IntKind.i64.wrap (v2 + (1 : Int)))
    else
      some (.go v1)

def f12_L2 (F : Nat) (v3 : List Bool) : Nat → (List Int) → Int → Option ((List Int))
  | 0, _, _ => none
  | n + 1, v4, v5 =>
    bif (decide (v5 < (v3.length : Int))) then
      call (chk (0 ≤ v5 ∧ v5 < v3.length) <|
        bif (!(v3.getD v5.toNat false)) then
          chk (v4.length + ([v5]).length ≤ 4294967296) <|
          some (v4 ++ ([v5]))
        else
          some v4)
        fun v6 =>
      f12_L2 F v3 n v6 (IntKind.i64.wrap (v5 + (1 : Int)))
    else
      some v4

def f12_L4 (F : Nat) (a0 : List Int) (y1 : (List Int)) : Nat → (List Int) → (List Int) → (List Int) → Int → Option ((List Int) × (List Int))
  | 0, _, _, _, _ => none
  | n + 1, v7, v8, v9, v10 =>
    bif (decide (v10 < (a0.length : Int))) then
      call (chk (0 ≤ v10 ∧ v10 < a0.length) <|
        call (f16 F y1 v10) fun y2 =>
        bif y2 then
          some (v7, v8, v9)
        else
          call (f13 F y1 v7 (a0.getD v10.toNat 0)) fun y3 =>
          bif y3.1 then
            chk (v8.length + ([v10]).length ≤ 4294967296) <|
            some (y3.2.1, (v8 ++ ([v10])), v9)
          else
            chk (v9.length + ([v10]).length ≤ 4294967296) <|
            some (y3.2.1, v8, (v9 ++ ([v10]))))
        fun (v11, v12, v13) =>
      f12_L4 F a0 y1 n v11 v12 v13 (IntKind.i64.wrap (v10 + (1 : Int)))
    else
      some (v8, v9)

/-- printworks/bind.Faults -/
def f12 (F : Nat) (a0 : List Int) (a1 : Int) : Option (S35 × Int) :=
  bif (bif (decide (a1 < (1 : Int))) then true else (decide (a1 > (64 : Int)))) then
    some ((S35.mk ((S35.mk [] [] []).f0) ((S35.mk [] [] []).f1) ((S35.mk [] [] []).f2)), (3 : Int))
  else
    bif (decide ((a0.length : Int) > (64 : Int))) then
      some ((S35.mk ((S35.mk [] [] []).f0) ((S35.mk [] [] []).f1) ((S35.mk [] [] []).f2)), (2 : Int))
    else
      chk (0 ≤ a1 ∧ a1 ≤ a1 ∧ a1 ≤ 9223372036854775807 ∧ ((1 : Nat) : Int) * a1 ≤ 281474976710656) <|
      callE (f12_L0 F a0 a1 F (List.replicate a1.toNat false) (0 : Int))
        (fun e => some e) fun v3 =>
      call (f19 F a0) fun y1 =>
      call (f12_L2 F v3 F [] (0 : Int))
        fun v14 =>
      call (f12_L4 F a0 y1 F a0 [] [] (0 : Int))
        fun (v15, v16) =>
      some ((S35.mk ((S35.mk v14 v15 v16).f0) ((S35.mk v14 v15 v16).f1) ((S35.mk v14 v15 v16).f2)), (0 : Int))

def f17_L0 (F : Nat) (a1 : Int) (a2 : Int) (c3 : Int) : Nat → (List Int) → Int → Option ((List Int))
  | 0, _, _ => none
  | n + 1, v1, v2 =>
    bif (decide (v2 < (IntKind.i64.wrap (a1 + a2)))) then
      call (bif (decide (v2 ≤ c3)) then
          chk (v1.length + ([v2]).length ≤ 4294967296) <|
          some (v1 ++ ([v2]))
        else
          chk (v1.length + ([(0 : Int)]).length ≤ 4294967296) <|
          some (v1 ++ ([(0 : Int)])))
        fun v3 =>
      f17_L0 F a1 a2 c3 n v3 (IntKind.i64.wrap (v2 + (1 : Int)))
    else
      some v1

/-- printworks/bind.Plan$1 -/
def f17 (F : Nat) (a0 : List Int) (a1 : Int) (a2 : Int) (c3 : Int) : Option ((List Int) × Int) :=
  call (f17_L0 F a1 a2 c3 F a0 a1)
    fun v4 =>
  some (v4, c3)

def f7_L1 (F : Nat) (a0 : Int) (a1 : Int) (a2 : Int) : Nat → Int → (List (List Int)) → Int → Option ((List (List Int)))
  | 0, _, _, _ => none
  | n + 1, v1, v2, v3 =>
    lett ((decide (v3 < (IntKind.i64.wrap ((IntKind.i64.wrap ((IntKind.i64.wrap (a0 + a1)) - (1 : Int))).tdiv a1))))) fun z1 =>
    bif z1 then
      call (bif (a2 == (0 : Int)) then
          call (f17 F [] (IntKind.i64.wrap ((IntKind.i64.wrap (v3 * a1)) + (1 : Int))) a1 v1) fun y1 =>
          chk (v2.length + ([y1.1]).length ≤ 4294967296) <|
          some (y1.2, (v2 ++ ([y1.1])))
        else
          call (f17 F [] (IntKind.i64.wrap ((IntKind.i64.wrap (v3 * (IntKind.i64.wrap (a1.tdiv (2 : Int))))) + (1 : Int))) (IntKind.i64.wrap (a1.tdiv (2 : Int))) v1) fun y2 =>
          lett (IntKind.i64.wrap ((IntKind.i64.wrap ((IntKind.i64.wrap ((IntKind.i64.wrap (a0 + a1)) - (1 : Int))).tdiv a1)) * a1)) fun z2 =>
          lett (IntKind.i64.wrap (z2 - (IntKind.i64.wrap ((IntKind.i64.wrap (v3 + (1 : Int))) * (IntKind.i64.wrap (a1.tdiv (2 : Int))))))) fun z3 =>
          call (f17 F y2.1 (IntKind.i64.wrap (z3 + (1 : Int))) (IntKind.i64.wrap (a1.tdiv (2 : Int))) y2.2) fun y3 =>
          chk (v2.length + ([y3.1]).length ≤ 4294967296) <|
          some (y3.2, (v2 ++ ([y3.1]))))
        fun (v4, v5) =>
      f7_L1 F a0 a1 a2 n v4 v5 (IntKind.i64.wrap (v3 + (1 : Int)))
    else
      some v2

/-- printworks/bind.Plan -/
def f7 (F : Nat) (a0 : Int) (a1 : Int) (a2 : Int) : Option ((List (List Int)) × Int) :=
  lett ((bif (bif (decide (a0 < (1 : Int))) then true else (decide (a0 > (512 : Int)))) then true else (decide (a1 < (2 : Int))))) fun z4 =>
  bif (bif z4 then true else (decide (a1 > (64 : Int)))) then
    some ([], (3 : Int))
  else
    bif (bif (a2 != (0 : Int)) then (a2 != (1 : Int)) else false) then
      some ([], (14 : Int))
    else
      lett ((bif ((a1.tmod (2 : Int)) == (1 : Int)) then true else (bif (a2 == (1 : Int)) then ((a1.tmod (4 : Int)) != (0 : Int)) else false))) fun z5 =>
      bif z5 then
        some ([], (4 : Int))
      else
        chk (a1 ≠ 0) <|
        lett ((decide ((IntKind.i64.wrap ((IntKind.i64.wrap ((IntKind.i64.wrap (a0 + a1)) - (1 : Int))).tdiv a1)) > (64 : Int)))) fun z6 =>
        bif z6 then
          some ([], (2 : Int))
        else
          call (f7_L1 F a0 a1 a2 F a0 [] (0 : Int))
            fun v6 =>
          some (v6, (0 : Int))

def f11_L0 (F : Nat) (a0 : List Int) (a1 : List Int) : Nat → Int → Option (Out Unit Bool)
  | 0, _ => none
  | n + 1, v1 =>
    bif (decide (v1 < (a0.length : Int))) then
      chk (0 ≤ v1 ∧ v1 < a0.length) <|
      chk (0 ≤ v1 ∧ v1 < a1.length) <|
      bif ((a0.getD v1.toNat 0) != (a1.getD v1.toNat 0)) then
        some (.esc false)
      else
        f11_L0 F a0 a1 n (IntKind.i64.wrap (v1 + (1 : Int)))
    else
      some (.go ())

/-- slices.Equal[[]int,int] -/
def f11 (F : Nat) (a0 : List Int) (a1 : List Int) : Option Bool :=
  bif ((a0.length : Int) != (a1.length : Int)) then
    some false
  else
    callE (f11_L0 F a0 a1 F (0 : Int))
      (fun e => some e) fun _ =>
    some true

/-- printworks/printworkslaw3.bindFact -/
def f6 (F : Nat)  : Option Bool :=
  call (f7 F (6 : Int) (4 : Int) (1 : Int)) fun y1 =>
  chk ((((bif (y1.2 == (0 : Int)) then ((y1.1.length : Int) == (2 : Int)) else false) == true) && true) = true → 0 ≤ (0 : Int) ∧ (0 : Int) < y1.1.length) <|
  call ((bif (((bif (y1.2 == (0 : Int)) then ((y1.1.length : Int) == (2 : Int)) else false) == true) && true) then f11 F (y1.1.getD (0 : Int).toNat []) ([(1 : Int), (2 : Int), (0 : Int), (0 : Int)]) else some false)) fun y2 =>
  lett ((bif (bif (y1.2 == (0 : Int)) then ((y1.1.length : Int) == (2 : Int)) else false) then y2 else false)) fun z1 =>
  chk (((z1 == true) && true) = true → 0 ≤ (1 : Int) ∧ (1 : Int) < y1.1.length) <|
  call ((bif ((z1 == true) && true) then f11 F (y1.1.getD (1 : Int).toNat []) ([(3 : Int), (4 : Int), (5 : Int), (6 : Int)]) else some false)) fun y3 =>
  some (bif z1 then y3 else false)

/-- printworks/printworkslaw3.BindFaultsMinimal$1 -/
def f14 (F : Nat) (a0 : Int) (c1 : Int) : Option (Bool × Int) :=
  some ((bif (decide (a0 < (0 : Int))) then true else (decide (a0 ≥ c1))), c1)

def f21_1_L0 (F : Nat) (a0 : List Int) : Nat → Int → Int → Option (Out Int (Int × Int))
  | 0, _, _ => none
  | n + 1, v1, v2 =>
    bif (decide (v1 < (a0.length : Int))) then
      chk (0 ≤ v1 ∧ v1 < a0.length) <|
      call (f14 F (a0.getD v1.toNat 0) v2) fun y1 =>
      bif y1.1 then
        some (.esc (v1, y1.2))
      else
        f21_1_L0 F a0 n (IntKind.i64.wrap (v1 + (1 : Int))) y1.2
    else
      some (.go v2)

/-- slices.IndexFunc[[]int,int] -/
def f21_1 (F : Nat) (a0 : List Int) (c1 : Int) : Option (Int × Int) :=
  callE (f21_1_L0 F a0 F (0 : Int) c1)
    (fun e => some e) fun v3 =>
  some ((-1 : Int), v3)

/-- slices.ContainsFunc[[]int,int] -/
def f13_1 (F : Nat) (a0 : List Int) (c1 : Int) : Option (Bool × Int) :=
  call (f21_1 F a0 c1) fun y1 =>
  some ((decide (y1.1 ≥ (0 : Int))), y1.2)

def f22_L2 (F : Nat) (a0 : List Int) (v1 : Int) : Nat → (List Int) → Int → Option ((List Int))
  | 0, _, _ => none
  | n + 1, v2, v3 =>
    bif (decide (v3 < v1)) then
      call (chk (0 ≤ v3 ∧ v3 < a0.length) <|
        chk (0 ≤ v1 ∧ v1 < a0.length) <|
        bif (decide ((a0.getD v3.toNat 0) < (a0.getD v1.toNat 0))) then
          chk (0 ≤ v1 ∧ v1 < v2.length) <|
          chk (0 ≤ v3 ∧ v3 < v2.length) <|
          lett ((if (v2.getD v1.toNat 0) < (IntKind.i64.wrap ((v2.getD v3.toNat 0) + (1 : Int))) then (IntKind.i64.wrap ((v2.getD v3.toNat 0) + (1 : Int))) else (v2.getD v1.toNat 0))) fun z1 =>
          chk (0 ≤ v1 ∧ v1 < v2.length) <|
          some (v2.set v1.toNat z1)
        else
          some v2)
        fun v4 =>
      f22_L2 F a0 v1 n v4 (IntKind.i64.wrap (v3 + (1 : Int)))
    else
      some v2

def f22_L0 (F : Nat) (a0 : List Int) : Nat → (List Int) → Int → Int → Option Int
  | 0, _, _, _ => none
  | n + 1, v5, v6, v1 =>
    bif (decide (v1 < (a0.length : Int))) then
      chk (0 ≤ v1 ∧ v1 < v5.length) <|
      call (f22_L2 F a0 v1 F (v5.set v1.toNat (1 : Int)) (0 : Int))
        fun v7 =>
      chk (0 ≤ v1 ∧ v1 < v7.length) <|
      f22_L0 F a0 n v7 (if v6 < (v7.getD v1.toNat 0) then (v7.getD v1.toNat 0) else v6) (IntKind.i64.wrap (v1 + (1 : Int)))
    else
      some v6

/-- printworks/printworksref3.Longest -/
def f22 (F : Nat) (a0 : List Int) : Option Int :=
  chk (0 ≤ (a0.length : Int) ∧ (a0.length : Int) ≤ (a0.length : Int) ∧ (a0.length : Int) ≤ 9223372036854775807 ∧ ((8 : Nat) : Int) * (a0.length : Int) ≤ 281474976710656) <|
  call (f22_L0 F a0 F (List.replicate (a0.length : Int).toNat 0) (0 : Int) (0 : Int))
    fun v8 =>
  some v8

def f15_L2 (F : Nat) (a0 : List Int) (v1 : Int) : Nat → (List Int) → Int → Option ((List Int))
  | 0, _, _ => none
  | n + 1, v2, v3 =>
    bif (decide (v3 < (a0.length : Int))) then
      call (chk (0 ≤ v3 ∧ v3 < a0.length) <|
        chk (0 ≤ v1 ∧ v1 < a0.length) <|
        bif (decide ((a0.getD v3.toNat 0) > (a0.getD v1.toNat 0))) then
          chk (0 ≤ v3 ∧ v3 < a0.length) <|
          chk (v2.length + ([(a0.getD v3.toNat 0)]).length ≤ 4294967296) <|
          some (v2 ++ ([(a0.getD v3.toNat 0)]))
        else
          some v2)
        fun v4 =>
      f15_L2 F a0 v1 n v4 (IntKind.i64.wrap (v3 + (1 : Int)))
    else
      some v2

def f15_L0 (F : Nat) (a0 : List Int) (y1 : Int) : Nat → (List Bool) → (List Int) → Int → Option ((List Bool))
  | 0, _, _, _ => none
  | n + 1, v5, v6, v1 =>
    bif (decide (v1 < (a0.length : Int))) then
      call (chk ((((decide ((v6.length : Int) > (0 : Int))) == true) && true) = true → 0 ≤ (IntKind.i64.wrap ((v6.length : Int) - (1 : Int))) ∧ (IntKind.i64.wrap ((v6.length : Int) - (1 : Int))) < v6.length) <|
        chk ((((decide ((v6.length : Int) > (0 : Int))) == true) && true) = true → 0 ≤ (v6.getD (IntKind.i64.wrap ((v6.length : Int) - (1 : Int))).toNat 0) ∧ (v6.getD (IntKind.i64.wrap ((v6.length : Int) - (1 : Int))).toNat 0) < a0.length) <|
        chk ((((decide ((v6.length : Int) > (0 : Int))) == true) && true) = true → 0 ≤ v1 ∧ v1 < a0.length) <|
        lett ((decide ((a0.getD (v6.getD (IntKind.i64.wrap ((v6.length : Int) - (1 : Int))).toNat 0).toNat 0) ≥ (a0.getD v1.toNat 0)))) fun z1 =>
        bif (bif (decide ((v6.length : Int) > (0 : Int))) then z1 else false) then
          some (v5, v6)
        else
          call (f15_L2 F a0 v1 F [] (IntKind.i64.wrap (v1 + (1 : Int))))
            fun v7 =>
          call (f22 F v7) fun y2 =>
          bif ((IntKind.i64.wrap ((IntKind.i64.wrap ((v6.length : Int) + (1 : Int))) + y2)) == y1) then
            chk (v6.length + ([v1]).length ≤ 4294967296) <|
            chk (0 ≤ v1 ∧ v1 < v5.length) <|
            some ((v5.set v1.toNat true), (v6 ++ ([v1])))
          else
            some (v5, v6))
        fun (v8, v9) =>
      f15_L0 F a0 y1 n v8 v9 (IntKind.i64.wrap (v1 + (1 : Int)))
    else
      some v5

/-- printworks/printworksref3.KeptPositions -/
def f15 (F : Nat) (a0 : List Int) : Option ((List Bool)) :=
  chk (0 ≤ (a0.length : Int) ∧ (a0.length : Int) ≤ (a0.length : Int) ∧ (a0.length : Int) ≤ 9223372036854775807 ∧ ((1 : Nat) : Int) * (a0.length : Int) ≤ 281474976710656) <|
  call (f22 F a0) fun y1 =>
  call (f15_L0 F a0 y1 F (List.replicate (a0.length : Int).toNat false) [] (0 : Int))
    fun v10 =>
  some v10

def f5_L1 (F : Nat) (a0 : List Int) (y1 : (List Bool)) : Nat → (List Bool) → Int → Option ((List Bool))
  | 0, _, _ => none
  | n + 1, v1, v2 =>
    bif (decide (v2 < (y1.length : Int))) then
      call (chk (0 ≤ v2 ∧ v2 < y1.length) <|
        bif (y1.getD v2.toNat false) then
          chk (0 ≤ v2 ∧ v2 < a0.length) <|
          chk (0 ≤ (a0.getD v2.toNat 0) ∧ (a0.getD v2.toNat 0) < v1.length) <|
          some (v1.set (a0.getD v2.toNat 0).toNat true)
        else
          some v1)
        fun v3 =>
      f5_L1 F a0 y1 n v3 (IntKind.i64.wrap (v2 + (1 : Int)))
    else
      some v1

def f5_L3 (F : Nat) (a0 : List Int) (v4 : Int) : Nat → (List Int) → Int → Option ((List Int))
  | 0, _, _ => none
  | n + 1, v5, v6 =>
    bif (decide (v6 < v4)) then
      call (call (f16 F a0 v6) fun y2 =>
        bif (!y2) then
          chk (v5.length + ([v6]).length ≤ 4294967296) <|
          some (v5 ++ ([v6]))
        else
          some v5)
        fun v7 =>
      f5_L3 F a0 v4 n v7 (IntKind.i64.wrap (v6 + (1 : Int)))
    else
      some v5

def f5_L5 (F : Nat) (a0 : List Int) (y1 : (List Bool)) (v8 : List Bool) : Nat → (List Int) → (List Int) → Int → Option ((List Int) × (List Int))
  | 0, _, _, _ => none
  | n + 1, v9, v10, v11 =>
    bif (decide (v11 < (a0.length : Int))) then
      call (chk (0 ≤ v11 ∧ v11 < a0.length) <|
        chk (0 ≤ v11 ∧ v11 < y1.length) <|
        chk ((((!(y1.getD v11.toNat false)) == true) && true) = true → 0 ≤ (a0.getD v11.toNat 0) ∧ (a0.getD v11.toNat 0) < v8.length) <|
        bif (bif (!(y1.getD v11.toNat false)) then (v8.getD (a0.getD v11.toNat 0).toNat false) else false) then
          chk (v9.length + ([v11]).length ≤ 4294967296) <|
          some ((v9 ++ ([v11])), v10)
        else
          chk (0 ≤ v11 ∧ v11 < y1.length) <|
          bif (!(y1.getD v11.toNat false)) then
            chk (v10.length + ([v11]).length ≤ 4294967296) <|
            some (v9, (v10 ++ ([v11])))
          else
            some (v9, v10))
        fun (v12, v13) =>
      f5_L5 F a0 y1 v8 n v12 v13 (IntKind.i64.wrap (v11 + (1 : Int)))
    else
      some (v9, v10)

/-- printworks/printworkslaw3.BindFaultsMinimal -/
def f5 (F : Nat) (a0 : List Int) (a1 : Int) : Option Bool :=
  call (f12 F ([(0 : Int), (2 : Int), (1 : Int), (2 : Int)]) (4 : Int)) fun y3 =>
  call (f6 F) fun y4 =>
  call ((bif (((bif (!y4) then true else (y3.2 != (0 : Int))) == false) && true) then f11 F y3.1.f0 ([(3 : Int)]) else some false)) fun y5 =>
  call ((bif (((bif (bif (!y4) then true else (y3.2 != (0 : Int))) then true else (!y5)) == false) && true) then f11 F y3.1.f1 ([(1 : Int)]) else some false)) fun y6 =>
  lett ((bif (bif (bif (!y4) then true else (y3.2 != (0 : Int))) then true else (!y5)) then true else (!y6))) fun z1 =>
  bif (bif z1 then true else ((y3.1.f2.length : Int) != (0 : Int))) then
    some false
  else
    call (f12 F a0 a1) fun y7 =>
    call (bif (bif (decide (a1 < (1 : Int))) then true else (decide (a1 > (64 : Int)))) then
        some ((3 : Int), a1)
      else
        bif (decide ((a0.length : Int) > (64 : Int))) then
          some ((2 : Int), a1)
        else
          call (f13_1 F a0 a1) fun y8 =>
          bif y8.1 then
            some ((3 : Int), y8.2)
          else
            some ((0 : Int), y8.2))
      fun (v14, v4) =>
    bif (v14 != (0 : Int)) then
      lett (IntKind.i64.wrap ((IntKind.i64.wrap ((y7.1.f0.length : Int) + (y7.1.f1.length : Int))) + (y7.1.f2.length : Int))) fun z2 =>
      some (bif (y7.2 == v14) then (z2 == (0 : Int)) else false)
    else
      call (f15 F a0) fun y1 =>
      chk (0 ≤ v4 ∧ v4 ≤ v4 ∧ v4 ≤ 9223372036854775807 ∧ ((1 : Nat) : Int) * v4 ≤ 281474976710656) <|
      call (f5_L1 F a0 y1 F (List.replicate v4.toNat false) (0 : Int))
        fun v8 =>
      call (f5_L3 F a0 v4 F [] (0 : Int))
        fun v15 =>
      call (f5_L5 F a0 y1 v8 F [] [] (0 : Int))
        fun (v16, v17) =>
      call ((bif (((y7.2 == (0 : Int)) == true) && true) then f11 F y7.1.f0 v15 else some false)) fun y9 =>
      call ((bif (((bif (y7.2 == (0 : Int)) then y9 else false) == true) && true) then f11 F y7.1.f1 v16 else some false)) fun y10 =>
      call ((bif (((bif (bif (y7.2 == (0 : Int)) then y9 else false) then y10 else false) == true) && true) then f11 F y7.1.f2 v17 else some false)) fun y11 =>
      lett ((bif (bif (bif (y7.2 == (0 : Int)) then y9 else false) then y10 else false) then y11 else false)) fun z3 =>
      some z3

end Go.Vm.GenC5
