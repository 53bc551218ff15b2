import Derived.Test.YtknicigahcopjaaVmFunc2
namespace Go.Vm.GenC4
def f17_L0 (F : Nat) (a1 : Int) (a2 : Int) (c3 : Int) : Nat → (List Int) → Int → Option ((List Int))
  | 0, _, _ => none
  | n + 1, v1, v2 =>
    bif (decide (v2 < (IntKind.i64.wrap (a1 + a2)))) then
      call (bif (decide (v2 ≤ c3)) then
          chk (v1.length + ([v2]).length ≤ 4294967296) <|
          some (v1 ++ ([v2]))
        else
          chk (v1.length + ([(0 : Int)]).length ≤ 4294967296) <|
          some (v1 ++ ([(0 : Int)])))
        fun v3 =>
      f17_L0 F a1 a2 c3 n v3 (IntKind.i64.wrap (v2 + (1 : Int)))
    else
      some v1

/-- printworks/bind.Plan$1 -/
def f17 (F : Nat) (a0 : List Int) (a1 : Int) (a2 : Int) (c3 : Int) : Option ((List Int) × Int) :=
  call (f17_L0 F a1 a2 c3 F a0 a1)
    fun v4 =>
  some (v4, c3)

def f7_L1 (F : Nat) (a0 : Int) (a1 : Int) (a2 : Int) : Nat → Int → (List (List Int)) → Int → Option ((List (List Int)))
  | 0, _, _, _ => none
  | n + 1, v1, v2, v3 =>
    lett ((decide (v3 < (IntKind.i64.wrap ((IntKind.i64.wrap ((IntKind.i64.wrap (a0 + a1)) - (1 : Int))).tdiv a1))))) fun z1 =>
    bif z1 then
      call (bif (a2 == (0 : Int)) then
          call (f17 F [] (IntKind.i64.wrap ((IntKind.i64.wrap (v3 * a1)) + (1 : Int))) a1 v1) fun y1 =>
          chk (v2.length + ([y1.1]).length ≤ 4294967296) <|
          some (y1.2, (v2 ++ ([y1.1])))
        else
          call (f17 F [] (IntKind.i64.wrap ((IntKind.i64.wrap (v3 * (IntKind.i64.wrap (a1.tdiv (2 : Int))))) + (1 : Int))) (IntKind.i64.wrap (a1.tdiv (2 : Int))) v1) fun y2 =>
          lett (IntKind.i64.wrap ((IntKind.i64.wrap ((IntKind.i64.wrap ((IntKind.i64.wrap (a0 + a1)) - (1 : Int))).tdiv a1)) * a1)) fun z2 =>
          lett (IntKind.i64.wrap (z2 - (IntKind.i64.wrap ((IntKind.i64.wrap (v3 + (1 : Int))) * (IntKind.i64.wrap (a1.tdiv (2 : Int))))))) fun z3 =>
          call (f17 F y2.1 (IntKind.i64.wrap (z3 + (1 : Int))) (IntKind.i64.wrap (a1.tdiv (2 : Int))) y2.2) fun y3 =>
          chk (v2.length + ([y3.1]).length ≤ 4294967296) <|
          some (y3.2, (v2 ++ ([y3.1]))))
        fun (v4, v5) =>
      f7_L1 F a0 a1 a2 n v4 v5 (IntKind.i64.wrap (v3 + (1 : Int)))
    else
      some v2

/-- printworks/bind.Plan -/
def f7 (F : Nat) (a0 : Int) (a1 : Int) (a2 : Int) : Option ((List (List Int)) × Int) :=
  lett ((bif (bif (decide (a0 < (1 : Int))) then true else (decide (a0 > (512 : Int)))) then true else (decide (a1 < (2 : Int))))) fun z4 =>
  bif (bif z4 then true else (decide (a1 > (64 : Int)))) then
    some ([], (3 : Int))
  else
    bif (bif (a2 != (0 : Int)) then (a2 != (1 : Int)) else false) then
      some ([], (14 : Int))
    else
      lett ((bif ((a1.tmod (2 : Int)) == (1 : Int)) then true else (bif (a2 == (1 : Int)) then ((a1.tmod (4 : Int)) != (0 : Int)) else false))) fun z5 =>
      bif z5 then
        some ([], (4 : Int))
      else
        chk (a1 ≠ 0) <|
        lett ((decide ((IntKind.i64.wrap ((IntKind.i64.wrap ((IntKind.i64.wrap (a0 + a1)) - (1 : Int))).tdiv a1)) > (64 : Int)))) fun z6 =>
        bif z6 then
          some ([], (2 : Int))
        else
          call (f7_L1 F a0 a1 a2 F a0 [] (0 : Int))
            fun v6 =>
          some (v6, (0 : Int))

def f11_L0 (F : Nat) (a0 : List Int) (a1 : List Int) : Nat → Int → Option (Out Unit Bool)
  | 0, _ => none
  | n + 1, v1 =>
    bif (decide (v1 < (a0.length : Int))) then
      chk (0 ≤ v1 ∧ v1 < a0.length) <|
      chk (0 ≤ v1 ∧ v1 < a1.length) <|
      bif ((a0.getD v1.toNat 0) != (a1.getD v1.toNat 0)) then
        some (.esc false)
      else
        f11_L0 F a0 a1 n (IntKind.i64.wrap (v1 + (1 : Int)))
    else
      some (.go ())

/-- slices.Equal[[]int,int] -/
def f11 (F : Nat) (a0 : List Int) (a1 : List Int) : Option Bool :=
  bif ((a0.length : Int) != (a1.length : Int)) then
    some false
  else
    callE (f11_L0 F a0 a1 F (0 : Int))
      (fun e => some e) fun _ =>
    some true

/-- printworks/printworkslaw3.bindFact -/
def f6 (F : Nat)  : Option Bool :=
  call (f7 F (6 : Int) (4 : Int) (1 : Int)) fun y1 =>
  chk ((((bif (y1.2 == (0 : Int)) then ((y1.1.length : Int) == (2 : Int)) else false) == true) && true) = true → 0 ≤ (0 : Int) ∧ (0 : Int) < y1.1.length) <|
  call ((bif (((bif (y1.2 == (0 : Int)) then ((y1.1.length : Int) == (2 : Int)) else false) == true) && true) then f11 F (y1.1.getD (0 : Int).toNat []) ([(1 : Int), (2 : Int), (0 : Int), (0 : Int)]) else some false)) fun y2 =>
  lett ((bif (bif (y1.2 == (0 : Int)) then ((y1.1.length : Int) == (2 : Int)) else false) then y2 else false)) fun z1 =>
  chk (((z1 == true) && true) = true → 0 ≤ (1 : Int) ∧ (1 : Int) < y1.1.length) <|
  call ((bif ((z1 == true) && true) then f11 F (y1.1.getD (1 : Int).toNat []) ([(3 : Int), (4 : Int), (5 : Int), (6 : Int)]) else some false)) fun y3 =>
  some (bif z1 then y3 else false)

/-- slices.Grow[[]int,int] -/
def f24 (F : Nat) (a0 : Int) : Option ((List Int)) :=
  bif (decide (a0 < (0 : Int))) then
    none
  else
    call (lett ((decide ((IntKind.i64.wrap (a0 - (IntKind.i64.wrap ((0 : Int) - (([] : List Int).length : Int))))) > (0 : Int)))) fun z1 =>
      bif z1 then
        chk (0 ≤ (0 : Int) ∧ (0 : Int) ≤ (0 : Int) ∧ (0 : Int) ≤ 0) <|
        chk (0 < (IntKind.i64.wrap (a0 - (IntKind.i64.wrap ((0 : Int) - (([] : List Int).length : Int))))) ∧ (IntKind.i64.wrap (a0 - (IntKind.i64.wrap ((0 : Int) - (([] : List Int).length : Int))))) ≤ 4294967296) <|
        lett ((List.replicate (IntKind.i64.wrap (a0 - (IntKind.i64.wrap ((0 : Int) - (([] : List Int).length : Int))))).toNat 0)) fun l1 =>
        chk (0 ≤ (([] : List Int).length : Int) ∧ (([] : List Int).length : Int) ≤ (l1.length : Int)) <|
        some (l1.take (([] : List Int).length : Int).toNat)
      else
        some [])
      fun v1 =>
    some v1

def f18_L0 (F : Nat) (a0 : List (List Int)) : Nat → Int → Int → Option Int
  | 0, _, _ => none
  | n + 1, v1, v2 =>
    bif (decide (v2 < (a0.length : Int))) then
      chk (0 ≤ v2 ∧ v2 < a0.length) <|
      bif (decide ((IntKind.i64.wrap (v1 + ((a0.getD v2.toNat []).length : Int))) < (0 : Int))) then
        none
      else
        f18_L0 F a0 n (IntKind.i64.wrap (v1 + ((a0.getD v2.toNat []).length : Int))) (IntKind.i64.wrap (v2 + (1 : Int)))
    else
      some v1

def f18_L2 (F : Nat) (a0 : List (List Int)) : Nat → (List Int) → Int → Option ((List Int))
  | 0, _, _ => none
  | n + 1, v3, v4 =>
    bif (decide (v4 < (a0.length : Int))) then
      chk (0 ≤ v4 ∧ v4 < a0.length) <|
      chk (v3.length + (a0.getD v4.toNat []).length ≤ 4294967296) <|
      f18_L2 F a0 n (v3 ++ (a0.getD v4.toNat [])) (IntKind.i64.wrap (v4 + (1 : Int)))
    else
      some v3

/-- slices.Concat[[]int,int] -/
def f18 (F : Nat) (a0 : List (List Int)) : Option ((List Int)) :=
  call (f18_L0 F a0 F (0 : Int) (0 : Int))
    fun v5 =>
  call (f24 F v5) fun y1 =>
  call (f18_L2 F a0 F y1 (0 : Int))
    fun v6 =>
  some v6

def f10_L0 (F : Nat) (a0 : List (List Int)) : Nat → Int → Option (Out Unit ((List Int) × Int))
  | 0, _ => none
  | n + 1, v1 =>
    bif (decide (v1 < (a0.length : Int))) then
      chk (0 ≤ v1 ∧ v1 < a0.length) <|
      lett ((bif (decide (((a0.getD v1.toNat []).length : Int) > (64 : Int))) then true else ((((a0.getD v1.toNat []).length : Int).tmod (2 : Int)) == (1 : Int)))) fun z1 =>
      bif z1 then
        some (.esc ([], (4 : Int)))
      else
        f10_L0 F a0 n (IntKind.i64.wrap (v1 + (1 : Int)))
    else
      some (.go ())

def f10_L2 (F : Nat) (a0 : List (List Int)) (a1 : List Int) (a2 : Int) : Nat → (List Int) → (List Int) → Int → Option (Out ((List Int) × (List Int)) ((List Int) × Int))
  | 0, _, _, _ => none
  | n + 1, v2, v3, v4 =>
    bif (decide (v4 < (a1.length : Int))) then
      callE (chk (0 ≤ v4 ∧ v4 < a1.length) <|
        lett ((bif (decide ((a1.getD v4.toNat 0) < (0 : Int))) then true else (decide ((a1.getD v4.toNat 0) ≥ (a0.length : Int))))) fun z2 =>
        bif z2 then
          some (.esc ([], (3 : Int)))
        else
          chk (0 ≤ (a1.getD v4.toNat 0) ∧ (a1.getD v4.toNat 0) < a0.length) <|
          bif (a2 == (0 : Int)) then
            chk (v2.length + (a0.getD (a1.getD v4.toNat 0).toNat []).length ≤ 4294967296) <|
            some (.go ((v2 ++ (a0.getD (a1.getD v4.toNat 0).toNat [])), v3))
          else
            chk (0 ≤ (0 : Int) ∧ (0 : Int) ≤ (IntKind.i64.wrap (((a0.getD (a1.getD v4.toNat 0).toNat []).length : Int).tdiv (2 : Int))) ∧ (IntKind.i64.wrap (((a0.getD (a1.getD v4.toNat 0).toNat []).length : Int).tdiv (2 : Int))) ≤ ((a0.getD (a1.getD v4.toNat 0).toNat []).length : Int)) <|
            lett ((((a0.getD (a1.getD v4.toNat 0).toNat []).drop (0 : Int).toNat).take ((IntKind.i64.wrap (((a0.getD (a1.getD v4.toNat 0).toNat []).length : Int).tdiv (2 : Int))).toNat - (0 : Int).toNat))) fun z3 =>
            chk (v2.length + z3.length ≤ 4294967296) <|
            chk (0 ≤ (IntKind.i64.wrap (((a0.getD (a1.getD v4.toNat 0).toNat []).length : Int).tdiv (2 : Int))) ∧ (IntKind.i64.wrap (((a0.getD (a1.getD v4.toNat 0).toNat []).length : Int).tdiv (2 : Int))) ≤ ((a0.getD (a1.getD v4.toNat 0).toNat []).length : Int) ∧ ((a0.getD (a1.getD v4.toNat 0).toNat []).length : Int) ≤ ((a0.getD (a1.getD v4.toNat 0).toNat []).length : Int)) <|
            lett ((((a0.getD (a1.getD v4.toNat 0).toNat []).drop (IntKind.i64.wrap (((a0.getD (a1.getD v4.toNat 0).toNat []).length : Int).tdiv (2 : Int))).toNat).take (((a0.getD (a1.getD v4.toNat 0).toNat []).length : Int).toNat - (IntKind.i64.wrap (((a0.getD (a1.getD v4.toNat 0).toNat []).length : Int).tdiv (2 : Int))).toNat))) fun z4 =>
            call (f18 F ([z4, v3])) fun y1 =>
            some (.go ((v2 ++ z3), y1)))
        (fun e => some (.esc e)) fun (v5, v6) =>
      f10_L2 F a0 a1 a2 n v5 v6 (IntKind.i64.wrap (v4 + (1 : Int)))
    else
      some (.go (v2, v3))

/-- printworks/bind.Read -/
def f10 (F : Nat) (a0 : List (List Int)) (a1 : List Int) (a2 : Int) : Option ((List Int) × Int) :=
  lett ((bif (decide ((a0.length : Int) > (64 : Int))) then true else (decide ((a1.length : Int) > (64 : Int))))) fun z5 =>
  bif z5 then
    some ([], (2 : Int))
  else
    callE (f10_L0 F a0 F (0 : Int))
      (fun e => some e) fun _ =>
    bif (bif (a2 != (0 : Int)) then (a2 != (1 : Int)) else false) then
      some ([], (14 : Int))
    else
      callE (f10_L2 F a0 a1 a2 F [] [] (0 : Int))
        (fun e => some e) fun (v7, v8) =>
      chk (v7.length + v8.length ≤ 4294967296) <|
      some ((v7 ++ v8), (0 : Int))

def f9_L0 (F : Nat) (a0 : List (List Int)) (a1 : List Int) (a2 : Bool) : Nat → (List Int) → Int → Option ((List Int))
  | 0, _, _ => none
  | n + 1, v1, v2 =>
    bif (decide (v2 < (a1.length : Int))) then
      chk (0 ≤ v2 ∧ v2 < a1.length) <|
      chk (0 ≤ (a1.getD v2.toNat 0) ∧ (a1.getD v2.toNat 0) < a0.length) <|
      call (bif a2 then
          chk (0 ≤ (0 : Int) ∧ (0 : Int) ≤ (IntKind.i64.wrap (((a0.getD (a1.getD v2.toNat 0).toNat []).length : Int).tdiv (2 : Int))) ∧ (IntKind.i64.wrap (((a0.getD (a1.getD v2.toNat 0).toNat []).length : Int).tdiv (2 : Int))) ≤ ((a0.getD (a1.getD v2.toNat 0).toNat []).length : Int)) <|
          lett ((((a0.getD (a1.getD v2.toNat 0).toNat []).drop (0 : Int).toNat).take ((IntKind.i64.wrap (((a0.getD (a1.getD v2.toNat 0).toNat []).length : Int).tdiv (2 : Int))).toNat - (0 : Int).toNat))) fun z1 =>
          some z1
        else
          some (a0.getD (a1.getD v2.toNat 0).toNat []))
        fun v3 =>
      chk (v1.length + v3.length ≤ 4294967296) <|
      f9_L0 F a0 a1 a2 n (v1 ++ v3) (IntKind.i64.wrap (v2 + (1 : Int)))
    else
      some v1

def f9_L2 (F : Nat) (a0 : List (List Int)) (a1 : List Int) (a2 : Bool) : Nat → (List Int) → Int → Option ((List Int))
  | 0, _, _ => none
  | n + 1, v4, v5 =>
    bif (decide (v5 < (a1.length : Int))) then
      call (bif a2 then
          chk (0 ≤ (IntKind.i64.wrap ((IntKind.i64.wrap ((a1.length : Int) - (1 : Int))) - v5)) ∧ (IntKind.i64.wrap ((IntKind.i64.wrap ((a1.length : Int) - (1 : Int))) - v5)) < a1.length) <|
          chk (0 ≤ (a1.getD (IntKind.i64.wrap ((IntKind.i64.wrap ((a1.length : Int) - (1 : Int))) - v5)).toNat 0) ∧ (a1.getD (IntKind.i64.wrap ((IntKind.i64.wrap ((a1.length : Int) - (1 : Int))) - v5)).toNat 0) < a0.length) <|
          lett ((a0.getD (a1.getD (IntKind.i64.wrap ((IntKind.i64.wrap ((a1.length : Int) - (1 : Int))) - v5)).toNat 0).toNat [])) fun z2 =>
          chk (0 ≤ (IntKind.i64.wrap ((z2.length : Int).tdiv (2 : Int))) ∧ (IntKind.i64.wrap ((z2.length : Int).tdiv (2 : Int))) ≤ (z2.length : Int) ∧ (z2.length : Int) ≤ (z2.length : Int)) <|
          lett (((z2.drop (IntKind.i64.wrap ((z2.length : Int).tdiv (2 : Int))).toNat).take ((z2.length : Int).toNat - (IntKind.i64.wrap ((z2.length : Int).tdiv (2 : Int))).toNat))) fun z3 =>
          chk (v4.length + z3.length ≤ 4294967296) <|
          some (v4 ++ z3)
        else
          some v4)
        fun v6 =>
      f9_L2 F a0 a1 a2 n v6 (IntKind.i64.wrap (v5 + (1 : Int)))
    else
      some v4

/-- printworks/printworksref3.Gathered -/
def f9 (F : Nat) (a0 : List (List Int)) (a1 : List Int) (a2 : Bool) : Option ((List Int)) :=
  call (f9_L0 F a0 a1 a2 F [] (0 : Int))
    fun v7 =>
  call (f9_L2 F a0 a1 a2 F v7 (0 : Int))
    fun v8 =>
  some v8

def f4_L0 (F : Nat) (a0 : List (List Int)) : Nat → Int → Int → Option Int
  | 0, _, _ => none
  | n + 1, v1, v2 =>
    bif (decide (v2 < (a0.length : Int))) then
      call (chk (0 ≤ v2 ∧ v2 < a0.length) <|
        lett ((bif (decide (((a0.getD v2.toNat []).length : Int) > (64 : Int))) then true else ((((a0.getD v2.toNat []).length : Int).tmod (2 : Int)) == (1 : Int)))) fun z1 =>
        bif (bif (v1 == (0 : Int)) then z1 else false) then
          some (4 : Int)
        else
          some v1)
        fun v3 =>
      f4_L0 F a0 n v3 (IntKind.i64.wrap (v2 + (1 : Int)))
    else
      some v1

def f4_L2 (F : Nat) (a0 : List (List Int)) (a1 : List Int) : Nat → Int → Int → Option Int
  | 0, _, _ => none
  | n + 1, v4, v5 =>
    bif (decide (v5 < (a1.length : Int))) then
      call (chk (0 ≤ v5 ∧ v5 < a1.length) <|
        lett ((bif (decide ((a1.getD v5.toNat 0) < (0 : Int))) then true else (decide ((a1.getD v5.toNat 0) ≥ (a0.length : Int))))) fun z2 =>
        bif (bif (v4 == (0 : Int)) then z2 else false) then
          some (3 : Int)
        else
          some v4)
        fun v6 =>
      f4_L2 F a0 a1 n v6 (IntKind.i64.wrap (v5 + (1 : Int)))
    else
      some v4

/-- printworks/printworkslaw3.BindReadMatchesReference -/
def f4 (F : Nat) (a0 : List (List Int)) (a1 : List Int) (a2 : Int) : Option Bool :=
  call (f6 F) fun y1 =>
  bif (!y1) then
    some false
  else
    call (f10 F a0 a1 a2) fun y2 =>
    call (lett ((bif (decide ((a0.length : Int) > (64 : Int))) then true else (decide ((a1.length : Int) > (64 : Int))))) fun z3 =>
      bif z3 then
        some (2 : Int)
      else
        some (0 : Int))
      fun v7 =>
    call (f4_L0 F a0 F v7 (0 : Int))
      fun v8 =>
    call (bif (bif (bif (v8 == (0 : Int)) then (a2 != (0 : Int)) else false) then (a2 != (1 : Int)) else false) then
        some (14 : Int)
      else
        some v8)
      fun v9 =>
    call (f4_L2 F a0 a1 F v9 (0 : Int))
      fun v10 =>
    bif (v10 != (0 : Int)) then
      some (bif (y2.2 == v10) then ((y2.1.length : Int) == (0 : Int)) else false)
    else
      call ((bif (((y2.2 == (0 : Int)) == true) && true) then f9 F a0 a1 (a2 == (1 : Int)) else some [])) fun y3 =>
      call ((bif (((y2.2 == (0 : Int)) == true) && true) then f11 F y2.1 y3 else some false)) fun y4 =>
      some (bif (y2.2 == (0 : Int)) then y4 else false)

end Go.Vm.GenC4
