import Derived.Test.YtknicigahcopjaaVmNil
namespace Go.Vm.GenC3
def f17_L0 (F : Nat) (a1 : Int) (a2 : Int) (c3 : Int) : Nat → (List Int) → Int → Option ((List Int))
  | 0, _, _ => none
  | n + 1, v71, v72 =>
    bif (decide (v72 < (IntKind.i64.wrap (a1 + a2)))) then
      call (bif (decide (v72 ≤ c3)) then
          chk (v71.length + ([v72]).length ≤ 4294967296) <|
          some (v71 ++ ([v72]))
        else
          chk (v71.length + ([(0 : Int)]).length ≤ 4294967296) <|
          some (v71 ++ ([(0 : Int)])))
        fun v81 =>
      f17_L0 F a1 a2 c3 n v81 (IntKind.i64.wrap (v72 + (1 : Int)))
    else
      some v71

/-- printworks/bind.Plan$1 -/
def f17 (F : Nat) (a0 : List Int) (a1 : Int) (a2 : Int) (c3 : Int) : Option ((List Int) × Int) :=
  call (f17_L0 F a1 a2 c3 F a0 a1)
    fun v63 =>
  some (v63, c3)

def f7_L1 (F : Nat) (a0 : Int) (a1 : Int) (a2 : Int) : Nat → Int → (List (List Int)) → Int → Option ((List (List Int)))
  | 0, _, _, _ => none
  | n + 1, v393, v394, v395 =>
    lett ((decide (v395 < (IntKind.i64.wrap ((IntKind.i64.wrap ((IntKind.i64.wrap (a0 + a1)) - (1 : Int))).tdiv a1))))) fun z431 =>
    bif z431 then
      call (bif (a2 == (0 : Int)) then
          call (f17 F [] (IntKind.i64.wrap ((IntKind.i64.wrap (v395 * a1)) + (1 : Int))) a1 v393) fun y454 =>
          chk (v394.length + ([y454.1]).length ≤ 4294967296) <|
          some (y454.2, (v394 ++ ([y454.1])))
        else
          call (f17 F [] (IntKind.i64.wrap ((IntKind.i64.wrap (v395 * (IntKind.i64.wrap (a1.tdiv (2 : Int))))) + (1 : Int))) (IntKind.i64.wrap (a1.tdiv (2 : Int))) v393) fun y457 =>
          lett (IntKind.i64.wrap ((IntKind.i64.wrap ((IntKind.i64.wrap ((IntKind.i64.wrap (a0 + a1)) - (1 : Int))).tdiv a1)) * a1)) fun z459 =>
          lett (IntKind.i64.wrap (z459 - (IntKind.i64.wrap ((IntKind.i64.wrap (v395 + (1 : Int))) * (IntKind.i64.wrap (a1.tdiv (2 : Int))))))) fun z461 =>
          call (f17 F y457.1 (IntKind.i64.wrap (z461 + (1 : Int))) (IntKind.i64.wrap (a1.tdiv (2 : Int))) y457.2) fun y463 =>
          chk (v394.length + ([y463.1]).length ≤ 4294967296) <|
          some (y463.2, (v394 ++ ([y463.1]))))
        fun (v448, v449) =>
      f7_L1 F a0 a1 a2 n v448 v449 (IntKind.i64.wrap (v395 + (1 : Int)))
    else
      some v394

/-- printworks/bind.Plan -/
def f7 (F : Nat) (a0 : Int) (a1 : Int) (a2 : Int) : Option ((List (List Int)) × Int) :=
  lett ((bif (bif (decide (a0 < (1 : Int))) then true else (decide (a0 > (512 : Int)))) then true else (decide (a1 < (2 : Int))))) fun z5 =>
  bif (bif z5 then true else (decide (a1 > (64 : Int)))) then
    some ([], (3 : Int))
  else
    bif (bif (a2 != (0 : Int)) then (a2 != (1 : Int)) else false) then
      some ([], (14 : Int))
    else
      lett ((bif ((a1.tmod (2 : Int)) == (1 : Int)) then true else (bif (a2 == (1 : Int)) then ((a1.tmod (4 : Int)) != (0 : Int)) else false))) fun z7 =>
      bif z7 then
        some ([], (4 : Int))
      else
        chk (a1 ≠ 0) <|
        lett ((decide ((IntKind.i64.wrap ((IntKind.i64.wrap ((IntKind.i64.wrap (a0 + a1)) - (1 : Int))).tdiv a1)) > (64 : Int)))) fun z12 =>
        bif z12 then
          some ([], (2 : Int))
        else
          call (f7_L1 F a0 a1 a2 F a0 [] (0 : Int))
            fun v352 =>
          some (v352, (0 : Int))

def f11_L0 (F : Nat) (a0 : List Int) (a1 : List Int) : Nat → Int → Option (Out Unit Bool)
  | 0, _ => none
  | n + 1, v46 =>
    bif (decide (v46 < (a0.length : Int))) then
      chk (0 ≤ v46 ∧ v46 < a0.length) <|
      chk (0 ≤ v46 ∧ v46 < a1.length) <|
      bif ((a0.getD v46.toNat 0) != (a1.getD v46.toNat 0)) then
        some (.esc false)
      else
        f11_L0 F a0 a1 n (IntKind.i64.wrap (v46 + (1 : Int)))
    else
      some (.go ())

/-- slices.Equal[[]int,int] -/
def f11 (F : Nat) (a0 : List Int) (a1 : List Int) : Option Bool :=
  bif ((a0.length : Int) != (a1.length : Int)) then
    some false
  else
    callE (f11_L0 F a0 a1 F (0 : Int))
      (fun e => some e) fun _ =>
    some true

/-- printworks/printworkslaw3.bindFact -/
def f6 (F : Nat)  : Option Bool :=
  call (f7 F (6 : Int) (4 : Int) (1 : Int)) fun y1 =>
  chk ((((bif (y1.2 == (0 : Int)) then ((y1.1.length : Int) == (2 : Int)) else false) == true) && true) = true → 0 ≤ (0 : Int) ∧ (0 : Int) < y1.1.length) <|
  call ((bif (((bif (y1.2 == (0 : Int)) then ((y1.1.length : Int) == (2 : Int)) else false) == true) && true) then f11 F (y1.1.getD (0 : Int).toNat []) ([(1 : Int), (2 : Int), (0 : Int), (0 : Int)]) else some false)) fun y4 =>
  lett ((bif (bif (y1.2 == (0 : Int)) then ((y1.1.length : Int) == (2 : Int)) else false) then y4 else false)) fun z6 =>
  chk (((z6 == true) && true) = true → 0 ≤ (1 : Int) ∧ (1 : Int) < y1.1.length) <|
  call ((bif ((z6 == true) && true) then f11 F (y1.1.getD (1 : Int).toNat []) ([(3 : Int), (4 : Int), (5 : Int), (6 : Int)]) else some false)) fun y9 =>
  some (bif z6 then y9 else false)

/-- printworks/printworksref3.Ceil -/
def f8 (F : Nat) (a0 : Int) (a1 : Int) : Option Int :=
  chk (a1 ≠ 0) <|
  call (bif (decide ((IntKind.i64.wrap ((IntKind.i64.wrap (a0.tdiv a1)) * a1)) < a0)) then
      some (IntKind.i64.wrap ((IntKind.i64.wrap (a0.tdiv a1)) + (1 : Int)))
    else
      some (IntKind.i64.wrap (a0.tdiv a1)))
    fun v2 =>
  some v2

def f9_L0 (F : Nat) (a0 : List (List Int)) (a1 : List Int) (a2 : Bool) : Nat → (List Int) → Int → Option ((List Int))
  | 0, _, _ => none
  | n + 1, v231, v232 =>
    bif (decide (v232 < (a1.length : Int))) then
      chk (0 ≤ v232 ∧ v232 < a1.length) <|
      chk (0 ≤ (a1.getD v232.toNat 0) ∧ (a1.getD v232.toNat 0) < a0.length) <|
      call (bif a2 then
          chk (0 ≤ (0 : Int) ∧ (0 : Int) ≤ (IntKind.i64.wrap (((a0.getD (a1.getD v232.toNat 0).toNat []).length : Int).tdiv (2 : Int))) ∧ (IntKind.i64.wrap (((a0.getD (a1.getD v232.toNat 0).toNat []).length : Int).tdiv (2 : Int))) ≤ ((a0.getD (a1.getD v232.toNat 0).toNat []).length : Int)) <|
          lett ((((a0.getD (a1.getD v232.toNat 0).toNat []).drop (0 : Int).toNat).take ((IntKind.i64.wrap (((a0.getD (a1.getD v232.toNat 0).toNat []).length : Int).tdiv (2 : Int))).toNat - (0 : Int).toNat))) fun z274 =>
          some z274
        else
          some (a0.getD (a1.getD v232.toNat 0).toNat []))
        fun v271 =>
      chk (v231.length + v271.length ≤ 4294967296) <|
      f9_L0 F a0 a1 a2 n (v231 ++ v271) (IntKind.i64.wrap (v232 + (1 : Int)))
    else
      some v231

def f9_L2 (F : Nat) (a0 : List (List Int)) (a1 : List Int) (a2 : Bool) : Nat → (List Int) → Int → Option ((List Int))
  | 0, _, _ => none
  | n + 1, v467, v468 =>
    bif (decide (v468 < (a1.length : Int))) then
      call (bif a2 then
          chk (0 ≤ (IntKind.i64.wrap ((IntKind.i64.wrap ((a1.length : Int) - (1 : Int))) - v468)) ∧ (IntKind.i64.wrap ((IntKind.i64.wrap ((a1.length : Int) - (1 : Int))) - v468)) < a1.length) <|
          chk (0 ≤ (a1.getD (IntKind.i64.wrap ((IntKind.i64.wrap ((a1.length : Int) - (1 : Int))) - v468)).toNat 0) ∧ (a1.getD (IntKind.i64.wrap ((IntKind.i64.wrap ((a1.length : Int) - (1 : Int))) - v468)).toNat 0) < a0.length) <|
          lett ((a0.getD (a1.getD (IntKind.i64.wrap ((IntKind.i64.wrap ((a1.length : Int) - (1 : Int))) - v468)).toNat 0).toNat [])) fun z499 =>
          chk (0 ≤ (IntKind.i64.wrap ((z499.length : Int).tdiv (2 : Int))) ∧ (IntKind.i64.wrap ((z499.length : Int).tdiv (2 : Int))) ≤ (z499.length : Int) ∧ (z499.length : Int) ≤ (z499.length : Int)) <|
          lett (((z499.drop (IntKind.i64.wrap ((z499.length : Int).tdiv (2 : Int))).toNat).take ((z499.length : Int).toNat - (IntKind.i64.wrap ((z499.length : Int).tdiv (2 : Int))).toNat))) fun z502 =>
          chk (v467.length + z502.length ≤ 4294967296) <|
          some (v467 ++ z502)
        else
          some v467)
        fun v495 =>
      f9_L2 F a0 a1 a2 n v495 (IntKind.i64.wrap (v468 + (1 : Int)))
    else
      some v467

/-- printworks/printworksref3.Gathered -/
def f9 (F : Nat) (a0 : List (List Int)) (a1 : List Int) (a2 : Bool) : Option ((List Int)) :=
  call (f9_L0 F a0 a1 a2 F [] (0 : Int))
    fun v207 =>
  call (f9_L2 F a0 a1 a2 F v207 (0 : Int))
    fun v447 =>
  some v447

def f3_L1 (F : Nat) (a1 : Int) (y5 : (List (List Int)) × Int) : Nat → (List Int) → Int → Option (Out ((List Int)) Bool)
  | 0, _, _ => none
  | n + 1, v71, v72 =>
    bif (decide (v72 < (y5.1.length : Int))) then
      chk (0 ≤ v72 ∧ v72 < y5.1.length) <|
      chk (v71.length + ([v72]).length ≤ 4294967296) <|
      bif (((y5.1.getD v72.toNat []).length : Int) != a1) then
        some (.esc false)
      else
        f3_L1 F a1 y5 n (v71 ++ ([v72])) (IntKind.i64.wrap (v72 + (1 : Int)))
    else
      some (.go v71)

def f3_L3 (F : Nat) (a0 : Int) (y81 : (List Int)) : Nat → Int → Option (Out Unit Bool)
  | 0, _ => none
  | n + 1, v188 =>
    bif (decide (v188 < (y81.length : Int))) then
      chk (0 ≤ v188 ∧ v188 < y81.length) <|
      lett ((bif (decide (v188 < a0)) then ((y81.getD v188.toNat 0) != (IntKind.i64.wrap (v188 + (1 : Int)))) else false)) fun z205 =>
      lett ((bif z205 then true else (bif (decide (v188 ≥ a0)) then ((y81.getD v188.toNat 0) != (0 : Int)) else false))) fun z207 =>
      bif z207 then
        some (.esc false)
      else
        f3_L3 F a0 y81 n (IntKind.i64.wrap (v188 + (1 : Int)))
    else
      some (.go ())

/-- printworks/printworkslaw3.BindPlanMatchesReference -/
def f3 (F : Nat) (a0 : Int) (a1 : Int) (a2 : Int) : Option Bool :=
  call (f6 F) fun y3 =>
  bif (!y3) then
    some false
  else
    call (f7 F a0 a1 a2) fun y5 =>
    call (lett ((bif (bif (decide (a0 < (1 : Int))) then true else (decide (a0 > (512 : Int)))) then true else (decide (a1 < (2 : Int))))) fun z15 =>
      bif (bif z15 then true else (decide (a1 > (64 : Int)))) then
        some (3 : Int)
      else
        bif (bif (a2 != (0 : Int)) then (a2 != (1 : Int)) else false) then
          some (14 : Int)
        else
          lett ((bif ((a1.tmod (2 : Int)) == (1 : Int)) then true else (bif (a2 == (1 : Int)) then (decide ((a1.tmod (4 : Int)) > (0 : Int))) else false))) fun z17 =>
          bif z17 then
            some (4 : Int)
          else
            call (f8 F a0 a1) fun y19 =>
            bif (decide (y19 > (64 : Int))) then
              some (2 : Int)
            else
              some (0 : Int))
      fun v13 =>
    bif (v13 != (0 : Int)) then
      some (bif (y5.2 == v13) then ((y5.1.length : Int) == (0 : Int)) else false)
    else
      callE (f3_L1 F a1 y5 F [] (0 : Int))
        (fun e => some e) fun v65 =>
      call (f9 F y5.1 v65 (a2 == (1 : Int))) fun y81 =>
      callE (f3_L3 F a0 y81 F (0 : Int))
        (fun e => some e) fun _ =>
      call ((bif (((y5.2 == (0 : Int)) == true) && true) then f8 F a0 a1 else some 0)) fun y209 =>
      lett ((bif (bif (y5.2 == (0 : Int)) then ((y5.1.length : Int) == y209) else false) then ((y81.length : Int) == (IntKind.i64.wrap (a1 * (y5.1.length : Int)))) else false)) fun z211 =>
      some z211

end Go.Vm.GenC3
