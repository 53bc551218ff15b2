import Derived.Test.YtmaolabjdmhinaaDoorVmC
import Derived.Lib.ItoaNum
import Derived.Lib.AtoiAll
import Derived.Lib.Repeat
import Derived.Shelf.GgClosure.StringsIndexFunc
namespace Go.Vm.VarG
def glob_internal_strconv_uint64pow10 : List Int := [1, 10, 100, 1000, 10000, 100000, 1000000, 10000000, 100000000, 1000000000, 10000000000, 100000000000, 1000000000000, 10000000000000, 100000000000000, 1000000000000000, 10000000000000000, 100000000000000000, 1000000000000000000, 10000000000000000000]

/-- what strconv.Atoi returns of a number. -/
def sAtoi (l : List UInt8) : Option Int :=
  match Lib.atoiAll l with
  | .ok v => some v
  | _ => none

/-- strings.ContainsFunc, of a predicate that answers at every rune. -/
def sContains (q : Int → Option Bool) (l : List UInt8) : Option Bool :=
  if ∀ x : Nat, x ≤ 1114111 → (q x).isSome = true then some (decide (0 ≤ Lib.idxFunc (fun x => (q x).getD false) true ⟨l.toArray⟩)) else none
theorem sContains_ok {q : Int → Option Bool} {l : List UInt8} {r : Bool} (h : sContains q l = some r) : (∀ x : Nat, x ≤ 1114111 → (q x).isSome = true) ∧ r = decide (0 ≤ Lib.idxFunc (fun x => (q x).getD false) true ⟨l.toArray⟩) := by
  unfold sContains at h
  split at h
  · rename_i h1; cases h; exact ⟨h1, rfl⟩
  · cases h

def vary_check_L0 (F : Nat) (a0 : List UInt8) : Nat → Int → Int → Option Int
  | 0, _, _ => none
  | n + 1, v1, v2 =>
    bif (decide (v2 < (a0.length : Int))) then
      chk (0 ≤ v2 ∧ v2 < a0.length) <|
      lett (IntKind.i64.wrap ((IntKind.i64.wrap (v1 * (10 : Int))) + (IntKind.i64.wrap (IntKind.u8.wrap (((a0.getD v2.toNat 0).toNat : Int) - (48 : Int)))))) fun z1 =>
      vary_check_L0 F a0 n (z1.tmod (97 : Int)) (IntKind.i64.wrap (v2 + (1 : Int)))
    else
      some v1

/-- printworks/vary.check -/
def vary_check (F : Nat) (a0 : List UInt8) : Option Int :=
  call (vary_check_L0 F a0 F (0 : Int) (0 : Int))
    fun v3 =>
  some (IntKind.i64.wrap ((98 : Int) - ((IntKind.i64.wrap (v3 * (100 : Int))).tmod (97 : Int))))

/-- printworks/vary.Number -/
def vary_Number (F : Nat) (a0 : Int) (a1 : Int) : Option ((List UInt8) × Int) :=
  lett ((bif (bif (decide (a1 < (1 : Int))) then true else (decide (a1 > (12 : Int)))) then true else (decide (a0 < (0 : Int))))) fun z1 =>
  bif z1 then
    some ([], (3 : Int))
  else
    chk (-9223372036854775808 ≤ a0 ∧ a0 ≤ 9223372036854775807) <|
    bif (decide (((Lib.itoa a0).length : Int) > a1)) then
      some ([], (19 : Int))
    else
      chk (0 ≤ (IntKind.i64.wrap (a1 - ((Lib.itoa a0).length : Int))) ∧ (IntKind.i64.wrap (a1 - ((Lib.itoa a0).length : Int))) ≤ 9223372036854775807 ∧ ([48] : List UInt8).length * (IntKind.i64.wrap (a1 - ((Lib.itoa a0).length : Int))).toNat ≤ 140737488355328) <|
      chk ((Lib.repeatL ([48] : List UInt8) (IntKind.i64.wrap (a1 - ((Lib.itoa a0).length : Int))).toNat).length + (Lib.itoa a0).length ≤ 9223372036854775807) <|
      lett (((Lib.repeatL ([48] : List UInt8) (IntKind.i64.wrap (a1 - ((Lib.itoa a0).length : Int))).toNat) ++ (Lib.itoa a0))) fun z2 =>
      call (vary_check F z2) fun y1 =>
      chk (-9223372036854775808 ≤ y1 ∧ y1 ≤ 9223372036854775807) <|
      chk (0 ≤ (IntKind.i64.wrap ((2 : Int) - ((Lib.itoa y1).length : Int))) ∧ (IntKind.i64.wrap ((2 : Int) - ((Lib.itoa y1).length : Int))) ≤ 9223372036854775807 ∧ ([48] : List UInt8).length * (IntKind.i64.wrap ((2 : Int) - ((Lib.itoa y1).length : Int))).toNat ≤ 140737488355328) <|
      chk (z2.length + (Lib.repeatL ([48] : List UInt8) (IntKind.i64.wrap ((2 : Int) - ((Lib.itoa y1).length : Int))).toNat).length ≤ 9223372036854775807) <|
      lett ((z2 ++ (Lib.repeatL ([48] : List UInt8) (IntKind.i64.wrap ((2 : Int) - ((Lib.itoa y1).length : Int))).toNat))) fun z3 =>
      chk (z3.length + (Lib.itoa y1).length ≤ 9223372036854775807) <|
      some ((z3 ++ (Lib.itoa y1)), (0 : Int))

def ref3_Decimal_L0 (F : Nat)  : Nat → Int → (List UInt8) → Option ((List UInt8))
  | 0, _, _ => none
  | n + 1, v1, v2 =>
    bif (v1 != (0 : Int)) then
      call (bif (decide ((v1.tmod (10 : Int)) < (0 : Int))) then
          some (IntKind.i64.wrap (0 - (v1.tmod (10 : Int))))
        else
          some (v1.tmod (10 : Int)))
        fun v3 =>
      chk (0 ≤ (IntKind.u8.wrap (IntKind.i64.wrap ((48 : Int) + v3))) ∧ (IntKind.u8.wrap (IntKind.i64.wrap ((48 : Int) + v3))) < 256) <|
      chk (([(UInt8.ofNat (IntKind.u8.wrap (IntKind.i64.wrap ((48 : Int) + v3))).toNat)]).length + v2.length ≤ 9223372036854775807) <|
      ref3_Decimal_L0 F n (IntKind.i64.wrap (v1.tdiv (10 : Int))) (([(UInt8.ofNat (IntKind.u8.wrap (IntKind.i64.wrap ((48 : Int) + v3))).toNat)]) ++ v2)
    else
      some v2

/-- printworks/printworksref3.Decimal -/
def ref3_Decimal (F : Nat) (a0 : Int) : Option ((List UInt8)) :=
  bif (a0 == (0 : Int)) then
    some ([48] : List UInt8)
  else
    call (ref3_Decimal_L0 F F a0 [])
      fun v4 =>
    bif (decide (a0 < (0 : Int))) then
      chk (([45] : List UInt8).length + v4.length ≤ 9223372036854775807) <|
      some (([45] : List UInt8) ++ v4)
    else
      some v4

/-- printworks/printworksref3.digit -/
def ref3_digit (F : Nat) (a0 : Int) : Option Bool :=
  some (bif (decide (a0 ≥ (48 : Int))) then (decide (a0 ≤ (57 : Int))) else false)

def ref3_whole_L0 (F : Nat) (a0 : List UInt8) : Nat → Int → Int → Option (Out Int Int)
  | 0, _, _ => none
  | n + 1, v1, v2 =>
    bif (decide (v2 < (a0.length : Int))) then
      chk (0 ≤ v2 ∧ v2 < a0.length) <|
      call (ref3_digit F ((a0.getD v2.toNat 0).toNat : Int)) fun y1 =>
      bif (!y1) then
        some (.esc (-1 : Int))
      else
        chk (0 ≤ v2 ∧ v2 < a0.length) <|
        lett (IntKind.i64.wrap ((IntKind.i64.wrap (v1 * (10 : Int))) + (IntKind.i64.wrap ((a0.getD v2.toNat 0).toNat : Int)))) fun z1 =>
        lett ((if (1099511627776 : Int) < (IntKind.i64.wrap (z1 - (48 : Int))) then (1099511627776 : Int) else (IntKind.i64.wrap (z1 - (48 : Int))))) fun z2 =>
        ref3_whole_L0 F a0 n z2 (IntKind.i64.wrap (v2 + (1 : Int)))
    else
      some (.go v1)

/-- printworks/printworksref3.whole -/
def ref3_whole (F : Nat) (a0 : List UInt8) : Option Int :=
  bif (a0 == []) then
    some (-1 : Int)
  else
    callE (ref3_whole_L0 F a0 F (0 : Int) (0 : Int))
      (fun e => some e) fun v3 =>
    some v3

def ref3_Numbered_L0 (F : Nat) (a1 : Int) : Nat → (List UInt8) → Option ((List UInt8))
  | 0, _ => none
  | n + 1, v1 =>
    bif (decide ((v1.length : Int) < a1)) then
      chk (([48] : List UInt8).length + v1.length ≤ 9223372036854775807) <|
      ref3_Numbered_L0 F a1 n (([48] : List UInt8) ++ v1)
    else
      some v1

def ref3_Numbered_L2 (F : Nat) (v2 : List UInt8) : Nat → Int → Option (Out Unit ((List UInt8) × Int))
  | 0, _ => none
  | n + 1, v3 =>
    bif (decide (v3 ≤ (98 : Int))) then
      call (ref3_Decimal F v3) fun y1 =>
      call (bif (decide (v3 < (10 : Int))) then
          chk (([48] : List UInt8).length + y1.length ≤ 9223372036854775807) <|
          some (([48] : List UInt8) ++ y1)
        else
          some y1)
        fun v4 =>
      call (ref3_whole F v2) fun y2 =>
      lett ((((IntKind.i64.wrap ((y2.tmod (97 : Int)) * (100 : Int))).tmod (97 : Int)) == ((IntKind.i64.wrap ((98 : Int) - (v3.tmod (97 : Int)))).tmod (97 : Int)))) fun z1 =>
      bif z1 then
        chk (v2.length + v4.length ≤ 9223372036854775807) <|
        some (.esc ((v2 ++ v4), (0 : Int)))
      else
        ref3_Numbered_L2 F v2 n (IntKind.i64.wrap (v3 + (1 : Int)))
    else
      some (.go ())

/-- printworks/printworksref3.Numbered -/
def ref3_Numbered (F : Nat) (a0 : Int) (a1 : Int) : Option ((List UInt8) × Int) :=
  lett ((bif (bif (decide (a1 < (1 : Int))) then true else (decide (a1 > (12 : Int)))) then true else (decide (a0 < (0 : Int))))) fun z2 =>
  bif z2 then
    some ([], (3 : Int))
  else
    call (ref3_Decimal F a0) fun y3 =>
    bif (decide ((y3.length : Int) > a1)) then
      some ([], (19 : Int))
    else
      call (ref3_Numbered_L0 F a1 F y3)
        fun v2 =>
      callE (ref3_Numbered_L2 F v2 F (2 : Int))
        (fun e => some e) fun _ =>
      some ([], (11 : Int))

/-- printworks/vary.Verify$1 -/
def vary_Verify_c1 (F : Nat) (a0 : Int) : Option Bool :=
  some (bif (decide (a0 < (48 : Int))) then true else (decide (a0 > (57 : Int))))

/-- printworks/vary.Verify -/
def vary_Verify (F : Nat) (a0 : List UInt8) : Option (Int × Int) :=
  lett ((bif (decide ((a0.length : Int) < (3 : Int))) then true else (decide ((a0.length : Int) > (14 : Int))))) fun z1 =>
  call ((bif ((z1 == false) && true) then sContains (fun x => vary_Verify_c1 F x) a0 else some false)) fun y1 =>
  bif (bif z1 then true else y1) then
    some ((0 : Int), (5 : Int))
  else
    chk (0 ≤ (0 : Int) ∧ (0 : Int) ≤ (IntKind.i64.wrap ((a0.length : Int) - (2 : Int))) ∧ (IntKind.i64.wrap ((a0.length : Int) - (2 : Int))) ≤ (a0.length : Int)) <|
    lett (((a0.drop (0 : Int).toNat).take ((IntKind.i64.wrap ((a0.length : Int) - (2 : Int))).toNat - (0 : Int).toNat))) fun z2 =>
    chk (z2.length ≤ 9223372036854775806) <|
    call (sAtoi z2) fun y2 =>
    call (vary_Number F y2 (IntKind.i64.wrap ((a0.length : Int) - (2 : Int)))) fun y3 =>
    bif (!(y3.1 == a0)) then
      some ((0 : Int), (11 : Int))
    else
      some (y2, (0 : Int))

def ref3_Digits_L0 (F : Nat) (a0 : List UInt8) : Nat → Int → Int → Option (Out Int Int)
  | 0, _, _ => none
  | n + 1, v1, v2 =>
    bif (decide (v2 < (a0.length : Int))) then
      chk (0 ≤ v2 ∧ v2 < a0.length) <|
      call (ref3_digit F ((a0.getD v2.toNat 0).toNat : Int)) fun y1 =>
      bif (!y1) then
        some (.esc (-1 : Int))
      else
        chk (0 ≤ v2 ∧ v2 < a0.length) <|
        lett (IntKind.i64.wrap ((IntKind.i64.wrap (v1 * (10 : Int))) + (IntKind.i64.wrap ((a0.getD v2.toNat 0).toNat : Int)))) fun z1 =>
        ref3_Digits_L0 F a0 n (IntKind.i64.wrap (z1 - (48 : Int))) (IntKind.i64.wrap (v2 + (1 : Int)))
    else
      some (.go v1)

/-- printworks/printworksref3.Digits -/
def ref3_Digits (F : Nat) (a0 : List UInt8) : Option Int :=
  callE (ref3_Digits_L0 F a0 F (0 : Int) (0 : Int))
    (fun e => some e) fun v3 =>
  some v3

/-- printworks/printworkslaw3.VaryNumberMatchesReference -/
def law3_VaryNumberMatchesReference (F : Nat) (a0 : Int) (a1 : Int) (a2 : List UInt8) : Option Bool :=
  call (vary_Number F (7 : Int) (3 : Int)) fun y1 =>
  bif (bif (y1.2 != (0 : Int)) then true else (!(y1.1 == ([48, 48, 55, 55, 55] : List UInt8)))) then
    some false
  else
    call (vary_Number F a0 a1) fun y2 =>
    call (ref3_Numbered F a0 a1) fun y3 =>
    bif (bif (y2.2 != y3.2) then true else (!(y2.1 == y3.1))) then
      some false
    else
      call (vary_Verify F a2) fun y4 =>
      call (lett ((bif (decide ((a2.length : Int) ≥ (3 : Int))) then (decide ((a2.length : Int) ≤ (14 : Int))) else false)) fun z1 =>
        bif z1 then
          call (ref3_Digits F a2) fun y5 =>
          some y5
        else
          some (-1 : Int))
        fun v1 =>
      bif (decide (v1 < (0 : Int))) then
        some (bif (y4.2 == (5 : Int)) then (y4.1 == (0 : Int)) else false)
      else
        call (ref3_Numbered F (IntKind.i64.wrap (v1.tdiv (100 : Int))) (IntKind.i64.wrap ((a2.length : Int) - (2 : Int)))) fun y6 =>
        bif (!(y6.1 == a2)) then
          some (bif (y4.2 == (11 : Int)) then (y4.1 == (0 : Int)) else false)
        else
          some (bif (y4.2 == (0 : Int)) then (y4.1 == (IntKind.i64.wrap (v1.tdiv (100 : Int)))) else false)

end Go.Vm.VarG
