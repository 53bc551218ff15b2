import Derived.Test.YtmaolabjdmhinaaDoorVmC
import Derived.Lib.ItoaNum
import Derived.Lib.Bytealg
namespace Go.Vm.TokG
structure S_Token where
  f0 : Int
  f1 : Int
  f2 : List UInt8
  f3 : Int
  f4 : Int
deriving DecidableEq

def cS_Token (x : S_Token) : List Dat := (cI .i64) x.f0 ++ (cI .i64) x.f1 ++ cS x.f2 ++ (cI .i64) x.f3 ++ (cI .i64) x.f4

def glob_internal_strconv_uint64pow10 : List Int := [1, 10, 100, 1000, 10000, 100000, 1000000, 10000000, 100000000, 1000000000, 10000000000, 100000000000, 1000000000000, 10000000000000, 100000000000000, 1000000000000000, 10000000000000000, 100000000000000000, 1000000000000000000, 10000000000000000000]

/-- printworks/token.letter -/
def token_letter (F : Nat) (a0 : Int) : Option Bool :=
  lett ((bif (bif (decide ((97 : Int) ≤ a0)) then (decide (a0 ≤ (122 : Int))) else false) then true else (bif (decide ((65 : Int) ≤ a0)) then (decide (a0 ≤ (90 : Int))) else false))) fun z1 =>
  some z1

/-- printworks/token.digit -/
def token_digit (F : Nat) (a0 : Int) : Option Bool :=
  some (bif (decide ((48 : Int) ≤ a0)) then (decide (a0 ≤ (57 : Int))) else false)

/-- printworks/token.limited -/
def token_limited (F : Nat) (a0 : List UInt8) (a1 : Int) : Option ((List UInt8) × Int) :=
  bif (decide ((a0.length : Int) > a1)) then
    some ([], (2 : Int))
  else
    some (a0, (0 : Int))

def token_word_L0 (F : Nat) (a0 : List UInt8) : Nat → Int → Option (Out Unit ((List UInt8) × Int))
  | 0, _ => none
  | n + 1, v1 =>
    bif (decide (v1 < (a0.length : Int))) then
      chk (0 ≤ v1 ∧ v1 < a0.length) <|
      call (token_letter F ((a0.getD v1.toNat 0).toNat : Int)) fun y1 =>
      call ((bif (((v1 == (0 : Int)) == false) && (((!y1) == true) && true)) then token_digit F ((a0.getD v1.toNat 0).toNat : Int) else some false)) fun y2 =>
      lett ((bif (bif (!y1) then (bif (v1 == (0 : Int)) then true else (!y2)) else false) then (((a0.getD v1.toNat 0).toNat : Int) != (42 : Int)) else false)) fun z1 =>
      lett ((bif (bif z1 then (((a0.getD v1.toNat 0).toNat : Int) != (95 : Int)) else false) then (((a0.getD v1.toNat 0).toNat : Int) != (46 : Int)) else false)) fun z2 =>
      bif z2 then
        some (.esc ([], (5 : Int)))
      else
        token_word_L0 F a0 n (IntKind.i64.wrap (v1 + (1 : Int)))
    else
      some (.go ())

/-- printworks/token.word -/
def token_word (F : Nat) (a0 : List UInt8) : Option ((List UInt8) × Int) :=
  callE (token_word_L0 F a0 F (0 : Int))
    (fun e => some e) fun _ =>
  bif (a0 == []) then
    some ([], (5 : Int))
  else
    call (token_limited F a0 (31 : Int)) fun y3 =>
    some (y3.1, y3.2)

/-- printworks/token.bad -/
def token_bad (F : Nat) (a0 : Int) : Option Int :=
  bif (a0 == (5 : Int)) then
    some (4 : Int)
  else
    some a0

/-- printworks/token.check -/
def token_check (F : Nat) (a0 : S_Token) : Option Int :=
  lett ((bif (bif (a0.f0 == (2 : Int)) then true else (a0.f0 == (3 : Int))) then true else (a0.f0 == (5 : Int)))) fun z1 =>
  callE (bif (bif (decide (a0.f0 < (1 : Int))) then true else (decide (a0.f0 > (9 : Int)))) then
      some (.esc (14 : Int))
    else
      call (lett ((bif (a0.f1 != (0 : Int)) then (!(bif (a0.f0 == (1 : Int)) then true else (a0.f0 == (4 : Int)))) else false)) fun z2 =>
        bif z2 then
          some z2
        else
          some (bif (!(a0.f2 == [])) then (!z1) else false))
        fun v1 =>
      bif v1 then
        some (.esc (4 : Int))
      else
        lett ((bif (a0.f2 == []) then true else (decide ((Lib.indexByte a0.f2 (0 : Int).toNat.toUInt8) ≥ (0 : Int))))) fun z3 =>
        bif (bif (a0.f0 == (2 : Int)) then z3 else false) then
          some (.esc (4 : Int))
        else
          lett ((bif (a0.f0 == (1 : Int)) then (bif (decide (a0.f1 < (-2147483647 : Int))) then true else (decide (a0.f1 > (2147483647 : Int)))) else false)) fun z4 =>
          bif z4 then
            some (.esc (3 : Int))
          else
            lett ((bif (a0.f0 == (4 : Int)) then (bif (decide (a0.f1 < (1 : Int))) then true else (decide (a0.f1 > (255 : Int)))) else false)) fun z5 =>
            bif z5 then
              some (.esc (3 : Int))
            else
              call (bif (bif (a0.f0 == (2 : Int)) then (decide ((a0.f2.length : Int) > (31 : Int))) else false) then
                  some (bif (a0.f0 == (2 : Int)) then (decide ((a0.f2.length : Int) > (31 : Int))) else false)
                else
                  some (bif (decide ((a0.f2.length : Int) > (1024 : Int))) then (a0.f0 == (3 : Int)) else false))
                fun v2 =>
              bif v2 then
                some (.esc (2 : Int))
              else
                bif (a0.f0 == (5 : Int)) then
                  call (token_word F a0.f2) fun y1 =>
                  bif (y1.2 != (0 : Int)) then
                    call (token_bad F y1.2) fun y2 =>
                    some (.esc y2)
                  else
                    some (.go ())
                else
                  some (.go ()))
    (fun e => some e) fun _ =>
  some (0 : Int)

/-- (*strings.Builder).WriteByte -/
def strings_Builder_WriteByte (F : Nat) (a0 : Int) (c1 : List UInt8) : Option (Unit × (List UInt8)) :=
  chk (0 ≤ a0 ∧ a0 < 256) <|
  chk (c1.length + ([(UInt8.ofNat a0.toNat)]).length ≤ 4294967296) <|
  some ((), (c1 ++ ([(UInt8.ofNat a0.toNat)])))

def token_printedName_L0 (F : Nat) (a0 : List UInt8) : Nat → (List UInt8) → Int → Option ((List UInt8))
  | 0, _, _ => none
  | n + 1, v1, v2 =>
    bif (decide (v2 < (a0.length : Int))) then
      call (chk (0 ≤ v2 ∧ v2 < a0.length) <|
        call (token_letter F ((a0.getD v2.toNat 0).toNat : Int)) fun y1 =>
        call ((bif ((y1 == false) && true) then token_digit F ((a0.getD v2.toNat 0).toNat : Int) else some false)) fun y2 =>
        lett ((bif (bif y1 then true else y2) then true else (((a0.getD v2.toNat 0).toNat : Int) == (95 : Int)))) fun z1 =>
        lett ((bif (bif z1 then true else (((a0.getD v2.toNat 0).toNat : Int) == (45 : Int))) then true else (((a0.getD v2.toNat 0).toNat : Int) == (46 : Int)))) fun z2 =>
        bif z2 then
          call (strings_Builder_WriteByte F ((a0.getD v2.toNat 0).toNat : Int) v1) fun y3 =>
          some y3.2
        else
          call (strings_Builder_WriteByte F (35 : Int) v1) fun y4 =>
          chk (0 ≤ (((a0.getD v2.toNat 0).toNat : Int).fdiv (2 ^ (min (4 : Int).toNat IntKind.u8.bits))) ∧ (((a0.getD v2.toNat 0).toNat : Int).fdiv (2 ^ (min (4 : Int).toNat IntKind.u8.bits))) < ([48, 49, 50, 51, 52, 53, 54, 55, 56, 57, 97, 98, 99, 100, 101, 102] : List UInt8).length) <|
          lett (((([48, 49, 50, 51, 52, 53, 54, 55, 56, 57, 97, 98, 99, 100, 101, 102] : List UInt8).getD (((a0.getD v2.toNat 0).toNat : Int).fdiv (2 ^ (min (4 : Int).toNat IntKind.u8.bits))).toNat 0).toNat : Int)) fun z3 =>
          call (strings_Builder_WriteByte F z3 y4.2) fun y5 =>
          lett (IntKind.u8.wrap ((BitVec.ofInt IntKind.u8.bits ((a0.getD v2.toNat 0).toNat : Int) &&& BitVec.ofInt IntKind.u8.bits (15 : Int)).toNat : Int)) fun z4 =>
          chk (0 ≤ z4 ∧ z4 < ([48, 49, 50, 51, 52, 53, 54, 55, 56, 57, 97, 98, 99, 100, 101, 102] : List UInt8).length) <|
          lett (((([48, 49, 50, 51, 52, 53, 54, 55, 56, 57, 97, 98, 99, 100, 101, 102] : List UInt8).getD z4.toNat 0).toNat : Int)) fun z5 =>
          call (strings_Builder_WriteByte F z5 y5.2) fun y6 =>
          some y6.2)
        fun v3 =>
      token_printedName_L0 F a0 n v3 (IntKind.i64.wrap (v2 + (1 : Int)))
    else
      some v1

/-- printworks/token.printedName -/
def token_printedName (F : Nat) (a0 : List UInt8) : Option ((List UInt8)) :=
  call (token_printedName_L0 F a0 F [] (0 : Int))
    fun v4 =>
  chk (v4.length ≤ 9223372036854775807) <|
  some v4

/-- (*strings.Builder).WriteString -/
def strings_Builder_WriteString (F : Nat) (a0 : List UInt8) (c1 : List UInt8) : Option (Int × Unit × (List UInt8)) :=
  chk (c1.length + a0.length ≤ 4294967296) <|
  some ((a0.length : Int), (), (c1 ++ a0))

def token_printedText_L0 (F : Nat) (a0 : List UInt8) : Nat → (List UInt8) → Int → Option ((List UInt8))
  | 0, _, _ => none
  | n + 1, v1, v2 =>
    bif (decide (v2 < (a0.length : Int))) then
      call (chk (0 ≤ v2 ∧ v2 < a0.length) <|
        bif (((a0.getD v2.toNat 0).toNat : Int) == (10 : Int)) then
          call (strings_Builder_WriteString F ([92, 110] : List UInt8) v1) fun y1 =>
          some y1.2.2
        else
          bif (((a0.getD v2.toNat 0).toNat : Int) == (9 : Int)) then
            call (strings_Builder_WriteString F ([92, 116] : List UInt8) v1) fun y2 =>
            some y2.2.2
          else
            lett ((bif (((a0.getD v2.toNat 0).toNat : Int) == (40 : Int)) then true else (((a0.getD v2.toNat 0).toNat : Int) == (41 : Int)))) fun z1 =>
            bif (bif z1 then true else (((a0.getD v2.toNat 0).toNat : Int) == (92 : Int))) then
              call (strings_Builder_WriteByte F (92 : Int) v1) fun y3 =>
              call (strings_Builder_WriteByte F ((a0.getD v2.toNat 0).toNat : Int) y3.2) fun y4 =>
              some y4.2
            else
              lett ((bif (decide (((a0.getD v2.toNat 0).toNat : Int) < (32 : Int))) then true else (decide (((a0.getD v2.toNat 0).toNat : Int) > (125 : Int))))) fun z2 =>
              bif z2 then
                call (strings_Builder_WriteString F ([92, 120] : List UInt8) v1) fun y5 =>
                chk (0 ≤ (((a0.getD v2.toNat 0).toNat : Int).fdiv (2 ^ (min (4 : Int).toNat IntKind.u8.bits))) ∧ (((a0.getD v2.toNat 0).toNat : Int).fdiv (2 ^ (min (4 : Int).toNat IntKind.u8.bits))) < ([48, 49, 50, 51, 52, 53, 54, 55, 56, 57, 97, 98, 99, 100, 101, 102] : List UInt8).length) <|
                lett (((([48, 49, 50, 51, 52, 53, 54, 55, 56, 57, 97, 98, 99, 100, 101, 102] : List UInt8).getD (((a0.getD v2.toNat 0).toNat : Int).fdiv (2 ^ (min (4 : Int).toNat IntKind.u8.bits))).toNat 0).toNat : Int)) fun z3 =>
                call (strings_Builder_WriteByte F z3 y5.2.2) fun y6 =>
                lett (IntKind.u8.wrap ((BitVec.ofInt IntKind.u8.bits ((a0.getD v2.toNat 0).toNat : Int) &&& BitVec.ofInt IntKind.u8.bits (15 : Int)).toNat : Int)) fun z4 =>
                chk (0 ≤ z4 ∧ z4 < ([48, 49, 50, 51, 52, 53, 54, 55, 56, 57, 97, 98, 99, 100, 101, 102] : List UInt8).length) <|
                lett (((([48, 49, 50, 51, 52, 53, 54, 55, 56, 57, 97, 98, 99, 100, 101, 102] : List UInt8).getD z4.toNat 0).toNat : Int)) fun z5 =>
                call (strings_Builder_WriteByte F z5 y6.2) fun y7 =>
                some y7.2
              else
                call (strings_Builder_WriteByte F ((a0.getD v2.toNat 0).toNat : Int) v1) fun y8 =>
                some y8.2)
        fun v3 =>
      token_printedText_L0 F a0 n v3 (IntKind.i64.wrap (v2 + (1 : Int)))
    else
      some v1

/-- printworks/token.printedText -/
def token_printedText (F : Nat) (a0 : List UInt8) : Option ((List UInt8)) :=
  call (strings_Builder_WriteByte F (40 : Int) []) fun y9 =>
  call (token_printedText_L0 F a0 F y9.2 (0 : Int))
    fun v4 =>
  call (strings_Builder_WriteByte F (41 : Int) v4) fun y10 =>
  chk (y10.2.length ≤ 9223372036854775807) <|
  some y10.2

/-- printworks/token.Print -/
def token_Print (F : Nat) (a0 : S_Token) : Option ((List UInt8) × Int) :=
  call (token_check F a0) fun y1 =>
  bif (y1 != (0 : Int)) then
    some ([], y1)
  else
    bif (a0.f0 == (1 : Int)) then
      chk (-9223372036854775808 ≤ a0.f1 ∧ a0.f1 ≤ 9223372036854775807) <|
      some ((Lib.itoa a0.f1), (0 : Int))
    else
      bif (a0.f0 == (2 : Int)) then
        call (token_printedName F a0.f2) fun y2 =>
        chk (([47] : List UInt8).length + y2.length ≤ 9223372036854775807) <|
        some ((([47] : List UInt8) ++ y2), (0 : Int))
      else
        bif (a0.f0 == (3 : Int)) then
          call (token_printedText F a0.f2) fun y3 =>
          some (y3, (0 : Int))
        else
          bif (a0.f0 == (4 : Int)) then
            chk (-9223372036854775808 ≤ a0.f1 ∧ a0.f1 ≤ 9223372036854775807) <|
            chk (([64] : List UInt8).length + (Lib.itoa a0.f1).length ≤ 9223372036854775807) <|
            some ((([64] : List UInt8) ++ (Lib.itoa a0.f1)), (0 : Int))
          else
            bif (a0.f0 == (5 : Int)) then
              some (a0.f2, (0 : Int))
            else
              chk (0 ≤ (IntKind.i64.wrap (a0.f0 - (6 : Int))) ∧ (IntKind.i64.wrap (a0.f0 - (6 : Int))) < ([([91] : List UInt8), ([93] : List UInt8), ([60, 60] : List UInt8), ([62, 62] : List UInt8)]).length) <|
              lett ((([([91] : List UInt8), ([93] : List UInt8), ([60, 60] : List UInt8), ([62, 62] : List UInt8)]).getD (IntKind.i64.wrap (a0.f0 - (6 : Int))).toNat [])) fun z1 =>
              some (z1, (0 : Int))

/-- printworks/printworksref3.digit -/
def ref3_digit (F : Nat) (a0 : Int) : Option Bool :=
  some (bif (decide (a0 ≥ (48 : Int))) then (decide (a0 ≤ (57 : Int))) else false)

/-- printworks/printworksref3.letter -/
def ref3_letter (F : Nat) (a0 : Int) : Option Bool :=
  lett ((bif (bif (decide (a0 ≥ (65 : Int))) then (decide (a0 ≤ (90 : Int))) else false) then true else (bif (decide (a0 ≥ (97 : Int))) then (decide (a0 ≤ (122 : Int))) else false))) fun z1 =>
  some z1

def ref3_wordError_L0 (F : Nat) (a0 : List UInt8) : Nat → Int → Option (Out Unit Int)
  | 0, _ => none
  | n + 1, v1 =>
    bif (decide (v1 < (a0.length : Int))) then
      chk (0 ≤ v1 ∧ v1 < a0.length) <|
      call (ref3_letter F ((a0.getD v1.toNat 0).toNat : Int)) fun y1 =>
      chk ((((!y1) == true) && true) = true → 0 ≤ v1 ∧ v1 < a0.length) <|
      call ((bif (((!y1) == true) && true) then ref3_digit F ((a0.getD v1.toNat 0).toNat : Int) else some false)) fun y2 =>
      chk ((((bif (!y1) then (!y2) else false) == true) && true) = true → 0 ≤ v1 ∧ v1 < a0.length) <|
      lett ((bif (bif (!y1) then (!y2) else false) then (((a0.getD v1.toNat 0).toNat : Int) != (42 : Int)) else false)) fun z1 =>
      chk (((z1 == true) && true) = true → 0 ≤ v1 ∧ v1 < a0.length) <|
      chk ((((bif z1 then (((a0.getD v1.toNat 0).toNat : Int) != (95 : Int)) else false) == true) && true) = true → 0 ≤ v1 ∧ v1 < a0.length) <|
      lett ((bif (bif z1 then (((a0.getD v1.toNat 0).toNat : Int) != (95 : Int)) else false) then (((a0.getD v1.toNat 0).toNat : Int) != (46 : Int)) else false)) fun z2 =>
      bif z2 then
        some (.esc (5 : Int))
      else
        ref3_wordError_L0 F a0 n (IntKind.i64.wrap (v1 + (1 : Int)))
    else
      some (.go ())

/-- printworks/printworksref3.wordError -/
def ref3_wordError (F : Nat) (a0 : List UInt8) : Option Int :=
  callE (ref3_wordError_L0 F a0 F (0 : Int))
    (fun e => some e) fun _ =>
  bif (decide ((a0.length : Int) > (31 : Int))) then
    some (2 : Int)
  else
    some (0 : Int)

def ref3_Decimal_L0 (F : Nat)  : Nat → Int → (List UInt8) → Option ((List UInt8))
  | 0, _, _ => none
  | n + 1, v1, v2 =>
    bif (v1 != (0 : Int)) then
      call (bif (decide ((v1.tmod (10 : Int)) < (0 : Int))) then
          some (IntKind.i64.wrap (0 - (v1.tmod (10 : Int))))
        else
          some (v1.tmod (10 : Int)))
        fun v3 =>
      chk (0 ≤ (IntKind.u8.wrap (IntKind.i64.wrap ((48 : Int) + v3))) ∧ (IntKind.u8.wrap (IntKind.i64.wrap ((48 : Int) + v3))) < 256) <|
      chk (([(UInt8.ofNat (IntKind.u8.wrap (IntKind.i64.wrap ((48 : Int) + v3))).toNat)]).length + v2.length ≤ 9223372036854775807) <|
      ref3_Decimal_L0 F n (IntKind.i64.wrap (v1.tdiv (10 : Int))) (([(UInt8.ofNat (IntKind.u8.wrap (IntKind.i64.wrap ((48 : Int) + v3))).toNat)]) ++ v2)
    else
      some v2

/-- printworks/printworksref3.Decimal -/
def ref3_Decimal (F : Nat) (a0 : Int) : Option ((List UInt8)) :=
  bif (a0 == (0 : Int)) then
    some ([48] : List UInt8)
  else
    call (ref3_Decimal_L0 F F a0 [])
      fun v4 =>
    bif (decide (a0 < (0 : Int))) then
      chk (([45] : List UInt8).length + v4.length ≤ 9223372036854775807) <|
      some (([45] : List UInt8) ++ v4)
    else
      some v4

def ref3_Spelled_L0 (F : Nat) (a0 : S_Token) : Nat → Bool → Int → Option Bool
  | 0, _, _ => none
  | n + 1, v1, v2 =>
    bif (decide (v2 < (a0.f2.length : Int))) then
      chk (((v1 == false) && true) = true → 0 ≤ v2 ∧ v2 < a0.f2.length) <|
      ref3_Spelled_L0 F a0 n (bif v1 then true else (((a0.f2.getD v2.toNat 0).toNat : Int) == (0 : Int))) (IntKind.i64.wrap (v2 + (1 : Int)))
    else
      some v1

def ref3_Spelled_L3 (F : Nat) (a0 : S_Token) : Nat → (List UInt8) → Int → Option ((List UInt8))
  | 0, _, _ => none
  | n + 1, v3, v4 =>
    bif (decide (v4 < (a0.f2.length : Int))) then
      call (chk (0 ≤ v4 ∧ v4 < a0.f2.length) <|
        chk (0 ≤ (IntKind.u8.wrap (((a0.f2.getD v4.toNat 0).toNat : Int).tdiv (16 : Int))) ∧ (IntKind.u8.wrap (((a0.f2.getD v4.toNat 0).toNat : Int).tdiv (16 : Int))) < ([48, 49, 50, 51, 52, 53, 54, 55, 56, 57, 97, 98, 99, 100, 101, 102] : List UInt8).length) <|
        lett (((([48, 49, 50, 51, 52, 53, 54, 55, 56, 57, 97, 98, 99, 100, 101, 102] : List UInt8).getD (IntKind.u8.wrap (((a0.f2.getD v4.toNat 0).toNat : Int).tdiv (16 : Int))).toNat 0).toNat : Int)) fun z1 =>
        chk (0 ≤ (((a0.f2.getD v4.toNat 0).toNat : Int).tmod (16 : Int)) ∧ (((a0.f2.getD v4.toNat 0).toNat : Int).tmod (16 : Int)) < ([48, 49, 50, 51, 52, 53, 54, 55, 56, 57, 97, 98, 99, 100, 101, 102] : List UInt8).length) <|
        lett (((([48, 49, 50, 51, 52, 53, 54, 55, 56, 57, 97, 98, 99, 100, 101, 102] : List UInt8).getD (((a0.f2.getD v4.toNat 0).toNat : Int).tmod (16 : Int)).toNat 0).toNat : Int)) fun z2 =>
        chk (0 ≤ z1 ∧ z1 < 256) <|
        chk (0 ≤ z2 ∧ z2 < 256) <|
        call ((bif (((a0.f0 == (2 : Int)) == true) && true) then ref3_letter F ((a0.f2.getD v4.toNat 0).toNat : Int) else some false)) fun y1 =>
        call ((bif ((y1 == false) && (((a0.f0 == (2 : Int)) == true) && true)) then ref3_digit F ((a0.f2.getD v4.toNat 0).toNat : Int) else some false)) fun y2 =>
        lett ((bif (bif y1 then true else y2) then true else (((a0.f2.getD v4.toNat 0).toNat : Int) == (95 : Int)))) fun z3 =>
        lett ((bif (bif z3 then true else (((a0.f2.getD v4.toNat 0).toNat : Int) == (45 : Int))) then true else (((a0.f2.getD v4.toNat 0).toNat : Int) == (46 : Int)))) fun z4 =>
        bif (bif (a0.f0 == (2 : Int)) then z4 else false) then
          chk (0 ≤ ((a0.f2.getD v4.toNat 0).toNat : Int) ∧ ((a0.f2.getD v4.toNat 0).toNat : Int) < 256) <|
          chk (v3.length + ([(UInt8.ofNat ((a0.f2.getD v4.toNat 0).toNat : Int).toNat)]).length ≤ 4294967296) <|
          some (v3 ++ ([(UInt8.ofNat ((a0.f2.getD v4.toNat 0).toNat : Int).toNat)]))
        else
          bif (a0.f0 == (2 : Int)) then
            chk (v3.length + ([(UInt8.ofNat (35 : Int).toNat)]).length ≤ 4294967296) <|
            chk ((v3 ++ ([(UInt8.ofNat (35 : Int).toNat)])).length + ([(UInt8.ofNat z1.toNat), (UInt8.ofNat z2.toNat)]).length ≤ 4294967296) <|
            lett (((v3 ++ ([(UInt8.ofNat (35 : Int).toNat)])) ++ ([(UInt8.ofNat z1.toNat), (UInt8.ofNat z2.toNat)]))) fun l1 =>
            some l1
          else
            bif (((a0.f2.getD v4.toNat 0).toNat : Int) == (10 : Int)) then
              chk (v3.length + ([(UInt8.ofNat (92 : Int).toNat), (UInt8.ofNat (110 : Int).toNat)]).length ≤ 4294967296) <|
              some (v3 ++ ([(UInt8.ofNat (92 : Int).toNat), (UInt8.ofNat (110 : Int).toNat)]))
            else
              bif (((a0.f2.getD v4.toNat 0).toNat : Int) == (9 : Int)) then
                chk (v3.length + ([(UInt8.ofNat (92 : Int).toNat), (UInt8.ofNat (116 : Int).toNat)]).length ≤ 4294967296) <|
                some (v3 ++ ([(UInt8.ofNat (92 : Int).toNat), (UInt8.ofNat (116 : Int).toNat)]))
              else
                lett ((bif (((a0.f2.getD v4.toNat 0).toNat : Int) == (40 : Int)) then true else (((a0.f2.getD v4.toNat 0).toNat : Int) == (41 : Int)))) fun z5 =>
                bif (bif z5 then true else (((a0.f2.getD v4.toNat 0).toNat : Int) == (92 : Int))) then
                  chk (0 ≤ ((a0.f2.getD v4.toNat 0).toNat : Int) ∧ ((a0.f2.getD v4.toNat 0).toNat : Int) < 256) <|
                  chk (v3.length + ([(UInt8.ofNat (92 : Int).toNat), (UInt8.ofNat ((a0.f2.getD v4.toNat 0).toNat : Int).toNat)]).length ≤ 4294967296) <|
                  lett ((v3 ++ ([(UInt8.ofNat (92 : Int).toNat), (UInt8.ofNat ((a0.f2.getD v4.toNat 0).toNat : Int).toNat)]))) fun l2 =>
                  some l2
                else
                  lett ((bif (decide (((a0.f2.getD v4.toNat 0).toNat : Int) < (32 : Int))) then true else (decide (((a0.f2.getD v4.toNat 0).toNat : Int) ≥ (126 : Int))))) fun z6 =>
                  bif z6 then
                    chk (v3.length + ([(UInt8.ofNat (92 : Int).toNat), (UInt8.ofNat (120 : Int).toNat)]).length ≤ 4294967296) <|
                    chk ((v3 ++ ([(UInt8.ofNat (92 : Int).toNat), (UInt8.ofNat (120 : Int).toNat)])).length + ([(UInt8.ofNat z1.toNat), (UInt8.ofNat z2.toNat)]).length ≤ 4294967296) <|
                    lett (((v3 ++ ([(UInt8.ofNat (92 : Int).toNat), (UInt8.ofNat (120 : Int).toNat)])) ++ ([(UInt8.ofNat z1.toNat), (UInt8.ofNat z2.toNat)]))) fun l3 =>
                    some l3
                  else
                    chk (0 ≤ ((a0.f2.getD v4.toNat 0).toNat : Int) ∧ ((a0.f2.getD v4.toNat 0).toNat : Int) < 256) <|
                    chk (v3.length + ([(UInt8.ofNat ((a0.f2.getD v4.toNat 0).toNat : Int).toNat)]).length ≤ 4294967296) <|
                    some (v3 ++ ([(UInt8.ofNat ((a0.f2.getD v4.toNat 0).toNat : Int).toNat)])))
        fun v5 =>
      ref3_Spelled_L3 F a0 n v5 (IntKind.i64.wrap (v4 + (1 : Int)))
    else
      some v3

/-- printworks/printworksref3.Spelled -/
def ref3_Spelled (F : Nat) (a0 : S_Token) : Option ((List UInt8) × Int) :=
  lett ((bif (bif (a0.f0 == (2 : Int)) then true else (a0.f0 == (3 : Int))) then true else (a0.f0 == (5 : Int)))) fun z7 =>
  bif (bif (decide (a0.f0 < (1 : Int))) then true else (decide (a0.f0 > (9 : Int)))) then
    some ([], (14 : Int))
  else
    lett ((bif (!(bif (a0.f0 == (1 : Int)) then true else (a0.f0 == (4 : Int)))) then (a0.f1 != (0 : Int)) else false)) fun z8 =>
    bif (bif z8 then true else (bif (!z7) then (!(a0.f2 == [])) else false)) then
      some ([], (4 : Int))
    else
      callE (bif (a0.f0 == (2 : Int)) then
          call (ref3_Spelled_L0 F a0 F (a0.f2 == []) (0 : Int))
            fun v6 =>
          bif v6 then
            some (.esc ([], (4 : Int)))
          else
            some (.go ())
        else
          some (.go ()))
        (fun e => some e) fun _ =>
      lett ((bif (a0.f0 == (1 : Int)) then (bif (decide (a0.f1 > (2147483647 : Int))) then true else (decide (a0.f1 < (-2147483647 : Int)))) else false)) fun z9 =>
      lett ((bif (a0.f0 == (4 : Int)) then (bif (decide (a0.f1 > (255 : Int))) then true else (decide (a0.f1 < (1 : Int)))) else false)) fun z10 =>
      bif (bif z9 then true else z10) then
        some ([], (3 : Int))
      else
        lett ((bif (bif (a0.f0 == (2 : Int)) then (decide ((a0.f2.length : Int) > (31 : Int))) else false) then true else (bif (a0.f0 == (3 : Int)) then (decide ((a0.f2.length : Int) > (1024 : Int))) else false))) fun z11 =>
        bif z11 then
          some ([], (2 : Int))
        else
          bif (a0.f0 == (5 : Int)) then
            chk ((((a0.f2 == []) == false) && true) = true → 0 ≤ (0 : Int) ∧ (0 : Int) < a0.f2.length) <|
            call ((bif (((a0.f2 == []) == false) && true) then ref3_digit F ((a0.f2.getD (0 : Int).toNat 0).toNat : Int) else some false)) fun y3 =>
            call ((bif (((bif (a0.f2 == []) then true else y3) == false) && true) then ref3_wordError F a0.f2 else some 0)) fun y4 =>
            bif (bif (bif (a0.f2 == []) then true else y3) then true else (y4 == (5 : Int))) then
              some ([], (4 : Int))
            else
              call (ref3_wordError F a0.f2) fun y5 =>
              bif (y5 != (0 : Int)) then
                some ([], y5)
              else
                some (a0.f2, (0 : Int))
          else
            bif (a0.f0 == (1 : Int)) then
              call (ref3_Decimal F a0.f1) fun y6 =>
              some (y6, (0 : Int))
            else
              bif (a0.f0 == (4 : Int)) then
                call (ref3_Decimal F a0.f1) fun y7 =>
                chk (([64] : List UInt8).length + y7.length ≤ 9223372036854775807) <|
                some ((([64] : List UInt8) ++ y7), (0 : Int))
              else
                bif (a0.f0 == (6 : Int)) then
                  some (([91] : List UInt8), (0 : Int))
                else
                  bif (a0.f0 == (7 : Int)) then
                    some (([93] : List UInt8), (0 : Int))
                  else
                    bif (a0.f0 == (8 : Int)) then
                      some (([60, 60] : List UInt8), (0 : Int))
                    else
                      bif (a0.f0 == (9 : Int)) then
                        some (([62, 62] : List UInt8), (0 : Int))
                      else
                        call (ref3_Spelled_L3 F a0 F [] (0 : Int))
                          fun v7 =>
                        bif (a0.f0 == (2 : Int)) then
                          chk (([47] : List UInt8).length + v7.length ≤ 9223372036854775807) <|
                          some ((([47] : List UInt8) ++ v7), (0 : Int))
                        else
                          chk (([40] : List UInt8).length + v7.length ≤ 9223372036854775807) <|
                          chk ((([40] : List UInt8) ++ v7).length + ([41] : List UInt8).length ≤ 9223372036854775807) <|
                          some (((([40] : List UInt8) ++ v7) ++ ([41] : List UInt8)), (0 : Int))

/-- printworks/printworkslaw3.TokenPrintSpelling -/
def law3_TokenPrintSpelling (F : Nat) (a0 : S_Token) : Option Bool :=
  call (token_Print F (S_Token.mk (3 : Int) 0 ([65, 126, 10] : List UInt8) 0 0)) fun y1 =>
  lett ((bif (y1.2 != (0 : Int)) then true else (!(y1.1 == ([40, 65, 92, 120, 55, 101, 92, 110, 41] : List UInt8))))) fun z1 =>
  bif z1 then
    some false
  else
    call (token_Print F a0) fun y2 =>
    call (ref3_Spelled F a0) fun y3 =>
    some (bif (y2.2 == y3.2) then (y2.1 == y3.1) else false)

end Go.Vm.TokG
