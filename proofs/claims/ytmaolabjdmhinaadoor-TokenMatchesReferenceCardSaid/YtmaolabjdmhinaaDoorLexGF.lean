import Derived.Test.YtmaolabjdmhinaaDoorVmC
import Derived.Lib.AtoiAll
import Derived.Lib.Bytealg
import Derived.Shelf.GgClosure.StringsIndexFunc
namespace Go.Vm.LexG
structure S_Token where
  f0 : Int
  f1 : Int
  f2 : List UInt8
  f3 : Int
  f4 : Int
deriving DecidableEq

def cS_Token (x : S_Token) : List Dat := (cI .i64) x.f0 ++ (cI .i64) x.f1 ++ cS x.f2 ++ (cI .i64) x.f3 ++ (cI .i64) x.f4

/-- what strconv.Atoi returns of a number. -/
def sAtoi (l : List UInt8) : Option Int :=
  match Lib.atoiAll l with
  | .ok v => some v
  | _ => none

/-- strings.ContainsFunc, of a predicate that answers at every rune. -/
def sContains (q : Int → Option Bool) (l : List UInt8) : Option Bool :=
  if ∀ x : Nat, x ≤ 1114111 → (q x).isSome = true then some (decide (0 ≤ Lib.idxFunc (fun x => (q x).getD false) true ⟨l.toArray⟩)) else none
theorem sContains_ok {q : Int → Option Bool} {l : List UInt8} {r : Bool} (h : sContains q l = some r) : (∀ x : Nat, x ≤ 1114111 → (q x).isSome = true) ∧ r = decide (0 ≤ Lib.idxFunc (fun x => (q x).getD false) true ⟨l.toArray⟩) := by
  unfold sContains at h
  split at h
  · rename_i h1; cases h; exact ⟨h1, rfl⟩
  · cases h

/-- printworks/token.white -/
def token_white (F : Nat) (a0 : Int) : Option Bool :=
  some (bif (bif (a0 == (32 : Int)) then true else (a0 == (9 : Int))) then true else (a0 == (10 : Int)))

def token_cursor_skip_L0 (F : Nat) (c0 : List UInt8) : Nat → Bool → Int → Option (Out Int ((List UInt8) × Int))
  | 0, _, _ => none
  | n + 1, v1, v2 =>
    bif (decide (v2 < (c0.length : Int))) then
      callE (chk (0 ≤ v2 ∧ v2 < c0.length) <|
        bif v1 then
          some (.go (((c0.getD v2.toNat 0).toNat : Int) != (10 : Int)))
        else
          bif (((c0.getD v2.toNat 0).toNat : Int) == (37 : Int)) then
            some (.go true)
          else
            call (token_white F ((c0.getD v2.toNat 0).toNat : Int)) fun y1 =>
            bif (!y1) then
              some (.esc (c0, v2))
            else
              some (.go v1))
        (fun e => some (.esc e)) fun v3 =>
      token_cursor_skip_L0 F c0 n v3 (IntKind.i64.wrap (v2 + (1 : Int)))
    else
      some (.go v2)

/-- (*printworks/token.cursor).skip -/
def token_cursor_skip (F : Nat) (c0 : List UInt8) (c1 : Int) : Option ((List UInt8) × Int) :=
  callE (token_cursor_skip_L0 F c0 F false c1)
    (fun e => some e) fun v4 =>
  some (c0, v4)

/-- printworks/token.digit -/
def token_digit (F : Nat) (a0 : Int) : Option Bool :=
  some (bif (decide ((48 : Int) ≤ a0)) then (decide (a0 ≤ (57 : Int))) else false)

/-- printworks/token.delimiter -/
def token_delimiter (F : Nat) (a0 : Int) : Option Bool :=
  lett ((decide ((Lib.indexByte ([40, 41, 60, 62, 91, 93, 47, 64, 37] : List UInt8) a0.toNat.toUInt8) ≥ (0 : Int)))) fun z1 =>
  some z1

/-- printworks/token.regular -/
def token_regular (F : Nat) (a0 : Int) : Option Bool :=
  call (token_white F a0) fun y1 =>
  call ((bif (((!y1) == true) && true) then token_delimiter F a0 else some false)) fun y2 =>
  some (bif (!y1) then (!y2) else false)

def token_cursor_run_L0 (F : Nat) (c0 : List UInt8) : Nat → Int → Option Int
  | 0, _ => none
  | n + 1, v1 =>
    chk ((((decide (v1 < (c0.length : Int))) == true) && true) = true → 0 ≤ v1 ∧ v1 < c0.length) <|
    call ((bif (((decide (v1 < (c0.length : Int))) == true) && true) then token_regular F ((c0.getD v1.toNat 0).toNat : Int) else some false)) fun y1 =>
    bif (bif (decide (v1 < (c0.length : Int))) then y1 else false) then
      token_cursor_run_L0 F c0 n (IntKind.i64.wrap (v1 + (1 : Int)))
    else
      some v1

/-- (*printworks/token.cursor).run -/
def token_cursor_run (F : Nat) (c0 : List UInt8) (c1 : Int) : Option ((List UInt8) × (List UInt8) × Int) :=
  call (token_cursor_run_L0 F c0 F c1)
    fun v2 =>
  chk (0 ≤ c1 ∧ c1 ≤ v2 ∧ v2 ≤ (c0.length : Int)) <|
  some (((c0.drop c1.toNat).take (v2.toNat - c1.toNat)), c0, v2)

/-- printworks/token.integer$1 -/
def token_integer_c1 (F : Nat) (a0 : Int) : Option Bool :=
  some (bif (decide (a0 < (48 : Int))) then true else (decide (a0 > (57 : Int))))

/-- printworks/token.integer -/
def token_integer (F : Nat) (a0 : List UInt8) : Option (Int × Int) :=
  call (chk (0 ≤ (0 : Int) ∧ (0 : Int) < a0.length) <|
    chk ((((((a0.getD (0 : Int).toNat 0).toNat : Int) == (43 : Int)) == false) && true) = true → 0 ≤ (0 : Int) ∧ (0 : Int) < a0.length) <|
    lett ((bif (((a0.getD (0 : Int).toNat 0).toNat : Int) == (43 : Int)) then true else (((a0.getD (0 : Int).toNat 0).toNat : Int) == (45 : Int)))) fun z1 =>
    bif z1 then
      chk (0 ≤ (1 : Int) ∧ (1 : Int) ≤ (a0.length : Int) ∧ (a0.length : Int) ≤ (a0.length : Int)) <|
      some ((a0.drop (1 : Int).toNat).take ((a0.length : Int).toNat - (1 : Int).toNat))
    else
      some a0)
    fun v1 =>
  call ((bif (((bif (v1 == []) then true else (decide ((v1.length : Int) > (10 : Int)))) == false) && true) then sContains (fun x => token_integer_c1 F x) v1 else some false)) fun y1 =>
  bif (bif (bif (v1 == []) then true else (decide ((v1.length : Int) > (10 : Int)))) then true else y1) then
    some ((0 : Int), (5 : Int))
  else
    chk (a0.length ≤ 9223372036854775806) <|
    call (sAtoi a0) fun y2 =>
    bif (bif (decide (y2 < (-2147483647 : Int))) then true else (decide (y2 > (2147483647 : Int)))) then
      some ((0 : Int), (3 : Int))
    else
      some (y2, (0 : Int))

/-- printworks/token.letter -/
def token_letter (F : Nat) (a0 : Int) : Option Bool :=
  lett ((bif (bif (decide ((97 : Int) ≤ a0)) then (decide (a0 ≤ (122 : Int))) else false) then true else (bif (decide ((65 : Int) ≤ a0)) then (decide (a0 ≤ (90 : Int))) else false))) fun z1 =>
  some z1

/-- printworks/token.limited -/
def token_limited (F : Nat) (a0 : List UInt8) (a1 : Int) : Option ((List UInt8) × Int) :=
  bif (decide ((a0.length : Int) > a1)) then
    some ([], (2 : Int))
  else
    some (a0, (0 : Int))

def token_word_L0 (F : Nat) (a0 : List UInt8) : Nat → Int → Option (Out Unit ((List UInt8) × Int))
  | 0, _ => none
  | n + 1, v1 =>
    bif (decide (v1 < (a0.length : Int))) then
      chk (0 ≤ v1 ∧ v1 < a0.length) <|
      call (token_letter F ((a0.getD v1.toNat 0).toNat : Int)) fun y1 =>
      call ((bif (((v1 == (0 : Int)) == false) && (((!y1) == true) && true)) then token_digit F ((a0.getD v1.toNat 0).toNat : Int) else some false)) fun y2 =>
      lett ((bif (bif (!y1) then (bif (v1 == (0 : Int)) then true else (!y2)) else false) then (((a0.getD v1.toNat 0).toNat : Int) != (42 : Int)) else false)) fun z1 =>
      lett ((bif (bif z1 then (((a0.getD v1.toNat 0).toNat : Int) != (95 : Int)) else false) then (((a0.getD v1.toNat 0).toNat : Int) != (46 : Int)) else false)) fun z2 =>
      bif z2 then
        some (.esc ([], (5 : Int)))
      else
        token_word_L0 F a0 n (IntKind.i64.wrap (v1 + (1 : Int)))
    else
      some (.go ())

/-- printworks/token.word -/
def token_word (F : Nat) (a0 : List UInt8) : Option ((List UInt8) × Int) :=
  callE (token_word_L0 F a0 F (0 : Int))
    (fun e => some e) fun _ =>
  bif (a0 == []) then
    some ([], (5 : Int))
  else
    call (token_limited F a0 (31 : Int)) fun y3 =>
    some (y3.1, y3.2)

/-- printworks/token.hexDigit -/
def token_hexDigit (F : Nat) (a0 : Int) : Option (Int × Bool) :=
  call (token_digit F a0) fun y1 =>
  bif y1 then
    some (IntKind.u8.wrap (a0 - (48 : Int)), true)
  else
    bif (bif (decide ((97 : Int) ≤ a0)) then (decide (a0 ≤ (102 : Int))) else false) then
      some (IntKind.u8.wrap ((IntKind.u8.wrap (a0 - (97 : Int))) + (10 : Int)), true)
    else
      bif (bif (decide ((65 : Int) ≤ a0)) then (decide (a0 ≤ (70 : Int))) else false) then
        some (IntKind.u8.wrap ((IntKind.u8.wrap (a0 - (65 : Int))) + (10 : Int)), true)
      else
        some ((0 : Int), false)

/-- (*printworks/token.cursor).pair -/
def token_cursor_pair (F : Nat) (c0 : List UInt8) (c1 : Int) : Option (Int × Bool × (List UInt8) × Int) :=
  bif (decide ((IntKind.i64.wrap (c1 + (2 : Int))) > (c0.length : Int))) then
    some ((0 : Int), false, c0, c1)
  else
    chk (0 ≤ c1 ∧ c1 < c0.length) <|
    call (token_hexDigit F ((c0.getD c1.toNat 0).toNat : Int)) fun y1 =>
    chk (0 ≤ (IntKind.i64.wrap (c1 + (1 : Int))) ∧ (IntKind.i64.wrap (c1 + (1 : Int))) < c0.length) <|
    call (token_hexDigit F ((c0.getD (IntKind.i64.wrap (c1 + (1 : Int))).toNat 0).toNat : Int)) fun y2 =>
    lett (IntKind.u8.wrap ((BitVec.ofInt IntKind.u8.bits (IntKind.u8.wrap (y1.1 * 2 ^ (min (4 : Int).toNat IntKind.u8.bits))) ||| BitVec.ofInt IntKind.u8.bits y2.1).toNat : Int)) fun z1 =>
    some (z1, (bif y1.2 then y2.2 else false), c0, IntKind.i64.wrap (c1 + (2 : Int)))

/-- (*strings.Builder).WriteByte -/
def strings_Builder_WriteByte (F : Nat) (a0 : Int) (c1 : List UInt8) : Option (Unit × (List UInt8)) :=
  chk (0 ≤ a0 ∧ a0 < 256) <|
  chk (c1.length + ([(UInt8.ofNat a0.toNat)]).length ≤ 4294967296) <|
  some ((), (c1 ++ ([(UInt8.ofNat a0.toNat)])))

/-- (*strings.Builder).Len -/
def strings_Builder_Len (F : Nat) (c0 : List UInt8) : Option (Int × (List UInt8)) :=
  some ((c0.length : Int), c0)

def token_cursor_name_L0 (F : Nat) (y1 : (List UInt8) × (List UInt8) × Int) : Nat → (List UInt8) → Int → (List UInt8) → Option (Out ((List UInt8)) ((List UInt8) × Int × (List UInt8) × Int))
  | 0, _, _, _ => none
  | n + 1, v1, v2, v3 =>
    bif (decide (v2 < (v1.length : Int))) then
      chk (0 ≤ v2 ∧ v2 < v1.length) <|
      bif (((v1.getD v2.toNat 0).toNat : Int) == (35 : Int)) then
        call (token_cursor_pair F v1 (IntKind.i64.wrap (v2 + (1 : Int)))) fun y2 =>
        bif (bif (!y2.2.1) then true else (y2.1 == (0 : Int))) then
          some (.esc ([], (5 : Int), y1.2.1, y1.2.2))
        else
          call (strings_Builder_WriteByte F y2.1 v3) fun y3 =>
          token_cursor_name_L0 F y1 n y2.2.2.1 y2.2.2.2 y3.2
      else
        lett ((bif (decide (((v1.getD v2.toNat 0).toNat : Int) < (33 : Int))) then true else (decide (((v1.getD v2.toNat 0).toNat : Int) > (126 : Int))))) fun z1 =>
        bif z1 then
          some (.esc ([], (5 : Int), y1.2.1, y1.2.2))
        else
          call (strings_Builder_WriteByte F ((v1.getD v2.toNat 0).toNat : Int) v3) fun y4 =>
          token_cursor_name_L0 F y1 n v1 (IntKind.i64.wrap (v2 + (1 : Int))) y4.2
    else
      some (.go v3)

/-- (*printworks/token.cursor).name -/
def token_cursor_name (F : Nat) (c0 : List UInt8) (c1 : Int) : Option ((List UInt8) × Int × (List UInt8) × Int) :=
  call (token_cursor_run F c0 c1) fun y1 =>
  callE (token_cursor_name_L0 F y1 F y1.1 0 [])
    (fun e => some e) fun v4 =>
  call (strings_Builder_Len F v4) fun y5 =>
  bif (y5.1 == (0 : Int)) then
    some ([], (5 : Int), y1.2.1, y1.2.2)
  else
    chk (y5.2.length ≤ 9223372036854775807) <|
    call (token_limited F y5.2 (31 : Int)) fun y6 =>
    some (y6.1, y6.2, y1.2.1, y1.2.2)

/-- printworks/token.reference$1 -/
def token_reference_c1 (F : Nat) (a0 : Int) : Option Bool :=
  some (bif (decide (a0 < (48 : Int))) then true else (decide (a0 > (57 : Int))))

/-- printworks/token.reference -/
def token_reference (F : Nat) (a0 : List UInt8) : Option (Int × Int) :=
  chk ((((bif (a0 == []) then true else (decide ((a0.length : Int) > (3 : Int)))) == false) && true) = true → 0 ≤ (0 : Int) ∧ (0 : Int) < a0.length) <|
  lett ((bif (((a0.getD (0 : Int).toNat 0).toNat : Int) == (48 : Int)) then (decide ((a0.length : Int) > (1 : Int))) else false)) fun z1 =>
  call ((bif (((bif (bif (a0 == []) then true else (decide ((a0.length : Int) > (3 : Int)))) then true else z1) == false) && true) then sContains (fun x => token_reference_c1 F x) a0 else some false)) fun y1 =>
  lett ((bif (bif (bif (a0 == []) then true else (decide ((a0.length : Int) > (3 : Int)))) then true else z1) then true else y1)) fun z2 =>
  bif z2 then
    some ((0 : Int), (5 : Int))
  else
    chk (a0.length ≤ 9223372036854775806) <|
    call (sAtoi a0) fun y2 =>
    bif (bif (decide (y2 < (1 : Int))) then true else (decide (y2 > (255 : Int)))) then
      some ((0 : Int), (3 : Int))
    else
      some (y2, (0 : Int))

/-- (*printworks/token.cursor).escape -/
def token_cursor_escape (F : Nat) (c0 : List UInt8) (c1 : Int) (c2 : List UInt8) : Option (Int × (List UInt8) × Int × (List UInt8)) :=
  bif (c1 == (c0.length : Int)) then
    some ((12 : Int), c0, c1, c2)
  else
    chk (0 ≤ c1 ∧ c1 < c0.length) <|
    callE (bif (((c0.getD c1.toNat 0).toNat : Int) == (10 : Int)) then
        some (.esc ((0 : Int), c0, IntKind.i64.wrap (c1 + (1 : Int)), c2))
      else
        bif (((c0.getD c1.toNat 0).toNat : Int) == (110 : Int)) then
          some (.go ((10 : Int), c0, IntKind.i64.wrap (c1 + (1 : Int))))
        else
          bif (((c0.getD c1.toNat 0).toNat : Int) == (116 : Int)) then
            some (.go ((9 : Int), c0, IntKind.i64.wrap (c1 + (1 : Int))))
          else
            call (bif (((c0.getD c1.toNat 0).toNat : Int) == (92 : Int)) then
                some (((c0.getD c1.toNat 0).toNat : Int) == (92 : Int))
              else
                bif (((c0.getD c1.toNat 0).toNat : Int) == (40 : Int)) then
                  some (((c0.getD c1.toNat 0).toNat : Int) == (40 : Int))
                else
                  some (((c0.getD c1.toNat 0).toNat : Int) == (41 : Int)))
              fun v1 =>
            bif v1 then
              some (.go (((c0.getD c1.toNat 0).toNat : Int), c0, IntKind.i64.wrap (c1 + (1 : Int))))
            else
              bif (((c0.getD c1.toNat 0).toNat : Int) == (120 : Int)) then
                call (token_cursor_pair F c0 (IntKind.i64.wrap (c1 + (1 : Int)))) fun y1 =>
                bif (!y1.2.1) then
                  some (.esc ((5 : Int), y1.2.2.1, y1.2.2.2, c2))
                else
                  some (.go (y1.1, y1.2.2.1, y1.2.2.2))
              else
                some (.esc ((5 : Int), c0, IntKind.i64.wrap (c1 + (1 : Int)), c2)))
      (fun e => some e) fun (v2, v3, v4) =>
    call (strings_Builder_WriteByte F v2 c2) fun y2 =>
    some ((0 : Int), v3, v4, y2.2)

def token_cursor_text_L0 (F : Nat)  : Nat → (List UInt8) → (List UInt8) → Int → Int → Option (Out ((List UInt8) × Int) ((List UInt8) × Int × (List UInt8) × Int))
  | 0, _, _, _, _ => none
  | n + 1, v1, v2, v3, v4 =>
    bif (decide (v3 < (v2.length : Int))) then
      chk (0 ≤ v3 ∧ v3 < v2.length) <|
      callE (bif (((v2.getD v3.toNat 0).toNat : Int) == (92 : Int)) then
          call (token_cursor_escape F v2 (IntKind.i64.wrap (v3 + (1 : Int))) v1) fun y1 =>
          bif (y1.1 != (0 : Int)) then
            some (.esc (.inr ([], y1.1, y1.2.1, y1.2.2.1)))
          else
            some (.esc (.inl (y1.2.2.2, y1.2.1, y1.2.2.1, v4)))
        else
          bif (((v2.getD v3.toNat 0).toNat : Int) == (40 : Int)) then
            bif (decide ((IntKind.i64.wrap (v4 + (1 : Int))) > (16 : Int))) then
              some (.esc (.inr ([], (15 : Int), v2, IntKind.i64.wrap (v3 + (1 : Int)))))
            else
              some (.go (IntKind.i64.wrap (v4 + (1 : Int))))
          else
            bif (((v2.getD v3.toNat 0).toNat : Int) == (41 : Int)) then
              some (.go (IntKind.i64.wrap (v4 - (1 : Int))))
            else
              some (.go v4))
        (Sum.elim (fun e => token_cursor_text_L0 F n e.1 e.2.1 e.2.2.1 e.2.2.2) (fun e => some (.esc e))) fun v5 =>
      bif (v5 == (0 : Int)) then
        chk (v1.length ≤ 9223372036854775807) <|
        call (token_limited F v1 (1024 : Int)) fun y2 =>
        some (.esc (y2.1, y2.2, v2, IntKind.i64.wrap (v3 + (1 : Int))))
      else
        call (strings_Builder_WriteByte F ((v2.getD v3.toNat 0).toNat : Int) v1) fun y3 =>
        token_cursor_text_L0 F n y3.2 v2 (IntKind.i64.wrap (v3 + (1 : Int))) v5
    else
      some (.go (v2, v3))

/-- (*printworks/token.cursor).text -/
def token_cursor_text (F : Nat) (c0 : List UInt8) (c1 : Int) : Option ((List UInt8) × Int × (List UInt8) × Int) :=
  callE (token_cursor_text_L0 F F [] c0 c1 (1 : Int))
    (fun e => some e) fun (v6, v7) =>
  some ([], (12 : Int), v6, v7)

def token_cursor_hex_L0 (F : Nat) (c0 : List UInt8) : Nat → Int → (List UInt8) → Int → Int → Option (Out Int ((List UInt8) × Int × (List UInt8) × Int))
  | 0, _, _, _, _ => none
  | n + 1, v1, v2, v3, v4 =>
    bif (decide (v1 < (c0.length : Int))) then
      chk (0 ≤ v1 ∧ v1 < c0.length) <|
      call (token_white F ((c0.getD v1.toNat 0).toNat : Int)) fun y1 =>
      bif y1 then
        token_cursor_hex_L0 F c0 n (IntKind.i64.wrap (v1 + (1 : Int))) v2 v3 v4
      else
        lett ((bif (((c0.getD v1.toNat 0).toNat : Int) == (62 : Int)) then ((v4.tmod (2 : Int)) == (0 : Int)) else false)) fun z1 =>
        bif z1 then
          chk (v2.length ≤ 9223372036854775807) <|
          call (token_limited F v2 (1024 : Int)) fun y2 =>
          some (.esc (y2.1, y2.2, c0, IntKind.i64.wrap (v1 + (1 : Int))))
        else
          call (token_hexDigit F ((c0.getD v1.toNat 0).toNat : Int)) fun y3 =>
          bif (!y3.2) then
            some (.esc ([], (5 : Int), c0, IntKind.i64.wrap (v1 + (1 : Int))))
          else
            call (bif (((IntKind.i64.wrap (v4 + (1 : Int))).tmod (2 : Int)) == (0 : Int)) then
                lett (IntKind.u8.wrap ((BitVec.ofInt IntKind.u8.bits (IntKind.u8.wrap (v3 * 2 ^ (min (4 : Int).toNat IntKind.u8.bits))) ||| BitVec.ofInt IntKind.u8.bits y3.1).toNat : Int)) fun z2 =>
                call (strings_Builder_WriteByte F z2 v2) fun y4 =>
                some y4.2
              else
                some v2)
              fun v5 =>
            token_cursor_hex_L0 F c0 n (IntKind.i64.wrap (v1 + (1 : Int))) v5 y3.1 (IntKind.i64.wrap (v4 + (1 : Int)))
    else
      some (.go v1)

/-- (*printworks/token.cursor).hex -/
def token_cursor_hex (F : Nat) (c0 : List UInt8) (c1 : Int) : Option ((List UInt8) × Int × (List UInt8) × Int) :=
  callE (token_cursor_hex_L0 F c0 F c1 [] (0 : Int) (0 : Int))
    (fun e => some e) fun v6 =>
  some ([], (12 : Int), c0, v6)

/-- (*printworks/token.cursor).one -/
def token_cursor_one (F : Nat) (c0 : List UInt8) (c1 : Int) : Option (S_Token × Int × (List UInt8) × Int) :=
  chk (0 ≤ c1 ∧ c1 < c0.length) <|
  lett ((bif (((c0.getD c1.toNat 0).toNat : Int) == (43 : Int)) then true else (((c0.getD c1.toNat 0).toNat : Int) == (45 : Int)))) fun z1 =>
  call ((bif ((z1 == false) && true) then token_digit F ((c0.getD c1.toNat 0).toNat : Int) else some false)) fun y1 =>
  bif (bif z1 then true else y1) then
    call (token_cursor_run F c0 c1) fun y2 =>
    call (token_integer F y2.1) fun y3 =>
    some ((S_Token.mk (1 : Int) y3.1 [] 0 0), y3.2, y2.2.1, y2.2.2)
  else
    call (token_regular F ((c0.getD c1.toNat 0).toNat : Int)) fun y4 =>
    bif y4 then
      call (token_cursor_run F c0 c1) fun y5 =>
      call (token_word F y5.1) fun y6 =>
      some ((S_Token.mk (5 : Int) 0 y6.1 0 0), y6.2, y5.2.1, y5.2.2)
    else
      chk ((((decide ((IntKind.i64.wrap (c1 + (1 : Int))) < (c0.length : Int))) == true) && true) = true → 0 ≤ (IntKind.i64.wrap (c1 + (1 : Int))) ∧ (IntKind.i64.wrap (c1 + (1 : Int))) < c0.length) <|
      lett ((((c0.getD (IntKind.i64.wrap (c1 + (1 : Int))).toNat 0).toNat : Int) == ((c0.getD c1.toNat 0).toNat : Int))) fun z2 =>
      callE (bif (((c0.getD c1.toNat 0).toNat : Int) == (47 : Int)) then
          call (token_cursor_name F c0 (IntKind.i64.wrap (c1 + (1 : Int)))) fun y7 =>
          some (.go ((2 : Int), 0, y7.1, y7.2.1, y7.2.2.1, y7.2.2.2))
        else
          bif (((c0.getD c1.toNat 0).toNat : Int) == (64 : Int)) then
            call (token_cursor_run F c0 (IntKind.i64.wrap (c1 + (1 : Int)))) fun y8 =>
            call (token_reference F y8.1) fun y9 =>
            some (.go ((4 : Int), y9.1, [], y9.2, y8.2.1, y8.2.2))
          else
            bif (((c0.getD c1.toNat 0).toNat : Int) == (40 : Int)) then
              call (token_cursor_text F c0 (IntKind.i64.wrap (c1 + (1 : Int)))) fun y10 =>
              some (.go ((3 : Int), 0, y10.1, y10.2.1, y10.2.2.1, y10.2.2.2))
            else
              bif (((c0.getD c1.toNat 0).toNat : Int) == (91 : Int)) then
                some (.go ((6 : Int), 0, [], (0 : Int), c0, IntKind.i64.wrap (c1 + (1 : Int))))
              else
                bif (((c0.getD c1.toNat 0).toNat : Int) == (93 : Int)) then
                  some (.go ((7 : Int), 0, [], (0 : Int), c0, IntKind.i64.wrap (c1 + (1 : Int))))
                else
                  bif (((c0.getD c1.toNat 0).toNat : Int) == (60 : Int)) then
                    bif (bif (decide ((IntKind.i64.wrap (c1 + (1 : Int))) < (c0.length : Int))) then z2 else false) then
                      some (.go ((8 : Int), 0, [], (0 : Int), c0, IntKind.i64.wrap ((IntKind.i64.wrap (c1 + (1 : Int))) + (1 : Int))))
                    else
                      call (token_cursor_hex F c0 (IntKind.i64.wrap (c1 + (1 : Int)))) fun y11 =>
                      some (.go ((3 : Int), 0, y11.1, y11.2.1, y11.2.2.1, y11.2.2.2))
                  else
                    bif (((c0.getD c1.toNat 0).toNat : Int) == (62 : Int)) then
                      bif (!(bif (decide ((IntKind.i64.wrap (c1 + (1 : Int))) < (c0.length : Int))) then z2 else false)) then
                        some (.esc ((S_Token.mk 0 0 [] 0 0), (5 : Int), c0, IntKind.i64.wrap (c1 + (1 : Int))))
                      else
                        some (.go ((9 : Int), 0, [], (0 : Int), c0, IntKind.i64.wrap ((IntKind.i64.wrap (c1 + (1 : Int))) + (1 : Int))))
                    else
                      some (.esc ((S_Token.mk 0 0 [] 0 0), (5 : Int), c0, IntKind.i64.wrap (c1 + (1 : Int)))))
        (fun e => some e) fun (v1, v2, v3, v4, v5, v6) =>
      some ((S_Token.mk v1 v2 v3 0 0), v4, v5, v6)

/-- printworks/token.next -/
def token_next (F : Nat) (a0 : List UInt8) (a1 : Int) : Option (S_Token × Int × Int) :=
  call (token_cursor_skip F a0 a1) fun y1 =>
  bif (y1.2 == (a0.length : Int)) then
    some ((S_Token.mk 0 0 [] y1.2 y1.2), y1.2, (0 : Int))
  else
    call (token_cursor_one F y1.1 y1.2) fun y2 =>
    bif (y2.2.1 != (0 : Int)) then
      some ((S_Token.mk 0 0 [] 0 0), y1.2, y2.2.1)
    else
      some ((S_Token.mk y2.1.f0 y2.1.f1 y2.1.f2 y1.2 y2.2.2.2), y1.2, (0 : Int))

/-- printworks/token.Next -/
def token_Next (F : Nat) (a0 : List UInt8) (a1 : Int) : Option (S_Token × Int × Int) :=
  bif (decide ((a0.length : Int) > (8192 : Int))) then
    some ((S_Token.mk 0 0 [] 0 0), (0 : Int), (2 : Int))
  else
    bif (bif (decide (a1 < (0 : Int))) then true else (decide (a1 > (a0.length : Int)))) then
      some ((S_Token.mk 0 0 [] 0 0), (0 : Int), (3 : Int))
    else
      call (token_next F a0 a1) fun y1 =>
      call (bif (y1.2.2 == (0 : Int)) then
          some (0 : Int)
        else
          some y1.2.1)
        fun v1 =>
      some (y1.1, v1, y1.2.2)

def token_Scan_L0 (F : Nat) (a0 : List UInt8) : Nat → (List S_Token) → Int → Option (Out Empty ((List S_Token) × Int × Int))
  | 0, _, _ => none
  | n + 1, v1, v2 =>
    call (token_Next F a0 v2) fun y1 =>
    bif (y1.2.2 != (0 : Int)) then
      some (.esc ([], y1.2.1, y1.2.2))
    else
      bif (y1.1.f0 == (0 : Int)) then
        some (.esc (v1, (0 : Int), (0 : Int)))
      else
        chk (v1.length + ([y1.1]).length ≤ 4294967296) <|
        token_Scan_L0 F a0 n (v1 ++ ([y1.1])) y1.1.f4

/-- printworks/token.Scan -/
def token_Scan (F : Nat) (a0 : List UInt8) : Option ((List S_Token) × Int × Int) :=
  callE (token_Scan_L0 F a0 F [] (0 : Int))
    (fun e => some e) fun (s : Empty) =>
  s.elim

/-- printworks/printworkslaw3.tokenFact -/
def law3_tokenFact (F : Nat)  : Option Bool :=
  call (token_Scan F ([47, 97, 32, 49, 50] : List UInt8)) fun y1 =>
  lett ((bif (bif (y1.2.2 == (0 : Int)) then (y1.2.1 == (0 : Int)) else false) then ((y1.1.length : Int) == (2 : Int)) else false)) fun z1 =>
  chk (((z1 == true) && true) = true → 0 ≤ (0 : Int) ∧ (0 : Int) < y1.1.length) <|
  lett (((y1.1.getD (0 : Int).toNat (S_Token.mk 0 0 [] 0 0)).f0 == (2 : Int) && ((y1.1.getD (0 : Int).toNat (S_Token.mk 0 0 [] 0 0)).f1 == 0 && ((y1.1.getD (0 : Int).toNat (S_Token.mk 0 0 [] 0 0)).f2 == ([97] : List UInt8) && ((y1.1.getD (0 : Int).toNat (S_Token.mk 0 0 [] 0 0)).f3 == 0 && ((y1.1.getD (0 : Int).toNat (S_Token.mk 0 0 [] 0 0)).f4 == (2 : Int) && true)))))) fun z2 =>
  chk ((((bif z1 then z2 else false) == true) && true) = true → 0 ≤ (1 : Int) ∧ (1 : Int) < y1.1.length) <|
  lett (((y1.1.getD (1 : Int).toNat (S_Token.mk 0 0 [] 0 0)).f0 == (1 : Int) && ((y1.1.getD (1 : Int).toNat (S_Token.mk 0 0 [] 0 0)).f1 == (12 : Int) && ((y1.1.getD (1 : Int).toNat (S_Token.mk 0 0 [] 0 0)).f2 == [] && ((y1.1.getD (1 : Int).toNat (S_Token.mk 0 0 [] 0 0)).f3 == (3 : Int) && ((y1.1.getD (1 : Int).toNat (S_Token.mk 0 0 [] 0 0)).f4 == (5 : Int) && true)))))) fun z3 =>
  some (bif (bif z1 then z2 else false) then z3 else false)

/-- printworks/printworksref3.blank -/
def ref3_blank (F : Nat) (a0 : Int) : Option Bool :=
  some (bif (bif (a0 == (32 : Int)) then true else (a0 == (9 : Int))) then true else (a0 == (10 : Int)))

def ref3_mark_L0 (F : Nat) (a0 : Int) (z1 : Int) : Nat → Int → Option (Out Unit Bool)
  | 0, _ => none
  | n + 1, v1 =>
    bif (decide (v1 < z1)) then
      chk (0 ≤ v1 ∧ v1 < ([(UInt8.ofNat (40 : Int).toNat), (UInt8.ofNat (41 : Int).toNat), (UInt8.ofNat (60 : Int).toNat), (UInt8.ofNat (62 : Int).toNat), (UInt8.ofNat (91 : Int).toNat), (UInt8.ofNat (93 : Int).toNat), (UInt8.ofNat (47 : Int).toNat), (UInt8.ofNat (64 : Int).toNat), (UInt8.ofNat (37 : Int).toNat)]).length) <|
      lett (((([(UInt8.ofNat (40 : Int).toNat), (UInt8.ofNat (41 : Int).toNat), (UInt8.ofNat (60 : Int).toNat), (UInt8.ofNat (62 : Int).toNat), (UInt8.ofNat (91 : Int).toNat), (UInt8.ofNat (93 : Int).toNat), (UInt8.ofNat (47 : Int).toNat), (UInt8.ofNat (64 : Int).toNat), (UInt8.ofNat (37 : Int).toNat)]).getD v1.toNat 0).toNat : Int)) fun z2 =>
      bif (a0 == z2) then
        some (.esc true)
      else
        ref3_mark_L0 F a0 z1 n (IntKind.i64.wrap (v1 + (1 : Int)))
    else
      some (.go ())

/-- printworks/printworksref3.mark -/
def ref3_mark (F : Nat) (a0 : Int) : Option Bool :=
  chk (0 < ([(UInt8.ofNat (40 : Int).toNat), (UInt8.ofNat (41 : Int).toNat), (UInt8.ofNat (60 : Int).toNat), (UInt8.ofNat (62 : Int).toNat), (UInt8.ofNat (91 : Int).toNat), (UInt8.ofNat (93 : Int).toNat), (UInt8.ofNat (47 : Int).toNat), (UInt8.ofNat (64 : Int).toNat), (UInt8.ofNat (37 : Int).toNat)]).length) <|
  lett ((([(UInt8.ofNat (40 : Int).toNat), (UInt8.ofNat (41 : Int).toNat), (UInt8.ofNat (60 : Int).toNat), (UInt8.ofNat (62 : Int).toNat), (UInt8.ofNat (91 : Int).toNat), (UInt8.ofNat (93 : Int).toNat), (UInt8.ofNat (47 : Int).toNat), (UInt8.ofNat (64 : Int).toNat), (UInt8.ofNat (37 : Int).toNat)]).length : Int)) fun z1 =>
  callE (ref3_mark_L0 F a0 z1 F (0 : Int))
    (fun e => some e) fun _ =>
  some false

/-- printworks/printworksref3.plain -/
def ref3_plain (F : Nat) (a0 : Int) : Option Bool :=
  call (ref3_blank F a0) fun y1 =>
  call ((bif (((!y1) == true) && true) then ref3_mark F a0 else some false)) fun y2 =>
  some (bif (!y1) then (!y2) else false)

/-- printworks/printworksref3.digit -/
def ref3_digit (F : Nat) (a0 : Int) : Option Bool :=
  some (bif (decide (a0 ≥ (48 : Int))) then (decide (a0 ≤ (57 : Int))) else false)

def ref3_whole_L0 (F : Nat) (a0 : List UInt8) : Nat → Int → Int → Option (Out Int Int)
  | 0, _, _ => none
  | n + 1, v1, v2 =>
    bif (decide (v2 < (a0.length : Int))) then
      chk (0 ≤ v2 ∧ v2 < a0.length) <|
      call (ref3_digit F ((a0.getD v2.toNat 0).toNat : Int)) fun y1 =>
      bif (!y1) then
        some (.esc (-1 : Int))
      else
        chk (0 ≤ v2 ∧ v2 < a0.length) <|
        lett (IntKind.i64.wrap ((IntKind.i64.wrap (v1 * (10 : Int))) + (IntKind.i64.wrap ((a0.getD v2.toNat 0).toNat : Int)))) fun z1 =>
        lett ((if (1099511627776 : Int) < (IntKind.i64.wrap (z1 - (48 : Int))) then (1099511627776 : Int) else (IntKind.i64.wrap (z1 - (48 : Int))))) fun z2 =>
        ref3_whole_L0 F a0 n z2 (IntKind.i64.wrap (v2 + (1 : Int)))
    else
      some (.go v1)

/-- printworks/printworksref3.whole -/
def ref3_whole (F : Nat) (a0 : List UInt8) : Option Int :=
  bif (a0 == []) then
    some (-1 : Int)
  else
    callE (ref3_whole_L0 F a0 F (0 : Int) (0 : Int))
      (fun e => some e) fun v3 =>
    some v3

/-- printworks/printworksref3.intToken -/
def ref3_intToken (F : Nat) (a0 : List UInt8) : Option (S_Token × Int) :=
  call (chk (0 ≤ (0 : Int) ∧ (0 : Int) < a0.length) <|
    bif (((a0.getD (0 : Int).toNat 0).toNat : Int) == (45 : Int)) then
      some (-1 : Int)
    else
      some (1 : Int))
    fun v1 =>
  call (chk (0 ≤ (0 : Int) ∧ (0 : Int) < a0.length) <|
    call (ref3_digit F ((a0.getD (0 : Int).toNat 0).toNat : Int)) fun y1 =>
    bif (!y1) then
      chk (0 ≤ (1 : Int) ∧ (1 : Int) ≤ (a0.length : Int) ∧ (a0.length : Int) ≤ (a0.length : Int)) <|
      some ((a0.drop (1 : Int).toNat).take ((a0.length : Int).toNat - (1 : Int).toNat))
    else
      some a0)
    fun v2 =>
  call (ref3_whole F v2) fun y2 =>
  bif (bif (decide (y2 < (0 : Int))) then true else (decide ((v2.length : Int) > (10 : Int)))) then
    some ((S_Token.mk 0 0 [] 0 0), (5 : Int))
  else
    bif (decide (y2 > (2147483647 : Int))) then
      some ((S_Token.mk 0 0 [] 0 0), (3 : Int))
    else
      some ((S_Token.mk (1 : Int) (IntKind.i64.wrap (v1 * y2)) [] 0 0), (0 : Int))

/-- printworks/printworksref3.letter -/
def ref3_letter (F : Nat) (a0 : Int) : Option Bool :=
  lett ((bif (bif (decide (a0 ≥ (65 : Int))) then (decide (a0 ≤ (90 : Int))) else false) then true else (bif (decide (a0 ≥ (97 : Int))) then (decide (a0 ≤ (122 : Int))) else false))) fun z1 =>
  some z1

def ref3_wordError_L0 (F : Nat) (a0 : List UInt8) : Nat → Int → Option (Out Unit Int)
  | 0, _ => none
  | n + 1, v1 =>
    bif (decide (v1 < (a0.length : Int))) then
      chk (0 ≤ v1 ∧ v1 < a0.length) <|
      call (ref3_letter F ((a0.getD v1.toNat 0).toNat : Int)) fun y1 =>
      chk ((((!y1) == true) && true) = true → 0 ≤ v1 ∧ v1 < a0.length) <|
      call ((bif (((!y1) == true) && true) then ref3_digit F ((a0.getD v1.toNat 0).toNat : Int) else some false)) fun y2 =>
      chk ((((bif (!y1) then (!y2) else false) == true) && true) = true → 0 ≤ v1 ∧ v1 < a0.length) <|
      lett ((bif (bif (!y1) then (!y2) else false) then (((a0.getD v1.toNat 0).toNat : Int) != (42 : Int)) else false)) fun z1 =>
      chk (((z1 == true) && true) = true → 0 ≤ v1 ∧ v1 < a0.length) <|
      chk ((((bif z1 then (((a0.getD v1.toNat 0).toNat : Int) != (95 : Int)) else false) == true) && true) = true → 0 ≤ v1 ∧ v1 < a0.length) <|
      lett ((bif (bif z1 then (((a0.getD v1.toNat 0).toNat : Int) != (95 : Int)) else false) then (((a0.getD v1.toNat 0).toNat : Int) != (46 : Int)) else false)) fun z2 =>
      bif z2 then
        some (.esc (5 : Int))
      else
        ref3_wordError_L0 F a0 n (IntKind.i64.wrap (v1 + (1 : Int)))
    else
      some (.go ())

/-- printworks/printworksref3.wordError -/
def ref3_wordError (F : Nat) (a0 : List UInt8) : Option Int :=
  callE (ref3_wordError_L0 F a0 F (0 : Int))
    (fun e => some e) fun _ =>
  bif (decide ((a0.length : Int) > (31 : Int))) then
    some (2 : Int)
  else
    some (0 : Int)

def ref3_hex_L0 (F : Nat) (a0 : Int) (z1 : Int) : Nat → Int → Option (Out Unit Int)
  | 0, _ => none
  | n + 1, v1 =>
    bif (decide (v1 < z1)) then
      chk (0 ≤ v1 ∧ v1 < ([(UInt8.ofNat (48 : Int).toNat), (UInt8.ofNat (49 : Int).toNat), (UInt8.ofNat (50 : Int).toNat), (UInt8.ofNat (51 : Int).toNat), (UInt8.ofNat (52 : Int).toNat), (UInt8.ofNat (53 : Int).toNat), (UInt8.ofNat (54 : Int).toNat), (UInt8.ofNat (55 : Int).toNat), (UInt8.ofNat (56 : Int).toNat), (UInt8.ofNat (57 : Int).toNat), (UInt8.ofNat (97 : Int).toNat), (UInt8.ofNat (98 : Int).toNat), (UInt8.ofNat (99 : Int).toNat), (UInt8.ofNat (100 : Int).toNat), (UInt8.ofNat (101 : Int).toNat), (UInt8.ofNat (102 : Int).toNat)]).length) <|
      lett (((([(UInt8.ofNat (48 : Int).toNat), (UInt8.ofNat (49 : Int).toNat), (UInt8.ofNat (50 : Int).toNat), (UInt8.ofNat (51 : Int).toNat), (UInt8.ofNat (52 : Int).toNat), (UInt8.ofNat (53 : Int).toNat), (UInt8.ofNat (54 : Int).toNat), (UInt8.ofNat (55 : Int).toNat), (UInt8.ofNat (56 : Int).toNat), (UInt8.ofNat (57 : Int).toNat), (UInt8.ofNat (97 : Int).toNat), (UInt8.ofNat (98 : Int).toNat), (UInt8.ofNat (99 : Int).toNat), (UInt8.ofNat (100 : Int).toNat), (UInt8.ofNat (101 : Int).toNat), (UInt8.ofNat (102 : Int).toNat)]).getD v1.toNat 0).toNat : Int)) fun z2 =>
      lett ((bif (a0 == z2) then true else (bif (decide (v1 > (9 : Int))) then (a0 == (IntKind.u8.wrap (z2 - (32 : Int)))) else false))) fun z3 =>
      bif z3 then
        some (.esc v1)
      else
        ref3_hex_L0 F a0 z1 n (IntKind.i64.wrap (v1 + (1 : Int)))
    else
      some (.go ())

/-- printworks/printworksref3.hex -/
def ref3_hex (F : Nat) (a0 : Int) : Option Int :=
  chk (0 < ([(UInt8.ofNat (48 : Int).toNat), (UInt8.ofNat (49 : Int).toNat), (UInt8.ofNat (50 : Int).toNat), (UInt8.ofNat (51 : Int).toNat), (UInt8.ofNat (52 : Int).toNat), (UInt8.ofNat (53 : Int).toNat), (UInt8.ofNat (54 : Int).toNat), (UInt8.ofNat (55 : Int).toNat), (UInt8.ofNat (56 : Int).toNat), (UInt8.ofNat (57 : Int).toNat), (UInt8.ofNat (97 : Int).toNat), (UInt8.ofNat (98 : Int).toNat), (UInt8.ofNat (99 : Int).toNat), (UInt8.ofNat (100 : Int).toNat), (UInt8.ofNat (101 : Int).toNat), (UInt8.ofNat (102 : Int).toNat)]).length) <|
  lett ((([(UInt8.ofNat (48 : Int).toNat), (UInt8.ofNat (49 : Int).toNat), (UInt8.ofNat (50 : Int).toNat), (UInt8.ofNat (51 : Int).toNat), (UInt8.ofNat (52 : Int).toNat), (UInt8.ofNat (53 : Int).toNat), (UInt8.ofNat (54 : Int).toNat), (UInt8.ofNat (55 : Int).toNat), (UInt8.ofNat (56 : Int).toNat), (UInt8.ofNat (57 : Int).toNat), (UInt8.ofNat (97 : Int).toNat), (UInt8.ofNat (98 : Int).toNat), (UInt8.ofNat (99 : Int).toNat), (UInt8.ofNat (100 : Int).toNat), (UInt8.ofNat (101 : Int).toNat), (UInt8.ofNat (102 : Int).toNat)]).length : Int)) fun z1 =>
  callE (ref3_hex_L0 F a0 z1 F (0 : Int))
    (fun e => some e) fun _ =>
  some (-1 : Int)

def ref3_nameToken_L0 (F : Nat)  : Nat → (List UInt8) → (List UInt8) → Option (Out ((List UInt8)) (S_Token × Int))
  | 0, _, _ => none
  | n + 1, v1, v2 =>
    bif (!(v1 == [])) then
      chk (0 ≤ (0 : Int) ∧ (0 : Int) < v1.length) <|
      callE (bif (((v1.getD (0 : Int).toNat 0).toNat : Int) == (35 : Int)) then
          chk ((((decide ((v1.length : Int) < (3 : Int))) == false) && true) = true → 0 ≤ (1 : Int) ∧ (1 : Int) < v1.length) <|
          call ((bif (((decide ((v1.length : Int) < (3 : Int))) == false) && true) then ref3_hex F ((v1.getD (1 : Int).toNat 0).toNat : Int) else some 0)) fun y1 =>
          chk ((((bif (decide ((v1.length : Int) < (3 : Int))) then true else (decide (y1 < (0 : Int)))) == false) && true) = true → 0 ≤ (2 : Int) ∧ (2 : Int) < v1.length) <|
          call ((bif (((bif (decide ((v1.length : Int) < (3 : Int))) then true else (decide (y1 < (0 : Int)))) == false) && true) then ref3_hex F ((v1.getD (2 : Int).toNat 0).toNat : Int) else some 0)) fun y2 =>
          lett ((bif (bif (decide ((v1.length : Int) < (3 : Int))) then true else (decide (y1 < (0 : Int)))) then true else (decide (y2 < (0 : Int))))) fun z1 =>
          bif z1 then
            some (.esc ((S_Token.mk 0 0 [] 0 0), (5 : Int)))
          else
            chk (0 ≤ (1 : Int) ∧ (1 : Int) < v1.length) <|
            call (ref3_hex F ((v1.getD (1 : Int).toNat 0).toNat : Int)) fun y3 =>
            chk (0 ≤ (2 : Int) ∧ (2 : Int) < v1.length) <|
            call (ref3_hex F ((v1.getD (2 : Int).toNat 0).toNat : Int)) fun y4 =>
            bif ((IntKind.u8.wrap (IntKind.i64.wrap ((IntKind.i64.wrap (y3 * (16 : Int))) + y4))) == (0 : Int)) then
              some (.esc ((S_Token.mk 0 0 [] 0 0), (5 : Int)))
            else
              some (.go ((3 : Int), IntKind.u8.wrap (IntKind.i64.wrap ((IntKind.i64.wrap (y3 * (16 : Int))) + y4))))
        else
          lett ((bif (decide (((v1.getD (0 : Int).toNat 0).toNat : Int) < (33 : Int))) then true else (decide (((v1.getD (0 : Int).toNat 0).toNat : Int) > (126 : Int))))) fun z2 =>
          bif z2 then
            some (.esc ((S_Token.mk 0 0 [] 0 0), (5 : Int)))
          else
            some (.go ((1 : Int), ((v1.getD (0 : Int).toNat 0).toNat : Int))))
        (fun e => some (.esc e)) fun (v3, v4) =>
      chk (0 ≤ v4 ∧ v4 < 256) <|
      chk (v2.length + ([(UInt8.ofNat v4.toNat)]).length ≤ 9223372036854775807) <|
      chk (0 ≤ v3 ∧ v3 ≤ (v1.length : Int) ∧ (v1.length : Int) ≤ (v1.length : Int)) <|
      ref3_nameToken_L0 F n ((v1.drop v3.toNat).take ((v1.length : Int).toNat - v3.toNat)) (v2 ++ ([(UInt8.ofNat v4.toNat)]))
    else
      some (.go v2)

/-- printworks/printworksref3.nameToken -/
def ref3_nameToken (F : Nat) (a0 : List UInt8) : Option (S_Token × Int) :=
  callE (ref3_nameToken_L0 F F a0 [])
    (fun e => some e) fun v5 =>
  bif (v5 == []) then
    some ((S_Token.mk 0 0 [] 0 0), (5 : Int))
  else
    bif (decide ((v5.length : Int) > (31 : Int))) then
      some ((S_Token.mk 0 0 [] 0 0), (2 : Int))
    else
      some ((S_Token.mk (2 : Int) 0 v5 0 0), (0 : Int))

/-- printworks/printworksref3.refToken -/
def ref3_refToken (F : Nat) (a0 : List UInt8) : Option (S_Token × Int) :=
  call (ref3_whole F a0) fun y1 =>
  chk ((((decide ((a0.length : Int) > (1 : Int))) == true) && (((bif (decide (y1 < (0 : Int))) then true else (decide ((a0.length : Int) > (3 : Int)))) == false) && true)) = true → 0 ≤ (0 : Int) ∧ (0 : Int) < a0.length) <|
  lett ((bif (decide ((a0.length : Int) > (1 : Int))) then (((a0.getD (0 : Int).toNat 0).toNat : Int) == (48 : Int)) else false)) fun z1 =>
  lett ((bif (bif (decide (y1 < (0 : Int))) then true else (decide ((a0.length : Int) > (3 : Int)))) then true else z1)) fun z2 =>
  bif z2 then
    some ((S_Token.mk 0 0 [] 0 0), (5 : Int))
  else
    bif (bif (y1 == (0 : Int)) then true else (decide (y1 > (255 : Int)))) then
      some ((S_Token.mk 0 0 [] 0 0), (3 : Int))
    else
      some ((S_Token.mk (4 : Int) y1 [] 0 0), (0 : Int))

/-- printworks/printworksref3.map1 -/
def ref3_map1 (F : Nat) (a0 : Int) : Option Int :=
  bif (a0 == (110 : Int)) then
    some (10 : Int)
  else
    bif (a0 == (116 : Int)) then
      some (9 : Int)
    else
      call (bif (a0 == (92 : Int)) then
          some (a0 == (92 : Int))
        else
          bif (a0 == (40 : Int)) then
            some (a0 == (40 : Int))
          else
            some (a0 == (41 : Int)))
        fun v1 =>
      bif v1 then
        some (IntKind.i64.wrap a0)
      else
        bif (a0 == (10 : Int)) then
          some (-1 : Int)
        else
          some (-2 : Int)

def ref3_textToken_L0 (F : Nat) (a0 : List UInt8) : Nat → (List UInt8) → Int → Int → Int → Int → Option (Out Int (S_Token × Int × Int))
  | 0, _, _, _, _, _ => none
  | n + 1, v1, v2, v3, v4, v5 =>
    bif (decide (v5 < (a0.length : Int))) then
      callE (chk (0 ≤ v5 ∧ v5 < a0.length) <|
        bif (bif (v3 == (1 : Int)) then (((a0.getD v5.toNat 0).toNat : Int) == (120 : Int)) else false) then
          some (.go (v1, (2 : Int), v4, v2))
        else
          bif (v3 == (1 : Int)) then
            call (ref3_map1 F ((a0.getD v5.toNat 0).toNat : Int)) fun y1 =>
            bif (y1 == (-2 : Int)) then
              some (.esc ((S_Token.mk 0 0 [] 0 0), (0 : Int), (5 : Int)))
            else
              bif (decide (y1 ≥ (0 : Int))) then
                chk (0 ≤ (IntKind.u8.wrap y1) ∧ (IntKind.u8.wrap y1) < 256) <|
                chk (v1.length + ([(UInt8.ofNat (IntKind.u8.wrap y1).toNat)]).length ≤ 4294967296) <|
                some (.go ((v1 ++ ([(UInt8.ofNat (IntKind.u8.wrap y1).toNat)])), (0 : Int), v4, v2))
              else
                some (.go (v1, (0 : Int), v4, v2))
          else
            bif (decide (v3 > (1 : Int))) then
              call (ref3_hex F ((a0.getD v5.toNat 0).toNat : Int)) fun y2 =>
              bif (decide (y2 < (0 : Int))) then
                some (.esc ((S_Token.mk 0 0 [] 0 0), (0 : Int), (5 : Int)))
              else
                call (bif (v3 == (3 : Int)) then
                    chk (0 ≤ (IntKind.u8.wrap (IntKind.i64.wrap ((IntKind.i64.wrap (v4 * (16 : Int))) + y2))) ∧ (IntKind.u8.wrap (IntKind.i64.wrap ((IntKind.i64.wrap (v4 * (16 : Int))) + y2))) < 256) <|
                    chk (v1.length + ([(UInt8.ofNat (IntKind.u8.wrap (IntKind.i64.wrap ((IntKind.i64.wrap (v4 * (16 : Int))) + y2))).toNat)]).length ≤ 4294967296) <|
                    lett ((v1 ++ ([(UInt8.ofNat (IntKind.u8.wrap (IntKind.i64.wrap ((IntKind.i64.wrap (v4 * (16 : Int))) + y2))).toNat)]))) fun l1 =>
                    some l1
                  else
                    some v1)
                  fun v6 =>
                some (.go (v6, ((IntKind.i64.wrap (v3 + (1 : Int))).tmod (4 : Int)), y2, v2))
            else
              bif (((a0.getD v5.toNat 0).toNat : Int) == (92 : Int)) then
                some (.go (v1, (1 : Int), v4, v2))
              else
                bif (bif (((a0.getD v5.toNat 0).toNat : Int) == (41 : Int)) then (v2 == (1 : Int)) else false) then
                  bif (decide ((v1.length : Int) > (1024 : Int))) then
                    some (.esc ((S_Token.mk 0 0 [] 0 0), (0 : Int), (2 : Int)))
                  else
                    some (.esc ((S_Token.mk (3 : Int) 0 v1 0 0), IntKind.i64.wrap (v5 + (1 : Int)), (0 : Int)))
                else
                  call (bif (((a0.getD v5.toNat 0).toNat : Int) == (40 : Int)) then
                      some (IntKind.i64.wrap (v2 + (1 : Int)))
                    else
                      some v2)
                    fun v7 =>
                  call (bif (((a0.getD v5.toNat 0).toNat : Int) == (41 : Int)) then
                      some (IntKind.i64.wrap (v7 - (1 : Int)))
                    else
                      some v7)
                    fun v8 =>
                  bif (decide (v8 > (16 : Int))) then
                    some (.esc ((S_Token.mk 0 0 [] 0 0), (0 : Int), (15 : Int)))
                  else
                    chk (0 ≤ ((a0.getD v5.toNat 0).toNat : Int) ∧ ((a0.getD v5.toNat 0).toNat : Int) < 256) <|
                    chk (v1.length + ([(UInt8.ofNat ((a0.getD v5.toNat 0).toNat : Int).toNat)]).length ≤ 4294967296) <|
                    some (.go ((v1 ++ ([(UInt8.ofNat ((a0.getD v5.toNat 0).toNat : Int).toNat)])), v3, v4, v8)))
        (fun e => some (.esc e)) fun (v9, v10, v11, v12) =>
      ref3_textToken_L0 F a0 n v9 v12 v10 v11 (IntKind.i64.wrap (v5 + (1 : Int)))
    else
      some (.go v3)

/-- printworks/printworksref3.textToken -/
def ref3_textToken (F : Nat) (a0 : List UInt8) : Option (S_Token × Int × Int) :=
  callE (ref3_textToken_L0 F a0 F [] (1 : Int) (0 : Int) (0 : Int) (0 : Int))
    (fun e => some e) fun v13 =>
  bif (decide (v13 > (1 : Int))) then
    some ((S_Token.mk 0 0 [] 0 0), (0 : Int), (5 : Int))
  else
    some ((S_Token.mk 0 0 [] 0 0), (0 : Int), (12 : Int))

def ref3_hexToken_L3 (F : Nat) (v1 : List Int) : Nat → (List UInt8) → Int → Option ((List UInt8))
  | 0, _, _ => none
  | n + 1, v2, v3 =>
    bif (decide (v3 < (v1.length : Int))) then
      chk (0 ≤ v3 ∧ v3 < v1.length) <|
      chk (0 ≤ (IntKind.i64.wrap (v3 + (1 : Int))) ∧ (IntKind.i64.wrap (v3 + (1 : Int))) < v1.length) <|
      lett (IntKind.i64.wrap ((IntKind.i64.wrap ((v1.getD v3.toNat 0) * (16 : Int))) + (v1.getD (IntKind.i64.wrap (v3 + (1 : Int))).toNat 0))) fun z1 =>
      chk (0 ≤ (IntKind.u8.wrap z1) ∧ (IntKind.u8.wrap z1) < 256) <|
      chk (v2.length + ([(UInt8.ofNat (IntKind.u8.wrap z1).toNat)]).length ≤ 4294967296) <|
      ref3_hexToken_L3 F v1 n (v2 ++ ([(UInt8.ofNat (IntKind.u8.wrap z1).toNat)])) (IntKind.i64.wrap (v3 + (2 : Int)))
    else
      some v2

def ref3_hexToken_L0 (F : Nat) (a0 : List UInt8) : Nat → (List Int) → Int → Option (Out Unit (S_Token × Int × Int))
  | 0, _, _ => none
  | n + 1, v1, v4 =>
    bif (decide (v4 < (a0.length : Int))) then
      callE (chk (0 ≤ v4 ∧ v4 < a0.length) <|
        call (ref3_blank F ((a0.getD v4.toNat 0).toNat : Int)) fun y1 =>
        bif y1 then
          some (.go v1)
        else
          chk (0 ≤ v4 ∧ v4 < a0.length) <|
          lett ((bif (((a0.getD v4.toNat 0).toNat : Int) == (62 : Int)) then (((v1.length : Int).tmod (2 : Int)) == (0 : Int)) else false)) fun z2 =>
          bif z2 then
            call (ref3_hexToken_L3 F v1 F [] (0 : Int))
              fun v5 =>
            bif (decide ((v5.length : Int) > (1024 : Int))) then
              some (.esc ((S_Token.mk 0 0 [] 0 0), (0 : Int), (2 : Int)))
            else
              some (.esc ((S_Token.mk (3 : Int) 0 v5 0 0), IntKind.i64.wrap (v4 + (1 : Int)), (0 : Int)))
          else
            chk (0 ≤ v4 ∧ v4 < a0.length) <|
            call (ref3_hex F ((a0.getD v4.toNat 0).toNat : Int)) fun y2 =>
            bif (decide (y2 < (0 : Int))) then
              some (.esc ((S_Token.mk 0 0 [] 0 0), (0 : Int), (5 : Int)))
            else
              chk (0 ≤ v4 ∧ v4 < a0.length) <|
              call (ref3_hex F ((a0.getD v4.toNat 0).toNat : Int)) fun y3 =>
              chk (v1.length + ([y3]).length ≤ 4294967296) <|
              some (.go (v1 ++ ([y3]))))
        (fun e => some (.esc e)) fun v6 =>
      ref3_hexToken_L0 F a0 n v6 (IntKind.i64.wrap (v4 + (1 : Int)))
    else
      some (.go ())

/-- printworks/printworksref3.hexToken -/
def ref3_hexToken (F : Nat) (a0 : List UInt8) : Option (S_Token × Int × Int) :=
  callE (ref3_hexToken_L0 F a0 F [] (0 : Int))
    (fun e => some e) fun _ =>
  some ((S_Token.mk 0 0 [] 0 0), (0 : Int), (12 : Int))

def ref3_Lex_L2 (F : Nat) (a0 : List UInt8) : Nat → Int → Option Int
  | 0, _ => none
  | n + 1, v1 =>
    chk ((((decide (v1 < (a0.length : Int))) == true) && true) = true → 0 ≤ v1 ∧ v1 < a0.length) <|
    lett ((bif (decide (v1 < (a0.length : Int))) then (((a0.getD v1.toNat 0).toNat : Int) != (10 : Int)) else false)) fun z1 =>
    bif z1 then
      ref3_Lex_L2 F a0 n (IntKind.i64.wrap (v1 + (1 : Int)))
    else
      some v1

def ref3_Lex_L0 (F : Nat) (a0 : List UInt8) : Nat → Int → Option Int
  | 0, _ => none
  | n + 1, v2 =>
    chk ((((decide (v2 < (a0.length : Int))) == true) && true) = true → 0 ≤ v2 ∧ v2 < a0.length) <|
    call ((bif (((decide (v2 < (a0.length : Int))) == true) && true) then ref3_blank F ((a0.getD v2.toNat 0).toNat : Int) else some false)) fun y1 =>
    chk (((y1 == false) && (((decide (v2 < (a0.length : Int))) == true) && true)) = true → 0 ≤ v2 ∧ v2 < a0.length) <|
    lett ((bif (decide (v2 < (a0.length : Int))) then (bif y1 then true else (((a0.getD v2.toNat 0).toNat : Int) == (37 : Int))) else false)) fun z2 =>
    bif z2 then
      chk (0 ≤ v2 ∧ v2 < a0.length) <|
      bif (((a0.getD v2.toNat 0).toNat : Int) == (37 : Int)) then
        call (ref3_Lex_L2 F a0 F v2)
          fun v3 =>
        ref3_Lex_L0 F a0 n v3
      else
        ref3_Lex_L0 F a0 n (IntKind.i64.wrap (v2 + (1 : Int)))
    else
      some v2

def ref3_Lex_L4 (F : Nat) (a0 : List UInt8) : Nat → Int → Option Int
  | 0, _ => none
  | n + 1, v4 =>
    chk ((((decide (v4 < (a0.length : Int))) == true) && true) = true → 0 ≤ v4 ∧ v4 < a0.length) <|
    call ((bif (((decide (v4 < (a0.length : Int))) == true) && true) then ref3_plain F ((a0.getD v4.toNat 0).toNat : Int) else some false)) fun y2 =>
    bif (bif (decide (v4 < (a0.length : Int))) then y2 else false) then
      ref3_Lex_L4 F a0 n (IntKind.i64.wrap (v4 + (1 : Int)))
    else
      some v4

/-- printworks/printworksref3.Lex -/
def ref3_Lex (F : Nat) (a0 : List UInt8) (a1 : Int) : Option (S_Token × Int × Int) :=
  call (ref3_Lex_L0 F a0 F a1)
    fun v5 =>
  bif (v5 == (a0.length : Int)) then
    some ((S_Token.mk 0 0 [] v5 v5), v5, (0 : Int))
  else
    chk (0 ≤ v5 ∧ v5 < a0.length) <|
    call (ref3_Lex_L4 F a0 F (IntKind.i64.wrap (v5 + (1 : Int))))
      fun v6 =>
    chk ((((decide ((IntKind.i64.wrap (v5 + (1 : Int))) < (a0.length : Int))) == true) && true) = true → 0 ≤ (IntKind.i64.wrap (v5 + (1 : Int))) ∧ (IntKind.i64.wrap (v5 + (1 : Int))) < a0.length) <|
    lett ((((a0.getD (IntKind.i64.wrap (v5 + (1 : Int))).toNat 0).toNat : Int) == ((a0.getD v5.toNat 0).toNat : Int))) fun z3 =>
    call (lett ((bif (((a0.getD v5.toNat 0).toNat : Int) == (43 : Int)) then true else (((a0.getD v5.toNat 0).toNat : Int) == (45 : Int)))) fun z4 =>
      call ((bif ((z4 == false) && true) then ref3_digit F ((a0.getD v5.toNat 0).toNat : Int) else some false)) fun y3 =>
      bif (bif z4 then true else y3) then
        chk (0 ≤ v5 ∧ v5 ≤ v6 ∧ v6 ≤ (a0.length : Int)) <|
        call (ref3_intToken F ((a0.drop v5.toNat).take (v6.toNat - v5.toNat))) fun y4 =>
        some (y4.1.f0, y4.1.f1, y4.1.f2, y4.1.f3, y4.1.f4, y4.2, IntKind.i64.wrap (v6 - v5))
      else
        call (ref3_plain F ((a0.getD v5.toNat 0).toNat : Int)) fun y5 =>
        bif y5 then
          chk (0 ≤ v5 ∧ v5 ≤ v6 ∧ v6 ≤ (a0.length : Int)) <|
          chk (0 ≤ v5 ∧ v5 ≤ v6 ∧ v6 ≤ (a0.length : Int)) <|
          call (ref3_wordError F ((a0.drop v5.toNat).take (v6.toNat - v5.toNat))) fun y6 =>
          some ((5 : Int), 0, ((a0.drop v5.toNat).take (v6.toNat - v5.toNat)), 0, 0, y6, IntKind.i64.wrap (v6 - v5))
        else
          bif (((a0.getD v5.toNat 0).toNat : Int) == (47 : Int)) then
            chk (0 ≤ (IntKind.i64.wrap (v5 + (1 : Int))) ∧ (IntKind.i64.wrap (v5 + (1 : Int))) ≤ v6 ∧ v6 ≤ (a0.length : Int)) <|
            lett (((a0.drop (IntKind.i64.wrap (v5 + (1 : Int))).toNat).take (v6.toNat - (IntKind.i64.wrap (v5 + (1 : Int))).toNat))) fun z5 =>
            call (ref3_nameToken F z5) fun y7 =>
            some (y7.1.f0, y7.1.f1, y7.1.f2, y7.1.f3, y7.1.f4, y7.2, IntKind.i64.wrap (v6 - v5))
          else
            bif (((a0.getD v5.toNat 0).toNat : Int) == (64 : Int)) then
              chk (0 ≤ (IntKind.i64.wrap (v5 + (1 : Int))) ∧ (IntKind.i64.wrap (v5 + (1 : Int))) ≤ v6 ∧ v6 ≤ (a0.length : Int)) <|
              lett (((a0.drop (IntKind.i64.wrap (v5 + (1 : Int))).toNat).take (v6.toNat - (IntKind.i64.wrap (v5 + (1 : Int))).toNat))) fun z6 =>
              call (ref3_refToken F z6) fun y8 =>
              some (y8.1.f0, y8.1.f1, y8.1.f2, y8.1.f3, y8.1.f4, y8.2, IntKind.i64.wrap (v6 - v5))
            else
              bif (((a0.getD v5.toNat 0).toNat : Int) == (91 : Int)) then
                some ((6 : Int), 0, [], 0, 0, (0 : Int), (1 : Int))
              else
                bif (((a0.getD v5.toNat 0).toNat : Int) == (93 : Int)) then
                  some ((7 : Int), 0, [], 0, 0, (0 : Int), (1 : Int))
                else
                  lett ((bif (((a0.getD v5.toNat 0).toNat : Int) == (60 : Int)) then (bif (decide ((IntKind.i64.wrap (v5 + (1 : Int))) < (a0.length : Int))) then z3 else false) else false)) fun z7 =>
                  bif z7 then
                    some ((8 : Int), 0, [], 0, 0, (0 : Int), (2 : Int))
                  else
                    lett ((bif (((a0.getD v5.toNat 0).toNat : Int) == (62 : Int)) then (bif (decide ((IntKind.i64.wrap (v5 + (1 : Int))) < (a0.length : Int))) then z3 else false) else false)) fun z8 =>
                    bif z8 then
                      some ((9 : Int), 0, [], 0, 0, (0 : Int), (2 : Int))
                    else
                      bif (((a0.getD v5.toNat 0).toNat : Int) == (40 : Int)) then
                        chk (0 ≤ (IntKind.i64.wrap (v5 + (1 : Int))) ∧ (IntKind.i64.wrap (v5 + (1 : Int))) ≤ (a0.length : Int) ∧ (a0.length : Int) ≤ (a0.length : Int)) <|
                        lett (((a0.drop (IntKind.i64.wrap (v5 + (1 : Int))).toNat).take ((a0.length : Int).toNat - (IntKind.i64.wrap (v5 + (1 : Int))).toNat))) fun z9 =>
                        call (ref3_textToken F z9) fun y9 =>
                        some (y9.1.f0, y9.1.f1, y9.1.f2, y9.1.f3, y9.1.f4, y9.2.2, IntKind.i64.wrap (y9.2.1 + (1 : Int)))
                      else
                        bif (((a0.getD v5.toNat 0).toNat : Int) == (60 : Int)) then
                          chk (0 ≤ (IntKind.i64.wrap (v5 + (1 : Int))) ∧ (IntKind.i64.wrap (v5 + (1 : Int))) ≤ (a0.length : Int) ∧ (a0.length : Int) ≤ (a0.length : Int)) <|
                          lett (((a0.drop (IntKind.i64.wrap (v5 + (1 : Int))).toNat).take ((a0.length : Int).toNat - (IntKind.i64.wrap (v5 + (1 : Int))).toNat))) fun z10 =>
                          call (ref3_hexToken F z10) fun y10 =>
                          some (y10.1.f0, y10.1.f1, y10.1.f2, y10.1.f3, y10.1.f4, y10.2.2, IntKind.i64.wrap (y10.2.1 + (1 : Int)))
                        else
                          some (0, 0, [], 0, 0, (5 : Int), IntKind.i64.wrap (v6 - v5)))
      fun (v7, v8, v9, v10, v11, v12, v13) =>
    bif (v12 != (0 : Int)) then
      some ((S_Token.mk 0 0 [] 0 0), v5, v12)
    else
      some ((S_Token.mk v7 v8 v9 v5 (IntKind.i64.wrap (v5 + v13))), v5, (0 : Int))

/-- printworks/printworkslaw3.TokenNextAtAnyOffset -/
def law3_TokenNextAtAnyOffset (F : Nat) (a0 : List UInt8) (a1 : Int) : Option Bool :=
  call (law3_tokenFact F) fun y1 =>
  bif (!y1) then
    some false
  else
    call (token_Next F a0 a1) fun y2 =>
    bif (decide ((a0.length : Int) > (8192 : Int))) then
      some (bif (y2.2.2 == (2 : Int)) then (y2.2.1 == (0 : Int)) else false)
    else
      bif (bif (decide (a1 < (0 : Int))) then true else (decide (a1 > (a0.length : Int)))) then
        some (bif (y2.2.2 == (3 : Int)) then (y2.2.1 == (0 : Int)) else false)
      else
        call (ref3_Lex F a0 a1) fun y3 =>
        bif (y3.2.2 != (0 : Int)) then
          lett ((bif (bif (y2.2.2 == y3.2.2) then (y2.2.1 == y3.2.1) else false) then (y2.1.f0 == 0 && (y2.1.f1 == 0 && (y2.1.f2 == [] && (y2.1.f3 == 0 && (y2.1.f4 == 0 && true))))) else false)) fun z1 =>
          some z1
        else
          lett ((y2.1.f0 == y3.1.f0 && (y2.1.f1 == y3.1.f1 && (y2.1.f2 == y3.1.f2 && (y2.1.f3 == y3.1.f3 && (y2.1.f4 == y3.1.f4 && true)))))) fun z2 =>
          some (bif (bif (y2.2.2 == (0 : Int)) then (y2.2.1 == (0 : Int)) else false) then z2 else false)

def ref3_Lexed_L0 (F : Nat) (a0 : List UInt8) : Nat → (List S_Token) → Int → Option (Out Empty ((List S_Token) × Int × Int))
  | 0, _, _ => none
  | n + 1, v1, v2 =>
    call (ref3_Lex F a0 v2) fun y1 =>
    bif (y1.2.2 != (0 : Int)) then
      some (.esc ([], y1.2.1, y1.2.2))
    else
      bif (y1.1.f0 == (0 : Int)) then
        some (.esc (v1, (0 : Int), (0 : Int)))
      else
        chk (v1.length + ([y1.1]).length ≤ 4294967296) <|
        ref3_Lexed_L0 F a0 n (v1 ++ ([y1.1])) y1.1.f4

/-- printworks/printworksref3.Lexed -/
def ref3_Lexed (F : Nat) (a0 : List UInt8) : Option ((List S_Token) × Int × Int) :=
  bif (decide ((a0.length : Int) > (8192 : Int))) then
    some ([], (0 : Int), (2 : Int))
  else
    callE (ref3_Lexed_L0 F a0 F [] (0 : Int))
      (fun e => some e) fun (s : Empty) =>
    s.elim

def slices_Equal_Token_L0 (F : Nat) (a0 : List S_Token) (a1 : List S_Token) : Nat → Int → Option (Out Unit Bool)
  | 0, _ => none
  | n + 1, v1 =>
    bif (decide (v1 < (a0.length : Int))) then
      chk (0 ≤ v1 ∧ v1 < a0.length) <|
      chk (0 ≤ v1 ∧ v1 < a1.length) <|
      lett ((!((a0.getD v1.toNat (S_Token.mk 0 0 [] 0 0)).f0 == (a1.getD v1.toNat (S_Token.mk 0 0 [] 0 0)).f0 && ((a0.getD v1.toNat (S_Token.mk 0 0 [] 0 0)).f1 == (a1.getD v1.toNat (S_Token.mk 0 0 [] 0 0)).f1 && ((a0.getD v1.toNat (S_Token.mk 0 0 [] 0 0)).f2 == (a1.getD v1.toNat (S_Token.mk 0 0 [] 0 0)).f2 && ((a0.getD v1.toNat (S_Token.mk 0 0 [] 0 0)).f3 == (a1.getD v1.toNat (S_Token.mk 0 0 [] 0 0)).f3 && ((a0.getD v1.toNat (S_Token.mk 0 0 [] 0 0)).f4 == (a1.getD v1.toNat (S_Token.mk 0 0 [] 0 0)).f4 && true))))))) fun z1 =>
      bif z1 then
        some (.esc false)
      else
        slices_Equal_Token_L0 F a0 a1 n (IntKind.i64.wrap (v1 + (1 : Int)))
    else
      some (.go ())

/-- slices.Equal[[]printworks/api.Token,printworks/api.Token] -/
def slices_Equal_Token (F : Nat) (a0 : List S_Token) (a1 : List S_Token) : Option Bool :=
  bif ((a0.length : Int) != (a1.length : Int)) then
    some false
  else
    callE (slices_Equal_Token_L0 F a0 a1 F (0 : Int))
      (fun e => some e) fun _ =>
    some true

/-- printworks/printworkslaw3.TokenMatchesReference -/
def law3_TokenMatchesReference (F : Nat) (a0 : List UInt8) : Option Bool :=
  call (law3_tokenFact F) fun y1 =>
  bif (!y1) then
    some false
  else
    call (token_Scan F a0) fun y2 =>
    call (ref3_Lexed F a0) fun y3 =>
    call ((bif (((bif (y2.2.1 == y3.2.1) then (y2.2.2 == y3.2.2) else false) == true) && true) then slices_Equal_Token F y2.1 y3.1 else some false)) fun y4 =>
    some (bif (bif (y2.2.1 == y3.2.1) then (y2.2.2 == y3.2.2) else false) then y4 else false)

end Go.Vm.LexG
